/- A function's run is its contract. -/
import Derived.Test.YtmoodcnoncipiaaAiSound
set_option autoImplicit false
set_option linter.unusedVariables false
set_option linter.unusedSimpArgs false
namespace Go.AI

variable {C : Cfg} {X : Ctx} {a : Act} {w w' : World} {B : Nat → Prop} {γ : Nat → Value}

/-! ### The arguments -/

/-- Is an argument handed over to be changed? -/
def isMut : AV → Bool
  | .s (.mbx _ _) => true
  | .s (.msl _ _ _) => true
  | _ => false

def pmOf : Nat → List AV → List Value → List (Nat × Value)
  | i, x :: as, u :: us => if isMut x then (i, u) :: pmOf (i + 1) as us else pmOf (i + 1) as us
  | _, _, _ => []

def MutRep (w : World) (B : Nat → Prop) : AV → Value → Prop
  | .s (.mbx k x), u => BoxAt w B k x u
  | .s (.msl e k l), u => OwnRow w B 0 e k l u
  | a, u => AVRep w B a u

theorem ArgRep.cons {x : AV} {as : List AV} {vs mv : List Value} (h : ArgRep w B (x :: as) vs mv) :
    ∃ u us m, vs = u :: us ∧ mv = (if isMut x then [u] else []) ++ m ∧ MutRep w B x u ∧ ArgRep w B as us m := by
  cases x
  · rename_i x
    cases x
    case mbx => obtain ⟨u, us, m, h1, h2, h3, h4⟩ := h; exact ⟨u, us, m, h1, h2, h3, h4⟩
    case msl => obtain ⟨u, us, m, h1, h2, h3, h4⟩ := h; exact ⟨u, us, m, h1, h2, h3, h4⟩
    all_goals obtain ⟨u, us, h1, h3, h4⟩ := h; exact ⟨u, us, _, h1, rfl, h3, h4⟩
  · obtain ⟨u, us, h1, h3, h4⟩ := h; exact ⟨u, us, _, h1, rfl, h3, h4⟩
  · obtain ⟨u, us, h1, h3, h4⟩ := h; exact ⟨u, us, _, h1, rfl, h3, h4⟩

theorem ArgRep.length : ∀ {as : List AV} {vs mv : List Value}, ArgRep w B as vs mv → vs.length = as.length
  | [], _, _, h => by rw [h.1]; rfl
  | x :: as, _, _, h => by
    obtain ⟨u, us, m, rfl, _, _, h4⟩ := h.cons
    simp [h4.length]

theorem ArgRep.pm : ∀ {as : List AV} {vs mv : List Value} (i : Nat), ArgRep w B as vs mv → (pmOf i as vs).map (·.2) = mv
  | [], _, _, _, h => by rw [h.1, h.2]; rfl
  | x :: as, _, _, i, h => by
    obtain ⟨u, us, m, rfl, rfl, _, h4⟩ := h.cons
    simp only [pmOf]
    split <;> simp_all [h4.pm (i + 1)]

theorem ArgRep.get : ∀ {as : List AV} {vs mv : List Value}, ArgRep w B as vs mv → ∀ {j : Nat} {x : AV}, as[j]? = some x → MutRep w B x (vs.getD j undef)
  | [], _, _, _, j, x, hj => by simp at hj
  | y :: as, _, _, h, 0, x, hj => by
    obtain ⟨u, us, m, rfl, rfl, h3, h4⟩ := h.cons
    simp at hj; subst hj; exact h3
  | y :: as, _, _, h, j + 1, x, hj => by
    obtain ⟨u, us, m, rfl, rfl, h3, h4⟩ := h.cons
    simp at hj
    simpa using h4.get hj

theorem mem_pmOf : ∀ {as : List AV} {vs : List Value} {i t : Nat} {v : Value}, as.length = vs.length → ((t, v) ∈ pmOf i as vs ↔ ∃ j x, t = i + j ∧ as[j]? = some x ∧ isMut x = true ∧ vs.getD j undef = v)
  | [], vs, i, t, v, hl => by simp [pmOf]
  | x :: as, [], i, t, v, hl => by simp at hl
  | x :: as, u :: us, i, t, v, hl => by
    have ih := mem_pmOf (as := as) (vs := us) (i := i + 1) (t := t) (v := v) (by simpa using hl)
    simp only [pmOf]
    constructor
    · intro h
      have : (isMut x = true ∧ t = i ∧ v = u) ∨ (t, v) ∈ pmOf (i + 1) as us := by
        split at h
        · rename_i hx
          rcases List.mem_cons.1 h with e | e
          · cases e; exact .inl ⟨hx, rfl, rfl⟩
          · exact .inr e
        · exact .inr h
      rcases this with ⟨hx, rfl, rfl⟩ | h
      · exact ⟨0, x, rfl, rfl, hx, rfl⟩
      · obtain ⟨j, y, h1, h2, h3, h4⟩ := ih.1 h
        exact ⟨j + 1, y, by omega, h2, h3, by simpa using h4⟩
    · rintro ⟨j, y, h1, h2, h3, h4⟩
      cases j with
      | zero =>
        simp at h2 h4 h1
        subst h2; subst h4; subst h1
        simp [h3]
      | succ j =>
        have := ih.2 ⟨j, y, by omega, by simpa using h2, h3, by simpa using h4⟩
        split
        · exact List.mem_cons_of_mem _ this
        · exact this

theorem pm_distinct : ∀ {as : List AV} {vs : List Value} {i : Nat}, as.length = vs.length → ((pmOf i as vs).map (fun iv => blk iv.2)).Pairwise (fun a b => a = none ∨ a ≠ b) →
    ∀ {j k : Nat} {x y : AV} {b : Nat}, j < k → as[j]? = some x → as[k]? = some y → isMut x = true → isMut y = true → blk (vs.getD j undef) = some b → blk (vs.getD k undef) ≠ some b
  | [], _, _, _, _, j, k, x, y, b, _, h, _, _, _, _ => by simp at h
  | _ :: _, [], _, hl, _, _, _, _, _, _, _, _, _, _, _, _ => by simp at hl
  | x0 :: as, u :: us, i, hl, hp, j, k, x, y, b, hjk, hj, hk, hx, hy, hb => by
    have hl' : as.length = us.length := by simpa using hl
    simp only [pmOf] at hp
    cases k with
    | zero => omega
    | succ k =>
      simp at hk
      cases j with
      | zero =>
        simp at hj hb
        subst hj
        rw [if_pos hx] at hp
        simp only [List.map_cons, List.pairwise_cons] at hp
        intro hb'
        have hm : (i + 1 + k, us.getD k undef) ∈ pmOf (i + 1) as us := (mem_pmOf hl').2 ⟨k, y, rfl, hk, hy, rfl⟩
        have := hp.1 _ (List.mem_map_of_mem (f := fun iv => blk iv.2) hm)
        simp at hb'
        rw [hb] at this
        rcases this with h | h
        · cases h
        · exact h (by simp [hb'])
      | succ j =>
        simp at hj hb
        have hp' : ((pmOf (i + 1) as us).map (fun iv => blk iv.2)).Pairwise (fun a b => a = none ∨ a ≠ b) := by
          split at hp
          · simp only [List.map_cons, List.pairwise_cons] at hp; exact hp.2
          · exact hp
        simpa using pm_distinct hl' hp' (by omega) hj hk hx hy (by simpa using hb)

theorem params_get : ∀ (as : List AV) (i t : Nat), (params i as).getD t none = (as[t]?).map (paramA (i + t))
  | [], _, _ => by simp [params]
  | x :: as, i, 0 => by simp [params]
  | x :: as, i, t + 1 => by
    simp only [params, List.getD_cons_succ, List.getElem?_cons_succ]
    rw [params_get as (i + 1) t, show i + 1 + t = i + (t + 1) by omega]

theorem params_length : ∀ (as : List AV) (i : Nat), (params i as).length = as.length
  | [], _ => rfl
  | x :: as, i => by simp [params, params_length as]

theorem start_get (fn : Func) (as : List AV) (t : Nat) : (start fn as).sl.getD t none = (as[t]?).map (paramA t) := by
  simp only [start, List.getD_eq_getElem?_getD]
  rcases Nat.lt_or_ge t as.length with h | h
  · rw [List.getElem?_append_left (by rw [params_length]; exact h)]
    have := params_get as 0 t
    rw [List.getD_eq_getElem?_getD, Nat.zero_add] at this
    exact this
  · rw [List.getElem?_append_right (by rw [params_length]; exact h), List.getElem?_eq_none (l := as) h]
    simp [List.getElem?_replicate]
    split <;> rfl

theorem start_obj (fn : Func) (as : List AV) (t : Nat) : (start fn as).ob.obj t = (as[t]?).bind paramO := by
  simp only [start, Obs.obj, List.getD_eq_getElem?_getD]
  rcases Nat.lt_or_ge t as.length with h | h
  · rw [List.getElem?_append_left (by simpa using h)]
    simp [h]
  · rw [List.getElem?_append_right (by simpa using h), List.getElem?_eq_none (l := as) h]
    simp [List.getElem?_replicate]
    split <;> rfl

theorem paramO_some {x : AV} {o : Ob} (h : paramO x = some o) : isMut x = true ∧ o.frz = false ∧ ∀ e k l ver z, o = .row e k l ver z → ver = 0 := by
  cases x <;> simp only [paramO, reduceCtorEq] at h
  rename_i x
  cases x <;> simp only [paramO, reduceCtorEq, Option.some.injEq] at h
  · subst h; exact ⟨rfl, rfl, fun e k l ver z h => by cases h⟩
  · subst h; exact ⟨rfl, rfl, fun e k l ver z h => by cases h; rfl⟩

theorem SVsRep.slots' {ob : Obs} : ∀ {xs : List SV} {us : List Value}, SVsRep w B xs us → SlL w B ob γ xs us
  | [], _, h => h
  | _ :: _, _, ⟨u, us, e, h1, h2⟩ => ⟨u, us, e, SVRep.slot h1, h2.slots'⟩

def ctxOf (w : World) (B : Nat → Prop) (args : List AV) (vs : List Value) : Ctx := ⟨w, B, pmOf 0 args vs⟩

theorem start_inv {fn : Func} {args : List AV} {vs mv : List Value} (hB : ∀ b, B b → ∀ v ∈ mv, blk v ≠ some b) (hd : (mv.map blk).Pairwise (fun a b => a = none ∨ a ≠ b)) (h : ArgRep w B args vs mv) :
    InvG (ctxOf w B args vs) (start fn args) { tmps := vs.toArray ++ Array.replicate (fn.ntmps - vs.toArray.size) undef, defers := [] } w (fun i => vs.getD i undef) := by
  have hlen := h.length
  have hmv : (ctxOf w B args vs).mv = mv := h.pm 0
  have hobj : ∀ i o, (start fn args).ob.obj i = some o → ∃ x, args[i]? = some x ∧ paramO x = some o ∧ isMut x = true := fun i o ho => by
    rw [start_obj] at ho
    cases hx : args[i]? with
    | none => rw [hx] at ho; cases ho
    | some x => rw [hx] at ho; exact ⟨x, rfl, ho, (paramO_some ho).1⟩
  have hpd : ((pmOf 0 args vs).map (fun iv => blk iv.2)).Pairwise (fun a b => a = none ∨ a ≠ b) := by
    have := hd
    rw [← h.pm 0, List.map_map] at this
    exact this
  have hin : ∀ i x, args[i]? = some x → isMut x = true → vs.getD i undef ∈ mv := fun i x hx hm => by
    rw [← h.pm 0]
    exact List.mem_map.2 ⟨(i, _), (mem_pmOf hlen.symm).2 ⟨i, x, by simp, hx, hm, rfl⟩, rfl⟩
  have hBs : ∀ b, B b → Bs (ctxOf w B args vs) (start fn args).ob (fun i => vs.getD i undef) b := fun b hb => ⟨.inl hb, fun i o ho _ => by
    obtain ⟨x, hx, _, hm⟩ := hobj i o ho
    exact hB b hb _ (hin i x hx hm)⟩
  have K : Keeps w w B (Bs (ctxOf w B args vs) (start fn args).ob (fun i => vs.getD i undef)) := Keeps.of_sub hBs
  have hdj : ∀ i j o p b, (start fn args).ob.obj i = some o → (start fn args).ob.obj j = some p → i < j → blk (vs.getD i undef) = some b → blk (vs.getD j undef) ≠ some b := fun i j o p b ho hp hij hb => by
    obtain ⟨x, hx, _, hm⟩ := hobj i o ho
    obtain ⟨y, hy, _, hn⟩ := hobj j p hp
    exact pm_distinct hlen.symm hpd hij hx hy hm hn hb
  refine ⟨⟨rfl, rfl, rfl, Nat.le_refl _, fun k _ _ => rfl⟩, rfl, ?_, fun i o ho => ?_, fun i j o p b ho hp hne hb => ?_, fun i o b ho hb => ?_, fun i v hv => ?_, fun t v hv => ?_⟩
  · simp [start, params_length, hlen]
  · obtain ⟨x, hx, hxo, hm⟩ := hobj i o ho
    have hr := h.get hx
    cases x <;> simp only [paramO, reduceCtorEq] at hxo
    rename_i x
    cases x <;> simp only [paramO, reduceCtorEq, Option.some.injEq] at hxo
    · subst hxo; exact BoxAt.keep K hr fun b _ => rfl
    · subst hxo; exact OwnRow.keep K hr fun b _ => rfl
  · rcases Nat.lt_or_gt_of_ne hne with e | e
    · exact hdj i j o p b ho hp e hb
    · intro hb'
      exact hdj j i p o b hp ho e hb' hb
  · obtain ⟨x, hx, hxo, hm⟩ := hobj i o ho
    exact .inr ⟨_, by rw [hmv]; exact hin i x hx hm, hb⟩
  · obtain ⟨j, x, h1, h2, h3, h4⟩ := (mem_pmOf hlen.symm).1 hv
    rw [Nat.zero_add] at h1
    subst h1
    rw [start_obj, h2]
    cases x <;> simp only [isMut, Bool.false_eq_true] at h3
    rename_i x
    cases x <;> simp only [isMut, Bool.false_eq_true] at h3
    · exact ⟨_, rfl, fun _ => h4⟩
    · exact ⟨_, rfl, fun _ => h4⟩
  · rw [start_get] at hv
    cases hx : args[t]? with
    | none => rw [hx] at hv; cases hv
    | some x =>
      rw [hx] at hv
      simp only [Option.map, Option.some.injEq] at hv
      subst hv
      have hlt : t < vs.length := by rw [hlen]; exact (List.getElem?_eq_some_iff.1 hx).1
      have hget : (vs.toArray ++ Array.replicate (fn.ntmps - vs.toArray.size) undef).getD t undef = vs.getD t undef := by
        simp [Array.getD_eq_getD_getElem?, Array.getElem?_append, hlt]
      simp only [hget]
      have hr := h.get hx
      cases x
      · rename_i x
        have ho : (start fn args).ob.obj t = paramO (.s x) := by rw [start_obj, hx]; rfl
        cases x
        case mbx k x =>
          obtain ⟨b, cs, tt, e, h1, h2⟩ := hr
          exact ⟨⟨k, x, false, ho⟩, b, e, e⟩
        case msl e k l =>
          refine ⟨⟨e, k, l, 0, false, ho, Nat.le_refl _⟩, fun _ _ _ _ _ => rfl⟩
        case v k x => exact SVRep.slot (x := .v k x) (ob := (start fn args).ob) (γ := fun i => vs.getD i undef) (SVRep.keep (x := .v k x) K hr)
        case nilsl e k => exact SVRep.slot (x := .nilsl e k) (ob := (start fn args).ob) (γ := fun i => vs.getD i undef) (SVRep.keep (x := .nilsl e k) K hr)
        case fadr k x => exact SVRep.slot (x := .fadr k x) (ob := (start fn args).ob) (γ := fun i => vs.getD i undef) (SVRep.keep (x := .fadr k x) K hr)
        all_goals exact (hr : False).elim
      · obtain ⟨us, e, h1⟩ := hr
        exact ⟨us, e, (h1.keep K).slots'⟩
      · exact AVRep.keep (x := .fn ..) K hr

end Go.AI
