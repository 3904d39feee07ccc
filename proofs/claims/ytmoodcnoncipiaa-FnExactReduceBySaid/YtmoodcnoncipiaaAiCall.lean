/- A call of the evaluator's, by its contract, is one of the model's. -/
import Derived.Test.YtmoodcnoncipiaaAiOps5
set_option autoImplicit false
set_option linter.unusedVariables false
set_option linter.unusedSimpArgs false
namespace Go.AI

variable {C : Cfg} {X : Ctx} {sl : List (Option AV)} {ob ob' : Obs} {a : Act} {w w' : World} {γ γ' : Nat → Value} {B B' : Nat → Prop} {o : Oper} {v : Option AV} {ps : List Prop}

def Frozen (ob : Obs) (i : Nat) : Prop := ∀ o, ob.obj i = some o → o.frz = true

theorem Ob.le_frz {o o' : Ob} (h : o.le o') (hz : o.frz = true) : o'.frz = true := by
  cases o <;> obtain ⟨z', rfl, hh⟩ := h <;> exact hh hz

theorem Frozen.le {i : Nat} (h : Frozen ob i) (hle : ObLe ob ob') : Frozen ob' i := fun o' ho' => by
  obtain ⟨o, ho, hl⟩ := hle.bwd i o' ho'
  exact Ob.le_frz hl (h o ho)

theorem plain_le (hle : ObLe ob ob') {x y : SV} (h : plain ob x = some y) : plain ob' x = some y := by
  cases x <;> simp only [plain] at h ⊢ <;> try exact h
  · rename_i i f
    cases f <;> simp only at h ⊢
    · split at h
      · rename_i k x z ho
        obtain ⟨o', ho', z', rfl, _⟩ := hle.fwd _ _ ho
        rw [ho']; exact h
      · cases h
    · cases h
  · split at h
    · rename_i e k l ver' z ho
      obtain ⟨o', ho', z', rfl, _⟩ := hle.fwd _ _ ho
      rw [ho']; exact h
    · cases h

theorem frz_frozen {x y : SV} {i : Nat} (hp : plain ob x = some y) (hi : svHas i x = true) : Frozen (frz ob x) i := by
  cases x <;> simp [svHas] at hi <;> simp only [plain, reduceCtorEq] at hp
  · rename_i j f
    subst hi
    cases f <;> simp only [reduceCtorEq] at hp
    split at hp
    · rename_i k x z ho
      intro o ho'
      simp only [frz, ho, obj_setOb _ _ _ _ (obj_lt ho), if_true, Option.some.injEq] at ho'
      subst ho'; rfl
    · cases hp
  · subst hi
    split at hp
    · rename_i ho
      intro o ho'
      simp only [frz, ho, obj_setOb _ _ _ _ (obj_lt ho), if_true, Option.some.injEq] at ho'
      subst ho'; rfl
    · cases hp

theorem frzs_frozen : ∀ (xs : List SV) (ob0 : Obs) {x y : SV} {i : Nat}, x ∈ xs → plain ob0 x = some y → svHas i x = true → Frozen (frzs ob0 xs) i
  | [], _, _, _, _, hm, _, _ => by cases hm
  | x0 :: xs, ob0, x, y, i, hm, hp, hi => by
    rcases List.mem_cons.1 hm with rfl | hm
    · exact (frz_frozen hp hi).le (frzs_le xs _)
    · exact frzs_frozen xs (frz ob0 x0) hm (plain_le (frz_le ob0 x0) hp) hi

/-- The block of what is nobody's own any more. -/
theorem InvG.letIn (h : InvG X ⟨sl, ob⟩ a w γ) (hle : ObLe ob ob') {i : Nat} {o : Ob} (ho : ob.obj i = some o) (hf : Frozen ob' i) {b : Nat} (hb : blk (γ i) = some b) : Bs X ob' γ b := by
  refine ⟨?_, fun j p hj hz hbj => ?_⟩
  · rcases h.fresh i o b ho hb with h1 | h1
    · exact .inr (.inl h1)
    · exact .inr (.inr h1)
  · by_cases e : j = i
    · subst e
      rw [hf p hj] at hz
      cases hz
    · obtain ⟨p', hp', _⟩ := hle.bwd j p hj
      exact h.dj i j o p' b ho hp' (Ne.symm e) hb hbj

theorem InvG.plainsIn (h : InvG X ⟨sl, ob⟩ a w γ) (hle : ObLe ob ob') : ∀ {xs ys : List SV} {us : List Value}, SlL w (Bs X ob γ) ob γ xs us → Go.AI.plains ob xs = some ys → (∀ x ∈ xs, ∀ i, svHas i x = true → Frozen ob' i) → SVsRep w (Bs X ob' γ) ys us
  | [], _, _, e, hp, _ => by cases hp; exact e
  | x :: xs, _, _, ⟨u, us, e, h1, h2⟩, hp, hf => by
    simp only [Go.AI.plains] at hp
    split at hp
    · rename_i y ys hy hys
      cases hp
      exact ⟨u, us, e, h.plain h1 hy (fun b hb => Bs.le hle hb) (fun i o hi ho b hb => h.letIn hle ho (hf x (by simp) i hi) hb), h.plainsIn hle h2 hys fun x hx => hf x (List.mem_cons_of_mem _ hx)⟩
    · cases hp

theorem plains_mem : ∀ {xs ys : List SV} {x : SV}, plains ob xs = some ys → x ∈ xs → ∃ y, plain ob x = some y
  | x0 :: xs, _, x, hp, hm => by
    simp only [plains] at hp
    split at hp
    · rename_i y ys hy hys
      rcases List.mem_cons.1 hm with rfl | hm
      · exact ⟨y, hy⟩
      · exact plains_mem hys hm
    · cases hp

theorem goes_makeFunc (h : InvG X ⟨sl, ob⟩ a w γ) {g : FuncId} {first caps : Array Operand} (ho : o.op = .makeFunc (.func g) first caps) (he : (match evSs (ev C sl) first.toList, evSs (ev C sl) caps.toList with
    | some xs, some ys => match plains ob xs, plains ob ys with
      | some xs', some ys' => some (some (AV.fn g xs' ys'), frzs ob (xs ++ ys), ([] : List Prop))
      | _, _ => none
    | _, _ => none) = some (v, ob', ps)) : Goes C X sl o a w v ob' := by
  split at he
  · rename_i xs ys hxs hys
    split at he
    · rename_i xs' ys' hxp hyp
      simp only [Option.some.injEq, Prod.mk.injEq] at he
      obtain ⟨rfl, rfl, _⟩ := he
      have hle := frzs_le (xs ++ ys) ob
      have r1 := h.plainsIn hle (evSs_rep h hxs) hxp fun x hx i hi => by
        obtain ⟨y, hy⟩ := plains_mem hxp hx
        exact frzs_frozen _ _ (List.mem_append_left _ hx) hy hi
      have r2 := h.plainsIn hle (evSs_rep h hys) hyp fun x hx i hi => by
        obtain ⟨y, hy⟩ := plains_mem hyp hx
        exact frzs_frozen _ _ (List.mem_append_right _ hx) hy hi
      exact Goes.value (u := .func (.func g) (first.map a.eval) (caps.map a.eval)) (by simp [execOp, ho, Instr.makeFunc]) (h.raise hle) fun z hz => by
        cases hz
        exact ⟨_, _, by rw [← Array.toList_map, ← Array.toList_map, Array.toArray_toList, Array.toArray_toList], r1, r2⟩
    · cases he
  · cases he

/-! ### Arguments -/

def SlAL (w : World) (B : Nat → Prop) (ob : Obs) (γ : Nat → Value) : List AV → List Value → Prop
  | [], vs => vs = []
  | x :: xs, vs => ∃ u us, vs = u :: us ∧ SlA w B ob γ x u ∧ SlAL w B ob γ xs us

/-- What a callee may be led to. -/
def Bc (X : Ctx) (ob : Obs) (γ : Nat → Value) (ro : List Nat) (b : Nat) : Prop := Bs X ob γ b ∨ ∃ i ∈ ro, (∃ o, ob.obj i = some o) ∧ blk (γ i) = some b

theorem args_rep (h : InvG X ⟨sl, ob⟩ a w γ) (ro : List Nat) (ms : List Nat) : ∀ (as : List AV) (i : Nat) (xs : List AV) (us : List Value), argsAV ob ms i as = some xs → SlAL w (Bs X ob γ) ob γ as us →
    (∀ j ∈ roIds ob ms i as, j ∈ ro) → ArgRep w (Bc X ob γ ro) xs us ((mutIds ob ms i as).map γ)
  | [], i, xs, us, hx, hu, _ => by cases hx; exact ⟨hu, rfl⟩
  | x :: as, i, xs, us, hx, hu, hro => by
    simp only [argsAV] at hx
    split at hx
    · rename_i y ys hy hys
      cases hx
      obtain ⟨u, us', rfl, h1, h2⟩ := hu
      have sub : ∀ b, Bs X ob γ b → Bc X ob γ ro b := fun b hb => .inl hb
      have keepAV : ∀ z, AVRep w (Bs X ob γ) z u → AVRep w (Bc X ob γ ro) z u := fun z hz => AVRep.keep (Keeps.of_sub sub) hz
      cases x with
      | tup l => simp [argAV] at hy
      | fn f p q =>
        simp only [argAV, Option.some.injEq] at hy
        subst hy
        have ih := args_rep h ro ms as (i + 1) ys us' hys h2 (by simpa [roIds] using hro)
        exact ⟨u, us', rfl, keepAV _ h1, by simpa [mutIds] using ih⟩
      | s x =>
        cases x with
        | v k z =>
          simp only [argAV, plain, Option.map_some, Option.some.injEq] at hy
          subst hy
          have ih := args_rep h ro ms as (i + 1) ys us' hys h2 (by simpa [roIds] using hro)
          exact ⟨u, us', rfl, keepAV (.s (.v k z)) h1, by simpa [mutIds] using ih⟩
        | nilsl e k =>
          simp only [argAV, plain, Option.map_some, Option.some.injEq] at hy
          subst hy
          have ih := args_rep h ro ms as (i + 1) ys us' hys h2 (by simpa [roIds] using hro)
          refine ⟨u, us', rfl, ?_, by simpa [mutIds] using ih⟩
          rw [show u = _ from h1]
          exact RepV.mk_sl (a := none) (c := 0) (l := []) (flat := []) (Nat.le_refl _) rfl (fun _ => rfl) (fun ad had => by cases had)
        | fadr k z =>
          simp only [argAV, plain, Option.map_some, Option.some.injEq] at hy
          subst hy
          have ih := args_rep h ro ms as (i + 1) ys us' hys h2 (by simpa [roIds] using hro)
          exact ⟨u, us', rfl, keepAV (.s (.fadr k z)) h1, by simpa [mutIds] using ih⟩
        | oel i' ver j f => simp [argAV, plain] at hy
        | own e k l => simp [argAV, plain] at hy
        | mbx k z => simp [argAV, plain] at hy
        | msl e k l => simp [argAV, plain] at hy
        | adr j f =>
          cases f with
          | some f => simp [argAV, plain] at hy
          | none =>
            obtain ⟨_, b, hb, e⟩ := h1
            have hu : u = γ j := by rw [hb]; exact e
            subst hu
            simp only [argAV] at hy
            cases hob : ob.obj j with
            | none => rw [hob] at hy; cases hy
            | some oo =>
              rw [hob] at hy
              cases oo with
              | row e k l ver z => cases hy
              | box k z fz =>
                have hbox := h.ob _ _ hob
                cases fz with
                | false =>
                  simp only [Option.some.injEq] at hy
                  subst hy
                  have ih := args_rep h ro ms as (i + 1) ys us' hys h2 (by simpa [roIds, hob] using hro)
                  simp only [mutIds, hob, List.map_cons]
                  exact ⟨γ j, us', _, rfl, rfl, BoxAt.keep (Keeps.of_sub sub) hbox (fun _ _ => rfl), ih⟩
                | true =>
                  simp only [Option.some.injEq] at hy
                  subst hy
                  have hro' : ∀ j' ∈ j :: roIds ob ms (i + 1) as, j' ∈ ro := by simpa [roIds, hob] using hro
                  have ih := args_rep h ro ms as (i + 1) ys us' hys h2 fun j' hj' => hro' j' (List.mem_cons_of_mem _ hj')
                  simp only [mutIds, hob]
                  exact ⟨γ j, us', rfl, BoxAt.view hbox sub (fun b hb => .inr ⟨j, hro' j (by simp), ⟨_, hob⟩, hb⟩), ih⟩
        | osl j ver =>
          simp only [argAV] at hy
          cases hob : ob.obj j with
          | none => rw [hob] at hy; cases hy
          | some oo =>
            rw [hob] at hy
            cases oo with
            | box k z fz => cases hy
            | row e k l ver' fz =>
              simp only at hy
              split at hy
              · rename_i hver
                subst hver
                have hu := h1.2 _ _ _ _ hob
                subst hu
                have hrow := h.ob _ _ hob
                split at hy
                · rename_i hms
                  split at hy
                  · cases hy
                  · simp only [Option.some.injEq] at hy
                    subst hy
                    have ih := args_rep h ro ms as (i + 1) ys us' hys h2 (by simp only [roIds, hms, if_true] at hro; exact hro)
                    simp only [mutIds, hms, if_true, List.map_cons]
                    exact ⟨γ j, us', _, rfl, rfl, OwnRow.keep (Keeps.of_sub sub) hrow (fun _ _ => rfl), ih⟩
                · rename_i hms
                  simp only [Option.some.injEq] at hy
                  subst hy
                  have hro' : ∀ j' ∈ j :: roIds ob ms (i + 1) as, j' ∈ ro := by simp only [roIds, hms, if_false] at hro; exact hro
                  have ih := args_rep h ro ms as (i + 1) ys us' hys h2 fun j' hj' => hro' j' (List.mem_cons_of_mem _ hj')
                  simp only [mutIds, hms, if_false]
                  exact ⟨γ j, us', rfl, OwnRow.view hrow sub (fun b hb => .inr ⟨j, hro' j (by simp), ⟨_, hob⟩, hb⟩), ih⟩
              · cases hy
    · cases hx


/-! ### What comes back -/

def Shape : Ob → Ob → Prop
  | .box _ _ _, .box _ _ _ => True
  | .row _ k _ ver _, .row _ k' _ ver' _ => ver' = ver ∧ k' = k
  | _, _ => False

theorem Shape.of_le {o o' : Ob} (h : o.le o') : Shape o o' := by
  cases o <;> obtain ⟨z, rfl, _⟩ := h <;> simp [Shape]

/-- FROM ONE WORLD TO A LATER ONE, some objects changed, some new. -/
theorem InvG.jump (h : InvG X ⟨sl, ob⟩ a w γ) {ob3 : Obs} {γ3 : Nat → Value} (hfr : Fr X.w0 X.mv w')
    (hold : ∀ i o, ob.obj i = some o → γ3 i = γ i ∧ ∃ o3, ob3.obj i = some o3 ∧ Shape o o3 ∧ ObRep w' (Bs X ob3 γ3) (γ i) o3)
    (hnew : ∀ i o3, ob3.obj i = some o3 → ob.obj i = none → ObRep w' (Bs X ob3 γ3) (γ3 i) o3 ∧ ∀ b, blk (γ3 i) = some b → w.heap.size ≤ b)
    (hdj : ∀ i j o p b, ob3.obj i = some o → ob3.obj j = some p → ob.obj i = none → ob.obj j = none → i ≠ j → blk (γ3 i) = some b → blk (γ3 j) ≠ some b)
    (K : Keeps w w' (Bs X ob γ) (Bs X ob3 γ3)) :
    InvG X ⟨sl, ob3⟩ a w' γ3 := by
  have bwd : ∀ i o3, ob3.obj i = some o3 → (∃ o, ob.obj i = some o) ∨ ob.obj i = none := fun i o3 _ => by
    cases hx : ob.obj i with
    | none => exact .inr rfl
    | some o => exact .inl ⟨o, rfl⟩
  have S : ∀ x u, SlS w (Bs X ob γ) ob γ x u → SlS w' (Bs X ob3 γ3) ob3 γ3 x u := by
    intro x u hx
    cases x <;> simp only [SlS] at hx ⊢
    · exact hx.keep K
    · exact hx
    · exact RepA.keep K hx
    · obtain ⟨⟨k, x, z, h1⟩, b, h2, h3⟩ := hx
      obtain ⟨hg, o3, ho3, hs, _⟩ := hold _ _ h1
      cases o3 <;> simp only [Shape] at hs
      exact ⟨⟨_, _, _, ho3⟩, b, by rw [hg]; exact h2, h3⟩
    · obtain ⟨⟨e, k, l, ver', z, h1, hv⟩, h2⟩ := hx
      obtain ⟨hg, o3, ho3, hs, _⟩ := hold _ _ h1
      cases o3 <;> simp only [Shape] at hs
      obtain ⟨rfl, rfl⟩ := hs
      refine ⟨⟨_, _, _, _, _, ho3, hv⟩, fun e2 k2 l2 z2 hi => ?_⟩
      rw [ho3] at hi
      cases hi
      rw [hg]
      exact h2 _ _ _ _ h1
    · obtain ⟨⟨e, k, l, ver', z, h1, hv⟩, h2⟩ := hx
      obtain ⟨hg, o3, ho3, hs, _⟩ := hold _ _ h1
      cases o3 <;> simp only [Shape] at hs
      obtain ⟨rfl, rfl⟩ := hs
      refine ⟨⟨_, _, _, _, _, ho3, hv⟩, fun e2 k2 l2 z2 hi => ?_⟩
      rw [ho3] at hi
      cases hi
      rw [hg]
      exact h2 _ _ _ _ h1
  refine ⟨hfr, h.df, h.sz, fun i o3 hi => ?_, fun i j p q b hi hj hij hb hbj => ?_, fun i o3 b hi hb => ?_, fun i u hi => ?_, fun t u ht => SlA.imp K S (h.sl t u ht)⟩
  · rcases bwd i o3 hi with ⟨o, ho⟩ | hn
    · obtain ⟨hg, o3', ho3, _, hr⟩ := hold i o ho
      rw [hi] at ho3
      cases ho3
      rw [hg]
      exact hr
    · exact (hnew i o3 hi hn).1
  · rcases bwd i p hi with ⟨o, ho⟩ | hn <;> rcases bwd j q hj with ⟨o', ho'⟩ | hn'
    · rw [(hold i o ho).1] at hb
      rw [(hold j o' ho').1] at hbj
      exact h.dj i j o o' b ho ho' hij hb hbj
    · rw [(hold i o ho).1] at hb
      have := (hnew j q hj hn').2 b hbj
      have := (h.ob i o ho).lt hb
      omega
    · rw [(hold j o' ho').1] at hbj
      have := (hnew i p hi hn).2 b hb
      have := (h.ob j o' ho').lt hbj
      omega
    · exact hdj i j p q b hi hj hn hn' hij hb hbj
  · rcases bwd i o3 hi with ⟨o, ho⟩ | hn
    · rw [(hold i o ho).1] at hb
      exact h.fresh i o b ho hb
    · have := (hnew i o3 hi hn).2 b hb
      have := h.fr.size
      exact .inl (by omega)
  · obtain ⟨o, ho, hv⟩ := h.pm i u hi
    obtain ⟨hg, o3, ho3, hs, _⟩ := hold i o ho
    refine ⟨o3, ho3, fun hr => ?_⟩
    rw [hg]
    refine hv fun e k l ver z heq => ?_
    subst heq
    cases o3 <;> simp only [Shape] at hs
    rw [← hs.1]
    exact hr _ _ _ _ _ rfl

/-- What a result's rows become. -/
structure Land (w' : World) (D : Nat → Prop) (N : Nat) (Q : SV → Prop) (ob2 ob3 : Obs) (γ γ3 : Nat → Value) (os : List Nat) : Prop where
  keep : ∀ i o, ob2.obj i = some o → ob3.obj i = some o ∧ γ3 i = γ i
  new : ∀ i o, ob3.obj i = some o → ob2.obj i = none → ∃ e k l, o = .row e k l 0 false ∧ Q (.own e k l) ∧ OwnRow w' D N e k l (γ3 i) ∧ ∀ b, blk (γ3 i) = some b → b ∈ os
  dj : ∀ i j o p b, ob3.obj i = some o → ob3.obj j = some p → ob2.obj i = none → ob2.obj j = none → i ≠ j → blk (γ3 i) = some b → blk (γ3 j) ≠ some b

theorem Land.refl {D : Nat → Prop} {N : Nat} {Q : SV → Prop} (ob2 : Obs) (γ : Nat → Value) (os : List Nat) : Land w' D N Q ob2 ob2 γ γ os :=
  ⟨fun i o h => ⟨h, rfl⟩, (fun i o h hn => by rw [hn] at h; cases h), (fun i j o p b h _ hn => by rw [hn] at h; cases h)⟩

def LandS (w' : World) (D : Nat → Prop) (Q : SV → Prop) (ob3 : Obs) (γ3 : Nat → Value) : SV → Value → Prop
  | .osl d ver, u => (∃ e k l, ob3.obj d = some (.row e k l ver false)) ∧ u = γ3 d
  | y, u => SVRep w' D y u ∧ Q y

def LandL (w' : World) (D : Nat → Prop) (Q : SV → Prop) (ob3 : Obs) (γ3 : Nat → Value) : List SV → List Value → Prop
  | [], vs => vs = []
  | x :: xs, vs => ∃ u us, vs = u :: us ∧ LandS w' D Q ob3 γ3 x u ∧ LandL w' D Q ob3 γ3 xs us

theorem landS_rep {D : Nat → Prop} {N : Nat} {Q : SV → Prop} {ob2 ob3 : Obs} {ids ids' : List Nat} {x y : SV} {u : Value} {os : List Nat} (γ : Nat → Value) (h : landS ob2 ids x = some (y, ids', ob3)) (hr : ResS w' D N x u os) (hQ : Q x) :
    ∃ γ3, Land w' D N Q ob2 ob3 γ γ3 os ∧ LandS w' D Q ob3 γ3 y u := by
  cases x <;> simp only [landS, reduceCtorEq, Option.some.injEq, Prod.mk.injEq] at h
  · obtain ⟨rfl, rfl, rfl⟩ := h
    exact ⟨γ, Land.refl _ _ _, hr.1, hQ⟩
  · obtain ⟨rfl, rfl, rfl⟩ := h
    exact ⟨γ, Land.refl _ _ _, hr.1, hQ⟩
  · rename_i e k l
    split at h
    · cases h
    · rename_i d ids2
      split at h
      · rename_i hod
        split at h
        · rename_i hlt
          simp only [Option.some.injEq, Prod.mk.injEq] at h
          obtain ⟨rfl, rfl, rfl⟩ := h
          obtain ⟨hrow, hos⟩ := hr
          have hobj : ∀ i, (ob2.setOb d (some (.row e k l 0 false))).obj i = if i = d then some (.row e k l 0 false) else ob2.obj i := fun i => obj_setOb _ _ _ _ hlt
          refine ⟨upd γ d u, ⟨fun i o hi => ?_, fun i o hi hn => ?_, fun i j o p b hi hj hn hn' hij hb => ?_⟩, ⟨e, k, l, by rw [hobj, if_pos rfl]⟩, (upd_same _ _ _).symm⟩
          · have : i ≠ d := fun e => by subst e; rw [hod] at hi; cases hi
            exact ⟨by rw [hobj, if_neg this]; exact hi, upd_ne _ _ this⟩
          · rw [hobj] at hi
            by_cases ee : i = d
            · subst ee
              rw [if_pos rfl] at hi
              cases hi
              rw [upd_same]
              exact ⟨e, k, l, rfl, hQ, hrow, fun b hb => by rw [hos, hb]; simp⟩
            · rw [if_neg ee, hn] at hi
              cases hi
          · rw [hobj] at hi hj
            by_cases ee : i = d
            · subst ee
              rw [if_neg (Ne.symm hij), hn'] at hj
              cases hj
            · rw [if_neg ee, hn] at hi
              cases hi
        · cases h
      · cases h

theorem LandS.le {D : Nat → Prop} {N : Nat} {Q : SV → Prop} {ob2 ob3 : Obs} {γ2 γ3 : Nat → Value} {os : List Nat} (hl : Land w' D N Q ob2 ob3 γ2 γ3 os) {y : SV} {u : Value} (h : LandS w' D Q ob2 γ2 y u) : LandS w' D Q ob3 γ3 y u := by
  cases y <;> simp only [LandS] at h ⊢ <;> try exact h
  obtain ⟨⟨e, k, l, h1⟩, h2⟩ := h
  obtain ⟨h3, h4⟩ := hl.keep _ _ h1
  exact ⟨⟨e, k, l, h3⟩, by rw [h2, h4]⟩

theorem Land.trans {D : Nat → Prop} {N : Nat} {Q : SV → Prop} {ob1 ob2 ob3 : Obs} {γ1 γ2 γ3 : Nat → Value} {os1 os2 : List Nat} (h1 : Land w' D N Q ob1 ob2 γ1 γ2 os1) (h2 : Land w' D N Q ob2 ob3 γ2 γ3 os2) (hn : (os1 ++ os2).Nodup) :
    Land w' D N Q ob1 ob3 γ1 γ3 (os1 ++ os2) := by
  have mid : ∀ i, (∃ o, ob2.obj i = some o) ∨ ob2.obj i = none := fun i => by
    cases hx : ob2.obj i with
    | none => exact .inr rfl
    | some o => exact .inl ⟨o, rfl⟩
  refine ⟨fun i o hi => ?_, fun i o hi hn' => ?_, fun i j o p b hi hj hni hnj hij hb hbj => ?_⟩
  · obtain ⟨h3, h4⟩ := h1.keep i o hi
    obtain ⟨h5, h6⟩ := h2.keep i o h3
    exact ⟨h5, h6.trans h4⟩
  · rcases mid i with ⟨o2, ho2⟩ | hn2
    · obtain ⟨h5, h6⟩ := h2.keep i o2 ho2
      rw [hi] at h5
      cases h5
      obtain ⟨e, k, l, h7, hq, h8, h9⟩ := h1.new i o ho2 hn'
      exact ⟨e, k, l, h7, hq, by rw [h6]; exact h8, fun b hb => List.mem_append_left _ (h9 b (by rw [← h6]; exact hb))⟩
    · obtain ⟨e, k, l, h7, hq, h8, h9⟩ := h2.new i o hi hn2
      exact ⟨e, k, l, h7, hq, h8, fun b hb => List.mem_append_right _ (h9 b hb)⟩
  · rcases mid i with ⟨o2, ho2⟩ | hn2 <;> rcases mid j with ⟨p2, hp2⟩ | hm2
    · obtain ⟨h5, h6⟩ := h2.keep i o2 ho2
      obtain ⟨h7, h8⟩ := h2.keep j p2 hp2
      rw [h6] at hb
      rw [h8] at hbj
      exact h1.dj i j o2 p2 b ho2 hp2 hni hnj hij hb hbj
    · obtain ⟨h5, h6⟩ := h2.keep i o2 ho2
      rw [h6] at hb
      obtain ⟨_, _, _, _, _, _, m1⟩ := h1.new i o2 ho2 hni
      obtain ⟨_, _, _, _, _, _, m2⟩ := h2.new j p hj hm2
      exact (List.nodup_append.1 hn).2.2 _ (m1 b hb) _ (m2 b hbj) rfl
    · obtain ⟨h7, h8⟩ := h2.keep j p2 hp2
      rw [h8] at hbj
      obtain ⟨_, _, _, _, _, _, m1⟩ := h1.new j p2 hp2 hnj
      obtain ⟨_, _, _, _, _, _, m2⟩ := h2.new i o hi hn2
      exact (List.nodup_append.1 hn).2.2 _ (m1 b hbj) _ (m2 b hb) rfl
    · exact h2.dj i j o p b hi hj hn2 hm2 hij hb hbj

theorem landL_rep {D : Nat → Prop} {N : Nat} {Q : SV → Prop} : ∀ (xs : List SV) {ob2 ob3 : Obs} {ids : List Nat} {ys : List SV} {us : List Value} {os : List Nat} (γ : Nat → Value), landL ob2 ids xs = some (ys, ob3) → ResL w' D N xs us os → os.Nodup → (∀ x ∈ xs, Q x) →
    ∃ γ3, Land w' D N Q ob2 ob3 γ γ3 os ∧ LandL w' D Q ob3 γ3 ys us
  | [], ob2, ob3, ids, ys, us, os, γ, h, hr, hn, hQ => by
    simp only [landL, Option.some.injEq, Prod.mk.injEq] at h
    obtain ⟨rfl, rfl⟩ := h
    exact ⟨γ, Land.refl _ _ _, hr.1⟩
  | x :: xs, ob2, ob3, ids, ys, us, os, γ, h, hr, hn, hQ => by
    simp only [landL] at h
    split at h
    · rename_i y ids' ob1 hs
      split at h
      · rename_i ys' ob4 hl
        simp only [Option.some.injEq, Prod.mk.injEq] at h
        obtain ⟨rfl, rfl⟩ := h
        obtain ⟨u, us', o1, o2, rfl, rfl, hr1, hr2⟩ := hr
        obtain ⟨γ1, hl1, hy1⟩ := landS_rep γ hs hr1 (hQ x (by simp))
        obtain ⟨γ3, hl2, hy2⟩ := landL_rep xs γ1 hl hr2 (List.nodup_append.1 hn).2.1 (fun x hx => hQ x (List.mem_cons_of_mem _ hx))
        exact ⟨γ3, hl1.trans hl2 hn, u, us', rfl, hy1.le hl2, hy2⟩
      · cases h
    · cases h


/-! ### The call -/

theorem mut_free : ∀ (as : List AV) {ms : List Nat} {i : Nat} {xs : List AV} {j : Nat}, argsAV ob ms i as = some xs → j ∈ mutIds ob ms i as → ∃ o, ob.obj j = some o ∧ o.frz = false
  | [], _, _, _, _, _, hj => by cases hj
  | x :: as, ms, i, xs, j, hx, hj => by
    simp only [argsAV] at hx
    split at hx
    · rename_i y ys hy hys
      have hrec : j ∈ mutIds ob ms (i + 1) as → ∃ o, ob.obj j = some o ∧ o.frz = false := fun hm => mut_free as hys hm
      cases x with
      | tup l => exact hrec (by simpa [mutIds] using hj)
      | fn f p q => exact hrec (by simpa [mutIds] using hj)
      | s x =>
        cases x with
        | adr j' f =>
          cases f with
          | some f => exact hrec (by simpa [mutIds] using hj)
          | none =>
            simp only [mutIds] at hj
            split at hj
            · rename_i k z hob
              rcases List.mem_cons.1 hj with rfl | hj
              · exact ⟨_, hob, rfl⟩
              · exact hrec hj
            · exact hrec hj
        | osl j' ver =>
          simp only [mutIds] at hj
          split at hj
          · rename_i hms
            rcases List.mem_cons.1 hj with rfl | hj
            · simp only [argAV] at hy
              split at hy
              · rename_i e k l ver' fz hob
                split at hy
                · skip
                  cases fz with
                  | true => cases hy
                  | false => exact ⟨_, hob, rfl⟩
                · cases hy
              · cases hy
            · exact hrec hj
          · exact hrec hj
        | _ => exact hrec (by simpa [mutIds] using hj)
    · cases hx

theorem frzAll_frozen : ∀ (as : List AV) (ob0 : Obs) {i ver : Nat} {e : TypeId} {k : Kd} {l : List k.ty} {ver' : Nat} {z : Bool}, AV.s (.osl i ver) ∈ as → ob0.obj i = some (.row e k l ver' z) → Frozen (frzAll ob0 as) i
  | [], _, _, _, _, _, _, _, _, hm, _ => by cases hm
  | x :: as, ob0, i, ver, e, k, l, ver', z, hm, ho => by
    rcases List.mem_cons.1 hm with rfl | hm
    · refine Frozen.le (fun o ho' => ?_) (frzAll_le as _)
      simp only [frz, ho, obj_setOb _ _ _ _ (obj_lt ho), if_true, Option.some.injEq] at ho'
      subst ho'
      rfl
    · have step : ∀ ob1, ObLe ob0 ob1 → Frozen (frzAll ob1 as) i := fun ob1 hle => by
        obtain ⟨o', ho', z', rfl, _⟩ := hle.fwd _ _ ho
        exact frzAll_frozen as ob1 hm ho'
      cases x with
      | tup l => exact step ob0 (ObLe.refl _)
      | fn f p q => exact step ob0 (ObLe.refl _)
      | s x => cases x with
        | osl j v => exact step _ (frz_le ob0 _)
        | _ => exact step ob0 (ObLe.refl _)

theorem ro_frozen : ∀ (as : List AV) {ms : List Nat} {i : Nat} {xs : List AV} {j : Nat}, argsAV ob ms i as = some xs → j ∈ roIds ob ms i as → Frozen ob j ∨ ∃ ver e k l ver' z, AV.s (.osl j ver) ∈ as ∧ ob.obj j = some (.row e k l ver' z)
  | [], _, _, _, _, _, hj => by cases hj
  | x :: as, ms, i, xs, j, hx, hj => by
    simp only [argsAV] at hx
    split at hx
    · rename_i y ys hy hys
      have hrec : j ∈ roIds ob ms (i + 1) as → Frozen ob j ∨ ∃ ver e k l ver' z, AV.s (.osl j ver) ∈ x :: as ∧ ob.obj j = some (.row e k l ver' z) := fun hm => by
        rcases ro_frozen as hys hm with h | ⟨ver, e, k, l, ver', z, h1, h2⟩
        · exact .inl h
        · exact .inr ⟨ver, e, k, l, ver', z, List.mem_cons_of_mem _ h1, h2⟩
      cases x with
      | tup l => exact hrec (by simpa [roIds] using hj)
      | fn f p q => exact hrec (by simpa [roIds] using hj)
      | s x =>
        cases x with
        | adr j' f =>
          cases f with
          | some f => exact hrec (by simpa [roIds] using hj)
          | none =>
            simp only [roIds] at hj
            simp only [argAV] at hy
            split at hj
            · exact hrec hj
            · rename_i hnb
              rcases List.mem_cons.1 hj with rfl | hj
              · left
                intro o ho
                rw [ho] at hy hnb
                cases o with
                | box k z fz => cases fz with
                  | true => rfl
                  | false => exact absurd rfl (hnb k z)
                | row => cases hy
              · exact hrec hj
        | osl j' ver =>
          simp only [roIds] at hj
          split at hj
          · exact hrec hj
          · rcases List.mem_cons.1 hj with rfl | hj
            · simp only [argAV] at hy
              split at hy
              · rename_i e k l ver' fz hob
                exact .inr ⟨ver, e, k, l, ver', fz, by simp, hob⟩
              · cases hy
            · exact hrec hj
        | _ => exact hrec (by simpa [roIds] using hj)
    · cases hx

end Go.AI
