/- A part of the road: what it proves stands in its last texts. -/
import Derived.Test.YtndnckjnnfnnnaaDoorAiC
import Derived.ChangeMaps5
section
/- A call of the evaluator's, by its contract, is one of the model's. -/
set_option autoImplicit false
set_option linter.unusedVariables false
set_option linter.unusedSimpArgs false
namespace Go.AI

variable {C : Cfg} {X : Ctx} {sl : List (Option AV)} {ob ob' : Obs} {a : Act} {w w' : World} {γ γ' : Nat → Value} {B B' : Nat → Prop} {o : Oper} {v : Option AV} {ps : List Prop}

def Frozen (ob : Obs) (i : Nat) : Prop := ∀ o, ob.obj i = some o → o.frz = true

theorem Ob.le_frz {o o' : Ob} (h : o.le o') (hz : o.frz = true) : o'.frz = true := by
  cases o <;> obtain ⟨z', rfl, hh⟩ := h <;> exact hh hz

theorem Frozen.le {i : Nat} (h : Frozen ob i) (hle : ObLe ob ob') : Frozen ob' i := fun o' ho' => by
  obtain ⟨o, ho, hl⟩ := hle.bwd i o' ho'
  exact Ob.le_frz hl (h o ho)

theorem plain_le (hle : ObLe ob ob') {x y : SV} (h : plain ob x = some y) : plain ob' x = some y := by
  cases x <;> simp only [plain] at h ⊢ <;> try exact h
  · rename_i i f
    cases f <;> simp only at h ⊢
    · split at h
      · rename_i k x z ho
        obtain ⟨o', ho', z', rfl, _⟩ := hle.fwd _ _ ho
        rw [ho']; exact h
      · cases h
    · cases h
  · split at h
    · rename_i e k l ver' z ho
      obtain ⟨o', ho', z', rfl, _⟩ := hle.fwd _ _ ho
      rw [ho']; exact h
    · cases h

theorem frz_frozen {x y : SV} {i : Nat} (hp : plain ob x = some y) (hi : svHas i x = true) : Frozen (frz ob x) i := by
  cases x <;> simp [svHas] at hi <;> simp only [plain, reduceCtorEq] at hp
  · rename_i j f
    subst hi
    cases f <;> simp only [reduceCtorEq] at hp
    split at hp
    · rename_i k x z ho
      intro o ho'
      simp only [frz, ho, obj_setOb _ _ _ _ (obj_lt ho), if_true, Option.some.injEq] at ho'
      subst ho'; rfl
    · cases hp
  · subst hi
    split at hp
    · rename_i ho
      intro o ho'
      simp only [frz, ho, obj_setOb _ _ _ _ (obj_lt ho), if_true, Option.some.injEq] at ho'
      subst ho'; rfl
    · cases hp

theorem frzs_frozen : ∀ (xs : List SV) (ob0 : Obs) {x y : SV} {i : Nat}, x ∈ xs → plain ob0 x = some y → svHas i x = true → Frozen (frzs ob0 xs) i
  | [], _, _, _, _, hm, _, _ => by cases hm
  | x0 :: xs, ob0, x, y, i, hm, hp, hi => by
    rcases List.mem_cons.1 hm with rfl | hm
    · exact (frz_frozen hp hi).le (frzs_le xs _)
    · exact frzs_frozen xs (frz ob0 x0) hm (plain_le (frz_le ob0 x0) hp) hi

/-- The block of what is nobody's own any more. -/
theorem InvG.letIn (h : InvG X ⟨sl, ob⟩ a w γ) (hle : ObLe ob ob') {i : Nat} {o : Ob} (ho : ob.obj i = some o) (hf : Frozen ob' i) {b : Nat} (hb : blk (γ i) = some b) : Bs X ob' γ b := by
  refine ⟨?_, fun j p hj hz hbj => ?_⟩
  · rcases h.fresh i o b ho hb with h1 | h1
    · exact .inr (.inl h1)
    · exact .inr (.inr h1)
  · by_cases e : j = i
    · subst e
      rw [hf p hj] at hz
      cases hz
    · obtain ⟨p', hp', _⟩ := hle.bwd j p hj
      exact h.dj i j o p' b ho hp' (Ne.symm e) hb hbj

theorem InvG.plainsIn (h : InvG X ⟨sl, ob⟩ a w γ) (hle : ObLe ob ob') : ∀ {xs ys : List SV} {us : List Value}, SlL w (Bs X ob γ) ob γ xs us → Go.AI.plains ob xs = some ys → (∀ x ∈ xs, ∀ i, svHas i x = true → Frozen ob' i) → SVsRep w (Bs X ob' γ) ys us
  | [], _, _, e, hp, _ => by cases hp; exact e
  | x :: xs, _, _, ⟨u, us, e, h1, h2⟩, hp, hf => by
    simp only [Go.AI.plains] at hp
    split at hp
    · rename_i y ys hy hys
      cases hp
      exact ⟨u, us, e, h.plain h1 hy (fun b hb => Bs.le hle hb) (fun i o hi ho b hb => h.letIn hle ho (hf x (by simp) i hi) hb), h.plainsIn hle h2 hys fun x hx => hf x (List.mem_cons_of_mem _ hx)⟩
    · cases hp

theorem plains_mem : ∀ {xs ys : List SV} {x : SV}, plains ob xs = some ys → x ∈ xs → ∃ y, plain ob x = some y
  | x0 :: xs, _, x, hp, hm => by
    simp only [plains] at hp
    split at hp
    · rename_i y ys hy hys
      rcases List.mem_cons.1 hm with rfl | hm
      · exact ⟨y, hy⟩
      · exact plains_mem hys hm
    · cases hp

theorem goes_makeFunc (h : InvG X ⟨sl, ob⟩ a w γ) {g : FuncId} {first caps : Array Operand} (ho : o.op = .makeFunc (.func g) first caps) (he : (match evSs (ev C sl) first.toList, evSs (ev C sl) caps.toList with
    | some xs, some ys => match plains ob xs, plains ob ys with
      | some xs', some ys' => some (some (AV.fn g xs' ys'), frzs ob (xs ++ ys), ([] : List Prop))
      | _, _ => none
    | _, _ => none) = some (v, ob', ps)) : Goes C X sl o a w v ob' := by
  split at he
  · rename_i xs ys hxs hys
    split at he
    · rename_i xs' ys' hxp hyp
      simp only [Option.some.injEq, Prod.mk.injEq] at he
      obtain ⟨rfl, rfl, _⟩ := he
      have hle := frzs_le (xs ++ ys) ob
      have r1 := h.plainsIn hle (evSs_rep h hxs) hxp fun x hx i hi => by
        obtain ⟨y, hy⟩ := plains_mem hxp hx
        exact frzs_frozen _ _ (List.mem_append_left _ hx) hy hi
      have r2 := h.plainsIn hle (evSs_rep h hys) hyp fun x hx i hi => by
        obtain ⟨y, hy⟩ := plains_mem hyp hx
        exact frzs_frozen _ _ (List.mem_append_right _ hx) hy hi
      exact Goes.value (u := .func (.func g) (first.map a.eval) (caps.map a.eval)) (by simp [execOp, ho, Instr.makeFunc]) (h.raise hle) fun z hz => by
        cases hz
        exact ⟨_, _, by rw [← Array.toList_map, ← Array.toList_map, Array.toArray_toList, Array.toArray_toList], r1, r2⟩
    · cases he
  · cases he

/-! ### Arguments -/

def SlAL (w : World) (B : Nat → Prop) (ob : Obs) (γ : Nat → Value) : List AV → List Value → Prop
  | [], vs => vs = []
  | x :: xs, vs => ∃ u us, vs = u :: us ∧ SlA w B ob γ x u ∧ SlAL w B ob γ xs us

/-- What a callee may be led to. -/
def Bc (X : Ctx) (ob : Obs) (γ : Nat → Value) (ro : List Nat) (b : Nat) : Prop := Bs X ob γ b ∨ ∃ i ∈ ro, (∃ o, ob.obj i = some o) ∧ blk (γ i) = some b

theorem args_rep (h : InvG X ⟨sl, ob⟩ a w γ) (ro : List Nat) (ms : List Nat) : ∀ (as : List AV) (i : Nat) (xs : List AV) (us : List Value), argsAV ob ms i as = some xs → SlAL w (Bs X ob γ) ob γ as us →
    (∀ j ∈ roIds ob ms i as, j ∈ ro) → ArgRep w (Bc X ob γ ro) xs us ((mutIds ob ms i as).map γ)
  | [], i, xs, us, hx, hu, _ => by cases hx; exact ⟨hu, rfl⟩
  | x :: as, i, xs, us, hx, hu, hro => by
    simp only [argsAV] at hx
    split at hx
    · rename_i y ys hy hys
      cases hx
      obtain ⟨u, us', rfl, h1, h2⟩ := hu
      have sub : ∀ b, Bs X ob γ b → Bc X ob γ ro b := fun b hb => .inl hb
      have keepAV : ∀ z, AVRep w (Bs X ob γ) z u → AVRep w (Bc X ob γ ro) z u := fun z hz => AVRep.keep (Keeps.of_sub sub) hz
      cases x with
      | tup l => simp [argAV] at hy
      | fn f p q =>
        simp only [argAV, Option.some.injEq] at hy
        subst hy
        have ih := args_rep h ro ms as (i + 1) ys us' hys h2 (by simpa [roIds] using hro)
        exact ⟨u, us', rfl, keepAV _ h1, by simpa [mutIds] using ih⟩
      | s x =>
        cases x with
        | v k z =>
          simp only [argAV, plain, Option.map_some, Option.some.injEq] at hy
          subst hy
          have ih := args_rep h ro ms as (i + 1) ys us' hys h2 (by simpa [roIds] using hro)
          exact ⟨u, us', rfl, keepAV (.s (.v k z)) h1, by simpa [mutIds] using ih⟩
        | nilsl e k =>
          simp only [argAV, plain, Option.map_some, Option.some.injEq] at hy
          subst hy
          have ih := args_rep h ro ms as (i + 1) ys us' hys h2 (by simpa [roIds] using hro)
          refine ⟨u, us', rfl, ?_, by simpa [mutIds] using ih⟩
          rw [show u = _ from h1]
          exact RepV.mk_sl (a := none) (c := 0) (l := []) (flat := []) (Nat.le_refl _) rfl (fun _ => rfl) (fun ad had => by cases had)
        | fadr k z =>
          simp only [argAV, plain, Option.map_some, Option.some.injEq] at hy
          subst hy
          have ih := args_rep h ro ms as (i + 1) ys us' hys h2 (by simpa [roIds] using hro)
          exact ⟨u, us', rfl, keepAV (.s (.fadr k z)) h1, by simpa [mutIds] using ih⟩
        | oel i' ver j f => simp [argAV, plain] at hy
        | own e k l => simp [argAV, plain] at hy
        | mbx k z => simp [argAV, plain] at hy
        | msl e k l => simp [argAV, plain] at hy
        | mmp k l => simp [argAV, plain] at hy
        | omp j =>
          obtain ⟨_, hu⟩ := h1
          subst hu
          simp only [argAV] at hy
          cases hob : ob.obj j with
          | none => rw [hob] at hy; cases hy
          | some oo =>
            rw [hob] at hy
            cases oo with
            | box k z fz => cases hy
            | row e k l ver z => cases hy
            | mp k l fz =>
              cases fz with
              | true => cases hy
              | false =>
                simp only [Option.some.injEq] at hy
                subst hy
                have ih := args_rep h ro ms as (i + 1) ys us' hys h2 (by simpa [roIds] using hro)
                simp only [mutIds, List.map_cons]
                exact ⟨γ j, us', _, rfl, rfl, MapAt.keep (h.ob _ _ hob) (fun _ _ => rfl), ih⟩
        | adr j f =>
          cases f with
          | some f => simp [argAV, plain] at hy
          | none =>
            obtain ⟨_, b, hb, e⟩ := h1
            have hu : u = γ j := by rw [hb]; exact e
            subst hu
            simp only [argAV] at hy
            cases hob : ob.obj j with
            | none => rw [hob] at hy; cases hy
            | some oo =>
              rw [hob] at hy
              cases oo with
              | row e k l ver z => cases hy
              | mp k l z => cases hy
              | box k z fz =>
                have hbox := h.ob _ _ hob
                cases fz with
                | false =>
                  simp only [Option.some.injEq] at hy
                  subst hy
                  have ih := args_rep h ro ms as (i + 1) ys us' hys h2 (by simpa [roIds, hob] using hro)
                  simp only [mutIds, hob, List.map_cons]
                  exact ⟨γ j, us', _, rfl, rfl, BoxAt.keep (Keeps.of_sub sub) hbox (fun _ _ => rfl), ih⟩
                | true =>
                  simp only [Option.some.injEq] at hy
                  subst hy
                  have hro' : ∀ j' ∈ j :: roIds ob ms (i + 1) as, j' ∈ ro := by simpa [roIds, hob] using hro
                  have ih := args_rep h ro ms as (i + 1) ys us' hys h2 fun j' hj' => hro' j' (List.mem_cons_of_mem _ hj')
                  simp only [mutIds, hob]
                  exact ⟨γ j, us', rfl, BoxAt.view hbox sub (fun b hb => .inr ⟨j, hro' j (by simp), ⟨_, hob⟩, hb⟩), ih⟩
        | osl j ver =>
          simp only [argAV] at hy
          cases hob : ob.obj j with
          | none => rw [hob] at hy; cases hy
          | some oo =>
            rw [hob] at hy
            cases oo with
            | box k z fz => cases hy
            | mp k l z => cases hy
            | row e k l ver' fz =>
              simp only at hy
              split at hy
              · rename_i hver
                subst hver
                have hu := h1.2 _ _ _ _ hob
                subst hu
                have hrow := h.ob _ _ hob
                split at hy
                · rename_i hms
                  split at hy
                  · cases hy
                  · simp only [Option.some.injEq] at hy
                    subst hy
                    have ih := args_rep h ro ms as (i + 1) ys us' hys h2 (by simp only [roIds, hms, if_true] at hro; exact hro)
                    simp only [mutIds, hms, if_true, List.map_cons]
                    exact ⟨γ j, us', _, rfl, rfl, OwnRow.keep (Keeps.of_sub sub) hrow (fun _ _ => rfl), ih⟩
                · rename_i hms
                  simp only [Option.some.injEq] at hy
                  subst hy
                  have hro' : ∀ j' ∈ j :: roIds ob ms (i + 1) as, j' ∈ ro := by simp only [roIds, hms, if_false] at hro; exact hro
                  have ih := args_rep h ro ms as (i + 1) ys us' hys h2 fun j' hj' => hro' j' (List.mem_cons_of_mem _ hj')
                  simp only [mutIds, hms, if_false]
                  exact ⟨γ j, us', rfl, OwnRow.view hrow sub (fun b hb => .inr ⟨j, hro' j (by simp), ⟨_, hob⟩, hb⟩), ih⟩
              · cases hy
    · cases hx


/-! ### What comes back -/

def Shape : Ob → Ob → Prop
  | .box _ _ _, .box _ _ _ => True
  | .row _ k _ ver _, .row _ k' _ ver' _ => ver' = ver ∧ k' = k
  | .mp _ _ _, .mp _ _ _ => True
  | _, _ => False

theorem Shape.of_le {o o' : Ob} (h : o.le o') : Shape o o' := by
  cases o <;> obtain ⟨z, rfl, _⟩ := h <;> simp [Shape]

/-- FROM ONE WORLD TO A LATER ONE, some objects changed, some new. -/
theorem InvG.jump (h : InvG X ⟨sl, ob⟩ a w γ) {ob3 : Obs} {γ3 : Nat → Value} (hfr : Fr X.w0 X.mv w')
    (hold : ∀ i o, ob.obj i = some o → γ3 i = γ i ∧ ∃ o3, ob3.obj i = some o3 ∧ Shape o o3 ∧ ObRep w' (Bs X ob3 γ3) (γ i) o3)
    (hnew : ∀ i o3, ob3.obj i = some o3 → ob.obj i = none → ObRep w' (Bs X ob3 γ3) (γ3 i) o3 ∧ ∀ b, blk (γ3 i) = some b → w.heap.size ≤ b)
    (hdj : ∀ i j o p b, ob3.obj i = some o → ob3.obj j = some p → ob.obj i = none → ob.obj j = none → i ≠ j → blk (γ3 i) = some b → blk (γ3 j) ≠ some b)
    (K : Keeps w w' (Bs X ob γ) (Bs X ob3 γ3)) :
    InvG X ⟨sl, ob3⟩ a w' γ3 := by
  have bwd : ∀ i o3, ob3.obj i = some o3 → (∃ o, ob.obj i = some o) ∨ ob.obj i = none := fun i o3 _ => by
    cases hx : ob.obj i with
    | none => exact .inr rfl
    | some o => exact .inl ⟨o, rfl⟩
  have S : ∀ x u, SlS w (Bs X ob γ) ob γ x u → SlS w' (Bs X ob3 γ3) ob3 γ3 x u := by
    intro x u hx
    cases x <;> simp only [SlS] at hx ⊢
    · exact hx.keep K
    · exact hx
    · exact RepA.keep K hx
    · obtain ⟨⟨k, x, z, h1⟩, b, h2, h3⟩ := hx
      obtain ⟨hg, o3, ho3, hs, _⟩ := hold _ _ h1
      cases o3 <;> simp only [Shape] at hs
      exact ⟨⟨_, _, _, ho3⟩, b, by rw [hg]; exact h2, h3⟩
    · obtain ⟨⟨e, k, l, ver', z, h1, hv⟩, h2⟩ := hx
      obtain ⟨hg, o3, ho3, hs, _⟩ := hold _ _ h1
      cases o3 <;> simp only [Shape] at hs
      obtain ⟨rfl, rfl⟩ := hs
      refine ⟨⟨_, _, _, _, _, ho3, hv⟩, fun e2 k2 l2 z2 hi => ?_⟩
      rw [ho3] at hi
      cases hi
      rw [hg]
      exact h2 _ _ _ _ h1
    · obtain ⟨⟨e, k, l, ver', z, h1, hv⟩, h2⟩ := hx
      obtain ⟨hg, o3, ho3, hs, _⟩ := hold _ _ h1
      cases o3 <;> simp only [Shape] at hs
      obtain ⟨rfl, rfl⟩ := hs
      refine ⟨⟨_, _, _, _, _, ho3, hv⟩, fun e2 k2 l2 z2 hi => ?_⟩
      rw [ho3] at hi
      cases hi
      rw [hg]
      exact h2 _ _ _ _ h1
    · obtain ⟨⟨k, l, z, h1⟩, h2⟩ := hx
      obtain ⟨hg, o3, ho3, hs, _⟩ := hold _ _ h1
      cases o3 <;> simp only [Shape] at hs
      exact ⟨⟨_, _, _, ho3⟩, by rw [hg]; exact h2⟩
  refine ⟨hfr, h.df, h.sz, fun i o3 hi => ?_, fun i j p q b hi hj hij hb hbj => ?_, fun i o3 b hi hb => ?_, fun i u hi => ?_, fun t u ht => SlA.imp K S (h.sl t u ht)⟩
  · rcases bwd i o3 hi with ⟨o, ho⟩ | hn
    · obtain ⟨hg, o3', ho3, _, hr⟩ := hold i o ho
      rw [hi] at ho3
      cases ho3
      rw [hg]
      exact hr
    · exact (hnew i o3 hi hn).1
  · rcases bwd i p hi with ⟨o, ho⟩ | hn <;> rcases bwd j q hj with ⟨o', ho'⟩ | hn'
    · rw [(hold i o ho).1] at hb
      rw [(hold j o' ho').1] at hbj
      exact h.dj i j o o' b ho ho' hij hb hbj
    · rw [(hold i o ho).1] at hb
      have := (hnew j q hj hn').2 b hbj
      have := (h.ob i o ho).lt hb
      omega
    · rw [(hold j o' ho').1] at hbj
      have := (hnew i p hi hn).2 b hb
      have := (h.ob j o' ho').lt hbj
      omega
    · exact hdj i j p q b hi hj hn hn' hij hb hbj
  · rcases bwd i o3 hi with ⟨o, ho⟩ | hn
    · rw [(hold i o ho).1] at hb
      exact h.fresh i o b ho hb
    · have := (hnew i o3 hi hn).2 b hb
      have := h.fr.size
      exact .inl (by omega)
  · obtain ⟨o, ho, hv⟩ := h.pm i u hi
    obtain ⟨hg, o3, ho3, hs, _⟩ := hold i o ho
    refine ⟨o3, ho3, fun hr => ?_⟩
    rw [hg]
    refine hv fun e k l ver z heq => ?_
    subst heq
    cases o3 <;> simp only [Shape] at hs
    rw [← hs.1]
    exact hr _ _ _ _ _ rfl

/-- What a result's rows become. -/
structure Land (w' : World) (D : Nat → Prop) (N : Nat) (Q : SV → Prop) (ob2 ob3 : Obs) (γ γ3 : Nat → Value) (os : List Nat) : Prop where
  keep : ∀ i o, ob2.obj i = some o → ob3.obj i = some o ∧ γ3 i = γ i
  new : ∀ i o, ob3.obj i = some o → ob2.obj i = none → ∃ e k l, o = .row e k l 0 false ∧ Q (.own e k l) ∧ OwnRow w' D N e k l (γ3 i) ∧ ∀ b, blk (γ3 i) = some b → b ∈ os
  dj : ∀ i j o p b, ob3.obj i = some o → ob3.obj j = some p → ob2.obj i = none → ob2.obj j = none → i ≠ j → blk (γ3 i) = some b → blk (γ3 j) ≠ some b

theorem Land.refl {D : Nat → Prop} {N : Nat} {Q : SV → Prop} (ob2 : Obs) (γ : Nat → Value) (os : List Nat) : Land w' D N Q ob2 ob2 γ γ os :=
  ⟨fun i o h => ⟨h, rfl⟩, (fun i o h hn => by rw [hn] at h; cases h), (fun i j o p b h _ hn => by rw [hn] at h; cases h)⟩

def LandS (w' : World) (D : Nat → Prop) (Q : SV → Prop) (ob3 : Obs) (γ3 : Nat → Value) : SV → Value → Prop
  | .osl d ver, u => (∃ e k l, ob3.obj d = some (.row e k l ver false)) ∧ u = γ3 d
  | y, u => SVRep w' D y u ∧ Q y

def LandL (w' : World) (D : Nat → Prop) (Q : SV → Prop) (ob3 : Obs) (γ3 : Nat → Value) : List SV → List Value → Prop
  | [], vs => vs = []
  | x :: xs, vs => ∃ u us, vs = u :: us ∧ LandS w' D Q ob3 γ3 x u ∧ LandL w' D Q ob3 γ3 xs us

theorem landS_rep {D : Nat → Prop} {N : Nat} {Q : SV → Prop} {ob2 ob3 : Obs} {ids ids' : List Nat} {x y : SV} {u : Value} {os : List Nat} (γ : Nat → Value) (h : landS ob2 ids x = some (y, ids', ob3)) (hr : ResS w' D N x u os) (hQ : Q x) :
    ∃ γ3, Land w' D N Q ob2 ob3 γ γ3 os ∧ LandS w' D Q ob3 γ3 y u := by
  cases x <;> simp only [landS, reduceCtorEq, Option.some.injEq, Prod.mk.injEq] at h
  · obtain ⟨rfl, rfl, rfl⟩ := h
    exact ⟨γ, Land.refl _ _ _, hr.1, hQ⟩
  · obtain ⟨rfl, rfl, rfl⟩ := h
    exact ⟨γ, Land.refl _ _ _, hr.1, hQ⟩
  · rename_i e k l
    split at h
    · cases h
    · rename_i d ids2
      split at h
      · rename_i hod
        split at h
        · rename_i hlt
          simp only [Option.some.injEq, Prod.mk.injEq] at h
          obtain ⟨rfl, rfl, rfl⟩ := h
          obtain ⟨hrow, hos⟩ := hr
          have hobj : ∀ i, (ob2.setOb d (some (.row e k l 0 false))).obj i = if i = d then some (.row e k l 0 false) else ob2.obj i := fun i => obj_setOb _ _ _ _ hlt
          refine ⟨upd γ d u, ⟨fun i o hi => ?_, fun i o hi hn => ?_, fun i j o p b hi hj hn hn' hij hb => ?_⟩, ⟨e, k, l, by rw [hobj, if_pos rfl]⟩, (upd_same _ _ _).symm⟩
          · have : i ≠ d := fun e => by subst e; rw [hod] at hi; cases hi
            exact ⟨by rw [hobj, if_neg this]; exact hi, upd_ne _ _ this⟩
          · rw [hobj] at hi
            by_cases ee : i = d
            · subst ee
              rw [if_pos rfl] at hi
              cases hi
              rw [upd_same]
              exact ⟨e, k, l, rfl, hQ, hrow, fun b hb => by rw [hos, hb]; simp⟩
            · rw [if_neg ee, hn] at hi
              cases hi
          · rw [hobj] at hi hj
            by_cases ee : i = d
            · subst ee
              rw [if_neg (Ne.symm hij), hn'] at hj
              cases hj
            · rw [if_neg ee, hn] at hi
              cases hi
        · cases h
      · cases h

theorem LandS.le {D : Nat → Prop} {N : Nat} {Q : SV → Prop} {ob2 ob3 : Obs} {γ2 γ3 : Nat → Value} {os : List Nat} (hl : Land w' D N Q ob2 ob3 γ2 γ3 os) {y : SV} {u : Value} (h : LandS w' D Q ob2 γ2 y u) : LandS w' D Q ob3 γ3 y u := by
  cases y <;> simp only [LandS] at h ⊢ <;> try exact h
  obtain ⟨⟨e, k, l, h1⟩, h2⟩ := h
  obtain ⟨h3, h4⟩ := hl.keep _ _ h1
  exact ⟨⟨e, k, l, h3⟩, by rw [h2, h4]⟩

theorem Land.trans {D : Nat → Prop} {N : Nat} {Q : SV → Prop} {ob1 ob2 ob3 : Obs} {γ1 γ2 γ3 : Nat → Value} {os1 os2 : List Nat} (h1 : Land w' D N Q ob1 ob2 γ1 γ2 os1) (h2 : Land w' D N Q ob2 ob3 γ2 γ3 os2) (hn : (os1 ++ os2).Nodup) :
    Land w' D N Q ob1 ob3 γ1 γ3 (os1 ++ os2) := by
  have mid : ∀ i, (∃ o, ob2.obj i = some o) ∨ ob2.obj i = none := fun i => by
    cases hx : ob2.obj i with
    | none => exact .inr rfl
    | some o => exact .inl ⟨o, rfl⟩
  refine ⟨fun i o hi => ?_, fun i o hi hn' => ?_, fun i j o p b hi hj hni hnj hij hb hbj => ?_⟩
  · obtain ⟨h3, h4⟩ := h1.keep i o hi
    obtain ⟨h5, h6⟩ := h2.keep i o h3
    exact ⟨h5, h6.trans h4⟩
  · rcases mid i with ⟨o2, ho2⟩ | hn2
    · obtain ⟨h5, h6⟩ := h2.keep i o2 ho2
      rw [hi] at h5
      cases h5
      obtain ⟨e, k, l, h7, hq, h8, h9⟩ := h1.new i o ho2 hn'
      exact ⟨e, k, l, h7, hq, by rw [h6]; exact h8, fun b hb => List.mem_append_left _ (h9 b (by rw [← h6]; exact hb))⟩
    · obtain ⟨e, k, l, h7, hq, h8, h9⟩ := h2.new i o hi hn2
      exact ⟨e, k, l, h7, hq, h8, fun b hb => List.mem_append_right _ (h9 b hb)⟩
  · rcases mid i with ⟨o2, ho2⟩ | hn2 <;> rcases mid j with ⟨p2, hp2⟩ | hm2
    · obtain ⟨h5, h6⟩ := h2.keep i o2 ho2
      obtain ⟨h7, h8⟩ := h2.keep j p2 hp2
      rw [h6] at hb
      rw [h8] at hbj
      exact h1.dj i j o2 p2 b ho2 hp2 hni hnj hij hb hbj
    · obtain ⟨h5, h6⟩ := h2.keep i o2 ho2
      rw [h6] at hb
      obtain ⟨_, _, _, _, _, _, m1⟩ := h1.new i o2 ho2 hni
      obtain ⟨_, _, _, _, _, _, m2⟩ := h2.new j p hj hm2
      exact (List.nodup_append.1 hn).2.2 _ (m1 b hb) _ (m2 b hbj) rfl
    · obtain ⟨h7, h8⟩ := h2.keep j p2 hp2
      rw [h8] at hbj
      obtain ⟨_, _, _, _, _, _, m1⟩ := h1.new j p2 hp2 hnj
      obtain ⟨_, _, _, _, _, _, m2⟩ := h2.new i o hi hn2
      exact (List.nodup_append.1 hn).2.2 _ (m1 b hbj) _ (m2 b hb) rfl
    · exact h2.dj i j o p b hi hj hn2 hm2 hij hb hbj

theorem landL_rep {D : Nat → Prop} {N : Nat} {Q : SV → Prop} : ∀ (xs : List SV) {ob2 ob3 : Obs} {ids : List Nat} {ys : List SV} {us : List Value} {os : List Nat} (γ : Nat → Value), landL ob2 ids xs = some (ys, ob3) → ResL w' D N xs us os → os.Nodup → (∀ x ∈ xs, Q x) →
    ∃ γ3, Land w' D N Q ob2 ob3 γ γ3 os ∧ LandL w' D Q ob3 γ3 ys us
  | [], ob2, ob3, ids, ys, us, os, γ, h, hr, hn, hQ => by
    simp only [landL, Option.some.injEq, Prod.mk.injEq] at h
    obtain ⟨rfl, rfl⟩ := h
    exact ⟨γ, Land.refl _ _ _, hr.1⟩
  | x :: xs, ob2, ob3, ids, ys, us, os, γ, h, hr, hn, hQ => by
    simp only [landL] at h
    split at h
    · rename_i y ids' ob1 hs
      split at h
      · rename_i ys' ob4 hl
        simp only [Option.some.injEq, Prod.mk.injEq] at h
        obtain ⟨rfl, rfl⟩ := h
        obtain ⟨u, us', o1, o2, rfl, rfl, hr1, hr2⟩ := hr
        obtain ⟨γ1, hl1, hy1⟩ := landS_rep γ hs hr1 (hQ x (by simp))
        obtain ⟨γ3, hl2, hy2⟩ := landL_rep xs γ1 hl hr2 (List.nodup_append.1 hn).2.1 (fun x hx => hQ x (List.mem_cons_of_mem _ hx))
        exact ⟨γ3, hl1.trans hl2 hn, u, us', rfl, hy1.le hl2, hy2⟩
      · cases h
    · cases h


/-! ### The call -/

theorem mut_free : ∀ (as : List AV) {ms : List Nat} {i : Nat} {xs : List AV} {j : Nat}, argsAV ob ms i as = some xs → j ∈ mutIds ob ms i as → ∃ o, ob.obj j = some o ∧ o.frz = false
  | [], _, _, _, _, _, hj => by cases hj
  | x :: as, ms, i, xs, j, hx, hj => by
    simp only [argsAV] at hx
    split at hx
    · rename_i y ys hy hys
      have hrec : j ∈ mutIds ob ms (i + 1) as → ∃ o, ob.obj j = some o ∧ o.frz = false := fun hm => mut_free as hys hm
      cases x with
      | tup l => exact hrec (by simpa [mutIds] using hj)
      | fn f p q => exact hrec (by simpa [mutIds] using hj)
      | s x =>
        cases x with
        | adr j' f =>
          cases f with
          | some f => exact hrec (by simpa [mutIds] using hj)
          | none =>
            simp only [mutIds] at hj
            split at hj
            · rename_i k z hob
              rcases List.mem_cons.1 hj with rfl | hj
              · exact ⟨_, hob, rfl⟩
              · exact hrec hj
            · exact hrec hj
        | osl j' ver =>
          simp only [mutIds] at hj
          split at hj
          · rename_i hms
            rcases List.mem_cons.1 hj with rfl | hj
            · simp only [argAV] at hy
              split at hy
              · rename_i e k l ver' fz hob
                split at hy
                · skip
                  cases fz with
                  | true => cases hy
                  | false => exact ⟨_, hob, rfl⟩
                · cases hy
              · cases hy
            · exact hrec hj
          · exact hrec hj
        | omp j' =>
          simp only [mutIds] at hj
          rcases List.mem_cons.1 hj with rfl | hj
          · simp only [argAV] at hy
            split at hy
            · rename_i k l hob
              exact ⟨_, hob, rfl⟩
            · cases hy
          · exact hrec hj
        | _ => exact hrec (by simpa [mutIds] using hj)
    · cases hx

theorem frzAll_frozen : ∀ (as : List AV) (ob0 : Obs) {i ver : Nat} {e : TypeId} {k : Kd} {l : List k.ty} {ver' : Nat} {z : Bool}, AV.s (.osl i ver) ∈ as → ob0.obj i = some (.row e k l ver' z) → Frozen (frzAll ob0 as) i
  | [], _, _, _, _, _, _, _, _, hm, _ => by cases hm
  | x :: as, ob0, i, ver, e, k, l, ver', z, hm, ho => by
    rcases List.mem_cons.1 hm with rfl | hm
    · refine Frozen.le (fun o ho' => ?_) (frzAll_le as _)
      simp only [frz, ho, obj_setOb _ _ _ _ (obj_lt ho), if_true, Option.some.injEq] at ho'
      subst ho'
      rfl
    · have step : ∀ ob1, ObLe ob0 ob1 → Frozen (frzAll ob1 as) i := fun ob1 hle => by
        obtain ⟨o', ho', z', rfl, _⟩ := hle.fwd _ _ ho
        exact frzAll_frozen as ob1 hm ho'
      cases x with
      | tup l => exact step ob0 (ObLe.refl _)
      | fn f p q => exact step ob0 (ObLe.refl _)
      | s x => cases x with
        | osl j v => exact step _ (frz_le ob0 _)
        | _ => exact step ob0 (ObLe.refl _)

theorem ro_frozen : ∀ (as : List AV) {ms : List Nat} {i : Nat} {xs : List AV} {j : Nat}, argsAV ob ms i as = some xs → j ∈ roIds ob ms i as → Frozen ob j ∨ ∃ ver e k l ver' z, AV.s (.osl j ver) ∈ as ∧ ob.obj j = some (.row e k l ver' z)
  | [], _, _, _, _, _, hj => by cases hj
  | x :: as, ms, i, xs, j, hx, hj => by
    simp only [argsAV] at hx
    split at hx
    · rename_i y ys hy hys
      have hrec : j ∈ roIds ob ms (i + 1) as → Frozen ob j ∨ ∃ ver e k l ver' z, AV.s (.osl j ver) ∈ x :: as ∧ ob.obj j = some (.row e k l ver' z) := fun hm => by
        rcases ro_frozen as hys hm with h | ⟨ver, e, k, l, ver', z, h1, h2⟩
        · exact .inl h
        · exact .inr ⟨ver, e, k, l, ver', z, List.mem_cons_of_mem _ h1, h2⟩
      cases x with
      | tup l => exact hrec (by simpa [roIds] using hj)
      | fn f p q => exact hrec (by simpa [roIds] using hj)
      | s x =>
        cases x with
        | adr j' f =>
          cases f with
          | some f => exact hrec (by simpa [roIds] using hj)
          | none =>
            simp only [roIds] at hj
            simp only [argAV] at hy
            split at hj
            · exact hrec hj
            · rename_i hnb
              rcases List.mem_cons.1 hj with rfl | hj
              · left
                intro o ho
                rw [ho] at hy hnb
                cases o with
                | box k z fz => cases fz with
                  | true => rfl
                  | false => exact absurd rfl (hnb k z)
                | row => cases hy
                | mp => cases hy
              · exact hrec hj
        | osl j' ver =>
          simp only [roIds] at hj
          split at hj
          · exact hrec hj
          · rcases List.mem_cons.1 hj with rfl | hj
            · simp only [argAV] at hy
              split at hy
              · rename_i e k l ver' fz hob
                exact .inr ⟨ver, e, k, l, ver', fz, by simp, hob⟩
              · cases hy
            · exact hrec hj
        | _ => exact hrec (by simpa [roIds] using hj)
    · cases hx

end Go.AI
end

section
/- A call, met by its contract. -/
set_option autoImplicit false
set_option linter.unusedVariables false
set_option linter.unusedSimpArgs false
namespace Go.AI

variable {C : Cfg} {X : Ctx} {sl : List (Option AV)} {ob ob' : Obs} {a : Act} {w w' : World} {γ γ' : Nat → Value} {B B' : Nat → Prop} {o : Oper} {v : Option AV} {ps : List Prop}

theorem SlAL.append : ∀ {xs ys : List AV} {us vs : List Value}, SlAL w B ob γ xs us → SlAL w B ob γ ys vs → SlAL w B ob γ (xs ++ ys) (us ++ vs)
  | [], _, _, _, e, h => by rw [show _ = [] from e]; exact h
  | _ :: _, _, _, _, ⟨u, us, e, h1, h2⟩, h => by rw [e]; exact ⟨u, us ++ _, rfl, h1, h2.append h⟩

theorem SVsRep.slots : ∀ {xs : List SV} {us : List Value}, SVsRep w B xs us → SlAL w B ob γ (xs.map .s) us
  | [], _, e => e
  | _ :: _, _, ⟨u, us, e, h1, h2⟩ => ⟨u, us, e, h1.slot, h2.slots⟩

theorem evArgs_rep (h : InvG X ⟨sl, ob⟩ a w γ) : ∀ {xs : List Operand} {ts : List TypeId} {vs : List AV}, evArgs (ev C sl) xs ts = some vs → SlAL w (Bs X ob γ) ob γ vs (xs.map a.eval)
  | [], _, _, e => by cases e; rfl
  | x :: xs, ts, _, e => by
    simp only [evArgs] at e
    split at e
    · rename_i y ys hy hys
      cases e
      exact ⟨_, _, rfl, ev_rep h hy, evArgs_rep h hys⟩
    · cases e

/-- One object set. -/
theorem setMO_spec {ob1 ob2 : Obs} {j : Nat} {m : MO} (h : setMO ob1 j m = some ob2) : ∃ o o2, ob1.obj j = some o ∧ o.frz = false ∧ ob2 = ob1.setOb j (some o2) ∧ Shape o o2 ∧ o2.frz = false ∧
    (∀ (w : World) (B : Nat → Prop) (v : Value), MOAt w B m v → ObRep w B v o2) ∧ (m.flat = true → ∀ (w w' : World) (B B' : Nat → Prop) (v : Value), (∀ b, blk v = some b → w'.heap[b]? = w.heap[b]?) → MOAt w B m v → ObRep w' B' v o2) := by
  cases m with
  | mp k' l' =>
    simp only [setMO] at h
    split at h
    · rename_i k l hob
      split at h
      · rename_i hk
        subst hk
        cases h
        exact ⟨_, _, hob, rfl, rfl, trivial, rfl, fun w B v hv => hv, fun hf w w' B B' v hb hv => MapAt.keep hv hb⟩
      · cases h
    · cases h
  | box k' x' =>
    simp only [setMO] at h
    split at h
    · rename_i k x hob
      split at h
      · rename_i hk
        subst hk
        cases h
        refine ⟨_, _, hob, rfl, rfl, trivial, rfl, fun w B v hv => hv, fun hf w w' B B' v hb hv => ?_⟩
        obtain ⟨b, cs, t, rfl, h1, h2⟩ := hv
        exact ⟨b, cs, t, rfl, by rw [hb b rfl]; exact h1, h2.flat hf⟩
      · cases h
    · cases h
  | row e' k' l' =>
    simp only [setMO] at h
    split at h
    · rename_i e k l ver hob
      split at h
      · rename_i hk
        subst hk
        split at h
        · rename_i he
          subst he
          cases h
          refine ⟨_, _, hob, rfl, rfl, ⟨rfl, rfl⟩, rfl, fun w B v hv => hv, fun hf w w' B B' v hb hv => ?_⟩
          obtain ⟨flat, h1, h2⟩ := hv
          refine ⟨flat, ⟨h1.1, ?_⟩, h2.mono fun _ _ h => h.flat hf⟩
          rcases h1.2 with h3 | ⟨g, cap, cur, rfl, h4, h5, h6⟩
          · exact .inl h3
          · exact .inr ⟨g, cap, cur, rfl, h4, by rw [hb g rfl]; exact h5, h6⟩
        · cases h
      · cases h
    · cases h

theorem run_call {P : Program} {o : Oper} {f : Operand} {args : Array Operand} {ts : Array TypeId} (ho : o.op = .call { callee := .value f, args := args, argTypes := ts }) {g : FuncId} {xs ys : Array Value} (hf : a.eval f = .func (.func g) xs ys) (hc : Callable P g) (w : World) :
    (execOp a.eval o).run P w = .ok (.enter g (xs ++ args.map a.eval ++ ys)) w := by
  obtain ⟨fn, h1, h2, h3⟩ := hc
  have hb : fn.body ≠ none := by cases hbd : fn.body <;> simp_all
  simp [execOp, ho, resolve, hf, Deferred.ofValue, invoke, callFunc, program, Sem.run, h1, h3, hb]

theorem Shape.trans {o1 o2 o3 : Ob} (h : Shape o1 o2) (h' : Shape o2 o3) : Shape o1 o3 := by
  cases o1 <;> cases o2 <;> simp only [Shape] at h <;> cases o3 <;> simp only [Shape] at h' ⊢
  exact ⟨h'.1.trans h.1, h'.2.trans h.2⟩

theorem callMut_spec {ob1 ob2 : Obs} {ms : List Nat} {as : List AV} {outs : List MO} (hle : ObLe ob ob1) (h : callMut ob ob1 ms as outs = some ob2) {w w' : World} {D : Nat → Prop} (hm : MOsAt w' D outs ((mutIds ob ms 0 as).map γ)) :
    (∀ i o, ob.obj i = some o → i ∉ mutIds ob ms 0 as → ∃ o2, ob2.obj i = some o2 ∧ o.le o2) ∧
    (∀ i o, ob.obj i = some o → i ∈ mutIds ob ms 0 as → ∃ o2, ob2.obj i = some o2 ∧ Shape o o2 ∧ ObRep w' D (γ i) o2 ∧ (outs.all MO.flat = true → ∀ D', ObRep w' D' (γ i) o2)) ∧
    (∀ i o2, ob2.obj i = some o2 → ∃ o o1, ob.obj i = some o ∧ ob1.obj i = some o1 ∧ (o2.frz = false → o1.frz = false) ∧ (o2.frz = false → o.frz = false)) := by
  unfold callMut at h
  split at h
  · rename_i hmu
    cases h
    refine ⟨fun i o hi _ => hle.fwd i o hi, (fun i o hi hm => by rw [hmu] at hm; cases hm), fun i o2 hi => ?_⟩
    obtain ⟨o, ho, hl⟩ := hle.bwd i o2 hi
    refine ⟨o, o2, ho, hi, id, fun hz => ?_⟩
    cases hf : o.frz with
    | false => rfl
    | true => rw [Ob.le_frz hl hf] at hz; cases hz
  · rename_i j mo hmu
    split at h
    · cases h
    · obtain ⟨o1, o2, ho1, hz1, rfl, hs, hz2, hrep, hflat⟩ := setMO_spec h
      have hlt := obj_lt ho1
      have hobj : ∀ i, (ob1.setOb j (some o2)).obj i = if i = j then some o2 else ob1.obj i := fun i => obj_setOb _ _ _ _ hlt
      rw [hmu] at hm ⊢
      refine ⟨fun i o hi hne => ?_, fun i o hi hm' => ?_, fun i p hi => ?_⟩
      · obtain ⟨o', ho', hl⟩ := hle.fwd i o hi
        have : i ≠ j := by simpa using hne
        exact ⟨o', by rw [hobj, if_neg this]; exact ho', hl⟩
      · have : i = j := by simpa using hm'
        subst this
        obtain ⟨o', ho', hl⟩ := hle.fwd i o hi
        rw [ho1] at ho'
        cases ho'
        obtain ⟨u, us, e, hmo, _⟩ := hm
        simp only [List.map_cons, List.map_nil] at e
        obtain ⟨rfl, _⟩ := List.cons.inj e
        exact ⟨o2, by rw [hobj, if_pos rfl], (Shape.of_le hl).trans hs, hrep _ _ _ hmo, fun hf D' => hflat (by simpa using hf) w' w' D D' _ (fun _ _ => rfl) hmo⟩
      · rw [hobj] at hi
        by_cases e : i = j
        · subst e
          rw [if_pos rfl] at hi
          cases hi
          obtain ⟨o, ho, hl⟩ := hle.bwd i o1 ho1
          refine ⟨o, o1, ho, ho1, fun _ => hz1, fun _ => ?_⟩
          cases hf : o.frz with
          | false => rfl
          | true => rw [Ob.le_frz hl hf] at hz1; cases hz1
        · rw [if_neg e] at hi
          obtain ⟨o, ho, hl⟩ := hle.bwd i p hi
          refine ⟨o, p, ho, hi, id, fun hz => ?_⟩
          cases hf : o.frz with
          | false => rfl
          | true => rw [Ob.le_frz hl hf] at hz; cases hz
  · cases h

def LandA (w' : World) (D : Nat → Prop) (Q : SV → Prop) (ob3 : Obs) (γ3 : Nat → Value) : AV → Value → Prop
  | .s y, u => LandS w' D Q ob3 γ3 y u
  | .tup ys, u => ∃ vs, u = .tuple vs.toArray ∧ LandL w' D Q ob3 γ3 ys vs
  | .fn f p q, u => AVRep w' D (.fn f p q) u

theorem landA_rep {D : Nat → Prop} {N : Nat} {Q : SV → Prop} {ob2 ob3 : Obs} {ids : List Nat} {r y : AV} {u : Value} {os : List Nat} (γ : Nat → Value) (h : landA ob2 ids r = some (y, ob3)) (hr : ResA w' D N r u os) (hn : os.Nodup)
    (hQ : ∀ x, (r = .s x ∨ ∃ l, r = .tup l ∧ x ∈ l) → Q x) : ∃ γ3, Land w' D N Q ob2 ob3 γ γ3 os ∧ LandA w' D Q ob3 γ3 y u := by
  cases r with
  | s x =>
    simp only [landA] at h
    split at h
    · rename_i z ids' ob4 hs
      simp only [Option.some.injEq, Prod.mk.injEq] at h
      obtain ⟨rfl, rfl⟩ := h
      exact landS_rep γ hs hr (hQ x (.inl rfl))
    · cases h
  | tup l =>
    simp only [landA] at h
    split at h
    · rename_i ys ob4 hs
      simp only [Option.some.injEq, Prod.mk.injEq] at h
      obtain ⟨rfl, rfl⟩ := h
      obtain ⟨vs, rfl, hl⟩ := hr
      obtain ⟨γ3, h1, h2⟩ := landL_rep l γ hs hl hn fun x hx => hQ x (.inr ⟨l, rfl, hx⟩)
      exact ⟨γ3, h1, vs, rfl, h2⟩
    · cases h
  | fn f p q =>
    simp only [landA, Option.some.injEq, Prod.mk.injEq] at h
    obtain ⟨rfl, rfl⟩ := h
    exact ⟨γ, Land.refl _ _ _, hr.1⟩

theorem goes_same (hC : CfgOK C) (h : InvG X ⟨sl, ob⟩ a w γ) {x : SV} {f : Operand} {args : Array Operand} {ts : Array TypeId} (ho : o.op = .call { callee := .value f, args := args, argTypes := ts })
    {g : FuncId} {first caps : List SV} {zs : List AV} (hf : ev C sl 0 f = some (.fn g first caps)) (hz : evArgs (ev C sl) args.toList ts.toList = some zs)
    (he : callStep C (.same x) g (first.map .s ++ zs ++ caps.map .s) ob = some (v, ob', ps)) (hp : All ps) : Goes C X sl o a w v ob' := by
  generalize has : first.map AV.s ++ zs ++ caps.map AV.s = as at he
  simp only [callStep] at he
  split at he
  · rename_i j ver rest xs hxs hmu
    split at he
    · rename_i hfl
      simp only [Option.some.injEq, Prod.mk.injEq] at he
      obtain ⟨rfl, rfl, rfl⟩ := he
      obtain ⟨hcall, hsc⟩ : SCS C.P g xs x := hp.1
      obtain ⟨fv, cv, hfe, hfr1, hfr2⟩ : AVRep w (Bs X ob γ) (.fn g first caps) (a.eval f) := ev_rep h hf
      have hargs : SlAL w (Bs X ob γ) ob γ (.s (.osl j ver) :: rest) (fv ++ args.toList.map a.eval ++ cv) := by
        rw [← has]
        exact (hfr1.slots.append (evArgs_rep h hz)).append hfr2.slots
      have hAR := args_rep h (roIds ob [] 0 (.s (.osl j ver) :: rest)) [] (.s (.osl j ver) :: rest) 0 xs _ hxs hargs (fun j hj => hj)
      rw [hmu, List.map_nil] at hAR
      intro Q'
      unfold Oper.wp
      rw [run_call ho hfe hcall w]
      show Calls C.P g _ w _
      have earr : fv.toArray ++ args.map a.eval ++ cv.toArray = (fv ++ args.toList.map a.eval ++ cv).toArray := by simp
      rw [earr]
      refine (hsc w _ _ hAR).mono ?_
      rintro e w' ⟨u, us, v', hvs, rfl, hfr, hx⟩
      show Inv X _ _ _
      have hblk : ∀ b, b < w.heap.size → w'.heap[b]? = w.heap[b]? := fun b hb => hfr.block b hb (fun u hu => by cases hu)
      have K : Keeps w w' (Bs X ob γ) (Bs X ob γ) := ⟨fun b hb hlt => ⟨hb, hblk b hlt⟩⟩
      have hfrX : Fr X.w0 X.mv w' := by
        refine ⟨hfr.os.trans h.fr.os, hfr.tape.trans h.fr.tape, hfr.output.trans h.fr.output, Nat.le_trans h.fr.size hfr.size, fun k hk hmv => ?_⟩
        rw [hblk k (Nat.lt_of_lt_of_le hk h.fr.size)]
        exact h.fr.block k hk hmv
      have hJ : InvG X ⟨sl, ob⟩ a w' γ := by
        refine h.jump hfrX (fun i o hi => ⟨rfl, o, hi, Shape.of_le (Ob.le_refl o), (h.ob i o hi).keep K fun b hb => hblk b ((h.ob i o hi).lt hb)⟩) (fun i o3 hi hn => ?_) (fun i j p q b hi hj hn hn' hij hb => ?_) K
        · rw [hn] at hi; cases hi
        · rw [hn] at hi; cases hi
      refine ⟨γ, hJ.put fun z hz => ?_⟩
      cases hz
      rw [hvs] at hargs
      obtain ⟨u2, us2, e2, h1, _⟩ := hargs
      obtain ⟨rfl, _⟩ := List.cons.inj e2
      refine ⟨[u, v'], rfl, u, [v'], rfl, h1, v', [], rfl, ?_, rfl⟩
      cases x <;> simp only [SV.flat, Bool.false_eq_true] at hfl
      · exact RepK_flat_of (r := .v _ _) hfl hx
      · exact hx.elim
    · cases he
  · cases he

theorem goes_call (hC : CfgOK C) (h : InvG X ⟨sl, ob⟩ a w γ) {it : It} {f : Operand} {args : Array Operand} {ts : Array TypeId} (ho : o.op = .call { callee := .value f, args := args, argTypes := ts })
    {g : FuncId} {first caps : List SV} {zs : List AV} (hf : ev C sl 0 f = some (.fn g first caps)) (hz : evArgs (ev C sl) args.toList ts.toList = some zs)
    (he : callStep C it g (first.map .s ++ zs ++ caps.map .s) ob = some (v, ob', ps)) (hp : All ps) : Goes C X sl o a w v ob' := by
  cases it
  case same x => exact goes_same hC h ho hf hz he hp
  all_goals
    generalize has : first.map AV.s ++ zs ++ caps.map AV.s = as at he
    unfold callStep at he
    simp only [reduceCtorEq] at he
  rename_i r outs ms ids
  cases hxs : argsAV ob ms 0 as with
  | none => simp [hxs] at he
  | some xs =>
  cases hob2 : callMut ob (callFrz ob as r outs) ms as outs with
  | none => simp [hxs, hob2] at he
  | some ob2 =>
  cases hland : landA ob2 ids r with
  | none => simp [hxs, hob2, hland] at he
  | some yo =>
  obtain ⟨y, ob3⟩ := yo
  simp only [hxs, hob2, hland, Option.some.injEq, Prod.mk.injEq] at he
  obtain ⟨rfl, rfl, rfl⟩ := he
  obtain ⟨hcall, hsc⟩ : SC C.P g xs r outs := hp.1
  obtain ⟨fv, cv, hfe, hfr1, hfr2⟩ : AVRep w (Bs X ob γ) (.fn g first caps) (a.eval f) := ev_rep h hf
  have hargs : SlAL w (Bs X ob γ) ob γ as (fv ++ args.toList.map a.eval ++ cv) := by
    rw [← has]
    exact (hfr1.slots.append (evArgs_rep h hz)).append hfr2.slots
  generalize hro : roIds ob ms 0 as = ro at *
  have hAR := args_rep h ro ms as 0 xs _ hxs hargs (fun j hj => hro ▸ hj)
  have hfree : ∀ j ∈ mutIds ob ms 0 as, ∃ o, ob.obj j = some o ∧ o.frz = false := fun j hj => mut_free as hxs hj
  generalize hmu : mutIds ob ms 0 as = mu at *
  -- what is changed is read by nobody
  have hdis : ∀ j ∈ mu, j ∉ ro := by
    intro j hj
    simp only [callMut, hmu, hro] at hob2
    match mu, outs, hob2, hj with
    | [j'], [mo], hob2, hj =>
      simp only at hob2
      split at hob2
      · cases hob2
      · rename_i hc
        simp at hj
        subst hj
        simpa using hc
  have hmu1 : mu.length ≤ 1 := by
    simp only [callMut, hmu, hro] at hob2
    match mu, outs, hob2 with
    | [], [], _ => simp
    | [j'], [mo], _ => simp
  have c1 : ∀ b, Bc X ob γ ro b → ∀ u ∈ mu.map γ, blk u ≠ some b := by
    intro b hb u hu
    obtain ⟨j, hj, rfl⟩ := List.mem_map.1 hu
    obtain ⟨oj, hoj, hzj⟩ := hfree j hj
    rcases hb with hb | ⟨i, hi, ⟨oi, hoi⟩, hbi⟩
    · exact hb.2 j oj hoj hzj
    · have hne : i ≠ j := fun e => hdis j hj (e ▸ hi)
      exact h.dj i j oi oj b hoi hoj hne hbi
  have c2 : ((mu.map γ).map blk).Pairwise (fun a b => a = none ∨ a ≠ b) := by
    match mu, hmu1 with
    | [], _ => exact List.Pairwise.nil
    | [j], _ => exact List.pairwise_singleton _ _
  intro Q'
  unfold Oper.wp
  rw [run_call ho hfe hcall w]
  show Calls C.P g _ w _
  have earr : fv.toArray ++ args.map a.eval ++ cv.toArray = (fv ++ args.toList.map a.eval ++ cv).toArray := by simp
  rw [earr]
  refine (hsc w (Bc X ob γ ro) _ _ c1 c2 hAR).mono ?_
  rintro e w' ⟨u, os, rfl, hfr, hnd, hosf, hres, houts⟩
  show Inv X _ _ _
  have hle1 : ObLe ob (callFrz ob as r outs) := by unfold callFrz; split; exact ObLe.refl _; exact frzAll_le _ _
  rw [← hmu] at houts hfree hfr c1
  obtain ⟨m1, m2, m3⟩ := callMut_spec (w := w) hle1 hob2 houts
  generalize hfl : (r.flat && outs.all MO.flat) = fl at *
  obtain ⟨γ3, hl, hy⟩ := landA_rep (Q := fun x => fl = true → x.flat = true) γ hland hres hnd (by
    intro x hx hf
    rw [hf, Bool.and_eq_true] at hfl
    rcases hx with rfl | ⟨l, rfl, hx⟩
    · exact hfl.1
    · simp only [AV.flat, List.all_eq_true] at hfl
      exact hfl.1 x hx)
  have hfrz : fl = false → ∀ i ∈ ro, Frozen (callFrz ob as r outs) i := fun hf i hi => by
    have e : callFrz ob as r outs = frzAll ob as := by unfold callFrz; rw [hfl, hf]; rfl
    rw [e]
    rcases ro_frozen as hxs (hro ▸ hi) with h1 | ⟨ver, e, k, l, ver', z, h1, h2⟩
    · exact h1.le (frzAll_le as ob)
    · exact frzAll_frozen as ob h1 h2
  -- an object that is still the call's own was so before
  have hown : ∀ i o3, ob3.obj i = some o3 → (∃ o o1, ob.obj i = some o ∧ (callFrz ob as r outs).obj i = some o1 ∧ γ3 i = γ i ∧ (o3.frz = false → o1.frz = false) ∧ (o3.frz = false → o.frz = false)) ∨ (ob.obj i = none ∧ ∀ b, blk (γ3 i) = some b → b ∈ os) := by
    intro i o3 hi
    cases h2 : ob2.obj i with
    | some o2 =>
      obtain ⟨h3, h4⟩ := hl.keep i o2 h2
      rw [hi] at h3
      cases h3
      obtain ⟨o, o1, ho, ho1, hz1, hz⟩ := m3 i o3 h2
      exact .inl ⟨o, o1, ho, ho1, h4, hz1, hz⟩
    | none =>
      obtain ⟨e, k, l, rfl, _, _, hb⟩ := hl.new i o3 hi h2
      refine .inr ⟨?_, hb⟩
      cases h1 : ob.obj i with
      | none => rfl
      | some o =>
        exfalso
        by_cases hm : i ∈ mutIds ob ms 0 as
        · obtain ⟨o2, h3, _⟩ := m2 i o h1 hm
          rw [h2] at h3; cases h3
        · obtain ⟨o2, h3, _⟩ := m1 i o h1 hm
          rw [h2] at h3; cases h3
  have K : Keeps w w' (Bs X ob γ) (Bs X ob3 γ3) := by
    refine ⟨fun b hb hlt => ⟨⟨hb.1, fun i o3 hi hz hbi => ?_⟩, hfr.block b hlt fun u hu => ?_⟩⟩
    · rcases hown i o3 hi with ⟨o, o1, ho, _, hg, _, hz'⟩ | ⟨_, hb'⟩
      · rw [hg] at hbi
        exact hb.2 i o ho (hz' hz) hbi
      · have := hosf b (hb' b hbi)
        omega
    · exact c1 b (.inl hb) u hu
  have hD : fl = false → ∀ b, After w (Bc X ob γ ro) os b → Bs X ob3 γ3 b := by
    intro hf b hb
    refine ⟨?_, fun i o3 hi hz hbi => ?_⟩
    · rcases hb.1 with (h1 | ⟨i, hi, ⟨oi, hoi⟩, hbi⟩) | h1
      · exact h1.1
      · rcases h.fresh i oi b hoi hbi with h2 | h2
        · exact .inr (.inl h2)
        · exact .inr (.inr h2)
      · exact .inr (.inl (Nat.le_trans h.fr.size h1))
    · rcases hown i o3 hi with ⟨o, o1, ho, ho1, hg, hz1, hz'⟩ | ⟨_, hb'⟩
      · rw [hg] at hbi
        have hlt := (h.ob i o ho).lt hbi
        rcases hb.1 with (h1 | ⟨j, hj, ⟨oj, hoj⟩, hbj⟩) | h1
        · exact h1.2 i o ho (hz' hz) hbi
        · by_cases e : j = i
          · subst e
            have := hfrz hf j hj o1 ho1
            rw [hz1 hz] at this
            cases this
          · exact h.dj j i oj o b hoj ho e hbj hbi
        · omega
      · exact hb.2 (hb' b hbi)
  have KD : fl = false → Keeps w' w' (After w (Bc X ob γ ro) os) (Bs X ob3 γ3) := fun hf => Keeps.of_sub (hD hf)
  have liftS : ∀ x u, SVRep w' (After w (Bc X ob γ ro) os) x u → (fl = true → x.flat = true) → SVRep w' (Bs X ob3 γ3) x u := by
    intro x u hx hq
    cases hf : fl with
    | true => exact RepK_flat_of (hq hf) hx
    | false => exact hx.keep (KD hf)
  have hfrX : Fr X.w0 X.mv w' := by
    refine ⟨hfr.os.trans h.fr.os, hfr.tape.trans h.fr.tape, hfr.output.trans h.fr.output, Nat.le_trans h.fr.size hfr.size, fun k hk hmv => ?_⟩
    rw [hfr.block k (Nat.lt_of_lt_of_le hk h.fr.size) fun u hu hbu => ?_]
    · exact h.fr.block k hk hmv
    · obtain ⟨j, hj, rfl⟩ := List.mem_map.1 hu
      obtain ⟨oj, hoj, _⟩ := hfree j hj
      rcases h.fresh j oj k hoj hbu with h1 | ⟨u, hu, hb⟩
      · omega
      · exact hmv u hu hb
  have hJ : InvG X ⟨sl, ob3⟩ a w' γ3 := by
    refine h.jump hfrX (fun i o hi => ?_) (fun i o3 hi hn => ?_) (fun i j p q b hi hj hn hn' hij hb => ?_) K
    · by_cases hm : i ∈ mutIds ob ms 0 as
      · obtain ⟨o2, h2, hs, hr, hrf⟩ := m2 i o hi hm
        obtain ⟨h3, h4⟩ := hl.keep i o2 h2
        refine ⟨h4, o2, h3, hs, ?_⟩
        cases hf : fl with
        | true => rw [hf, Bool.and_eq_true] at hfl; exact hrf hfl.2 _
        | false => exact hr.keep (KD hf) fun _ _ => rfl
      · obtain ⟨o2, h2, hle⟩ := m1 i o hi hm
        obtain ⟨h3, h4⟩ := hl.keep i o2 h2
        refine ⟨h4, o2, h3, Shape.of_le hle, ((h.ob i o hi).keep K fun b hb => hfr.block b ((h.ob i o hi).lt hb) fun u hu hbu => ?_).le hle⟩
        obtain ⟨j, hj, rfl⟩ := List.mem_map.1 hu
        obtain ⟨oj, hoj, _⟩ := hfree j hj
        exact h.dj i j o oj b hi hoj (fun e => hm (e ▸ hj)) hb hbu
    · have h2 : ob2.obj i = none := by
        cases h2 : ob2.obj i with
        | none => rfl
        | some o2 => obtain ⟨o, _, ho, _⟩ := m3 i o2 h2; rw [hn] at ho; cases ho
      obtain ⟨e, k, l, rfl, hq, hrow, hb⟩ := hl.new i o3 hi h2
      refine ⟨?_, fun b hbb => hosf b (hb b hbb)⟩
      obtain ⟨flat, hown', hr⟩ := hrow
      refine ⟨flat, ⟨hown'.1, ?_⟩, hr.mono fun x cs hx => ?_⟩
      · rcases hown'.2 with h1 | ⟨gg, cap, cur, e1, _, r⟩
        · exact .inl h1
        · exact .inr ⟨gg, cap, cur, e1, Nat.zero_le _, r⟩
      · cases hf : fl with
        | true => exact hx.flat (hq hf)
        | false => exact hx.keep (KD hf)
    · have h2 : ∀ i, ob.obj i = none → ob2.obj i = none := fun i hn => by
        cases h2 : ob2.obj i with
        | none => rfl
        | some o2 => obtain ⟨o, _, ho, _⟩ := m3 i o2 h2; rw [hn] at ho; cases ho
      exact hl.dj i j p q b hi hj (h2 i hn) (h2 j hn') hij hb
  have slot : ∀ z u, LandS w' (After w (Bc X ob γ ro) os) (fun x => fl = true → x.flat = true) ob3 γ3 z u → SlS w' (Bs X ob3 γ3) ob3 γ3 z u := by
    intro z u hz
    cases z with
    | osl d ver =>
      obtain ⟨⟨e, k, l, hd⟩, hu⟩ := hz
      exact ⟨⟨e, k, l, ver, false, hd, Nat.le_refl _⟩, fun _ _ _ _ _ => hu⟩
    | v k x => exact liftS (.v k x) u hz.1 hz.2
    | fadr k x => exact liftS (.fadr k x) u hz.1 hz.2
    | nilsl e k => exact hz.1
    | adr i f => exact hz.1.elim
    | oel i v j f => exact hz.1.elim
    | own e k l => exact hz.1.elim
    | mbx k x => exact hz.1.elim
    | msl e k l => exact hz.1.elim
    | omp i => exact hz.1.elim
    | mmp k l => exact hz.1.elim
  refine ⟨γ3, hJ.put fun z hz => ?_⟩
  cases hz
  cases y with
  | s z => exact slot z u hy
  | tup zs =>
    obtain ⟨vs, rfl, hl'⟩ := hy
    refine ⟨vs, rfl, ?_⟩
    have : ∀ (zs : List SV) (vs : List Value), LandL w' (After w (Bc X ob γ ro) os) (fun x => fl = true → x.flat = true) ob3 γ3 zs vs → SlL w' (Bs X ob3 γ3) ob3 γ3 zs vs := by
      intro zs
      induction zs with
      | nil => exact fun vs h => h
      | cons z zs ih => exact fun vs ⟨u, us, e, h1, h2⟩ => ⟨u, us, e, slot z u h1, ih us h2⟩
    exact this zs vs hl'
  | fn f' p q =>
    have hrf : fl = false := by
      cases hf : fl with
      | false => rfl
      | true =>
        exfalso
        rw [hf, Bool.and_eq_true] at hfl
        cases r <;> simp only [landA] at hland
        · split at hland <;> cases hland
        · split at hland <;> cases hland
        · simp [AV.flat] at hfl
    exact AVRep.keep (x := .fn f' p q) (KD hrf) hy

end Go.AI
end

section
/- Struct and slice literals. -/
set_option autoImplicit false
set_option linter.unusedVariables false
set_option linter.unusedSimpArgs false
namespace Go.AI

variable {C : Cfg} {X : Ctx} {sl : List (Option AV)} {a : Act} {w w' : World} {γ γ' : Nat → Value} {B B' : Nat → Prop} {o : Oper} {v : Option AV} {ps : List Prop}

def PartsRel (w : World) (B : Nat → Prop) (ob : Obs) (γ : Nat → Value) : List (Nat × SV) → List (Nat × Value) → Prop
  | [], us => us = []
  | (i, y) :: qs, us => ∃ u us', us = (i, u) :: us' ∧ SlS w B ob γ y u ∧ PartsRel w B ob γ qs us'

theorem PartsRel.raise {ob ob' : Obs} (hle : ObLe ob ob') : ∀ {qs : List (Nat × SV)} {us : List (Nat × Value)}, PartsRel w (Bs X ob γ) ob γ qs us → PartsRel w (Bs X ob' γ) ob' γ qs us
  | [], _, e => e
  | _ :: _, _, ⟨u, us, e, h1, h2⟩ => ⟨u, us, e, h1.raise hle, h2.raise hle⟩

theorem evParts_rep {ob : Obs} (h : InvG X ⟨sl, ob⟩ a w γ) : ∀ {xs : List (Nat × Operand)} {vs : List (Nat × SV)}, evParts (ev C sl) xs = some vs → PartsRel w (Bs X ob γ) ob γ vs (xs.map fun (i, x) => (i, a.eval x))
  | [], _, e => by cases e; rfl
  | (i, x) :: xs, _, e => by
    simp only [evParts] at e
    split at e
    · rename_i y ys hy hys
      cases e
      exact ⟨_, _, rfl, evS_rep h hy, evParts_rep h hys⟩
    · cases e

theorem fill_seg (vs : Array Value) (cells : Array Value) (off : Nat) (h : off + vs.size ≤ cells.size) :
    (vs.zipIdx.foldl (fun cs (c, j) => cs.setIfInBounds (off + j) c) cells).toList = cells.toList.take off ++ vs.toList ++ cells.toList.drop (off + vs.size) := by
  have key : ∀ (l : List Value) (s : Nat) (cells : Array Value), off + s + l.length ≤ cells.size →
      ((l.zipIdx s).foldl (fun (cs : Array Value) (p : Value × Nat) => cs.setIfInBounds (off + p.2) p.1) cells).toList = cells.toList.take (off + s) ++ l ++ cells.toList.drop (off + s + l.length) := by
    intro l
    induction l with
    | nil => intro s cells h; simp
    | cons c l ih =>
      intro s cells h
      simp only [List.length_cons] at h
      rw [List.zipIdx_cons, List.foldl_cons, ih (s + 1) _ (by simp; omega)]
      simp only [Array.toList_setIfInBounds]
      obtain ⟨A, d, D, hA, hAl⟩ : ∃ A d D, cells.toList = A ++ d :: D ∧ A.length = off + s := by
        refine ⟨cells.toList.take (off + s), cells.toList[off + s]'(by simp; omega), cells.toList.drop (off + s + 1), ?_, by simp; omega⟩
        rw [← List.drop_eq_getElem_cons, List.take_append_drop]
      have e1 : off + (s + 1) = A.length + 1 := by omega
      have e2 : A.length + 1 + l.length = A.length + (1 + l.length) := by omega
      have e3 : off + s + (c :: l).length = A.length + (1 + l.length) := by simp only [List.length_cons]; omega
      rw [e3, e1, e2, hA, ← hAl]
      have e4 : (A ++ d :: D).set A.length c = A ++ c :: D := by simp
      rw [e4, List.take_length_add_append, List.drop_length_add_append, List.drop_length_add_append, List.take_left]
      have e5 : 1 + l.length = l.length + 1 := by omega
      rw [e5]
      simp [List.append_assoc]
  have := key vs.toList 0 cells (by simpa using h)
  rw [← Array.foldl_toList, Array.toList_zipIdx]
  simpa using this

theorem parts_rep {k : Kd} {pl : Nat → Option (Nat × Nat)} (hpl : ∀ i, i < k.n → pl i = some (i, 1)) (ht : k.thin = true) : ∀ (qs : List (Nat × SV)) {us : List (Nat × Value)} {ob ob' : Obs} {x z : k.ty} {cs : List Value},
    InvG X ⟨sl, ob⟩ a w γ → PartsRel w (Bs X ob γ) ob γ qs us → parts ob k x qs = some (z, ob') → RepK w (Bs X ob γ) k x cs →
    ∃ cs', Instr.fill pl cs.toArray us = some cs'.toArray ∧ RepK w (Bs X ob' γ) k z cs' ∧ ObLe ob ob' ∧ InvG X ⟨sl, ob'⟩ a w γ
  | [], us, ob, ob', x, z, cs, h, hr, hp, hx => by
    simp only [parts, Option.some.injEq, Prod.mk.injEq] at hp
    obtain ⟨rfl, rfl⟩ := hp
    rw [show us = [] from hr]
    exact ⟨cs, rfl, hx, ObLe.refl _, h⟩
  | (i, y) :: qs, us, ob, ob', x, z, cs, h, hr, hp, hx => by
    simp only [parts] at hp
    split at hp
    · rename_i q z1 ob1 he
      split at hp
      · rename_i x1 hup
        obtain ⟨u, us', rfl, h1, h2⟩ := hr
        obtain ⟨hle, hi1, hr1⟩ := h.esc h1 he
        have hx1 : RepK w (Bs X ob1 γ) k x cs := hx.keep (Keeps.of_sub fun b hb => Bs.le hle hb)
        obtain ⟨hq, hin, hset⟩ := Kd.upd_rep ht hx1 hup
        have hu1 := RepV.cell1 hq hr1
        obtain ⟨cs', hf, hr', hle', hi'⟩ := parts_rep hpl ht qs hi1 (h2.raise hle) hp (hset u hu1)
        refine ⟨cs', ?_, hr', hle.trans hle', hi'⟩
        have hc1 : u.cells = #[u] := by
          have h3 := mkV_cells hu1
          rw [mkV_one hq] at h3
          exact Array.toList_inj.1 (by simpa using h3)
        have hlen := hx1.length
        rw [Instr.fill, hpl i hin]
        simp only [hc1]
        rw [if_neg (by simp; omega)]
        have : (#[u].zipIdx.foldl (fun cs (p : Value × Nat) => cs.setIfInBounds (i + p.2) p.1) cs.toArray) = (cs.set i u).toArray := by simp
        rw [this]
        exact hf
      · cases hp
    · cases hp

theorem mapM_places {P : Program} : ∀ (l : List Field) (s : Nat), (∀ (i : Nat) (fd : Field), l[i]? = some fd → fd.offset = s + i ∧ ∃ j, P.info? fd.type = some j ∧ j.size = 1) →
    l.mapM (fun f => (P.info? f.type).map fun i => (f.offset, i.size)) = some ((List.range' s l.length).map fun i => (i, 1))
  | [], s, _ => by simp
  | f :: l, s, h => by
    obtain ⟨h1, j, h2, h3⟩ := h 0 f rfl
    have ih := mapM_places l (s + 1) fun i fd hi => by
      have := h (i + 1) fd (by simpa using hi)
      exact ⟨by omega, this.2⟩
    rw [List.mapM_cons, h2, ih]
    simp [h1, h3, List.range'_succ]

theorem elems_rep {k : Kd} : ∀ (qs : List (Nat × SV)) {us : List (Nat × Value)} {ob ob' : Obs} {l l' : List k.ty} {flat : List Value},
    InvG X ⟨sl, ob⟩ a w γ → PartsRel w (Bs X ob γ) ob γ qs us → elems ob k l qs = some (l', ob') → RowsOf (RepK w (Bs X ob γ) k) l flat →
    ∃ flat', Instr.fill (fun i => some (i * k.n, k.n)) flat.toArray us = some flat'.toArray ∧ RowsOf (RepK w (Bs X ob' γ) k) l' flat' ∧ ObLe ob ob' ∧ InvG X ⟨sl, ob'⟩ a w γ ∧ l'.length = l.length
  | [], us, ob, ob', l, l', flat, h, hr, hp, hx => by
    simp only [elems, Option.some.injEq, Prod.mk.injEq] at hp
    obtain ⟨rfl, rfl⟩ := hp
    rw [show us = [] from hr]
    exact ⟨flat, rfl, hx, ObLe.refl _, h, rfl⟩
  | (i, y) :: qs, us, ob, ob', l, l', flat, h, hr, hp, hx => by
    simp only [elems] at hp
    split at hp
    · rename_i z1 ob1 he
      split at hp
      · rename_i hil
        obtain ⟨u, us', rfl, h1, h2⟩ := hr
        obtain ⟨hle, hi1, hr1⟩ := h.escK h1 he
        have hx1 : RowsOf (RepK w (Bs X ob1 γ) k) l flat := hx.mono fun _ _ h => h.keep (Keeps.of_sub fun b hb => Bs.le hle hb)
        have hset := RowsOf.set hx1 hil hr1.cells
        obtain ⟨flat', hf, hr', hle', hi', hl'⟩ := elems_rep qs hi1 (h2.raise hle) hp hset
        refine ⟨flat', ?_, hr', hle.trans hle', hi', by simpa using hl'⟩
        have hlen := hx1.length
        have hus := hr1.size
        have hle2 : (i + 1) * k.n ≤ l.length * k.n := Nat.mul_le_mul_right _ hil
        rw [Nat.add_mul, Nat.one_mul] at hle2
        rw [Instr.fill]
        simp only
        rw [if_neg (by simp [hus, hlen]; omega)]
        have hseg := fill_seg u.cells flat.toArray (i * k.n) (by simp [hus, hlen]; omega)
        rw [hus] at hseg
        rw [← Array.toArray_toList (xs := u.cells.zipIdx.foldl _ flat.toArray), hseg]
        exact hf
      · cases hp
    · cases hp

theorem goes_build (hC : CfgOK C) {ob ob' : Obs} (h : InvG X ⟨sl, ob⟩ a w γ) {t : TypeId} {qs : Array (Nat × Operand)} (ho : o.op = .build t qs) (he : (match C.kd t, evParts (ev C sl) qs.toList with
    | some (.pr p q), some qs => match parts ob (.pr p q) (Kd.z (.pr p q)) qs with
      | some (z, ob') => if (Kd.pr p q).thin then some (some (AV.s (.v (.pr p q) z)), ob', ([] : List Prop)) else none
      | none => none
    | some (.arr m k), some qs => match elems ob k (List.replicate (m + 2) k.z) qs with
      | some (l, ob') => some (some (AV.s (.v (.arr m k) l)), ob', [])
      | none => none
    | _, _ => none) = some (v, ob', ps)) : Goes C X sl o a w v ob' := by
  split at he
  · rename_i p q xs hk hxs
    split at he
    · rename_i z ob1 hz
      split at he
      · rename_i ht
        simp only [Option.some.injEq, Prod.mk.injEq] at he
        obtain ⟨rfl, rfl, _⟩ := he
        obtain ⟨it, zv, hi, hsz, hzero, _, hzr⟩ := (hC.kd _ _ hk).info
        obtain ⟨fs, hu, hfs⟩ := (hC.kd _ _ hk).desc
        obtain ⟨hn, hall⟩ := hfs ht
        have hpl := mapM_places (P := C.P) fs.toList 0 fun i fd hi => by
          obtain ⟨h1, j, d, h2, h3, _⟩ := hall i fd (by simpa using hi)
          exact ⟨by omega, j, h2, h3⟩
        have hz0 := (hzr w (Bs X ob γ)).cells
        obtain ⟨cs', hf, hr, hle, h1⟩ := parts_rep (pl := fun i => ((List.range' 0 fs.toList.length).map fun i => (i, 1)).toArray[i]?) (fun i hi => by
          have : i < fs.size := by rw [hn]; exact hi
          simp [this]) ht xs h (evParts_rep h hxs) hz hz0
        have hbuilt : C.P.built t (qs.map fun (i, x) => (i, a.eval x)).toList = some cs'.toArray := by
          unfold Program.built
          rw [hi, hu]
          simp only [hzero, hpl]
          rw [Array.toArray_toList] at hf
          simpa using hf
        have hrun := run_build w t (qs.map fun (i, x) => (i, a.eval x)) cs'.toArray hbuilt
        exact Goes.value (u := .agg cs'.toArray) (by simp [execOp, ho, hrun]) h1 fun y hy => by cases hy; exact ⟨cs', hr, rfl⟩
      · cases he
    · cases he
  · rename_i m k xs hk hxs
    split at he
    · rename_i l ob1 hz
      simp only [Option.some.injEq, Prod.mk.injEq] at he
      obtain ⟨rfl, rfl, _⟩ := he
      obtain ⟨it, zv, hi, hsz, hzero, _, hzr⟩ := (hC.kd _ _ hk).info
      obtain ⟨e, hu, hke⟩ := hC.ark _ _ _ hk
      obtain ⟨ie, ze, hie, hes, _⟩ := (hC.kd _ _ hke).info
      obtain ⟨hl0, hr0⟩ := (hzr w (Bs X ob γ)).cells
      obtain ⟨flat, hf, hr, hle, h1, hlen⟩ := elems_rep xs h (evParts_rep h hxs) hz hr0
      have hbuilt : C.P.built t (qs.map fun (i, x) => (i, a.eval x)).toList = some flat.toArray := by
        unfold Program.built
        rw [hi, hu]
        simp only [hzero, hie, hes]
        rw [Array.toArray_toList] at hf
        simpa using hf
      have hrun := run_build w t (qs.map fun (i, x) => (i, a.eval x)) flat.toArray hbuilt
      exact Goes.value (u := .agg flat.toArray) (by simp [execOp, ho, hrun]) h1 fun y hy => by cases hy; exact ⟨flat, ⟨by rw [hlen, List.length_replicate], hr⟩, rfl⟩
    · cases he
  · cases he

theorem goes_buildSlice (hC : CfgOK C) {ob ob' : Obs} (h : InvG X ⟨sl, ob⟩ a w γ) {t : TypeId} {n : Nat} {qs : Array (Nat × Operand)} (ho : o.op = .buildSlice t n qs) (he : (match C.kd t, C.el t, o.dst, evParts (ev C sl) qs.toList with
    | some (.sl k), some e, some d, some qs => if C.kd e = some k ∧ n ≤ 1000 then match elems ob k (List.replicate n k.z) qs with
        | some (l, ob') => newOb ob' d (.row e k l 0 false) (.osl d 0)
        | none => none
      else none
    | _, _, _, _ => none) = some (v, ob', ps)) : Goes C X sl o a w v ob' := by
  split at he
  · rename_i k e d xs hk het hd hxs
    split at he
    · rename_i hke
      obtain ⟨hke, hn⟩ := hke
      split at he
      · rename_i l ob1 hl
        obtain ⟨i, z, hi, hs, hz, hb, hzr⟩ := (hC.kd _ _ hke).info
        obtain ⟨flat, hf, hr, hle, h1, hlen⟩ := elems_rep xs h (evParts_rep h hxs) hl (RowsOf.zeros (hzr _ _) n)
        simp only [List.length_replicate] at hlen
        unfold newOb at he
        split at he
        · rename_i hod
          split at he
          · rename_i hlt
            simp only [Option.some.injEq, Prod.mk.injEq] at he
            obtain ⟨rfl, rfl, _⟩ := he
            have hkn : n * k.n ≤ 2 ^ 24 := by
              calc n * k.n ≤ 1000 * 64 := Nat.mul_le_mul hn (hC.kd _ _ hke).small
                _ ≤ 2 ^ 24 := by decide
            have hrun : (execOp a.eval o).run C.P w = .ok (.value (.slice (some ⟨w.heap.size, 0, none⟩) n n)) (w.alloc (.cells flat.toArray e)) := by
              have hkn' : ¬ n * k.n > 2 ^ 24 := by omega
              have hf' : ∀ zz : Array Value, (n * k.n ≠ 0 → zz = z.cells) → Instr.fill (fun i => some (i * k.n, k.n)) ((Array.range (n * k.n)).map (zz[· % zz.size]!)) (qs.map fun (i, x) => (i, a.eval x)).toList = some flat.toArray := fun zz hzz => by
                have : (Array.range (n * k.n)).map (zz[· % zz.size]!) = madeCells z.cells (n * k.n) := by
                  by_cases h0 : n * k.n = 0
                  · rw [h0]; simp [madeCells]
                  · rw [hzz h0]; rfl
                rw [this]
                rw [Array.toArray_toList] at hf
                simpa using hf
              simp only [execOp, ho, Instr.buildSlice, Sem.run_bind, run_underlying (hC.el _ _ het), Result.andThen_ok, (hC.kd _ _ hke).sizeOf, if_neg hkn']
              by_cases h0 : n * k.n = 0
              · simp only [h0, if_true, Sem.run_pure, Result.andThen_ok]
                have h1 := hf' #[] (fun h => absurd h0 h)
                rw [h0] at h1
                simp only [h1, Sem.run_bind, Sem.run_pure, Result.andThen_ok]
                rfl
              · simp only [h0, if_false, zeroValue, typeInfo, program, Sem.run_bind, Sem.run, hi, hz, Sem.run_pure, Result.andThen_ok]
                have h1 := hf' z.cells (fun _ => rfl)
                simp only [h1, Sem.run_bind, Sem.run_pure, Result.andThen_ok]
                rfl
            obtain ⟨h2, K, S⟩ := h1.new hod hlt (o := .row e k l 0 false) (v := .slice (some ⟨w.heap.size, 0, none⟩) n n) (World.grownBy_alloc w (.cells flat.toArray e) none) (fun b hb => by simp [blk] at hb; omega)
              (fun B' K' => ⟨flat, ⟨hr.length, .inr ⟨w.heap.size, n, flat.toArray, by rw [hlen], Nat.zero_le _, heap_alloc_new w _, by omega, by simp only [maxLen]; omega, by simp [hr.length, hlen], by
                rw [List.take_of_length_le (by simp [hr.length])]⟩⟩, hr.mono fun _ _ h => h.keep K'⟩)
            exact Goes.value hrun h2 fun y hy => by
              cases hy
              exact ⟨⟨e, k, l, 0, false, by rw [obj_setOb _ _ _ _ hlt, if_pos rfl], Nat.le_refl _⟩, fun e2 k2 l2 z2 hi2 => by rw [upd_same]⟩
          · cases he
        · cases he
      · cases he
    · cases he
  · cases he

end Go.AI
end

section
/- Maps of the call's own. -/
set_option autoImplicit false
set_option linter.unusedVariables false
set_option linter.unusedSimpArgs false
namespace Go.AI

open Go.ChangeMaps Go.MapKept

variable {C : Cfg} {X : Ctx} {sl : List (Option AV)} {ob ob' : Obs} {a : Act} {w w' : World} {γ γ' : Nat → Value} {B B' : Nat → Prop} {o : Oper} {v : Option AV} {ps : List Prop}

/-- Where a text stands. -/
def midx {α : Type} : List (ByteArray × α) → ByteArray → Option Nat
  | [], _ => none
  | p :: l, s => if s = p.1 then some 0 else (midx l s).map (· + 1)

theorem findNow_ents {k : Kd} (s : ByteArray) : ∀ (l : List (ByteArray × k.ty)) (es : List MapEntry) (i : Nat), EntsOf k l es →
    (mget l s = none ∧ midx l s = none ∧ Instr.findNow .string (.string s) es i = some none) ∨
    (∃ x j e, mget l s = some x ∧ midx l s = some j ∧ es[j]? = some e ∧ e.key = .string s ∧ Instr.findNow .string (.string s) es i = some (some (i + j, valC k x)))
  | [], es, i, h => by
    rw [show es = [] from h]
    exact .inl ⟨rfl, rfl, rfl⟩
  | p :: l, es, i, ⟨e, r, he, h1, h2, h3⟩ => by
    subst he
    by_cases hs : s = p.1
    · right
      refine ⟨p.2, 0, e, by rw [mget, if_pos hs], by rw [midx, if_pos hs], rfl, by rw [h1, hs], ?_⟩
      have he : (s == p.1) = true := (bytes_beq _ _).2 hs
      rw [Instr.findNow, h1]
      simp [Instr.sameNow, he, h2]
    · have hne : (s == p.1) = false := by
        cases hb : s == p.1 with
        | false => rfl
        | true => exact absurd ((bytes_beq _ _).1 hb) hs
      have hstep : Instr.findNow .string (.string s) (e :: r) i = Instr.findNow .string (.string s) r (i + 1) := by
        rw [Instr.findNow, h1]
        simp [Instr.sameNow, hne]
      rcases findNow_ents s l r (i + 1) h3 with ⟨g1, g2, g3⟩ | ⟨x, j, e', g1, g2, g3, g4, g5⟩
      · left
        exact ⟨by rw [mget, if_neg hs]; exact g1, by rw [midx, if_neg hs, g2]; rfl, by rw [hstep]; exact g3⟩
      · right
        exact ⟨x, j + 1, e', by rw [mget, if_neg hs]; exact g1, by rw [midx, if_neg hs, g2]; rfl, g3, g4, by rw [hstep, g5, show i + 1 + j = i + (j + 1) by omega]⟩

theorem ents_put {k : Kd} (s : ByteArray) (y : k.ty) : ∀ (l : List (ByteArray × k.ty)) (es : List MapEntry), EntsOf k l es →
    (midx l s = none → ∀ c, EntsOf k (mput l s y) (es ++ [{ key := .string s, val := valC k y, born := c }])) ∧
    (∀ j, midx l s = some j → EntsOf k (mput l s y) (es.modify j fun e => { e with key := .string s, val := valC k y }))
  | [], es, h => by
    rw [show es = [] from h]
    exact ⟨fun _ c => ⟨_, _, rfl, rfl, rfl, rfl⟩, fun j hj => by cases hj⟩
  | p :: l, es, ⟨e, r, he, h1, h2, h3⟩ => by
    subst he
    obtain ⟨i1, i2⟩ := ents_put s y l r h3
    by_cases hs : s = p.1
    · refine ⟨fun h => ?_, fun j hj => ?_⟩
      · rw [midx, if_pos hs] at h; cases h
      · rw [midx, if_pos hs] at hj
        cases hj
        rw [mput, if_pos hs]
        exact ⟨_, r, rfl, by rw [← hs], rfl, h3⟩
    · refine ⟨fun h c => ?_, fun j hj => ?_⟩
      · rw [midx, if_neg hs] at h
        rw [mput, if_neg hs]
        exact ⟨e, _, rfl, h1, h2, i1 (by cases hm : midx l s with
          | none => rfl
          | some q => rw [hm] at h; cases h) c⟩
      · rw [midx, if_neg hs] at hj
        cases hm : midx l s with
        | none => rw [hm] at hj; cases hj
        | some q =>
          rw [hm] at hj
          cases hj
          rw [mput, if_neg hs]
          exact ⟨e, _, rfl, h1, h2, i2 q hm⟩

/-- What the maps' types are. -/
structure MpOK (C : Cfg) (t : TypeId) (k : Kd) : Prop where
  sc : k = .bool ∨ ∃ ik, k = .int ik
  ty : ∃ kt e, C.P.underlying t = some (.map kt e) ∧ C.P.underlying kt = some .string ∧ C.kd e = some k

theorem RepV_valC {k : Kd} (hk : k = .bool ∨ ∃ ik, k = .int ik) (x : k.ty) : RepV w B k x (valC k x) := by
  rcases hk with rfl | ⟨ik, rfl⟩
  · exact ⟨[.bool x], rfl, rfl⟩
  · exact ⟨[.int ik x], rfl, rfl⟩

theorem RepV_is_valC {k : Kd} (hk : k = .bool ∨ ∃ ik, k = .int ik) {x : k.ty} {u : Value} (h : RepV w B k x u) : u = valC k x := by
  rcases hk with rfl | ⟨ik, rfl⟩
  · exact RepV.bool h
  · exact RepV.int h

theorem goes_makeMap (hM : ∀ t k, C.mp t = some k → MpOK C t k) (h : InvG X ⟨sl, ob⟩ a w γ) {t : TypeId} (ho : o.op = .makeMap t none) (he : (match C.mp t, o.dst with
    | some k, some d => newOb ob d (.mp k [] false) (.omp d)
    | _, _ => none) = some (v, ob', ps)) : Goes C X sl o a w v ob' := by
  split at he
  · rename_i k d hk hd
    unfold newOb at he
    split at he
    · rename_i hod
      split at he
      · rename_i hlt
        simp only [Option.some.injEq, Prod.mk.injEq] at he
        obtain ⟨rfl, rfl, _⟩ := he
        have hrun : (execOp a.eval o).run C.P w = .ok (.value (.map (some w.heap.size))) (w.alloc (.map #[] 0)) := by
          have : (Instr.makeMap t none).run C.P w = .ok (.map (some w.heap.size)) (w.alloc (.map #[] 0)) := rfl
          simp [execOp, ho, this]
        obtain ⟨h2, K, S⟩ := h.new hod hlt (o := .mp k [] false) (v := .map (some w.heap.size)) (World.grownBy_alloc w (.map #[] 0) none) (fun b hb => by simp [blk] at hb; omega)
          (fun B' K' => ⟨w.heap.size, #[], 0, rfl, heap_alloc_new w _, rfl⟩)
        exact Goes.value hrun h2 fun y hy => by
          cases hy
          exact ⟨⟨k, [], false, by rw [obj_setOb _ _ _ _ hlt, if_pos rfl]⟩, (upd_same _ _ _).symm⟩
      · cases he
    · cases he
  · cases he

theorem run_mapUpdate {P : Program} {t kt e : TypeId} {k : Kd} {b : Nat} {es : Array MapEntry} {clock : Nat} {l : List (ByteArray × k.ty)} (ht : P.underlying t = some (.map kt e)) (hk : P.underlying kt = some .string)
    (hb : w.heap[b]? = some (.map es clock)) (hl : EntsOf k l es.toList) (s : ByteArray) (y : k.ty) :
    ∃ es' clock', (Instr.mapUpdate t (.map (some b)) (.string s) (valC k y)).run P w = .ok () (setBlock w b (.map es' clock')) ∧ EntsOf k (mput l s y) es'.toList := by
  have hkey : IsKey .string (.string s) := trivial
  obtain ⟨p1, p2⟩ := ents_put s y l es.toList hl
  rcases findNow_ents s l es.toList 0 hl with ⟨g1, g2, g3⟩ | ⟨x, j, e0, g1, g2, g3, g4, g5⟩
  · refine ⟨es.push ⟨.string s, valC k y, clock⟩, clock + 1, ?_, ?_⟩
    · simp [Instr.mapUpdate, run_underlying ht, MapKept.run_getObj_map hb, run_checkKey hk hkey, run_findKey hk g3, MapKept.run_setObj_map _ hb, Result.andThen, setBlock]
    · rw [Array.toList_push]; exact p1 g2 clock
  · rw [Nat.zero_add] at g5
    have hj : es[j]? = some e0 := by simpa using g3
    refine ⟨es.modify j (fun e' => { e' with key := .string s, val := valC k y }), clock, ?_, ?_⟩
    · simp [Instr.mapUpdate, run_underlying ht, MapKept.run_getObj_map hb, run_checkKey hk hkey, run_findKey hk g5, hj, g4, run_keyThatStays hkey, MapKept.run_setObj_map _ hb, Result.andThen, setBlock]
    · rw [Array.toList_modify]; exact p2 j g2

theorem goes_mput (hM : ∀ t k, C.mp t = some k → MpOK C t k) (h : InvG X ⟨sl, ob⟩ a w γ) {t : TypeId} {m x y : Operand} (ho : o.op = .insert t m x y ∨ o.op = .mapUpdate t m x y) {sm ss sy : SV}
    (h1 : SlS w (Bs X ob γ) ob γ sm (a.eval m)) (h2 : SlS w (Bs X ob γ) ob γ ss (a.eval x)) (h3 : SlS w (Bs X ob γ) ob γ sy (a.eval y)) (he : mputStep C t sm ss sy ob = some (v, ob', ps)) : Goes C X sl o a w v ob' := by
  unfold mputStep at he
  split at he
  · rename_i i s q z
    split at he
    · rename_i k l hob
      split at he
      · rename_i hq
        subst hq
        split at he
        · rename_i hmp
          simp only [Option.some.injEq, Prod.mk.injEq] at he
          obtain ⟨rfl, rfl, _⟩ := he
          obtain ⟨hsc, kt, e, hu, huk, hke⟩ := hM _ _ hmp
          have e2 := RepV.str h2
          have e3 := RepV_is_valC hsc h3
          obtain ⟨b, es, clock, hg, hb, hents⟩ := h.ob _ _ hob
          obtain ⟨_, hi⟩ := h1
          rw [hg] at hi
          obtain ⟨es', clock', hrun, hents'⟩ := run_mapUpdate (w := w) hu huk hb hents s z
          have hgr : w.grownBy (setBlock w b (.map es' clock')) (some b) := ⟨rfl, rfl, rfl, by simp [setBlock], fun j _ hj => heap_setBlock_other hb _ (fun e => hj (by rw [e]))⟩
          obtain ⟨h4, K, S⟩ := h.mod hob (o' := .mp q (mput l s z) false) (v := γ i) rfl (by rw [hg]; exact hgr) (.inl rfl) (.inl rfl) rfl
            (fun B' K' => ⟨b, es', clock', hg, heap_setBlock_same hb _, hents'⟩)
          have hexec : (execOp a.eval o).run C.P w = .ok .skip (setBlock w b (.map es' clock')) := by
            rcases ho with ho | ho <;> simp [execOp, ho, hi, e2, e3, hrun]
          exact Goes.skip hexec h4
        · cases he
      · cases he
    · cases he
  · cases he

theorem run_lookup {P : Program} {t kt e : TypeId} {k : Kd} {b : Nat} {es : Array MapEntry} {clock : Nat} {l : List (ByteArray × k.ty)} (ht : P.underlying t = some (.map kt e)) (hk : P.underlying kt = some .string)
    (hb : w.heap[b]? = some (.map es clock)) (hl : EntsOf k l es.toList) (s : ByteArray) (c : Bool) {z : Value} (hz : (zeroValue e).run P w = .ok z w) (hzk : z = valC k k.z) :
    (Instr.lookup t (.map (some b)) (.string s) c).run P w = .ok (if c then .tuple #[valC k ((mget l s).getD k.z), .bool (mget l s).isSome] else valC k ((mget l s).getD k.z)) w := by
  have hkey : IsKey .string (.string s) := trivial
  rcases findNow_ents s l es.toList 0 hl with ⟨g1, g2, g3⟩ | ⟨x, j, e0, g1, g2, g3, g4, g5⟩
  · simp [Instr.lookup, run_underlying ht, MapKept.run_getObj_map hb, run_checkKey hk hkey, run_findKey hk g3, hz, g1, hzk]
  · simp [Instr.lookup, run_underlying ht, MapKept.run_getObj_map hb, run_checkKey hk hkey, run_findKey hk g5, g1]

theorem goes_mget (hC : CfgOK C) (hM : ∀ t k, C.mp t = some k → MpOK C t k) (h : InvG X ⟨sl, ob⟩ a w γ) {it : It} {t : TypeId} {m x : Operand} {c : Bool} (ho : o.op = .lookup t m x c) {sm ss : SV}
    (h1 : SlS w (Bs X ob γ) ob γ sm (a.eval m)) (h2 : SlS w (Bs X ob γ) ob γ ss (a.eval x)) (he : mgetStep C it t c sm ss ob = some (v, ob', ps)) (hp : All ps) : Goes C X sl o a w v ob' := by
  unfold mgetStep at he
  split at he
  · rename_i i s
    split at he
    · rename_i k l hob
      split at he
      · rename_i hmp
        obtain ⟨hsc, kt, e, hu, huk, hke⟩ := hM _ _ hmp
        have e2 := RepV.str h2
        obtain ⟨b, es, clock, hg, hb, hents⟩ := h.ob _ _ hob
        obtain ⟨_, hi⟩ := h1
        rw [hg] at hi
        obtain ⟨z, hz, hzr⟩ := (hC.kd _ _ hke).zero w
        have hrun := run_lookup (w := w) hu huk hb hents s c hz (RepV_is_valC hsc (hzr w (fun _ => True)))
        have hexec : (execOp a.eval o).run C.P w = .ok (.value (if c then .tuple #[valC k ((mget l s).getD k.z), .bool (mget l s).isSome] else valC k ((mget l s).getD k.z))) w := by
          simp [execOp, ho, hi, e2, hrun]
        cases c with
        | true =>
          simp only [if_true] at he hexec
          split at he
          · rename_i d
            simp only [Option.some.injEq, Prod.mk.injEq] at he
            obtain ⟨rfl, rfl, rfl⟩ := he
            have hd : (mget l s).isSome = d := hp.1
            rw [hd] at hexec
            refine Goes.value hexec h fun y hy => ?_
            cases hy
            exact ⟨_, rfl, _, _, rfl, RepV_valC hsc _, _, _, rfl, ⟨[.bool d], rfl, rfl⟩, rfl⟩
          · cases he
        | false =>
          simp only [Bool.false_eq_true, if_false] at he hexec
          split at he
          · rename_i l
            split at he
            · rename_i d
              simp only [Option.some.injEq, Prod.mk.injEq] at he
              obtain ⟨rfl, rfl, rfl⟩ := he
              have hd : (mget l s).getD false = d := hp.1
              refine Goes.value hexec h fun y hy => ?_
              cases hy
              rw [← hd]
              exact ⟨[.bool ((mget l s).getD false)], rfl, rfl⟩
            · cases he
          · simp only [Option.some.injEq, Prod.mk.injEq] at he
            obtain ⟨rfl, rfl, rfl⟩ := he
            refine Goes.value hexec h fun y hy => ?_
            cases hy
            exact RepV_valC hsc _
      · cases he
    · cases he
  · cases he

end Go.AI
end

section
/- One operation of the evaluator, one of the model. -/
set_option autoImplicit false
set_option linter.unusedVariables false
set_option linter.unusedSimpArgs false
namespace Go.AI

variable {C : Cfg} {X : Ctx} {sl : List (Option AV)} {ob ob' : Obs} {a : Act} {w w' : World} {γ γ' : Nat → Value} {o : Oper} {v : Option AV} {ps : List Prop}

theorem goes_pure (hC : CfgOK C) (h : InvG X ⟨sl, ob⟩ a w γ) {it : It} {op : Op} (ho : o.op = op) {xs : List SV} (hxs : SlL w (Bs X ob γ) ob γ xs (op.operands.toList.map a.eval)) (hn : xs.any isAlias = false)
    {z : SV} (he : apure C it op xs = some (z, ps)) (hp : All ps) : Goes C X sl o a w (some (.s z)) ob := by
  obtain ⟨u, hr, hu⟩ := apure_sound hC he hp (SlL.noAlias h hxs hn) ho rfl
  exact Goes.value hr h fun x hx => by cases hx; exact SVRep.slot hu

theorem astep0_sound (hC : CfgOK C) (h : InvG X ⟨sl, ob⟩ a w γ) {it : It} (he : astep0 C it o (ev C sl) ob = some (v, ob', ps)) (hp : All ps) : Goes C X sl o a w v ob' := by
  unfold astep0 at he
  split at he
  · rename_i x ho
    exact moveStep_goes h he (by simp [execOp, ho])
  · rename_i x ho
    exact moveStep_goes h he (by simp [execOp, ho])
  · rename_i ho; exact goes_pick h ho he
  · rename_i ho; exact goes_alloc hC h ho he
  · rename_i ho; exact goes_box hC h ho he
  · rename_i ho; exact goes_build hC h ho he
  · rename_i ho; exact goes_buildSlice hC h ho he
  · rename_i ho
    split at he
    · rename_i x y hx hy
      exact goes_store hC h ho (evS_rep h hx) (evS_rep h hy) he hp
    · cases he
  · rename_i ho; exact goes_makeMap (fun t k hk => ⟨(hC.mp t k hk).1, (hC.mp t k hk).2⟩) h ho he
  · rename_i ho
    split at he
    · rename_i x y z hx hy hz
      exact goes_mput (fun t k hk => ⟨(hC.mp t k hk).1, (hC.mp t k hk).2⟩) h (.inl ho) (evS_rep h hx) (evS_rep h hy) (evS_rep h hz) he
    · cases he
  · rename_i ho
    split at he
    · rename_i x y z hx hy hz
      exact goes_mput (fun t k hk => ⟨(hC.mp t k hk).1, (hC.mp t k hk).2⟩) h (.inr ho) (evS_rep h hx) (evS_rep h hy) (evS_rep h hz) he
    · cases he
  · rename_i ho
    split at he
    · rename_i x y hx hy
      exact goes_mget hC (fun t k hk => ⟨(hC.mp t k hk).1, (hC.mp t k hk).2⟩) h ho (evS_rep h hx) (evS_rep h hy) he hp
    · cases he
  · rename_i ho; exact goes_nilCheck h ho he
  · rename_i ho; exact goes_makeFunc h ho he
  · rename_i ho; exact goes_makeSlice hC h ho he hp
  · rename_i ho; exact goes_extract h ho he
  · rename_i args ts ho
    split at he
    · rename_i x y t t' d hargs hts hd
      split at he
      · rename_i htt
        subst htt
        split at he
        · rename_i sx sy hx hy
          have e1 : args = #[x, y] := Array.toList_inj.mp hargs
          have e2 : ts = #[t, t] := Array.toList_inj.mp hts
          subst e1; subst e2
          exact goes_append hC h ho (evS_rep h hx) (evS_rep h hy) he hp
        · cases he
      · cases he
    · cases he
  · rename_i f args ts ho
    split at he
    · rename_i g first caps xs hf hxs
      exact goes_call hC h ho hf hxs he hp
    · cases he
  · generalize hg : o.op = op at he
    split at he
    · rename_i xs hxs
      have hl := evSs_rep h hxs
      split at he
      · rename_i hal
        have hr := he
        unfold aliasStep at hr
        split at hr
        · exact goes_load_alias hC h hg hl he hp
        · exact goes_fieldAddr_alias hC h hg hl he
        · exact goes_indexAddr_alias hC h hg hl he hp
        · exact goes_slice_alias hC h hg hl he hp
        · exact goes_plains hC h hg (.inl ⟨_, _, _, rfl⟩) hl he hp
        · exact goes_plains hC h hg (.inr ⟨_, _, rfl⟩) hl he hp
        · cases hr
      · rename_i hal
        split at he
        · rename_i z ps' hz
          simp only [Option.some.injEq, Prod.mk.injEq] at he
          obtain ⟨rfl, rfl, rfl⟩ := he
          exact goes_pure hC h hg hl (by simpa using hal) hz hp
        · cases he
    · cases he

theorem decB_spec {it : It} {op : Op} {r : Option Out} (h : decB it op r = some (v, ob', ps)) : ∃ v0 ps0, r = some (v0, ob', ps0) ∧ (All ps → All ps0 ∧ v = v0) ∧ ∀ ob2, decB it op (some (v0, ob2, ps0)) = some (v, ob2, ps) := by
  unfold decB at h
  split at h
  · rename_i b ob1 ps1
    split at h
    · rename_i d _ _
      simp only [Option.some.injEq, Prod.mk.injEq] at h
      obtain ⟨rfl, rfl, rfl⟩ := h
      refine ⟨_, _, rfl, fun hp => ?_, fun ob2 => rfl⟩
      obtain ⟨h1, h2⟩ := All.append.1 hp
      have : b = d := h2.1
      exact ⟨h1, by rw [this]⟩
    · rename_i d _ _ _
      simp only [Option.some.injEq, Prod.mk.injEq] at h
      obtain ⟨rfl, rfl, rfl⟩ := h
      refine ⟨_, _, rfl, fun hp => ?_, fun ob2 => rfl⟩
      obtain ⟨h1, h2⟩ := All.append.1 hp
      have : b = d := h2.1
      exact ⟨h1, by rw [this]⟩
    · rename_i n1 n2
      simp only [Option.some.injEq, Prod.mk.injEq] at h
      obtain ⟨rfl, rfl, rfl⟩ := h
      refine ⟨_, _, rfl, fun hp => ⟨hp, rfl⟩, fun ob2 => ?_⟩
      simp only [decB]
  · rename_i hn
    refine ⟨v, ps, h, fun hp => ⟨hp, rfl⟩, fun ob2 => ?_⟩
    unfold decB
    split
    · rename_i b ob1 ps1 e
      simp only [Option.some.injEq, Prod.mk.injEq] at e
      obtain ⟨rfl, rfl, rfl⟩ := e
      exact absurd h (hn _ _ _)
    · rfl

theorem astep_sound (hC : CfgOK C) (h : InvG X ⟨sl, ob⟩ a w γ) {it : It} (he : astep C it o (ev C sl) ob = some (v, ob', ps)) (hp : All ps) : Goes C X sl o a w v ob' := by
  obtain ⟨v0, ps0, h1, h2, _⟩ := decB_spec he
  obtain ⟨h3, rfl⟩ := h2 hp
  exact astep0_sound hC h h1 h3

end Go.AI
end
