/- A function's run is its contract: the results. -/
import Derived.Test.YtmoodcnoncipiaaAiRunF
set_option autoImplicit false
set_option linter.unusedVariables false
set_option linter.unusedSimpArgs false
namespace Go.AI

variable {C : Cfg} {X : Ctx} {a : Act} {w w' : World} {B : Nat → Prop} {γ : Nat → Value}

/-- What the end of a run knows of what is handed over. -/
structure EndOK (X : Ctx) (st : St) (γ : Nat → Value) (np : Nat) (D : List Nat) : Prop where
  pm : ∀ i v, (i, v) ∈ X.pm → i < np ∧ ∃ o, st.ob.obj i = some o ∧ o.frz = false ∧ γ i = v
  own : ∀ i ∈ D, np ≤ i ∧ ∃ e k l ver, st.ob.obj i = some (.row e k l ver false)

def ownBlocks (γ : Nat → Value) (D : List Nat) : List Nat := D.filterMap fun i => blk (γ i)

theorem EndOK.bs {st : St} {np : Nat} {D : List Nat} (hE : EndOK X st γ np D) {b : Nat} (hb : Bs X st.ob γ b) : After X.w0 X.B0 (ownBlocks γ D) b := by
  refine ⟨?_, fun hm => ?_⟩
  · rcases hb.1 with h | h | ⟨v, hv, hvb⟩
    · exact .inl h
    · exact .inr h
    · obtain ⟨⟨i, v'⟩, hiv, rfl⟩ := List.mem_map.1 hv
      obtain ⟨_, o, ho, hz, hγ⟩ := hE.pm i v' hiv
      exact absurd (by rw [hγ]; exact hvb) (hb.2 i o ho hz)
  · obtain ⟨i, hi, hib⟩ := List.mem_filterMap.1 hm
    obtain ⟨_, e, k, l, ver, ho⟩ := hE.own i hi
    exact hb.2 i _ ho rfl hib

theorem EndOK.fresh {st : St} {np : Nat} {D : List Nat} (h : InvG X st a w γ) (hE : EndOK X st γ np D) {i : Nat} {o : Ob} (ho : st.ob.obj i = some o) (hn : np ≤ i ∨ o.frz = true) {b : Nat} (hb : blk (γ i) = some b) : X.w0.heap.size ≤ b := by
  rcases h.fresh i o b ho hb with h1 | ⟨v, hv, hvb⟩
  · exact h1
  · obtain ⟨⟨j, v'⟩, hjv, rfl⟩ := List.mem_map.1 hv
    obtain ⟨hj, p, hp, hz, hγ⟩ := hE.pm j v' hjv
    have hne : i ≠ j := by
      rcases hn with h2 | h2
      · omega
      · intro e; subst e; rw [ho] at hp; cases hp; rw [hz] at h2; cases h2
    exact absurd (by rw [hγ]; exact hvb) (h.dj i j o p b ho hp hne hb)

theorem EndOK.block {st : St} {np : Nat} {D : List Nat} (h : InvG X st a w γ) (hE : EndOK X st γ np D) {i : Nat} {o : Ob} (ho : st.ob.obj i = some o) (hn : np ≤ i ∨ o.frz = true) (hD : i ∉ D) {b : Nat} (hb : blk (γ i) = some b) : After X.w0 X.B0 (ownBlocks γ D) b := by
  refine ⟨.inr (hE.fresh h ho hn hb), fun hm => ?_⟩
  obtain ⟨j, hj, hjb⟩ := List.mem_filterMap.1 hm
  obtain ⟨_, e, k, l, ver, hp⟩ := hE.own j hj
  by_cases e : i = j
  · subst e; exact hD hj
  · exact h.dj i j _ _ b ho hp e hb hjb

theorem OwnRow.base {N : Nat} {e : TypeId} {k : Kd} {l : List k.ty} {v : Value} (h : OwnRow w B 0 e k l v) (hN : ∀ b, blk v = some b → N ≤ b) : OwnRow w B N e k l v := by
  obtain ⟨flat, ho, hr⟩ := h
  refine ⟨flat, ⟨ho.1, ?_⟩, hr⟩
  rcases ho.2 with h | ⟨g, cap, cur, rfl, h1, h2⟩
  · exact .inl h
  · exact .inr ⟨g, cap, cur, rfl, hN g rfl, h2⟩

theorem resS_sound {st : St} {np : Nat} {D : List Nat} (h : InvG X st a w γ) (hE : EndOK X st γ np D) {x y : SV} {oi : Option Nat} {u : Value} (hx : SlS w (Bs X st.ob γ) st.ob γ x u) (he : resS st np x = some (y, oi)) (hD : ∀ i, oi = some i → i ∈ D) :
    ResS w (After X.w0 X.B0 (ownBlocks γ D)) X.w0.heap.size y u (ownBlocks γ oi.toList) := by
  have K : Keeps w w (Bs X st.ob γ) (After X.w0 X.B0 (ownBlocks γ D)) := Keeps.of_sub fun b hb => hE.bs hb
  cases x
  case nilsl e k =>
    simp only [resS, Option.some.injEq, Prod.mk.injEq] at he
    obtain ⟨rfl, rfl⟩ := he
    have hu : u = .slice none 0 0 := hx
    subst hu
    exact ⟨⟨[], ⟨by simp, .inl ⟨rfl, rfl⟩⟩, rfl⟩, rfl⟩
  case osl i ver =>
    simp only [resS] at he
    split at he
    · rename_i e k l ver' z ho
      split at he
      · rename_i hver
        subst hver
        have hu := hx.2 _ _ _ _ ho
        subst hu
        have hob : OwnRow w (Bs X st.ob γ) 0 e k l (γ i) := h.ob i _ ho
        split at he
        · rename_i hc
          split at he
          · rename_i hz
            subst hz
            simp only [Option.some.injEq, Prod.mk.injEq] at he
            obtain ⟨rfl, rfl⟩ := he
            refine ⟨hob.view (fun b hb => hE.bs hb) (fun b hb => hE.block h ho (.inr rfl) (fun hiD => ?_) hb), rfl⟩
            obtain ⟨_, e', k', l', ver', ho'⟩ := hE.own i hiD
            rw [show st.ob.obj i = _ from ho] at ho'
            cases ho'
          · cases he
        · rename_i hc
          simp only [Option.some.injEq, Prod.mk.injEq] at he
          obtain ⟨rfl, rfl⟩ := he
          simp only [Bool.or_eq_true, decide_eq_true_eq, not_or] at hc
          refine ⟨(hob.base fun b hb => hE.fresh h ho (.inl (by omega)) hb).keep K fun b _ => rfl, ?_⟩
          cases hb : blk (γ i) <;> simp [ownBlocks, hb]
      · cases he
    · cases he
  case adr i f =>
    cases f
    case none =>
      simp only [resS] at he
      split at he
      · rename_i k x z ho
        split at he
        · cases he
        · rename_i hnp
          simp only [Option.some.injEq, Prod.mk.injEq] at he
          obtain ⟨rfl, rfl⟩ := he
          obtain ⟨_, b, h1, rfl⟩ := hx
          have hob : BoxAt w (Bs X st.ob γ) k x (γ i) := h.ob i _ ho
          have := hob.view (B' := After X.w0 X.B0 (ownBlocks γ D)) (fun b hb => hE.bs hb) (fun b hb => hE.block h ho (.inl (by omega)) (fun hiD => by
            obtain ⟨_, e', k', l', ver', ho'⟩ := hE.own i hiD
            rw [show st.ob.obj i = _ from ho] at ho'
            cases ho') hb)
          rw [h1] at this
          exact ⟨this, rfl⟩
      · cases he
    case some f =>
      simp only [resS, Go.AI.plain, reduceCtorEq] at he
  case v k x =>
    simp only [resS, Go.AI.plain, Option.some.injEq, Prod.mk.injEq] at he
    obtain ⟨rfl, rfl⟩ := he
    exact ⟨RepV.keep K hx, rfl⟩
  case fadr k x =>
    simp only [resS, Go.AI.plain, Option.some.injEq, Prod.mk.injEq] at he
    obtain ⟨rfl, rfl⟩ := he
    exact ⟨RepA.keep K hx, rfl⟩
  all_goals simp only [resS, Go.AI.plain, reduceCtorEq] at he

theorem resS_own {st : St} {np : Nat} {x y : SV} {i : Nat} (he : resS st np x = some (y, some i)) : np ≤ i ∧ ∃ e k l ver, st.ob.obj i = some (.row e k l ver false) := by
  unfold resS at he
  split at he
  · simp at he
  · rename_i j ver
    split at he
    · rename_i e k l ver' z ho
      split at he
      · split at he
        · split at he
          · simp at he
          · cases he
        · rename_i hc
          simp only [Option.some.injEq, Prod.mk.injEq] at he
          obtain ⟨_, rfl⟩ := he
          simp only [Bool.or_eq_true, decide_eq_true_eq, not_or, Bool.not_eq_true] at hc
          refine ⟨by omega, e, k, l, ver', ?_⟩
          rw [show st.ob.obj j = _ from ho, hc.2]
      · cases he
    · cases he
  · split at he
    · split at he
      · cases he
      · simp at he
    · cases he
  · split at he
    · simp at he
    · cases he

theorem resVar_own {st : St} {np : Nat} {r : ResultVar} {x : AV} {i : Nat} (he : resVar C st np r = some (x, some i)) : np ≤ i ∧ ∃ e k l ver, st.ob.obj i = some (.row e k l ver false) := by
  unfold resVar at he
  split at he
  · split at he
    · split at he
      · rename_i y o hy
        simp only [Option.some.injEq, Prod.mk.injEq] at he
        obtain ⟨_, rfl⟩ := he
        exact resS_own hy
      · cases he
    · simp at he
    · cases he
  · split at he
    · split at he
      · split at he
        · simp at he
        · cases he
      · cases he
    · cases he

theorem resVars_own {st : St} {np : Nat} : ∀ {rs : List ResultVar} {as : List AV} {D : List Nat}, resVars C st np rs = some (as, D) → D.Nodup ∧ ∀ i ∈ D, np ≤ i ∧ ∃ e k l ver, st.ob.obj i = some (.row e k l ver false)
  | [], as, D, h => by
    simp only [resVars, Option.some.injEq, Prod.mk.injEq] at h
    obtain ⟨rfl, rfl⟩ := h
    exact ⟨List.nodup_nil, by simp⟩
  | r :: rs, as, D, h => by
    simp only [resVars] at h
    split at h
    · rename_i x o xs os hx hxs
      obtain ⟨h1, h2⟩ := resVars_own hxs
      split at h
      · rename_i hc
        simp only [Option.some.injEq, Prod.mk.injEq] at h
        obtain ⟨rfl, rfl⟩ := h
        cases o with
        | none => exact ⟨by simpa using h1, by simpa using h2⟩
        | some i =>
          simp at hc
          refine ⟨by simp [h1, hc], fun j hj => ?_⟩
          simp at hj
          rcases hj with rfl | hj
          · exact resVar_own hx
          · exact h2 j hj
      · cases h
    · cases h

def ResAs (w : World) (B : Nat → Prop) (N : Nat) : List AV → List Value → List Nat → Prop
  | [], us, os => us = [] ∧ os = []
  | x :: as, us, os => ∃ u us' o1 o2, us = u :: us' ∧ os = o1 ++ o2 ∧ ResA w B N x u o1 ∧ ResAs w B N as us' o2

theorem resVar_sound (hC : CfgOK C) {st : St} {np : Nat} {D : List Nat} (h : InvG X st a w γ) (hE : EndOK X st γ np D) {r : ResultVar} {x : AV} {oi : Option Nat} (he : resVar C st np r = some (x, oi)) (hD : ∀ i, oi = some i → i ∈ D) :
    ∃ u, (match r with | .tmp t => (pure (a.tmps.getD t undef) : Sem Value) | .cell b t => do loadVar t (← asAddr (a.tmps.getD b undef))).run C.P w = .ok u w ∧ ResA w (After X.w0 X.B0 (ownBlocks γ D)) X.w0.heap.size x u (ownBlocks γ oi.toList) := by
  cases r
  · rename_i t
    refine ⟨a.tmps.getD t undef, rfl, ?_⟩
    simp only [resVar] at he
    split at he
    · rename_i y hy
      have hs := h.sl t _ hy
      split at he
      · rename_i z o hz
        simp only [Option.some.injEq, Prod.mk.injEq] at he
        obtain ⟨rfl, rfl⟩ := he
        exact resS_sound h hE hs hz hD
      · cases he
    · rename_i g p q hy
      simp only [Option.some.injEq, Prod.mk.injEq] at he
      obtain ⟨rfl, rfl⟩ := he
      have hs := h.sl t _ hy
      exact ⟨AVRep.keep (x := .fn g p q) (Keeps.of_sub fun b hb => hE.bs hb) hs, rfl⟩
    · cases he
  · rename_i t ty
    simp only [resVar] at he
    split at he
    · rename_i i hi
      split at he
      · rename_i k x z hob
        split at he
        · rename_i hk
          simp only [Option.some.injEq, Prod.mk.injEq] at he
          obtain ⟨rfl, rfl⟩ := he
          obtain ⟨_, b, hb, e⟩ := h.sl t _ hi
          obtain ⟨b', cs, t', e', hh, hr⟩ := h.ob _ _ hob
          rw [hb] at e'
          cases e'
          have hc : CellsAt w ⟨b, 0, none⟩ cs := fun j u hj => by
            have hadd : (⟨b, 0, none⟩ : Addr).add j = ⟨b, j, none⟩ := by unfold Addr.add; split <;> simp_all
            rw [hadd]; simp only [World.cell?, hh]; simpa using hj
          refine ⟨mkV k cs, ?_, ⟨cs, hr.keep (Keeps.of_sub fun b hb => hE.bs hb), rfl⟩, rfl⟩
          have e2 : a.tmps.getD t undef = .pointer (some ⟨b, 0, none⟩) := e
          simp only [e2]
          simp [asAddr, (hC.kd _ _ hk).loadVar hr hc]
        · cases he
      · cases he
    · cases he

theorem resVars_sound (hC : CfgOK C) {st : St} {np : Nat} {D : List Nat} (h : InvG X st a w γ) (hE : EndOK X st γ np D) : ∀ {rs : List ResultVar} {as : List AV} {E : List Nat}, resVars C st np rs = some (as, E) → (∀ i ∈ E, i ∈ D) →
    ∃ us, (rs.mapM (m := Sem) fun r => match r with | .tmp t => pure (a.tmps.getD t undef) | .cell b t => do loadVar t (← asAddr (a.tmps.getD b undef))).run C.P w = .ok us w ∧
      ResAs w (After X.w0 X.B0 (ownBlocks γ D)) X.w0.heap.size as us (ownBlocks γ E)
  | [], as, E, he, hD => by
    simp only [resVars, Option.some.injEq, Prod.mk.injEq] at he
    obtain ⟨rfl, rfl⟩ := he
    exact ⟨[], rfl, rfl, rfl⟩
  | r :: rs, as, E, he, hD => by
    simp only [resVars] at he
    split at he
    · rename_i x o xs os hx hxs
      split at he
      · rename_i hc
        simp only [Option.some.injEq, Prod.mk.injEq] at he
        obtain ⟨rfl, rfl⟩ := he
        obtain ⟨us, h1, h2⟩ := resVars_sound hC h hE hxs fun i hi => hD i (by simp [hi])
        obtain ⟨u, h3, h4⟩ := resVar_sound hC h hE hx fun i hi => hD i (by simp [hi])
        refine ⟨u :: us, ?_, _, us, ownBlocks γ o.toList, ownBlocks γ os, rfl, ?_, h4, h2⟩
        · simp only [List.mapM_cons, Sem.run_bind, h3, Sem.run_pure, Result.andThen_ok, h1]
        · simp [ownBlocks, List.filterMap_append]
      · cases he
    · cases he

theorem ResAs.tup {N : Nat} : ∀ {as : List AV} {us : List Value} {os : List Nat} {l : List SV}, ResAs w B N as us os → mapO toSV as = some l → ResL w B N l us os
  | [], us, os, l, h, e => by
    simp only [mapO, Option.some.injEq] at e
    subst e
    exact h
  | x :: as, us, os, l, ⟨u, us', o1, o2, h1, h2, h3, h4⟩, e => by
    simp only [mapO] at e
    split at e
    · rename_i y ys hy hys
      simp only [Option.some.injEq] at e
      subst e
      cases x <;> simp only [toSV, reduceCtorEq, Option.some.injEq] at hy
      subst hy
      exact ⟨u, us', o1, o2, h1, h2, h3, ResAs.tup h4 hys⟩
    · cases e

theorem ResAs.length {N : Nat} : ∀ {as : List AV} {us : List Value} {os : List Nat}, ResAs w B N as us os → us.length = as.length
  | [], _, _, h => by rw [h.1]; rfl
  | _ :: _, _, _, ⟨_, _, _, _, h1, _, _, h4⟩ => by rw [h1]; simp [h4.length]

theorem resOf_sound (hC : CfgOK C) {st : St} {np : Nat} (h : InvG X st a w γ) {fn : Func} {r : AV} (he : resOf C st np fn.results.toList = some r) (hpm : ∀ i v, (i, v) ∈ X.pm → i < np ∧ ∃ o, st.ob.obj i = some o ∧ o.frz = false ∧ γ i = v) :
    ∃ D v, EndOK X st γ np D ∧ D.Nodup ∧ (results fn a.tmps).run C.P w = .ok v w ∧ ResA w (After X.w0 X.B0 (ownBlocks γ D)) X.w0.heap.size r v (ownBlocks γ D) := by
  unfold resOf at he
  have hrun : ∀ us, (fn.results.toList.mapM (m := Sem) fun r => match r with | .tmp t => pure (a.tmps.getD t undef) | .cell b t => do loadVar t (← asAddr (a.tmps.getD b undef))).run C.P w = .ok us w →
      (results fn a.tmps).run C.P w = .ok (if h : us.toArray.size = 1 then us.toArray[0] else .tuple us.toArray) w := fun us e => by
    unfold results
    rw [Array.mapM_eq_mapM_toList]
    simp only [Sem.run_bind, Sem.run_map, Result.andThen_ok, bind_map_left, map_eq_pure_bind]
    erw [e]
    rfl
  split at he
  · rename_i x D hr
    simp only [Option.some.injEq] at he
    subst he
    obtain ⟨hnd, hown⟩ := resVars_own hr
    have hE : EndOK X st γ np D := ⟨hpm, hown⟩
    obtain ⟨us, h1, h2⟩ := resVars_sound hC h hE hr fun i hi => hi
    obtain ⟨u, us', o1, o2, rfl, ho, h3, rfl, rfl⟩ := h2
    refine ⟨D, u, hE, hnd, by rw [hrun _ h1]; rfl, ?_⟩
    have e1 : o1 = ownBlocks γ D := by simpa using ho.symm
    rw [e1] at h3
    exact h3
  · rename_i as D hne hr
    cases hm : mapO toSV as with
    | none => rw [hm] at he; cases he
    | some l =>
      rw [hm] at he
      simp only [Option.map, Option.some.injEq] at he
      subst he
      obtain ⟨hnd, hown⟩ := resVars_own hr
      have hE : EndOK X st γ np D := ⟨hpm, hown⟩
      obtain ⟨us, h1, h2⟩ := resVars_sound hC h hE hr fun i hi => hi
      have hl := h2.length
      refine ⟨D, .tuple us.toArray, hE, hnd, ?_, us, rfl, h2.tup hm⟩
      rw [hrun _ h1, dif_neg]
      intro e
      match as, hl with
      | [x], _ => exact hne x rfl
      | [], hl => simp at hl; subst hl; simp at e
      | x :: y :: as, hl => simp at e hl; omega
  · cases he

end Go.AI
