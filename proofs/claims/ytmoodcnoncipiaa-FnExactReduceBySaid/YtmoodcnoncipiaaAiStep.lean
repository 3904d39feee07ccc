/- One operation of the evaluator, one of the model. -/
import Derived.Test.YtmoodcnoncipiaaAiBuild
set_option autoImplicit false
set_option linter.unusedVariables false
set_option linter.unusedSimpArgs false
namespace Go.AI

variable {C : Cfg} {X : Ctx} {sl : List (Option AV)} {ob ob' : Obs} {a : Act} {w w' : World} {γ γ' : Nat → Value} {o : Oper} {v : Option AV} {ps : List Prop}

theorem goes_pure (hC : CfgOK C) (h : InvG X ⟨sl, ob⟩ a w γ) {it : It} {op : Op} (ho : o.op = op) {xs : List SV} (hxs : SlL w (Bs X ob γ) ob γ xs (op.operands.toList.map a.eval)) (hn : xs.any isAlias = false)
    {z : SV} (he : apure C it op xs = some (z, ps)) (hp : All ps) : Goes C X sl o a w (some (.s z)) ob := by
  obtain ⟨u, hr, hu⟩ := apure_sound hC he hp (SlL.noAlias h hxs hn) ho rfl
  exact Goes.value hr h fun x hx => by cases hx; exact SVRep.slot hu

theorem astep0_sound (hC : CfgOK C) (h : InvG X ⟨sl, ob⟩ a w γ) {it : It} (he : astep0 C it o (ev C sl) ob = some (v, ob', ps)) (hp : All ps) : Goes C X sl o a w v ob' := by
  unfold astep0 at he
  split at he
  · rename_i x ho
    exact moveStep_goes h he (by simp [execOp, ho])
  · rename_i x ho
    exact moveStep_goes h he (by simp [execOp, ho])
  · rename_i ho; exact goes_pick h ho he
  · rename_i ho; exact goes_alloc hC h ho he
  · rename_i ho; exact goes_box hC h ho he
  · rename_i ho; exact goes_build hC h ho he
  · rename_i ho; exact goes_buildSlice hC h ho he
  · rename_i ho
    split at he
    · rename_i x y hx hy
      exact goes_store hC h ho (evS_rep h hx) (evS_rep h hy) he hp
    · cases he
  · rename_i ho; exact goes_nilCheck h ho he
  · rename_i ho; exact goes_makeFunc h ho he
  · rename_i ho; exact goes_makeSlice hC h ho he hp
  · rename_i ho; exact goes_extract h ho he
  · rename_i args ts ho
    split at he
    · rename_i x y t t' d hargs hts hd
      split at he
      · rename_i htt
        subst htt
        split at he
        · rename_i sx sy hx hy
          have e1 : args = #[x, y] := Array.toList_inj.mp hargs
          have e2 : ts = #[t, t] := Array.toList_inj.mp hts
          subst e1; subst e2
          exact goes_append hC h ho (evS_rep h hx) (evS_rep h hy) he hp
        · cases he
      · cases he
    · cases he
  · rename_i f args ts ho
    split at he
    · rename_i g first caps xs hf hxs
      exact goes_call hC h ho hf hxs he hp
    · cases he
  · generalize hg : o.op = op at he
    split at he
    · rename_i xs hxs
      have hl := evSs_rep h hxs
      split at he
      · rename_i hal
        have hr := he
        unfold aliasStep at hr
        split at hr
        · exact goes_load_alias hC h hg hl he hp
        · exact goes_fieldAddr_alias hC h hg hl he
        · exact goes_indexAddr_alias hC h hg hl he hp
        · exact goes_slice_alias hC h hg hl he hp
        · exact goes_plains hC h hg (.inl ⟨_, _, _, rfl⟩) hl he hp
        · exact goes_plains hC h hg (.inr ⟨_, _, rfl⟩) hl he hp
        · cases hr
      · rename_i hal
        split at he
        · rename_i z ps' hz
          simp only [Option.some.injEq, Prod.mk.injEq] at he
          obtain ⟨rfl, rfl, rfl⟩ := he
          exact goes_pure hC h hg hl (by simpa using hal) hz hp
        · cases he
    · cases he

theorem decB_spec {it : It} {op : Op} {r : Option Out} (h : decB it op r = some (v, ob', ps)) : ∃ v0 ps0, r = some (v0, ob', ps0) ∧ (All ps → All ps0 ∧ v = v0) ∧ ∀ ob2, decB it op (some (v0, ob2, ps0)) = some (v, ob2, ps) := by
  unfold decB at h
  split at h
  · rename_i b ob1 ps1
    split at h
    · rename_i d _ _
      simp only [Option.some.injEq, Prod.mk.injEq] at h
      obtain ⟨rfl, rfl, rfl⟩ := h
      refine ⟨_, _, rfl, fun hp => ?_, fun ob2 => rfl⟩
      obtain ⟨h1, h2⟩ := All.append.1 hp
      have : b = d := h2.1
      exact ⟨h1, by rw [this]⟩
    · rename_i d _ _ _
      simp only [Option.some.injEq, Prod.mk.injEq] at h
      obtain ⟨rfl, rfl, rfl⟩ := h
      refine ⟨_, _, rfl, fun hp => ?_, fun ob2 => rfl⟩
      obtain ⟨h1, h2⟩ := All.append.1 hp
      have : b = d := h2.1
      exact ⟨h1, by rw [this]⟩
    · rename_i n1 n2
      simp only [Option.some.injEq, Prod.mk.injEq] at h
      obtain ⟨rfl, rfl, rfl⟩ := h
      refine ⟨_, _, rfl, fun hp => ⟨hp, rfl⟩, fun ob2 => ?_⟩
      simp only [decB]
  · rename_i hn
    refine ⟨v, ps, h, fun hp => ⟨hp, rfl⟩, fun ob2 => ?_⟩
    unfold decB
    split
    · rename_i b ob1 ps1 e
      simp only [Option.some.injEq, Prod.mk.injEq] at e
      obtain ⟨rfl, rfl, rfl⟩ := e
      exact absurd h (hn _ _ _)
    · rfl

theorem astep_sound (hC : CfgOK C) (h : InvG X ⟨sl, ob⟩ a w γ) {it : It} (he : astep C it o (ev C sl) ob = some (v, ob', ps)) (hp : All ps) : Goes C X sl o a w v ob' := by
  obtain ⟨v0, ps0, h1, h2, _⟩ := decB_spec he
  obtain ⟨h3, rfl⟩ := h2 hp
  exact astep0_sound hC h h1 h3

end Go.AI
