/- 'laws.FnExactMovedIntervals' returns true for every input, and the input reads as it did. -/
import Derived.Test.YtlkjnlhpdjbjdaaCwR
import Derived.Test.YtlkjnlhpdjbjdaaAiH
import Derived.Test.YtlkjnlhpdjbjdaaRows
set_option linter.unusedVariables false
namespace Go.Proofs.Ytlkjnlhpdjbjdaa.fnExactMovedIntervals
open Go.ChangeShapes Go.WideShapes Go.ChangeAt Go.RowKit Go.Joins
open Go.ChangeMaps (open_string shut_string)

theorem own : ownKnob Try.prog.godebug = none := by kernel_rfl
theorem laidOut : laidOutB Try.prog = true := by kernel_rfl
theorem cells23 : Try.prog.cellsOf 23 = 2 := by kernel_rfl
theorem walk (w : World) (a0 b0 : ByteArray) (wa0 : a0.size ≤ maxLen) (wb0 : b0.size ≤ maxLen) :
    Calls Try.prog 5 #[(.agg #[.string a0, .string b0])] w fun e w' => e = .returned (.bool true) ∧ Go.AI.Fr w [] w' :=
  Go.AI.lawMI a0 b0 wa0 wb0 w

set_option maxRecDepth 100000 in
theorem lifted (os : Os) (started : os.Started) (H : Type) (enc : TypeId × Value → H) :
    ReturnsInHanded {} Try.checked os 5 .any (Rows.fnExactMovedIntervalsSpec.pre6 enc Try.prog Try.f5 Rows.fnExactMovedIntervalsRow.domain false) (Rows.fnExactMovedIntervalsSpec.post enc Try.prog Try.f5 false true false false) := by
  refine returnsInHanded_of_change (C := Try.checked) own started (by kernel_rfl) Try.func5
    (ChangeSpec.witness6 (enc := enc) (C := Try.checked) false ⟨#[], #[.agg #[.string ByteArray.empty, .string ByteArray.empty]], []⟩ 8 (by kernel_rfl) (by kernel_rfl) (by kernel_rfl) (by kernel_rfl)) ?_
  intro W base args ds gs before hval0 hW hcnd _
  have hval : ∀ (j : Nat) t v, Try.f5.params[j]? = some t → args[j]? = some v → Value.okWide Try.prog W .any base t v := hval0
  have hW' := hW
  obtain ⟨p, q, hA0, hV, rfl, hfz, hnd⟩ := hW
  have hA : DataW.TrodAll enc Try.prog W 0 (fun _ => true) true Try.f5.params.toList args.toList ds p := hA0
  rw [Try.params5] at hA hval
  obtain ⟨v0, vs0, d0, ds0, p0, q0, hargs0, rfl, rfl, h0, r0⟩ := trodAll_cons hA
  obtain ⟨rfl, rfl, rfl⟩ := trodAll_nil r0
  obtain rfl : args = #[v0] := by cases args; simp_all
  obtain ⟨rfl, rfl⟩ := trodVars_none hV
  have k0 := h0
  obtain ⟨c0, d0', y0, z0, m0, rfl, rfl, rfl, hy0, hz0⟩ := open_agg2 Try.underlying23 (by kernel_rfl) cells23 (hval 0 23 v0 rfl rfl) h0
  obtain ⟨a0, e0, rfl, wa0⟩ := DataW.trod_string Try.underlying9 hy0
  obtain ⟨b0, g0, rfl, wb0⟩ := DataW.trod_string Try.underlying9 hz0
  simp at e0 g0
  subst e0 g0
  clear hA0 hval0
  simp only [List.append_nil] at hW'
  refine (walk W a0 b0 wa0 wb0).mono fun e W' ⟨he, hg⟩ => ?_
  subst he
  exact ⟨_, rfl, Go.AI.post_of_below (pv := []) hW' (fun _ _ _ => (trodAll_cons_mk (shut_bool Try.underlying4 _) trodAll_mk0)) (trodAll_cons_mk (Below.trod laidOut (by kernel_rfl) (of_decide_eq_true (by kernel_rfl)) k0 hg.below (fun x hx => by cases hx)) trodAll_mk0) (fun _ _ => rfl) (by simp)
    hg.kept⟩

theorem over : Rows.fnExactMovedIntervalsRow.holds Try.pinned (OpenSpec.ofChange Rows.fnExactMovedIntervalsSpec) :=
  OpenClaim.holds_of_wide 5 Try.f5 rfl rfl rfl rfl rfl rfl rfl ⟨rfl, rfl, rfl, rfl, rfl⟩ rfl rfl rfl rfl rfl (by kernel_rfl) Try.func5 (by kernel_rfl)
    (of_decide_eq_true (by kernel_rfl)) (by unfold Func.isWrapper; first | (rw [if_pos (by decide +kernel)]; kernel_rfl) | (rw [if_neg (by decide +kernel)]; exact ⟨rfl, rfl⟩))
    (fun os started H enc _ => lifted os started H enc)

theorem proved : Rows.FnExactMovedIntervalsSaid :=
  over
#print axioms proved
end Go.Proofs.Ytlkjnlhpdjbjdaa.fnExactMovedIntervals
