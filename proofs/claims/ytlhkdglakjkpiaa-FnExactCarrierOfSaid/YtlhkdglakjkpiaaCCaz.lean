/- 'laws.FnExactCarrierOf' returns true for every input, and the input reads as it did. -/
import Derived.Test.YtlhkdglakjkpiaaCCa
import Derived.Test.YtlhkdglakjkpiaaAiH
import Derived.Test.YtlhkdglakjkpiaaRows
set_option linter.unusedVariables false
namespace Go.Proofs.Ytlhkdglakjkpiaa.fnExactCarrierOf
open Go.ChangeShapes Go.WideShapes Go.ChangeAt Go.RowKit Go.Joins
open Go.ChangeMaps (open_string shut_string)

theorem own : ownKnob Try.prog.godebug = none := by kernel_rfl
theorem laidOut : laidOutB Try.prog = true := by kernel_rfl
theorem cells42 : Try.prog.cellsOf 42 = 2 := by kernel_rfl
theorem walk (w : World) (a0 b0 : Int) (a1 b1 : Int)  :
    Calls Try.prog 7 #[(.agg #[.int .i64 a0, .int .i64 b0]), (.agg #[.int .i64 a1, .int .i64 b1])] w fun e w' => e = .returned (.bool true) ∧ Go.AI.Fr w [] w' :=
  Go.AI.SC.law (Go.AI.law_Car (a0, b0) (a1, b1) ) ⟨_, _, rfl, ⟨[.int .i64 a0, .int .i64 b0], ⟨[.int .i64 a0], [.int .i64 b0], rfl, rfl, rfl⟩, rfl⟩, ⟨_, _, rfl, ⟨[.int .i64 a1, .int .i64 b1], ⟨[.int .i64 a1], [.int .i64 b1], rfl, rfl, rfl⟩, rfl⟩, rfl, rfl⟩⟩

set_option maxRecDepth 100000 in
theorem lifted (os : Os) (started : os.Started) (H : Type) (enc : TypeId × Value → H) :
    ReturnsInHanded {} Try.checked os 7 .any (Rows.fnExactCarrierOfSpec.pre6 enc Try.prog Try.f7 Rows.fnExactCarrierOfRow.domain false) (Rows.fnExactCarrierOfSpec.post enc Try.prog Try.f7 false true false false) := by
  refine returnsInHanded_of_change (C := Try.checked) own started (by kernel_rfl) Try.func7
    (ChangeSpec.witness6 (enc := enc) (C := Try.checked) false ⟨#[], #[.agg #[.int .i64 0, .int .i64 0], .agg #[.int .i64 0, .int .i64 0]], []⟩ 8 (by kernel_rfl) (by kernel_rfl) (by kernel_rfl) (by kernel_rfl)) ?_
  intro W base args ds gs before hval0 hW hcnd _
  have hval : ∀ (j : Nat) t v, Try.f7.params[j]? = some t → args[j]? = some v → Value.okWide Try.prog W .any base t v := hval0
  have hW' := hW
  obtain ⟨p, q, hA0, hV, rfl, hfz, hnd⟩ := hW
  have hA : DataW.TrodAll enc Try.prog W 0 (fun _ => true) true Try.f7.params.toList args.toList ds p := hA0
  rw [Try.params7] at hA hval
  obtain ⟨v0, vs0, d0, ds0, p0, q0, hargs0, rfl, rfl, h0, r0⟩ := trodAll_cons hA
  obtain ⟨v1, vs1, d1, ds1, p1, q1, hargs1, rfl, rfl, h1, r1⟩ := trodAll_cons r0
  obtain ⟨rfl, rfl, rfl⟩ := trodAll_nil r1
  obtain rfl : args = #[v0, v1] := by cases args; simp_all
  obtain ⟨rfl, rfl⟩ := trodVars_none hV
  have k0 := h0
  have k1 := h1
  obtain ⟨c0, d0', y0, z0, m0, rfl, rfl, rfl, hy0, hz0⟩ := open_agg2 Try.underlying42 (by kernel_rfl) cells42 (hval 0 42 v0 rfl rfl) h0
  obtain ⟨a0, e0, rfl, wa0⟩ := DataW.trod_int Try.underlying3 hy0
  obtain ⟨b0, g0, rfl, wb0⟩ := DataW.trod_int Try.underlying3 hz0
  simp at e0 g0
  subst e0 g0
  obtain ⟨c1, d1', y1, z1, m1, rfl, rfl, rfl, hy1, hz1⟩ := open_agg2 Try.underlying42 (by kernel_rfl) cells42 (hval 1 42 v1 rfl rfl) h1
  obtain ⟨a1, e1, rfl, wa1⟩ := DataW.trod_int Try.underlying3 hy1
  obtain ⟨b1, g1, rfl, wb1⟩ := DataW.trod_int Try.underlying3 hz1
  simp at e1 g1
  subst e1 g1
  clear hA0 hval0
  simp only [List.append_nil] at hW'
  refine (walk W a0 b0 a1 b1 ).mono fun e W' ⟨he, hg⟩ => ?_
  subst he
  exact ⟨_, rfl, Go.AI.post_of_below (pv := []) hW' (fun _ _ _ => (trodAll_cons_mk (shut_bool Try.underlying4 _) trodAll_mk0)) (trodAll_cons_mk (Below.trod laidOut (by kernel_rfl) (of_decide_eq_true (by kernel_rfl)) k0 hg.below (fun x hx => by cases hx)) (trodAll_cons_mk (Below.trod laidOut (by kernel_rfl) (of_decide_eq_true (by kernel_rfl)) k1 hg.below (fun x hx => by cases hx)) trodAll_mk0)) (fun _ _ => rfl) (by simp)
    hg.kept⟩

theorem over : Rows.fnExactCarrierOfRow.holds Try.pinned (OpenSpec.ofChange Rows.fnExactCarrierOfSpec) :=
  OpenClaim.holds_of_wide 7 Try.f7 rfl rfl rfl rfl rfl rfl rfl ⟨rfl, rfl, rfl, rfl, rfl⟩ rfl rfl rfl rfl rfl (by kernel_rfl) Try.func7 (by kernel_rfl)
    (of_decide_eq_true (by kernel_rfl)) (by unfold Func.isWrapper; first | (rw [if_pos (by decide +kernel)]; kernel_rfl) | (rw [if_neg (by decide +kernel)]; exact ⟨rfl, rfl⟩))
    (fun os started H enc _ => lifted os started H enc)

theorem proved : Rows.FnExactCarrierOfSaid :=
  over
#print axioms proved
end Go.Proofs.Ytlhkdglakjkpiaa.fnExactCarrierOf
