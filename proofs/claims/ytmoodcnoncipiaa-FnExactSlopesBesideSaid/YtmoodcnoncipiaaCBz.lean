/- 'laws.FnExactSlopesBeside' returns true for every input, and the input reads as it did. -/
import Derived.Test.YtmoodcnoncipiaaCB
import Derived.Test.YtmoodcnoncipiaaAiLaw
import Derived.Test.YtmoodcnoncipiaaRows
set_option linter.unusedVariables false
namespace Go.Proofs.Ytmoodcnoncipiaa.fnExactSlopesBeside
open Go.ChangeShapes Go.WideShapes Go.ChangeAt Go.RowKit Go.Joins
open Go.ChangeMaps (open_string shut_string)

theorem own : ownKnob Try.prog.godebug = none := by kernel_rfl
theorem cells29 : Try.prog.cellsOf 29 = 2 := by kernel_rfl
theorem cells31 : Try.prog.cellsOf 31 = 2 := by kernel_rfl
theorem walk (a0 b0 : ByteArray) (a1 b1 : Int) (wa0 : a0.size ≤ maxLen) (wb0 : b0.size ≤ maxLen) (w : World) :
    Calls Try.prog 10 #[.agg #[.string a0, .string b0], .agg #[.int .i64 a1, .int .i64 b1]] w fun e w' => e = .returned (.bool true) ∧ Go.AI.Fr w [] w' :=
  Go.AI.SC.law (Go.AI.law_Beside a0 b0 (a1, b1) wa0 wb0) ⟨_, _, rfl, ⟨[.string a0, .string b0], ⟨[.string a0], [.string b0], rfl, rfl, rfl⟩, rfl⟩, ⟨_, _, rfl, ⟨[.int .i64 a1, .int .i64 b1], ⟨[.int .i64 a1], [.int .i64 b1], rfl, rfl, rfl⟩, rfl⟩, rfl, rfl⟩⟩

set_option maxRecDepth 100000 in
theorem lifted (os : Os) (started : os.Started) (H : Type) (enc : TypeId × Value → H) :
    ReturnsInHanded {} Try.checked os 10 .any (Rows.fnExactSlopesBesideSpec.pre6 enc Try.prog Try.f10 Rows.fnExactSlopesBesideRow.domain false) (Rows.fnExactSlopesBesideSpec.post enc Try.prog Try.f10 false true false false) := by
  refine returnsInHanded_of_change (C := Try.checked) own started (by kernel_rfl) Try.func10
    (ChangeSpec.witness6 (enc := enc) (C := Try.checked) false ⟨#[], #[.agg #[.string ByteArray.empty, .string ByteArray.empty], .agg #[.int .i64 0, .int .i64 0]], []⟩ 8 (by kernel_rfl) (by kernel_rfl) (by kernel_rfl) (by kernel_rfl)) ?_
  intro W base args ds gs before hval0 hW hcnd _
  have hval : ∀ (j : Nat) t v, Try.f10.params[j]? = some t → args[j]? = some v → Value.okWide Try.prog W .any base t v := hval0
  have hW' := hW
  obtain ⟨p, q, hA0, hV, rfl, hfz, hnd⟩ := hW
  have hA : DataW.TrodAll enc Try.prog W 0 (fun _ => true) true Try.f10.params.toList args.toList ds p := hA0
  rw [Try.params10] at hA hval
  obtain ⟨v0, vs0, d0, ds0, p0, q0, hargs0, rfl, rfl, h0, r0⟩ := trodAll_cons hA
  obtain ⟨v1, vs1, d1, ds1, p1, q1, hargs1, rfl, rfl, h1, r1⟩ := trodAll_cons r0
  obtain ⟨rfl, rfl, rfl⟩ := trodAll_nil r1
  obtain rfl : args = #[v0, v1] := by cases args; simp_all
  obtain ⟨rfl, rfl⟩ := trodVars_none hV
  obtain ⟨c0, d0', y0, z0, m0, rfl, rfl, rfl, hy0, hz0⟩ := open_agg2 Try.underlying29 (by kernel_rfl) cells29 (hval 0 29 v0 rfl rfl) h0
  obtain ⟨a0, e0, rfl, wa0⟩ := DataW.trod_string Try.underlying9 hy0
  obtain ⟨b0, g0, rfl, wb0⟩ := DataW.trod_string Try.underlying9 hz0
  simp at e0 g0
  subst e0 g0
  obtain ⟨c1, d1', y1, z1, m1, rfl, rfl, rfl, hy1, hz1⟩ := open_agg2 Try.underlying31 (by kernel_rfl) cells31 (hval 1 31 v1 rfl rfl) h1
  obtain ⟨a1, e1, rfl, wa1⟩ := DataW.trod_int Try.underlying3 hy1
  obtain ⟨b1, g1, rfl, wb1⟩ := DataW.trod_int Try.underlying3 hz1
  simp at e1 g1
  subst e1 g1
  clear hA0 hval0
  simp only [List.append_nil] at hW'
  have reads0 : ∀ (W' : World) (sp : Nat → Bool), DataW.Trod enc Try.prog W' 0 sp true 29 (.agg #[.string a0, .string b0]) (.agg [.lit (.string a0.data.toList), .lit (.string b0.data.toList)]) [] := fun W' sp =>
    shut_agg2 (y0 := (.lit (.string a0.data.toList), [])) (y1 := (.lit (.string b0.data.toList), [])) Try.underlying29 (by kernel_rfl) cells29 (shut_string Try.underlying9 wa0) (shut_string Try.underlying9 wb0)
  have reads1 : ∀ (W' : World) (sp : Nat → Bool), DataW.Trod enc Try.prog W' 0 sp true 31 (.agg #[.int .i64 a1, .int .i64 b1]) (.agg [.lit (.int .i64 a1), .lit (.int .i64 b1)]) [] := fun W' sp =>
    shut_agg2 (y0 := (.lit (.int .i64 a1), [])) (y1 := (.lit (.int .i64 b1), [])) Try.underlying31 (by kernel_rfl) cells31 (shut_int Try.underlying3 wa1) (shut_int Try.underlying3 wb1)
  refine (walk a0 b0 a1 b1 wa0 wb0 W).mono fun e W' ⟨he, hg⟩ => ?_
  subst he
  exact ⟨_, rfl, Go.AI.post_of_kept (pa := []) (pv := []) hW' (fun _ _ _ => (trodAll_cons_mk (shut_bool Try.underlying4 _) trodAll_mk0)) (fun sp _ => (trodAll_cons_mk (reads0 _ sp) (trodAll_cons_mk (reads1 _ sp) trodAll_mk0))) (fun _ _ => rfl) rfl
    hg.kept⟩

theorem over : Rows.fnExactSlopesBesideRow.holds Try.pinned (OpenSpec.ofChange Rows.fnExactSlopesBesideSpec) :=
  OpenClaim.holds_of_wide 10 Try.f10 rfl rfl rfl rfl rfl rfl rfl ⟨rfl, rfl, rfl, rfl, rfl⟩ rfl rfl rfl rfl rfl (by kernel_rfl) Try.func10 (by kernel_rfl)
    (of_decide_eq_true (by kernel_rfl)) (by unfold Func.isWrapper; first | (rw [if_pos (by decide +kernel)]; kernel_rfl) | (rw [if_neg (by decide +kernel)]; exact ⟨rfl, rfl⟩))
    (fun os started H enc _ => lifted os started H enc)

theorem proved : Rows.FnExactSlopesBesideSaid :=
  over
#print axioms proved
end Go.Proofs.Ytmoodcnoncipiaa.fnExactSlopesBeside
