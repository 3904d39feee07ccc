/- 'laws.FnExactLeafOf' returns true for every input, and the input reads as it did. -/
import Derived.Test.YtnoajkfmokcekaaCI
import Derived.Test.YtnoajkfmokcekaaAiLaw
import Derived.Test.YtnoajkfmokcekaaRows
set_option linter.unusedVariables false
namespace Go.Proofs.Ytnoajkfmokcekaa.fnExactLeafOf
open Go.ChangeShapes Go.WideShapes Go.ChangeAt Go.RowKit Go.Joins
open Go.ChangeMaps (open_string shut_string)

theorem own : ownKnob Try.prog.godebug = none := by kernel_rfl
theorem cells : Try.prog.cellsOf 29 = 2 := by kernel_rfl

theorem walk (a : ByteArray) (x y : Int) (wa : a.size ≤ maxLen) (w : World) :
    Calls Try.prog 4 #[.string a, .agg #[.int .i64 x, .int .i64 y]] w fun e w' => e = .returned (.bool true) ∧ Go.AI.Fr w [] w' :=
  Go.AI.SC.law (Go.AI.law_LeafOf a (x, y) wa) ⟨_, _, rfl, ⟨[.string a], rfl, rfl⟩, _, _, rfl, ⟨[.int .i64 x, .int .i64 y], ⟨[.int .i64 x], [.int .i64 y], rfl, rfl, rfl⟩, rfl⟩, rfl, rfl⟩

set_option maxRecDepth 100000 in
theorem lifted (os : Os) (started : os.Started) (H : Type) (enc : TypeId × Value → H) :
    ReturnsInHanded {} Try.checked os 4 .any (Rows.fnExactLeafOfSpec.pre6 enc Try.prog Try.f4 Rows.fnExactLeafOfRow.domain false) (Rows.fnExactLeafOfSpec.post enc Try.prog Try.f4 false true false false) := by
  refine returnsInHanded_of_change (C := Try.checked) own started (by kernel_rfl) Try.func4
    (ChangeSpec.witness6 (enc := enc) (C := Try.checked) false ⟨#[], #[.string ByteArray.empty, .agg #[.int .i64 0, .int .i64 0]], []⟩ 8 (by kernel_rfl) (by kernel_rfl) (by kernel_rfl) (by kernel_rfl)) ?_
  intro W base args ds gs before hval0 hW hcnd _
  have hval : ∀ (j : Nat) t v, Try.f4.params[j]? = some t → args[j]? = some v → Value.okWide Try.prog W .any base t v := hval0
  have hW' := hW
  obtain ⟨p, q, hA0, hV, rfl, hfz, hnd⟩ := hW
  have hA : DataW.TrodAll enc Try.prog W 0 (fun _ => true) true Try.f4.params.toList args.toList ds p := hA0
  rw [Try.params4] at hA hval
  obtain ⟨v0, vs0, d0, ds0, p0, q0, hargs, rfl, rfl, h0, r0⟩ := trodAll_cons hA
  obtain ⟨v1, vs1, d1, ds1, p1, q1, hargs1, rfl, rfl, h1, r1⟩ := trodAll_cons r0
  obtain ⟨rfl, rfl, rfl⟩ := trodAll_nil r1
  obtain rfl : args = #[v0, v1] := by cases args; simp_all
  obtain ⟨rfl, rfl⟩ := trodVars_none hV
  obtain ⟨s, rfl, rfl, rfl, ws⟩ := open_string Try.underlying9 (hval 0 9 v0 rfl rfl) h0
  obtain ⟨c2, c3, y2, y3, m2, rfl, rfl, rfl, hy2, hy3⟩ := open_agg2 Try.underlying29 (by kernel_rfl) cells (hval 1 29 v1 rfl rfl) h1
  obtain ⟨c, e2, rfl, wc⟩ := DataW.trod_int Try.underlying3 hy2
  obtain ⟨d, e3, rfl, wd⟩ := DataW.trod_int Try.underlying3 hy3
  simp at e2 e3
  subst e2 e3
  clear hA0 hval0
  simp only [List.append_nil] at hW'
  have structReads : ∀ (W' : World) (sp : Nat → Bool), DataW.Trod enc Try.prog W' 0 sp true 29 (.agg #[.int .i64 c, .int .i64 d]) (.agg [.lit (.int .i64 c), .lit (.int .i64 d)]) [] := fun W' sp =>
    shut_agg2 (y0 := (.lit (.int .i64 c), [])) (y1 := (.lit (.int .i64 d), [])) Try.underlying29 (by kernel_rfl) cells (shut_int Try.underlying3 wc) (shut_int Try.underlying3 wd)
  refine (walk s c d ws W).mono fun e W' ⟨he, hg⟩ => ?_
  subst he
  exact ⟨_, rfl, Go.AI.post_of_kept (pa := []) (pv := []) hW' (fun _ _ _ => (trodAll_cons_mk (shut_bool Try.underlying4 _) trodAll_mk0)) (fun sp _ => (trodAll_cons_mk (shut_string Try.underlying9 ws) (trodAll_cons_mk (structReads _ sp) trodAll_mk0))) (fun _ _ => rfl) rfl
    hg.kept⟩

theorem over : Rows.fnExactLeafOfRow.holds Try.pinned (OpenSpec.ofChange Rows.fnExactLeafOfSpec) :=
  OpenClaim.holds_of_wide 4 Try.f4 rfl rfl rfl rfl rfl rfl rfl ⟨rfl, rfl, rfl, rfl, rfl⟩ rfl rfl rfl rfl rfl (by kernel_rfl) Try.func4 (by kernel_rfl)
    (of_decide_eq_true (by kernel_rfl)) (by unfold Func.isWrapper; first | (rw [if_pos (by decide +kernel)]; kernel_rfl) | (rw [if_neg (by decide +kernel)]; exact ⟨rfl, rfl⟩))
    (fun os started H enc _ => lifted os started H enc)

theorem proved : Rows.FnExactLeafOfSaid :=
  over
#print axioms proved
end Go.Proofs.Ytnoajkfmokcekaa.fnExactLeafOf
