/- 'laws.FnExponentsOfTrees' returns true for every input, and the input reads as it did. -/
import Derived.Test.YtdfllkeekehplaaEx3
import Derived.Test.YtdfllkeekehplaaAiH
import Derived.Test.YtdfllkeekehplaaRows
set_option linter.unusedVariables false
namespace Go.Proofs.Ytdfllkeekehplaa.fnExponentsOfTrees
open Go.ChangeShapes Go.WideShapes Go.ChangeAt Go.RowKit Go.Joins
open Go.ChangeMaps (open_string shut_string)

theorem own : ownKnob Try.prog.godebug = none := by kernel_rfl
theorem laidOut : laidOutB Try.prog = true := by kernel_rfl
theorem cells5 : Try.prog.cellsOf 5 = 1 := by kernel_rfl
theorem walk (w : World) (a0 : List Int) (u0 : Value) (a1 : List Int) (u1 : Value) (ra0 : Go.AI.RepV w (fun b => b < w.heap.size) (.sl (.int .u8)) a0 u0) (wa0 : a0.length ≤ maxLen) (sa0 : ∀ n ∈ a0, (Lit.int .u8 n).wf = true) (ra1 : Go.AI.RepV w (fun b => b < w.heap.size) (.sl (.int .u8)) a1 u1) (wa1 : a1.length ≤ maxLen) (sa1 : ∀ n ∈ a1, (Lit.int .u8 n).wf = true) :
    Calls Try.prog 6 #[u0, u1] w fun e w' => e = .returned (.bool true) ∧ Go.AI.Fr w [] w' :=
  Go.AI.SC.law (Go.AI.law_Ex a0 a1 wa0 sa0 wa1 sa1) ⟨_, _, rfl, ra0, ⟨_, _, rfl, ra1, rfl, rfl⟩⟩

set_option maxRecDepth 100000 in
theorem lifted (os : Os) (started : os.Started) (H : Type) (enc : TypeId × Value → H) :
    ReturnsInHanded {} Try.checked os 6 .any (Rows.fnExponentsOfTreesSpec.pre6 enc Try.prog Try.f6 Rows.fnExponentsOfTreesRow.domain false) (Rows.fnExponentsOfTreesSpec.post enc Try.prog Try.f6 false true false false) := by
  refine returnsInHanded_of_change (C := Try.checked) own started (by kernel_rfl) Try.func6
    (ChangeSpec.witness6 (enc := enc) (C := Try.checked) false ⟨#[], #[.slice none 0 0, .slice none 0 0], []⟩ 8 (by kernel_rfl) (by kernel_rfl) (by kernel_rfl) (by kernel_rfl)) ?_
  intro W base args ds gs before hval0 hW hcnd _
  have hval : ∀ (j : Nat) t v, Try.f6.params[j]? = some t → args[j]? = some v → Value.okWide Try.prog W .any base t v := hval0
  have hW' := hW
  obtain ⟨p, q, hA0, hV, rfl, hfz, hnd⟩ := hW
  have hA : DataW.TrodAll enc Try.prog W 0 (fun _ => true) true Try.f6.params.toList args.toList ds p := hA0
  rw [Try.params6] at hA hval
  obtain ⟨v0, vs0, d0, ds0, p0, q0, hargs0, rfl, rfl, h0, r0⟩ := trodAll_cons hA
  obtain ⟨v1, vs1, d1, ds1, p1, q1, hargs1, rfl, rfl, h1, r1⟩ := trodAll_cons r0
  obtain ⟨rfl, rfl, rfl⟩ := trodAll_nil r1
  obtain rfl : args = #[v0, v1] := by cases args; simp_all
  obtain ⟨rfl, rfl⟩ := trodVars_none hV
  have k0 := h0
  have k1 := h1
  obtain ⟨a0, ra0, wa0, sa0⟩ := Go.AI.arg_bytes Try.underlying22 Try.underlying5 cells5 (hval 0 22 v0 rfl rfl) h0
  obtain ⟨a1, ra1, wa1, sa1⟩ := Go.AI.arg_bytes Try.underlying22 Try.underlying5 cells5 (hval 1 22 v1 rfl rfl) h1
  clear hA0 hval0
  simp only [List.append_nil] at hW'
  have hlt : ∀ x ∈ (p0 ++ p1), x.block < W.heap.size := fun x hx => by simpa using hW'.lt x (by simpa using hx)
  refine (walk W a0 v0 a1 v1 ra0 wa0 sa0 ra1 wa1 sa1).mono fun e W' ⟨he, hg⟩ => ?_
  subst he
  exact ⟨_, rfl, Go.AI.post_of_below (pv := []) hW' (fun _ _ _ => (trodAll_cons_mk (shut_bool Try.underlying4 _) trodAll_mk0)) (trodAll_cons_mk (Below.trod laidOut (by kernel_rfl) (of_decide_eq_true (by kernel_rfl)) k0 hg.below (fun x hx => hlt x (by simp [hx]))) (trodAll_cons_mk (Below.trod laidOut (by kernel_rfl) (of_decide_eq_true (by kernel_rfl)) k1 hg.below (fun x hx => hlt x (by simp [hx]))) trodAll_mk0)) (fun _ _ => rfl) (by simp)
    hg.kept⟩

theorem way1 : (Rows.fnExponentsOfTreesRow.inPlace == Try.pinned.checked.prog.inPlace 6) = true := by kernel_rfl
theorem way2 : (Rows.fnExponentsOfTreesRow.unfollowed == Try.pinned.checked.prog.unfollowed 6) = true := by kernel_rfl
theorem way3 : (Rows.fnExponentsOfTreesRow.recurses == Try.pinned.checked.prog.recurses 6) = true := by kernel_rfl
theorem way4 : (Rows.fnExponentsOfTreesRow.named == Try.pinned.checked.prog.varsNamed 6) = true := by kernel_rfl
theorem way5 : joinedFacts Try.pinned.checked.prog 6 Try.f6 Rows.fnExponentsOfTreesSpec Rows.fnExponentsOfTreesRow = true := by
  unfold joinedFacts
  rw [way1, way2, way3, way4]
  kernel_rfl

theorem over : Rows.fnExponentsOfTreesRow.holds Try.pinned (OpenSpec.ofChange Rows.fnExponentsOfTreesSpec) :=
  OpenClaim.holds_of_wide 6 Try.f6 rfl rfl rfl rfl rfl rfl rfl ⟨rfl, rfl, rfl, rfl, rfl⟩ rfl rfl rfl rfl rfl (by kernel_rfl) Try.func6 way5
    (of_decide_eq_true (by kernel_rfl)) (by unfold Func.isWrapper; first | (rw [if_pos (by decide +kernel)]; kernel_rfl) | (rw [if_neg (by decide +kernel)]; exact ⟨rfl, rfl⟩))
    (fun os started H enc _ => lifted os started H enc)

theorem proved : Rows.FnExponentsOfTreesSaid :=
  over
#print axioms proved
end Go.Proofs.Ytdfllkeekehplaa.fnExponentsOfTrees
