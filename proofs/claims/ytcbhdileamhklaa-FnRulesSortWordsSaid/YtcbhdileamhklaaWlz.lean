/- 'laws.FnRulesSortWords' returns true for every input, and the input reads as it did. -/
import Derived.Test.YtcbhdileamhklaaWl
import Derived.Test.YtcbhdileamhklaaAiH
import Derived.Test.YtcbhdileamhklaaRows
set_option linter.unusedVariables false
namespace Go.Proofs.Ytcbhdileamhklaa.fnRulesSortWords
open Go.ChangeShapes Go.WideShapes Go.ChangeAt Go.RowKit Go.Joins
open Go.ChangeMaps (open_string shut_string)

theorem own : ownKnob Try.prog.godebug = none := by kernel_rfl
theorem laidOut : laidOutB Try.prog = true := by kernel_rfl
theorem cells5 : Try.prog.cellsOf 5 = 1 := by kernel_rfl
theorem walk (w : World) (a0 : List Int) (u0 : Value) (a1 : List Int) (u1 : Value) (ra0 : Go.AI.RepV w (fun b => b < w.heap.size) (.sl (.int .u8)) a0 u0) (wa0 : a0.length ≤ maxLen) (sa0 : ∀ n ∈ a0, (Lit.int .u8 n).wf = true) (ra1 : Go.AI.RepV w (fun b => b < w.heap.size) (.sl (.int .u8)) a1 u1) (wa1 : a1.length ≤ maxLen) (sa1 : ∀ n ∈ a1, (Lit.int .u8 n).wf = true) :
    Calls Try.prog 3 #[u0, u1] w fun e w' => e = .returned (.bool true) ∧ Go.AI.Fr w [] w' :=
  Go.AI.SC.law (Go.AI.law_Rs a0 a1 wa0 sa0 wa1 sa1) ⟨_, _, rfl, ra0, ⟨_, _, rfl, ra1, rfl, rfl⟩⟩

set_option maxRecDepth 100000 in
theorem lifted (os : Os) (started : os.Started) (H : Type) (enc : TypeId × Value → H) :
    ReturnsInHanded {} Try.checked os 3 .any (Rows.fnRulesSortWordsSpec.pre6 enc Try.prog Try.f3 Rows.fnRulesSortWordsRow.domain false) (Rows.fnRulesSortWordsSpec.post enc Try.prog Try.f3 false true false false) := by
  refine returnsInHanded_of_change (C := Try.checked) own started (by kernel_rfl) Try.func3
    (ChangeSpec.witness6 (enc := enc) (C := Try.checked) false ⟨#[], #[.slice none 0 0, .slice none 0 0], []⟩ 8 (by kernel_rfl) (by kernel_rfl) (by kernel_rfl) (by kernel_rfl)) ?_
  intro W base args ds gs before hval0 hW hcnd _
  have hval : ∀ (j : Nat) t v, Try.f3.params[j]? = some t → args[j]? = some v → Value.okWide Try.prog W .any base t v := hval0
  have hW' := hW
  obtain ⟨p, q, hA0, hV, rfl, hfz, hnd⟩ := hW
  have hA : DataW.TrodAll enc Try.prog W 0 (fun _ => true) true Try.f3.params.toList args.toList ds p := hA0
  rw [Try.params3] at hA hval
  obtain ⟨v0, vs0, d0, ds0, p0, q0, hargs0, rfl, rfl, h0, r0⟩ := trodAll_cons hA
  obtain ⟨v1, vs1, d1, ds1, p1, q1, hargs1, rfl, rfl, h1, r1⟩ := trodAll_cons r0
  obtain ⟨rfl, rfl, rfl⟩ := trodAll_nil r1
  obtain rfl : args = #[v0, v1] := by cases args; simp_all
  obtain ⟨rfl, rfl⟩ := trodVars_none hV
  have k0 := h0
  have k1 := h1
  obtain ⟨a0, ra0, wa0, sa0⟩ := Go.AI.arg_bytes Try.underlying22 Try.underlying5 cells5 (hval 0 22 v0 rfl rfl) h0
  obtain ⟨a1, ra1, wa1, sa1⟩ := Go.AI.arg_bytes Try.underlying22 Try.underlying5 cells5 (hval 1 22 v1 rfl rfl) h1
  clear hA0 hval0
  simp only [List.append_nil] at hW'
  have hlt : ∀ x ∈ (p0 ++ p1), x.block < W.heap.size := fun x hx => by simpa using hW'.lt x (by simpa using hx)
  refine (walk W a0 v0 a1 v1 ra0 wa0 sa0 ra1 wa1 sa1).mono fun e W' ⟨he, hg⟩ => ?_
  subst he
  exact ⟨_, rfl, Go.AI.post_of_below (pv := []) hW' (fun _ _ _ => (trodAll_cons_mk (shut_bool Try.underlying4 _) trodAll_mk0)) (trodAll_cons_mk (Below.trod laidOut (by kernel_rfl) (of_decide_eq_true (by kernel_rfl)) k0 hg.below (fun x hx => hlt x (by simp [hx]))) (trodAll_cons_mk (Below.trod laidOut (by kernel_rfl) (of_decide_eq_true (by kernel_rfl)) k1 hg.below (fun x hx => hlt x (by simp [hx]))) trodAll_mk0)) (fun _ _ => rfl) (by simp)
    hg.kept⟩

theorem over : Rows.fnRulesSortWordsRow.holds Try.pinned (OpenSpec.ofChange Rows.fnRulesSortWordsSpec) :=
  OpenClaim.holds_of_wide 3 Try.f3 rfl rfl rfl rfl rfl rfl rfl ⟨rfl, rfl, rfl, rfl, rfl⟩ rfl rfl rfl rfl rfl (by kernel_rfl) Try.func3 (by kernel_rfl)
    (of_decide_eq_true (by kernel_rfl)) (by unfold Func.isWrapper; first | (rw [if_pos (by decide +kernel)]; kernel_rfl) | (rw [if_neg (by decide +kernel)]; exact ⟨rfl, rfl⟩))
    (fun os started H enc _ => lifted os started H enc)

theorem proved : Rows.FnRulesSortWordsSaid :=
  over
#print axioms proved
end Go.Proofs.Ytcbhdileamhklaa.fnRulesSortWords
