/- Contracts: products of pairs. -/
import Derived.Test.YtdfllkeekehplaaJC
import Derived.Test.YtdfllkeekehplaaCRr
import Derived.Test.YtdfllkeekehplaaCDr
set_option autoImplicit false
set_option maxRecDepth 100000
set_option linter.unusedVariables false
namespace Go.AI
open Go.Proofs

/-! ### The reference's products -/

/-! ### Pairs that are told if they fit -/

theorem isTree_txt (t : Tr) : isTree (txt t) = decide (t.c ≤ 8) := by
  by_cases h : t.c ≤ 8
  · rw [decide_eq_true h]; exact (isTree_iff _).2 ⟨t, rfl, h⟩
  · rw [decide_eq_false h]
    cases hb : isTree (txt t) with
    | false => rfl
    | true =>
      obtain ⟨u, e, hu⟩ := (isTree_iff _).1 hb
      have := (txt_inj t u [] [] (by rw [List.append_nil, List.append_nil]; exact e)).1
      subst this
      exact absurd hu h

theorem isPair_txt (p : Tr × Tr) (h : p.1.c = p.2.c) : isPair (txt p.1) (txt p.2) = decide (p.1.c ≤ 8) := by
  unfold isPair
  rw [isTree_txt, isTree_txt, ← h]
  by_cases h8 : p.1.c ≤ 8
  · have t1 : isTree (txt p.1) = true := by rw [isTree_txt, decide_eq_true h8]
    have t2 : isTree (txt p.2) = true := by rw [isTree_txt, ← h, decide_eq_true h8]
    have e1 := (treeOf_txt t1).1
    have e2 := (treeOf_txt t2).1
    have f1 := (txt_inj p.1 (treeOf (txt p.1)) [] [] (by rw [List.append_nil, List.append_nil]; exact e1)).1
    have f2 := (txt_inj p.2 (treeOf (txt p.2)) [] [] (by rw [List.append_nil, List.append_nil]; exact e2)).1
    rw [← f1, ← f2, h]
    simp
  · rw [decide_eq_false h8]; rfl

end Go.AI
