/- Pairs that are told if they are not too great. -/
import Derived.Test.YtlhkdglakjkpiaaCRr
import Derived.Test.YtlhkdglakjkpiaaCDr
set_option autoImplicit false
set_option maxRecDepth 100000
set_option linter.unusedVariables false
namespace Go.AI
open Go.Proofs

theorem isTree_txt (t : Tr) : isTree (txt t) = decide (t.c ≤ 8) := by
  by_cases h : t.c ≤ 8
  · rw [decide_eq_true h]; exact (isTree_iff _).2 ⟨t, rfl, h⟩
  · rw [decide_eq_false h]
    cases hb : isTree (txt t) with
    | false => rfl
    | true =>
      obtain ⟨u, e, hu⟩ := (isTree_iff _).1 hb
      have := (txt_inj t u [] [] (by rw [List.append_nil, List.append_nil]; exact e)).1
      subst this
      exact absurd hu h

theorem isPair_txt (p : Tr × Tr) (h : p.1.c = p.2.c) : isPair (txt p.1) (txt p.2) = decide (p.1.c ≤ 8) := by
  unfold isPair
  rw [isTree_txt, isTree_txt, ← h]
  by_cases h8 : p.1.c ≤ 8
  · have t1 : isTree (txt p.1) = true := by rw [isTree_txt, decide_eq_true h8]
    have t2 : isTree (txt p.2) = true := by rw [isTree_txt, ← h, decide_eq_true h8]
    have e1 := (treeOf_txt t1).1
    have e2 := (treeOf_txt t2).1
    have f1 := (txt_inj p.1 (treeOf (txt p.1)) [] [] (by rw [List.append_nil, List.append_nil]; exact e1)).1
    have f2 := (txt_inj p.2 (treeOf (txt p.2)) [] [] (by rw [List.append_nil, List.append_nil]; exact e2)).1
    rw [← f1, ← f2, h]
    simp
  · rw [decide_eq_false h8]; rfl

def fitV (p : Tr × Tr) : ByteArray × ByteArray := if p.1.c ≤ 8 then pt p else (⟨#[]⟩, ⟨#[]⟩)

theorem fits_SC (p : Tr × Tr) (h1 : p.1.c ≤ 2 ^ 20) (h2 : p.2.c ≤ 2 ^ 20) : SC cfg.P i_impl_pair_fits [.s (.v (.pr .tree .tree) p)] (.tup [.v (.pr .str .str) (fitV p), .v .bool (decide (p.1.c ≤ 8))]) [] := by
  have hc := carets_SC p.1 (by omega)
  by_cases h : p.1.c ≤ 8
  · rw [fitV, if_pos h, decide_eq_true h]
    exact impl_pair_fits_p2 _ _ _ hc (by omega) (plain_SC p h1 h2)
  · rw [fitV, if_neg h, decide_eq_false h]
    exact impl_pair_fits_p1 _ _ hc (by omega)

theorem prIf_SC (p : Tr × Tr) (hp : p.1.c = p.2.c) (h1 : p.1.c ≤ 2 ^ 20) : SC cfg.P i_spec_prIf [.s (.v (.pr .str .str) (pt p))] (.tup [.v (.pr .str .str) (fitV p), .v .bool (decide (p.1.c ≤ 8))]) [] := by
  have l1 := txt_len p.1
  have l2 := txt_len p.2
  have hg := prGood_SC (txt p.1) (txt p.2) (by omega) (by omega)
  rw [isPair_txt p hp] at hg
  by_cases h : p.1.c ≤ 8
  · rw [decide_eq_true h] at hg
    rw [fitV, if_pos h, decide_eq_true h]
    exact spec_prIf_p1 _ hg
  · rw [decide_eq_false h] at hg
    rw [fitV, if_neg h, decide_eq_false h]
    exact spec_prIf_p2 _ hg

end Go.AI
