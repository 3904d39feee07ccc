/- Contracts: pairs that do the same, by the reference. -/
import Derived.Test.YtdfllkeekehplaaGO
import Derived.Test.YtdfllkeekehplaaCSb
set_option autoImplicit false
set_option maxRecDepth 100000
set_option linter.unusedVariables false
namespace Go.AI
open Go.Proofs

theorem specSame_SC (a b c d : List UInt8) (ha : a.length ≤ 2 ^ 40) (hb : b.length ≤ 2 ^ 40) (hc : c.length ≤ 2 ^ 40) (hd : d.length ≤ 2 ^ 40) :
    SC cfg.P i_spec_AreSamePairs [.s (.v (.pr .str .str) (bs a, bs b)), .s (.v (.pr .str .str) (bs c, bs d))] (.tup [.v .bool (sameB a b c d), .v .bool (isPair a b && isPair c d)]) [] := by
  have h1 := prGood_SC a b ha hb
  have h2 := prGood_SC c d hc hd
  unfold sameB
  cases hp : isPair a b with
  | false =>
    rw [hp] at h1
    exact spec_AreSamePairs_p4 _ _ h1
  | true =>
    rw [hp] at h1
    cases hq : isPair c d with
    | false =>
      rw [hq] at h2
      exact spec_AreSamePairs_p3 _ _ h1 h2
    | true =>
      rw [hq] at h2
      obtain ⟨x1, x2, x3, x4, _⟩ := isPair_trees hp
      obtain ⟨y1, y2, y3, y4, _⟩ := isPair_trees hq
      have r1 := prReduce_SC (treeOf a, treeOf b) (by simp only; omega) (by simp only; omega)
      have r2 := prReduce_SC (treeOf c, treeOf d) (by simp only; omega) (by simp only; omega)
      have e1 : pt (treeOf a, treeOf b) = (bs a, bs b) := by rw [pt, ← x1, ← x2]
      have e2 : pt (treeOf c, treeOf d) = (bs c, bs d) := by rw [pt, ← y1, ← y2]
      rw [e1] at r1
      rw [e2] at r2
      by_cases h : redP (treeOf a, treeOf b) = redP (treeOf c, treeOf d)
      · rw [decide_eq_true h]
        have h' : pt (red (treeOf a, treeOf b).1.c (treeOf a, treeOf b)) = pt (red (treeOf c, treeOf d).1.c (treeOf c, treeOf d)) := pt_inj.2 h
        rw [h'] at r1
        exact spec_AreSamePairs_p1 _ _ _ _ h1 h2 r1 r2 (by rw [seq_t rfl, seq_t rfl]; rfl)
      · rw [decide_eq_false h]
        refine spec_AreSamePairs_p2 _ _ _ _ h1 h2 r1 r2 ?_
        rw [Bool.and_eq_false_iff]
        by_cases g : (pt (red (treeOf a, treeOf b).1.c (treeOf a, treeOf b))).1 = (pt (red (treeOf c, treeOf d).1.c (treeOf c, treeOf d))).1
        · refine .inr (seq_f ?_)
          intro g2
          exact h (pt_inj.1 (Prod.ext g g2))
        · exact .inl (seq_f g)


end Go.AI
