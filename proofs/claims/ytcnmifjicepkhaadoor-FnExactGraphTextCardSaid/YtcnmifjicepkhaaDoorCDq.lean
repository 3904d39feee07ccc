/- Contracts: pairs of trees; the arguments' sizes. -/
import Derived.Test.YtcnmifjicepkhaaDoorGR
import Derived.Test.YtcnmifjicepkhaaDoorCT
set_option autoImplicit false
set_option maxRecDepth 100000
set_option linter.unusedVariables false
namespace Go.AI
open Go.Proofs

def isPair (a b : List UInt8) : Bool := isTree a && isTree b && ((treeOf a).c == (treeOf b).c)

theorem prGood_SC (a b : List UInt8) (ha : a.length ≤ 2 ^ 40) (hb : b.length ≤ 2 ^ 40) : SC cfg.P i_spec_prGood [.s (.v (.pr .str .str) (bs a, bs b))] (.s (.v .bool (isPair a b))) [] := by
  have h1 := trIs_SC a ha
  have h2 := trIs_SC b hb
  unfold isPair
  cases t1 : isTree a with
  | false =>
    rw [t1] at h1
    exact spec_prGood_p4 _ h1
  | true =>
    rw [t1] at h1
    cases t2 : isTree b with
    | false =>
      rw [t2] at h2
      exact spec_prGood_p3 _ h1 h2
    | true =>
      rw [t2] at h2
      have c1 : a.count 46 = a.count 46 := rfl
      have e1 : a.count 40 = (treeOf a).c := by
        have := (treeOf_txt t1).1
        rw [← txt_count, ← this]
      have e2 : b.count 40 = (treeOf b).c := by
        have := (treeOf_txt t2).1
        rw [← txt_count, ← this]
      have k1 := trCarets_SC a ha
      have k2 := trCarets_SC b hb
      rw [e1] at k1
      rw [e2] at k2
      by_cases hc : (treeOf a).c = (treeOf b).c
      · have : (true && true && ((treeOf a).c == (treeOf b).c)) = true := by simp [hc]
        rw [this]
        exact spec_prGood_p1 _ _ _ h1 h2 k1 k2 (by omega)
      · have : (true && true && ((treeOf a).c == (treeOf b).c)) = false := by simp [hc]
        rw [this]
        exact spec_prGood_p2 _ _ _ h1 h2 k1 k2 (by omega)

theorem pairOf_SC (a b : List UInt8) (ha : a.length ≤ 2 ^ 40) (hb : b.length ≤ 2 ^ 40) : SC cfg.P i_impl_pairOf [.s (.v (.pr .str .str) (bs a, bs b))] (.tup [.v (.pr .tree .tree) (treeOf a, treeOf b), .v .bool (isPair a b)]) [] := by
  have h1 := parse_SC a ha
  have h2 := parse_SC b hb
  unfold isPair
  cases t1 : isTree a with
  | false =>
    rw [t1] at h1
    exact impl_pairOf_p4 _ _ _ _ h1 h2
  | true =>
    rw [t1] at h1
    cases t2 : isTree b with
    | false =>
      rw [t2] at h2
      exact impl_pairOf_p3 _ _ _ h1 h2
    | true =>
      rw [t2] at h2
      have b1 := (treeOf_txt t1).2
      have b2 := (treeOf_txt t2).2
      have k1 := carets_SC (treeOf a) (by omega)
      have k2 := carets_SC (treeOf b) (by omega)
      by_cases hc : (treeOf a).c = (treeOf b).c
      · have : (true && true && ((treeOf a).c == (treeOf b).c)) = true := by simp [hc]
        rw [this]
        exact impl_pairOf_p1 _ _ _ _ _ h1 h2 k1 k2 (by omega)
      · have : (true && true && ((treeOf a).c == (treeOf b).c)) = false := by simp [hc]
        rw [this]
        exact impl_pairOf_p2 _ _ _ _ _ h1 h2 k1 k2 (by omega)

theorem isPair_trees {a b : List UInt8} (h : isPair a b = true) : a = txt (treeOf a) ∧ b = txt (treeOf b) ∧ (treeOf a).c ≤ 8 ∧ (treeOf b).c ≤ 8 ∧ (treeOf a).c = (treeOf b).c := by
  simp only [isPair, Bool.and_eq_true, beq_iff_eq] at h
  obtain ⟨⟨h1, h2⟩, h3⟩ := h
  have a1 := treeOf_txt h1
  have a2 := treeOf_txt h2
  exact ⟨a1.1, a2.1, a1.2, a2.2, h3⟩

theorem szPair_out (l m : List UInt8) (hl : l.length ≤ 2 ^ 63 - 1) (hm : m.length ≤ 2 ^ 63 - 1) (h : ¬ (l.length + m.length ≤ 1048576)) : SC cfg.P i_laws_szPair [.s (.v (.pr .str .str) (bs l, bs m)), .s (.v (.int .i64) (1048576 : Int))] (.s (.v (.int .i64) (-1 : Int))) [] := by
  have e1 : IntKind.wrap .i64 ((1048576 : Int) - ((bs l).size : Int)) = 1048576 - (l.length : Int) := by rw [bs_size, w64] <;> omega
  by_cases h1 : l.length ≤ 1048576
  · have e2 : IntKind.wrap .i64 ((1048576 : Int) - (l.length : Int) - ((bs m).size : Int)) = 1048576 - (l.length : Int) - (m.length : Int) := by rw [bs_size, w64] <;> omega
    refine laws_szPair_p2 (bs l, bs m) _ ?_ ?_
    · show ¬ (IntKind.wrap .i64 ((1048576 : Int) - ((bs l).size : Int)) < 0)
      rw [e1]; omega
    · show IntKind.wrap .i64 (IntKind.wrap .i64 ((1048576 : Int) - ((bs l).size : Int)) - ((bs m).size : Int)) < 0
      rw [e1, e2]; omega
  · refine laws_szPair_p1 (bs l, bs m) _ ?_
    show IntKind.wrap .i64 ((1048576 : Int) - ((bs l).size : Int)) < 0
    rw [e1]; omega

theorem szPair_in (l m : List UInt8) (h : l.length + m.length ≤ 1048576) : SC cfg.P i_laws_szPair [.s (.v (.pr .str .str) (bs l, bs m)), .s (.v (.int .i64) (1048576 : Int))] (.s (.v (.int .i64) (1048576 - (l.length : Int) - (m.length : Int)))) [] := by
  have e1 : IntKind.wrap .i64 ((1048576 : Int) - ((bs l).size : Int)) = 1048576 - (l.length : Int) := by rw [bs_size, w64] <;> omega
  have e2 : IntKind.wrap .i64 ((1048576 : Int) - (l.length : Int) - ((bs m).size : Int)) = 1048576 - (l.length : Int) - (m.length : Int) := by rw [bs_size, w64] <;> omega
  have := laws_szPair_p3 (bs l, bs m) (1048576 : Int) (by
    show ¬ (IntKind.wrap .i64 ((1048576 : Int) - ((bs l).size : Int)) < 0)
    rw [e1]; omega) (by
    show ¬ (IntKind.wrap .i64 (IntKind.wrap .i64 ((1048576 : Int) - ((bs l).size : Int)) - ((bs m).size : Int)) < 0)
    rw [e1, e2]; omega)
  simp only at this
  rw [e1, e2] at this
  exact this


end Go.AI
