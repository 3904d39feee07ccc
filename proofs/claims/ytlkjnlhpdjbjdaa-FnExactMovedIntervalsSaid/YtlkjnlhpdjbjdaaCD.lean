/- Contracts: carets dropped from texts; pairs that are told. -/
import Derived.Test.YtlkjnlhpdjbjdaaCX
set_option autoImplicit false
set_option maxRecDepth 100000
set_option linter.unusedVariables false
namespace Go.AI
open Go.Proofs

theorem txt_dots : ∀ t : Tr, (txt t).count 46 = t.c + 1
  | .leaf => rfl
  | .node l r => by
    simp only [txt, List.count_cons, List.count_append, txt_dots l, txt_dots r, Tr.c]
    simp
    omega

theorem split_ex : ∀ (t : Tr) (n : Nat), n ∈ exL t 0 → ∃ u v : List UInt8, txt t = u ++ [40, 46, 46, 41] ++ v ∧ u.count 46 = n ∧ txt (wo t n) = u ++ [46] ++ v
  | .leaf, n, h => by simp [exL] at h
  | .node l r, n, h => by
    rw [exL_node] at h
    rw [wo_node]
    by_cases hb : l.isLeaf = true ∧ r.isLeaf = true
    · rw [if_pos hb] at h
      rw [if_pos hb]
      have hl : l = .leaf := by cases l <;> simp_all [Tr.isLeaf]
      have hr : r = .leaf := by cases r <;> simp_all [Tr.isLeaf]
      subst hl; subst hr
      simp at h
      subst h
      exact ⟨[], [], rfl, rfl, rfl⟩
    · rw [if_neg hb] at h
      rw [if_neg hb]
      rcases List.mem_append.1 h with h | h
      · have hr := exL_range _ _ _ h
        rw [if_neg (by omega)]
        obtain ⟨u, v, e1, e2, e3⟩ := split_ex l n h
        refine ⟨40 :: u, v ++ txt r ++ [41], ?_, ?_, ?_⟩
        · simp [txt, e1]
        · rw [List.count_cons_of_ne (by decide)]; exact e2
        · simp [txt, e3]
      · have hr := exL_range _ _ _ h
        rw [if_pos (by omega)]
        have hm : n - (l.c + 1) ∈ exL r 0 := by
          have e := exL_shift r 0 (0 + l.c + 1)
          rw [Nat.zero_add] at e
          rw [e] at h
          obtain ⟨y, hy, rfl⟩ := List.mem_map.1 h
          have e2 : y + (0 + l.c + 1) - (l.c + 1) = y := by omega
          rw [e2]
          exact hy
        obtain ⟨u, v, e1, e2, e3⟩ := split_ex r _ hm
        refine ⟨40 :: (txt l ++ u), v ++ [41], ?_, ?_, ?_⟩
        · simp [txt, e1]
        · rw [List.count_cons_of_ne (by decide), List.count_append, txt_dots, e2]; omega
        · simp [txt, e3]

abbrev pt (p : Tr × Tr) : ByteArray × ByteArray := (bs (txt p.1), bs (txt p.2))

/-! ### Pairs -/

def isPair (a b : List UInt8) : Bool := isTree a && isTree b && ((treeOf a).c == (treeOf b).c)

theorem prGood_SC (a b : List UInt8) (ha : a.length ≤ 2 ^ 40) (hb : b.length ≤ 2 ^ 40) : SC cfg.P i_spec_prGood [.s (.v (.pr .str .str) (bs a, bs b))] (.s (.v .bool (isPair a b))) [] := by
  have h1 := trIs_SC a ha
  have h2 := trIs_SC b hb
  unfold isPair
  cases t1 : isTree a with
  | false =>
    rw [t1] at h1
    exact spec_prGood_p4 _ h1
  | true =>
    rw [t1] at h1
    cases t2 : isTree b with
    | false =>
      rw [t2] at h2
      exact spec_prGood_p3 _ h1 h2
    | true =>
      rw [t2] at h2
      have c1 : a.count 46 = a.count 46 := rfl
      have e1 : a.count 40 = (treeOf a).c := by
        have := (treeOf_txt t1).1
        rw [← txt_count, ← this]
      have e2 : b.count 40 = (treeOf b).c := by
        have := (treeOf_txt t2).1
        rw [← txt_count, ← this]
      have k1 := trCarets_SC a ha
      have k2 := trCarets_SC b hb
      rw [e1] at k1
      rw [e2] at k2
      by_cases hc : (treeOf a).c = (treeOf b).c
      · have : (true && true && ((treeOf a).c == (treeOf b).c)) = true := by simp [hc]
        rw [this]
        exact spec_prGood_p1 _ _ _ h1 h2 k1 k2 (by omega)
      · have : (true && true && ((treeOf a).c == (treeOf b).c)) = false := by simp [hc]
        rw [this]
        exact spec_prGood_p2 _ _ _ h1 h2 k1 k2 (by omega)

theorem pairOf_SC (a b : List UInt8) (ha : a.length ≤ 2 ^ 40) (hb : b.length ≤ 2 ^ 40) : SC cfg.P i_impl_pairOf [.s (.v (.pr .str .str) (bs a, bs b))] (.tup [.v (.pr .tree .tree) (treeOf a, treeOf b), .v .bool (isPair a b)]) [] := by
  have h1 := parse_SC a ha
  have h2 := parse_SC b hb
  unfold isPair
  cases t1 : isTree a with
  | false =>
    rw [t1] at h1
    exact impl_pairOf_p4 _ _ _ _ h1 h2
  | true =>
    rw [t1] at h1
    cases t2 : isTree b with
    | false =>
      rw [t2] at h2
      exact impl_pairOf_p3 _ _ _ h1 h2
    | true =>
      rw [t2] at h2
      have b1 := (treeOf_txt t1).2
      have b2 := (treeOf_txt t2).2
      have k1 := carets_SC (treeOf a) (by omega)
      have k2 := carets_SC (treeOf b) (by omega)
      by_cases hc : (treeOf a).c = (treeOf b).c
      · have : (true && true && ((treeOf a).c == (treeOf b).c)) = true := by simp [hc]
        rw [this]
        exact impl_pairOf_p1 _ _ _ _ _ h1 h2 k1 k2 (by omega)
      · have : (true && true && ((treeOf a).c == (treeOf b).c)) = false := by simp [hc]
        rw [this]
        exact impl_pairOf_p2 _ _ _ _ _ h1 h2 k1 k2 (by omega)

theorem isPair_trees {a b : List UInt8} (h : isPair a b = true) : a = txt (treeOf a) ∧ b = txt (treeOf b) ∧ (treeOf a).c ≤ 8 ∧ (treeOf b).c ≤ 8 ∧ (treeOf a).c = (treeOf b).c := by
  simp only [isPair, Bool.and_eq_true, beq_iff_eq] at h
  obtain ⟨⟨h1, h2⟩, h3⟩ := h
  have a1 := treeOf_txt h1
  have a2 := treeOf_txt h2
  exact ⟨a1.1, a2.1, a1.2, a2.2, h3⟩

theorem red_c : ∀ (n : Nat) (p : Tr × Tr), (red n p).1.c ≤ p.1.c ∧ (red n p).2.c ≤ p.2.c
  | 0, p => ⟨Nat.le_refl _, Nat.le_refl _⟩
  | n + 1, p => by
    simp only [red]
    split
    · exact ⟨Nat.le_refl _, Nat.le_refl _⟩
    · rename_i k ks hB
      have hmem : k ∈ bothL p := by rw [hB]; exact List.mem_cons_self
      have c1 := wo_c p.1 k (bothL_mem hmem).1
      have c2 := wo_c p.2 k (bothL_mem hmem).2
      have := red_c n (wo p.1 k, wo p.2 k)
      simp only at this
      omega

theorem szPair_out (l m : List UInt8) (hl : l.length ≤ 2 ^ 63 - 1) (hm : m.length ≤ 2 ^ 63 - 1) (h : ¬ (l.length + m.length ≤ 1048576)) : SC cfg.P i_laws_szPair [.s (.v (.pr .str .str) (bs l, bs m)), .s (.v (.int .i64) (1048576 : Int))] (.s (.v (.int .i64) (-1 : Int))) [] := by
  have e1 : IntKind.wrap .i64 ((1048576 : Int) - ((bs l).size : Int)) = 1048576 - (l.length : Int) := by rw [bs_size, w64] <;> omega
  by_cases h1 : l.length ≤ 1048576
  · have e2 : IntKind.wrap .i64 ((1048576 : Int) - (l.length : Int) - ((bs m).size : Int)) = 1048576 - (l.length : Int) - (m.length : Int) := by rw [bs_size, w64] <;> omega
    refine laws_szPair_p2 (bs l, bs m) _ ?_ ?_
    · show ¬ (IntKind.wrap .i64 ((1048576 : Int) - ((bs l).size : Int)) < 0)
      rw [e1]; omega
    · show IntKind.wrap .i64 (IntKind.wrap .i64 ((1048576 : Int) - ((bs l).size : Int)) - ((bs m).size : Int)) < 0
      rw [e1, e2]; omega
  · refine laws_szPair_p1 (bs l, bs m) _ ?_
    show IntKind.wrap .i64 ((1048576 : Int) - ((bs l).size : Int)) < 0
    rw [e1]; omega

theorem szPair_in (l m : List UInt8) (h : l.length + m.length ≤ 1048576) : SC cfg.P i_laws_szPair [.s (.v (.pr .str .str) (bs l, bs m)), .s (.v (.int .i64) (1048576 : Int))] (.s (.v (.int .i64) (1048576 - (l.length : Int) - (m.length : Int)))) [] := by
  have e1 : IntKind.wrap .i64 ((1048576 : Int) - ((bs l).size : Int)) = 1048576 - (l.length : Int) := by rw [bs_size, w64] <;> omega
  have e2 : IntKind.wrap .i64 ((1048576 : Int) - (l.length : Int) - ((bs m).size : Int)) = 1048576 - (l.length : Int) - (m.length : Int) := by rw [bs_size, w64] <;> omega
  have := laws_szPair_p3 (bs l, bs m) (1048576 : Int) (by
    show ¬ (IntKind.wrap .i64 ((1048576 : Int) - ((bs l).size : Int)) < 0)
    rw [e1]; omega) (by
    show ¬ (IntKind.wrap .i64 (IntKind.wrap .i64 ((1048576 : Int) - ((bs l).size : Int)) - ((bs m).size : Int)) < 0)
    rw [e1, e2]; omega)
  simp only at this
  rw [e1, e2] at this
  exact this

end Go.AI
