/- Contracts: generators, letters, and pairs of words. -/
import Derived.Test.YtlimomnchicfgaaGJ
import Derived.Test.YtlimomnchicfgaaCPh
set_option autoImplicit false
set_option maxRecDepth 100000
set_option linter.unusedVariables false
namespace Go.AI
open Go.Proofs

/-! ### A tree in place of a leaf -/

theorem grownC_SC (x : Tr) (m : Nat) : ∀ (t : Tr) (n : Nat), n + t.c ≤ 2 ^ 30 → SC cfg.P i_impl_node_grown [.s (.v .tree t), .s (.v (.int .i64) (n : Int)), .fn i_impl_node_graft_k1 [] [.fadr (.int .i64) (m : Int), .fadr .tree x]] (.s (.v .tree (growT (List.replicate m .leaf ++ [x]) t n))) []
  | .leaf, n, _ => by
    rw [growT, List.getD_eq_getElem?_getD]
    by_cases h : n = m
    · subst h
      rw [List.getElem?_append_right (by simp)]
      simp only [List.length_replicate, Nat.sub_self, List.getElem?_cons_zero, Option.getD_some]
      exact impl_node_grownB_p1 _ _ _ _ _ (impl_node_graft_k1_p1 _ _ _ rfl)
    · have e : ((List.replicate m Tr.leaf ++ [x])[n]?).getD .leaf = .leaf := by
        by_cases h1 : n < m
        · rw [List.getElem?_append_left (by simpa using h1)]
          simp [h1]
        · rw [List.getElem?_eq_none (by simp; omega)]; rfl
      rw [e]
      exact impl_node_grownB_p1 _ _ _ _ _ (impl_node_graft_k1_p2 _ _ _ (by omega))
  | .node a b, n, h => by
    simp only [Tr.c] at h
    have hl := leaves_SC a (by omega)
    have ea : IntKind.wrap .i64 ((n : Int) + ((a.c + 1 : Nat) : Int)) = ((n + (a.c + 1) : Nat) : Int) := by rw [w64] <;> omega
    have h2 := grownC_SC x m b (n + (a.c + 1)) (by omega)
    rw [← ea] at h2
    exact impl_node_grownB_p2 _ _ _ _ _ _ _ _ _ (grownC_SC x m a n (by omega)) hl h2

/-- A right comb with a tree in place of its last leaf. -/
def combE (x : Tr) : Nat → Tr
  | 0 => x
  | n + 1 => .node .leaf (combE x n)

theorem combE_c (x : Tr) : ∀ n, (combE x n).c = n + x.c
  | 0 => by simp [combE]
  | n + 1 => by simp only [combE, Tr.c, combE_c x n]; omega

theorem grow_last (x : Tr) : ∀ (n k m : Nat), m = k + n → growT (List.replicate m .leaf ++ [x]) (combR n) k = combE x n
  | 0, k, m, h => by
    subst h
    rw [combR, growT, combE, List.getD_eq_getElem?_getD, List.getElem?_append_right (by simp)]
    simp
  | n + 1, k, m, h => by
    have hk : k < m := by omega
    rw [combR, growT, growT, Tr.c, grow_last x n (k + (0 + 1)) m (by omega), combE, List.getD_eq_getElem?_getD, List.getElem?_append_left (by simpa using hk)]
    simp [hk]

theorem graft_SC (x : Tr) (n : Nat) (h : n ≤ 2 ^ 20) : SC cfg.P i_impl_node_graft [.s (.v .tree (combR n)), .s (.v (.int .i64) (n : Int)), .s (.v .tree x)] (.s (.v .tree (combE x n))) [] := by
  have h1 := grownC_SC x n (combR n) 0 (by rw [combR_c]; omega)
  rw [grow_last x n 0 n (by omega)] at h1
  exact impl_node_graft_p1 _ _ _ _ h1

/-! ### The reference's -/

/-- The text of a right comb up to its last leaf, and behind it. -/
def preC : Nat → List UInt8
  | 0 => []
  | n + 1 => 40 :: 46 :: preC n

theorem preC_len : ∀ n, (preC n).length = 2 * n
  | 0 => rfl
  | n + 1 => by simp only [preC, List.length_cons, preC_len n]; omega

theorem preC_dots : ∀ n, (preC n).count 46 = n
  | 0 => rfl
  | n + 1 => by
    rw [preC, List.count_cons_of_ne (by decide), List.count_cons_self, preC_dots n]

theorem combE_txt (x : Tr) : ∀ n, txt (combE x n) = preC n ++ txt x ++ List.replicate n 41
  | 0 => by simp [combE, preC]
  | n + 1 => by
    have e : List.replicate (n + 1) (41 : UInt8) = List.replicate n 41 ++ [41] := by
      rw [← List.replicate_succ']
    rw [combE, preC, e]
    simp [txt, combE_txt x n]

theorem combR_E : ∀ n, combR n = combE .leaf n
  | 0 => rfl
  | n + 1 => by rw [combR, combE, combR_E n]

theorem trGraft_SC (u v : List UInt8) (x : List UInt8) (n : Nat) (hu : u.count 46 = n) (hl : u.length + v.length ≤ 2 ^ 20) (hx : x.length ≤ 2 ^ 20) :
    SC cfg.P i_spec_trGraft [.s (.v .str (bs (u ++ 46 :: v))), .s (.v (.int .i64) (n : Int)), .s (.v .str (bs x))] (.s (.v .str (bs (u ++ x ++ v)))) [] := by
  have hlen : (u ++ 46 :: v).length = u.length + 1 + v.length := by simp; omega
  have hub : u.count 46 ≤ u.length := List.count_le_length
  have key : ∀ (m i : Nat), u.length - i = m → i ≤ u.length →
      LoopSC cfg.P 3 (lb P_spec_trGraft 0) (spec_trGraft_L0a (bs (u ++ 46 :: v)) (n : Int) (bs x) (((u.take i).count 46 : Nat) - 1 : Int) (i : Int)) .ret (spec_trGraft_L0X1 (bs (u ++ x ++ v))) := by
    intro m
    induction m with
    | zero =>
      intro i hm hi
      have e : i = u.length := by omega
      subst e
      have hg : bt (bs (u ++ 46 :: v)) ((u.length : Nat) : Int) = 46 := by
        rw [bs_bt, Int.toNat_natCast, List.getD_eq_getElem?_getD, List.getElem?_append_right (Nat.le_refl _), Nat.sub_self]; rfl
      have w1 : IntKind.wrap .i64 (((u.count 46 : Nat) : Int) - 1 + 1) = (n : Int) := by rw [w64] <;> omega
      have w2 : IntKind.wrap .i64 (((u.length : Nat) : Int) + 1) = ((u.length + 1 : Nat) : Int) := by rw [w64] <;> omega
      have x1 : ByteArray.extract (bs (u ++ 46 :: v)) ((0 : Int)).toNat (((u.length : Nat) : Int)).toNat = bs u := by
        rw [bs_extract, Int.toNat_natCast]
        simp
      have x2 : ByteArray.extract (bs (u ++ 46 :: v)) (((u.length + 1 : Nat) : Int)).toNat (((bs (u ++ 46 :: v)).size : Int)).toNat = bs v := by
        rw [bs_extract, Int.toNat_natCast, bs_size, Int.toNat_natCast, hlen]
        have hd : (u ++ 46 :: v).drop (u.length + 1) = v := by
          have : u ++ 46 :: v = (u ++ [46]) ++ v := by simp
          rw [this, List.drop_left' (by simp)]
        rw [hd]
        congr 1
        apply List.take_of_length_le
        omega
      have hfin : bs u ++ bs x ++ bs v = bs (u ++ x ++ v) := by rw [bs_append, bs_append]
      have := spec_trGraft_L0a_x1 (bs (u ++ 46 :: v)) (n : Int) (bs x) (((u.count 46 : Nat) : Int) - 1) ((u.length : Nat) : Int) (by rw [bs_size, hlen]; omega) (by omega) hg w1 (by rw [bs_size, hlen]; omega)
        (by rw [x1, bs_size, bs_size]; omega) (by rw [w2]; omega) (by rw [w2, bs_size, hlen]; omega) (by rw [w2, x1, x2, bs_append, bs_size, bs_size]; simp; omega)
      rw [w2, x1, x2, hfin] at this
      rw [List.take_length]
      exact this
    | succ m ih =>
      intro i hm hi
      have hi1 : i < u.length := by omega
      have hn := ih (i + 1) (by omega) (by omega)
      have ht : u.take (i + 1) = u.take i ++ [u[i]] := (List.take_append_getElem hi1).symm
      have hg : bt (bs (u ++ 46 :: v)) (i : Int) = (u[i].toNat : Int) := by
        rw [bs_bt, Int.toNat_natCast, List.getD_eq_getElem?_getD, List.getElem?_append_left hi1, List.getElem?_eq_getElem hi1]; rfl
      have hsub : ((u.take (i + 1)).count 46) ≤ u.count 46 := (List.take_sublist _ _).count_le _
      have ew := wrap_succ (i := i) (by omega)
      by_cases h : u[i] = 46
      · have hcnt : (u.take (i + 1)).count 46 = (u.take i).count 46 + 1 := by rw [ht, List.count_append, h]; rfl
        -- one more point follows, so this one is not the leaf
        by_cases hlast : (u.take (i + 1)).count 46 ≤ n
        · have w1 : IntKind.wrap .i64 ((((u.take i).count 46 : Nat) : Int) - 1 + 1) = (((u.take (i + 1)).count 46 : Nat) : Int) - 1 := by rw [hcnt, w64] <;> omega
          rw [← ew, ← w1] at hn
          exact spec_trGraft_L0a_i2 _ _ _ _ _ (by rw [bs_size, hlen]; omega) (by omega) (by rw [hg, h]; rfl) (by rw [w1]; omega) hn
        · omega
      · have hcnt : (u.take (i + 1)).count 46 = (u.take i).count 46 := by
          rw [ht, List.count_append, List.count_cons_of_ne h]; simp
        rw [hcnt, ← ew] at hn
        exact spec_trGraft_L0a_i4 _ _ _ _ _ (by rw [bs_size, hlen]; omega) (by omega) (by rw [hg]; intro e; exact h ((byte_eq _ 46).1 e)) (by omega) hn
  have h0 := key u.length 0 (by omega) (by omega)
  exact spec_trGraft_p1 _ _ _ _ h0

/-! ### Generators -/

abbrev genX : Tr := .node (.node .leaf .leaf) .leaf

/-- The pair of a generator. -/
def genT (i : Nat) : Tr × Tr := (combE genX i, combR (i + 2))

theorem gen_c (i : Nat) : (genT i).1.c = i + 2 ∧ (genT i).2.c = i + 2 := by
  refine ⟨?_, combR_c _⟩
  show (combE genX i).c = i + 2
  rw [combE_c]; rfl

theorem generator_SC (i : Nat) (h : i ≤ 2 ^ 10) : SC cfg.P i_impl_generator [.s (.v (.int .i64) (i : Int))] (.s (.v (.pr .tree .tree) (genT i))) [] := by
  have ew : IntKind.wrap .i64 ((i : Int) + 2) = ((i + 2 : Nat) : Int) := by rw [w64] <;> omega
  have h3 := rightComb_SC (i + 2) (by omega)
  rw [← ew] at h3
  exact impl_generator_p1 _ _ _ _ (rightComb_SC i (by omega)) (graft_SC genX i (by omega)) h3

theorem prGenerator_SC (i : Nat) (h : i ≤ 2 ^ 10) : SC cfg.P i_spec_prGenerator [.s (.v (.int .i64) (i : Int))] (.s (.v (.pr .str .str) (pt (genT i)))) [] := by
  have ew : IntKind.wrap .i64 ((i : Int) + 2) = ((i + 2 : Nat) : Int) := by rw [w64] <;> omega
  have h3 := trRight_SC (i + 2) (by omega)
  rw [← ew] at h3
  have e1 : txt (combR i) = preC i ++ 46 :: List.replicate i 41 := by rw [combR_E, combE_txt]; simp [txt]
  have e2 : txt (combE genX i) = preC i ++ [40, 40, 46, 46, 41, 46, 41] ++ List.replicate i 41 := by rw [combE_txt]; rfl
  have h2 := trGraft_SC (preC i) (List.replicate i 41) [40, 40, 46, 46, 41, 46, 41] i (preC_dots i) (by rw [preC_len, List.length_replicate]; omega) (by simp)
  rw [← e1, ← e2] at h2
  exact spec_prGenerator_p1 _ _ _ _ (trRight_SC i (by omega)) h2 h3

/-- The pair of a letter. -/
def letT (n : Int) : Tr × Tr := if n < 0 then ((genT (n.natAbs - 1)).2, (genT (n.natAbs - 1)).1) else genT (n.natAbs - 1)

theorem let_c (n : Int) : (letT n).1.c = n.natAbs - 1 + 2 ∧ (letT n).2.c = n.natAbs - 1 + 2 := by
  have := gen_c (n.natAbs - 1)
  unfold letT
  split
  · exact ⟨this.2, this.1⟩
  · exact this

theorem maxI_abs (n : Int) (h : -(2 ^ 40) ≤ n ∧ n ≤ 2 ^ 40) : maxI n (IntKind.wrap .i64 (0 - n)) = (n.natAbs : Int) := by
  have e : IntKind.wrap .i64 (0 - n) = 0 - n := by rw [w64] <;> omega
  rw [e]
  unfold maxI
  split <;> omega

theorem size_SC (n : Int) (h : -(2 ^ 40) ≤ n ∧ n ≤ 2 ^ 40) : SC cfg.P i_impl_size [.s (.v (.int .i64) n)] (.s (.v (.int .i64) (n.natAbs : Int))) [] := by
  have := impl_size_p1 n
  rw [maxI_abs n h] at this
  exact this

theorem letter_SC (n : Int) (h0 : n ≠ 0) (h : n.natAbs ≤ 2 ^ 8) : SC cfg.P i_impl_letter [.s (.v (.int .i64) n)] (.s (.v (.pr .tree .tree) (letT n))) [] := by
  have e : IntKind.wrap .i64 ((n.natAbs : Int) - 1) = ((n.natAbs - 1 : Nat) : Int) := by rw [w64] <;> omega
  have hg := generator_SC (n.natAbs - 1) (by omega)
  rw [← e] at hg
  unfold letT
  by_cases hn : n < 0
  · rw [if_pos hn]
    exact impl_letter_p1 _ _ _ _ (size_SC n (by omega)) hg hn (impl_pair_inverse_p1 _)
  · rw [if_neg hn]
    exact impl_letter_p2 _ _ _ (size_SC n (by omega)) hg hn

theorem wdLetter_SC (n : Int) (h0 : n ≠ 0) (h : n.natAbs ≤ 2 ^ 8) : SC cfg.P i_spec_wdLetter [.s (.v (.int .i64) n)] (.s (.v (.pr .str .str) (pt (letT n)))) [] := by
  have hg := prGenerator_SC (n.natAbs - 1) (by omega)
  unfold letT
  by_cases hn : n < 0
  · have e0 : IntKind.wrap .i64 (0 - n) = (n.natAbs : Int) := by rw [w64] <;> omega
    have e : IntKind.wrap .i64 ((IntKind.wrap .i64 (0 - n)) - 1) = ((n.natAbs - 1 : Nat) : Int) := by rw [e0, w64] <;> omega
    rw [← e] at hg
    rw [if_pos hn]
    exact spec_wdLetter_p1 _ _ _ hn hg (spec_prInverse_p1 _)
  · have e : IntKind.wrap .i64 (n - 1) = ((n.natAbs - 1 : Nat) : Int) := by rw [w64] <;> omega
    rw [← e] at hg
    rw [if_neg hn]
    exact spec_wdLetter_p2 _ _ hn hg

end Go.AI
