/- Contracts: exponents of trees; inverse words; normal words of pairs. -/
import Derived.Test.YtnnbjnmkkfakdaaGK
import Derived.Test.YtnnbjnmkkfakdaaCWe
import Derived.Test.YtnnbjnmkkfakdaaCE
set_option autoImplicit false
set_option maxRecDepth 100000
set_option linter.unusedVariables false
namespace Go.AI
open Go.Proofs

/-- The exponents of all leaves of a whole tree. -/
def exR : Tr → List Nat
  | .leaf => [0]
  | .node l r => clT l 0 ++ exR r

theorem exR_len : ∀ t, (exR t).length = t.c + 1
  | .leaf => rfl
  | .node l r => by simp only [exR, List.length_append, clT_len, exR_len r, Tr.c]; omega

theorem exR_le : ∀ t, ∀ x ∈ exR t, x ≤ t.c
  | .leaf, x, h => by simp [exR] at h; omega
  | .node l r, x, h => by
    simp only [exR] at h
    simp only [Tr.c]
    rcases List.mem_append.1 h with h | h
    · have := clT_le l 0 x h; omega
    · have := exR_le r x h; omega

theorem clT_sum : ∀ (t : Tr) (n : Nat), (clT t n).sum = n + t.c
  | .leaf, n => by simp [clT, Tr.c]
  | .node a b, n => by rw [clT, List.sum_append, clT_sum a, clT_sum b]; simp only [Tr.c]; omega

theorem exR_sum : ∀ t, (exR t).sum ≤ t.c
  | .leaf => by simp [exR, Tr.c]
  | .node l r => by
    have := exR_sum r
    rw [exR, List.sum_append, clT_sum]
    simp only [Tr.c]
    omega

theorem woR_length : ∀ (l : List Nat) (k : Nat), (woR l k).length = l.sum
  | [], _ => rfl
  | n :: l, k => by simp only [woR, List.length_append, List.length_replicate, woR_length l, List.sum_cons]

theorem woR_mem : ∀ (l : List Nat) (k : Nat), ∀ x ∈ woR l k, 1 ≤ x ∧ x ≤ k + l.length
  | [], _, x, h => by simp [woR] at h
  | n :: l, k, x, h => by
    simp only [woR] at h
    simp only [List.length_cons]
    rcases List.mem_append.1 h with h | h
    · have := List.eq_of_mem_replicate h; omega
    · have := woR_mem l (k + 1) x h; omega

theorem exponents_SC (t : Tr) (h : t.c ≤ 2 ^ 20) : SC cfg.P i_impl_node_exponents [.s (.v .tree t)] (.s (.own t_int (.int .i64) (ints (exR t)))) [] := by
  have key : ∀ (t : Tr) (cur : List Nat), cur.length + t.c ≤ 2 ^ 30 → t.c ≤ 2 ^ 20 → ∃ q : List Nat, exR t = q ++ [0] ∧ LoopSC cfg.P 1 (lb P_impl_node_exponents 0) (impl_node_exponents_L0a t (ints cur)) (.exit 0) (impl_node_exponents_L0X1 .leaf false (ints (cur ++ q))) := by
    intro t
    induction t with
    | leaf => intro cur _ _; exact ⟨[], rfl, by rw [List.append_nil]; exact impl_node_exponents_L0a_x1 _⟩
    | node l r _ ih =>
      intro cur hc h
      simp only [Tr.c] at hc h
      have hl := clT_len l 0
      obtain ⟨q, hq, hn⟩ := ih (cur ++ clT l 0) (by rw [List.length_append]; omega) (by omega)
      rw [List.append_assoc, ints_app] at hn
      exact ⟨clT l 0 ++ q, by rw [exR, hq, List.append_assoc], impl_node_exponents_L0a_i2 _ _ _ _ (climbs_SC l 0 (by omega) (by omega)) (zokII _ _ (by omega)) hn⟩
  obtain ⟨q, hq, hn⟩ := key t [] (by rw [List.length_nil]; omega) h
  rw [List.nil_append] at hn
  have hl := exR_len t
  have hql : (exR t).length = q.length + 1 := by rw [hq]; simp
  have := impl_node_exponents_p1 _ _ _ _ hn (by unfold sizeOK lim; rw [List.length_map]; simp; omega)
  rw [hq, ints_app]
  exact this

theorem wdRight_SC : ∀ t : Tr, t.c ≤ 50 → SC cfg.P i_spec_wdRight [.s (.v .str (bs (txt t)))] (.s (.own t_int (.int .i64) (ints (exR t)))) []
  | .leaf, _ => spec_wdRight_p1 _ trLeaf_leaf
  | .node l r, h => by
    have h' := h
    simp only [Tr.c] at h
    have hl := clT_len l 0
    have hr := exR_len r
    rw [exR, ints_app]
    exact spec_wdRight_p2 _ _ _ _ _ (trLeaf_node l r) (trSides_SC l r h') (wdExp_SC l 0 (by omega) (by omega)) (wdRight_SC r (by omega)) (zokII _ _ (by omega))

/-- The inverse of a word. -/
def invW (l : List Int) : List Int := l.reverse.map fun n => -n

theorem inv_snoc (l : List Int) (m : Nat) (h : m < l.length) : ((l.drop (m + 1)).reverse.map fun n : Int => -n) ++ [-(l.getD m 0)] = (l.drop m).reverse.map fun n : Int => -n := by
  rw [List.drop_eq_getElem_cons h, List.reverse_cons, List.map_append, List.getD_eq_getElem?_getD, List.getElem?_eq_getElem h]
  rfl

theorem inverseOf_SC (l : List Int) (hl : l.length ≤ 2 ^ 20) (hb : ∀ n ∈ l, -(2 ^ 40) ≤ n ∧ n ≤ 2 ^ 40) : SC cfg.P i_impl_inverseOf [.s (.v (.sl (.int .i64)) l)] (.s (.own t_int (.int .i64) (invW l))) [] := by
  have key : ∀ (m : Nat), m ≤ l.length → LoopSC cfg.P 1 (lb P_impl_inverseOf 0) (impl_inverseOf_L0a l ((m : Int) - 1) ((l.drop m).reverse.map fun n => -n)) (.exit 0) (impl_inverseOf_L0X1 l (-1) false (invW l)) := by
    intro m
    induction m with
    | zero => intro _; rw [List.drop_zero]; exact impl_inverseOf_L0a_x2 _ _ _ (by omega)
    | succ m ih =>
      intro hm
      have hn := ih (by omega)
      have e1 : ((m + 1 : Nat) : Int) - 1 = (m : Int) := by omega
      have ew : IntKind.wrap .i64 ((m : Int) - 1) = (m : Int) - 1 := by rw [w64] <;> omega
      have hbm := hb _ (gD_mem (show m < l.length by omega) 0)
      have en : IntKind.wrap .i64 (0 - (List.getD l ((m : Int)).toNat (0 : Int))) = -(l.getD m 0) := by rw [Int.toNat_natCast, w64] <;> omega
      rw [← inv_snoc l m (by omega), ← en, ← ew] at hn
      rw [e1]
      exact impl_inverseOf_L0a_i1 _ _ _ (by omega) (by omega) (by omega) (sizeOK_one (by rw [List.length_map, List.length_reverse, List.length_drop]; omega)) hn
  have h0 := key l.length (Nat.le_refl _)
  have ew : IntKind.wrap .i64 (((List.length l : Nat) : Int) - 1) = (l.length : Int) - 1 := by rw [w64] <;> omega
  rw [List.drop_length, ← ew] at h0
  exact impl_inverseOf_p1 _ _ _ _ _ h0

theorem wdInverse_SC (l : List Int) (hl : l.length ≤ 2 ^ 20) (hb : ∀ n ∈ l, -(2 ^ 40) ≤ n ∧ n ≤ 2 ^ 40) : SC cfg.P i_spec_wdInverse [.s (.v (.sl (.int .i64)) l)] (.s (.own t_int (.int .i64) (invW l))) [] := by
  have key : ∀ (m : Nat), m ≤ l.length → LoopSC cfg.P 1 (lb P_spec_wdInverse 0) (spec_wdInverse_L0a l ((m : Int) - 1) ((l.drop m).reverse.map fun n => -n)) (.exit 0) (spec_wdInverse_L0X1 l (-1) false (invW l)) := by
    intro m
    induction m with
    | zero => intro _; rw [List.drop_zero]; exact spec_wdInverse_L0a_x2 _ _ _ (by omega)
    | succ m ih =>
      intro hm
      have hn := ih (by omega)
      have e1 : ((m + 1 : Nat) : Int) - 1 = (m : Int) := by omega
      have ew : IntKind.wrap .i64 ((m : Int) - 1) = (m : Int) - 1 := by rw [w64] <;> omega
      have hbm := hb _ (gD_mem (show m < l.length by omega) 0)
      have en : IntKind.wrap .i64 (0 - (List.getD l ((m : Int)).toNat (0 : Int))) = -(l.getD m 0) := by rw [Int.toNat_natCast, w64] <;> omega
      rw [← inv_snoc l m (by omega), ← en, ← ew] at hn
      rw [e1]
      exact spec_wdInverse_L0a_i1 _ _ _ (by omega) (by omega) (by omega) (sizeOK_one (by rw [List.length_map, List.length_reverse, List.length_drop]; omega)) hn
  have h0 := key l.length (Nat.le_refl _)
  have ew : IntKind.wrap .i64 (((List.length l : Nat) : Int) - 1) = (l.length : Int) - 1 := by rw [w64] <;> omega
  rw [List.drop_length, ← ew] at h0
  exact spec_wdInverse_p1 _ _ _ _ _ h0

/-- The normal word of a reduced pair. -/
def norW (p : Tr × Tr) : List Int := ints (woR (exR p.1) 0) ++ invW (ints (woR (exR p.2) 0))

theorem nor_facts (p : Tr × Tr) : (ints (woR (exR p.1) 0)).length ≤ p.1.c ∧ (ints (woR (exR p.2) 0)).length ≤ p.2.c ∧ (∀ n ∈ ints (woR (exR p.1) 0), 1 ≤ n ∧ n ≤ p.1.c + 1) ∧ (∀ n ∈ ints (woR (exR p.2) 0), 1 ≤ n ∧ n ≤ p.2.c + 1) := by
  have s1 := exR_sum p.1
  have s2 := exR_sum p.2
  have l1 := exR_len p.1
  have l2 := exR_len p.2
  have w1 := woR_length (exR p.1) 0
  have w2 := woR_length (exR p.2) 0
  refine ⟨by rw [List.length_map]; omega, by rw [List.length_map]; omega, fun n hn => ?_, fun n hn => ?_⟩
  · obtain ⟨x, hx, rfl⟩ := List.mem_map.1 hn
    have := woR_mem (exR p.1) 0 x hx
    omega
  · obtain ⟨x, hx, rfl⟩ := List.mem_map.1 hn
    have := woR_mem (exR p.2) 0 x hx
    omega

section
variable (p : Tr × Tr) (h1 : p.1.c ≤ 40) (h2 : p.2.c ≤ 40)
include h1 h2

theorem wordOfPair_SC : SC cfg.P i_impl_wordOfPair [.s (.v (.pr .tree .tree) p)] (.s (.own t_int (.int .i64) (norW p))) [] := by
  obtain ⟨n1, n2, n3, n4⟩ := nor_facts p
  have l1 := exR_len p.1
  have l2 := exR_len p.2
  have i1 := exR_le p.1
  have i2 := exR_le p.2
  have hi : (invW (ints (woR (exR p.2) 0))).length = (ints (woR (exR p.2) 0)).length := by simp [invW]
  exact impl_wordOfPair_p1 _ _ _ _ _ _ (exponents_SC p.1 (by omega)).view (wordOf_SC (exR p.1) (by omega) (fun n hn => by have := i1 n hn; omega)) (exponents_SC p.2 (by omega)).view (wordOf_SC (exR p.2) (by omega) (fun n hn => by have := i2 n hn; omega))
    (inverseOf_SC _ (by omega) (fun n hn => by have := n4 n hn; omega)).view (by unfold sizeOK lim; omega)

theorem wdOf_SC : SC cfg.P i_spec_wdOf [.s (.v (.pr .str .str) (pt p))] (.s (.own t_int (.int .i64) (norW p))) [] := by
  obtain ⟨n1, n2, n3, n4⟩ := nor_facts p
  have l1 := exR_len p.1
  have l2 := exR_len p.2
  have i1 := exR_le p.1
  have i2 := exR_le p.2
  -- the first word
  have in1 : ∀ (len k : Int) (kk : Nat) (z : List Int) (e : List Int), k = (kk : Int) → kk ≤ 2 ^ 10 → ∀ (a : Nat) (cur : List Nat), a + cur.length ≤ 2 ^ 20 →
      LoopSC cfg.P 1 (lb P_spec_wdOf 1) (spec_wdOf_L1a k (a : Int) len k (pt p) (ints cur) z e) (.exit 2) (spec_wdOf_L1X1 k 0 len k false (pt p) (ints (cur ++ List.replicate a (kk + 1))) z e) := by
    intro len k kk z e hk hkk a
    induction a with
    | zero => intro cur _; rw [List.replicate_zero, List.append_nil]; exact spec_wdOf_L1a_x2 _ _ _ _ _ _ _ _ (by omega)
    | succ a ih =>
      intro cur hc
      subst hk
      have hn := ih (cur ++ [kk + 1]) (by simp; omega)
      have e1 : ints (cur ++ [kk + 1]) = ints cur ++ [IntKind.wrap .i64 ((kk : Int) + 1)] := by rw [ints_app, wrap_succ (by omega)]; rfl
      have e2 : IntKind.wrap .i64 (((a + 1 : Nat) : Int) - 1) = (a : Int) := by rw [w64] <;> omega
      rw [rep_succ, ← List.append_assoc]
      rw [e1, ← e2] at hn
      exact spec_wdOf_L1a_i1 _ _ _ _ _ _ _ _ (by omega) (sizeOK_one (by rw [List.length_map]; omega)) hn
  have k1 : ∀ (m i : Nat) (cur : List Nat), (exR p.1).length - i = m → i ≤ (exR p.1).length → cur.length ≤ i * 2 ^ 10 →
      LoopSC cfg.P 1 (lb P_spec_wdOf 0) (spec_wdOf_L0a ((List.length (ints (exR p.1)) : Nat) : Int) (i : Int) (pt p) (ints cur) ([] : List Int) (ints (exR p.1))) (.exit 0)
        (spec_wdOf_L0X1 ((List.length (ints (exR p.1)) : Nat) : Int) ((exR p.1).length : Int) false (pt p) (ints (cur ++ woR ((exR p.1).drop i) i)) ([] : List Int) (ints (exR p.1))) := by
    intro m
    have hil : (ints (exR p.1)).length = (exR p.1).length := List.length_map ..
    induction m with
    | zero =>
      intro i cur hm hi hc
      have e : i = (exR p.1).length := by omega
      subst e
      rw [List.drop_length, woR, List.append_nil]
      exact spec_wdOf_L0a_x2 _ _ _ _ _ _ (by omega)
    | succ m ih =>
      intro i cur hm hi hc
      have hi1 : i < (exR p.1).length := by omega
      have hd : (exR p.1).drop i = (exR p.1).getD i 0 :: (exR p.1).drop (i + 1) := by
        rw [List.drop_eq_getElem_cons hi1, List.getD_eq_getElem?_getD, List.getElem?_eq_getElem hi1]; rfl
      have hb' := i1 _ (gD_mem hi1 0)
      have hbig : i * 2 ^ 10 ≤ 2 ^ 6 * 2 ^ 10 := Nat.mul_le_mul_right _ (by omega)
      have hin := in1 ((List.length (ints (exR p.1)) : Nat) : Int) (i : Int) i ([] : List Int) (ints (exR p.1)) rfl (by omega) ((exR p.1).getD i 0) cur (by omega)
      have hg : List.getD (ints (exR p.1)) ((i : Int)).toNat (0 : Int) = (((exR p.1).getD i 0 : Nat) : Int) := by rw [Int.toNat_natCast]; exact ints_get _ i hi1
      have hn := ih (i + 1) (cur ++ List.replicate ((exR p.1).getD i 0) (i + 1)) (by omega) (by omega) (by rw [List.length_append, List.length_replicate, Nat.add_mul]; omega)
      rw [hd, woR, ← List.append_assoc]
      rw [← hg] at hin
      rw [← wrap_succ (by omega)] at hn
      exact spec_wdOf_L0a_i1 _ _ _ _ _ _ _ _ _ _ _ _ _ _ _ (by omega) (by omega) (by omega) (by rw [Int.toNat_natCast]; omega) hin hn
  -- the second one
  have in2 : ∀ (len k : Int) (kk : Nat) (z : List Int) (e : List Int), k = (kk : Int) → kk ≤ 2 ^ 10 → ∀ (a : Nat) (cur : List Nat), a + cur.length ≤ 2 ^ 20 →
      LoopSC cfg.P 1 (lb P_spec_wdOf 3) (spec_wdOf_L3a k (a : Int) len k z (ints cur) e) (.exit 6) (spec_wdOf_L3X1 k 0 len k false z (ints (cur ++ List.replicate a (kk + 1))) e) := by
    intro len k kk z e hk hkk a
    induction a with
    | zero => intro cur _; rw [List.replicate_zero, List.append_nil]; exact spec_wdOf_L3a_x2 _ _ _ _ _ _ _ (by omega)
    | succ a ih =>
      intro cur hc
      subst hk
      have hn := ih (cur ++ [kk + 1]) (by simp; omega)
      have e1 : ints (cur ++ [kk + 1]) = ints cur ++ [IntKind.wrap .i64 ((kk : Int) + 1)] := by rw [ints_app, wrap_succ (by omega)]; rfl
      have e2 : IntKind.wrap .i64 (((a + 1 : Nat) : Int) - 1) = (a : Int) := by rw [w64] <;> omega
      rw [rep_succ, ← List.append_assoc]
      rw [e1, ← e2] at hn
      exact spec_wdOf_L3a_i1 _ _ _ _ _ _ _ (by omega) (sizeOK_one (by rw [List.length_map]; omega)) hn
  have k2 : ∀ (z : List Int) (m i : Nat) (cur : List Nat), (exR p.2).length - i = m → i ≤ (exR p.2).length → cur.length ≤ i * 2 ^ 10 →
      LoopSC cfg.P 1 (lb P_spec_wdOf 2) (spec_wdOf_L2a ((List.length (ints (exR p.2)) : Nat) : Int) (i : Int) z (ints cur) (ints (exR p.2))) (.exit 4)
        (spec_wdOf_L2X1 ((List.length (ints (exR p.2)) : Nat) : Int) ((exR p.2).length : Int) false z (ints (cur ++ woR ((exR p.2).drop i) i)) (ints (exR p.2))) := by
    intro z m
    have hil : (ints (exR p.2)).length = (exR p.2).length := List.length_map ..
    induction m with
    | zero =>
      intro i cur hm hi hc
      have e : i = (exR p.2).length := by omega
      subst e
      rw [List.drop_length, woR, List.append_nil]
      exact spec_wdOf_L2a_x2 _ _ _ _ _ (by omega)
    | succ m ih =>
      intro i cur hm hi hc
      have hi1 : i < (exR p.2).length := by omega
      have hd : (exR p.2).drop i = (exR p.2).getD i 0 :: (exR p.2).drop (i + 1) := by
        rw [List.drop_eq_getElem_cons hi1, List.getD_eq_getElem?_getD, List.getElem?_eq_getElem hi1]; rfl
      have hb' := i2 _ (gD_mem hi1 0)
      have hbig : i * 2 ^ 10 ≤ 2 ^ 6 * 2 ^ 10 := Nat.mul_le_mul_right _ (by omega)
      have hin := in2 ((List.length (ints (exR p.2)) : Nat) : Int) (i : Int) i z (ints (exR p.2)) rfl (by omega) ((exR p.2).getD i 0) cur (by omega)
      have hg : List.getD (ints (exR p.2)) ((i : Int)).toNat (0 : Int) = (((exR p.2).getD i 0 : Nat) : Int) := by rw [Int.toNat_natCast]; exact ints_get _ i hi1
      have hn := ih (i + 1) (cur ++ List.replicate ((exR p.2).getD i 0) (i + 1)) (by omega) (by omega) (by rw [List.length_append, List.length_replicate, Nat.add_mul]; omega)
      rw [hd, woR, ← List.append_assoc]
      rw [← hg] at hin
      rw [← wrap_succ (by omega)] at hn
      exact spec_wdOf_L2a_i1 _ _ _ _ _ _ _ _ _ _ _ _ _ (by omega) (by omega) (by omega) (by rw [Int.toNat_natCast]; omega) hin hn
  have a1 := k1 _ 0 [] rfl (by omega) (by simp)
  rw [List.drop_zero, List.nil_append] at a1
  have a2 := k2 (ints (woR (exR p.1) 0)) _ 0 [] rfl (by omega) (by simp)
  rw [List.drop_zero, List.nil_append] at a2
  have hi : (invW (ints (woR (exR p.2) 0))).length = (ints (woR (exR p.2) 0)).length := by simp [invW]
  exact spec_wdOf_p1 _ _ _ _ _ _ _ _ _ _ _ _ _ _ _ _ _ (wdRight_SC p.1 (by omega)) a1 (wdRight_SC p.2 (by omega)) a2 (wdInverse_SC _ (by omega) (fun n hn => by have := n4 n hn; omega)) (by unfold sizeOK lim; omega)

end

end Go.AI
