/- A part of the road: what it proves stands in its last texts. -/
import Derived.Test.YtdfllkeekehplaaCPg
import Derived.Test.YtdfllkeekehplaaGL
import Derived.Test.YtdfllkeekehplaaCE
section
/- Contracts: exponents of leaves; words of exponents. -/
set_option autoImplicit false
set_option maxRecDepth 100000
set_option linter.unusedVariables false
namespace Go.AI
open Go.Proofs

/-- How far up over left sides alone each leaf lies. -/
def clT : Tr → Nat → List Nat
  | .leaf, n => [n]
  | .node a b, n => clT a (n + 1) ++ clT b 0

theorem clT_len : ∀ (t : Tr) (n : Nat), (clT t n).length = t.c + 1
  | .leaf, _ => rfl
  | .node a b, n => by simp only [clT, List.length_append, clT_len a, clT_len b, Tr.c]; omega

theorem clT_le : ∀ (t : Tr) (n : Nat), ∀ x ∈ clT t n, x ≤ n + t.c
  | .leaf, n, x, h => by simp [clT] at h; omega
  | .node a b, n, x, h => by
    simp only [clT] at h
    simp only [Tr.c]
    rcases List.mem_append.1 h with h | h
    · have := clT_le a (n + 1) x h; omega
    · have := clT_le b 0 x h; omega

theorem ints_app (l m : List Nat) : ints (l ++ m) = ints l ++ ints m := List.map_append

theorem zokII (l m : List Nat) (h : l.length + m.length ≤ 2 ^ 40) : sizeOK (List.length (ints l) + List.length (ints m)) := by
  unfold sizeOK lim; rw [List.length_map, List.length_map]; exact h

theorem climbs_SC : ∀ (t : Tr) (n : Nat), t.c ≤ 2 ^ 20 → n + t.c ≤ 2 ^ 30 → SC cfg.P i_impl_node_climbs [.s (.v .tree t), .s (.v (.int .i64) (n : Int))] (.s (.own t_int (.int .i64) (ints (clT t n)))) []
  | .leaf, n, _, _ => impl_node_climbs_p1 _
  | .node a b, n, h, hn => by
    simp only [Tr.c] at h hn
    have h1 := climbs_SC a (n + 1) (by omega) (by omega)
    have h2 := climbs_SC b 0 (by omega) (by omega)
    rw [← wrap_succ (by omega)] at h1
    rw [clT, ints_app]
    exact impl_node_climbs_p2 _ _ _ _ _ h1 h2 (zokII _ _ (by rw [clT_len, clT_len]; omega))

theorem wdExp_SC : ∀ (t : Tr) (n : Nat), t.c ≤ 50 → n + t.c ≤ 2 ^ 30 → SC cfg.P i_spec_wdExponents [.s (.v .str (bs (txt t))), .s (.v (.int .i64) (n : Int))] (.s (.own t_int (.int .i64) (ints (clT t n)))) []
  | .leaf, n, _, _ => spec_wdExponents_p1 _ _ trLeaf_leaf
  | .node a b, n, h, hn => by
    have h' := h
    simp only [Tr.c] at h hn
    have h1 := wdExp_SC a (n + 1) (by omega) (by omega)
    have h2 := wdExp_SC b 0 (by omega) (by omega)
    rw [← wrap_succ (by omega)] at h1
    rw [clT, ints_app]
    exact spec_wdExponents_p2 _ _ _ _ _ _ (trLeaf_node a b) (trSides_SC a b h') h1 h2 (zokII _ _ (by rw [clT_len, clT_len]; omega))

/-- The letters of exponents, from a number on. -/
def woR : List Nat → Nat → List Nat
  | [], _ => []
  | n :: r, k => List.replicate n (k + 1) ++ woR r (k + 1)

theorem woR_append : ∀ (l m : List Nat) (k : Nat), woR (l ++ m) k = woR l k ++ woR m (k + l.length)
  | [], m, k => rfl
  | n :: l, m, k => by
    rw [List.cons_append, woR, woR, woR_append l m (k + 1), List.append_assoc, List.length_cons, show k + 1 + l.length = k + (l.length + 1) by omega]

theorem rep_succ (n k : Nat) : List.replicate (n + 1) k = [k] ++ List.replicate n k := rfl

theorem ints_get (l : List Nat) (i : Nat) (h : i < l.length) : List.getD (ints l) i 0 = ((l.getD i 0 : Nat) : Int) := gD_map _ l i h 0 0

theorem wordOf_SC (l : List Nat) (hl : l.length ≤ 2 ^ 10) (hb : ∀ n ∈ l, n ≤ 2 ^ 10) : SC cfg.P i_impl_wordOf [.s (.v (.sl (.int .i64)) (ints l))] (.s (.own t_int (.int .i64) (ints (woR l 0)))) [] := by
  have hil : (ints l).length = l.length := List.length_map ..
  have inner : ∀ (k n : Nat), k ≤ 2 ^ 10 → n ≤ 2 ^ 10 → ∀ (m j : Nat) (cur : List Nat), n - j = m → j ≤ n → cur.length ≤ 2 ^ 20 + j →
      LoopSC cfg.P 1 (lb P_impl_wordOf 1) (impl_wordOf_L1a (k : Int) (ints l) ((List.length (ints l) : Nat) : Int) (k : Int) (n : Int) (j : Int) (ints cur)) (.exit 2) (impl_wordOf_L1X1 (k : Int) (ints l) ((List.length (ints l) : Nat) : Int) (k : Int) (n : Int) (n : Int) false (ints (cur ++ List.replicate (n - j) (k + 1)))) := by
    intro k n hk hn m
    induction m with
    | zero =>
      intro j cur hm hj hc
      have e : j = n := by omega
      subst e
      rw [Nat.sub_self, List.replicate_zero, List.append_nil]
      exact impl_wordOf_L1a_x2 _ _ _ _ _ _ _ (by omega)
    | succ m ih =>
      intro j cur hm hj hc
      have ek : IntKind.wrap .i64 ((k : Int) + 1) = ((k + 1 : Nat) : Int) := wrap_succ (by omega)
      have hn' := ih (j + 1) (cur ++ [k + 1]) (by omega) (by omega) (by simp; omega)
      have e1 : ints (cur ++ [k + 1]) = ints cur ++ [IntKind.wrap .i64 ((k : Int) + 1)] := by rw [ints_app, ek]; rfl
      have e2 : n - j = (n - (j + 1)) + 1 := by omega
      rw [e2, rep_succ, ← List.append_assoc]
      rw [e1, ← wrap_succ (i := j) (by omega)] at hn'
      exact impl_wordOf_L1a_i1 _ _ _ _ _ _ _ (by omega) (sizeOK_one (by rw [List.length_map]; omega)) hn'
  have key : ∀ (m i : Nat) (cur : List Nat), l.length - i = m → i ≤ l.length → cur.length ≤ i * 2 ^ 10 →
      LoopSC cfg.P 1 (lb P_impl_wordOf 0) (impl_wordOf_L0a (ints l) ((List.length (ints l) : Nat) : Int) (i : Int) (ints cur)) (.exit 0) (impl_wordOf_L0X1 (ints l) ((List.length (ints l) : Nat) : Int) (l.length : Int) false (ints (cur ++ woR (l.drop i) i))) := by
    intro m
    induction m with
    | zero =>
      intro i cur hm hi hc
      have e : i = l.length := by omega
      subst e
      rw [List.drop_length, woR, List.append_nil]
      exact impl_wordOf_L0a_x2 _ _ _ _ (by omega)
    | succ m ih =>
      intro i cur hm hi hc
      have hi1 : i < l.length := by omega
      have hd : l.drop i = l.getD i 0 :: l.drop (i + 1) := by
        rw [List.drop_eq_getElem_cons hi1, List.getD_eq_getElem?_getD, List.getElem?_eq_getElem hi1]; rfl
      have hb' := hb _ (gD_mem hi1 0)
      have hbig : i * 2 ^ 10 ≤ 2 ^ 10 * 2 ^ 10 := Nat.mul_le_mul_right _ (by omega)
      have hin := inner i (l.getD i 0) (by omega) hb' _ 0 cur rfl (by omega) (by omega)
      rw [Nat.sub_zero] at hin
      have hg : List.getD (ints l) ((i : Int)).toNat (0 : Int) = ((l.getD i 0 : Nat) : Int) := by rw [Int.toNat_natCast]; exact ints_get l i hi1
      have hn := ih (i + 1) (cur ++ List.replicate (l.getD i 0) (i + 1)) (by omega) (by omega) (by rw [List.length_append, List.length_replicate, Nat.add_mul]; omega)
      rw [hd, woR, ← List.append_assoc]
      rw [← hg] at hin
      rw [← wrap_succ (by omega)] at hn
      exact impl_wordOf_L0a_i1 _ _ _ _ _ _ _ _ _ _ _ _ (by omega) (by omega) (by omega) hin hn
  have h0 := key _ 0 [] rfl (by omega) (by simp)
  rw [List.drop_zero, List.nil_append] at h0
  exact impl_wordOf_p1 _ _ _ _ _ _ h0

end Go.AI
end

section
/- Contracts: exponents of trees; inverse words; normal words of pairs. -/
set_option autoImplicit false
set_option maxRecDepth 100000
set_option linter.unusedVariables false
namespace Go.AI
open Go.Proofs

/-- The exponents of all leaves of a whole tree. -/
def exR : Tr → List Nat
  | .leaf => [0]
  | .node l r => clT l 0 ++ exR r

theorem exR_len : ∀ t, (exR t).length = t.c + 1
  | .leaf => rfl
  | .node l r => by simp only [exR, List.length_append, clT_len, exR_len r, Tr.c]; omega

theorem exR_le : ∀ t, ∀ x ∈ exR t, x ≤ t.c
  | .leaf, x, h => by simp [exR] at h; omega
  | .node l r, x, h => by
    simp only [exR] at h
    simp only [Tr.c]
    rcases List.mem_append.1 h with h | h
    · have := clT_le l 0 x h; omega
    · have := exR_le r x h; omega

theorem clT_sum : ∀ (t : Tr) (n : Nat), (clT t n).sum = n + t.c
  | .leaf, n => by simp [clT, Tr.c]
  | .node a b, n => by rw [clT, List.sum_append, clT_sum a, clT_sum b]; simp only [Tr.c]; omega

theorem exR_sum : ∀ t, (exR t).sum ≤ t.c
  | .leaf => by simp [exR, Tr.c]
  | .node l r => by
    have := exR_sum r
    rw [exR, List.sum_append, clT_sum]
    simp only [Tr.c]
    omega

theorem woR_length : ∀ (l : List Nat) (k : Nat), (woR l k).length = l.sum
  | [], _ => rfl
  | n :: l, k => by simp only [woR, List.length_append, List.length_replicate, woR_length l, List.sum_cons]

theorem woR_mem : ∀ (l : List Nat) (k : Nat), ∀ x ∈ woR l k, 1 ≤ x ∧ x ≤ k + l.length
  | [], _, x, h => by simp [woR] at h
  | n :: l, k, x, h => by
    simp only [woR] at h
    simp only [List.length_cons]
    rcases List.mem_append.1 h with h | h
    · have := List.eq_of_mem_replicate h; omega
    · have := woR_mem l (k + 1) x h; omega

theorem exponents_SC (t : Tr) (h : t.c ≤ 2 ^ 20) : SC cfg.P i_impl_node_exponents [.s (.v .tree t)] (.s (.own t_int (.int .i64) (ints (exR t)))) [] := by
  have key : ∀ (t : Tr) (cur : List Nat), cur.length + t.c ≤ 2 ^ 30 → t.c ≤ 2 ^ 20 → ∃ q : List Nat, exR t = q ++ [0] ∧ LoopSC cfg.P 1 (lb P_impl_node_exponents 0) (impl_node_exponents_L0a t (ints cur)) (.exit 0) (impl_node_exponents_L0X1 .leaf false (ints (cur ++ q))) := by
    intro t
    induction t with
    | leaf => intro cur _ _; exact ⟨[], rfl, by rw [List.append_nil]; exact impl_node_exponents_L0a_x1 _⟩
    | node l r _ ih =>
      intro cur hc h
      simp only [Tr.c] at hc h
      have hl := clT_len l 0
      obtain ⟨q, hq, hn⟩ := ih (cur ++ clT l 0) (by rw [List.length_append]; omega) (by omega)
      rw [List.append_assoc, ints_app] at hn
      exact ⟨clT l 0 ++ q, by rw [exR, hq, List.append_assoc], impl_node_exponents_L0a_i2 _ _ _ _ (climbs_SC l 0 (by omega) (by omega)) (zokII _ _ (by omega)) hn⟩
  obtain ⟨q, hq, hn⟩ := key t [] (by rw [List.length_nil]; omega) h
  rw [List.nil_append] at hn
  have hl := exR_len t
  have hql : (exR t).length = q.length + 1 := by rw [hq]; simp
  have := impl_node_exponents_p1 _ _ _ _ hn (by unfold sizeOK lim; rw [List.length_map]; simp; omega)
  rw [hq, ints_app]
  exact this

theorem wdRight_SC : ∀ t : Tr, t.c ≤ 50 → SC cfg.P i_spec_wdRight [.s (.v .str (bs (txt t)))] (.s (.own t_int (.int .i64) (ints (exR t)))) []
  | .leaf, _ => spec_wdRight_p1 _ trLeaf_leaf
  | .node l r, h => by
    have h' := h
    simp only [Tr.c] at h
    have hl := clT_len l 0
    have hr := exR_len r
    rw [exR, ints_app]
    exact spec_wdRight_p2 _ _ _ _ _ (trLeaf_node l r) (trSides_SC l r h') (wdExp_SC l 0 (by omega) (by omega)) (wdRight_SC r (by omega)) (zokII _ _ (by omega))

/-- The inverse of a word. -/
def invW (l : List Int) : List Int := l.reverse.map fun n => -n

theorem inv_snoc (l : List Int) (m : Nat) (h : m < l.length) : ((l.drop (m + 1)).reverse.map fun n : Int => -n) ++ [-(l.getD m 0)] = (l.drop m).reverse.map fun n : Int => -n := by
  rw [List.drop_eq_getElem_cons h, List.reverse_cons, List.map_append, List.getD_eq_getElem?_getD, List.getElem?_eq_getElem h]
  rfl

theorem inverseOf_SC (l : List Int) (hl : l.length ≤ 2 ^ 20) (hb : ∀ n ∈ l, -(2 ^ 40) ≤ n ∧ n ≤ 2 ^ 40) : SC cfg.P i_impl_inverseOf [.s (.v (.sl (.int .i64)) l)] (.s (.own t_int (.int .i64) (invW l))) [] := by
  have key : ∀ (m : Nat), m ≤ l.length → LoopSC cfg.P 1 (lb P_impl_inverseOf 0) (impl_inverseOf_L0a l ((m : Int) - 1) ((l.drop m).reverse.map fun n => -n)) (.exit 0) (impl_inverseOf_L0X1 l (-1) false (invW l)) := by
    intro m
    induction m with
    | zero => intro _; rw [List.drop_zero]; exact impl_inverseOf_L0a_x2 _ _ _ (by omega)
    | succ m ih =>
      intro hm
      have hn := ih (by omega)
      have e1 : ((m + 1 : Nat) : Int) - 1 = (m : Int) := by omega
      have ew : IntKind.wrap .i64 ((m : Int) - 1) = (m : Int) - 1 := by rw [w64] <;> omega
      have hbm := hb _ (gD_mem (show m < l.length by omega) 0)
      have en : IntKind.wrap .i64 (0 - (List.getD l ((m : Int)).toNat (0 : Int))) = -(l.getD m 0) := by rw [Int.toNat_natCast, w64] <;> omega
      rw [← inv_snoc l m (by omega), ← en, ← ew] at hn
      rw [e1]
      exact impl_inverseOf_L0a_i1 _ _ _ (by omega) (by omega) (by omega) (sizeOK_one (by rw [List.length_map, List.length_reverse, List.length_drop]; omega)) hn
  have h0 := key l.length (Nat.le_refl _)
  have ew : IntKind.wrap .i64 (((List.length l : Nat) : Int) - 1) = (l.length : Int) - 1 := by rw [w64] <;> omega
  rw [List.drop_length, ← ew] at h0
  exact impl_inverseOf_p1 _ _ _ _ _ h0

/-- The normal word of a reduced pair. -/
def norW (p : Tr × Tr) : List Int := ints (woR (exR p.1) 0) ++ invW (ints (woR (exR p.2) 0))

theorem nor_facts (p : Tr × Tr) : (ints (woR (exR p.1) 0)).length ≤ p.1.c ∧ (ints (woR (exR p.2) 0)).length ≤ p.2.c ∧ (∀ n ∈ ints (woR (exR p.1) 0), 1 ≤ n ∧ n ≤ p.1.c + 1) ∧ (∀ n ∈ ints (woR (exR p.2) 0), 1 ≤ n ∧ n ≤ p.2.c + 1) := by
  have s1 := exR_sum p.1
  have s2 := exR_sum p.2
  have l1 := exR_len p.1
  have l2 := exR_len p.2
  have w1 := woR_length (exR p.1) 0
  have w2 := woR_length (exR p.2) 0
  refine ⟨by rw [List.length_map]; omega, by rw [List.length_map]; omega, fun n hn => ?_, fun n hn => ?_⟩
  · obtain ⟨x, hx, rfl⟩ := List.mem_map.1 hn
    have := woR_mem (exR p.1) 0 x hx
    omega
  · obtain ⟨x, hx, rfl⟩ := List.mem_map.1 hn
    have := woR_mem (exR p.2) 0 x hx
    omega

section
variable (p : Tr × Tr) (h1 : p.1.c ≤ 40) (h2 : p.2.c ≤ 40)
include h1 h2

theorem wordOfPair_SC : SC cfg.P i_impl_wordOfPair [.s (.v (.pr .tree .tree) p)] (.s (.own t_int (.int .i64) (norW p))) [] := by
  obtain ⟨n1, n2, n3, n4⟩ := nor_facts p
  have l1 := exR_len p.1
  have l2 := exR_len p.2
  have i1 := exR_le p.1
  have i2 := exR_le p.2
  have hi : (invW (ints (woR (exR p.2) 0))).length = (ints (woR (exR p.2) 0)).length := by simp [invW]
  exact impl_wordOfPair_p1 _ _ _ _ _ _ (exponents_SC p.1 (by omega)).view (wordOf_SC (exR p.1) (by omega) (fun n hn => by have := i1 n hn; omega)) (exponents_SC p.2 (by omega)).view (wordOf_SC (exR p.2) (by omega) (fun n hn => by have := i2 n hn; omega))
    (inverseOf_SC _ (by omega) (fun n hn => by have := n4 n hn; omega)).view (by unfold sizeOK lim; omega)

end

end Go.AI
end
