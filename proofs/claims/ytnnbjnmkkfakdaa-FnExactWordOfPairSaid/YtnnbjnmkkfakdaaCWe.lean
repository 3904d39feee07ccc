/- Contracts: exponents of leaves; words of exponents. -/
import Derived.Test.YtnnbjnmkkfakdaaGK
import Derived.Test.YtnnbjnmkkfakdaaCPg
set_option autoImplicit false
set_option maxRecDepth 100000
set_option linter.unusedVariables false
namespace Go.AI
open Go.Proofs

/-- How far up over left sides alone each leaf lies. -/
def clT : Tr → Nat → List Nat
  | .leaf, n => [n]
  | .node a b, n => clT a (n + 1) ++ clT b 0

theorem clT_len : ∀ (t : Tr) (n : Nat), (clT t n).length = t.c + 1
  | .leaf, _ => rfl
  | .node a b, n => by simp only [clT, List.length_append, clT_len a, clT_len b, Tr.c]; omega

theorem clT_le : ∀ (t : Tr) (n : Nat), ∀ x ∈ clT t n, x ≤ n + t.c
  | .leaf, n, x, h => by simp [clT] at h; omega
  | .node a b, n, x, h => by
    simp only [clT] at h
    simp only [Tr.c]
    rcases List.mem_append.1 h with h | h
    · have := clT_le a (n + 1) x h; omega
    · have := clT_le b 0 x h; omega

theorem ints_app (l m : List Nat) : ints (l ++ m) = ints l ++ ints m := List.map_append

theorem zokII (l m : List Nat) (h : l.length + m.length ≤ 2 ^ 40) : sizeOK (List.length (ints l) + List.length (ints m)) := by
  unfold sizeOK lim; rw [List.length_map, List.length_map]; exact h

theorem climbs_SC : ∀ (t : Tr) (n : Nat), t.c ≤ 2 ^ 20 → n + t.c ≤ 2 ^ 30 → SC cfg.P i_impl_node_climbs [.s (.v .tree t), .s (.v (.int .i64) (n : Int))] (.s (.own t_int (.int .i64) (ints (clT t n)))) []
  | .leaf, n, _, _ => impl_node_climbs_p1 _
  | .node a b, n, h, hn => by
    simp only [Tr.c] at h hn
    have h1 := climbs_SC a (n + 1) (by omega) (by omega)
    have h2 := climbs_SC b 0 (by omega) (by omega)
    rw [← wrap_succ (by omega)] at h1
    rw [clT, ints_app]
    exact impl_node_climbs_p2 _ _ _ _ _ h1 h2 (zokII _ _ (by rw [clT_len, clT_len]; omega))

theorem wdExp_SC : ∀ (t : Tr) (n : Nat), t.c ≤ 50 → n + t.c ≤ 2 ^ 30 → SC cfg.P i_spec_wdExponents [.s (.v .str (bs (txt t))), .s (.v (.int .i64) (n : Int))] (.s (.own t_int (.int .i64) (ints (clT t n)))) []
  | .leaf, n, _, _ => spec_wdExponents_p1 _ _ trLeaf_leaf
  | .node a b, n, h, hn => by
    have h' := h
    simp only [Tr.c] at h hn
    have h1 := wdExp_SC a (n + 1) (by omega) (by omega)
    have h2 := wdExp_SC b 0 (by omega) (by omega)
    rw [← wrap_succ (by omega)] at h1
    rw [clT, ints_app]
    exact spec_wdExponents_p2 _ _ _ _ _ _ (trLeaf_node a b) (trSides_SC a b h') h1 h2 (zokII _ _ (by rw [clT_len, clT_len]; omega))

/-- The letters of exponents, from a number on. -/
def woR : List Nat → Nat → List Nat
  | [], _ => []
  | n :: r, k => List.replicate n (k + 1) ++ woR r (k + 1)

theorem woR_append : ∀ (l m : List Nat) (k : Nat), woR (l ++ m) k = woR l k ++ woR m (k + l.length)
  | [], m, k => rfl
  | n :: l, m, k => by
    rw [List.cons_append, woR, woR, woR_append l m (k + 1), List.append_assoc, List.length_cons, show k + 1 + l.length = k + (l.length + 1) by omega]

theorem woR_len (b : Nat) : ∀ (l : List Nat) (k : Nat), (∀ n ∈ l, n ≤ b) → (woR l k).length ≤ l.length * b
  | [], k, _ => by simp [woR]
  | n :: l, k, h => by
    have h1 := woR_len b l (k + 1) (fun x hx => h x (List.mem_cons_of_mem _ hx))
    have h2 := h n (List.mem_cons_self ..)
    simp only [woR, List.length_append, List.length_replicate, List.length_cons, Nat.add_mul, Nat.one_mul]
    omega

theorem rep_succ (n k : Nat) : List.replicate (n + 1) k = [k] ++ List.replicate n k := rfl

theorem ints_get (l : List Nat) (i : Nat) (h : i < l.length) : List.getD (ints l) i 0 = ((l.getD i 0 : Nat) : Int) := gD_map _ l i h 0 0

theorem wordOf_SC (l : List Nat) (hl : l.length ≤ 2 ^ 10) (hb : ∀ n ∈ l, n ≤ 2 ^ 10) : SC cfg.P i_impl_wordOf [.s (.v (.sl (.int .i64)) (ints l))] (.s (.own t_int (.int .i64) (ints (woR l 0)))) [] := by
  have hil : (ints l).length = l.length := List.length_map ..
  have inner : ∀ (k n : Nat), k ≤ 2 ^ 10 → n ≤ 2 ^ 10 → ∀ (m j : Nat) (cur : List Nat), n - j = m → j ≤ n → cur.length ≤ 2 ^ 20 + j →
      LoopSC cfg.P 1 (lb P_impl_wordOf 1) (impl_wordOf_L1a (k : Int) (ints l) ((List.length (ints l) : Nat) : Int) (k : Int) (n : Int) (j : Int) (ints cur)) (.exit 2) (impl_wordOf_L1X1 (k : Int) (ints l) ((List.length (ints l) : Nat) : Int) (k : Int) (n : Int) (n : Int) false (ints (cur ++ List.replicate (n - j) (k + 1)))) := by
    intro k n hk hn m
    induction m with
    | zero =>
      intro j cur hm hj hc
      have e : j = n := by omega
      subst e
      rw [Nat.sub_self, List.replicate_zero, List.append_nil]
      exact impl_wordOf_L1a_x2 _ _ _ _ _ _ _ (by omega)
    | succ m ih =>
      intro j cur hm hj hc
      have ek : IntKind.wrap .i64 ((k : Int) + 1) = ((k + 1 : Nat) : Int) := wrap_succ (by omega)
      have hn' := ih (j + 1) (cur ++ [k + 1]) (by omega) (by omega) (by simp; omega)
      have e1 : ints (cur ++ [k + 1]) = ints cur ++ [IntKind.wrap .i64 ((k : Int) + 1)] := by rw [ints_app, ek]; rfl
      have e2 : n - j = (n - (j + 1)) + 1 := by omega
      rw [e2, rep_succ, ← List.append_assoc]
      rw [e1, ← wrap_succ (i := j) (by omega)] at hn'
      exact impl_wordOf_L1a_i1 _ _ _ _ _ _ _ (by omega) (sizeOK_one (by rw [List.length_map]; omega)) hn'
  have key : ∀ (m i : Nat) (cur : List Nat), l.length - i = m → i ≤ l.length → cur.length ≤ i * 2 ^ 10 →
      LoopSC cfg.P 1 (lb P_impl_wordOf 0) (impl_wordOf_L0a (ints l) ((List.length (ints l) : Nat) : Int) (i : Int) (ints cur)) (.exit 0) (impl_wordOf_L0X1 (ints l) ((List.length (ints l) : Nat) : Int) (l.length : Int) false (ints (cur ++ woR (l.drop i) i))) := by
    intro m
    induction m with
    | zero =>
      intro i cur hm hi hc
      have e : i = l.length := by omega
      subst e
      rw [List.drop_length, woR, List.append_nil]
      exact impl_wordOf_L0a_x2 _ _ _ _ (by omega)
    | succ m ih =>
      intro i cur hm hi hc
      have hi1 : i < l.length := by omega
      have hd : l.drop i = l.getD i 0 :: l.drop (i + 1) := by
        rw [List.drop_eq_getElem_cons hi1, List.getD_eq_getElem?_getD, List.getElem?_eq_getElem hi1]; rfl
      have hb' := hb _ (gD_mem hi1 0)
      have hbig : i * 2 ^ 10 ≤ 2 ^ 10 * 2 ^ 10 := Nat.mul_le_mul_right _ (by omega)
      have hin := inner i (l.getD i 0) (by omega) hb' _ 0 cur rfl (by omega) (by omega)
      rw [Nat.sub_zero] at hin
      have hg : List.getD (ints l) ((i : Int)).toNat (0 : Int) = ((l.getD i 0 : Nat) : Int) := by rw [Int.toNat_natCast]; exact ints_get l i hi1
      have hn := ih (i + 1) (cur ++ List.replicate (l.getD i 0) (i + 1)) (by omega) (by omega) (by rw [List.length_append, List.length_replicate, Nat.add_mul]; omega)
      rw [hd, woR, ← List.append_assoc]
      rw [← hg] at hin
      rw [← wrap_succ (by omega)] at hn
      exact impl_wordOf_L0a_i1 _ _ _ _ _ _ _ _ _ _ _ _ (by omega) (by omega) (by omega) hin hn
  have h0 := key _ 0 [] rfl (by omega) (by simp)
  rw [List.drop_zero, List.nil_append] at h0
  exact impl_wordOf_p1 _ _ _ _ _ _ h0

end Go.AI
