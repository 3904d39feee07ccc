/- Contracts: forests hung at a right comb; their pairs. -/
import Derived.Test.YtdfllkeekehplaaCQ
import Derived.Test.YtdfllkeekehplaaCE
set_option autoImplicit false
set_option maxRecDepth 100000
set_option linter.unusedVariables false
namespace Go.AI
open Go.Proofs

/-- The right comb. -/
def combR : Nat → Tr
  | 0 => .leaf
  | n + 1 => .node .leaf (combR n)

theorem combR_c : ∀ n, (combR n).c = n
  | 0 => rfl
  | n + 1 => by simp only [combR, Tr.c, combR_c n]; omega

/-- The right comb with trees in place of its first leaves. -/
def combT : List Tr → Tr
  | [] => .leaf
  | t :: ts => .node t (combT ts)

theorem combT_c : ∀ ts, (combT ts).c = ts.length + sumC ts
  | [] => rfl
  | t :: ts => by
    have := combT_c ts
    have e : sumC (t :: ts) = t.c + sumC ts := by simp [sumC]
    simp only [combT, Tr.c, List.length_cons, e, this]
    omega

theorem grow_comb (ts : List Tr) : ∀ (n k : Nat), k + n = ts.length → growT ts (combR n) k = combT (ts.drop k)
  | 0, k, h => by
    have e : k = ts.length := by omega
    subst e
    rw [List.drop_length, combR, growT, combT, List.getD_eq_getElem?_getD, List.getElem?_eq_none (Nat.le_refl _)]
    rfl
  | n + 1, k, h => by
    have hk : k < ts.length := by omega
    rw [combR, growT, growT, Tr.c, grow_comb ts n (k + (0 + 1)) (by omega), List.drop_eq_getElem_cons hk, combT, List.getD_eq_getElem?_getD, List.getElem?_eq_getElem hk]
    rfl

theorem grownB_SC (us : List Tr) : ∀ (t : Tr) (n : Nat), n + t.c ≤ 2 ^ 30 → SC cfg.P i_impl_node_grown [.s (.v .tree t), .s (.v (.int .i64) (n : Int)), .fn i_impl_forest_tree [.v (.sl .tree) us] []] (.s (.v .tree (growT us t n))) []
  | .leaf, n, _ => impl_node_grownB_p1 _ _ _ _ (ftree_SC us n)
  | .node a b, n, h => by
    simp only [Tr.c] at h
    have hl := leaves_SC a (by omega)
    have ea : IntKind.wrap .i64 ((n : Int) + ((a.c + 1 : Nat) : Int)) = ((n + (a.c + 1) : Nat) : Int) := by rw [w64] <;> omega
    have h2 := grownB_SC us b (n + (a.c + 1)) (by omega)
    rw [← ea] at h2
    exact impl_node_grownB_p2 _ _ _ _ _ _ _ _ (grownB_SC us a n (by omega)) hl h2

theorem combR_succ : ∀ n, combR (n + 1) = .node .leaf (combR n) := fun _ => rfl

theorem rightComb_SC (n : Nat) (h : n ≤ 2 ^ 30) : SC cfg.P i_impl_rightComb [.s (.v (.int .i64) (n : Int))] (.s (.v .tree (combR n))) [] := by
  have key : ∀ (m i : Nat), i + m = n → LoopSC cfg.P 1 (lb P_impl_rightComb 0) (impl_rightComb_L0a (combR i) (n : Int) (i : Int)) (.exit 0) (impl_rightComb_L0X1 (combR n) (n : Int) (n : Int) false) := by
    intro m
    induction m with
    | zero =>
      intro i hi
      have e : i = n := by omega
      subst e
      exact impl_rightComb_L0a_x2 _ _ _ (by omega)
    | succ m ih =>
      intro i hi
      have hn := ih (i + 1) (by omega)
      rw [← wrap_succ (by omega), combR_succ] at hn
      exact impl_rightComb_L0a_i1 _ _ _ (by omega) hn
  exact impl_rightComb_p1 _ _ _ _ _ (key n 0 (by omega))

/-- A forest's pair. -/
def fpP (ts : List Tr) : Tr × Tr := red (combT ts).c (combT ts, combR (combT ts).c)

theorem fp_eqc (ts : List Tr) : (fpP ts).1.c = (fpP ts).2.c := red_eqc _ _ (by simp only [combR_c])

theorem fp_c (ts : List Tr) : (fpP ts).1.c ≤ ts.length + sumC ts := by
  have := (red_c (combT ts).c (combT ts, combR (combT ts).c)).1
  rw [← combT_c]
  exact this

theorem hung_SC (ts : List Tr) (h : ts.length ≤ 2 ^ 20) (ht : trim ts = ts) : SC cfg.P i_impl_forest_hung [.s (.v (.sl .tree) ts)] (.s (.v .tree (combT ts))) [] := by
  have h1 := trimmed_SC ts (by omega)
  rw [ht] at h1
  have h3 := grownB_SC ts (combR ts.length) 0 (by rw [combR_c]; omega)
  rw [grow_comb ts ts.length 0 (by omega), List.drop_zero] at h3
  exact impl_forest_hung_p1 _ _ _ _ h1 (rightComb_SC ts.length (by omega)) h3

theorem fpair_SC (ts : List Tr) (h : ts.length ≤ 2 ^ 18) (hs : sumC ts ≤ 2 ^ 18) (ht : trim ts = ts) : SC cfg.P i_impl_forest_pair [.s (.v (.sl .tree) ts)] (.s (.v (.pr .tree .tree) (fpP ts))) [] := by
  have hc := combT_c ts
  have hr := combR_c (combT ts).c
  exact impl_forest_pair_p1 _ _ _ _ _ (hung_SC ts (by omega) ht) (carets_SC (combT ts) (by omega)) (rightComb_SC (combT ts).c (by omega)) (reduced_SC (combT ts, combR (combT ts).c) (by simp only; omega) (by simp only; omega))

theorem fo_facts2 {fs : List (List UInt8)} (h : isFo fs = true) : fs = (treesOf fs).map txt ∧ (treesOf fs).length ≤ 8 ∧ sumC (treesOf fs) ≤ 8 ∧ trim (treesOf fs) = treesOf fs := by
  obtain ⟨h1, h2, h3, h4, h5⟩ := isFo_spec h
  have hl : (treesOf fs).length = fs.length := List.length_map ..
  exact ⟨h5, by omega, h3, h4⟩

end Go.AI
