/- Contracts: stacked forests; the law of StackForests. -/
import Derived.Test.YtdfllkeekehplaaJA
import Derived.Test.YtdfllkeekehplaaJB
import Derived.Test.YtdfllkeekehplaaCE
set_option autoImplicit false
set_option maxRecDepth 100000
set_option linter.unusedVariables false
namespace Go.AI
open Go.Proofs

theorem getD_le_c {ts : List Tr} {b : Nat} (h : ∀ t ∈ ts, t.c ≤ b) (i : Nat) : (ts.getD i .leaf).c ≤ b := by
  by_cases hi : i < ts.length
  · exact h _ (gD_mem hi .leaf)
  · rw [List.getD_eq_getElem?_getD, List.getElem?_eq_none (by omega)]
    simp [Tr.c]

theorem grown_SC (us : List Tr) : ∀ (t : Tr) (n : Nat), t.c ≤ 2 ^ 20 → n ≤ 2 ^ 40 → SC cfg.P i_impl_node_grown [.s (.v .tree t), .s (.v (.int .i64) (n : Int)), .fn i_impl_forest_tree [.v (.sl .tree) us] []] (.s (.v .tree (growT us t n))) []
  | .leaf, n, _, _ => impl_node_grownB_p1 _ _ _ _ (ftree_SC us n)
  | .node a b, n, h, hn => by
    simp only [Tr.c] at h
    have hl := leaves_SC a (by omega)
    have ea : IntKind.wrap .i64 ((n : Int) + ((a.c + 1 : Nat) : Int)) = ((n + (a.c + 1) : Nat) : Int) := by rw [w64] <;> omega
    have h2 := grown_big us b (n + (a.c + 1)) (by omega) (by omega)
    rw [← ea] at h2
    exact impl_node_grownB_p2 _ _ _ _ _ _ _ _ (grown_SC us a n (by omega) hn) hl h2
where
  grown_big (us : List Tr) : ∀ (t : Tr) (n : Nat), t.c ≤ 2 ^ 20 → n + t.c ≤ 2 ^ 41 → SC cfg.P i_impl_node_grown [.s (.v .tree t), .s (.v (.int .i64) (n : Int)), .fn i_impl_forest_tree [.v (.sl .tree) us] []] (.s (.v .tree (growT us t n))) []
    | .leaf, n, _, _ => impl_node_grownB_p1 _ _ _ _ (ftree_SC us n)
    | .node a b, n, h, hn => by
      simp only [Tr.c] at h hn
      have hl := leaves_SC a (by omega)
      have ea : IntKind.wrap .i64 ((n : Int) + ((a.c + 1 : Nat) : Int)) = ((n + (a.c + 1) : Nat) : Int) := by rw [w64] <;> omega
      have h2 := grown_big us b (n + (a.c + 1)) (by omega) (by omega)
      rw [← ea] at h2
      exact impl_node_grownB_p2 _ _ _ _ _ _ _ _ (grown_big us a n (by omega) (by omega)) hl h2

/-- The stacked trees, from a root and a leaf on. -/
def stk (ts us : List Tr) : Nat → Nat → Nat → List Tr
  | 0, _, _ => []
  | n + 1, k, at' => if k < ts.length ∨ at' < us.length then growT us (ts.getD k .leaf) at' :: stk ts us n (k + 1) (at' + ((ts.getD k .leaf).c + 1)) else []

/-- One forest stacked on another one. -/
def stackL (ts us : List Tr) : List Tr := stk ts us (ts.length + us.length) 0 0

theorem stk_len (ts us : List Tr) : ∀ n k a, (stk ts us n k a).length ≤ n
  | 0, _, _ => Nat.le_refl _
  | n + 1, k, a => by
    rw [stk]
    split
    · have := stk_len ts us n (k + 1) (a + ((ts.getD k .leaf).c + 1)); rw [List.length_cons]; omega
    · simp

theorem stack_L (ts us : List Tr) (h1 : ts.length ≤ 2 ^ 20) (h2 : us.length ≤ 2 ^ 20) (hc : ∀ t ∈ ts, t.c ≤ 2 ^ 10) : ∀ (n k a : Nat) (cur : List Tr), (ts.length - k) + (us.length - a) ≤ n → k ≤ 2 ^ 21 → cur.length ≤ k → a ≤ k * 2 ^ 11 → n + k ≤ 2 ^ 21 →
    ∃ k' a', LoopSC cfg.P 2 (lb P_impl_forest_stack 0) (impl_forest_stack_L0a ts us (a : Int) (k : Int) cur) (.exit 0) (impl_forest_stack_L0X1 ts us a' k' false (cur ++ stk ts us n k a)) := by
  intro n
  induction n with
  | zero =>
    intro k a cur hm hk hcur ha hn
    rw [stk, List.append_nil]
    exact ⟨_, _, impl_forest_stack_L0a_x3 _ _ _ _ _ (by omega) (by omega)⟩
  | succ n ih =>
    intro k a cur hm hk hcur ha hn
    by_cases h : k < ts.length ∨ a < us.length
    · have hb := getD_le_c hc k
      have hbig : k * 2 ^ 11 ≤ 2 ^ 21 * 2 ^ 11 := Nat.mul_le_mul_right _ hk
      obtain ⟨k', a', hn'⟩ := ih (k + 1) (a + ((ts.getD k .leaf).c + 1)) (cur ++ [growT us (ts.getD k .leaf) a]) (by omega) (by omega) (by simp; omega) (by rw [Nat.add_mul]; omega) (by omega)
      have ew : IntKind.wrap .i64 ((a : Int) + (((ts.getD k .leaf).c + 1 : Nat) : Int)) = ((a + ((ts.getD k .leaf).c + 1) : Nat) : Int) := by rw [w64] <;> omega
      rw [stk, if_pos h]
      rw [List.append_assoc, List.singleton_append, ← wrap_succ (by omega), ← ew] at hn'
      have ht := ftree_SC ts k
      have hg := grown_SC us (ts.getD k .leaf) a (by omega) (by omega)
      have hl := leaves_SC (ts.getD k .leaf) (by omega)
      by_cases hk1 : k < ts.length
      · exact ⟨k', a', impl_forest_stack_L0a_i1 _ _ _ _ _ _ _ _ (by omega) ht hg (sizeOK_one (by omega)) hl hn'⟩
      · exact ⟨k', a', impl_forest_stack_L0a_i2 _ _ _ _ _ _ _ _ (by omega) (by omega) ht hg (sizeOK_one (by omega)) hl hn'⟩
    · rw [stk, if_neg h, List.append_nil]
      exact ⟨_, _, impl_forest_stack_L0a_x3 _ _ _ _ _ (by omega) (by omega)⟩

theorem stack_SC (ts us : List Tr) (h1 : ts.length ≤ 2 ^ 19) (h2 : us.length ≤ 2 ^ 19) (hc : ∀ t ∈ ts, t.c ≤ 2 ^ 10) : SC cfg.P i_impl_forest_stack [.s (.v (.sl .tree) ts), .s (.v (.sl .tree) us)] (.s (.own t_pimpl_node .tree (stackL ts us))) [] := by
  obtain ⟨k', a', hL⟩ := stack_L ts us (by omega) (by omega) hc (ts.length + us.length) 0 0 [] (by omega) (by omega) (by simp) (by omega) (by omega)
  rw [List.nil_append] at hL
  exact impl_forest_stack_p1 _ _ _ _ _ _ _ _ hL

/-! ### The reference's side: texts in place of points -/

end Go.AI
