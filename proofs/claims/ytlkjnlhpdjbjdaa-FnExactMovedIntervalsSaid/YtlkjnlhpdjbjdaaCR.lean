/- Contracts: exposed carets, dropped carets, what both trees have. -/
import Derived.Test.YtlkjnlhpdjbjdaaGR
import Derived.Test.YtlkjnlhpdjbjdaaCT
set_option autoImplicit false
set_option maxRecDepth 100000
set_option linter.unusedVariables false
namespace Go.AI
open Go.Proofs

/-- The left leaves of the exposed carets. -/
def exL : Tr → Nat → List Nat
  | .leaf, _ => []
  | .node l r, k => if l.isLeaf = true ∧ r.isLeaf = true then [k] else exL l k ++ exL r (k + l.c + 1)

/-- A tree without an exposed caret. -/
def wo : Tr → Nat → Tr
  | .leaf, _ => .leaf
  | .node l r, k => if l.isLeaf = true ∧ r.isLeaf = true then .leaf else if l.c + 1 ≤ k then .node l (wo r (k - (l.c + 1))) else .node (wo l k) r

theorem exL_node (l r : Tr) (k : Nat) : exL (.node l r) k = if l.isLeaf = true ∧ r.isLeaf = true then [k] else exL l k ++ exL r (k + l.c + 1) := rfl

theorem wo_node (l r : Tr) (k : Nat) : wo (.node l r) k = if l.isLeaf = true ∧ r.isLeaf = true then .leaf else if l.c + 1 ≤ k then .node l (wo r (k - (l.c + 1))) else .node (wo l k) r := rfl

theorem exL_range : ∀ (t : Tr) (k x : Nat), x ∈ exL t k → k ≤ x ∧ x < k + t.c
  | .leaf, _, _, h => by simp [exL] at h
  | .node l r, k, x, h => by
    simp only [exL] at h
    simp only [Tr.c]
    split at h
    · simp at h; omega
    · rcases List.mem_append.1 h with h | h
      · have := exL_range l k x h; omega
      · have := exL_range r _ x h; omega

theorem exL_shift : ∀ (t : Tr) (k d : Nat), exL t (k + d) = (exL t k).map (· + d)
  | .leaf, _, _ => rfl
  | .node l r, k, d => by
    simp only [exL]
    split
    · rfl
    · rw [exL_shift l k d, show k + d + l.c + 1 = (k + l.c + 1) + d by omega, exL_shift r _ d, List.map_append]

theorem exL_len : ∀ (t : Tr) (k : Nat), (exL t k).length ≤ t.c
  | .leaf, _ => Nat.le_refl _
  | .node l r, k => by
    simp only [exL, Tr.c]
    split
    · simp; omega
    · rw [List.length_append]
      have := exL_len l k
      have := exL_len r (k + l.c + 1)
      omega

abbrev ints (l : List Nat) : List Int := l.map fun n : Nat => (n : Int)

theorem zokI (l m : List Int) (h : l.length + m.length ≤ 2 ^ 40) : sizeOK (List.length l + List.length m) := h

theorem wo_c : ∀ (t : Tr) (k : Nat), k ∈ exL t 0 → (wo t k).c + 1 = t.c
  | .leaf, k, h => by simp [exL] at h
  | .node l r, k, h => by
    rw [exL_node] at h
    rw [wo_node]
    split
    · rename_i hl
      cases l <;> cases r <;> simp_all [Tr.isLeaf, Tr.c]
    · rename_i hl
      rw [if_neg hl] at h
      rcases List.mem_append.1 h with h | h
      · have hr := exL_range _ _ _ h
        have := wo_c l k h
        rw [if_neg (by omega)]
        simp only [Tr.c]; omega
      · have hr := exL_range _ _ _ h
        have hm : k - (l.c + 1) ∈ exL r 0 := by
          have e := exL_shift r 0 (0 + l.c + 1)
          rw [Nat.zero_add] at e
          rw [e] at h
          obtain ⟨y, hy, rfl⟩ := List.mem_map.1 h
          have e2 : y + (0 + l.c + 1) - (l.c + 1) = y := by omega
          rw [e2]
          exact hy
        have := wo_c r _ hm
        rw [if_pos (by omega)]
        simp only [Tr.c]; omega

/-! ### Search -/

/-! ### What both trees have exposed -/

def bothL (p : Tr × Tr) : List Nat := (exL p.1 0).filter fun k => (exL p.2 0).contains k

theorem bothL_mem {p : Tr × Tr} {k : Nat} (h : k ∈ bothL p) : k ∈ exL p.1 0 ∧ k ∈ exL p.2 0 := by
  simp only [bothL, List.mem_filter, List.contains_iff_mem] at h
  exact h

/-- The reduced pair: the first common exposed caret is dropped, again and again. -/
def red : Nat → Tr × Tr → Tr × Tr
  | 0, p => p
  | n + 1, p => match bothL p with
    | [] => p
    | k :: _ => red n (wo p.1 k, wo p.2 k)

end Go.AI
