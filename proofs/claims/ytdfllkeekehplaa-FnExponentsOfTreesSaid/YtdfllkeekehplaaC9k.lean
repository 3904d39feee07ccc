/- Forests of words. -/
import Derived.Test.YtdfllkeekehplaaCWk
set_option autoImplicit false
set_option maxRecDepth 100000
set_option linter.unusedVariables false
namespace Go.AI
open Go.Proofs

/-! ### Forests but for leaves at the end -/

theorem trim_getD : ∀ (ts : List Tr) (i : Nat), (trim ts).getD i .leaf = ts.getD i .leaf := by
  intro ts i
  obtain ⟨r, e, h⟩ := trim_prefix ts
  by_cases hi : i < (trim ts).length
  · conv => rhs; rw [e]
    rw [List.getD_eq_getElem?_getD, List.getD_eq_getElem?_getD, List.getElem?_append_left hi]
  · have e1 : (trim ts).getD i .leaf = .leaf := by rw [List.getD_eq_getElem?_getD, List.getElem?_eq_none (by omega)]; rfl
    rw [e1]
    by_cases hj : i < ts.length
    · have hm : ts.getD i .leaf ∈ r := by
        have hl := congrArg List.length e
        rw [List.length_append] at hl
        have e2 : ts.getD i .leaf = r.getD (i - (trim ts).length) .leaf := by
          conv => lhs; rw [e]
          rw [List.getD_eq_getElem?_getD, List.getElem?_append_right (by omega), ← List.getD_eq_getElem?_getD]
        rw [e2]
        exact gD_mem (by omega) _
      have := h _ hm
      cases hx : ts.getD i .leaf with
      | leaf => rfl
      | node a b => rw [hx] at this; simp [Tr.isLeaf] at this
    · rw [List.getD_eq_getElem?_getD, List.getElem?_eq_none (by omega)]; rfl

theorem trim_last (ts : List Tr) (h : trim ts = ts) (i : Nat) (hi : i + 1 = ts.length) : (ts.getD i .leaf).isLeaf = false := by
  obtain ⟨m, x, rfl⟩ := snoc_ex ts (by intro e; subst e; simp at hi)
  have hm : m.length = i := by simpa using hi.symm
  have h2 := congrArg List.length h
  rw [List.length_append, List.length_singleton, trim_full] at h2
  rw [← hm, getD_last]
  exact h2

theorem trim_ext : ∀ (a b : List Tr), (∀ i, a.getD i .leaf = b.getD i .leaf) → trim a = trim b := by
  have key : ∀ (a b : List Tr), trim a = a → trim b = b → (∀ i, a.getD i .leaf = b.getD i .leaf) → a.length ≤ b.length := by
    intro a b ha hb h
    apply Nat.le_of_not_lt
    intro hlt
    have h1 := trim_last a ha (a.length - 1) (by omega)
    rw [h, List.getD_eq_getElem?_getD, List.getElem?_eq_none (by omega)] at h1
    cases h1
  intro a b h
  have h' : ∀ i, (trim a).getD i .leaf = (trim b).getD i .leaf := fun i => by rw [trim_getD, trim_getD, h]
  have l1 := key _ _ (trim_trim a) (trim_trim b) h'
  have l2 := key _ _ (trim_trim b) (trim_trim a) (fun i => (h' i).symm)
  apply List.ext_getElem?
  intro i
  by_cases hi : i < (trim a).length
  · have := h' i
    rw [List.getD_eq_getElem?_getD, List.getD_eq_getElem?_getD, List.getElem?_eq_getElem hi, List.getElem?_eq_getElem (by omega : i < (trim b).length)] at this
    rw [List.getElem?_eq_getElem hi, List.getElem?_eq_getElem (by omega : i < (trim b).length)]
    simpa using this
  · rw [List.getElem?_eq_none (by omega), List.getElem?_eq_none (by omega)]

/-- The number of the first leaf of a root. -/
def offS (ts : List Tr) : Nat → Nat
  | 0 => 0
  | k + 1 => offS ts k + ((ts.getD k .leaf).c + 1)

theorem offS_ext {a b : List Tr} (h : ∀ i, a.getD i .leaf = b.getD i .leaf) : ∀ k, offS a k = offS b k
  | 0 => rfl
  | k + 1 => by rw [offS, offS, offS_ext h k, h]

theorem offS_ge (ts : List Tr) : ∀ k, k ≤ offS ts k
  | 0 => Nat.le_refl _
  | k + 1 => by have := offS_ge ts k; rw [offS]; omega

theorem growT_leaf (us : List Tr) (n : Nat) (h : us.length ≤ n) : growT us .leaf n = .leaf := by
  rw [growT, List.getD_eq_getElem?_getD, List.getElem?_eq_none h]; rfl

theorem stk_get (ts us : List Tr) : ∀ (n k : Nat), (ts.length - k) + (us.length - offS ts k) ≤ n → ∀ i, (stk ts us n k (offS ts k)).getD i .leaf = growT us (ts.getD (k + i) .leaf) (offS ts (k + i)) := by
  intro n
  induction n with
  | zero =>
    intro k hm i
    have h1 := offS_ge ts (k + i)
    have hoff : offS ts k ≤ offS ts (k + i) := by
      clear hm h1
      induction i with
      | zero => exact Nat.le_refl _
      | succ i ih => rw [← Nat.add_assoc, offS]; omega
    have e : ts.getD (k + i) .leaf = .leaf := by rw [List.getD_eq_getElem?_getD, List.getElem?_eq_none (by omega)]; rfl
    rw [stk, e, growT_leaf us _ (by omega)]
    rfl
  | succ n ih =>
    intro k hm i
    rw [stk]
    by_cases h : k < ts.length ∨ offS ts k < us.length
    · rw [if_pos h]
      cases i with
      | zero => rfl
      | succ i =>
        have h2 := ih (k + 1) (by rw [offS]; omega) i
        rw [List.getD_cons_succ, show k + (i + 1) = k + 1 + i by omega, ← h2]
        rfl
    · rw [if_neg h]
      have hoff : offS ts k ≤ offS ts (k + i) := by
        clear hm h ih
        induction i with
        | zero => exact Nat.le_refl _
        | succ i ih => rw [← Nat.add_assoc, offS]; omega
      have e : ts.getD (k + i) .leaf = .leaf := by rw [List.getD_eq_getElem?_getD, List.getElem?_eq_none (by omega)]; rfl
      rw [e, growT_leaf us _ (by omega)]
      rfl

theorem stackL_get (ts us : List Tr) (i : Nat) : (stackL ts us).getD i .leaf = growT us (ts.getD i .leaf) (offS ts i) := by
  have := stk_get ts us (ts.length + us.length) 0 (by simp [offS]) i
  simpa [offS, stackL] using this

/-! ### Letters -/

/-- The forest of a letter. -/
def letF (n : Nat) : List Tr := List.replicate n .leaf ++ [.node .leaf .leaf]

theorem letF_len (n : Nat) : (letF n).length = n + 1 := by simp [letF]

theorem letF_get (n j : Nat) : ((letF n).getD j .leaf).c = if j = n then 1 else 0 := by
  by_cases h : j < n
  · rw [if_neg (by omega), List.getD_eq_getElem?_getD, letF, List.getElem?_append_left (by simpa using h), List.getElem?_replicate, if_pos h]; rfl
  · by_cases h2 : j = n
    · subst h2
      rw [if_pos rfl, List.getD_eq_getElem?_getD, letF, List.getElem?_append_right (by simp)]
      simp [Tr.c]
    · rw [if_neg h2, List.getD_eq_getElem?_getD, List.getElem?_eq_none (by rw [letF_len]; omega)]; rfl

/-- Is the number among m ones from k on? -/
def ind (n k m : Nat) : Nat := if k ≤ n ∧ n < k + m then 1 else 0

theorem ind_le (n k m : Nat) : ind n k m ≤ 1 := by unfold ind; split <;> omega

theorem ind_add (n k m q : Nat) : ind n k (m + q) = ind n k m + ind n (k + m) q := by
  unfold ind
  split <;> split <;> split <;> omega

theorem ind_one (n k : Nat) : ind n k 1 = if k = n then 1 else 0 := by
  unfold ind
  split <;> split <;> omega

theorem growT_letF (n : Nat) : ∀ (t : Tr) (k : Nat), (growT (letF n) t k).c = t.c + ind n k (t.c + 1)
  | .leaf, k => by
    have e : (Tr.leaf).c = 0 := rfl
    rw [growT, letF_get, e, Nat.zero_add, Nat.zero_add, ind_one]
  | .node a b, k => by
    have h1 := growT_letF n a k
    have h2 := growT_letF n b (k + (a.c + 1))
    have e : ∀ x y : Tr, (Tr.node x y).c = 1 + x.c + y.c := fun _ _ => rfl
    rw [growT, e, e, h1, h2, show 1 + a.c + b.c + 1 = (a.c + 1) + (b.c + 1) by omega, ind_add n k (a.c + 1) (b.c + 1)]
    omega

theorem stk_letF (ts : List Tr) (n b : Nat) (h : ∀ t ∈ ts, t.c ≤ b) : ∀ m k a, ∀ t ∈ stk ts (letF n) m k a, t.c ≤ b + 1
  | 0, _, _, t, ht => by cases ht
  | m + 1, k, a, t, ht => by
    rw [stk] at ht
    split at ht
    · rcases List.mem_cons.1 ht with rfl | ht
      · have h1 := growT_letF n (ts.getD k .leaf) a
        have h2 := getD_le_c h k
        have h3 := ind_le n a ((ts.getD k .leaf).c + 1)
        omega
      · exact stk_letF ts n b h m _ _ t ht
    · cases ht

end Go.AI
