/- Leaves and their places. -/
import Derived.Test.YtlhkdglakjkpiaaCI
set_option autoImplicit false
set_option maxRecDepth 100000
set_option linter.unusedVariables false
namespace Go.AI
open Go.Proofs

theorem getD_zip {α β γ : Type} (g : α → β → γ) (l : List α) (m : List β) (i : Nat) (h1 : i < l.length) (h2 : i < m.length) (a : α) (b : β) (d : γ) :
    List.getD (List.zipWith g l m) i d = g (l.getD i a) (m.getD i b) := by
  simp [List.getD_eq_getElem?_getD, List.getElem?_zipWith, List.getElem?_eq_getElem h1, List.getElem?_eq_getElem h2]

theorem getD_mem {α : Type} {l : List α} {i : Nat} (h : i < l.length) (d : α) : l.getD i d ∈ l := by
  rw [List.getD_eq_getElem?_getD, List.getElem?_eq_getElem h]; exact List.getElem_mem h

theorem getD_mapN {α β : Type} (f : α → β) (l : List α) (i : Nat) (h : i < l.length) (a : α) (d : β) : List.getD (l.map f) i d = f (l.getD i a) := by
  simp [List.getD_eq_getElem?_getD, List.getElem?_map, List.getElem?_eq_getElem h]

theorem lf_bound : ∀ (l : List (Nat × Nat)) (x i : Nat), l ≠ [] → i ≤ lf l x i ∧ lf l x i < i + l.length
  | [], _, _, h => absurd rfl h
  | (s, e) :: r, x, i, _ => by
    simp only [lf, List.length_cons]
    split
    · omega
    · cases r with
      | nil => simp [lf]
      | cons y r' => have := lf_bound (y :: r') x (i + 1) (by simp); simp only [List.length_cons] at this ⊢; omega

theorem leafAt_lt (t : Tr) (x : Nat) : leafAt t x < t.c + 1 := by
  have h := lf_bound ((adL t []).map iv) x 0 (by
    intro e
    have := congrArg List.length e
    simp [adL_len] at this)
  simp only [List.length_map, adL_len, Nat.zero_add] at h
  exact h.2

theorem ad_get_len (t : Tr) (k : Nat) (h : k < t.c + 1) : ((adL t []).getD k []).length ≤ t.c :=
  (adL_ok (Nat.le_refl _) _ (getD_mem (by rw [adL_len]; omega) [])).1

end Go.AI
