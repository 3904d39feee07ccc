/- A tree in the place of a leaf. -/
import Derived.Test.YtpfaelacdnmeaaaCT
import Derived.Test.YtpfaelacdnmeaaaCU
set_option autoImplicit false
set_option maxRecDepth 100000
set_option linter.unusedVariables false
namespace Go.AI
open Go.Proofs

def grf : Tr → Nat → Tr → Tr
  | .leaf, _, u => u
  | .node l r, k, u => if k ≤ l.c then .node (grf l k u) r else .node l (grf r (k - (l.c + 1)) u)

theorem grf_c : ∀ (t : Tr) (k : Nat) (u : Tr), k ≤ t.c → (grf t k u).c = t.c + u.c
  | .leaf, k, u, h => by simp [grf, Tr.c]
  | .node l r, k, u, h => by
    simp only [Tr.c] at h
    rw [grf]
    split
    · rename_i h1
      have := grf_c l k u h1
      simp only [Tr.c]; omega
    · have := grf_c r (k - (l.c + 1)) u (by omega)
      simp only [Tr.c]; omega

theorem count46 : ∀ t : Tr, (txt t).count 46 = t.c + 1
  | .leaf => rfl
  | .node l r => by
    have h1 := count46 l
    have h2 := count46 r
    simp only [txt, List.count_cons, List.count_append, h1, h2, Tr.c]
    simp
    omega

theorem grf_txt : ∀ (t : Tr) (k : Nat) (u : Tr), k ≤ t.c → ∃ pre post, txt t = pre ++ 46 :: post ∧ pre.count 46 = k ∧ txt (grf t k u) = pre ++ txt u ++ post
  | .leaf, k, u, h => ⟨[], [], rfl, by simp [Tr.c] at h; simp [h], by simp [grf]⟩
  | .node l r, k, u, h => by
    simp only [Tr.c] at h
    rw [grf]
    split
    · rename_i h1
      obtain ⟨pre, post, e1, e2, e3⟩ := grf_txt l k u h1
      refine ⟨40 :: pre, post ++ txt r ++ [41], by simp [txt, e1], by rw [List.count_cons, e2]; simp, by simp [txt, e3]⟩
    · obtain ⟨pre, post, e1, e2, e3⟩ := grf_txt r (k - (l.c + 1)) u (by omega)
      refine ⟨40 :: (txt l ++ pre), post ++ [41], by simp [txt, e1], ?_, by simp [txt, e3]⟩
      rw [List.count_cons, List.count_append, e2, count46]; simp; omega

end Go.AI
