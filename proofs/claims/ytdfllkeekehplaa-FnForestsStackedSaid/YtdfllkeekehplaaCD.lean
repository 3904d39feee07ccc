/- Contracts: pairs. -/
import Derived.Test.YtdfllkeekehplaaCX
set_option autoImplicit false
set_option maxRecDepth 100000
set_option linter.unusedVariables false
namespace Go.AI
open Go.Proofs

abbrev pt (p : Tr × Tr) : ByteArray × ByteArray := (bs (txt p.1), bs (txt p.2))

def isPair (a b : List UInt8) : Bool := isTree a && isTree b && ((treeOf a).c == (treeOf b).c)

theorem pairOf_SC (a b : List UInt8) (ha : a.length ≤ 2 ^ 40) (hb : b.length ≤ 2 ^ 40) : SC cfg.P i_impl_pairOf [.s (.v (.pr .str .str) (bs a, bs b))] (.tup [.v (.pr .tree .tree) (treeOf a, treeOf b), .v .bool (isPair a b)]) [] := by
  have h1 := parse_SC a ha
  have h2 := parse_SC b hb
  unfold isPair
  cases t1 : isTree a with
  | false =>
    rw [t1] at h1
    exact impl_pairOf_p4 _ _ _ _ h1 h2
  | true =>
    rw [t1] at h1
    cases t2 : isTree b with
    | false =>
      rw [t2] at h2
      exact impl_pairOf_p3 _ _ _ h1 h2
    | true =>
      rw [t2] at h2
      have b1 := (treeOf_txt t1).2
      have b2 := (treeOf_txt t2).2
      have k1 := carets_SC (treeOf a) (by omega)
      have k2 := carets_SC (treeOf b) (by omega)
      by_cases hc : (treeOf a).c = (treeOf b).c
      · have : (true && true && ((treeOf a).c == (treeOf b).c)) = true := by simp [hc]
        rw [this]
        exact impl_pairOf_p1 _ _ _ _ _ h1 h2 k1 k2 (by omega)
      · have : (true && true && ((treeOf a).c == (treeOf b).c)) = false := by simp [hc]
        rw [this]
        exact impl_pairOf_p2 _ _ _ _ _ h1 h2 k1 k2 (by omega)

theorem isPair_trees {a b : List UInt8} (h : isPair a b = true) : a = txt (treeOf a) ∧ b = txt (treeOf b) ∧ (treeOf a).c ≤ 8 ∧ (treeOf b).c ≤ 8 ∧ (treeOf a).c = (treeOf b).c := by
  simp only [isPair, Bool.and_eq_true, beq_iff_eq] at h
  obtain ⟨⟨h1, h2⟩, h3⟩ := h
  have a1 := treeOf_txt h1
  have a2 := treeOf_txt h2
  exact ⟨a1.1, a2.1, a1.2, a2.2, h3⟩

theorem red_c : ∀ (n : Nat) (p : Tr × Tr), (red n p).1.c ≤ p.1.c ∧ (red n p).2.c ≤ p.2.c
  | 0, p => ⟨Nat.le_refl _, Nat.le_refl _⟩
  | n + 1, p => by
    simp only [red]
    split
    · exact ⟨Nat.le_refl _, Nat.le_refl _⟩
    · rename_i k ks hB
      have hmem : k ∈ bothL p := by rw [hB]; exact List.mem_cons_self
      have c1 := wo_c p.1 k (bothL_mem hmem).1
      have c2 := wo_c p.2 k (bothL_mem hmem).2
      have := red_c n (wo p.1 k, wo p.2 k)
      simp only at this
      omega

end Go.AI
