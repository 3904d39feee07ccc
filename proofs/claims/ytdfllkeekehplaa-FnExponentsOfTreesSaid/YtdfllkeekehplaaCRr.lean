/- Contracts: reduced pairs. -/
import Derived.Test.YtdfllkeekehplaaCR
import Derived.Test.YtdfllkeekehplaaGN
set_option autoImplicit false
set_option maxRecDepth 100000
set_option linter.unusedVariables false
namespace Go.AI
open Go.Proofs

theorem red_L : ∀ (n : Nat) (p z : Tr × Tr), p.1.c ≤ n → p.1.c ≤ 2 ^ 20 → p.2.c ≤ 2 ^ 20 → LoopSC cfg.P 1 (lb P_impl_pair_reduced 0) (impl_pair_reduced_L0a p z) .ret (impl_pair_reduced_L0X1 (red n p)) := by
  intro n
  induction n with
  | zero =>
    intro p z hn h1 h2
    have hb := both_SC p h1 h2
    have hl : p.1 = .leaf := by
      cases hp : p.1 with
      | leaf => rfl
      | node l r => rw [hp] at hn; simp only [Tr.c] at hn; omega
    have e : bothL p = [] := by simp [bothL, hl, exL]
    rw [e] at hb
    exact impl_pair_reduced_L0a_x1 _ _ _ hb rfl
  | succ n ih =>
    intro p z hn h1 h2
    have hb := both_SC p h1 h2
    cases hB : bothL p with
    | nil =>
      rw [hB] at hb
      have e : red (n + 1) p = p := by simp only [red, hB]
      rw [e]
      exact impl_pair_reduced_L0a_x1 _ _ _ hb rfl
    | cons k ks =>
      have hmem : k ∈ bothL p := by rw [hB]; exact List.mem_cons_self
      have hd := drop_SC p k h1 h2 hmem
      have c1 := wo_c p.1 k (bothL_mem hmem).1
      have c2 := wo_c p.2 k (bothL_mem hmem).2
      have e : red (n + 1) p = red n (wo p.1 k, wo p.2 k) := by simp only [red, hB]
      rw [e]
      rw [hB] at hb
      have hn' := ih (wo p.1 k, wo p.2 k) z (by simp only; omega) (by simp only; omega) (by simp only; omega)
      exact impl_pair_reduced_L0a_i2 _ _ _ _ hb (by simp <;> omega) (by simp <;> omega) (by simp) hd hn'

theorem reduced_SC (p : Tr × Tr) (h1 : p.1.c ≤ 2 ^ 20) (h2 : p.2.c ≤ 2 ^ 20) : SC cfg.P i_impl_pair_reduced [.s (.v (.pr .tree .tree) p)] (.s (.v (.pr .tree .tree) (red p.1.c p))) [] :=
  impl_pair_reduced_p1 _ _ (red_L _ p _ (Nat.le_refl _) h1 h2)

end Go.AI
