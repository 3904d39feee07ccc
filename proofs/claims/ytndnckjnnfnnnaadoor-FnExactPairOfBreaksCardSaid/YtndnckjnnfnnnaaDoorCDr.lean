/- Contracts: pairs reduced by the reference. -/
import Derived.Test.YtndnckjnnfnnnaaDoorJB
import Derived.Test.YtndnckjnnfnnnaaDoorGZ
set_option autoImplicit false
set_option maxRecDepth 100000
set_option linter.unusedVariables false
namespace Go.AI
open Go.Proofs

theorem prReduce_L : ∀ (n : Nat) (p : Tr × Tr) (z : ByteArray × ByteArray) (st : Nat), p.1.c ≤ n → p.1.c ≤ 2 ^ 20 → p.2.c ≤ 2 ^ 20 → st + n ≤ 2 ^ 30 →
    ∃ st' : Nat, LoopSC cfg.P 2 (lb P_spec_prReduce 0) (spec_prReduce_L0b ([] : List Int) (st : Int) (pt p) z (ints (bothL p))) (.exit 0) (spec_prReduce_L0X2 ([] : List Int) (st' : Int) false (pt (red n p)) z (ints (bothL (red n p)))) := by
  intro n
  induction n with
  | zero =>
    intro p z st hn h1 h2 hs
    have hl : p.1 = .leaf := by
      cases hp : p.1 with
      | leaf => rfl
      | node l r => rw [hp] at hn; simp only [Tr.c] at hn; omega
    have e : bothL p = [] := by simp [bothL, hl, exL]
    refine ⟨st, ?_⟩
    show LoopSC cfg.P 2 (lb P_spec_prReduce 0) (spec_prReduce_L0b ([] : List Int) (st : Int) (pt p) z (ints (bothL p))) (.exit 0) (spec_prReduce_L0X2 ([] : List Int) (st : Int) false (pt p) z (ints (bothL p)))
    exact spec_prReduce_L0b_x3 _ _ _ _ _ (by rw [e]; simp)
  | succ n ih =>
    intro p z st hn h1 h2 hs
    cases hB : bothL p with
    | nil =>
      have e : red (n + 1) p = p := by simp only [red, hB]
      rw [e, hB]
      exact ⟨st, spec_prReduce_L0b_x3 _ _ _ _ _ (by simp)⟩
    | cons k ks =>
      have hmem : k ∈ bothL p := by rw [hB]; exact List.mem_cons_self
      have c1 := wo_c p.1 k (bothL_mem hmem).1
      have c2 := wo_c p.2 k (bothL_mem hmem).2
      have e : red (n + 1) p = red n (wo p.1 k, wo p.2 k) := by simp only [red, hB]
      rw [e]
      obtain ⟨st', hn'⟩ := ih (wo p.1 k, wo p.2 k) z (st + 1) (by simp only; omega) (by simp only; omega) (by simp only; omega) (by omega)
      have ew : IntKind.wrap .i64 ((st : Int) + 1) = ((st + 1 : Nat) : Int) := by rw [w64] <;> omega
      rw [← ew] at hn'
      exact ⟨st', spec_prReduce_L0b_i2 _ _ _ _ _ _ _ _ (by simp <;> omega) (by simp) (by simp <;> omega) (by simp) (trDrop_SC p.1 k h1 (bothL_mem hmem).1) (trDrop_SC p.2 k h2 (bothL_mem hmem).2) (prBoth_SC (wo p.1 k, wo p.2 k) (by simp only; omega) (by simp only; omega)) hn'⟩

theorem prReduce_SC (p : Tr × Tr) (h1 : p.1.c ≤ 2 ^ 20) (h2 : p.2.c ≤ 2 ^ 20) : SC cfg.P i_spec_prReduce [.s (.v (.pr .str .str) (pt p)), .s (.v (.sl (.int .i64)) ([] : List Int))] (.s (.v (.pr .str .str) (pt (red p.1.c p)))) [] := by
  have hb := prBoth_SC p h1 h2
  cases hB : bothL p with
  | nil =>
    have e : red p.1.c p = p := by
      cases p.1.c with
      | zero => rfl
      | succ n => simp only [red, hB]
    rw [e]
    rw [hB] at hb
    exact spec_prReduce_p1 _ _ _ _ _ _ _ _ _ hb (spec_prReduce_L0a_x3 _ _ _ _ _ (by simp))
  | cons k ks =>
    have hmem : k ∈ bothL p := by rw [hB]; exact List.mem_cons_self
    have c1 := wo_c p.1 k (bothL_mem hmem).1
    have c2 := wo_c p.2 k (bothL_mem hmem).2
    obtain ⟨n, hc⟩ : ∃ n, p.1.c = n + 1 := ⟨(wo p.1 k).c, c1.symm⟩
    have e : red p.1.c p = red n (wo p.1 k, wo p.2 k) := by rw [hc]; simp only [red, hB]
    rw [e]
    rw [hB] at hb
    obtain ⟨st', hn'⟩ := prReduce_L n (wo p.1 k, wo p.2 k) ((⟨#[]⟩ : ByteArray), (⟨#[]⟩ : ByteArray)) 1 (by simp only; omega) (by simp only; omega) (by simp only; omega) (by omega)
    have ew : IntKind.wrap .i64 ((0 : Int) + 1) = ((1 : Nat) : Int) := by rw [w64] <;> omega
    rw [← ew] at hn'
    exact spec_prReduce_p2 _ _ _ _ _ _ _ _ _ hb (spec_prReduce_L0a_i2 _ _ _ _ _ _ _ _ (by simp <;> omega) (by simp) (by simp <;> omega) (by simp) (trDrop_SC p.1 k h1 (bothL_mem hmem).1) (trDrop_SC p.2 k h2 (bothL_mem hmem).2) (prBoth_SC (wo p.1 k, wo p.2 k) (by simp only; omega) (by simp only; omega)) hn')

end Go.AI
