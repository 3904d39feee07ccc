/- The draws of pairs. -/
import Derived.Test.YtdfllkeekehplaaJF
import Derived.Test.YtdfllkeekehplaaCE
import Derived.Test.YtdfllkeekehplaaGX
set_option autoImplicit false
set_option maxRecDepth 100000
set_option linter.unusedVariables false
namespace Go.AI
open Go.Proofs

def combN : Nat → Tr → Tr
  | 0, t => t
  | n + 1, t => combN n (.node .leaf t)

theorem combN_c : ∀ (n : Nat) (t : Tr), (combN n t).c = t.c + n
  | 0, t => rfl
  | n + 1, t => by rw [combN, combN_c n]; simp only [Tr.c]; omega

theorem trRight_SC (k : Nat) (hk : k ≤ 100) : SC cfg.P i_spec_trRight [.s (.v (.int .i64) (k : Int))] (.s (.v .str (bs (txt (combN k .leaf))))) [] := by
  have key : ∀ (m : Nat) (t : Tr), m ≤ 100 → t.c ≤ 2 ^ 20 - m → LoopSC cfg.P 1 (lb P_spec_trRight 0) (spec_trRight_L0a (m : Int) (bs (txt t))) (.exit 0) (spec_trRight_L0X1 0 (bs (txt (combN m t))) false) := by
    intro m
    induction m with
    | zero => exact fun t _ _ => spec_trRight_L0a_x2 _ _ (by omega)
    | succ m ih =>
      intro t hm ht
      have e : IntKind.wrap .i64 (((m + 1 : Nat) : Int) - 1) = (m : Int) := by rw [w64] <;> omega
      have n1 := ih (.node .leaf t) (by omega) (by simp only [Tr.c]; omega)
      rw [← e] at n1
      exact spec_trRight_L0a_i1 _ _ _ (by omega) (trOf_SC .leaf t (by simp only [Tr.c]; omega) (by omega)) n1
  exact spec_trRight_p1 _ _ _ _ (key k .leaf hk (by simp only [Tr.c]; omega))

theorem prGenerator_SC (k : Nat) (hk : k ≤ 20) : ∃ p : Tr × Tr, p.1.c = k + 2 ∧ p.2.c = k + 2 ∧ SC cfg.P i_spec_prGenerator [.s (.v (.int .i64) (k : Int))] (.s (.v (.pr .str .str) (pt p))) [] := by
  have h1 := trRight_SC k (by omega)
  have c1 := combN_c k .leaf
  have c2 := combN_c (k + 2) .leaf
  have z : Tr.leaf.c = 0 := rfl
  have h2 := trGraft_SC (combN k .leaf) k (.node (.node .leaf .leaf) .leaf) (by omega) (by omega) (by decide)
  have e : IntKind.wrap .i64 ((k : Int) + 2) = ((k + 2 : Nat) : Int) := by rw [w64] <;> omega
  have h3 := trRight_SC (k + 2) (by omega)
  rw [← e] at h3
  refine ⟨(grf (combN k .leaf) k (.node (.node .leaf .leaf) .leaf), combN (k + 2) .leaf), ?_, ?_, spec_prGenerator_p1 _ _ _ _ h1 h2 h3⟩
  · show (grf (combN k .leaf) k (.node (.node .leaf .leaf) .leaf)).c = _
    rw [grf_c _ _ _ (by omega), c1]; simp only [Tr.c]; omega
  · show (combN (k + 2) .leaf).c = _
    rw [c2]; omega

theorem surePair_SC {n : Nat} {c : Cur} (h : CurOk n c) (k : Nat) (hk : k ≤ 2 ^ 9) (hn : n + 4 * k ≤ 2 ^ 40) : ∃ (p : Tr × Tr) (c' : Cur), p.1.c = k ∧ p.2.c = k ∧ CurOk (n + 4 * k) c' ∧ SC cfg.P i_spec_l1Cur_surePair [.s (.mbx CurK c), .s (.v (.int .i64) (k : Int))] (.s (.v (.pr .str .str) (pt p))) [.box CurK c'] := by
  obtain ⟨t, c1, h1, h2, s1⟩ := sureTree_SC h k (by omega) (by omega)
  obtain ⟨u, c2, h3, h4, s2⟩ := sureTree_SC h2 k (by omega) (by omega)
  exact ⟨(t, u), c2, h1, h3, h4.mono (by omega), spec_l1Cur_surePair_p1 _ _ _ _ _ _ s1 s2⟩

theorem pt_size (p : Tr × Tr) (b : Nat) (h1 : p.1.c ≤ b) (h2 : p.2.c ≤ b) : (pt p).1.size ≤ 3 * b + 1 ∧ (pt p).2.size ≤ 3 * b + 1 := by
  have l1 := txt_len p.1
  have l2 := txt_len p.2
  refine ⟨?_, ?_⟩
  · show (bs (txt p.1)).size ≤ _; rw [bs_size]; omega
  · show (bs (txt p.2)).size ≤ _; rw [bs_size]; omega

theorem pair_SC {n : Nat} {c : Cur} (h : CurOk n c) (hn : n ≤ 2 ^ 29) (most : Nat) (hm : most ≤ 10) : ∃ (a b : ByteArray) (c' : Cur), a.size ≤ 2 ^ 11 ∧ b.size ≤ 2 ^ 11 ∧ CurOk (n + 2000) c' ∧
    SC cfg.P i_spec_l1Cur_pair [.s (.mbx CurK c), .s (.v (.int .i64) (most : Int))] (.s (.v (.pr .str .str) (a, b))) [.box CurK c'] := by
  have e1 : IntKind.wrap .i64 ((most : Int) + 1) = ((most + 1 : Nat) : Int) := by rw [w64] <;> omega
  obtain ⟨r, c1, hr, h1, s1⟩ := pick_SC h (by omega) ((most + 1 : Nat) : Int) (by omega)
  rw [← e1] at s1
  have hr2 : r ≤ most := by omega
  obtain ⟨p, c2, p1, p2, h2, s2⟩ := surePair_SC h1 r (by omega) (by omega)
  obtain ⟨q1, q2⟩ := pt_size p 10 (by omega) (by omega)
  obtain ⟨k, c3, hk, h3, s3⟩ := pick_SC h2 (by omega) 14 (by omega)
  by_cases k0 : k = 0
  · obtain ⟨t, c4, ht, h4, s4⟩ := tree_SC h3 (by omega) most (by omega)
    exact ⟨(pt p).1, t, c4, by omega, by omega, h4.mono (by omega), spec_l1Cur_pair_p1 _ _ _ _ _ _ _ _ _ _ s1 s2 s3 (by omega) s4⟩
  · by_cases k1 : k = 1
    · obtain ⟨t, c4, ht, h4, s4⟩ := spoilt_SC h3 (by omega) (pt p).1 (⟨#[40, 46, 41]⟩ : ByteArray) (by omega) (by decide) (by decide)
      exact ⟨t, (pt p).2, c4, by omega, by omega, h4.mono (by omega), spec_l1Cur_pair_p2 _ _ _ _ _ _ _ _ _ _ s1 s2 s3 (by omega) (by omega) s4⟩
    · by_cases k2 : k = 2
      · obtain ⟨x, c4, hx, h4, s4⟩ := pick_SC h3 (by omega) 2 (by omega)
        have e2 : IntKind.wrap .i64 (8 + (x : Int)) = ((8 + x : Nat) : Int) := by rw [w64] <;> omega
        obtain ⟨p', c5, p3, p4, h5, s5⟩ := surePair_SC h4 (8 + x) (by omega) (by omega)
        obtain ⟨q3, q4⟩ := pt_size p' 10 (by omega) (by omega)
        rw [← e2] at s5
        exact ⟨(pt p').1, (pt p').2, c5, by omega, by omega, h5.mono (by omega), spec_l1Cur_pair_p3 _ _ _ _ _ _ _ _ _ _ _ _ s1 s2 s3 (by omega) (by omega) (by omega) s4 s5⟩
      · by_cases k3 : k = 3
        · obtain ⟨x, c4, hx, h4, s4⟩ := pick_SC h3 (by omega) 4 (by omega)
          obtain ⟨p', p3, p4, s5⟩ := prGenerator_SC x (by omega)
          obtain ⟨q3, q4⟩ := pt_size p' 10 (by omega) (by omega)
          exact ⟨(pt p').1, (pt p').2, c4, by omega, by omega, h4.mono (by omega), spec_l1Cur_pair_p4 _ _ _ _ _ _ _ _ _ _ _ s1 s2 s3 (by omega) (by omega) (by omega) (by omega) s4 s5⟩
        · exact ⟨(pt p).1, (pt p).2, c3, by omega, by omega, h3.mono (by omega), spec_l1Cur_pair_p5 _ _ _ _ _ _ _ _ s1 s2 s3 (by omega) (by omega) (by omega) (by omega)⟩


end Go.AI
