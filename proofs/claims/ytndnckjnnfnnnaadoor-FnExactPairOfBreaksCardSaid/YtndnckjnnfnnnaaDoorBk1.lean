/- Contracts: lengths without a common divisor, scaled lengths. -/
import Derived.Test.YtndnckjnnfnnnaaDoorJA
import Derived.Test.YtndnckjnnfnnnaaDoorJC
import Derived.Test.YtndnckjnnfnnnaaDoorGY
import Derived.Test.YtndnckjnnfnnnaaDoorGM
set_option autoImplicit false
set_option maxRecDepth 100000
set_option linter.unusedVariables false
namespace Go.AI
open Go.Proofs

theorem lowest_L (x y : Int) : ∀ (m n k : Nat), m ≤ k → n ≤ 2 ^ 60 → m ≤ 2 ^ 60 → LoopSC cfg.P 2 (lb P_impl_lowest 0) (impl_lowest_L0a x y (n : Int) (m : Int)) (.exit 0) (impl_lowest_L0X1 x y (Nat.gcd n m : Int) (0 : Int) false) := by
  intro m n k
  induction k generalizing m n with
  | zero =>
    intro hm _ _
    have : m = 0 := by omega
    subst this
    rw [Nat.gcd_zero_right]
    exact impl_lowest_L0a_x2 _ _ _ _ (by decide)
  | succ k ih =>
    intro hm hn hm2
    by_cases h0 : m = 0
    · subst h0
      rw [Nat.gcd_zero_right]
      exact impl_lowest_L0a_x2 _ _ _ _ (by decide)
    · have hlt : n % m < m := Nat.mod_lt _ (by omega)
      have i := ih (n % m) m (by omega) hm2 (by omega)
      have e : Int.tmod (n : Int) (m : Int) = ((n % m : Nat) : Int) := by rw [Int.ofNat_tmod]
      rw [← e, show Nat.gcd m (n % m) = Nat.gcd n m from by rw [Nat.gcd_comm n m, Nat.gcd_rec m n, Nat.gcd_comm]] at i
      exact impl_lowest_L0a_i1 _ _ _ _ (by omega) (by omega) i

theorem lowest_SC (a b : Nat) (ha : 0 < a) (hb : 0 < b) (ha2 : a ≤ 2 ^ 50) (hb2 : b ≤ 2 ^ 50) : SC cfg.P i_impl_lowest [.s (.v (.int .i64) (a : Int)), .s (.v (.int .i64) (b : Int))] (.tup [.v (.int .i64) ((a / Nat.gcd a b : Nat) : Int), .v (.int .i64) ((b / Nat.gcd a b : Nat) : Int)]) [] := by
  have hg := Nat.gcd_pos_of_pos_left b ha
  have := impl_lowest_p1 _ _ _ _ _ _ _ (lowest_L (a : Int) (b : Int) b a b (Nat.le_refl _) (by omega) (by omega)) (by omega)
  have l1 : a / Nat.gcd a b ≤ a := Nat.div_le_self _ _
  have l2 : b / Nat.gcd a b ≤ b := Nat.div_le_self _ _
  have e1 : Int.tdiv (a : Int) (Nat.gcd a b : Int) = ((a / Nat.gcd a b : Nat) : Int) := (Int.ofNat_tdiv _ _).symm
  have e2 : Int.tdiv (b : Int) (Nat.gcd a b : Int) = ((b / Nat.gcd a b : Nat) : Int) := (Int.ofNat_tdiv _ _).symm
  rw [e1, e2] at this
  generalize a / Nat.gcd a b = p at *
  generalize b / Nat.gcd a b = q at *
  rw [w64 (by omega) (by omega), w64 (by omega) (by omega)] at this
  exact this

theorem scaled_SC (n up down : Nat) (hu : 0 < up) (hd : 0 < down) (hu2 : up ≤ 2 ^ 50) (hd2 : down ≤ 2 ^ 50) (hn : n ≤ 2 ^ 50) (hb : n / (down / Nat.gcd up down) * (up / Nat.gcd up down) ≤ 2 ^ 60) :
    SC cfg.P i_impl_scaled [.s (.v (.int .i64) (n : Int)), .s (.v (.int .i64) (up : Int)), .s (.v (.int .i64) (down : Int))] (.s (.v (.int .i64) ((n / (down / Nat.gcd up down) * (up / Nat.gcd up down) : Nat) : Int))) [] := by
  have hg := Nat.gcd_pos_of_pos_left down hu
  have h1 : 0 < down / Nat.gcd up down := Nat.div_pos (Nat.le_of_dvd hd (Nat.gcd_dvd_right _ _)) hg
  have := impl_scaled_p1 (n : Int) _ _ _ _ (lowest_SC up down hu hd hu2 hd2) (by omega)
  have e1 : Int.tdiv (n : Int) ((down / Nat.gcd up down : Nat) : Int) = ((n / (down / Nat.gcd up down) : Nat) : Int) := (Int.ofNat_tdiv _ _).symm
  have l1 : n / (down / Nat.gcd up down) ≤ n := Nat.div_le_self _ _
  rw [e1] at this
  generalize n / (down / Nat.gcd up down) = p at *
  generalize up / Nat.gcd up down = q at *
  have e2 : (p : Int) * (q : Int) = ((p * q : Nat) : Int) := (Int.natCast_mul _ _).symm
  rw [w64 (n := (p : Int)) (by omega) (by omega), e2] at this
  generalize p * q = r at *
  rw [w64 (by omega) (by omega)] at this
  exact this

end Go.AI
