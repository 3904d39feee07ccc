/- Contracts: ratios, and what a piece fixes. -/
import Derived.Test.YtlkjnlhpdjbjdaaGW
import Derived.Test.YtlkjnlhpdjbjdaaCI
set_option autoImplicit false
set_option maxRecDepth 100000
set_option linter.unusedVariables false
namespace Go.AI
open Go.Proofs

abbrev RK : Kd := .pr (.int .i64) (.int .i64)
abbrev Rt : Type := Int × Int

/-- A number in lowest terms. -/
def rt (n : Int) (d : Nat) : Rt := (n / ((Nat.gcd n.natAbs d : Nat) : Int), (d : Int) / ((Nat.gcd n.natAbs d : Nat) : Int))

theorem rgcd_L (x0 x1 : Int) (z : Rt) : ∀ (n a b : Nat), b ≤ n → LoopSC cfg.P 2 (lb P_impl_ratio 0) (impl_ratio_L0a x0 x1 (a : Int) (b : Int) z) (.exit 0) (impl_ratio_L0X1 x0 x1 ((Nat.gcd a b : Nat) : Int) 0 false z) := by
  intro n
  induction n with
  | zero =>
    intro a b hb
    have : b = 0 := by omega
    subst this
    rw [Nat.gcd_zero_right]
    exact impl_ratio_L0a_x2 _ _ _ _ _ (by decide)
  | succ n ih =>
    intro a b hb
    by_cases h : b = 0
    · subst h
      rw [Nat.gcd_zero_right]
      exact impl_ratio_L0a_x2 _ _ _ _ _ (by decide)
    · have hm : a % b < b := Nat.mod_lt _ (by omega)
      have hn := ih b (a % b) (by omega)
      have e : Nat.gcd b (a % b) = Nat.gcd a b := by rw [Nat.gcd_comm b (a % b), ← Nat.gcd_rec, Nat.gcd_comm]
      rw [e] at hn
      exact impl_ratio_L0a_i1 _ _ _ _ _ (by omega) (by omega) hn

theorem maxI_abs (n : Int) (h1 : -2 ^ 62 ≤ n) (h2 : n ≤ 2 ^ 62) : maxI n (IntKind.wrap .i64 (0 - n)) = ((n.natAbs : Nat) : Int) := by
  rw [w64 (by omega) (by omega)]
  unfold maxI
  split <;> omega

theorem tdiv_gcd (n : Int) (d : Nat) (hd : 0 < d) : Int.tdiv n ((Nat.gcd n.natAbs d : Nat) : Int) = n / ((Nat.gcd n.natAbs d : Nat) : Int) := by
  have hg : (0 : Int) < ((Nat.gcd n.natAbs d : Nat) : Int) := by have := Nat.gcd_pos_of_pos_right n.natAbs hd; omega
  obtain ⟨k, hk⟩ : ((Nat.gcd n.natAbs d : Nat) : Int) ∣ n := Int.ofNat_dvd_left.2 (Nat.gcd_dvd_left _ _)
  generalize ((Nat.gcd n.natAbs d : Nat) : Int) = g at hg hk
  rw [hk, Int.mul_tdiv_cancel_left _ (by omega), Int.mul_ediv_cancel_left _ (by omega)]

theorem div_le_abs (n : Int) (g : Int) (hg : 0 < g) : -(n.natAbs : Int) ≤ n / g ∧ n / g ≤ (n.natAbs : Int) := by
  have h1 : n / g * g ≤ n := Int.ediv_mul_le n (by omega)
  have h2 : n < (n / g + 1) * g := Int.lt_ediv_add_one_mul_self n hg
  generalize n / g = q at *
  constructor
  · by_cases h : -(n.natAbs : Int) ≤ q
    · exact h
    · exfalso
      have : (q + 1) * g ≤ (q + 1) * 1 := Int.mul_le_mul_of_nonpos_left (by omega) (by omega)
      omega
  · by_cases h : q ≤ (n.natAbs : Int)
    · exact h
    · exfalso
      have : q * 1 ≤ q * g := Int.mul_le_mul_of_nonneg_left (by omega) (by omega)
      omega

theorem rt_wrap (n : Int) (d : Nat) (h1 : -2 ^ 62 ≤ n) (h2 : n ≤ 2 ^ 62) (hd : 0 < d) (hd2 : d ≤ 2 ^ 62) :
    (IntKind.wrap .i64 (Int.tdiv n ((Nat.gcd n.natAbs d : Nat) : Int)), IntKind.wrap .i64 (Int.tdiv (d : Int) ((Nat.gcd n.natAbs d : Nat) : Int))) = rt n d := by
  have hg : (0 : Int) < ((Nat.gcd n.natAbs d : Nat) : Int) := by have := Nat.gcd_pos_of_pos_right n.natAbs hd; omega
  have e2 : Int.tdiv (d : Int) ((Nat.gcd n.natAbs d : Nat) : Int) = (d : Int) / ((Nat.gcd n.natAbs d : Nat) : Int) := by rw [Int.tdiv_eq_ediv_of_nonneg (by omega)]
  rw [tdiv_gcd n d hd, e2]
  have b1 := div_le_abs n _ hg
  have b2 := div_le_abs (d : Int) _ hg
  unfold rt
  rw [w64 (by omega) (by omega), w64 (by omega) (by omega)]

theorem ratio_SC (n : Int) (d : Nat) (h1 : -2 ^ 62 ≤ n) (h2 : n ≤ 2 ^ 62) (hd : 0 < d) (hd2 : d ≤ 2 ^ 62) :
    SC cfg.P i_impl_ratio [.s (.v (.int .i64) n), .s (.v (.int .i64) (d : Int))] (.s (.v RK (rt n d))) [] := by
  have hg := Nat.gcd_pos_of_pos_right n.natAbs hd
  have hs := impl_size_p1 n
  rw [maxI_abs n h1 h2] at hs
  have := impl_ratio_p1 n (d : Int) _ _ _ _ _ _ _ hs (rgcd_L n (d : Int) (0, 0) d n.natAbs d (Nat.le_refl _)) (by omega)
  rw [rt_wrap n d h1 h2 hd hd2] at this
  exact this

/-- What comes before what, of ratios. -/
def rlt (x y : Rt) : Bool := decide (x.1 * y.2 < y.1 * x.2)

def small (x : Rt) : Prop := -2 ^ 30 ≤ x.1 ∧ x.1 ≤ 2 ^ 30 ∧ 0 < x.2 ∧ x.2 ≤ 2 ^ 30

theorem mul_bd {a b : Int} (h1 : -2 ^ 30 ≤ a) (h2 : a ≤ 2 ^ 30) (h3 : 0 ≤ b) (h4 : b ≤ 2 ^ 30) : -2 ^ 60 ≤ a * b ∧ a * b ≤ 2 ^ 60 := by
  constructor
  · have e1 : -2 ^ 30 * b ≤ a * b := Int.mul_le_mul_of_nonneg_right h1 h3
    omega
  · have e1 : a * b ≤ 2 ^ 30 * b := Int.mul_le_mul_of_nonneg_right h2 h3
    omega

theorem less_SC (x y : Rt) (hx : small x) (hy : small y) : SC cfg.P i_impl_Ratio_less [.s (.v RK x), .s (.v RK y)] (.s (.v .bool (rlt x y))) [] := by
  obtain ⟨a1, a2, a3, a4⟩ := hx
  obtain ⟨b1, b2, b3, b4⟩ := hy
  have m1 := mul_bd a1 a2 (by omega) b4
  have m2 := mul_bd b1 b2 (by omega) a4
  unfold rlt
  by_cases h : x.1 * y.2 < y.1 * x.2
  · rw [decide_eq_true h]
    exact impl_Ratio_less_p1 x y (by rw [w64 (by omega) (by omega), w64 (by omega) (by omega)]; exact h)
  · rw [decide_eq_false h]
    exact impl_Ratio_less_p2 x y (by rw [w64 (by omega) (by omega), w64 (by omega) (by omega)]; exact h)

theorem obLess_SC (x y : Rt) (hx : small x) (hy : small y) : SC cfg.P i_spec_obLess [.s (.v RK x), .s (.v RK y)] (.s (.v .bool (rlt x y))) [] := by
  obtain ⟨a1, a2, a3, a4⟩ := hx
  obtain ⟨b1, b2, b3, b4⟩ := hy
  have m1 := mul_bd a1 a2 (by omega) b4
  have m2 := mul_bd b1 b2 (by omega) a4
  unfold rlt
  by_cases h : x.1 * y.2 < y.1 * x.2
  · rw [decide_eq_true h]
    exact spec_obLess_p1 x y (by rw [w64 (by omega) (by omega), w64 (by omega) (by omega)]; exact h)
  · rw [decide_eq_false h]
    exact spec_obLess_p2 x y (by rw [w64 (by omega) (by omega), w64 (by omega) (by omega)]; exact h)

theorem most_SC (a b : Int) : SC cfg.P i_spec_l1Most [.s (.v (.int .i64) a), .s (.v (.int .i64) b)] (.s (.v (.int .i64) (if a > b then a else b))) [] := by
  by_cases h : a > b
  · rw [if_pos h]; exact spec_l1Most_p1 _ _ h
  · rw [if_neg h]; exact spec_l1Most_p2 _ _ h

theorem abs_SC (n : Int) (h1 : -2 ^ 62 ≤ n) (h2 : n ≤ 2 ^ 62) : SC cfg.P i_spec_l1Abs [.s (.v (.int .i64) n)] (.s (.v (.int .i64) ((n.natAbs : Nat) : Int))) [] := by
  have h := most_SC n (IntKind.wrap .i64 (0 - n))
  have e : (if n > IntKind.wrap .i64 (0 - n) then n else IntKind.wrap .i64 (0 - n)) = ((n.natAbs : Nat) : Int) := by
    rw [w64 (by omega) (by omega)]
    split <;> omega
  rw [e] at h
  exact spec_l1Abs_p1 n _ h

theorem obRatio_SC (n : Int) (d : Nat) (h1 : -2 ^ 40 ≤ n) (h2 : n ≤ 2 ^ 40) (hd : 0 < d) (hd2 : d ≤ 2 ^ 40) :
    SC cfg.P i_spec_obRatio [.s (.v (.int .i64) n), .s (.v (.int .i64) (d : Int))] (.s (.v RK (rt n d))) [] := by
  have hg := Nat.gcd_pos_of_pos_right n.natAbs hd
  have := spec_obRatio_p2 n (d : Int) _ _ (by omega) (abs_SC n (by omega) (by omega)) (gcd_SC n.natAbs d (by omega) hd2) (by omega)
  rw [rt_wrap n d (by omega) (by omega) hd (by omega)] at this
  exact this

theorem obRatio_neg_SC (n : Int) (d : Nat) (h1 : -2 ^ 40 ≤ n) (h2 : n ≤ 2 ^ 40) (hd : 0 < d) (hd2 : d ≤ 2 ^ 40) :
    SC cfg.P i_spec_obRatio [.s (.v (.int .i64) n), .s (.v (.int .i64) (-(d : Int)))] (.s (.v RK (rt (-n) d))) [] := by
  have hg := Nat.gcd_pos_of_pos_right (-n).natAbs hd
  have e1 : IntKind.wrap .i64 (0 - n) = -n := by rw [w64 (by omega) (by omega)]; omega
  have e2 : IntKind.wrap .i64 (0 - -(d : Int)) = (d : Int) := by rw [w64 (by omega) (by omega)]; omega
  have ha := abs_SC (-n) (by omega) (by omega)
  have hgc := gcd_SC (-n).natAbs d (by omega) hd2
  rw [← e1] at ha
  rw [← e2] at hgc
  have := spec_obRatio_p1 n (-(d : Int)) _ _ (by omega) (by rw [e1] at ha ⊢; exact ha) hgc (by omega)
  rw [e1, e2, rt_wrap (-n) d (by omega) (by omega) hd (by omega)] at this
  exact this

end Go.AI
