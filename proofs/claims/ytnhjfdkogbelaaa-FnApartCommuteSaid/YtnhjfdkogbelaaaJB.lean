/- A part of the road: what it proves stands in its last texts. -/
import Derived.Test.YtnhjfdkogbelaaaGZ
import Derived.Test.YtnhjfdkogbelaaaJA
import Derived.Test.YtnhjfdkogbelaaaGX
import Derived.WalkKit
import Derived.Deep.RegionWith
import Derived.Deep.AppendLies
import Derived.Lib.Hide
import Derived.Deep.RegionHeld3
import Derived.Deep.QuietTactic
import Derived.BigQuiet
section
/- Contracts: ratios, and what a piece fixes. -/
set_option autoImplicit false
set_option maxRecDepth 100000
set_option linter.unusedVariables false
namespace Go.AI
open Go.Proofs

abbrev RK : Kd := .pr (.int .i64) (.int .i64)
abbrev Rt : Type := Int × Int

/-- A number in lowest terms. -/
def rt (n : Int) (d : Nat) : Rt := (n / ((Nat.gcd n.natAbs d : Nat) : Int), (d : Int) / ((Nat.gcd n.natAbs d : Nat) : Int))

theorem rgcd_L (x0 x1 : Int) (z : Rt) : ∀ (n a b : Nat), b ≤ n → LoopSC cfg.P 2 (lb P_impl_ratio 0) (impl_ratio_L0a x0 x1 (a : Int) (b : Int) z) (.exit 0) (impl_ratio_L0X1 x0 x1 ((Nat.gcd a b : Nat) : Int) 0 false z) := by
  intro n
  induction n with
  | zero =>
    intro a b hb
    have : b = 0 := by omega
    subst this
    rw [Nat.gcd_zero_right]
    exact impl_ratio_L0a_x2 _ _ _ _ _ (by decide)
  | succ n ih =>
    intro a b hb
    by_cases h : b = 0
    · subst h
      rw [Nat.gcd_zero_right]
      exact impl_ratio_L0a_x2 _ _ _ _ _ (by decide)
    · have hm : a % b < b := Nat.mod_lt _ (by omega)
      have hn := ih b (a % b) (by omega)
      have e : Nat.gcd b (a % b) = Nat.gcd a b := by rw [Nat.gcd_comm b (a % b), ← Nat.gcd_rec, Nat.gcd_comm]
      rw [e] at hn
      exact impl_ratio_L0a_i1 _ _ _ _ _ (by omega) (by omega) hn

theorem maxI_abs (n : Int) (h1 : -2 ^ 62 ≤ n) (h2 : n ≤ 2 ^ 62) : maxI n (IntKind.wrap .i64 (0 - n)) = ((n.natAbs : Nat) : Int) := by
  rw [w64 (by omega) (by omega)]
  unfold maxI
  split <;> omega

theorem tdiv_gcd (n : Int) (d : Nat) (hd : 0 < d) : Int.tdiv n ((Nat.gcd n.natAbs d : Nat) : Int) = n / ((Nat.gcd n.natAbs d : Nat) : Int) := by
  have hg : (0 : Int) < ((Nat.gcd n.natAbs d : Nat) : Int) := by have := Nat.gcd_pos_of_pos_right n.natAbs hd; omega
  obtain ⟨k, hk⟩ : ((Nat.gcd n.natAbs d : Nat) : Int) ∣ n := Int.ofNat_dvd_left.2 (Nat.gcd_dvd_left _ _)
  generalize ((Nat.gcd n.natAbs d : Nat) : Int) = g at hg hk
  rw [hk, Int.mul_tdiv_cancel_left _ (by omega), Int.mul_ediv_cancel_left _ (by omega)]

theorem div_le_abs (n : Int) (g : Int) (hg : 0 < g) : -(n.natAbs : Int) ≤ n / g ∧ n / g ≤ (n.natAbs : Int) := by
  have h1 : n / g * g ≤ n := Int.ediv_mul_le n (by omega)
  have h2 : n < (n / g + 1) * g := Int.lt_ediv_add_one_mul_self n hg
  generalize n / g = q at *
  constructor
  · by_cases h : -(n.natAbs : Int) ≤ q
    · exact h
    · exfalso
      have : (q + 1) * g ≤ (q + 1) * 1 := Int.mul_le_mul_of_nonpos_left (by omega) (by omega)
      omega
  · by_cases h : q ≤ (n.natAbs : Int)
    · exact h
    · exfalso
      have : q * 1 ≤ q * g := Int.mul_le_mul_of_nonneg_left (by omega) (by omega)
      omega

theorem rt_wrap (n : Int) (d : Nat) (h1 : -2 ^ 62 ≤ n) (h2 : n ≤ 2 ^ 62) (hd : 0 < d) (hd2 : d ≤ 2 ^ 62) :
    (IntKind.wrap .i64 (Int.tdiv n ((Nat.gcd n.natAbs d : Nat) : Int)), IntKind.wrap .i64 (Int.tdiv (d : Int) ((Nat.gcd n.natAbs d : Nat) : Int))) = rt n d := by
  have hg : (0 : Int) < ((Nat.gcd n.natAbs d : Nat) : Int) := by have := Nat.gcd_pos_of_pos_right n.natAbs hd; omega
  have e2 : Int.tdiv (d : Int) ((Nat.gcd n.natAbs d : Nat) : Int) = (d : Int) / ((Nat.gcd n.natAbs d : Nat) : Int) := by rw [Int.tdiv_eq_ediv_of_nonneg (by omega)]
  rw [tdiv_gcd n d hd, e2]
  have b1 := div_le_abs n _ hg
  have b2 := div_le_abs (d : Int) _ hg
  unfold rt
  rw [w64 (by omega) (by omega), w64 (by omega) (by omega)]

theorem ratio_SC (n : Int) (d : Nat) (h1 : -2 ^ 62 ≤ n) (h2 : n ≤ 2 ^ 62) (hd : 0 < d) (hd2 : d ≤ 2 ^ 62) :
    SC cfg.P i_impl_ratio [.s (.v (.int .i64) n), .s (.v (.int .i64) (d : Int))] (.s (.v RK (rt n d))) [] := by
  have hg := Nat.gcd_pos_of_pos_right n.natAbs hd
  have hs := impl_size_p1 n
  rw [maxI_abs n h1 h2] at hs
  have := impl_ratio_p1 n (d : Int) _ _ _ _ _ _ _ hs (rgcd_L n (d : Int) (0, 0) d n.natAbs d (Nat.le_refl _)) (by omega)
  rw [rt_wrap n d h1 h2 hd hd2] at this
  exact this

/-- What comes before what, of ratios. -/
def rlt (x y : Rt) : Bool := decide (x.1 * y.2 < y.1 * x.2)

def small (x : Rt) : Prop := -2 ^ 30 ≤ x.1 ∧ x.1 ≤ 2 ^ 30 ∧ 0 < x.2 ∧ x.2 ≤ 2 ^ 30

theorem mul_bd {a b : Int} (h1 : -2 ^ 30 ≤ a) (h2 : a ≤ 2 ^ 30) (h3 : 0 ≤ b) (h4 : b ≤ 2 ^ 30) : -2 ^ 60 ≤ a * b ∧ a * b ≤ 2 ^ 60 := by
  constructor
  · have e1 : -2 ^ 30 * b ≤ a * b := Int.mul_le_mul_of_nonneg_right h1 h3
    omega
  · have e1 : a * b ≤ 2 ^ 30 * b := Int.mul_le_mul_of_nonneg_right h2 h3
    omega

theorem less_SC (x y : Rt) (hx : small x) (hy : small y) : SC cfg.P i_impl_Ratio_less [.s (.v RK x), .s (.v RK y)] (.s (.v .bool (rlt x y))) [] := by
  obtain ⟨a1, a2, a3, a4⟩ := hx
  obtain ⟨b1, b2, b3, b4⟩ := hy
  have m1 := mul_bd a1 a2 (by omega) b4
  have m2 := mul_bd b1 b2 (by omega) a4
  unfold rlt
  by_cases h : x.1 * y.2 < y.1 * x.2
  · rw [decide_eq_true h]
    exact impl_Ratio_less_p1 x y (by rw [w64 (by omega) (by omega), w64 (by omega) (by omega)]; exact h)
  · rw [decide_eq_false h]
    exact impl_Ratio_less_p2 x y (by rw [w64 (by omega) (by omega), w64 (by omega) (by omega)]; exact h)

theorem obLess_SC (x y : Rt) (hx : small x) (hy : small y) : SC cfg.P i_spec_obLess [.s (.v RK x), .s (.v RK y)] (.s (.v .bool (rlt x y))) [] := by
  obtain ⟨a1, a2, a3, a4⟩ := hx
  obtain ⟨b1, b2, b3, b4⟩ := hy
  have m1 := mul_bd a1 a2 (by omega) b4
  have m2 := mul_bd b1 b2 (by omega) a4
  unfold rlt
  by_cases h : x.1 * y.2 < y.1 * x.2
  · rw [decide_eq_true h]
    exact spec_obLess_p1 x y (by rw [w64 (by omega) (by omega), w64 (by omega) (by omega)]; exact h)
  · rw [decide_eq_false h]
    exact spec_obLess_p2 x y (by rw [w64 (by omega) (by omega), w64 (by omega) (by omega)]; exact h)

theorem most_SC (a b : Int) : SC cfg.P i_spec_l1Most [.s (.v (.int .i64) a), .s (.v (.int .i64) b)] (.s (.v (.int .i64) (if a > b then a else b))) [] := by
  by_cases h : a > b
  · rw [if_pos h]; exact spec_l1Most_p1 _ _ h
  · rw [if_neg h]; exact spec_l1Most_p2 _ _ h

theorem abs_SC (n : Int) (h1 : -2 ^ 62 ≤ n) (h2 : n ≤ 2 ^ 62) : SC cfg.P i_spec_l1Abs [.s (.v (.int .i64) n)] (.s (.v (.int .i64) ((n.natAbs : Nat) : Int))) [] := by
  have h := most_SC n (IntKind.wrap .i64 (0 - n))
  have e : (if n > IntKind.wrap .i64 (0 - n) then n else IntKind.wrap .i64 (0 - n)) = ((n.natAbs : Nat) : Int) := by
    rw [w64 (by omega) (by omega)]
    split <;> omega
  rw [e] at h
  exact spec_l1Abs_p1 n _ h

theorem obRatio_SC (n : Int) (d : Nat) (h1 : -2 ^ 40 ≤ n) (h2 : n ≤ 2 ^ 40) (hd : 0 < d) (hd2 : d ≤ 2 ^ 40) :
    SC cfg.P i_spec_obRatio [.s (.v (.int .i64) n), .s (.v (.int .i64) (d : Int))] (.s (.v RK (rt n d))) [] := by
  have hg := Nat.gcd_pos_of_pos_right n.natAbs hd
  have := spec_obRatio_p2 n (d : Int) _ _ (by omega) (abs_SC n (by omega) (by omega)) (gcd_SC n.natAbs d (by omega) hd2) (by omega)
  rw [rt_wrap n d (by omega) (by omega) hd (by omega)] at this
  exact this

theorem obRatio_neg_SC (n : Int) (d : Nat) (h1 : -2 ^ 40 ≤ n) (h2 : n ≤ 2 ^ 40) (hd : 0 < d) (hd2 : d ≤ 2 ^ 40) :
    SC cfg.P i_spec_obRatio [.s (.v (.int .i64) n), .s (.v (.int .i64) (-(d : Int)))] (.s (.v RK (rt (-n) d))) [] := by
  have hg := Nat.gcd_pos_of_pos_right (-n).natAbs hd
  have e1 : IntKind.wrap .i64 (0 - n) = -n := by rw [w64 (by omega) (by omega)]; omega
  have e2 : IntKind.wrap .i64 (0 - -(d : Int)) = (d : Int) := by rw [w64 (by omega) (by omega)]; omega
  have ha := abs_SC (-n) (by omega) (by omega)
  have hgc := gcd_SC (-n).natAbs d (by omega) hd2
  rw [← e1] at ha
  rw [← e2] at hgc
  have := spec_obRatio_p1 n (-(d : Int)) _ _ (by omega) (by rw [e1] at ha ⊢; exact ha) hgc (by omega)
  rw [e1, e2, rt_wrap (-n) d (by omega) (by omega) hd (by omega)] at this
  exact this

end Go.AI
end

section
/- Contract: what a piece fixes. -/
set_option autoImplicit false
set_option maxRecDepth 100000
set_option linter.unusedVariables false
namespace Go.AI
open Go.Proofs

/-- Where the interval of an address begins and ends, in 256ths. -/
def sA (a : List UInt8) : Nat := bn a * 2 ^ (8 - a.length)
def sE (a : List UInt8) : Nat := (bn a + 1) * 2 ^ (8 - a.length)

theorem sE_le (a : List UInt8) (h : a.length ≤ 8) : sA a < sE a ∧ sE a ≤ 256 := by
  have h1 := bn_lt a
  have h2 : (bn a + 1) * 2 ^ (8 - a.length) ≤ 2 ^ a.length * 2 ^ (8 - a.length) := Nat.mul_le_mul_right _ (by omega)
  have h3 : 2 ^ a.length * 2 ^ (8 - a.length) = 256 := by rw [← Nat.pow_add, show a.length + (8 - a.length) = 8 by omega]
  have h4 : 0 < 2 ^ (8 - a.length) := Nat.pow_pos (by omega)
  unfold sA sE
  rw [Nat.add_mul] at *
  omega

theorem plF_A (a : List UInt8) (h : a.length ≤ 8) : plF a 1099511627776 0 = sA a * 4294967296 := by
  have := plF_eq a 40 0 (by omega)
  rw [show (2 : Nat) ^ 40 = 1099511627776 by decide] at this
  rw [this, Nat.zero_add]
  unfold sA
  have e : (40 : Nat) - a.length = (8 - a.length) + 32 := by omega
  rw [e, Nat.pow_add, Nat.mul_assoc]

theorem iv_E (a : List UInt8) (h : a.length ≤ 8) : (iv a).2 = sE a * 4294967296 := by
  show plF a 1099511627776 0 + 1099511627776 / 2 ^ a.length = _
  rw [plF_A a h, grain_div (by omega)]
  unfold sA sE
  have e : (40 : Nat) - a.length = (8 - a.length) + 32 := by omega
  rw [e, Nat.pow_add, Nat.add_mul, Nat.one_mul, Nat.add_mul]

theorem shortN_SC (n : Nat) (h : n ≤ 256) : SC cfg.P i_impl_short [.s (.v (.int .i64) ((n * 4294967296 : Nat) : Int))] (.s (.v (.int .i64) (n : Int))) [] := by
  have := impl_short_p1 ((n * 4294967296 : Nat) : Int) (by decide)
  have e : IntKind.wrap .i64 (Int.tdiv ((n * 4294967296 : Nat) : Int) 4294967296) = (n : Int) := by
    have : Int.tdiv ((n * 4294967296 : Nat) : Int) 4294967296 = (n : Int) := by
      rw [Int.tdiv_eq_ediv_of_nonneg (by omega)]
      omega
    rw [this, w64 (by omega) (by omega)]
  rw [e] at this
  exact this

theorem slope_SC (f t : List UInt8) (h1 : f.length ≤ 8) (h2 : t.length ≤ 8) : SC cfg.P i_impl_piece_slope [.s (.v (.pr (.int .i64) (.pr (.int .i64) (.pr (.int .i64) (.int .i64)))) (pc f t))] (.s (.v (.int .i64) ((f.length : Int) - (t.length : Int)))) [] := by
  have := impl_piece_slope_p1 (pc f t)
  have e : IntKind.wrap .i64 ((pc f t).2.2.1 - (pc f t).2.2.2) = (f.length : Int) - (t.length : Int) := by
    show IntKind.wrap .i64 ((f.length : Int) - (t.length : Int)) = _
    rw [w64 (by omega) (by omega)]
  rw [e] at this
  exact this

/-- The number that is fixed by a piece that is not as long as its image: over and under the line. -/
def fxN (f t : List UInt8) : Int := if t.length < f.length then ((sA f * 2 ^ (f.length - t.length) : Nat) : Int) - (sA t : Int) else ((sA t * 2 ^ (t.length - f.length) : Nat) : Int) - (sA f : Int)
def fxD (f t : List UInt8) : Nat := if t.length < f.length then 256 * (2 ^ (f.length - t.length) - 1) else 256 * (2 ^ (t.length - f.length) - 1)

/-- What a piece fixes. -/
def fixI (f t : List UInt8) : List Rt × Bool :=
  if f.length = t.length then ([rt (sA f : Int) 256, rt (sE f : Int) 256], decide (sA f = sA t))
  else if rlt (rt (fxN f t) (fxD f t)) (rt (sA f : Int) 256) || rlt (rt (sE f : Int) 256) (rt (fxN f t) (fxD f t)) then ([], false)
  else ([rt (fxN f t) (fxD f t), rt (fxN f t) (fxD f t)], true)

theorem rt_small (n : Int) (d : Nat) (h1 : -2 ^ 30 ≤ n) (h2 : n ≤ 2 ^ 30) (hd : 0 < d) (hd2 : d ≤ 2 ^ 30) : small (rt n d) := by
  have hg0 := Nat.gcd_pos_of_pos_right n.natAbs hd
  have hg : (0 : Int) < ((Nat.gcd n.natAbs d : Nat) : Int) := by omega
  have b1 := div_le_abs n _ hg
  have b2 := div_le_abs (d : Int) _ hg
  have b3 : 0 < (d : Int) / ((Nat.gcd n.natAbs d : Nat) : Int) := by
    have : (Nat.gcd n.natAbs d) ≤ d := Nat.gcd_le_right _ hd
    exact Int.ediv_pos_of_pos_of_dvd (by omega) (by omega) (Int.natCast_dvd_natCast.2 (Nat.gcd_dvd_right _ _))
  unfold small rt
  refine ⟨?_, ?_, b3, ?_⟩
  · show _ ≤ n / _; omega
  · show n / _ ≤ _; omega
  · show (d : Int) / _ ≤ _; omega

theorem pow_8 (k : Nat) (h : k ≤ 8) : 1 ≤ 2 ^ k ∧ 2 ^ k ≤ 256 := ⟨Nat.one_le_two_pow, by have := Nat.pow_le_pow_right (n := 2) (by omega) h; omega⟩

theorem mulp (n k : Nat) (h : k ≤ 8) (hn : n ≤ 256) : n * 2 ^ k ≤ 65536 := by
  have := Nat.mul_le_mul hn (pow_8 k h).2
  omega

theorem fx_bd (f t : List UInt8) (h1 : f.length ≤ 8) (h2 : t.length ≤ 8) (hne : f.length ≠ t.length) : -2 ^ 20 ≤ fxN f t ∧ fxN f t ≤ 2 ^ 20 ∧ 0 < fxD f t ∧ fxD f t ≤ 2 ^ 20 := by
  have a1 := sE_le f h1
  have a2 := sE_le t h2
  unfold fxN fxD
  split
  · rename_i hlt
    have := mulp (sA f) (f.length - t.length) (by omega) (by omega)
    have := pow_8 (f.length - t.length) (by omega)
    have h3 : 2 ≤ 2 ^ (f.length - t.length) := by have := Nat.pow_le_pow_right (n := 2) (by omega) (show 1 ≤ f.length - t.length by omega); omega
    omega
  · rename_i hlt
    have := mulp (sA t) (t.length - f.length) (by omega) (by omega)
    have := pow_8 (t.length - f.length) (by omega)
    have h3 : 2 ≤ 2 ^ (t.length - f.length) := by have := Nat.pow_le_pow_right (n := 2) (by omega) (show 1 ≤ t.length - f.length by omega); omega
    omega

theorem shl_w (c : Nat) (k : Nat) (hc : c ≤ 256) (hk : k ≤ 8) : IntKind.wrap .i64 ((c : Int) * 2 ^ (min k (IntKind.bits .i64))) = ((c * 2 ^ k : Nat) : Int) := by
  have hmin : min k (IntKind.bits .i64) = k := by
    have : IntKind.bits .i64 = 64 := rfl
    omega
  have := mulp c k hk hc
  rw [hmin]
  have e : (c : Int) * 2 ^ k = ((c * 2 ^ k : Nat) : Int) := by push_cast; rfl
  rw [e, w64] <;> omega

theorem fixedIn_SC (f t : List UInt8) (h1 : f.length ≤ 8) (h2 : t.length ≤ 8) :
    SC cfg.P i_impl_piece_fixedIn [.s (.v (.pr (.int .i64) (.pr (.int .i64) (.pr (.int .i64) (.int .i64)))) (pc f t))] (.tup [.own t_impl_Ratio RK (fixI f t).1, .v .bool (fixI f t).2]) [] := by
  have a1 := sE_le f h1
  have a2 := sE_le t h2
  have s1 : SC cfg.P i_impl_short [.s (.v (.int .i64) (pc f t).1)] (.s (.v (.int .i64) (sA f : Int))) [] := by
    have := shortN_SC (sA f) (by omega)
    rw [← plF_A f h1] at this
    exact this
  have s2 : SC cfg.P i_impl_short [.s (.v (.int .i64) (pc f t).2.1)] (.s (.v (.int .i64) (sA t : Int))) [] := by
    have := shortN_SC (sA t) (by omega)
    rw [← plF_A t h2] at this
    exact this
  have s3 := end_SC f t (by omega)
  have s4 : SC cfg.P i_impl_short [.s (.v (.int .i64) (((iv f).2 : Nat) : Int))] (.s (.v (.int .i64) (sE f : Int))) [] := by
    have := shortN_SC (sE f) (by omega)
    rw [← iv_E f h1] at this
    exact this
  have s5 := slope_SC f t h1 h2
  have rA : SC cfg.P i_impl_ratio [.s (.v (.int .i64) (sA f : Int)), .s (.v (.int .i64) (256 : Int))] (.s (.v RK (rt (sA f : Int) 256))) [] := ratio_SC (sA f : Int) 256 (by omega) (by omega) (by omega) (by omega)
  have rE : SC cfg.P i_impl_ratio [.s (.v (.int .i64) (sE f : Int)), .s (.v (.int .i64) (256 : Int))] (.s (.v RK (rt (sE f : Int) 256))) [] := ratio_SC (sE f : Int) 256 (by omega) (by omega) (by omega) (by omega)
  unfold fixI
  by_cases hz : f.length = t.length
  · rw [if_pos hz]
    have hz' : (f.length : Int) - (t.length : Int) = 0 := by omega
    by_cases he : sA f = sA t
    · rw [show decide (sA f = sA t) = true from decide_eq_true he]
      exact impl_piece_fixedIn_p1 _ _ _ _ _ _ _ _ s1 s2 s3 s4 s5 hz' rA rE (by omega)
    · rw [show decide (sA f = sA t) = false from decide_eq_false he]
      exact impl_piece_fixedIn_p2 _ _ _ _ _ _ _ _ s1 s2 s3 s4 s5 hz' rA rE (by omega)
  · rw [if_neg hz]
    obtain ⟨b1, b2, b3, b4⟩ := fx_bd f t h1 h2 hz
    have sr := rt_small (fxN f t) (fxD f t) (by omega) (by omega) b3 (by omega)
    have sa := rt_small (sA f : Int) 256 (by omega) (by omega) (by omega) (by omega)
    have se := rt_small (sE f : Int) 256 (by omega) (by omega) (by omega) (by omega)
    have rN := ratio_SC (fxN f t) (fxD f t) (by omega) (by omega) b3 (by omega)
    have l1 := less_SC _ _ sr sa
    have l2 := less_SC _ _ se sr
    generalize rt (fxN f t) (fxD f t) = r at sr rN l1 l2 ⊢
    by_cases hlt : t.length < f.length
    · have hm : maxI ((f.length : Int) - (t.length : Int)) 0 = ((f.length - t.length : Nat) : Int) := by unfold maxI; split <;> omega
      have p1 := shl_w (sA f) (f.length - t.length) (by omega) (by omega)
      have p2 := shl_w 1 (f.length - t.length) (by omega) (by omega)
      have q1 := mulp (sA f) (f.length - t.length) (by omega) (by omega)
      have q2 := pow_8 (f.length - t.length) (by omega)
      have en : IntKind.wrap .i64 ((IntKind.wrap .i64 ((sA f : Int) * 2 ^ (min ((maxI ((f.length : Int) - (t.length : Int)) (0 : Int))).toNat (IntKind.bits .i64)))) - (sA t : Int)) = fxN f t := by
        rw [hm, Int.toNat_natCast, p1, w64 (by omega) (by omega)]
        unfold fxN
        rw [if_pos hlt]
      have ed : IntKind.wrap .i64 ((256 : Int) * (IntKind.wrap .i64 ((IntKind.wrap .i64 ((1 : Int) * 2 ^ (min ((maxI ((f.length : Int) - (t.length : Int)) (0 : Int))).toNat (IntKind.bits .i64)))) - (1 : Int)))) = ((fxD f t : Nat) : Int) := by
        have p2' : IntKind.wrap .i64 ((1 : Int) * 2 ^ (min (f.length - t.length) (IntKind.bits .i64))) = ((1 * 2 ^ (f.length - t.length) : Nat) : Int) := p2
        rw [hm, Int.toNat_natCast, p2', Nat.one_mul, w64 (n := ((2 ^ (f.length - t.length) : Nat) : Int) - 1) (by omega) (by omega), w64 (by omega) (by omega)]
        unfold fxD
        rw [if_pos hlt]
        omega
      rw [← en, ← ed] at rN
      cases c1 : rlt r (rt (sA f : Int) 256)
      · rw [c1] at l1
        cases c2 : rlt (rt (sE f : Int) 256) r
        · rw [c2] at l2
          exact impl_piece_fixedIn_p8 _ _ _ _ _ _ _ _ _ s1 s2 s3 s4 s5 (by omega) (by omega) (by omega) rN rA l1 rE l2
        · rw [c2] at l2
          exact impl_piece_fixedIn_p7 _ _ _ _ _ _ _ _ _ s1 s2 s3 s4 s5 (by omega) (by omega) (by omega) rN rA l1 rE l2
      · rw [c1] at l1
        exact impl_piece_fixedIn_p6 _ _ _ _ _ _ _ _ s1 s2 s3 s4 s5 (by omega) (by omega) (by omega) rN rA l1
    · have hm : IntKind.wrap .i64 (0 - ((f.length : Int) - (t.length : Int))) = ((t.length - f.length : Nat) : Int) := by rw [w64 (by omega) (by omega)]; omega
      have p1 := shl_w (sA t) (t.length - f.length) (by omega) (by omega)
      have p2 := shl_w 1 (t.length - f.length) (by omega) (by omega)
      have q1 := mulp (sA t) (t.length - f.length) (by omega) (by omega)
      have q2 := pow_8 (t.length - f.length) (by omega)
      have en : IntKind.wrap .i64 ((IntKind.wrap .i64 ((sA t : Int) * 2 ^ (min ((IntKind.wrap .i64 (0 - ((f.length : Int) - (t.length : Int))))).toNat (IntKind.bits .i64)))) - (sA f : Int)) = fxN f t := by
        rw [hm, Int.toNat_natCast, p1, w64 (by omega) (by omega)]
        unfold fxN
        rw [if_neg hlt]
      have ed : IntKind.wrap .i64 ((256 : Int) * (IntKind.wrap .i64 ((IntKind.wrap .i64 ((1 : Int) * 2 ^ (min ((IntKind.wrap .i64 (0 - ((f.length : Int) - (t.length : Int))))).toNat (IntKind.bits .i64)))) - (1 : Int)))) = ((fxD f t : Nat) : Int) := by
        have p2' : IntKind.wrap .i64 ((1 : Int) * 2 ^ (min (t.length - f.length) (IntKind.bits .i64))) = ((1 * 2 ^ (t.length - f.length) : Nat) : Int) := p2
        rw [hm, Int.toNat_natCast, p2', Nat.one_mul, w64 (n := ((2 ^ (t.length - f.length) : Nat) : Int) - 1) (by omega) (by omega), w64 (by omega) (by omega)]
        unfold fxD
        rw [if_neg hlt]
        omega
      rw [← en, ← ed] at rN
      have hmx : 0 ≤ maxI ((f.length : Int) - (t.length : Int)) 0 := by unfold maxI; split <;> omega
      cases c1 : rlt r (rt (sA f : Int) 256)
      · rw [c1] at l1
        cases c2 : rlt (rt (sE f : Int) 256) r
        · rw [c2] at l2
          exact impl_piece_fixedIn_p5 _ _ _ _ _ _ _ _ _ s1 s2 s3 s4 s5 (by omega) hmx (by omega) (by omega) rN rA l1 rE l2
        · rw [c2] at l2
          exact impl_piece_fixedIn_p4 _ _ _ _ _ _ _ _ _ s1 s2 s3 s4 s5 (by omega) hmx (by omega) (by omega) rN rA l1 rE l2
      · rw [c1] at l1
        exact impl_piece_fixedIn_p3 _ _ _ _ _ _ _ _ s1 s2 s3 s4 s5 (by omega) hmx (by omega) (by omega) rN rA l1

end Go.AI
end

section
/- Walks by hand: what contracts say, for the walk. -/
set_option autoImplicit false
set_option maxRecDepth 100000
set_option linter.unusedVariables false
namespace Go.AI
open Go.Proofs

abbrev PcK : Kd := .pr (.int .i64) (.pr (.int .i64) (.pr (.int .i64) (.int .i64)))

def pcC (x : Pc) : List Value := [.int .i64 x.1, .int .i64 x.2.1, .int .i64 x.2.2.1, .int .i64 x.2.2.2]
def rtC (x : Rt) : List Value := [.int .i64 x.1, .int .i64 x.2]

theorem rows_pc {w : World} {B : Nat → Prop} : ∀ {l : List Pc} {cs : List Value}, RowsOf (RepK w B PcK) l cs → cs = l.flatMap pcC
  | [], _, h => h
  | x :: l, _, ⟨c1, c2, e, ⟨d1, d2, e1, h1, ⟨d3, d4, e2, h2, ⟨d5, d6, e3, h3, h4⟩⟩⟩, hr⟩ => by
    rw [e, rows_pc hr, e1, e2, e3, h1, h2, h3, h4]
    rfl

theorem rows_rt {w : World} {B : Nat → Prop} : ∀ {l : List Rt} {cs : List Value}, RowsOf (RepK w B RK) l cs → cs = l.flatMap rtC
  | [], _, h => h
  | x :: l, _, ⟨c1, c2, e, ⟨d1, d2, e1, h1, h2⟩, hr⟩ => by
    rw [e, rows_rt hr, e1, h1, h2]
    rfl

/-- The call of 'pieces'. -/
theorem pieces_C (p : Tr × Tr) (h1 : p.1.c ≤ 2 ^ 19) (h2 : p.1.c = p.2.c) (w : World) (B : Nat → Prop) (u : Value) (hu : RepV w B (.pr .tree .tree) p u) :
    Calls Try.prog i_impl_pair_pieces #[u] w fun e w' => ∃ g cap cur, e = .returned (.slice (some ⟨g, 0, none⟩) (p.1.c + 1) cap) ∧ Fr w [] w' ∧ w.heap.size ≤ g ∧ w'.heap[g]? = some (.cells cur t_impl_piece (0, 0)) ∧
      cur.toList.take ((p.1.c + 1) * 4) = (List.zipWith pc (adL p.1 []) (adL p.2 [])).flatMap pcC := by
  have hS := (pieces_SC p h1 h2).2 w B [u] [] (fun _ _ v hv => by cases hv) List.Pairwise.nil ⟨u, [], rfl, hu, rfl, rfl⟩
  refine hS.mono fun e w' ⟨v, os, he, hf, hnd, hos, hres, _⟩ => ?_
  obtain ⟨⟨flat, ⟨hl, hown⟩, hrow⟩, rfl⟩ := hres
  have hlen : (List.zipWith pc (adL p.1 []) (adL p.2 [])).length = p.1.c + 1 := by rw [List.length_zipWith, adL_len, adL_len]; omega
  rcases hown with ⟨rfl, h0⟩ | ⟨g, cap, cur, rfl, hg, hb, _, _, _, hcur⟩
  · omega
  · rw [hlen] at he hcur
    exact ⟨g, cap, cur, he, hf, hg, hb, hcur.trans (rows_pc hrow)⟩

theorem fixedIn_C (f t : List UInt8) (h1 : f.length ≤ 8) (h2 : t.length ≤ 8) (hk : (fixI f t).2 = true) (w : World) (a b c d : Int) (he : (a, (b, (c, d))) = pc f t) :
    Calls Try.prog i_impl_piece_fixedIn #[.agg #[.int .i64 a, .int .i64 b, .int .i64 c, .int .i64 d]] w fun e w' => ∃ v, e = .returned (.tuple #[v, .bool true]) ∧ Fr w [] w' ∧ w'.ownsRow w.heap.size t_impl_Ratio 2 v (fixI f t).1.length ((fixI f t).1.flatMap rtC) := by
  have hS := (fixedIn_SC f t h1 h2).2 w (fun _ => False) [.agg #[.int .i64 a, .int .i64 b, .int .i64 c, .int .i64 d]] [] (fun _ _ v hv => by cases hv) List.Pairwise.nil
    ⟨_, [], rfl, ⟨[.int .i64 a, .int .i64 b, .int .i64 c, .int .i64 d], by rw [← he]; exact ⟨[_], [_, _, _], rfl, rfl, [_], [_, _], rfl, rfl, [_], [_], rfl, rfl, rfl⟩, rfl⟩, rfl, rfl⟩
  rw [hk] at hS
  refine hS.mono ?_
  rintro e w' ⟨v, os, he, hf, hnd, hos, ⟨vs, rfl, hres⟩, _⟩
  obtain ⟨u, us, o1, o2, rfl, rfl, ⟨⟨flat, hown, hrow⟩, _⟩, u2, us2, o3, o4, rfl, rfl, ⟨hb, _⟩, rfl, rfl⟩ := hres
  obtain ⟨cs, hcs, rfl⟩ := hb
  have : cs = [.bool true] := hcs
  subst this
  rw [rows_rt hrow] at hown
  exact ⟨u, he, hf, hown⟩

theorem fixedIn_no (f t : List UInt8) (h1 : f.length ≤ 8) (h2 : t.length ≤ 8) (hk : (fixI f t).2 = false) (w : World) (a b c d : Int) (he : (a, (b, (c, d))) = pc f t) :
    Calls Try.prog i_impl_piece_fixedIn #[.agg #[.int .i64 a, .int .i64 b, .int .i64 c, .int .i64 d]] w fun e w' => ∃ v, e = .returned (.tuple #[v, .bool false]) ∧ Fr w [] w' := by
  have hS := (fixedIn_SC f t h1 h2).2 w (fun _ => False) [.agg #[.int .i64 a, .int .i64 b, .int .i64 c, .int .i64 d]] [] (fun _ _ v hv => by cases hv) List.Pairwise.nil
    ⟨_, [], rfl, ⟨[.int .i64 a, .int .i64 b, .int .i64 c, .int .i64 d], by rw [← he]; exact ⟨[_], [_, _, _], rfl, rfl, [_], [_, _], rfl, rfl, [_], [_], rfl, rfl, rfl⟩, rfl⟩, rfl, rfl⟩
  rw [hk] at hS
  refine hS.mono ?_
  rintro e w' ⟨v, os, he, hf, hnd, hos, ⟨vs, rfl, hres⟩, _⟩
  obtain ⟨u, us, o1, o2, rfl, rfl, _, u2, us2, o3, o4, rfl, rfl, ⟨hb, _⟩, rfl, rfl⟩ := hres
  obtain ⟨cs, hcs, rfl⟩ := hb
  have : cs = [.bool false] := hcs
  subst this
  exact ⟨u, he, hf⟩

theorem less_C (x y : Rt) (hx : small x) (hy : small y) (r : Bool) (hr : rlt x y = r) (w : World) (a b c d : Int) (h1 : (a, b) = x) (h2 : (c, d) = y) :
    Calls Try.prog i_impl_Ratio_less #[.agg #[.int .i64 a, .int .i64 b], .agg #[.int .i64 c, .int .i64 d]] w fun e w' => e = .returned (.bool r) ∧ Fr w [] w' := by
  have hS := (less_SC x y hx hy).2 w (fun _ => False) [.agg #[.int .i64 a, .int .i64 b], .agg #[.int .i64 c, .int .i64 d]] [] (fun _ _ v hv => by cases hv) List.Pairwise.nil
    ⟨_, [_], rfl, ⟨[.int .i64 a, .int .i64 b], by rw [← h1]; exact ⟨[_], [_], rfl, rfl, rfl⟩, rfl⟩, _, [], rfl, ⟨[.int .i64 c, .int .i64 d], by rw [← h2]; exact ⟨[_], [_], rfl, rfl, rfl⟩, rfl⟩, rfl, rfl⟩
  rw [hr] at hS
  refine hS.mono fun e w' ⟨v, os, he, hf, hnd, hos, ⟨⟨cs, hcs, hv⟩, _⟩, _⟩ => ?_
  have : cs = [.bool r] := hcs
  subst this
  subst hv
  exact ⟨he, hf⟩

/-- The call of 'less', with the cells that stay. -/
theorem less_CC (x y : Rt) (hx : small x) (hy : small y) (r : Bool) (hr : rlt x y = r) (w : World) :
    Calls Try.prog i_impl_Ratio_less #[.agg #[.int .i64 x.1, .int .i64 x.2], .agg #[.int .i64 y.1, .int .i64 y.2]] w fun e w' => e = .returned (.bool r) ∧ (∀ a v, w.cell? a = some v → w'.cell? a = some v) ∧ Fr w [] w' :=
  (less_C x y hx hy r hr w _ _ _ _ rfl rfl).mono fun e w' ⟨h1, h2⟩ => ⟨h1, fun a v h => by rw [World.cell?_of_block (h2.block a.block (World.block_lt_of_cell? _ _ h) (fun _ hv => by cases hv))]; exact h, h2⟩

end Go.AI
end

section
/- Rows of rows of the call's own: what they are, and how they come to be. -/
set_option autoImplicit false
set_option maxRecDepth 100000
set_option linter.unusedVariables false
namespace Go.AI
open Go.Proofs

abbrev Iv : Type := Rt × Rt

def ivC (x : Iv) : List Value := [.int .i64 x.1.1, .int .i64 x.1.2, .int .i64 x.2.1, .int .i64 x.2.2]

/-- A row of rows of two ratios, all of them the call's own. -/
structure RR (w : World) (N : Nat) (v : Value) (l : List Iv) (us : List Value) : Prop where
  out : w.ownsRow N t_Simpl_Ratio 1 v l.length us
  inn : ∀ (j : Nat) (x : Iv) (u : Value), l[j]? = some x → us[j]? = some u → w.ownsRow N t_impl_Ratio 2 u 2 (ivC x)
  dj : (v :: us).Pairwise fun a b => a.ownBlock = none ∨ a.ownBlock ≠ b.ownBlock

theorem RR.len {w : World} {N : Nat} {v : Value} {l : List Iv} {us : List Value} (h : RR w N v l us) : us.length = l.length := by
  have := h.out.1; omega

theorem own_lt {w : World} {N s n : Nat} {e : TypeId} {v : Value} {xs : List Value} (h : w.ownsRow N e s v n xs) {b : Nat} (hb : v.ownBlock = some b) : N ≤ b ∧ b < w.heap.size := by
  rcases h.2 with ⟨rfl, _⟩ | ⟨g, cap, cur, rfl, hg, hh, _⟩
  · cases hb
  · simp only [Value.ownBlock, Option.some.injEq] at hb
    subst hb
    exact ⟨hg, (Array.getElem?_eq_some_iff.1 hh).1⟩

theorem own_keep {w w' : World} {N s n : Nat} {e : TypeId} {v : Value} {xs : List Value} (h : w.ownsRow N e s v n xs) (hk : ∀ b, v.ownBlock = some b → w'.heap[b]? = w.heap[b]?) : w'.ownsRow N e s v n xs := by
  refine ⟨h.1, ?_⟩
  rcases h.2 with h0 | ⟨g, cap, cur, rfl, hg, hh, r⟩
  · exact .inl h0
  · exact .inr ⟨g, cap, cur, rfl, hg, by rw [hk g rfl]; exact hh, r⟩

theorem own_base {w : World} {N M s n : Nat} {e : TypeId} {v : Value} {xs : List Value} (h : w.ownsRow N e s v n xs) (hk : M ≤ N) : w.ownsRow M e s v n xs := by
  refine ⟨h.1, ?_⟩
  rcases h.2 with h0 | ⟨g, cap, cur, rfl, hg, hh, r⟩
  · exact .inl h0
  · exact .inr ⟨g, cap, cur, rfl, by omega, hh, r⟩

/-- A row of two ratios: its block. -/
theorem own2 {w : World} {N : Nat} {u : Value} {x : Iv} (h : w.ownsRow N t_impl_Ratio 2 u 2 (ivC x)) :
    ∃ b cap cur, u = .slice (some ⟨b, 0, none⟩) 2 cap ∧ N ≤ b ∧ w.heap[b]? = some (.cells cur t_impl_Ratio (0, 0)) ∧ cur[0]? = some (.int .i64 x.1.1) ∧ cur[1]? = some (.int .i64 x.1.2) ∧ cur[2]? = some (.int .i64 x.2.1) ∧ cur[3]? = some (.int .i64 x.2.2) := by
  rcases h.2 with ⟨_, h0⟩ | ⟨g, cap, cur, rfl, hg, hh, _, _, _, hc⟩
  · omega
  · have hk : ∀ j, j < 4 → cur[j]? = (ivC x)[j]? := fun j hj => by
      rw [← hc, List.getElem?_take, if_pos (by omega), Array.getElem?_toList]
    exact ⟨g, cap, cur, rfl, hg, hh, hk 0 (by omega), hk 1 (by omega), hk 2 (by omega), hk 3 (by omega)⟩

theorem RR.blocks {w : World} {N : Nat} {v : Value} {l : List Iv} {us : List Value} (h : RR w N v l us) : ∀ u ∈ v :: us, ∀ b, u.ownBlock = some b → N ≤ b ∧ b < w.heap.size := by
  intro u hu b hb
  rcases List.mem_cons.1 hu with rfl | hu
  · exact own_lt h.out hb
  · obtain ⟨j, hj, rfl⟩ := List.mem_iff_getElem.1 hu
    have hl := h.len
    exact own_lt (h.inn j _ _ (List.getElem?_eq_getElem (by omega)) (List.getElem?_eq_getElem hj)) hb

theorem RR.keep {w w' : World} {N : Nat} {v : Value} {l : List Iv} {us : List Value} (h : RR w N v l us) (hk : ∀ u ∈ v :: us, ∀ b, u.ownBlock = some b → w'.heap[b]? = w.heap[b]?) : RR w' N v l us :=
  ⟨own_keep h.out (hk v (by simp)), fun j x u hx hu => own_keep (h.inn j x u hx hu) (hk u (List.mem_cons_of_mem _ (List.mem_of_getElem? hu))), h.dj⟩

theorem RR.fr {w w' : World} {N : Nat} {v : Value} {l : List Iv} {us : List Value} (h : RR w N v l us) (hf : Fr w [] w') : RR w' N v l us :=
  h.keep fun u hu b hb => hf.block b (h.blocks u hu b hb).2 (fun _ hv => by cases hv)

theorem RR.nil (w : World) (N : Nat) : RR w N (.slice none 0 0) [] [] :=
  ⟨⟨rfl, .inl ⟨rfl, rfl⟩⟩, fun j x u hx => by simp at hx, by simp⟩

theorem Fr.refl' (w : World) : Fr w [] w := ⟨rfl, rfl, rfl, Nat.le_refl _, fun _ _ _ => rfl⟩
theorem Fr.trans' {w w1 w2 : World} (h : Fr w [] w1) (h' : Fr w1 [] w2) : Fr w [] w2 :=
  ⟨h'.os.trans h.os, h'.tape.trans h.tape, h'.output.trans h.output, Nat.le_trans h.size h'.size, fun k hk hm => by rw [h'.block k (Nat.lt_of_lt_of_le hk h.size) hm, h.block k hk hm]⟩
theorem Fr.alloc' {w w1 : World} (h : Fr w [] w1) (o : Obj) : Fr w [] (w1.alloc o) :=
  ⟨h.os, h.tape, h.output, by have := h.size; simp; omega, fun k hk hm => by rw [heap_alloc_old w1 o (Nat.lt_of_lt_of_le hk h.size)]; exact h.block k hk hm⟩
theorem Fr.drew' {w w1 : World} (h : Fr w [] w1) : Fr w [] w1.drew := ⟨h.os, h.tape, h.output, h.size, h.block⟩
theorem Fr.drewN' {w w1 : World} (h : Fr w [] w1) (n : Nat) : Fr w [] (w1.drewN n) := ⟨h.os, h.tape, h.output, h.size, h.block⟩
theorem Fr.undrew' {w w1 : World} (h : Fr w.drew [] w1) : Fr w [] w1 := ⟨h.os, h.tape, h.output, h.size, h.block⟩

/-- One more row. -/
theorem RR.push {w w' : World} {N : Nat} {v v' u : Value} {l : List Iv} {us : List Value} (h : RR w N v l us) (x : Iv) (hu : w.ownsRow N t_impl_Ratio 2 u 2 (ivC x))
    (hd : ∀ y ∈ v :: us, y.ownBlock ≠ u.ownBlock) (hown : w'.ownsRow N t_Simpl_Ratio 1 v' (l.length + 1) (us ++ [u])) (hg : w.grownBy w' v.ownBlock) (hv : v'.ownBlock = v.ownBlock ∨ ∃ g, v'.ownBlock = some g ∧ w.heap.size ≤ g) :
    RR w' N v' (l ++ [x]) (us ++ [u]) := by
  have hdj := h.dj
  rw [List.pairwise_cons] at hdj
  obtain ⟨d1, d2⟩ := hdj
  have hu0 : ∃ b, u.ownBlock = some b := by obtain ⟨b, cap, cur, rfl, _⟩ := own2 hu; exact ⟨b, rfl⟩
  obtain ⟨bu, hbu⟩ := hu0
  have hul := own_lt hu hbu
  have old : ∀ y ∈ us ++ [u], ∀ b, y.ownBlock = some b → w'.heap[b]? = w.heap[b]? ∧ b < w.heap.size := fun y hy b hb => by
    rcases List.mem_append.1 hy with hy | hy
    · have hl := (h.blocks y (List.mem_cons_of_mem _ hy) b hb).2
      refine ⟨hg.block b hl fun e => ?_, hl⟩
      rcases d1 y hy with hn | hn
      · rw [hn] at e; cases e
      · exact hn (by rw [hb]; exact e.symm)
    · simp only [List.mem_singleton] at hy
      subst hy
      rw [hbu] at hb
      cases hb
      exact ⟨hg.block _ hul.2 fun e => hd v (by simp) (by rw [hbu]; exact e.symm), hul.2⟩
  refine ⟨by rw [List.length_append]; exact hown, fun j y q hy hq => ?_, ?_⟩
  · have hql := List.mem_of_getElem? hq
    rcases Nat.lt_or_ge j l.length with hj | hj
    · rw [List.getElem?_append_left hj] at hy
      rw [List.getElem?_append_left (by rw [h.len]; exact hj)] at hq
      exact own_keep (h.inn j y q hy hq) fun b hb => (old q hql b hb).1
    · rw [List.getElem?_append_right hj] at hy
      rw [List.getElem?_append_right (by rw [h.len]; exact hj), h.len] at hq
      cases hjl : j - l.length with
      | zero =>
        rw [hjl] at hy hq
        simp at hy hq
        subst hy; subst hq
        exact own_keep hu fun b hb => (old u hql b hb).1
      | succ n => rw [hjl] at hy; simp at hy
  · rw [List.pairwise_cons]
    refine ⟨fun y hy => ?_, ?_⟩
    · rcases hv with hv | ⟨g, hv, hg0⟩
      · rw [hv]
        rcases List.mem_append.1 hy with hy | hy
        · exact d1 y hy
        · simp only [List.mem_singleton] at hy
          subst hy
          exact .inr (hd v (by simp))
      · right
        rw [hv]
        intro e
        have := (old y hy g e.symm).2
        omega
    · rw [List.pairwise_append]
      refine ⟨d2, by simp, fun a ha b hb => ?_⟩
      simp only [List.mem_singleton] at hb
      subst hb
      exact .inr (hd a (List.mem_cons_of_mem _ ha))

/-- The last row's second ratio is set. -/
theorem RR.set {w w' : World} {N b cap : Nat} {v : Value} {l : List Iv} {us : List Value} {x : Iv} {y : Rt} {cur cur' : Array Value} (h : RR w N v (l ++ [x]) (us ++ [.slice (some ⟨b, 0, none⟩) 2 cap]))
    (hb : w.heap[b]? = some (.cells cur t_impl_Ratio (0, 0))) (hb' : w'.heap[b]? = some (.cells cur' t_impl_Ratio (0, 0))) (hc : cur' = (cur.set! 2 (.int .i64 y.1)).set! 3 (.int .i64 y.2)) (ho : ∀ k, k ≠ b → w'.heap[k]? = w.heap[k]?) :
    RR w' N v (l ++ [(x.1, y)]) (us ++ [.slice (some ⟨b, 0, none⟩) 2 cap]) := by
  have hlen := h.len
  simp only [List.length_append, List.length_singleton] at hlen
  have hdj := h.dj
  rw [List.pairwise_cons, List.pairwise_append] at hdj
  obtain ⟨d1, d2, _, d3⟩ := hdj
  refine ⟨?_, fun j z q hz hq => ?_, h.dj⟩
  · have := h.out
    rw [show (l ++ [(x.1, y)]).length = (l ++ [x]).length by simp]
    refine own_keep this fun k hk => ho k fun e => ?_
    subst e
    rcases d1 (.slice (some ⟨k, 0, none⟩) 2 cap) (by simp) with hn | hn
    · rw [hn] at hk; cases hk
    · exact hn hk
  · rcases Nat.lt_or_ge j l.length with hj | hj
    · have hz' : (l ++ [x])[j]? = some z := by rw [List.getElem?_append_left hj] at hz ⊢; exact hz
      have hq' : us[j]? = some q := by rw [List.getElem?_append_left (by omega)] at hq; exact hq
      refine own_keep (h.inn j z q hz' hq) fun k hk => ho k fun e => ?_
      subst e
      rcases d3 q (List.mem_of_getElem? hq') (.slice (some ⟨k, 0, none⟩) 2 cap) (by simp) with hn | hn
      · rw [hn] at hk; cases hk
      · exact hn hk
    · rw [List.getElem?_append_right hj] at hz
      rw [List.getElem?_append_right (by omega), show us.length = l.length by omega] at hq
      cases hjl : j - l.length with
      | succ n => rw [hjl] at hz; simp at hz
      | zero =>
        rw [hjl] at hz hq
        simp at hz hq
        subst hz; subst hq
        have hi := h.inn l.length x (.slice (some ⟨b, 0, none⟩) 2 cap) (by simp) (by rw [List.getElem?_append_right (by omega)]; simp [show us.length = l.length by omega])
        rcases hi.2 with ⟨_, h0⟩ | ⟨g, cap', cur0, e, hg, hh, h1, h2, h3, h4⟩
        · omega
        · cases e
          rw [hb] at hh
          cases hh
          refine ⟨rfl, .inr ⟨b, cap, cur', rfl, hg, hb', h1, h2, by rw [hc]; simpa using h3, ?_⟩⟩
          obtain ⟨cl⟩ := cur
          rw [hc]
          have hsz : 4 ≤ cl.length := by simp at h3; omega
          match cl, hsz with
          | c0 :: c1 :: c2 :: c3 :: r, _ =>
            simp [ivC] at h4 ⊢
            exact ⟨h4.1, h4.2.1⟩

end Go.AI
end

section
/- What all pieces fix, joined; for the walk. -/
set_option autoImplicit false
set_option maxRecDepth 100000
set_option linter.unusedVariables false
namespace Go.AI
open Go.Proofs

def fixP (f t : List UInt8) : Option Iv := match fixI f t with
  | ([a, b], true) => some (a, b)
  | _ => none

def mrg (out : List Iv) (r : Iv) : List Iv := match out.getLast? with
  | none => [r]
  | some x => if rlt x.2 r.1 then out ++ [r] else if rlt x.2 r.2 then out.dropLast ++ [(x.1, r.2)] else out

def stp (out : List Iv) (ft : List UInt8 × List UInt8) : List Iv := match fixP ft.1 ft.2 with
  | none => out
  | some r => mrg out r

def FX (ps : List (List UInt8 × List UInt8)) : List Iv := ps.foldl stp []

theorem fixI_yes (f t : List UInt8) (h1 : f.length ≤ 8) (h2 : t.length ≤ 8) (h : (fixI f t).2 = true) : ∃ a b, (fixI f t).1 = [a, b] ∧ fixP f t = some (a, b) ∧ small a ∧ small b := by
  have a1 := sE_le f h1
  have k : ∀ a b : Rt, fixI f t = ([a, b], true) → fixP f t = some (a, b) := fun a b e => by unfold fixP; rw [e]
  by_cases hz : f.length = t.length
  · have e : fixI f t = ([rt (sA f : Int) 256, rt (sE f : Int) 256], decide (sA f = sA t)) := by unfold fixI; rw [if_pos hz]
    rw [e] at h
    have h' : decide (sA f = sA t) = true := h
    rw [h'] at e
    exact ⟨_, _, by rw [e], k _ _ e, rt_small _ _ (by omega) (by omega) (by omega) (by omega), rt_small _ _ (by omega) (by omega) (by omega) (by omega)⟩
  · cases c : (rlt (rt (fxN f t) (fxD f t)) (rt (sA f : Int) 256) || rlt (rt (sE f : Int) 256) (rt (fxN f t) (fxD f t)))
    · have e : fixI f t = ([rt (fxN f t) (fxD f t), rt (fxN f t) (fxD f t)], true) := by unfold fixI; rw [if_neg hz, c]; rfl
      obtain ⟨b1, b2, b3, b4⟩ := fx_bd f t h1 h2 hz
      have s := rt_small (fxN f t) (fxD f t) (by omega) (by omega) b3 (by omega)
      exact ⟨_, _, by rw [e], k _ _ e, s, s⟩
    · have e : fixI f t = ([], false) := by unfold fixI; rw [if_neg hz, c]; rfl
      rw [e] at h; cases h

theorem fixI_not (f t : List UInt8) (h : (fixI f t).2 = false) : fixP f t = none := by
  unfold fixP
  generalize fixI f t = z at h
  obtain ⟨l, b⟩ := z
  simp only at h
  subst h
  split
  · rename_i e
    simp only [Prod.mk.injEq] at e
    cases e.2
  · rfl

theorem mrg_len (out : List Iv) (r : Iv) : (mrg out r).length ≤ out.length + 1 := by
  unfold mrg
  split
  · simp
  · rename_i x hx
    split
    · simp
    · split
      · rw [List.length_append, List.length_dropLast]; simp
      · omega

theorem stp_len (out : List Iv) (ft : List UInt8 × List UInt8) : (stp out ft).length ≤ out.length + 1 := by
  unfold stp
  split
  · omega
  · exact mrg_len _ _

theorem foldl_len (ps : List (List UInt8 × List UInt8)) : ∀ out : List Iv, (ps.foldl stp out).length ≤ out.length + ps.length := by
  induction ps with
  | nil => intro out; simp
  | cons a r ih => intro out; rw [List.foldl_cons]; have := ih (stp out a); have := stp_len out a; rw [List.length_cons]; omega

theorem FX_len (ps : List (List UInt8 × List UInt8)) (k : Nat) : (FX (ps.take k)).length ≤ k := by
  have := foldl_len (ps.take k) []
  unfold FX
  have h2 := List.length_take_le k ps
  simp only [List.length_nil] at this
  omega

theorem FX_succ (ps : List (List UInt8 × List UInt8)) (k : Nat) (h : k < ps.length) : FX (ps.take (k + 1)) = stp (FX (ps.take k)) ps[k] := by
  unfold FX
  rw [List.take_succ_eq_append_getElem h, List.foldl_append]
  rfl

def smalls (l : List Iv) : Prop := ∀ x ∈ l, small x.1 ∧ small x.2

theorem smalls_mrg {l : List Iv} {r : Iv} (h : smalls l) (hr : small r.1 ∧ small r.2) : smalls (mrg l r) := by
  intro y hy
  unfold mrg at hy
  split at hy
  · simp only [List.mem_singleton] at hy; subst hy; exact hr
  · rename_i x hx
    have hxm := h x (List.mem_of_getLast? hx)
    split at hy
    · rcases List.mem_append.1 hy with hy | hy
      · exact h y hy
      · simp only [List.mem_singleton] at hy; subst hy; exact hr
    · split at hy
      · rcases List.mem_append.1 hy with hy | hy
        · exact h y (List.dropLast_subset _ hy)
        · simp only [List.mem_singleton] at hy; subst hy; exact ⟨hxm.1, hr.2⟩
      · exact h y hy

theorem smalls_foldl (ps : List (List UInt8 × List UInt8)) (hb : ∀ a ∈ ps, a.1.length ≤ 8 ∧ a.2.length ≤ 8) : ∀ out : List Iv, smalls out → smalls (ps.foldl stp out) := by
  induction ps with
  | nil => intro out h; exact h
  | cons a r ih =>
    intro out h
    rw [List.foldl_cons]
    refine ih (fun x hx => hb x (List.mem_cons_of_mem _ hx)) _ ?_
    unfold stp
    have hl := hb a (by simp)
    split
    · exact h
    · rename_i z hz
      cases c : (fixI a.1 a.2).2
      · rw [fixI_not _ _ c] at hz; cases hz
      · obtain ⟨x, y, _, e, s1, s2⟩ := fixI_yes a.1 a.2 hl.1 hl.2 c
        rw [e] at hz
        cases hz
        exact smalls_mrg h ⟨s1, s2⟩

theorem smalls_FX (ps : List (List UInt8 × List UInt8)) (hb : ∀ a ∈ ps, a.1.length ≤ 8 ∧ a.2.length ≤ 8) (k : Nat) : smalls (FX (ps.take k)) :=
  smalls_foldl _ (fun a ha => hb a (List.mem_of_mem_take ha)) [] (fun x hx => by cases hx)

/-- The loop's relation. -/
structure Rel (w0 : World) (ps : List (List UInt8 × List UInt8)) (m g : Nat) (cur : Array Value) (k : Nat) (v : Value) (wr : World) (us : List Value) : Prop where
  le : k ≤ m
  fr : Fr w0 [] wr
  pc : wr.heap[g]? = some (.cells cur t_impl_piece (0, 0))
  rr : RR wr w0.heap.size v (FX (ps.take k)) us
  ne : ∀ u ∈ v :: us, u.ownBlock ≠ some g
  gl : w0.heap.size ≤ g

theorem Rel.gs {w0 : World} {ps : List (List UInt8 × List UInt8)} {m g : Nat} {cur : Array Value} {k : Nat} {v : Value} {wr : World} {us : List Value} (h : Rel w0 ps m g cur k v wr us) : g < wr.heap.size := (Array.getElem?_eq_some_iff.1 h.pc).1

def RelX (w0 : World) (ps : List (List UInt8 × List UInt8)) (m g : Nat) (cur : Array Value) (v i : Value) (wr : World) : Prop := ∃ (k : Nat) (us : List Value), i = .int .i64 k ∧ Rel w0 ps m g cur k v wr us

theorem Rel.fr' {w0 w' : World} {ps : List (List UInt8 × List UInt8)} {m g : Nat} {cur : Array Value} {k : Nat} {v : Value} {wr : World} {us : List Value} (h : Rel w0 ps m g cur k v wr us) (hf : Fr wr [] w') : Rel w0 ps m g cur k v w' us :=
  ⟨h.le, h.fr.trans' hf, by rw [hf.block g h.gs (fun _ hv => by cases hv)]; exact h.pc, h.rr.fr hf, h.ne, h.gl⟩

theorem Fr.grown' {w W w5 : World} {row : Option Nat} (h : Fr w [] W) (hg : W.grownBy w5 row) (hr : ∀ b, row = some b → w.heap.size ≤ b) : Fr w [] w5 :=
  ⟨hg.os.trans h.os, hg.tape.trans h.tape, hg.output.trans h.output, Nat.le_trans h.size hg.size, fun k hk hm => by
    rw [hg.block k (Nat.lt_of_lt_of_le hk h.size) (fun e => by have := hr k e.symm; omega)]
    exact h.block k hk hm⟩

theorem FX_stp (ps : List (List UInt8 × List UInt8)) (k : Nat) (f t : List UInt8) (h : ps[k]? = some (f, t)) : FX (ps.take (k + 1)) = stp (FX (ps.take k)) (f, t) := by
  have hk : k < ps.length := (List.getElem?_eq_some_iff.1 h).1
  have := FX_succ ps k hk
  rw [(List.getElem?_eq_some_iff.1 h).2] at this
  exact this

theorem mrg_nil (r : Iv) : mrg [] r = [r] := rfl
theorem mrg_app (l : List Iv) (x r : Iv) : mrg (l ++ [x]) r = if rlt x.2 r.1 then l ++ [x] ++ [r] else if rlt x.2 r.2 then l ++ [(x.1, r.2)] else l ++ [x] := by
  unfold mrg
  rw [List.getLast?_append]
  simp

/-- A round that adds a row. -/
theorem Rel.push {w0 : World} {ps : List (List UInt8 × List UInt8)} {m g : Nat} {cur : Array Value} {k : Nat} {v : Value} {wr : World} {us : List Value} (h : Rel w0 ps m g cur k v wr us) (hk : k < m)
    {W w5 : World} {ur : Value} {x : Iv} {g5 cap5 : Nat} (hf : Fr wr [] W) (hu : W.ownsRow wr.heap.size t_impl_Ratio 2 ur 2 (ivC x)) (e : FX (ps.take (k + 1)) = FX (ps.take k) ++ [x])
    (hown : w5.ownsRow w0.heap.size t_Simpl_Ratio 1 (.slice (some ⟨g5, 0, none⟩) ((FX (ps.take k)).length + 1) cap5) ((FX (ps.take k)).length + 1) (us ++ [ur])) (hg : W.grownBy w5 v.ownBlock) (ha : v.ownBlock = some g5 ∨ g5 = W.heap.size) :
    Rel w0 ps m g cur (k + 1) (.slice (some ⟨g5, 0, none⟩) ((FX (ps.take k)).length + 1) cap5) w5 (us ++ [ur]) := by
  have hW := h.fr' hf
  obtain ⟨bu, capu, curu, rfl, hbu, hbk, _⟩ := own2 hu
  have hd : ∀ y ∈ v :: us, y.ownBlock ≠ (Value.slice (some ⟨bu, 0, none⟩) 2 capu).ownBlock := fun y hy he => by
    have := (h.rr.blocks y hy bu he).2
    omega
  have hv : (Value.slice (some ⟨g5, 0, none⟩) ((FX (ps.take k)).length + 1) cap5).ownBlock = v.ownBlock ∨ ∃ g, (Value.slice (some ⟨g5, 0, none⟩) ((FX (ps.take k)).length + 1) cap5).ownBlock = some g ∧ W.heap.size ≤ g := by
    rcases ha with ha | ha
    · exact .inl ha.symm
    · exact .inr ⟨g5, rfl, by omega⟩
  have hu' : W.ownsRow w0.heap.size t_impl_Ratio 2 (.slice (some ⟨bu, 0, none⟩) 2 capu) 2 (ivC x) := own_base hu h.fr.size
  refine ⟨by omega, hW.fr.grown' hg fun b hb => (h.rr.blocks v (by simp) b hb).1, ?_, by rw [e]; exact hW.rr.push x hu' hd hown hg hv, fun y hy => ?_, h.gl⟩
  · rw [hg.block g hW.gs (fun e => h.ne v (by simp) e.symm)]; exact hW.pc
  · rcases List.mem_cons.1 hy with rfl | hy
    · rcases hv with hv | ⟨q, hq, hq2⟩
      · rw [hv]; exact h.ne v (by simp)
      · rw [hq]
        intro e
        simp only [Option.some.injEq] at e
        have := hW.gs
        omega
    · rcases List.mem_append.1 hy with hy | hy
      · exact h.ne y (List.mem_cons_of_mem _ hy)
      · simp only [List.mem_singleton] at hy
        subst hy
        intro e
        simp only [Value.ownBlock, Option.some.injEq] at e
        have := h.gs
        omega

/-- A round that sets the last row's second ratio. -/
theorem Rel.set {w0 : World} {ps : List (List UInt8 × List UInt8)} {m g : Nat} {cur : Array Value} {k : Nat} {v : Value} {wr : World} {us : List Value} {bl capl : Nat} {l : List Iv} {x : Iv} {y : Rt}
    (h : Rel w0 ps m g cur k v wr (us ++ [.slice (some ⟨bl, 0, none⟩) 2 capl])) (hk : k < m) (hn : FX (ps.take k) = l ++ [x]) (e : FX (ps.take (k + 1)) = l ++ [(x.1, y)])
    {W : World} {curl : Array Value} (hf : Fr wr [] W) (hb : W.heap[bl]? = some (.cells curl t_impl_Ratio (0, 0))) :
    Rel w0 ps m g cur (k + 1) v ((W.setCell ⟨bl, 2, none⟩ (.int .i64 y.1)).setCell ⟨bl, 3, none⟩ (.int .i64 y.2)) (us ++ [.slice (some ⟨bl, 0, none⟩) 2 capl]) := by
  have hW := h.fr' hf
  have h1 := heap_setCell_same W bl 2 _ _ (.int .i64 y.1) hb
  have h2 := heap_setCell_same _ bl 3 _ _ (.int .i64 y.2) h1
  have ho : ∀ j, j ≠ bl → ((W.setCell ⟨bl, 2, none⟩ (.int .i64 y.1)).setCell ⟨bl, 3, none⟩ (.int .i64 y.2)).heap[j]? = W.heap[j]? := fun j hj => by
    rw [heap_setCell_other _ _ _ _ hj, heap_setCell_other _ _ _ _ hj]
  have hbl : w0.heap.size ≤ bl := (h.rr.blocks (.slice (some ⟨bl, 0, none⟩) 2 capl) (by simp) bl rfl).1
  have hrr := hW.rr
  rw [hn] at hrr
  refine ⟨by omega, ⟨hW.fr.os, hW.fr.tape, hW.fr.output, by rw [World.size_setCell, World.size_setCell]; exact hW.fr.size, fun j hj hm => by rw [ho j (by omega)]; exact hW.fr.block j hj hm⟩, ?_, by rw [e]; exact hrr.set hb h2 rfl ho, h.ne, h.gl⟩
  rw [ho g (fun e => h.ne (.slice (some ⟨bl, 0, none⟩) 2 capl) (by simp) (by rw [e]; rfl))]
  exact hW.pc

/-- A round that adds nothing. -/
theorem Rel.same {w0 : World} {ps : List (List UInt8 × List UInt8)} {m g : Nat} {cur : Array Value} {k : Nat} {v : Value} {wr : World} {us : List Value} (h : Rel w0 ps m g cur k v wr us) (hm : ps.length = m) (hk : k < m) (e : FX (ps.take (k + 1)) = FX (ps.take k)) : Rel w0 ps m g cur (k + 1) v wr us :=
  ⟨by omega, h.fr, h.pc, by rw [e]; exact h.rr, h.ne, h.gl⟩

end Go.AI
end
