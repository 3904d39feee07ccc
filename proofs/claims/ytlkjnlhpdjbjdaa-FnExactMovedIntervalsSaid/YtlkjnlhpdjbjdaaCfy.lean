/- Contract: what a piece fixes. -/
import Derived.Test.YtlkjnlhpdjbjdaaCfx
set_option autoImplicit false
set_option maxRecDepth 100000
set_option linter.unusedVariables false
namespace Go.AI
open Go.Proofs

/-- Where the interval of an address begins and ends, in 256ths. -/
def sA (a : List UInt8) : Nat := bn a * 2 ^ (8 - a.length)
def sE (a : List UInt8) : Nat := (bn a + 1) * 2 ^ (8 - a.length)

theorem sE_le (a : List UInt8) (h : a.length ≤ 8) : sA a < sE a ∧ sE a ≤ 256 := by
  have h1 := bn_lt a
  have h2 : (bn a + 1) * 2 ^ (8 - a.length) ≤ 2 ^ a.length * 2 ^ (8 - a.length) := Nat.mul_le_mul_right _ (by omega)
  have h3 : 2 ^ a.length * 2 ^ (8 - a.length) = 256 := by rw [← Nat.pow_add, show a.length + (8 - a.length) = 8 by omega]
  have h4 : 0 < 2 ^ (8 - a.length) := Nat.pow_pos (by omega)
  unfold sA sE
  rw [Nat.add_mul] at *
  omega

theorem plF_A (a : List UInt8) (h : a.length ≤ 8) : plF a 1099511627776 0 = sA a * 4294967296 := by
  have := plF_eq a 40 0 (by omega)
  rw [show (2 : Nat) ^ 40 = 1099511627776 by decide] at this
  rw [this, Nat.zero_add]
  unfold sA
  have e : (40 : Nat) - a.length = (8 - a.length) + 32 := by omega
  rw [e, Nat.pow_add, Nat.mul_assoc]

theorem iv_E (a : List UInt8) (h : a.length ≤ 8) : (iv a).2 = sE a * 4294967296 := by
  show plF a 1099511627776 0 + 1099511627776 / 2 ^ a.length = _
  rw [plF_A a h, grain_div (by omega)]
  unfold sA sE
  have e : (40 : Nat) - a.length = (8 - a.length) + 32 := by omega
  rw [e, Nat.pow_add, Nat.add_mul, Nat.one_mul, Nat.add_mul]

theorem shortN_SC (n : Nat) (h : n ≤ 256) : SC cfg.P i_impl_short [.s (.v (.int .i64) ((n * 4294967296 : Nat) : Int))] (.s (.v (.int .i64) (n : Int))) [] := by
  have := impl_short_p1 ((n * 4294967296 : Nat) : Int) (by decide)
  have e : IntKind.wrap .i64 (Int.tdiv ((n * 4294967296 : Nat) : Int) 4294967296) = (n : Int) := by
    have : Int.tdiv ((n * 4294967296 : Nat) : Int) 4294967296 = (n : Int) := by
      rw [Int.tdiv_eq_ediv_of_nonneg (by omega)]
      omega
    rw [this, w64 (by omega) (by omega)]
  rw [e] at this
  exact this

theorem slope_SC (f t : List UInt8) (h1 : f.length ≤ 8) (h2 : t.length ≤ 8) : SC cfg.P i_impl_piece_slope [.s (.v (.pr (.int .i64) (.pr (.int .i64) (.pr (.int .i64) (.int .i64)))) (pc f t))] (.s (.v (.int .i64) ((f.length : Int) - (t.length : Int)))) [] := by
  have := impl_piece_slope_p1 (pc f t)
  have e : IntKind.wrap .i64 ((pc f t).2.2.1 - (pc f t).2.2.2) = (f.length : Int) - (t.length : Int) := by
    show IntKind.wrap .i64 ((f.length : Int) - (t.length : Int)) = _
    rw [w64 (by omega) (by omega)]
  rw [e] at this
  exact this

/-- The number that is fixed by a piece that is not as long as its image: over and under the line. -/
def fxN (f t : List UInt8) : Int := if t.length < f.length then ((sA f * 2 ^ (f.length - t.length) : Nat) : Int) - (sA t : Int) else ((sA t * 2 ^ (t.length - f.length) : Nat) : Int) - (sA f : Int)
def fxD (f t : List UInt8) : Nat := if t.length < f.length then 256 * (2 ^ (f.length - t.length) - 1) else 256 * (2 ^ (t.length - f.length) - 1)

/-- What a piece fixes. -/
def fixI (f t : List UInt8) : List Rt × Bool :=
  if f.length = t.length then ([rt (sA f : Int) 256, rt (sE f : Int) 256], decide (sA f = sA t))
  else if rlt (rt (fxN f t) (fxD f t)) (rt (sA f : Int) 256) || rlt (rt (sE f : Int) 256) (rt (fxN f t) (fxD f t)) then ([], false)
  else ([rt (fxN f t) (fxD f t), rt (fxN f t) (fxD f t)], true)

theorem rt_small (n : Int) (d : Nat) (h1 : -2 ^ 30 ≤ n) (h2 : n ≤ 2 ^ 30) (hd : 0 < d) (hd2 : d ≤ 2 ^ 30) : small (rt n d) := by
  have hg0 := Nat.gcd_pos_of_pos_right n.natAbs hd
  have hg : (0 : Int) < ((Nat.gcd n.natAbs d : Nat) : Int) := by omega
  have b1 := div_le_abs n _ hg
  have b2 := div_le_abs (d : Int) _ hg
  have b3 : 0 < (d : Int) / ((Nat.gcd n.natAbs d : Nat) : Int) := by
    have : (Nat.gcd n.natAbs d) ≤ d := Nat.gcd_le_right _ hd
    exact Int.ediv_pos_of_pos_of_dvd (by omega) (by omega) (Int.natCast_dvd_natCast.2 (Nat.gcd_dvd_right _ _))
  unfold small rt
  refine ⟨?_, ?_, b3, ?_⟩
  · show _ ≤ n / _; omega
  · show n / _ ≤ _; omega
  · show (d : Int) / _ ≤ _; omega

theorem pow_8 (k : Nat) (h : k ≤ 8) : 1 ≤ 2 ^ k ∧ 2 ^ k ≤ 256 := ⟨Nat.one_le_two_pow, by have := Nat.pow_le_pow_right (n := 2) (by omega) h; omega⟩

theorem mulp (n k : Nat) (h : k ≤ 8) (hn : n ≤ 256) : n * 2 ^ k ≤ 65536 := by
  have := Nat.mul_le_mul hn (pow_8 k h).2
  omega

theorem fx_bd (f t : List UInt8) (h1 : f.length ≤ 8) (h2 : t.length ≤ 8) (hne : f.length ≠ t.length) : -2 ^ 20 ≤ fxN f t ∧ fxN f t ≤ 2 ^ 20 ∧ 0 < fxD f t ∧ fxD f t ≤ 2 ^ 20 := by
  have a1 := sE_le f h1
  have a2 := sE_le t h2
  unfold fxN fxD
  split
  · rename_i hlt
    have := mulp (sA f) (f.length - t.length) (by omega) (by omega)
    have := pow_8 (f.length - t.length) (by omega)
    have h3 : 2 ≤ 2 ^ (f.length - t.length) := by have := Nat.pow_le_pow_right (n := 2) (by omega) (show 1 ≤ f.length - t.length by omega); omega
    omega
  · rename_i hlt
    have := mulp (sA t) (t.length - f.length) (by omega) (by omega)
    have := pow_8 (t.length - f.length) (by omega)
    have h3 : 2 ≤ 2 ^ (t.length - f.length) := by have := Nat.pow_le_pow_right (n := 2) (by omega) (show 1 ≤ t.length - f.length by omega); omega
    omega

theorem shl_w (c : Nat) (k : Nat) (hc : c ≤ 256) (hk : k ≤ 8) : IntKind.wrap .i64 ((c : Int) * 2 ^ (min k (IntKind.bits .i64))) = ((c * 2 ^ k : Nat) : Int) := by
  have hmin : min k (IntKind.bits .i64) = k := by
    have : IntKind.bits .i64 = 64 := rfl
    omega
  have := mulp c k hk hc
  rw [hmin]
  have e : (c : Int) * 2 ^ k = ((c * 2 ^ k : Nat) : Int) := by push_cast; rfl
  rw [e, w64] <;> omega

theorem fixedIn_SC (f t : List UInt8) (h1 : f.length ≤ 8) (h2 : t.length ≤ 8) :
    SC cfg.P i_impl_piece_fixedIn [.s (.v (.pr (.int .i64) (.pr (.int .i64) (.pr (.int .i64) (.int .i64)))) (pc f t))] (.tup [.own t_impl_Ratio RK (fixI f t).1, .v .bool (fixI f t).2]) [] := by
  have a1 := sE_le f h1
  have a2 := sE_le t h2
  have s1 : SC cfg.P i_impl_short [.s (.v (.int .i64) (pc f t).1)] (.s (.v (.int .i64) (sA f : Int))) [] := by
    have := shortN_SC (sA f) (by omega)
    rw [← plF_A f h1] at this
    exact this
  have s2 : SC cfg.P i_impl_short [.s (.v (.int .i64) (pc f t).2.1)] (.s (.v (.int .i64) (sA t : Int))) [] := by
    have := shortN_SC (sA t) (by omega)
    rw [← plF_A t h2] at this
    exact this
  have s3 := end_SC f t (by omega)
  have s4 : SC cfg.P i_impl_short [.s (.v (.int .i64) (((iv f).2 : Nat) : Int))] (.s (.v (.int .i64) (sE f : Int))) [] := by
    have := shortN_SC (sE f) (by omega)
    rw [← iv_E f h1] at this
    exact this
  have s5 := slope_SC f t h1 h2
  have rA : SC cfg.P i_impl_ratio [.s (.v (.int .i64) (sA f : Int)), .s (.v (.int .i64) (256 : Int))] (.s (.v RK (rt (sA f : Int) 256))) [] := ratio_SC (sA f : Int) 256 (by omega) (by omega) (by omega) (by omega)
  have rE : SC cfg.P i_impl_ratio [.s (.v (.int .i64) (sE f : Int)), .s (.v (.int .i64) (256 : Int))] (.s (.v RK (rt (sE f : Int) 256))) [] := ratio_SC (sE f : Int) 256 (by omega) (by omega) (by omega) (by omega)
  unfold fixI
  by_cases hz : f.length = t.length
  · rw [if_pos hz]
    have hz' : (f.length : Int) - (t.length : Int) = 0 := by omega
    by_cases he : sA f = sA t
    · rw [show decide (sA f = sA t) = true from decide_eq_true he]
      exact impl_piece_fixedIn_p1 _ _ _ _ _ _ _ _ s1 s2 s3 s4 s5 hz' rA rE (by omega)
    · rw [show decide (sA f = sA t) = false from decide_eq_false he]
      exact impl_piece_fixedIn_p2 _ _ _ _ _ _ _ _ s1 s2 s3 s4 s5 hz' rA rE (by omega)
  · rw [if_neg hz]
    obtain ⟨b1, b2, b3, b4⟩ := fx_bd f t h1 h2 hz
    have sr := rt_small (fxN f t) (fxD f t) (by omega) (by omega) b3 (by omega)
    have sa := rt_small (sA f : Int) 256 (by omega) (by omega) (by omega) (by omega)
    have se := rt_small (sE f : Int) 256 (by omega) (by omega) (by omega) (by omega)
    have rN := ratio_SC (fxN f t) (fxD f t) (by omega) (by omega) b3 (by omega)
    have l1 := less_SC _ _ sr sa
    have l2 := less_SC _ _ se sr
    generalize rt (fxN f t) (fxD f t) = r at sr rN l1 l2 ⊢
    by_cases hlt : t.length < f.length
    · have hm : maxI ((f.length : Int) - (t.length : Int)) 0 = ((f.length - t.length : Nat) : Int) := by unfold maxI; split <;> omega
      have p1 := shl_w (sA f) (f.length - t.length) (by omega) (by omega)
      have p2 := shl_w 1 (f.length - t.length) (by omega) (by omega)
      have q1 := mulp (sA f) (f.length - t.length) (by omega) (by omega)
      have q2 := pow_8 (f.length - t.length) (by omega)
      have en : IntKind.wrap .i64 ((IntKind.wrap .i64 ((sA f : Int) * 2 ^ (min ((maxI ((f.length : Int) - (t.length : Int)) (0 : Int))).toNat (IntKind.bits .i64)))) - (sA t : Int)) = fxN f t := by
        rw [hm, Int.toNat_natCast, p1, w64 (by omega) (by omega)]
        unfold fxN
        rw [if_pos hlt]
      have ed : IntKind.wrap .i64 ((256 : Int) * (IntKind.wrap .i64 ((IntKind.wrap .i64 ((1 : Int) * 2 ^ (min ((maxI ((f.length : Int) - (t.length : Int)) (0 : Int))).toNat (IntKind.bits .i64)))) - (1 : Int)))) = ((fxD f t : Nat) : Int) := by
        have p2' : IntKind.wrap .i64 ((1 : Int) * 2 ^ (min (f.length - t.length) (IntKind.bits .i64))) = ((1 * 2 ^ (f.length - t.length) : Nat) : Int) := p2
        rw [hm, Int.toNat_natCast, p2', Nat.one_mul, w64 (n := ((2 ^ (f.length - t.length) : Nat) : Int) - 1) (by omega) (by omega), w64 (by omega) (by omega)]
        unfold fxD
        rw [if_pos hlt]
        omega
      rw [← en, ← ed] at rN
      cases c1 : rlt r (rt (sA f : Int) 256)
      · rw [c1] at l1
        cases c2 : rlt (rt (sE f : Int) 256) r
        · rw [c2] at l2
          exact impl_piece_fixedIn_p8 _ _ _ _ _ _ _ _ _ s1 s2 s3 s4 s5 (by omega) (by omega) (by omega) rN rA l1 rE l2
        · rw [c2] at l2
          exact impl_piece_fixedIn_p7 _ _ _ _ _ _ _ _ _ s1 s2 s3 s4 s5 (by omega) (by omega) (by omega) rN rA l1 rE l2
      · rw [c1] at l1
        exact impl_piece_fixedIn_p6 _ _ _ _ _ _ _ _ s1 s2 s3 s4 s5 (by omega) (by omega) (by omega) rN rA l1
    · have hm : IntKind.wrap .i64 (0 - ((f.length : Int) - (t.length : Int))) = ((t.length - f.length : Nat) : Int) := by rw [w64 (by omega) (by omega)]; omega
      have p1 := shl_w (sA t) (t.length - f.length) (by omega) (by omega)
      have p2 := shl_w 1 (t.length - f.length) (by omega) (by omega)
      have q1 := mulp (sA t) (t.length - f.length) (by omega) (by omega)
      have q2 := pow_8 (t.length - f.length) (by omega)
      have en : IntKind.wrap .i64 ((IntKind.wrap .i64 ((sA t : Int) * 2 ^ (min ((IntKind.wrap .i64 (0 - ((f.length : Int) - (t.length : Int))))).toNat (IntKind.bits .i64)))) - (sA f : Int)) = fxN f t := by
        rw [hm, Int.toNat_natCast, p1, w64 (by omega) (by omega)]
        unfold fxN
        rw [if_neg hlt]
      have ed : IntKind.wrap .i64 ((256 : Int) * (IntKind.wrap .i64 ((IntKind.wrap .i64 ((1 : Int) * 2 ^ (min ((IntKind.wrap .i64 (0 - ((f.length : Int) - (t.length : Int))))).toNat (IntKind.bits .i64)))) - (1 : Int)))) = ((fxD f t : Nat) : Int) := by
        have p2' : IntKind.wrap .i64 ((1 : Int) * 2 ^ (min (t.length - f.length) (IntKind.bits .i64))) = ((1 * 2 ^ (t.length - f.length) : Nat) : Int) := p2
        rw [hm, Int.toNat_natCast, p2', Nat.one_mul, w64 (n := ((2 ^ (t.length - f.length) : Nat) : Int) - 1) (by omega) (by omega), w64 (by omega) (by omega)]
        unfold fxD
        rw [if_neg hlt]
        omega
      rw [← en, ← ed] at rN
      have hmx : 0 ≤ maxI ((f.length : Int) - (t.length : Int)) 0 := by unfold maxI; split <;> omega
      cases c1 : rlt r (rt (sA f : Int) 256)
      · rw [c1] at l1
        cases c2 : rlt (rt (sE f : Int) 256) r
        · rw [c2] at l2
          exact impl_piece_fixedIn_p5 _ _ _ _ _ _ _ _ _ s1 s2 s3 s4 s5 (by omega) hmx (by omega) (by omega) rN rA l1 rE l2
        · rw [c2] at l2
          exact impl_piece_fixedIn_p4 _ _ _ _ _ _ _ _ _ s1 s2 s3 s4 s5 (by omega) hmx (by omega) (by omega) rN rA l1 rE l2
      · rw [c1] at l1
        exact impl_piece_fixedIn_p3 _ _ _ _ _ _ _ _ s1 s2 s3 s4 s5 (by omega) hmx (by omega) (by omega) rN rA l1

end Go.AI
