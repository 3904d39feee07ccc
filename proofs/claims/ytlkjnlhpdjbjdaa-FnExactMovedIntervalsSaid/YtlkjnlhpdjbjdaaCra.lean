/- Plain law: numbers in lowest terms, compared. -/
import Derived.Test.YtlkjnlhpdjbjdaaCwC
set_option autoImplicit false
set_option maxRecDepth 100000
set_option linter.unusedVariables false
namespace Go.AI
open Go.Proofs

theorem gcd_cross (a d a' d' : Nat) (hd : 0 < d) (hd' : 0 < d') (h : a * d' = a' * d) : Nat.gcd a d * d' = Nat.gcd a' d' * d := by
  rw [← Nat.gcd_mul_right, h, ← Nat.gcd_mul_right, Nat.mul_comm d d']

/-- What lowest terms are. -/
theorem rt_spec (n : Int) (d : Nat) (hd : 0 < d) : ∃ g : Int, 0 < g ∧ g = ((Nat.gcd n.natAbs d : Nat) : Int) ∧ n = g * (rt n d).1 ∧ (d : Int) = g * (rt n d).2 ∧ 0 < (rt n d).2 := by
  have hg0 := Nat.gcd_pos_of_pos_right n.natAbs hd
  refine ⟨((Nat.gcd n.natAbs d : Nat) : Int), by omega, rfl, ?_, ?_, ?_⟩
  · exact (Int.mul_ediv_cancel' (Int.ofNat_dvd_left.2 (Nat.gcd_dvd_left _ _))).symm
  · exact (Int.mul_ediv_cancel' (Int.natCast_dvd_natCast.2 (Nat.gcd_dvd_right _ _))).symm
  · exact Int.ediv_pos_of_pos_of_dvd (by omega) (by omega) (Int.natCast_dvd_natCast.2 (Nat.gcd_dvd_right _ _))

theorem rt_eq_of (n n' : Int) (d d' : Nat) (hd : 0 < d) (hd' : 0 < d') (h : n * d' = n' * d) : rt n d = rt n' d' := by
  obtain ⟨g, hg, eg, e1, e2, e3⟩ := rt_spec n d hd
  obtain ⟨g', hg', eg', e1', e2', e3'⟩ := rt_spec n' d' hd'
  have hab : n.natAbs * d' = n'.natAbs * d := by
    have := congrArg Int.natAbs h
    rw [Int.natAbs_mul, Int.natAbs_mul, Int.natAbs_natCast, Int.natAbs_natCast] at this
    exact this
  have hgc := gcd_cross n.natAbs d n'.natAbs d' hd hd' hab
  have hgi : g * (d' : Int) = g' * (d : Int) := by
    rw [eg, eg', ← Int.natCast_mul, ← Int.natCast_mul, hgc]
  generalize rt n d = x at *
  generalize rt n' d' = y at *
  obtain ⟨x1, x2⟩ := x
  obtain ⟨y1, y2⟩ := y
  simp only at e1 e2 e3 e1' e2' e3'
  have k2 : x2 = y2 := by
    rw [e2, e2'] at hgi
    have : (g * g') * y2 = (g * g') * x2 := by rw [Int.mul_assoc, hgi, Int.mul_comm g g', Int.mul_assoc]
    exact (Int.eq_of_mul_eq_mul_left (Int.ne_of_gt (Int.mul_pos hg hg')) this).symm
  have k1 : x1 = y1 := by
    subst k2
    rw [e1, e2, e1', e2'] at h
    have : (g * g' * x2) * x1 = (g * g' * x2) * y1 := by
      have q1 : (g * g' * x2) * x1 = g * x1 * (g' * x2) := by ac_rfl
      have q2 : (g * g' * x2) * y1 = g' * y1 * (g * x2) := by ac_rfl
      rw [q1, q2, h]
    exact Int.eq_of_mul_eq_mul_left (Int.ne_of_gt (Int.mul_pos (Int.mul_pos hg hg') e3)) this
  rw [k1, k2]

theorem rt_cross (n n' : Int) (d d' : Nat) (hd : 0 < d) (hd' : 0 < d') (h : rt n d = rt n' d') : n * d' = n' * d := by
  obtain ⟨g, hg, _, e1, e2, _⟩ := rt_spec n d hd
  obtain ⟨g', hg', _, e1', e2', _⟩ := rt_spec n' d' hd'
  rw [← h] at e1' e2'
  generalize rt n d = x at *
  calc n * (d' : Int) = (g * x.1) * (g' * x.2) := by rw [← e1, ← e2']
    _ = (g' * x.1) * (g * x.2) := by ac_rfl
    _ = n' * (d : Int) := by rw [← e1', ← e2]

theorem rlt_rt (n n' : Int) (d d' : Nat) (hd : 0 < d) (hd' : 0 < d') : rlt (rt n d) (rt n' d') = decide (n * d' < n' * d) := by
  obtain ⟨g, hg, _, e1, e2, _⟩ := rt_spec n d hd
  obtain ⟨g', hg', _, e1', e2', _⟩ := rt_spec n' d' hd'
  unfold rlt
  generalize rt n d = x at *
  generalize rt n' d' = y at *
  have k : x.1 * y.2 < y.1 * x.2 ↔ n * d' < n' * d := by
    have q1 : n * (d' : Int) = (g * g') * (x.1 * y.2) := by rw [e1, e2']; ac_rfl
    have q2 : n' * (d : Int) = (g * g') * (y.1 * x.2) := by rw [e1', e2]; ac_rfl
    rw [q1, q2]
    exact (Int.mul_lt_mul_left (Int.mul_pos hg hg')).symm
  exact decide_eq_decide.2 k

/-- In lowest terms. -/
def can (x : Rt) : Prop := ∃ (n : Int) (d : Nat), 0 < d ∧ x = rt n d

theorem can_rt (n : Int) (d : Nat) (hd : 0 < d) : can (rt n d) := ⟨n, d, hd, rfl⟩

theorem can_pos {x : Rt} (h : can x) : 0 < x.2 := by obtain ⟨n, d, hd, rfl⟩ := h; obtain ⟨_, _, _, _, _, h⟩ := rt_spec n d hd; exact h

theorem can_self {x : Rt} (h : can x) : x = rt x.1 x.2.toNat := by
  have hp := can_pos h
  obtain ⟨n, d, hd, rfl⟩ := h
  obtain ⟨g, hg, _, e1, e2, e3⟩ := rt_spec n d hd
  refine rt_eq_of _ _ _ _ hd (by omega) ?_
  rw [Int.toNat_of_nonneg (by omega)]
  generalize rt n d = x at *
  calc n * x.2 = g * x.1 * x.2 := by rw [← e1]
    _ = x.1 * (g * x.2) := by ac_rfl
    _ = x.1 * (d : Int) := by rw [← e2]

/-- Not greater. -/
def rle (x y : Rt) : Prop := x.1 * y.2 ≤ y.1 * x.2

theorem rle_iff (x y : Rt) : rle x y ↔ rlt y x = false := by unfold rle rlt; rw [decide_eq_false_iff_not]; omega
theorem rle_of_lt {x y : Rt} (h : rlt x y = true) : rle x y := by unfold rle; unfold rlt at h; have := of_decide_eq_true h; omega
theorem rle_refl (x : Rt) : rle x x := Int.le_refl _

theorem rle_trans {x y z : Rt} (hx : 0 < x.2) (hy : 0 < y.2) (hz : 0 < z.2) (h1 : rle x y) (h2 : rle y z) : rle x z := by
  unfold rle at *
  have a1 : x.1 * y.2 * z.2 ≤ y.1 * x.2 * z.2 := Int.mul_le_mul_of_nonneg_right h1 (by omega)
  have a2 : y.1 * z.2 * x.2 ≤ z.1 * y.2 * x.2 := Int.mul_le_mul_of_nonneg_right h2 (by omega)
  have a3 : x.1 * z.2 * y.2 ≤ z.1 * x.2 * y.2 := by
    have b1 : x.1 * z.2 * y.2 = x.1 * y.2 * z.2 := by ac_rfl
    have b2 : y.1 * x.2 * z.2 = y.1 * z.2 * x.2 := by ac_rfl
    have b3 : z.1 * x.2 * y.2 = z.1 * y.2 * x.2 := by ac_rfl
    omega
  exact Int.le_of_mul_le_mul_right a3 hy

theorem can_antisymm {x y : Rt} (hx : can x) (hy : can y) (h1 : rle x y) (h2 : rle y x) : x = y := by
  have p1 := can_pos hx
  have p2 := can_pos hy
  unfold rle at h1 h2
  rw [can_self hx, can_self hy]
  exact rt_eq_of _ _ _ _ (by omega) (by omega) (by rw [Int.toNat_of_nonneg (by omega), Int.toNat_of_nonneg (by omega)]; omega)

end Go.AI
