/- A part of the road: what it proves stands in its last texts. -/
import Derived.Test.YtnhjfdkogbelaaaJB
import Derived.Test.YtnhjfdkogbelaaaGX
import Derived.Test.YtnhjfdkogbelaaaGZ
import Derived.Test.YtnhjfdkogbelaaaJA
section
/- Plain law: numbers in lowest terms, compared. -/
set_option autoImplicit false
set_option maxRecDepth 100000
set_option linter.unusedVariables false
namespace Go.AI
open Go.Proofs

theorem gcd_cross (a d a' d' : Nat) (hd : 0 < d) (hd' : 0 < d') (h : a * d' = a' * d) : Nat.gcd a d * d' = Nat.gcd a' d' * d := by
  rw [← Nat.gcd_mul_right, h, ← Nat.gcd_mul_right, Nat.mul_comm d d']

/-- What lowest terms are. -/
theorem rt_spec (n : Int) (d : Nat) (hd : 0 < d) : ∃ g : Int, 0 < g ∧ g = ((Nat.gcd n.natAbs d : Nat) : Int) ∧ n = g * (rt n d).1 ∧ (d : Int) = g * (rt n d).2 ∧ 0 < (rt n d).2 := by
  have hg0 := Nat.gcd_pos_of_pos_right n.natAbs hd
  refine ⟨((Nat.gcd n.natAbs d : Nat) : Int), by omega, rfl, ?_, ?_, ?_⟩
  · exact (Int.mul_ediv_cancel' (Int.ofNat_dvd_left.2 (Nat.gcd_dvd_left _ _))).symm
  · exact (Int.mul_ediv_cancel' (Int.natCast_dvd_natCast.2 (Nat.gcd_dvd_right _ _))).symm
  · exact Int.ediv_pos_of_pos_of_dvd (by omega) (by omega) (Int.natCast_dvd_natCast.2 (Nat.gcd_dvd_right _ _))

theorem rt_eq_of (n n' : Int) (d d' : Nat) (hd : 0 < d) (hd' : 0 < d') (h : n * d' = n' * d) : rt n d = rt n' d' := by
  obtain ⟨g, hg, eg, e1, e2, e3⟩ := rt_spec n d hd
  obtain ⟨g', hg', eg', e1', e2', e3'⟩ := rt_spec n' d' hd'
  have hab : n.natAbs * d' = n'.natAbs * d := by
    have := congrArg Int.natAbs h
    rw [Int.natAbs_mul, Int.natAbs_mul, Int.natAbs_natCast, Int.natAbs_natCast] at this
    exact this
  have hgc := gcd_cross n.natAbs d n'.natAbs d' hd hd' hab
  have hgi : g * (d' : Int) = g' * (d : Int) := by
    rw [eg, eg', ← Int.natCast_mul, ← Int.natCast_mul, hgc]
  generalize rt n d = x at *
  generalize rt n' d' = y at *
  obtain ⟨x1, x2⟩ := x
  obtain ⟨y1, y2⟩ := y
  simp only at e1 e2 e3 e1' e2' e3'
  have k2 : x2 = y2 := by
    rw [e2, e2'] at hgi
    have : (g * g') * y2 = (g * g') * x2 := by rw [Int.mul_assoc, hgi, Int.mul_comm g g', Int.mul_assoc]
    exact (Int.eq_of_mul_eq_mul_left (Int.ne_of_gt (Int.mul_pos hg hg')) this).symm
  have k1 : x1 = y1 := by
    subst k2
    rw [e1, e2, e1', e2'] at h
    have : (g * g' * x2) * x1 = (g * g' * x2) * y1 := by
      have q1 : (g * g' * x2) * x1 = g * x1 * (g' * x2) := by ac_rfl
      have q2 : (g * g' * x2) * y1 = g' * y1 * (g * x2) := by ac_rfl
      rw [q1, q2, h]
    exact Int.eq_of_mul_eq_mul_left (Int.ne_of_gt (Int.mul_pos (Int.mul_pos hg hg') e3)) this
  rw [k1, k2]

theorem rt_cross (n n' : Int) (d d' : Nat) (hd : 0 < d) (hd' : 0 < d') (h : rt n d = rt n' d') : n * d' = n' * d := by
  obtain ⟨g, hg, _, e1, e2, _⟩ := rt_spec n d hd
  obtain ⟨g', hg', _, e1', e2', _⟩ := rt_spec n' d' hd'
  rw [← h] at e1' e2'
  generalize rt n d = x at *
  calc n * (d' : Int) = (g * x.1) * (g' * x.2) := by rw [← e1, ← e2']
    _ = (g' * x.1) * (g * x.2) := by ac_rfl
    _ = n' * (d : Int) := by rw [← e1', ← e2]

theorem rlt_rt (n n' : Int) (d d' : Nat) (hd : 0 < d) (hd' : 0 < d') : rlt (rt n d) (rt n' d') = decide (n * d' < n' * d) := by
  obtain ⟨g, hg, _, e1, e2, _⟩ := rt_spec n d hd
  obtain ⟨g', hg', _, e1', e2', _⟩ := rt_spec n' d' hd'
  unfold rlt
  generalize rt n d = x at *
  generalize rt n' d' = y at *
  have k : x.1 * y.2 < y.1 * x.2 ↔ n * d' < n' * d := by
    have q1 : n * (d' : Int) = (g * g') * (x.1 * y.2) := by rw [e1, e2']; ac_rfl
    have q2 : n' * (d : Int) = (g * g') * (y.1 * x.2) := by rw [e1', e2]; ac_rfl
    rw [q1, q2]
    exact (Int.mul_lt_mul_left (Int.mul_pos hg hg')).symm
  exact decide_eq_decide.2 k

/-- In lowest terms. -/
def can (x : Rt) : Prop := ∃ (n : Int) (d : Nat), 0 < d ∧ x = rt n d

theorem can_rt (n : Int) (d : Nat) (hd : 0 < d) : can (rt n d) := ⟨n, d, hd, rfl⟩

theorem can_pos {x : Rt} (h : can x) : 0 < x.2 := by obtain ⟨n, d, hd, rfl⟩ := h; obtain ⟨_, _, _, _, _, h⟩ := rt_spec n d hd; exact h

theorem can_self {x : Rt} (h : can x) : x = rt x.1 x.2.toNat := by
  have hp := can_pos h
  obtain ⟨n, d, hd, rfl⟩ := h
  obtain ⟨g, hg, _, e1, e2, e3⟩ := rt_spec n d hd
  refine rt_eq_of _ _ _ _ hd (by omega) ?_
  rw [Int.toNat_of_nonneg (by omega)]
  generalize rt n d = x at *
  calc n * x.2 = g * x.1 * x.2 := by rw [← e1]
    _ = x.1 * (g * x.2) := by ac_rfl
    _ = x.1 * (d : Int) := by rw [← e2]

/-- Not greater. -/
def rle (x y : Rt) : Prop := x.1 * y.2 ≤ y.1 * x.2

theorem rle_iff (x y : Rt) : rle x y ↔ rlt y x = false := by unfold rle rlt; rw [decide_eq_false_iff_not]; omega
theorem rle_of_lt {x y : Rt} (h : rlt x y = true) : rle x y := by unfold rle; unfold rlt at h; have := of_decide_eq_true h; omega
theorem rle_refl (x : Rt) : rle x x := Int.le_refl _

theorem rle_trans {x y z : Rt} (hx : 0 < x.2) (hy : 0 < y.2) (hz : 0 < z.2) (h1 : rle x y) (h2 : rle y z) : rle x z := by
  unfold rle at *
  have a1 : x.1 * y.2 * z.2 ≤ y.1 * x.2 * z.2 := Int.mul_le_mul_of_nonneg_right h1 (by omega)
  have a2 : y.1 * z.2 * x.2 ≤ z.1 * y.2 * x.2 := Int.mul_le_mul_of_nonneg_right h2 (by omega)
  have a3 : x.1 * z.2 * y.2 ≤ z.1 * x.2 * y.2 := by
    have b1 : x.1 * z.2 * y.2 = x.1 * y.2 * z.2 := by ac_rfl
    have b2 : y.1 * x.2 * z.2 = y.1 * z.2 * x.2 := by ac_rfl
    have b3 : z.1 * x.2 * y.2 = z.1 * y.2 * x.2 := by ac_rfl
    omega
  exact Int.le_of_mul_le_mul_right a3 hy

theorem can_antisymm {x y : Rt} (hx : can x) (hy : can y) (h1 : rle x y) (h2 : rle y x) : x = y := by
  have p1 := can_pos hx
  have p2 := can_pos hy
  unfold rle at h1 h2
  rw [can_self hx, can_self hy]
  exact rt_eq_of _ _ _ _ (by omega) (by omega) (by rw [Int.toNat_of_nonneg (by omega), Int.toNat_of_nonneg (by omega)]; omega)

end Go.AI
end

section
/- Contract: what is fixed, the reference's side. -/
set_option autoImplicit false
set_option maxRecDepth 100000
set_option linter.unusedVariables false
namespace Go.AI
open Go.Proofs

abbrev ivL (l : List Iv) : List (List Rt) := l.map fun x => [x.1, x.2]

theorem frA_rt (a : List UInt8) : frA a = rt (bn a : Int) (2 ^ a.length) := by
  unfold frA rt
  rw [Int.natAbs_natCast]
  rfl

theorem two8 (a : List UInt8) (h : a.length ≤ 8) : 2 ^ (8 - a.length) * 2 ^ a.length = 256 := by rw [← Nat.pow_add, show 8 - a.length + a.length = 8 by omega]

theorem rt_A (a : List UInt8) (h : a.length ≤ 8) : rt (sA a : Int) 256 = rt (bn a : Int) (2 ^ a.length) := by
  refine rt_eq_of _ _ _ _ (by omega) (Nat.pow_pos (by omega)) ?_
  have e := two8 a h
  unfold sA
  rw [← Int.natCast_mul, ← Int.natCast_mul, Nat.mul_assoc, e]

theorem rt_E (a : List UInt8) (h : a.length ≤ 8) : rt (sE a : Int) 256 = rt ((bn a + 1 : Nat) : Int) (2 ^ a.length) := by
  refine rt_eq_of _ _ _ _ (by omega) (Nat.pow_pos (by omega)) ?_
  have e := two8 a h
  unfold sE
  rw [← Int.natCast_mul, ← Int.natCast_mul, Nat.mul_assoc, e]

theorem sA_inj (f t : List UInt8) (h : f.length = t.length) : sA f = sA t ↔ frA f = frA t := by
  rw [frA_rt, frA_rt]
  unfold sA
  rw [h]
  have hp : 0 < 2 ^ (8 - t.length) := Nat.pow_pos (by omega)
  have hp2 : 0 < 2 ^ t.length := Nat.pow_pos (by omega)
  constructor
  · intro e
    have := Nat.eq_of_mul_eq_mul_right hp e
    rw [this]
  · intro e
    have := rt_cross _ _ _ _ hp2 hp2 e
    have h2 : ((bn f : Nat) : Int) = (bn t : Int) := Int.eq_of_mul_eq_mul_right (by omega) this
    rw [show bn f = bn t by omega]

/-- The reduced numbers of an address, with what they were reduced by. -/
theorem frA_parts (a : List UInt8) (h : a.length ≤ 8) : ∃ n d g : Nat, frA a = ((n : Int), (d : Int)) ∧ n * g = bn a ∧ d * g = 2 ^ a.length ∧ 0 < g ∧ 0 < d ∧ d ≤ 256 ∧ n ≤ 256 := by
  have hp : 0 < 2 ^ a.length := Nat.pow_pos (by omega)
  have hp2 : 2 ^ a.length ≤ 256 := (pow_8 a.length h).2
  have hl := bn_lt a
  have hg := Nat.gcd_pos_of_pos_right (bn a) hp
  refine ⟨bn a / Nat.gcd (bn a) (2 ^ a.length), 2 ^ a.length / Nat.gcd (bn a) (2 ^ a.length), Nat.gcd (bn a) (2 ^ a.length), rfl, Nat.div_mul_cancel (Nat.gcd_dvd_left _ _), Nat.div_mul_cancel (Nat.gcd_dvd_right _ _), hg, ?_, ?_, ?_⟩
  · exact Nat.div_pos (Nat.le_of_dvd hp (Nat.gcd_dvd_right _ _)) hg
  · have := Nat.div_le_self (2 ^ a.length) (Nat.gcd (bn a) (2 ^ a.length)); omega
  · have := Nat.div_le_self (bn a) (Nat.gcd (bn a) (2 ^ a.length)); omega

theorem shl1_w (k : Nat) (hk : k ≤ 8) : IntKind.wrap .i64 ((1 : Int) * 2 ^ (min ((k : Int)).toNat (IntKind.bits .i64))) = ((2 ^ k : Nat) : Int) := by
  have := shl_w 1 k (by omega) hk
  rw [Int.toNat_natCast]
  rw [show ((1 : Nat) : Int) = 1 from rfl, Nat.one_mul] at this
  exact this

theorem end_num (a : List UInt8) (h : a.length ≤ 8) (n d g : Nat) (e1 : n * g = bn a) (e2 : d * g = 2 ^ a.length) (hd : 0 < d) :
    IntKind.wrap .i64 ((IntKind.wrap .i64 ((n : Int) * (IntKind.wrap .i64 (Int.tdiv ((2 ^ a.length : Nat) : Int) (d : Int))))) + (1 : Int)) = ((bn a + 1 : Nat) : Int) := by
  have hl := bn_lt a
  have hp2 : 2 ^ a.length ≤ 256 := (pow_8 a.length h).2
  have q : Int.tdiv ((2 ^ a.length : Nat) : Int) (d : Int) = (g : Int) := by
    rw [← e2, Int.natCast_mul, Int.mul_tdiv_cancel_left _ (by omega)]
  have hg : g ≤ 256 := by
    have := Nat.le_mul_of_pos_left g hd
    omega
  rw [q, w64 (n := (g : Int)) (by omega) (by omega)]
  have e3 : (n : Int) * (g : Int) = ((bn a : Nat) : Int) := by rw [← e1, Int.natCast_mul]
  rw [e3, w64 (n := ((bn a : Nat) : Int)) (by omega) (by omega), w64 (by omega) (by omega)]
  omega

theorem mul3 (a b c : Nat) (ha : a ≤ 256) (hb : b ≤ 256) (hc : c ≤ 256) : a * b ≤ 65536 ∧ a * b * c ≤ 16777216 := by
  have h1 := Nat.mul_le_mul ha hb
  have h2 := Nat.mul_le_mul h1 hc
  omega

theorem wN (n : Nat) (h : n ≤ 2 ^ 40) : IntKind.wrap .i64 (n : Int) = (n : Int) := by rw [w64 (by omega) (by omega)]

theorem num_w (n u b m v d : Nat) (hn : n ≤ 256) (hu : u ≤ 256) (hb : b ≤ 256) (hm : m ≤ 256) (hv : v ≤ 256) (hd : d ≤ 256) :
    IntKind.wrap .i64 ((IntKind.wrap .i64 ((IntKind.wrap .i64 ((IntKind.wrap .i64 ((n : Int) * (u : Int))) * (b : Int))) - (IntKind.wrap .i64 ((IntKind.wrap .i64 ((m : Int) * (v : Int))) * (d : Int))))) * (1 : Int)) = ((n * u * b : Nat) : Int) - ((m * v * d : Nat) : Int) := by
  have a1 := mul3 n u b hn hu hb
  have a2 := mul3 m v d hm hv hd
  rw [← Int.natCast_mul, wN (n * u) (by omega), ← Int.natCast_mul, wN (n * u * b) (by omega), ← Int.natCast_mul, wN (m * v) (by omega), ← Int.natCast_mul, wN (m * v * d) (by omega), Int.mul_one, w64 (n := ((n * u * b : Nat) : Int) - ((m * v * d : Nat) : Int)) (by omega) (by omega), w64 (by omega) (by omega)]

theorem den_w (u v a b : Nat) (hu : u ≤ 256) (hv : v ≤ 256) (ha : a ≤ 256) (hb : b ≤ 256) (h : v < u) :
    IntKind.wrap .i64 ((IntKind.wrap .i64 ((IntKind.wrap .i64 ((u : Int) - (v : Int))) * (a : Int))) * (b : Int)) = (((u - v) * a * b : Nat) : Int) := by
  have a1 := mul3 (u - v) a b (by omega) ha hb
  rw [w64 (n := (u : Int) - (v : Int)) (by omega) (by omega), show (u : Int) - (v : Int) = ((u - v : Nat) : Int) by omega, ← Int.natCast_mul, wN _ (by omega), ← Int.natCast_mul, wN _ (by omega)]

theorem den_w' (u v a b : Nat) (hu : u ≤ 256) (hv : v ≤ 256) (ha : a ≤ 256) (hb : b ≤ 256) (h : u < v) :
    IntKind.wrap .i64 ((IntKind.wrap .i64 ((IntKind.wrap .i64 ((u : Int) - (v : Int))) * (a : Int))) * (b : Int)) = -(((v - u) * a * b : Nat) : Int) := by
  have a1 := mul3 (v - u) a b (by omega) ha hb
  rw [w64 (n := (u : Int) - (v : Int)) (by omega) (by omega), show (u : Int) - (v : Int) = -((v - u : Nat) : Int) by omega, Int.neg_mul, ← Int.natCast_mul, w64 (n := -(((v - u) * a : Nat) : Int)) (by omega) (by omega), Int.neg_mul, ← Int.natCast_mul, w64 (by omega) (by omega)]

/-- The number that is fixed, as the reference has it. -/
theorem fx_same (f t : List UInt8) (hf : f.length ≤ 8) (ht : t.length ≤ 8) (n d g m b k : Nat) (e1 : n * g = bn f) (e2 : d * g = 2 ^ f.length) (e3 : m * k = bn t) (e4 : b * k = 2 ^ t.length) (hd : 0 < d) (hb : 0 < b) (hlt : t.length < f.length) :
    rt (((n * 2 ^ f.length * b : Nat) : Int) - ((m * 2 ^ t.length * d : Nat) : Int)) ((2 ^ f.length - 2 ^ t.length) * d * b) = rt (fxN f t) (fxD f t) := by
  have hp : 2 ^ t.length < 2 ^ f.length := Nat.pow_lt_pow_right (by omega) hlt
  obtain ⟨_, _, h3, _⟩ := fx_bd f t hf ht (by omega)
  have hpos : 0 < (2 ^ f.length - 2 ^ t.length) * d * b := Nat.mul_pos (Nat.mul_pos (by omega) hd) hb
  refine rt_eq_of _ _ _ _ hpos h3 ?_
  have q1 : n * 2 ^ f.length * b = d * b * bn f := by rw [← e2, ← e1]; ac_rfl
  have q2 : m * 2 ^ t.length * d = d * b * bn t := by rw [← e4, ← e3]; ac_rfl
  have hs : 2 ^ f.length = 2 ^ t.length * 2 ^ (f.length - t.length) := by rw [← Nat.pow_add, show t.length + (f.length - t.length) = f.length by omega]
  have hs1 : 1 ≤ 2 ^ (f.length - t.length) := Nat.one_le_two_pow
  have q3 : (2 ^ f.length - 2 ^ t.length) * d * b = 2 ^ t.length * (2 ^ (f.length - t.length) - 1) * (d * b) := by
    rw [hs, Nat.mul_sub, Nat.mul_one]; ac_rfl
  have h8 := two8 t ht
  have q4 : sA f * 2 ^ (f.length - t.length) = bn f * 2 ^ (8 - t.length) := by
    unfold sA
    rw [Nat.mul_assoc, ← Nat.pow_add, show 8 - f.length + (f.length - t.length) = 8 - t.length by omega]
  unfold fxN fxD
  rw [if_pos hlt, if_pos hlt, q1, q2, q3, q4, ← h8]
  unfold sA
  generalize 2 ^ (f.length - t.length) - 1 = M
  generalize 2 ^ (8 - t.length) = P
  generalize 2 ^ t.length = U
  simp only [Int.natCast_mul]
  rw [show (d : Int) * b * (bn f : Int) - (d : Int) * b * (bn t : Int) = (d : Int) * b * ((bn f : Int) - bn t) by rw [Int.mul_sub], show (bn f : Int) * P - (bn t : Int) * P = ((bn f : Int) - bn t) * P by rw [Int.sub_mul]]
  generalize (bn f : Int) - bn t = Q
  ac_rfl

theorem fx_same' (f t : List UInt8) (hf : f.length ≤ 8) (ht : t.length ≤ 8) (n d g m b k : Nat) (e1 : n * g = bn f) (e2 : d * g = 2 ^ f.length) (e3 : m * k = bn t) (e4 : b * k = 2 ^ t.length) (hd : 0 < d) (hb : 0 < b) (hlt : f.length < t.length) :
    rt (-(((n * 2 ^ f.length * b : Nat) : Int) - ((m * 2 ^ t.length * d : Nat) : Int))) ((2 ^ t.length - 2 ^ f.length) * d * b) = rt (fxN f t) (fxD f t) := by
  have hp : 2 ^ f.length < 2 ^ t.length := Nat.pow_lt_pow_right (by omega) hlt
  obtain ⟨_, _, h3, _⟩ := fx_bd f t hf ht (by omega)
  have hpos : 0 < (2 ^ t.length - 2 ^ f.length) * d * b := Nat.mul_pos (Nat.mul_pos (by omega) hd) hb
  refine rt_eq_of _ _ _ _ hpos h3 ?_
  have q1 : n * 2 ^ f.length * b = d * b * bn f := by rw [← e2, ← e1]; ac_rfl
  have q2 : m * 2 ^ t.length * d = d * b * bn t := by rw [← e4, ← e3]; ac_rfl
  have hs : 2 ^ t.length = 2 ^ f.length * 2 ^ (t.length - f.length) := by rw [← Nat.pow_add, show f.length + (t.length - f.length) = t.length by omega]
  have q3 : (2 ^ t.length - 2 ^ f.length) * d * b = 2 ^ f.length * (2 ^ (t.length - f.length) - 1) * (d * b) := by
    rw [hs, Nat.mul_sub, Nat.mul_one]; ac_rfl
  have h8 := two8 f hf
  have q4 : sA t * 2 ^ (t.length - f.length) = bn t * 2 ^ (8 - f.length) := by
    unfold sA
    rw [Nat.mul_assoc, ← Nat.pow_add, show 8 - t.length + (t.length - f.length) = 8 - f.length by omega]
  unfold fxN fxD
  rw [if_neg (by omega), if_neg (by omega), q1, q2, q3, q4, ← h8]
  unfold sA
  generalize 2 ^ (t.length - f.length) - 1 = M
  generalize 2 ^ (8 - f.length) = P
  generalize 2 ^ f.length = U
  simp only [Int.natCast_mul]
  rw [show -((d : Int) * b * (bn f : Int) - (d : Int) * b * (bn t : Int)) = (d : Int) * b * ((bn t : Int) - bn f) by rw [Int.mul_sub]; omega, show (bn t : Int) * P - (bn f : Int) * P = ((bn t : Int) - bn f) * P by rw [Int.sub_mul]]
  generalize (bn t : Int) - bn f = Q
  ac_rfl

def mrgS (out : List Iv) (r : Iv) : List Iv := match out.getLast? with
  | none => [r]
  | some x => if x.2 = r.1 then out.dropLast ++ [(x.1, r.2)] else out ++ [r]

def stpS (out : List Iv) (ft : List UInt8 × List UInt8) : List Iv := match fixP ft.1 ft.2 with
  | none => out
  | some r => mrgS out r

theorem mrgS_app (l : List Iv) (x r : Iv) : mrgS (l ++ [x]) r = if x.2 = r.1 then l ++ [(x.1, r.2)] else l ++ [x] ++ [r] := by
  unfold mrgS
  rw [List.getLast?_append]
  simp

theorem eq2 (a b : Rt) : ((a.1 == b.1) && (a.2 == b.2)) = decide (a = b) := by
  obtain ⟨a1, a2⟩ := a
  obtain ⟨b1, b2⟩ := b
  simp only [Prod.mk.injEq, Bool.decide_and]
  congr 1 <;> (apply Bool.eq_iff_iff.2; simp)

theorem stpS_len (out : List Iv) (ft : List UInt8 × List UInt8) : (stpS out ft).length ≤ out.length + 1 := by
  unfold stpS
  split
  · omega
  · unfold mrgS
    split
    · simp
    · split
      · rw [List.length_append, List.length_dropLast]; simp
      · simp

end Go.AI
end

section
/- Contract: what is fixed, the reference's loop. -/
set_option autoImplicit false
set_option maxRecDepth 100000
set_option linter.unusedVariables false
namespace Go.AI
open Go.Proofs

theorem iv_last (l : List Iv) (x : Iv) : (IntKind.wrap .i64 (((List.length (ivL (l ++ [x])) : Nat) : Int) - (1 : Int))) = if l.length ≤ 2 ^ 40 then (l.length : Int) else (IntKind.wrap .i64 (((List.length (ivL (l ++ [x])) : Nat) : Int) - (1 : Int))) := by
  split
  · rw [List.length_map, List.length_append, List.length_singleton, w64 (by omega) (by omega)]
    omega
  · rfl

theorem iv_get (l : List Iv) (x : Iv) : List.getD (ivL (l ++ [x])) l.length ([] : List Rt) = [x.1, x.2] := by
  rw [List.getD_eq_getElem?_getD, List.getElem?_map, List.getElem?_append_right (by omega)]
  simp

theorem iv_set (l : List Iv) (x : Iv) (y : List Rt) (z : Iv) (h : y = [z.1, z.2]) : List.set (ivL (l ++ [x])) l.length y = ivL (l ++ [z]) := by
  rw [ivL, List.map_append, List.set_append_right _ _ (by rw [List.length_map]; omega), h]
  simp

theorem rt_can_self (x : Rt) (n : Int) (d : Nat) (hd : 0 < d) (h : x = rt n d) (m : Nat) (hm : x.2 = (m : Int)) : rt x.1 m = rt n d := by
  have := can_self (x := x) ⟨n, d, hd, h⟩
  rw [hm, Int.toNat_natCast] at this
  rw [← this, h]

theorem l2ne (a b : Rt) : ((List.length ([a, b] : List Rt) : Nat) : Int) ≠ 0 := by show ((2 : Nat) : Int) ≠ 0; omega
theorem l2p0 (a b : Rt) : (0 : Int) < (List.length ([a, b] : List Rt) : Int) := by show (0 : Int) < ((2 : Nat) : Int); omega
theorem l2p1 (a b : Rt) : (1 : Int) < (List.length ([a, b] : List Rt) : Int) := by show (1 : Int) < ((2 : Nat) : Int); omega
theorem l2n0 (a b : Rt) : ((0 : Int)).toNat < List.length ([a, b] : List Rt) := by show 0 < 2; omega
theorem l2n1 (a b : Rt) : ((1 : Int)).toNat < List.length ([a, b] : List Rt) := by show 1 < 2; omega
theorem sz1 (x : List Rt) : sizeOK (List.length (ivL []) + List.length ([x] : List (List Rt))) := by show 0 + 1 ≤ 2 ^ 40; omega

/-- One round. -/
theorem obFixed_step (F T : List (List UInt8)) (hl : F.length = T.length) (hF : ∀ a ∈ F, a.length ≤ 8 ∧ bits01 a) (hT : ∀ a ∈ T, a.length ≤ 8 ∧ bits01 a) (h9 : F.length ≤ 9) (i : Nat) (hi : i < F.length) (out : List Iv) (ho : out.length ≤ i)
    {e : AEx} {st : St} (next : LoopSC cfg.P 1 (lb P_spec_obFixed 0) (spec_obFixed_L0a (strs' T) (strs' F) (F.length : Int) ((i + 1 : Nat) : Int) (ivL (stpS out (F[i], T[i])))) e st) :
    LoopSC cfg.P 1 (lb P_spec_obFixed 0) (spec_obFixed_L0a (strs' T) (strs' F) (F.length : Int) (i : Int) (ivL out)) e st := by
  have hi2 : i < T.length := by omega
  obtain ⟨fl, fb⟩ := hF F[i] (List.getElem_mem hi)
  obtain ⟨tl, tb⟩ := hT T[i] (List.getElem_mem hi2)
  have gF := strs_get F i hi
  have gT := strs_get T i hi2
  generalize hf : F[i] = f at *
  generalize ht : T[i] = t at *
  have s4 := mpOf_SC f (by omega) fb
  have s6 := mpOf_SC t (by omega) tb
  rw [← gF] at s4
  rw [← gT] at s6
  obtain ⟨n, d, g, ef, e1, e2, hg, hd, hd2, hn2⟩ := frA_parts f fl
  obtain ⟨m, b, k, et, e3, e4, hk, hb, hb2, hm2⟩ := frA_parts t tl
  have s4' : SC cfg.P i_spec_mpOf [.s (.v .str (List.getD (strs' F) ((i : Int)).toNat (⟨#[]⟩ : ByteArray)))] (.s (.v RK ((n : Int), (d : Int)))) [] := by rw [← ef]; exact s4
  have s6' : SC cfg.P i_spec_mpOf [.s (.v .str (List.getD (strs' T) ((i : Int)).toNat (⟨#[]⟩ : ByteArray)))] (.s (.v RK ((m : Int), (b : Int)))) [] := by rw [← et]; exact s6
  clear s4 s6
  have pF := pow_8 f.length fl
  have pT := pow_8 t.length tl
  have cF := frA_rt f
  have cT := frA_rt t
  have s7 : SC cfg.P i_spec_obRatio [.s (.v (.int .i64) (n : Int)), .s (.v (.int .i64) (d : Int))] (.s (.v RK (rt (sA f : Int) 256))) [] := by
    have := obRatio_SC (n : Int) d (by omega) (by omega) hd (by omega)
    rw [rt_can_self ((n : Int), (d : Int)) (bn f : Int) (2 ^ f.length) (by omega) (by rw [← ef, cF]) d rfl, ← rt_A f fl] at this
    exact this
  have z1 : IntKind.wrap .i64 ((1 : Int) * 2 ^ (min ((((List.getD (strs' F) ((i : Int)).toNat (⟨#[]⟩ : ByteArray))).size : Int)).toNat (IntKind.bits .i64))) = ((2 ^ f.length : Nat) : Int) := by rw [gF, bs_size]; exact shl1_w f.length fl
  have z2 : IntKind.wrap .i64 ((1 : Int) * 2 ^ (min ((((List.getD (strs' T) ((i : Int)).toNat (⟨#[]⟩ : ByteArray))).size : Int)).toNat (IntKind.bits .i64))) = ((2 ^ t.length : Nat) : Int) := by rw [gT, bs_size]; exact shl1_w t.length tl
  have s10 : SC cfg.P i_spec_obRatio [.s (.v (.int .i64) (IntKind.wrap .i64 ((IntKind.wrap .i64 ((n : Int) * (IntKind.wrap .i64 (Int.tdiv (IntKind.wrap .i64 ((1 : Int) * 2 ^ (min ((((List.getD (strs' F) ((i : Int)).toNat (⟨#[]⟩ : ByteArray))).size : Int)).toNat (IntKind.bits .i64)))) (d : Int))))) + (1 : Int)))), .s (.v (.int .i64) (IntKind.wrap .i64 ((1 : Int) * 2 ^ (min ((((List.getD (strs' F) ((i : Int)).toNat (⟨#[]⟩ : ByteArray))).size : Int)).toNat (IntKind.bits .i64)))))] (.s (.v RK (rt (sE f : Int) 256))) [] := by
    have hbl := bn_lt f
    have := obRatio_SC ((bn f + 1 : Nat) : Int) (2 ^ f.length) (by omega) (by omega) (by omega) (by omega)
    rw [← rt_E f fl] at this
    rw [z1, end_num f fl n d g e1 e2 hd]
    exact this
  have zF : (((List.getD (strs' F) ((i : Int)).toNat (⟨#[]⟩ : ByteArray))).size : Int) = (f.length : Int) := by rw [gF, bs_size]
  have zT : (((List.getD (strs' T) ((i : Int)).toNat (⟨#[]⟩ : ByteArray))).size : Int) = (t.length : Int) := by rw [gT, bs_size]
  have lF : List.length (strs' F) = F.length := List.length_map ..
  have lT : List.length (strs' T) = T.length := List.length_map ..
  have ew : ((i + 1 : Nat) : Int) = IntKind.wrap .i64 ((i : Int) + 1) := by rw [w64 (by omega) (by omega)]; omega
  rw [ew] at next
  have b1 : (i : Int) < (F.length : Int) := by omega
  have b3 : (i : Int) < (List.length (strs' F) : Int) := by rw [lF]; omega
  have b5 : (i : Int) < (List.length (strs' T) : Int) := by rw [lT]; omega
  have b8 : 0 ≤ (((List.getD (strs' F) ((i : Int)).toNat (⟨#[]⟩ : ByteArray))).size : Int) := by omega
  have b12 : 0 ≤ (((List.getD (strs' T) ((i : Int)).toNat (⟨#[]⟩ : ByteArray))).size : Int) := by omega
  have oL : List.length (ivL out) = out.length := List.length_map ..
  by_cases hz : f.length = t.length
  · have hfx : fixI f t = ([rt (sA f : Int) 256, rt (sE f : Int) 256], decide (sA f = sA t)) := by unfold fixI; rw [if_pos hz]
    by_cases he : sA f = sA t
    · have hp : fixP f t = some (rt (sA f : Int) 256, rt (sE f : Int) 256) := by unfold fixP; rw [hfx, decide_eq_true he]
      have heq : ((((n : Int), (d : Int)).1 == ((m : Int), (b : Int)).1) && (((n : Int), (d : Int)).2 == ((m : Int), (b : Int)).2)) = true := by
        rw [eq2, ← ef, ← et]; exact decide_eq_true ((sA_inj f t hz).1 he)
      have hst : stpS out (f, t) = mrgS out (rt (sA f : Int) 256, rt (sE f : Int) 256) := by unfold stpS; rw [show fixP (f, t).1 (f, t).2 = _ from hp]
      rw [hst] at next
      rcases List.eq_nil_or_concat out with hn | ⟨l, x, hn⟩
      · subst hn
        exact spec_obFixed_L0a_i4 _ _ _ _ _ _ _ _ _ b1 (by omega) b3 s4' b5 s6' s7 b8 (by show (d : Int) ≠ 0; omega) s10 (by rw [zF, zT, hz]) heq (by first | decide | exact l2ne _ _ | exact l2p0 _ _ | exact l2p1 _ _ | exact l2n0 _ _ | exact l2n1 _ _ | exact sz1 _) (by first | decide | exact l2ne _ _ | exact l2p0 _ _ | exact l2p1 _ _ | exact l2n0 _ _ | exact l2n1 _ _ | exact sz1 _) (by first | decide | exact l2ne _ _ | exact l2p0 _ _ | exact l2p1 _ _ | exact l2n0 _ _ | exact l2n1 _ _ | exact sz1 _) next
      · rw [List.concat_eq_append] at hn
        subst hn
        simp only [List.length_append, List.length_singleton] at ho
        have w1 := iv_last l x
        rw [if_pos (by omega)] at w1
        have oL' : (List.length (ivL (l ++ [x])) : Int) = (l.length : Int) + 1 := by rw [List.length_map, List.length_append, List.length_singleton]; omega
        rw [mrgS_app] at next
        by_cases hx : x.2 = rt (sA f : Int) 256
        · rw [if_pos hx] at next
          refine spec_obFixed_L0a_i2 _ _ _ _ _ _ _ _ _ b1 (by omega) b3 s4' b5 s6' s7 b8 (by show (d : Int) ≠ 0; omega) s10 (by rw [zF, zT, hz]) heq (by first | decide | exact l2ne _ _ | exact l2p0 _ _ | exact l2p1 _ _ | exact l2n0 _ _ | exact l2n1 _ _ | exact sz1 _) (by rw [w1]; omega) (by rw [w1]; omega) (by rw [w1, oL']; omega) (by rw [w1, Int.toNat_natCast]; have := oL'; omega) (by rw [w1, Int.toNat_natCast, iv_get]; show (1 : Int) < ((2 : Nat) : Int); omega) (by first | decide | exact l2ne _ _ | exact l2p0 _ _ | exact l2p1 _ _ | exact l2n0 _ _ | exact l2n1 _ _ | exact sz1 _) (by first | decide | exact l2ne _ _ | exact l2p0 _ _ | exact l2p1 _ _ | exact l2n0 _ _ | exact l2n1 _ _ | exact sz1 _)
            (by rw [w1, Int.toNat_natCast, iv_get]; exact (eq2 _ _).trans (decide_eq_true hx)) (by rw [w1, Int.toNat_natCast, iv_get]; show (0 : Int) < ((2 : Nat) : Int); omega) (by first | decide | exact l2ne _ _ | exact l2p0 _ _ | exact l2p1 _ _ | exact l2n0 _ _ | exact l2n1 _ _ | exact sz1 _) (by first | decide | exact l2ne _ _ | exact l2p0 _ _ | exact l2p1 _ _ | exact l2n0 _ _ | exact l2n1 _ _ | exact sz1 _) ?_
          rw [w1, Int.toNat_natCast, iv_get]
          have hs := iv_set l x [x.1, rt (sE f : Int) 256] (x.1, rt (sE f : Int) 256) rfl
          rw [← hs] at next
          exact next
        · rw [if_neg hx] at next
          refine spec_obFixed_L0a_i3 _ _ _ _ _ _ _ _ _ b1 (by omega) b3 s4' b5 s6' s7 b8 (by show (d : Int) ≠ 0; omega) s10 (by rw [zF, zT, hz]) heq (by first | decide | exact l2ne _ _ | exact l2p0 _ _ | exact l2p1 _ _ | exact l2n0 _ _ | exact l2n1 _ _ | exact sz1 _) (by rw [w1]; omega) (by rw [w1]; omega) (by rw [w1, oL']; omega) (by rw [w1, Int.toNat_natCast]; have := oL'; omega) (by rw [w1, Int.toNat_natCast, iv_get]; show (1 : Int) < ((2 : Nat) : Int); omega) (by first | decide | exact l2ne _ _ | exact l2p0 _ _ | exact l2p1 _ _ | exact l2n0 _ _ | exact l2n1 _ _ | exact sz1 _) (by first | decide | exact l2ne _ _ | exact l2p0 _ _ | exact l2p1 _ _ | exact l2n0 _ _ | exact l2n1 _ _ | exact sz1 _)
            (by rw [w1, Int.toNat_natCast, iv_get]; exact (eq2 _ _).trans (decide_eq_false hx)) (by show _ ≤ 2 ^ 40; rw [List.length_map]; simp; omega) ?_
          have : ivL (l ++ [x] ++ [(rt (sA f : Int) 256, rt (sE f : Int) 256)]) = ivL (l ++ [x]) ++ [[rt (sA f : Int) 256, rt (sE f : Int) 256]] := by simp
          rw [this] at next
          exact next
    · have hp : fixP f t = none := by unfold fixP; rw [hfx, decide_eq_false he]
      have heq : ((((n : Int), (d : Int)).1 == ((m : Int), (b : Int)).1) && (((n : Int), (d : Int)).2 == ((m : Int), (b : Int)).2)) = false := by
        rw [eq2, ← ef, ← et]; exact decide_eq_false fun h => he ((sA_inj f t hz).2 h)
      have hst : stpS out (f, t) = out := by unfold stpS; rw [show fixP (f, t).1 (f, t).2 = _ from hp]
      rw [hst] at next
      exact spec_obFixed_L0a_i5 _ _ _ _ _ _ _ _ _ b1 (by omega) b3 s4' b5 s6' s7 b8 (by show (d : Int) ≠ 0; omega) s10 (by rw [zF, zT, hz]) heq (by first | decide | exact l2ne _ _ | exact l2p0 _ _ | exact l2p1 _ _ | exact l2n0 _ _ | exact l2n1 _ _ | exact sz1 _) next
  · obtain ⟨c1, c2, c3, c4⟩ := fx_bd f t fl tl hz
    have sr := rt_small (fxN f t) (fxD f t) (by omega) (by omega) c3 (by omega)
    have a1 := sE_le f fl
    have sa := rt_small (sA f : Int) 256 (by omega) (by omega) (by omega) (by omega)
    have se := rt_small (sE f : Int) 256 (by omega) (by omega) (by omega) (by omega)
    have s13 : SC cfg.P i_spec_obRatio [.s (.v (.int .i64) (IntKind.wrap .i64 ((IntKind.wrap .i64 ((IntKind.wrap .i64 ((IntKind.wrap .i64 ((n : Int) * (IntKind.wrap .i64 ((1 : Int) * 2 ^ (min ((((List.getD (strs' F) ((i : Int)).toNat (⟨#[]⟩ : ByteArray))).size : Int)).toNat (IntKind.bits .i64)))))) * (b : Int))) - (IntKind.wrap .i64 ((IntKind.wrap .i64 ((m : Int) * (IntKind.wrap .i64 ((1 : Int) * 2 ^ (min ((((List.getD (strs' T) ((i : Int)).toNat (⟨#[]⟩ : ByteArray))).size : Int)).toNat (IntKind.bits .i64)))))) * (d : Int))))) * (1 : Int)))),
        .s (.v (.int .i64) (IntKind.wrap .i64 ((IntKind.wrap .i64 ((IntKind.wrap .i64 ((IntKind.wrap .i64 ((1 : Int) * 2 ^ (min ((((List.getD (strs' F) ((i : Int)).toNat (⟨#[]⟩ : ByteArray))).size : Int)).toNat (IntKind.bits .i64)))) - (IntKind.wrap .i64 ((1 : Int) * 2 ^ (min ((((List.getD (strs' T) ((i : Int)).toNat (⟨#[]⟩ : ByteArray))).size : Int)).toNat (IntKind.bits .i64)))))) * (d : Int))) * (b : Int))))] (.s (.v RK (rt (fxN f t) (fxD f t)))) [] := by
      rw [z1, z2, num_w n (2 ^ f.length) b m (2 ^ t.length) d hn2 pF.2 hb2 hm2 pT.2 hd2]
      have m1 := (mul3 n (2 ^ f.length) b hn2 pF.2 hb2).2
      have m2 := (mul3 m (2 ^ t.length) d hm2 pT.2 hd2).2
      by_cases hlt : t.length < f.length
      · have hp : 2 ^ t.length < 2 ^ f.length := Nat.pow_lt_pow_right (by omega) hlt
        rw [den_w _ _ _ _ pF.2 pT.2 hd2 hb2 hp]
        have m3 := (mul3 (2 ^ f.length - 2 ^ t.length) d b (by omega) hd2 hb2).2
        have := obRatio_SC (((n * 2 ^ f.length * b : Nat) : Int) - ((m * 2 ^ t.length * d : Nat) : Int)) ((2 ^ f.length - 2 ^ t.length) * d * b) (by omega) (by omega) (Nat.mul_pos (Nat.mul_pos (by omega) hd) hb) (by omega)
        rw [fx_same f t fl tl n d g m b k e1 e2 e3 e4 hd hb hlt] at this
        exact this
      · have hp : 2 ^ f.length < 2 ^ t.length := Nat.pow_lt_pow_right (by omega) (by omega)
        rw [den_w' _ _ _ _ pF.2 pT.2 hd2 hb2 hp]
        have m3 := (mul3 (2 ^ t.length - 2 ^ f.length) d b (by omega) hd2 hb2).2
        have := obRatio_neg_SC (((n * 2 ^ f.length * b : Nat) : Int) - ((m * 2 ^ t.length * d : Nat) : Int)) ((2 ^ t.length - 2 ^ f.length) * d * b) (by omega) (by omega) (Nat.mul_pos (Nat.mul_pos (by omega) hd) hb) (by omega)
        rw [fx_same' f t fl tl n d g m b k e1 e2 e3 e4 hd hb (by omega)] at this
        exact this
    have l1 := obLess_SC _ _ sr sa
    have l2 := obLess_SC _ _ se sr
    cases k1 : rlt (rt (fxN f t) (fxD f t)) (rt (sA f : Int) 256)
    · rw [k1] at l1
      cases k2 : rlt (rt (sE f : Int) 256) (rt (fxN f t) (fxD f t))
      · rw [k2] at l2
        have hp : fixP f t = some (rt (fxN f t) (fxD f t), rt (fxN f t) (fxD f t)) := by unfold fixP fixI; rw [if_neg hz, k1, k2]; rfl
        have hst : stpS out (f, t) = mrgS out (rt (fxN f t) (fxD f t), rt (fxN f t) (fxD f t)) := by unfold stpS; rw [show fixP (f, t).1 (f, t).2 = _ from hp]
        rw [hst] at next
        generalize rt (fxN f t) (fxD f t) = r at *
        rcases List.eq_nil_or_concat out with hn | ⟨l, x, hn⟩
        · subst hn
          exact spec_obFixed_L0a_i20 _ _ _ _ _ _ _ _ _ _ b1 (by omega) b3 s4' b5 s6' s7 b8 (by show (d : Int) ≠ 0; omega) s10 (by rw [zF, zT]; omega) b12 s13 l1 l2 (by first | decide | exact l2ne _ _ | exact l2p0 _ _ | exact l2p1 _ _ | exact l2n0 _ _ | exact l2n1 _ _ | exact sz1 _) (by first | decide | exact l2ne _ _ | exact l2p0 _ _ | exact l2p1 _ _ | exact l2n0 _ _ | exact l2n1 _ _ | exact sz1 _) (by first | decide | exact l2ne _ _ | exact l2p0 _ _ | exact l2p1 _ _ | exact l2n0 _ _ | exact l2n1 _ _ | exact sz1 _) next
        · rw [List.concat_eq_append] at hn
          subst hn
          simp only [List.length_append, List.length_singleton] at ho
          have w1 := iv_last l x
          rw [if_pos (by omega)] at w1
          have oL' : (List.length (ivL (l ++ [x])) : Int) = (l.length : Int) + 1 := by rw [List.length_map, List.length_append, List.length_singleton]; omega
          rw [mrgS_app] at next
          by_cases hx : x.2 = r
          · rw [if_pos hx] at next
            refine spec_obFixed_L0a_i18 _ _ _ _ _ _ _ _ _ _ b1 (by omega) b3 s4' b5 s6' s7 b8 (by show (d : Int) ≠ 0; omega) s10 (by rw [zF, zT]; omega) b12 s13 l1 l2 (by first | decide | exact l2ne _ _ | exact l2p0 _ _ | exact l2p1 _ _ | exact l2n0 _ _ | exact l2n1 _ _ | exact sz1 _) (by rw [w1]; omega) (by rw [w1]; omega) (by rw [w1, oL']; omega) (by rw [w1, Int.toNat_natCast]; have := oL'; omega) (by rw [w1, Int.toNat_natCast, iv_get]; show (1 : Int) < ((2 : Nat) : Int); omega) (by show (0 : Int) < ((2 : Nat) : Int); omega) (by show 0 < 2; omega)
              (by rw [w1, Int.toNat_natCast, iv_get]; exact (eq2 _ _).trans (decide_eq_true hx)) (by rw [w1, Int.toNat_natCast, iv_get]; show (0 : Int) < ((2 : Nat) : Int); omega) (by show (1 : Int) < ((2 : Nat) : Int); omega) (by show 1 < 2; omega) ?_
            rw [w1, Int.toNat_natCast, iv_get]
            have hs := iv_set l x [x.1, r] (x.1, r) rfl
            rw [← hs] at next
            exact next
          · rw [if_neg hx] at next
            refine spec_obFixed_L0a_i19 _ _ _ _ _ _ _ _ _ _ b1 (by omega) b3 s4' b5 s6' s7 b8 (by show (d : Int) ≠ 0; omega) s10 (by rw [zF, zT]; omega) b12 s13 l1 l2 (by first | decide | exact l2ne _ _ | exact l2p0 _ _ | exact l2p1 _ _ | exact l2n0 _ _ | exact l2n1 _ _ | exact sz1 _) (by rw [w1]; omega) (by rw [w1]; omega) (by rw [w1, oL']; omega) (by rw [w1, Int.toNat_natCast]; have := oL'; omega) (by rw [w1, Int.toNat_natCast, iv_get]; show (1 : Int) < ((2 : Nat) : Int); omega) (by show (0 : Int) < ((2 : Nat) : Int); omega) (by show 0 < 2; omega)
              (by rw [w1, Int.toNat_natCast, iv_get]; exact (eq2 _ _).trans (decide_eq_false hx)) (by show _ ≤ 2 ^ 40; rw [List.length_map]; simp; omega) ?_
            have : ivL (l ++ [x] ++ [(r, r)]) = ivL (l ++ [x]) ++ [[r, r]] := by simp
            rw [this] at next
            exact next
      · rw [k2] at l2
        have hp : fixP f t = none := by unfold fixP fixI; rw [if_neg hz, k1, k2]; rfl
        have hst : stpS out (f, t) = out := by unfold stpS; rw [show fixP (f, t).1 (f, t).2 = _ from hp]
        rw [hst] at next
        exact spec_obFixed_L0a_i13 _ _ _ _ _ _ _ _ _ _ b1 (by omega) b3 s4' b5 s6' s7 b8 (by show (d : Int) ≠ 0; omega) s10 (by rw [zF, zT]; omega) b12 s13 l1 l2 (by first | decide | exact l2ne _ _ | exact l2p0 _ _ | exact l2p1 _ _ | exact l2n0 _ _ | exact l2n1 _ _ | exact sz1 _) next
    · rw [k1] at l1
      have hp : fixP f t = none := by unfold fixP fixI; rw [if_neg hz, k1]; rfl
      have hst : stpS out (f, t) = out := by unfold stpS; rw [show fixP (f, t).1 (f, t).2 = _ from hp]
      rw [hst] at next
      exact spec_obFixed_L0a_i9 _ _ _ _ _ _ _ _ _ _ b1 (by omega) b3 s4' b5 s6' s7 b8 (by show (d : Int) ≠ 0; omega) s10 (by rw [zF, zT]; omega) b12 s13 l1 (by first | decide | exact l2ne _ _ | exact l2p0 _ _ | exact l2p1 _ _ | exact l2n0 _ _ | exact l2n1 _ _ | exact sz1 _) next

end Go.AI
end

section
/- Plain law: both find the same intervals; the reference's contract. -/
set_option autoImplicit false
set_option maxRecDepth 100000
set_option linter.unusedVariables false
namespace Go.AI
open Go.Proofs

theorem fixP_facts (f t : List UInt8) (h1 : f.length ≤ 8) (h2 : t.length ≤ 8) (r : Iv) (h : fixP f t = some r) :
    can r.1 ∧ can r.2 ∧ rle (rt (sA f : Int) 256) r.1 ∧ rle r.1 r.2 ∧ rle r.2 (rt (sE f : Int) 256) := by
  have a1 := sE_le f h1
  have cA := can_rt (sA f : Int) 256 (by omega)
  have cE := can_rt (sE f : Int) 256 (by omega)
  have hAE : rle (rt (sA f : Int) 256) (rt (sE f : Int) 256) := by
    rw [rle_iff, rlt_rt _ _ _ _ (by omega) (by omega), decide_eq_false_iff_not]
    omega
  by_cases hz : f.length = t.length
  · have e : fixI f t = ([rt (sA f : Int) 256, rt (sE f : Int) 256], decide (sA f = sA t)) := by unfold fixI; rw [if_pos hz]
    unfold fixP at h
    rw [e] at h
    cases hd : decide (sA f = sA t) <;> rw [hd] at h
    · cases h
    · cases h
      exact ⟨cA, cE, rle_refl _, hAE, rle_refl _⟩
  · obtain ⟨c1, c2, c3, c4⟩ := fx_bd f t h1 h2 hz
    have cN := can_rt (fxN f t) (fxD f t) c3
    cases k1 : rlt (rt (fxN f t) (fxD f t)) (rt (sA f : Int) 256)
    · cases k2 : rlt (rt (sE f : Int) 256) (rt (fxN f t) (fxD f t))
      · have e : fixP f t = some (rt (fxN f t) (fxD f t), rt (fxN f t) (fxD f t)) := by unfold fixP fixI; rw [if_neg hz, k1, k2]; rfl
        rw [e] at h
        cases h
        exact ⟨cN, cN, (rle_iff _ _).2 k1, rle_refl _, (rle_iff _ _).2 k2⟩
      · have e : fixP f t = none := by unfold fixP fixI; rw [if_neg hz, k1, k2]; rfl
        rw [e] at h; cases h
    · have e : fixP f t = none := by unfold fixP fixI; rw [if_neg hz, k1]; rfl
      rw [e] at h; cases h

/-- What has been found lies in front of a place. -/
def front (out : List Iv) (y : Rt) : Prop := ∀ l x, out = l ++ [x] → can x.2 ∧ rle x.2 y

theorem front_mono {out : List Iv} {y z : Rt} (h : front out y) (hy : can y) (hz : can z) (hyz : rle y z) : front out z := fun l x e => by
  obtain ⟨a, b⟩ := h l x e
  exact ⟨a, rle_trans (can_pos a) (can_pos hy) (can_pos hz) b hyz⟩

theorem front_app {l : List Iv} {x : Iv} {y : Rt} (h : can x.2) (h2 : rle x.2 y) : front (l ++ [x]) y := fun l' x' e => by
  have := List.append_inj_right' e rfl
  simp only [List.cons.injEq, and_true] at this
  subst this
  exact ⟨h, h2⟩

theorem mrg_same {out : List Iv} {r : Iv} {y z : Rt} (ho : front out y) (hy : can y) (hz : can z) (c1 : can r.1) (c2 : can r.2) (h1 : rle y r.1) (h2 : rle r.1 r.2) (h3 : rle r.2 z) : mrg out r = mrgS out r ∧ front (mrg out r) z := by
  rcases List.eq_nil_or_concat out with hn | ⟨l, x, hn⟩
  · subst hn
    exact ⟨rfl, front_app (l := []) c2 h3⟩
  · rw [List.concat_eq_append] at hn
    subst hn
    obtain ⟨cx, hx⟩ := ho l x rfl
    rw [mrg_app, mrgS_app]
    have hx1 : rle x.2 r.1 := rle_trans (can_pos cx) (can_pos hy) (can_pos c1) hx h1
    cases k1 : rlt x.2 r.1
    · have e : x.2 = r.1 := can_antisymm cx c1 hx1 ((rle_iff _ _).2 k1)
      rw [if_neg Bool.false_ne_true, if_pos e]
      cases k2 : rlt x.2 r.2
      · have e2 : r.2 = x.2 := can_antisymm c2 cx ((rle_iff _ _).2 k2) (by rw [e]; exact h2)
        rw [if_neg Bool.false_ne_true, e2]
        exact ⟨rfl, front_app (x := x) cx (by rw [← e2]; exact h3)⟩
      · rw [if_pos rfl]
        exact ⟨rfl, front_app (x := (x.1, r.2)) c2 h3⟩
    · have hne : ¬ x.2 = r.1 := fun e => by
        rw [e] at k1
        have := (rle_iff r.1 r.1).1 (rle_refl _)
        rw [this] at k1; cases k1
      rw [if_pos rfl, if_neg hne]
      exact ⟨rfl, front_app c2 h3⟩

theorem fold_same : ∀ (F T : List (List UInt8)) (A b : Nat) (out : List Iv), F.length = T.length → (∀ a ∈ F, a.length ≤ 8) → (∀ a ∈ T, a.length ≤ 8) → tiles (F.map iv) (A * 4294967296) b → front out (rt (A : Int) 256) →
    (F.zip T).foldl stp out = (F.zip T).foldl stpS out
  | [], _, _, _, _, _, _, _, _, _ => rfl
  | f :: F, [], _, _, _, hl, _, _, _, _ => by simp at hl
  | f :: F, t :: T, A, b, out, hl, hF, hT, ht, ho => by
    obtain ⟨h1, h2, h3⟩ := ht
    have fl := hF f (by simp)
    have tl := hT t (by simp)
    have eA : sA f = A := by
      have h1' : plF f 1099511627776 0 = A * 4294967296 := h1
      rw [plF_A f fl] at h1'
      omega
    have h3' : tiles (F.map iv) (sE f * 4294967296) b := by rw [← iv_E f fl]; exact h3
    have a1 := sE_le f fl
    rw [← eA] at ho
    have cA := can_rt (sA f : Int) 256 (by omega)
    have cE := can_rt (sE f : Int) 256 (by omega)
    have hAE : rle (rt (sA f : Int) 256) (rt (sE f : Int) 256) := by
      rw [rle_iff, rlt_rt _ _ _ _ (by omega) (by omega), decide_eq_false_iff_not]
      omega
    rw [List.zip_cons_cons, List.foldl_cons, List.foldl_cons]
    cases hp : fixP f t with
    | none =>
      have e1 : stp out (f, t) = out := by unfold stp; rw [show fixP (f, t).1 (f, t).2 = _ from hp]
      have e2 : stpS out (f, t) = out := by unfold stpS; rw [show fixP (f, t).1 (f, t).2 = _ from hp]
      rw [e1, e2]
      exact fold_same F T (sE f) b out (by simpa using hl) (fun a ha => hF a (by simp [ha])) (fun a ha => hT a (by simp [ha])) h3' (front_mono ho cA cE hAE)
    | some r =>
      obtain ⟨c1, c2, c3, c4, c5⟩ := fixP_facts f t fl tl r hp
      obtain ⟨e0, hfr⟩ := mrg_same ho cA cE c1 c2 c3 c4 c5
      have e1 : stp out (f, t) = mrg out r := by unfold stp; rw [show fixP (f, t).1 (f, t).2 = _ from hp]
      have e2 : stpS out (f, t) = mrg out r := by unfold stpS; rw [show fixP (f, t).1 (f, t).2 = _ from hp, e0]
      rw [e1, e2]
      exact fold_same F T (sE f) b (mrg out r) (by simpa using hl) (fun a ha => hF a (by simp [ha])) (fun a ha => hT a (by simp [ha])) h3' hfr

abbrev PT : Type := Tr × Tr
def fxL (p : PT) : List Iv := FX ((adL p.1 []).zip (adL p.2 []))

theorem adL_8 {t : Tr} (h : t.c ≤ 8) : ∀ a ∈ adL t [], a.length ≤ 8 ∧ bits01 a := fun a ha => by
  have := adL_ok h a ha
  exact this

theorem fx_eq (p : PT) (h1 : p.1.c ≤ 8) (h2 : p.1.c = p.2.c) : ((adL p.1 []).zip (adL p.2 [])).foldl stpS [] = fxL p := by
  have ht := tiles_adL p.1 [] (by simp; omega)
  refine (fold_same (adL p.1 []) (adL p.2 []) 0 _ [] (by rw [adL_len, adL_len, h2]) (fun a ha => (adL_8 h1 a ha).1) (fun a ha => (adL_8 (by omega) a ha).1) (by rw [Nat.zero_mul]; exact ht) (fun l x e => ?_)).symm
  simp at e

theorem obFixed_L (F T : List (List UInt8)) (hl : F.length = T.length) (hF : ∀ a ∈ F, a.length ≤ 8 ∧ bits01 a) (hT : ∀ a ∈ T, a.length ≤ 8 ∧ bits01 a) (h9 : F.length ≤ 9) : ∀ (m i : Nat) (out : List Iv), F.length - i = m → i ≤ F.length → out.length ≤ i →
    LoopSC cfg.P 1 (lb P_spec_obFixed 0) (spec_obFixed_L0a (strs' T) (strs' F) (F.length : Int) (i : Int) (ivL out)) (.exit 0) (spec_obFixed_L0X1 (strs' T) (strs' F) (F.length : Int) (F.length : Int) false (ivL (((F.zip T).drop i).foldl stpS out))) := by
  intro m
  induction m with
  | zero =>
    intro i out hm hi ho
    have e : i = F.length := by omega
    subst e
    rw [List.drop_of_length_le (by rw [List.length_zip]; omega)]
    exact spec_obFixed_L0a_x21 _ _ _ _ _ (by omega)
  | succ m ih =>
    intro i out hm hi ho
    have hlt : i < F.length := by omega
    have hn := ih (i + 1) (stpS out (F[i], T[i])) (by omega) (by omega) (by have := stpS_len out (F[i], T[i]); omega)
    have hd : (F.zip T).drop i = (F[i], T[i]) :: (F.zip T).drop (i + 1) := by
      rw [List.drop_eq_getElem_cons (by rw [List.length_zip]; omega), List.getElem_zip]
    rw [hd, List.foldl_cons]
    exact obFixed_step F T hl hF hT h9 i hlt out ho hn

theorem obFixed_SC (p : PT) (h1 : p.1.c ≤ 8) (h2 : p.1.c = p.2.c) : SC cfg.P i_spec_obFixed [.s (.v (.pr .str .str) (bs (txt p.1), bs (txt p.2)))] (.s (.own t_Simpl_Ratio (.sl RK) (ivL (fxL p)))) [] := by
  have a1 := (trAddresses_SC p.1 [] (by omega) (by simp; omega)).view
  have a2 := (trAddresses_SC p.2 [] (by omega) (by simp; omega)).view
  have hL := obFixed_L (adL p.1 []) (adL p.2 []) (by rw [adL_len, adL_len, h2]) (adL_8 h1) (adL_8 (by omega)) (by rw [adL_len]; omega) _ 0 [] rfl (by omega) (by simp)
  rw [List.drop_zero, fx_eq p h1 h2] at hL
  have e : ((List.length (strs' (adL p.1 [])) : Nat) : Int) = ((adL p.1 []).length : Int) := by rw [List.length_map]
  rw [← e] at hL
  exact spec_obFixed_p1 (bs (txt p.1), bs (txt p.2)) _ _ _ _ _ _ _ _ a2 a1 hL

end Go.AI
end
