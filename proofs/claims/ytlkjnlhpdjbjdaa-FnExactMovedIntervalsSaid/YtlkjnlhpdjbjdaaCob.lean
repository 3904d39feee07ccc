/- Contract: what is fixed, the reference's side. -/
import Derived.Test.YtlkjnlhpdjbjdaaCra
import Derived.Test.YtlkjnlhpdjbjdaaGX
import Derived.Test.YtlkjnlhpdjbjdaaCH
import Derived.Test.YtlkjnlhpdjbjdaaCI
set_option autoImplicit false
set_option maxRecDepth 100000
set_option linter.unusedVariables false
namespace Go.AI
open Go.Proofs

abbrev ivL (l : List Iv) : List (List Rt) := l.map fun x => [x.1, x.2]

theorem frA_rt (a : List UInt8) : frA a = rt (bn a : Int) (2 ^ a.length) := by
  unfold frA rt
  rw [Int.natAbs_natCast]
  rfl

theorem two8 (a : List UInt8) (h : a.length ≤ 8) : 2 ^ (8 - a.length) * 2 ^ a.length = 256 := by rw [← Nat.pow_add, show 8 - a.length + a.length = 8 by omega]

theorem rt_A (a : List UInt8) (h : a.length ≤ 8) : rt (sA a : Int) 256 = rt (bn a : Int) (2 ^ a.length) := by
  refine rt_eq_of _ _ _ _ (by omega) (Nat.pow_pos (by omega)) ?_
  have e := two8 a h
  unfold sA
  rw [← Int.natCast_mul, ← Int.natCast_mul, Nat.mul_assoc, e]

theorem rt_E (a : List UInt8) (h : a.length ≤ 8) : rt (sE a : Int) 256 = rt ((bn a + 1 : Nat) : Int) (2 ^ a.length) := by
  refine rt_eq_of _ _ _ _ (by omega) (Nat.pow_pos (by omega)) ?_
  have e := two8 a h
  unfold sE
  rw [← Int.natCast_mul, ← Int.natCast_mul, Nat.mul_assoc, e]

theorem sA_inj (f t : List UInt8) (h : f.length = t.length) : sA f = sA t ↔ frA f = frA t := by
  rw [frA_rt, frA_rt]
  unfold sA
  rw [h]
  have hp : 0 < 2 ^ (8 - t.length) := Nat.pow_pos (by omega)
  have hp2 : 0 < 2 ^ t.length := Nat.pow_pos (by omega)
  constructor
  · intro e
    have := Nat.eq_of_mul_eq_mul_right hp e
    rw [this]
  · intro e
    have := rt_cross _ _ _ _ hp2 hp2 e
    have h2 : ((bn f : Nat) : Int) = (bn t : Int) := Int.eq_of_mul_eq_mul_right (by omega) this
    rw [show bn f = bn t by omega]

/-- The reduced numbers of an address, with what they were reduced by. -/
theorem frA_parts (a : List UInt8) (h : a.length ≤ 8) : ∃ n d g : Nat, frA a = ((n : Int), (d : Int)) ∧ n * g = bn a ∧ d * g = 2 ^ a.length ∧ 0 < g ∧ 0 < d ∧ d ≤ 256 ∧ n ≤ 256 := by
  have hp : 0 < 2 ^ a.length := Nat.pow_pos (by omega)
  have hp2 : 2 ^ a.length ≤ 256 := (pow_8 a.length h).2
  have hl := bn_lt a
  have hg := Nat.gcd_pos_of_pos_right (bn a) hp
  refine ⟨bn a / Nat.gcd (bn a) (2 ^ a.length), 2 ^ a.length / Nat.gcd (bn a) (2 ^ a.length), Nat.gcd (bn a) (2 ^ a.length), rfl, Nat.div_mul_cancel (Nat.gcd_dvd_left _ _), Nat.div_mul_cancel (Nat.gcd_dvd_right _ _), hg, ?_, ?_, ?_⟩
  · exact Nat.div_pos (Nat.le_of_dvd hp (Nat.gcd_dvd_right _ _)) hg
  · have := Nat.div_le_self (2 ^ a.length) (Nat.gcd (bn a) (2 ^ a.length)); omega
  · have := Nat.div_le_self (bn a) (Nat.gcd (bn a) (2 ^ a.length)); omega

theorem shl1_w (k : Nat) (hk : k ≤ 8) : IntKind.wrap .i64 ((1 : Int) * 2 ^ (min ((k : Int)).toNat (IntKind.bits .i64))) = ((2 ^ k : Nat) : Int) := by
  have := shl_w 1 k (by omega) hk
  rw [Int.toNat_natCast]
  rw [show ((1 : Nat) : Int) = 1 from rfl, Nat.one_mul] at this
  exact this

theorem end_num (a : List UInt8) (h : a.length ≤ 8) (n d g : Nat) (e1 : n * g = bn a) (e2 : d * g = 2 ^ a.length) (hd : 0 < d) :
    IntKind.wrap .i64 ((IntKind.wrap .i64 ((n : Int) * (IntKind.wrap .i64 (Int.tdiv ((2 ^ a.length : Nat) : Int) (d : Int))))) + (1 : Int)) = ((bn a + 1 : Nat) : Int) := by
  have hl := bn_lt a
  have hp2 : 2 ^ a.length ≤ 256 := (pow_8 a.length h).2
  have q : Int.tdiv ((2 ^ a.length : Nat) : Int) (d : Int) = (g : Int) := by
    rw [← e2, Int.natCast_mul, Int.mul_tdiv_cancel_left _ (by omega)]
  have hg : g ≤ 256 := by
    have := Nat.le_mul_of_pos_left g hd
    omega
  rw [q, w64 (n := (g : Int)) (by omega) (by omega)]
  have e3 : (n : Int) * (g : Int) = ((bn a : Nat) : Int) := by rw [← e1, Int.natCast_mul]
  rw [e3, w64 (n := ((bn a : Nat) : Int)) (by omega) (by omega), w64 (by omega) (by omega)]
  omega

theorem mul3 (a b c : Nat) (ha : a ≤ 256) (hb : b ≤ 256) (hc : c ≤ 256) : a * b ≤ 65536 ∧ a * b * c ≤ 16777216 := by
  have h1 := Nat.mul_le_mul ha hb
  have h2 := Nat.mul_le_mul h1 hc
  omega

theorem wN (n : Nat) (h : n ≤ 2 ^ 40) : IntKind.wrap .i64 (n : Int) = (n : Int) := by rw [w64 (by omega) (by omega)]

theorem num_w (n u b m v d : Nat) (hn : n ≤ 256) (hu : u ≤ 256) (hb : b ≤ 256) (hm : m ≤ 256) (hv : v ≤ 256) (hd : d ≤ 256) :
    IntKind.wrap .i64 ((IntKind.wrap .i64 ((IntKind.wrap .i64 ((IntKind.wrap .i64 ((n : Int) * (u : Int))) * (b : Int))) - (IntKind.wrap .i64 ((IntKind.wrap .i64 ((m : Int) * (v : Int))) * (d : Int))))) * (1 : Int)) = ((n * u * b : Nat) : Int) - ((m * v * d : Nat) : Int) := by
  have a1 := mul3 n u b hn hu hb
  have a2 := mul3 m v d hm hv hd
  rw [← Int.natCast_mul, wN (n * u) (by omega), ← Int.natCast_mul, wN (n * u * b) (by omega), ← Int.natCast_mul, wN (m * v) (by omega), ← Int.natCast_mul, wN (m * v * d) (by omega), Int.mul_one, w64 (n := ((n * u * b : Nat) : Int) - ((m * v * d : Nat) : Int)) (by omega) (by omega), w64 (by omega) (by omega)]

theorem den_w (u v a b : Nat) (hu : u ≤ 256) (hv : v ≤ 256) (ha : a ≤ 256) (hb : b ≤ 256) (h : v < u) :
    IntKind.wrap .i64 ((IntKind.wrap .i64 ((IntKind.wrap .i64 ((u : Int) - (v : Int))) * (a : Int))) * (b : Int)) = (((u - v) * a * b : Nat) : Int) := by
  have a1 := mul3 (u - v) a b (by omega) ha hb
  rw [w64 (n := (u : Int) - (v : Int)) (by omega) (by omega), show (u : Int) - (v : Int) = ((u - v : Nat) : Int) by omega, ← Int.natCast_mul, wN _ (by omega), ← Int.natCast_mul, wN _ (by omega)]

theorem den_w' (u v a b : Nat) (hu : u ≤ 256) (hv : v ≤ 256) (ha : a ≤ 256) (hb : b ≤ 256) (h : u < v) :
    IntKind.wrap .i64 ((IntKind.wrap .i64 ((IntKind.wrap .i64 ((u : Int) - (v : Int))) * (a : Int))) * (b : Int)) = -(((v - u) * a * b : Nat) : Int) := by
  have a1 := mul3 (v - u) a b (by omega) ha hb
  rw [w64 (n := (u : Int) - (v : Int)) (by omega) (by omega), show (u : Int) - (v : Int) = -((v - u : Nat) : Int) by omega, Int.neg_mul, ← Int.natCast_mul, w64 (n := -(((v - u) * a : Nat) : Int)) (by omega) (by omega), Int.neg_mul, ← Int.natCast_mul, w64 (by omega) (by omega)]

/-- The number that is fixed, as the reference has it. -/
theorem fx_same (f t : List UInt8) (hf : f.length ≤ 8) (ht : t.length ≤ 8) (n d g m b k : Nat) (e1 : n * g = bn f) (e2 : d * g = 2 ^ f.length) (e3 : m * k = bn t) (e4 : b * k = 2 ^ t.length) (hd : 0 < d) (hb : 0 < b) (hlt : t.length < f.length) :
    rt (((n * 2 ^ f.length * b : Nat) : Int) - ((m * 2 ^ t.length * d : Nat) : Int)) ((2 ^ f.length - 2 ^ t.length) * d * b) = rt (fxN f t) (fxD f t) := by
  have hp : 2 ^ t.length < 2 ^ f.length := Nat.pow_lt_pow_right (by omega) hlt
  obtain ⟨_, _, h3, _⟩ := fx_bd f t hf ht (by omega)
  have hpos : 0 < (2 ^ f.length - 2 ^ t.length) * d * b := Nat.mul_pos (Nat.mul_pos (by omega) hd) hb
  refine rt_eq_of _ _ _ _ hpos h3 ?_
  have q1 : n * 2 ^ f.length * b = d * b * bn f := by rw [← e2, ← e1]; ac_rfl
  have q2 : m * 2 ^ t.length * d = d * b * bn t := by rw [← e4, ← e3]; ac_rfl
  have hs : 2 ^ f.length = 2 ^ t.length * 2 ^ (f.length - t.length) := by rw [← Nat.pow_add, show t.length + (f.length - t.length) = f.length by omega]
  have hs1 : 1 ≤ 2 ^ (f.length - t.length) := Nat.one_le_two_pow
  have q3 : (2 ^ f.length - 2 ^ t.length) * d * b = 2 ^ t.length * (2 ^ (f.length - t.length) - 1) * (d * b) := by
    rw [hs, Nat.mul_sub, Nat.mul_one]; ac_rfl
  have h8 := two8 t ht
  have q4 : sA f * 2 ^ (f.length - t.length) = bn f * 2 ^ (8 - t.length) := by
    unfold sA
    rw [Nat.mul_assoc, ← Nat.pow_add, show 8 - f.length + (f.length - t.length) = 8 - t.length by omega]
  unfold fxN fxD
  rw [if_pos hlt, if_pos hlt, q1, q2, q3, q4, ← h8]
  unfold sA
  generalize 2 ^ (f.length - t.length) - 1 = M
  generalize 2 ^ (8 - t.length) = P
  generalize 2 ^ t.length = U
  simp only [Int.natCast_mul]
  rw [show (d : Int) * b * (bn f : Int) - (d : Int) * b * (bn t : Int) = (d : Int) * b * ((bn f : Int) - bn t) by rw [Int.mul_sub], show (bn f : Int) * P - (bn t : Int) * P = ((bn f : Int) - bn t) * P by rw [Int.sub_mul]]
  generalize (bn f : Int) - bn t = Q
  ac_rfl

theorem fx_same' (f t : List UInt8) (hf : f.length ≤ 8) (ht : t.length ≤ 8) (n d g m b k : Nat) (e1 : n * g = bn f) (e2 : d * g = 2 ^ f.length) (e3 : m * k = bn t) (e4 : b * k = 2 ^ t.length) (hd : 0 < d) (hb : 0 < b) (hlt : f.length < t.length) :
    rt (-(((n * 2 ^ f.length * b : Nat) : Int) - ((m * 2 ^ t.length * d : Nat) : Int))) ((2 ^ t.length - 2 ^ f.length) * d * b) = rt (fxN f t) (fxD f t) := by
  have hp : 2 ^ f.length < 2 ^ t.length := Nat.pow_lt_pow_right (by omega) hlt
  obtain ⟨_, _, h3, _⟩ := fx_bd f t hf ht (by omega)
  have hpos : 0 < (2 ^ t.length - 2 ^ f.length) * d * b := Nat.mul_pos (Nat.mul_pos (by omega) hd) hb
  refine rt_eq_of _ _ _ _ hpos h3 ?_
  have q1 : n * 2 ^ f.length * b = d * b * bn f := by rw [← e2, ← e1]; ac_rfl
  have q2 : m * 2 ^ t.length * d = d * b * bn t := by rw [← e4, ← e3]; ac_rfl
  have hs : 2 ^ t.length = 2 ^ f.length * 2 ^ (t.length - f.length) := by rw [← Nat.pow_add, show f.length + (t.length - f.length) = t.length by omega]
  have q3 : (2 ^ t.length - 2 ^ f.length) * d * b = 2 ^ f.length * (2 ^ (t.length - f.length) - 1) * (d * b) := by
    rw [hs, Nat.mul_sub, Nat.mul_one]; ac_rfl
  have h8 := two8 f hf
  have q4 : sA t * 2 ^ (t.length - f.length) = bn t * 2 ^ (8 - f.length) := by
    unfold sA
    rw [Nat.mul_assoc, ← Nat.pow_add, show 8 - t.length + (t.length - f.length) = 8 - f.length by omega]
  unfold fxN fxD
  rw [if_neg (by omega), if_neg (by omega), q1, q2, q3, q4, ← h8]
  unfold sA
  generalize 2 ^ (t.length - f.length) - 1 = M
  generalize 2 ^ (8 - f.length) = P
  generalize 2 ^ f.length = U
  simp only [Int.natCast_mul]
  rw [show -((d : Int) * b * (bn f : Int) - (d : Int) * b * (bn t : Int)) = (d : Int) * b * ((bn t : Int) - bn f) by rw [Int.mul_sub]; omega, show (bn t : Int) * P - (bn f : Int) * P = ((bn t : Int) - bn f) * P by rw [Int.sub_mul]]
  generalize (bn t : Int) - bn f = Q
  ac_rfl

def mrgS (out : List Iv) (r : Iv) : List Iv := match out.getLast? with
  | none => [r]
  | some x => if x.2 = r.1 then out.dropLast ++ [(x.1, r.2)] else out ++ [r]

def stpS (out : List Iv) (ft : List UInt8 × List UInt8) : List Iv := match fixP ft.1 ft.2 with
  | none => out
  | some r => mrgS out r

theorem mrgS_app (l : List Iv) (x r : Iv) : mrgS (l ++ [x]) r = if x.2 = r.1 then l ++ [(x.1, r.2)] else l ++ [x] ++ [r] := by
  unfold mrgS
  rw [List.getLast?_append]
  simp

theorem eq2 (a b : Rt) : ((a.1 == b.1) && (a.2 == b.2)) = decide (a = b) := by
  obtain ⟨a1, a2⟩ := a
  obtain ⟨b1, b2⟩ := b
  simp only [Prod.mk.injEq, Bool.decide_and]
  congr 1 <;> (apply Bool.eq_iff_iff.2; simp)

theorem stpS_len (out : List Iv) (ft : List UInt8 × List UInt8) : (stpS out ft).length ≤ out.length + 1 := by
  unfold stpS
  split
  · omega
  · unfold mrgS
    split
    · simp
    · split
      · rw [List.length_append, List.length_dropLast]; simp
      · simp

end Go.AI
