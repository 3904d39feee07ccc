/- Plain law: which way what is moved goes. -/
import Derived.Test.YtlkjnlhpdjbjdaaCod
set_option autoImplicit false
set_option maxRecDepth 100000
set_option linter.unusedVariables false
namespace Go.AI
open Go.Proofs

abbrev Pcs : Type := List (List UInt8 × List UInt8)

/-- Is a place of a piece carried to a greater one? -/
def upB (f t : List UInt8) (x : Rt) : Bool :=
  if f.length = t.length then decide (sA f < sA t)
  else if t.length < f.length then rlt (rt (fxN f t) (fxD f t)) x else rlt x (rt (fxN f t) (fxD f t))

def goesUpL (ps : Pcs) (x : Rt) : Bool := match ps with
  | [] => false
  | (f, t) :: r => if rlt x (rt (sE f : Int) 256) then upB f t x else goesUpL r x

def signL (ps : Pcs) (x : Rt) : Bool := match ps with
  | [] => false
  | (f, t) :: r => if rlt x (rt (sE f : Int) 256) then decide (t.length < f.length) else signL r x

/-- Pieces on end: where the first begins, in 256ths, on both sides. -/
def onEnd : Pcs → Nat → Nat → Prop
  | [], _, _ => True
  | (f, t) :: r, A, B => f.length ≤ 8 ∧ t.length ≤ 8 ∧ sA f = A ∧ sA t = B ∧ onEnd r (sE f) (sE t)

theorem rlt_trans_le {x y z : Rt} (hx : 0 < x.2) (hy : 0 < y.2) (hz : 0 < z.2) (h1 : rle x y) (h2 : rlt y z = true) : rlt x z = true := by
  cases h : rlt x z
  · have h3 : rle z x := (rle_iff _ _).2 h
    have h4 := rle_trans hz hx hy h3 h1
    rw [(rle_iff _ _).1 h4] at h2
    cases h2
  · rfl

theorem rlt_trans_le' {x y z : Rt} (hx : 0 < x.2) (hy : 0 < y.2) (hz : 0 < z.2) (h1 : rlt x y = true) (h2 : rle y z) : rlt x z = true := by
  cases h : rlt x z
  · have h3 : rle z x := (rle_iff _ _).2 h
    have h4 := rle_trans hy hz hx h2 h3
    rw [(rle_iff _ _).1 h4] at h1
    cases h1
  · rfl

theorem rlt_irr (x : Rt) : rlt x x = false := (rle_iff x x).1 (rle_refl x)

theorem rt_pos (n : Int) (d : Nat) (h : 0 < d) : 0 < (rt n d).2 := can_pos (can_rt n d h)

/-- On a piece's ends the number that is fixed tells what its image tells. -/
theorem fx_atA (f t : List UInt8) (h1 : f.length ≤ 8) (h2 : t.length ≤ 8) (hne : f.length ≠ t.length) :
    (t.length < f.length → fxN f t * 256 - (sA f : Int) * (fxD f t : Int) = 256 * ((sA f : Int) - (sA t : Int))) ∧ (f.length < t.length → fxN f t * 256 - (sA f : Int) * (fxD f t : Int) = 256 * ((sA t : Int) - (sA f : Int)) * 2 ^ (t.length - f.length)) := by
  constructor
  · intro h
    unfold fxN fxD
    rw [if_pos h, if_pos h]
    have hp : 1 ≤ 2 ^ (f.length - t.length) := Nat.one_le_two_pow
    generalize 2 ^ (f.length - t.length) = P at *
    generalize sA f = a
    generalize sA t = b
    have : ((256 * (P - 1) : Nat) : Int) = 256 * ((P : Int) - 1) := by omega
    rw [this, Int.natCast_mul, Int.sub_mul, Int.mul_sub, Int.mul_sub, Int.mul_one, ← Int.mul_assoc]
    have e1 : (a : Int) * 256 * (P : Int) = (a : Int) * (P : Int) * 256 := by ac_rfl
    omega
  · intro h
    have hs : (2 : Int) ^ (t.length - f.length) = ((2 ^ (t.length - f.length) : Nat) : Int) := by push_cast; rfl
    unfold fxN fxD
    rw [if_neg (by omega), if_neg (by omega), hs]
    have hp : 1 ≤ 2 ^ (t.length - f.length) := Nat.one_le_two_pow
    generalize 2 ^ (t.length - f.length) = P at *
    generalize sA f = a
    generalize sA t = b
    have : ((256 * (P - 1) : Nat) : Int) = 256 * ((P : Int) - 1) := by omega
    rw [this, Int.natCast_mul, Int.sub_mul, Int.mul_sub, Int.mul_sub, Int.mul_sub, Int.sub_mul, Int.mul_one, ← Int.mul_assoc]
    have e1 : (a : Int) * 256 * (P : Int) = 256 * (a : Int) * (P : Int) := by ac_rfl
    have e2 : (b : Int) * (P : Int) * 256 = 256 * (b : Int) * (P : Int) := by ac_rfl
    omega

/-- The widths of both intervals. -/
theorem sE_A (a : List UInt8) : sE a = sA a + 2 ^ (8 - a.length) := by unfold sE sA; rw [Nat.add_mul, Nat.one_mul]

theorem fx_atE (f t : List UInt8) (h1 : f.length ≤ 8) (h2 : t.length ≤ 8) (hne : f.length ≠ t.length) :
    (t.length < f.length → fxN f t * 256 - (sE f : Int) * (fxD f t : Int) = 256 * ((sE f : Int) - (sE t : Int))) ∧ (f.length < t.length → fxN f t * 256 - (sE f : Int) * (fxD f t : Int) = 256 * ((sE t : Int) - (sE f : Int)) * 2 ^ (t.length - f.length)) := by
  obtain ⟨hA, hB⟩ := fx_atA f t h1 h2 hne
  constructor
  · intro h
    have e := hA h
    have w : 2 ^ (8 - t.length) = 2 ^ (8 - f.length) * 2 ^ (f.length - t.length) := by rw [← Nat.pow_add]; congr 1; omega
    have hp : 1 ≤ 2 ^ (f.length - t.length) := Nat.one_le_two_pow
    rw [sE_A f, sE_A t, w]
    have hD : fxD f t = 256 * (2 ^ (f.length - t.length) - 1) := by unfold fxD; rw [if_pos h]
    rw [hD] at e ⊢
    generalize 2 ^ (f.length - t.length) = P at *
    generalize 2 ^ (8 - f.length) = W at *
    generalize sA f = a at *
    generalize sA t = b at *
    generalize fxN f t = N at *
    have hc : ((256 * (P - 1) : Nat) : Int) = 256 * ((P : Int) - 1) := by omega
    rw [hc] at e ⊢
    push_cast
    have e2 : ((a : Int) + (W : Int)) * (256 * ((P : Int) - 1)) = (a : Int) * (256 * ((P : Int) - 1)) + 256 * ((W : Int) * (P : Int)) - 256 * (W : Int) := by
      rw [Int.add_mul, Int.mul_sub, Int.mul_sub, Int.mul_one]
      have : (W : Int) * (256 * (P : Int) - 256) = 256 * ((W : Int) * (P : Int)) - 256 * (W : Int) := by
        rw [Int.mul_sub]
        have q : (W : Int) * (256 * (P : Int)) = 256 * ((W : Int) * (P : Int)) := by ac_rfl
        omega
      omega
    rw [e2]
    omega
  · intro h
    have e := hB h
    have w : 2 ^ (8 - f.length) = 2 ^ (8 - t.length) * 2 ^ (t.length - f.length) := by rw [← Nat.pow_add]; congr 1; omega
    have hp : 1 ≤ 2 ^ (t.length - f.length) := Nat.one_le_two_pow
    have hs : (2 : Int) ^ (t.length - f.length) = ((2 ^ (t.length - f.length) : Nat) : Int) := by push_cast; rfl
    rw [hs] at e ⊢
    rw [sE_A f, sE_A t, w]
    have hD : fxD f t = 256 * (2 ^ (t.length - f.length) - 1) := by unfold fxD; rw [if_neg (by omega)]
    rw [hD] at e ⊢
    generalize 2 ^ (t.length - f.length) = P at *
    generalize 2 ^ (8 - t.length) = W at *
    generalize sA f = a at *
    generalize sA t = b at *
    generalize fxN f t = N at *
    have hc : ((256 * (P - 1) : Nat) : Int) = 256 * ((P : Int) - 1) := by omega
    rw [hc] at e ⊢
    push_cast
    have e2 : ((a : Int) + (W : Int) * (P : Int)) * (256 * ((P : Int) - 1)) = (a : Int) * (256 * ((P : Int) - 1)) + 256 * ((W : Int) * (P : Int)) * (P : Int) - 256 * ((W : Int) * (P : Int)) := by
      rw [Int.add_mul, Int.mul_sub, Int.mul_sub, Int.mul_one]
      have : (W : Int) * (P : Int) * (256 * (P : Int) - 256) = 256 * ((W : Int) * (P : Int)) * (P : Int) - 256 * ((W : Int) * (P : Int)) := by
        rw [Int.mul_sub]
        have q : (W : Int) * (P : Int) * (256 * (P : Int)) = 256 * ((W : Int) * (P : Int)) * (P : Int) := by ac_rfl
        omega
      omega
    have e3 : 256 * ((b : Int) + (W : Int) - ((a : Int) + (W : Int) * (P : Int))) * (P : Int) = 256 * ((b : Int) - (a : Int)) * (P : Int) + 256 * ((W : Int) * (P : Int)) - 256 * ((W : Int) * (P : Int)) * (P : Int) := by
      have q1 : 256 * ((b : Int) + (W : Int) - ((a : Int) + (W : Int) * (P : Int))) = 256 * ((b : Int) - (a : Int)) + 256 * (W : Int) - 256 * ((W : Int) * (P : Int)) := by omega
      rw [q1, Int.sub_mul, Int.add_mul, Int.mul_assoc 256 (W : Int) (P : Int)]
    rw [e2, e3]
    omega

theorem pos_left {a b : Int} (hb : 0 < b) (h : 0 < a * b) : 0 < a := by
  by_cases ha : 0 < a
  · exact ha
  · have := Int.mul_le_mul_of_nonneg_right (show a ≤ 0 by omega) (Int.le_of_lt hb)
    rw [Int.zero_mul] at this
    omega

theorem up_end (f t : List UInt8) (h1 : f.length ≤ 8) (h2 : t.length ≤ 8) : upB f t (rt (sE f : Int) 256) = decide (sE f < sE t) := by
  unfold upB
  by_cases hz : f.length = t.length
  · rw [if_pos hz, sE_A f, sE_A t, hz]
    exact decide_eq_decide.2 (by omega)
  · rw [if_neg hz]
    obtain ⟨c1, c2, c3, c4⟩ := fx_bd f t h1 h2 hz
    obtain ⟨hA, hB⟩ := fx_atE f t h1 h2 hz
    by_cases hlt : t.length < f.length
    · rw [if_pos hlt, rlt_rt _ _ _ _ c3 (by omega)]
      have := hA hlt
      refine decide_eq_decide.2 ?_
      show fxN f t * ((256 : Nat) : Int) < _ ↔ _
      omega
    · rw [if_neg hlt, rlt_rt _ _ _ _ (by omega) c3]
      have := hB (by omega)
      refine decide_eq_decide.2 ?_
      show _ < fxN f t * ((256 : Nat) : Int) ↔ _
      have hs : (0 : Int) < 2 ^ (t.length - f.length) := Int.pow_pos (by omega)
      constructor
      · intro h
        have h' : 0 < 256 * ((sE t : Int) - (sE f : Int)) * 2 ^ (t.length - f.length) := by omega
        have := pos_left hs h'
        omega
      · intro h
        have h' : 0 < 256 * ((sE t : Int) - (sE f : Int)) * 2 ^ (t.length - f.length) := Int.mul_pos (by omega) hs
        omega

theorem up_start (f t : List UInt8) (h1 : f.length ≤ 8) (h2 : t.length ≤ 8) : upB f t (rt (sA f : Int) 256) = decide (sA f < sA t) := by
  unfold upB
  by_cases hz : f.length = t.length
  · rw [if_pos hz]
  · rw [if_neg hz]
    obtain ⟨c1, c2, c3, c4⟩ := fx_bd f t h1 h2 hz
    obtain ⟨hA, hB⟩ := fx_atA f t h1 h2 hz
    by_cases hlt : t.length < f.length
    · rw [if_pos hlt, rlt_rt _ _ _ _ c3 (by omega)]
      have := hA hlt
      refine decide_eq_decide.2 ?_
      show fxN f t * ((256 : Nat) : Int) < _ ↔ _
      omega
    · rw [if_neg hlt, rlt_rt _ _ _ _ (by omega) c3]
      have := hB (by omega)
      refine decide_eq_decide.2 ?_
      show _ < fxN f t * ((256 : Nat) : Int) ↔ _
      have hs : (0 : Int) < 2 ^ (t.length - f.length) := Int.pow_pos (by omega)
      constructor
      · intro h
        have h' : 0 < 256 * ((sA t : Int) - (sA f : Int)) * 2 ^ (t.length - f.length) := by omega
        have := pos_left hs h'
        omega
      · intro h
        have h' : 0 < 256 * ((sA t : Int) - (sA f : Int)) * 2 ^ (t.length - f.length) := Int.mul_pos (by omega) hs
        omega

end Go.AI
