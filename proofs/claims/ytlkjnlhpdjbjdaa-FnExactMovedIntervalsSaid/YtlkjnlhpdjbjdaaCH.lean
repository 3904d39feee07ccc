/- The plain law of leaves and places: intervals of leaves follow one another. -/
import Derived.Test.YtlkjnlhpdjbjdaaCG
set_option autoImplicit false
set_option maxRecDepth 100000
set_option linter.unusedVariables false
namespace Go.AI
open Go.Proofs

/-- The interval of an address, in grains. -/
def iv (a : List UInt8) : Nat × Nat := (plF a 1099511627776 0, plF a 1099511627776 0 + 1099511627776 / 2 ^ a.length)

def tiles : List (Nat × Nat) → Nat → Nat → Prop
  | [], a, b => a = b
  | (s, e) :: r, a, b => s = a ∧ a < e ∧ tiles r e b

theorem tiles_app : ∀ (l m : List (Nat × Nat)) (a b c : Nat), tiles l a b → tiles m b c → tiles (l ++ m) a c
  | [], m, a, b, c, h1, h2 => by rw [show a = b from h1]; exact h2
  | (s, e) :: r, m, a, b, c, ⟨h1, h2, h3⟩, h4 => ⟨h1, h2, tiles_app r m e b c h3 h4⟩

theorem plF_snoc : ∀ (p : List UInt8) (c : UInt8) (k pl : Nat), plF (p ++ [c]) k pl = if c = 49 then plF p k pl + k / 2 ^ (p.length + 1) else plF p k pl
  | [], c, k, pl => by simp [plF]
  | d :: r, c, k, pl => by
    simp only [List.cons_append, plF, List.length_cons]
    rw [plF_snoc r c (k / 2) _, Nat.div_div_eq_div_mul, ← Nat.pow_succ']

theorem grain_div {n : Nat} (h : n ≤ 40) : 1099511627776 / 2 ^ n = 2 ^ (40 - n) := by
  have e : (1099511627776 : Nat) = 2 ^ n * 2 ^ (40 - n) := by
    rw [← Nat.pow_add, show n + (40 - n) = 40 by omega]
  rw [e, Nat.mul_div_cancel_left _ (Nat.pow_pos (by omega))]

theorem tiles_adL : ∀ (t : Tr) (p : List UInt8), p.length + t.c ≤ 40 → tiles ((adL t p).map iv) (plF p 1099511627776 0) (plF p 1099511627776 0 + 1099511627776 / 2 ^ p.length)
  | .leaf, p, h => by
    simp only [Tr.c] at h
    have hp : 0 < 1099511627776 / 2 ^ p.length := by rw [grain_div (by omega)]; exact Nat.pow_pos (by omega)
    exact ⟨rfl, Nat.lt_add_of_pos_right hp, rfl⟩
  | .node l r, p, h => by
    simp only [Tr.c] at h
    have h1 := tiles_adL l (p ++ [48]) (by simp; omega)
    have h2 := tiles_adL r (p ++ [49]) (by simp; omega)
    simp only [plF_snoc, List.length_append, List.length_singleton] at h1 h2
    rw [if_neg (by decide)] at h1
    simp only [if_true] at h2
    simp only [adL, List.map_append]
    have e : 1099511627776 / 2 ^ p.length = 1099511627776 / 2 ^ (p.length + 1) + 1099511627776 / 2 ^ (p.length + 1) := by
      rw [grain_div (by omega), grain_div (by omega), show 40 - p.length = (40 - (p.length + 1)) + 1 by omega, Nat.pow_succ]
      omega
    rw [e, ← Nat.add_assoc]
    exact tiles_app _ _ _ _ _ h1 h2

/-- The first interval that ends behind a place; else the last one. -/
def lf : List (Nat × Nat) → Nat → Nat → Nat
  | [], _, i => i - 1
  | (_, e) :: r, x, i => if x < e then i else lf r x (i + 1)

/-- The last interval that does not begin behind a place. -/
def ls : List (Nat × Nat) → Nat → Nat → Nat → Nat
  | [], _, _, leaf => leaf
  | (s, _) :: r, x, i, leaf => ls r x (i + 1) (if x < s then leaf else i)

theorem ls_stay : ∀ (l : List (Nat × Nat)) (a b x i leaf : Nat), tiles l a b → x < a → ls l x i leaf = leaf
  | [], _, _, _, _, _, _, _ => rfl
  | (s, e) :: r, a, b, x, i, leaf, ⟨h1, h2, h3⟩, hx => by
    subst h1
    simp only [ls, if_pos hx]
    exact ls_stay r e b x (i + 1) leaf h3 (by omega)

theorem ls_lf : ∀ (l : List (Nat × Nat)) (a b x i leaf : Nat), tiles l a b → a ≤ x → l ≠ [] → ls l x i leaf = lf l x i
  | [], _, _, _, _, _, _, _, h => absurd rfl h
  | (s, e) :: r, a, b, x, i, leaf, ⟨h1, h2, h3⟩, hx, _ => by
    subst h1
    simp only [ls, lf]
    rw [if_neg (Nat.not_lt.2 hx)]
    by_cases h : x < e
    · rw [if_pos h]; exact ls_stay r e b x _ i h3 h
    · rw [if_neg h]
      cases r with
      | nil => simp [ls, lf]
      | cons y r' => exact ls_lf (y :: r') e b x (i + 1) i h3 (by omega) (by simp)

theorem cmp_core (n E N d P Q M : Nat) (h1 : d * P = M) (h2 : E * Q = M) (hM : 0 < M) : n * E < N * d ↔ n * P < N * Q := by
  have hP : 0 < P := Nat.pos_of_ne_zero (by intro e; subst e; omega)
  have hQ : 0 < Q := Nat.pos_of_ne_zero (by intro e; subst e; omega)
  have e1 : n * E * (P * Q) = n * P * M := by rw [← h2]; ac_rfl
  have e2 : N * d * (P * Q) = N * Q * M := by rw [← h1]; ac_rfl
  rw [← Nat.mul_lt_mul_right (Nat.mul_pos hP hQ), e1, e2, Nat.mul_lt_mul_right hM]

theorem pow2_dvd_all : (List.range 1025).all (fun d => !pow2 d || decide (d * (1099511627776 / d) = 1099511627776)) = true := by decide +kernel

theorem pow2_dvd {d : Nat} (h2 : d ≤ 1024) (h : pow2 d = true) : d * (1099511627776 / d) = 1099511627776 := by
  have := List.all_eq_true.1 pow2_dvd_all d (List.mem_range.2 (by omega))
  rw [h, Bool.not_true, Bool.false_or, decide_eq_true_eq] at this
  exact this

/-- A fraction in numbers. -/
theorem goodF_nat {x : Int × Int} (h : goodF x = true) : ∃ n d : Nat, x = ((n : Int), (d : Int)) ∧ 1 ≤ d ∧ d ≤ 1024 ∧ n ≤ d ∧ pow2 d = true := by
  simp only [goodF, Bool.and_eq_true, Bool.or_eq_true, decide_eq_true_eq] at h
  obtain ⟨⟨⟨⟨⟨h1, h2⟩, h3⟩, h4⟩, h5⟩, h6⟩ := h
  refine ⟨x.1.toNat, x.2.toNat, ?_, by omega, by omega, by omega, h3⟩
  rw [Int.toNat_of_nonneg h4, Int.toNat_of_nonneg (by omega)]

/-- Where a fraction is, in grains. -/
def plc (n d : Nat) : Nat := n * (1099511627776 / d)

theorem less_iff (n d : Nat) (h2 : d ≤ 1024) (hd : pow2 d = true) (a : List UInt8) (ha : a.length ≤ 40) :
    n * (2 ^ a.length / Nat.gcd (bn a) (2 ^ a.length)) < bn a / Nat.gcd (bn a) (2 ^ a.length) * d ↔ plc n d < plF a 1099511627776 0 := by
  have e := plF_eq a 40 0 ha
  rw [Nat.zero_add] at e
  rw [show (1099511627776 : Nat) = 2 ^ 40 from rfl] at *
  rw [e]
  have hp : 0 < 2 ^ a.length := Nat.pow_pos (by omega)
  obtain ⟨E, hE⟩ := Nat.gcd_dvd_right (bn a) (2 ^ a.length)
  obtain ⟨N, hN⟩ := Nat.gcd_dvd_left (bn a) (2 ^ a.length)
  have hg : 0 < Nat.gcd (bn a) (2 ^ a.length) := Nat.gcd_pos_of_pos_right _ hp
  have d1 : 2 ^ a.length / Nat.gcd (bn a) (2 ^ a.length) = E := by
    conv => lhs; lhs; rw [hE]
    exact Nat.mul_div_cancel_left _ hg
  have d2 : bn a / Nat.gcd (bn a) (2 ^ a.length) = N := by
    conv => lhs; lhs; rw [hN]
    exact Nat.mul_div_cancel_left _ hg
  rw [d1, d2]
  have hQ : E * (Nat.gcd (bn a) (2 ^ a.length) * 2 ^ (40 - a.length)) = 2 ^ 40 := by
    rw [← Nat.mul_assoc, Nat.mul_comm E, ← hE, ← Nat.pow_add]
    congr 1
    omega
  have hb : bn a * 2 ^ (40 - a.length) = N * (Nat.gcd (bn a) (2 ^ a.length) * 2 ^ (40 - a.length)) := by
    rw [← Nat.mul_assoc, Nat.mul_comm N, ← hN]
  rw [hb]
  have hd' := pow2_dvd h2 hd
  exact cmp_core n E N d (2 ^ 40 / d) _ (2 ^ 40) hd' hQ (Nat.pow_pos (by omega))

theorem adL_bits : ∀ (t : Tr) (p a : List UInt8), bits01 p → a ∈ adL t p → bits01 a
  | .leaf, p, a, hp, h => by simp [adL] at h; subst h; exact hp
  | .node l r, p, a, hp, h => by
    simp only [adL] at h
    rcases List.mem_append.1 h with h | h
    · exact adL_bits l _ a (by intro c hc; rcases List.mem_append.1 hc with h | h; exact hp c h; simp at h; exact .inl h) h
    · exact adL_bits r _ a (by intro c hc; rcases List.mem_append.1 hc with h | h; exact hp c h; simp at h; exact .inr h) h

end Go.AI
