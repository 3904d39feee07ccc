/- A part of the road: what it proves stands in its last texts. -/
import Derived.Test.YtndnckjnnfnnnaaDoorGZ
import Derived.Test.YtndnckjnnfnnnaaDoorCF
section
/- Contracts: where the leaves begin; the law of the leaf at a fraction. -/
set_option autoImplicit false
set_option maxRecDepth 100000
set_option linter.unusedVariables false
namespace Go.AI
open Go.Proofs

theorem gcd_L : ∀ (n a b : Nat), b ≤ n → a ≤ 2 ^ 40 → b ≤ 2 ^ 40 → LoopSC cfg.P 2 (lb P_spec_mpGcd 0) (spec_mpGcd_L0a (a : Int) (b : Int)) (.exit 0) (spec_mpGcd_L0X1 ((Nat.gcd a b : Nat) : Int) 0 false) := by
  intro n
  induction n with
  | zero =>
    intro a b hb _ _
    have : b = 0 := by omega
    subst this
    rw [Nat.gcd_zero_right]
    exact spec_mpGcd_L0a_x2 _ _ (by decide)
  | succ n ih =>
    intro a b hb h1 h2
    by_cases h : b = 0
    · subst h
      rw [Nat.gcd_zero_right]
      exact spec_mpGcd_L0a_x2 _ _ (by decide)
    · have hm : a % b < b := Nat.mod_lt _ (by omega)
      have hn := ih b (a % b) (by omega) h2 (by omega)
      have e : Nat.gcd b (a % b) = Nat.gcd a b := by rw [Nat.gcd_comm b (a % b), ← Nat.gcd_rec, Nat.gcd_comm]
      rw [e] at hn
      exact spec_mpGcd_L0a_i1 _ _ (by omega) (by omega) hn

theorem gcd_SC (a b : Nat) (h1 : a ≤ 2 ^ 40) (h2 : b ≤ 2 ^ 40) : SC cfg.P i_spec_mpGcd [.s (.v (.int .i64) (a : Int)), .s (.v (.int .i64) (b : Int))] (.s (.v (.int .i64) ((Nat.gcd a b : Nat) : Int))) [] :=
  spec_mpGcd_p1 _ _ _ _ _ (gcd_L b a b (Nat.le_refl _) h1 h2)

theorem short_SC (a b : Nat) (h1 : a ≤ 2 ^ 40) (h2 : b ≤ 2 ^ 40) (hb : 0 < b) : SC cfg.P i_spec_mpShort [.s (.v (.int .i64) (a : Int)), .s (.v (.int .i64) (b : Int))] (.s (.v (.pr (.int .i64) (.int .i64)) (((a / Nat.gcd a b : Nat) : Int), ((b / Nat.gcd a b : Nat) : Int)))) [] := by
  have hg : 0 < Nat.gcd a b := Nat.gcd_pos_of_pos_right _ hb
  have e1 : IntKind.wrap .i64 (Int.tdiv (a : Int) ((Nat.gcd a b : Nat) : Int)) = ((a / Nat.gcd a b : Nat) : Int) := by
    have e : Int.tdiv (a : Int) ((Nat.gcd a b : Nat) : Int) = ((a / Nat.gcd a b : Nat) : Int) := rfl
    have hq := Nat.div_le_self a (Nat.gcd a b)
    rw [e]
    generalize a / Nat.gcd a b = q at hq ⊢
    rw [w64] <;> omega
  have e2 : IntKind.wrap .i64 (Int.tdiv (b : Int) ((Nat.gcd a b : Nat) : Int)) = ((b / Nat.gcd a b : Nat) : Int) := by
    have e : Int.tdiv (b : Int) ((Nat.gcd a b : Nat) : Int) = ((b / Nat.gcd a b : Nat) : Int) := rfl
    have hq := Nat.div_le_self b (Nat.gcd a b)
    rw [e]
    generalize b / Nat.gcd a b = q at hq ⊢
    rw [w64] <;> omega
  have := spec_mpShort_p2 (a : Int) (b : Int) _ (gcd_SC a b h1 h2) (by omega) (by omega)
  rw [e1, e2] at this
  exact this

/-- The number that an address spells. -/
def bn : List UInt8 → Nat
  | [] => 0
  | c :: r => (if c = 49 then 2 ^ r.length else 0) + bn r

theorem bn_lt : ∀ l : List UInt8, bn l < 2 ^ l.length
  | [] => by simp [bn]
  | c :: r => by
    have := bn_lt r
    simp only [bn, List.length_cons, Nat.pow_succ]
    split <;> omega

def bits01 (l : List UInt8) : Prop := ∀ c ∈ l, c = 48 ∨ c = 49

theorem plF_eq : ∀ (l : List UInt8) (k p : Nat), l.length ≤ k → plF l (2 ^ k) p = p + bn l * 2 ^ (k - l.length)
  | [], k, p, _ => by simp [plF, bn]
  | c :: r, k, p, h => by
    simp only [List.length_cons] at h
    obtain ⟨k', rfl⟩ : ∃ k', k = k' + 1 := ⟨k - 1, by omega⟩
    have e : 2 ^ (k' + 1) / 2 = 2 ^ k' := by rw [Nat.pow_succ]; omega
    simp only [plF, e, bn, List.length_cons]
    rw [plF_eq r k' _ (by omega)]
    have e2 : k' + 1 - (r.length + 1) = k' - r.length := by omega
    rw [e2]
    have e3 : 2 ^ r.length * 2 ^ (k' - r.length) = 2 ^ k' := by rw [← Nat.pow_add]; congr 1; omega
    split
    · rw [Nat.add_mul, e3]; omega
    · rw [Nat.zero_add]

theorem mpOf_SC (l : List UInt8) (hl : l.length ≤ 20) (h01 : bits01 l) : SC cfg.P i_spec_mpOf [.s (.v .str (bs l))] (.s (.v (.pr (.int .i64) (.int .i64)) (((bn l / Nat.gcd (bn l) (2 ^ l.length) : Nat) : Int), ((2 ^ l.length / Nat.gcd (bn l) (2 ^ l.length) : Nat) : Int)))) [] := by
  have hp20 : 2 ^ l.length ≤ 2 ^ 20 := Nat.pow_le_pow_right (by omega) hl
  have key : ∀ (m i acc : Nat), l.length - i = m → i ≤ l.length → acc < 2 ^ i →
      LoopSC cfg.P 1 (lb P_spec_mpOf 0) (spec_mpOf_L0a (bs l) (acc : Int) (i : Int) ((0 : Int), (0 : Int))) (.exit 0) (spec_mpOf_L0X1 (bs l) ((acc * 2 ^ (l.length - i) + bn (l.drop i) : Nat) : Int) (l.length : Int) false ((0 : Int), (0 : Int))) := by
    intro m
    induction m with
    | zero =>
      intro i acc hm hi ha
      have e : i = l.length := by omega
      subst e
      rw [List.drop_length]
      simp only [Nat.sub_self, Nat.pow_zero, Nat.mul_one, bn, Nat.add_zero]
      exact spec_mpOf_L0a_x2 _ _ _ _ (by rw [bs_size]; omega)
    | succ m ih =>
      intro i acc hm hi ha
      have hlt : i < l.length := by omega
      have hd : l.drop i = l[i] :: l.drop (i + 1) := List.drop_eq_getElem_cons hlt
      have hg : bt (bs l) (i : Int) = (l[i].toNat : Int) := by rw [bs_bt, Int.toNat_natCast, List.getD_eq_getElem?_getD, List.getElem?_eq_getElem hlt]; rfl
      have ew : IntKind.wrap .i64 ((i : Int) + 1) = ((i + 1 : Nat) : Int) := by rw [w64] <;> omega
      have hi20 : 2 ^ i ≤ 2 ^ 20 := Nat.pow_le_pow_right (by omega) (by omega)
      obtain ⟨v, hv, hv1⟩ : ∃ v : Nat, v ≤ 1 ∧ (IntKind.wrap .i64 (IntKind.wrap .u8 (bt (bs l) (i : Int) - 48)) = (v : Int)) ∧ (if l[i] = 49 then 1 else 0) = v := by
        rcases h01 l[i] (List.getElem_mem hlt) with h | h
        · refine ⟨0, by omega, ?_, by rw [h]; rfl⟩
          rw [hg, h]; rfl
        · refine ⟨1, by omega, ?_, by rw [h]; rfl⟩
          rw [hg, h]; rfl
      have e1 : IntKind.wrap .i64 ((2 : Int) * (acc : Int)) = ((2 * acc : Nat) : Int) := by rw [w64] <;> omega
      have e2 : IntKind.wrap .i64 (((2 * acc : Nat) : Int) + (v : Int)) = ((2 * acc + v : Nat) : Int) := by rw [w64] <;> omega
      have hn := ih (i + 1) (2 * acc + v) (by omega) (by omega) (by rw [Nat.pow_succ]; omega)
      have hval : (2 * acc + v) * 2 ^ (l.length - (i + 1)) + bn (l.drop (i + 1)) = acc * 2 ^ (l.length - i) + bn (l.drop i) := by
        rw [hd]
        simp only [bn]
        have hlen : (l.drop (i + 1)).length = l.length - (i + 1) := by simp
        have hpw : 2 ^ (l.length - i) = 2 * 2 ^ (l.length - (i + 1)) := by
          rw [← Nat.pow_succ']
          congr 1
          omega
        rw [hlen, hpw, Nat.add_mul, ← hv1.2]
        split
        · rw [Nat.one_mul, ← Nat.mul_assoc, Nat.mul_comm acc 2, Nat.add_assoc]
        · rw [Nat.zero_mul, ← Nat.mul_assoc, Nat.mul_comm acc 2, Nat.zero_add, Nat.add_zero]
      rw [hval, ← ew, ← e2, ← e1, ← hv1.1] at hn
      exact spec_mpOf_L0a_i1 _ _ _ _ (by rw [bs_size]; omega) (by omega) hn
  have h0 := key l.length 0 0 (by omega) (by omega) (by simp)
  rw [Nat.zero_mul, Nat.zero_add, List.drop_zero] at h0
  have hlt := bn_lt l
  have hs := short_SC (bn l) (2 ^ l.length) (by omega) (by omega) (Nat.pow_pos (by omega))
  have ep : IntKind.wrap .i64 ((1 : Int) * 2 ^ (min (((bs l).size : Int)).toNat (IntKind.bits .i64))) = ((2 ^ l.length : Nat) : Int) := by
    rw [bs_size, Int.toNat_natCast]
    have hmin : min l.length (IntKind.bits .i64) = l.length := by
      have : IntKind.bits .i64 = 64 := rfl
      omega
    rw [hmin, Int.one_mul]
    have hc : ((2 : Int) ^ l.length) = ((2 ^ l.length : Nat) : Int) := by push_cast; rfl
    rw [hc, w64] <;> omega
  rw [← ep] at hs
  exact spec_mpOf_p1 _ _ _ _ _ _ _ h0 (by omega) hs

end Go.AI
end

section
/- The plain law of leaves and places: intervals of leaves follow one another. -/
set_option autoImplicit false
set_option maxRecDepth 100000
set_option linter.unusedVariables false
namespace Go.AI
open Go.Proofs

/-- The interval of an address, in grains. -/
def iv (a : List UInt8) : Nat × Nat := (plF a 1099511627776 0, plF a 1099511627776 0 + 1099511627776 / 2 ^ a.length)

def tiles : List (Nat × Nat) → Nat → Nat → Prop
  | [], a, b => a = b
  | (s, e) :: r, a, b => s = a ∧ a < e ∧ tiles r e b

theorem tiles_app : ∀ (l m : List (Nat × Nat)) (a b c : Nat), tiles l a b → tiles m b c → tiles (l ++ m) a c
  | [], m, a, b, c, h1, h2 => by rw [show a = b from h1]; exact h2
  | (s, e) :: r, m, a, b, c, ⟨h1, h2, h3⟩, h4 => ⟨h1, h2, tiles_app r m e b c h3 h4⟩

theorem plF_snoc : ∀ (p : List UInt8) (c : UInt8) (k pl : Nat), plF (p ++ [c]) k pl = if c = 49 then plF p k pl + k / 2 ^ (p.length + 1) else plF p k pl
  | [], c, k, pl => by simp [plF]
  | d :: r, c, k, pl => by
    simp only [List.cons_append, plF, List.length_cons]
    rw [plF_snoc r c (k / 2) _, Nat.div_div_eq_div_mul, ← Nat.pow_succ']

theorem grain_div {n : Nat} (h : n ≤ 40) : 1099511627776 / 2 ^ n = 2 ^ (40 - n) := by
  have e : (1099511627776 : Nat) = 2 ^ n * 2 ^ (40 - n) := by
    rw [← Nat.pow_add, show n + (40 - n) = 40 by omega]
  rw [e, Nat.mul_div_cancel_left _ (Nat.pow_pos (by omega))]

theorem tiles_adL : ∀ (t : Tr) (p : List UInt8), p.length + t.c ≤ 40 → tiles ((adL t p).map iv) (plF p 1099511627776 0) (plF p 1099511627776 0 + 1099511627776 / 2 ^ p.length)
  | .leaf, p, h => by
    simp only [Tr.c] at h
    have hp : 0 < 1099511627776 / 2 ^ p.length := by rw [grain_div (by omega)]; exact Nat.pow_pos (by omega)
    exact ⟨rfl, Nat.lt_add_of_pos_right hp, rfl⟩
  | .node l r, p, h => by
    simp only [Tr.c] at h
    have h1 := tiles_adL l (p ++ [48]) (by simp; omega)
    have h2 := tiles_adL r (p ++ [49]) (by simp; omega)
    simp only [plF_snoc, List.length_append, List.length_singleton] at h1 h2
    rw [if_neg (by decide)] at h1
    simp only [if_true] at h2
    simp only [adL, List.map_append]
    have e : 1099511627776 / 2 ^ p.length = 1099511627776 / 2 ^ (p.length + 1) + 1099511627776 / 2 ^ (p.length + 1) := by
      rw [grain_div (by omega), grain_div (by omega), show 40 - p.length = (40 - (p.length + 1)) + 1 by omega, Nat.pow_succ]
      omega
    rw [e, ← Nat.add_assoc]
    exact tiles_app _ _ _ _ _ h1 h2

/-- The first interval that ends behind a place; else the last one. -/
def lf : List (Nat × Nat) → Nat → Nat → Nat
  | [], _, i => i - 1
  | (_, e) :: r, x, i => if x < e then i else lf r x (i + 1)

/-- The last interval that does not begin behind a place. -/
def ls : List (Nat × Nat) → Nat → Nat → Nat → Nat
  | [], _, _, leaf => leaf
  | (s, _) :: r, x, i, leaf => ls r x (i + 1) (if x < s then leaf else i)

theorem ls_stay : ∀ (l : List (Nat × Nat)) (a b x i leaf : Nat), tiles l a b → x < a → ls l x i leaf = leaf
  | [], _, _, _, _, _, _, _ => rfl
  | (s, e) :: r, a, b, x, i, leaf, ⟨h1, h2, h3⟩, hx => by
    subst h1
    simp only [ls, if_pos hx]
    exact ls_stay r e b x (i + 1) leaf h3 (by omega)

theorem ls_lf : ∀ (l : List (Nat × Nat)) (a b x i leaf : Nat), tiles l a b → a ≤ x → l ≠ [] → ls l x i leaf = lf l x i
  | [], _, _, _, _, _, _, _, h => absurd rfl h
  | (s, e) :: r, a, b, x, i, leaf, ⟨h1, h2, h3⟩, hx, _ => by
    subst h1
    simp only [ls, lf]
    rw [if_neg (Nat.not_lt.2 hx)]
    by_cases h : x < e
    · rw [if_pos h]; exact ls_stay r e b x _ i h3 h
    · rw [if_neg h]
      cases r with
      | nil => simp [ls, lf]
      | cons y r' => exact ls_lf (y :: r') e b x (i + 1) i h3 (by omega) (by simp)

theorem cmp_core (n E N d P Q M : Nat) (h1 : d * P = M) (h2 : E * Q = M) (hM : 0 < M) : n * E < N * d ↔ n * P < N * Q := by
  have hP : 0 < P := Nat.pos_of_ne_zero (by intro e; subst e; omega)
  have hQ : 0 < Q := Nat.pos_of_ne_zero (by intro e; subst e; omega)
  have e1 : n * E * (P * Q) = n * P * M := by rw [← h2]; ac_rfl
  have e2 : N * d * (P * Q) = N * Q * M := by rw [← h1]; ac_rfl
  rw [← Nat.mul_lt_mul_right (Nat.mul_pos hP hQ), e1, e2, Nat.mul_lt_mul_right hM]

theorem pow2_dvd_all : (List.range 1025).all (fun d => !pow2 d || decide (d * (1099511627776 / d) = 1099511627776)) = true := by decide +kernel

theorem pow2_dvd {d : Nat} (h2 : d ≤ 1024) (h : pow2 d = true) : d * (1099511627776 / d) = 1099511627776 := by
  have := List.all_eq_true.1 pow2_dvd_all d (List.mem_range.2 (by omega))
  rw [h, Bool.not_true, Bool.false_or, decide_eq_true_eq] at this
  exact this

/-- A fraction in numbers. -/
theorem goodF_nat {x : Int × Int} (h : goodF x = true) : ∃ n d : Nat, x = ((n : Int), (d : Int)) ∧ 1 ≤ d ∧ d ≤ 1024 ∧ n ≤ d ∧ pow2 d = true := by
  simp only [goodF, Bool.and_eq_true, Bool.or_eq_true, decide_eq_true_eq] at h
  obtain ⟨⟨⟨⟨⟨h1, h2⟩, h3⟩, h4⟩, h5⟩, h6⟩ := h
  refine ⟨x.1.toNat, x.2.toNat, ?_, by omega, by omega, by omega, h3⟩
  rw [Int.toNat_of_nonneg h4, Int.toNat_of_nonneg (by omega)]

/-- Where a fraction is, in grains. -/
def plc (n d : Nat) : Nat := n * (1099511627776 / d)

theorem less_iff (n d : Nat) (h2 : d ≤ 1024) (hd : pow2 d = true) (a : List UInt8) (ha : a.length ≤ 40) :
    n * (2 ^ a.length / Nat.gcd (bn a) (2 ^ a.length)) < bn a / Nat.gcd (bn a) (2 ^ a.length) * d ↔ plc n d < plF a 1099511627776 0 := by
  have e := plF_eq a 40 0 ha
  rw [Nat.zero_add] at e
  rw [show (1099511627776 : Nat) = 2 ^ 40 from rfl] at *
  rw [e]
  have hp : 0 < 2 ^ a.length := Nat.pow_pos (by omega)
  obtain ⟨E, hE⟩ := Nat.gcd_dvd_right (bn a) (2 ^ a.length)
  obtain ⟨N, hN⟩ := Nat.gcd_dvd_left (bn a) (2 ^ a.length)
  have hg : 0 < Nat.gcd (bn a) (2 ^ a.length) := Nat.gcd_pos_of_pos_right _ hp
  have d1 : 2 ^ a.length / Nat.gcd (bn a) (2 ^ a.length) = E := by
    conv => lhs; lhs; rw [hE]
    exact Nat.mul_div_cancel_left _ hg
  have d2 : bn a / Nat.gcd (bn a) (2 ^ a.length) = N := by
    conv => lhs; lhs; rw [hN]
    exact Nat.mul_div_cancel_left _ hg
  rw [d1, d2]
  have hQ : E * (Nat.gcd (bn a) (2 ^ a.length) * 2 ^ (40 - a.length)) = 2 ^ 40 := by
    rw [← Nat.mul_assoc, Nat.mul_comm E, ← hE, ← Nat.pow_add]
    congr 1
    omega
  have hb : bn a * 2 ^ (40 - a.length) = N * (Nat.gcd (bn a) (2 ^ a.length) * 2 ^ (40 - a.length)) := by
    rw [← Nat.mul_assoc, Nat.mul_comm N, ← hN]
  rw [hb]
  have hd' := pow2_dvd h2 hd
  exact cmp_core n E N d (2 ^ 40 / d) _ (2 ^ 40) hd' hQ (Nat.pow_pos (by omega))

theorem adL_bits : ∀ (t : Tr) (p a : List UInt8), bits01 p → a ∈ adL t p → bits01 a
  | .leaf, p, a, hp, h => by simp [adL] at h; subst h; exact hp
  | .node l r, p, a, hp, h => by
    simp only [adL] at h
    rcases List.mem_append.1 h with h | h
    · exact adL_bits l _ a (by intro c hc; rcases List.mem_append.1 hc with h | h; exact hp c h; simp at h; exact .inl h) h
    · exact adL_bits r _ a (by intro c hc; rcases List.mem_append.1 hc with h | h; exact hp c h; simp at h; exact .inr h) h

end Go.AI
end

section
/- Contracts: the leaf at a fraction. -/
set_option autoImplicit false
set_option maxRecDepth 100000
set_option linter.unusedVariables false
namespace Go.AI
open Go.Proofs

abbrev FrK : Kd := .pr (.int .i64) (.int .i64)

/-- The fraction of an address. -/
def frA (a : List UInt8) : Int × Int := (((bn a / Nat.gcd (bn a) (2 ^ a.length) : Nat) : Int), ((2 ^ a.length / Nat.gcd (bn a) (2 ^ a.length) : Nat) : Int))

theorem getD_map {α β : Type} (f : α → β) (l : List α) (i : Nat) (h : i < l.length) (d : β) : List.getD (l.map f) ((i : Int)).toNat d = f l[i] := by
  rw [Int.toNat_natCast, List.getD_eq_getElem?_getD, List.getElem?_map, List.getElem?_eq_getElem h]; rfl

theorem adL_ok {t : Tr} {n : Nat} (h : t.c ≤ n) : ∀ a ∈ adL t [], a.length ≤ n ∧ bits01 a := fun a ha =>
  ⟨by have := adL_bound t [] a ha; simp at this; omega, adL_bits t [] a (by intro c hc; cases hc) ha⟩

theorem mpLess_SC (n d : Nat) (h1 : 1 ≤ d) (h2 : d ≤ 1024) (hn : n ≤ d) (hp : pow2 d = true) (a : List UInt8) (ha : a.length ≤ 20) :
    SC cfg.P i_spec_mpLess [.s (.v FrK ((n : Int), (d : Int))), .s (.v FrK (frA a))] (.s (.v .bool (decide (plc n d < plF a 1099511627776 0)))) [] := by
  have hiff := less_iff n d h2 hp a (by omega)
  have hp20 : 2 ^ a.length ≤ 2 ^ 20 := Nat.pow_le_pow_right (by omega) ha
  have hE := Nat.div_le_self (2 ^ a.length) (Nat.gcd (bn a) (2 ^ a.length))
  have hN := Nat.div_le_self (bn a) (Nat.gcd (bn a) (2 ^ a.length))
  have hb := bn_lt a
  have e1 : IntKind.wrap .i64 ((n : Int) * (frA a).2) = ((n * (2 ^ a.length / Nat.gcd (bn a) (2 ^ a.length)) : Nat) : Int) := by
    simp only [frA]
    generalize 2 ^ a.length / Nat.gcd (bn a) (2 ^ a.length) = q at hE ⊢
    have hm : n * q ≤ 1024 * 2 ^ 20 := Nat.mul_le_mul (by omega) (by omega)
    rw [← Int.natCast_mul, w64] <;> omega
  have e2 : IntKind.wrap .i64 ((frA a).1 * (d : Int)) = ((bn a / Nat.gcd (bn a) (2 ^ a.length) * d : Nat) : Int) := by
    simp only [frA]
    generalize bn a / Nat.gcd (bn a) (2 ^ a.length) = q at hN ⊢
    have hm : q * d ≤ 2 ^ 20 * 1024 := Nat.mul_le_mul (by omega) (by omega)
    rw [← Int.natCast_mul, w64] <;> omega
  by_cases h : plc n d < plF a 1099511627776 0
  · rw [decide_eq_true h]
    refine spec_mpLess_p1 ((n : Int), (d : Int)) (frA a) ?_
    have := hiff.2 h
    show IntKind.wrap .i64 ((n : Int) * (frA a).2) < IntKind.wrap .i64 ((frA a).1 * (d : Int))
    rw [e1, e2]
    exact Int.ofNat_lt.2 this
  · rw [decide_eq_false h]
    refine spec_mpLess_p2 ((n : Int), (d : Int)) (frA a) ?_
    show ¬ (IntKind.wrap .i64 ((n : Int) * (frA a).2) < IntKind.wrap .i64 ((frA a).1 * (d : Int)))
    rw [e1, e2]
    exact fun g => h (hiff.1 (Int.ofNat_lt.1 g))

theorem ls_iv (a : List UInt8) (r : List (Nat × Nat)) (x i leaf : Nat) : ls (iv a :: r) x i leaf = ls r x (i + 1) (if x < plF a 1099511627776 0 then leaf else i) := rfl

theorem lf_iv (a : List UInt8) (r : List (Nat × Nat)) (x i : Nat) : lf (iv a :: r) x i = if x < (iv a).2 then i else lf r x (i + 1) := rfl

/-- The leaf that has a place. -/
def leafAt (t : Tr) (x : Nat) : Nat := lf ((adL t []).map iv) x 0

theorem ls_leafAt (t : Tr) (h : t.c ≤ 40) (x : Nat) : ls ((adL t []).map iv) x 0 0 = leafAt t x :=
  ls_lf _ _ _ x 0 0 (tiles_adL t [] (by simpa using h)) (Nat.zero_le _) (by
    have := adL_len t []
    intro e
    rw [List.map_eq_nil_iff] at e
    rw [e] at this
    simp at this)

theorem plc_le {n d : Nat} (hn : n ≤ d) : plc n d ≤ 1099511627776 :=
  Nat.le_trans (Nat.mul_le_mul_right _ hn) (Nat.mul_div_le _ _)

theorem place_SC (n d : Nat) (h1 : 1 ≤ d) (h2 : d ≤ 1024) (hn : n ≤ d) : SC cfg.P i_impl_Fraction_place [.s (.v FrK ((n : Int), (d : Int)))] (.s (.v (.int .i64) ((plc n d : Nat) : Int))) [] := by
  have h := impl_Fraction_place_p1 ((n : Int), (d : Int)) (by show (d : Int) ≠ 0; omega)
  have hle := plc_le hn
  have hq := Nat.div_le_self 1099511627776 d
  have e : Int.tdiv (1099511627776 : Int) (d : Int) = ((1099511627776 / d : Nat) : Int) := rfl
  have e2 : IntKind.wrap .i64 (Int.tdiv (1099511627776 : Int) (d : Int)) = ((1099511627776 / d : Nat) : Int) := by
    rw [e]
    generalize 1099511627776 / d = q at hq ⊢
    rw [w64] <;> omega
  have e3 : IntKind.wrap .i64 ((n : Int) * ((1099511627776 / d : Nat) : Int)) = ((plc n d : Nat) : Int) := by
    rw [← Int.natCast_mul]
    show IntKind.wrap .i64 ((plc n d : Nat) : Int) = _
    rw [w64] <;> omega
  simp only [e2, e3] at h
  exact h

theorem iv_le (a : List UInt8) (ha : a.length ≤ 40) : plF a 1099511627776 0 < 1099511627776 ∧ (iv a).2 ≤ 1099511627776 := by
  have e := plF_eq a 40 0 ha
  rw [Nat.zero_add, show (2 : Nat) ^ 40 = 1099511627776 from rfl] at e
  have hb := bn_lt a
  have hk : 2 ^ a.length * 2 ^ (40 - a.length) = 1099511627776 := by
    rw [← Nat.pow_add, show a.length + (40 - a.length) = 40 by omega]
  have hpos : 0 < 2 ^ (40 - a.length) := Nat.pow_pos (by omega)
  have h1 : (bn a + 1) * 2 ^ (40 - a.length) ≤ 1099511627776 := by
    rw [← hk]; exact Nat.mul_le_mul_right _ hb
  rw [Nat.add_mul, Nat.one_mul] at h1
  simp only [iv]
  rw [grain_div ha, e]
  omega

theorem zip_get (f t : List (List UInt8)) (i : Nat) (h1 : i < f.length) (h2 : i < t.length) (d : Pc) : List.getD (List.zipWith pc f t) ((i : Int)).toNat d = pc f[i] t[i] := by
  rw [Int.toNat_natCast, List.getD_eq_getElem?_getD, List.getElem?_zipWith, List.getElem?_eq_getElem h1, List.getElem?_eq_getElem h2]; rfl

end Go.AI
end
