/- Contracts: where the leaves begin; the law of the leaf at a fraction. -/
import Derived.Test.YtlkjnlhpdjbjdaaCF
set_option autoImplicit false
set_option maxRecDepth 100000
set_option linter.unusedVariables false
namespace Go.AI
open Go.Proofs

theorem gcd_L : ∀ (n a b : Nat), b ≤ n → a ≤ 2 ^ 40 → b ≤ 2 ^ 40 → LoopSC cfg.P 2 (lb P_spec_mpGcd 0) (spec_mpGcd_L0a (a : Int) (b : Int)) (.exit 0) (spec_mpGcd_L0X1 ((Nat.gcd a b : Nat) : Int) 0 false) := by
  intro n
  induction n with
  | zero =>
    intro a b hb _ _
    have : b = 0 := by omega
    subst this
    rw [Nat.gcd_zero_right]
    exact spec_mpGcd_L0a_x2 _ _ (by decide)
  | succ n ih =>
    intro a b hb h1 h2
    by_cases h : b = 0
    · subst h
      rw [Nat.gcd_zero_right]
      exact spec_mpGcd_L0a_x2 _ _ (by decide)
    · have hm : a % b < b := Nat.mod_lt _ (by omega)
      have hn := ih b (a % b) (by omega) h2 (by omega)
      have e : Nat.gcd b (a % b) = Nat.gcd a b := by rw [Nat.gcd_comm b (a % b), ← Nat.gcd_rec, Nat.gcd_comm]
      rw [e] at hn
      exact spec_mpGcd_L0a_i1 _ _ (by omega) (by omega) hn

theorem gcd_SC (a b : Nat) (h1 : a ≤ 2 ^ 40) (h2 : b ≤ 2 ^ 40) : SC cfg.P i_spec_mpGcd [.s (.v (.int .i64) (a : Int)), .s (.v (.int .i64) (b : Int))] (.s (.v (.int .i64) ((Nat.gcd a b : Nat) : Int))) [] :=
  spec_mpGcd_p1 _ _ _ _ _ (gcd_L b a b (Nat.le_refl _) h1 h2)

theorem short_SC (a b : Nat) (h1 : a ≤ 2 ^ 40) (h2 : b ≤ 2 ^ 40) (hb : 0 < b) : SC cfg.P i_spec_mpShort [.s (.v (.int .i64) (a : Int)), .s (.v (.int .i64) (b : Int))] (.s (.v (.pr (.int .i64) (.int .i64)) (((a / Nat.gcd a b : Nat) : Int), ((b / Nat.gcd a b : Nat) : Int)))) [] := by
  have hg : 0 < Nat.gcd a b := Nat.gcd_pos_of_pos_right _ hb
  have e1 : IntKind.wrap .i64 (Int.tdiv (a : Int) ((Nat.gcd a b : Nat) : Int)) = ((a / Nat.gcd a b : Nat) : Int) := by
    have e : Int.tdiv (a : Int) ((Nat.gcd a b : Nat) : Int) = ((a / Nat.gcd a b : Nat) : Int) := rfl
    have hq := Nat.div_le_self a (Nat.gcd a b)
    rw [e]
    generalize a / Nat.gcd a b = q at hq ⊢
    rw [w64] <;> omega
  have e2 : IntKind.wrap .i64 (Int.tdiv (b : Int) ((Nat.gcd a b : Nat) : Int)) = ((b / Nat.gcd a b : Nat) : Int) := by
    have e : Int.tdiv (b : Int) ((Nat.gcd a b : Nat) : Int) = ((b / Nat.gcd a b : Nat) : Int) := rfl
    have hq := Nat.div_le_self b (Nat.gcd a b)
    rw [e]
    generalize b / Nat.gcd a b = q at hq ⊢
    rw [w64] <;> omega
  have := spec_mpShort_p2 (a : Int) (b : Int) _ (gcd_SC a b h1 h2) (by omega) (by omega)
  rw [e1, e2] at this
  exact this

/-- The number that an address spells. -/
def bn : List UInt8 → Nat
  | [] => 0
  | c :: r => (if c = 49 then 2 ^ r.length else 0) + bn r

theorem bn_lt : ∀ l : List UInt8, bn l < 2 ^ l.length
  | [] => by simp [bn]
  | c :: r => by
    have := bn_lt r
    simp only [bn, List.length_cons, Nat.pow_succ]
    split <;> omega

def bits01 (l : List UInt8) : Prop := ∀ c ∈ l, c = 48 ∨ c = 49

theorem plF_eq : ∀ (l : List UInt8) (k p : Nat), l.length ≤ k → plF l (2 ^ k) p = p + bn l * 2 ^ (k - l.length)
  | [], k, p, _ => by simp [plF, bn]
  | c :: r, k, p, h => by
    simp only [List.length_cons] at h
    obtain ⟨k', rfl⟩ : ∃ k', k = k' + 1 := ⟨k - 1, by omega⟩
    have e : 2 ^ (k' + 1) / 2 = 2 ^ k' := by rw [Nat.pow_succ]; omega
    simp only [plF, e, bn, List.length_cons]
    rw [plF_eq r k' _ (by omega)]
    have e2 : k' + 1 - (r.length + 1) = k' - r.length := by omega
    rw [e2]
    have e3 : 2 ^ r.length * 2 ^ (k' - r.length) = 2 ^ k' := by rw [← Nat.pow_add]; congr 1; omega
    split
    · rw [Nat.add_mul, e3]; omega
    · rw [Nat.zero_add]

theorem mpOf_SC (l : List UInt8) (hl : l.length ≤ 20) (h01 : bits01 l) : SC cfg.P i_spec_mpOf [.s (.v .str (bs l))] (.s (.v (.pr (.int .i64) (.int .i64)) (((bn l / Nat.gcd (bn l) (2 ^ l.length) : Nat) : Int), ((2 ^ l.length / Nat.gcd (bn l) (2 ^ l.length) : Nat) : Int)))) [] := by
  have hp20 : 2 ^ l.length ≤ 2 ^ 20 := Nat.pow_le_pow_right (by omega) hl
  have key : ∀ (m i acc : Nat), l.length - i = m → i ≤ l.length → acc < 2 ^ i →
      LoopSC cfg.P 1 (lb P_spec_mpOf 0) (spec_mpOf_L0a (bs l) (acc : Int) (i : Int) ((0 : Int), (0 : Int))) (.exit 0) (spec_mpOf_L0X1 (bs l) ((acc * 2 ^ (l.length - i) + bn (l.drop i) : Nat) : Int) (l.length : Int) false ((0 : Int), (0 : Int))) := by
    intro m
    induction m with
    | zero =>
      intro i acc hm hi ha
      have e : i = l.length := by omega
      subst e
      rw [List.drop_length]
      simp only [Nat.sub_self, Nat.pow_zero, Nat.mul_one, bn, Nat.add_zero]
      exact spec_mpOf_L0a_x2 _ _ _ _ (by rw [bs_size]; omega)
    | succ m ih =>
      intro i acc hm hi ha
      have hlt : i < l.length := by omega
      have hd : l.drop i = l[i] :: l.drop (i + 1) := List.drop_eq_getElem_cons hlt
      have hg : bt (bs l) (i : Int) = (l[i].toNat : Int) := by rw [bs_bt, Int.toNat_natCast, List.getD_eq_getElem?_getD, List.getElem?_eq_getElem hlt]; rfl
      have ew : IntKind.wrap .i64 ((i : Int) + 1) = ((i + 1 : Nat) : Int) := by rw [w64] <;> omega
      have hi20 : 2 ^ i ≤ 2 ^ 20 := Nat.pow_le_pow_right (by omega) (by omega)
      obtain ⟨v, hv, hv1⟩ : ∃ v : Nat, v ≤ 1 ∧ (IntKind.wrap .i64 (IntKind.wrap .u8 (bt (bs l) (i : Int) - 48)) = (v : Int)) ∧ (if l[i] = 49 then 1 else 0) = v := by
        rcases h01 l[i] (List.getElem_mem hlt) with h | h
        · refine ⟨0, by omega, ?_, by rw [h]; rfl⟩
          rw [hg, h]; rfl
        · refine ⟨1, by omega, ?_, by rw [h]; rfl⟩
          rw [hg, h]; rfl
      have e1 : IntKind.wrap .i64 ((2 : Int) * (acc : Int)) = ((2 * acc : Nat) : Int) := by rw [w64] <;> omega
      have e2 : IntKind.wrap .i64 (((2 * acc : Nat) : Int) + (v : Int)) = ((2 * acc + v : Nat) : Int) := by rw [w64] <;> omega
      have hn := ih (i + 1) (2 * acc + v) (by omega) (by omega) (by rw [Nat.pow_succ]; omega)
      have hval : (2 * acc + v) * 2 ^ (l.length - (i + 1)) + bn (l.drop (i + 1)) = acc * 2 ^ (l.length - i) + bn (l.drop i) := by
        rw [hd]
        simp only [bn]
        have hlen : (l.drop (i + 1)).length = l.length - (i + 1) := by simp
        have hpw : 2 ^ (l.length - i) = 2 * 2 ^ (l.length - (i + 1)) := by
          rw [← Nat.pow_succ']
          congr 1
          omega
        rw [hlen, hpw, Nat.add_mul, ← hv1.2]
        split
        · rw [Nat.one_mul, ← Nat.mul_assoc, Nat.mul_comm acc 2, Nat.add_assoc]
        · rw [Nat.zero_mul, ← Nat.mul_assoc, Nat.mul_comm acc 2, Nat.zero_add, Nat.add_zero]
      rw [hval, ← ew, ← e2, ← e1, ← hv1.1] at hn
      exact spec_mpOf_L0a_i1 _ _ _ _ (by rw [bs_size]; omega) (by omega) hn
  have h0 := key l.length 0 0 (by omega) (by omega) (by simp)
  rw [Nat.zero_mul, Nat.zero_add, List.drop_zero] at h0
  have hlt := bn_lt l
  have hs := short_SC (bn l) (2 ^ l.length) (by omega) (by omega) (Nat.pow_pos (by omega))
  have ep : IntKind.wrap .i64 ((1 : Int) * 2 ^ (min (((bs l).size : Int)).toNat (IntKind.bits .i64))) = ((2 ^ l.length : Nat) : Int) := by
    rw [bs_size, Int.toNat_natCast]
    have hmin : min l.length (IntKind.bits .i64) = l.length := by
      have : IntKind.bits .i64 = 64 := rfl
      omega
    rw [hmin, Int.one_mul]
    have hc : ((2 : Int) ^ l.length) = ((2 ^ l.length : Nat) : Int) := by push_cast; rfl
    rw [hc, w64] <;> omega
  rw [← ep] at hs
  exact spec_mpOf_p1 _ _ _ _ _ _ _ h0 (by omega) hs

end Go.AI
