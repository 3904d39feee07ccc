/- Contracts: the leaf at a fraction. -/
import Derived.Test.YtlkjnlhpdjbjdaaCH
set_option autoImplicit false
set_option maxRecDepth 100000
set_option linter.unusedVariables false
namespace Go.AI
open Go.Proofs

abbrev FrK : Kd := .pr (.int .i64) (.int .i64)

/-- The fraction of an address. -/
def frA (a : List UInt8) : Int × Int := (((bn a / Nat.gcd (bn a) (2 ^ a.length) : Nat) : Int), ((2 ^ a.length / Nat.gcd (bn a) (2 ^ a.length) : Nat) : Int))

theorem getD_map {α β : Type} (f : α → β) (l : List α) (i : Nat) (h : i < l.length) (d : β) : List.getD (l.map f) ((i : Int)).toNat d = f l[i] := by
  rw [Int.toNat_natCast, List.getD_eq_getElem?_getD, List.getElem?_map, List.getElem?_eq_getElem h]; rfl

theorem adL_ok {t : Tr} {n : Nat} (h : t.c ≤ n) : ∀ a ∈ adL t [], a.length ≤ n ∧ bits01 a := fun a ha =>
  ⟨by have := adL_bound t [] a ha; simp at this; omega, adL_bits t [] a (by intro c hc; cases hc) ha⟩

theorem ls_iv (a : List UInt8) (r : List (Nat × Nat)) (x i leaf : Nat) : ls (iv a :: r) x i leaf = ls r x (i + 1) (if x < plF a 1099511627776 0 then leaf else i) := rfl

theorem lf_iv (a : List UInt8) (r : List (Nat × Nat)) (x i : Nat) : lf (iv a :: r) x i = if x < (iv a).2 then i else lf r x (i + 1) := rfl

/-- The leaf that has a place. -/
def leafAt (t : Tr) (x : Nat) : Nat := lf ((adL t []).map iv) x 0

theorem ls_leafAt (t : Tr) (h : t.c ≤ 40) (x : Nat) : ls ((adL t []).map iv) x 0 0 = leafAt t x :=
  ls_lf _ _ _ x 0 0 (tiles_adL t [] (by simpa using h)) (Nat.zero_le _) (by
    have := adL_len t []
    intro e
    rw [List.map_eq_nil_iff] at e
    rw [e] at this
    simp at this)

theorem plc_le {n d : Nat} (hn : n ≤ d) : plc n d ≤ 1099511627776 :=
  Nat.le_trans (Nat.mul_le_mul_right _ hn) (Nat.mul_div_le _ _)

theorem iv_le (a : List UInt8) (ha : a.length ≤ 40) : plF a 1099511627776 0 < 1099511627776 ∧ (iv a).2 ≤ 1099511627776 := by
  have e := plF_eq a 40 0 ha
  rw [Nat.zero_add, show (2 : Nat) ^ 40 = 1099511627776 from rfl] at e
  have hb := bn_lt a
  have hk : 2 ^ a.length * 2 ^ (40 - a.length) = 1099511627776 := by
    rw [← Nat.pow_add, show a.length + (40 - a.length) = 40 by omega]
  have hpos : 0 < 2 ^ (40 - a.length) := Nat.pow_pos (by omega)
  have h1 : (bn a + 1) * 2 ^ (40 - a.length) ≤ 1099511627776 := by
    rw [← hk]; exact Nat.mul_le_mul_right _ hb
  rw [Nat.add_mul, Nat.one_mul] at h1
  simp only [iv]
  rw [grain_div ha, e]
  omega

theorem end_SC (a b : List UInt8) (ha : a.length ≤ 40) : SC cfg.P i_impl_piece_end [.s (.v (.pr (.int .i64) (.pr (.int .i64) (.pr (.int .i64) (.int .i64)))) (pc a b))] (.s (.v (.int .i64) (((iv a).2 : Nat) : Int))) [] := by
  have h := impl_piece_end_p1 (pc a b) (by show (0 : Int) ≤ (a.length : Int); omega)
  have hle := iv_le a ha
  have ew : IntKind.wrap .i64 ((pc a b).1 + (Int.fdiv (1099511627776 : Int) (2 ^ (min ((pc a b).2.2.1).toNat (IntKind.bits .i64))))) = (((iv a).2 : Nat) : Int) := by
    show IntKind.wrap .i64 (((plF a 1099511627776 0 : Nat) : Int) + (Int.fdiv (1099511627776 : Int) (2 ^ (min ((a.length : Int)).toNat (IntKind.bits .i64))))) = _
    rw [Int.toNat_natCast]
    have hmin : min a.length (IntKind.bits .i64) = a.length := by
      have : IntKind.bits .i64 = 64 := rfl
      omega
    rw [hmin]
    have hc : ((2 : Int) ^ a.length) = ((2 ^ a.length : Nat) : Int) := by push_cast; rfl
    have hd : Int.fdiv (1099511627776 : Int) ((2 ^ a.length : Nat) : Int) = ((1099511627776 / 2 ^ a.length : Nat) : Int) := by
      rw [Int.fdiv_eq_ediv_of_nonneg _ (Int.natCast_nonneg _)]; rfl
    rw [hc, hd, ← Int.natCast_add]
    show IntKind.wrap .i64 (((iv a).2 : Nat) : Int) = _
    rw [w64] <;> omega
  rw [ew] at h
  exact h

theorem zip_get (f t : List (List UInt8)) (i : Nat) (h1 : i < f.length) (h2 : i < t.length) (d : Pc) : List.getD (List.zipWith pc f t) ((i : Int)).toNat d = pc f[i] t[i] := by
  rw [Int.toNat_natCast, List.getD_eq_getElem?_getD, List.getElem?_zipWith, List.getElem?_eq_getElem h1, List.getElem?_eq_getElem h2]; rfl

end Go.AI
