/- Contracts: the leaf at a fraction. -/
import Derived.Test.YtcnmifjicepkhaaDoorCH
set_option autoImplicit false
set_option maxRecDepth 100000
set_option linter.unusedVariables false
namespace Go.AI
open Go.Proofs

abbrev FrK : Kd := .pr (.int .i64) (.int .i64)

/-- The fraction of an address. -/
def frA (a : List UInt8) : Int × Int := (((bn a / Nat.gcd (bn a) (2 ^ a.length) : Nat) : Int), ((2 ^ a.length / Nat.gcd (bn a) (2 ^ a.length) : Nat) : Int))

theorem getD_map {α β : Type} (f : α → β) (l : List α) (i : Nat) (h : i < l.length) (d : β) : List.getD (l.map f) ((i : Int)).toNat d = f l[i] := by
  rw [Int.toNat_natCast, List.getD_eq_getElem?_getD, List.getElem?_map, List.getElem?_eq_getElem h]; rfl

theorem mpStarts_L (t : List (List UInt8)) (hl : t.length ≤ 2 ^ 30) (hb : ∀ a ∈ t, a.length ≤ 20 ∧ bits01 a) : ∀ (m i : Nat) (cur : List (Int × Int)), t.length - i = m → i ≤ t.length → cur.length ≤ i →
    LoopSC cfg.P 1 (lb P_spec_mpStarts 0) (spec_mpStarts_L0a ((List.length (strs' t) : Nat) : Int) (i : Int) cur (strs' t)) (.exit 0)
      (spec_mpStarts_L0X1 ((List.length (strs' t) : Nat) : Int) (t.length : Int) false (cur ++ (t.drop i).map frA) (strs' t)) := by
  have hlt : List.length (strs' t) = t.length := List.length_map ..
  intro m
  induction m with
  | zero =>
    intro i cur hm hi hc
    have e : i = t.length := by omega
    subst e
    rw [List.drop_length, List.map_nil, List.append_nil]
    exact spec_mpStarts_L0a_x2 _ _ _ _ (by rw [hlt]; omega)
  | succ m ih =>
    intro i cur hm hi hc
    have hi1 : i < t.length := by omega
    have ew : IntKind.wrap .i64 ((i : Int) + 1) = ((i + 1 : Nat) : Int) := by rw [w64] <;> omega
    have hg := strs_get t i hi1
    have hbi := hb _ (List.getElem_mem hi1)
    have h1 := mpOf_SC t[i] hbi.1 hbi.2
    rw [← hg] at h1
    have hn := ih (i + 1) (cur ++ [frA t[i]]) (by omega) (by omega) (by simp; omega)
    rw [List.drop_eq_getElem_cons hi1, List.map_cons]
    rw [List.append_assoc, List.singleton_append, ← ew] at hn
    exact spec_mpStarts_L0a_i1 _ _ _ _ _ (by rw [hlt]; omega) (by omega) (by rw [hlt]; omega) (by rw [hlt]; omega) h1 (by unfold sizeOK lim; simp; omega) hn

theorem adL_ok {t : Tr} {n : Nat} (h : t.c ≤ n) : ∀ a ∈ adL t [], a.length ≤ n ∧ bits01 a := fun a ha =>
  ⟨by have := adL_bound t [] a ha; simp at this; omega, adL_bits t [] a (by intro c hc; cases hc) ha⟩

theorem mpStarts_SC (t : Tr) (h : t.c ≤ 20) : SC cfg.P i_spec_mpStarts [.s (.v .str (bs (txt t)))] (.s (.own t_impl_Fraction FrK ((adL t []).map frA))) [] := by
  have a1 := trAddresses_SC t [] (by omega) (by simp; omega)
  have l1 := adL_len t []
  have hL := mpStarts_L (adL t []) (by omega) (adL_ok h) _ 0 [] rfl (by omega) (by simp)
  rw [List.drop_zero, List.nil_append] at hL
  exact spec_mpStarts_p1 _ _ _ _ _ _ _ a1 hL

/-- The leaf that has a place. -/
def leafAt (t : Tr) (x : Nat) : Nat := lf ((adL t []).map iv) x 0

theorem plc_le {n d : Nat} (hn : n ≤ d) : plc n d ≤ 1099511627776 :=
  Nat.le_trans (Nat.mul_le_mul_right _ hn) (Nat.mul_div_le _ _)

theorem iv_le (a : List UInt8) (ha : a.length ≤ 40) : plF a 1099511627776 0 < 1099511627776 ∧ (iv a).2 ≤ 1099511627776 := by
  have e := plF_eq a 40 0 ha
  rw [Nat.zero_add, show (2 : Nat) ^ 40 = 1099511627776 from rfl] at e
  have hb := bn_lt a
  have hk : 2 ^ a.length * 2 ^ (40 - a.length) = 1099511627776 := by
    rw [← Nat.pow_add, show a.length + (40 - a.length) = 40 by omega]
  have hpos : 0 < 2 ^ (40 - a.length) := Nat.pow_pos (by omega)
  have h1 : (bn a + 1) * 2 ^ (40 - a.length) ≤ 1099511627776 := by
    rw [← hk]; exact Nat.mul_le_mul_right _ hb
  rw [Nat.add_mul, Nat.one_mul] at h1
  simp only [iv]
  rw [grain_div ha, e]
  omega

theorem zip_get (f t : List (List UInt8)) (i : Nat) (h1 : i < f.length) (h2 : i < t.length) (d : Pc) : List.getD (List.zipWith pc f t) ((i : Int)).toNat d = pc f[i] t[i] := by
  rw [Int.toNat_natCast, List.getD_eq_getElem?_getD, List.getElem?_zipWith, List.getElem?_eq_getElem h1, List.getElem?_eq_getElem h2]; rfl

end Go.AI
