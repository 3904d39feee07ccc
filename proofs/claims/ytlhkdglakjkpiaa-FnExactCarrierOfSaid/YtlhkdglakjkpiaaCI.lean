/- Contracts: the leaf at a fraction. -/
import Derived.Test.YtlhkdglakjkpiaaCH
set_option autoImplicit false
set_option maxRecDepth 100000
set_option linter.unusedVariables false
namespace Go.AI
open Go.Proofs

abbrev FrK : Kd := .pr (.int .i64) (.int .i64)

/-- The fraction of an address. -/
def frA (a : List UInt8) : Int × Int := (((bn a / Nat.gcd (bn a) (2 ^ a.length) : Nat) : Int), ((2 ^ a.length / Nat.gcd (bn a) (2 ^ a.length) : Nat) : Int))

theorem getD_map {α β : Type} (f : α → β) (l : List α) (i : Nat) (h : i < l.length) (d : β) : List.getD (l.map f) ((i : Int)).toNat d = f l[i] := by
  rw [Int.toNat_natCast, List.getD_eq_getElem?_getD, List.getElem?_map, List.getElem?_eq_getElem h]; rfl

theorem mpStarts_L (t : List (List UInt8)) (hl : t.length ≤ 2 ^ 30) (hb : ∀ a ∈ t, a.length ≤ 20 ∧ bits01 a) : ∀ (m i : Nat) (cur : List (Int × Int)), t.length - i = m → i ≤ t.length → cur.length ≤ i →
    LoopSC cfg.P 1 (lb P_spec_mpStarts 0) (spec_mpStarts_L0a ((List.length (strs' t) : Nat) : Int) (i : Int) cur (strs' t)) (.exit 0)
      (spec_mpStarts_L0X1 ((List.length (strs' t) : Nat) : Int) (t.length : Int) false (cur ++ (t.drop i).map frA) (strs' t)) := by
  have hlt : List.length (strs' t) = t.length := List.length_map ..
  intro m
  induction m with
  | zero =>
    intro i cur hm hi hc
    have e : i = t.length := by omega
    subst e
    rw [List.drop_length, List.map_nil, List.append_nil]
    exact spec_mpStarts_L0a_x2 _ _ _ _ (by rw [hlt]; omega)
  | succ m ih =>
    intro i cur hm hi hc
    have hi1 : i < t.length := by omega
    have ew : IntKind.wrap .i64 ((i : Int) + 1) = ((i + 1 : Nat) : Int) := by rw [w64] <;> omega
    have hg := strs_get t i hi1
    have hbi := hb _ (List.getElem_mem hi1)
    have h1 := mpOf_SC t[i] hbi.1 hbi.2
    rw [← hg] at h1
    have hn := ih (i + 1) (cur ++ [frA t[i]]) (by omega) (by omega) (by simp; omega)
    rw [List.drop_eq_getElem_cons hi1, List.map_cons]
    rw [List.append_assoc, List.singleton_append, ← ew] at hn
    exact spec_mpStarts_L0a_i1 _ _ _ _ _ (by rw [hlt]; omega) (by omega) (by rw [hlt]; omega) (by rw [hlt]; omega) h1 (by unfold sizeOK lim; simp; omega) hn

theorem adL_ok {t : Tr} {n : Nat} (h : t.c ≤ n) : ∀ a ∈ adL t [], a.length ≤ n ∧ bits01 a := fun a ha =>
  ⟨by have := adL_bound t [] a ha; simp at this; omega, adL_bits t [] a (by intro c hc; cases hc) ha⟩

theorem mpStarts_SC (t : Tr) (h : t.c ≤ 20) : SC cfg.P i_spec_mpStarts [.s (.v .str (bs (txt t)))] (.s (.own t_impl_Fraction FrK ((adL t []).map frA))) [] := by
  have a1 := trAddresses_SC t [] (by omega) (by simp; omega)
  have l1 := adL_len t []
  have hL := mpStarts_L (adL t []) (by omega) (adL_ok h) _ 0 [] rfl (by omega) (by simp)
  rw [List.drop_zero, List.nil_append] at hL
  exact spec_mpStarts_p1 _ _ _ _ _ _ _ a1 hL

theorem mpLess_SC (n d : Nat) (h1 : 1 ≤ d) (h2 : d ≤ 1024) (hn : n ≤ d) (hp : pow2 d = true) (a : List UInt8) (ha : a.length ≤ 20) :
    SC cfg.P i_spec_mpLess [.s (.v FrK ((n : Int), (d : Int))), .s (.v FrK (frA a))] (.s (.v .bool (decide (plc n d < plF a 1099511627776 0)))) [] := by
  have hiff := less_iff n d h2 hp a (by omega)
  have hp20 : 2 ^ a.length ≤ 2 ^ 20 := Nat.pow_le_pow_right (by omega) ha
  have hE := Nat.div_le_self (2 ^ a.length) (Nat.gcd (bn a) (2 ^ a.length))
  have hN := Nat.div_le_self (bn a) (Nat.gcd (bn a) (2 ^ a.length))
  have hb := bn_lt a
  have e1 : IntKind.wrap .i64 ((n : Int) * (frA a).2) = ((n * (2 ^ a.length / Nat.gcd (bn a) (2 ^ a.length)) : Nat) : Int) := by
    simp only [frA]
    generalize 2 ^ a.length / Nat.gcd (bn a) (2 ^ a.length) = q at hE ⊢
    have hm : n * q ≤ 1024 * 2 ^ 20 := Nat.mul_le_mul (by omega) (by omega)
    rw [← Int.natCast_mul, w64] <;> omega
  have e2 : IntKind.wrap .i64 ((frA a).1 * (d : Int)) = ((bn a / Nat.gcd (bn a) (2 ^ a.length) * d : Nat) : Int) := by
    simp only [frA]
    generalize bn a / Nat.gcd (bn a) (2 ^ a.length) = q at hN ⊢
    have hm : q * d ≤ 2 ^ 20 * 1024 := Nat.mul_le_mul (by omega) (by omega)
    rw [← Int.natCast_mul, w64] <;> omega
  by_cases h : plc n d < plF a 1099511627776 0
  · rw [decide_eq_true h]
    refine spec_mpLess_p1 ((n : Int), (d : Int)) (frA a) ?_
    have := hiff.2 h
    show IntKind.wrap .i64 ((n : Int) * (frA a).2) < IntKind.wrap .i64 ((frA a).1 * (d : Int))
    rw [e1, e2]
    exact Int.ofNat_lt.2 this
  · rw [decide_eq_false h]
    refine spec_mpLess_p2 ((n : Int), (d : Int)) (frA a) ?_
    show ¬ (IntKind.wrap .i64 ((n : Int) * (frA a).2) < IntKind.wrap .i64 ((frA a).1 * (d : Int)))
    rw [e1, e2]
    exact fun g => h (hiff.1 (Int.ofNat_lt.1 g))

theorem ls_iv (a : List UInt8) (r : List (Nat × Nat)) (x i leaf : Nat) : ls (iv a :: r) x i leaf = ls r x (i + 1) (if x < plF a 1099511627776 0 then leaf else i) := rfl

theorem lf_iv (a : List UInt8) (r : List (Nat × Nat)) (x i : Nat) : lf (iv a :: r) x i = if x < (iv a).2 then i else lf r x (i + 1) := rfl

theorem mpLeaf_L (n d : Nat) (h1 : 1 ≤ d) (h2 : d ≤ 1024) (hn : n ≤ d) (hp : pow2 d = true) (t : List (List UInt8)) (hl : t.length ≤ 2 ^ 30) (hb : ∀ a ∈ t, a.length ≤ 20) : ∀ (m i leaf : Nat), t.length - i = m → i ≤ t.length →
    LoopSC cfg.P 2 (lb P_spec_mpLeaf 0) (spec_mpLeaf_L0a (leaf : Int) ((List.length (t.map frA) : Nat) : Int) (i : Int) ((n : Int), (d : Int)) (t.map frA)) (.exit 0)
      (spec_mpLeaf_L0X1 ((ls ((t.drop i).map iv) (plc n d) i leaf : Nat) : Int) ((List.length (t.map frA) : Nat) : Int) (t.length : Int) false ((n : Int), (d : Int)) (t.map frA)) := by
  have hlt : List.length (t.map frA) = t.length := List.length_map ..
  intro m
  induction m with
  | zero =>
    intro i leaf hm hi
    have e : i = t.length := by omega
    subst e
    rw [List.drop_length]
    exact spec_mpLeaf_L0a_x3 _ _ _ _ _ (by rw [hlt]; omega)
  | succ m ih =>
    intro i leaf hm hi
    have hi1 : i < t.length := by omega
    have ew : IntKind.wrap .i64 ((i : Int) + 1) = ((i + 1 : Nat) : Int) := by rw [w64] <;> omega
    have hc := mpLess_SC n d h1 h2 hn hp t[i] (hb _ (List.getElem_mem hi1))
    rw [← getD_map frA t i hi1 ((0 : Int), (0 : Int))] at hc
    rw [List.drop_eq_getElem_cons hi1, List.map_cons, ls_iv]
    by_cases h : plc n d < plF t[i] 1099511627776 0
    · rw [if_pos h]
      rw [decide_eq_true h] at hc
      have hn' := ih (i + 1) leaf (by omega) (by omega)
      rw [← ew] at hn'
      exact spec_mpLeaf_L0a_i1 _ _ _ _ _ (by rw [hlt]; omega) (by omega) (by rw [hlt]; omega) (by rw [hlt]; omega) hc hn'
    · rw [if_neg h]
      rw [decide_eq_false h] at hc
      have hn' := ih (i + 1) i (by omega) (by omega)
      rw [← ew] at hn'
      exact spec_mpLeaf_L0a_i2 _ _ _ _ _ (by rw [hlt]; omega) (by omega) (by rw [hlt]; omega) (by rw [hlt]; omega) hc hn'

/-- The leaf that has a place. -/
def leafAt (t : Tr) (x : Nat) : Nat := lf ((adL t []).map iv) x 0

theorem ls_leafAt (t : Tr) (h : t.c ≤ 40) (x : Nat) : ls ((adL t []).map iv) x 0 0 = leafAt t x :=
  ls_lf _ _ _ x 0 0 (tiles_adL t [] (by simpa using h)) (Nat.zero_le _) (by
    have := adL_len t []
    intro e
    rw [List.map_eq_nil_iff] at e
    rw [e] at this
    simp at this)

theorem mpLeaf_SC (t : Tr) (h : t.c ≤ 20) (n d : Nat) (h1 : 1 ≤ d) (h2 : d ≤ 1024) (hn : n ≤ d) (hp : pow2 d = true) :
    SC cfg.P i_spec_mpLeaf [.s (.v .str (bs (txt t))), .s (.v FrK ((n : Int), (d : Int)))] (.s (.v (.int .i64) ((leafAt t (plc n d) : Nat) : Int))) [] := by
  have a1 := mpStarts_SC t h
  have l1 := adL_len t []
  have hL := mpLeaf_L n d h1 h2 hn hp (adL t []) (by omega) (fun a ha => (adL_ok h a ha).1) _ 0 0 rfl (by omega)
  rw [List.drop_zero, ls_leafAt t (by omega)] at hL
  exact spec_mpLeaf_p1 _ _ _ _ _ _ _ _ _ a1 hL

theorem plc_le {n d : Nat} (hn : n ≤ d) : plc n d ≤ 1099511627776 :=
  Nat.le_trans (Nat.mul_le_mul_right _ hn) (Nat.mul_div_le _ _)

theorem place_SC (n d : Nat) (h1 : 1 ≤ d) (h2 : d ≤ 1024) (hn : n ≤ d) : SC cfg.P i_impl_Fraction_place [.s (.v FrK ((n : Int), (d : Int)))] (.s (.v (.int .i64) ((plc n d : Nat) : Int))) [] := by
  have h := impl_Fraction_place_p1 ((n : Int), (d : Int)) (by show (d : Int) ≠ 0; omega)
  have hle := plc_le hn
  have hq := Nat.div_le_self 1099511627776 d
  have e : Int.tdiv (1099511627776 : Int) (d : Int) = ((1099511627776 / d : Nat) : Int) := rfl
  have e2 : IntKind.wrap .i64 (Int.tdiv (1099511627776 : Int) (d : Int)) = ((1099511627776 / d : Nat) : Int) := by
    rw [e]
    generalize 1099511627776 / d = q at hq ⊢
    rw [w64] <;> omega
  have e3 : IntKind.wrap .i64 ((n : Int) * ((1099511627776 / d : Nat) : Int)) = ((plc n d : Nat) : Int) := by
    rw [← Int.natCast_mul]
    show IntKind.wrap .i64 ((plc n d : Nat) : Int) = _
    rw [w64] <;> omega
  simp only [e2, e3] at h
  exact h

theorem iv_le (a : List UInt8) (ha : a.length ≤ 40) : plF a 1099511627776 0 < 1099511627776 ∧ (iv a).2 ≤ 1099511627776 := by
  have e := plF_eq a 40 0 ha
  rw [Nat.zero_add, show (2 : Nat) ^ 40 = 1099511627776 from rfl] at e
  have hb := bn_lt a
  have hk : 2 ^ a.length * 2 ^ (40 - a.length) = 1099511627776 := by
    rw [← Nat.pow_add, show a.length + (40 - a.length) = 40 by omega]
  have hpos : 0 < 2 ^ (40 - a.length) := Nat.pow_pos (by omega)
  have h1 : (bn a + 1) * 2 ^ (40 - a.length) ≤ 1099511627776 := by
    rw [← hk]; exact Nat.mul_le_mul_right _ hb
  rw [Nat.add_mul, Nat.one_mul] at h1
  simp only [iv]
  rw [grain_div ha, e]
  omega

theorem end_SC (a b : List UInt8) (ha : a.length ≤ 40) : SC cfg.P i_impl_piece_end [.s (.v (.pr (.int .i64) (.pr (.int .i64) (.pr (.int .i64) (.int .i64)))) (pc a b))] (.s (.v (.int .i64) (((iv a).2 : Nat) : Int))) [] := by
  have h := impl_piece_end_p1 (pc a b) (by show (0 : Int) ≤ (a.length : Int); omega)
  have hle := iv_le a ha
  have ew : IntKind.wrap .i64 ((pc a b).1 + (Int.fdiv (1099511627776 : Int) (2 ^ (min ((pc a b).2.2.1).toNat (IntKind.bits .i64))))) = (((iv a).2 : Nat) : Int) := by
    show IntKind.wrap .i64 (((plF a 1099511627776 0 : Nat) : Int) + (Int.fdiv (1099511627776 : Int) (2 ^ (min ((a.length : Int)).toNat (IntKind.bits .i64))))) = _
    rw [Int.toNat_natCast]
    have hmin : min a.length (IntKind.bits .i64) = a.length := by
      have : IntKind.bits .i64 = 64 := rfl
      omega
    rw [hmin]
    have hc : ((2 : Int) ^ a.length) = ((2 ^ a.length : Nat) : Int) := by push_cast; rfl
    have hd : Int.fdiv (1099511627776 : Int) ((2 ^ a.length : Nat) : Int) = ((1099511627776 / 2 ^ a.length : Nat) : Int) := by
      rw [Int.fdiv_eq_ediv_of_nonneg _ (Int.natCast_nonneg _)]; rfl
    rw [hc, hd, ← Int.natCast_add]
    show IntKind.wrap .i64 (((iv a).2 : Nat) : Int) = _
    rw [w64] <;> omega
  rw [ew] at h
  exact h

theorem zip_get (f t : List (List UInt8)) (i : Nat) (h1 : i < f.length) (h2 : i < t.length) (d : Pc) : List.getD (List.zipWith pc f t) ((i : Int)).toNat d = pc f[i] t[i] := by
  rw [Int.toNat_natCast, List.getD_eq_getElem?_getD, List.getElem?_zipWith, List.getElem?_eq_getElem h1, List.getElem?_eq_getElem h2]; rfl

end Go.AI
