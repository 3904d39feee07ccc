/- Contract: whether a number goes up. -/
import Derived.Test.YtlkjnlhpdjbjdaaCdt
import Derived.Test.YtlkjnlhpdjbjdaaCD
import Derived.Test.YtlkjnlhpdjbjdaaGE
set_option autoImplicit false
set_option maxRecDepth 100000
set_option linter.unusedVariables false
namespace Go.AI
open Go.Proofs

theorem rlt_left (n : Int) (d : Nat) (hd : 0 < d) (x : Rt) : rlt (rt n d) x = decide (n * x.2 < x.1 * d) := by
  obtain ⟨g, hg, _, e1, e2, _⟩ := rt_spec n d hd
  unfold rlt
  generalize rt n d = y at *
  refine decide_eq_decide.2 ?_
  have q1 : n * x.2 = g * (y.1 * x.2) := by rw [e1]; ac_rfl
  have q2 : x.1 * (d : Int) = g * (x.1 * y.2) := by rw [e2]; ac_rfl
  rw [q1, q2]
  exact (Int.mul_lt_mul_left hg).symm

theorem rlt_right (n : Int) (d : Nat) (hd : 0 < d) (x : Rt) : rlt x (rt n d) = decide (x.1 * d < n * x.2) := by
  obtain ⟨g, hg, _, e1, e2, _⟩ := rt_spec n d hd
  unfold rlt
  generalize rt n d = y at *
  refine decide_eq_decide.2 ?_
  have q1 : n * x.2 = g * (y.1 * x.2) := by rw [e1]; ac_rfl
  have q2 : x.1 * (d : Int) = g * (x.1 * y.2) := by rw [e2]; ac_rfl
  rw [q1, q2]
  exact (Int.mul_lt_mul_left hg).symm

theorem up_ge (f t : List UInt8) (h : t.length ≤ f.length) (h1 : f.length ≤ 8) (h2 : t.length ≤ 8) (x : Rt) (hx : 0 < x.2) :
    ((sA t : Int) * x.2 + (x.1 * 256 - (sA f : Int) * x.2) * 2 ^ (f.length - t.length) > x.1 * 256) ↔ upB f t x = true := by
  unfold upB
  by_cases hz : f.length = t.length
  · rw [if_pos hz, decide_eq_true_eq, hz, Nat.sub_self, Int.pow_zero, Int.mul_one]
    constructor
    · intro h
      have h' : (sA f : Int) * x.2 < (sA t : Int) * x.2 := by omega
      have := Int.lt_of_mul_lt_mul_right h' (Int.le_of_lt hx)
      omega
    · intro h
      have h' : (sA f : Int) * x.2 < (sA t : Int) * x.2 := Int.mul_lt_mul_of_pos_right (by omega) hx
      omega
  · obtain ⟨c1, c2, c3, c4⟩ := fx_bd f t h1 h2 hz
    have hs : (2 : Int) ^ (f.length - t.length) = ((2 ^ (f.length - t.length) : Nat) : Int) := by push_cast; rfl
    rw [if_neg hz, if_pos (by omega), rlt_left _ _ c3, decide_eq_true_eq, hs]
    unfold fxN fxD
    rw [if_pos (by omega), if_pos (by omega)]
    have hp : 1 ≤ 2 ^ (f.length - t.length) := Nat.one_le_two_pow
    generalize 2 ^ (f.length - t.length) = P at *
    generalize sA f = a
    generalize sA t = b
    have e0 : ((256 * (P - 1) : Nat) : Int) = 256 * ((P : Int) - 1) := by omega
    rw [e0, Int.natCast_mul, Int.sub_mul, Int.sub_mul, Int.mul_sub, Int.mul_sub]
    have e1 : (a : Int) * (P : Int) * x.2 = (a : Int) * x.2 * (P : Int) := by ac_rfl
    have e2 : x.1 * (256 * (P : Int)) = x.1 * 256 * (P : Int) := by ac_rfl
    rw [e1, e2, Int.mul_one]
    omega

theorem up_lt (f t : List UInt8) (h : f.length < t.length) (h1 : f.length ≤ 8) (h2 : t.length ≤ 8) (x : Rt) :
    ((sA t : Int) * x.2 * 2 ^ (t.length - f.length) + (x.1 * 256 - (sA f : Int) * x.2) > x.1 * 256 * 2 ^ (t.length - f.length)) ↔ upB f t x = true := by
  unfold upB
  obtain ⟨c1, c2, c3, c4⟩ := fx_bd f t h1 h2 (by omega)
  have hs : (2 : Int) ^ (t.length - f.length) = ((2 ^ (t.length - f.length) : Nat) : Int) := by push_cast; rfl
  rw [if_neg (by omega), if_neg (by omega), rlt_right _ _ c3, decide_eq_true_eq, hs]
  unfold fxN fxD
  rw [if_neg (by omega), if_neg (by omega)]
  have hp : 1 ≤ 2 ^ (t.length - f.length) := Nat.one_le_two_pow
  generalize 2 ^ (t.length - f.length) = P at *
  generalize sA f = a
  generalize sA t = b
  have e0 : ((256 * (P - 1) : Nat) : Int) = 256 * ((P : Int) - 1) := by omega
  rw [e0, Int.natCast_mul, Int.sub_mul, Int.mul_sub, Int.mul_sub]
  have e1 : (b : Int) * (P : Int) * x.2 = (b : Int) * x.2 * (P : Int) := by ac_rfl
  have e2 : x.1 * (256 * (P : Int)) = x.1 * 256 * (P : Int) := by ac_rfl
  rw [e1, e2, Int.mul_one]
  omega

theorem less_SC2 (x y : Rt) (h1 : -2 ^ 62 ≤ x.1 * y.2 ∧ x.1 * y.2 ≤ 2 ^ 62) (h2 : -2 ^ 62 ≤ y.1 * x.2 ∧ y.1 * x.2 ≤ 2 ^ 62) : SC cfg.P i_impl_Ratio_less [.s (.v RK x), .s (.v RK y)] (.s (.v .bool (rlt x y))) [] := by
  unfold rlt
  by_cases h : x.1 * y.2 < y.1 * x.2
  · rw [decide_eq_true h]
    exact impl_Ratio_less_p1 x y (by rw [w64 (by omega) (by omega), w64 (by omega) (by omega)]; exact h)
  · rw [decide_eq_false h]
    exact impl_Ratio_less_p2 x y (by rw [w64 (by omega) (by omega), w64 (by omega) (by omega)]; exact h)

/-- Not too long for what is reckoned with it. -/
def mid41 (x : Rt) : Prop := -2 ^ 41 ≤ x.1 ∧ x.1 ≤ 2 ^ 41 ∧ 0 < x.2 ∧ x.2 ≤ 2 ^ 41

theorem bd_mul {a : Int} {n : Int} (h1 : -2 ^ 41 ≤ a) (h2 : a ≤ 2 ^ 41) (h3 : 0 ≤ n) (h4 : n ≤ 256) : -2 ^ 49 ≤ n * a ∧ n * a ≤ 2 ^ 49 := by
  constructor
  · have e1 : n * -2 ^ 41 ≤ n * a := Int.mul_le_mul_of_nonneg_left h1 h3
    have e2 : n * -2 ^ 41 = -(n * 2 ^ 41) := Int.mul_neg ..
    have e3 : n * 2 ^ 41 ≤ 256 * 2 ^ 41 := Int.mul_le_mul_of_nonneg_right h4 (by omega)
    omega
  · have e1 : n * a ≤ n * 2 ^ 41 := Int.mul_le_mul_of_nonneg_left h2 h3
    have e3 : n * 2 ^ 41 ≤ 256 * 2 ^ 41 := Int.mul_le_mul_of_nonneg_right h4 (by omega)
    omega

theorem bd_pow {a : Int} {k : Nat} (h1 : -2 ^ 51 ≤ a) (h2 : a ≤ 2 ^ 51) (hk : k ≤ 8) : -2 ^ 59 ≤ a * 2 ^ k ∧ a * 2 ^ k ≤ 2 ^ 59 := by
  have hs : (2 : Int) ^ k = ((2 ^ k : Nat) : Int) := by push_cast; rfl
  have hp := pow_8 k hk
  rw [hs]
  constructor
  · have e1 : -2 ^ 51 * ((2 ^ k : Nat) : Int) ≤ a * ((2 ^ k : Nat) : Int) := Int.mul_le_mul_of_nonneg_right h1 (by omega)
    have e2 : (2 ^ 51 : Int) * ((2 ^ k : Nat) : Int) ≤ 2 ^ 51 * 256 := Int.mul_le_mul_of_nonneg_left (by omega) (by omega)
    have e3 : (-2 ^ 51 : Int) * ((2 ^ k : Nat) : Int) = -(2 ^ 51 * ((2 ^ k : Nat) : Int)) := Int.neg_mul ..
    omega
  · have e1 : a * ((2 ^ k : Nat) : Int) ≤ 2 ^ 51 * ((2 ^ k : Nat) : Int) := Int.mul_le_mul_of_nonneg_right h2 (by omega)
    have e2 : (2 ^ 51 : Int) * ((2 ^ k : Nat) : Int) ≤ 2 ^ 51 * 256 := Int.mul_le_mul_of_nonneg_left (by omega) (by omega)
    omega

theorem minbits (k : Nat) (h : k ≤ 8) : min k (IntKind.bits .i64) = k := by
  have : IntKind.bits .i64 = 64 := rfl
  omega

theorem goesUp_L (F T : List (List UInt8)) (hl : F.length = T.length) (hF : ∀ a ∈ F, a.length ≤ 8) (hT : ∀ a ∈ T, a.length ≤ 8) (h9 : F.length ≤ 9) (x : Rt) (hx : mid41 x) : ∀ (m i : Nat), F.length - i = m → i ≤ F.length →
    LoopSC cfg.P 2 (lb P_impl_pair_goesUp 0) (impl_pair_goesUp_L0a (F.length : Int) (i : Int) x (List.zipWith pc F T)) (.ret) (impl_pair_goesUp_L0X1 (goesUpL ((F.zip T).drop i) x)) ∨
    (goesUpL ((F.zip T).drop i) x = false ∧ LoopSC cfg.P 2 (lb P_impl_pair_goesUp 0) (impl_pair_goesUp_L0a (F.length : Int) (i : Int) x (List.zipWith pc F T)) (.exit 0) (impl_pair_goesUp_L0X2 (F.length : Int) (F.length : Int) false x (List.zipWith pc F T))) := by
  have lz : (List.zipWith pc F T).length = F.length := by rw [List.length_zipWith]; omega
  obtain ⟨x1, x2, x3, x4⟩ := hx
  intro m
  induction m with
  | zero =>
    intro i hm hi
    have e : i = F.length := by omega
    subst e
    rw [List.drop_of_length_le (by rw [List.length_zip]; omega)]
    exact .inr ⟨rfl, impl_pair_goesUp_L0a_x6 _ _ _ _ (by omega)⟩
  | succ m ih =>
    intro i hm hi
    have hlt : i < F.length := by omega
    have fl := hF F[i] (List.getElem_mem hlt)
    have tl := hT T[i] (List.getElem_mem (by omega))
    have hg := zip_get F T i hlt (by omega) ((0 : Int), ((0 : Int), ((0 : Int), (0 : Int))))
    have hd : (F.zip T).drop i = (F[i], T[i]) :: (F.zip T).drop (i + 1) := by
      rw [List.drop_eq_getElem_cons (by rw [List.length_zip]; omega), List.getElem_zip]
    rw [hd]
    simp only [goesUpL]
    generalize F[i] = f at *
    generalize T[i] = t at *
    have a1 := sE_le f fl
    have a2 := sE_le t tl
    have s5 := end_SC f t (by omega)
    rw [← hg] at s5
    have s6 : SC cfg.P i_impl_short [.s (.v (.int .i64) (((iv f).2 : Nat) : Int))] (.s (.v (.int .i64) (sE f : Int))) [] := by
      have := shortN_SC (sE f) (by omega)
      rw [← iv_E f fl] at this
      exact this
    have s7 : SC cfg.P i_impl_ratio [.s (.v (.int .i64) (sE f : Int)), .s (.v (.int .i64) (256 : Int))] (.s (.v RK (rt (sE f : Int) 256))) [] := ratio_SC (sE f : Int) 256 (by omega) (by omega) (by omega) (by omega)
    have se : 0 ≤ (rt (sE f : Int) 256).1 ∧ (rt (sE f : Int) 256).1 ≤ 256 ∧ 0 < (rt (sE f : Int) 256).2 ∧ (rt (sE f : Int) 256).2 ≤ 256 := by
      obtain ⟨g, hg, _, e1, e2, e3⟩ := rt_spec (sE f : Int) 256 (by omega)
      generalize rt (sE f : Int) 256 = y at *
      have q1 : 1 * y.2 ≤ g * y.2 := Int.mul_le_mul_of_nonneg_right (by omega) (by omega)
      have q2 : 0 ≤ y.1 := by
        by_cases h : 0 ≤ y.1
        · exact h
        · have := Int.mul_lt_mul_of_pos_left (show y.1 < 0 by omega) hg
          rw [Int.mul_zero] at this
          omega
      have q3 : 1 * y.1 ≤ g * y.1 := Int.mul_le_mul_of_nonneg_right (by omega) q2
      have e2' : (256 : Int) = g * y.2 := e2
      exact ⟨q2, by omega, e3, by omega⟩
    have b1 := bd_mul x1 x2 (show 0 ≤ (rt (sE f : Int) 256).2 by omega) se.2.2.2
    have b2 := bd_mul (a := x.2) (by omega) x4 se.1 se.2.1
    have s8 := less_SC2 x (rt (sE f : Int) 256) (by rw [Int.mul_comm]; omega) (by omega)
    cases k : rlt x (rt (sE f : Int) 256)
    · rw [k] at s8
      rw [if_neg Bool.false_ne_true]
      have e2 : ((i + 1 : Nat) : Int) = IntKind.wrap .i64 ((i : Int) + 1) := by rw [w64 (by omega) (by omega)]; omega
      have step := fun (e : AEx) (st : St) => impl_pair_goesUp_L0a_i5 (F.length : Int) (i : Int) x (List.zipWith pc F T) _ _ _ (by omega) (by omega) (by omega) (by omega) s5 s6 s7 s8 (e := e) (st := st)
      rw [← e2] at step
      rcases ih (i + 1) (by omega) (by omega) with h | ⟨h0, h⟩
      · exact .inl (step _ _ h)
      · exact .inr ⟨h0, step _ _ h⟩
    · rw [k] at s8
      rw [if_pos rfl]
      left
      have s9 : SC cfg.P i_impl_short [.s (.v (.int .i64) (List.getD (List.zipWith pc F T) ((i : Int)).toNat ((0 : Int), ((0 : Int), ((0 : Int), (0 : Int))))).1)] (.s (.v (.int .i64) (sA f : Int))) [] := by
        rw [hg]
        have := shortN_SC (sA f) (by omega)
        rw [← plF_A f fl] at this
        exact this
      have s12 : SC cfg.P i_impl_short [.s (.v (.int .i64) (List.getD (List.zipWith pc F T) ((i : Int)).toNat ((0 : Int), ((0 : Int), ((0 : Int), (0 : Int))))).2.1)] (.s (.v (.int .i64) (sA t : Int))) [] := by
        rw [hg]
        have := shortN_SC (sA t) (by omega)
        rw [← plF_A t tl] at this
        exact this
      have s10 := slope_SC f t fl tl
      rw [← hg] at s10
      have m1 := bd_mul x1 x2 (show (0 : Int) ≤ 256 by omega) (by omega)
      rw [Int.mul_comm] at m1
      have m2 := bd_mul (a := x.2) (n := (sA f : Int)) (by omega) x4 (by omega) (by omega)
      have m3 := bd_mul (a := x.2) (n := (sA t : Int)) (by omega) x4 (by omega) (by omega)
      by_cases hge : t.length ≤ f.length
      · have ek : ((f.length : Int) - (t.length : Int)).toNat = f.length - t.length := by omega
        have m4 := bd_pow (a := x.1 * 256 - (sA f : Int) * x.2) (k := f.length - t.length) (by omega) (by omega) (by omega)
        have tst : (IntKind.wrap .i64 ((IntKind.wrap .i64 ((sA t : Int) * x.2)) + (IntKind.wrap .i64 ((IntKind.wrap .i64 ((IntKind.wrap .i64 (x.1 * (256 : Int))) - (IntKind.wrap .i64 ((sA f : Int) * x.2)))) * 2 ^ (min ((f.length : Int) - (t.length : Int)).toNat (IntKind.bits .i64)))))) > (IntKind.wrap .i64 (x.1 * (256 : Int))) ↔ upB f t x = true := by
          rw [← up_ge f t hge fl tl x x3, ek, minbits _ (by omega), w64 (n := x.1 * 256) (by omega) (by omega), w64 (n := (sA f : Int) * x.2) (by omega) (by omega), w64 (n := (sA t : Int) * x.2) (by omega) (by omega), w64 (n := x.1 * 256 - (sA f : Int) * x.2) (by omega) (by omega), w64 (n := (x.1 * 256 - (sA f : Int) * x.2) * 2 ^ (f.length - t.length)) (by omega) (by omega), w64 (by omega) (by omega)]
        cases hu : upB f t x
        · rw [hu] at tst
          exact impl_pair_goesUp_L0a_x2 (F.length : Int) (i : Int) x (List.zipWith pc F T) _ _ _ _ _ _ (by omega) (by omega) (by omega) (by omega) s5 s6 s7 s8 s9 s10 (by omega) s12 (by omega) (fun h => by have := tst.1 h; cases this)
        · rw [hu] at tst
          exact impl_pair_goesUp_L0a_x1 (F.length : Int) (i : Int) x (List.zipWith pc F T) _ _ _ _ _ _ (by omega) (by omega) (by omega) (by omega) s5 s6 s7 s8 s9 s10 (by omega) s12 (by omega) (tst.2 rfl)
      · have e0 : IntKind.wrap .i64 (0 - ((f.length : Int) - (t.length : Int))) = ((t.length - f.length : Nat) : Int) := by rw [w64 (by omega) (by omega)]; omega
        have m4 := bd_pow (a := (sA t : Int) * x.2) (k := t.length - f.length) (by omega) (by omega) (by omega)
        have m5 := bd_pow (a := x.1 * 256) (k := t.length - f.length) (by omega) (by omega) (by omega)
        have tst : (IntKind.wrap .i64 ((IntKind.wrap .i64 ((IntKind.wrap .i64 ((sA t : Int) * x.2)) * 2 ^ (min ((IntKind.wrap .i64 (0 - ((f.length : Int) - (t.length : Int))))).toNat (IntKind.bits .i64)))) + (IntKind.wrap .i64 ((IntKind.wrap .i64 (x.1 * (256 : Int))) - (IntKind.wrap .i64 ((sA f : Int) * x.2)))))) > (IntKind.wrap .i64 ((IntKind.wrap .i64 (x.1 * (256 : Int))) * 2 ^ (min ((IntKind.wrap .i64 (0 - ((f.length : Int) - (t.length : Int))))).toNat (IntKind.bits .i64)))) ↔ upB f t x = true := by
          rw [← up_lt f t (by omega) fl tl x, e0, Int.toNat_natCast, minbits _ (by omega), w64 (n := x.1 * 256) (by omega) (by omega), w64 (n := (sA f : Int) * x.2) (by omega) (by omega), w64 (n := (sA t : Int) * x.2) (by omega) (by omega), w64 (n := x.1 * 256 - (sA f : Int) * x.2) (by omega) (by omega), w64 (n := (sA t : Int) * x.2 * 2 ^ (t.length - f.length)) (by omega) (by omega), w64 (n := x.1 * 256 * 2 ^ (t.length - f.length)) (by omega) (by omega), w64 (by omega) (by omega)]
        cases hu : upB f t x
        · rw [hu] at tst
          exact impl_pair_goesUp_L0a_x4 (F.length : Int) (i : Int) x (List.zipWith pc F T) _ _ _ _ _ _ (by omega) (by omega) (by omega) (by omega) s5 s6 s7 s8 s9 s10 (by omega) s12 (by omega) (fun h => by have := tst.1 h; cases this)
        · rw [hu] at tst
          exact impl_pair_goesUp_L0a_x3 (F.length : Int) (i : Int) x (List.zipWith pc F T) _ _ _ _ _ _ (by omega) (by omega) (by omega) (by omega) s5 s6 s7 s8 s9 s10 (by omega) s12 (by omega) (tst.2 rfl)

theorem goesUp_SC (p : PT) (h1 : p.1.c ≤ 8) (h2 : p.1.c = p.2.c) (x : Rt) (hx : mid41 x) : SC cfg.P i_impl_pair_goesUp [.s (.v (.pr .tree .tree) p), .s (.v RK x)] (.s (.v .bool (goesUpL (psP p) x))) [] := by
  have hp := pieces_SC p (by omega) h2
  have hlz : ((List.length (List.zipWith pc (adL p.1 []) (adL p.2 [])) : Nat) : Int) = ((adL p.1 []).length : Int) := by rw [List.length_zipWith, adL_len, adL_len]; omega
  rcases goesUp_L (adL p.1 []) (adL p.2 []) (by rw [adL_len, adL_len, h2]) (fun a ha => (adL_8 h1 a ha).1) (fun a ha => (adL_8 (by omega) a ha).1) (by rw [adL_len]; omega) x hx _ 0 rfl (by omega) with h | ⟨h0, h⟩
  · rw [← hlz] at h
    exact impl_pair_goesUp_p1 _ _ _ _ hp h
  · rw [show goesUpL (psP p) x = false from h0]
    rw [← hlz] at h
    exact impl_pair_goesUp_p2 _ _ _ _ _ _ _ _ hp h

end Go.AI
