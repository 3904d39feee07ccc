/- Contract: what is fixed, the reference's loop. -/
import Derived.Test.YtlkjnlhpdjbjdaaCob
set_option autoImplicit false
set_option maxRecDepth 100000
set_option linter.unusedVariables false
namespace Go.AI
open Go.Proofs

theorem iv_last (l : List Iv) (x : Iv) : (IntKind.wrap .i64 (((List.length (ivL (l ++ [x])) : Nat) : Int) - (1 : Int))) = if l.length ≤ 2 ^ 40 then (l.length : Int) else (IntKind.wrap .i64 (((List.length (ivL (l ++ [x])) : Nat) : Int) - (1 : Int))) := by
  split
  · rw [List.length_map, List.length_append, List.length_singleton, w64 (by omega) (by omega)]
    omega
  · rfl

theorem iv_get (l : List Iv) (x : Iv) : List.getD (ivL (l ++ [x])) l.length ([] : List Rt) = [x.1, x.2] := by
  rw [List.getD_eq_getElem?_getD, List.getElem?_map, List.getElem?_append_right (by omega)]
  simp

theorem iv_set (l : List Iv) (x : Iv) (y : List Rt) (z : Iv) (h : y = [z.1, z.2]) : List.set (ivL (l ++ [x])) l.length y = ivL (l ++ [z]) := by
  rw [ivL, List.map_append, List.set_append_right _ _ (by rw [List.length_map]; omega), h]
  simp

theorem rt_can_self (x : Rt) (n : Int) (d : Nat) (hd : 0 < d) (h : x = rt n d) (m : Nat) (hm : x.2 = (m : Int)) : rt x.1 m = rt n d := by
  have := can_self (x := x) ⟨n, d, hd, h⟩
  rw [hm, Int.toNat_natCast] at this
  rw [← this, h]

theorem l2ne (a b : Rt) : ((List.length ([a, b] : List Rt) : Nat) : Int) ≠ 0 := by show ((2 : Nat) : Int) ≠ 0; omega
theorem l2p0 (a b : Rt) : (0 : Int) < (List.length ([a, b] : List Rt) : Int) := by show (0 : Int) < ((2 : Nat) : Int); omega
theorem l2p1 (a b : Rt) : (1 : Int) < (List.length ([a, b] : List Rt) : Int) := by show (1 : Int) < ((2 : Nat) : Int); omega
theorem l2n0 (a b : Rt) : ((0 : Int)).toNat < List.length ([a, b] : List Rt) := by show 0 < 2; omega
theorem l2n1 (a b : Rt) : ((1 : Int)).toNat < List.length ([a, b] : List Rt) := by show 1 < 2; omega
theorem sz1 (x : List Rt) : sizeOK (List.length (ivL []) + List.length ([x] : List (List Rt))) := by show 0 + 1 ≤ 2 ^ 40; omega

/-- One round. -/
theorem obFixed_step (F T : List (List UInt8)) (hl : F.length = T.length) (hF : ∀ a ∈ F, a.length ≤ 8 ∧ bits01 a) (hT : ∀ a ∈ T, a.length ≤ 8 ∧ bits01 a) (h9 : F.length ≤ 9) (i : Nat) (hi : i < F.length) (out : List Iv) (ho : out.length ≤ i)
    {e : AEx} {st : St} (next : LoopSC cfg.P 1 (lb P_spec_obFixed 0) (spec_obFixed_L0a (strs' T) (strs' F) (F.length : Int) ((i + 1 : Nat) : Int) (ivL (stpS out (F[i], T[i])))) e st) :
    LoopSC cfg.P 1 (lb P_spec_obFixed 0) (spec_obFixed_L0a (strs' T) (strs' F) (F.length : Int) (i : Int) (ivL out)) e st := by
  have hi2 : i < T.length := by omega
  obtain ⟨fl, fb⟩ := hF F[i] (List.getElem_mem hi)
  obtain ⟨tl, tb⟩ := hT T[i] (List.getElem_mem hi2)
  have gF := strs_get F i hi
  have gT := strs_get T i hi2
  generalize hf : F[i] = f at *
  generalize ht : T[i] = t at *
  have s4 := mpOf_SC f (by omega) fb
  have s6 := mpOf_SC t (by omega) tb
  rw [← gF] at s4
  rw [← gT] at s6
  obtain ⟨n, d, g, ef, e1, e2, hg, hd, hd2, hn2⟩ := frA_parts f fl
  obtain ⟨m, b, k, et, e3, e4, hk, hb, hb2, hm2⟩ := frA_parts t tl
  have s4' : SC cfg.P i_spec_mpOf [.s (.v .str (List.getD (strs' F) ((i : Int)).toNat (⟨#[]⟩ : ByteArray)))] (.s (.v RK ((n : Int), (d : Int)))) [] := by rw [← ef]; exact s4
  have s6' : SC cfg.P i_spec_mpOf [.s (.v .str (List.getD (strs' T) ((i : Int)).toNat (⟨#[]⟩ : ByteArray)))] (.s (.v RK ((m : Int), (b : Int)))) [] := by rw [← et]; exact s6
  clear s4 s6
  have pF := pow_8 f.length fl
  have pT := pow_8 t.length tl
  have cF := frA_rt f
  have cT := frA_rt t
  have s7 : SC cfg.P i_spec_obRatio [.s (.v (.int .i64) (n : Int)), .s (.v (.int .i64) (d : Int))] (.s (.v RK (rt (sA f : Int) 256))) [] := by
    have := obRatio_SC (n : Int) d (by omega) (by omega) hd (by omega)
    rw [rt_can_self ((n : Int), (d : Int)) (bn f : Int) (2 ^ f.length) (by omega) (by rw [← ef, cF]) d rfl, ← rt_A f fl] at this
    exact this
  have z1 : IntKind.wrap .i64 ((1 : Int) * 2 ^ (min ((((List.getD (strs' F) ((i : Int)).toNat (⟨#[]⟩ : ByteArray))).size : Int)).toNat (IntKind.bits .i64))) = ((2 ^ f.length : Nat) : Int) := by rw [gF, bs_size]; exact shl1_w f.length fl
  have z2 : IntKind.wrap .i64 ((1 : Int) * 2 ^ (min ((((List.getD (strs' T) ((i : Int)).toNat (⟨#[]⟩ : ByteArray))).size : Int)).toNat (IntKind.bits .i64))) = ((2 ^ t.length : Nat) : Int) := by rw [gT, bs_size]; exact shl1_w t.length tl
  have s10 : SC cfg.P i_spec_obRatio [.s (.v (.int .i64) (IntKind.wrap .i64 ((IntKind.wrap .i64 ((n : Int) * (IntKind.wrap .i64 (Int.tdiv (IntKind.wrap .i64 ((1 : Int) * 2 ^ (min ((((List.getD (strs' F) ((i : Int)).toNat (⟨#[]⟩ : ByteArray))).size : Int)).toNat (IntKind.bits .i64)))) (d : Int))))) + (1 : Int)))), .s (.v (.int .i64) (IntKind.wrap .i64 ((1 : Int) * 2 ^ (min ((((List.getD (strs' F) ((i : Int)).toNat (⟨#[]⟩ : ByteArray))).size : Int)).toNat (IntKind.bits .i64)))))] (.s (.v RK (rt (sE f : Int) 256))) [] := by
    have hbl := bn_lt f
    have := obRatio_SC ((bn f + 1 : Nat) : Int) (2 ^ f.length) (by omega) (by omega) (by omega) (by omega)
    rw [← rt_E f fl] at this
    rw [z1, end_num f fl n d g e1 e2 hd]
    exact this
  have zF : (((List.getD (strs' F) ((i : Int)).toNat (⟨#[]⟩ : ByteArray))).size : Int) = (f.length : Int) := by rw [gF, bs_size]
  have zT : (((List.getD (strs' T) ((i : Int)).toNat (⟨#[]⟩ : ByteArray))).size : Int) = (t.length : Int) := by rw [gT, bs_size]
  have lF : List.length (strs' F) = F.length := List.length_map ..
  have lT : List.length (strs' T) = T.length := List.length_map ..
  have ew : ((i + 1 : Nat) : Int) = IntKind.wrap .i64 ((i : Int) + 1) := by rw [w64 (by omega) (by omega)]; omega
  rw [ew] at next
  have b1 : (i : Int) < (F.length : Int) := by omega
  have b3 : (i : Int) < (List.length (strs' F) : Int) := by rw [lF]; omega
  have b5 : (i : Int) < (List.length (strs' T) : Int) := by rw [lT]; omega
  have b8 : 0 ≤ (((List.getD (strs' F) ((i : Int)).toNat (⟨#[]⟩ : ByteArray))).size : Int) := by omega
  have b12 : 0 ≤ (((List.getD (strs' T) ((i : Int)).toNat (⟨#[]⟩ : ByteArray))).size : Int) := by omega
  have oL : List.length (ivL out) = out.length := List.length_map ..
  by_cases hz : f.length = t.length
  · have hfx : fixI f t = ([rt (sA f : Int) 256, rt (sE f : Int) 256], decide (sA f = sA t)) := by unfold fixI; rw [if_pos hz]
    by_cases he : sA f = sA t
    · have hp : fixP f t = some (rt (sA f : Int) 256, rt (sE f : Int) 256) := by unfold fixP; rw [hfx, decide_eq_true he]
      have heq : ((((n : Int), (d : Int)).1 == ((m : Int), (b : Int)).1) && (((n : Int), (d : Int)).2 == ((m : Int), (b : Int)).2)) = true := by
        rw [eq2, ← ef, ← et]; exact decide_eq_true ((sA_inj f t hz).1 he)
      have hst : stpS out (f, t) = mrgS out (rt (sA f : Int) 256, rt (sE f : Int) 256) := by unfold stpS; rw [show fixP (f, t).1 (f, t).2 = _ from hp]
      rw [hst] at next
      rcases List.eq_nil_or_concat out with hn | ⟨l, x, hn⟩
      · subst hn
        exact spec_obFixed_L0a_i4 _ _ _ _ _ _ _ _ _ b1 (by omega) b3 s4' b5 s6' s7 b8 (by show (d : Int) ≠ 0; omega) s10 (by rw [zF, zT, hz]) heq (by first | decide | exact l2ne _ _ | exact l2p0 _ _ | exact l2p1 _ _ | exact l2n0 _ _ | exact l2n1 _ _ | exact sz1 _) (by first | decide | exact l2ne _ _ | exact l2p0 _ _ | exact l2p1 _ _ | exact l2n0 _ _ | exact l2n1 _ _ | exact sz1 _) (by first | decide | exact l2ne _ _ | exact l2p0 _ _ | exact l2p1 _ _ | exact l2n0 _ _ | exact l2n1 _ _ | exact sz1 _) next
      · rw [List.concat_eq_append] at hn
        subst hn
        simp only [List.length_append, List.length_singleton] at ho
        have w1 := iv_last l x
        rw [if_pos (by omega)] at w1
        have oL' : (List.length (ivL (l ++ [x])) : Int) = (l.length : Int) + 1 := by rw [List.length_map, List.length_append, List.length_singleton]; omega
        rw [mrgS_app] at next
        by_cases hx : x.2 = rt (sA f : Int) 256
        · rw [if_pos hx] at next
          refine spec_obFixed_L0a_i2 _ _ _ _ _ _ _ _ _ b1 (by omega) b3 s4' b5 s6' s7 b8 (by show (d : Int) ≠ 0; omega) s10 (by rw [zF, zT, hz]) heq (by first | decide | exact l2ne _ _ | exact l2p0 _ _ | exact l2p1 _ _ | exact l2n0 _ _ | exact l2n1 _ _ | exact sz1 _) (by rw [w1]; omega) (by rw [w1]; omega) (by rw [w1, oL']; omega) (by rw [w1, Int.toNat_natCast]; have := oL'; omega) (by rw [w1, Int.toNat_natCast, iv_get]; show (1 : Int) < ((2 : Nat) : Int); omega) (by first | decide | exact l2ne _ _ | exact l2p0 _ _ | exact l2p1 _ _ | exact l2n0 _ _ | exact l2n1 _ _ | exact sz1 _) (by first | decide | exact l2ne _ _ | exact l2p0 _ _ | exact l2p1 _ _ | exact l2n0 _ _ | exact l2n1 _ _ | exact sz1 _)
            (by rw [w1, Int.toNat_natCast, iv_get]; exact (eq2 _ _).trans (decide_eq_true hx)) (by rw [w1, Int.toNat_natCast, iv_get]; show (0 : Int) < ((2 : Nat) : Int); omega) (by first | decide | exact l2ne _ _ | exact l2p0 _ _ | exact l2p1 _ _ | exact l2n0 _ _ | exact l2n1 _ _ | exact sz1 _) (by first | decide | exact l2ne _ _ | exact l2p0 _ _ | exact l2p1 _ _ | exact l2n0 _ _ | exact l2n1 _ _ | exact sz1 _) ?_
          rw [w1, Int.toNat_natCast, iv_get]
          have hs := iv_set l x [x.1, rt (sE f : Int) 256] (x.1, rt (sE f : Int) 256) rfl
          rw [← hs] at next
          exact next
        · rw [if_neg hx] at next
          refine spec_obFixed_L0a_i3 _ _ _ _ _ _ _ _ _ b1 (by omega) b3 s4' b5 s6' s7 b8 (by show (d : Int) ≠ 0; omega) s10 (by rw [zF, zT, hz]) heq (by first | decide | exact l2ne _ _ | exact l2p0 _ _ | exact l2p1 _ _ | exact l2n0 _ _ | exact l2n1 _ _ | exact sz1 _) (by rw [w1]; omega) (by rw [w1]; omega) (by rw [w1, oL']; omega) (by rw [w1, Int.toNat_natCast]; have := oL'; omega) (by rw [w1, Int.toNat_natCast, iv_get]; show (1 : Int) < ((2 : Nat) : Int); omega) (by first | decide | exact l2ne _ _ | exact l2p0 _ _ | exact l2p1 _ _ | exact l2n0 _ _ | exact l2n1 _ _ | exact sz1 _) (by first | decide | exact l2ne _ _ | exact l2p0 _ _ | exact l2p1 _ _ | exact l2n0 _ _ | exact l2n1 _ _ | exact sz1 _)
            (by rw [w1, Int.toNat_natCast, iv_get]; exact (eq2 _ _).trans (decide_eq_false hx)) (by show _ ≤ 2 ^ 40; rw [List.length_map]; simp; omega) ?_
          have : ivL (l ++ [x] ++ [(rt (sA f : Int) 256, rt (sE f : Int) 256)]) = ivL (l ++ [x]) ++ [[rt (sA f : Int) 256, rt (sE f : Int) 256]] := by simp
          rw [this] at next
          exact next
    · have hp : fixP f t = none := by unfold fixP; rw [hfx, decide_eq_false he]
      have heq : ((((n : Int), (d : Int)).1 == ((m : Int), (b : Int)).1) && (((n : Int), (d : Int)).2 == ((m : Int), (b : Int)).2)) = false := by
        rw [eq2, ← ef, ← et]; exact decide_eq_false fun h => he ((sA_inj f t hz).2 h)
      have hst : stpS out (f, t) = out := by unfold stpS; rw [show fixP (f, t).1 (f, t).2 = _ from hp]
      rw [hst] at next
      exact spec_obFixed_L0a_i5 _ _ _ _ _ _ _ _ _ b1 (by omega) b3 s4' b5 s6' s7 b8 (by show (d : Int) ≠ 0; omega) s10 (by rw [zF, zT, hz]) heq (by first | decide | exact l2ne _ _ | exact l2p0 _ _ | exact l2p1 _ _ | exact l2n0 _ _ | exact l2n1 _ _ | exact sz1 _) next
  · obtain ⟨c1, c2, c3, c4⟩ := fx_bd f t fl tl hz
    have sr := rt_small (fxN f t) (fxD f t) (by omega) (by omega) c3 (by omega)
    have a1 := sE_le f fl
    have sa := rt_small (sA f : Int) 256 (by omega) (by omega) (by omega) (by omega)
    have se := rt_small (sE f : Int) 256 (by omega) (by omega) (by omega) (by omega)
    have s13 : SC cfg.P i_spec_obRatio [.s (.v (.int .i64) (IntKind.wrap .i64 ((IntKind.wrap .i64 ((IntKind.wrap .i64 ((IntKind.wrap .i64 ((n : Int) * (IntKind.wrap .i64 ((1 : Int) * 2 ^ (min ((((List.getD (strs' F) ((i : Int)).toNat (⟨#[]⟩ : ByteArray))).size : Int)).toNat (IntKind.bits .i64)))))) * (b : Int))) - (IntKind.wrap .i64 ((IntKind.wrap .i64 ((m : Int) * (IntKind.wrap .i64 ((1 : Int) * 2 ^ (min ((((List.getD (strs' T) ((i : Int)).toNat (⟨#[]⟩ : ByteArray))).size : Int)).toNat (IntKind.bits .i64)))))) * (d : Int))))) * (1 : Int)))),
        .s (.v (.int .i64) (IntKind.wrap .i64 ((IntKind.wrap .i64 ((IntKind.wrap .i64 ((IntKind.wrap .i64 ((1 : Int) * 2 ^ (min ((((List.getD (strs' F) ((i : Int)).toNat (⟨#[]⟩ : ByteArray))).size : Int)).toNat (IntKind.bits .i64)))) - (IntKind.wrap .i64 ((1 : Int) * 2 ^ (min ((((List.getD (strs' T) ((i : Int)).toNat (⟨#[]⟩ : ByteArray))).size : Int)).toNat (IntKind.bits .i64)))))) * (d : Int))) * (b : Int))))] (.s (.v RK (rt (fxN f t) (fxD f t)))) [] := by
      rw [z1, z2, num_w n (2 ^ f.length) b m (2 ^ t.length) d hn2 pF.2 hb2 hm2 pT.2 hd2]
      have m1 := (mul3 n (2 ^ f.length) b hn2 pF.2 hb2).2
      have m2 := (mul3 m (2 ^ t.length) d hm2 pT.2 hd2).2
      by_cases hlt : t.length < f.length
      · have hp : 2 ^ t.length < 2 ^ f.length := Nat.pow_lt_pow_right (by omega) hlt
        rw [den_w _ _ _ _ pF.2 pT.2 hd2 hb2 hp]
        have m3 := (mul3 (2 ^ f.length - 2 ^ t.length) d b (by omega) hd2 hb2).2
        have := obRatio_SC (((n * 2 ^ f.length * b : Nat) : Int) - ((m * 2 ^ t.length * d : Nat) : Int)) ((2 ^ f.length - 2 ^ t.length) * d * b) (by omega) (by omega) (Nat.mul_pos (Nat.mul_pos (by omega) hd) hb) (by omega)
        rw [fx_same f t fl tl n d g m b k e1 e2 e3 e4 hd hb hlt] at this
        exact this
      · have hp : 2 ^ f.length < 2 ^ t.length := Nat.pow_lt_pow_right (by omega) (by omega)
        rw [den_w' _ _ _ _ pF.2 pT.2 hd2 hb2 hp]
        have m3 := (mul3 (2 ^ t.length - 2 ^ f.length) d b (by omega) hd2 hb2).2
        have := obRatio_neg_SC (((n * 2 ^ f.length * b : Nat) : Int) - ((m * 2 ^ t.length * d : Nat) : Int)) ((2 ^ t.length - 2 ^ f.length) * d * b) (by omega) (by omega) (Nat.mul_pos (Nat.mul_pos (by omega) hd) hb) (by omega)
        rw [fx_same' f t fl tl n d g m b k e1 e2 e3 e4 hd hb (by omega)] at this
        exact this
    have l1 := obLess_SC _ _ sr sa
    have l2 := obLess_SC _ _ se sr
    cases k1 : rlt (rt (fxN f t) (fxD f t)) (rt (sA f : Int) 256)
    · rw [k1] at l1
      cases k2 : rlt (rt (sE f : Int) 256) (rt (fxN f t) (fxD f t))
      · rw [k2] at l2
        have hp : fixP f t = some (rt (fxN f t) (fxD f t), rt (fxN f t) (fxD f t)) := by unfold fixP fixI; rw [if_neg hz, k1, k2]; rfl
        have hst : stpS out (f, t) = mrgS out (rt (fxN f t) (fxD f t), rt (fxN f t) (fxD f t)) := by unfold stpS; rw [show fixP (f, t).1 (f, t).2 = _ from hp]
        rw [hst] at next
        generalize rt (fxN f t) (fxD f t) = r at *
        rcases List.eq_nil_or_concat out with hn | ⟨l, x, hn⟩
        · subst hn
          exact spec_obFixed_L0a_i20 _ _ _ _ _ _ _ _ _ _ b1 (by omega) b3 s4' b5 s6' s7 b8 (by show (d : Int) ≠ 0; omega) s10 (by rw [zF, zT]; omega) b12 s13 l1 l2 (by first | decide | exact l2ne _ _ | exact l2p0 _ _ | exact l2p1 _ _ | exact l2n0 _ _ | exact l2n1 _ _ | exact sz1 _) (by first | decide | exact l2ne _ _ | exact l2p0 _ _ | exact l2p1 _ _ | exact l2n0 _ _ | exact l2n1 _ _ | exact sz1 _) (by first | decide | exact l2ne _ _ | exact l2p0 _ _ | exact l2p1 _ _ | exact l2n0 _ _ | exact l2n1 _ _ | exact sz1 _) next
        · rw [List.concat_eq_append] at hn
          subst hn
          simp only [List.length_append, List.length_singleton] at ho
          have w1 := iv_last l x
          rw [if_pos (by omega)] at w1
          have oL' : (List.length (ivL (l ++ [x])) : Int) = (l.length : Int) + 1 := by rw [List.length_map, List.length_append, List.length_singleton]; omega
          rw [mrgS_app] at next
          by_cases hx : x.2 = r
          · rw [if_pos hx] at next
            refine spec_obFixed_L0a_i18 _ _ _ _ _ _ _ _ _ _ b1 (by omega) b3 s4' b5 s6' s7 b8 (by show (d : Int) ≠ 0; omega) s10 (by rw [zF, zT]; omega) b12 s13 l1 l2 (by first | decide | exact l2ne _ _ | exact l2p0 _ _ | exact l2p1 _ _ | exact l2n0 _ _ | exact l2n1 _ _ | exact sz1 _) (by rw [w1]; omega) (by rw [w1]; omega) (by rw [w1, oL']; omega) (by rw [w1, Int.toNat_natCast]; have := oL'; omega) (by rw [w1, Int.toNat_natCast, iv_get]; show (1 : Int) < ((2 : Nat) : Int); omega) (by show (0 : Int) < ((2 : Nat) : Int); omega) (by show 0 < 2; omega)
              (by rw [w1, Int.toNat_natCast, iv_get]; exact (eq2 _ _).trans (decide_eq_true hx)) (by rw [w1, Int.toNat_natCast, iv_get]; show (0 : Int) < ((2 : Nat) : Int); omega) (by show (1 : Int) < ((2 : Nat) : Int); omega) (by show 1 < 2; omega) ?_
            rw [w1, Int.toNat_natCast, iv_get]
            have hs := iv_set l x [x.1, r] (x.1, r) rfl
            rw [← hs] at next
            exact next
          · rw [if_neg hx] at next
            refine spec_obFixed_L0a_i19 _ _ _ _ _ _ _ _ _ _ b1 (by omega) b3 s4' b5 s6' s7 b8 (by show (d : Int) ≠ 0; omega) s10 (by rw [zF, zT]; omega) b12 s13 l1 l2 (by first | decide | exact l2ne _ _ | exact l2p0 _ _ | exact l2p1 _ _ | exact l2n0 _ _ | exact l2n1 _ _ | exact sz1 _) (by rw [w1]; omega) (by rw [w1]; omega) (by rw [w1, oL']; omega) (by rw [w1, Int.toNat_natCast]; have := oL'; omega) (by rw [w1, Int.toNat_natCast, iv_get]; show (1 : Int) < ((2 : Nat) : Int); omega) (by show (0 : Int) < ((2 : Nat) : Int); omega) (by show 0 < 2; omega)
              (by rw [w1, Int.toNat_natCast, iv_get]; exact (eq2 _ _).trans (decide_eq_false hx)) (by show _ ≤ 2 ^ 40; rw [List.length_map]; simp; omega) ?_
            have : ivL (l ++ [x] ++ [(r, r)]) = ivL (l ++ [x]) ++ [[r, r]] := by simp
            rw [this] at next
            exact next
      · rw [k2] at l2
        have hp : fixP f t = none := by unfold fixP fixI; rw [if_neg hz, k1, k2]; rfl
        have hst : stpS out (f, t) = out := by unfold stpS; rw [show fixP (f, t).1 (f, t).2 = _ from hp]
        rw [hst] at next
        exact spec_obFixed_L0a_i13 _ _ _ _ _ _ _ _ _ _ b1 (by omega) b3 s4' b5 s6' s7 b8 (by show (d : Int) ≠ 0; omega) s10 (by rw [zF, zT]; omega) b12 s13 l1 l2 (by first | decide | exact l2ne _ _ | exact l2p0 _ _ | exact l2p1 _ _ | exact l2n0 _ _ | exact l2n1 _ _ | exact sz1 _) next
    · rw [k1] at l1
      have hp : fixP f t = none := by unfold fixP fixI; rw [if_neg hz, k1]; rfl
      have hst : stpS out (f, t) = out := by unfold stpS; rw [show fixP (f, t).1 (f, t).2 = _ from hp]
      rw [hst] at next
      exact spec_obFixed_L0a_i9 _ _ _ _ _ _ _ _ _ _ b1 (by omega) b3 s4' b5 s6' s7 b8 (by show (d : Int) ≠ 0; omega) s10 (by rw [zF, zT]; omega) b12 s13 l1 (by first | decide | exact l2ne _ _ | exact l2p0 _ _ | exact l2p1 _ _ | exact l2n0 _ _ | exact l2n1 _ _ | exact sz1 _) next

end Go.AI
