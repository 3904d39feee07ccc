/- Plain law: the direction in the middle is that at the beginning. -/
import Derived.Test.YtlkjnlhpdjbjdaaCdr
set_option autoImplicit false
set_option maxRecDepth 100000
set_option linter.unusedVariables false
namespace Go.AI
open Go.Proofs

/-- Nothing between l and u is fixed by a piece. -/
def gap (l u : Rt) (ft : List UInt8 × List UInt8) : Prop := ∀ r, fixP ft.1 ft.2 = some r → rle r.2 l ∨ rle u r.1

theorem fixP_ne (f t : List UInt8) (hz : f.length ≠ t.length) (k1 : rlt (rt (fxN f t) (fxD f t)) (rt (sA f : Int) 256) = false) (k2 : rlt (rt (sE f : Int) 256) (rt (fxN f t) (fxD f t)) = false) :
    fixP f t = some (rt (fxN f t) (fxD f t), rt (fxN f t) (fxD f t)) := by unfold fixP fixI; rw [if_neg hz, k1, k2]; rfl

theorem fixP_ne' (f t : List UInt8) (hz : f.length ≠ t.length) (r : Iv) (h : fixP f t = some r) : r = (rt (fxN f t) (fxD f t), rt (fxN f t) (fxD f t)) := by
  cases k1 : rlt (rt (fxN f t) (fxD f t)) (rt (sA f : Int) 256)
  · cases k2 : rlt (rt (sE f : Int) 256) (rt (fxN f t) (fxD f t))
    · rw [fixP_ne f t hz k1 k2] at h
      cases h; rfl
    · have e : fixP f t = none := by unfold fixP fixI; rw [if_neg hz, k1, k2]; rfl
      rw [e] at h; cases h
  · have e : fixP f t = none := by unfold fixP fixI; rw [if_neg hz, k1]; rfl
    rw [e] at h; cases h

theorem fixP_eq (f t : List UInt8) (hz : f.length = t.length) : fixP f t = if sA f = sA t then some (rt (sA f : Int) 256, rt (sE f : Int) 256) else none := by
  have e : fixI f t = ([rt (sA f : Int) 256, rt (sE f : Int) 256], decide (sA f = sA t)) := by unfold fixI; rw [if_pos hz]
  unfold fixP
  rw [e]
  by_cases h : sA f = sA t
  · rw [if_pos h, decide_eq_true h]
  · rw [if_neg h, decide_eq_false h]

/-- On a piece without what is fixed the direction is the same. -/
theorem up_const (f t : List UInt8) (h1 : f.length ≤ 8) (h2 : t.length ≤ 8) (l u x : Rt) (hl : 0 < l.2) (hu : 0 < u.2) (hx : 0 < x.2) (hg : gap l u (f, t)) (hA : rlt l (rt (sA f : Int) 256) = true) (hx1 : rle (rt (sA f : Int) 256) x) (hx2 : rle x (rt (sE f : Int) 256)) (hxu : rlt x u = true) :
    upB f t x = upB f t (rt (sA f : Int) 256) := by
  unfold upB
  by_cases hz : f.length = t.length
  · rw [if_pos hz, if_pos hz]
  · rw [if_neg hz, if_neg hz]
    obtain ⟨c1, c2, c3, c4⟩ := fx_bd f t h1 h2 hz
    have pN := rt_pos (fxN f t) (fxD f t) c3
    have pA := rt_pos (sA f : Int) 256 (by omega)
    have pE := rt_pos (sE f : Int) 256 (by omega)
    have hgz := fun k1 k2 => hg _ (fixP_ne f t hz k1 k2)
    simp only at hgz
    generalize rt (fxN f t) (fxD f t) = z at *
    generalize rt (sA f : Int) 256 = A at *
    generalize rt (sE f : Int) 256 = E at *
    have key : (rlt z x = rlt z A) ∧ (rlt x z = rlt A z) := by
      cases k1 : rlt z A
      · -- A ≤ z
        have hAz := (rle_iff A z).2 k1
        cases k2 : rlt E z
        · rcases hgz k1 k2 with h | h
          · -- z ≤ l < A
            have := rlt_trans_le pN hl pA h hA
            rw [k1] at this; cases this
          · -- u ≤ z
            have hxz := rlt_trans_le' hx hu pN hxu h
            have hzx : rlt z x = false := (rle_iff x z).1 (rle_of_lt hxz)
            rw [hzx, hxz]
            exact ⟨rfl, (rlt_trans_le pA hx pN hx1 hxz).symm⟩
        · have hxz := rlt_trans_le hx pE pN hx2 k2
          have hzx : rlt z x = false := (rle_iff x z).1 (rle_of_lt hxz)
          rw [hzx, hxz]
          exact ⟨rfl, (rlt_trans_le pA hx pN hx1 hxz).symm⟩
      · have hzx := rlt_trans_le' pN pA hx k1 hx1
        have e1 : rlt x z = false := (rle_iff z x).1 (rle_of_lt hzx)
        have e2 : rlt A z = false := (rle_iff z A).1 (rle_of_lt k1)
        rw [hzx, e1, e2]
        exact ⟨rfl, rfl⟩
    rw [key.1, key.2]

/-- On from a place that is not fixed. -/
theorem walk_on (l u m : Rt) (hl : 0 < l.2) (hu : 0 < u.2) (hm : 0 < m.2) (hmu : rlt m u = true) : ∀ (ps : Pcs) (A B : Nat), onEnd ps A B → (∀ ft ∈ ps, gap l u ft) → rlt l (rt (A : Int) 256) = true → rle (rt (A : Int) 256) m → (∃ ft ∈ ps, rlt m (rt (sE ft.1 : Int) 256) = true) →
    goesUpL ps m = decide (A < B)
  | [], _, _, _, _, _, _, ⟨_, h, _⟩ => by cases h
  | (f, t) :: r, A, B, ⟨h1, h2, eA, eB, hr⟩, hg, hlA, hAm, hex => by
    have pA := rt_pos (A : Int) 256 (by omega)
    have pE := rt_pos (sE f : Int) 256 (by omega)
    have hgf := hg (f, t) (by simp)
    have hst := up_start f t h1 h2
    rw [eA, eB] at hst
    simp only [goesUpL]
    cases k : rlt m (rt (sE f : Int) 256)
    · have hEm : rle (rt (sE f : Int) 256) m := (rle_iff _ _).2 k
      rw [if_neg Bool.false_ne_true]
      have hAE : rle (rt (sA f : Int) 256) (rt (sE f : Int) 256) := by
        rw [rle_iff, rlt_rt _ _ _ _ (by omega) (by omega), decide_eq_false_iff_not]
        have := (sE_le f h1).1
        omega
      have hEu := rlt_trans_le pE hm hu hEm hmu
      have hc := up_const f t h1 h2 l u (rt (sE f : Int) 256) hl hu pE hgf (by rw [eA]; exact hlA) hAE (rle_refl _) hEu
      rw [up_end f t h1 h2, eA, hst] at hc
      have hlE : rlt l (rt (sE f : Int) 256) = true := rlt_trans_le' hl pA pE hlA (by rw [eA] at hAE; exact hAE)
      have hex' : ∃ ft ∈ r, rlt m (rt (sE ft.1 : Int) 256) = true := by
        obtain ⟨ft, hft, hh⟩ := hex
        rcases List.mem_cons.1 hft with e | hft
        · rw [e, k] at hh; cases hh
        · exact ⟨ft, hft, hh⟩
      rw [walk_on l u m hl hu hm hmu r (sE f) (sE t) hr (fun ft h => hg ft (List.mem_cons_of_mem _ h)) hlE hEm hex', hc]
    · rw [if_pos rfl]
      have hc := up_const f t h1 h2 l u m hl hu hm hgf (by rw [eA]; exact hlA) (by rw [eA]; exact hAm) (rle_of_lt k) hmu
      rw [hc, eA, hst]

theorem fx_end_iff (f t : List UInt8) (h1 : f.length ≤ 8) (h2 : t.length ≤ 8) (r : Iv) (h : fixP f t = some r) (he : r.2 = rt (sE f : Int) 256) : sE f = sE t := by
  by_cases hz : f.length = t.length
  · rw [fixP_eq f t hz] at h
    by_cases e : sA f = sA t
    · rw [sE_A f, sE_A t, e, hz]
    · rw [if_neg e] at h; cases h
  · obtain ⟨c1, c2, c3, c4⟩ := fx_bd f t h1 h2 hz
    have hr := fixP_ne' f t hz r h
    rw [hr] at he
    have := rt_cross _ _ _ _ c3 (by omega) he
    obtain ⟨hA, hB⟩ := fx_atE f t h1 h2 hz
    have this' : fxN f t * 256 = (sE f : Int) * (fxD f t : Int) := this
    by_cases hlt : t.length < f.length
    · have := hA hlt
      omega
    · have := hB (by omega)
      have hs : (0 : Int) < 2 ^ (t.length - f.length) := Int.pow_pos (by omega)
      have h0 : 256 * ((sE t : Int) - (sE f : Int)) * 2 ^ (t.length - f.length) = 0 := by omega
      rcases Int.mul_eq_zero.1 h0 with h | h
      · omega
      · omega

theorem fx_start_at (f t : List UInt8) (h1 : f.length ≤ 8) (h2 : t.length ≤ 8) (hz : f.length ≠ t.length) (h : sA f = sA t) : rt (fxN f t) (fxD f t) = rt (sA f : Int) 256 := by
  obtain ⟨c1, c2, c3, c4⟩ := fx_bd f t h1 h2 hz
  refine rt_eq_of _ _ _ _ c3 (by omega) ?_
  obtain ⟨hA, hB⟩ := fx_atA f t h1 h2 hz
  show fxN f t * 256 = _
  by_cases hlt : t.length < f.length
  · have := hA hlt; omega
  · have := hB (by omega)
    rw [h, Int.sub_self, Int.mul_zero, Int.zero_mul] at this
    rw [h]
    omega

/-- What is fixed at l: by a piece that is to come, or where the next one begins. -/
def fixedAt (l : Rt) (ps : Pcs) (A B : Nat) : Prop := (∃ ft ∈ ps, ∃ r, fixP ft.1 ft.2 = some r ∧ r.2 = l) ∨ (l = rt (A : Int) 256 ∧ A = B)

theorem onEnd_ge : ∀ (ps : Pcs) (A B : Nat), onEnd ps A B → ∀ ft ∈ ps, A ≤ sA ft.1
  | [], _, _, _, ft, h => by cases h
  | (f, t) :: r, A, B, ⟨h1, h2, eA, eB, hr⟩, ft, h => by
    rcases List.mem_cons.1 h with rfl | h
    · exact Nat.le_of_eq eA.symm
    · have := onEnd_ge r _ _ hr ft h
      have := (sE_le f h1).1
      omega

theorem onEnd_len : ∀ (ps : Pcs) (A B : Nat), onEnd ps A B → ∀ ft ∈ ps, ft.1.length ≤ 8 ∧ ft.2.length ≤ 8
  | [], _, _, _, ft, h => by cases h
  | (f, t) :: r, A, B, ⟨h1, h2, eA, eB, hr⟩, ft, h => by
    rcases List.mem_cons.1 h with rfl | h
    · exact ⟨h1, h2⟩
    · exact onEnd_len r _ _ hr ft h

/-- THE LAW: the direction in the middle is that at the beginning. -/
theorem dir_same (l u m : Rt) (cl : can l) (hu : 0 < u.2) (hm : 0 < m.2) (hlm : rlt l m = true) (hmu : rlt m u = true) : ∀ (ps : Pcs) (A B : Nat), onEnd ps A B → (∀ ft ∈ ps, gap l u ft) → rle (rt (A : Int) 256) l → fixedAt l ps A B → (∃ ft ∈ ps, rlt m (rt (sE ft.1 : Int) 256) = true) →
    goesUpL ps m = signL ps l
  | [], _, _, _, _, _, _, ⟨_, h, _⟩ => by cases h
  | (f, t) :: r, A, B, ⟨h1, h2, eA, eB, hr⟩, hg, hAl, hfx, hex => by
    have hl := can_pos cl
    have pA := rt_pos (A : Int) 256 (by omega)
    have pE := rt_pos (sE f : Int) 256 (by omega)
    have hgf := hg (f, t) (by simp)
    have hex' : rlt m (rt (sE f : Int) 256) = false → ∃ ft ∈ r, rlt m (rt (sE ft.1 : Int) 256) = true := fun k => by
      obtain ⟨ft, hft, hh⟩ := hex
      rcases List.mem_cons.1 hft with e | hft
      · rw [e, k] at hh; cases hh
      · exact ⟨ft, hft, hh⟩
    have hAE : rlt (rt (sA f : Int) 256) (rt (sE f : Int) 256) = true := by
      rw [rlt_rt _ _ _ _ (by omega) (by omega), decide_eq_true_eq]
      have := (sE_le f h1).1
      omega
    simp only [goesUpL, signL]
    cases k : rlt l (rt (sE f : Int) 256)
    · -- the piece lies in front of l
      have hEl : rle (rt (sE f : Int) 256) l := (rle_iff _ _).2 k
      have km : rlt m (rt (sE f : Int) 256) = false := by
        have := rlt_trans_le pE hl hm hEl hlm
        exact (rle_iff _ _).1 (rle_of_lt this)
      rw [km, if_neg Bool.false_ne_true, if_neg Bool.false_ne_true]
      refine dir_same l u m cl hu hm hlm hmu r (sE f) (sE t) hr (fun ft h => hg ft (List.mem_cons_of_mem _ h)) hEl ?_ (hex' km)
      rcases hfx with ⟨ft, hft, q, hq, hql⟩ | ⟨e1, e2⟩
      · rcases List.mem_cons.1 hft with e | hft
        · subst e
          obtain ⟨d1, d2, d3, d4, d5⟩ := fixP_facts f t h1 h2 q hq
          rw [hql] at d5
          have e := can_antisymm cl (can_rt (sE f : Int) 256 (by omega)) d5 hEl
          exact .inr ⟨e, fx_end_iff f t h1 h2 q hq (by rw [hql, e])⟩
        · exact .inl ⟨ft, hft, q, hq, hql⟩
      · rw [e1, ← eA, hAE] at k
        cases k
    · rw [if_pos (rfl : true = true)]
      -- l is what this piece fixes
      have hz0 : f.length ≠ t.length ∧ rt (fxN f t) (fxD f t) = l := by
        rcases hfx with ⟨ft, hft, q, hq, hql⟩ | ⟨e1, e2⟩
        · rcases List.mem_cons.1 hft with e | hft
          · subst e
            by_cases hz : f.length = t.length
            · rw [show (f, t).1 = f from rfl, show (f, t).2 = t from rfl, fixP_eq f t hz] at hq
              by_cases e : sA f = sA t
              · rw [if_pos e] at hq
                cases hq
                rw [← hql] at k
                rw [rlt_irr] at k; cases k
              · rw [if_neg e] at hq; cases hq
            · have := fixP_ne' f t hz q hq
              rw [this] at hql
              exact ⟨hz, hql⟩
          · exfalso
            have hge := onEnd_ge r _ _ hr ft hft
            have hle := onEnd_len r _ _ hr ft hft
            obtain ⟨d1, d2, d3, d4, d5⟩ := fixP_facts ft.1 ft.2 hle.1 hle.2 q hq
            have hEs : rle (rt (sE f : Int) 256) (rt (sA ft.1 : Int) 256) := by
              rw [rle_iff, rlt_rt _ _ _ _ (by omega) (by omega), decide_eq_false_iff_not]
              omega
            have p1 := rt_pos (sA ft.1 : Int) 256 (by omega)
            have h3 := rle_trans pE p1 (can_pos d2) hEs (rle_trans p1 (can_pos d1) (can_pos d2) d3 d4)
            rw [hql] at h3
            rw [(rle_iff _ _).1 h3] at k
            cases k
        · by_cases hz : f.length = t.length
          · exfalso
            have hq : fixP f t = some (rt (sA f : Int) 256, rt (sE f : Int) 256) := by rw [fixP_eq f t hz, if_pos (by omega)]
            rcases hgf _ hq with h | h
            · rw [(rle_iff _ _).1 h] at k; cases k
            · have h' : rle u l := by rw [e1, ← eA]; exact h
              have := rlt_trans_le' hl hm hu hlm (rle_of_lt hmu)
              rw [(rle_iff _ _).1 h'] at this; cases this
          · exact ⟨hz, by rw [fx_start_at f t h1 h2 hz (by omega), e1, eA]⟩
      obtain ⟨hz, hzl⟩ := hz0
      have hup : ∀ x : Rt, rlt l x = true → upB f t x = decide (t.length < f.length) := fun x hx => by
        unfold upB
        rw [if_neg hz, hzl]
        by_cases hlt : t.length < f.length
        · rw [if_pos hlt, hx, decide_eq_true hlt]
        · rw [if_neg hlt, decide_eq_false hlt]
          exact (rle_iff _ _).1 (rle_of_lt hx)
      cases km : rlt m (rt (sE f : Int) 256)
      · rw [if_neg Bool.false_ne_true]
        have hEm : rle (rt (sE f : Int) 256) m := (rle_iff _ _).2 km
        rw [walk_on l u m hl hu hm hmu r (sE f) (sE t) hr (fun ft h => hg ft (List.mem_cons_of_mem _ h)) k hEm (hex' km), ← up_end f t h1 h2]
        exact hup _ k
      · rw [if_pos rfl]
        exact hup m hlm

end Go.AI
