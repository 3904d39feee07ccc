/- A part of the road: what it proves stands in its last texts. -/
import Derived.Test.YtnhjfdkogbelaaaJC
section
/- Plain law: which way what is moved goes. -/
set_option autoImplicit false
set_option maxRecDepth 100000
set_option linter.unusedVariables false
namespace Go.AI
open Go.Proofs

abbrev Pcs : Type := List (List UInt8 × List UInt8)

/-- Pieces on end: where the first begins, in 256ths, on both sides. -/
def onEnd : Pcs → Nat → Nat → Prop
  | [], _, _ => True
  | (f, t) :: r, A, B => f.length ≤ 8 ∧ t.length ≤ 8 ∧ sA f = A ∧ sA t = B ∧ onEnd r (sE f) (sE t)

theorem rlt_trans_le {x y z : Rt} (hx : 0 < x.2) (hy : 0 < y.2) (hz : 0 < z.2) (h1 : rle x y) (h2 : rlt y z = true) : rlt x z = true := by
  cases h : rlt x z
  · have h3 : rle z x := (rle_iff _ _).2 h
    have h4 := rle_trans hz hx hy h3 h1
    rw [(rle_iff _ _).1 h4] at h2
    cases h2
  · rfl

theorem rlt_trans_le' {x y z : Rt} (hx : 0 < x.2) (hy : 0 < y.2) (hz : 0 < z.2) (h1 : rlt x y = true) (h2 : rle y z) : rlt x z = true := by
  cases h : rlt x z
  · have h3 : rle z x := (rle_iff _ _).2 h
    have h4 := rle_trans hy hz hx h2 h3
    rw [(rle_iff _ _).1 h4] at h1
    cases h1
  · rfl

theorem rlt_irr (x : Rt) : rlt x x = false := (rle_iff x x).1 (rle_refl x)

theorem rt_pos (n : Int) (d : Nat) (h : 0 < d) : 0 < (rt n d).2 := can_pos (can_rt n d h)

/-- On a piece's ends the number that is fixed tells what its image tells. -/
theorem fx_atA (f t : List UInt8) (h1 : f.length ≤ 8) (h2 : t.length ≤ 8) (hne : f.length ≠ t.length) :
    (t.length < f.length → fxN f t * 256 - (sA f : Int) * (fxD f t : Int) = 256 * ((sA f : Int) - (sA t : Int))) ∧ (f.length < t.length → fxN f t * 256 - (sA f : Int) * (fxD f t : Int) = 256 * ((sA t : Int) - (sA f : Int)) * 2 ^ (t.length - f.length)) := by
  constructor
  · intro h
    unfold fxN fxD
    rw [if_pos h, if_pos h]
    have hp : 1 ≤ 2 ^ (f.length - t.length) := Nat.one_le_two_pow
    generalize 2 ^ (f.length - t.length) = P at *
    generalize sA f = a
    generalize sA t = b
    have : ((256 * (P - 1) : Nat) : Int) = 256 * ((P : Int) - 1) := by omega
    rw [this, Int.natCast_mul, Int.sub_mul, Int.mul_sub, Int.mul_sub, Int.mul_one, ← Int.mul_assoc]
    have e1 : (a : Int) * 256 * (P : Int) = (a : Int) * (P : Int) * 256 := by ac_rfl
    omega
  · intro h
    have hs : (2 : Int) ^ (t.length - f.length) = ((2 ^ (t.length - f.length) : Nat) : Int) := by push_cast; rfl
    unfold fxN fxD
    rw [if_neg (by omega), if_neg (by omega), hs]
    have hp : 1 ≤ 2 ^ (t.length - f.length) := Nat.one_le_two_pow
    generalize 2 ^ (t.length - f.length) = P at *
    generalize sA f = a
    generalize sA t = b
    have : ((256 * (P - 1) : Nat) : Int) = 256 * ((P : Int) - 1) := by omega
    rw [this, Int.natCast_mul, Int.sub_mul, Int.mul_sub, Int.mul_sub, Int.mul_sub, Int.sub_mul, Int.mul_one, ← Int.mul_assoc]
    have e1 : (a : Int) * 256 * (P : Int) = 256 * (a : Int) * (P : Int) := by ac_rfl
    have e2 : (b : Int) * (P : Int) * 256 = 256 * (b : Int) * (P : Int) := by ac_rfl
    omega

/-- The widths of both intervals. -/
theorem sE_A (a : List UInt8) : sE a = sA a + 2 ^ (8 - a.length) := by unfold sE sA; rw [Nat.add_mul, Nat.one_mul]

theorem fx_atE (f t : List UInt8) (h1 : f.length ≤ 8) (h2 : t.length ≤ 8) (hne : f.length ≠ t.length) :
    (t.length < f.length → fxN f t * 256 - (sE f : Int) * (fxD f t : Int) = 256 * ((sE f : Int) - (sE t : Int))) ∧ (f.length < t.length → fxN f t * 256 - (sE f : Int) * (fxD f t : Int) = 256 * ((sE t : Int) - (sE f : Int)) * 2 ^ (t.length - f.length)) := by
  obtain ⟨hA, hB⟩ := fx_atA f t h1 h2 hne
  constructor
  · intro h
    have e := hA h
    have w : 2 ^ (8 - t.length) = 2 ^ (8 - f.length) * 2 ^ (f.length - t.length) := by rw [← Nat.pow_add]; congr 1; omega
    have hp : 1 ≤ 2 ^ (f.length - t.length) := Nat.one_le_two_pow
    rw [sE_A f, sE_A t, w]
    have hD : fxD f t = 256 * (2 ^ (f.length - t.length) - 1) := by unfold fxD; rw [if_pos h]
    rw [hD] at e ⊢
    generalize 2 ^ (f.length - t.length) = P at *
    generalize 2 ^ (8 - f.length) = W at *
    generalize sA f = a at *
    generalize sA t = b at *
    generalize fxN f t = N at *
    have hc : ((256 * (P - 1) : Nat) : Int) = 256 * ((P : Int) - 1) := by omega
    rw [hc] at e ⊢
    push_cast
    have e2 : ((a : Int) + (W : Int)) * (256 * ((P : Int) - 1)) = (a : Int) * (256 * ((P : Int) - 1)) + 256 * ((W : Int) * (P : Int)) - 256 * (W : Int) := by
      rw [Int.add_mul, Int.mul_sub, Int.mul_sub, Int.mul_one]
      have : (W : Int) * (256 * (P : Int) - 256) = 256 * ((W : Int) * (P : Int)) - 256 * (W : Int) := by
        rw [Int.mul_sub]
        have q : (W : Int) * (256 * (P : Int)) = 256 * ((W : Int) * (P : Int)) := by ac_rfl
        omega
      omega
    rw [e2]
    omega
  · intro h
    have e := hB h
    have w : 2 ^ (8 - f.length) = 2 ^ (8 - t.length) * 2 ^ (t.length - f.length) := by rw [← Nat.pow_add]; congr 1; omega
    have hp : 1 ≤ 2 ^ (t.length - f.length) := Nat.one_le_two_pow
    have hs : (2 : Int) ^ (t.length - f.length) = ((2 ^ (t.length - f.length) : Nat) : Int) := by push_cast; rfl
    rw [hs] at e ⊢
    rw [sE_A f, sE_A t, w]
    have hD : fxD f t = 256 * (2 ^ (t.length - f.length) - 1) := by unfold fxD; rw [if_neg (by omega)]
    rw [hD] at e ⊢
    generalize 2 ^ (t.length - f.length) = P at *
    generalize 2 ^ (8 - t.length) = W at *
    generalize sA f = a at *
    generalize sA t = b at *
    generalize fxN f t = N at *
    have hc : ((256 * (P - 1) : Nat) : Int) = 256 * ((P : Int) - 1) := by omega
    rw [hc] at e ⊢
    push_cast
    have e2 : ((a : Int) + (W : Int) * (P : Int)) * (256 * ((P : Int) - 1)) = (a : Int) * (256 * ((P : Int) - 1)) + 256 * ((W : Int) * (P : Int)) * (P : Int) - 256 * ((W : Int) * (P : Int)) := by
      rw [Int.add_mul, Int.mul_sub, Int.mul_sub, Int.mul_one]
      have : (W : Int) * (P : Int) * (256 * (P : Int) - 256) = 256 * ((W : Int) * (P : Int)) * (P : Int) - 256 * ((W : Int) * (P : Int)) := by
        rw [Int.mul_sub]
        have q : (W : Int) * (P : Int) * (256 * (P : Int)) = 256 * ((W : Int) * (P : Int)) * (P : Int) := by ac_rfl
        omega
      omega
    have e3 : 256 * ((b : Int) + (W : Int) - ((a : Int) + (W : Int) * (P : Int))) * (P : Int) = 256 * ((b : Int) - (a : Int)) * (P : Int) + 256 * ((W : Int) * (P : Int)) - 256 * ((W : Int) * (P : Int)) * (P : Int) := by
      have q1 : 256 * ((b : Int) + (W : Int) - ((a : Int) + (W : Int) * (P : Int))) = 256 * ((b : Int) - (a : Int)) + 256 * (W : Int) - 256 * ((W : Int) * (P : Int)) := by omega
      rw [q1, Int.sub_mul, Int.add_mul, Int.mul_assoc 256 (W : Int) (P : Int)]
    rw [e2, e3]
    omega

end Go.AI
end

section
/- Plain law: the direction in the middle is that at the beginning. -/
set_option autoImplicit false
set_option maxRecDepth 100000
set_option linter.unusedVariables false
namespace Go.AI
open Go.Proofs

/-- Nothing between l and u is fixed by a piece. -/
def gap (l u : Rt) (ft : List UInt8 × List UInt8) : Prop := ∀ r, fixP ft.1 ft.2 = some r → rle r.2 l ∨ rle u r.1

theorem fixP_ne (f t : List UInt8) (hz : f.length ≠ t.length) (k1 : rlt (rt (fxN f t) (fxD f t)) (rt (sA f : Int) 256) = false) (k2 : rlt (rt (sE f : Int) 256) (rt (fxN f t) (fxD f t)) = false) :
    fixP f t = some (rt (fxN f t) (fxD f t), rt (fxN f t) (fxD f t)) := by unfold fixP fixI; rw [if_neg hz, k1, k2]; rfl

theorem fixP_ne' (f t : List UInt8) (hz : f.length ≠ t.length) (r : Iv) (h : fixP f t = some r) : r = (rt (fxN f t) (fxD f t), rt (fxN f t) (fxD f t)) := by
  cases k1 : rlt (rt (fxN f t) (fxD f t)) (rt (sA f : Int) 256)
  · cases k2 : rlt (rt (sE f : Int) 256) (rt (fxN f t) (fxD f t))
    · rw [fixP_ne f t hz k1 k2] at h
      cases h; rfl
    · have e : fixP f t = none := by unfold fixP fixI; rw [if_neg hz, k1, k2]; rfl
      rw [e] at h; cases h
  · have e : fixP f t = none := by unfold fixP fixI; rw [if_neg hz, k1]; rfl
    rw [e] at h; cases h

theorem fixP_eq (f t : List UInt8) (hz : f.length = t.length) : fixP f t = if sA f = sA t then some (rt (sA f : Int) 256, rt (sE f : Int) 256) else none := by
  have e : fixI f t = ([rt (sA f : Int) 256, rt (sE f : Int) 256], decide (sA f = sA t)) := by unfold fixI; rw [if_pos hz]
  unfold fixP
  rw [e]
  by_cases h : sA f = sA t
  · rw [if_pos h, decide_eq_true h]
  · rw [if_neg h, decide_eq_false h]

theorem fx_start_at (f t : List UInt8) (h1 : f.length ≤ 8) (h2 : t.length ≤ 8) (hz : f.length ≠ t.length) (h : sA f = sA t) : rt (fxN f t) (fxD f t) = rt (sA f : Int) 256 := by
  obtain ⟨c1, c2, c3, c4⟩ := fx_bd f t h1 h2 hz
  refine rt_eq_of _ _ _ _ c3 (by omega) ?_
  obtain ⟨hA, hB⟩ := fx_atA f t h1 h2 hz
  show fxN f t * 256 = _
  by_cases hlt : t.length < f.length
  · have := hA hlt; omega
  · have := hB (by omega)
    rw [h, Int.sub_self, Int.mul_zero, Int.zero_mul] at this
    rw [h]
    omega

theorem onEnd_ge : ∀ (ps : Pcs) (A B : Nat), onEnd ps A B → ∀ ft ∈ ps, A ≤ sA ft.1
  | [], _, _, _, ft, h => by cases h
  | (f, t) :: r, A, B, ⟨h1, h2, eA, eB, hr⟩, ft, h => by
    rcases List.mem_cons.1 h with rfl | h
    · exact Nat.le_of_eq eA.symm
    · have := onEnd_ge r _ _ hr ft h
      have := (sE_le f h1).1
      omega

theorem onEnd_len : ∀ (ps : Pcs) (A B : Nat), onEnd ps A B → ∀ ft ∈ ps, ft.1.length ≤ 8 ∧ ft.2.length ≤ 8
  | [], _, _, _, ft, h => by cases h
  | (f, t) :: r, A, B, ⟨h1, h2, eA, eB, hr⟩, ft, h => by
    rcases List.mem_cons.1 h with rfl | h
    · exact ⟨h1, h2⟩
    · exact onEnd_len r _ _ hr ft h

end Go.AI
end

section
/- Plain law: what the list of fixed intervals tells. -/
set_option autoImplicit false
set_option maxRecDepth 100000
set_option linter.unusedVariables false
namespace Go.AI
open Go.Proofs

def mvL : List Iv → List Iv
  | x :: y :: r => (x.2, y.1) :: mvL (y :: r)
  | _ => []

structure FInv (out : List Iv) (done : Pcs) : Prop where
  cov : ∀ ft ∈ done, ∀ r, fixP ft.1 ft.2 = some r → ∃ v ∈ out, rle v.1 r.1 ∧ rle r.2 v.2
  rgt : ∀ v ∈ out, ∃ ft ∈ done, ∃ r, fixP ft.1 ft.2 = some r ∧ r.2 = v.2
  srt : out.Pairwise fun a b => rlt a.2 b.1 = true
  own : ∀ v ∈ out, can v.1 ∧ can v.2 ∧ rle v.1 v.2

theorem finv_none {out : List Iv} {done : Pcs} (h : FInv out done) (f t : List UInt8) (hn : fixP f t = none) : FInv out (done ++ [(f, t)]) := by
  refine ⟨fun ft hft r hr => ?_, fun v hv => ?_, h.srt, h.own⟩
  · rcases List.mem_append.1 hft with hft | hft
    · exact h.cov ft hft r hr
    · simp only [List.mem_singleton] at hft
      subst hft
      rw [show (f, t).1 = f from rfl, show (f, t).2 = t from rfl, hn] at hr
      cases hr
  · obtain ⟨ft, hft, r⟩ := h.rgt v hv
    exact ⟨ft, List.mem_append_left _ hft, r⟩

theorem finv_some {out : List Iv} {done : Pcs} (h : FInv out done) (f t : List UInt8) (r : Iv) (hr : fixP f t = some r) (c1 : can r.1) (c2 : can r.2) (c4 : rle r.1 r.2) (hfr : ∀ l x, out = l ++ [x] → rle x.2 r.1) : FInv (mrgS out r) (done ++ [(f, t)]) := by
  rcases List.eq_nil_or_concat out with hn | ⟨l, x, hn⟩
  · subst hn
    refine ⟨fun ft hft q hq => ?_, fun v hv => ?_, by simp [mrgS], fun v hv => ?_⟩
    · rcases List.mem_append.1 hft with hft | hft
      · obtain ⟨v, hv, _⟩ := h.cov ft hft q hq
        cases hv
      · simp only [List.mem_singleton] at hft
        subst hft
        rw [show (f, t).1 = f from rfl, show (f, t).2 = t from rfl, hr] at hq
        cases hq
        exact ⟨r, by simp [mrgS], rle_refl _, rle_refl _⟩
    · simp [mrgS] at hv
      subst hv
      exact ⟨(f, t), by simp, v, hr, rfl⟩
    · simp [mrgS] at hv
      subst hv
      exact ⟨c1, c2, c4⟩
  · rw [List.concat_eq_append] at hn
    subst hn
    have hx := hfr l x rfl
    obtain ⟨x1, x2, x3⟩ := h.own x (by simp)
    have hs := h.srt
    rw [List.pairwise_append] at hs
    obtain ⟨s1, _, s3⟩ := hs
    rw [mrgS_app]
    by_cases e : x.2 = r.1
    · rw [if_pos e]
      have x1r : rle x.1 r.1 := by rw [← e]; exact x3
      have x1r2 : rle x.1 r.2 := rle_trans (can_pos x1) (can_pos c1) (can_pos c2) x1r c4
      refine ⟨fun ft hft q hq => ?_, fun v hv => ?_, ?_, fun v hv => ?_⟩
      · rcases List.mem_append.1 hft with hft | hft
        · obtain ⟨v, hv, a1, a2⟩ := h.cov ft hft q hq
          rcases List.mem_append.1 hv with hv | hv
          · exact ⟨v, List.mem_append_left _ hv, a1, a2⟩
          · simp only [List.mem_singleton] at hv
            subst hv
            refine ⟨(v.1, r.2), by simp, a1, ?_⟩
            have hq2 : 0 < q.2.2 := by
              by_cases hz : 0 < q.2.2
              · exact hz
              · exfalso
                have hp2 : can q.2 := by
                  by_cases hzz : ft.1.length = ft.2.length
                  · rw [fixP_eq _ _ hzz] at hq
                    split at hq
                    · cases hq; exact can_rt _ _ (by omega)
                    · cases hq
                  · have := fixP_ne' _ _ hzz q hq
                    have hd : 0 < fxD ft.1 ft.2 := by
                      unfold fxD
                      split
                      · have : 2 ≤ 2 ^ (ft.1.length - ft.2.length) := by have := Nat.pow_le_pow_right (n := 2) (by omega) (show 1 ≤ ft.1.length - ft.2.length by omega); omega
                        omega
                      · have : 2 ≤ 2 ^ (ft.2.length - ft.1.length) := by have := Nat.pow_le_pow_right (n := 2) (by omega) (show 1 ≤ ft.2.length - ft.1.length by omega); omega
                        omega
                    rw [this]
                    exact can_rt _ _ hd
                exact hz (can_pos hp2)
            exact rle_trans hq2 (can_pos x2) (can_pos c2) a2 (by rw [e]; exact c4)
        · simp only [List.mem_singleton] at hft
          subst hft
          rw [show (f, t).1 = f from rfl, show (f, t).2 = t from rfl, hr] at hq
          cases hq
          exact ⟨(x.1, r.2), by simp, x1r, rle_refl _⟩
      · rcases List.mem_append.1 hv with hv | hv
        · obtain ⟨ft, hft, q⟩ := h.rgt v (List.mem_append_left _ hv)
          exact ⟨ft, List.mem_append_left _ hft, q⟩
        · simp only [List.mem_singleton] at hv
          subst hv
          exact ⟨(f, t), by simp, r, hr, rfl⟩
      · rw [List.pairwise_append]
        exact ⟨s1, by simp, fun a ha b hb => by simp only [List.mem_singleton] at hb; subst hb; exact s3 a ha x (by simp)⟩
      · rcases List.mem_append.1 hv with hv | hv
        · exact h.own v (List.mem_append_left _ hv)
        · simp only [List.mem_singleton] at hv
          subst hv
          exact ⟨x1, c2, x1r2⟩
    · rw [if_neg e]
      have hlt : rlt x.2 r.1 = true := by
        cases k : rlt x.2 r.1
        · exact absurd (can_antisymm x2 c1 hx ((rle_iff _ _).2 k)) e
        · rfl
      refine ⟨fun ft hft q hq => ?_, fun v hv => ?_, ?_, fun v hv => ?_⟩
      · rcases List.mem_append.1 hft with hft | hft
        · obtain ⟨v, hv, a⟩ := h.cov ft hft q hq
          exact ⟨v, List.mem_append_left _ hv, a⟩
        · simp only [List.mem_singleton] at hft
          subst hft
          rw [show (f, t).1 = f from rfl, show (f, t).2 = t from rfl, hr] at hq
          cases hq
          exact ⟨r, by simp, rle_refl _, rle_refl _⟩
      · rcases List.mem_append.1 hv with hv | hv
        · obtain ⟨ft, hft, q⟩ := h.rgt v hv
          exact ⟨ft, List.mem_append_left _ hft, q⟩
        · simp only [List.mem_singleton] at hv
          subst hv
          exact ⟨(f, t), by simp, v, hr, rfl⟩
      · rw [List.pairwise_append]
        refine ⟨h.srt, by simp, fun a ha b hb => ?_⟩
        simp only [List.mem_singleton] at hb
        subst hb
        rcases List.mem_append.1 ha with ha | ha
        · have h1 := s3 a ha x (by simp)
          obtain ⟨a1, a2, _⟩ := h.own a (List.mem_append_left _ ha)
          exact rlt_trans_le' (can_pos a2) (can_pos x1) (can_pos c1) h1 (rle_trans (can_pos x1) (can_pos x2) (can_pos c1) x3 hx)
        · simp only [List.mem_singleton] at ha
          subst ha
          exact hlt
      · rcases List.mem_append.1 hv with hv | hv
        · exact h.own v hv
        · simp only [List.mem_singleton] at hv
          subst hv
          exact ⟨c1, c2, c4⟩

theorem finv_fold : ∀ (ps done : Pcs) (A B : Nat) (out : List Iv), onEnd ps A B → front out (rt (A : Int) 256) → FInv out done → FInv (ps.foldl stpS out) (done ++ ps)
  | [], done, _, _, out, _, _, h => by rw [List.append_nil]; exact h
  | (f, t) :: r, done, A, B, out, ⟨h1, h2, eA, eB, hr⟩, ho, h => by
    have a1 := sE_le f h1
    rw [← eA] at ho
    have cA := can_rt (sA f : Int) 256 (by omega)
    have cE := can_rt (sE f : Int) 256 (by omega)
    have hAE : rle (rt (sA f : Int) 256) (rt (sE f : Int) 256) := by
      rw [rle_iff, rlt_rt _ _ _ _ (by omega) (by omega), decide_eq_false_iff_not]
      omega
    rw [List.foldl_cons, show done ++ (f, t) :: r = (done ++ [(f, t)]) ++ r by simp]
    cases hp : fixP f t with
    | none =>
      have e2 : stpS out (f, t) = out := by unfold stpS; rw [show fixP (f, t).1 (f, t).2 = _ from hp]
      rw [e2]
      exact finv_fold r _ (sE f) (sE t) out hr (front_mono ho cA cE hAE) (finv_none h f t hp)
    | some q =>
      obtain ⟨c1, c2, c3, c4, c5⟩ := fixP_facts f t h1 h2 q hp
      obtain ⟨e0, hfr⟩ := mrg_same ho cA cE c1 c2 c3 c4 c5
      have e2 : stpS out (f, t) = mrgS out q := by unfold stpS; rw [show fixP (f, t).1 (f, t).2 = _ from hp]
      rw [e2]
      rw [e0] at hfr
      refine finv_fold r _ (sE f) (sE t) (mrgS out q) hr hfr (finv_some h f t q hp c1 c2 c4 fun l x e => ?_)
      obtain ⟨cx, hx⟩ := ho l x e
      exact rle_trans (can_pos cx) (can_pos cA) (can_pos c1) hx c3

theorem onEnd_of : ∀ (F T : List (List UInt8)) (A B b b' : Nat), F.length = T.length → (∀ a ∈ F, a.length ≤ 8) → (∀ a ∈ T, a.length ≤ 8) → tiles (F.map iv) (A * 4294967296) b → tiles (T.map iv) (B * 4294967296) b' → onEnd (F.zip T) A B
  | [], _, _, _, _, _, _, _, _, _, _ => trivial
  | f :: F, [], _, _, _, _, hl, _, _, _, _ => by simp at hl
  | f :: F, t :: T, A, B, b, b', hl, hF, hT, ht, ht' => by
    obtain ⟨h1, h2, h3⟩ := ht
    obtain ⟨g1, g2, g3⟩ := ht'
    have fl := hF f (by simp)
    have tl := hT t (by simp)
    have eA : sA f = A := by
      have h1' : plF f 1099511627776 0 = A * 4294967296 := h1
      rw [plF_A f fl] at h1'
      omega
    have eB : sA t = B := by
      have h1' : plF t 1099511627776 0 = B * 4294967296 := g1
      rw [plF_A t tl] at h1'
      omega
    exact ⟨fl, tl, eA, eB, onEnd_of F T (sE f) (sE t) b b' (by simpa using hl) (fun a ha => hF a (by simp [ha])) (fun a ha => hT a (by simp [ha])) (by rw [← iv_E f fl]; exact h3) (by rw [← iv_E t tl]; exact g3)⟩

abbrev psP (p : PT) : Pcs := (adL p.1 []).zip (adL p.2 [])

theorem onEnd_P (p : PT) (h1 : p.1.c ≤ 8) (h2 : p.1.c = p.2.c) : onEnd (psP p) 0 0 := by
  have ht := tiles_adL p.1 [] (by simp; omega)
  have ht' := tiles_adL p.2 [] (by simp; omega)
  exact onEnd_of (adL p.1 []) (adL p.2 []) 0 0 _ _ (by rw [adL_len, adL_len, h2]) (fun a ha => (adL_8 h1 a ha).1) (fun a ha => (adL_8 (by omega) a ha).1) (by rw [Nat.zero_mul]; exact ht) (by rw [Nat.zero_mul]; exact ht')

theorem finv_P (p : PT) (h1 : p.1.c ≤ 8) (h2 : p.1.c = p.2.c) : FInv (fxL p) (psP p) := by
  have := finv_fold (psP p) [] 0 0 [] (onEnd_P p h1 h2) (fun l x e => by simp at e) ⟨(fun ft hft => by cases hft), (fun v hv => by cases hv), List.Pairwise.nil, (fun v hv => by cases hv)⟩
  rw [fx_eq p h1 h2, List.nil_append] at this
  exact this

end Go.AI
end
