/- Plain law: what the list of fixed intervals tells. -/
import Derived.Test.YtlkjnlhpdjbjdaaCds
set_option autoImplicit false
set_option maxRecDepth 100000
set_option linter.unusedVariables false
namespace Go.AI
open Go.Proofs

def mvL : List Iv → List Iv
  | x :: y :: r => (x.2, y.1) :: mvL (y :: r)
  | _ => []

structure FInv (out : List Iv) (done : Pcs) : Prop where
  cov : ∀ ft ∈ done, ∀ r, fixP ft.1 ft.2 = some r → ∃ v ∈ out, rle v.1 r.1 ∧ rle r.2 v.2
  rgt : ∀ v ∈ out, ∃ ft ∈ done, ∃ r, fixP ft.1 ft.2 = some r ∧ r.2 = v.2
  srt : out.Pairwise fun a b => rlt a.2 b.1 = true
  own : ∀ v ∈ out, can v.1 ∧ can v.2 ∧ rle v.1 v.2

theorem finv_none {out : List Iv} {done : Pcs} (h : FInv out done) (f t : List UInt8) (hn : fixP f t = none) : FInv out (done ++ [(f, t)]) := by
  refine ⟨fun ft hft r hr => ?_, fun v hv => ?_, h.srt, h.own⟩
  · rcases List.mem_append.1 hft with hft | hft
    · exact h.cov ft hft r hr
    · simp only [List.mem_singleton] at hft
      subst hft
      rw [show (f, t).1 = f from rfl, show (f, t).2 = t from rfl, hn] at hr
      cases hr
  · obtain ⟨ft, hft, r⟩ := h.rgt v hv
    exact ⟨ft, List.mem_append_left _ hft, r⟩

theorem finv_some {out : List Iv} {done : Pcs} (h : FInv out done) (f t : List UInt8) (r : Iv) (hr : fixP f t = some r) (c1 : can r.1) (c2 : can r.2) (c4 : rle r.1 r.2) (hfr : ∀ l x, out = l ++ [x] → rle x.2 r.1) : FInv (mrgS out r) (done ++ [(f, t)]) := by
  rcases List.eq_nil_or_concat out with hn | ⟨l, x, hn⟩
  · subst hn
    refine ⟨fun ft hft q hq => ?_, fun v hv => ?_, by simp [mrgS], fun v hv => ?_⟩
    · rcases List.mem_append.1 hft with hft | hft
      · obtain ⟨v, hv, _⟩ := h.cov ft hft q hq
        cases hv
      · simp only [List.mem_singleton] at hft
        subst hft
        rw [show (f, t).1 = f from rfl, show (f, t).2 = t from rfl, hr] at hq
        cases hq
        exact ⟨r, by simp [mrgS], rle_refl _, rle_refl _⟩
    · simp [mrgS] at hv
      subst hv
      exact ⟨(f, t), by simp, v, hr, rfl⟩
    · simp [mrgS] at hv
      subst hv
      exact ⟨c1, c2, c4⟩
  · rw [List.concat_eq_append] at hn
    subst hn
    have hx := hfr l x rfl
    obtain ⟨x1, x2, x3⟩ := h.own x (by simp)
    have hs := h.srt
    rw [List.pairwise_append] at hs
    obtain ⟨s1, _, s3⟩ := hs
    rw [mrgS_app]
    by_cases e : x.2 = r.1
    · rw [if_pos e]
      have x1r : rle x.1 r.1 := by rw [← e]; exact x3
      have x1r2 : rle x.1 r.2 := rle_trans (can_pos x1) (can_pos c1) (can_pos c2) x1r c4
      refine ⟨fun ft hft q hq => ?_, fun v hv => ?_, ?_, fun v hv => ?_⟩
      · rcases List.mem_append.1 hft with hft | hft
        · obtain ⟨v, hv, a1, a2⟩ := h.cov ft hft q hq
          rcases List.mem_append.1 hv with hv | hv
          · exact ⟨v, List.mem_append_left _ hv, a1, a2⟩
          · simp only [List.mem_singleton] at hv
            subst hv
            refine ⟨(v.1, r.2), by simp, a1, ?_⟩
            have hq2 : 0 < q.2.2 := by
              by_cases hz : 0 < q.2.2
              · exact hz
              · exfalso
                have hp2 : can q.2 := by
                  by_cases hzz : ft.1.length = ft.2.length
                  · rw [fixP_eq _ _ hzz] at hq
                    split at hq
                    · cases hq; exact can_rt _ _ (by omega)
                    · cases hq
                  · have := fixP_ne' _ _ hzz q hq
                    have hd : 0 < fxD ft.1 ft.2 := by
                      unfold fxD
                      split
                      · have : 2 ≤ 2 ^ (ft.1.length - ft.2.length) := by have := Nat.pow_le_pow_right (n := 2) (by omega) (show 1 ≤ ft.1.length - ft.2.length by omega); omega
                        omega
                      · have : 2 ≤ 2 ^ (ft.2.length - ft.1.length) := by have := Nat.pow_le_pow_right (n := 2) (by omega) (show 1 ≤ ft.2.length - ft.1.length by omega); omega
                        omega
                    rw [this]
                    exact can_rt _ _ hd
                exact hz (can_pos hp2)
            exact rle_trans hq2 (can_pos x2) (can_pos c2) a2 (by rw [e]; exact c4)
        · simp only [List.mem_singleton] at hft
          subst hft
          rw [show (f, t).1 = f from rfl, show (f, t).2 = t from rfl, hr] at hq
          cases hq
          exact ⟨(x.1, r.2), by simp, x1r, rle_refl _⟩
      · rcases List.mem_append.1 hv with hv | hv
        · obtain ⟨ft, hft, q⟩ := h.rgt v (List.mem_append_left _ hv)
          exact ⟨ft, List.mem_append_left _ hft, q⟩
        · simp only [List.mem_singleton] at hv
          subst hv
          exact ⟨(f, t), by simp, r, hr, rfl⟩
      · rw [List.pairwise_append]
        exact ⟨s1, by simp, fun a ha b hb => by simp only [List.mem_singleton] at hb; subst hb; exact s3 a ha x (by simp)⟩
      · rcases List.mem_append.1 hv with hv | hv
        · exact h.own v (List.mem_append_left _ hv)
        · simp only [List.mem_singleton] at hv
          subst hv
          exact ⟨x1, c2, x1r2⟩
    · rw [if_neg e]
      have hlt : rlt x.2 r.1 = true := by
        cases k : rlt x.2 r.1
        · exact absurd (can_antisymm x2 c1 hx ((rle_iff _ _).2 k)) e
        · rfl
      refine ⟨fun ft hft q hq => ?_, fun v hv => ?_, ?_, fun v hv => ?_⟩
      · rcases List.mem_append.1 hft with hft | hft
        · obtain ⟨v, hv, a⟩ := h.cov ft hft q hq
          exact ⟨v, List.mem_append_left _ hv, a⟩
        · simp only [List.mem_singleton] at hft
          subst hft
          rw [show (f, t).1 = f from rfl, show (f, t).2 = t from rfl, hr] at hq
          cases hq
          exact ⟨r, by simp, rle_refl _, rle_refl _⟩
      · rcases List.mem_append.1 hv with hv | hv
        · obtain ⟨ft, hft, q⟩ := h.rgt v hv
          exact ⟨ft, List.mem_append_left _ hft, q⟩
        · simp only [List.mem_singleton] at hv
          subst hv
          exact ⟨(f, t), by simp, v, hr, rfl⟩
      · rw [List.pairwise_append]
        refine ⟨h.srt, by simp, fun a ha b hb => ?_⟩
        simp only [List.mem_singleton] at hb
        subst hb
        rcases List.mem_append.1 ha with ha | ha
        · have h1 := s3 a ha x (by simp)
          obtain ⟨a1, a2, _⟩ := h.own a (List.mem_append_left _ ha)
          exact rlt_trans_le' (can_pos a2) (can_pos x1) (can_pos c1) h1 (rle_trans (can_pos x1) (can_pos x2) (can_pos c1) x3 hx)
        · simp only [List.mem_singleton] at ha
          subst ha
          exact hlt
      · rcases List.mem_append.1 hv with hv | hv
        · exact h.own v hv
        · simp only [List.mem_singleton] at hv
          subst hv
          exact ⟨c1, c2, c4⟩

theorem finv_fold : ∀ (ps done : Pcs) (A B : Nat) (out : List Iv), onEnd ps A B → front out (rt (A : Int) 256) → FInv out done → FInv (ps.foldl stpS out) (done ++ ps)
  | [], done, _, _, out, _, _, h => by rw [List.append_nil]; exact h
  | (f, t) :: r, done, A, B, out, ⟨h1, h2, eA, eB, hr⟩, ho, h => by
    have a1 := sE_le f h1
    rw [← eA] at ho
    have cA := can_rt (sA f : Int) 256 (by omega)
    have cE := can_rt (sE f : Int) 256 (by omega)
    have hAE : rle (rt (sA f : Int) 256) (rt (sE f : Int) 256) := by
      rw [rle_iff, rlt_rt _ _ _ _ (by omega) (by omega), decide_eq_false_iff_not]
      omega
    rw [List.foldl_cons, show done ++ (f, t) :: r = (done ++ [(f, t)]) ++ r by simp]
    cases hp : fixP f t with
    | none =>
      have e2 : stpS out (f, t) = out := by unfold stpS; rw [show fixP (f, t).1 (f, t).2 = _ from hp]
      rw [e2]
      exact finv_fold r _ (sE f) (sE t) out hr (front_mono ho cA cE hAE) (finv_none h f t hp)
    | some q =>
      obtain ⟨c1, c2, c3, c4, c5⟩ := fixP_facts f t h1 h2 q hp
      obtain ⟨e0, hfr⟩ := mrg_same ho cA cE c1 c2 c3 c4 c5
      have e2 : stpS out (f, t) = mrgS out q := by unfold stpS; rw [show fixP (f, t).1 (f, t).2 = _ from hp]
      rw [e2]
      rw [e0] at hfr
      refine finv_fold r _ (sE f) (sE t) (mrgS out q) hr hfr (finv_some h f t q hp c1 c2 c4 fun l x e => ?_)
      obtain ⟨cx, hx⟩ := ho l x e
      exact rle_trans (can_pos cx) (can_pos cA) (can_pos c1) hx c3

theorem mvL_mem : ∀ (l : List Iv) (a : Iv), a ∈ mvL l → ∃ l1 x y l2, l = l1 ++ x :: y :: l2 ∧ a = (x.2, y.1)
  | [], a, h => by cases h
  | [_], a, h => by cases h
  | x :: y :: r, a, h => by
    rw [mvL] at h
    rcases List.mem_cons.1 h with rfl | h
    · exact ⟨[], x, y, r, rfl, rfl⟩
    · obtain ⟨l1, x', y', l2, e, ha⟩ := mvL_mem (y :: r) a h
      exact ⟨x :: l1, x', y', l2, by rw [e]; rfl, ha⟩

theorem onEnd_of : ∀ (F T : List (List UInt8)) (A B b b' : Nat), F.length = T.length → (∀ a ∈ F, a.length ≤ 8) → (∀ a ∈ T, a.length ≤ 8) → tiles (F.map iv) (A * 4294967296) b → tiles (T.map iv) (B * 4294967296) b' → onEnd (F.zip T) A B
  | [], _, _, _, _, _, _, _, _, _, _ => trivial
  | f :: F, [], _, _, _, _, hl, _, _, _, _ => by simp at hl
  | f :: F, t :: T, A, B, b, b', hl, hF, hT, ht, ht' => by
    obtain ⟨h1, h2, h3⟩ := ht
    obtain ⟨g1, g2, g3⟩ := ht'
    have fl := hF f (by simp)
    have tl := hT t (by simp)
    have eA : sA f = A := by
      have h1' : plF f 1099511627776 0 = A * 4294967296 := h1
      rw [plF_A f fl] at h1'
      omega
    have eB : sA t = B := by
      have h1' : plF t 1099511627776 0 = B * 4294967296 := g1
      rw [plF_A t tl] at h1'
      omega
    exact ⟨fl, tl, eA, eB, onEnd_of F T (sE f) (sE t) b b' (by simpa using hl) (fun a ha => hF a (by simp [ha])) (fun a ha => hT a (by simp [ha])) (by rw [← iv_E f fl]; exact h3) (by rw [← iv_E t tl]; exact g3)⟩

abbrev psP (p : PT) : Pcs := (adL p.1 []).zip (adL p.2 [])

theorem onEnd_P (p : PT) (h1 : p.1.c ≤ 8) (h2 : p.1.c = p.2.c) : onEnd (psP p) 0 0 := by
  have ht := tiles_adL p.1 [] (by simp; omega)
  have ht' := tiles_adL p.2 [] (by simp; omega)
  exact onEnd_of (adL p.1 []) (adL p.2 []) 0 0 _ _ (by rw [adL_len, adL_len, h2]) (fun a ha => (adL_8 h1 a ha).1) (fun a ha => (adL_8 (by omega) a ha).1) (by rw [Nat.zero_mul]; exact ht) (by rw [Nat.zero_mul]; exact ht')

theorem finv_P (p : PT) (h1 : p.1.c ≤ 8) (h2 : p.1.c = p.2.c) : FInv (fxL p) (psP p) := by
  have := finv_fold (psP p) [] 0 0 [] (onEnd_P p h1 h2) (fun l x e => by simp at e) ⟨(fun ft hft => by cases hft), (fun v hv => by cases hv), List.Pairwise.nil, (fun v hv => by cases hv)⟩
  rw [fx_eq p h1 h2, List.nil_append] at this
  exact this

/-- What is moved: an interval that is not empty; in its middle the direction is that at its beginning. -/
theorem dir_law (p : PT) (h1 : p.1.c ≤ 8) (h2 : p.1.c = p.2.c) (a : Iv) (ha : a ∈ mvL (fxL p)) : can a.1 ∧ can a.2 ∧ rlt a.1 a.2 = true ∧ rle (rt 0 256) a.1 ∧ ∀ m : Rt, 0 < m.2 → rlt a.1 m = true → rlt m a.2 = true → goesUpL (psP p) m = signL (psP p) a.1 := by
  have hI := finv_P p h1 h2
  have hE := onEnd_P p h1 h2
  obtain ⟨l1, x, y, l2, e, rfl⟩ := mvL_mem _ _ ha
  rw [e] at hI
  obtain ⟨x1, x2, x3⟩ := hI.own x (by simp)
  obtain ⟨y1, y2, y3⟩ := hI.own y (by simp)
  have hs := hI.srt
  rw [List.pairwise_append] at hs
  obtain ⟨s1, s2, s3⟩ := hs
  rw [List.pairwise_cons] at s2
  obtain ⟨s4, s5⟩ := s2
  rw [List.pairwise_cons] at s5
  have hxy := s4 y (by simp)
  obtain ⟨ftx, hftx, qx, hqx, ex⟩ := hI.rgt x (by simp)
  obtain ⟨fty, hfty, qy, hqy, ey⟩ := hI.rgt y (by simp)
  have lx := onEnd_len _ _ _ hE ftx hftx
  have ly := onEnd_len _ _ _ hE fty hfty
  obtain ⟨d1, d2, d3, d4, d5⟩ := fixP_facts _ _ lx.1 lx.2 qx hqx
  obtain ⟨g1, g2, g3, g4, g5⟩ := fixP_facts _ _ ly.1 ly.2 qy hqy
  have p0 := rt_pos 0 256 (by omega)
  have pAx := rt_pos (sA ftx.1 : Int) 256 (by omega)
  have h0 : rle (rt 0 256) (rt (sA ftx.1 : Int) 256) := by
    rw [rle_iff, rlt_rt _ _ _ _ (by omega) (by omega), decide_eq_false_iff_not]
    omega
  have h0l : rle (rt 0 256) x.2 := by
    rw [← ex]
    exact rle_trans p0 pAx (can_pos d2) h0 (rle_trans pAx (can_pos d1) (can_pos d2) d3 d4)
  refine ⟨x2, y1, hxy, h0l, fun m hm hlm hmu => ?_⟩
  refine dir_same x.2 y.1 m x2 (can_pos y1) hm hlm hmu (psP p) 0 0 hE (fun ft hft q hq => ?_) h0l (.inl ⟨ftx, hftx, qx, hqx, ex⟩) ⟨fty, hfty, ?_⟩
  · have hl := onEnd_len _ _ _ hE ft hft
    obtain ⟨k1, k2, _, _, _⟩ := fixP_facts _ _ hl.1 hl.2 q hq
    obtain ⟨v, hv, v1, v2⟩ := hI.cov ft hft q hq
    obtain ⟨w1, w2, w3⟩ := hI.own v hv
    rcases List.mem_append.1 hv with hv | hv
    · left
      have := s3 v hv x (by simp)
      exact rle_trans (can_pos k2) (can_pos w2) (can_pos x2) v2 (rle_trans (can_pos w2) (can_pos x1) (can_pos x2) (rle_of_lt this) x3)
    · rcases List.mem_cons.1 hv with e1 | hv
      · left
        rw [e1] at v2
        exact v2
      · right
        rcases List.mem_cons.1 hv with e1 | hv
        · rw [e1] at v1
          exact v1
        · have := s5.1 v hv
          exact rle_trans (can_pos y1) (can_pos w1) (can_pos k1) (rle_trans (can_pos y1) (can_pos y2) (can_pos w1) y3 (rle_of_lt this)) v1
  · have pE := rt_pos (sE fty.1 : Int) 256 (by omega)
    have hy2 : rle y.1 (rt (sE fty.1 : Int) 256) := by
      refine rle_trans (can_pos y1) (can_pos y2) pE y3 ?_
      rw [← ey]
      exact g5
    exact rlt_trans_le' hm (can_pos y1) pE hmu hy2

end Go.AI
