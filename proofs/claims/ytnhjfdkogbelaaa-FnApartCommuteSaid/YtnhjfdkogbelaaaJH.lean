/- A part of the road: what it proves stands in its last texts. -/
import Derived.Test.YtnhjfdkogbelaaaAm
import Derived.Test.YtnhjfdkogbelaaaCmv
section
/- Plain law: what two pairs move meets, or they commute. -/
set_option autoImplicit false
set_option maxRecDepth 100000
set_option linter.unusedVariables false
namespace Go.AI
open Go.Proofs

theorem fx_end_at (f t : List UInt8) (h1 : f.length ≤ 8) (h2 : t.length ≤ 8) (hz : f.length ≠ t.length) (h : sE f = sE t) : rt (fxN f t) (fxD f t) = rt (sE f : Int) 256 := by
  obtain ⟨c1, c2, c3, c4⟩ := fx_bd f t h1 h2 hz
  refine rt_eq_of _ _ _ _ c3 (by omega) ?_
  obtain ⟨hA, hB⟩ := fx_atE f t h1 h2 hz
  show fxN f t * 256 = _
  by_cases hlt : t.length < f.length
  · have := hA hlt; omega
  · have := hB (by omega)
    rw [h, Int.sub_self, Int.mul_zero, Int.zero_mul] at this
    rw [h]
    omega

theorem start_fix (f t : List UInt8) (h1 : f.length ≤ 8) (h2 : t.length ≤ 8) (h : sA f = sA t) : ∃ r, fixP f t = some r ∧ r.1 = rt (sA f : Int) 256 := by
  have a1 := sE_le f h1
  by_cases hz : f.length = t.length
  · rw [fixP_eq f t hz, if_pos h]
    exact ⟨_, rfl, rfl⟩
  · have e := fx_start_at f t h1 h2 hz h
    refine ⟨_, fixP_ne f t hz ?_ ?_, e⟩
    · rw [e]; exact rlt_irr _
    · rw [e, rlt_rt _ _ _ _ (by omega) (by omega), decide_eq_false_iff_not]; omega

theorem end_fix (f t : List UInt8) (h1 : f.length ≤ 8) (h2 : t.length ≤ 8) (h : sE f = sE t) : ∃ r, fixP f t = some r ∧ r.2 = rt (sE f : Int) 256 := by
  have a1 := sE_le f h1
  by_cases hz : f.length = t.length
  · have hA : sA f = sA t := by
      have e1 := sE_A f
      have e2 := sE_A t
      rw [hz] at e1
      omega
    rw [fixP_eq f t hz, if_pos hA]
    exact ⟨_, rfl, rfl⟩
  · have e := fx_end_at f t h1 h2 hz h
    refine ⟨_, fixP_ne f t hz ?_ ?_, e⟩
    · rw [e, rlt_rt _ _ _ _ (by omega) (by omega), decide_eq_false_iff_not]; omega
    · rw [e]; exact rlt_irr _

theorem last_of : ∀ (F T : List (List UInt8)) (A B : Nat) (b b' : Nat), F.length = T.length → F ≠ [] → (∀ a ∈ F, a.length ≤ 8) → (∀ a ∈ T, a.length ≤ 8) → tiles (F.map iv) A b → tiles (T.map iv) B b' → ∃ ft ∈ F.zip T, sE ft.1 * 4294967296 = b ∧ sE ft.2 * 4294967296 = b'
  | [], _, _, _, _, _, _, h, _, _, _, _ => absurd rfl h
  | f :: F, [], _, _, _, _, hl, _, _, _, _, _ => by simp at hl
  | f :: F, t :: T, A, B, b, b', hl, _, hF, hT, ht, ht' => by
    obtain ⟨h1, h2, h3⟩ := ht
    obtain ⟨g1, g2, g3⟩ := ht'
    have fl := hF f (by simp)
    have tl := hT t (by simp)
    cases F with
    | nil =>
      cases T with
      | cons => simp at hl
      | nil =>
        have e1 : (iv f).2 = b := h3
        have e2 : (iv t).2 = b' := g3
        exact ⟨(f, t), by simp, by rw [← iv_E f fl, e1], by rw [← iv_E t tl, e2]⟩
    | cons f' F =>
      cases T with
      | nil => simp at hl
      | cons t' T =>
        obtain ⟨ft, hm, e⟩ := last_of (f' :: F) (t' :: T) _ _ b b' (by simpa using hl) (by simp) (fun a ha => hF a (List.mem_cons_of_mem _ ha)) (fun a ha => hT a (List.mem_cons_of_mem _ ha)) h3 g3
        exact ⟨ft, by rw [List.zip_cons_cons]; exact List.mem_cons_of_mem _ hm, e⟩

theorem last_P (p : PT) (h1 : p.1.c ≤ 8) (h2 : p.1.c = p.2.c) : ∃ ft ∈ psP p, sE ft.1 = 256 ∧ sE ft.2 = 256 := by
  have ht := tiles_adL p.1 [] (by simp; omega)
  have ht' := tiles_adL p.2 [] (by simp; omega)
  have hn := adL_len p.1 []
  obtain ⟨ft, hm, e1, e2⟩ := last_of (adL p.1 []) (adL p.2 []) _ _ _ _ (by rw [adL_len, adL_len, h2]) (by intro e; rw [e] at hn; simp at hn) (fun a ha => (adL_8 h1 a ha).1) (fun a ha => (adL_8 (by omega) a ha).1) ht ht'
  have e0 : plF [] 1099511627776 0 + 1099511627776 / 2 ^ ([] : List UInt8).length = 1099511627776 := by decide
  rw [e0] at e1 e2
  exact ⟨ft, hm, by omega, by omega⟩

theorem switch (X Y : Rt) : ∀ (l : List Iv) (a : Iv), rle a.2 X → (∃ w ∈ l, rle Y w.1) → (∀ z ∈ l, rle Y z.1 ∨ rle z.2 X) → ∃ g ∈ mvL (a :: l), rle g.1 X ∧ rle Y g.2
  | [], a, _, ⟨w, hw, _⟩, _ => by cases hw
  | b :: l, a, ha, ⟨w, hw, hY⟩, hD => by
    by_cases hb : rle Y b.1
    · exact ⟨(a.2, b.1), by rw [mvL]; exact List.mem_cons_self, ha, hb⟩
    · have hb2 : rle b.2 X := (hD b List.mem_cons_self).resolve_left hb
      have hw' : w ∈ l := by
        rcases List.mem_cons.1 hw with e | hw
        · rw [e] at hY; exact absurd hY hb
        · exact hw
      obtain ⟨g, hg, h1, h2⟩ := switch X Y l b hb2 ⟨w, hw', hY⟩ fun z hz => hD z (List.mem_cons_of_mem _ hz)
      exact ⟨g, by rw [mvL]; exact List.mem_cons_of_mem _ hg, h1, h2⟩

/-- Steps away from what is fixed. -/
theorem away_fold (X Y : Rt) (hX : 0 < X.2) (hY : 0 < Y.2) (hXY : rlt X Y = true) : ∀ (ps : Pcs) (out : List Iv), (∀ ft ∈ ps, ft.1.length ≤ 8 ∧ ft.2.length ≤ 8) → (∀ ft ∈ ps, gap X Y ft) →
    (∀ z ∈ out, can z.1 ∧ can z.2 ∧ (rle Y z.1 ∨ rle z.2 X)) → ∀ z ∈ ps.foldl stp out, rle Y z.1 ∨ rle z.2 X
  | [], out, _, _, ho, z, hz => (ho z hz).2.2
  | (f, t) :: ps, out, hl, hg, ho, z, hz => by
    refine away_fold X Y hX hY hXY ps _ (fun ft h => hl ft (List.mem_cons_of_mem _ h)) (fun ft h => hg ft (List.mem_cons_of_mem _ h)) ?_ z hz
    have l0 := hl (f, t) List.mem_cons_self
    have g0 := hg (f, t) List.mem_cons_self
    unfold stp
    cases hr : fixP f t with
    | none => exact ho
    | some r =>
      simp only
      obtain ⟨k1, k2, _, k4, _⟩ := fixP_facts f t l0.1 l0.2 r hr
      have gr : rle Y r.1 ∨ rle r.2 X := (g0 r hr).symm
      intro q hq
      unfold mrg at hq
      split at hq
      · simp only [List.mem_singleton] at hq
        subst hq
        exact ⟨k1, k2, gr⟩
      · rename_i x hx
        have hxm : x ∈ out := List.mem_of_getLast? hx
        obtain ⟨x1, x2, x3⟩ := ho x hxm
        split at hq
        · rcases List.mem_append.1 hq with hq | hq
          · exact ho q hq
          · simp only [List.mem_singleton] at hq
            subst hq
            exact ⟨k1, k2, gr⟩
        · rename_i n1
          split at hq
          · rcases List.mem_append.1 hq with hq | hq
            · exact ho q ((List.dropLast_sublist _).subset hq)
            · simp only [List.mem_singleton] at hq
              subst hq
              refine ⟨x1, k2, ?_⟩
              show rle Y x.1 ∨ rle r.2 X
              rcases x3 with x3 | x3
              · exact .inl x3
              · rcases gr with gr | gr
                · exfalso
                  have n2 : rle r.1 x.2 := (rle_iff _ _).2 (by simpa using n1)
                  have := rle_trans hY (can_pos k1) hX gr (rle_trans (can_pos k1) (can_pos x2) hX n2 x3)
                  rw [(rle_iff _ _).1 this] at hXY
                  cases hXY
                · exact .inr gr
          · exact ho q hq

theorem away_P (p : PT) (h1 : p.1.c ≤ 8) (h2 : p.1.c = p.2.c) (X Y : Rt) (hX : 0 < X.2) (hY : 0 < Y.2) (hXY : rlt X Y = true) (h0 : rle (rt 0 256) X) (h1' : rle Y (rt 256 256))
    (hg : ∀ ft ∈ psP p, gap X Y ft) : ∃ g ∈ mvP p, rle g.1 X ∧ rle Y g.2 := by
  have hE := onEnd_P p h1 h2
  have hI := finv_P p h1 h2
  have hD : ∀ z ∈ fxL p, rle Y z.1 ∨ rle z.2 X := away_fold X Y hX hY hXY (psP p) [] (onEnd_len _ _ _ hE) hg (fun z hz => by cases hz)
  have p0 := rt_pos 0 256 (by omega)
  have p1 := rt_pos 256 256 (by omega)
  have hn := adL_len p.1 []
  have hn2 := adL_len p.2 []
  -- the first piece
  obtain ⟨v, hv, v2⟩ : ∃ v ∈ fxL p, rle v.2 X := by
    cases hps : psP p with
    | nil =>
      have := congrArg List.length hps
      rw [List.length_zip, hn, hn2] at this
      have z : min (p.1.c + 1) (p.2.c + 1) = 0 := this
      omega
    | cons ft r =>
      obtain ⟨f, t⟩ := ft
      rw [hps] at hE
      obtain ⟨l1, l2, e1, e2, _⟩ := hE
      obtain ⟨q, hq, eq⟩ := start_fix f t l1 l2 (by omega)
      obtain ⟨v, hv, c1, c2⟩ := hI.cov (f, t) (by rw [hps]; exact List.mem_cons_self) q hq
      obtain ⟨w1, w2, w3⟩ := hI.own v hv
      refine ⟨v, hv, (hD v hv).resolve_left fun hl => ?_⟩
      rw [eq, e1] at c1
      have := rle_trans hY p0 hX (rle_trans hY (can_pos w1) p0 hl c1) h0
      rw [(rle_iff _ _).1 this] at hXY
      cases hXY
  obtain ⟨w, hw, w1⟩ : ∃ w ∈ fxL p, rle Y w.1 := by
    obtain ⟨ft, hm, e1, e2⟩ := last_P p h1 h2
    have hl := onEnd_len _ _ _ hE ft hm
    obtain ⟨q, hq, eq⟩ := end_fix ft.1 ft.2 hl.1 hl.2 (by omega)
    obtain ⟨w, hw, c1, c2⟩ := hI.cov ft hm q hq
    obtain ⟨w1, w2, w3⟩ := hI.own w hw
    refine ⟨w, hw, (hD w hw).resolve_right fun hl => ?_⟩
    rw [eq, e1] at c2
    have := rle_trans hY p1 hX h1' (rle_trans p1 (can_pos w2) hX c2 hl)
    rw [(rle_iff _ _).1 this] at hXY
    cases hXY
  unfold mvP
  cases hf : fxL p with
  | nil => rw [hf] at hv; cases hv
  | cons a l =>
    rw [hf] at hv hw hD hI
    have ha : rle a.2 X := by
      rcases List.mem_cons.1 hv with e | hv
      · rw [← e]; exact v2
      · refine (hD a List.mem_cons_self).resolve_left fun hl => ?_
        obtain ⟨a1, a2, a3⟩ := hI.own a List.mem_cons_self
        obtain ⟨b1, b2, b3⟩ := hI.own v (List.mem_cons_of_mem _ hv)
        have hs := (List.pairwise_cons.1 hI.srt).1 v hv
        have q1 := rle_trans hY (can_pos a1) (can_pos a2) hl a3
        have q2 := rle_trans hY (can_pos a2) (can_pos b1) q1 (rle_of_lt hs)
        have q3 := rle_trans hY (can_pos b1) (can_pos b2) q2 b3
        have := rle_trans hY (can_pos b2) hX q3 v2
        rw [(rle_iff _ _).1 this] at hXY
        cases hXY
    refine switch X Y l a ha ?_ fun z hz => hD z (List.mem_cons_of_mem _ hz)
    rcases List.mem_cons.1 hw with e | hw
    · exfalso
      rw [e] at w1
      obtain ⟨a1, a2, a3⟩ := hI.own a List.mem_cons_self
      have := rle_trans hY (can_pos a2) hX (rle_trans hY (can_pos a1) (can_pos a2) w1 a3) ha
      rw [(rle_iff _ _).1 this] at hXY
      cases hXY
    · exact ⟨w, hw, w1⟩

theorem nXY (N : Nat) (s : St2) : rlt (nX N s) (nY N s) = true ∧ rle (rt 0 256) (nX N s) ∧ rle (nY N s) (rt 256 256) := by
  have hp := two_pos' N
  have hl := bN_lt N s
  refine ⟨?_, ?_, ?_⟩
  · rw [rlt_rt _ _ _ _ hp hp, decide_eq_true_eq]
    exact Int.mul_lt_mul_of_pos_right (by omega) (by omega)
  · rw [rle_iff, rlt_rt _ _ _ _ hp (by omega), decide_eq_false_iff_not]
    omega
  · rw [rle_iff, rlt_rt _ _ _ _ (by omega) hp, decide_eq_false_iff_not]
    omega

/-- What both pairs move is met in both. -/
theorem meet_of (p q : PT) (h1 : p.1.c ≤ 8) (h2 : p.1.c = p.2.c) (g1 : q.1.c ≤ 8) (g2 : q.1.c = q.2.c) (s : St2) (hp : fOf p s ≠ s) (hq : fOf q s ≠ s) : (mvP p).any (fun a => (mvP q).any (meet a)) = true := by
  obtain ⟨N1, a1⟩ := moved_gap p h1 h2 s hp
  obtain ⟨N2, a2⟩ := moved_gap q g1 g2 s hq
  obtain ⟨k1, k2, k3⟩ := nXY (N1 + N2) s
  have pX := rt_pos (bN (N1 + N2) s : Int) (2 ^ (N1 + N2)) (two_pos' _)
  have pY := rt_pos ((bN (N1 + N2) s + 1 : Nat) : Int) (2 ^ (N1 + N2)) (two_pos' _)
  obtain ⟨g, hg, b1, b2⟩ := away_P p h1 h2 _ _ pX pY k1 k2 k3 (a1 (N1 + N2) (by omega))
  obtain ⟨e, he, d1, d2⟩ := away_P q g1 g2 _ _ pX pY k1 k2 k3 (a2 (N1 + N2) (by omega))
  have sg := smalls_mvL (smalls_fxL p h1 h2) g hg
  have se := smalls_mvL (smalls_fxL q g1 g2) e he
  refine List.any_eq_true.2 ⟨g, hg, List.any_eq_true.2 ⟨e, he, ?_⟩⟩
  unfold meet
  rw [Bool.and_eq_true]
  have q1 : 0 < g.1.2 := sg.1.2.2.1
  have q2 : 0 < g.2.2 := sg.2.2.2.1
  have q3 : 0 < e.1.2 := se.1.2.2.1
  have q4 : 0 < e.2.2 := se.2.2.2.1
  exact ⟨rlt_trans_le' q1 pY q4 (rlt_trans_le q1 pX pY b1 k1) d2, rlt_trans_le' q3 pY q2 (rlt_trans_le q3 pX pY d1 k1) b2⟩

/-- PAIRS THAT MOVE NOTHING IN COMMON COMMUTE. -/
theorem apart_commute (p q : PT) (h1 : p.1.c ≤ 8) (h2 : p.1.c = p.2.c) (g1 : q.1.c ≤ 8) (g2 : q.1.c = q.2.c) (ha : (mvP p).any (fun a => (mvP q).any (meet a)) = false) : timesT p q = timesT q p := by
  have dj : ∀ s, fOf p s = s ∨ fOf q s = s := fun s => by
    by_cases hp : fOf p s = s
    · exact .inl hp
    · by_cases hq : fOf q s = s
      · exact .inr hq
      · rw [meet_of p q h1 h2 g1 g2 s hp hq] at ha
        cases ha
  have ip : ∀ s u, fOf p s = fOf p u → s = u := fun s u h => by
    have := congrArg (fOf (p.2, p.1)) h
    rwa [show fOf p s = fOf (p.1, p.2) s from rfl, show fOf p u = fOf (p.1, p.2) u from rfl, fOf_inv p.1 p.2 h2, fOf_inv p.1 p.2 h2] at this
  have iq : ∀ s u, fOf q s = fOf q u → s = u := fun s u h => by
    have := congrArg (fOf (q.2, q.1)) h
    rwa [show fOf q s = fOf (q.1, q.2) s from rfl, show fOf q u = fOf (q.1, q.2) u from rfl, fOf_inv q.1 q.2 g2, fOf_inv q.1 q.2 g2] at this
  refine red_unique _ _ (times_eqc p q h2 g2) (times_eqc q p g2 h2) (times_red p q) (times_red q p) fun s => ?_
  rw [fOf_times p q h2 g2, fOf_times q p g2 h2]
  by_cases hp : fOf p s = s
  · by_cases hq : fOf q s = s
    · rw [hp, hq, hp]
    · have hn : fOf q (fOf q s) ≠ fOf q s := fun e => hq (iq _ _ e)
      rw [hp, (dj (fOf q s)).resolve_right hn]
  · have hq : fOf q s = s := (dj s).resolve_left hp
    have hn : fOf p (fOf p s) ≠ fOf p s := fun e => hp (ip _ _ e)
    rw [hq, (dj (fOf p s)).resolve_left hn]

end Go.AI
end

section
/- The law of AreApart. -/
set_option autoImplicit false
set_option maxRecDepth 100000
set_option linter.unusedVariables false
namespace Go.AI
open Go.Proofs

theorem obNear (a b : Iv) (ha : small a.1 ∧ small a.2) (hb : small b.1 ∧ small b.2) :
    SC cfg.P i_spec_obLess [.s (.v RK a.1), .s (.v RK b.2)] (.s (.v .bool (rlt a.1 b.2))) [] ∧ SC cfg.P i_spec_obLess [.s (.v RK b.1), .s (.v RK a.2)] (.s (.v .bool (rlt b.1 a.2))) [] :=
  ⟨obLess_SC _ _ ha.1 hb.2, obLess_SC _ _ hb.1 ha.2⟩

theorem apS_in (a : Iv) (ha : small a.1 ∧ small a.2) (l : List Iv) (hl : l.length ≤ 2 ^ 30) (hs : smalls l) (x20 x21 : Int) (xo3 : ByteArray × ByteArray) (xo19 : List (List Rt)) : ∀ (m i : Nat), l.length - i = m → i ≤ l.length → (∀ j (h : j < i) (h' : j < l.length), meet a l[j] = false) →
    (l.any (meet a) = true ∧ LoopSC cfg.P 2 (lb P_spec_AreApart 1) (spec_AreApart_L1a [a.1, a.2] x20 x21 ((List.length (ivL l) : Nat) : Int) (i : Int) xo3 xo19 (ivL l)) (.ret) (spec_AreApart_L1X1 false true)) ∨
    (l.any (meet a) = false ∧ LoopSC cfg.P 2 (lb P_spec_AreApart 1) (spec_AreApart_L1a [a.1, a.2] x20 x21 ((List.length (ivL l) : Nat) : Int) (i : Int) xo3 xo19 (ivL l)) (.exit 2) (spec_AreApart_L1X2 [a.1, a.2] x20 x21 ((List.length (ivL l) : Nat) : Int) (l.length : Int) false xo3 xo19 (ivL l))) := by
  have lL : List.length (ivL l) = l.length := List.length_map ..
  intro m
  induction m with
  | zero =>
    intro i hm hi hj
    have e : i = l.length := by omega
    subst e
    refine .inr ⟨?_, spec_AreApart_L1a_x4 _ _ _ _ _ _ _ _ (by rw [lL]; omega)⟩
    rw [List.any_eq_false]
    intro x hx
    obtain ⟨j, hj', rfl⟩ := List.mem_iff_getElem.1 hx
    rw [hj j hj' hj']; exact Bool.false_ne_true
  | succ m ih =>
    intro i hm hi hj
    have hlt : i < l.length := by omega
    obtain ⟨l1, l2⟩ := obNear a l[i] ha (hs l[i] (List.getElem_mem hlt))
    have g := iv_getD l i hlt
    have e2 : ((i + 1 : Nat) : Int) = IntKind.wrap .i64 ((i : Int) + 1) := by rw [w64 (by omega) (by omega)]; omega
    have on : meet a l[i] = false → ∀ (e : AEx) (st : St), LoopSC cfg.P 2 (lb P_spec_AreApart 1) (spec_AreApart_L1a [a.1, a.2] x20 x21 ((List.length (ivL l) : Nat) : Int) ((i + 1 : Nat) : Int) xo3 xo19 (ivL l)) e st → LoopSC cfg.P 2 (lb P_spec_AreApart 1) (spec_AreApart_L1a [a.1, a.2] x20 x21 ((List.length (ivL l) : Nat) : Int) (i : Int) xo3 xo19 (ivL l)) e st := fun c e st h => by
      rw [e2] at h
      unfold meet at c
      cases k1 : rlt a.1 l[i].2
      · rw [k1] at l1
        exact spec_AreApart_L1a_i3 _ _ _ _ _ _ _ _ (by rw [lL]; omega) (by omega) (by rw [lL]; omega) (by rw [lL]; omega) (l2p0 _ _) (by rw [Int.toNat_natCast, g]; exact l2p1 _ _) (by rw [Int.toNat_natCast, g]; exact l1) h
      · rw [k1] at l1 c
        rw [Bool.true_and] at c
        rw [c] at l2
        exact spec_AreApart_L1a_i2 _ _ _ _ _ _ _ _ (by rw [lL]; omega) (by omega) (by rw [lL]; omega) (by rw [lL]; omega) (l2p0 _ _) (by rw [Int.toNat_natCast, g]; exact l2p1 _ _) (by rw [Int.toNat_natCast, g]; exact l1) (by rw [Int.toNat_natCast, g]; exact l2p0 _ _) (l2p1 _ _) (by rw [Int.toNat_natCast, g]; exact l2) h
    cases c : meet a l[i]
    · rcases ih (i + 1) (by omega) (by omega) (fun j h h' => by
        by_cases e : j = i
        · subst e; exact c
        · exact hj j (by omega) h') with ⟨h1, h2⟩ | ⟨h1, h2⟩
      · exact .inl ⟨h1, on c _ _ h2⟩
      · exact .inr ⟨h1, on c _ _ h2⟩
    · refine .inl ⟨List.any_eq_true.2 ⟨l[i], List.getElem_mem hlt, c⟩, ?_⟩
      unfold meet at c
      rw [Bool.and_eq_true] at c
      rw [c.1] at l1
      rw [c.2] at l2
      exact spec_AreApart_L1a_x1 _ _ _ _ _ _ _ _ (by rw [lL]; omega) (by omega) (by rw [lL]; omega) (by rw [lL]; omega) (l2p0 _ _) (by rw [Int.toNat_natCast, g]; exact l2p1 _ _) (by rw [Int.toNat_natCast, g]; exact l1) (by rw [Int.toNat_natCast, g]; exact l2p0 _ _) (l2p1 _ _) (by rw [Int.toNat_natCast, g]; exact l2)

theorem apS_out (q : PT) (h1 : q.1.c ≤ 8) (h2 : q.1.c = q.2.c) (l : List Iv) (hl : l.length ≤ 2 ^ 30) (hs : smalls l) : ∀ (m i : Nat), l.length - i = m → i ≤ l.length → (∀ j (h : j < i) (h' : j < l.length), (mvP q).any (meet l[j]) = false) →
    (l.any (fun a => (mvP q).any (meet a)) = true ∧ LoopSC cfg.P 2 (lb P_spec_AreApart 0) (spec_AreApart_L0a ((List.length (ivL l) : Nat) : Int) (i : Int) (bs (txt q.1), bs (txt q.2)) (ivL l)) (.ret) (spec_AreApart_L0X1 false true)) ∨
    (l.any (fun a => (mvP q).any (meet a)) = false ∧ LoopSC cfg.P 2 (lb P_spec_AreApart 0) (spec_AreApart_L0a ((List.length (ivL l) : Nat) : Int) (i : Int) (bs (txt q.1), bs (txt q.2)) (ivL l)) (.exit 0) (spec_AreApart_L0X2 ((List.length (ivL l) : Nat) : Int) (l.length : Int) false (bs (txt q.1), bs (txt q.2)) (ivL l))) := by
  have lL : List.length (ivL l) = l.length := List.length_map ..
  intro m
  induction m with
  | zero =>
    intro i hm hi hj
    have e : i = l.length := by omega
    subst e
    refine .inr ⟨?_, spec_AreApart_L0a_x3 _ _ _ _ (by rw [lL]; omega)⟩
    rw [List.any_eq_false]
    intro x hx
    obtain ⟨j, hj', rfl⟩ := List.mem_iff_getElem.1 hx
    rw [hj j hj' hj']; exact Bool.false_ne_true
  | succ m ih =>
    intro i hm hi hj
    have hlt : i < l.length := by omega
    have g := iv_getD l i hlt
    have e2 : ((i + 1 : Nat) : Int) = IntKind.wrap .i64 ((i : Int) + 1) := by rw [w64 (by omega) (by omega)]; omega
    have hM := obMoved_SC q h1 h2
    rcases apS_in l[i] (hs _ (List.getElem_mem hlt)) (mvP q) (mvP_len q h1) (smalls_mvL (smalls_fxL q h1 h2)) ((List.length (ivL l) : Nat) : Int) (i : Int) (bs (txt q.1), bs (txt q.2)) (ivL l) (mvP q).length 0 rfl (by omega) (fun j h _ => absurd h (by omega)) with ⟨c, hi2⟩ | ⟨c, hi2⟩
    · refine .inl ⟨List.any_eq_true.2 ⟨l[i], List.getElem_mem hlt, c⟩, ?_⟩
      exact spec_AreApart_L0a_x1 _ _ _ _ _ _ _ (by rw [lL]; omega) (by omega) (by rw [lL]; omega) (by rw [lL]; omega) hM (by rw [Int.toNat_natCast, g]; exact hi2)
    · have step := fun (e : AEx) (st : St) => spec_AreApart_L0a_i2 ((List.length (ivL l) : Nat) : Int) (i : Int) (bs (txt q.1), bs (txt q.2)) (ivL l) _ _ _ _ _ _ _ _ _ _ (by rw [lL]; omega) (by omega) (by rw [lL]; omega) (by rw [lL]; omega) hM (by rw [Int.toNat_natCast, g]; exact hi2) (e := e) (st := st)
      rw [← e2] at step
      rcases ih (i + 1) (by omega) (by omega) (fun j h h' => by
        by_cases e : j = i
        · subst e; exact c
        · exact hj j (by omega) h') with ⟨h1, h2⟩ | ⟨h1, h2⟩
      · exact .inl ⟨h1, step _ _ h2⟩
      · exact .inr ⟨h1, step _ _ h2⟩

theorem specAA_SC (a b e f : List UInt8) (ha : a.length ≤ 2 ^ 40) (hb : b.length ≤ 2 ^ 40) (he : e.length ≤ 2 ^ 40) (hf : f.length ≤ 2 ^ 40) :
    SC cfg.P i_spec_AreApart [.s (.v (.pr .str .str) (bs a, bs b)), .s (.v (.pr .str .str) (bs e, bs f))] (.tup [.v .bool (apB a b e f), .v .bool (isPair a b && isPair e f)]) [] := by
  have g1 := prGood_SC a b ha hb
  have g2 := prGood_SC e f he hf
  unfold apB
  cases c1 : isPair a b
  · rw [c1] at g1
    exact spec_AreApart_p4 _ _ g1
  · rw [c1] at g1
    cases c2 : isPair e f
    · rw [c2] at g2
      exact spec_AreApart_p3 _ _ g1 g2
    · rw [c2] at g2
      obtain ⟨a1, a2, a3, a4, a5⟩ := isPair_trees c1
      obtain ⟨b1, b2, b3, b4, b5⟩ := isPair_trees c2
      have hM := obMoved_SC (treeOf a, treeOf b) a3 a5
      simp only [← a1, ← a2] at hM
      rcases apS_out (treeOf e, treeOf f) b3 b5 (mvP (treeOf a, treeOf b)) (mvP_len _ a3) (smalls_mvL (smalls_fxL _ a3 a5)) (mvP (treeOf a, treeOf b)).length 0 rfl (by omega) (fun j h _ => absurd h (by omega)) with ⟨c, hL⟩ | ⟨c, hL⟩
      · rw [c]
        simp only [← b1, ← b2] at hL
        exact spec_AreApart_p1 _ _ _ _ _ g1 g2 hM hL
      · rw [c]
        simp only [← b1, ← b2] at hL
        exact spec_AreApart_p2 _ _ _ _ _ _ _ _ g1 g2 hM hL

end Go.AI
end
