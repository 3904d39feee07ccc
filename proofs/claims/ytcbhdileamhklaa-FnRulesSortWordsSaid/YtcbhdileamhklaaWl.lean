/- The law of RulesSortWords. -/
import Derived.Test.YtcbhdileamhklaaWq
import Derived.Test.YtcbhdileamhklaaGL
import Derived.Test.YtcbhdileamhklaaAiH
set_option autoImplicit false
set_option maxRecDepth 100000
set_option linter.unusedVariables false
namespace Go.AI
open Go.Proofs

theorem nbeq (b : Bool) : (!(b == b)) = false := by simp

theorem npbeq (x : ByteArray × ByteArray) : (!(((x.1).toList == (x.1).toList) && ((x.2).toList == (x.2).toList))) = false := by
  rw [seq_t rfl, seq_t rfl]; rfl

/-! ### Draws -/

theorem cur0w {l : List Int} (h : ∀ x ∈ l, 0 ≤ x ∧ x ≤ 255) (hl : l.length ≤ 2 ^ 20) : CurOk 0 (l, ((0 : Int), (0 : Int))) := ⟨Int.le_refl _, Int.le_refl _, by show l.length ≤ _; omega, h⟩

theorem drawIW {l : List Int} (h : ∀ x ∈ l, 0 ≤ x ∧ x ≤ 255) (hl : l.length ≤ 2 ^ 20) : ∃ w : List Int, Drawn w ∧ w.length ≤ 2 ^ 10 ∧ SC cfg.P i_spec_DrawIsWord [.s (.v (.sl (.int .u8)) l)] (.s (.v (.sl (.int .i64)) w)) [] := by
  obtain ⟨w, c', d, hw, k, e⟩ := letters_SC (cur0w h hl) (by omega) 12 (by omega)
  exact ⟨w, d, hw, (spec_DrawIsWord_p1 _ _ _ e).view⟩

theorem drawDS {l : List Int} (h : ∀ x ∈ l, 0 ≤ x ∧ x ≤ 255) (hl : l.length ≤ 2 ^ 20) : ∃ w : List Int, w.length ≤ 2 ^ 10 ∧ SC cfg.P i_spec_DrawDropStep [.s (.v (.sl (.int .u8)) l)] (.s (.v (.sl (.int .i64)) w)) [] := by
  obtain ⟨w, c1, d, hw, k, e⟩ := letters_SC (cur0w h hl) (by omega) 8 (by omega)
  have g := wdGood_SC w (by omega)
  cases c : isWd w with
  | false => rw [c] at g; exact ⟨w, hw, spec_DrawDropStep_p4 _ _ _ e.view g⟩
  | true =>
    rw [c] at g
    obtain ⟨b, c2, k2, e2⟩ := one_SC k (by omega) 4 (by omega)
    cases b with
    | true => exact ⟨w, hw, spec_DrawDropStep_p1 _ _ _ _ e.view g e2⟩
    | false =>
      obtain ⟨s1, s2, s3, s4, s5, s6⟩ := srt_good_facts w c
      have g2 := wdGood_SC (srt [] w).1 (by omega)
      cases c3 : isWd (srt [] w).1 with
      | true => rw [c3] at g2; exact ⟨_, by omega, spec_DrawDropStep_p2 _ _ _ _ _ _ e.view g e2 (wdSort_SC w c) g2⟩
      | false => rw [c3] at g2; exact ⟨w, hw, spec_DrawDropStep_p3 _ _ _ _ _ _ e.view g e2 (wdSort_SC w c) g2⟩

theorem drawFR {l : List Int} (h : ∀ x ∈ l, 0 ≤ x ∧ x ≤ 255) (hl : l.length ≤ 2 ^ 20) : ∃ w : List Int, w.length ≤ 2 ^ 10 ∧ SC cfg.P i_spec_DrawFreeReduce [.s (.v (.sl (.int .u8)) l)] (.s (.v (.sl (.int .i64)) w)) [] := by
  obtain ⟨u, c1, l1, _, _, k1, e1⟩ := sureWord_SC (cur0w h hl) (by omega) 18 2 (by omega) (by omega) (by omega)
  obtain ⟨b, c2, k2, e2⟩ := one_SC k1 (by omega) 12 (by omega)
  cases b with
  | false => exact ⟨u, by omega, spec_DrawFreeReduce_p2 _ _ _ _ e1.view e2⟩
  | true =>
    obtain ⟨w, c3, d, hw, k3, e3⟩ := letters_SC k2 (by omega) 6 (by omega)
    exact ⟨w, hw, spec_DrawFreeReduce_p1 _ _ _ _ _ _ e1.view e2 e3.view⟩

/-! ### Backwards through the law -/

theorem rw33 (w : List Int) (hn : NI w) (hs : Al Sm w) (hl : w.length ≤ 2 ^ 20) (q : Bool) : RestSC cfg.P 2 (rest P_laws_FnRulesSortWords 33) (laws_FnRulesSortWords_C33a w q) .ret (laws_FnRulesSortWords_R1 true) := by
  have key : ∀ (m i : Nat), w.length - i = m → 1 ≤ i → ∃ k : Int, LoopSC cfg.P 2 (lb P_laws_FnRulesSortWords 1) (laws_FnRulesSortWords_L1a w (i : Int)) (.exit 2) (laws_FnRulesSortWords_L1X2 w k false) := by
    intro m
    induction m with
    | zero => intro i hm hi; exact ⟨_, laws_FnRulesSortWords_L1a_x3 _ _ (by omega)⟩
    | succ m ih =>
      intro i hm hi
      obtain ⟨k, hk⟩ := ih (i + 1) (by omega) (by omega)
      obtain ⟨j, rfl⟩ : ∃ j, i = j + 1 := ⟨i - 1, by omega⟩
      have hlt : j + 1 < w.length := by omega
      have w1 : IntKind.wrap .i64 (((j + 1 : Nat) : Int) - (1 : Int)) = (j : Int) := by rw [w64] <;> omega
      have ga : List.getD w ((j : Int)).toNat (0 : Int) = w[j] := by
        rw [Int.toNat_natCast, List.getD_eq_getElem?_getD, List.getElem?_eq_getElem (by omega)]; rfl
      have gb : List.getD w (((j + 1 : Nat) : Int)).toNat (0 : Int) = w[j + 1] := by
        rw [Int.toNat_natCast, List.getD_eq_getElem?_getD, List.getElem?_eq_getElem hlt]; rfl
      obtain ⟨wn, _, _⟩ := neg_w (hs w[j] (List.getElem_mem _))
      rw [← wrap_succ (by omega)] at hk
      exact ⟨k, laws_FnRulesSortWords_L1a_i2 _ _ (by omega) (by omega) (by omega) (by rw [w1]; omega) (by rw [w1]; omega) (by rw [w1, ga, gb, wn]; exact hn j hlt) hk⟩
  obtain ⟨k, hk⟩ := key _ 1 rfl (by omega)
  exact laws_FnRulesSortWords_C33a_i2 _ _ _ _ _ hk (laws_FnRulesSortWords_C35a_x1 _ _ _)

theorem rw28 {l : List Int} (h : ∀ x ∈ l, 0 ≤ x ∧ x ≤ 255) (hl : l.length ≤ 2 ^ 20) : (∀ q, RestSC cfg.P 2 (rest P_laws_FnRulesSortWords 28) (laws_FnRulesSortWords_C28a l q) .ret (laws_FnRulesSortWords_R1 true)) ∧ (∀ a b q, RestSC cfg.P 2 (rest P_laws_FnRulesSortWords 28) (laws_FnRulesSortWords_C28b l a b q) .ret (laws_FnRulesSortWords_R1 true)) := by
  obtain ⟨w, hw, s⟩ := drawFR h hl
  have e1 := implFR_SC w (by omega)
  have e2 := specFR_SC w (by omega)
  have hlen : (frV w).length ≤ 2 ^ 10 := by
    unfold frV
    split
    · have := fr_len w []; simp at this; omega
    · simp
  have hni : NI (frV w) := by
    unfold frV
    split
    · exact fr_NI w [] fun i hi => by simp at hi
    · exact fun i hi => by simp at hi
  have hsm : Al Sm (frV w) := by
    unfold frV
    split
    · rename_i c
      intro x hx
      rcases fr_mem w [] x hx with h | h
      · cases h
      · exact gd_sm ((isWd_iff w).1 c).2.2 x h
    · exact .nil
  exact ⟨fun q => laws_FnRulesSortWords_C28a_i1 _ _ _ _ _ _ _ s e1 e2 (nbeq _) (nSame_SC _ (by omega)) (rw33 _ hni hsm (by omega) _),
    fun a b q => laws_FnRulesSortWords_C28b_i1 _ _ _ _ _ _ _ _ _ s e1 e2 (nbeq _) (nSame_SC _ (by omega)) (rw33 _ hni hsm (by omega) _)⟩

theorem rw26 {l : List Int} (h : ∀ x ∈ l, 0 ≤ x ∧ x ≤ 255) (hl : l.length ≤ 2 ^ 20) (v : List Int) (hv : v.length ≤ 2 ^ 10) (q : Bool) : RestSC cfg.P 2 (rest P_laws_FnRulesSortWords 26) (laws_FnRulesSortWords_C26a l v (dsV v) (dsB v) q) .ret (laws_FnRulesSortWords_R1 true) := by
  obtain ⟨k1, k2⟩ := rw28 h hl
  cases c : dsB v with
  | false => exact laws_FnRulesSortWords_C26a_i4 _ _ _ _ (k2 _ _ _)
  | true =>
    have c' := c
    unfold dsB at c'
    simp only [Bool.and_eq_true, Bool.not_eq_true', decide_eq_true_eq] at c'
    obtain ⟨⟨c1, c2⟩, c3⟩ := c'
    obtain ⟨h1, h2, h3⟩ := (isWd_iff v).1 c1
    have so := So_of' c2
    have ed : dsV v = dstep v := by unfold dsV; rw [if_pos c]
    obtain ⟨f1, f2, f3, f4⟩ := dstep_facts so h2 h3 c3
    rw [ed]
    have p1 := implPww_SC v (by omega)
    have p2 := implPww_SC (dstep v) (by omega)
    have w2 : IntKind.wrap .i64 (((List.length v : Nat) : Int) - (2 : Int)) = ((List.length v : Nat) : Int) - 2 := by rw [w64] <;> omega
    have hlen : ((List.length (dstep v) : Nat) : Int) = IntKind.wrap .i64 (((List.length v : Nat) : Int) - (2 : Int)) := by rw [w2]; omega
    cases b1 : pwwB v with
    | false => rw [b1] at p1; exact laws_FnRulesSortWords_C26a_i3 _ _ _ _ _ _ _ p1 p2 hlen (k1 _)
    | true =>
      rw [b1] at p1
      cases b2 : pwwB (dstep v) with
      | false => rw [b2] at p2; exact laws_FnRulesSortWords_C26a_i2 _ _ _ _ _ _ p1 p2 hlen (k1 _)
      | true =>
        rw [b2] at p2
        obtain ⟨A, M, C, d⟩ := dec_dp so h2 c3
        have e := pww_same v (dstep v) b1 b2 fun lv _ s => by rw [dstep_eq d]; exact ev_dec d lv s
        rw [← e] at p2
        exact laws_FnRulesSortWords_C26a_i1 _ _ _ _ _ _ p1 p2 (npbeq _) hlen (k1 _)

theorem dsV_len (v : List Int) (hv : v.length ≤ 2 ^ 10) : (dsV v).length ≤ 2 ^ 10 := by
  unfold dsV
  split
  · rename_i c
    have c' := c
    unfold dsB at c'
    simp only [Bool.and_eq_true, Bool.not_eq_true', decide_eq_true_eq] at c'
    obtain ⟨⟨c1, c2⟩, c3⟩ := c'
    obtain ⟨h1, h2, h3⟩ := (isWd_iff v).1 c1
    have := (dstep_facts (So_of' c2) h2 h3 c3).2.2.2
    omega
  · simp

theorem rw21 {l : List Int} (h : ∀ x ∈ l, 0 ≤ x ∧ x ≤ 255) (hl : l.length ≤ 2 ^ 20) : (∀ q, RestSC cfg.P 2 (rest P_laws_FnRulesSortWords 21) (laws_FnRulesSortWords_C21a l q) .ret (laws_FnRulesSortWords_R1 true)) ∧ (∀ a b q, RestSC cfg.P 2 (rest P_laws_FnRulesSortWords 21) (laws_FnRulesSortWords_C21b l a b q) .ret (laws_FnRulesSortWords_R1 true)) := by
  obtain ⟨v, hv, s⟩ := drawDS h hl
  have e1 := implDS_SC v (by omega)
  have e2 := specDS_SC v (by omega)
  have hlen := dsV_len v hv
  exact ⟨fun q => laws_FnRulesSortWords_C21a_i1 _ _ _ _ _ _ _ s e1 e2 (nbeq _) (nSame_SC _ (by omega)) (rw26 h hl v hv _),
    fun a b q => laws_FnRulesSortWords_C21b_i1 _ _ _ _ _ _ _ _ _ s e1 e2 (nbeq _) (nSame_SC _ (by omega)) (rw26 h hl v hv _)⟩

theorem rs_facts {u : List Int} (h : rsB u = true) : isWd u = true ∧ st u = some (rsV u) ∧ isWd (rsV u) = true := by
  unfold rsB at h
  unfold rsV
  cases c : rsO u with
  | none => rw [c] at h; cases h
  | some v =>
    unfold rsO at c
    split at c
    · rename_i hw
      split at c
      · rename_i v' hs
        split at c
        · rename_i hv
          simp only [Option.some.injEq] at c
          subst c
          exact ⟨hw, hs, hv⟩
        · cases c
      · cases c
    · cases c

theorem rsV_len (u : List Int) (hu : u.length ≤ 2 ^ 10) : (rsV u).length ≤ 2 ^ 10 := by
  cases h : rsB u with
  | true => have := ((isWd_iff _).1 (rs_facts h).2.2).1; omega
  | false =>
    unfold rsB at h
    unfold rsV
    cases c : rsO u with
    | none => simp
    | some v => rw [c] at h; cases h

theorem rw19 {l : List Int} (h : ∀ x ∈ l, 0 ≤ x ∧ x ≤ 255) (hl : l.length ≤ 2 ^ 20) (u : List Int) (hu : u.length ≤ 2 ^ 10) (q : Bool) : RestSC cfg.P 2 (rest P_laws_FnRulesSortWords 19) (laws_FnRulesSortWords_C19a l u (rsV u) (rsB u) q) .ret (laws_FnRulesSortWords_R1 true) := by
  obtain ⟨k1, k2⟩ := rw21 h hl
  have hlen := rsV_len u hu
  cases c : rsB u with
  | false => exact laws_FnRulesSortWords_C19a_i4 _ _ _ _ (k2 _ _ _)
  | true =>
    obtain ⟨f1, f2, f3⟩ := rs_facts c
    have p1 := implPww_SC u (by omega)
    have p2 := implPww_SC (rsV u) (by omega)
    cases b1 : pwwB u with
    | false => rw [b1] at p1; exact laws_FnRulesSortWords_C19a_i3 _ _ _ _ _ _ _ p1 p2 (k1 _)
    | true =>
      rw [b1] at p1
      cases b2 : pwwB (rsV u) with
      | false => rw [b2] at p2; exact laws_FnRulesSortWords_C19a_i2 _ _ _ _ _ _ p1 p2 (k1 _)
      | true =>
        rw [b2] at p2
        have e := pww_same u (rsV u) b1 b2 fun lu lv s => ev_st u (rsV u) f2 lu lv s
        rw [← e] at p2
        exact laws_FnRulesSortWords_C19a_i1 _ _ _ _ _ _ p1 p2 (npbeq _) (k1 _)

theorem rw14 {l : List Int} (h : ∀ x ∈ l, 0 ≤ x ∧ x ≤ 255) (hl : l.length ≤ 2 ^ 20) : (∀ q, RestSC cfg.P 2 (rest P_laws_FnRulesSortWords 14) (laws_FnRulesSortWords_C14a l q) .ret (laws_FnRulesSortWords_R1 true)) ∧ (∀ a b k c q, RestSC cfg.P 2 (rest P_laws_FnRulesSortWords 14) (laws_FnRulesSortWords_C14b l a b k c q) .ret (laws_FnRulesSortWords_R1 true)) := by
  obtain ⟨u, d, hu, s⟩ := drawIW h hl
  have e1 := implRS_SC u (by omega)
  have e2 := specRS_SC u (by omega)
  have hlen := rsV_len u hu
  have sD := spec_DrawRuleStep_p1 _ _ s
  exact ⟨fun q => laws_FnRulesSortWords_C14a_i1 _ _ _ _ _ _ _ sD e1 e2 (nbeq _) (nSame_SC _ (by omega)) (rw19 h hl u hu _),
    fun a b k c q => laws_FnRulesSortWords_C14b_i1 _ _ _ _ _ _ _ _ _ _ _ sD e1 e2 (nbeq _) (nSame_SC _ (by omega)) (rw19 h hl u hu _)⟩

/-- A sorted word's normal word. -/
theorem implNB_sorted (v : List Int) (hs : So v) (nz : Al Nz v) (hg : Al Gd v) (hl : v.length ≤ 20) : SC cfg.P i_impl_NormalByRules [.s (.v (.sl (.int .i64)) v)] (.tup [.v (.sl (.int .i64)) (nor v), .v .bool true]) [] := by
  have hw := isWord_SC v (by omega)
  rw [(isWd_iff v).2 ⟨hl, nz, hg⟩] at hw
  have hsort := impl_sort_p2 _ _ _ _ _ hw (slices_Clone_SC v (by omega)).view (sort_good_L (.refl v) 0 nz hl hs hg (by omega))
  exact impl_NormalByRules_p1 _ _ _ _ _ _ _ hsort (droppable_SC _ (by omega)) (inorm_L _ _ (Nat.le_refl _) (by omega) hs nz hg)

theorem now_L (x1 x5 x6 x14 : List Int) (N : Nat) (hN : N ≤ 2 ^ 30) {w v : List Int} {n : Nat} (h : Steps (Al Gd) w n v) : ∀ (k : Nat), k + n = N → Al Nz w → w.length ≤ 20 → Al Gd v →
    LoopSC cfg.P 2 (lb P_laws_FnRulesSortWords 0) (laws_FnRulesSortWords_L0a x1 x5 x6 (N : Int) x14 w true (k : Int)) (.exit 0) (laws_FnRulesSortWords_L0X1 x1 x5 x6 (N : Int) x14 v true (N : Int) false) := by
  induction h with
  | refl w =>
    intro k hk nz hl hg
    have : k = N := by omega
    subst this
    exact laws_FnRulesSortWords_L0a_x3 _ _ _ _ _ _ _ _ (by omega)
  | step p s h' ih =>
    intro k hk nz hl hg
    rename_i w v u n
    obtain ⟨f1, f2⟩ := st_facts w v s nz
    have gv : Al Gd v := by
      cases h' with
      | refl => exact hg
      | step p' _ _ => exact p'
    have wW := (isWd_iff w).2 ⟨hl, nz, p⟩
    have vW := (isWd_iff v).2 ⟨by omega, f1, gv⟩
    have e := implRS_SC w (by omega)
    have eO : rsO w = some v := by unfold rsO; rw [if_pos wW, s]; simp only; rw [if_pos vW]
    have eB : rsB w = true := by unfold rsB; rw [eO]; rfl
    have eV : rsV w = v := by unfold rsV; rw [eO]; rfl
    rw [eB, eV] at e
    have i := ih (k + 1) (by omega) f1 (by omega) hg
    rw [← wrap_succ (by omega)] at i
    exact laws_FnRulesSortWords_L0a_i1 _ _ _ _ _ _ _ _ _ (by omega) e i

theorem rw3 {x0 x1 : List Int} (h0 : ∀ x ∈ x0, 0 ≤ x ∧ x ≤ 255) (h1 : ∀ x ∈ x1, 0 ≤ x ∧ x ≤ 255) (l0 : x0.length ≤ 2 ^ 20) (l1 : x1.length ≤ 2 ^ 20) (q : Bool) :
    RestSC cfg.P 2 (rest P_laws_FnRulesSortWords 3) (laws_FnRulesSortWords_C3a x0 x1 q) .ret (laws_FnRulesSortWords_R1 true) := by
  obtain ⟨w, d, hw, s⟩ := drawIW h0 l0
  obtain ⟨k1, k2⟩ := rw14 h1 l1
  have sD := spec_DrawSortedWord_p1 _ _ s
  have a1 := implSorted_SC w (by omega) fun _ => d
  have a2 := specSorted_SC w (by omega)
  have a3 := implSteps_SC w (by omega) fun _ => d
  have a4 := specSteps_SC w (by omega)
  have a5 := implNB_SC w (by omega) fun _ => d
  have a6 := specNB_SC w (by omega)
  have lS : (soV w).length ≤ 2 ^ 10 := by
    unfold soV
    split
    · rename_i c; obtain ⟨_, _, _, _, m5, _⟩ := soB_facts c; omega
    · simp
  have lN : (nbV w).length ≤ 2 ^ 10 := by
    unfold nbV
    split
    · rename_i c
      obtain ⟨_, m2, m3, m4, m5, _⟩ := soB_facts c
      have := (nf_facts _ _ (Nat.le_refl _) m2 m3 m4).2.2.2.2.1
      unfold nor
      omega
    · simp
  refine laws_FnRulesSortWords_C3a_i1 _ _ _ _ _ _ _ _ _ _ _ _ _ _ _ _ sD a1 a2 a3 a4 a5 a6 (nbeq _) (nSame_SC _ (by omega)) (nbeq _) rfl (nbeq _) (nSame_SC _ (by omega)) (nbeq _) (nbeq _) ?_
  cases c : soB w with
  | false => exact laws_FnRulesSortWords_C12a_i3 _ _ _ _ _ _ (k2 _ _ _ _ _)
  | true =>
    obtain ⟨m1, m2, m3, m4, m5, m6⟩ := soB_facts c
    obtain ⟨_, n2, n3⟩ := (isWd_iff w).1 m1
    have eS : soV w = (srt [] w).1 := by unfold soV; rw [if_pos c]
    have eN : soN w = ((srt [] w).2 : Int) := by unfold soN; rw [if_pos c]
    have eB : nbV w = nor (srt [] w).1 := by unfold nbV; rw [if_pos c]
    obtain ⟨_, _, _, _, _, hN⟩ := srt_good_facts w m1
    rw [eS, eN, eB]
    have r1 := implRS_SC (srt [] w).1 (by omega)
    have rO : rsO (srt [] w).1 = none := by
      unfold rsO
      rw [st_none m2]
      simp
    have rB : rsB (srt [] w).1 = false := by unfold rsB; rw [rO]; rfl
    rw [rB] at r1
    have r2 := implNB_sorted (srt [] w).1 m2 m3 m4 (by omega)
    have st := drawn_steps w d n2 n3 m4
    have r4 := now_L x1 w (srt [] w).1 (nor (srt [] w).1) (srt [] w).2 (by omega) st 0 (by omega) n2 m6 m4
    obtain ⟨q1, q2, q3, q4, q5, q6⟩ := nf_facts _ _ (Nat.le_refl _) m2 m3 m4
    obtain ⟨t1, t2⟩ := steps_sums st n2
    have r6 := sums_SC w m1
    have hnl : (nor (srt [] w).1).length ≤ (srt [] w).1.length := q5
    have r7 := sums_SC (nor (srt [] w).1) ((isWd_iff _).2 ⟨by omega, q3, q4⟩)
    have u1 : s1 w = s1 (nor (srt [] w).1) := by rw [← t1]; exact q1.symm
    have u2 : s2 w = s2 (nor (srt [] w).1) := by rw [← t2]; exact q2.symm
    exact laws_FnRulesSortWords_C12a_i1 _ _ _ _ _ _ _ _ _ _ _ _ _ _ _ _ _ _ _ _ r1 r2 (nSame_SC _ (by omega)) r4 (nSame_SC _ (by omega)) r6 r7 u1 u2 (by omega) (k1 _)

/-- The law of RulesSortWords. -/
theorem law_Rs (a b : List Int) (_ha : a.length ≤ 2 ^ 63 - 1) (h1 : ∀ n ∈ a, (Lit.int .u8 n).wf = true) (_hb : b.length ≤ 2 ^ 63 - 1) (h2 : ∀ n ∈ b, (Lit.int .u8 n).wf = true) :
    SC cfg.P i_laws_FnRulesSortWords [.s (.v (.sl (.int .u8)) a), .s (.v (.sl (.int .u8)) b)] (.s (.v .bool true)) [] := by
  by_cases g1 : a.length ≤ 1048576
  · have w : IntKind.wrap .i64 (1048576 - ((a.length : Nat) : Int)) = 1048576 - ((a.length : Nat) : Int) := by rw [w64] <;> omega
    by_cases g2 : a.length + b.length ≤ 1048576
    · have hbig : SC cfg.P i_laws_big [.s (.v (.sl (.int .u8)) a), .s (.v (.sl (.int .u8)) b)] (.s (.v .bool false)) [] := laws_big_p3 _ _ (by omega) (by rw [w]; omega)
      exact laws_FnRulesSortWords_R1_of _ _ _ (laws_FnRulesSortWords_C0a_i2 _ _ hbig (rw3 (fun x hx => byte_wf (h1 x hx)) (fun x hx => byte_wf (h2 x hx)) (by omega) (by omega) _))
    · exact laws_FnRulesSortWords_R1_of _ _ _ (laws_FnRulesSortWords_C0a_x1 _ _ (laws_big_p2 _ _ (by omega) (by rw [w]; omega)))
  · exact laws_FnRulesSortWords_R1_of _ _ _ (laws_FnRulesSortWords_C0a_x1 _ _ (laws_big_p1 _ _ (by omega)))

end Go.AI
