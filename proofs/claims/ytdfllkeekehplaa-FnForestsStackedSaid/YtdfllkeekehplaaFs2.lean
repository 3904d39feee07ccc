/- The law of ForestsStacked. -/
import Derived.Test.YtdfllkeekehplaaFs1
set_option autoImplicit false
set_option maxRecDepth 100000
set_option linter.unusedVariables false
namespace Go.AI
open Go.Proofs

/-- A forest that may be. -/
structure Gd (ts : List Tr) : Prop where
  tr : trim ts = ts
  len : ts.length ≤ 8
  sum : sumC ts ≤ 8

def tx (ts : List Tr) : List (List UInt8) := ts.map txt

theorem Gd.c {ts : List Tr} (h : Gd ts) : ∀ t ∈ ts, t.c ≤ 8 := fun t ht => Nat.le_trans (c_le_sum ts t ht) h.sum

theorem Gd.fo {ts : List Tr} (h : Gd ts) : isFo (tx ts) = true := by
  unfold tx; rw [isFo_trees ts h.tr]; exact decide_eq_true ⟨h.len, h.sum⟩

theorem Gd.trees {ts : List Tr} (h : Gd ts) : treesOf (tx ts) = ts := by
  unfold treesOf tx
  rw [List.map_map]
  conv => rhs; rw [← List.map_id ts]
  exact List.map_congr_left fun t ht => (treeOf_txt' t (h.c t ht)).2

theorem Gd.row {ts : List Tr} (h : Gd ts) : Row (tx ts) :=
  ⟨by unfold tx; rw [List.length_map]; have := h.len; omega, fun l hl => by
    obtain ⟨t, ht, rfl⟩ := List.mem_map.1 hl
    have := h.c t ht
    rw [txt_len]; omega⟩

theorem gd_of {fs : List (List UInt8)} (h : isFo fs = true) : ∃ ts, Gd ts ∧ fs = tx ts := by
  obtain ⟨e, l1, l2, l3⟩ := fo_facts2 h
  exact ⟨treesOf fs, ⟨l3, l1, l2⟩, e⟩

theorem tx_inj {A B : List Tr} : tx A = tx B ↔ A = B :=
  ⟨fun h => (List.map_inj_right (fun x y hxy => txt_inj' hxy)).1 h, fun h => by rw [h]⟩

theorem foT_of {X S : List Tr} (h : Gd S) (e : ∀ i, X.getD i .leaf = S.getD i .leaf) : foTexts X = tx S ∧ foOk X = true := by
  have e1 : trim X = S := by rw [trim_ext X S e, h.tr]
  have e2 : sumC X = sumC S := by rw [← trim_sumC X, e1]
  unfold foTexts foOk
  have := h.len
  have := h.sum
  rw [e1, e2, if_pos ⟨h.len, h.sum⟩]
  exact ⟨rfl, decide_eq_true ⟨h.len, h.sum⟩⟩

theorem foT_ex {X : List Tr} (h : foOk X = true) : ∃ S, Gd S ∧ (∀ i, S.getD i .leaf = X.getD i .leaf) ∧ foTexts X = tx S := by
  have h' := of_decide_eq_true h
  have g : Gd (trim X) := ⟨trim_trim X, h'.1, by rw [trim_sumC]; exact h'.2⟩
  exact ⟨trim X, g, fun i => trim_getD X i, (foT_of g fun i => (trim_getD X i).symm).1⟩

theorem foT_no {X : List Tr} (h : foOk X = false) : foTexts X = [] := by
  unfold foTexts; rw [if_neg]; exact of_decide_eq_false h

/-! ### Contracts over forests that may be -/

section
variable {F G : List Tr}

theorem gstack_SC (hF : Gd F) (hG : Gd G) : SC cfg.P i_impl_StackForests [.s (.v (.sl .str) (txs (tx F))), .s (.v (.sl .str) (txs (tx G)))] (.tup [.own t_string .str (txs (foTexts (stackL F G))), .v .bool (foOk (stackL F G))]) [] := by
  have r := implStack_SC (tx F) (tx G) hF.row.tx (by have := hF.row.len; omega) hG.row.tx (by have := hG.row.len; omega)
  rw [stackV, stackB, hF.fo, hG.fo, hF.trees, hG.trees] at r
  exact r

theorem gpart_SC (hF : Gd F) (hG : Gd G) : SC cfg.P i_impl_IsPartOfForest [.s (.v (.sl .str) (txs (tx F))), .s (.v (.sl .str) (txs (tx G)))] (.tup [.v .bool (fpart F G), .v .bool true]) [] := by
  obtain ⟨ts, us, h1, h2⟩ := twoForests_SC (tx F) (tx G) hF.row.tx (by have := hF.row.len; omega) hG.row.tx (by have := hG.row.len; omega)
  obtain ⟨rfl, rfl⟩ := h1 ⟨hF.fo, hG.fo⟩
  rw [hF.fo, hG.fo, hF.trees, hG.trees] at h2
  exact impl_IsPartOfForest_p1 _ _ _ _ _ h2 (isPartOf_SC F G (by have := hF.len; omega))

theorem gcount_SC (hF : Gd F) : SC cfg.P i_impl_CountForestCarets [.s (.v (.sl .str) (txs (tx F)))] (.tup [.v (.int .i64) ((sumC F : Nat) : Int), .v .bool true]) [] := by
  obtain ⟨ts, h1, h2⟩ := forestOf_SC (tx F) hF.row.tx (by have := hF.row.len; omega)
  have e := h1 hF.fo
  subst e
  rw [hF.fo, hF.trees] at h2
  exact impl_CountForestCarets_p1 _ _ _ h2 (fcarets_SC F (by have := hF.len; omega) (fun t ht => by have := hF.c t ht; omega))

theorem gpair_SC (hF : Gd F) : SC cfg.P i_impl_PairOfForest [.s (.v (.sl .str) (txs (tx F)))] (.tup [.v (.pr .str .str) (fitV (fpP F)), .v .bool (decide ((fpP F).1.c ≤ 8))]) [] := by
  obtain ⟨ts, h1, h2⟩ := forestOf_SC (tx F) hF.row.tx (by have := hF.row.len; omega)
  have e := h1 hF.fo
  subst e
  rw [hF.fo, hF.trees] at h2
  have hc := fp_c F
  have hq := fp_eqc F
  have := hF.len
  have := hF.sum
  exact impl_PairOfForest_p1 _ _ _ _ _ h2 (fpair_SC _ (by omega) (by omega) hF.tr) (fits_SC _ (by omega) (by omega))

theorem gquo_SC (hF : Gd F) (hG : Gd G) (hp : fpart F G = true) : SC cfg.P i_impl_LeftQuotient [.s (.v (.sl .str) (txs (tx F))), .s (.v (.sl .str) (txs (tx G)))] (.tup [.own t_string .str (txs (foTexts (quoL F G))), .v .bool (foOk (quoL F G))]) [] := by
  have r := implQuo_SC (tx F) (tx G) hF.row.tx (by have := hF.row.len; omega) hG.row.tx (by have := hG.row.len; omega)
  rw [quoV, quoB, quoG, hF.fo, hG.fo, hF.trees, hG.trees, hp] at r
  exact r

end

theorem two_big (p q : Tr × Tr) (hp : p.1.c = p.2.c ∧ p.1.c ≤ 8) (hq : q.1.c = q.2.c ∧ q.1.c ≤ 8) : SC cfg.P i_impl_ProductPair [.s (.v (.pr .str .str) (pt p)), .s (.v (.pr .str .str) (pt q))] (.tup [.v (.pr .str .str) (fitV (timesT p q)), .v .bool (decide ((timesT p q).1.c ≤ 8))]) [] := by
  have l1 := txt_len p.1
  have l2 := txt_len p.2
  have l3 := txt_len q.1
  have l4 := txt_len q.2
  have b1 : isPair (txt p.1) (txt p.2) = true := by rw [isPair_txt p hp.1]; exact decide_eq_true hp.2
  have b2 : isPair (txt q.1) (txt q.2) = true := by rw [isPair_txt q hq.1]; exact decide_eq_true hq.2
  have r := two_SC (txt p.1) (txt p.2) (txt q.1) (txt q.2) (by omega) (by omega) (by omega) (by omega)
  obtain ⟨x1, x2, _⟩ := isPair_trees b1
  obtain ⟨y1, y2, _⟩ := isPair_trees b2
  rw [twoB, b1, b2, ← txt_inj' x1, ← txt_inj' x2, ← txt_inj' y1, ← txt_inj' y2] at r
  have hc := raw_c p q hp.1
  have he := times_eqc p q hp.1 hq.1
  exact impl_ProductPair_p1 _ _ _ _ _ _ _ r (times_SC p q hp.1 hq.1 (by omega) (by omega)) (fits_SC _ (by omega) (by omega))

theorem pbeq (x : ByteArray × ByteArray) : (!(((x.1).toList == (x.1).toList) && ((x.2).toList == (x.2).toList))) = false := by simp

/-! ### Draws -/

theorem drawSt {l : List Int} (h : Bytes l) (hl : l.length ≤ 2 ^ 40) : ∃ fs gs, Row fs ∧ Row gs ∧ SC cfg.P i_spec_DrawStackForests [.s (.v (.sl (.int .u8)) l)] (.tup [.own t_string .str (txs fs), .own t_string .str (txs gs)]) [] := by
  obtain ⟨fs, c1, r1, h1, s1⟩ := forest_SC (cur0 h hl) (by omega) 4 (by omega)
  obtain ⟨gs, c2, r2, h2, s2⟩ := forest_SC h1 (by omega) 4 (by omega)
  exact ⟨fs, gs, r1, r2, spec_DrawStackForests_p1 _ _ _ _ _ s1 s2⟩

theorem row_foT (X : List Tr) : Row (foTexts X) := by
  cases h : foOk X with
  | true => obtain ⟨S, g, _, e⟩ := foT_ex h; rw [e]; exact g.row
  | false => rw [foT_no h]; exact ⟨by simp, by simp⟩

theorem row_tx {ts : List Tr} (hl : ts.length ≤ 10) (hc : ∀ t ∈ ts, t.c ≤ 3) : Row ((trim ts).map txt) := row_trees hl fun t ht => by have := hc t ht; omega

theorem drawLQ {l : List Int} (h : Bytes l) (hl : l.length ≤ 2 ^ 40) : ∃ fs gs, Row fs ∧ Row gs ∧ SC cfg.P i_spec_DrawLeftQuotient [.s (.v (.sl (.int .u8)) l)] (.tup [.own t_string .str (txs fs), .own t_string .str (txs gs)]) [] := by
  suffices hh : ∃ fs gs c', Row fs ∧ Row gs ∧ SC cfg.P i_spec_l1Cur_forests [.s (.mbx CurK (l, ((0 : Int), (0 : Int))))] (.tup [.own t_string .str (txs fs), .own t_string .str (txs gs)]) [.box CurK c'] by
    obtain ⟨fs, gs, c', r1, r2, s⟩ := hh
    exact ⟨fs, gs, r1, r2, spec_DrawLeftQuotient_p1 _ _ _ (spec_DrawIsPartOfForest_p1 _ _ _ _ s)⟩
  obtain ⟨fs, c1, r1, h1, s1⟩ := forest_SC (cur0 h hl) (by omega) 3 (by omega)
  have g1 := foGood_SC fs r1.tx (by have := r1.len; omega)
  cases hf : isFo fs with
  | false =>
    rw [hf] at g1
    obtain ⟨gs, c2, r2, h2, s2⟩ := forest_SC h1 (by omega) 4 (by omega)
    exact ⟨fs, gs, c2, r1, r2, spec_l1Cur_forests_p4 _ _ _ _ _ s1 g1 s2⟩
  | true =>
    rw [hf] at g1
    obtain ⟨b, c2, h2, s2⟩ := one_SC h1 (by omega) 2 (by omega)
    cases b with
    | false =>
      obtain ⟨gs, c3, r2, h3, s3⟩ := forest_SC h2 (by omega) 4 (by omega)
      exact ⟨fs, gs, c3, r1, r2, spec_l1Cur_forests_p3 _ _ _ _ _ _ s1 g1 s2 s3⟩
    | true =>
      obtain ⟨ts, c3, hts, h3, s3⟩ := sureFo_SC h2 (by omega) 4 (by omega)
      have r3 := row_tx hts.1 hts.2
      have s4 := specStack_SC fs ((trim ts).map txt) r1.tx (by have := r1.len; omega) r3.tx (by have := r3.len; omega)
      cases hb : stackB fs ((trim ts).map txt) with
      | true =>
        rw [hb] at s4
        refine ⟨fs, stackV fs ((trim ts).map txt), c3, r1, ?_, spec_l1Cur_forests_p1 _ _ _ _ _ _ _ s1 g1 s2 s3 s4⟩
        unfold stackV
        split
        · exact row_foT _
        · exact ⟨by simp, by simp⟩
      | false =>
        rw [hb] at s4
        obtain ⟨gs, c4, r2, h4, s5⟩ := forest_SC h3 (by omega) 4 (by omega)
        exact ⟨fs, gs, c4, r1, r2, spec_l1Cur_forests_p2 _ _ _ _ _ _ _ _ _ s1 g1 s2 s3 s4 s5⟩

/-! ### The second part of the law -/

/-- What the second part's tests are told. -/
structure Sec (hs ks : List (List UInt8)) where
  q : List (List UInt8)
  j : List (List UInt8)
  c : List (List UInt8)
  one : Bool
  part : Bool
  three : Bool
  five : Bool
  h1 : SC cfg.P i_impl_LeftQuotient [.s (.v (.sl .str) (txs hs)), .s (.v (.sl .str) (txs ks))] (.tup [.own t_string .str (txs q), .v .bool one]) []
  h2 : SC cfg.P i_spec_LeftQuotient [.s (.v (.sl .str) (txs hs)), .s (.v (.sl .str) (txs ks))] (.tup [.own t_string .str (txs q), .v .bool one]) []
  h3 : SC cfg.P i_impl_IsPartOfForest [.s (.v (.sl .str) (txs hs)), .s (.v (.sl .str) (txs ks))] (.tup [.v .bool part, .v .bool three]) []
  h4 : SC cfg.P i_spec_IsPartOfForest [.s (.v (.sl .str) (txs hs)), .s (.v (.sl .str) (txs ks))] (.tup [.v .bool part, .v .bool three]) []
  h5 : SC cfg.P i_impl_JoinForests [.s (.v (.sl .str) (txs hs)), .s (.v (.sl .str) (txs ks))] (.tup [.own t_string .str (txs j), .v .bool five]) []
  h6 : SC cfg.P i_spec_JoinForests [.s (.v (.sl .str) (txs hs)), .s (.v (.sl .str) (txs ks))] (.tup [.own t_string .str (txs j), .v .bool five]) []
  h7 : SC cfg.P i_impl_CommonForest [.s (.v (.sl .str) (txs hs)), .s (.v (.sl .str) (txs ks))] (.tup [.own t_string .str (txs c), .v .bool three]) []
  h8 : SC cfg.P i_spec_CommonForest [.s (.v (.sl .str) (txs hs)), .s (.v (.sl .str) (txs ks))] (.tup [.own t_string .str (txs c), .v .bool three]) []
  l : q.length ≤ 2 ^ 20 ∧ j.length ≤ 2 ^ 20 ∧ c.length ≤ 2 ^ 20
  o1 : one = true → part = true ∧ three = true ∧ SC cfg.P i_impl_StackForests [.s (.v (.sl .str) (txs hs)), .s (.v (.sl .str) (txs q))] (.tup [.own t_string .str (txs ks), .v .bool true]) []
  t1 : three = true → SC cfg.P i_impl_IsPartOfForest [.s (.v (.sl .str) (txs c)), .s (.v (.sl .str) (txs hs))] (.tup [.v .bool true, .v .bool true]) [] ∧
    SC cfg.P i_impl_IsPartOfForest [.s (.v (.sl .str) (txs c)), .s (.v (.sl .str) (txs ks))] (.tup [.v .bool true, .v .bool true]) [] ∧ (five = true → part = decide (txs j = txs ks)) ∧ (five = false → part = false) ∧ part = decide (txs c = txs hs)
  f1 : five = true → SC cfg.P i_impl_IsPartOfForest [.s (.v (.sl .str) (txs hs)), .s (.v (.sl .str) (txs j))] (.tup [.v .bool true, .v .bool true]) [] ∧
    SC cfg.P i_impl_IsPartOfForest [.s (.v (.sl .str) (txs ks)), .s (.v (.sl .str) (txs j))] (.tup [.v .bool true, .v .bool true]) []

theorem txs_eq {A B : List Tr} : txs (tx A) = txs (tx B) ↔ A = B := ⟨fun h => tx_inj.1 (txs_inj h), fun h => by rw [h]⟩

theorem com_iff {F K C : List Tr} (hF : Gd F) (hC : Gd C) (e : ∀ i, C.getD i .leaf = comT (F.getD i .leaf) (K.getD i .leaf)) : C = F ↔ fpart F K = true := by
  rw [fpart_iff]
  constructor
  · intro h i
    have := e i
    rw [h] at this
    exact (com_eq _ _).1 this.symm
  · intro h
    have : trim C = trim F := trim_ext _ _ fun i => by rw [e i, (com_eq _ _).2 (h i)]
    rw [hC.tr, hF.tr] at this
    exact this

theorem join_iff {F K J : List Tr} (hK : Gd K) (hJ : Gd J) (e : ∀ i, J.getD i .leaf = joiT (F.getD i .leaf) (K.getD i .leaf)) : J = K ↔ fpart F K = true := by
  rw [fpart_iff]
  constructor
  · intro h i
    have := e i
    rw [h] at this
    exact (joiT_eq _ _).1 this.symm
  · intro h
    have : trim J = trim K := trim_ext _ _ fun i => by rw [e i, (joiT_eq _ _).2 (h i)]
    rw [hJ.tr, hK.tr] at this
    exact this

theorem com_ok {F K : List Tr} (hF : Gd F) (hK : Gd K) : foOk (eachL comT F K) = true := by
  have l := trim_len (eachL comT F K)
  rw [eachL_len] at l
  have s := sum_mono (A := eachL comT F K) (B := F) fun i => by rw [each_get comT rfl]; exact comT_c _ _
  have := hF.len
  have := hK.len
  have := hF.sum
  exact decide_eq_true ⟨by omega, by omega⟩

theorem beq_dec (b : Bool) {p : Prop} [Decidable p] (h : b = true ↔ p) : b = decide p := by
  cases b with
  | true => rw [decide_eq_true (h.1 rfl)]
  | false => rw [decide_eq_false (fun g => by cases h.2 g)]

theorem sec_ex {hs ks : List (List UInt8)} (r1 : Row hs) (r2 : Row ks) : Nonempty (Sec hs ks) := by
  have a1 := r1.tx
  have a2 : hs.length ≤ 2 ^ 40 := by have := r1.len; omega
  have a3 := r2.tx
  have a4 : ks.length ≤ 2 ^ 40 := by have := r2.len; omega
  have i1 := implQuo_SC hs ks a1 a2 a3 a4
  have i2 := specQuo_SC hs ks a1 a2 a3 a4
  have i5 := implJoin_SC hs ks a1 a2 a3 a4
  have i6 := specJoinForests_SC hs ks a1 a2 a3 a4
  have i7 := implCommon_SC hs ks a1 a2 a3 a4
  have i8 := specCommonForest_SC hs ks a1 a2 a3 a4
  have g1 := foGood_SC hs a1 a2
  have g2 := foGood_SC ks a3 a4
  cases hb : (isFo hs && isFo ks) with
  | false =>
    obtain ⟨ts, us, _, i3⟩ := twoForests_SC hs ks a1 a2 a3 a4
    rw [hb] at i3
    have p := impl_IsPartOfForest_p2 _ _ _ _ i3
    have hq : quoG hs ks = false := by rw [quoG, hb]; rfl
    have p4 : SC cfg.P i_spec_IsPartOfForest [.s (.v (.sl .str) (txs hs)), .s (.v (.sl .str) (txs ks))] (.tup [.v .bool false, .v .bool false]) [] := by
      cases hf : isFo hs with
      | false => rw [hf] at g1; exact spec_IsPartOfForest_p3 _ _ g1
      | true =>
        rw [hf] at g1
        have hg : isFo ks = false := by rw [hf] at hb; exact hb
        rw [hg] at g2
        exact spec_IsPartOfForest_p2 _ _ g1 g2
    rw [quoV, quoB, hq, if_neg (by simp), Bool.false_and] at i1 i2
    rw [eachV, eachB, bothB, hb, if_neg (by simp), Bool.false_and] at i5 i6 i7 i8
    exact ⟨⟨[], [], [], false, false, false, false, i1, i2, p, p4, i5, i6, i7, i8, ⟨by simp, by simp, by simp⟩, fun g => (by cases g), fun g => (by cases g), fun g => (by cases g)⟩⟩
  | true =>
    have hb' := Bool.and_eq_true_iff.1 hb
    obtain ⟨F, hF, rfl⟩ := gd_of hb'.1
    obtain ⟨K, hK, rfl⟩ := gd_of hb'.2
    have p := gpart_SC hF hK
    rw [hF.fo] at g1
    rw [hK.fo] at g2
    have p4 := spec_IsPartOfForest_p1 _ _ _ g1 g2 (foPart_SC F K (by have := hF.len; omega) (fun t ht => by have := hF.c t ht; omega) (fun t ht => by have := hK.c t ht; omega))
    rw [eachV, eachB, bothB, hb, if_pos rfl, Bool.true_and, hF.trees, hK.trees] at i5 i6 i7 i8
    rw [quoV, quoB, quoG, hb, Bool.true_and, hF.trees, hK.trees] at i1 i2
    have cok := com_ok hF hK
    obtain ⟨C, hC, eC, fC⟩ := foT_ex cok
    rw [cok, fC] at i7 i8
    have eC' : ∀ i, C.getD i .leaf = comT (F.getD i .leaf) (K.getD i .leaf) := fun i => by rw [eC i, each_get comT rfl]
    have pc1 := gpart_SC hC hF
    have pc2 := gpart_SC hC hK
    rw [fpart_iff.2 (fun i => by rw [eC' i]; exact com_l _ _)] at pc1
    rw [fpart_iff.2 (fun i => by rw [eC' i]; exact com_r _ _)] at pc2
    have ec : fpart F K = decide (txs (tx C) = txs (tx F)) := beq_dec _ (by rw [txs_eq]; exact (com_iff hF hC eC').symm)
    have lC : (tx C).length ≤ 2 ^ 20 := by have := hC.row.len; omega
    -- the join
    obtain ⟨j, five, lj, ij, ij2, hj, hf1⟩ : ∃ (j : List (List UInt8)) (five : Bool), j.length ≤ 2 ^ 20 ∧ SC cfg.P i_impl_JoinForests [.s (.v (.sl .str) (txs (tx F))), .s (.v (.sl .str) (txs (tx K)))] (.tup [.own t_string .str (txs j), .v .bool five]) [] ∧
        SC cfg.P i_spec_JoinForests [.s (.v (.sl .str) (txs (tx F))), .s (.v (.sl .str) (txs (tx K)))] (.tup [.own t_string .str (txs j), .v .bool five]) [] ∧ ((five = true → fpart F K = decide (txs j = txs (tx K))) ∧ (five = false → fpart F K = false)) ∧
        (five = true → SC cfg.P i_impl_IsPartOfForest [.s (.v (.sl .str) (txs (tx F))), .s (.v (.sl .str) (txs j))] (.tup [.v .bool true, .v .bool true]) [] ∧ SC cfg.P i_impl_IsPartOfForest [.s (.v (.sl .str) (txs (tx K))), .s (.v (.sl .str) (txs j))] (.tup [.v .bool true, .v .bool true]) []) := by
      cases jok : foOk (eachL joiT F K) with
      | true =>
        obtain ⟨J, hJ, eJ, fJ⟩ := foT_ex jok
        rw [jok, fJ] at i5 i6
        have eJ' : ∀ i, J.getD i .leaf = joiT (F.getD i .leaf) (K.getD i .leaf) := fun i => by rw [eJ i, each_get joiT rfl]
        have pj1 := gpart_SC hF hJ
        have pj2 := gpart_SC hK hJ
        rw [fpart_iff.2 (fun i => by rw [eJ' i]; exact partB_l _ _)] at pj1
        rw [fpart_iff.2 (fun i => by rw [eJ' i]; exact partB_r _ _)] at pj2
        exact ⟨tx J, true, by have := hJ.row.len; omega, i5, i6, ⟨fun _ => beq_dec _ (by rw [txs_eq]; exact (join_iff hK hJ eJ').symm), fun g => (by cases g)⟩, fun _ => ⟨pj1, pj2⟩⟩
      | false =>
        rw [jok, foT_no jok] at i5 i6
        refine ⟨[], false, by simp, i5, i6, ⟨fun g => (by cases g), fun _ => ?_⟩, fun g => (by cases g)⟩
        cases hp : fpart F K with
        | false => rfl
        | true =>
          have := (foT_of hK (X := eachL joiT F K) fun i => by rw [each_get joiT rfl]; exact (joiT_eq _ _).2 (fpart_all hp i)).2
          rw [this] at jok
          cases jok
    -- the quotient
    cases hp : fpart F K with
    | false =>
      rw [hp] at i1 i2 p p4 ec hj
      exact ⟨⟨[], j, tx C, false, false, true, five, i1, i2, p, p4, ij, ij2, i7, i8, ⟨by simp, lj, lC⟩, fun g => (by cases g), fun _ => ⟨pc1, pc2, hj.1, hj.2, ec⟩, hf1⟩⟩
    | true =>
      rw [hp, if_pos rfl, Bool.true_and] at i1 i2
      rw [hp] at p p4 ec hj
      cases qok : foOk (quoL F K) with
      | false =>
        rw [qok, foT_no qok] at i1 i2
        exact ⟨⟨[], j, tx C, false, true, true, five, i1, i2, p, p4, ij, ij2, i7, i8, ⟨by simp, lj, lC⟩, fun g => (by cases g), fun _ => ⟨pc1, pc2, hj.1, hj.2, ec⟩, hf1⟩⟩
      | true =>
        obtain ⟨Q, hQ, eQ, fQ⟩ := foT_ex qok
        rw [qok, fQ] at i1 i2
        have hst := gstack_SC hF hQ
        have hS : ∀ i, (stackL F Q).getD i .leaf = K.getD i .leaf := fun i => by
          rw [stackL_get, growT_ext eQ]
          exact (quo_stk hp i).symm
        obtain ⟨s1, s2⟩ := foT_of hK hS
        rw [s1, s2] at hst
        exact ⟨⟨tx Q, j, tx C, true, true, true, five, i1, i2, p, p4, ij, ij2, i7, i8, ⟨by have := hQ.row.len; omega, lj, lC⟩, fun _ => ⟨rfl, rfl, hst⟩, fun _ => ⟨pc1, pc2, hj.1, hj.2, ec⟩, hf1⟩⟩

theorem nT_same {a : List (List UInt8)} (h : a.length ≤ 2 ^ 20) : SC cfg.P i_laws_nTexts [.s (.v (.sl .str) (txs a)), .s (.v (.sl .str) (txs a))] (.s (.v .bool true)) [] := by
  have r := nTexts_SC (txs a) (txs a) (by have : (txs a).length = a.length := List.length_map ..; omega)
  rw [decide_eq_true rfl] at r
  exact r

theorem nT_any {a b : List (List UInt8)} (h : a.length ≤ 2 ^ 20) : SC cfg.P i_laws_nTexts [.s (.v (.sl .str) (txs a)), .s (.v (.sl .str) (txs b))] (.s (.v .bool (decide (txs a = txs b)))) [] :=
  nTexts_SC (txs a) (txs b) (by have : (txs a).length = a.length := List.length_map ..; omega)

section
variable {hs ks : List (List UInt8)} (S : Sec hs ks)
include S

theorem fs25 : (∀ x, RestSC cfg.P 2 (rest P_laws_FnForestsStacked 25) (laws_FnForestsStacked_C25a S.five x (txs hs) (txs S.j) (txs ks)) .ret (laws_FnForestsStacked_R1 true)) ∧
    (∀ p x, RestSC cfg.P 2 (rest P_laws_FnForestsStacked 25) (laws_FnForestsStacked_C25b p S.five x (txs hs) (txs S.j) (txs S.c) (txs ks)) .ret (laws_FnForestsStacked_R1 true)) ∧
    (∀ x, RestSC cfg.P 2 (rest P_laws_FnForestsStacked 25) (laws_FnForestsStacked_C25c S.five x (txs hs) (txs S.j) (txs ks)) .ret (laws_FnForestsStacked_R1 true)) ∧
    (∀ p x, RestSC cfg.P 2 (rest P_laws_FnForestsStacked 25) (laws_FnForestsStacked_C25d p S.five x (txs hs) (txs S.j) (txs S.c) (txs ks)) .ret (laws_FnForestsStacked_R1 true)) := by
  obtain ⟨q, j, c, one, part, three, five, h1, h2, h3, h4, h5, h6, h7, h8, l, o1, t1, f1⟩ := S
  dsimp only
  cases five with
  | true =>
    obtain ⟨f2, f3⟩ := f1 rfl
    exact ⟨fun x => laws_FnForestsStacked_C25a_i1 _ _ _ _ f2 f3 (laws_FnForestsStacked_C27a_x1 _), fun p x => laws_FnForestsStacked_C25b_i1 _ _ _ _ _ _ f2 f3 (laws_FnForestsStacked_C27a_x1 _),
      fun x => laws_FnForestsStacked_C25c_i1 _ _ _ _ f2 f3 (laws_FnForestsStacked_C27a_x1 _), fun p x => laws_FnForestsStacked_C25d_i1 _ _ _ _ _ _ f2 f3 (laws_FnForestsStacked_C27a_x1 _)⟩
  | false =>
    exact ⟨fun x => laws_FnForestsStacked_C25a_i2 _ _ _ _ (laws_FnForestsStacked_C27b_x1 _ _ _ _), fun p x => laws_FnForestsStacked_C25b_i2 _ _ _ _ _ _ (laws_FnForestsStacked_C27b_x1 _ _ _ _),
      fun x => laws_FnForestsStacked_C25c_i2 _ _ _ _ (laws_FnForestsStacked_C27c_x1 _ _ _ _), fun p x => laws_FnForestsStacked_C25d_i2 _ _ _ _ _ _ (laws_FnForestsStacked_C27c_x1 _ _ _ _)⟩

theorem fs23 : (∀ x, RestSC cfg.P 2 (rest P_laws_FnForestsStacked 23) (laws_FnForestsStacked_C23a S.part S.three S.five x (txs hs) (txs S.j) (txs S.c) (txs ks)) .ret (laws_FnForestsStacked_R1 true)) ∧
    (∀ x, RestSC cfg.P 2 (rest P_laws_FnForestsStacked 23) (laws_FnForestsStacked_C23b S.part S.three S.five x (txs hs) (txs S.q) (txs S.j) (txs S.c) (txs ks)) .ret (laws_FnForestsStacked_R1 true)) ∧
    (∀ x, RestSC cfg.P 2 (rest P_laws_FnForestsStacked 23) (laws_FnForestsStacked_C23c S.part S.three S.five x (txs hs) (txs S.j) (txs S.c) (txs ks)) .ret (laws_FnForestsStacked_R1 true)) ∧
    (∀ x, RestSC cfg.P 2 (rest P_laws_FnForestsStacked 23) (laws_FnForestsStacked_C23d S.part S.three S.five x (txs hs) (txs S.q) (txs S.j) (txs S.c) (txs ks)) .ret (laws_FnForestsStacked_R1 true)) := by
  obtain ⟨na, nb, nc, nd⟩ := fs25 S
  obtain ⟨q, j, c, one, part, three, five, h1, h2, h3, h4, h5, h6, h7, h8, l, o1, t1, f1⟩ := S
  dsimp only at na nb nc nd ⊢
  cases three with
  | false =>
    exact ⟨fun x => laws_FnForestsStacked_C23a_i3 _ _ _ _ _ _ _ (nb _ _), fun x => laws_FnForestsStacked_C23b_i3 _ _ _ _ _ _ _ _ (nb _ _), fun x => laws_FnForestsStacked_C23c_i3 _ _ _ _ _ _ _ (nd _ _), fun x => laws_FnForestsStacked_C23d_i3 _ _ _ _ _ _ _ _ (nd _ _)⟩
  | true =>
    obtain ⟨p1, p2, e1, e0, e2⟩ := t1 rfl
    have n2 := nT_any (a := c) (b := hs) l.2.2
    cases five with
    | true =>
      have n1 := nT_any (a := j) (b := ks) l.2.1
      rw [← e1 rfl] at n1
      rw [← e2] at n2
      exact ⟨fun x => laws_FnForestsStacked_C23a_i1 _ _ _ _ _ _ _ _ p1 p2 n1 (nbeq _) n2 (nbeq _) (na _), fun x => laws_FnForestsStacked_C23b_i1 _ _ _ _ _ _ _ _ _ p1 p2 n1 (nbeq _) n2 (nbeq _) (na _),
        fun x => laws_FnForestsStacked_C23c_i1 _ _ _ _ _ _ _ _ p1 p2 n1 (nbeq _) n2 (nbeq _) (nc _), fun x => laws_FnForestsStacked_C23d_i1 _ _ _ _ _ _ _ _ _ p1 p2 n1 (nbeq _) n2 (nbeq _) (nc _)⟩
    | false =>
      have pf := e0 rfl
      rw [← e2] at n2
      subst pf
      exact ⟨fun x => laws_FnForestsStacked_C23a_i2 _ _ _ _ _ _ _ p1 p2 rfl n2 rfl (na _), fun x => laws_FnForestsStacked_C23b_i2 _ _ _ _ _ _ _ _ p1 p2 rfl n2 rfl (na _),
        fun x => laws_FnForestsStacked_C23c_i2 _ _ _ _ _ _ _ p1 p2 rfl n2 rfl (nc _), fun x => laws_FnForestsStacked_C23d_i2 _ _ _ _ _ _ _ _ p1 p2 rfl n2 rfl (nc _)⟩

theorem fs21 (r2 : Row ks) : (∀ x, RestSC cfg.P 2 (rest P_laws_FnForestsStacked 21) (laws_FnForestsStacked_C21a S.one S.part S.three S.five x (txs hs) (txs S.q) (txs S.j) (txs S.c) (txs ks)) .ret (laws_FnForestsStacked_R1 true)) ∧
    (∀ x, RestSC cfg.P 2 (rest P_laws_FnForestsStacked 21) (laws_FnForestsStacked_C21b S.one S.part S.three S.five x (txs hs) (txs S.q) (txs S.j) (txs S.c) (txs ks)) .ret (laws_FnForestsStacked_R1 true)) := by
  obtain ⟨na, nb, nc, nd⟩ := fs23 S
  obtain ⟨q, j, c, one, part, three, five, h1, h2, h3, h4, h5, h6, h7, h8, l, o1, t1, f1⟩ := S
  dsimp only at na nb nc nd ⊢
  cases one with
  | true =>
    obtain ⟨_, _, st⟩ := o1 rfl
    have n := nT_same (a := ks) (by have := r2.len; omega)
    exact ⟨fun x => laws_FnForestsStacked_C21a_i1 _ _ _ _ _ _ _ _ _ _ st n (na _), fun x => laws_FnForestsStacked_C21b_i1 _ _ _ _ _ _ _ _ _ _ st n (nc _)⟩
  | false => exact ⟨fun x => laws_FnForestsStacked_C21a_i2 _ _ _ _ _ _ _ _ _ (nb _), fun x => laws_FnForestsStacked_C21b_i2 _ _ _ _ _ _ _ _ _ (nd _)⟩

end

theorem fs10 {m : List Int} (hm : Bytes m) (hml : m.length ≤ 2 ^ 40) :
    (∀ x, RestSC cfg.P 2 (rest P_laws_FnForestsStacked 10) (laws_FnForestsStacked_C10a m x) .ret (laws_FnForestsStacked_R1 true)) ∧
    (∀ x u v w, RestSC cfg.P 2 (rest P_laws_FnForestsStacked 10) (laws_FnForestsStacked_C10b m x u v w) .ret (laws_FnForestsStacked_R1 true)) ∧
    (∀ x u v w, RestSC cfg.P 2 (rest P_laws_FnForestsStacked 10) (laws_FnForestsStacked_C10c m x u v w) .ret (laws_FnForestsStacked_R1 true)) := by
  obtain ⟨hs, ks, r1, r2, s⟩ := drawLQ hm hml
  obtain ⟨S⟩ := sec_ex r1 r2
  obtain ⟨na, nb⟩ := fs21 S r2
  obtain ⟨q, j, c, one, part, three, five, h1, h2, h3, h4, h5, h6, h7, h8, l, o1, t1, f1⟩ := S
  dsimp only at na nb
  have nq := nT_same (a := q) l.1
  have nj := nT_same (a := j) l.2.1
  have nc := nT_same (a := c) l.2.2
  cases one with
  | true =>
    obtain ⟨rfl, rfl, _⟩ := o1 rfl
    exact ⟨fun x => laws_FnForestsStacked_C10a_i1 _ _ _ _ _ _ _ _ _ _ _ _ _ _ _ _ _ s h1 h2 h3 h4 h5 h6 h7 h8 rfl nq rfl rfl (nbeq _) nj rfl nc rfl (na _),
      fun x u v w => laws_FnForestsStacked_C10b_i1 _ _ _ _ _ _ _ _ _ _ _ _ _ _ _ _ _ _ _ _ s h1 h2 h3 h4 h5 h6 h7 h8 rfl nq rfl rfl (nbeq _) nj rfl nc rfl (na _),
      fun x u v w => laws_FnForestsStacked_C10c_i1 _ _ _ _ _ _ _ _ _ _ _ _ _ _ _ _ _ _ _ _ s h1 h2 h3 h4 h5 h6 h7 h8 rfl nq rfl rfl (nbeq _) nj rfl nc rfl (nb _)⟩
  | false =>
    exact ⟨fun x => laws_FnForestsStacked_C10a_i2 _ _ _ _ _ _ _ _ _ _ _ _ _ _ _ _ _ _ _ s h1 h2 h3 h4 h5 h6 h7 h8 rfl nq (nbeq _) (nbeq _) (nbeq _) nj (nbeq _) nc (nbeq _) (na _),
      fun x u v w => laws_FnForestsStacked_C10b_i2 _ _ _ _ _ _ _ _ _ _ _ _ _ _ _ _ _ _ _ _ _ _ s h1 h2 h3 h4 h5 h6 h7 h8 rfl nq (nbeq _) (nbeq _) (nbeq _) nj (nbeq _) nc (nbeq _) (na _),
      fun x u v w => laws_FnForestsStacked_C10c_i2 _ _ _ _ _ _ _ _ _ _ _ _ _ _ _ _ _ _ _ _ _ _ s h1 h2 h3 h4 h5 h6 h7 h8 rfl nq (nbeq _) (nbeq _) (nbeq _) nj (nbeq _) nc (nbeq _) (nb _)⟩

/-! ### The first part -/

theorem fs3 (l m : List Int) (h : Bytes l) (hm : Bytes m) (hl : l.length ≤ 2 ^ 40) (hml : m.length ≤ 2 ^ 40) (x : Bool) :
    RestSC cfg.P 2 (rest P_laws_FnForestsStacked 3) (laws_FnForestsStacked_C3a l m x) .ret (laws_FnForestsStacked_R1 true) := by
  obtain ⟨na, nb, nc⟩ := fs10 hm hml
  obtain ⟨fs, gs, r1, r2, s⟩ := drawSt h hl
  have i1 := implStack_SC fs gs r1.tx (by have := r1.len; omega) r2.tx (by have := r2.len; omega)
  have i2 := specStack_SC fs gs r1.tx (by have := r1.len; omega) r2.tx (by have := r2.len; omega)
  have rs : Row (stackV fs gs) := by
    unfold stackV
    split
    · exact row_foT _
    · exact ⟨by simp, by simp⟩
  have n := nT_same (a := stackV fs gs) (by have := rs.len; omega)
  refine laws_FnForestsStacked_C3a_i1 _ _ _ _ _ _ _ _ _ s i1 i2 (nbeq _) n ?_
  cases hB : stackB fs gs with
  | false => exact laws_FnForestsStacked_C8a_i5 _ _ _ _ _ (nc _ _ _ _)
  | true =>
    have hB' := Bool.and_eq_true_iff.1 hB
    have hb := Bool.and_eq_true_iff.1 hB'.1
    obtain ⟨F, hF, rfl⟩ := gd_of hb.1
    obtain ⟨G, hG, rfl⟩ := gd_of hb.2
    have ok := hB'.2
    rw [hF.trees, hG.trees] at ok
    obtain ⟨S, hS, eS, fS⟩ := foT_ex ok
    have hV : stackV (tx F) (tx G) = tx S := by rw [stackV, hB'.1, if_pos rfl, hF.trees, hG.trees, fS]
    rw [hV]
    have st : Stk F G S := fun i => by rw [eS i]; exact stk_of F G i
    have c1 := gcount_SC hF
    have c2 := gcount_SC hG
    have c3 := gcount_SC hS
    have p := gpart_SC hF hS
    rw [st.part] at p
    have q := gquo_SC hF hS st.part
    obtain ⟨q1, q2⟩ := foT_of hG st.quo
    rw [q1, q2] at q
    have ng := nT_same (a := tx G) (by have := r2.len; omega)
    have e := st.sum
    have w : ((sumC S : Nat) : Int) = IntKind.wrap .i64 (((sumC F : Nat) : Int) + ((sumC G : Nat) : Int)) := by
      have := hS.sum
      rw [w64] <;> omega
    have pF := gpair_SC hF
    have pG := gpair_SC hG
    have pS := gpair_SC hS
    by_cases d1 : (fpP F).1.c ≤ 8
    · by_cases d2 : (fpP G).1.c ≤ 8
      · by_cases d3 : (fpP S).1.c ≤ 8
        · rw [decide_eq_true d1, fitV, if_pos d1] at pF
          rw [decide_eq_true d2, fitV, if_pos d2] at pG
          rw [decide_eq_true d3, fitV, if_pos d3] at pS
          have pr := two_big (fpP F) (fpP G) ⟨fp_eqc F, d1⟩ ⟨fp_eqc G, d2⟩
          rw [st.pair, decide_eq_true d3, fitV, if_pos d3] at pr
          exact laws_FnForestsStacked_C8a_i1 _ _ _ _ _ _ _ _ _ _ _ _ _ c1 c2 c3 p q pF pG pS w ng pr (pbeq _) (na _)
        · rw [decide_eq_true d1] at pF
          rw [decide_eq_true d2] at pG
          rw [decide_eq_false d3] at pS
          exact laws_FnForestsStacked_C8a_i2 _ _ _ _ _ _ _ _ _ _ _ _ c1 c2 c3 p q pF pG pS w ng (nb _ _ _ _)
      · rw [decide_eq_true d1] at pF
        rw [decide_eq_false d2] at pG
        exact laws_FnForestsStacked_C8a_i3 _ _ _ _ _ _ _ _ _ _ _ _ _ c1 c2 c3 p q pF pG pS w ng (nb _ _ _ _)
    · rw [decide_eq_false d1] at pF
      exact laws_FnForestsStacked_C8a_i4 _ _ _ _ _ _ _ _ _ _ _ _ _ _ c1 c2 c3 p q pF pG pS w ng (nb _ _ _ _)

/-- The law. -/
theorem law_Fs (a b : List Int) (_ha : a.length ≤ 2 ^ 63 - 1) (h1 : ∀ n ∈ a, (Lit.int .u8 n).wf = true) (_hb : b.length ≤ 2 ^ 63 - 1) (h2 : ∀ n ∈ b, (Lit.int .u8 n).wf = true) :
    SC cfg.P i_laws_FnForestsStacked [.s (.v (.sl (.int .u8)) a), .s (.v (.sl (.int .u8)) b)] (.s (.v .bool true)) [] := by
  by_cases g1 : a.length ≤ 1048576
  · have w : IntKind.wrap .i64 (1048576 - ((a.length : Nat) : Int)) = 1048576 - ((a.length : Nat) : Int) := by rw [w64] <;> omega
    by_cases g2 : a.length + b.length ≤ 1048576
    · have hbig : SC cfg.P i_laws_big [.s (.v (.sl (.int .u8)) a), .s (.v (.sl (.int .u8)) b)] (.s (.v .bool false)) [] := laws_big_p3 _ _ (by omega) (by rw [w]; omega)
      exact laws_FnForestsStacked_R1_of _ _ _ (laws_FnForestsStacked_C0a_i2 _ _ hbig (fs3 a b (fun x hx => byte_wf (h1 x hx)) (fun x hx => byte_wf (h2 x hx)) (by omega) (by omega) _))
    · exact laws_FnForestsStacked_R1_of _ _ _ (laws_FnForestsStacked_C0a_x1 _ _ (laws_big_p2 _ _ (by omega) (by rw [w]; omega)))
  · exact laws_FnForestsStacked_R1_of _ _ _ (laws_FnForestsStacked_C0a_x1 _ _ (laws_big_p1 _ _ (by omega)))

end Go.AI
