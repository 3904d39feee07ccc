/- The law of PairsOfForests. -/
import Derived.Test.YtdfllkeekehplaaGreatJG
import Derived.Test.YtdfllkeekehplaaGreatJH
import Derived.Test.YtdfllkeekehplaaGreatJI
import Derived.Test.YtdfllkeekehplaaGreatJJ
set_option autoImplicit false
set_option maxRecDepth 100000
set_option linter.unusedVariables false
namespace Go.AI
open Go.Proofs

/-! ### Words of what hangs -/

theorem exR_hang : ∀ t : Tr, exR t = expsL (hangT t) ++ [0]
  | .leaf => rfl
  | .node l r => by
    rw [exR, exR_hang r, hangT]
    simp [expsL]

theorem woR_zeros : ∀ (n k : Nat), woR (List.replicate n 0) k = []
  | 0, _ => rfl
  | n + 1, k => by rw [List.replicate_succ, woR, woR_zeros n]; rfl

theorem expsL_app (A B : List Tr) : expsL (A ++ B) = expsL A ++ expsL B := List.flatMap_append

theorem expsL_leaves : ∀ n, expsL (List.replicate n .leaf) = List.replicate n 0
  | 0 => rfl
  | n + 1 => by
    have := expsL_leaves n
    rw [List.replicate_succ, List.replicate_succ, ← this]
    rfl

theorem wo_trim (ts : List Tr) : woR (expsL (trim ts)) 0 = woR (expsL ts) 0 := by
  obtain ⟨r, e, hr⟩ := trim_prefix ts
  have er : r = List.replicate r.length .leaf := List.eq_replicate_iff.2 ⟨rfl, fun t ht => by have := hr t ht; cases t <;> simp_all [Tr.isLeaf]⟩
  conv => rhs; rw [e, er, expsL_app, expsL_leaves, woR_append, woR_zeros, List.append_nil]

theorem wo_hang (t : Tr) : woR (exR t) 0 = woR (expsL (trim (hangT t))) 0 := by
  rw [wo_trim, exR_hang, woR_append]
  have := woR_zeros 1 (0 + (expsL (hangT t)).length)
  rw [show List.replicate 1 0 = [0] from rfl] at this
  rw [this, List.append_nil]

/-! ### Contracts -/

theorem nT_same {a : List (List UInt8)} (h : a.length ≤ 2 ^ 20) : SC cfg.P i_laws_nTexts [.s (.v (.sl .str) (txs a)), .s (.v (.sl .str) (txs a))] (.s (.v .bool true)) [] := by
  have r := nTexts_SC (txs a) (txs a) (by have : (txs a).length = a.length := List.length_map ..; omega)
  rw [decide_eq_true rfl] at r
  exact r


theorem nSame_SC (L : List Int) (hl : L.length ≤ 2 ^ 40) : SC cfg.P i_laws_nSame [.s (.v (.sl (.int .i64)) L), .s (.v (.sl (.int .i64)) L)] (.s (.v .bool true)) [] := by
  have key : ∀ (m k : Nat), L.length - k = m → k ≤ L.length → LoopSC cfg.P 2 (lb P_laws_nSame 0) (laws_nSame_L0a L L (L.length : Int) (k : Int)) (.exit 0) (laws_nSame_L0X2 L L (L.length : Int) (L.length : Int) false) := by
    intro m
    induction m with
    | zero =>
      intro k hm hk
      have e : k = L.length := by omega
      subst e
      exact laws_nSame_L0a_x3 _ _ _ _ (by omega)
    | succ m ih =>
      intro k hm hk
      have k1 := ih (k + 1) (by omega) (by omega)
      rw [← wrap_succ (by omega)] at k1
      exact laws_nSame_L0a_i2 _ _ _ _ (by omega) (by omega) (by omega) (by omega) rfl k1
  exact laws_nSame_p3 _ _ _ _ _ _ _ rfl (key _ 0 rfl (by omega))

theorem nRed_SC (a b : List UInt8) (h : isPair a b = true) : SC cfg.P i_laws_nReduced [.s (.v (.pr .str .str) (bs a, bs b))] (.s (.v (.pr .str .str) (pt (fopR a b)))) [] := by
  obtain ⟨x1, x2, x3, x4, x5⟩ := isPair_trees h
  have l1 := txt_len (treeOf a)
  have l2 := txt_len (treeOf b)
  rw [← x1] at l1
  rw [← x2] at l2
  have h0 := pairOf_SC a b (by omega) (by omega)
  rw [h] at h0
  have hr := red_c (treeOf a).c (treeOf a, treeOf b)
  simp only at hr
  exact laws_nReduced_p1 _ _ _ (impl_ReducePair_p1 _ _ _ _ h0 (reduced_SC (treeOf a, treeOf b) (by show (treeOf a).c ≤ _; omega) (by show (treeOf b).c ≤ _; omega)) (plain_SC _ (by show (red (treeOf a).c _).1.c ≤ _; omega) (by show (red (treeOf a).c _).2.c ≤ _; omega)))

theorem inv_SC (p : Tr × Tr) (hp : p.1.c = p.2.c) (h8 : p.1.c ≤ 8) : SC cfg.P i_impl_InversePair [.s (.v (.pr .str .str) (pt p))] (.tup [.v (.pr .str .str) (pt (p.2, p.1)), .v .bool true]) [] := by
  have l1 := txt_len p.1
  have l2 := txt_len p.2
  have b1 : isPair (txt p.1) (txt p.2) = true := by rw [isPair_txt p hp]; exact decide_eq_true h8
  obtain ⟨x1, x2, _⟩ := isPair_trees b1
  have h0 := pairOf_SC (txt p.1) (txt p.2) (by omega) (by omega)
  rw [b1, ← txt_inj' x1, ← txt_inj' x2] at h0
  exact impl_InversePair_p1 _ _ _ _ h0 (impl_pair_inverse_p1 _) (plain_SC _ (by show p.2.c ≤ _; omega) (by show p.1.c ≤ _; omega))

theorem gfr_SC {F G : List Tr} (hF : Gd F) (hG : Gd G) : SC cfg.P i_impl_PairOfForests [.s (.v (.sl .str) (txs (tx F))), .s (.v (.sl .str) (txs (tx G)))] (.tup [.v (.pr .str .str) (fitV (frP F G)), .v .bool (decide ((frP F G).1.c ≤ 8))]) [] := by
  have r := implPff_SC (tx F) (tx G) hF.row.tx (by have := hF.row.len; omega) hG.row.tx (by have := hG.row.len; omega)
  rw [pffV, pffB, pffP, hF.fo, hG.fo, hF.trees, hG.trees] at r
  exact r

/-! ### Draws -/

theorem drawFP {l : List Int} (h : Bytes l) (hl : l.length ≤ 2 ^ 40) : ∃ a b : List UInt8, a.length ≤ 2 ^ 11 ∧ b.length ≤ 2 ^ 11 ∧ SC cfg.P i_spec_DrawForestsOfPair [.s (.v (.sl (.int .u8)) l)] (.s (.v (.pr .str .str) (bs a, bs b))) [] := by
  obtain ⟨a, b, c', ha, hb, h1, s⟩ := pair_SC (cur0 h hl) (by omega) 7 (by omega)
  obtain ⟨a, rfl⟩ := bs_ex a
  obtain ⟨b, rfl⟩ := bs_ex b
  rw [bs_size] at ha hb
  exact ⟨a, b, ha, hb, spec_DrawForestsOfPair_p1 _ _ _ s⟩

theorem drawFF {l : List Int} (h : Bytes l) (hl : l.length ≤ 2 ^ 40) : ∃ fs gs, Row fs ∧ Row gs ∧ SC cfg.P i_spec_DrawPairOfForests [.s (.v (.sl (.int .u8)) l)] (.tup [.own t_string .str (txs fs), .own t_string .str (txs gs)]) [] := by
  obtain ⟨fs, c1, r1, h1, s1⟩ := forest_SC (cur0 h hl) (by omega) 4 (by omega)
  obtain ⟨gs, c2, r2, h2, s2⟩ := forest_SC h1 (by omega) 3 (by omega)
  exact ⟨fs, gs, r1, r2, spec_DrawPairOfForests_p1 _ _ _ _ _ s1 s2⟩

theorem drawF1 {l : List Int} (h : Bytes l) (hl : l.length ≤ 2 ^ 40) : ∃ fs, Row fs ∧ SC cfg.P i_spec_DrawPairOfForest [.s (.v (.sl (.int .u8)) l)] (.s (.own t_string .str (txs fs))) [] := by
  obtain ⟨fs, c1, r1, h1, s1⟩ := forest_SC (cur0 h hl) (by omega) 5 (by omega)
  exact ⟨fs, r1, spec_DrawPairOfForest_p1 _ _ _ s1⟩

/-! ### The law -/

theorem pbt (x : ByteArray × ByteArray) : (((x.1).toList == (x.1).toList) && ((x.2).toList == (x.2).toList)) = true := by simp

theorem gd_nil : Gd [] := ⟨rfl, by simp, by simp [sumC]⟩

theorem gd_top : Gd [.node .leaf .leaf] := ⟨rfl, by simp, by simp [sumC, Tr.c]⟩

theorem pz22 {fs : List (List UInt8)} (r : Row fs) (x : Bool) : RestSC cfg.P 2 (rest P_laws_FnPairsOfForests 22) (laws_FnPairsOfForests_C22a (pofB fs) x (pofV fs) (txs fs)) .ret (laws_FnPairsOfForests_R1 true) := by
  cases hB : pofB fs with
  | false => exact laws_FnPairsOfForests_C22a_i2 _ _ _ (laws_FnPairsOfForests_C24a_x1 _ _ _)
  | true =>
    have hB' := Bool.and_eq_true_iff.1 hB
    obtain ⟨F, hF, rfl⟩ := gd_of hB'.1
    have h8 : (fpP F).1.c ≤ 8 := by have := of_decide_eq_true hB'.2; rw [hF.trees] at this; exact this
    have s := gfr_SC hF gd_nil
    rw [frP_one, decide_eq_true h8] at s
    have hV : pofV (tx F) = fitV (fpP F) := by rw [pofV, hF.fo, if_pos rfl, hF.trees]
    rw [hV]
    exact laws_FnPairsOfForests_C22a_x1 _ _ _ _ s (pbt _)

theorem pz17 {m : List Int} (hm : Bytes m) (hml : m.length ≤ 2 ^ 40) :
    (∀ x, RestSC cfg.P 2 (rest P_laws_FnPairsOfForests 17) (laws_FnPairsOfForests_C17a m x) .ret (laws_FnPairsOfForests_R1 true)) ∧
    (∀ x p u v, RestSC cfg.P 2 (rest P_laws_FnPairsOfForests 17) (laws_FnPairsOfForests_C17b m x p u v) .ret (laws_FnPairsOfForests_R1 true)) ∧
    (∀ x p u v, RestSC cfg.P 2 (rest P_laws_FnPairsOfForests 17) (laws_FnPairsOfForests_C17c m x p u v) .ret (laws_FnPairsOfForests_R1 true)) ∧
    (∀ x p u v, RestSC cfg.P 2 (rest P_laws_FnPairsOfForests 17) (laws_FnPairsOfForests_C17d m x p u v) .ret (laws_FnPairsOfForests_R1 true)) := by
  obtain ⟨fs, r, s⟩ := drawF1 hm hml
  have i1 := implPof_SC fs r.tx (by have := r.len; omega)
  have i2 := specPof_SC fs r.tx (by have := r.len; omega)
  have n := pz22 r false
  exact ⟨fun x => laws_FnPairsOfForests_C17a_i1 _ _ _ _ _ _ _ s i1 i2 (nbeq _) (pbeq _) n, fun x p u v => laws_FnPairsOfForests_C17b_i1 _ _ _ _ _ _ _ _ _ _ s i1 i2 (nbeq _) (pbeq _) n,
    fun x p u v => laws_FnPairsOfForests_C17c_i1 _ _ _ _ _ _ _ _ _ _ s i1 i2 (nbeq _) (pbeq _) n, fun x p u v => laws_FnPairsOfForests_C17d_i1 _ _ _ _ _ _ _ _ _ _ s i1 i2 (nbeq _) (pbeq _) n⟩

theorem top_eq : ([(⟨#[40, 46, 46, 41]⟩ : ByteArray)] : List ByteArray) = txs (tx [.node .leaf .leaf]) := rfl

/-- What the second part's tests are told. -/
theorem pz15_core {F G : List Tr} (hF : Gd F) (hG : Gd G) (h8 : (frP F G).1.c ≤ 8) :
    SC cfg.P i_impl_PairOfForests [.s (.v (.sl .str) (txs (tx G))), .s (.v (.sl .str) (txs (tx F)))] (.tup [.v (.pr .str .str) (pt ((frP F G).2, (frP F G).1)), .v .bool true]) [] ∧
    SC cfg.P i_impl_InversePair [.s (.v (.pr .str .str) (fitV (frP F G)))] (.tup [.v (.pr .str .str) (pt ((frP F G).2, (frP F G).1)), .v .bool true]) [] ∧
    ∃ (s t : List ByteArray) (sb tb : Bool), SC cfg.P i_impl_StackForests [.s (.v (.sl .str) (txs (tx F))), .s (.v (.sl .str) ([(⟨#[40, 46, 46, 41]⟩ : ByteArray)] : List ByteArray))] (.tup [.own t_string .str s, .v .bool sb]) [] ∧
      SC cfg.P i_impl_StackForests [.s (.v (.sl .str) (txs (tx G))), .s (.v (.sl .str) ([(⟨#[40, 46, 46, 41]⟩ : ByteArray)] : List ByteArray))] (.tup [.own t_string .str t, .v .bool tb]) [] ∧
      (sb = true → tb = true → SC cfg.P i_impl_PairOfForests [.s (.v (.sl .str) s), .s (.v (.sl .str) t)] (.tup [.v (.pr .str .str) (fitV (frP F G)), .v .bool true]) []) := by
  have e8 := frP_eqc F G
  refine ⟨?_, ?_, ?_⟩
  · have r := gfr_SC hG hF
    rw [frP_swp G F, decide_eq_true (by show (frP F G).2.c ≤ 8; omega), fitV, if_pos (by show (frP F G).2.c ≤ 8; omega)] at r
    exact r
  · rw [fitV, if_pos h8]
    exact inv_SC _ e8 h8
  · have s1 := gstack_SC hF gd_top
    have s2 := gstack_SC hG gd_top
    rw [← top_eq] at s1 s2
    refine ⟨_, _, _, _, s1, s2, fun b1 b2 => ?_⟩
    obtain ⟨S, hS, eS, fS⟩ := foT_ex b1
    obtain ⟨U, hU, eU, fU⟩ := foT_ex b2
    rw [fS, fU]
    have st1 : Stk F [.node .leaf .leaf] S := fun i => by rw [eS i]; exact stk_of F _ i
    have st2 : Stk G [.node .leaf .leaf] U := fun i => by rw [eU i]; exact stk_of G _ i
    have r := gfr_SC hS hU
    rw [frP_stack st1 st2, decide_eq_true h8] at r
    exact r

theorem pz15 {m : List Int} (hm : Bytes m) (hml : m.length ≤ 2 ^ 40) {fs gs : List (List UInt8)} :
    (∀ x, RestSC cfg.P 2 (rest P_laws_FnPairsOfForests 15) (laws_FnPairsOfForests_C15a m (pffB fs gs) x (pffV fs gs) (txs fs) (txs gs)) .ret (laws_FnPairsOfForests_R1 true)) ∧
    (∀ x, RestSC cfg.P 2 (rest P_laws_FnPairsOfForests 15) (laws_FnPairsOfForests_C15b m (pffB fs gs) x (pffV fs gs) (txs fs) (txs gs)) .ret (laws_FnPairsOfForests_R1 true)) := by
  obtain ⟨na, nb, nc, nd⟩ := pz17 hm hml
  cases hB : pffB fs gs with
  | false => exact ⟨fun x => laws_FnPairsOfForests_C15a_i4 _ _ _ _ _ (nc _ _ _ _), fun x => laws_FnPairsOfForests_C15b_i4 _ _ _ _ _ (nd _ _ _ _)⟩
  | true =>
    have hB' := Bool.and_eq_true_iff.1 hB
    have hb := Bool.and_eq_true_iff.1 hB'.1
    obtain ⟨F, hF, rfl⟩ := gd_of hb.1
    obtain ⟨G, hG, rfl⟩ := gd_of hb.2
    have h8 : (frP F G).1.c ≤ 8 := by have := of_decide_eq_true hB'.2; rw [pffP, hF.trees, hG.trees] at this; exact this
    have hV : pffV (tx F) (tx G) = fitV (frP F G) := by rw [pffV, hB'.1, if_pos rfl, pffP, hF.trees, hG.trees]; rfl
    rw [hV]
    obtain ⟨i1, i2, s, t, sb, tb, s1, s2, h⟩ := pz15_core hF hG h8
    cases sb with
    | false => exact ⟨fun x => laws_FnPairsOfForests_C15a_i3 _ _ _ _ _ _ _ _ _ _ i1 i2 (pbeq _) s1 s2 (nb _ _ _ _), fun x => laws_FnPairsOfForests_C15b_i3 _ _ _ _ _ _ _ _ _ _ i1 i2 (pbeq _) s1 s2 (nb _ _ _ _)⟩
    | true =>
      cases tb with
      | false => exact ⟨fun x => laws_FnPairsOfForests_C15a_i2 _ _ _ _ _ _ _ _ _ i1 i2 (pbeq _) s1 s2 (nb _ _ _ _), fun x => laws_FnPairsOfForests_C15b_i2 _ _ _ _ _ _ _ _ _ i1 i2 (pbeq _) s1 s2 (nb _ _ _ _)⟩
      | true =>
        have i3 := h rfl rfl
        exact ⟨fun x => laws_FnPairsOfForests_C15a_i1 _ _ _ _ _ _ _ _ _ _ i1 i2 (pbeq _) s1 s2 i3 (pbeq _) (na _), fun x => laws_FnPairsOfForests_C15b_i1 _ _ _ _ _ _ _ _ _ _ i1 i2 (pbeq _) s1 s2 i3 (pbeq _) (na _)⟩

theorem pz10 {m : List Int} (hm : Bytes m) (hml : m.length ≤ 2 ^ 40) :
    (∀ x, RestSC cfg.P 2 (rest P_laws_FnPairsOfForests 10) (laws_FnPairsOfForests_C10a m x) .ret (laws_FnPairsOfForests_R1 true)) ∧
    (∀ x p u v, RestSC cfg.P 2 (rest P_laws_FnPairsOfForests 10) (laws_FnPairsOfForests_C10b m x p u v) .ret (laws_FnPairsOfForests_R1 true)) := by
  obtain ⟨fs, gs, r1, r2, s⟩ := drawFF hm hml
  have i1 := implPff_SC fs gs r1.tx (by have := r1.len; omega) r2.tx (by have := r2.len; omega)
  have i2 := specPff_SC fs gs r1.tx (by have := r1.len; omega) r2.tx (by have := r2.len; omega)
  obtain ⟨na, nb⟩ := pz15 hm hml (fs := fs) (gs := gs)
  exact ⟨fun x => laws_FnPairsOfForests_C10a_i1 _ _ _ _ _ _ _ _ s i1 i2 (nbeq _) (pbeq _) (na _), fun x p u v => laws_FnPairsOfForests_C10b_i1 _ _ _ _ _ _ _ _ _ _ _ s i1 i2 (nbeq _) (pbeq _) (nb _)⟩

theorem wd_bnd {l : List Int} (h : isWd l = true) : l.length ≤ 20 ∧ ∀ n ∈ l, -(2 ^ 40) ≤ n ∧ n ≤ 2 ^ 40 := by
  obtain ⟨h1, h2⟩ := Bool.and_eq_true_iff.1 h
  refine ⟨of_decide_eq_true h1, fun n hn => ?_⟩
  have := of_decide_eq_true (List.all_eq_true.1 h2 n hn)
  omega

theorem foOk_hang (t : Tr) (h : t.c ≤ 8) : foOk (trim (hangT t)) = true := by
  have e := combT_c (hangT t)
  rw [comb_hang] at e
  have l := trim_len (trim (hangT t))
  have l2 := trim_len (hangT t)
  exact decide_eq_true ⟨by omega, by rw [trim_sumC]; omega⟩

theorem gd_hang (t : Tr) (h : t.c ≤ 8) : Gd (trim (hangT t)) := by
  have := of_decide_eq_true (foOk_hang t h)
  rw [trim_trim] at this
  exact ⟨trim_trim _, this.1, this.2⟩

theorem wofV_gd {F : List Tr} (hF : Gd F) : wofB (tx F) = isWd (ints (woR (expsL F) 0)) ∧ wofV (tx F) = if isWd (ints (woR (expsL F) 0)) = true then ints (woR (expsL F) 0) else [] := by
  unfold wofV wofB wofW
  rw [hF.fo, hF.trees, Bool.true_and]
  exact ⟨rfl, rfl⟩

theorem pz3 (l m : List Int) (h : Bytes l) (hm : Bytes m) (hl : l.length ≤ 2 ^ 40) (hml : m.length ≤ 2 ^ 40) (x : Bool) :
    RestSC cfg.P 2 (rest P_laws_FnPairsOfForests 3) (laws_FnPairsOfForests_C3a l m x) .ret (laws_FnPairsOfForests_R1 true) := by
  obtain ⟨na, nb⟩ := pz10 hm hml
  obtain ⟨a, b, ha, hb, s⟩ := drawFP h hl
  have i1 := implFop_SC a b (by omega) (by omega)
  have i2 := specFop_SC a b (by omega) (by omega)
  have i3 := impl_IsPair_p1 _ _ _ (pairOf_SC a b (by omega) (by omega))
  cases hp : isPair a b with
  | false =>
    have hB : fopB a b = false := by rw [fopB, hp]; rfl
    rw [hp] at i3
    rw [fopV, fopW, hB, if_neg (by simp)] at i1 i2
    have n := nTexts_SC [] [] (by simp)
    rw [decide_eq_true rfl] at n
    exact laws_FnPairsOfForests_C3a_i1 _ _ _ _ _ _ _ _ _ _ _ s i1 i2 rfl n n i3 rfl (laws_FnPairsOfForests_C8a_i9 _ _ _ _ _ (nb _ _ _ _))
  | true =>
    obtain ⟨x1, x2, x3, x4, x5⟩ := isPair_trees hp
    have hr := red_c (treeOf a).c (treeOf a, treeOf b)
    simp only at hr
    have r1 : (fopR a b).1.c ≤ 8 := by show (red (treeOf a).c _).1.c ≤ 8; omega
    have r2 : (fopR a b).2.c ≤ 8 := by show (red (treeOf a).c _).2.c ≤ 8; omega
    have rq : (fopR a b).1.c = (fopR a b).2.c := red_eqc _ _ x5
    have rr : bothL (fopR a b) = [] := red_done _ _ (Nat.le_refl _)
    have hF := gd_hang _ r1
    have hG := gd_hang _ r2
    have hB : fopB a b = true := by
      unfold fopB fopF fopG
      rw [hp, foOk_hang _ r1, foOk_hang _ r2]; rfl
    have fF : foTexts (fopF a b) = tx (trim (hangT (fopR a b).1)) := (foT_of hF fun i => rfl).1
    have fG : foTexts (fopG a b) = tx (trim (hangT (fopR a b).2)) := (foT_of hG fun i => rfl).1
    rw [hp] at i3
    rw [fopV, fopW, hB, if_pos rfl, if_pos rfl, fF, fG] at i1 i2
    have n1 := nT_same (a := tx (trim (hangT (fopR a b).1))) (by have := hF.row.len; omega)
    have n2 := nT_same (a := tx (trim (hangT (fopR a b).2))) (by have := hG.row.len; omega)
    refine laws_FnPairsOfForests_C3a_i1 _ _ _ _ _ _ _ _ _ _ _ s i1 i2 rfl n1 n2 i3 rfl ?_
    have k1 := gfr_SC hF hG
    rw [frP_hang _ rq rr, decide_eq_true r1, fitV, if_pos r1] at k1
    have k2 := implWop_SC a b (by omega) (by omega)
    rw [wopV, hp, if_pos rfl] at k2
    have k3 := implWof_SC (tx (trim (hangT (fopR a b).1))) hF.row.tx (by have := hF.row.len; omega)
    have k4 := implWof_SC (tx (trim (hangT (fopR a b).2))) hG.row.tx (by have := hG.row.len; omega)
    rw [(wofV_gd hF).1, (wofV_gd hF).2] at k3
    rw [(wofV_gd hG).1, (wofV_gd hG).2] at k4
    have k6 := nRed_SC a b hp
    have hw : wopW a b = ints (woR (expsL (trim (hangT (fopR a b).1))) 0) ++ invW (ints (woR (expsL (trim (hangT (fopR a b).2))) 0)) := by
      show norW (fopR a b) = _
      unfold norW
      rw [wo_hang, wo_hang]
    have hi : ∀ v : List Int, (v = [] ∨ isWd v = true) → ∃ v' vb, SC cfg.P i_impl_InverseWord [.s (.v (.sl (.int .i64)) v)] (.tup [.own t_int (.int .i64) v', .v .bool vb]) [] := fun v hv => by
      have hlen : v.length ≤ 20 := by rcases hv with rfl | g; simp; exact (wd_bnd g).1
      have w := isWord_SC v (by omega)
      cases g : isWd v with
      | false => rw [g] at w; exact ⟨_, _, impl_InverseWord_p2 _ w⟩
      | true => rw [g] at w; exact ⟨_, _, impl_InverseWord_p1 _ _ w (inverseOf_SC v (by omega) (wd_bnd g).2)⟩
    cases w1 : isWd (ints (woR (expsL (trim (hangT (fopR a b).1))) 0)) with
    | false =>
      rw [w1] at k3
      cases w2 : isWd (ints (woR (expsL (trim (hangT (fopR a b).2))) 0)) with
      | false =>
        rw [w2, if_neg (by simp)] at k4
        obtain ⟨v', vb, k5⟩ := hi [] (.inl rfl)
        exact laws_FnPairsOfForests_C8a_i4 _ _ _ _ _ _ _ _ _ _ _ _ _ k1 k2 k3 k4 k5 k6 (pbeq _) (na _)
      | true =>
        rw [w2, if_pos rfl] at k4
        obtain ⟨v', vb, k5⟩ := hi _ (.inr w2)
        exact laws_FnPairsOfForests_C8a_i4 _ _ _ _ _ _ _ _ _ _ _ _ _ k1 k2 k3 k4 k5 k6 (pbeq _) (na _)
    | true =>
      rw [w1, if_pos rfl] at k3
      cases w2 : isWd (ints (woR (expsL (trim (hangT (fopR a b).2))) 0)) with
      | false =>
        rw [w2, if_neg (by simp)] at k4
        obtain ⟨v', vb, k5⟩ := hi [] (.inl rfl)
        exact laws_FnPairsOfForests_C8a_i3 _ _ _ _ _ _ _ _ _ _ _ _ k1 k2 k3 k4 k5 k6 (pbeq _) (na _)
      | true =>
        rw [w2, if_pos rfl] at k4
        have b1 := wd_bnd w1
        have b2 := wd_bnd w2
        have w := isWord_SC (ints (woR (expsL (trim (hangT (fopR a b).2))) 0)) (by omega)
        rw [w2] at w
        have k5 := impl_InverseWord_p1 _ _ w (inverseOf_SC _ (by omega) b2.2)
        have ns := nSame_SC (wopW a b) (by have := (wop_facts a b hp).2.1; omega)
        have il : (invW (ints (woR (expsL (trim (hangT (fopR a b).2))) 0))).length ≤ 20 := by unfold invW; rw [List.length_map, List.length_reverse]; exact b2.1
        refine laws_FnPairsOfForests_C8a_i1 _ _ _ _ _ _ _ _ _ _ _ k1 k2 k3 k4 k5 k6 (pbeq _) (by unfold sizeOK lim; rw [List.length_nil]; omega) (by unfold sizeOK lim; rw [List.nil_append]; omega) ?_ (na _)
        rw [List.nil_append, ← hw]
        exact ns

/-- The law. -/
theorem law_Pz (a b : List Int) (_ha : a.length ≤ 2 ^ 63 - 1) (h1 : ∀ n ∈ a, (Lit.int .u8 n).wf = true) (_hb : b.length ≤ 2 ^ 63 - 1) (h2 : ∀ n ∈ b, (Lit.int .u8 n).wf = true) :
    SC cfg.P i_laws_FnPairsOfForests [.s (.v (.sl (.int .u8)) a), .s (.v (.sl (.int .u8)) b)] (.s (.v .bool true)) [] := by
  by_cases g1 : a.length ≤ 1048576
  · have w : IntKind.wrap .i64 (1048576 - ((a.length : Nat) : Int)) = 1048576 - ((a.length : Nat) : Int) := by rw [w64] <;> omega
    by_cases g2 : a.length + b.length ≤ 1048576
    · have hbig : SC cfg.P i_laws_big [.s (.v (.sl (.int .u8)) a), .s (.v (.sl (.int .u8)) b)] (.s (.v .bool false)) [] := laws_big_p3 _ _ (by omega) (by rw [w]; omega)
      exact laws_FnPairsOfForests_R1_of _ _ _ (laws_FnPairsOfForests_C0a_i2 _ _ hbig (pz3 a b (fun x hx => byte_wf (h1 x hx)) (fun x hx => byte_wf (h2 x hx)) (by omega) (by omega) _))
    · exact laws_FnPairsOfForests_R1_of _ _ _ (laws_FnPairsOfForests_C0a_x1 _ _ (laws_big_p2 _ _ (by omega) (by rw [w]; omega)))
  · exact laws_FnPairsOfForests_R1_of _ _ _ (laws_FnPairsOfForests_C0a_x1 _ _ (laws_big_p1 _ _ (by omega)))

end Go.AI
