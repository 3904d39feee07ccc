/- Contracts: inverses, mirrors, reduced pairs, inner pairs. -/
import Derived.Test.YtdfllkeekehplaaPa
import Derived.Test.YtdfllkeekehplaaPb
import Derived.Test.YtdfllkeekehplaaPc
import Derived.Test.YtdfllkeekehplaaGm
import Derived.Test.YtdfllkeekehplaaFpm
import Derived.Test.YtdfllkeekehplaaCSb
import Derived.Test.YtdfllkeekehplaaCFp
set_option autoImplicit false
set_option maxRecDepth 100000
set_option linter.unusedVariables false
namespace Go.AI
open Go.Proofs

/-- A pair that may be. -/
def Ok8 (p : Tr × Tr) : Prop := p.1.c = p.2.c ∧ p.1.c ≤ 8

theorem ok_of {a b : List UInt8} (h : isPair a b = true) : Ok8 (treeOf a, treeOf b) ∧ (bs a, bs b) = pt (treeOf a, treeOf b) := by
  obtain ⟨x1, x2, x3, x4, x5⟩ := isPair_trees h
  refine ⟨⟨x5, x3⟩, ?_⟩
  show (bs a, bs b) = (bs (txt (treeOf a)), bs (txt (treeOf b)))
  rw [← x1, ← x2]

theorem is_txt {p : Tr × Tr} (h : Ok8 p) : isPair (txt p.1) (txt p.2) = true := by
  rw [isPair_txt p h.1]; exact decide_eq_true h.2

theorem tree_txt {p : Tr × Tr} (h : Ok8 p) : treeOf (txt p.1) = p.1 ∧ treeOf (txt p.2) = p.2 := by
  obtain ⟨x1, x2, _, _, _⟩ := isPair_trees (is_txt h)
  exact ⟨(txt_inj' x1).symm, (txt_inj' x2).symm⟩

theorem txt8 {p : Tr × Tr} (h : Ok8 p) : (txt p.1).length ≤ 25 ∧ (txt p.2).length ≤ 25 := by
  have := txt_len p.1
  have := txt_len p.2
  have := h.1
  have := h.2
  omega

theorem po_SC (p : Tr × Tr) (h : Ok8 p) : SC cfg.P i_impl_pairOf [.s (.v (.pr .str .str) (pt p))] (.tup [.v (.pr .tree .tree) p, .v .bool true]) [] := by
  have ht := txt8 h
  have r := pairOf_SC (txt p.1) (txt p.2) (by omega) (by omega)
  rw [is_txt h, (tree_txt h).1, (tree_txt h).2] at r
  exact r

theorem inv_SC (p : Tr × Tr) (h : Ok8 p) : SC cfg.P i_impl_InversePair [.s (.v (.pr .str .str) (pt p))] (.tup [.v (.pr .str .str) (pt (swp p)), .v .bool true]) [] := by
  obtain ⟨h1, h2⟩ := h
  exact impl_InversePair_p1 _ _ _ _ (po_SC p ⟨h1, h2⟩) (impl_pair_inverse_p1 p) (plain_SC (swp p) (by show p.2.c ≤ _; omega) (by show p.1.c ≤ _; omega))

theorem mirror_SC : ∀ t : Tr, SC cfg.P i_impl_node_mirror [.s (.v .tree t)] (.s (.v .tree (mir t))) []
  | .leaf => impl_node_mirror_p1
  | .node l r => impl_node_mirror_p2 l r _ _ (mirror_SC r) (mirror_SC l)

theorem mirP_SC (p : Tr × Tr) (h : Ok8 p) : SC cfg.P i_impl_MirrorPair [.s (.v (.pr .str .str) (pt p))] (.tup [.v (.pr .str .str) (pt (mirP p)), .v .bool true]) [] := by
  obtain ⟨h1, h2⟩ := h
  exact impl_MirrorPair_p1 _ _ _ _ _ (po_SC p ⟨h1, h2⟩) (mirror_SC p.1) (mirror_SC p.2) (plain_SC (mirP p) (by show (mir p.1).c ≤ _; rw [mir_c]; omega) (by show (mir p.2).c ≤ _; rw [mir_c]; omega))

theorem isRed_SC (p : Tr × Tr) (h : Ok8 p) (hb : bothL p = []) : SC cfg.P i_impl_IsReduced [.s (.v (.pr .str .str) (pt p))] (.tup [.v .bool true, .v .bool true]) [] := by
  have r := both_SC p (by have := h.2; omega) (by have := h.1; have := h.2; omega)
  rw [hb] at r
  exact impl_IsReduced_p1 _ _ _ (po_SC p h) r rfl

theorem notRed_SC (p : Tr × Tr) (h : Ok8 p) (hb : bothL p ≠ []) : SC cfg.P i_impl_IsReduced [.s (.v (.pr .str .str) (pt p))] (.tup [.v .bool false, .v .bool true]) [] := by
  have r := both_SC p (by have := h.2; omega) (by have := h.1; have := h.2; omega)
  refine impl_IsReduced_p2 _ _ _ (po_SC p h) r ?_
  have : (ints (bothL p)).length = (bothL p).length := List.length_map ..
  have h0 := List.length_pos_iff.2 hb
  omega

theorem same_SC' (p q : Tr × Tr) (hp : Ok8 p) (hq : Ok8 q) (h : redP p = redP q) : SC cfg.P i_laws_fSameMap [.s (.v (.pr .str .str) (pt p)), .s (.v (.pr .str .str) (pt q))] (.s (.v .bool true)) [] := by
  have t1 := txt8 hp
  have t2 := txt8 hq
  have r := implSame_SC (txt p.1) (txt p.2) (txt q.1) (txt q.2) (by omega) (by omega) (by omega) (by omega)
  rw [is_txt hp, is_txt hq] at r
  unfold sameB at r
  rw [is_txt hp, is_txt hq, (tree_txt hp).1, (tree_txt hp).2, (tree_txt hq).1, (tree_txt hq).2, decide_eq_true h] at r
  exact laws_fSameMap_p1 _ _ _ r

theorem prod_SC (p q : Tr × Tr) (hp : Ok8 p) (hq : Ok8 q) : SC cfg.P i_impl_ProductPair [.s (.v (.pr .str .str) (pt p)), .s (.v (.pr .str .str) (pt q))] (.tup [.v (.pr .str .str) (fitV (timesT p q)), .v .bool (decide ((timesT p q).1.c ≤ 8))]) [] := by
  have t1 := txt8 hp
  have t2 := txt8 hq
  have r := implPP_SC (txt p.1) (txt p.2) (txt q.1) (txt q.2) (by omega) (by omega) (by omega) (by omega)
  have e : twoB (txt p.1) (txt p.2) (txt q.1) (txt q.2) = true := by unfold twoB; rw [is_txt hp, is_txt hq]; rfl
  unfold ppV ppB at r
  rw [if_pos e, e, Bool.true_and] at r
  unfold prodP at r
  rw [(tree_txt hp).1, (tree_txt hp).2, (tree_txt hq).1, (tree_txt hq).2] at r
  exact r

theorem fit_ok {p : Tr × Tr} (h : p.1.c ≤ 8) : fitV p = pt p := if_pos h

/-! ### Ends -/

def slF (a b : List UInt8) : Int := (a.length : Int) - (b.length : Int)

theorem slope_SC (a b : List UInt8) (ha : a.length ≤ 2 ^ 30) (hb : b.length ≤ 2 ^ 30) : SC cfg.P i_impl_piece_slope [.s (.v (.pr (.int .i64) (.pr (.int .i64) (.pr (.int .i64) (.int .i64)))) (pc a b))] (.s (.v (.int .i64) (slF a b))) [] := by
  have := impl_piece_slope_p1 (pc a b)
  have e : IntKind.wrap .i64 ((pc a b).2.2.1 - (pc a b).2.2.2) = slF a b := by
    show IntKind.wrap .i64 ((a.length : Int) - (b.length : Int)) = _
    rw [slF, w64] <;> omega
  rw [e] at this
  exact this

theorem getD_zip {α β γ : Type} (g : α → β → γ) (l : List α) (m : List β) (i : Nat) (h1 : i < l.length) (h2 : i < m.length) (a : α) (b : β) (d : γ) :
    List.getD (List.zipWith g l m) i d = g (l.getD i a) (m.getD i b) := by
  simp [List.getD_eq_getElem?_getD, List.getElem?_zipWith, List.getElem?_eq_getElem h1, List.getElem?_eq_getElem h2]

theorem slopes_SC (p : Tr × Tr) (h1 : p.1.c ≤ 20) (h2 : p.1.c = p.2.c) :
    ∃ l : List Int, l.length = p.1.c + 1 ∧ (∀ i, i < p.1.c + 1 → l.getD i 0 = slF ((adL p.1 []).getD i []) ((adL p.2 []).getD i [])) ∧ SC cfg.P i_impl_pair_slopes [.s (.v (.pr .tree .tree) p)] (.s (.own t_int (.int .i64) l)) [] := by
  have hs := pieces_SC p (by omega) h2
  have l1 := adL_len p.1 []
  have l2 := adL_len p.2 []
  have lz : (List.zipWith pc (adL p.1 []) (adL p.2 [])).length = p.1.c + 1 := by rw [List.length_zipWith]; omega
  have key := loop_up (P := cfg.P) (np := 1) (c := lb P_impl_pair_slopes 0)
    (fun i (cur : List Int) => impl_pair_slopes_L0a ((List.length (List.zipWith pc (adL p.1 []) (adL p.2 [])) : Nat) : Int) (i : Int) cur (List.zipWith pc (adL p.1 []) (adL p.2 [])))
    (fun cur => impl_pair_slopes_L0X1 ((List.length (List.zipWith pc (adL p.1 []) (adL p.2 [])) : Nat) : Int) ((List.length (List.zipWith pc (adL p.1 []) (adL p.2 [])) : Nat) : Int) false cur (List.zipWith pc (adL p.1 []) (adL p.2 [])))
    (fun i cur => cur ++ [slF ((adL p.1 []).getD i []) ((adL p.2 []).getD i [])]) (fun i cur => cur.length ≤ i) (p.1.c + 1)
    (fun i cur hi hI => by
      refine ⟨by simp; omega, fun e st hn => ?_⟩
      have hg : List.getD (List.zipWith pc (adL p.1 []) (adL p.2 [])) ((i : Int)).toNat ((0 : Int), ((0 : Int), ((0 : Int), (0 : Int)))) = pc ((adL p.1 []).getD i []) ((adL p.2 []).getD i []) := by
        rw [Int.toNat_natCast]; exact getD_zip pc _ _ i (by omega) (by omega) [] [] _
      have b1 := adL_bound p.1 [] _ (gD_mem (l := adL p.1 []) (show i < (adL p.1 []).length by omega) [])
      have b2 := adL_bound p.2 [] _ (gD_mem (l := adL p.2 []) (show i < (adL p.2 []).length by omega) [])
      simp only [List.length_nil] at b1 b2
      have s1 := slope_SC ((adL p.1 []).getD i []) ((adL p.2 []).getD i []) (by omega) (by omega)
      rw [← hg] at s1
      rw [← wrap_succ (by omega)] at hn
      exact impl_pair_slopes_L0a_i1 _ _ _ _ _ (by omega) (by omega) (by omega) (by omega) s1 (sizeOK_one (by omega)) hn)
    (fun cur _ => by rw [lz]; exact impl_pair_slopes_L0a_x2 _ _ _ _ (by omega))
    (p.1.c + 1) 0 [] (by omega) (by simp)
  have hL := key.1
  rw [itr_map (fun i => slF ((adL p.1 []).getD i []) ((adL p.2 []).getD i [])), List.nil_append] at hL
  refine ⟨_, ?_, fun i hi => ?_, impl_pair_slopes_p1 _ _ _ _ _ _ _ hs hL⟩
  · simp
  · rw [List.getD_eq_getElem?_getD, List.getElem?_map, List.getElem?_range' hi]
    simp

theorem adL_first : ∀ (t : Tr) (q : List UInt8), ((adL t q).getD 0 []).length = q.length + ld t
  | .leaf, q => rfl
  | .node l r, q => by
    have h := adL_first l (q ++ [48])
    have hl := adL_len l (q ++ [48])
    rw [adL, List.getD_eq_getElem?_getD, List.getElem?_append_left (by omega), ← List.getD_eq_getElem?_getD, h, List.length_append, List.length_singleton, ld]
    omega

theorem adL_last : ∀ (t : Tr) (q : List UInt8), ((adL t q).getD t.c []).length = q.length + rd' t
  | .leaf, q => rfl
  | .node l r, q => by
    have h := adL_last r (q ++ [49])
    have hl := adL_len l (q ++ [48])
    have hr := adL_len r (q ++ [49])
    have e : (Tr.node l r).c = (adL l (q ++ [48])).length + r.c := by rw [hl]; simp only [Tr.c]; omega
    rw [adL, List.getD_eq_getElem?_getD, e, List.getElem?_append_right (by omega), Nat.add_sub_cancel_left, ← List.getD_eq_getElem?_getD, h, List.length_append, List.length_singleton, rd']
    omega

theorem inner_SC (p : Tr × Tr) (h : Ok8 p) (e1 : ld p.1 = ld p.2) (e2 : rd' p.1 = rd' p.2) : SC cfg.P i_impl_IsInner [.s (.v (.pr .str .str) (pt p))] (.tup [.v .bool true, .v .bool true]) [] := by
  obtain ⟨l, hl, hg, hs⟩ := slopes_SC p (by have := h.2; omega) h.1
  have ew : IntKind.wrap .i64 ((((List.length l : Nat) : Int)) - 1) = (p.1.c : Int) := by have := h.2; rw [hl, w64] <;> omega
  have r := impl_EndSlopes_p1 (pt p) p l (po_SC p h) hs (by omega) (by show 0 < _; omega) (by rw [ew]; omega) (by rw [ew]; omega) (by rw [ew]; show p.1.c < _; omega)
  rw [ew] at r
  have z1 : List.getD l ((0 : Int)).toNat 0 = 0 := by
    show List.getD l 0 0 = 0
    rw [hg 0 (by omega), slF, adL_first, adL_first, e1]; omega
  have z2 : List.getD l ((p.1.c : Int)).toNat 0 = 0 := by
    rw [Int.toNat_natCast, hg _ (by omega), slF, adL_last]
    have : (adL p.2 []).getD p.1.c [] = (adL p.2 []).getD p.2.c [] := by rw [h.1]
    rw [this, adL_last, e2]; omega
  rw [z1, z2] at r
  exact impl_IsInner_p1 _ _ _ r rfl rfl

end Go.AI
