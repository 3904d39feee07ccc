/- The law of ExponentsOfTrees, last part. -/
import Derived.Test.YtdfllkeekehplaaEx2
set_option autoImplicit false
set_option maxRecDepth 100000
set_option linter.unusedVariables false
namespace Go.AI
open Go.Proofs

/-! ### Plain -/

theorem getD_zeros (L : List Nat) (z i : Nat) : (L ++ List.replicate z 0).getD i 0 = L.getD i 0 := by
  rw [List.getD_eq_getElem?_getD, List.getD_eq_getElem?_getD]
  by_cases h : i < L.length
  · rw [List.getElem?_append_left h]
  · rw [List.getElem?_append_right (by omega), List.getElem?_eq_none (l := L) (by omega), List.getElem?_replicate]
    split <;> rfl

theorem exps_trim (ts : List Tr) : ∃ z, expsL ts = expsL (trim ts) ++ List.replicate z 0 := by
  obtain ⟨r, e, hr⟩ := trim_prefix ts
  have er : r = List.replicate r.length .leaf := List.eq_replicate_iff.2 ⟨rfl, fun t ht => by have := hr t ht; cases t <;> simp_all [Tr.isLeaf]⟩
  refine ⟨r.length, ?_⟩
  conv => lhs; rw [e, er, expsL_app, expsL_leaves]

theorem exR_toe {l : List Int} (ho : l.all ok8 = true) (i : Nat) : (exR (toeT l)).getD i 0 = (l.map Int.toNat).getD i 0 := by
  unfold toeT
  rw [exR_hang, hang_comb]
  obtain ⟨z, e⟩ := exps_trim (bldP (l.map Int.toNat) (List.replicate (l.map Int.toNat).sum .leaf))
  rw [exps_bld _ _ (by rw [List.length_replicate]; exact Nat.le_refl _), expsL_leaves] at e
  have e1 := getD_zeros (l.map Int.toNat) (l.map Int.toNat).sum i
  rw [e, getD_zeros] at e1
  have e2 := getD_zeros (expsL (trim (bldP (l.map Int.toNat) (List.replicate (l.map Int.toNat).sum .leaf)))) 1 i
  rw [show List.replicate 1 0 = [0] from rfl] at e2
  rw [e2, e1]

theorem toe_len {l : List Int} (ho : l.all ok8 = true) (hz : l.length = 0 ∨ l.getD (l.length - 1) 0 ≠ 0) : l.length ≤ (exR (toeT l)).length := by
  rcases hz with h | h
  · omega
  · by_cases hp : 0 < l.length
    · have e := exR_toe ho (l.length - 1)
      have hlt : l.length - 1 < l.length := by omega
      have hm : (l.map Int.toNat).getD (l.length - 1) 0 = (l.getD (l.length - 1) 0).toNat := gD_map Int.toNat l _ hlt 0 0
      have hn := of_decide_eq_true (List.all_eq_true.1 ho _ (gD_mem hlt 0))
      rw [hm] at e
      by_cases g : l.length - 1 < (exR (toeT l)).length
      · omega
      · rw [List.getD_eq_getElem?_getD, List.getElem?_eq_none (by omega)] at e
        have : (none : Option Nat).getD 0 = 0 := rfl
        omega
    · omega

theorem ints_getD (L : List Nat) (i : Nat) : (ints L).getD i 0 = ((L.getD i 0 : Nat) : Int) := by
  by_cases h : i < L.length
  · exact ints_get L i h
  · rw [List.getD_eq_getElem?_getD, List.getD_eq_getElem?_getD, List.getElem?_eq_none (l := L) (by omega), List.getElem?_eq_none (by unfold ints; rw [List.length_map]; omega)]
    rfl

/-- What stands in a word of exponents. -/
theorem woR_at (L : List Nat) (k i : Nat) (hk : k < L.length) (hi : i < L.getD k 0) : (L.take k).sum + i < (woR L 0).length ∧ (woR L 0).getD ((L.take k).sum + i) 0 = k + 1 := by
  have ek : L.getD k 0 = L[k] := by rw [List.getD_eq_getElem?_getD, List.getElem?_eq_getElem hk]; rfl
  have e : woR L 0 = woR (L.take k) 0 ++ (List.replicate L[k] (k + 1) ++ woR (L.drop (k + 1)) (k + 1)) := by
    conv => lhs; rw [← List.take_append_drop k L, woR_append, List.drop_eq_getElem_cons hk]
    rw [List.length_take, Nat.min_eq_left (by omega), Nat.zero_add, woR]
  have l1 : (woR (L.take k) 0).length = (L.take k).sum := woR_length _ _
  rw [e]
  constructor
  · rw [List.length_append, List.length_append, l1, List.length_replicate]; omega
  · rw [List.getD_eq_getElem?_getD, List.getElem?_append_right (by omega), l1, Nat.add_sub_cancel_left, List.getElem?_append_left (by rw [List.length_replicate]; omega), List.getElem?_replicate, if_pos (by omega)]
    rfl

theorem wop_comb (a : List UInt8) (h : isTree a = true) : isPair a (txt (combR (treeOf a).c)) = true ∧ wopW a (txt (combR (treeOf a).c)) = ints (woR (exR (treeOf a)) 0) := by
  obtain ⟨e, hc⟩ := treeOf_txt h
  have hp := isPair_txt (treeOf a, combR (treeOf a).c) (by rw [combR_c])
  simp only at hp
  rw [← e, decide_eq_true hc] at hp
  refine ⟨hp, ?_⟩
  obtain ⟨_, x2, _⟩ := isPair_trees hp
  unfold wopW
  rw [← txt_inj' x2, red_comb]
  unfold norW
  rw [exR_combR, woR_zeros, wo_hang (combT _), hang_comb, trim_trim, ← wo_hang]
  simp [ints, invW]

/-! ### Contracts -/

theorem nSame_SC (L : List Int) (hl : L.length ≤ 2 ^ 40) : SC cfg.P i_laws_nSame [.s (.v (.sl (.int .i64)) L), .s (.v (.sl (.int .i64)) L)] (.s (.v .bool true)) [] := by
  have key : ∀ (m k : Nat), L.length - k = m → k ≤ L.length → LoopSC cfg.P 2 (lb P_laws_nSame 0) (laws_nSame_L0a L L (L.length : Int) (k : Int)) (.exit 0) (laws_nSame_L0X2 L L (L.length : Int) (L.length : Int) false) := by
    intro m
    induction m with
    | zero =>
      intro k hm hk
      have e : k = L.length := by omega
      subst e
      exact laws_nSame_L0a_x3 _ _ _ _ (by omega)
    | succ m ih =>
      intro k hm hk
      have k1 := ih (k + 1) (by omega) (by omega)
      rw [← wrap_succ (by omega)] at k1
      exact laws_nSame_L0a_i2 _ _ _ _ (by omega) (by omega) (by omega) (by omega) rfl k1
  exact laws_nSame_p3 _ _ _ _ _ _ _ rfl (key _ 0 rfl (by omega))

theorem nSum_SC (L : List Nat) (hl : L.length ≤ 2 ^ 20) (hs : L.sum ≤ 2 ^ 20) : SC cfg.P i_laws_nSum [.s (.v (.sl (.int .i64)) (ints L))] (.s (.v (.int .i64) ((L.sum : Nat) : Int))) [] := by
  have hlen : (ints L).length = L.length := List.length_map ..
  have key : ∀ (m k : Nat), L.length - k = m → k ≤ L.length → LoopSC cfg.P 1 (lb P_laws_nSum 0) (laws_nSum_L0a (((L.take k).sum : Nat) : Int) (ints L) ((List.length (ints L) : Nat) : Int) (k : Int)) (.exit 0) (laws_nSum_L0X1 ((L.sum : Nat) : Int) (ints L) ((List.length (ints L) : Nat) : Int) (L.length : Int) false) := by
    intro m
    induction m with
    | zero =>
      intro k hm hk
      have e : k = L.length := by omega
      subst e
      rw [List.take_length]
      exact laws_nSum_L0a_x2 _ _ _ _ (by omega)
    | succ m ih =>
      intro k hm hk
      have hlt : k < L.length := by omega
      have k1 := ih (k + 1) (by omega) (by omega)
      have hg : List.getD (ints L) ((k : Int)).toNat 0 = ((L[k] : Nat) : Int) := by rw [Int.toNat_natCast, ints_get L k hlt, List.getD_eq_getElem?_getD, List.getElem?_eq_getElem hlt]; rfl
      have et : (L.take (k + 1)).sum = (L.take k).sum + L[k] := by rw [List.take_succ_eq_append_getElem hlt, List.sum_append]; simp
      have hle : (L.take (k + 1)).sum ≤ L.sum := by
        conv => rhs; rw [← List.take_append_drop (k + 1) L, List.sum_append]
        omega
      have w : IntKind.wrap .i64 ((((L.take k).sum : Nat) : Int) + List.getD (ints L) ((k : Int)).toNat 0) = (((L.take (k + 1)).sum : Nat) : Int) := by rw [hg, et]; rw [w64] <;> omega
      refine laws_nSum_L0a_i1 _ _ _ _ (by omega) (by omega) (by omega) ?_
      rw [w, wrap_succ (by omega)]
      exact k1
  have k0 := key _ 0 rfl (by omega)
  rw [List.take_zero] at k0
  exact laws_nSum_p1 _ _ _ _ _ _ k0

theorem exps_both (a : List UInt8) (ha : a.length ≤ 2 ^ 40) : ∃ L, SC cfg.P i_impl_ExponentsOf [.s (.v .str (bs a))] (.tup [.own t_int (.int .i64) L, .v .bool (isTree a)]) [] ∧ SC cfg.P i_spec_ExponentsOf [.s (.v .str (bs a))] (.tup [.own t_int (.int .i64) L, .v .bool (isTree a)]) [] ∧ L.length ≤ 10 ∧
    (isTree a = true → L = ints (exR (treeOf a))) := by
  have h0 := parse_SC a ha
  have h1 := trIs_SC a ha
  cases t : isTree a with
  | false => rw [t] at h0 h1; exact ⟨_, impl_ExponentsOf_p2 _ _ h0, spec_ExponentsOf_p2 _ h1, by simp, fun g => (by cases g)⟩
  | true =>
    rw [t] at h0 h1
    obtain ⟨e, hc⟩ := treeOf_txt t
    have hl := exR_len (treeOf a)
    have r := wdRight_SC (treeOf a) (by omega)
    rw [← e] at r
    exact ⟨_, impl_ExponentsOf_p1 _ _ _ h0 (exponents_SC (treeOf a) (by omega)), spec_ExponentsOf_p1 _ _ h1 r, by unfold ints; rw [List.length_map]; omega, fun _ => rfl⟩

/-! ### Draws -/

theorem drawEO {l : List Int} (h : Bytes l) (hl : l.length ≤ 2 ^ 40) : ∃ a : List UInt8, a.length ≤ 2 ^ 11 ∧ SC cfg.P i_spec_DrawExponentsOf [.s (.v (.sl (.int .u8)) l)] (.s (.v .str (bs a))) [] := by
  obtain ⟨t, c1, ht, h1, s1⟩ := tree_SC (cur0 h hl) (by omega) 8 (by omega)
  obtain ⟨a, rfl⟩ := bs_ex t
  rw [bs_size] at ht
  exact ⟨a, by omega, spec_DrawExponentsOf_p1 _ _ _ s1⟩

theorem dto0 (L : List Int) (hl : L.length ≤ 2 ^ 20) : ∀ (n : Nat), n ≤ L.length → ∃ (n' : Nat) (b : Bool), n' ≤ L.length ∧ LoopSC cfg.P 1 (lb P_spec_DrawTreeOfExponents 0) (spec_DrawTreeOfExponents_L0a (n : Int) L) (.exit 0) (spec_DrawTreeOfExponents_L0X1 (n' : Int) b L) := by
  intro n
  induction n with
  | zero => intro h; exact ⟨0, false, h, spec_DrawTreeOfExponents_L0a_x3 _ _ (by omega)⟩
  | succ n ih =>
    intro h
    have w : IntKind.wrap .i64 (((n + 1 : Nat) : Int) - (1 : Int)) = (n : Int) := by rw [w64] <;> omega
    by_cases g : List.getD L ((n : Int)).toNat 0 = 0
    · obtain ⟨n', b, k1, k2⟩ := ih (by omega)
      exact ⟨n', b, k1, spec_DrawTreeOfExponents_L0a_i1 _ _ (by omega) (by rw [w]; omega) (by rw [w]; omega) (by rw [w]; omega) (by rw [w]; exact g) (by rw [w]; exact k2)⟩
    · exact ⟨n + 1, false, h, spec_DrawTreeOfExponents_L0a_x2 _ _ (by omega) (by rw [w]; omega) (by rw [w]; omega) (by rw [w]; omega) (by rw [w]; exact g)⟩

theorem dto1 : ∀ (m : Nat) {n : Nat} {c : Cur} (cur : List Int), CurOk n c → n + 2 * m ≤ 2 ^ 30 → cur.length + m ≤ 20 →
    ∃ (c' : Cur) (L : List Int), L.length ≤ 20 ∧ CurOk (n + 2 * m) c' ∧ LoopSC cfg.P 1 (lb P_spec_DrawTreeOfExponents 1) (spec_DrawTreeOfExponents_L1a (m : Int) cur c) (.exit 2) (spec_DrawTreeOfExponents_L1X1 0 false L c') := by
  intro m
  induction m with
  | zero => intro n c cur h hn hc; exact ⟨c, cur, by omega, h, spec_DrawTreeOfExponents_L1a_x2 _ _ _ (by omega)⟩
  | succ m ih =>
    intro n c cur h hn hc
    obtain ⟨v, c1, _, h1, s1⟩ := among_SC h (by omega) [0, 0, 1, 1, 2] (by decide) (by decide)
    obtain ⟨c2, L, k1, k2, k3⟩ := ih (cur ++ [v]) h1 (by omega) (by rw [List.length_append, List.length_singleton]; omega)
    have w : IntKind.wrap .i64 (((m + 1 : Nat) : Int) - (1 : Int)) = (m : Int) := by rw [w64] <;> omega
    exact ⟨c2, L, k1, k2.mono (by omega), spec_DrawTreeOfExponents_L1a_i1 _ _ _ _ _ (by omega) s1 (by unfold sizeOK lim; rw [List.length_singleton]; omega) (by rw [w]; exact k3)⟩

theorem drawTE {l : List Int} (h : Bytes l) (hl : l.length ≤ 2 ^ 40) : ∃ L : List Int, L.length ≤ 2 ^ 20 ∧ SC cfg.P i_spec_DrawTreeOfExponents [.s (.v (.sl (.int .u8)) l)] (.s (.own t_int (.int .i64) L)) [] := by
  obtain ⟨t, c1, ht, h1, s1⟩ := tree_SC (cur0 h hl) (by omega) 8 (by omega)
  obtain ⟨a, rfl⟩ := bs_ex t
  rw [bs_size] at ht
  have i1 := trIs_SC a (by omega)
  have hw : ∀ {L : List Int}, 0 < L.length → L.length ≤ 20 → IntKind.wrap .i64 (((List.length L : Nat) : Int) - (1 : Int)) = ((L.length - 1 : Nat) : Int) := fun {L} h1 h2 => by rw [w64] <;> omega
  have zok : ∀ {L : List Int} (v : Int), L.length ≤ 20 → sizeOK (List.length L + List.length ([v] : List Int)) := fun {L} v h => by unfold sizeOK lim; rw [List.length_singleton]; omega
  have zok2 : ∀ {L : List Int} (v : Int) (k : Nat), L.length ≤ 20 → sizeOK (List.length (List.set L k 1) + List.length ([v] : List Int)) := fun {L} v k h => by unfold sizeOK lim; rw [List.length_singleton, List.length_set]; omega
  -- behind the choice
  have tail : ∀ {n : Nat} {c : Cur}, CurOk n c → n ≤ 2 ^ 20 → ∃ (r : Nat) (c4 c5 : Cur) (L : List Int) (m : Nat), L.length ≤ 20 ∧ m ≤ 2 ^ 21 ∧ CurOk m c5 ∧
      SC cfg.P i_spec_l1Cur_pick [.s (.mbx CurK c), .s (.v (.int .i64) (6 : Int))] (.s (.v (.int .i64) (r : Int))) [.box CurK c4] ∧
      LoopSC cfg.P 1 (lb P_spec_DrawTreeOfExponents 1) (spec_DrawTreeOfExponents_L1a (r : Int) [] c4) (.exit 2) (spec_DrawTreeOfExponents_L1X1 0 false L c5) := by
    intro n c hc hn
    obtain ⟨r, c4, hr, h4, s4⟩ := pick_SC hc (by omega) 6 (by omega)
    obtain ⟨c5, L, q1, q2, q3⟩ := dto1 r [] h4 (by omega) (by simp; omega)
    exact ⟨r, c4, c5, L, _, q1, by omega, q2, s4, q3⟩
  cases it : isTree a with
  | true =>
    rw [it] at i1
    obtain ⟨b, c2, h2, s2⟩ := one_SC h1 (by omega) 2 (by omega)
    cases b with
    | true =>
      obtain ⟨e, hc⟩ := treeOf_txt it
      have hl2 := exR_len (treeOf a)
      have r := wdRight_SC (treeOf a) (by omega)
      rw [← e] at r
      have li : (ints (exR (treeOf a))).length = (exR (treeOf a)).length := List.length_map ..
      obtain ⟨n', b, k1, k2⟩ := dto0 (ints (exR (treeOf a))) (by omega) _ (Nat.le_refl _)
      have hcut : (cutL (ints (exR (treeOf a))) 0 (n' : Int)).length ≤ 20 := by
        unfold cutL
        rw [List.length_drop, List.length_take]; omega
      exact ⟨_, by rw [List.nil_append]; omega, spec_DrawTreeOfExponents_p1 _ _ _ _ _ _ _ _ _ s1 i1 s2 r k2 (by omega) (by omega) (spec_l1Own_p1 _ (by unfold sizeOK lim; rw [List.length_nil]; omega))⟩
    | false =>
      obtain ⟨r, c4, c5, L, m, lL, hm, h5, s4, s5⟩ := tail h2 (by omega)
      by_cases hp : 0 < L.length
      · have w := hw hp lL
        obtain ⟨b1, c6, h6, s6⟩ := one_SC h5 (by omega) 2 (by omega)
        obtain ⟨b2, c7, h7, s7⟩ := one_SC h6 (by omega) 12 (by omega)
        obtain ⟨v, c8, _, h8, s8⟩ := among_SC h7 (by omega) [-1, 0, 9, 8, 4611686018427387904] (by decide) (by decide)
        cases b1 with
        | true =>
          cases b2 with
          | true => exact ⟨_, by rw [List.length_append, List.length_set, List.length_singleton]; omega, spec_DrawTreeOfExponents_p2 _ _ _ _ _ _ _ _ _ _ _ _ _ _ s1 i1 s2 s4 s5 (by omega) s6 (by rw [w]; omega) (by rw [w]; omega) (by rw [w]; omega) s7 s8 (zok2 v _ lL)⟩
          | false => exact ⟨_, by rw [List.length_set]; omega, spec_DrawTreeOfExponents_p3 _ _ _ _ _ _ _ _ _ _ _ _ s1 i1 s2 s4 s5 (by omega) s6 (by rw [w]; omega) (by rw [w]; omega) (by rw [w]; omega) s7⟩
        | false =>
          cases b2 with
          | true => exact ⟨_, by rw [List.length_append, List.length_singleton]; omega, spec_DrawTreeOfExponents_p4 _ _ _ _ _ _ _ _ _ _ _ _ _ _ s1 i1 s2 s4 s5 (by omega) s6 s7 s8 (zok v lL)⟩
          | false => exact ⟨_, by omega, spec_DrawTreeOfExponents_p5 _ _ _ _ _ _ _ _ _ _ _ _ s1 i1 s2 s4 s5 (by omega) s6 s7⟩
      · obtain ⟨b2, c7, h7, s7⟩ := one_SC h5 (by omega) 12 (by omega)
        obtain ⟨v, c8, _, h8, s8⟩ := among_SC h7 (by omega) [-1, 0, 9, 8, 4611686018427387904] (by decide) (by decide)
        cases b2 with
        | true => exact ⟨_, by rw [List.length_append, List.length_singleton]; omega, spec_DrawTreeOfExponents_p6 _ _ _ _ _ _ _ _ _ _ _ _ _ s1 i1 s2 s4 s5 (by omega) s7 s8 (zok v lL)⟩
        | false => exact ⟨_, by omega, spec_DrawTreeOfExponents_p7 _ _ _ _ _ _ _ _ _ _ _ s1 i1 s2 s4 s5 (by omega) s7⟩
  | false =>
    rw [it] at i1
    obtain ⟨r, c4, c5, L, m, lL, hm, h5, s4, s5⟩ := tail h1 (by omega)
    by_cases hp : 0 < L.length
    · have w := hw hp lL
      obtain ⟨b1, c6, h6, s6⟩ := one_SC h5 (by omega) 2 (by omega)
      obtain ⟨b2, c7, h7, s7⟩ := one_SC h6 (by omega) 12 (by omega)
      obtain ⟨v, c8, _, h8, s8⟩ := among_SC h7 (by omega) [-1, 0, 9, 8, 4611686018427387904] (by decide) (by decide)
      cases b1 with
      | true =>
        cases b2 with
        | true => exact ⟨_, by rw [List.length_append, List.length_set, List.length_singleton]; omega, spec_DrawTreeOfExponents_p8 _ _ _ _ _ _ _ _ _ _ _ _ _ s1 i1 s4 s5 (by omega) s6 (by rw [w]; omega) (by rw [w]; omega) (by rw [w]; omega) s7 s8 (zok2 v _ lL)⟩
        | false => exact ⟨_, by rw [List.length_set]; omega, spec_DrawTreeOfExponents_p9 _ _ _ _ _ _ _ _ _ _ _ s1 i1 s4 s5 (by omega) s6 (by rw [w]; omega) (by rw [w]; omega) (by rw [w]; omega) s7⟩
      | false =>
        cases b2 with
        | true => exact ⟨_, by rw [List.length_append, List.length_singleton]; omega, spec_DrawTreeOfExponents_p10 _ _ _ _ _ _ _ _ _ _ _ _ _ s1 i1 s4 s5 (by omega) s6 s7 s8 (zok v lL)⟩
        | false => exact ⟨_, by omega, spec_DrawTreeOfExponents_p11 _ _ _ _ _ _ _ _ _ _ _ s1 i1 s4 s5 (by omega) s6 s7⟩
    · obtain ⟨b2, c7, h7, s7⟩ := one_SC h5 (by omega) 12 (by omega)
      obtain ⟨v, c8, _, h8, s8⟩ := among_SC h7 (by omega) [-1, 0, 9, 8, 4611686018427387904] (by decide) (by decide)
      cases b2 with
      | true => exact ⟨_, by rw [List.length_append, List.length_singleton]; omega, spec_DrawTreeOfExponents_p12 _ _ _ _ _ _ _ _ _ _ _ _ s1 i1 s4 s5 (by omega) s7 s8 (zok v lL)⟩
      | false => exact ⟨_, by omega, spec_DrawTreeOfExponents_p13 _ _ _ _ _ _ _ _ _ _ s1 i1 s4 s5 (by omega) s7⟩

/-! ### The law -/

section
variable (m : List Int) (L : List Nat) (hL : L.length ≤ 20) (hs : L.sum ≤ 2 ^ 20)
include hL hs

theorem el1 (k : Nat) (hk : k < L.length) (x108 : Int) : ∀ (d i : Nat), L.getD k 0 - i = d → i ≤ L.getD k 0 →
    LoopSC cfg.P 2 (lb P_laws_FnExponentsOfTrees 1) (laws_FnExponentsOfTrees_L1a m (((L.take k).sum + i : Nat) : Int) (k : Int) ((L.getD k 0 : Nat) : Int) (i : Int) x108 (k : Int) (ints L) (ints (woR L 0))) (.exit 2)
      (laws_FnExponentsOfTrees_L1X2 m (((L.take k).sum + L.getD k 0 : Nat) : Int) (k : Int) ((L.getD k 0 : Nat) : Int) ((L.getD k 0 : Nat) : Int) x108 (k : Int) false (ints L) (ints (woR L 0))) := by
  have lw : (ints (woR L 0)).length = (woR L 0).length := List.length_map ..
  have lw2 := woR_length L 0
  intro d
  induction d with
  | zero =>
    intro i hd hi
    have e : i = L.getD k 0 := by omega
    subst e
    exact laws_FnExponentsOfTrees_L1a_x3 _ _ _ _ _ _ _ _ _ (by omega)
  | succ d ih =>
    intro i hd hi
    obtain ⟨a1, a2⟩ := woR_at L k i hk (by omega)
    have k1 := ih (i + 1) (by omega) (by omega)
    rw [← Nat.add_assoc, ← wrap_succ (i := (L.take k).sum + i) (by omega), ← wrap_succ (i := i) (by omega)] at k1
    refine laws_FnExponentsOfTrees_L1a_i2 _ _ _ _ _ _ _ _ _ (by omega) (by omega) (by omega) (by omega) ?_ k1
    rw [Int.toNat_natCast, ints_get _ _ a1, a2, wrap_succ (by omega)]

theorem el0 : ∀ (d k : Nat), L.length - k = d → k ≤ L.length →
    LoopSC cfg.P 2 (lb P_laws_FnExponentsOfTrees 0) (laws_FnExponentsOfTrees_L0a m (((L.take k).sum : Nat) : Int) ((List.length (ints L) : Nat) : Int) (k : Int) (ints L) (ints (woR L 0))) (.exit 0)
      (laws_FnExponentsOfTrees_L0X2 m ((L.sum : Nat) : Int) ((List.length (ints L) : Nat) : Int) (L.length : Int) false (ints L) (ints (woR L 0))) := by
  have hlen : (ints L).length = L.length := List.length_map ..
  intro d
  induction d with
  | zero =>
    intro k hd hk
    have e : k = L.length := by omega
    subst e
    rw [List.take_length]
    exact laws_FnExponentsOfTrees_L0a_x3 _ _ _ _ _ _ (by omega)
  | succ d ih =>
    intro k hd hk
    have hlt : k < L.length := by omega
    have k1 := ih (k + 1) (by omega) (by omega)
    have et : (L.take (k + 1)).sum = (L.take k).sum + L.getD k 0 := by
      rw [List.take_succ_eq_append_getElem hlt, List.sum_append, List.getD_eq_getElem?_getD, List.getElem?_eq_getElem hlt]; simp
    rw [et, ← wrap_succ (i := k) (by omega)] at k1
    have hg : List.getD (ints L) ((k : Int)).toNat 0 = ((L.getD k 0 : Nat) : Int) := by rw [Int.toNat_natCast]; exact ints_get L k hlt
    have k2 := el1 m L hL hs k hlt ((List.length (ints L) : Nat) : Int) _ 0 rfl (by omega)
    rw [Nat.add_zero, ← hg] at k2
    exact laws_FnExponentsOfTrees_L0a_i2 _ _ _ _ _ _ _ _ _ _ _ _ _ _ _ _ (by omega) (by omega) (by omega) (by omega) k2 k1

end

theorem el2 (G B : List Int) (hB : B.length ≤ 100) (h : ∀ i, i < B.length → B.getD i 0 = if i < G.length then G.getD i 0 else 0) : ∀ (d k : Nat), B.length - k = d → k ≤ B.length →
    LoopSC cfg.P 2 (lb P_laws_FnExponentsOfTrees 2) (laws_FnExponentsOfTrees_L2a ((List.length B : Nat) : Int) (k : Int) G B) (.exit 4) (laws_FnExponentsOfTrees_L2X2 ((List.length B : Nat) : Int) ((List.length B : Nat) : Int) false G B) := by
  intro d
  induction d with
  | zero =>
    intro k hd hk
    have e : k = B.length := by omega
    subst e
    exact laws_FnExponentsOfTrees_L2a_x5 _ _ _ _ (by omega)
  | succ d ih =>
    intro k hd hk
    have hlt : k < B.length := by omega
    have k1 := ih (k + 1) (by omega) (by omega)
    rw [← wrap_succ (by omega)] at k1
    have hh := h k hlt
    by_cases g : k < G.length
    · rw [if_pos g] at hh
      exact laws_FnExponentsOfTrees_L2a_i2 _ _ _ _ (by omega) (by omega) (by omega) (by omega) (by omega) (by omega) (by omega) (by rw [Int.toNat_natCast]; exact hh) k1
    · rw [if_neg g] at hh
      exact laws_FnExponentsOfTrees_L2a_i4 _ _ _ _ (by omega) (by omega) (by omega) (by omega) (by omega) (by rw [Int.toNat_natCast]; exact hh) k1

theorem el10 {m : List Int} (hm : Bytes m) (hml : m.length ≤ 2 ^ 40) :
    (∀ a b c d e f, RestSC cfg.P 2 (rest P_laws_FnExponentsOfTrees 10) (laws_FnExponentsOfTrees_C10a m a b c d e f) .ret (laws_FnExponentsOfTrees_R1 true)) ∧
    (∀ a b c, RestSC cfg.P 2 (rest P_laws_FnExponentsOfTrees 10) (laws_FnExponentsOfTrees_C10b m a b c) .ret (laws_FnExponentsOfTrees_R1 true)) := by
  obtain ⟨G, hG, s⟩ := drawTE hm hml
  obtain ⟨V, B, i1, i2, hB⟩ := toe_both G (by omega)
  have n : ∀ x, RestSC cfg.P 2 (rest P_laws_FnExponentsOfTrees 15) (laws_FnExponentsOfTrees_C15a V B x G) .ret (laws_FnExponentsOfTrees_R1 true) := fun x => by
    cases B with
    | false => exact laws_FnExponentsOfTrees_C15a_i3 _ _ _ (laws_FnExponentsOfTrees_C17b_x1 _ _ _)
    | true =>
      obtain ⟨g9, go, gz, gc, rfl⟩ := hB rfl
      have lt := txt_len (toeT G)
      obtain ⟨E, e1, _, e3, e4⟩ := exps_both (txt (toeT G)) (by omega)
      have it : isTree (txt (toeT G)) = true := by rw [isTree_txt]; exact decide_eq_true gc
      have E1 := e4 it
      rw [← txt_inj' (treeOf_txt it).1] at E1
      rw [it] at e1
      have lE : E.length = (exR (toeT G)).length := by rw [E1]; exact List.length_map ..
      have tl := toe_len go gz
      obtain ⟨n1, _⟩ := nat_list go
      refine laws_FnExponentsOfTrees_C15a_i2 _ _ _ _ _ _ _ _ _ e1 (by omega) (el2 G E (by omega) (fun i hi => ?_) _ 0 rfl (by omega)) (laws_FnExponentsOfTrees_C17a_x1 _ _ _ _ _)
      rw [E1, ints_getD, exR_toe go, ← ints_getD, n1]
      by_cases g : i < G.length
      · rw [if_pos g]
      · rw [if_neg g, List.getD_eq_getElem?_getD, List.getElem?_eq_none (by omega)]; rfl
  exact ⟨fun _ _ _ _ _ _ => laws_FnExponentsOfTrees_C10a_i1 _ _ _ _ _ _ _ _ _ _ _ _ s i1 i2 (nbeq _) rfl (n _), fun _ _ _ => laws_FnExponentsOfTrees_C10b_i1 _ _ _ _ _ _ _ _ _ s i1 i2 (nbeq _) rfl (n _)⟩

theorem el3 (l m : List Int) (h : Bytes l) (hm : Bytes m) (hl : l.length ≤ 2 ^ 40) (hml : m.length ≤ 2 ^ 40) (x : Bool) :
    RestSC cfg.P 2 (rest P_laws_FnExponentsOfTrees 3) (laws_FnExponentsOfTrees_C3a l m x) .ret (laws_FnExponentsOfTrees_R1 true) := by
  obtain ⟨na, nb⟩ := el10 hm hml
  obtain ⟨a, ha, s⟩ := drawEO h hl
  obtain ⟨L, i1, i2, lL, hL⟩ := exps_both a (by omega)
  have i3 := impl_IsTree_p1 _ _ _ (parse_SC a (by omega))
  refine laws_FnExponentsOfTrees_C3a_i1 _ _ _ _ _ _ _ _ _ s i1 i2 (nbeq _) (nSame_SC L (by omega)) i3 (nbeq _) ?_
  cases it : isTree a with
  | false => exact laws_FnExponentsOfTrees_C8a_i3 _ _ _ _ (nb _ _ _)
  | true =>
    have hL' := hL it
    subst hL'
    obtain ⟨e, hc⟩ := treeOf_txt it
    have h0 := parse_SC a (by omega)
    rw [it] at h0
    have k1 := impl_CaretsOf_p1 _ _ _ _ h0 (carets_SC (treeOf a) (by omega))
    have lx := exR_len (treeOf a)
    have li : (ints (exR (treeOf a))).length = (exR (treeOf a)).length := List.length_map ..
    have lt := txt_len (combR (treeOf a).c)
    rw [combR_c] at lt
    have k2 := impl_RightComb_p1 _ _ _ (impl_isCarets_p1 ((treeOf a).c : Int) (by omega) (by omega)) (rightComb_SC (treeOf a).c (by omega)) (text_SC (combR (treeOf a).c) (by rw [combR_c]; omega))
    obtain ⟨w1, w2⟩ := wop_comb a it
    have k3 := implWop_SC a (txt (combR (treeOf a).c)) (by omega) (by omega)
    rw [wopV, w1, if_pos rfl, w2] at k3
    have sm := exR_sum (treeOf a)
    have k4 := nSum_SC (exR (treeOf a)) (by omega) (by omega)
    have lw : (ints (woR (exR (treeOf a)) 0)).length = (exR (treeOf a)).sum := by unfold ints; rw [List.length_map, woR_length]
    have z : List.getD (ints (exR (treeOf a))) (((treeOf a).c : Int)).toNat 0 = 0 := by
      rw [Int.toNat_natCast, ints_getD]
      have lh : (expsL (hangT (treeOf a))).length + 1 = (treeOf a).c + 1 := by rw [← lx, exR_hang, List.length_append, List.length_singleton]
      rw [exR_hang, List.getD_eq_getElem?_getD, List.getElem?_append_right (by omega), show (treeOf a).c - (expsL (hangT (treeOf a))).length = 0 by omega]
      rfl
    have ll := el0 m (exR (treeOf a)) (by omega) (by omega) _ 0 rfl (by omega)
    rw [List.take_zero] at ll
    exact laws_FnExponentsOfTrees_C8a_i2 _ _ _ _ _ _ _ _ _ _ _ _ _ _ _ k1 (by rw [wrap_succ (by omega)]; omega) (by omega) (by omega) (by omega) z k2 k3 k4 (by rw [lw]) ll (na _ _ _ _ _ _)

/-- The law. -/
theorem law_Ex (a b : List Int) (_ha : a.length ≤ 2 ^ 63 - 1) (h1 : ∀ n ∈ a, (Lit.int .u8 n).wf = true) (_hb : b.length ≤ 2 ^ 63 - 1) (h2 : ∀ n ∈ b, (Lit.int .u8 n).wf = true) :
    SC cfg.P i_laws_FnExponentsOfTrees [.s (.v (.sl (.int .u8)) a), .s (.v (.sl (.int .u8)) b)] (.s (.v .bool true)) [] := by
  by_cases g1 : a.length ≤ 1048576
  · have w : IntKind.wrap .i64 (1048576 - ((a.length : Nat) : Int)) = 1048576 - ((a.length : Nat) : Int) := by rw [w64] <;> omega
    by_cases g2 : a.length + b.length ≤ 1048576
    · have hbig : SC cfg.P i_laws_big [.s (.v (.sl (.int .u8)) a), .s (.v (.sl (.int .u8)) b)] (.s (.v .bool false)) [] := laws_big_p3 _ _ (by omega) (by rw [w]; omega)
      exact laws_FnExponentsOfTrees_R1_of _ _ _ (laws_FnExponentsOfTrees_C0a_i2 _ _ hbig (el3 a b (fun x hx => byte_wf (h1 x hx)) (fun x hx => byte_wf (h2 x hx)) (by omega) (by omega) _))
    · exact laws_FnExponentsOfTrees_R1_of _ _ _ (laws_FnExponentsOfTrees_C0a_x1 _ _ (laws_big_p2 _ _ (by omega) (by rw [w]; omega)))
  · exact laws_FnExponentsOfTrees_R1_of _ _ _ (laws_FnExponentsOfTrees_C0a_x1 _ _ (laws_big_p1 _ _ (by omega)))

end Go.AI
