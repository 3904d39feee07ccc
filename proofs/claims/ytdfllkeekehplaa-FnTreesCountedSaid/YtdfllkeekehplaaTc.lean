/- Contracts for the counted trees. -/
import Derived.Test.YtdfllkeekehplaaCRl
import Derived.Test.YtdfllkeekehplaaFtc
import Derived.Test.YtdfllkeekehplaaDd
import Derived.Test.YtdfllkeekehplaaCSb
import Derived.Test.YtdfllkeekehplaaGA
import Derived.Test.YtdfllkeekehplaaGC
import Derived.Test.YtdfllkeekehplaaAiH
set_option autoImplicit false
set_option maxRecDepth 100000
set_option linter.unusedVariables false
namespace Go.AI
open Go.Proofs

theorem nbeq (b : Bool) : (!(b == b)) = false := by simp

def Bytes (l : List Int) : Prop := ∀ x ∈ l, 0 ≤ x ∧ x ≤ 255

theorem cur0 {l : List Int} (h : Bytes l) (hl : l.length ≤ 2 ^ 40) : CurOk 0 (l, ((0 : Int), (0 : Int))) := ⟨Int.le_refl _, Int.le_refl _, hl, h⟩

theorem l1In_SC (n lo hi : Int) : SC cfg.P i_spec_l1In [.s (.v (.int .i64) n), .s (.v (.int .i64) lo), .s (.v (.int .i64) hi)] (.s (.v .bool (decide (lo ≤ n ∧ n ≤ hi)))) [] := by
  by_cases h1 : lo ≤ n
  · by_cases h2 : n ≤ hi
    · rw [decide_eq_true ⟨h1, h2⟩]; exact spec_l1In_p1 _ _ _ (by omega) h2
    · rw [decide_eq_false (fun h => h2 h.2)]; exact spec_l1In_p2 _ _ _ (by omega) h2
  · rw [decide_eq_false (fun h => h1 h.1)]; exact spec_l1In_p3 _ _ _ (by omega)

def okC (n : Int) : Bool := decide (0 ≤ n ∧ n ≤ 8)

theorem isCarets_SC (n : Int) : SC cfg.P i_impl_isCarets [.s (.v (.int .i64) n)] (.s (.v .bool (okC n))) [] := by
  unfold okC
  by_cases h1 : 0 ≤ n
  · by_cases h2 : n ≤ 8
    · rw [decide_eq_true ⟨h1, h2⟩]; exact impl_isCarets_p1 _ (by omega) h2
    · rw [decide_eq_false (fun h => h2 h.2)]; exact impl_isCarets_p2 _ (by omega) h2
  · rw [decide_eq_false (fun h => h1 h.1)]; exact impl_isCarets_p3 _ (by omega)

theorem trSize_SC (n : Int) : SC cfg.P i_spec_trSize [.s (.v (.int .i64) n)] (.s (.v .bool (okC n))) [] := spec_trSize_p1 _ _ (l1In_SC n 0 8)

theorem okC_nat {n : Int} (h : okC n = true) : ∃ k : Nat, n = (k : Int) ∧ k ≤ 8 := by
  have := of_decide_eq_true h
  exact ⟨n.toNat, by omega, by omega⟩

theorem okC_of {k : Nat} (h : k ≤ 8) : okC (k : Int) = true := decide_eq_true (by omega)

theorem TL_ex (n : Nat) (hn : n ≤ 8) : ∃ L, AllT n L ∧ Srt L ∧ L.length = catV n ∧ L.length ≤ 2 ^ 32 ∧ SC cfg.P i_impl_trees [.s (.v (.int .i64) (n : Int))] (.s (.v (.sl .str) L)) [] ∧
    SC cfg.P i_spec_trList [.s (.v (.int .i64) (n : Int))] (.s (.own t_string .str L)) [] := by
  obtain ⟨L, aL, sL, cL⟩ := trees_SC n hn
  obtain ⟨M, aM, sM, cM⟩ := trList_SC n hn
  have e : M = L := all_uniq aM sM aL sL
  subst e
  have p16 := pow16 hn
  have lL := aL.len
  exact ⟨M, aM, sM, cat_len n hn (fun i hi => by obtain ⟨N, h, _⟩ := trees_SC i (by omega); exact ⟨N, h⟩) _ aM, by omega, cL, cM⟩

theorem cat_next : ∀ k : Fin 8, IntKind.wrap .i64 (Int.tdiv (IntKind.wrap .i64 ((IntKind.wrap .i64 (((catV k.val : Nat) : Int) * (2 : Int))) * (IntKind.wrap .i64 ((IntKind.wrap .i64 ((2 : Int) * ((k.val : Nat) : Int))) + (1 : Int))))) (IntKind.wrap .i64 (((k.val : Nat) : Int) + (2 : Int)))) = ((catV (k.val + 1) : Nat) : Int) := by decide +kernel

theorem trCount_SC (n : Nat) (hn : n ≤ 8) : SC cfg.P i_spec_trCount [.s (.v (.int .i64) (n : Int))] (.s (.v (.int .i64) (catV n : Int))) [] := by
  have key : ∀ (m k : Nat), n - k = m → k ≤ n → LoopSC cfg.P 1 (lb P_spec_trCount 0) (spec_trCount_L0a (n : Int) (catV k : Int) (k : Int)) (.exit 0) (spec_trCount_L0X1 (n : Int) (catV n : Int) (n : Int) false) := by
    intro m
    induction m with
    | zero =>
      intro k hm hk
      have e : k = n := by omega
      subst e
      exact spec_trCount_L0a_x2 _ _ _ (by omega)
    | succ m ih =>
      intro k hm hk
      have k1 := ih (k + 1) (by omega) (by omega)
      have c := cat_next ⟨k, by omega⟩
      refine spec_trCount_L0a_i1 _ _ _ (by omega) (by rw [w64] <;> omega) ?_
      rw [c, wrap_succ (by omega)]
      exact k1
  exact spec_trCount_p1 _ _ _ _ _ (key n 0 rfl (by omega))

theorem catV_le (n : Nat) : catV n ≤ 1430 := by
  by_cases h : n ≤ 8
  · have : ∀ k : Fin 9, catV k.val ≤ 1430 := by decide
    exact this ⟨n, by omega⟩
  · unfold catV; rw [List.getD_eq_getElem?_getD, List.getElem?_eq_none (by simp; omega)]; decide

theorem count_SC (n : Int) : ∃ C : Int, SC cfg.P i_impl_CountTrees [.s (.v (.int .i64) n)] (.tup [.v (.int .i64) C, .v .bool (okC n)]) [] ∧ SC cfg.P i_spec_CountTrees [.s (.v (.int .i64) n)] (.tup [.v (.int .i64) C, .v .bool (okC n)]) [] ∧
    ∀ k : Nat, n = (k : Int) → k ≤ 8 → C = (catV k : Int) := by
  have h1 := isCarets_SC n
  have h2 := trSize_SC n
  cases h : okC n with
  | false =>
    rw [h] at h1 h2
    refine ⟨0, impl_CountTrees_p2 _ h1, spec_CountTrees_p2 _ h2, fun k e hk => ?_⟩
    rw [e, okC_of hk] at h
    cases h
  | true =>
    obtain ⟨k, rfl, hk⟩ := okC_nat h
    obtain ⟨L, aL, sL, lL, _, cL, cM⟩ := TL_ex k hk
    rw [h] at h1 h2
    refine ⟨(catV k : Int), ?_, spec_CountTrees_p1 _ _ h2 (trCount_SC k hk), fun k' e _ => ?_⟩
    · have r := impl_CountTrees_p1 _ _ h1 cL
      rw [lL] at r
      exact r
    · have : k' = k := by omega
      rw [this]

theorem isTree_SC' {n : Nat} (hn : n ≤ 8) {L : List ByteArray} (aL : AllT n L) {s : ByteArray} (hs : s ∈ L) : ∃ t : Tr, t.c = n ∧ s = bs (txt t) ∧ SC cfg.P i_impl_parse [.s (.v .str s)] (.tup [.v .tree t, .v .bool true]) [] := by
  obtain ⟨t, tc, rfl⟩ := (aL.mem s).1 hs
  have lt := txt_len t
  have p := parse_SC (txt t) (by omega)
  have e : isTree (txt t) = true := by rw [isTree_txt]; exact decide_eq_true (by omega)
  have e2 := (treeOf_txt e).1
  rw [e, ← txt_inj' e2] at p
  exact ⟨t, tc, rfl, p⟩

theorem rank_at {n : Nat} (hn : n ≤ 8) {L : List ByteArray} (aL : AllT n L) (sL : Srt L) (lL : L.length ≤ 2 ^ 32) (cL : SC cfg.P i_impl_trees [.s (.v (.int .i64) (n : Int))] (.s (.v (.sl .str) L)) [])
    {k : Nat} (hk : k < L.length) : SC cfg.P i_impl_RankTree [.s (.v .str L[k])] (.tup [.v (.int .i64) (k : Int), .v .bool true]) [] := by
  obtain ⟨t, tc, e, p⟩ := isTree_SC' hn aL (List.getElem_mem hk)
  have hc := carets_SC t (by omega)
  rw [tc] at hc
  have eL : L = L.take k ++ L[k] :: L.drop (k + 1) := by rw [← List.drop_eq_getElem_cons hk, List.take_append_drop]
  have nd := aL.nd
  have hA : ∀ x ∈ L.take k, x ≠ L[k] := fun x hx he => by
    rw [eL] at nd
    exact (List.nodup_append.1 nd).2.2 x hx L[k] List.mem_cons_self he
  have hi := indexS_SC L[k] (L.take k) (L.drop (k + 1)) hA (by rw [← eL]; omega)
  rw [← eL, List.length_take, Nat.min_eq_left (by omega)] at hi
  exact impl_RankTree_p1 _ _ _ _ _ p hc cL hi

/-- What 'TreeAt' answers. -/
theorem treeAt_SC (n r : Int) : ∃ V B, SC cfg.P i_impl_TreeAt [.s (.v (.int .i64) n), .s (.v (.int .i64) r)] (.tup [.v .str V, .v .bool B]) [] ∧ SC cfg.P i_spec_TreeAt [.s (.v (.int .i64) n), .s (.v (.int .i64) r)] (.tup [.v .str V, .v .bool B]) [] ∧
    (B = true ↔ ∃ k : Nat, n = (k : Int) ∧ k ≤ 8 ∧ 0 ≤ r ∧ r < (catV k : Int)) ∧ (B = true → SC cfg.P i_impl_RankTree [.s (.v .str V)] (.tup [.v (.int .i64) r, .v .bool true]) []) := by
  have h1 := isCarets_SC n
  have h2 := trSize_SC n
  cases h : okC n with
  | false =>
    rw [h] at h1 h2
    refine ⟨_, _, impl_TreeAt_p4 _ _ h1, spec_TreeAt_p3 _ _ h2, ⟨fun g => (by cases g), fun ⟨k, e, hk, _, _⟩ => ?_⟩, fun g => (by cases g)⟩
    rw [e, okC_of hk] at h
    cases h
  | true =>
    obtain ⟨k, rfl, hk⟩ := okC_nat h
    obtain ⟨L, aL, sL, lL, l32, cL, cM⟩ := TL_ex k hk
    rw [h] at h1 h2
    have hc := trCount_SC k hk
    have cl := catV_le k
    have w : IntKind.wrap .i64 ((catV k : Int) - (1 : Int)) = (catV k : Int) - 1 := by rw [w64] <;> omega
    have hin := l1In_SC r 0 (IntKind.wrap .i64 ((catV k : Int) - (1 : Int)))
    rw [w] at hin
    by_cases hr : 0 ≤ r ∧ r < (catV k : Int)
    · rw [decide_eq_true (by omega : 0 ≤ r ∧ r ≤ (catV k : Int) - 1)] at hin
      obtain ⟨j, rfl⟩ : ∃ j : Nat, r = (j : Int) := ⟨r.toNat, by omega⟩
      have hj : j < L.length := by omega
      have eg : List.getD L ((j : Int)).toNat (⟨#[]⟩ : ByteArray) = L[j] := by rw [Int.toNat_natCast, List.getD_eq_getElem?_getD, List.getElem?_eq_getElem hj]; rfl
      have r1 := impl_TreeAt_p3 _ _ _ h1 cL (by omega : ¬ ((j : Int) < 0)) (by omega) (by omega) (by omega)
      have r2 := spec_TreeAt_p1 (k : Int) (j : Int) _ _ h2 hc (by rw [w]; exact hin) cM (by omega) (by omega) (by omega)
      rw [eg] at r1 r2
      exact ⟨_, _, r1, r2, ⟨fun _ => ⟨k, rfl, hk, hr⟩, fun _ => rfl⟩, fun _ => rank_at hk aL sL l32 cL hj⟩
    · rw [decide_eq_false (by omega : ¬ (0 ≤ r ∧ r ≤ (catV k : Int) - 1))] at hin
      have r2 := spec_TreeAt_p2 (k : Int) r _ h2 hc (by rw [w]; exact hin)
      refine ⟨_, _, ?_, r2, ⟨fun g => (by cases g), fun ⟨k', e, _, g⟩ => ?_⟩, fun g => (by cases g)⟩
      · by_cases h0 : r < 0
        · exact impl_TreeAt_p1 _ _ _ h1 cL h0
        · exact impl_TreeAt_p2 _ _ _ h1 cL h0 (by omega)
      · have : k' = k := by omega
        rw [this] at g
        exact absurd g hr

theorem rank_all (a : List UInt8) (ha : a.length ≤ 2 ^ 40) : ∃ V B, SC cfg.P i_impl_RankTree [.s (.v .str (bs a))] (.tup [.v (.int .i64) V, .v .bool B]) [] ∧ SC cfg.P i_spec_RankTree [.s (.v .str (bs a))] (.tup [.v (.int .i64) V, .v .bool B]) [] ∧
    (B = true → ∃ c : Int, SC cfg.P i_impl_CaretsOf [.s (.v .str (bs a))] (.tup [.v (.int .i64) c, .v .bool true]) [] ∧ SC cfg.P i_impl_TreeAt [.s (.v (.int .i64) c), .s (.v (.int .i64) V)] (.tup [.v .str (bs a), .v .bool true]) []) := by
  have h0 := parse_SC a ha
  have h1 := trIs_SC a ha
  cases t : isTree a with
  | false =>
    rw [t] at h0 h1
    exact ⟨0, false, impl_RankTree_p2 _ _ h0, spec_RankTree_p2 _ h1, fun g => (by cases g)⟩
  | true =>
    rw [t] at h0 h1
    obtain ⟨e, hc⟩ := treeOf_txt t
    have hc1 := carets_SC (treeOf a) (by omega)
    have hc2 := trCarets_SC a ha
    have ec : a.count 40 = (treeOf a).c := by rw [← txt_count, ← e]
    rw [ec] at hc2
    obtain ⟨L, aL, sL, lL, l32, cL, cM⟩ := TL_ex (treeOf a).c hc
    have hm : bs a ∈ L := (aL.mem _).2 ⟨treeOf a, rfl, by rw [← e]⟩
    have hr := rank_L (bs a) L (by omega) _ 0 0 rfl (by omega) (by omega)
    obtain ⟨A, B, rfl, hA, hB⟩ := rank_split sL hm
    have hi := indexS_SC (bs a) A B (fun x hx e => Lt.irr _ (e ▸ hA x hx)) (by omega)
    rw [List.drop_zero, Nat.zero_add, rank_filter hA hB] at hr
    refine ⟨_, _, impl_RankTree_p1 _ _ _ _ _ h0 hc1 cL hi, spec_RankTree_p1 _ _ _ _ _ _ _ _ _ h1 hc2 cM.view hr, fun _ => ⟨_, impl_CaretsOf_p1 _ _ _ _ h0 hc1, ?_⟩⟩
    have hl : A.length < (A ++ bs a :: B).length := by rw [List.length_append, List.length_cons]; omega
    have h3 := isCarets_SC ((treeOf a).c : Int)
    rw [okC_of hc] at h3
    have r1 := impl_TreeAt_p3 _ (A.length : Int) _ h3 cL (by omega) (by omega) (by omega) (by omega)
    have eg : List.getD (A ++ bs a :: B) ((A.length : Nat) : Int).toNat (⟨#[]⟩ : ByteArray) = bs a := by
      rw [Int.toNat_natCast, List.getD_eq_getElem?_getD, List.getElem?_append_right (Nat.le_refl _), Nat.sub_self]; rfl
    rw [eg] at r1
    exact r1

/-! ### Combs -/

theorem rightComb_SC (n : Nat) (hn : n ≤ 8) : SC cfg.P i_impl_rightComb [.s (.v (.int .i64) (n : Int))] (.s (.v .tree (rcb n))) [] := by
  have key : ∀ (m k : Nat), n - k = m → k ≤ n → LoopSC cfg.P 1 (lb P_impl_rightComb 0) (impl_rightComb_L0a (rcb k) (n : Int) (k : Int)) (.exit 0) (impl_rightComb_L0X1 (rcb n) (n : Int) (n : Int) false) := by
    intro m
    induction m with
    | zero =>
      intro k hm hk
      have e : k = n := by omega
      subst e
      exact impl_rightComb_L0a_x2 _ _ _ (by omega)
    | succ m ih =>
      intro k hm hk
      have k1 := ih (k + 1) (by omega) (by omega)
      refine impl_rightComb_L0a_i1 _ _ _ (by omega) ?_
      rw [wrap_succ (by omega)]
      exact k1
  exact impl_rightComb_p1 _ _ _ _ _ (key n 0 rfl (by omega))

theorem mirror_SC : ∀ t : Tr, SC cfg.P i_impl_node_mirror [.s (.v .tree t)] (.s (.v .tree (mir t))) []
  | .leaf => impl_node_mirror_p1
  | .node l r => impl_node_mirror_p2 l r _ _ (mirror_SC r) (mirror_SC l)

theorem combN_rcb : ∀ (n m : Nat), combN n (rcb m) = rcb (n + m)
  | 0, m => by rw [combN, Nat.zero_add]
  | n + 1, m => by
    rw [combN]
    have : Tr.node .leaf (rcb m) = rcb (m + 1) := rfl
    rw [this, combN_rcb n (m + 1)]
    congr 1
    omega

theorem trMirror_SC : ∀ t : Tr, t.c ≤ 50 → SC cfg.P i_spec_trMirror [.s (.v .str (bs (txt t)))] (.s (.v .str (bs (txt (mir t))))) []
  | .leaf, _ => spec_trMirror_p1 _ trLeaf_leaf
  | .node l r, h => by
    have e : (Tr.node l r).c = (l.c + r.c) + 1 := by simp only [Tr.c]; omega
    have m1 := mir_c l
    have m2 := mir_c r
    exact spec_trMirror_p2 _ _ _ _ _ _ (trLeaf_node l r) (trSides_SC l r h) (trMirror_SC r (by omega)) (trMirror_SC l (by omega)) (trOf_SC (mir r) (mir l) (by omega) (by omega))

theorem comb_SC (n : Int) : ∃ V, SC cfg.P i_impl_RightComb [.s (.v (.int .i64) n)] (.tup [.v .str V, .v .bool (okC n)]) [] ∧ SC cfg.P i_spec_RightComb [.s (.v (.int .i64) n)] (.tup [.v .str V, .v .bool (okC n)]) [] ∧
    ∀ k : Nat, n = (k : Int) → k ≤ 8 → V = bs (txt (rcb k)) := by
  have h1 := isCarets_SC n
  have h2 := trSize_SC n
  cases h : okC n with
  | false =>
    rw [h] at h1 h2
    refine ⟨_, impl_RightComb_p2 _ h1, spec_RightComb_p2 _ h2, fun k e hk => ?_⟩
    rw [e, okC_of hk] at h
    cases h
  | true =>
    obtain ⟨k, rfl, hk⟩ := okC_nat h
    rw [h] at h1 h2
    have c := rcb_c k
    have r := trRight_SC k (by omega)
    have e : combN k .leaf = rcb k := combN_rcb k 0
    rw [e] at r
    refine ⟨_, impl_RightComb_p1 _ _ _ h1 (rightComb_SC k hk) (text_SC _ (by omega)), spec_RightComb_p1 _ _ h2 r, fun k' e' _ => ?_⟩
    have : k' = k := by omega
    rw [this]

theorem lcomb_SC (n : Int) : ∃ V, SC cfg.P i_impl_LeftComb [.s (.v (.int .i64) n)] (.tup [.v .str V, .v .bool (okC n)]) [] ∧ SC cfg.P i_spec_LeftComb [.s (.v (.int .i64) n)] (.tup [.v .str V, .v .bool (okC n)]) [] ∧
    ∀ k : Nat, n = (k : Int) → k ≤ 8 → V = bs (txt (lcb k)) := by
  have h1 := isCarets_SC n
  have h2 := trSize_SC n
  cases h : okC n with
  | false =>
    rw [h] at h1 h2
    refine ⟨_, impl_LeftComb_p2 _ h1, spec_LeftComb_p2 _ h2, fun k e hk => ?_⟩
    rw [e, okC_of hk] at h
    cases h
  | true =>
    obtain ⟨k, rfl, hk⟩ := okC_nat h
    rw [h] at h1 h2
    have c := rcb_c k
    have c2 := lcb_c k
    have r := trRight_SC k (by omega)
    have e : combN k .leaf = rcb k := combN_rcb k 0
    rw [e] at r
    have m := mirror_SC (rcb k)
    have m2 := trMirror_SC (rcb k) (by omega)
    rw [mir_rcb] at m m2
    refine ⟨_, impl_LeftComb_p1 _ _ _ _ h1 (rightComb_SC k hk) m (text_SC _ (by omega)), spec_LeftComb_p1 _ _ _ h2 r m2, fun k' e' _ => ?_⟩
    have : k' = k := by omega
    rw [this]

theorem allTrees_SC (n : Int) : ∃ L B, SC cfg.P i_impl_AllTrees [.s (.v (.int .i64) n)] (.tup [.v (.sl .str) L, .v .bool B]) [] ∧ SC cfg.P i_spec_AllTrees [.s (.v (.int .i64) n)] (.tup [.own t_string .str L, .v .bool B]) [] ∧ L.length ≤ 2 ^ 32 ∧
    (B = true → ∃ k : Nat, n = (k : Int) ∧ k ≤ 8 ∧ AllT k L ∧ Srt L ∧ L.length = catV k) := by
  have hin := l1In_SC n 0 5
  by_cases h : 0 ≤ n ∧ n ≤ 5
  · rw [decide_eq_true h] at hin
    obtain ⟨k, rfl⟩ : ∃ k : Nat, n = (k : Int) := ⟨n.toNat, by omega⟩
    obtain ⟨L, aL, sL, lL, l32, cL, cM⟩ := TL_ex k (by omega)
    exact ⟨L, true, impl_AllTrees_p3 _ _ (by omega) (by omega) cL, spec_AllTrees_p1 _ _ hin cM, l32, fun _ => ⟨k, rfl, by omega, aL, sL, lL⟩⟩
  · rw [decide_eq_false h] at hin
    refine ⟨[], false, ?_, spec_AllTrees_p2 _ hin, by simp, fun g => (by cases g)⟩
    by_cases h0 : n < 0
    · exact (impl_AllTrees_p1 _ h0).viewT
    · exact (impl_AllTrees_p2 _ h0 (by omega)).viewT

theorem fTexts_SC (L : List ByteArray) (hl : L.length ≤ 2 ^ 40) : SC cfg.P i_laws_fTexts [.s (.v (.sl .str) L), .s (.v (.sl .str) L)] (.s (.v .bool true)) [] := by
  have key : ∀ (m k : Nat), L.length - k = m → k ≤ L.length → LoopSC cfg.P 2 (lb P_laws_fTexts 0) (laws_fTexts_L0a L L (L.length : Int) (k : Int)) (.exit 0) (laws_fTexts_L0X2 L L (L.length : Int) (L.length : Int) false) := by
    intro m
    induction m with
    | zero =>
      intro k hm hk
      have e : k = L.length := by omega
      subst e
      exact laws_fTexts_L0a_x3 _ _ _ _ (by omega)
    | succ m ih =>
      intro k hm hk
      have k1 := ih (k + 1) (by omega) (by omega)
      rw [← wrap_succ (by omega)] at k1
      exact laws_fTexts_L0a_i2 _ _ _ _ (by omega) (by omega) (by omega) (by omega) rfl k1
  exact laws_fTexts_p3 _ _ _ _ _ _ _ rfl (key _ 0 rfl (by omega))

/-! ### Draws -/

theorem curCarets_SC {n : Nat} {c : Cur} (h : CurOk n c) (hn : n ≤ 2 ^ 29) (k : Nat) (hk : k ≤ 8) : ∃ (v : Int) (c' : Cur), CurOk (n + 4) c' ∧
    SC cfg.P i_spec_l1Cur_carets [.s (.mbx CurK c), .s (.v (.int .i64) (k : Int))] (.s (.v (.int .i64) v)) [.box CurK c'] := by
  obtain ⟨b, c1, h1, s1⟩ := one_SC h (by omega) 8 (by omega)
  cases b with
  | true =>
    obtain ⟨v, c2, _, h2, s2⟩ := among_SC h1 (by omega) [-1, 0, 1, 8, 9] (by decide) (by decide)
    exact ⟨v, c2, h2, spec_l1Cur_carets_p1 _ _ _ _ _ s1 s2⟩
  | false =>
    have w : IntKind.wrap .i64 ((k : Int) + (1 : Int)) = (k : Int) + 1 := by rw [w64] <;> omega
    obtain ⟨v, c2, _, h2, s2⟩ := pick_SC h1 (by omega) ((k : Int) + 1) (by omega)
    exact ⟨_, c2, h2, spec_l1Cur_carets_p2 _ _ _ _ _ s1 (by rw [w]; exact s2)⟩

theorem drawTA {l : List Int} (h : Bytes l) (hl : l.length ≤ 2 ^ 40) : ∃ n r : Int, SC cfg.P i_spec_DrawTreeAt [.s (.v (.sl (.int .u8)) l)] (.tup [.v (.int .i64) n, .v (.int .i64) r]) [] := by
  obtain ⟨n, c1, h1, s1⟩ := curCarets_SC (cur0 h hl) (by omega) 5 (by omega)
  have z := trSize_SC n
  cases e : okC n with
  | false =>
    rw [e] at z
    obtain ⟨v, c2, _, h2, s2⟩ := among_SC h1 (by omega) [-1, 0, 1, 2, 5, 14, 42, 4611686018427387904] (by decide) (by decide)
    exact ⟨_, _, spec_DrawTreeAt_p3 _ _ _ _ _ s1 z s2⟩
  | true =>
    rw [e] at z
    obtain ⟨k, rfl, hk⟩ := okC_nat e
    obtain ⟨b, c2, h2, s2⟩ := one_SC h1 (by omega) 4 (by omega)
    cases b with
    | true =>
      obtain ⟨v, c3, _, h3, s3⟩ := among_SC h2 (by omega) [-1, 0, 1, 2, 5, 14, 42, 4611686018427387904] (by decide) (by decide)
      exact ⟨_, _, spec_DrawTreeAt_p1 _ _ _ _ _ _ s1 z s2 s3⟩
    | false =>
      have cl := catV_le k
      obtain ⟨v, c3, _, h3, s3⟩ := pick_SC h2 (by omega) (catV k : Int) (by omega)
      exact ⟨_, _, spec_DrawTreeAt_p2 _ _ _ _ _ _ _ s1 z s2 (trCount_SC k hk) s3⟩

theorem drawAT {l : List Int} (h : Bytes l) (hl : l.length ≤ 2 ^ 40) : ∃ n : Int, SC cfg.P i_spec_DrawAllTrees [.s (.v (.sl (.int .u8)) l)] (.s (.v (.int .i64) n)) [] := by
  obtain ⟨n, c1, h1, s1⟩ := curCarets_SC (cur0 h hl) (by omega) 5 (by omega)
  exact ⟨n, spec_DrawAllTrees_p1 _ _ _ s1⟩

theorem drawRC {l : List Int} (h : Bytes l) (hl : l.length ≤ 2 ^ 40) : ∃ n : Int, SC cfg.P i_spec_DrawRightComb [.s (.v (.sl (.int .u8)) l)] (.s (.v (.int .i64) n)) [] := by
  obtain ⟨n, c1, h1, s1⟩ := curCarets_SC (cur0 h hl) (by omega) 8 (by omega)
  exact ⟨n, spec_DrawRightComb_p1 _ _ _ s1⟩

theorem drawRT {l : List Int} (h : Bytes l) (hl : l.length ≤ 2 ^ 40) : ∃ a : List UInt8, a.length ≤ 2 ^ 11 ∧ SC cfg.P i_spec_DrawRankTree [.s (.v (.sl (.int .u8)) l)] (.s (.v .str (bs a))) [] := by
  obtain ⟨t, c1, ht, h1, s1⟩ := tree_SC (cur0 h hl) (by omega) 5 (by omega)
  obtain ⟨a, rfl⟩ := bs_ex t
  rw [bs_size] at ht
  exact ⟨a, by omega, spec_DrawRankTree_p1 _ _ _ s1⟩

/-! ### The law -/

theorem tc31 {r : Int} {V : ByteArray} (h : SC cfg.P i_impl_RankTree [.s (.v .str V)] (.tup [.v (.int .i64) r, .v .bool true]) []) (x : Bool) :
    RestSC cfg.P 2 (rest P_laws_FnTreesCounted 31) (laws_FnTreesCounted_C31a r V x) .ret (laws_FnTreesCounted_R1 true) :=
  laws_FnTreesCounted_C31a_x1 _ _ _ _ h rfl

theorem tc27 {r : Int} {V : ByteArray} {B : Bool} (h : B = true → SC cfg.P i_impl_RankTree [.s (.v .str V)] (.tup [.v (.int .i64) r, .v .bool true]) []) {a : ByteArray} {k : Int} {b : Bool}
    (hb : b = true → ∃ c : Int, SC cfg.P i_impl_CaretsOf [.s (.v .str a)] (.tup [.v (.int .i64) c, .v .bool true]) [] ∧ SC cfg.P i_impl_TreeAt [.s (.v (.int .i64) c), .s (.v (.int .i64) k)] (.tup [.v .str a, .v .bool true]) []) (x : Bool) :
    RestSC cfg.P 2 (rest P_laws_FnTreesCounted 27) (laws_FnTreesCounted_C27a r V B a k b x) .ret (laws_FnTreesCounted_R1 true) := by
  cases b with
  | true =>
    obtain ⟨c, c1, c2⟩ := hb rfl
    refine laws_FnTreesCounted_C27a_i1 _ _ _ _ _ _ _ _ c1 c2 rfl ?_
    cases B with
    | true => exact laws_FnTreesCounted_C29a_i1 _ _ _ (tc31 (h rfl) _)
    | false => exact laws_FnTreesCounted_C29a_x2 _ _ _
  | false =>
    refine laws_FnTreesCounted_C27a_i2 _ _ _ _ _ _ ?_
    cases B with
    | true => exact laws_FnTreesCounted_C29b_i1 _ _ _ _ _ (tc31 (h rfl) _)
    | false => exact laws_FnTreesCounted_C29b_x2 _ _ _ _ _

theorem tc17 (l m : List Int) (h : Bytes l) (hm : Bytes m) (hl : l.length ≤ 2 ^ 40) (hml : m.length ≤ 2 ^ 40) {r : Int} {V : ByteArray} {B : Bool} (hB : B = true → SC cfg.P i_impl_RankTree [.s (.v .str V)] (.tup [.v (.int .i64) r, .v .bool true]) []) :
    (∀ L L' a b x, RestSC cfg.P 2 (rest P_laws_FnTreesCounted 17) (laws_FnTreesCounted_C17a l m r V B L L' a b x) .ret (laws_FnTreesCounted_R1 true)) ∧
    (∀ n L x, RestSC cfg.P 2 (rest P_laws_FnTreesCounted 17) (laws_FnTreesCounted_C17b l m r V B n L x) .ret (laws_FnTreesCounted_R1 true)) := by
  obtain ⟨k, s1⟩ := drawRC hm hml
  obtain ⟨v1, i1, i2, _⟩ := comb_SC k
  obtain ⟨v2, i3, i4, _⟩ := lcomb_SC k
  obtain ⟨a, ha, s2⟩ := drawRT h hl
  obtain ⟨R, b, i5, i6, hb⟩ := rank_all a (by omega)
  have n := tc27 hB hb false
  exact ⟨fun _ _ _ _ _ => laws_FnTreesCounted_C17a_i1 _ _ _ _ _ _ _ _ _ _ _ _ _ _ _ _ _ _ _ _ _ _ _ _ s1 i1 i2 i3 i4 s2 i5 i6 (nbeq _) rfl (nbeq _) rfl (nbeq _) rfl n,
    fun _ _ _ => laws_FnTreesCounted_C17b_i1 _ _ _ _ _ _ _ _ _ _ _ _ _ _ _ _ _ _ _ _ _ _ s1 i1 i2 i3 i4 s2 i5 i6 (nbeq _) rfl (nbeq _) rfl (nbeq _) rfl n⟩

theorem tcL (l m : List Int) (r : Int) (V : ByteArray) (B : Bool) {n : Nat} (hn : n ≤ 8) {L : List ByteArray} (aL : AllT n L) (sL : Srt L) (lL : L.length ≤ 2 ^ 32) : ∀ (d k : Nat), L.length - k = d → k ≤ L.length →
    LoopSC cfg.P 2 (lb P_laws_FnTreesCounted 0) (laws_FnTreesCounted_L0a l m r V B L L (L.length : Int) (k : Int)) (.exit 0) (laws_FnTreesCounted_L0X2 l m r V B L L (L.length : Int) (L.length : Int) false) := by
  intro d
  induction d with
  | zero =>
    intro k hm hk
    have e : k = L.length := by omega
    subst e
    exact laws_FnTreesCounted_L0a_x5 _ _ _ _ _ _ _ _ _ (by omega)
  | succ d ih =>
    intro k hm hk
    have hlt : k < L.length := by omega
    have k1 := ih (k + 1) (by omega) (by omega)
    rw [← wrap_succ (by omega)] at k1
    have eg : List.getD L ((k : Int)).toNat (⟨#[]⟩ : ByteArray) = L[k] := by rw [Int.toNat_natCast]; exact gD_lt hlt
    obtain ⟨t, _, _, p⟩ := isTree_SC' hn aL (List.getElem_mem hlt)
    have it := impl_IsTree_p1 _ _ _ p
    by_cases h0 : k = 0
    · exact laws_FnTreesCounted_L0a_i3 _ _ _ _ _ _ _ _ _ (by omega) (by omega) (by omega) (by rw [eg]; exact it) (by omega) k1
    · have w : IntKind.wrap .i64 ((k : Int) - (1 : Int)) = ((k - 1 : Nat) : Int) := by rw [w64] <;> omega
      have hlt2 : k - 1 < L.length := by omega
      have eg2 : List.getD L (((k - 1 : Nat) : Int)).toNat (⟨#[]⟩ : ByteArray) = L[k - 1] := by rw [Int.toNat_natCast]; exact gD_lt hlt2
      have lt : Lt L[k - 1] L[k] := List.pairwise_iff_getElem.1 sL (k - 1) k hlt2 hlt (by omega)
      refine laws_FnTreesCounted_L0a_i2 _ _ _ _ _ _ _ _ _ (by omega) (by omega) (by omega) (by rw [eg]; exact it) (by omega) (by rw [w]; omega) (by rw [w]; omega) ?_ k1
      rw [w, eg, eg2]
      unfold Lt at lt
      rw [lt]; rfl

theorem tc15 (l m : List Int) (h : Bytes l) (hm : Bytes m) (hl : l.length ≤ 2 ^ 40) (hml : m.length ≤ 2 ^ 40) {r : Int} {V : ByteArray} {B : Bool} (hB : B = true → SC cfg.P i_impl_RankTree [.s (.v .str V)] (.tup [.v (.int .i64) r, .v .bool true]) [])
    {n : Int} {L : List ByteArray} {b : Bool} (l32 : L.length ≤ 2 ^ 32) (hb : b = true → ∃ k : Nat, n = (k : Int) ∧ k ≤ 8 ∧ AllT k L ∧ Srt L ∧ L.length = catV k) (x : Bool) :
    RestSC cfg.P 2 (rest P_laws_FnTreesCounted 15) (laws_FnTreesCounted_C15a l m r V B n L b x) .ret (laws_FnTreesCounted_R1 true) := by
  obtain ⟨n1, n2⟩ := tc17 l m h hm hl hml hB
  cases b with
  | false => exact laws_FnTreesCounted_C15a_i3 _ _ _ _ _ _ _ _ (n2 _ _ _)
  | true =>
    obtain ⟨k, rfl, hk, aL, sL, lL⟩ := hb rfl
    obtain ⟨C, i1, _, e1⟩ := count_SC (k : Int)
    obtain ⟨v2, i2, _, e2⟩ := lcomb_SC (k : Int)
    obtain ⟨v3, i3, _, e3⟩ := comb_SC (k : Int)
    rw [okC_of hk] at i1 i2 i3
    have c1 := e1 k rfl hk
    have c2 := e2 k rfl hk
    have c3 := e3 k rfl hk
    obtain ⟨R1, f1⟩ := first_lcb aL sL
    obtain ⟨R2, f2⟩ := last_rcb aL sL
    have hpos : 0 < L.length := by rw [f1]; simp
    have w : IntKind.wrap .i64 ((L.length : Int) - (1 : Int)) = ((L.length - 1 : Nat) : Int) := by rw [w64] <;> omega
    have g1 : List.getD L ((0 : Int)).toNat (⟨#[]⟩ : ByteArray) = v2 := by rw [f1, c2]; rfl
    have g2 : List.getD L (((L.length - 1 : Nat) : Int)).toNat (⟨#[]⟩ : ByteArray) = v3 := by
      rw [Int.toNat_natCast, c3]
      have : L.length - 1 = R2.length := by rw [f2, List.length_append, List.length_singleton]; omega
      rw [this, f2]
      exact getD_app _ _ _
    exact laws_FnTreesCounted_C15a_i2 _ _ _ _ _ _ _ _ _ _ _ _ _ _ _ _ _ _ _ _ _ i1 i2 i3 (by rw [c1, lL]) (by omega) g1 (by rw [w]; omega) (by rw [w]; omega) (by rw [w]; exact g2)
      (tcL l m r V B hk aL sL l32 _ 0 rfl (by omega)) (n1 _ _ _ _ _)

theorem tc10 (l m : List Int) (h : Bytes l) (hm : Bytes m) (hl : l.length ≤ 2 ^ 40) (hml : m.length ≤ 2 ^ 40) {r : Int} {V : ByteArray} {B : Bool} (hB : B = true → SC cfg.P i_impl_RankTree [.s (.v .str V)] (.tup [.v (.int .i64) r, .v .bool true]) []) (x : Bool) :
    RestSC cfg.P 2 (rest P_laws_FnTreesCounted 10) (laws_FnTreesCounted_C10a l m r V B x) .ret (laws_FnTreesCounted_R1 true) := by
  obtain ⟨n, s1⟩ := drawAT hm hml
  obtain ⟨L, b, i1, i2, l32, hb⟩ := allTrees_SC n
  exact laws_FnTreesCounted_C10a_i1 _ _ _ _ _ _ _ _ _ _ _ s1 i1 i2 (nbeq _) (fTexts_SC L (by omega)) (tc15 l m h hm hl hml hB l32 hb _)

theorem tc3 (l m : List Int) (h : Bytes l) (hm : Bytes m) (hl : l.length ≤ 2 ^ 40) (hml : m.length ≤ 2 ^ 40) (x : Bool) :
    RestSC cfg.P 2 (rest P_laws_FnTreesCounted 3) (laws_FnTreesCounted_C3a l m x) .ret (laws_FnTreesCounted_R1 true) := by
  obtain ⟨n, r, s1⟩ := drawTA h hl
  obtain ⟨V, B, i1, i2, hB, hr⟩ := treeAt_SC n r
  obtain ⟨C, i3, i4, e⟩ := count_SC n
  have nx := tc10 l m h hm hl hml hr false
  cases o : okC n with
  | false =>
    rw [o] at i3 i4
    have b0 : B = false := by
      cases B with
      | false => rfl
      | true =>
        obtain ⟨k, e1, hk, _⟩ := hB.1 rfl
        rw [e1, okC_of hk] at o
        cases o
    subst b0
    exact laws_FnTreesCounted_C3a_i4 _ _ _ _ _ _ _ _ _ _ _ _ s1 i1 i2 i3 i4 rfl rfl rfl rfl rfl nx
  | true =>
    rw [o] at i3 i4
    obtain ⟨k, e1, hk⟩ := okC_nat o
    have c := e k e1 hk
    by_cases h1 : r ≥ 0
    · by_cases h2 : r < C
      · have b1 : B = true := hB.2 ⟨k, e1, hk, h1, by omega⟩
        subst b1
        exact laws_FnTreesCounted_C3a_i1 _ _ _ _ _ _ _ _ _ _ _ _ s1 i1 i2 i3 i4 rfl rfl rfl rfl h1 h2 rfl nx
      · have b0 : B = false := by
          cases B with
          | false => rfl
          | true =>
            obtain ⟨k', e1', _, _, g⟩ := hB.1 rfl
            have : k' = k := by omega
            rw [this] at g
            omega
        subst b0
        exact laws_FnTreesCounted_C3a_i2 _ _ _ _ _ _ _ _ _ _ _ _ s1 i1 i2 i3 i4 rfl rfl rfl rfl h1 h2 rfl nx
    · have b0 : B = false := by
        cases B with
        | false => rfl
        | true =>
          obtain ⟨k', _, _, g, _⟩ := hB.1 rfl
          omega
      subst b0
      exact laws_FnTreesCounted_C3a_i3 _ _ _ _ _ _ _ _ _ _ _ _ s1 i1 i2 i3 i4 rfl rfl rfl rfl h1 rfl nx

/-- The law. -/
theorem law_Tc (a b : List Int) (_ha : a.length ≤ 2 ^ 63 - 1) (h1 : ∀ n ∈ a, (Lit.int .u8 n).wf = true) (_hb : b.length ≤ 2 ^ 63 - 1) (h2 : ∀ n ∈ b, (Lit.int .u8 n).wf = true) :
    SC cfg.P i_laws_FnTreesCounted [.s (.v (.sl (.int .u8)) a), .s (.v (.sl (.int .u8)) b)] (.s (.v .bool true)) [] := by
  by_cases g1 : a.length ≤ 1048576
  · have w : IntKind.wrap .i64 (1048576 - ((a.length : Nat) : Int)) = 1048576 - ((a.length : Nat) : Int) := by rw [w64] <;> omega
    by_cases g2 : a.length + b.length ≤ 1048576
    · have hbig : SC cfg.P i_laws_big [.s (.v (.sl (.int .u8)) a), .s (.v (.sl (.int .u8)) b)] (.s (.v .bool false)) [] := laws_big_p3 _ _ (by omega) (by rw [w]; omega)
      exact laws_FnTreesCounted_R1_of _ _ _ (laws_FnTreesCounted_C0a_i2 _ _ hbig (tc3 a b (fun x hx => byte_wf (h1 x hx)) (fun x hx => byte_wf (h2 x hx)) (by omega) (by omega) _))
    · exact laws_FnTreesCounted_R1_of _ _ _ (laws_FnTreesCounted_C0a_x1 _ _ (laws_big_p2 _ _ (by omega) (by rw [w]; omega)))
  · exact laws_FnTreesCounted_R1_of _ _ _ (laws_FnTreesCounted_C0a_x1 _ _ (laws_big_p1 _ _ (by omega)))

end Go.AI
