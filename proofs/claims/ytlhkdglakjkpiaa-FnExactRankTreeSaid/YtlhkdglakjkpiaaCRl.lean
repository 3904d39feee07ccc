/- The reference's rows of trees; the law of RankTree. -/
import Derived.Test.YtlhkdglakjkpiaaCRk
set_option autoImplicit false
set_option maxRecDepth 100000
set_option linter.unusedVariables false
namespace Go.AI
open Go.Proofs

theorem trOfT_SC {a b : ByteArray} (ha : a.size ≤ 2 ^ 30) (hb : b.size ≤ 2 ^ 30) : SC cfg.P i_spec_trOf [.s (.v .str a), .s (.v .str b)] (.s (.v .str (nodeT a b))) [] := by
  obtain ⟨h1, h2, h3⟩ := node_szs ha hb
  exact spec_trOf_p1 _ _ h1 h2 h3

theorem str_L2 (n k : Int) (a : ByteArray) (al ai : Int) (A B : List ByteArray) (ha : a.size ≤ 2 ^ 30) (hB : Sm B) (lB : B.length ≤ 2 ^ 36) :
    ∀ (m j : Nat) (cur : List ByteArray), B.length - j = m → j ≤ B.length → cur.length + (B.length - j) ≤ 2 ^ 38 →
    LoopSC cfg.P 1 (lb P_spec_trList 2) (spec_trList_L2a n k a al ai (B.length : Int) (j : Int) cur A B) (.exit 4) (spec_trList_L2X1 n k a al ai (B.length : Int) (B.length : Int) false (cur ++ (B.drop j).map (nodeT a)) A B) := by
  intro m
  induction m with
  | zero =>
    intro j cur hm hj hc
    have e : j = B.length := by omega
    subst e
    rw [List.drop_length, List.map_nil, List.append_nil]
    exact spec_trList_L2a_x2 _ _ _ _ _ _ _ _ _ _ (by omega)
  | succ m ih =>
    intro j cur hm hj hc
    have hlt : j < B.length := by omega
    have hd : B.drop j = B[j] :: B.drop (j + 1) := List.drop_eq_getElem_cons hlt
    have hg : List.getD B ((j : Int)).toNat E0 = B[j] := by rw [Int.toNat_natCast, gD_lt hlt]
    have hs := trOfT_SC ha (hB _ (List.getElem_mem hlt))
    have k1 := ih (j + 1) (cur ++ [nodeT a B[j]]) (by omega) (by omega) (by rw [List.length_append, List.length_singleton]; omega)
    rw [← wrap_succ (i := j) (by omega)] at k1
    rw [hd, List.map_cons]
    have ea : ∀ X : List ByteArray, cur ++ nodeT a B[j] :: X = (cur ++ [nodeT a B[j]]) ++ X := fun X => by rw [List.append_assoc]; rfl
    rw [ea]
    exact spec_trList_L2a_i1 n k a al ai (B.length : Int) (j : Int) cur A B (nodeT a B[j]) (by omega) (by omega) (by omega) (by rw [Int.toNat_natCast]; omega) (by rw [hg]; exact hs) (by unfold sizeOK lim; rw [List.length_singleton]; omega) k1

theorem str_L1 (n k : Int) (A B : List ByteArray) (hA : Sm A) (hB : Sm B) (lA : A.length ≤ 2 ^ 30) (lB : B.length ≤ 2 ^ 36) :
    ∀ (m j : Nat) (cur : List ByteArray), A.length - j = m → j ≤ A.length → cur.length + (A.length - j) * B.length ≤ 2 ^ 38 →
    LoopSC cfg.P 1 (lb P_spec_trList 1) (spec_trList_L1a n k (A.length : Int) (j : Int) cur A B) (.exit 2) (spec_trList_L1X1 n k (A.length : Int) (A.length : Int) false (cur ++ prodL (A.drop j) B) A B) := by
  intro m
  induction m with
  | zero =>
    intro j cur hm hj hc
    have e : j = A.length := by omega
    subst e
    have e2 : prodL (A.drop A.length) B = [] := by rw [List.drop_length]; rfl
    rw [e2, List.append_nil]
    exact spec_trList_L1a_x2 _ _ _ _ _ _ _ (by omega)
  | succ m ih =>
    intro j cur hm hj hc
    have hlt : j < A.length := by omega
    have hd : A.drop j = A[j] :: A.drop (j + 1) := List.drop_eq_getElem_cons hlt
    have hg : List.getD A ((j : Int)).toNat E0 = A[j] := by rw [Int.toNat_natCast, gD_lt hlt]
    have hm2 : (A.length - j) * B.length = B.length + (A.length - (j + 1)) * B.length := by
      rw [show A.length - j = (A.length - (j + 1)) + 1 by omega, Nat.succ_mul]; omega
    have k3 := str_L2 n k A[j] (A.length : Int) (j : Int) A B (hA _ (List.getElem_mem hlt)) hB lB _ 0 cur rfl (by omega) (by omega)
    rw [List.drop_zero] at k3
    have k1 := ih (j + 1) (cur ++ B.map (nodeT A[j])) (by omega) (by omega) (by rw [List.length_append, List.length_map]; omega)
    rw [← wrap_succ (i := j) (by omega)] at k1
    have e3 : prodL (A.drop j) B = B.map (nodeT A[j]) ++ prodL (A.drop (j + 1)) B := by rw [hd]; rfl
    rw [e3, ← List.append_assoc]
    have k3' : LoopSC cfg.P 1 (lb P_spec_trList 2) (spec_trList_L2a n k (List.getD A ((j : Int)).toNat E0) (A.length : Int) (j : Int) ((List.length B : Nat) : Int) 0 cur A B) (.exit 4) (spec_trList_L2X1 n k A[j] (A.length : Int) (j : Int) (B.length : Int) (B.length : Int) false (cur ++ B.map (nodeT A[j])) A B) := by
      rw [hg]; exact k3
    exact spec_trList_L1a_i1 _ _ _ _ _ _ _ _ _ _ _ _ _ _ _ _ _ _ (by omega) (by omega) (by omega) (by rw [Int.toNat_natCast]; omega) k3' k1

theorem str_L0 (n : Nat) (hn : n ≤ 8) (f : Nat → List ByteArray) (hall : ∀ i, i < n → AllT i (f i)) (hf : ∀ i, i < n → SC cfg.P i_spec_trList [.s (.v (.int .i64) (i : Int))] (.s (.own t_string .str (f i))) []) :
    ∀ (m i : Nat) (cur : List ByteArray), n - i = m → i ≤ n → cur.length ≤ i * 2 ^ 32 →
    LoopSC cfg.P 1 (lb P_spec_trList 0) (spec_trList_L0a (n : Int) (i : Int) cur) (.exit 0) (spec_trList_L0X1 (n : Int) (n : Int) false (cur ++ (List.range' i (n - i)).flatMap fun i => prodL (f i) (f (n - 1 - i)))) := by
  intro m
  induction m with
  | zero =>
    intro i cur hm hi hc
    have e : i = n := by omega
    subst e
    rw [Nat.sub_self, List.range'_zero, List.flatMap_nil, List.append_nil]
    exact spec_trList_L0a_x2 _ _ _ (by omega)
  | succ m ih =>
    intro i cur hm hi hc
    have hik : i < n := by omega
    have hpi := prod_pow hn hall hik
    have k2 := str_L1 (n : Int) (i : Int) (f i) (f (n - 1 - i)) ((hall i hik).sm (by omega)) ((hall (n - 1 - i) (by omega)).sm (by omega)) (len30 (by omega) (hall i hik)) (by have := len30 (by omega) (hall (n - 1 - i) (by omega)); omega) _ 0 cur rfl (by omega) (by rw [Nat.sub_zero]; omega)
    rw [List.drop_zero] at k2
    have k1 := ih (i + 1) (cur ++ prodL (f i) (f (n - 1 - i))) (by omega) (by omega) (by rw [List.length_append, prodL_len]; omega)
    rw [← wrap_succ (i := i) (by omega)] at k1
    rw [show n - i = (n - (i + 1)) + 1 by omega, List.range'_succ, List.flatMap_cons, ← List.append_assoc]
    have w : IntKind.wrap .i64 (IntKind.wrap .i64 ((n : Int) - 1) - (i : Int)) = ((n - 1 - i : Nat) : Int) := by
      rw [w64 (n := (n : Int) - 1) (by omega) (by omega), w64] <;> omega
    exact spec_trList_L0a_i1 _ _ _ _ _ _ _ _ _ _ _ _ _ (by omega) (hf i hik) (by rw [w]; exact hf _ (by omega)) k2 k1

/-! ### The sort by insertion -/

theorem swap_perm {l : List ByteArray} {j : Nat} (h0 : 0 < j) (hj : j < l.length) (t : ByteArray) : ((l.set j (l.getD (j - 1) E0)).set (j - 1) t).Perm (l.set j t) := by
  obtain ⟨i, rfl⟩ : ∃ i, j = i + 1 := ⟨j - 1, by omega⟩
  have hi : i < l.length := by omega
  have e : l = l.take i ++ l[i] :: l[i + 1] :: l.drop (i + 2) := by
    conv => lhs; rw [← List.take_append_drop i l]
    rw [List.drop_eq_getElem_cons hi, List.drop_eq_getElem_cons hj]
  have hg : l.getD (i + 1 - 1) E0 = l[i] := gD_lt hi
  rw [hg]
  have lt : (l.take i).length = i := by rw [List.length_take]; omega
  have s1 : ∀ x : ByteArray, l.set (i + 1) x = l.take i ++ l[i] :: x :: l.drop (i + 2) := fun x => by
    conv => lhs; rw [e]
    rw [List.set_append_right _ _ (by omega), lt, show i + 1 - i = 1 by omega]
    rfl
  have s2 : ((l.set (i + 1) l[i]).set (i + 1 - 1) t) = l.take i ++ t :: l[i] :: l.drop (i + 2) := by
    rw [s1, List.set_append_right _ _ (by omega), lt, show i + 1 - 1 - i = 0 by omega]
    rfl
  rw [s2, s1]
  exact List.Perm.append_left _ (List.Perm.swap _ _ _)

theorem str_L4 (i : Int) (t : ByteArray) : ∀ (j : Nat) (l : List ByteArray), j < l.length → l.length ≤ 2 ^ 40 →
    ∃ (j' : Nat) (b : Bool) (l' : List ByteArray), j' < l'.length ∧ l'.length = l.length ∧ (l'.set j' t).Perm (l.set j t) ∧
    LoopSC cfg.P 1 (lb P_spec_trList 4) (spec_trList_L4a i t (j : Int) l) (.exit 8) (spec_trList_L4X1 i t (j' : Int) b l')
  | 0, l, hj, hl => ⟨0, false, l, hj, rfl, List.Perm.refl _, spec_trList_L4a_x3 _ _ _ _ (by omega)⟩
  | j + 1, l, hj, hl => by
    have w : IntKind.wrap .i64 (((j + 1 : Nat) : Int) - 1) = (j : Int) := by rw [w64] <;> omega
    have hg : List.getD l (IntKind.wrap .i64 (((j + 1 : Nat) : Int) - 1)).toNat E0 = l.getD j E0 := by rw [w, Int.toNat_natCast]
    cases ht : (!(Op.bytesLess ((List.getD l (IntKind.wrap .i64 (((j + 1 : Nat) : Int) - 1)).toNat E0)).toList t.toList || (((List.getD l (IntKind.wrap .i64 (((j + 1 : Nat) : Int) - 1)).toNat E0)).toList == t.toList))) with
    | false => exact ⟨j + 1, false, l, hj, rfl, List.Perm.refl _, spec_trList_L4a_x2 _ _ _ _ (by omega) (by rw [w]; omega) (by rw [w]; omega) (by rw [w, Int.toNat_natCast]; omega) ht⟩
    | true =>
      obtain ⟨j', b, l', h1, h2, h3, h4⟩ := str_L4 i t j (l.set (j + 1) (l.getD j E0)) (by rw [List.length_set]; omega) (by rw [List.length_set]; omega)
      rw [List.length_set] at h2
      refine ⟨j', b, l', h1, h2, h3.trans (swap_perm (j := j + 1) (by omega) hj t), ?_⟩
      have st := fun {e : AEx} {st : St} => spec_trList_L4a_i1 i t ((j + 1 : Nat) : Int) l (by omega) (by rw [w]; omega) (by rw [w]; omega) (by rw [w, Int.toNat_natCast]; omega) ht (by omega) (by omega) (by rw [Int.toNat_natCast]; omega) (e := e) (st := st)
      rw [hg, w, Int.toNat_natCast] at st
      exact st h4

theorem set_self {l : List ByteArray} {i : Nat} (h : i < l.length) : l.set i (l.getD i E0) = l := by
  rw [gD_lt h, List.set_getElem_self]

theorem str_L3 : ∀ (m i : Nat) (l : List ByteArray), l.length - i = m → i ≤ l.length → l.length ≤ 2 ^ 40 →
    ∃ l', l'.Perm l ∧ LoopSC cfg.P 1 (lb P_spec_trList 3) (spec_trList_L3a (i : Int) l) (.exit 6) (spec_trList_L3X1 (l.length : Int) false l') := by
  intro m
  induction m with
  | zero =>
    intro i l hm hi hl
    have e : i = l.length := by omega
    subst e
    exact ⟨l, List.Perm.refl _, spec_trList_L3a_x2 _ _ (by omega)⟩
  | succ m ih =>
    intro i l hm hi hl
    have hlt : i < l.length := by omega
    obtain ⟨j', b, l', h1, h2, h3, h4⟩ := str_L4 (i : Int) (l.getD i E0) i l hlt hl
    rw [set_self hlt] at h3
    have hg : List.getD l ((i : Int)).toNat E0 = l.getD i E0 := by rw [Int.toNat_natCast]
    have ls : (l'.set j' (l.getD i E0)).length = l.length := by rw [List.length_set]; exact h2
    obtain ⟨l'', k1, k2⟩ := ih (i + 1) (l'.set j' (l.getD i E0)) (by rw [ls]; omega) (by rw [ls]; omega) (by rw [ls]; omega)
    rw [ls, ← wrap_succ (i := i) (by omega)] at k2
    refine ⟨l'', k1.trans h3, ?_⟩
    have st := fun {e : AEx} {st : St} => spec_trList_L3a_i1 (i : Int) l _ _ _ _ _ (by omega) (by omega) (by omega) (by rw [Int.toNat_natCast]; omega) (hg ▸ h4) (by omega) (by omega) (by rw [Int.toNat_natCast]; omega) (e := e) (st := st)
    rw [Int.toNat_natCast] at st
    exact st k2

theorem trList_SC : ∀ n : Nat, n ≤ 8 → ∃ L, AllT n L ∧ SC cfg.P i_spec_trList [.s (.v (.int .i64) (n : Int))] (.s (.own t_string .str L)) [] := by
  intro n
  induction n using Nat.strongRecOn with
  | ind n ih =>
    intro hn
    cases n with
    | zero => exact ⟨_, AllT.zero, spec_trList_p1 _ rfl⟩
    | succ n =>
      have hex : ∀ i, ∃ L, i < n + 1 → AllT i L ∧ SC cfg.P i_spec_trList [.s (.v (.int .i64) (i : Int))] (.s (.own t_string .str L)) [] := fun i => by
        by_cases h : i < n + 1
        · obtain ⟨L, h1, h2⟩ := ih i h (by omega)
          exact ⟨L, fun _ => ⟨h1, h2⟩⟩
        · exact ⟨[], fun g => absurd g h⟩
      obtain ⟨f, hf⟩ : ∃ f : Nat → List ByteArray, ∀ i, i < n + 1 → AllT i (f i) ∧ SC cfg.P i_spec_trList [.s (.v (.int .i64) (i : Int))] (.s (.own t_string .str (f i))) [] :=
        ⟨fun i => Classical.choose (hex i), fun i hi => Classical.choose_spec (hex i) hi⟩
      have k0 := str_L0 (n + 1) hn f (fun i hi => (hf i hi).1) (fun i hi => (hf i hi).2) _ 0 [] rfl (by omega) (by simp)
      rw [List.nil_append, Nat.sub_zero] at k0
      have hw := AllT.whole f n (by omega) fun i hi => (hf i (by omega)).1
      have e1 : ((List.range' 0 (n + 1)).flatMap fun i => prodL (f i) (f (n + 1 - 1 - i))) = wholeL f (n + 1) := rfl
      rw [e1] at k0
      have hl := hw.len
      have hp := pow16 (n := n + 1) hn
      have hpos : 0 < (wholeL f (n + 1)).length := by
        have key : ∀ j : Nat, ∃ t : Tr, t.c = j := fun j => by
          induction j with
          | zero => exact ⟨.leaf, rfl⟩
          | succ j ihj => obtain ⟨t, ht⟩ := ihj; exact ⟨.node .leaf t, by simp [Tr.c]; omega⟩
        obtain ⟨t, ht⟩ := key (n + 1)
        exact List.length_pos_of_mem ((hw.mem _).2 ⟨t, ht, rfl⟩)
      obtain ⟨l', p1, p2⟩ := str_L3 _ 1 (wholeL f (n + 1)) rfl (by omega) (by omega)
      exact ⟨l', hw.perm p1.symm, spec_trList_p2 _ _ _ _ _ _ _ _ (by omega) k0 p2⟩

/-! ### The law -/

theorem rank_L (t : ByteArray) (L : List ByteArray) (hl : L.length ≤ 2 ^ 40) : ∀ (m i : Nat) (a : Nat), L.length - i = m → i ≤ L.length → a ≤ i →
    LoopSC cfg.P 1 (lb P_spec_RankTree 0) (spec_RankTree_L0a t (a : Int) L (L.length : Int) (i : Int)) (.exit 0) (spec_RankTree_L0X1 t ((a + ((L.drop i).filter (ltB t)).length : Nat) : Int) L (L.length : Int) (L.length : Int) false) := by
  intro m
  induction m with
  | zero =>
    intro i a hm hi ha
    have e : i = L.length := by omega
    subst e
    rw [List.drop_length]
    exact spec_RankTree_L0a_x3 _ _ _ _ _ (by omega)
  | succ m ih =>
    intro i a hm hi ha
    have hlt : i < L.length := by omega
    have hd : L.drop i = L[i] :: L.drop (i + 1) := List.drop_eq_getElem_cons hlt
    have hg : List.getD L ((i : Int)).toNat E0 = L[i] := by rw [Int.toNat_natCast, gD_lt hlt]
    rw [hd, List.filter_cons]
    cases h : ltB t L[i] with
    | true =>
      rw [if_pos rfl, List.length_cons]
      have k := ih (i + 1) (a + 1) (by omega) (by omega) (by omega)
      rw [← wrap_succ (i := i) (by omega), ← wrap_succ (i := a) (by omega)] at k
      rw [show a + (((L.drop (i + 1)).filter (ltB t)).length + 1) = a + 1 + ((L.drop (i + 1)).filter (ltB t)).length by omega]
      exact spec_RankTree_L0a_i1 _ _ _ _ _ (by omega) (by omega) (by omega) (by rw [hg]; exact h) k
    | false =>
      rw [if_neg (by decide)]
      have k := ih (i + 1) a (by omega) (by omega) (by omega)
      rw [← wrap_succ (i := i) (by omega)] at k
      exact spec_RankTree_L0a_i2 _ _ _ _ _ (by omega) (by omega) (by omega) (by rw [hg]; exact h) k

theorem rank_both (a : List UInt8) (ha : a.length ≤ 2 ^ 40) : ∃ V B, SC cfg.P i_impl_RankTree [.s (.v .str (bs a))] (.tup [.v (.int .i64) V, .v .bool B]) [] ∧ SC cfg.P i_spec_RankTree [.s (.v .str (bs a))] (.tup [.v (.int .i64) V, .v .bool B]) [] := by
  have h0 := parse_SC a ha
  have h1 := trIs_SC a ha
  cases t : isTree a with
  | false =>
    rw [t] at h0 h1
    exact ⟨0, false, impl_RankTree_p2 _ _ h0, spec_RankTree_p2 _ h1⟩
  | true =>
    rw [t] at h0 h1
    obtain ⟨e, hc⟩ := treeOf_txt t
    have hc1 := carets_SC (treeOf a) (by omega)
    have hc2 := trCarets_SC a ha
    have ec : a.count 40 = (treeOf a).c := by rw [← txt_count, ← e]
    rw [ec] at hc2
    obtain ⟨L, aL, sL, cL⟩ := trees_SC (treeOf a).c hc
    obtain ⟨M, aM, cM⟩ := trList_SC (treeOf a).c hc
    have hm : bs a ∈ L := (aL.mem _).2 ⟨treeOf a, rfl, by rw [← e]⟩
    obtain ⟨A, B, rfl, hA, hB⟩ := rank_split sL hm
    have p16 := pow16 hc
    have lL := aL.len
    have lM := aM.len
    have hi := index_SC (bs a) A B (fun x hx e => Lt.irr _ (e ▸ hA x hx)) (by omega)
    have hr := rank_L (bs a) M (by omega) _ 0 0 rfl (by omega) (by omega)
    rw [List.drop_zero, Nat.zero_add, ← rank_count aL aM, rank_filter hA hB] at hr
    exact ⟨_, _, impl_RankTree_p1 _ _ _ _ _ h0 hc1 cL hi, spec_RankTree_p1 _ _ _ _ _ _ _ _ _ h1 hc2 cM.view hr⟩

/-- The law of RankTree. -/
theorem law_Rk (x : ByteArray) (hx : x.size ≤ 2 ^ 63 - 1) : SC cfg.P i_laws_FnExactRankTree [.s (.v .str x)] (.s (.v .bool true)) [] := by
  obtain ⟨a, rfl⟩ := bs_ex x
  rw [bs_size] at hx
  by_cases h : a.length ≤ 1048576
  · obtain ⟨V, B, hI, hS⟩ := rank_both a (by omega)
    exact laws_FnExactRankTree_p2 _ _ _ _ _ (by rw [bs_size]; omega) hS hI rfl (by simp)
  · exact laws_FnExactRankTree_p1 _ (by rw [bs_size]; omega)

end Go.AI
