/- The reference's rows of trees; the law of RankTree. -/
import Derived.Test.YtdfllkeekehplaaCRk
import Derived.Test.YtdfllkeekehplaaCPg
set_option autoImplicit false
set_option maxRecDepth 100000
set_option linter.unusedVariables false
namespace Go.AI
open Go.Proofs

theorem trOfT_SC {a b : ByteArray} (ha : a.size ≤ 2 ^ 30) (hb : b.size ≤ 2 ^ 30) : SC cfg.P i_spec_trOf [.s (.v .str a), .s (.v .str b)] (.s (.v .str (nodeT a b))) [] := by
  obtain ⟨h1, h2, h3⟩ := node_szs ha hb
  exact spec_trOf_p1 _ _ h1 h2 h3

theorem str_L2 (n k : Int) (a : ByteArray) (al ai : Int) (A B : List ByteArray) (ha : a.size ≤ 2 ^ 30) (hB : Sm B) (lB : B.length ≤ 2 ^ 36) :
    ∀ (m j : Nat) (cur : List ByteArray), B.length - j = m → j ≤ B.length → cur.length + (B.length - j) ≤ 2 ^ 38 →
    LoopSC cfg.P 1 (lb P_spec_trList 2) (spec_trList_L2a n k a al ai (B.length : Int) (j : Int) cur A B) (.exit 4) (spec_trList_L2X1 n k a al ai (B.length : Int) (B.length : Int) false (cur ++ (B.drop j).map (nodeT a)) A B) := by
  intro m
  induction m with
  | zero =>
    intro j cur hm hj hc
    have e : j = B.length := by omega
    subst e
    rw [List.drop_length, List.map_nil, List.append_nil]
    exact spec_trList_L2a_x2 _ _ _ _ _ _ _ _ _ _ (by omega)
  | succ m ih =>
    intro j cur hm hj hc
    have hlt : j < B.length := by omega
    have hd : B.drop j = B[j] :: B.drop (j + 1) := List.drop_eq_getElem_cons hlt
    have hg : List.getD B ((j : Int)).toNat E0 = B[j] := by rw [Int.toNat_natCast, gD_lt hlt]
    have hs := trOfT_SC ha (hB _ (List.getElem_mem hlt))
    have k1 := ih (j + 1) (cur ++ [nodeT a B[j]]) (by omega) (by omega) (by rw [List.length_append, List.length_singleton]; omega)
    rw [← wrap_succ (i := j) (by omega)] at k1
    rw [hd, List.map_cons]
    have ea : ∀ X : List ByteArray, cur ++ nodeT a B[j] :: X = (cur ++ [nodeT a B[j]]) ++ X := fun X => by rw [List.append_assoc]; rfl
    rw [ea]
    exact spec_trList_L2a_i1 n k a al ai (B.length : Int) (j : Int) cur A B (nodeT a B[j]) (by omega) (by omega) (by omega) (by rw [Int.toNat_natCast]; omega) (by rw [hg]; exact hs) (by unfold sizeOK lim; rw [List.length_singleton]; omega) k1

theorem str_L1 (n k : Int) (A B : List ByteArray) (hA : Sm A) (hB : Sm B) (lA : A.length ≤ 2 ^ 30) (lB : B.length ≤ 2 ^ 36) :
    ∀ (m j : Nat) (cur : List ByteArray), A.length - j = m → j ≤ A.length → cur.length + (A.length - j) * B.length ≤ 2 ^ 38 →
    LoopSC cfg.P 1 (lb P_spec_trList 1) (spec_trList_L1a n k (A.length : Int) (j : Int) cur A B) (.exit 2) (spec_trList_L1X1 n k (A.length : Int) (A.length : Int) false (cur ++ prodL (A.drop j) B) A B) := by
  intro m
  induction m with
  | zero =>
    intro j cur hm hj hc
    have e : j = A.length := by omega
    subst e
    have e2 : prodL (A.drop A.length) B = [] := by rw [List.drop_length]; rfl
    rw [e2, List.append_nil]
    exact spec_trList_L1a_x2 _ _ _ _ _ _ _ (by omega)
  | succ m ih =>
    intro j cur hm hj hc
    have hlt : j < A.length := by omega
    have hd : A.drop j = A[j] :: A.drop (j + 1) := List.drop_eq_getElem_cons hlt
    have hg : List.getD A ((j : Int)).toNat E0 = A[j] := by rw [Int.toNat_natCast, gD_lt hlt]
    have hm2 : (A.length - j) * B.length = B.length + (A.length - (j + 1)) * B.length := by
      rw [show A.length - j = (A.length - (j + 1)) + 1 by omega, Nat.succ_mul]; omega
    have k3 := str_L2 n k A[j] (A.length : Int) (j : Int) A B (hA _ (List.getElem_mem hlt)) hB lB _ 0 cur rfl (by omega) (by omega)
    rw [List.drop_zero] at k3
    have k1 := ih (j + 1) (cur ++ B.map (nodeT A[j])) (by omega) (by omega) (by rw [List.length_append, List.length_map]; omega)
    rw [← wrap_succ (i := j) (by omega)] at k1
    have e3 : prodL (A.drop j) B = B.map (nodeT A[j]) ++ prodL (A.drop (j + 1)) B := by rw [hd]; rfl
    rw [e3, ← List.append_assoc]
    have k3' : LoopSC cfg.P 1 (lb P_spec_trList 2) (spec_trList_L2a n k (List.getD A ((j : Int)).toNat E0) (A.length : Int) (j : Int) ((List.length B : Nat) : Int) 0 cur A B) (.exit 4) (spec_trList_L2X1 n k A[j] (A.length : Int) (j : Int) (B.length : Int) (B.length : Int) false (cur ++ B.map (nodeT A[j])) A B) := by
      rw [hg]; exact k3
    exact spec_trList_L1a_i1 _ _ _ _ _ _ _ _ _ _ _ _ _ _ _ _ _ _ (by omega) (by omega) (by omega) (by rw [Int.toNat_natCast]; omega) k3' k1

theorem str_L0 (n : Nat) (hn : n ≤ 8) (f : Nat → List ByteArray) (hall : ∀ i, i < n → AllT i (f i)) (hf : ∀ i, i < n → SC cfg.P i_spec_trList [.s (.v (.int .i64) (i : Int))] (.s (.own t_string .str (f i))) []) :
    ∀ (m i : Nat) (cur : List ByteArray), n - i = m → i ≤ n → cur.length ≤ i * 2 ^ 32 →
    LoopSC cfg.P 1 (lb P_spec_trList 0) (spec_trList_L0a (n : Int) (i : Int) cur) (.exit 0) (spec_trList_L0X1 (n : Int) (n : Int) false (cur ++ (List.range' i (n - i)).flatMap fun i => prodL (f i) (f (n - 1 - i)))) := by
  intro m
  induction m with
  | zero =>
    intro i cur hm hi hc
    have e : i = n := by omega
    subst e
    rw [Nat.sub_self, List.range'_zero, List.flatMap_nil, List.append_nil]
    exact spec_trList_L0a_x2 _ _ _ (by omega)
  | succ m ih =>
    intro i cur hm hi hc
    have hik : i < n := by omega
    have hpi := prod_pow hn hall hik
    have k2 := str_L1 (n : Int) (i : Int) (f i) (f (n - 1 - i)) ((hall i hik).sm (by omega)) ((hall (n - 1 - i) (by omega)).sm (by omega)) (len30 (by omega) (hall i hik)) (by have := len30 (by omega) (hall (n - 1 - i) (by omega)); omega) _ 0 cur rfl (by omega) (by rw [Nat.sub_zero]; omega)
    rw [List.drop_zero] at k2
    have k1 := ih (i + 1) (cur ++ prodL (f i) (f (n - 1 - i))) (by omega) (by omega) (by rw [List.length_append, prodL_len]; omega)
    rw [← wrap_succ (i := i) (by omega)] at k1
    rw [show n - i = (n - (i + 1)) + 1 by omega, List.range'_succ, List.flatMap_cons, ← List.append_assoc]
    have w : IntKind.wrap .i64 (IntKind.wrap .i64 ((n : Int) - 1) - (i : Int)) = ((n - 1 - i : Nat) : Int) := by
      rw [w64 (n := (n : Int) - 1) (by omega) (by omega), w64] <;> omega
    exact spec_trList_L0a_i1 _ _ _ _ _ _ _ _ _ _ _ _ _ (by omega) (hf i hik) (by rw [w]; exact hf _ (by omega)) k2 k1

/-! ### The sort by insertion -/

theorem not_f {b : Bool} (h : (!b) = false) : b = true := by cases b <;> simp_all

theorem str_L4 (i : Int) (t : ByteArray) : ∀ (n : Nat) (P : List ByteArray) (x : ByteArray) (Q R : List ByteArray), P.length = n → (P ++ x :: (Q ++ R)).length ≤ 2 ^ 40 → Srt (P ++ Q) → (∀ q ∈ Q, Lt t q) → t ∉ P →
    ∃ (P' Q' : List ByteArray) (y : ByteArray) (b : Bool), P' ++ Q' = P ++ Q ∧ Srt (P' ++ t :: Q') ∧
    LoopSC cfg.P 1 (lb P_spec_trList 4) (spec_trList_L4a i t (n : Int) (P ++ x :: (Q ++ R))) (.exit 8) (spec_trList_L4X1 i t (P'.length : Int) b (P' ++ y :: (Q' ++ R)))
  | 0, P, x, Q, R, hP, hl, hs, hq, hn => by
    have e : P = [] := List.length_eq_zero_iff.1 hP
    subst e
    exact ⟨[], Q, x, false, rfl, List.pairwise_cons.2 ⟨hq, hs⟩, spec_trList_L4a_x3 _ _ _ _ (by omega)⟩
  | j + 1, P, x, Q, R, hP, hl, hs, hq, hn => by
    obtain ⟨P0, p, rfl⟩ := snoc_ex P (by intro e; subst e; simp at hP)
    have lP0 : P0.length = j := by simpa using hP
    have w : IntKind.wrap .i64 (((j + 1 : Nat) : Int) - 1) = (j : Int) := by rw [w64] <;> simp at hl ⊢ <;> omega
    have hlen : (P0 ++ [p] ++ x :: (Q ++ R)).length = j + 1 + (1 + (Q ++ R).length) := by simp [lP0]; omega
    have hgp : List.getD (P0 ++ [p] ++ x :: (Q ++ R)) j E0 = p := by
      rw [List.append_assoc, ← lP0, List.getD_eq_getElem?_getD, List.getElem?_append_right (Nat.le_refl _), Nat.sub_self]; rfl
    have hg : List.getD (P0 ++ [p] ++ x :: (Q ++ R)) (IntKind.wrap .i64 (((j + 1 : Nat) : Int) - 1)).toNat E0 = p := by rw [w, Int.toNat_natCast, hgp]
    have hpt : p ≠ t := fun e => hn (by simp [e])
    cases ht : (!(Op.bytesLess ((List.getD (P0 ++ [p] ++ x :: (Q ++ R)) (IntKind.wrap .i64 (((j + 1 : Nat) : Int) - 1)).toNat E0)).toList t.toList || (((List.getD (P0 ++ [p] ++ x :: (Q ++ R)) (IntKind.wrap .i64 (((j + 1 : Nat) : Int) - 1)).toNat E0)).toList == t.toList))) with
    | false =>
      have h2 := ht
      rw [hg] at h2
      have hle : Le p t := ((le_test p t true).1 (not_f h2)).1 rfl
      have hlt : Lt p t := hle.resolve_left hpt
      have hs1 := List.pairwise_append.1 hs
      have hs2 := List.pairwise_append.1 hs1.1
      refine ⟨P0 ++ [p], Q, x, false, rfl, List.pairwise_append.2 ⟨hs1.1, List.pairwise_cons.2 ⟨hq, hs1.2.1⟩, fun a ha b hb => ?_⟩, ?_⟩
      · rcases List.mem_cons.1 hb with rfl | hb
        · rcases List.mem_append.1 ha with h | h
          · exact (hs2.2.2 a h p (by simp)).tr hlt
          · rw [List.mem_singleton] at h; subst h; exact hlt
        · exact hs1.2.2 a ha b hb
      · rw [hP]
        exact spec_trList_L4a_x2 _ _ _ _ (by omega) (by rw [w]; omega) (by rw [w, hlen]; omega) (by rw [w, Int.toNat_natCast, hlen]; omega) ht
    | true =>
      have h2 := ht
      rw [hg] at h2
      have hgt : Lt t p := by
        rcases Le.tot p t with h | h
        · rw [(le_test p t true).2 ⟨fun _ => h, fun _ => rfl⟩] at h2; cases h2
        · exact h
      have e2 : P0 ++ (p :: Q) = P0 ++ [p] ++ Q := by simp
      have hs3 : Srt (P0 ++ (p :: Q)) := by rw [e2]; exact hs
      obtain ⟨P', Q', y, b, k1, k2, k3⟩ := str_L4 i t j P0 p (p :: Q) R lP0 (by simp at hl ⊢; omega) hs3 (fun q h => by
        rcases List.mem_cons.1 h with rfl | h
        · exact hgt
        · exact hq q h) (fun h => hn (by simp [h]))
      refine ⟨P', Q', y, b, by rw [k1, e2], k2, ?_⟩
      have st := fun {e : AEx} {st : St} => spec_trList_L4a_i1 i t ((j + 1 : Nat) : Int) (P0 ++ [p] ++ x :: (Q ++ R)) (by omega) (by rw [w]; omega) (by rw [w, hlen]; omega) (by rw [w, Int.toNat_natCast, hlen]; omega) ht (by omega) (by rw [hlen]; omega) (by rw [Int.toNat_natCast, hlen]; omega) (e := e) (st := st)
      have es : (P0 ++ [p] ++ x :: (Q ++ R)).set (j + 1) p = P0 ++ p :: (p :: Q ++ R) := by
        rw [List.set_append_right _ _ (by simp [lP0])]
        simp [lP0]
      rw [hg, w, Int.toNat_natCast, es] at st
      exact st k3

theorem str_L3 : ∀ (m i : Nat) (l : List ByteArray), l.length - i = m → i ≤ l.length → l.length ≤ 2 ^ 40 → l.Nodup → Srt (l.take i) →
    ∃ l', l'.Perm l ∧ Srt l' ∧ LoopSC cfg.P 1 (lb P_spec_trList 3) (spec_trList_L3a (i : Int) l) (.exit 6) (spec_trList_L3X1 (l.length : Int) false l') := by
  intro m
  induction m with
  | zero =>
    intro i l hm hi hl hd hs
    have e : i = l.length := by omega
    subst e
    rw [List.take_length] at hs
    exact ⟨l, List.Perm.refl _, hs, spec_trList_L3a_x2 _ _ (by omega)⟩
  | succ m ih =>
    intro i l hm hi hl hd hs
    have hlt : i < l.length := by omega
    have el : l = l.take i ++ l[i] :: ([] ++ l.drop (i + 1)) := by
      conv => lhs; rw [← List.take_append_drop i l]
      rw [List.drop_eq_getElem_cons hlt]; rfl
    have lt : (l.take i).length = i := by rw [List.length_take]; omega
    have hnot : l[i] ∉ l.take i := fun h => by
      have hd2 : (l.take i ++ l[i] :: ([] ++ l.drop (i + 1))).Nodup := el ▸ hd
      exact (List.nodup_append.1 hd2).2.2 _ h _ List.mem_cons_self rfl
    obtain ⟨P', Q', y, b, k1, k2, k3⟩ := str_L4 (i : Int) l[i] i (l.take i) l[i] [] (l.drop (i + 1)) lt (by rw [← el]; exact hl) (by rw [List.append_nil]; exact hs) (by simp) hnot
    rw [← el] at k3
    rw [List.append_nil] at k1
    have lpq : P'.length + Q'.length = i := by rw [← List.length_append, k1, lt]
    have ls : (P' ++ y :: (Q' ++ l.drop (i + 1))).length = l.length := by
      rw [List.length_append, List.length_cons, List.length_append, List.length_drop]; omega
    have eset : (P' ++ y :: (Q' ++ l.drop (i + 1))).set P'.length l[i] = P' ++ l[i] :: (Q' ++ l.drop (i + 1)) := by
      rw [List.set_append_right _ _ (Nat.le_refl _), Nat.sub_self]; rfl
    have pm : (P' ++ l[i] :: (Q' ++ l.drop (i + 1))).Perm l := by
      have h1 : (P' ++ l[i] :: (Q' ++ l.drop (i + 1))).Perm (l[i] :: (P' ++ (Q' ++ l.drop (i + 1)))) := List.perm_middle
      have h2 : (l.take i ++ l[i] :: ([] ++ l.drop (i + 1))).Perm (l[i] :: (l.take i ++ ([] ++ l.drop (i + 1)))) := List.perm_middle
      rw [← el] at h2
      refine h1.trans (List.Perm.trans ?_ h2.symm)
      rw [← List.append_assoc, k1]
      exact List.Perm.refl _
    have l2 : (P' ++ l[i] :: (Q' ++ l.drop (i + 1))).length = l.length := pm.length_eq
    have tk : (P' ++ l[i] :: (Q' ++ l.drop (i + 1))).take (i + 1) = P' ++ l[i] :: Q' := by
      have e3 : P' ++ l[i] :: (Q' ++ l.drop (i + 1)) = (P' ++ l[i] :: Q') ++ l.drop (i + 1) := by simp
      rw [e3]
      exact List.take_left' (by rw [List.length_append, List.length_cons]; omega)
    obtain ⟨l'', q1, q2, q3⟩ := ih (i + 1) (P' ++ l[i] :: (Q' ++ l.drop (i + 1))) (by rw [l2]; omega) (by rw [l2]; omega) (by rw [l2]; omega) (pm.nodup_iff.2 hd) (by rw [tk]; exact k2)
    rw [l2, ← wrap_succ (i := i) (by omega)] at q3
    refine ⟨l'', q1.trans pm, q2, ?_⟩
    have hg : List.getD l ((i : Int)).toNat E0 = l[i] := by rw [Int.toNat_natCast, gD_lt hlt]
    have st := fun {e : AEx} {st : St} => spec_trList_L3a_i1 (i : Int) l _ _ _ _ _ (by omega) (by omega) (by omega) (by rw [Int.toNat_natCast]; omega) (by rw [hg]; exact k3) (by omega) (by rw [ls]; omega) (by rw [Int.toNat_natCast, ls]; omega) (e := e) (st := st)
    rw [Int.toNat_natCast, eset] at st
    exact st q3

theorem trList_SC : ∀ n : Nat, n ≤ 8 → ∃ L, AllT n L ∧ Srt L ∧ SC cfg.P i_spec_trList [.s (.v (.int .i64) (n : Int))] (.s (.own t_string .str L)) [] := by
  intro n
  induction n using Nat.strongRecOn with
  | ind n ih =>
    intro hn
    cases n with
    | zero => exact ⟨_, AllT.zero, List.pairwise_singleton _ _, spec_trList_p1 _ rfl⟩
    | succ n =>
      have hex : ∀ i, ∃ L, i < n + 1 → AllT i L ∧ SC cfg.P i_spec_trList [.s (.v (.int .i64) (i : Int))] (.s (.own t_string .str L)) [] := fun i => by
        by_cases h : i < n + 1
        · obtain ⟨L, h1, _, h2⟩ := ih i h (by omega)
          exact ⟨L, fun _ => ⟨h1, h2⟩⟩
        · exact ⟨[], fun g => absurd g h⟩
      obtain ⟨f, hf⟩ : ∃ f : Nat → List ByteArray, ∀ i, i < n + 1 → AllT i (f i) ∧ SC cfg.P i_spec_trList [.s (.v (.int .i64) (i : Int))] (.s (.own t_string .str (f i))) [] :=
        ⟨fun i => Classical.choose (hex i), fun i hi => Classical.choose_spec (hex i) hi⟩
      have k0 := str_L0 (n + 1) hn f (fun i hi => (hf i hi).1) (fun i hi => (hf i hi).2) _ 0 [] rfl (by omega) (by simp)
      rw [List.nil_append, Nat.sub_zero] at k0
      have hw := AllT.whole f n (by omega) fun i hi => (hf i (by omega)).1
      have e1 : ((List.range' 0 (n + 1)).flatMap fun i => prodL (f i) (f (n + 1 - 1 - i))) = wholeL f (n + 1) := rfl
      rw [e1] at k0
      have hl := hw.len
      have hp := pow16 (n := n + 1) hn
      have hpos : 0 < (wholeL f (n + 1)).length := by
        have key : ∀ j : Nat, ∃ t : Tr, t.c = j := fun j => by
          induction j with
          | zero => exact ⟨.leaf, rfl⟩
          | succ j ihj => obtain ⟨t, ht⟩ := ihj; exact ⟨.node .leaf t, by simp [Tr.c]; omega⟩
        obtain ⟨t, ht⟩ := key (n + 1)
        exact List.length_pos_of_mem ((hw.mem _).2 ⟨t, ht, rfl⟩)
      obtain ⟨l', p1, p3, p2⟩ := str_L3 _ 1 (wholeL f (n + 1)) rfl (by omega) (by omega) hw.nd (by
        obtain ⟨x, r, e⟩ : ∃ x r, wholeL f (n + 1) = x :: r := by cases h : wholeL f (n + 1) with
          | nil => rw [h] at hpos; simp at hpos
          | cons x r => exact ⟨x, r, rfl⟩
        rw [e]; exact List.pairwise_singleton _ _)
      exact ⟨l', hw.perm p1.symm, p3, spec_trList_p2 _ _ _ _ _ _ _ _ (by omega) k0 p2⟩

/-! ### The law -/

theorem rank_L (t : ByteArray) (L : List ByteArray) (hl : L.length ≤ 2 ^ 40) : ∀ (m i : Nat) (a : Nat), L.length - i = m → i ≤ L.length → a ≤ i →
    LoopSC cfg.P 1 (lb P_spec_RankTree 0) (spec_RankTree_L0a t (a : Int) L (L.length : Int) (i : Int)) (.exit 0) (spec_RankTree_L0X1 t ((a + ((L.drop i).filter (ltB t)).length : Nat) : Int) L (L.length : Int) (L.length : Int) false) := by
  intro m
  induction m with
  | zero =>
    intro i a hm hi ha
    have e : i = L.length := by omega
    subst e
    rw [List.drop_length]
    exact spec_RankTree_L0a_x3 _ _ _ _ _ (by omega)
  | succ m ih =>
    intro i a hm hi ha
    have hlt : i < L.length := by omega
    have hd : L.drop i = L[i] :: L.drop (i + 1) := List.drop_eq_getElem_cons hlt
    have hg : List.getD L ((i : Int)).toNat E0 = L[i] := by rw [Int.toNat_natCast, gD_lt hlt]
    rw [hd, List.filter_cons]
    cases h : ltB t L[i] with
    | true =>
      rw [if_pos rfl, List.length_cons]
      have k := ih (i + 1) (a + 1) (by omega) (by omega) (by omega)
      rw [← wrap_succ (i := i) (by omega), ← wrap_succ (i := a) (by omega)] at k
      rw [show a + (((L.drop (i + 1)).filter (ltB t)).length + 1) = a + 1 + ((L.drop (i + 1)).filter (ltB t)).length by omega]
      exact spec_RankTree_L0a_i1 _ _ _ _ _ (by omega) (by omega) (by omega) (by rw [hg]; exact h) k
    | false =>
      rw [if_neg (by decide)]
      have k := ih (i + 1) a (by omega) (by omega) (by omega)
      rw [← wrap_succ (i := i) (by omega)] at k
      exact spec_RankTree_L0a_i2 _ _ _ _ _ (by omega) (by omega) (by omega) (by rw [hg]; exact h) k

end Go.AI
