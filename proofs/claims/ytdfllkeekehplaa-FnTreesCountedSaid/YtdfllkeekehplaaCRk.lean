/- Contracts: rows of trees; the law of RankTree. -/
import Derived.Test.YtdfllkeekehplaaShSc
import Derived.Test.YtdfllkeekehplaaFt
import Derived.Test.YtdfllkeekehplaaGJ
import Derived.Test.YtdfllkeekehplaaGM
import Derived.Test.YtdfllkeekehplaaCU
set_option autoImplicit false
set_option maxRecDepth 100000
set_option linter.unusedVariables false
namespace Go.AI
open Go.Proofs

abbrev E0 : ByteArray := (⟨#[]⟩ : ByteArray)

theorem gD_lt {T : List ByteArray} {i : Nat} (h : i < T.length) : T.getD i E0 = T[i] := by
  rw [List.getD_eq_getElem?_getD, List.getElem?_eq_getElem h]; rfl

theorem node_szs {a b : ByteArray} (ha : a.size ≤ 2 ^ 30) (hb : b.size ≤ 2 ^ 30) : ((⟨#[40]⟩ : ByteArray)).size + a.size ≤ 2 ^ 62 ∧ (((⟨#[40]⟩ : ByteArray) ++ a)).size + b.size ≤ 2 ^ 62 ∧ ((((⟨#[40]⟩ : ByteArray) ++ a) ++ b)).size + ((⟨#[41]⟩ : ByteArray)).size ≤ 2 ^ 62 := by
  have e : ((⟨#[40]⟩ : ByteArray)).size = 1 := rfl
  have e2 : ((⟨#[41]⟩ : ByteArray)).size = 1 := rfl
  simp only [ByteArray.size_append, e, e2]
  omega

/-- Texts that are not too long. -/
def Sm (L : List ByteArray) : Prop := ∀ s ∈ L, s.size ≤ 2 ^ 30

theorem AllT.sm {n : Nat} {L : List ByteArray} (h : AllT n L) (hn : n ≤ 100) : Sm L := fun s hs => by
  obtain ⟨t, ht, rfl⟩ := (h.mem s).1 hs
  have := txt_len t
  rw [bs_size]; omega

/-! ### The program's -/

theorem itr_L3 (n k i : Int) (a : ByteArray) (x18 x19 : Int) (A : List ByteArray) (al ai : Int) (B : List ByteArray) (out : List (List ByteArray)) (ha : a.size ≤ 2 ^ 30) (hB : Sm B) (lB : B.length ≤ 2 ^ 36) :
    ∀ (m j : Nat) (cur : List ByteArray), B.length - j = m → j ≤ B.length → cur.length + (B.length - j) ≤ 2 ^ 38 →
    LoopSC cfg.P 1 (lb P_impl_trees 3) (impl_trees_L3a n k i a x18 x19 A al ai B (B.length : Int) (j : Int) cur out) (.exit 6) (impl_trees_L3X1 n k i a x18 x19 A al ai B (B.length : Int) (B.length : Int) false (cur ++ (B.drop j).map (nodeT a)) out) := by
  intro m
  induction m with
  | zero =>
    intro j cur hm hj hc
    have e : j = B.length := by omega
    subst e
    rw [List.drop_length, List.map_nil, List.append_nil]
    exact impl_trees_L3a_x2 _ _ _ _ _ _ _ _ _ _ _ _ _ _ (by omega)
  | succ m ih =>
    intro j cur hm hj hc
    have hlt : j < B.length := by omega
    have hd : B.drop j = B[j] :: B.drop (j + 1) := List.drop_eq_getElem_cons hlt
    have hg : List.getD B ((j : Int)).toNat E0 = B[j] := by rw [Int.toNat_natCast, gD_lt hlt]
    have hs := node_szs ha (hB _ (List.getElem_mem hlt))
    have k1 := ih (j + 1) (cur ++ [nodeT a B[j]]) (by omega) (by omega) (by rw [List.length_append, List.length_singleton]; omega)
    rw [← wrap_succ (i := j) (by omega)] at k1
    rw [hd, List.map_cons]
    have ea : ∀ X : List ByteArray, cur ++ nodeT a B[j] :: X = (cur ++ [nodeT a B[j]]) ++ X := fun X => by rw [List.append_assoc]; rfl
    rw [ea]
    have st := fun {e : AEx} {st : St} => impl_trees_L3a_i1 n k i a x18 x19 A al ai B (B.length : Int) (j : Int) cur out (by omega) (by omega) (by omega) hs.1 (by rw [hg]; exact hs.2.1) (by rw [hg]; exact hs.2.2) (by unfold sizeOK lim; rw [List.length_singleton]; omega) (e := e) (st := st)
    rw [hg] at st
    exact st k1

theorem itr_L2 (n : Int) (k i : Nat) (hk : k ≤ 2 ^ 20) (hi : i < k) (x18 x19 : Int) (A : List ByteArray) (out : List (List ByteArray)) (hA : Sm A) (hB : Sm (out.getD (k - 1 - i) [])) (lo : k - 1 - i < out.length) (lA : A.length ≤ 2 ^ 30) (lB : (out.getD (k - 1 - i) []).length ≤ 2 ^ 36) :
    ∀ (m j : Nat) (cur : List ByteArray), A.length - j = m → j ≤ A.length → cur.length + (A.length - j) * (out.getD (k - 1 - i) []).length ≤ 2 ^ 38 →
    LoopSC cfg.P 1 (lb P_impl_trees 2) (impl_trees_L2a n (k : Int) (i : Int) x18 x19 A (A.length : Int) (j : Int) cur out) (.exit 4) (impl_trees_L2X1 n (k : Int) (i : Int) x18 x19 A (A.length : Int) (A.length : Int) false (cur ++ prodL (A.drop j) (out.getD (k - 1 - i) [])) out) := by
  intro m
  induction m with
  | zero =>
    intro j cur hm hj hc
    have e : j = A.length := by omega
    subst e
    have e2 : prodL (A.drop A.length) (out.getD (k - 1 - i) []) = [] := by rw [List.drop_length]; rfl
    rw [e2, List.append_nil]
    exact impl_trees_L2a_x2 _ _ _ _ _ _ _ _ _ _ (by omega)
  | succ m ih =>
    intro j cur hm hj hc
    have hlt : j < A.length := by omega
    have hd : A.drop j = A[j] :: A.drop (j + 1) := List.drop_eq_getElem_cons hlt
    have hg : List.getD A ((j : Int)).toNat E0 = A[j] := by rw [Int.toNat_natCast, gD_lt hlt]
    have w : IntKind.wrap .i64 (IntKind.wrap .i64 ((k : Int) - 1) - (i : Int)) = ((k - 1 - i : Nat) : Int) := by
      rw [w64 (n := (k : Int) - 1) (by omega) (by omega), w64] <;> omega
    have hm2 : (A.length - j) * (out.getD (k - 1 - i) []).length = (out.getD (k - 1 - i) []).length + (A.length - (j + 1)) * (out.getD (k - 1 - i) []).length := by
      rw [show A.length - j = (A.length - (j + 1)) + 1 by omega, Nat.succ_mul]; omega
    have k3 := itr_L3 n (k : Int) (i : Int) A[j] x18 x19 A (A.length : Int) (j : Int) (out.getD (k - 1 - i) []) out (hA _ (List.getElem_mem hlt)) hB lB _ 0 cur rfl (by omega) (by omega)
    rw [List.drop_zero] at k3
    have k1 := ih (j + 1) (cur ++ (out.getD (k - 1 - i) []).map (nodeT A[j])) (by omega) (by omega) (by rw [List.length_append, List.length_map]; omega)
    rw [← wrap_succ (i := j) (by omega)] at k1
    have e3 : prodL (A.drop j) (out.getD (k - 1 - i) []) = (out.getD (k - 1 - i) []).map (nodeT A[j]) ++ prodL (A.drop (j + 1)) (out.getD (k - 1 - i) []) := by rw [hd]; rfl
    rw [e3, ← List.append_assoc]
    have g2 : List.getD out (IntKind.wrap .i64 (IntKind.wrap .i64 ((k : Int) - 1) - (i : Int))).toNat ([] : List ByteArray) = out.getD (k - 1 - i) [] := by rw [w, Int.toNat_natCast]
    rw [← g2, ← hg] at k3
    have st := fun {e : AEx} {st : St} => impl_trees_L2a_i1 n (k : Int) (i : Int) x18 x19 A (A.length : Int) (j : Int) cur out _ _ _ _ _ _ _ _ _ _ _ _ _ _ _ (by omega) (by omega) (by omega) (by rw [w]; omega) (by rw [w]; omega) (by rw [w, Int.toNat_natCast]; omega) k3 (e := e) (st := st)
    rw [g2, hg] at st
    exact st k1

theorem itr_L1 (n : Int) (k : Nat) (hk : k ≤ 16) (f : Nat → List ByteArray) (out : List (List ByteArray)) (lo : out.length = k) (hf : ∀ i, i < k → out.getD i [] = f i) (hs : ∀ i, i < k → Sm (f i)) (hl : ∀ i, i < k → (f i).length ≤ 2 ^ 30) (hp : ∀ i, i < k → (f i).length * (f (k - 1 - i)).length ≤ 2 ^ 32) :
    ∀ (m i : Nat) (cur : List ByteArray), k - i = m → i ≤ k → cur.length ≤ i * 2 ^ 32 →
    LoopSC cfg.P 1 (lb P_impl_trees 1) (impl_trees_L1a n (k : Int) (k : Int) (i : Int) cur out) (.exit 2) (impl_trees_L1X1 n (k : Int) (k : Int) (k : Int) false (cur ++ (List.range' i (k - i)).flatMap fun i => prodL (f i) (f (k - 1 - i))) out) := by
  intro m
  induction m with
  | zero =>
    intro i cur hm hi hc
    have e : i = k := by omega
    subst e
    rw [Nat.sub_self, List.range'_zero, List.flatMap_nil, List.append_nil]
    exact impl_trees_L1a_x2 _ _ _ _ _ _ (by omega)
  | succ m ih =>
    intro i cur hm hi hc
    have hik : i < k := by omega
    have e1 := hf i hik
    have e2 := hf (k - 1 - i) (by omega)
    have hpi := hp i hik
    have k2 := itr_L2 n k i (by omega) hik (k : Int) (i : Int) (f i) out (hs i hik) (by rw [e2]; exact hs _ (by omega)) (by omega) (hl i hik) (by rw [e2]; have := hl (k - 1 - i) (by omega); omega) _ 0 cur rfl (by omega) (by rw [e2, Nat.sub_zero]; omega)
    rw [List.drop_zero, e2] at k2
    have k1 := ih (i + 1) (cur ++ prodL (f i) (f (k - 1 - i))) (by omega) (by omega) (by rw [List.length_append, prodL_len]; omega)
    rw [← wrap_succ (i := i) (by omega)] at k1
    rw [show k - i = (k - (i + 1)) + 1 by omega, List.range'_succ, List.flatMap_cons, ← List.append_assoc]
    have g : List.getD out ((i : Int)).toNat ([] : List ByteArray) = f i := by rw [Int.toNat_natCast]; exact e1
    rw [← g] at k2
    rw [g] at k2
    have k2' : LoopSC cfg.P 1 (lb P_impl_trees 2) (impl_trees_L2a n (k : Int) (i : Int) (k : Int) (i : Int) (List.getD out ((i : Int)).toNat ([] : List ByteArray)) ((List.length (List.getD out ((i : Int)).toNat ([] : List ByteArray)) : Nat) : Int) 0 cur out) (.exit 4) (impl_trees_L2X1 n (k : Int) (i : Int) (k : Int) (i : Int) (f i) ((f i).length : Int) ((f i).length : Int) false (cur ++ prodL (f i) (f (k - 1 - i))) out) := by
      rw [g]; exact k2
    exact impl_trees_L1a_i1 _ _ _ _ _ _ _ _ _ _ _ _ _ _ _ _ _ (by omega) (by omega) (by omega) (by rw [Int.toNat_natCast]; omega) k2' k1

structure TrI (k : Nat) (out : List (List ByteArray)) : Prop where
  len : out.length = k
  all : ∀ i, i < k → AllT i (out.getD i []) ∧ Srt (out.getD i [])

theorem pow16 {n : Nat} (h : n ≤ 8) : 16 ^ n ≤ 2 ^ 32 := by
  have : (16 : Nat) ^ n ≤ 16 ^ 8 := Nat.pow_le_pow_right (by decide) h
  omega

theorem getD_app {α : Type} (A : List α) (x d : α) : (A ++ [x]).getD A.length d = x := by
  rw [List.getD_eq_getElem?_getD, List.getElem?_append_right (Nat.le_refl _), Nat.sub_self]; rfl

theorem getD_app_lt {α : Type} (A : List α) (x d : α) {k : Nat} (h : k < A.length) : (A ++ [x]).getD k d = A.getD k d := by
  rw [List.getD_eq_getElem?_getD, List.getElem?_append_left h, List.getD_eq_getElem?_getD]

theorem prod_pow {f : Nat → List ByteArray} {k : Nat} (hk : k ≤ 8) (h : ∀ i, i < k → AllT i (f i)) {i : Nat} (hi : i < k) : (f i).length * (f (k - 1 - i)).length ≤ 2 ^ 32 := by
  have h1 := (h i hi).len
  have h2 := (h (k - 1 - i) (by omega)).len
  have h3 := Nat.mul_le_mul h1 h2
  rw [← Nat.pow_add] at h3
  have := pow16 (n := i + (k - 1 - i)) (by omega)
  omega

theorem len30 {f : List ByteArray} {i : Nat} (hi : i ≤ 7) (h : AllT i f) : f.length ≤ 2 ^ 30 := by
  have h1 := h.len
  have : (16 : Nat) ^ i ≤ 16 ^ 7 := Nat.pow_le_pow_right (by decide) hi
  omega

theorem itr_L0 (n : Nat) (hn : n ≤ 8) : ∀ (m k : Nat) (out : List (List ByteArray)), n + 1 - k = m → 1 ≤ k → k ≤ n + 1 → TrI k out →
    ∃ out', TrI (n + 1) out' ∧ LoopSC cfg.P 1 (lb P_impl_trees 0) (impl_trees_L0a (n : Int) (k : Int) out) (.exit 0) (impl_trees_L0X1 (n : Int) ((n + 1 : Nat) : Int) false out') := by
  intro m
  induction m with
  | zero =>
    intro k out hm h1 hk h
    have e : k = n + 1 := by omega
    subst e
    exact ⟨out, h, impl_trees_L0a_x2 _ _ _ (by omega)⟩
  | succ m ih =>
    intro k out hm h1 hk h
    have hlen := h.len
    have hall : ∀ i, i < k → AllT i (out.getD i []) := fun i hi => (h.all i hi).1
    have k1 := itr_L1 (n : Int) k (by omega) (fun i => out.getD i []) out hlen (fun i hi => rfl) (fun i hi => (hall i hi).sm (by omega)) (fun i hi => len30 (by omega) (hall i hi)) (fun i hi => prod_pow (f := fun i => out.getD i []) (by omega) hall hi) _ 0 [] rfl (by omega) (by simp)
    obtain ⟨k', rfl⟩ : ∃ k', k = k' + 1 := ⟨k - 1, by omega⟩
    have hw := AllT.whole (fun i => out.getD i []) k' (by omega) fun i hi => hall i (by omega)
    rw [List.nil_append, Nat.sub_zero] at k1
    have e1 : ((List.range' 0 (k' + 1)).flatMap fun i => prodL (out.getD i []) (out.getD (k' + 1 - 1 - i) [])) = wholeL (fun i => out.getD i []) (k' + 1) := rfl
    rw [e1] at k1
    have hl2 := hw.len
    have hp := pow16 (n := k' + 1) (by omega)
    have hne : wholeL (fun i => out.getD i []) (k' + 1) ≠ [] := by
      have key : ∀ j : Nat, ∃ t : Tr, t.c = j := fun j => by
        induction j with
        | zero => exact ⟨.leaf, rfl⟩
        | succ j ihj => obtain ⟨t, ht⟩ := ihj; exact ⟨.node .leaf t, by simp [Tr.c]; omega⟩
      obtain ⟨t, ht⟩ := key (k' + 1)
      have := (hw.mem _).2 ⟨t, ht, rfl⟩
      intro e
      rw [e] at this
      cases this
    have hsort := slices_Sort_SC (wholeL (fun i => out.getD i []) (k' + 1)) hne (by omega)
    have hnext : TrI (k' + 1 + 1) (out ++ [sortT (wholeL (fun i => out.getD i []) (k' + 1))]) := by
      refine ⟨by rw [List.length_append, List.length_singleton]; omega, fun i hi => ?_⟩
      by_cases e : i = k' + 1
      · rw [e, ← hlen, getD_app, hlen]
        exact ⟨hw.perm (sortT_perm _).symm, sortT_srt hw.nd⟩
      · rw [getD_app_lt _ _ _ (by omega)]
        exact h.all i (by omega)
    obtain ⟨out', k3, k4⟩ := ih (k' + 1 + 1) _ (by omega) (by omega) (by omega) hnext
    rw [← wrap_succ (i := k' + 1) (by omega)] at k4
    exact ⟨out', k3, impl_trees_L0a_i1 _ _ _ _ _ _ _ _ _ _ _ (by omega) k1 hsort (by unfold sizeOK lim; rw [List.length_singleton]; omega) k4⟩

theorem trees_SC (n : Nat) (hn : n ≤ 8) : ∃ L, AllT n L ∧ Srt L ∧ SC cfg.P i_impl_trees [.s (.v (.int .i64) (n : Int))] (.s (.v (.sl .str) L)) [] := by
  have h0 : TrI 1 [[(⟨#[46]⟩ : ByteArray)]] := by
    refine ⟨rfl, fun i hi => ?_⟩
    have e : i = 0 := by omega
    subst e
    exact ⟨AllT.zero, List.pairwise_singleton _ _⟩
  obtain ⟨out, h1, h2⟩ := itr_L0 n hn _ 1 _ rfl (by omega) (by omega) h0
  have hl := h1.len
  have k := impl_trees_p1 (n : Int) _ _ _ _ h2 (by omega) (by omega) (by rw [Int.toNat_natCast]; omega)
  rw [Int.toNat_natCast] at k
  exact ⟨_, (h1.all n (by omega)).1, (h1.all n (by omega)).2, k⟩

/-! ### Where a text lies in a row -/

theorem indexS_L (t : ByteArray) (A B : List ByteArray) (hA : ∀ x ∈ A, x ≠ t) (hl : (A ++ t :: B).length ≤ 2 ^ 40) : ∀ (m i : Nat), A.length - i = m → i ≤ A.length →
    LoopSC cfg.P 2 (lb P_slices_Index_string 0) (slices_Index_string_L0a (A ++ t :: B) t ((A ++ t :: B).length : Int) (i : Int)) .ret (slices_Index_string_L0X1 (A.length : Int)) := by
  intro m
  have hlen : (A ++ t :: B).length = A.length + (B.length + 1) := by rw [List.length_append, List.length_cons]
  induction m with
  | zero =>
    intro i hm hi
    have e : i = A.length := by omega
    subst e
    refine slices_Index_string_L0a_x1 _ _ _ _ (by omega) (by omega) (by omega) ?_
    rw [Int.toNat_natCast, List.getD_eq_getElem?_getD, List.getElem?_append_right (Nat.le_refl _), Nat.sub_self]
    rfl
  | succ m ih =>
    intro i hm hi
    have hlt : i < A.length := by omega
    have k := ih (i + 1) (by omega) (by omega)
    rw [← wrap_succ (i := i) (by omega)] at k
    refine slices_Index_string_L0a_i2 _ _ _ _ (by omega) (by omega) (by omega) ?_ k
    rw [Int.toNat_natCast, List.getD_eq_getElem?_getD, List.getElem?_append_left hlt, List.getElem?_eq_getElem hlt]
    exact fun e => hA _ (List.getElem_mem hlt) e.symm

theorem indexS_SC (t : ByteArray) (A B : List ByteArray) (hA : ∀ x ∈ A, x ≠ t) (hl : (A ++ t :: B).length ≤ 2 ^ 40) :
    SC cfg.P i_slices_Index_string [.s (.v (.sl .str) (A ++ t :: B)), .s (.v .str t)] (.s (.v (.int .i64) (A.length : Int))) [] :=
  slices_Index_string_p1 _ _ _ (indexS_L t A B hA hl _ 0 rfl (by omega))

end Go.AI
