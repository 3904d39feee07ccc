/- The laws of SphereSize and LengthBySpheres. -/
import Derived.Test.YtlimomnchicfgaaFxC
import Derived.Test.YtlimomnchicfgaaCSw
import Derived.Test.YtlimomnchicfgaaGE
import Derived.Test.YtlimomnchicfgaaGF
import Derived.Test.YtlimomnchicfgaaGI
set_option autoImplicit false
set_option maxRecDepth 100000
set_option linter.unusedVariables false
namespace Go.AI
open Go.Proofs

theorem in5_SC (n : Int) : SC cfg.P i_spec_l1In [.s (.v (.int .i64) n), .s (.v (.int .i64) (0 : Int)), .s (.v (.int .i64) (5 : Int))] (.s (.v .bool (decide (0 ≤ n ∧ n ≤ 5)))) [] := by
  by_cases h1 : 0 ≤ n
  · by_cases h2 : n ≤ 5
    · rw [decide_eq_true ⟨h1, h2⟩]; exact spec_l1In_p1 _ _ _ (by omega) h2
    · rw [decide_eq_false (fun h => h2 h.2)]; exact spec_l1In_p2 _ _ _ (by omega) h2
  · rw [decide_eq_false (fun h => h1 h.1)]; exact spec_l1In_p3 _ _ _ (by omega)

theorem size_eq {most : Nat} {A : List (List (Tr × Tr))} {mp : List (ByteArray × Bool)} {B : List (List ByteArray)} (hA : SphI most A mp) (hB : SphS (most + 1) B) {k : Nat} (hk : k ≤ most) : (A.getD k []).length = (B.getD k []).length := by
  obtain ⟨g1, g2, g3⟩ := hA.sph k hk
  have hT := hB.sph k (by omega)
  have hn : ((A.getD k []).map prT).Nodup := List.pairwise_map.2 (List.Pairwise.imp (fun {a b} h e => h (prT_inj e)) g1)
  have l1 := len_of_mem ((A.getD k []).map prT) (B.getD k []) hn fun x hx => by
    rw [List.mem_map] at hx
    obtain ⟨p, hp, rfl⟩ := hx
    exact (hT.mem p).2 ((g2 p).1 hp)
  have l2 := len_of_mem (B.getD k []) ((A.getD k []).map prT) hT.s.nodup fun x hx => by
    obtain ⟨p, hp, rfl⟩ := (hT.m x).1 hx
    exact List.mem_map.2 ⟨p, (g2 p).2 hp, rfl⟩
  rw [List.length_map] at l1 l2
  omega

theorem sz_both (n : Int) : ∃ V B, SC cfg.P i_impl_SphereSize [.s (.v (.int .i64) n)] (.tup [.v (.int .i64) V, .v .bool B]) [] ∧ SC cfg.P i_spec_SphereSize [.s (.v (.int .i64) n)] (.tup [.v (.int .i64) V, .v .bool B]) [] := by
  have h1 := in5_SC n
  by_cases h : 0 ≤ n ∧ n ≤ 5
  · rw [decide_eq_true h] at h1
    obtain ⟨r, rfl⟩ : ∃ r : Nat, n = (r : Int) := ⟨n.toNat, by omega⟩
    obtain ⟨A, mp, hA, cA⟩ := spheres_SC r (by omega)
    obtain ⟨B, hB, cB⟩ := lnSpheres_SC r (by omega)
    have lA := hA.len
    have lB := hB.len
    have e := size_eq hA hB (Nat.le_refl r)
    refine ⟨_, _, impl_SphereSize_p3 _ A (by omega) (by omega) cA.view (by omega) (by omega), ?_⟩
    have k := spec_SphereSize_p1 (r : Int) B h1 cB.view (by omega) (by omega)
    rw [Int.toNat_natCast] at k ⊢
    rw [e]
    exact k
  · rw [decide_eq_false h] at h1
    refine ⟨0, false, ?_, spec_SphereSize_p2 _ h1⟩
    by_cases h2 : n < 0
    · exact impl_SphereSize_p1 _ h2
    · exact impl_SphereSize_p2 _ h2 (by omega)

/-- The law of SphereSize. -/
theorem law_Sz (n : Int) (_hn : (Lit.int .i64 n).wf = true) : SC cfg.P i_laws_FnExactSphereSize [.s (.v (.int .i64) n)] (.s (.v .bool true)) [] := by
  obtain ⟨V, B, hI, hS⟩ := sz_both n
  exact laws_FnExactSphereSize_p1 _ _ _ _ _ hS hI rfl (by simp)

/-! ### Lengths by spheres -/

def fndS (f : Nat → Bool) : Nat → Nat → Option Nat
  | 0, i => none
  | m + 1, i => if f i = true then some i else fndS f m (i + 1)

theorem fndS_congr {f g : Nat → Bool} : ∀ (m i : Nat), (∀ k, i ≤ k → k < i + m → f k = g k) → fndS f m i = fndS g m i
  | 0, _, _ => rfl
  | m + 1, i, h => by
    rw [fndS, fndS, h i (Nat.le_refl _) (by omega), fndS_congr m (i + 1) fun k h1 h2 => h k (by omega) (by omega)]

theorem lbs_i1 (tx : ByteArray) (A : List (List (Tr × Tr))) (al k : Int) (L : List (Tr × Tr)) (hL : ∀ q ∈ L, q.1.c ≤ 2 ^ 10 ∧ q.2.c ≤ 2 ^ 10) (hl : L.length ≤ 2 ^ 30) : ∀ (m j : Nat), L.length - j = m → j ≤ L.length →
    (tx ∈ (L.drop j).map prT → LoopSC cfg.P 2 (lb P_impl_LengthBySpheres 1) (impl_LengthBySpheres_L1a tx k A al k L (L.length : Int) (j : Int)) .ret (impl_LengthBySpheres_L1X1 k true)) ∧
    (¬ tx ∈ (L.drop j).map prT → LoopSC cfg.P 2 (lb P_impl_LengthBySpheres 1) (impl_LengthBySpheres_L1a tx k A al k L (L.length : Int) (j : Int)) (.exit 2) (impl_LengthBySpheres_L1X2 tx k A al k L (L.length : Int) (L.length : Int) false)) := by
  intro m
  induction m with
  | zero =>
    intro j hm hj
    have e : j = L.length := by omega
    subst e
    rw [List.drop_length]
    exact ⟨fun h => (by cases h), fun _ => impl_LengthBySpheres_L1a_x3 _ _ _ _ _ _ _ _ (by omega)⟩
  | succ m ih =>
    intro j hm hj
    have hlt : j < L.length := by omega
    have hd : L.drop j = L[j] :: L.drop (j + 1) := List.drop_eq_getElem_cons hlt
    have hg : List.getD L ((j : Int)).toNat (Tr.leaf, Tr.leaf) = L[j] := by rw [Int.toNat_natCast, List.getD_eq_getElem?_getD, List.getElem?_eq_getElem hlt]; rfl
    obtain ⟨c1, c2⟩ := hL _ (List.getElem_mem hlt)
    have htx := pairText_SC L[j] (by omega) (by omega)
    rw [← hg] at htx
    obtain ⟨i1, i2⟩ := ih (j + 1) (by omega) (by omega)
    rw [← wrap_succ (i := j) (by omega)] at i1 i2
    rw [hd, List.map_cons, List.mem_cons]
    by_cases he : prT L[j] = tx
    · refine ⟨fun _ => impl_LengthBySpheres_L1a_x1 _ _ _ _ _ _ _ _ _ (by omega) (by omega) (by omega) htx (by rw [hg]; exact he), fun h => absurd (.inl he.symm) h⟩
    · have st := fun {e : AEx} {st : St} => impl_LengthBySpheres_L1a_i2 tx k A al k L (L.length : Int) (j : Int) _ (by omega) (by omega) (by omega) htx (by rw [hg]; exact he) (e := e) (st := st)
      exact ⟨fun h => st (i1 (h.elim (fun h => absurd h.symm he) id)), fun h => st (i2 fun g => h (.inr g))⟩

theorem lbs_i0 (tx : ByteArray) (A : List (List (Tr × Tr))) (hA : ∀ k, k < A.length → (∀ q ∈ A.getD k [], q.1.c ≤ 2 ^ 10 ∧ q.2.c ≤ 2 ^ 10) ∧ (A.getD k []).length ≤ 2 ^ 30) (hl : A.length ≤ 10) (f : Nat → Bool) (hf : ∀ k, k < A.length → (f k = true ↔ tx ∈ (A.getD k []).map prT)) :
    ∀ (m i : Nat), A.length - i = m → i ≤ A.length →
    (∀ k, fndS f m i = some k → LoopSC cfg.P 2 (lb P_impl_LengthBySpheres 0) (impl_LengthBySpheres_L0a tx A (A.length : Int) (i : Int)) .ret (impl_LengthBySpheres_L0X1 (k : Int) true)) ∧
    (fndS f m i = none → LoopSC cfg.P 2 (lb P_impl_LengthBySpheres 0) (impl_LengthBySpheres_L0a tx A (A.length : Int) (i : Int)) (.exit 0) (impl_LengthBySpheres_L0X2 tx A (A.length : Int) (A.length : Int) false)) := by
  intro m
  induction m with
  | zero =>
    intro i hm hi
    have e : i = A.length := by omega
    subst e
    exact ⟨fun k h => (by cases h), fun _ => impl_LengthBySpheres_L0a_x3 _ _ _ _ (by omega)⟩
  | succ m ih =>
    intro i hm hi
    have hlt : i < A.length := by omega
    have hg : List.getD A ((i : Int)).toNat ([] : List (Tr × Tr)) = A.getD i [] := by rw [Int.toNat_natCast]
    obtain ⟨a1, a2⟩ := hA i hlt
    obtain ⟨j1, j2⟩ := lbs_i1 tx A (A.length : Int) (i : Int) (A.getD i []) a1 a2 _ 0 rfl (by omega)
    rw [List.drop_zero, ← hf i hlt] at j1 j2
    rw [← hg] at j1 j2
    obtain ⟨i1, i2⟩ := ih (i + 1) (by omega) (by omega)
    rw [← wrap_succ (i := i) (by omega)] at i1 i2
    rw [fndS]
    by_cases h : f i = true
    · rw [if_pos h]
      exact ⟨fun k e => by cases e; exact impl_LengthBySpheres_L0a_x1 _ _ _ _ _ _ (by omega) (by omega) (by omega) (j1 h), fun e => by cases e⟩
    · rw [if_neg h]
      have st := fun {e : AEx} {st : St} => impl_LengthBySpheres_L0a_i2 tx A (A.length : Int) (i : Int) _ _ _ _ _ _ _ _ _ (by omega) (by omega) (by omega) (j2 h) (e := e) (st := st)
      exact ⟨fun k e => st (i1 k e), fun e => st (i2 e)⟩

theorem lbs_s0 (tx : ByteArray) (B : List (List ByteArray)) (hB : ∀ k, k < B.length → Srt (B.getD k []) ∧ (B.getD k []).length ≤ 2 ^ 30) (hl : B.length ≤ 10) (f : Nat → Bool) (hf : ∀ k, k < B.length → (f k = true ↔ tx ∈ B.getD k [])) :
    ∀ (m i : Nat), B.length - i = m → i ≤ B.length →
    (∀ k, fndS f m i = some k → LoopSC cfg.P 2 (lb P_spec_LengthBySpheres 0) (spec_LengthBySpheres_L0a tx B (B.length : Int) (i : Int)) .ret (spec_LengthBySpheres_L0X1 (k : Int) true)) ∧
    (fndS f m i = none → LoopSC cfg.P 2 (lb P_spec_LengthBySpheres 0) (spec_LengthBySpheres_L0a tx B (B.length : Int) (i : Int)) (.exit 0) (spec_LengthBySpheres_L0X2 tx B (B.length : Int) (B.length : Int) false)) := by
  intro m
  induction m with
  | zero =>
    intro i hm hi
    have e : i = B.length := by omega
    subst e
    exact ⟨fun k h => (by cases h), fun _ => spec_LengthBySpheres_L0a_x3 _ _ _ _ (by omega)⟩
  | succ m ih =>
    intro i hm hi
    have hlt : i < B.length := by omega
    have hg : List.getD B ((i : Int)).toNat ([] : List ByteArray) = B.getD i [] := by rw [Int.toNat_natCast]
    obtain ⟨a1, a2⟩ := hB i hlt
    have hh := lnHas_SC (B.getD i []) tx a1 a2
    obtain ⟨i1, i2⟩ := ih (i + 1) (by omega) (by omega)
    rw [← wrap_succ (i := i) (by omega)] at i1 i2
    rw [fndS]
    by_cases h : f i = true
    · rw [if_pos h]
      rw [decide_eq_true ((hf i hlt).1 h), ← hg] at hh
      exact ⟨fun k e => by cases e; exact spec_LengthBySpheres_L0a_x1 _ _ _ _ (by omega) (by omega) (by omega) hh, fun e => by cases e⟩
    · rw [if_neg h]
      rw [decide_eq_false fun g => h ((hf i hlt).2 g), ← hg] at hh
      have st := fun {e : AEx} {st : St} => spec_LengthBySpheres_L0a_i2 tx B (B.length : Int) (i : Int) (by omega) (by omega) (by omega) hh (e := e) (st := st)
      exact ⟨fun k e => st (i1 k e), fun e => st (i2 e)⟩

open Classical in
noncomputable def sphB (p : Tr × Tr) (k : Nat) : Bool := decide (Sph k p)

open Classical in
theorem sphB_iff (p : Tr × Tr) (k : Nat) : sphB p k = true ↔ Sph k p := by unfold sphB; rw [decide_eq_true_eq]

theorem lbs_both (a b : List UInt8) (n : Int) (ha : a.length ≤ 2 ^ 40) (hb : b.length ≤ 2 ^ 40) :
    ∃ V B, SC cfg.P i_impl_LengthBySpheres [.s (.v (.pr .str .str) (bs a, bs b)), .s (.v (.int .i64) n)] (.tup [.v (.int .i64) V, .v .bool B]) [] ∧
    SC cfg.P i_spec_LengthBySpheres [.s (.v (.pr .str .str) (bs a, bs b)), .s (.v (.int .i64) n)] (.tup [.v (.int .i64) V, .v .bool B]) [] := by
  have h0 := pairOf_SC a b ha hb
  have h1 := prGood_SC a b ha hb
  have h5 := in5_SC n
  cases t : isPair a b with
  | false =>
    rw [t] at h0 h1
    exact ⟨0, false, impl_LengthBySpheres_p5 _ _ _ h0, spec_LengthBySpheres_p4 _ _ h1⟩
  | true =>
    rw [t] at h0 h1
    by_cases h : 0 ≤ n ∧ n ≤ 5
    · rw [decide_eq_true h] at h5
      obtain ⟨r, rfl⟩ : ∃ r : Nat, n = (r : Int) := ⟨n.toNat, by omega⟩
      obtain ⟨a1, a2, a3, a4, a5⟩ := isPair_trees t
      obtain ⟨f1, f2, f3⟩ := swR_facts t
      have fe := f1.e
      have fc := f1.c
      have e1 : pt (treeOf a, treeOf b) = (bs a, bs b) := by rw [pt, ← a1, ← a2]
      have hr := reduced_SC (treeOf a, treeOf b) (by simp only; omega) (by simp only; omega)
      have h2 : SC cfg.P i_spec_prReduce [.s (.v (.pr .str .str) (pt (treeOf a, treeOf b))), .s (.v (.sl (.int .i64)) ([] : List Int))] (.s (.v (.pr .str .str) (pt (swR a b)))) [] := prReduce_SC (treeOf a, treeOf b) (by simp only; omega) (by simp only; omega)
      rw [e1] at h2
      have ht := pairText_SC (swR a b) (by omega) (by omega)
      have hx := prText_SC (swR a b) (by omega) (by omega)
      obtain ⟨A, mp, hA, cA⟩ := spheres_SC r (by omega)
      obtain ⟨B, hB, cB⟩ := lnSpheres_SC r (by omega)
      have lA := hA.len
      have lB := hB.len
      obtain ⟨i1, i2⟩ := lbs_i0 (prT (swR a b)) A (fun k hk => by
        obtain ⟨g1, g2, g3⟩ := hA.sph k (by omega)
        have := pow_le5 (k := k) (by omega)
        refine ⟨fun q hq => ?_, by omega⟩
        have hs := (g2 q).1 hq
        have := sph_c hs
        have := hs.gd.e
        omega) (by omega) (sphB (swR a b)) (fun k hk => by
        obtain ⟨g1, g2, g3⟩ := hA.sph k (by omega)
        rw [sphB_iff, List.mem_map]
        constructor
        · intro g; exact ⟨_, (g2 _).2 g, rfl⟩
        · rintro ⟨q, hq, e⟩
          rw [← prT_inj e]; exact (g2 q).1 hq) _ 0 rfl (by omega)
      obtain ⟨s1, s2⟩ := lbs_s0 (prT (swR a b)) B (fun k hk => by
        have hT := hB.sph k (by omega)
        have h2 := hT.l
        have := pow_le5 (k := k) (by omega)
        exact ⟨hT.s, by omega⟩) (by omega) (sphB (swR a b)) (fun k hk => by
        rw [sphB_iff, (hB.sph k (by omega)).mem]) _ 0 rfl (by omega)
      have el : A.length - 0 = B.length - 0 := by omega
      rw [el] at i1 i2
      cases e : fndS (sphB (swR a b)) (B.length - 0) 0 with
      | none => exact ⟨0, false, impl_LengthBySpheres_p4 _ _ _ _ _ _ _ _ _ _ _ h0 (by omega) (by omega) hr ht cA.view (i2 e), spec_LengthBySpheres_p2 _ _ _ _ _ _ _ _ _ _ h1 h5 h2 hx cB.view (s2 e)⟩
      | some k => exact ⟨_, _, impl_LengthBySpheres_p3 _ _ _ _ _ _ _ _ h0 (by omega) (by omega) hr ht cA.view (i1 k e), spec_LengthBySpheres_p1 _ _ _ _ _ _ _ h1 h5 h2 hx cB.view (s1 k e)⟩
    · rw [decide_eq_false h] at h5
      refine ⟨0, false, ?_, spec_LengthBySpheres_p3 _ _ h1 h5⟩
      by_cases h2 : n < 0
      · exact impl_LengthBySpheres_p1 _ _ _ h0 h2
      · exact impl_LengthBySpheres_p2 _ _ _ h0 h2 (by omega)

/-- The law of LengthBySpheres. -/
theorem law_Lbs (x y : ByteArray) (n : Int) (hx : x.size ≤ 2 ^ 63 - 1) (hy : y.size ≤ 2 ^ 63 - 1) (_hn : (Lit.int .i64 n).wf = true) :
    SC cfg.P i_laws_FnExactLengthBySpheres [.s (.v (.pr .str .str) (x, y)), .s (.v (.int .i64) n)] (.s (.v .bool true)) [] := by
  obtain ⟨a, rfl⟩ := bs_ex x
  obtain ⟨b, rfl⟩ := bs_ex y
  rw [bs_size] at hx hy
  by_cases h : a.length + b.length ≤ 1048576
  · obtain ⟨V, B, hI, hS⟩ := lbs_both a b n (by omega) (by omega)
    exact laws_FnExactLengthBySpheres_p2 _ _ _ _ _ _ _ _ _ (szPair_in a b h) (by omega) (laws_toPair_p1 _) hS (laws_toPair_p1 _) hI rfl (by simp)
  · exact laws_FnExactLengthBySpheres_p1 _ _ _ (szPair_out a b hx hy h) (by omega)

end Go.AI
