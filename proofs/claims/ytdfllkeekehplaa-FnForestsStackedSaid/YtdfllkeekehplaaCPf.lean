/- Contracts: forests. -/
import Derived.Test.YtdfllkeekehplaaCPg
import Derived.Test.YtdfllkeekehplaaGL
set_option autoImplicit false
set_option maxRecDepth 100000
set_option linter.unusedVariables false
namespace Go.AI
open Go.Proofs

theorem trLeaf_SC (l : List UInt8) : SC cfg.P i_spec_trLeaf [.s (.v .str (bs l))] (.s (.v .bool (decide (l = [46])))) [] := by
  by_cases h : l = [46]
  · rw [decide_eq_true h, h]; exact spec_trLeaf_p1 _ rfl
  · rw [decide_eq_false h]
    refine spec_trLeaf_p2 _ fun e => h ?_
    have e' : bs l = bs [46] := e
    rwa [bs_inj] at e'

/-- How many carets. -/
def sumC (ts : List Tr) : Nat := (ts.map Tr.c).sum

/-- Without the leaves at the end. -/
def trim : List Tr → List Tr
  | [] => []
  | t :: ts => match trim ts with
    | [] => if t.isLeaf = true then [] else [t]
    | u :: us => t :: u :: us

theorem trim_snoc : ∀ (ts : List Tr) (t : Tr), trim (ts ++ [t]) = if t.isLeaf = true then trim ts else ts ++ [t]
  | [], t => rfl
  | x :: ts, t => by
    rw [List.cons_append, trim, trim_snoc ts t]
    by_cases h : t.isLeaf = true
    · rw [if_pos h, if_pos h, trim]
    · rw [if_neg h, if_neg h]
      cases ts <;> rfl

theorem trim_len : ∀ ts : List Tr, (trim ts).length ≤ ts.length
  | [] => Nat.le_refl _
  | t :: ts => by
    have := trim_len ts
    rw [trim]
    split
    · split <;> simp
    · rename_i u us e
      rw [e] at this
      simp only [List.length_cons] at this ⊢
      omega

theorem trim_prefix : ∀ ts : List Tr, ∃ r : List Tr, ts = trim ts ++ r ∧ ∀ t ∈ r, t.isLeaf = true
  | [] => ⟨[], rfl, fun t h => by cases h⟩
  | t :: ts => by
    obtain ⟨r, e, h⟩ := trim_prefix ts
    rw [trim]
    split
    · rename_i e2
      rw [e2, List.nil_append] at e
      subst e
      split
      · rename_i hl
        exact ⟨t :: ts, rfl, fun u hu => by rcases List.mem_cons.1 hu with rfl | hu; exact hl; exact h u hu⟩
      · exact ⟨ts, rfl, h⟩
    · rename_i u us e2
      rw [e2] at e
      exact ⟨r, by rw [e]; rfl, h⟩

theorem trim_sumC (ts : List Tr) : sumC (trim ts) = sumC ts := by
  obtain ⟨r, e, h⟩ := trim_prefix ts
  have h0 : sumC r = 0 := by
    unfold sumC
    induction r with
    | nil => rfl
    | cons t r ih =>
      rw [List.map_cons, List.sum_cons, leaf_c (h t (List.mem_cons_self ..))]
      have : ∀ (a b : List Tr), (∀ t ∈ a, t.isLeaf = true) → (a.map Tr.c).sum = 0 := by
        intro a b
        induction a with
        | nil => intro _; rfl
        | cons u a ih2 => intro hu; rw [List.map_cons, List.sum_cons, leaf_c (hu u (List.mem_cons_self ..)), ih2 (fun v hv => hu v (List.mem_cons_of_mem _ hv))]
      rw [this r r (fun v hv => h v (List.mem_cons_of_mem _ hv))]
  conv => rhs; rw [e]
  simp only [sumC, List.map_append, List.sum_append] at h0 ⊢
  omega

theorem trim_mem {ts : List Tr} {t : Tr} (h : t ∈ trim ts) : t ∈ ts := by
  obtain ⟨r, e, _⟩ := trim_prefix ts
  rw [e]
  exact List.mem_append_left _ h

theorem trimmed_L : ∀ (n : Nat) (ts : List Tr), ts.length = n → n ≤ 2 ^ 30 → LoopSC cfg.P 1 (lb P_impl_forest_trimmed 0) (impl_forest_trimmed_L0a ts) (.exit 0) (impl_forest_trimmed_L0X1 (trim ts) false) := by
  intro n
  induction n with
  | zero =>
    intro ts h _
    have : ts = [] := List.eq_nil_of_length_eq_zero h
    subst this
    exact impl_forest_trimmed_L0a_x3 _ (by simp)
  | succ n ih =>
    intro ts h hn
    obtain ⟨m, x, rfl⟩ := snoc_ex ts (by intro e; subst e; simp at h)
    have hm : m.length = n := by simpa using h
    have ew : IntKind.wrap .i64 (((List.length (m ++ [x]) : Nat) : Int) - 1) = ((m.length : Nat) : Int) := by
      rw [List.length_append, List.length_singleton, w64] <;> omega
    rw [trim_snoc]
    by_cases hl : x.isLeaf = true
    · rw [if_pos hl]
      have hi := ih m hm (by omega)
      have hc : cutL (m ++ [x]) (0 : Int) (IntKind.wrap .i64 (((List.length (m ++ [x]) : Nat) : Int) - 1)) = m := by
        rw [ew]
        simp [cutL]
      rw [← hc] at hi
      exact impl_forest_trimmed_L0a_i1 _ (by rw [h]; omega) (by rw [ew]; omega) (by rw [ew, h]; omega) (by rw [ew, Int.toNat_natCast, getD_last]; exact hl) (by rw [ew, h]; omega) (by rw [hc] at hi ⊢; exact hi)
    · rw [if_neg hl]
      exact impl_forest_trimmed_L0a_x2 _ (by rw [h]; omega) (by rw [ew]; omega) (by rw [ew, h]; omega) (by rw [ew, Int.toNat_natCast, getD_last]; simpa using hl)

theorem trimmed_SC (ts : List Tr) (h : ts.length ≤ 2 ^ 30) : SC cfg.P i_impl_forest_trimmed [.s (.v (.sl .tree) ts)] (.s (.v (.sl .tree) (trim ts))) [] :=
  impl_forest_trimmed_p1 _ _ _ (trimmed_L _ ts rfl h)

theorem fcarets_SC (ts : List Tr) (h : ts.length ≤ 2 ^ 20) (hc : ∀ t ∈ ts, t.c ≤ 2 ^ 20) : SC cfg.P i_impl_forest_carets [.s (.v (.sl .tree) ts)] (.s (.v (.int .i64) ((sumC ts : Nat) : Int))) [] := by
  have key := loop_up (P := cfg.P) (np := 1) (c := lb P_impl_forest_carets 0) (fun i (a : Nat) => impl_forest_carets_L0a (a : Int) ts ((ts.length : Nat) : Int) (i : Int)) (fun a => impl_forest_carets_L0X1 (a : Int) ts ((ts.length : Nat) : Int) (ts.length : Int) false)
    (fun i a => a + (ts.getD i .leaf).c) (fun i a => a ≤ i * 2 ^ 20) ts.length
    (fun i a hi hI => by
      have hb := hc _ (gD_mem hi .leaf)
      refine ⟨by rw [Nat.add_mul]; omega, fun e st hn => ?_⟩
      have hI' : i * 2 ^ 20 ≤ 2 ^ 20 * 2 ^ 20 := Nat.mul_le_mul_right _ (by omega)
      have hs := carets_SC (ts.getD i .leaf) (by omega)
      have ea : IntKind.wrap .i64 ((a : Int) + ((ts.getD i .leaf).c : Int)) = ((a + (ts.getD i .leaf).c : Nat) : Int) := by rw [w64] <;> omega
      rw [← wrap_succ (by omega), ← ea] at hn
      exact impl_forest_carets_L0a_i1 _ _ _ _ _ (by omega) (by omega) (by omega) hs hn)
    (fun a _ => impl_forest_carets_L0a_x2 _ _ _ _ (by omega)) ts.length 0 0 (by omega) (by omega)
  have hL := key.1
  rw [itr_sum (fun i => (ts.getD i .leaf).c), map_range' ts .leaf Tr.c, Nat.zero_add] at hL
  exact impl_forest_carets_p1 _ _ _ _ _ _ hL

/-- The trees of texts. -/
def treesOf (fs : List (List UInt8)) : List Tr := fs.map treeOf

/-- Is it a forest that may be? -/
def isFo (fs : List (List UInt8)) : Bool := decide (fs.length ≤ 8) && fs.all isTree && decide (sumC (treesOf fs) ≤ 8) && decide ((trim (treesOf fs)).length = fs.length)

theorem isFo_spec {fs : List (List UInt8)} (h : isFo fs = true) : fs.length ≤ 8 ∧ (∀ l ∈ fs, isTree l = true) ∧ sumC (treesOf fs) ≤ 8 ∧ trim (treesOf fs) = treesOf fs ∧ fs = (treesOf fs).map txt := by
  simp only [isFo, Bool.and_eq_true, decide_eq_true_eq, List.all_eq_true] at h
  obtain ⟨⟨⟨h1, h2⟩, h3⟩, h4⟩ := h
  refine ⟨h1, h2, h3, ?_, ?_⟩
  · obtain ⟨r, e, _⟩ := trim_prefix (treesOf fs)
    have hl := congrArg List.length e
    rw [List.length_append, h4] at hl
    have : (treesOf fs).length = fs.length := List.length_map ..
    have hr : r = [] := List.eq_nil_of_length_eq_zero (by omega)
    rw [hr, List.append_nil] at e
    exact e.symm
  · rw [treesOf, List.map_map]
    conv => lhs; rw [← List.map_id fs]
    exact List.map_congr_left fun l hl => (treeOf_txt (h2 l hl)).1

theorem treeOf_txt' (t : Tr) (h : t.c ≤ 8) : isTree (txt t) = true ∧ treeOf (txt t) = t := by
  have h1 : isTree (txt t) = true := (isTree_iff _).2 ⟨t, rfl, h⟩
  refine ⟨h1, ?_⟩
  have := (treeOf_txt h1).1
  exact (txt_inj t (treeOf (txt t)) [] [] (by rw [List.append_nil, List.append_nil]; exact this)).1.symm

theorem last_leaf (fs : List (List UInt8)) (l : List UInt8) (h : isTree l = true) : (treeOf l).isLeaf = true ↔ l = [46] := by
  obtain ⟨e, _⟩ := treeOf_txt h
  constructor
  · intro hl
    rw [e]
    generalize treeOf l = t at hl
    cases t with
    | leaf => rfl
    | node _ _ => simp [Tr.isLeaf] at hl
  · intro hl
    rw [hl] at e ⊢
    generalize treeOf [46] = t at e
    cases t with
    | leaf => rfl
    | node _ _ => simp [txt] at e

theorem trim_full (ts : List Tr) (t : Tr) : (trim (ts ++ [t])).length = ts.length + 1 ↔ t.isLeaf = false := by
  rw [trim_snoc]
  by_cases h : t.isLeaf = true
  · rw [if_pos h]
    have := trim_len ts
    constructor
    · intro e; omega
    · intro e; rw [h] at e; cases e
  · rw [if_neg h]
    simp at h
    simp [h]

end Go.AI
