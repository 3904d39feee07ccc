/- A part of the road: what it proves stands in its last texts. -/
import Derived.Test.YtdfllkeekehplaaGreatCPg
import Derived.Test.YtdfllkeekehplaaGreatGL
section
/- Contracts: forests. -/
set_option autoImplicit false
set_option maxRecDepth 100000
set_option linter.unusedVariables false
namespace Go.AI
open Go.Proofs

theorem trLeaf_SC (l : List UInt8) : SC cfg.P i_spec_trLeaf [.s (.v .str (bs l))] (.s (.v .bool (decide (l = [46])))) [] := by
  by_cases h : l = [46]
  · rw [decide_eq_true h, h]; exact spec_trLeaf_p1 _ rfl
  · rw [decide_eq_false h]
    refine spec_trLeaf_p2 _ fun e => h ?_
    have e' : bs l = bs [46] := e
    rwa [bs_inj] at e'

/-- How many carets. -/
def sumC (ts : List Tr) : Nat := (ts.map Tr.c).sum

/-- Without the leaves at the end. -/
def trim : List Tr → List Tr
  | [] => []
  | t :: ts => match trim ts with
    | [] => if t.isLeaf = true then [] else [t]
    | u :: us => t :: u :: us

theorem trim_snoc : ∀ (ts : List Tr) (t : Tr), trim (ts ++ [t]) = if t.isLeaf = true then trim ts else ts ++ [t]
  | [], t => rfl
  | x :: ts, t => by
    rw [List.cons_append, trim, trim_snoc ts t]
    by_cases h : t.isLeaf = true
    · rw [if_pos h, if_pos h, trim]
    · rw [if_neg h, if_neg h]
      cases ts <;> rfl

theorem trim_len : ∀ ts : List Tr, (trim ts).length ≤ ts.length
  | [] => Nat.le_refl _
  | t :: ts => by
    have := trim_len ts
    rw [trim]
    split
    · split <;> simp
    · rename_i u us e
      rw [e] at this
      simp only [List.length_cons] at this ⊢
      omega

theorem trim_prefix : ∀ ts : List Tr, ∃ r : List Tr, ts = trim ts ++ r ∧ ∀ t ∈ r, t.isLeaf = true
  | [] => ⟨[], rfl, fun t h => by cases h⟩
  | t :: ts => by
    obtain ⟨r, e, h⟩ := trim_prefix ts
    rw [trim]
    split
    · rename_i e2
      rw [e2, List.nil_append] at e
      subst e
      split
      · rename_i hl
        exact ⟨t :: ts, rfl, fun u hu => by rcases List.mem_cons.1 hu with rfl | hu; exact hl; exact h u hu⟩
      · exact ⟨ts, rfl, h⟩
    · rename_i u us e2
      rw [e2] at e
      exact ⟨r, by rw [e]; rfl, h⟩

theorem trim_sumC (ts : List Tr) : sumC (trim ts) = sumC ts := by
  obtain ⟨r, e, h⟩ := trim_prefix ts
  have h0 : sumC r = 0 := by
    unfold sumC
    induction r with
    | nil => rfl
    | cons t r ih =>
      rw [List.map_cons, List.sum_cons, leaf_c (h t (List.mem_cons_self ..))]
      have : ∀ (a b : List Tr), (∀ t ∈ a, t.isLeaf = true) → (a.map Tr.c).sum = 0 := by
        intro a b
        induction a with
        | nil => intro _; rfl
        | cons u a ih2 => intro hu; rw [List.map_cons, List.sum_cons, leaf_c (hu u (List.mem_cons_self ..)), ih2 (fun v hv => hu v (List.mem_cons_of_mem _ hv))]
      rw [this r r (fun v hv => h v (List.mem_cons_of_mem _ hv))]
  conv => rhs; rw [e]
  simp only [sumC, List.map_append, List.sum_append] at h0 ⊢
  omega

theorem trim_mem {ts : List Tr} {t : Tr} (h : t ∈ trim ts) : t ∈ ts := by
  obtain ⟨r, e, _⟩ := trim_prefix ts
  rw [e]
  exact List.mem_append_left _ h

theorem trimmed_L : ∀ (n : Nat) (ts : List Tr), ts.length = n → n ≤ 2 ^ 30 → LoopSC cfg.P 1 (lb P_impl_forest_trimmed 0) (impl_forest_trimmed_L0a ts) (.exit 0) (impl_forest_trimmed_L0X1 (trim ts) false) := by
  intro n
  induction n with
  | zero =>
    intro ts h _
    have : ts = [] := List.eq_nil_of_length_eq_zero h
    subst this
    exact impl_forest_trimmed_L0a_x3 _ (by simp)
  | succ n ih =>
    intro ts h hn
    obtain ⟨m, x, rfl⟩ := snoc_ex ts (by intro e; subst e; simp at h)
    have hm : m.length = n := by simpa using h
    have ew : IntKind.wrap .i64 (((List.length (m ++ [x]) : Nat) : Int) - 1) = ((m.length : Nat) : Int) := by
      rw [List.length_append, List.length_singleton, w64] <;> omega
    rw [trim_snoc]
    by_cases hl : x.isLeaf = true
    · rw [if_pos hl]
      have hi := ih m hm (by omega)
      have hc : cutL (m ++ [x]) (0 : Int) (IntKind.wrap .i64 (((List.length (m ++ [x]) : Nat) : Int) - 1)) = m := by
        rw [ew]
        simp [cutL]
      rw [← hc] at hi
      exact impl_forest_trimmed_L0a_i1 _ (by rw [h]; omega) (by rw [ew]; omega) (by rw [ew, h]; omega) (by rw [ew, Int.toNat_natCast, getD_last]; exact hl) (by rw [ew, h]; omega) (by rw [hc] at hi ⊢; exact hi)
    · rw [if_neg hl]
      exact impl_forest_trimmed_L0a_x2 _ (by rw [h]; omega) (by rw [ew]; omega) (by rw [ew, h]; omega) (by rw [ew, Int.toNat_natCast, getD_last]; simpa using hl)

theorem trimmed_SC (ts : List Tr) (h : ts.length ≤ 2 ^ 30) : SC cfg.P i_impl_forest_trimmed [.s (.v (.sl .tree) ts)] (.s (.v (.sl .tree) (trim ts))) [] :=
  impl_forest_trimmed_p1 _ _ _ (trimmed_L _ ts rfl h)

theorem fcarets_SC (ts : List Tr) (h : ts.length ≤ 2 ^ 20) (hc : ∀ t ∈ ts, t.c ≤ 2 ^ 20) : SC cfg.P i_impl_forest_carets [.s (.v (.sl .tree) ts)] (.s (.v (.int .i64) ((sumC ts : Nat) : Int))) [] := by
  have key := loop_up (P := cfg.P) (np := 1) (c := lb P_impl_forest_carets 0) (fun i (a : Nat) => impl_forest_carets_L0a (a : Int) ts ((ts.length : Nat) : Int) (i : Int)) (fun a => impl_forest_carets_L0X1 (a : Int) ts ((ts.length : Nat) : Int) (ts.length : Int) false)
    (fun i a => a + (ts.getD i .leaf).c) (fun i a => a ≤ i * 2 ^ 20) ts.length
    (fun i a hi hI => by
      have hb := hc _ (gD_mem hi .leaf)
      refine ⟨by rw [Nat.add_mul]; omega, fun e st hn => ?_⟩
      have hI' : i * 2 ^ 20 ≤ 2 ^ 20 * 2 ^ 20 := Nat.mul_le_mul_right _ (by omega)
      have hs := carets_SC (ts.getD i .leaf) (by omega)
      have ea : IntKind.wrap .i64 ((a : Int) + ((ts.getD i .leaf).c : Int)) = ((a + (ts.getD i .leaf).c : Nat) : Int) := by rw [w64] <;> omega
      rw [← wrap_succ (by omega), ← ea] at hn
      exact impl_forest_carets_L0a_i1 _ _ _ _ _ (by omega) (by omega) (by omega) hs hn)
    (fun a _ => impl_forest_carets_L0a_x2 _ _ _ _ (by omega)) ts.length 0 0 (by omega) (by omega)
  have hL := key.1
  rw [itr_sum (fun i => (ts.getD i .leaf).c), map_range' ts .leaf Tr.c, Nat.zero_add] at hL
  exact impl_forest_carets_p1 _ _ _ _ _ _ hL

/-- The trees of texts. -/
def treesOf (fs : List (List UInt8)) : List Tr := fs.map treeOf

/-- Is it a forest that may be? -/
def isFo (fs : List (List UInt8)) : Bool := decide (fs.length ≤ 8) && fs.all isTree && decide (sumC (treesOf fs) ≤ 8) && decide ((trim (treesOf fs)).length = fs.length)

theorem isFo_spec {fs : List (List UInt8)} (h : isFo fs = true) : fs.length ≤ 8 ∧ (∀ l ∈ fs, isTree l = true) ∧ sumC (treesOf fs) ≤ 8 ∧ trim (treesOf fs) = treesOf fs ∧ fs = (treesOf fs).map txt := by
  simp only [isFo, Bool.and_eq_true, decide_eq_true_eq, List.all_eq_true] at h
  obtain ⟨⟨⟨h1, h2⟩, h3⟩, h4⟩ := h
  refine ⟨h1, h2, h3, ?_, ?_⟩
  · obtain ⟨r, e, _⟩ := trim_prefix (treesOf fs)
    have hl := congrArg List.length e
    rw [List.length_append, h4] at hl
    have : (treesOf fs).length = fs.length := List.length_map ..
    have hr : r = [] := List.eq_nil_of_length_eq_zero (by omega)
    rw [hr, List.append_nil] at e
    exact e.symm
  · rw [treesOf, List.map_map]
    conv => lhs; rw [← List.map_id fs]
    exact List.map_congr_left fun l hl => (treeOf_txt (h2 l hl)).1

theorem treeOf_txt' (t : Tr) (h : t.c ≤ 8) : isTree (txt t) = true ∧ treeOf (txt t) = t := by
  have h1 : isTree (txt t) = true := (isTree_iff _).2 ⟨t, rfl, h⟩
  refine ⟨h1, ?_⟩
  have := (treeOf_txt h1).1
  exact (txt_inj t (treeOf (txt t)) [] [] (by rw [List.append_nil, List.append_nil]; exact this)).1.symm

theorem last_leaf (fs : List (List UInt8)) (l : List UInt8) (h : isTree l = true) : (treeOf l).isLeaf = true ↔ l = [46] := by
  obtain ⟨e, _⟩ := treeOf_txt h
  constructor
  · intro hl
    rw [e]
    generalize treeOf l = t at hl
    cases t with
    | leaf => rfl
    | node _ _ => simp [Tr.isLeaf] at hl
  · intro hl
    rw [hl] at e ⊢
    generalize treeOf [46] = t at e
    cases t with
    | leaf => rfl
    | node _ _ => simp [txt] at e

theorem trim_full (ts : List Tr) (t : Tr) : (trim (ts ++ [t])).length = ts.length + 1 ↔ t.isLeaf = false := by
  rw [trim_snoc]
  by_cases h : t.isLeaf = true
  · rw [if_pos h]
    have := trim_len ts
    constructor
    · intro e; omega
    · intro e; rw [h] at e; cases e
  · rw [if_neg h]
    simp at h
    simp [h]

end Go.AI
end

section
/- Contracts: forests told, read and written. -/
set_option autoImplicit false
set_option maxRecDepth 100000
set_option linter.unusedVariables false
namespace Go.AI
open Go.Proofs

theorem count_le (l : List UInt8) : l.count 40 ≤ l.length := List.count_le_length

theorem treesOf_c (fs : List (List UInt8)) (h : ∀ l ∈ fs, isTree l = true) : (fs.map fun l => l.count 40).sum = sumC (treesOf fs) := by
  rw [sumC, treesOf, List.map_map]
  congr 1
  apply List.map_congr_left
  intro l hl
  have e := (treeOf_txt (h l hl)).1
  conv => lhs; rw [e]
  exact txt_count _

theorem isFo_eq (fs : List (List UInt8)) (hall : fs.all isTree = true) : isFo fs = (decide (fs.length ≤ 8) && decide ((fs.map fun l => l.count 40).sum ≤ 8) && decide ((trim (treesOf fs)).length = fs.length)) := by
  rw [isFo, hall, treesOf_c fs (fun l hl => List.all_eq_true.1 hall l hl), Bool.and_true]

theorem foGood_SC (fs : List (List UInt8)) (hs : ∀ l ∈ fs, l.length ≤ 2 ^ 40) (hfl : fs.length ≤ 2 ^ 40) : SC cfg.P i_spec_foGood [.s (.v (.sl .str) (txs fs))] (.s (.v .bool (isFo fs))) [] := by
  have hl : List.length (txs fs) = fs.length := List.length_map ..
  by_cases h8 : fs.length ≤ 8
  · have key := loop_ret (P := cfg.P) (np := 1) (c := lb P_spec_foGood 0) (fun i (a : Nat) => spec_foGood_L0a (a : Int) (txs fs) ((List.length (txs fs) : Nat) : Int) (i : Int)) (fun a => spec_foGood_L0X2 (a : Int) (txs fs) ((List.length (txs fs) : Nat) : Int) (fs.length : Int) false) (spec_foGood_L0X1 false)
      (fun i a => a + (fs.getD i []).count 40) (fun i a => a ≤ i * 2 ^ 40) (fun i => isTree (fs.getD i [])) fs.length
      (fun i a hi hI hp => by
        have hb := hs _ (gD_mem hi [])
        have hcn := count_le (fs.getD i [])
        refine ⟨by rw [Nat.add_mul]; omega, fun e st hn => ?_⟩
        have hI' : i * 2 ^ 40 ≤ 8 * 2 ^ 40 := Nat.mul_le_mul_right _ (by omega)
        have ht := trIs_SC (fs.getD i []) hb
        have hk := trCarets_SC (fs.getD i []) hb
        rw [hp] at ht
        rw [← txs_get fs i hi (⟨#[]⟩ : ByteArray)] at ht hk
        have ea : IntKind.wrap .i64 ((a : Int) + (((fs.getD i []).count 40 : Nat) : Int)) = ((a + (fs.getD i []).count 40 : Nat) : Int) := by rw [w64] <;> omega
        rw [← wrap_succ (by omega), ← ea] at hn
        exact spec_foGood_L0a_i1 _ _ _ _ _ (by omega) (by omega) (by omega) ht hk hn)
      (fun i a hi hI hp => by
        have ht := trIs_SC (fs.getD i []) (hs _ (gD_mem hi []))
        rw [hp] at ht
        rw [← txs_get fs i hi (⟨#[]⟩ : ByteArray)] at ht
        exact spec_foGood_L0a_x2 _ _ _ _ (by omega) (by omega) (by omega) ht)
      (fun a _ => spec_foGood_L0a_x3 _ _ _ _ (by omega)) fs.length 0 0 (by omega) (by omega)
    rw [itr_sum (fun i => (fs.getD i []).count 40), map_range' fs [] (fun l => l.count 40), Nat.zero_add, all_range' fs [] isTree] at key
    obtain ⟨k1, k2⟩ := key
    by_cases h0 : fs = []
    · subst h0
      exact spec_foGood_p7 _ _ _ _ _ _ (by simp) (by simp) (k1 rfl) (by simp)
    · obtain ⟨m, x, rfl⟩ := snoc_ex fs h0
      have hm8 : m.length + 1 ≤ 8 := by simpa using h8
      have ew : IntKind.wrap .i64 (((List.length (txs (m ++ [x])) : Nat) : Int) - 1) = ((m.length : Nat) : Int) := by
        rw [hl, List.length_append, List.length_singleton, w64] <;> omega
      have hlast := trLeaf_SC x
      have hlen : (m ++ [x]).length = m.length + 1 := by simp
      have hget : List.getD (txs (m ++ [x])) ((IntKind.wrap .i64 (((List.length (txs (m ++ [x])) : Nat) : Int) - 1))).toNat (⟨#[]⟩ : ByteArray) = bs x := by
        rw [ew, Int.toNat_natCast, txs_get _ _ (by omega), getD_last]
      rw [← hget] at hlast
      by_cases hx : x = [46]
      · rw [decide_eq_true hx] at hlast
        have hF : isFo (m ++ [x]) = false := by
          cases hg : isFo (m ++ [x]) with
          | false => rfl
          | true =>
            obtain ⟨_, g2, _, g4, _⟩ := isFo_spec hg
            have hT : treesOf (m ++ [x]) = treesOf m ++ [treeOf x] := by simp [treesOf]
            rw [hT] at g4
            have g5 := congrArg List.length g4
            rw [List.length_append, List.length_singleton, trim_full] at g5
            have := (last_leaf [] x (g2 x (by simp))).2 hx
            rw [this] at g5
            cases g5
        rw [hF]
        exact spec_foGood_p2 _ (by omega) (by omega) (by rw [ew]; omega) (by rw [ew]; omega) hlast
      · rw [decide_eq_false hx] at hlast
        cases hall : (m ++ [x]).all isTree with
        | false =>
          have hF : isFo (m ++ [x]) = false := by rw [isFo, hall]; simp
          rw [hF]
          exact spec_foGood_p3 _ _ (by omega) (by omega) (by rw [ew]; omega) (by rw [ew]; omega) hlast (k2 hall)
        | true =>
          have hT : treesOf (m ++ [x]) = treesOf m ++ [treeOf x] := by simp [treesOf]
          have hml : (treesOf m).length = m.length := List.length_map ..
          have htx : isTree x = true := List.all_eq_true.1 hall x (by simp)
          have hfull : (trim (treesOf (m ++ [x]))).length = (m ++ [x]).length := by
            rw [hT, hlen, ← hml, trim_full]
            cases hh : (treeOf x).isLeaf with
            | false => rfl
            | true => exact absurd ((last_leaf [] x htx).1 hh) hx
          rw [isFo_eq _ hall, decide_eq_true h8, decide_eq_true hfull, Bool.true_and, Bool.and_true]
          by_cases hc : ((m ++ [x]).map fun l => l.count 40).sum ≤ 8
          · rw [decide_eq_true hc]
            exact spec_foGood_p4 _ _ _ _ _ _ (by omega) (by omega) (by rw [ew]; omega) (by rw [ew]; omega) hlast (k1 hall) (by omega)
          · rw [decide_eq_false hc]
            exact spec_foGood_p5 _ _ _ _ _ _ (by omega) (by omega) (by rw [ew]; omega) (by rw [ew]; omega) hlast (k1 hall) (by omega)
  · have hF : isFo fs = false := by rw [isFo, decide_eq_false h8]; simp
    rw [hF]
    exact spec_foGood_p1 _ (by omega)

/-- What 'forestOf' hands back beside its answer. -/
theorem forestOf_SC (fs : List (List UInt8)) (hs : ∀ l ∈ fs, l.length ≤ 2 ^ 40) (hfl : fs.length ≤ 2 ^ 40) :
    ∃ ts, (isFo fs = true → ts = treesOf fs) ∧ SC cfg.P i_impl_forestOf [.s (.v (.sl .str) (txs fs))] (.tup [.v (.sl .tree) ts, .v .bool (isFo fs)]) [] := by
  have hl : List.length (txs fs) = fs.length := List.length_map ..
  by_cases h8 : fs.length ≤ 8
  · have key := loop_ret (P := cfg.P) (np := 1) (c := lb P_impl_forestOf 0) (fun i (a : List Tr) => impl_forestOf_L0a (txs fs) ((List.length (txs fs) : Nat) : Int) (i : Int) a) (fun a => impl_forestOf_L0X2 (txs fs) ((List.length (txs fs) : Nat) : Int) (fs.length : Int) false a) (impl_forestOf_L0X1 false ([] : List Tr))
      (fun i a => a ++ [treeOf (fs.getD i [])]) (fun i a => a.length ≤ i) (fun i => isTree (fs.getD i [])) fs.length
      (fun i a hi hI hp => by
        have hb := hs _ (gD_mem hi [])
        refine ⟨by simp; omega, fun e st hn => ?_⟩
        have ht := parse_SC (fs.getD i []) hb
        rw [hp] at ht
        rw [← txs_get fs i hi (⟨#[]⟩ : ByteArray)] at ht
        rw [← wrap_succ (by omega)] at hn
        exact impl_forestOf_L0a_i1 _ _ _ _ _ (by omega) (by omega) (by omega) ht (sizeOK_one (by omega)) hn)
      (fun i a hi hI hp => by
        have ht := parse_SC (fs.getD i []) (hs _ (gD_mem hi []))
        rw [hp] at ht
        rw [← txs_get fs i hi (⟨#[]⟩ : ByteArray)] at ht
        exact impl_forestOf_L0a_x2 _ _ _ _ _ (by omega) (by omega) (by omega) ht)
      (fun a _ => impl_forestOf_L0a_x3 _ _ _ _ (by omega)) fs.length 0 [] (by omega) (by simp)
    rw [itr_map (fun i => treeOf (fs.getD i [])), map_range' fs [] treeOf, List.nil_append, all_range' fs [] isTree] at key
    obtain ⟨k1, k2⟩ := key
    cases hall : fs.all isTree with
    | false =>
      have hF : isFo fs = false := by rw [isFo, hall]; simp
      rw [hF]
      exact ⟨[], fun h => (by cases h), (impl_forestOf_p2 _ _ _ (by omega) (k2 hall)).viewT⟩
    | true =>
      have hall' := List.all_eq_true.1 hall
      have htl : (treesOf fs).length = fs.length := List.length_map ..
      have hc8 : ∀ t ∈ treesOf fs, t.c ≤ 2 ^ 20 := by
        intro t ht
        obtain ⟨l, hl2, rfl⟩ := List.mem_map.1 ht
        have := (treeOf_txt (hall' l hl2)).2
        omega
      have hk := fcarets_SC (treesOf fs) (by omega) hc8
      have htr := trimmed_SC (treesOf fs) (by omega)
      refine ⟨treesOf fs, fun _ => rfl, ?_⟩
      rw [isFo, decide_eq_true h8, hall, Bool.true_and, Bool.true_and]
      by_cases hc : sumC (treesOf fs) ≤ 8
      · rw [decide_eq_true hc, Bool.true_and]
        by_cases hf : (trim (treesOf fs)).length = fs.length
        · rw [decide_eq_true hf]
          exact impl_forestOf_p3 _ _ _ _ _ _ _ _ (by omega) (k1 hall) hk (by omega) htr (by show ((List.length (trim (treesOf fs)) : Nat) : Int) = ((List.length (treesOf fs) : Nat) : Int); omega)
        · rw [decide_eq_false hf]
          exact impl_forestOf_p4 _ _ _ _ _ _ _ _ (by omega) (k1 hall) hk (by omega) htr (by show ((List.length (trim (treesOf fs)) : Nat) : Int) ≠ ((List.length (treesOf fs) : Nat) : Int); omega)
      · rw [decide_eq_false hc, Bool.false_and]
        exact (impl_forestOf_p5 _ _ _ _ _ _ _ (by omega) (k1 hall) hk (by omega)).viewT
  · have hF : isFo fs = false := by rw [isFo, decide_eq_false h8]; simp
    rw [hF]
    exact ⟨[], fun h => (by cases h), (impl_forestOf_p1 _ (by omega)).viewT⟩

theorem twoForests_SC (fs gs : List (List UInt8)) (hs : ∀ l ∈ fs, l.length ≤ 2 ^ 40) (hfl : fs.length ≤ 2 ^ 40) (hs' : ∀ l ∈ gs, l.length ≤ 2 ^ 40) (hgl : gs.length ≤ 2 ^ 40) :
    ∃ ts us, (isFo fs = true ∧ isFo gs = true → ts = treesOf fs ∧ us = treesOf gs) ∧ SC cfg.P i_impl_twoForests [.s (.v (.sl .str) (txs fs)), .s (.v (.sl .str) (txs gs))] (.tup [.v (.sl .tree) ts, .v (.sl .tree) us, .v .bool (isFo fs && isFo gs)]) [] := by
  obtain ⟨ts, h1, h2⟩ := forestOf_SC fs hs hfl
  obtain ⟨us, h3, h4⟩ := forestOf_SC gs hs' hgl
  refine ⟨ts, us, fun h => ⟨h1 h.1, h3 h.2⟩, ?_⟩
  cases hf : isFo fs with
  | true =>
    rw [hf] at h2
    rw [Bool.true_and]
    exact impl_twoForests_p1 _ _ _ _ _ h2 h4
  | false =>
    rw [hf] at h2
    exact impl_twoForests_p2 _ _ _ _ _ h2 h4

/-- The texts of a forest, if it is one that may be. -/
def foTexts (ts : List Tr) : List (List UInt8) := if (trim ts).length ≤ 8 ∧ sumC ts ≤ 8 then (trim ts).map txt else []
def foOk (ts : List Tr) : Bool := decide ((trim ts).length ≤ 8 ∧ sumC ts ≤ 8)

theorem c_le_sum : ∀ (ts : List Tr) (t : Tr), t ∈ ts → t.c ≤ sumC ts
  | x :: ts, t, h => by
    simp only [sumC, List.map_cons, List.sum_cons]
    rcases List.mem_cons.1 h with rfl | h
    · omega
    · have := c_le_sum ts t h
      simp only [sumC] at this
      omega

theorem texts_SC (ts : List Tr) (h : ts.length ≤ 2 ^ 20) (hc : ∀ t ∈ ts, t.c ≤ 2 ^ 20) :
    SC cfg.P i_impl_forest_texts [.s (.v (.sl .tree) ts)] (.tup [.own t_string .str (txs (foTexts ts)), .v .bool (foOk ts)]) [] := by
  have htr := trimmed_SC ts (by omega)
  have hl := trim_len ts
  by_cases h8 : (trim ts).length ≤ 8
  · have hk := fcarets_SC (trim ts) (by omega) (fun t ht => hc t (trim_mem ht))
    rw [trim_sumC] at hk
    by_cases hs : sumC ts ≤ 8
    · rw [foTexts, foOk, if_pos ⟨h8, hs⟩, decide_eq_true ⟨h8, hs⟩]
      have key := loop_up (P := cfg.P) (np := 1) (c := lb P_impl_forest_texts 0) (fun i (a : List ByteArray) => impl_forest_texts_L0a (trim ts) ((List.length (trim ts) : Nat) : Int) (i : Int) a) (fun a => impl_forest_texts_L0X1 (trim ts) ((List.length (trim ts) : Nat) : Int) ((trim ts).length : Int) false a)
        (fun i a => a ++ [bs (txt ((trim ts).getD i .leaf))]) (fun i a => a.length ≤ i) (trim ts).length
        (fun i a hi hI => by
          refine ⟨by simp; omega, fun e st hn => ?_⟩
          have ht := text_SC ((trim ts).getD i .leaf) (by have := hc _ (trim_mem (gD_mem hi .leaf)); omega)
          rw [← wrap_succ (by omega)] at hn
          exact impl_forest_texts_L0a_i1 _ _ _ _ _ (by omega) (by omega) (by omega) ht (sizeOK_one (by omega)) hn)
        (fun a _ => impl_forest_texts_L0a_x2 _ _ _ _ (by omega)) (trim ts).length 0 [] (by omega) (by simp)
      have hL := key.1
      rw [itr_map (fun i => bs (txt ((trim ts).getD i .leaf))), map_range' (trim ts) .leaf (fun t => bs (txt t)), List.nil_append] at hL
      rw [txs, List.map_map]
      exact impl_forest_texts_p3 _ _ _ _ _ _ _ _ htr (by omega) hk (by omega) hL
    · rw [foTexts, foOk, if_neg (fun g => hs g.2), decide_eq_false (fun g => hs g.2)]
      exact impl_forest_texts_p2 _ _ _ htr (by omega) hk (by omega)
  · rw [foTexts, foOk, if_neg (fun g => h8 g.1), decide_eq_false (fun g => h8 g.1)]
    exact impl_forest_texts_p1 _ _ htr (by omega)

/-! ### The reference's side -/

theorem wdShort_L : ∀ (n : Nat) (ts more : List Tr), ts.length = n → n + more.length ≤ 2 ^ 30 →
    LoopSC cfg.P 1 (lb P_spec_wdShort 0) (spec_wdShort_L0a (txs ((ts ++ more).map txt)) (n : Int)) (.exit 0) (spec_wdShort_L0X1 (txs ((ts ++ more).map txt)) (((trim ts).length : Nat) : Int) false) := by
  intro n
  induction n with
  | zero =>
    intro ts more h _
    have : ts = [] := List.eq_nil_of_length_eq_zero h
    subst this
    exact spec_wdShort_L0a_x3 _ _ (by simp)
  | succ n ih =>
    intro ts more h hn
    obtain ⟨m, x, rfl⟩ := snoc_ex ts (by intro e; subst e; simp at h)
    have hm : m.length = n := by simpa using h
    have ew : IntKind.wrap .i64 (((n + 1 : Nat) : Int) - 1) = ((m.length : Nat) : Int) := by
      rw [w64] <;> omega
    have hlen : (txs (((m ++ [x]) ++ more).map txt)).length = n + 1 + more.length := by simp [hm]; omega
    have hget : List.getD (txs (((m ++ [x]) ++ more).map txt)) ((IntKind.wrap .i64 (((n + 1 : Nat) : Int) - 1))).toNat (⟨#[]⟩ : ByteArray) = bs (txt x) := by
      rw [ew, Int.toNat_natCast, txs, List.map_map, gD_map (bs ∘ txt) _ _ (by simp <;> omega) .leaf]
      have hx : ((m ++ [x]) ++ more).getD m.length .leaf = x := by simp [List.getD_eq_getElem?_getD]
      rw [hx]
      rfl
    rw [trim_snoc]
    cases x with
    | leaf =>
      have hl := trLeaf_leaf
      rw [← hget] at hl
      have hi := ih m (.leaf :: more) hm (by simp; omega)
      rw [show m ++ Tr.leaf :: more = m ++ [Tr.leaf] ++ more by simp] at hi
      rw [if_pos (show Tr.leaf.isLeaf = true from rfl)]
      rw [show ((n : Nat) : Int) = IntKind.wrap .i64 (((n + 1 : Nat) : Int) - 1) by rw [ew, hm]] at hi
      exact spec_wdShort_L0a_i1 _ _ (by omega) (by rw [ew]; omega) (by rw [ew, hlen]; omega) hl hi
    | node l r =>
      have hl := trLeaf_node l r
      rw [← hget] at hl
      rw [if_neg (by simp [Tr.isLeaf]), h]
      exact spec_wdShort_L0a_x2 _ _ (by omega) (by rw [ew]; omega) (by rw [ew, hlen]; omega) hl

theorem wdShort_SC (ts : List Tr) (h : ts.length ≤ 2 ^ 20) : SC cfg.P i_spec_wdShort [.s (.v (.sl .str) (txs (ts.map txt)))] (.s (.own t_string .str (txs ((trim ts).map txt)))) [] := by
  have hL := wdShort_L ts.length ts [] rfl (by simp; omega)
  rw [List.append_nil] at hL
  have hlen : (txs (ts.map txt)).length = ts.length := by simp
  have hl := trim_len ts
  have hc : cutL (txs (ts.map txt)) (0 : Int) (((trim ts).length : Nat) : Int) = txs ((trim ts).map txt) := by
    obtain ⟨r, e, _⟩ := trim_prefix ts
    have hl' := congrArg List.length e
    have : txs (ts.map txt) = txs ((trim ts).map txt) ++ txs (r.map txt) := by
      conv => lhs; rw [e]
      simp
    rw [this]
    have hlen2 : (txs ((trim ts).map txt)).length = (trim ts).length := by simp
    simp only [cutL, Int.toNat_natCast, Int.toNat_zero, List.drop_zero]
    rw [← hlen2, List.take_left]
  have hz : sizeOK (List.length ([] : List ByteArray) + List.length (cutL (txs (ts.map txt)) (0 : Int) (((trim ts).length : Nat) : Int))) := by
    rw [hc]; unfold sizeOK lim; simp; omega
  have := spec_wdShort_p1 (txs (ts.map txt)) _ _ _ (by rw [hlen]; exact hL) (by omega) (by rw [hlen]; omega) hz
  rw [hc, List.nil_append] at this
  exact this

theorem isFo_trees (ts : List Tr) (hf : trim ts = ts) : isFo (ts.map txt) = decide (ts.length ≤ 8 ∧ sumC ts ≤ 8) := by
  by_cases h8 : ts.length ≤ 8
  · by_cases hs : sumC ts ≤ 8
    · have hall : ∀ t ∈ ts, t.c ≤ 8 := fun t ht => Nat.le_trans (c_le_sum ts t ht) hs
      have hT : treesOf (ts.map txt) = ts := by
        rw [treesOf, List.map_map]
        conv => rhs; rw [← List.map_id ts]
        exact List.map_congr_left fun t ht => (treeOf_txt' t (hall t ht)).2
      have hA : (ts.map txt).all isTree = true := by
        rw [List.all_eq_true]
        intro l hl
        obtain ⟨t, ht, rfl⟩ := List.mem_map.1 hl
        exact (treeOf_txt' t (hall t ht)).1
      rw [isFo, hA, hT, hf, List.length_map, decide_eq_true h8, decide_eq_true hs, decide_eq_true (show ts.length ≤ 8 ∧ sumC ts ≤ 8 from ⟨h8, hs⟩)]
      simp
    · rw [decide_eq_false (fun g => hs g.2)]
      cases hg : isFo (ts.map txt) with
      | false => rfl
      | true =>
        obtain ⟨_, g2, g3, _, _⟩ := isFo_spec hg
        have hall : ∀ t ∈ ts, t.c ≤ 8 := by
          intro t ht
          have := g2 (txt t) (List.mem_map.2 ⟨t, ht, rfl⟩)
          obtain ⟨u, e, hu⟩ := (isTree_iff _).1 this
          have e' := (txt_inj t u [] [] (by rw [List.append_nil, List.append_nil]; exact e)).1
          rw [e']; exact hu
        have hT : treesOf (ts.map txt) = ts := by
          rw [treesOf, List.map_map]
          conv => rhs; rw [← List.map_id ts]
          exact List.map_congr_left fun t ht => (treeOf_txt' t (hall t ht)).2
        rw [hT] at g3
        exact absurd g3 hs
  · rw [decide_eq_false (fun g => h8 g.1)]
    rw [isFo, List.length_map, decide_eq_false h8]
    simp

theorem trim_trim (ts : List Tr) : trim (trim ts) = trim ts := by
  induction ts with
  | nil => rfl
  | cons t ts ih =>
    rw [trim]
    split
    · split
      · rfl
      · rename_i h
        simp [trim, h]
    · rename_i u us e
      rw [e] at ih
      rw [trim, ih]

theorem foIf_SC (ts : List Tr) (h : ts.length ≤ 2 ^ 20) (hc : ∀ t ∈ ts, t.c ≤ 2 ^ 20) :
    SC cfg.P i_spec_foIf [.s (.v (.sl .str) (txs (ts.map txt)))] (.tup [.own t_string .str (txs (foTexts ts)), .v .bool (foOk ts)]) [] := by
  have h1 := wdShort_SC ts h
  have hl := trim_len ts
  have h2 := foGood_SC ((trim ts).map txt) (by
    intro l hl
    obtain ⟨t, ht, rfl⟩ := List.mem_map.1 hl
    have := hc t (trim_mem ht)
    rw [txt_len]
    omega) (by rw [List.length_map]; omega)
  rw [isFo_trees _ (trim_trim ts), trim_sumC] at h2
  by_cases hg : (trim ts).length ≤ 8 ∧ sumC ts ≤ 8
  · rw [decide_eq_true hg] at h2
    rw [foTexts, foOk, if_pos hg, decide_eq_true hg]
    exact spec_foIf_p1 _ _ h1 h2
  · rw [decide_eq_false hg] at h2
    rw [foTexts, foOk, if_neg hg, decide_eq_false hg]
    exact spec_foIf_p2 _ _ h1 h2

theorem ftree_SC (ts : List Tr) (k : Nat) : SC cfg.P i_impl_forest_tree [.s (.v (.sl .tree) ts), .s (.v (.int .i64) (k : Int))] (.s (.v .tree (ts.getD k .leaf))) [] := by
  by_cases h : k < ts.length
  · exact impl_forest_tree_p1 _ _ (by omega) (by omega) (by omega)
  · rw [List.getD_eq_getElem?_getD, List.getElem?_eq_none (by omega)]
    exact impl_forest_tree_p2 _ _ (by omega)

end Go.AI
end
