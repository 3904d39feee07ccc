/- A part of the road: what it proves stands in its last texts. -/
import Derived.Test.YtdfllkeekehplaaGreatJE
import Derived.Test.YtdfllkeekehplaaGreatGL
import Derived.Test.YtdfllkeekehplaaGreatJG
import Derived.Test.YtdfllkeekehplaaGreatJH
section
/- Contracts: forests hung at a right comb; their pairs. -/
set_option autoImplicit false
set_option maxRecDepth 100000
set_option linter.unusedVariables false
namespace Go.AI
open Go.Proofs

theorem trRightR_SC (n : Nat) (h : n ≤ 2 ^ 20) : SC cfg.P i_spec_trRight [.s (.v (.int .i64) (n : Int))] (.s (.v .str (bs (txt (combR n))))) [] := by
  have key : ∀ (m i : Nat), i + m = n → LoopSC cfg.P 1 (lb P_spec_trRight 0) (spec_trRight_L0a (m : Int) (bs (txt (combR i)))) (.exit 0) (spec_trRight_L0X1 0 (bs (txt (combR n))) false) := by
    intro m
    induction m with
    | zero =>
      intro i hi
      have e : i = n := by omega
      subst e
      exact spec_trRight_L0a_x2 _ _ (by omega)
    | succ m ih =>
      intro i hi
      have hn := ih (i + 1) (by omega)
      have ew : IntKind.wrap .i64 (((m + 1 : Nat) : Int) - 1) = (m : Int) := by rw [w64] <;> omega
      have hc := combR_c i
      rw [← ew, combR_succ] at hn
      exact spec_trRight_L0a_i1 _ _ _ (by omega) (trOf_SC .leaf (combR i) (by simp [Tr.c]) (by omega)) hn
  exact spec_trRight_p1 _ _ _ _ (key n 0 (by omega))

theorem drop_last (ts : List Tr) (k : Nat) (h : k < ts.length) : combT (ts.drop k) = .node (ts.getD k .leaf) (combT (ts.drop (k + 1))) := by
  rw [List.drop_eq_getElem_cons h, combT, List.getD_eq_getElem?_getD, List.getElem?_eq_getElem h]
  rfl

theorem sum_drop (ts : List Tr) (k : Nat) : sumC (ts.drop k) ≤ sumC ts := by
  have e : ts = ts.take k ++ ts.drop k := (List.take_append_drop k ts).symm
  have h2 : sumC (ts.take k ++ ts.drop k) = sumC (ts.take k) + sumC (ts.drop k) := by rw [sumC, List.map_append, List.sum_append]; rfl
  rw [← e] at h2
  omega

theorem wdComb_SC (ts : List Tr) (h : ts.length ≤ 2 ^ 20) (hs : sumC ts ≤ 2 ^ 20) : SC cfg.P i_spec_wdComb [.s (.v (.sl .str) (txs (ts.map txt)))] (.s (.v .str (bs (txt (combT ts))))) [] := by
  have hl : List.length (txs (ts.map txt)) = ts.length := by simp
  have key : ∀ (m : Nat), m ≤ ts.length → LoopSC cfg.P 1 (lb P_spec_wdComb 0) (spec_wdComb_L0a (txs (ts.map txt)) (bs (txt (combT (ts.drop m)))) ((m : Int) - 1)) (.exit 0) (spec_wdComb_L0X1 (txs (ts.map txt)) (bs (txt (combT ts))) (-1) false) := by
    intro m
    induction m with
    | zero =>
      intro hm
      exact spec_wdComb_L0a_x2 _ _ _ (by omega)
    | succ m ih =>
      intro hm
      have hn := ih (by omega)
      have hd := drop_last ts m (by omega)
      have e1 : ((m + 1 : Nat) : Int) - 1 = (m : Int) := by omega
      have ew : IntKind.wrap .i64 ((m : Int) - 1) = (m : Int) - 1 := by rw [w64] <;> omega
      have hg : List.getD (txs (ts.map txt)) ((m : Int)).toNat (⟨#[]⟩ : ByteArray) = bs (txt (ts.getD m .leaf)) := by
        rw [Int.toNat_natCast, txs, List.map_map, gD_map (bs ∘ txt) ts m (by omega) .leaf]; rfl
      have hc := combT_c (ts.drop (m + 1))
      have hs1 := sum_drop ts (m + 1)
      have hlen : (ts.drop (m + 1)).length ≤ ts.length := by simp
      have ht : (ts.getD m .leaf).c ≤ sumC ts := c_le_sum ts _ (gD_mem (by omega) _)
      have ho := trOf_SC (ts.getD m .leaf) (combT (ts.drop (m + 1))) (by omega) (by omega)
      rw [← hd, ← hg] at ho
      rw [← ew] at hn
      rw [e1]
      exact spec_wdComb_L0a_i1 _ _ _ _ (by omega) (by omega) (by omega) ho hn
  have h0 := key ts.length (Nat.le_refl _)
  have ew : IntKind.wrap .i64 (((List.length (txs (ts.map txt)) : Nat) : Int) - 1) = (ts.length : Int) - 1 := by rw [hl, w64] <;> omega
  rw [List.drop_length, ← ew] at h0
  exact spec_wdComb_p1 _ _ _ _ _ h0

theorem foPair_SC (ts : List Tr) (h : ts.length ≤ 2 ^ 18) (hs : sumC ts ≤ 2 ^ 18) : SC cfg.P i_spec_foPair [.s (.v (.sl .str) (txs (ts.map txt)))] (.s (.v (.pr .str .str) (pt (fpP ts)))) [] := by
  have hc := combT_c ts
  have hr := combR_c (combT ts).c
  have hl := txt_len (combT ts)
  have h2 := trCarets_SC (txt (combT ts)) (by omega)
  rw [txt_count] at h2
  exact spec_foPair_p1 _ _ _ _ _ (wdComb_SC ts (by omega) (by omega)) h2 (trRightR_SC (combT ts).c (by omega)) (prReduce_SC (combT ts, combR (combT ts).c) (by simp only; omega) (by simp only; omega))

end Go.AI
end

section
/- The law of ForestsOfPair. -/
set_option autoImplicit false
set_option maxRecDepth 100000
set_option linter.unusedVariables false
namespace Go.AI
open Go.Proofs

theorem hangT_len : ∀ t, (hangT t).length ≤ t.c
  | .leaf => Nat.le_refl _
  | .node l r => by have := hangT_len r; simp only [hangT, List.length_cons, Tr.c]; omega

theorem hangT_c : ∀ t, ∀ u ∈ hangT t, u.c ≤ t.c
  | .leaf, u, h => by simp [hangT] at h
  | .node l r, u, h => by
    simp only [Tr.c]
    rcases List.mem_cons.1 h with rfl | h
    · omega
    · have := hangT_c r u h; omega

theorem hanging_SC (t : Tr) (h : t.c ≤ 2 ^ 20) : SC cfg.P i_impl_hanging [.s (.v .tree t)] (.s (.v (.sl .tree) (trim (hangT t)))) [] := by
  have key : ∀ (t : Tr) (cur : List Tr), cur.length + t.c ≤ 2 ^ 30 → LoopSC cfg.P 1 (lb P_impl_hanging 0) (impl_hanging_L0a t cur) (.exit 0) (impl_hanging_L0X1 .leaf false (cur ++ hangT t)) := by
    intro t
    induction t with
    | leaf => intro cur _; rw [hangT, List.append_nil]; exact impl_hanging_L0a_x1 _
    | node l r _ ih =>
      intro cur hc
      simp only [Tr.c] at hc
      have hn := ih (cur ++ [l]) (by rw [List.length_append, List.length_singleton]; omega)
      rw [List.append_assoc, List.singleton_append] at hn
      exact impl_hanging_L0a_i2 _ _ _ (sizeOK_one (by omega)) hn
  have h0 := key t [] (by rw [List.length_nil]; omega)
  rw [List.nil_append] at h0
  have hl := hangT_len t
  exact impl_hanging_p1 _ _ _ _ _ h0 (trimmed_SC _ (by omega))

theorem foHanging_SC (t : Tr) (h : t.c ≤ 50) : SC cfg.P i_spec_foHanging [.s (.v .str (bs (txt t)))] (.s (.own t_string .str (txs ((trim (hangT t)).map txt)))) [] := by
  have key : ∀ (t : Tr) (cur : List Tr), t.c ≤ 50 → cur.length + t.c ≤ 2 ^ 30 → LoopSC cfg.P 1 (lb P_spec_foHanging 0) (spec_foHanging_L0a (bs (txt t)) (txs (cur.map txt))) (.exit 0) (spec_foHanging_L0X1 (bs (txt .leaf)) false (txs ((cur ++ hangT t).map txt))) := by
    intro t
    induction t with
    | leaf => intro cur _ _; rw [hangT, List.append_nil]; exact spec_foHanging_L0a_x1 _ _ trLeaf_leaf
    | node l r _ ih =>
      intro cur ht hc
      have ht' := ht
      simp only [Tr.c] at hc ht
      have hn := ih (cur ++ [l]) (by omega) (by rw [List.length_append, List.length_singleton]; omega)
      rw [List.append_assoc, List.singleton_append] at hn
      have e : txs ((cur ++ [l]).map txt) = txs (cur.map txt) ++ [bs (txt l)] := by simp
      rw [e] at hn
      exact spec_foHanging_L0a_i2 _ _ _ _ (trLeaf_node l r) (trSides_SC l r ht') (sizeOK_one (by simp; omega)) hn
  have h0 := key t [] h (by rw [List.length_nil]; omega)
  rw [List.nil_append] at h0
  have hl := hangT_len t
  exact spec_foHanging_p1 _ _ _ _ _ h0 (wdShort_SC _ (by omega))

def fopR (a b : List UInt8) : Tr × Tr := red (treeOf a).c (treeOf a, treeOf b)
def fopF (a b : List UInt8) : List Tr := trim (hangT (fopR a b).1)
def fopG (a b : List UInt8) : List Tr := trim (hangT (fopR a b).2)
def fopB (a b : List UInt8) : Bool := isPair a b && foOk (fopF a b) && foOk (fopG a b)
def fopV (a b : List UInt8) : List ByteArray := if fopB a b = true then txs (foTexts (fopF a b)) else []
def fopW (a b : List UInt8) : List ByteArray := if fopB a b = true then txs (foTexts (fopG a b)) else []

theorem fop_facts (a b : List UInt8) (h : isPair a b = true) : (fopF a b).length ≤ 8 ∧ (fopG a b).length ≤ 8 ∧ (∀ t ∈ fopF a b, t.c ≤ 8) ∧ (∀ t ∈ fopG a b, t.c ≤ 8) ∧ (fopR a b).1.c ≤ 8 ∧ (fopR a b).2.c ≤ 8 := by
  obtain ⟨a1, a2, a3, a4, a5⟩ := isPair_trees h
  have hr := red_c (treeOf a).c (treeOf a, treeOf b)
  simp only at hr
  have h1 : (fopR a b).1.c ≤ 8 := by show (red _ _).1.c ≤ 8; omega
  have h2 : (fopR a b).2.c ≤ 8 := by show (red _ _).2.c ≤ 8; omega
  have l1 := hangT_len (fopR a b).1
  have l2 := hangT_len (fopR a b).2
  have t1 := trim_len (hangT (fopR a b).1)
  have t2 := trim_len (hangT (fopR a b).2)
  refine ⟨by unfold fopF; omega, by unfold fopG; omega, fun t ht => ?_, fun t ht => ?_, h1, h2⟩
  · have := hangT_c _ _ (trim_mem ht); omega
  · have := hangT_c _ _ (trim_mem ht); omega

theorem implFop_SC (a b : List UInt8) (ha : a.length ≤ 2 ^ 40) (hb : b.length ≤ 2 ^ 40) :
    SC cfg.P i_impl_ForestsOfPair [.s (.v (.pr .str .str) (bs a, bs b))] (.tup [.own t_string .str (fopV a b), .own t_string .str (fopW a b), .v .bool (fopB a b)]) [] := by
  have h1 := pairOf_SC a b ha hb
  cases t : isPair a b with
  | false =>
    rw [t] at h1
    have hB : fopB a b = false := by rw [fopB, t]; rfl
    rw [fopV, fopW, hB, if_neg (by simp), if_neg (by simp)]
    exact impl_ForestsOfPair_p4 _ _ h1
  | true =>
    rw [t] at h1
    obtain ⟨a1, a2, a3, a4, a5⟩ := isPair_trees t
    obtain ⟨f1, f2, f3, f4, f5, f6⟩ := fop_facts a b t
    have h2 := reduced_SC (treeOf a, treeOf b) (by simp only; omega) (by simp only; omega)
    have g1 := hanging_SC (fopR a b).1 (by omega)
    have g2 := hanging_SC (fopR a b).2 (by omega)
    have x1 := texts_SC (fopF a b) (by omega) (fun t ht => by have := f3 t ht; omega)
    have x2 := texts_SC (fopG a b) (by omega) (fun t ht => by have := f4 t ht; omega)
    cases o1 : foOk (fopF a b) with
    | false =>
      rw [o1] at x1
      have hB : fopB a b = false := by rw [fopB, o1, Bool.and_false]; rfl
      rw [fopV, fopW, hB, if_neg (by simp), if_neg (by simp)]
      exact impl_ForestsOfPair_p3 _ _ _ _ _ _ _ _ h1 h2 g1 x1 g2 x2
    | true =>
      rw [o1] at x1
      cases o2 : foOk (fopG a b) with
      | false =>
        rw [o2] at x2
        have hB : fopB a b = false := by rw [fopB, o2, Bool.and_false]
        rw [fopV, fopW, hB, if_neg (by simp), if_neg (by simp)]
        exact impl_ForestsOfPair_p2 _ _ _ _ _ _ _ h1 h2 g1 x1 g2 x2
      | true =>
        rw [o2] at x2
        have hB : fopB a b = true := by rw [fopB, o1, o2, t]; rfl
        rw [fopV, fopW, hB, if_pos rfl, if_pos rfl]
        exact impl_ForestsOfPair_p1 _ _ _ _ _ _ _ h1 h2 g1 x1 g2 x2

theorem specFop_SC (a b : List UInt8) (ha : a.length ≤ 2 ^ 40) (hb : b.length ≤ 2 ^ 40) :
    SC cfg.P i_spec_ForestsOfPair [.s (.v (.pr .str .str) (bs a, bs b))] (.tup [.own t_string .str (fopV a b), .own t_string .str (fopW a b), .v .bool (fopB a b)]) [] := by
  have h1 := prGood_SC a b ha hb
  cases t : isPair a b with
  | false =>
    rw [t] at h1
    have hB : fopB a b = false := by rw [fopB, t]; rfl
    rw [fopV, fopW, hB, if_neg (by simp), if_neg (by simp)]
    exact spec_ForestsOfPair_p4 _ h1
  | true =>
    rw [t] at h1
    obtain ⟨a1, a2, a3, a4, a5⟩ := isPair_trees t
    obtain ⟨f1, f2, f3, f4, f5, f6⟩ := fop_facts a b t
    have e1 : pt (treeOf a, treeOf b) = (bs a, bs b) := by rw [pt, ← a1, ← a2]
    have h2 := prReduce_SC (treeOf a, treeOf b) (by simp only; omega) (by simp only; omega)
    rw [e1] at h2
    have g1 := foHanging_SC (fopR a b).1 (by omega)
    have g2 := foHanging_SC (fopR a b).2 (by omega)
    have x1 := foIf_SC (fopF a b) (by omega) (fun t ht => by have := f3 t ht; omega)
    have x2 := foIf_SC (fopG a b) (by omega) (fun t ht => by have := f4 t ht; omega)
    cases o1 : foOk (fopF a b) with
    | false =>
      rw [o1] at x1
      have hB : fopB a b = false := by rw [fopB, o1, Bool.and_false]; rfl
      rw [fopV, fopW, hB, if_neg (by simp), if_neg (by simp)]
      exact spec_ForestsOfPair_p3 _ _ _ _ _ _ _ h1 h2 g1 x1 g2 x2
    | true =>
      rw [o1] at x1
      cases o2 : foOk (fopG a b) with
      | false =>
        rw [o2] at x2
        have hB : fopB a b = false := by rw [fopB, o2, Bool.and_false]
        rw [fopV, fopW, hB, if_neg (by simp), if_neg (by simp)]
        exact spec_ForestsOfPair_p2 _ _ _ _ _ _ h1 h2 g1 x1 g2 x2
      | true =>
        rw [o2] at x2
        have hB : fopB a b = true := by rw [fopB, o1, o2, t]; rfl
        rw [fopV, fopW, hB, if_pos rfl, if_pos rfl]
        exact spec_ForestsOfPair_p1 _ _ _ _ _ _ h1 h2 g1 x1 g2 x2

end Go.AI
end

section
/- The law of PairOfForest. -/
set_option autoImplicit false
set_option maxRecDepth 100000
set_option linter.unusedVariables false
namespace Go.AI
open Go.Proofs

def pofV (fs : List (List UInt8)) : ByteArray × ByteArray := if isFo fs = true then fitV (fpP (treesOf fs)) else (⟨#[]⟩, ⟨#[]⟩)
def pofB (fs : List (List UInt8)) : Bool := isFo fs && decide ((fpP (treesOf fs)).1.c ≤ 8)

theorem implPof_SC (fs : List (List UInt8)) (hs : ∀ l ∈ fs, l.length ≤ 2 ^ 40) (hfl : fs.length ≤ 2 ^ 40) :
    SC cfg.P i_impl_PairOfForest [.s (.v (.sl .str) (txs fs))] (.tup [.v (.pr .str .str) (pofV fs), .v .bool (pofB fs)]) [] := by
  obtain ⟨ts, h1, h2⟩ := forestOf_SC fs hs hfl
  unfold pofV pofB
  cases hb : isFo fs with
  | false => rw [hb] at h2; exact impl_PairOfForest_p2 _ _ h2
  | true =>
    rw [hb] at h2
    have e := h1 hb
    subst e
    obtain ⟨_, l1, l2, l3⟩ := fo_facts2 hb
    have hc := fp_c (treesOf fs)
    have hq := fp_eqc (treesOf fs)
    exact impl_PairOfForest_p1 _ _ _ _ _ h2 (fpair_SC _ (by omega) (by omega) l3) (fits_SC _ (by omega) (by omega))

theorem specPof_SC (fs : List (List UInt8)) (hs : ∀ l ∈ fs, l.length ≤ 2 ^ 40) (hfl : fs.length ≤ 2 ^ 40) :
    SC cfg.P i_spec_PairOfForest [.s (.v (.sl .str) (txs fs))] (.tup [.v (.pr .str .str) (pofV fs), .v .bool (pofB fs)]) [] := by
  have h1 := foGood_SC fs hs hfl
  unfold pofV pofB
  cases hb : isFo fs with
  | false => rw [hb] at h1; exact spec_PairOfForest_p2 _ h1
  | true =>
    rw [hb] at h1
    obtain ⟨e, l1, l2, l3⟩ := fo_facts2 hb
    have hc := fp_c (treesOf fs)
    have hp := foPair_SC (treesOf fs) (by omega) (by omega)
    rw [← e] at hp
    exact spec_PairOfForest_p1 _ _ _ _ h1 hp (prIf_SC _ (fp_eqc _) (by omega))

end Go.AI
end

section
/- The law of PairOfForests. -/
set_option autoImplicit false
set_option maxRecDepth 100000
set_option linter.unusedVariables false
namespace Go.AI
open Go.Proofs

def pffP (fs gs : List (List UInt8)) : Tr × Tr := timesT (fpP (treesOf fs)) ((fpP (treesOf gs)).2, (fpP (treesOf gs)).1)
def pffV (fs gs : List (List UInt8)) : ByteArray × ByteArray := if (isFo fs && isFo gs) = true then fitV (pffP fs gs) else (⟨#[]⟩, ⟨#[]⟩)
def pffB (fs gs : List (List UInt8)) : Bool := (isFo fs && isFo gs) && decide ((pffP fs gs).1.c ≤ 8)

theorem implPff_SC (fs gs : List (List UInt8)) (hs : ∀ l ∈ fs, l.length ≤ 2 ^ 40) (hfl : fs.length ≤ 2 ^ 40) (hs' : ∀ l ∈ gs, l.length ≤ 2 ^ 40) (hgl : gs.length ≤ 2 ^ 40) :
    SC cfg.P i_impl_PairOfForests [.s (.v (.sl .str) (txs fs)), .s (.v (.sl .str) (txs gs))] (.tup [.v (.pr .str .str) (pffV fs gs), .v .bool (pffB fs gs)]) [] := by
  obtain ⟨ts, us, h1, h2⟩ := twoForests_SC fs gs hs hfl hs' hgl
  unfold pffV pffB
  cases hb : (isFo fs && isFo gs) with
  | false => rw [hb] at h2; exact impl_PairOfForests_p2 _ _ _ _ h2
  | true =>
    rw [hb] at h2
    have hb' := Bool.and_eq_true_iff.1 hb
    obtain ⟨rfl, rfl⟩ := h1 hb'
    obtain ⟨_, l1, l2, l3⟩ := fo_facts2 hb'.1
    obtain ⟨_, m1, m2, m3⟩ := fo_facts2 hb'.2
    have hc := fp_c (treesOf fs)
    have hq := fp_eqc (treesOf fs)
    have hc' := fp_c (treesOf gs)
    have hq' := fp_eqc (treesOf gs)
    have hr := raw_c (fpP (treesOf fs)) ((fpP (treesOf gs)).2, (fpP (treesOf gs)).1) hq
    have hrq := times_eqc (fpP (treesOf fs)) ((fpP (treesOf gs)).2, (fpP (treesOf gs)).1) hq hq'.symm
    simp only at hr
    have ht := times_SC (fpP (treesOf fs)) ((fpP (treesOf gs)).2, (fpP (treesOf gs)).1) hq hq'.symm (by omega) (by simp only; omega)
    exact impl_PairOfForests_p1 _ _ _ _ _ _ _ _ _ _ h2 (fpair_SC _ (by omega) (by omega) l3) (fpair_SC _ (by omega) (by omega) m3) (impl_pair_inverse_p1 _) ht (fits_SC _ (by omega) (by omega))

theorem specPff_SC (fs gs : List (List UInt8)) (hs : ∀ l ∈ fs, l.length ≤ 2 ^ 40) (hfl : fs.length ≤ 2 ^ 40) (hs' : ∀ l ∈ gs, l.length ≤ 2 ^ 40) (hgl : gs.length ≤ 2 ^ 40) :
    SC cfg.P i_spec_PairOfForests [.s (.v (.sl .str) (txs fs)), .s (.v (.sl .str) (txs gs))] (.tup [.v (.pr .str .str) (pffV fs gs), .v .bool (pffB fs gs)]) [] := by
  have h1 := foGood_SC fs hs hfl
  have h2 := foGood_SC gs hs' hgl
  unfold pffV pffB
  cases hb : isFo fs with
  | false => rw [hb] at h1; exact spec_PairOfForests_p3 _ _ h1
  | true =>
    rw [hb] at h1
    cases hg : isFo gs with
    | false => rw [hg] at h2; exact spec_PairOfForests_p2 _ _ h1 h2
    | true =>
      rw [hg] at h2
      obtain ⟨e1, l1, l2, l3⟩ := fo_facts2 hb
      obtain ⟨e2, m1, m2, m3⟩ := fo_facts2 hg
      have hc := fp_c (treesOf fs)
      have hq := fp_eqc (treesOf fs)
      have hc' := fp_c (treesOf gs)
      have hq' := fp_eqc (treesOf gs)
      have hr := raw_c (fpP (treesOf fs)) ((fpP (treesOf gs)).2, (fpP (treesOf gs)).1) hq
      have hrq := times_eqc (fpP (treesOf fs)) ((fpP (treesOf gs)).2, (fpP (treesOf gs)).1) hq hq'.symm
      simp only at hr
      have p1 := foPair_SC (treesOf fs) (by omega) (by omega)
      have p2 := foPair_SC (treesOf gs) (by omega) (by omega)
      rw [← e1] at p1
      rw [← e2] at p2
      have ht := prTimes_SC (fpP (treesOf fs)) ((fpP (treesOf gs)).2, (fpP (treesOf gs)).1) hq hq'.symm (by simp only; omega)
      exact spec_PairOfForests_p1 _ _ _ _ _ _ _ _ h1 h2 p1 p2 (spec_prInverse_p1 _) ht (prIf_SC _ hrq (by omega))

end Go.AI
end
