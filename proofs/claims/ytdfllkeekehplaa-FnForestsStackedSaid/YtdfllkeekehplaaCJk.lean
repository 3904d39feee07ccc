/- The laws of JoinForests and CommonForest. -/
import Derived.Test.YtdfllkeekehplaaCWk
import Derived.Test.YtdfllkeekehplaaCJc
set_option autoImplicit false
set_option maxRecDepth 100000
set_option linter.unusedVariables false
namespace Go.AI
open Go.Proofs

/-- Each tree of one forest with that of the other one. -/
def eachL (g : Tr → Tr → Tr) (ts us : List Tr) : List Tr := (List.range' 0 (max ts.length us.length)).map fun i => g (ts.getD i .leaf) (us.getD i .leaf)

theorem eachL_len (g : Tr → Tr → Tr) (ts us : List Tr) : (eachL g ts us).length = max ts.length us.length := by simp [eachL]

theorem each_SC (F : FuncId) (g : Tr → Tr → Tr) (hF : ∀ t u, SC cfg.P F [.s (.v .tree t), .s (.v .tree u)] (.s (.v .tree (g t u))) []) (ts us : List Tr) (h1 : ts.length ≤ 2 ^ 20) (h2 : us.length ≤ 2 ^ 20) :
    SC cfg.P i_impl_each [.s (.v (.sl .tree) ts), .s (.v (.sl .tree) us), .fn F [] []] (.s (.own t_pimpl_node .tree (eachL g ts us))) [] := by
  have em : maxI ((List.length ts : Nat) : Int) ((List.length us : Nat) : Int) = ((max ts.length us.length : Nat) : Int) := by
    unfold maxI; split <;> omega
  have key := loop_up (P := cfg.P) (np := 3) (c := lb P_impl_each 0) (fun i (a : List Tr) => impl_each_L0a ts us F ((max ts.length us.length : Nat) : Int) (i : Int) a) (fun a => impl_each_L0X1 ts us F ((max ts.length us.length : Nat) : Int) ((max ts.length us.length : Nat) : Int) false a)
    (fun i a => a ++ [g (ts.getD i .leaf) (us.getD i .leaf)]) (fun i a => a.length ≤ i) (max ts.length us.length)
    (fun i a hi hI => by
      refine ⟨by simp; omega, fun e st hn => ?_⟩
      rw [← wrap_succ (by omega)] at hn
      exact impl_each_L0a_i1 _ _ _ _ _ _ _ _ _ (by omega) (ftree_SC ts i) (ftree_SC us i) (hF _ _) (sizeOK_one (by omega)) hn)
    (fun a _ => impl_each_L0a_x2 _ _ _ _ _ _ (by omega)) (max ts.length us.length) 0 [] (by omega) (by simp)
  have hL := key.1
  rw [itr_map (fun i => g (ts.getD i .leaf) (us.getD i .leaf)), List.nil_append, ← em] at hL
  exact impl_each_p1 _ _ _ _ _ _ _ _ _ _ hL

theorem eachL_c (g : Tr → Tr → Tr) (ts us : List Tr) (b c d : Nat) (hg : ∀ t u, t.c ≤ b → u.c ≤ c → (g t u).c ≤ d) (h1 : ∀ t ∈ ts, t.c ≤ b) (h2 : ∀ t ∈ us, t.c ≤ c) : ∀ t ∈ eachL g ts us, t.c ≤ d := by
  intro t ht
  obtain ⟨i, _, rfl⟩ := List.mem_map.1 ht
  exact hg _ _ (getD_leaf_c h1 i) (getD_leaf_c h2 i)

/-- What is told of two forests. -/
def bothB (fs gs : List (List UInt8)) : Bool := isFo fs && isFo gs
def eachV (g : Tr → Tr → Tr) (fs gs : List (List UInt8)) : List (List UInt8) := if bothB fs gs = true then foTexts (eachL g (treesOf fs) (treesOf gs)) else []
def eachB (g : Tr → Tr → Tr) (fs gs : List (List UInt8)) : Bool := bothB fs gs && foOk (eachL g (treesOf fs) (treesOf gs))

theorem fo_facts {fs : List (List UInt8)} (h : isFo fs = true) : fs = (treesOf fs).map txt ∧ (treesOf fs).length ≤ 8 ∧ ∀ t ∈ treesOf fs, t.c ≤ 8 := by
  obtain ⟨h1, h2, h3, h4, h5⟩ := isFo_spec h
  have hl : (treesOf fs).length = fs.length := List.length_map ..
  exact ⟨h5, by omega, fun t ht => Nat.le_trans (c_le_sum _ t ht) h3⟩

theorem implCommon_SC (fs gs : List (List UInt8)) (hs : ∀ l ∈ fs, l.length ≤ 2 ^ 40) (hfl : fs.length ≤ 2 ^ 40) (hs' : ∀ l ∈ gs, l.length ≤ 2 ^ 40) (hgl : gs.length ≤ 2 ^ 40) :
    SC cfg.P i_impl_CommonForest [.s (.v (.sl .str) (txs fs)), .s (.v (.sl .str) (txs gs))] (.tup [.own t_string .str (txs (eachV comT fs gs)), .v .bool (eachB comT fs gs)]) [] := by
  obtain ⟨ts, us, h1, h2⟩ := twoForests_SC fs gs hs hfl hs' hgl
  cases hb : bothB fs gs with
  | false =>
    rw [show (isFo fs && isFo gs) = false from hb] at h2
    rw [eachV, eachB, hb, if_neg (by simp), Bool.false_and]
    exact impl_CommonForest_p2 _ _ _ _ h2
  | true =>
    rw [show (isFo fs && isFo gs) = true from hb] at h2
    rw [bothB, Bool.and_eq_true] at hb
    obtain ⟨rfl, rfl⟩ := h1 hb
    obtain ⟨_, l1, c1⟩ := fo_facts hb.1
    obtain ⟨_, l2, c2⟩ := fo_facts hb.2
    have hE := each_SC i_impl_common comT common_SC (treesOf fs) (treesOf gs) (by omega) (by omega)
    have hT := texts_SC (eachL comT (treesOf fs) (treesOf gs)) (by rw [eachL_len]; omega) (eachL_c comT _ _ 8 8 _ (fun t u ht hu => by have := comT_c t u; omega) c1 c2)
    rw [eachV, eachB, show bothB fs gs = true by rw [bothB, hb.1, hb.2]; rfl, if_pos rfl, Bool.true_and]
    exact impl_CommonForest_p1 _ _ _ _ _ _ _ h2 hE hT

theorem implJoin_SC (fs gs : List (List UInt8)) (hs : ∀ l ∈ fs, l.length ≤ 2 ^ 40) (hfl : fs.length ≤ 2 ^ 40) (hs' : ∀ l ∈ gs, l.length ≤ 2 ^ 40) (hgl : gs.length ≤ 2 ^ 40) :
    SC cfg.P i_impl_JoinForests [.s (.v (.sl .str) (txs fs)), .s (.v (.sl .str) (txs gs))] (.tup [.own t_string .str (txs (eachV joiT fs gs)), .v .bool (eachB joiT fs gs)]) [] := by
  obtain ⟨ts, us, h1, h2⟩ := twoForests_SC fs gs hs hfl hs' hgl
  cases hb : bothB fs gs with
  | false =>
    rw [show (isFo fs && isFo gs) = false from hb] at h2
    rw [eachV, eachB, hb, if_neg (by simp), Bool.false_and]
    exact impl_JoinForests_p2 _ _ _ _ h2
  | true =>
    rw [show (isFo fs && isFo gs) = true from hb] at h2
    rw [bothB, Bool.and_eq_true] at hb
    obtain ⟨rfl, rfl⟩ := h1 hb
    obtain ⟨_, l1, c1⟩ := fo_facts hb.1
    obtain ⟨_, l2, c2⟩ := fo_facts hb.2
    have hE := each_SC i_impl_join joiT join_SC (treesOf fs) (treesOf gs) (by omega) (by omega)
    have hT := texts_SC (eachL joiT (treesOf fs) (treesOf gs)) (by rw [eachL_len]; omega) (eachL_c joiT _ _ 8 8 _ (fun t u ht hu => by have := joiT_c t u; omega) c1 c2)
    rw [eachV, eachB, show bothB fs gs = true by rw [bothB, hb.1, hb.2]; rfl, if_pos rfl, Bool.true_and]
    exact impl_JoinForests_p1 _ _ _ _ _ _ _ h2 hE hT

theorem specCommonForest_SC (fs gs : List (List UInt8)) (hs : ∀ l ∈ fs, l.length ≤ 2 ^ 40) (hfl : fs.length ≤ 2 ^ 40) (hs' : ∀ l ∈ gs, l.length ≤ 2 ^ 40) (hgl : gs.length ≤ 2 ^ 40) :
    SC cfg.P i_spec_CommonForest [.s (.v (.sl .str) (txs fs)), .s (.v (.sl .str) (txs gs))] (.tup [.own t_string .str (txs (eachV comT fs gs)), .v .bool (eachB comT fs gs)]) [] := by
  have h1 := foGood_SC fs hs hfl
  have h2 := foGood_SC gs hs' hgl
  cases hf : isFo fs with
  | false =>
    rw [hf] at h1
    rw [eachV, eachB, show bothB fs gs = false by rw [bothB, hf]; rfl, if_neg (by simp), Bool.false_and]
    exact spec_CommonForest_p3 _ _ h1
  | true =>
    rw [hf] at h1
    cases hg : isFo gs with
    | false =>
      rw [hg] at h2
      rw [eachV, eachB, show bothB fs gs = false by rw [bothB, hg, Bool.and_false], if_neg (by simp), Bool.false_and]
      exact spec_CommonForest_p2 _ _ h1 h2
    | true =>
      rw [hg] at h2
      rw [eachV, eachB, show bothB fs gs = true by rw [bothB, hf, hg]; rfl, if_pos rfl, Bool.true_and]
      obtain ⟨e1, l1, c1⟩ := fo_facts hf
      obtain ⟨e2, l2, c2⟩ := fo_facts hg
      have m1 : (txs fs).length = (treesOf fs).length := by simp [treesOf]
      have m2 : (txs gs).length = (treesOf gs).length := by simp [treesOf]
      have hT := foIf_SC (eachL comT (treesOf fs) (treesOf gs)) (by rw [eachL_len]; omega) (eachL_c comT _ _ 8 8 _ (fun t u ht hu => by have := comT_c t u; omega) c1 c2)
      have key := loop_up (P := cfg.P) (np := 2) (c := lb P_spec_CommonForest 0) (fun i (a : List ByteArray) => spec_CommonForest_L0a (txs fs) (txs gs) (i : Int) a) (fun a => spec_CommonForest_L0X1 (txs fs) (txs gs) ((max (treesOf fs).length (treesOf gs).length : Nat) : Int) false a)
        (fun i a => a ++ [bs (txt (comT ((treesOf fs).getD i .leaf) ((treesOf gs).getD i .leaf)))]) (fun i a => a.length ≤ i) (max (treesOf fs).length (treesOf gs).length)
        (fun i a hi hI => by
          refine ⟨by simp; omega, fun e st hn => ?_⟩
          rw [← wrap_succ (by omega)] at hn
          have t1 := foTree_SC (treesOf fs) i
          have t2 := foTree_SC (treesOf gs) i
          rw [← e1] at t1
          rw [← e2] at t2
          have d1 := getD_leaf_c c1 i
          have d2 := getD_leaf_c c2 i
          have hc := trCommon_SC ((treesOf fs).getD i .leaf) ((treesOf gs).getD i .leaf) (by omega) (by omega)
          by_cases hlt : i < (treesOf fs).length
          · exact spec_CommonForest_L0a_i1 _ _ _ _ _ _ _ (by omega) t1 t2 hc (sizeOK_one (by omega)) hn
          · exact spec_CommonForest_L0a_i2 _ _ _ _ _ _ _ (by omega) (by omega) t1 t2 hc (sizeOK_one (by omega)) hn)
        (fun a _ => spec_CommonForest_L0a_x3 _ _ _ _ (by omega) (by omega)) (max (treesOf fs).length (treesOf gs).length) 0 [] (by omega) (by simp)
      have hL := key.1
      rw [itr_map (fun i => bs (txt (comT ((treesOf fs).getD i .leaf) ((treesOf gs).getD i .leaf)))), List.nil_append] at hL
      have he : (List.range' 0 (max (treesOf fs).length (treesOf gs).length)).map (fun i => bs (txt (comT ((treesOf fs).getD i .leaf) ((treesOf gs).getD i .leaf)))) = txs ((eachL comT (treesOf fs) (treesOf gs)).map txt) := by
        simp [eachL]
      rw [he] at hL
      exact spec_CommonForest_p1 _ _ _ _ _ _ _ _ _ h1 h2 hL hT

theorem specJoinForests_SC (fs gs : List (List UInt8)) (hs : ∀ l ∈ fs, l.length ≤ 2 ^ 40) (hfl : fs.length ≤ 2 ^ 40) (hs' : ∀ l ∈ gs, l.length ≤ 2 ^ 40) (hgl : gs.length ≤ 2 ^ 40) :
    SC cfg.P i_spec_JoinForests [.s (.v (.sl .str) (txs fs)), .s (.v (.sl .str) (txs gs))] (.tup [.own t_string .str (txs (eachV joiT fs gs)), .v .bool (eachB joiT fs gs)]) [] := by
  have h1 := foGood_SC fs hs hfl
  have h2 := foGood_SC gs hs' hgl
  cases hf : isFo fs with
  | false =>
    rw [hf] at h1
    rw [eachV, eachB, show bothB fs gs = false by rw [bothB, hf]; rfl, if_neg (by simp), Bool.false_and]
    exact spec_JoinForests_p3 _ _ h1
  | true =>
    rw [hf] at h1
    cases hg : isFo gs with
    | false =>
      rw [hg] at h2
      rw [eachV, eachB, show bothB fs gs = false by rw [bothB, hg, Bool.and_false], if_neg (by simp), Bool.false_and]
      exact spec_JoinForests_p2 _ _ h1 h2
    | true =>
      rw [hg] at h2
      rw [eachV, eachB, show bothB fs gs = true by rw [bothB, hf, hg]; rfl, if_pos rfl, Bool.true_and]
      obtain ⟨e1, l1, c1⟩ := fo_facts hf
      obtain ⟨e2, l2, c2⟩ := fo_facts hg
      have m1 : (txs fs).length = (treesOf fs).length := by simp [treesOf]
      have m2 : (txs gs).length = (treesOf gs).length := by simp [treesOf]
      have hT := foIf_SC (eachL joiT (treesOf fs) (treesOf gs)) (by rw [eachL_len]; omega) (eachL_c joiT _ _ 8 8 _ (fun t u ht hu => by have := joiT_c t u; omega) c1 c2)
      have key := loop_up (P := cfg.P) (np := 2) (c := lb P_spec_JoinForests 0) (fun i (a : List ByteArray) => spec_JoinForests_L0a (txs fs) (txs gs) (i : Int) a) (fun a => spec_JoinForests_L0X1 (txs fs) (txs gs) ((max (treesOf fs).length (treesOf gs).length : Nat) : Int) false a)
        (fun i a => a ++ [bs (txt (joiT ((treesOf fs).getD i .leaf) ((treesOf gs).getD i .leaf)))]) (fun i a => a.length ≤ i) (max (treesOf fs).length (treesOf gs).length)
        (fun i a hi hI => by
          refine ⟨by simp; omega, fun e st hn => ?_⟩
          rw [← wrap_succ (by omega)] at hn
          have t1 := foTree_SC (treesOf fs) i
          have t2 := foTree_SC (treesOf gs) i
          rw [← e1] at t1
          rw [← e2] at t2
          have d1 := getD_leaf_c c1 i
          have d2 := getD_leaf_c c2 i
          have hc := trJoin_SC ((treesOf fs).getD i .leaf) ((treesOf gs).getD i .leaf) (by omega) (by omega)
          by_cases hlt : i < (treesOf fs).length
          · exact spec_JoinForests_L0a_i1 _ _ _ _ _ _ _ (by omega) t1 t2 hc (sizeOK_one (by omega)) hn
          · exact spec_JoinForests_L0a_i2 _ _ _ _ _ _ _ (by omega) (by omega) t1 t2 hc (sizeOK_one (by omega)) hn)
        (fun a _ => spec_JoinForests_L0a_x3 _ _ _ _ (by omega) (by omega)) (max (treesOf fs).length (treesOf gs).length) 0 [] (by omega) (by simp)
      have hL := key.1
      rw [itr_map (fun i => bs (txt (joiT ((treesOf fs).getD i .leaf) ((treesOf gs).getD i .leaf)))), List.nil_append] at hL
      have he : (List.range' 0 (max (treesOf fs).length (treesOf gs).length)).map (fun i => bs (txt (joiT ((treesOf fs).getD i .leaf) ((treesOf gs).getD i .leaf)))) = txs ((eachL joiT (treesOf fs) (treesOf gs)).map txt) := by
        simp [eachL]
      rw [he] at hL
      exact spec_JoinForests_p1 _ _ _ _ _ _ _ _ _ h1 h2 hL hT

end Go.AI
