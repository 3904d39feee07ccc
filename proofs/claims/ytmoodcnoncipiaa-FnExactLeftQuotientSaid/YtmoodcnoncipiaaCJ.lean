/- The laws of JoinForests and CommonForest. -/
import Derived.Test.YtmoodcnoncipiaaGP
import Derived.Test.YtmoodcnoncipiaaCQ
import Derived.Test.YtmoodcnoncipiaaCL
set_option autoImplicit false
set_option maxRecDepth 100000
set_option linter.unusedVariables false
namespace Go.AI
open Go.Proofs

def comT : Tr → Tr → Tr
  | .leaf, _ => .leaf
  | .node _ _, .leaf => .leaf
  | .node a b, .node c d => .node (comT a c) (comT b d)

def joiT : Tr → Tr → Tr
  | .leaf, u => u
  | .node a b, .leaf => .node a b
  | .node a b, .node c d => .node (joiT a c) (joiT b d)

theorem comT_c : ∀ t u : Tr, (comT t u).c ≤ t.c
  | .leaf, _ => by simp [comT]
  | .node _ _, .leaf => by simp [comT, Tr.c]
  | .node a b, .node c d => by have := comT_c a c; have := comT_c b d; simp only [comT, Tr.c]; omega

theorem joiT_c : ∀ t u : Tr, (joiT t u).c ≤ t.c + u.c
  | .leaf, _ => by simp [joiT]
  | .node _ _, .leaf => by simp [joiT]
  | .node a b, .node c d => by have := joiT_c a c; have := joiT_c b d; simp only [joiT, Tr.c]; omega

theorem common_SC : ∀ t u : Tr, SC cfg.P i_impl_common [.s (.v .tree t), .s (.v .tree u)] (.s (.v .tree (comT t u))) []
  | .leaf, u => impl_common_p1 u
  | .node a b, .leaf => impl_common_p2 a b
  | .node a b, .node c d => impl_common_p3 _ _ _ _ _ _ (common_SC a c) (common_SC b d)

theorem join_SC : ∀ t u : Tr, SC cfg.P i_impl_join [.s (.v .tree t), .s (.v .tree u)] (.s (.v .tree (joiT t u))) []
  | .leaf, u => impl_join_p1 u
  | .node a b, .leaf => impl_join_p2 a b
  | .node a b, .node c d => impl_join_p3 _ _ _ _ _ _ (join_SC a c) (join_SC b d)

theorem trOf_SC (t u : Tr) (ht : t.c ≤ 2 ^ 30) (hu : u.c ≤ 2 ^ 30) : SC cfg.P i_spec_trOf [.s (.v .str (bs (txt t))), .s (.v .str (bs (txt u)))] (.s (.v .str (bs (txt (.node t u))))) [] := by
  have h1 := txt_len t
  have h2 := txt_len u
  have s0 : ((⟨#[40]⟩ : ByteArray)).size = 1 := rfl
  have s1 : ((⟨#[41]⟩ : ByteArray)).size = 1 := rfl
  have e1 : (⟨#[40]⟩ : ByteArray) ++ bs (txt t) = bs (40 :: txt t) := by show bs [40] ++ _ = _; rw [bs_append]; rfl
  have e2 : (⟨#[40]⟩ : ByteArray) ++ bs (txt t) ++ bs (txt u) = bs (40 :: txt t ++ txt u) := by rw [e1, bs_append]
  have e3 : (⟨#[40]⟩ : ByteArray) ++ bs (txt t) ++ bs (txt u) ++ (⟨#[41]⟩ : ByteArray) = bs (txt (.node t u)) := by
    rw [e2]; show _ ++ bs [41] = _; rw [bs_append]; simp [txt]
  have := spec_trOf_p1 (bs (txt t)) (bs (txt u)) (by rw [s0, bs_size]; omega) (by rw [e1, bs_size, bs_size]; simp; omega) (by rw [e2, bs_size, s1]; simp; omega)
  rw [e3] at this
  exact this

theorem trCommon_SC : ∀ t u : Tr, t.c ≤ 50 → u.c ≤ 50 → SC cfg.P i_spec_trCommon [.s (.v .str (bs (txt t))), .s (.v .str (bs (txt u)))] (.s (.v .str (bs (txt (comT t u))))) []
  | .leaf, u, _, _ => spec_trCommon_p1 _ _ trLeaf_leaf
  | .node a b, .leaf, _, _ => spec_trCommon_p2 _ _ (trLeaf_node a b) trLeaf_leaf
  | .node a b, .node c d, h1, h2 => by
    have h1' := h1
    have h2' := h2
    simp only [Tr.c] at h1 h2
    have c1 := comT_c a c
    have c2 := comT_c b d
    exact spec_trCommon_p3 _ _ _ _ _ _ _ _ _ (trLeaf_node a b) (trLeaf_node c d) (trSides_SC a b h1') (trSides_SC c d h2') (trCommon_SC a c (by omega) (by omega)) (trCommon_SC b d (by omega) (by omega)) (trOf_SC _ _ (by omega) (by omega))

theorem trJoin_SC : ∀ t u : Tr, t.c ≤ 50 → u.c ≤ 50 → SC cfg.P i_spec_trJoin [.s (.v .str (bs (txt t))), .s (.v .str (bs (txt u)))] (.s (.v .str (bs (txt (joiT t u))))) []
  | .leaf, u, _, _ => spec_trJoin_p1 _ _ trLeaf_leaf
  | .node a b, .leaf, _, _ => spec_trJoin_p2 _ _ (trLeaf_node a b) trLeaf_leaf
  | .node a b, .node c d, h1, h2 => by
    have h1' := h1
    have h2' := h2
    simp only [Tr.c] at h1 h2
    have c1 := joiT_c a c
    have c2 := joiT_c b d
    exact spec_trJoin_p3 _ _ _ _ _ _ _ _ _ (trLeaf_node a b) (trLeaf_node c d) (trSides_SC a b h1') (trSides_SC c d h2') (trJoin_SC a c (by omega) (by omega)) (trJoin_SC b d (by omega) (by omega)) (trOf_SC _ _ (by omega) (by omega))

/-- Each tree of one forest with that of the other one. -/
def eachL (g : Tr → Tr → Tr) (ts us : List Tr) : List Tr := (List.range' 0 (max ts.length us.length)).map fun i => g (ts.getD i .leaf) (us.getD i .leaf)

theorem eachL_len (g : Tr → Tr → Tr) (ts us : List Tr) : (eachL g ts us).length = max ts.length us.length := by simp [eachL]

theorem each_SC (F : FuncId) (g : Tr → Tr → Tr) (hF : ∀ t u, SC cfg.P F [.s (.v .tree t), .s (.v .tree u)] (.s (.v .tree (g t u))) []) (ts us : List Tr) (h1 : ts.length ≤ 2 ^ 20) (h2 : us.length ≤ 2 ^ 20) :
    SC cfg.P i_impl_each [.s (.v (.sl .tree) ts), .s (.v (.sl .tree) us), .fn F [] []] (.s (.own t_pimpl_node .tree (eachL g ts us))) [] := by
  have em : maxI ((List.length ts : Nat) : Int) ((List.length us : Nat) : Int) = ((max ts.length us.length : Nat) : Int) := by
    unfold maxI; split <;> omega
  have key := loop_up (P := cfg.P) (np := 3) (c := lb P_impl_each 0) (fun i (a : List Tr) => impl_each_L0a ts us F ((max ts.length us.length : Nat) : Int) (i : Int) a) (fun a => impl_each_L0X1 ts us F ((max ts.length us.length : Nat) : Int) ((max ts.length us.length : Nat) : Int) false a)
    (fun i a => a ++ [g (ts.getD i .leaf) (us.getD i .leaf)]) (fun i a => a.length ≤ i) (max ts.length us.length)
    (fun i a hi hI => by
      refine ⟨by simp; omega, fun e st hn => ?_⟩
      rw [← wrap_succ (by omega)] at hn
      exact impl_each_L0a_i1 _ _ _ _ _ _ _ _ _ (by omega) (ftree_SC ts i) (ftree_SC us i) (hF _ _) (sizeOK_one (by omega)) hn)
    (fun a _ => impl_each_L0a_x2 _ _ _ _ _ _ (by omega)) (max ts.length us.length) 0 [] (by omega) (by simp)
  have hL := key.1
  rw [itr_map (fun i => g (ts.getD i .leaf) (us.getD i .leaf)), List.nil_append, ← em] at hL
  exact impl_each_p1 _ _ _ _ _ _ _ _ _ _ hL

theorem getD_leaf_c {ts : List Tr} {b : Nat} (h : ∀ t ∈ ts, t.c ≤ b) (i : Nat) : (ts.getD i .leaf).c ≤ b := by
  by_cases hi : i < ts.length
  · exact h _ (gD_mem hi .leaf)
  · rw [List.getD_eq_getElem?_getD, List.getElem?_eq_none (by omega)]
    simp [Tr.c]

theorem eachL_c (g : Tr → Tr → Tr) (ts us : List Tr) (b c d : Nat) (hg : ∀ t u, t.c ≤ b → u.c ≤ c → (g t u).c ≤ d) (h1 : ∀ t ∈ ts, t.c ≤ b) (h2 : ∀ t ∈ us, t.c ≤ c) : ∀ t ∈ eachL g ts us, t.c ≤ d := by
  intro t ht
  obtain ⟨i, _, rfl⟩ := List.mem_map.1 ht
  exact hg _ _ (getD_leaf_c h1 i) (getD_leaf_c h2 i)

/-- What is told of two forests. -/
def bothB (fs gs : List (List UInt8)) : Bool := isFo fs && isFo gs
def eachV (g : Tr → Tr → Tr) (fs gs : List (List UInt8)) : List (List UInt8) := if bothB fs gs = true then foTexts (eachL g (treesOf fs) (treesOf gs)) else []
def eachB (g : Tr → Tr → Tr) (fs gs : List (List UInt8)) : Bool := bothB fs gs && foOk (eachL g (treesOf fs) (treesOf gs))

theorem fo_facts {fs : List (List UInt8)} (h : isFo fs = true) : fs = (treesOf fs).map txt ∧ (treesOf fs).length ≤ 8 ∧ ∀ t ∈ treesOf fs, t.c ≤ 8 := by
  obtain ⟨h1, h2, h3, h4, h5⟩ := isFo_spec h
  have hl : (treesOf fs).length = fs.length := List.length_map ..
  exact ⟨h5, by omega, fun t ht => Nat.le_trans (c_le_sum _ t ht) h3⟩

theorem implCommon_SC (fs gs : List (List UInt8)) (hs : ∀ l ∈ fs, l.length ≤ 2 ^ 40) (hfl : fs.length ≤ 2 ^ 40) (hs' : ∀ l ∈ gs, l.length ≤ 2 ^ 40) (hgl : gs.length ≤ 2 ^ 40) :
    SC cfg.P i_impl_CommonForest [.s (.v (.sl .str) (txs fs)), .s (.v (.sl .str) (txs gs))] (.tup [.own t_string .str (txs (eachV comT fs gs)), .v .bool (eachB comT fs gs)]) [] := by
  obtain ⟨ts, us, h1, h2⟩ := twoForests_SC fs gs hs hfl hs' hgl
  cases hb : bothB fs gs with
  | false =>
    rw [show (isFo fs && isFo gs) = false from hb] at h2
    rw [eachV, eachB, hb, if_neg (by simp), Bool.false_and]
    exact impl_CommonForest_p2 _ _ _ _ h2
  | true =>
    rw [show (isFo fs && isFo gs) = true from hb] at h2
    rw [bothB, Bool.and_eq_true] at hb
    obtain ⟨rfl, rfl⟩ := h1 hb
    obtain ⟨_, l1, c1⟩ := fo_facts hb.1
    obtain ⟨_, l2, c2⟩ := fo_facts hb.2
    have hE := each_SC i_impl_common comT common_SC (treesOf fs) (treesOf gs) (by omega) (by omega)
    have hT := texts_SC (eachL comT (treesOf fs) (treesOf gs)) (by rw [eachL_len]; omega) (eachL_c comT _ _ 8 8 _ (fun t u ht hu => by have := comT_c t u; omega) c1 c2)
    rw [eachV, eachB, show bothB fs gs = true by rw [bothB, hb.1, hb.2]; rfl, if_pos rfl, Bool.true_and]
    exact impl_CommonForest_p1 _ _ _ _ _ _ _ h2 hE hT

theorem implJoin_SC (fs gs : List (List UInt8)) (hs : ∀ l ∈ fs, l.length ≤ 2 ^ 40) (hfl : fs.length ≤ 2 ^ 40) (hs' : ∀ l ∈ gs, l.length ≤ 2 ^ 40) (hgl : gs.length ≤ 2 ^ 40) :
    SC cfg.P i_impl_JoinForests [.s (.v (.sl .str) (txs fs)), .s (.v (.sl .str) (txs gs))] (.tup [.own t_string .str (txs (eachV joiT fs gs)), .v .bool (eachB joiT fs gs)]) [] := by
  obtain ⟨ts, us, h1, h2⟩ := twoForests_SC fs gs hs hfl hs' hgl
  cases hb : bothB fs gs with
  | false =>
    rw [show (isFo fs && isFo gs) = false from hb] at h2
    rw [eachV, eachB, hb, if_neg (by simp), Bool.false_and]
    exact impl_JoinForests_p2 _ _ _ _ h2
  | true =>
    rw [show (isFo fs && isFo gs) = true from hb] at h2
    rw [bothB, Bool.and_eq_true] at hb
    obtain ⟨rfl, rfl⟩ := h1 hb
    obtain ⟨_, l1, c1⟩ := fo_facts hb.1
    obtain ⟨_, l2, c2⟩ := fo_facts hb.2
    have hE := each_SC i_impl_join joiT join_SC (treesOf fs) (treesOf gs) (by omega) (by omega)
    have hT := texts_SC (eachL joiT (treesOf fs) (treesOf gs)) (by rw [eachL_len]; omega) (eachL_c joiT _ _ 8 8 _ (fun t u ht hu => by have := joiT_c t u; omega) c1 c2)
    rw [eachV, eachB, show bothB fs gs = true by rw [bothB, hb.1, hb.2]; rfl, if_pos rfl, Bool.true_and]
    exact impl_JoinForests_p1 _ _ _ _ _ _ _ h2 hE hT

theorem specCommonForest_SC (fs gs : List (List UInt8)) (hs : ∀ l ∈ fs, l.length ≤ 2 ^ 40) (hfl : fs.length ≤ 2 ^ 40) (hs' : ∀ l ∈ gs, l.length ≤ 2 ^ 40) (hgl : gs.length ≤ 2 ^ 40) :
    SC cfg.P i_spec_CommonForest [.s (.v (.sl .str) (txs fs)), .s (.v (.sl .str) (txs gs))] (.tup [.own t_string .str (txs (eachV comT fs gs)), .v .bool (eachB comT fs gs)]) [] := by
  have h1 := foGood_SC fs hs hfl
  have h2 := foGood_SC gs hs' hgl
  cases hf : isFo fs with
  | false =>
    rw [hf] at h1
    rw [eachV, eachB, show bothB fs gs = false by rw [bothB, hf]; rfl, if_neg (by simp), Bool.false_and]
    exact spec_CommonForest_p3 _ _ h1
  | true =>
    rw [hf] at h1
    cases hg : isFo gs with
    | false =>
      rw [hg] at h2
      rw [eachV, eachB, show bothB fs gs = false by rw [bothB, hg, Bool.and_false], if_neg (by simp), Bool.false_and]
      exact spec_CommonForest_p2 _ _ h1 h2
    | true =>
      rw [hg] at h2
      rw [eachV, eachB, show bothB fs gs = true by rw [bothB, hf, hg]; rfl, if_pos rfl, Bool.true_and]
      obtain ⟨e1, l1, c1⟩ := fo_facts hf
      obtain ⟨e2, l2, c2⟩ := fo_facts hg
      have m1 : (txs fs).length = (treesOf fs).length := by simp [treesOf]
      have m2 : (txs gs).length = (treesOf gs).length := by simp [treesOf]
      have hT := foIf_SC (eachL comT (treesOf fs) (treesOf gs)) (by rw [eachL_len]; omega) (eachL_c comT _ _ 8 8 _ (fun t u ht hu => by have := comT_c t u; omega) c1 c2)
      have key := loop_up (P := cfg.P) (np := 2) (c := lb P_spec_CommonForest 0) (fun i (a : List ByteArray) => spec_CommonForest_L0a (txs fs) (txs gs) (i : Int) a) (fun a => spec_CommonForest_L0X1 (txs fs) (txs gs) ((max (treesOf fs).length (treesOf gs).length : Nat) : Int) false a)
        (fun i a => a ++ [bs (txt (comT ((treesOf fs).getD i .leaf) ((treesOf gs).getD i .leaf)))]) (fun i a => a.length ≤ i) (max (treesOf fs).length (treesOf gs).length)
        (fun i a hi hI => by
          refine ⟨by simp; omega, fun e st hn => ?_⟩
          rw [← wrap_succ (by omega)] at hn
          have t1 := foTree_SC (treesOf fs) i
          have t2 := foTree_SC (treesOf gs) i
          rw [← e1] at t1
          rw [← e2] at t2
          have d1 := getD_leaf_c c1 i
          have d2 := getD_leaf_c c2 i
          have hc := trCommon_SC ((treesOf fs).getD i .leaf) ((treesOf gs).getD i .leaf) (by omega) (by omega)
          by_cases hlt : i < (treesOf fs).length
          · exact spec_CommonForest_L0a_i1 _ _ _ _ _ _ _ (by omega) t1 t2 hc (sizeOK_one (by omega)) hn
          · exact spec_CommonForest_L0a_i2 _ _ _ _ _ _ _ (by omega) (by omega) t1 t2 hc (sizeOK_one (by omega)) hn)
        (fun a _ => spec_CommonForest_L0a_x3 _ _ _ _ (by omega) (by omega)) (max (treesOf fs).length (treesOf gs).length) 0 [] (by omega) (by simp)
      have hL := key.1
      rw [itr_map (fun i => bs (txt (comT ((treesOf fs).getD i .leaf) ((treesOf gs).getD i .leaf)))), List.nil_append] at hL
      have he : (List.range' 0 (max (treesOf fs).length (treesOf gs).length)).map (fun i => bs (txt (comT ((treesOf fs).getD i .leaf) ((treesOf gs).getD i .leaf)))) = txs ((eachL comT (treesOf fs) (treesOf gs)).map txt) := by
        simp [eachL]
      rw [he] at hL
      exact spec_CommonForest_p1 _ _ _ _ _ _ _ _ _ h1 h2 hL hT

theorem specJoinForests_SC (fs gs : List (List UInt8)) (hs : ∀ l ∈ fs, l.length ≤ 2 ^ 40) (hfl : fs.length ≤ 2 ^ 40) (hs' : ∀ l ∈ gs, l.length ≤ 2 ^ 40) (hgl : gs.length ≤ 2 ^ 40) :
    SC cfg.P i_spec_JoinForests [.s (.v (.sl .str) (txs fs)), .s (.v (.sl .str) (txs gs))] (.tup [.own t_string .str (txs (eachV joiT fs gs)), .v .bool (eachB joiT fs gs)]) [] := by
  have h1 := foGood_SC fs hs hfl
  have h2 := foGood_SC gs hs' hgl
  cases hf : isFo fs with
  | false =>
    rw [hf] at h1
    rw [eachV, eachB, show bothB fs gs = false by rw [bothB, hf]; rfl, if_neg (by simp), Bool.false_and]
    exact spec_JoinForests_p3 _ _ h1
  | true =>
    rw [hf] at h1
    cases hg : isFo gs with
    | false =>
      rw [hg] at h2
      rw [eachV, eachB, show bothB fs gs = false by rw [bothB, hg, Bool.and_false], if_neg (by simp), Bool.false_and]
      exact spec_JoinForests_p2 _ _ h1 h2
    | true =>
      rw [hg] at h2
      rw [eachV, eachB, show bothB fs gs = true by rw [bothB, hf, hg]; rfl, if_pos rfl, Bool.true_and]
      obtain ⟨e1, l1, c1⟩ := fo_facts hf
      obtain ⟨e2, l2, c2⟩ := fo_facts hg
      have m1 : (txs fs).length = (treesOf fs).length := by simp [treesOf]
      have m2 : (txs gs).length = (treesOf gs).length := by simp [treesOf]
      have hT := foIf_SC (eachL joiT (treesOf fs) (treesOf gs)) (by rw [eachL_len]; omega) (eachL_c joiT _ _ 8 8 _ (fun t u ht hu => by have := joiT_c t u; omega) c1 c2)
      have key := loop_up (P := cfg.P) (np := 2) (c := lb P_spec_JoinForests 0) (fun i (a : List ByteArray) => spec_JoinForests_L0a (txs fs) (txs gs) (i : Int) a) (fun a => spec_JoinForests_L0X1 (txs fs) (txs gs) ((max (treesOf fs).length (treesOf gs).length : Nat) : Int) false a)
        (fun i a => a ++ [bs (txt (joiT ((treesOf fs).getD i .leaf) ((treesOf gs).getD i .leaf)))]) (fun i a => a.length ≤ i) (max (treesOf fs).length (treesOf gs).length)
        (fun i a hi hI => by
          refine ⟨by simp; omega, fun e st hn => ?_⟩
          rw [← wrap_succ (by omega)] at hn
          have t1 := foTree_SC (treesOf fs) i
          have t2 := foTree_SC (treesOf gs) i
          rw [← e1] at t1
          rw [← e2] at t2
          have d1 := getD_leaf_c c1 i
          have d2 := getD_leaf_c c2 i
          have hc := trJoin_SC ((treesOf fs).getD i .leaf) ((treesOf gs).getD i .leaf) (by omega) (by omega)
          by_cases hlt : i < (treesOf fs).length
          · exact spec_JoinForests_L0a_i1 _ _ _ _ _ _ _ (by omega) t1 t2 hc (sizeOK_one (by omega)) hn
          · exact spec_JoinForests_L0a_i2 _ _ _ _ _ _ _ (by omega) (by omega) t1 t2 hc (sizeOK_one (by omega)) hn)
        (fun a _ => spec_JoinForests_L0a_x3 _ _ _ _ (by omega) (by omega)) (max (treesOf fs).length (treesOf gs).length) 0 [] (by omega) (by simp)
      have hL := key.1
      rw [itr_map (fun i => bs (txt (joiT ((treesOf fs).getD i .leaf) ((treesOf gs).getD i .leaf)))), List.nil_append] at hL
      have he : (List.range' 0 (max (treesOf fs).length (treesOf gs).length)).map (fun i => bs (txt (joiT ((treesOf fs).getD i .leaf) ((treesOf gs).getD i .leaf)))) = txs ((eachL joiT (treesOf fs) (treesOf gs)).map txt) := by
        simp [eachL]
      rw [he] at hL
      exact spec_JoinForests_p1 _ _ _ _ _ _ _ _ _ h1 h2 hL hT

theorem foTexts_len (ts : List Tr) : (foTexts ts).length ≤ 8 := by
  unfold foTexts
  split
  · rename_i h; rw [List.length_map]; exact h.1
  · simp

/-- The law of CommonForest. -/
theorem law_CommonForest (x y : List ByteArray) (hx : x.length ≤ 2 ^ 63 - 1) (hxs : ∀ a ∈ x, a.size ≤ 2 ^ 63 - 1) (hy : y.length ≤ 2 ^ 63 - 1) (hys : ∀ a ∈ y, a.size ≤ 2 ^ 63 - 1) :
    SC cfg.P i_laws_FnExactCommonForest [.s (.v (.sl .str) x), .s (.v (.sl .str) y)] (.s (.v .bool true)) [] := by
  obtain ⟨fs, rfl⟩ := txs_ex x
  obtain ⟨gs, rfl⟩ := txs_ex y
  have hsz : ∀ (l : List (List UInt8)), (∀ a ∈ txs l, a.size ≤ 2 ^ 63 - 1) → ∀ a ∈ l, a.length ≤ 2 ^ 63 - 1 := fun l h a ha => h (bs a) (List.mem_map.2 ⟨a, ha, rfl⟩)
  have l1 : (txs fs).length = fs.length := List.length_map ..
  have l2 : (txs gs).length = gs.length := List.length_map ..
  rcases szStringS_SC fs (by omega) (hsz fs hxs) 1048576 (by omega) (by omega) with ⟨c, g1, g2, g3, g4, s1⟩ | s1
  · rcases szStringS_SC gs (by omega) (hsz gs hys) c g1 (by omega) with ⟨c', k1, k2, k3, k4, s2⟩ | s2
    · have hs : ∀ l ∈ fs, l.length ≤ 2 ^ 40 := fun l hl => by have := g4 l hl; omega
      have hs' : ∀ l ∈ gs, l.length ≤ 2 ^ 40 := fun l hl => by have := k4 l hl; omega
      have t1 := toStringS_SC (txs fs) (by omega)
      have t2 := toStringS_SC (txs gs) (by omega)
      have e1 := eqStringS_SC (txs fs) (by omega)
      have e2 := eqStringS_SC (txs gs) (by omega)
      have hS := specCommonForest_SC fs gs hs (by omega) hs' (by omega)
      have hI := implCommon_SC fs gs hs (by omega) hs' (by omega)
      have hv : (txs (eachV comT fs gs)).length ≤ 8 := by
        rw [List.length_map, eachV]
        split
        · exact foTexts_len _
        · simp
      have e3 := eqStringS_SC (txs (eachV comT fs gs)) (by omega)
      have m1 := markStringS_SC (txs fs) (by omega) 1 (by omega) (by omega)
      have m2 := markStringS_SC (txs gs) (by omega) (1 + (txs fs).length) (by omega) (by omega)
      have m3 := markStringS_SC (txs (eachV comT fs gs)) (by omega) 1 (by omega) (by omega)
      have h3 := heldStringS_SC 1 (txs (eachV comT fs gs)).length (by omega) (by omega) (by omega)
      exact laws_FnExactCommonForest_p3 _ _ _ _ _ _ _ _ _ _ _ _ _ _ _ _ _ _ _ _ _ _ _ _ _ _ s1 (by omega) s2 (by omega) t1 t2 hS t1 t2 hI e3 (by simp) t1 e1 t2 e2 m1 m2 (by omega) m3 h3 (by omega) rfl t1 t2 hI e3 (by simp) h3 (by omega) rfl
    · exact laws_FnExactCommonForest_p2 _ _ _ _ s1 (by omega) s2 (by omega)
  · exact laws_FnExactCommonForest_p1 _ _ _ s1 (by omega)

/-- The law of JoinForests. -/
theorem law_JoinForests (x y : List ByteArray) (hx : x.length ≤ 2 ^ 63 - 1) (hxs : ∀ a ∈ x, a.size ≤ 2 ^ 63 - 1) (hy : y.length ≤ 2 ^ 63 - 1) (hys : ∀ a ∈ y, a.size ≤ 2 ^ 63 - 1) :
    SC cfg.P i_laws_FnExactJoinForests [.s (.v (.sl .str) x), .s (.v (.sl .str) y)] (.s (.v .bool true)) [] := by
  obtain ⟨fs, rfl⟩ := txs_ex x
  obtain ⟨gs, rfl⟩ := txs_ex y
  have hsz : ∀ (l : List (List UInt8)), (∀ a ∈ txs l, a.size ≤ 2 ^ 63 - 1) → ∀ a ∈ l, a.length ≤ 2 ^ 63 - 1 := fun l h a ha => h (bs a) (List.mem_map.2 ⟨a, ha, rfl⟩)
  have l1 : (txs fs).length = fs.length := List.length_map ..
  have l2 : (txs gs).length = gs.length := List.length_map ..
  rcases szStringS_SC fs (by omega) (hsz fs hxs) 1048576 (by omega) (by omega) with ⟨c, g1, g2, g3, g4, s1⟩ | s1
  · rcases szStringS_SC gs (by omega) (hsz gs hys) c g1 (by omega) with ⟨c', k1, k2, k3, k4, s2⟩ | s2
    · have hs : ∀ l ∈ fs, l.length ≤ 2 ^ 40 := fun l hl => by have := g4 l hl; omega
      have hs' : ∀ l ∈ gs, l.length ≤ 2 ^ 40 := fun l hl => by have := k4 l hl; omega
      have t1 := toStringS_SC (txs fs) (by omega)
      have t2 := toStringS_SC (txs gs) (by omega)
      have e1 := eqStringS_SC (txs fs) (by omega)
      have e2 := eqStringS_SC (txs gs) (by omega)
      have hS := specJoinForests_SC fs gs hs (by omega) hs' (by omega)
      have hI := implJoin_SC fs gs hs (by omega) hs' (by omega)
      have hv : (txs (eachV joiT fs gs)).length ≤ 8 := by
        rw [List.length_map, eachV]
        split
        · exact foTexts_len _
        · simp
      have e3 := eqStringS_SC (txs (eachV joiT fs gs)) (by omega)
      have m1 := markStringS_SC (txs fs) (by omega) 1 (by omega) (by omega)
      have m2 := markStringS_SC (txs gs) (by omega) (1 + (txs fs).length) (by omega) (by omega)
      have m3 := markStringS_SC (txs (eachV joiT fs gs)) (by omega) 1 (by omega) (by omega)
      have h3 := heldStringS_SC 1 (txs (eachV joiT fs gs)).length (by omega) (by omega) (by omega)
      exact laws_FnExactJoinForests_p3 _ _ _ _ _ _ _ _ _ _ _ _ _ _ _ _ _ _ _ _ _ _ _ _ _ _ s1 (by omega) s2 (by omega) t1 t2 hS t1 t2 hI e3 (by simp) t1 e1 t2 e2 m1 m2 (by omega) m3 h3 (by omega) rfl t1 t2 hI e3 (by simp) h3 (by omega) rfl
    · exact laws_FnExactJoinForests_p2 _ _ _ _ s1 (by omega) s2 (by omega)
  · exact laws_FnExactJoinForests_p1 _ _ _ s1 (by omega)

end Go.AI
