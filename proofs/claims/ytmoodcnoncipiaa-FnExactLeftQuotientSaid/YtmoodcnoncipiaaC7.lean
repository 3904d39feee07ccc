/- The law of LeftQuotient. -/
import Derived.Test.YtmoodcnoncipiaaGU
import Derived.Test.YtmoodcnoncipiaaCJ
import Derived.Test.YtmoodcnoncipiaaCF
set_option autoImplicit false
set_option maxRecDepth 100000
set_option linter.unusedVariables false
namespace Go.AI
open Go.Proofs

def partB : Tr → Tr → Bool
  | .leaf, _ => true
  | .node _ _, .leaf => false
  | .node a b, .node c d => partB a c && partB b d

theorem joiT_eq : ∀ t u : Tr, joiT t u = u ↔ partB t u = true
  | .leaf, u => by simp [joiT, partB]
  | .node a b, .leaf => by simp [joiT, partB]
  | .node a b, .node c d => by
    have h1 := joiT_eq a c
    have h2 := joiT_eq b d
    simp only [joiT, partB, Tr.node.injEq, h1, h2, Bool.and_eq_true]

theorem isPart_SC : ∀ t u : Tr, SC cfg.P i_impl_isPart [.s (.v .tree t), .s (.v .tree u)] (.s (.v .bool (partB t u))) []
  | .leaf, u => impl_isPart_p1 u
  | .node a b, .leaf => impl_isPart_p2 a b
  | .node a b, .node c d => by
    have h1 := isPart_SC a c
    have h2 := isPart_SC b d
    rw [partB]
    cases h : partB a c with
    | true => rw [h] at h1; rw [Bool.true_and]; exact impl_isPart_p3 _ _ _ _ _ h1 h2
    | false => rw [h] at h1; rw [Bool.false_and]; exact impl_isPart_p4 _ _ _ _ h1

/-- What stands at an address. -/
def atR : Tr → List UInt8 → Tr
  | t, [] => t
  | .leaf, _ :: _ => .leaf
  | .node l r, c :: s => if c = 48 then atR l s else if c = 49 then atR r s else .leaf

theorem at_L (l : List UInt8) (hl : l.length ≤ 2 ^ 30) : ∀ (m i : Nat) (t : Tr), l.length - i = m → i ≤ l.length →
    (∃ b, LoopSC cfg.P 2 (lb P_impl_node_at 0) (impl_node_at_L0a t (bs l) ((bs l).size : Int) (i : Int)) .ret (impl_node_at_L0X1 (atR t (l.drop i)) b)) ∨
    LoopSC cfg.P 2 (lb P_impl_node_at 0) (impl_node_at_L0a t (bs l) ((bs l).size : Int) (i : Int)) (.exit 0) (impl_node_at_L0X2 (atR t (l.drop i)) (bs l) ((bs l).size : Int) (l.length : Int) false) := by
  intro m
  induction m with
  | zero =>
    intro i t hm hi
    have e : i = l.length := by omega
    subst e
    rw [List.drop_length]
    have : atR t [] = t := by cases t <;> rfl
    rw [this]
    exact .inr (impl_node_at_L0a_x5 _ _ _ _ (by rw [bs_size]; omega))
  | succ m ih =>
    intro i t hm hi
    have hi1 : i < l.length := by omega
    have hd : l.drop i = l[i] :: l.drop (i + 1) := List.drop_eq_getElem_cons hi1
    have hg : bt (bs l) (i : Int) = (l[i].toNat : Int) := by rw [bs_bt, Int.toNat_natCast, List.getD_eq_getElem?_getD, List.getElem?_eq_getElem hi1]; rfl
    have ew := wrap_succ (i := i) (by omega)
    rw [hd]
    cases t with
    | leaf => exact .inl ⟨false, impl_node_at_L0a_x1 _ _ _ (by rw [bs_size]; omega)⟩
    | node a b =>
      rw [atR]
      by_cases h0 : l[i] = 48
      · rw [if_pos h0]
        rcases ih (i + 1) a (by omega) (by omega) with ⟨b', hn⟩ | hn
        · rw [← ew] at hn
          exact .inl ⟨b', impl_node_at_L0a_i2 _ _ _ _ _ (by rw [bs_size]; omega) (by omega) (by rw [bs_size]; omega) (by rw [hg, h0]; rfl) hn⟩
        · rw [← ew] at hn
          exact .inr (impl_node_at_L0a_i2 _ _ _ _ _ (by rw [bs_size]; omega) (by omega) (by rw [bs_size]; omega) (by rw [hg, h0]; rfl) hn)
      · rw [if_neg h0]
        have hne : bt (bs l) (i : Int) ≠ 48 := by rw [hg]; intro e; exact h0 ((byte_eq _ 48).1 e)
        by_cases h1 : l[i] = 49
        · rw [if_pos h1]
          rcases ih (i + 1) b (by omega) (by omega) with ⟨b', hn⟩ | hn
          · rw [← ew] at hn
            exact .inl ⟨b', impl_node_at_L0a_i3 _ _ _ _ _ (by rw [bs_size]; omega) (by omega) (by rw [bs_size]; omega) hne (by rw [hg, h1]; rfl) hn⟩
          · rw [← ew] at hn
            exact .inr (impl_node_at_L0a_i3 _ _ _ _ _ (by rw [bs_size]; omega) (by omega) (by rw [bs_size]; omega) hne (by rw [hg, h1]; rfl) hn)
        · rw [if_neg h1]
          exact .inl ⟨false, impl_node_at_L0a_x4 _ _ _ _ _ (by rw [bs_size]; omega) (by omega) (by rw [bs_size]; omega) hne (by rw [hg]; intro e; exact h1 ((byte_eq _ 49).1 e))⟩

theorem at_SC (t : Tr) (l : List UInt8) (hl : l.length ≤ 2 ^ 30) : ∃ b, SC cfg.P i_impl_node_at [.s (.v .tree t), .s (.v .str (bs l))] (.tup [.v .tree (atR t l), .v .bool b]) [] := by
  rcases at_L l hl _ 0 t rfl (by omega) with ⟨b, h⟩ | h
  · rw [List.drop_zero] at h
    exact ⟨b, impl_node_at_p1 _ _ _ _ h⟩
  · rw [List.drop_zero] at h
    exact ⟨true, impl_node_at_p2 _ _ _ _ _ _ _ h⟩

/-- What hangs at the leaves of a part. -/
def partsT : Tr → Tr → List Tr
  | .leaf, u => [u]
  | .node a b, .node c d => partsT a c ++ partsT b d
  | .node _ _, .leaf => []

theorem partsT_len : ∀ t u : Tr, partB t u = true → (partsT t u).length = t.c + 1
  | .leaf, u, _ => rfl
  | .node a b, .leaf, h => by simp [partB] at h
  | .node a b, .node c d, h => by
    simp only [partB, Bool.and_eq_true] at h
    simp only [partsT, List.length_append, partsT_len a c h.1, partsT_len b d h.2, Tr.c]
    omega

theorem partsT_c : ∀ t u : Tr, ∀ x ∈ partsT t u, x.c ≤ u.c
  | .leaf, u, x, h => by simp [partsT] at h; rw [h]; exact Nat.le_refl _
  | .node a b, .leaf, x, h => by simp [partsT] at h
  | .node a b, .node c d, x, h => by
    simp only [partsT] at h
    simp only [Tr.c]
    rcases List.mem_append.1 h with h | h
    · have := partsT_c a c x h; omega
    · have := partsT_c b d x h; omega

theorem atR_snoc : ∀ (u : Tr) (p : List UInt8) (c d : Tr), atR u p = .node c d → atR u (p ++ [48]) = c ∧ atR u (p ++ [49]) = d
  | u, [], c, d, h => by
    have : atR u [] = u := by cases u <;> rfl
    rw [this] at h
    subst h
    have h1 : atR c [] = c := by cases c <;> rfl
    have h2 : atR d [] = d := by cases d <;> rfl
    simp [atR, h1, h2]
  | .leaf, x :: p, c, d, h => by simp [atR] at h
  | .node a b, x :: p, c, d, h => by
    rw [List.cons_append, List.cons_append, atR, atR]
    rw [atR] at h
    by_cases h0 : x = 48
    · rw [if_pos h0] at h; rw [if_pos h0, if_pos h0]; exact atR_snoc a p c d h
    · rw [if_neg h0] at h; rw [if_neg h0, if_neg h0]
      by_cases h1 : x = 49
      · rw [if_pos h1] at h; rw [if_pos h1, if_pos h1]; exact atR_snoc b p c d h
      · rw [if_neg h1] at h; cases h

theorem at_parts : ∀ (t u w : Tr) (p : List UInt8), partB t u = true → atR w p = u → (adL t p).map (atR w) = partsT t u
  | .leaf, u, w, p, _, h => by simp [adL, partsT, h]
  | .node a b, .leaf, w, p, h, _ => by simp [partB] at h
  | .node a b, .node c d, w, p, h, hw => by
    simp only [partB, Bool.and_eq_true] at h
    obtain ⟨h1, h2⟩ := atR_snoc w p c d hw
    simp only [adL, List.map_append, partsT, at_parts a c w _ h.1 h1, at_parts b d w _ h.2 h2]

theorem prParts_SC : ∀ t u : Tr, t.c ≤ 50 → u.c ≤ 50 → partB t u = true → SC cfg.P i_spec_prParts [.s (.v .str (bs (txt t))), .s (.v .str (bs (txt u)))] (.s (.own t_string .str (txs ((partsT t u).map txt)))) []
  | .leaf, u, _, _, _ => spec_prParts_p1 _ _ trLeaf_leaf
  | .node a b, .leaf, _, _, h => by simp [partB] at h
  | .node a b, .node c d, h1, h2, h => by
    have h1' := h1
    have h2' := h2
    simp only [Tr.c] at h1 h2
    simp only [partB, Bool.and_eq_true] at h
    have l1 := partsT_len a c h.1
    have l2 := partsT_len b d h.2
    have e : txs ((partsT (.node a b) (.node c d)).map txt) = txs ((partsT a c).map txt) ++ txs ((partsT b d).map txt) := by simp [partsT]
    rw [e]
    exact spec_prParts_p2 _ _ _ _ _ _ _ _ (trLeaf_node a b) (trSides_SC a b h1') (trSides_SC c d h2') (prParts_SC a c (by omega) (by omega) h.1) (prParts_SC b d (by omega) (by omega) h.2) (by unfold sizeOK lim; simp; omega)

theorem itr_flat {β : Type} (g : Nat → List β) : ∀ (m i : Nat) (cur : List β), itr (fun i cur => cur ++ g i) i m cur = cur ++ (List.range' i m).flatMap g
  | 0, i, cur => by simp [itr]
  | m + 1, i, cur => by
    rw [itr, itr_flat g m (i + 1), List.range'_succ, List.flatMap_cons, List.append_assoc]

/-- Is each tree part of the other forest's? -/
def fpart (ts us : List Tr) : Bool := (List.range' 0 ts.length).all fun i => partB (ts.getD i .leaf) (us.getD i .leaf)

theorem fpart_all {ts us : List Tr} (h : fpart ts us = true) (i : Nat) : partB (ts.getD i .leaf) (us.getD i .leaf) = true := by
  by_cases hi : i < ts.length
  · exact List.all_eq_true.1 h i (by rw [List.mem_range'_1]; omega)
  · rw [List.getD_eq_getElem?_getD, List.getElem?_eq_none (by omega)]
    rfl

theorem isPartOf_SC (ts us : List Tr) (h : ts.length ≤ 2 ^ 20) : SC cfg.P i_impl_isPartOf [.s (.v (.sl .tree) ts), .s (.v (.sl .tree) us)] (.s (.v .bool (fpart ts us))) [] := by
  have key := loop_ret (P := cfg.P) (np := 2) (c := lb P_impl_isPartOf 0) (fun i (a : Unit) => impl_isPartOf_L0a us ts ((List.length ts : Nat) : Int) (i : Int)) (fun a => impl_isPartOf_L0X2 us ts ((List.length ts : Nat) : Int) (ts.length : Int) false) (impl_isPartOf_L0X1 false)
    (fun i a => a) (fun i a => True) (fun i => partB (ts.getD i .leaf) (us.getD i .leaf)) ts.length
    (fun i a hi hI hp => by
      refine ⟨trivial, fun e st hn => ?_⟩
      have hq := isPart_SC (ts.getD i .leaf) (us.getD i .leaf)
      rw [hp] at hq
      rw [← wrap_succ (by omega)] at hn
      exact impl_isPartOf_L0a_i1 _ _ _ _ _ (by omega) (by omega) (by omega) (ftree_SC us i) hq hn)
    (fun i a hi hI hp => by
      have hq := isPart_SC (ts.getD i .leaf) (us.getD i .leaf)
      rw [hp] at hq
      exact impl_isPartOf_L0a_x2 _ _ _ _ _ (by omega) (by omega) (by omega) (ftree_SC us i) hq)
    (fun a _ => impl_isPartOf_L0a_x3 _ _ _ _ (by omega)) ts.length 0 () (by omega) trivial
  cases hf : fpart ts us with
  | true => exact impl_isPartOf_p2 _ _ _ _ _ _ _ (key.1 hf)
  | false => exact impl_isPartOf_p1 _ _ _ (key.2 hf)

theorem foPart_SC (ts us : List Tr) (h : ts.length ≤ 2 ^ 20) (h1 : ∀ t ∈ ts, t.c ≤ 20) (h2 : ∀ t ∈ us, t.c ≤ 20) : SC cfg.P i_spec_foPart [.s (.v (.sl .str) (txs (ts.map txt))), .s (.v (.sl .str) (txs (us.map txt)))] (.s (.v .bool (fpart ts us))) [] := by
  have m1 : (txs (ts.map txt)).length = ts.length := by simp
  have hget : ∀ i, i < ts.length → List.getD (txs (ts.map txt)) ((i : Int)).toNat (⟨#[]⟩ : ByteArray) = bs (txt (ts.getD i .leaf)) := fun i hi => by
    rw [Int.toNat_natCast, txs, List.map_map, gD_map (bs ∘ txt) ts i hi .leaf]; rfl
  have key := loop_ret (P := cfg.P) (np := 2) (c := lb P_spec_foPart 0) (fun i (a : Unit) => spec_foPart_L0a (txs (us.map txt)) (txs (ts.map txt)) ((List.length (txs (ts.map txt)) : Nat) : Int) (i : Int)) (fun a => spec_foPart_L0X2 (txs (us.map txt)) (txs (ts.map txt)) ((List.length (txs (ts.map txt)) : Nat) : Int) (ts.length : Int) false) (spec_foPart_L0X1 false)
    (fun i a => a) (fun i a => True) (fun i => partB (ts.getD i .leaf) (us.getD i .leaf)) ts.length
    (fun i a hi hI hp => by
      refine ⟨trivial, fun e st hn => ?_⟩
      have hq := trJoin_SC (ts.getD i .leaf) (us.getD i .leaf) (by have := getD_leaf_c h1 i; omega) (by have := getD_leaf_c h2 i; omega)
      rw [(joiT_eq _ _).2 hp, ← hget i hi] at hq
      rw [← wrap_succ (by omega)] at hn
      exact spec_foPart_L0a_i2 _ _ _ _ _ _ _ (by omega) (by omega) (by omega) (foTree_SC us i) hq (foTree_SC us i) rfl hn)
    (fun i a hi hI hp => by
      have hq := trJoin_SC (ts.getD i .leaf) (us.getD i .leaf) (by have := getD_leaf_c h1 i; omega) (by have := getD_leaf_c h2 i; omega)
      rw [← hget i hi] at hq
      exact spec_foPart_L0a_x1 _ _ _ _ _ _ _ (by omega) (by omega) (by omega) (foTree_SC us i) hq (foTree_SC us i) (by
        rw [Ne, bs_inj]
        intro e
        have e' := (txt_inj (joiT (ts.getD i .leaf) (us.getD i .leaf)) (us.getD i .leaf) [] [] (by rw [List.append_nil, List.append_nil]; exact e)).1
        rw [(joiT_eq _ _).1 e'] at hp
        cases hp))
    (fun a _ => spec_foPart_L0a_x3 _ _ _ _ (by omega)) ts.length 0 () (by omega) trivial
  cases hf : fpart ts us with
  | true => exact spec_foPart_p2 _ _ _ _ _ _ _ (key.1 hf)
  | false => exact spec_foPart_p1 _ _ _ (key.2 hf)

/-- What is left of a forest behind a part of it. -/
def quoL (ts us : List Tr) : List Tr := (List.range' 0 (max ts.length us.length)).flatMap fun i => partsT (ts.getD i .leaf) (us.getD i .leaf)

theorem flat_len {α : Type} (g : Nat → List α) (b : Nat) (h : ∀ i, (g i).length ≤ b) : ∀ m i, ((List.range' i m).flatMap g).length ≤ m * b
  | 0, i => by simp
  | m + 1, i => by
    rw [List.range'_succ, List.flatMap_cons, List.length_append, Nat.add_mul, Nat.one_mul]
    have := flat_len g b h m (i + 1)
    have := h i
    omega

def quoG (fs gs : List (List UInt8)) : Bool := (isFo fs && isFo gs) && fpart (treesOf fs) (treesOf gs)
def quoV (fs gs : List (List UInt8)) : List (List UInt8) := if quoG fs gs = true then foTexts (quoL (treesOf fs) (treesOf gs)) else []
def quoB (fs gs : List (List UInt8)) : Bool := quoG fs gs && foOk (quoL (treesOf fs) (treesOf gs))

section
variable {fs gs : List (List UInt8)}

theorem quo_bounds (l1 : (treesOf fs).length ≤ 8) (l2 : (treesOf gs).length ≤ 8) (c1 : ∀ t ∈ treesOf fs, t.c ≤ 8) (c2 : ∀ t ∈ treesOf gs, t.c ≤ 8) (hp : fpart (treesOf fs) (treesOf gs) = true) :
    (quoL (treesOf fs) (treesOf gs)).length ≤ 2 ^ 20 ∧ ∀ t ∈ quoL (treesOf fs) (treesOf gs), t.c ≤ 2 ^ 20 := by
  constructor
  · have := flat_len (fun i => partsT ((treesOf fs).getD i .leaf) ((treesOf gs).getD i .leaf)) 9 (fun i => by
      rw [partsT_len _ _ (fpart_all hp i)]
      have := getD_leaf_c c1 i
      omega) (max (treesOf fs).length (treesOf gs).length) 0
    show ((List.range' 0 (max (treesOf fs).length (treesOf gs).length)).flatMap _).length ≤ _
    omega
  · intro t ht
    obtain ⟨i, _, hi⟩ := List.mem_flatMap.1 ht
    have := partsT_c _ _ t hi
    have := getD_leaf_c c2 i
    omega
end

theorem implQuo_SC (fs gs : List (List UInt8)) (hs : ∀ l ∈ fs, l.length ≤ 2 ^ 40) (hfl : fs.length ≤ 2 ^ 40) (hs' : ∀ l ∈ gs, l.length ≤ 2 ^ 40) (hgl : gs.length ≤ 2 ^ 40) :
    SC cfg.P i_impl_LeftQuotient [.s (.v (.sl .str) (txs fs)), .s (.v (.sl .str) (txs gs))] (.tup [.own t_string .str (txs (quoV fs gs)), .v .bool (quoB fs gs)]) [] := by
  obtain ⟨ts, us, h1, h2⟩ := twoForests_SC fs gs hs hfl hs' hgl
  cases hb : (isFo fs && isFo gs) with
  | false =>
    rw [hb] at h2
    have hq : quoG fs gs = false := by rw [quoG, hb, Bool.false_and]
    rw [quoV, quoB, hq, if_neg (by simp), Bool.false_and]
    exact impl_LeftQuotient_p3 _ _ _ _ h2
  | true =>
    rw [hb] at h2
    have hb' := Bool.and_eq_true_iff.1 hb
    obtain ⟨rfl, rfl⟩ := h1 hb'
    obtain ⟨_, l1, c1⟩ := fo_facts hb'.1
    obtain ⟨_, l2, c2⟩ := fo_facts hb'.2
    have hP := isPartOf_SC (treesOf fs) (treesOf gs) (by omega)
    cases hp : fpart (treesOf fs) (treesOf gs) with
    | false =>
      rw [hp] at hP
      have hq : quoG fs gs = false := by rw [quoG, hp, Bool.and_false]
      rw [quoV, quoB, hq, if_neg (by simp), Bool.false_and]
      exact impl_LeftQuotient_p2 _ _ _ _ h2 hP
    | true =>
      rw [hp] at hP
      have hq : quoG fs gs = true := by rw [quoG, hp, hb]; rfl
      rw [quoV, quoB, hq, if_pos rfl, Bool.true_and]
      obtain ⟨b1, b2⟩ := quo_bounds l1 l2 c1 c2 hp
      have hT := texts_SC (quoL (treesOf fs) (treesOf gs)) b1 b2
      generalize treesOf fs = ts at *
      generalize treesOf gs = us at *
      have em : maxI ((List.length ts : Nat) : Int) ((List.length us : Nat) : Int) = ((max ts.length us.length : Nat) : Int) := by
        unfold maxI; split <;> omega
      have inner : ∀ (i : Nat) (k : Int) (cur : List Tr), cur.length ≤ 2 ^ 20 → LoopSC cfg.P 2 (lb P_impl_LeftQuotient 1) (impl_LeftQuotient_L1a ts us (us.getD i .leaf) ((max ts.length us.length : Nat) : Int) k ((List.length (strs' (adL (ts.getD i .leaf) [])) : Nat) : Int) (0 : Int) cur (strs' (adL (ts.getD i .leaf) []))) (.exit 2)
          (impl_LeftQuotient_L1X1 ts us (us.getD i .leaf) ((max ts.length us.length : Nat) : Int) k ((List.length (strs' (adL (ts.getD i .leaf) [])) : Nat) : Int) ((adL (ts.getD i .leaf) []).length : Int) false (cur ++ partsT (ts.getD i .leaf) (us.getD i .leaf)) (strs' (adL (ts.getD i .leaf) []))) := by
        intro i k cur hcur
        have hpi := fpart_all hp i
        have hc := getD_leaf_c c1 i
        have hal := adL_len (ts.getD i .leaf) []
        have hsl : (strs' (adL (ts.getD i .leaf) [])).length = (adL (ts.getD i .leaf) []).length := List.length_map ..
        have key : ∀ (m j : Nat) (cur : List Tr), (adL (ts.getD i .leaf) []).length - j = m → j ≤ (adL (ts.getD i .leaf) []).length → cur.length ≤ 2 ^ 20 + j →
            LoopSC cfg.P 2 (lb P_impl_LeftQuotient 1) (impl_LeftQuotient_L1a ts us (us.getD i .leaf) ((max ts.length us.length : Nat) : Int) k ((List.length (strs' (adL (ts.getD i .leaf) [])) : Nat) : Int) (j : Int) cur (strs' (adL (ts.getD i .leaf) []))) (.exit 2)
              (impl_LeftQuotient_L1X1 ts us (us.getD i .leaf) ((max ts.length us.length : Nat) : Int) k ((List.length (strs' (adL (ts.getD i .leaf) [])) : Nat) : Int) ((adL (ts.getD i .leaf) []).length : Int) false (cur ++ ((adL (ts.getD i .leaf) []).drop j).map (atR (us.getD i .leaf))) (strs' (adL (ts.getD i .leaf) []))) := by
          intro m
          induction m with
          | zero =>
            intro j cur hm hj hcur
            have e : j = (adL (ts.getD i .leaf) []).length := by omega
            subst e
            rw [List.drop_length, List.map_nil, List.append_nil]
            exact impl_LeftQuotient_L1a_x2 _ _ _ _ _ _ _ _ _ (by omega)
          | succ m ih =>
            intro j cur hm hj hcur
            have hj1 : j < (adL (ts.getD i .leaf) []).length := by omega
            have hg := strs_get (adL (ts.getD i .leaf) []) j hj1
            have hb2 := adL_bound _ _ _ (List.getElem_mem hj1)
            rw [List.length_nil, Nat.zero_add] at hb2
            obtain ⟨bb, ha⟩ := at_SC (us.getD i .leaf) (adL (ts.getD i .leaf) [])[j] (by omega)
            rw [← hg] at ha
            have hn := ih (j + 1) (cur ++ [atR (us.getD i .leaf) (adL (ts.getD i .leaf) [])[j]]) (by omega) (by omega) (by simp; omega)
            rw [List.drop_eq_getElem_cons hj1, List.map_cons]
            rw [List.append_assoc, List.singleton_append, ← wrap_succ (by omega)] at hn
            exact impl_LeftQuotient_L1a_i1 _ _ _ _ _ _ _ _ _ _ bb (by omega) (by omega) (by omega) (by omega) ha (sizeOK_one (by omega)) hn
        have h0 := key _ 0 cur rfl (by omega) (by omega)
        rw [List.drop_zero, at_parts _ _ _ [] hpi (by cases us.getD i .leaf <;> rfl)] at h0
        exact h0
      have key := loop_up (P := cfg.P) (np := 2) (c := lb P_impl_LeftQuotient 0) (fun i (a : List Tr) => impl_LeftQuotient_L0a ts us ((max ts.length us.length : Nat) : Int) (i : Int) a) (fun a => impl_LeftQuotient_L0X1 ts us ((max ts.length us.length : Nat) : Int) ((max ts.length us.length : Nat) : Int) false a)
        (fun i a => a ++ partsT (ts.getD i .leaf) (us.getD i .leaf)) (fun i a => a.length ≤ i * 9) (max ts.length us.length)
        (fun i a hi hI => by
          have hc := getD_leaf_c c1 i
          have hpl := partsT_len _ _ (fpart_all hp i)
          refine ⟨by rw [List.length_append, hpl, Nat.add_mul]; omega, fun e st hn => ?_⟩
          rw [← wrap_succ (by omega)] at hn
          exact impl_LeftQuotient_L0a_i1 _ _ _ _ _ _ _ _ _ _ _ _ _ _ _ _ _ _ (by omega) (ftree_SC ts i) (ftree_SC us i) (addresses_SC (ts.getD i .leaf) [] (by omega) (by rw [List.length_nil, Nat.zero_add]; omega)) (inner i (i : Int) a (by omega)) hn)
        (fun a _ => impl_LeftQuotient_L0a_x2 _ _ _ _ _ (by omega)) (max ts.length us.length) 0 [] (by omega) (by simp)
      have hL := key.1
      rw [itr_flat (fun i => partsT (ts.getD i .leaf) (us.getD i .leaf)), List.nil_append, ← em] at hL
      exact impl_LeftQuotient_p1 _ _ _ _ _ _ _ _ _ _ _ _ h2 hP hL hT

theorem specQuo_SC (fs gs : List (List UInt8)) (hs : ∀ l ∈ fs, l.length ≤ 2 ^ 40) (hfl : fs.length ≤ 2 ^ 40) (hs' : ∀ l ∈ gs, l.length ≤ 2 ^ 40) (hgl : gs.length ≤ 2 ^ 40) :
    SC cfg.P i_spec_LeftQuotient [.s (.v (.sl .str) (txs fs)), .s (.v (.sl .str) (txs gs))] (.tup [.own t_string .str (txs (quoV fs gs)), .v .bool (quoB fs gs)]) [] := by
  have h1 := foGood_SC fs hs hfl
  have h2 := foGood_SC gs hs' hgl
  cases hf : isFo fs with
  | false =>
    rw [hf] at h1
    have hq : quoG fs gs = false := by rw [quoG, hf]; rfl
    rw [quoV, quoB, hq, if_neg (by simp), Bool.false_and]
    exact spec_LeftQuotient_p4 _ _ h1
  | true =>
    rw [hf] at h1
    cases hg : isFo gs with
    | false =>
      rw [hg] at h2
      have hq : quoG fs gs = false := by rw [quoG, hg, Bool.and_false, Bool.false_and]
      rw [quoV, quoB, hq, if_neg (by simp), Bool.false_and]
      exact spec_LeftQuotient_p3 _ _ h1 h2
    | true =>
      rw [hg] at h2
      obtain ⟨e1, l1, c1⟩ := fo_facts hf
      obtain ⟨e2, l2, c2⟩ := fo_facts hg
      have hP := foPart_SC (treesOf fs) (treesOf gs) (by omega) (fun t ht => by have := c1 t ht; omega) (fun t ht => by have := c2 t ht; omega)
      rw [← e1, ← e2] at hP
      cases hp : fpart (treesOf fs) (treesOf gs) with
      | false =>
        rw [hp] at hP
        have hq : quoG fs gs = false := by rw [quoG, hp, Bool.and_false]
        rw [quoV, quoB, hq, if_neg (by simp), Bool.false_and]
        exact spec_LeftQuotient_p2 _ _ h1 h2 hP
      | true =>
        rw [hp] at hP
        have hq : quoG fs gs = true := by rw [quoG, hp, hf, hg]; rfl
        rw [quoV, quoB, hq, if_pos rfl, Bool.true_and]
        obtain ⟨b1, b2⟩ := quo_bounds l1 l2 c1 c2 hp
        have hT := foIf_SC (quoL (treesOf fs) (treesOf gs)) b1 b2
        have m1 : (txs fs).length = (treesOf fs).length := by simp [treesOf]
        have m2 : (txs gs).length = (treesOf gs).length := by simp [treesOf]
        have key := loop_up (P := cfg.P) (np := 2) (c := lb P_spec_LeftQuotient 0) (fun i (a : List ByteArray) => spec_LeftQuotient_L0a (txs fs) (txs gs) (i : Int) a) (fun a => spec_LeftQuotient_L0X1 (txs fs) (txs gs) ((max (treesOf fs).length (treesOf gs).length : Nat) : Int) false a)
          (fun i a => a ++ txs ((partsT ((treesOf fs).getD i .leaf) ((treesOf gs).getD i .leaf)).map txt)) (fun i a => a.length ≤ i * 9) (max (treesOf fs).length (treesOf gs).length)
          (fun i a hi hI => by
            have d1 := getD_leaf_c c1 i
            have d2 := getD_leaf_c c2 i
            have hpl := partsT_len _ _ (fpart_all hp i)
            have hpl' : (txs ((partsT ((treesOf fs).getD i .leaf) ((treesOf gs).getD i .leaf)).map txt)).length = ((treesOf fs).getD i .leaf).c + 1 := by rw [List.length_map, List.length_map, hpl]
            refine ⟨by rw [List.length_append, hpl', Nat.add_mul]; omega, fun e st hn => ?_⟩
            rw [← wrap_succ (by omega)] at hn
            have t1 := foTree_SC (treesOf fs) i
            have t2 := foTree_SC (treesOf gs) i
            rw [← e1] at t1
            rw [← e2] at t2
            have hc := prParts_SC ((treesOf fs).getD i .leaf) ((treesOf gs).getD i .leaf) (by omega) (by omega) (fpart_all hp i)
            by_cases hlt : i < (treesOf fs).length
            · exact spec_LeftQuotient_L0a_i1 _ _ _ _ _ _ _ (by omega) t1 t2 hc (by unfold sizeOK lim; rw [hpl']; omega) hn
            · exact spec_LeftQuotient_L0a_i2 _ _ _ _ _ _ _ (by omega) (by omega) t1 t2 hc (by unfold sizeOK lim; rw [hpl']; omega) hn)
          (fun a _ => spec_LeftQuotient_L0a_x3 _ _ _ _ (by omega) (by omega)) (max (treesOf fs).length (treesOf gs).length) 0 [] (by omega) (by simp)
        have hL := key.1
        rw [itr_flat (fun i => txs ((partsT ((treesOf fs).getD i .leaf) ((treesOf gs).getD i .leaf)).map txt)), List.nil_append] at hL
        have he : (List.range' 0 (max (treesOf fs).length (treesOf gs).length)).flatMap (fun i => txs ((partsT ((treesOf fs).getD i .leaf) ((treesOf gs).getD i .leaf)).map txt)) = txs ((quoL (treesOf fs) (treesOf gs)).map txt) := by
          simp only [quoL, txs, List.map_flatMap]
        rw [he] at hL
        exact spec_LeftQuotient_p1 _ _ _ _ _ _ _ _ _ h1 h2 hP hL hT

/-- The law of LeftQuotient. -/
theorem law_Quo (x y : List ByteArray) (hx : x.length ≤ 2 ^ 63 - 1) (hxs : ∀ a ∈ x, a.size ≤ 2 ^ 63 - 1) (hy : y.length ≤ 2 ^ 63 - 1) (hys : ∀ a ∈ y, a.size ≤ 2 ^ 63 - 1) :
    SC cfg.P i_laws_FnExactLeftQuotient [.s (.v (.sl .str) x), .s (.v (.sl .str) y)] (.s (.v .bool true)) [] := by
  obtain ⟨fs, rfl⟩ := txs_ex x
  obtain ⟨gs, rfl⟩ := txs_ex y
  have hsz : ∀ (l : List (List UInt8)), (∀ a ∈ txs l, a.size ≤ 2 ^ 63 - 1) → ∀ a ∈ l, a.length ≤ 2 ^ 63 - 1 := fun l h a ha => h (bs a) (List.mem_map.2 ⟨a, ha, rfl⟩)
  have l1 : (txs fs).length = fs.length := List.length_map ..
  have l2 : (txs gs).length = gs.length := List.length_map ..
  rcases szStringS_SC fs (by omega) (hsz fs hxs) 1048576 (by omega) (by omega) with ⟨c, g1, g2, g3, g4, s1⟩ | s1
  · rcases szStringS_SC gs (by omega) (hsz gs hys) c g1 (by omega) with ⟨c', k1, k2, k3, k4, s2⟩ | s2
    · have hs : ∀ l ∈ fs, l.length ≤ 2 ^ 40 := fun l hl => by have := g4 l hl; omega
      have hs' : ∀ l ∈ gs, l.length ≤ 2 ^ 40 := fun l hl => by have := k4 l hl; omega
      have t1 := toStringS_SC (txs fs) (by omega)
      have t2 := toStringS_SC (txs gs) (by omega)
      have e1 := eqStringS_SC (txs fs) (by omega)
      have e2 := eqStringS_SC (txs gs) (by omega)
      have hS := specQuo_SC fs gs hs (by omega) hs' (by omega)
      have hI := implQuo_SC fs gs hs (by omega) hs' (by omega)
      have hv : (txs (quoV fs gs)).length ≤ 8 := by
        rw [List.length_map, quoV]
        split
        · exact foTexts_len _
        · simp
      have e3 := eqStringS_SC (txs (quoV fs gs)) (by omega)
      have m1 := markStringS_SC (txs fs) (by omega) 1 (by omega) (by omega)
      have m2 := markStringS_SC (txs gs) (by omega) (1 + (txs fs).length) (by omega) (by omega)
      have m3 := markStringS_SC (txs (quoV fs gs)) (by omega) 1 (by omega) (by omega)
      have h3 := heldStringS_SC 1 (txs (quoV fs gs)).length (by omega) (by omega) (by omega)
      exact laws_FnExactLeftQuotient_p3 _ _ _ _ _ _ _ _ _ _ _ _ _ _ _ _ _ _ _ _ _ _ _ _ _ _ s1 (by omega) s2 (by omega) t1 t2 hS t1 t2 hI e3 (by simp) t1 e1 t2 e2 m1 m2 (by omega) m3 h3 (by omega) rfl t1 t2 hI e3 (by simp) h3 (by omega) rfl
    · exact laws_FnExactLeftQuotient_p2 _ _ _ _ s1 (by omega) s2 (by omega)
  · exact laws_FnExactLeftQuotient_p1 _ _ _ s1 (by omega)

end Go.AI
