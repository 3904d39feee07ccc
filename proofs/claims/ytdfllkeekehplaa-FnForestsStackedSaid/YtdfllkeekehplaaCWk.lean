/- Contracts: stacked forests; the law of StackForests. -/
import Derived.Test.YtdfllkeekehplaaCQ
import Derived.Test.YtdfllkeekehplaaCWt
import Derived.Test.YtdfllkeekehplaaCE
set_option autoImplicit false
set_option maxRecDepth 100000
set_option linter.unusedVariables false
namespace Go.AI
open Go.Proofs

theorem getD_le_c {ts : List Tr} {b : Nat} (h : ∀ t ∈ ts, t.c ≤ b) (i : Nat) : (ts.getD i .leaf).c ≤ b := by
  by_cases hi : i < ts.length
  · exact h _ (gD_mem hi .leaf)
  · rw [List.getD_eq_getElem?_getD, List.getElem?_eq_none (by omega)]
    simp [Tr.c]

theorem grown_SC (us : List Tr) : ∀ (t : Tr) (n : Nat), t.c ≤ 2 ^ 20 → n ≤ 2 ^ 40 → SC cfg.P i_impl_node_grown [.s (.v .tree t), .s (.v (.int .i64) (n : Int)), .fn i_impl_forest_tree [.v (.sl .tree) us] []] (.s (.v .tree (growT us t n))) []
  | .leaf, n, _, _ => impl_node_grownB_p1 _ _ _ _ (ftree_SC us n)
  | .node a b, n, h, hn => by
    simp only [Tr.c] at h
    have hl := leaves_SC a (by omega)
    have ea : IntKind.wrap .i64 ((n : Int) + ((a.c + 1 : Nat) : Int)) = ((n + (a.c + 1) : Nat) : Int) := by rw [w64] <;> omega
    have h2 := grown_big us b (n + (a.c + 1)) (by omega) (by omega)
    rw [← ea] at h2
    exact impl_node_grownB_p2 _ _ _ _ _ _ _ _ (grown_SC us a n (by omega) hn) hl h2
where
  grown_big (us : List Tr) : ∀ (t : Tr) (n : Nat), t.c ≤ 2 ^ 20 → n + t.c ≤ 2 ^ 41 → SC cfg.P i_impl_node_grown [.s (.v .tree t), .s (.v (.int .i64) (n : Int)), .fn i_impl_forest_tree [.v (.sl .tree) us] []] (.s (.v .tree (growT us t n))) []
    | .leaf, n, _, _ => impl_node_grownB_p1 _ _ _ _ (ftree_SC us n)
    | .node a b, n, h, hn => by
      simp only [Tr.c] at h hn
      have hl := leaves_SC a (by omega)
      have ea : IntKind.wrap .i64 ((n : Int) + ((a.c + 1 : Nat) : Int)) = ((n + (a.c + 1) : Nat) : Int) := by rw [w64] <;> omega
      have h2 := grown_big us b (n + (a.c + 1)) (by omega) (by omega)
      rw [← ea] at h2
      exact impl_node_grownB_p2 _ _ _ _ _ _ _ _ (grown_big us a n (by omega) (by omega)) hl h2

/-- The stacked trees, from a root and a leaf on. -/
def stk (ts us : List Tr) : Nat → Nat → Nat → List Tr
  | 0, _, _ => []
  | n + 1, k, at' => if k < ts.length ∨ at' < us.length then growT us (ts.getD k .leaf) at' :: stk ts us n (k + 1) (at' + ((ts.getD k .leaf).c + 1)) else []

/-- One forest stacked on another one. -/
def stackL (ts us : List Tr) : List Tr := stk ts us (ts.length + us.length) 0 0

theorem stk_len (ts us : List Tr) : ∀ n k a, (stk ts us n k a).length ≤ n
  | 0, _, _ => Nat.le_refl _
  | n + 1, k, a => by
    rw [stk]
    split
    · have := stk_len ts us n (k + 1) (a + ((ts.getD k .leaf).c + 1)); rw [List.length_cons]; omega
    · simp

theorem stk_c (ts us : List Tr) (b c : Nat) (h1 : ∀ t ∈ ts, t.c ≤ b) (h2 : ∀ u ∈ us, u.c ≤ c) : ∀ n k a, ∀ t ∈ stk ts us n k a, t.c ≤ b + (b + 1) * c
  | 0, _, _, t, h => by cases h
  | n + 1, k, a, t, h => by
    rw [stk] at h
    split at h
    · rcases List.mem_cons.1 h with rfl | h
      · have g1 := growT_c us c h2 (ts.getD k .leaf) a
        have g2 := getD_le_c h1 k
        have : ((ts.getD k .leaf).c + 1) * c ≤ (b + 1) * c := Nat.mul_le_mul_right _ (by omega)
        omega
      · exact stk_c ts us b c h1 h2 n _ _ t h
    · cases h

theorem stack_L (ts us : List Tr) (h1 : ts.length ≤ 2 ^ 20) (h2 : us.length ≤ 2 ^ 20) (hc : ∀ t ∈ ts, t.c ≤ 2 ^ 10) : ∀ (n k a : Nat) (cur : List Tr), (ts.length - k) + (us.length - a) ≤ n → k ≤ 2 ^ 21 → cur.length ≤ k → a ≤ k * 2 ^ 11 → n + k ≤ 2 ^ 21 →
    ∃ k' a', LoopSC cfg.P 2 (lb P_impl_forest_stack 0) (impl_forest_stack_L0a ts us (a : Int) (k : Int) cur) (.exit 0) (impl_forest_stack_L0X1 ts us a' k' false (cur ++ stk ts us n k a)) := by
  intro n
  induction n with
  | zero =>
    intro k a cur hm hk hcur ha hn
    rw [stk, List.append_nil]
    exact ⟨_, _, impl_forest_stack_L0a_x3 _ _ _ _ _ (by omega) (by omega)⟩
  | succ n ih =>
    intro k a cur hm hk hcur ha hn
    by_cases h : k < ts.length ∨ a < us.length
    · have hb := getD_le_c hc k
      have hbig : k * 2 ^ 11 ≤ 2 ^ 21 * 2 ^ 11 := Nat.mul_le_mul_right _ hk
      obtain ⟨k', a', hn'⟩ := ih (k + 1) (a + ((ts.getD k .leaf).c + 1)) (cur ++ [growT us (ts.getD k .leaf) a]) (by omega) (by omega) (by simp; omega) (by rw [Nat.add_mul]; omega) (by omega)
      have ew : IntKind.wrap .i64 ((a : Int) + (((ts.getD k .leaf).c + 1 : Nat) : Int)) = ((a + ((ts.getD k .leaf).c + 1) : Nat) : Int) := by rw [w64] <;> omega
      rw [stk, if_pos h]
      rw [List.append_assoc, List.singleton_append, ← wrap_succ (by omega), ← ew] at hn'
      have ht := ftree_SC ts k
      have hg := grown_SC us (ts.getD k .leaf) a (by omega) (by omega)
      have hl := leaves_SC (ts.getD k .leaf) (by omega)
      by_cases hk1 : k < ts.length
      · exact ⟨k', a', impl_forest_stack_L0a_i1 _ _ _ _ _ _ _ _ (by omega) ht hg (sizeOK_one (by omega)) hl hn'⟩
      · exact ⟨k', a', impl_forest_stack_L0a_i2 _ _ _ _ _ _ _ _ (by omega) (by omega) ht hg (sizeOK_one (by omega)) hl hn'⟩
    · rw [stk, if_neg h, List.append_nil]
      exact ⟨_, _, impl_forest_stack_L0a_x3 _ _ _ _ _ (by omega) (by omega)⟩

theorem stack_SC (ts us : List Tr) (h1 : ts.length ≤ 2 ^ 19) (h2 : us.length ≤ 2 ^ 19) (hc : ∀ t ∈ ts, t.c ≤ 2 ^ 10) : SC cfg.P i_impl_forest_stack [.s (.v (.sl .tree) ts), .s (.v (.sl .tree) us)] (.s (.own t_pimpl_node .tree (stackL ts us))) [] := by
  obtain ⟨k', a', hL⟩ := stack_L ts us (by omega) (by omega) hc (ts.length + us.length) 0 0 [] (by omega) (by omega) (by simp) (by omega) (by omega)
  rw [List.nil_append] at hL
  exact impl_forest_stack_p1 _ _ _ _ _ _ _ _ hL

/-! ### The reference's side: texts in place of points -/

theorem foStack1_L (x0 : List ByteArray) (us : List Tr) (k : Int) (xo : List ByteArray) (l : List UInt8) (hl : l.length ≤ 2 ^ 20) (hu : ∀ u ∈ us, u.c ≤ 2 ^ 10) : ∀ (m i n : Nat) (cur : List UInt8), l.length - i = m → i ≤ l.length → n ≤ 2 ^ 40 + i → cur.length ≤ i * 2 ^ 20 →
    LoopSC cfg.P 2 (lb P_spec_foStack 1) (spec_foStack_L1a x0 (txs (us.map txt)) (n : Int) k (bs l) (bs cur) (i : Int) xo) (.exit 2)
      (spec_foStack_L1X1 x0 (txs (us.map txt)) ((n + (l.drop i).count 46 : Nat) : Int) k (bs l) (bs (cur ++ subS us (l.drop i) n)) (l.length : Int) false xo) := by
  intro m
  induction m with
  | zero =>
    intro i n cur hm hi hn hcur
    have e : i = l.length := by omega
    subst e
    rw [List.drop_length, subS, List.append_nil]
    exact spec_foStack_L1a_x3 _ _ _ _ _ _ _ _ (by rw [bs_size]; omega)
  | succ m ih =>
    intro i n cur hm hi hn hcur
    have hi1 : i < l.length := by omega
    have hd : l.drop i = l[i] :: l.drop (i + 1) := List.drop_eq_getElem_cons hi1
    have hg : bt (bs l) (i : Int) = (l[i].toNat : Int) := by rw [bs_bt, Int.toNat_natCast, List.getD_eq_getElem?_getD, List.getElem?_eq_getElem hi1]; rfl
    have hbig : i * 2 ^ 20 ≤ 2 ^ 20 * 2 ^ 20 := Nat.mul_le_mul_right _ (by omega)
    rw [hd, subS, List.count_cons]
    by_cases h : l[i] = 46
    · rw [if_pos h, if_pos (by simp [h])]
      have ht := foTree_SC us n
      have hb := getD_le_c hu n
      have hlen := txt_len (us.getD n .leaf)
      have hn' := ih (i + 1) (n + 1) (cur ++ txt (us.getD n .leaf)) (by omega) (by omega) (by omega) (by rw [List.length_append, Nat.add_mul]; omega)
      rw [← wrap_succ (by omega), ← wrap_succ (by omega), ← bs_append, List.append_assoc, show n + 1 + List.count 46 (List.drop (i + 1) l) = n + (List.count 46 (List.drop (i + 1) l) + 1) by omega] at hn'
      exact spec_foStack_L1a_i1 _ _ _ _ _ _ _ _ _ (by rw [bs_size]; omega) (by omega) (by rw [hg, h]; rfl) ht (by rw [bs_size, bs_size]; omega) hn'
    · rw [if_neg h, if_neg (by simpa using h)]
      have ew := wrap_succ (i := i) (by omega)
      have hx : ByteArray.extract (bs l) ((i : Int)).toNat ((IntKind.wrap .i64 ((i : Int) + 1))).toNat = bs [l[i]] := by
        rw [ew, Int.toNat_natCast, Int.toNat_natCast, bs_extract, hd, show i + 1 - i = 1 by omega]; rfl
      have hn' := ih (i + 1) n (cur ++ [l[i]]) (by omega) (by omega) (by omega) (by rw [List.length_append, Nat.add_mul, List.length_singleton]; omega)
      rw [← ew, ← bs_append, ← hx, List.append_assoc, List.singleton_append] at hn'
      exact spec_foStack_L1a_i2 _ _ _ _ _ _ _ _ (by rw [bs_size]; omega) (by omega) (by rw [hg]; intro e; exact h ((byte_eq _ 46).1 e)) (by rw [ew]; omega) (by rw [ew, bs_size]; omega) (by rw [hx, bs_size, bs_size]; simp; omega) hn'

theorem foStack_L (ts us : List Tr) (h1 : ts.length ≤ 2 ^ 20) (h2 : us.length ≤ 2 ^ 20) (hc : ∀ t ∈ ts, t.c ≤ 2 ^ 10) (hu : ∀ u ∈ us, u.c ≤ 2 ^ 10) : ∀ (n k a : Nat) (cur : List Tr), (ts.length - k) + (us.length - a) ≤ n → k ≤ 2 ^ 21 → cur.length ≤ k → a ≤ k * 2 ^ 11 → n + k ≤ 2 ^ 21 →
    ∃ k' a', LoopSC cfg.P 2 (lb P_spec_foStack 0) (spec_foStack_L0a (txs (ts.map txt)) (txs (us.map txt)) (a : Int) (k : Int) (txs (cur.map txt))) (.exit 0) (spec_foStack_L0X1 (txs (ts.map txt)) (txs (us.map txt)) a' k' false (txs ((cur ++ stk ts us n k a).map txt))) := by
  have m1 : (txs (ts.map txt)).length = ts.length := by simp
  have m2 : (txs (us.map txt)).length = us.length := by simp
  intro n
  induction n with
  | zero =>
    intro k a cur hm hk hcur ha hn
    rw [stk, List.append_nil]
    exact ⟨_, _, spec_foStack_L0a_x3 _ _ _ _ _ (by omega) (by omega)⟩
  | succ n ih =>
    intro k a cur hm hk hcur ha hn
    by_cases h : k < ts.length ∨ a < us.length
    · have hb := getD_le_c hc k
      have hbig : k * 2 ^ 11 ≤ 2 ^ 21 * 2 ^ 11 := Nat.mul_le_mul_right _ hk
      obtain ⟨k', a', hn'⟩ := ih (k + 1) (a + ((ts.getD k .leaf).c + 1)) (cur ++ [growT us (ts.getD k .leaf) a]) (by omega) (by omega) (by simp; omega) (by rw [Nat.add_mul]; omega) (by omega)
      have hlen := txt_len (ts.getD k .leaf)
      have hin := foStack1_L (txs (ts.map txt)) us (k : Int) (txs (cur.map txt)) (txt (ts.getD k .leaf)) (by omega) hu _ 0 a [] rfl (by omega) (by omega) (by simp)
      have hs := subS_txt us (ts.getD k .leaf) [] a
      rw [List.append_nil, subS, List.append_nil] at hs
      rw [List.drop_zero, List.nil_append, hs, txt_dots'] at hin
      rw [stk, if_pos h]
      have ec : txs ((cur ++ [growT us (ts.getD k .leaf) a]).map txt) = txs (cur.map txt) ++ [bs (txt (growT us (ts.getD k .leaf) a))] := by simp
      rw [ec, List.append_assoc, List.singleton_append, ← wrap_succ (by omega)] at hn'
      have ht := foTree_SC ts k
      have hz : sizeOK (List.length (txs (cur.map txt)) + List.length [bs (txt (growT us (ts.getD k .leaf) a))]) := sizeOK_one (by simp; omega)
      by_cases hk1 : k < ts.length
      · exact ⟨k', a', spec_foStack_L0a_i1 _ _ _ _ _ _ _ _ _ _ _ _ _ _ _ (by omega) ht hin hz hn'⟩
      · exact ⟨k', a', spec_foStack_L0a_i2 _ _ _ _ _ _ _ _ _ _ _ _ _ _ _ (by omega) (by omega) ht hin hz hn'⟩
    · rw [stk, if_neg h, List.append_nil]
      exact ⟨_, _, spec_foStack_L0a_x3 _ _ _ _ _ (by omega) (by omega)⟩

theorem foStack_SC (ts us : List Tr) (h1 : ts.length ≤ 2 ^ 19) (h2 : us.length ≤ 2 ^ 19) (hc : ∀ t ∈ ts, t.c ≤ 2 ^ 10) (hu : ∀ u ∈ us, u.c ≤ 2 ^ 10) :
    SC cfg.P i_spec_foStack [.s (.v (.sl .str) (txs (ts.map txt))), .s (.v (.sl .str) (txs (us.map txt)))] (.s (.own t_string .str (txs ((trim (stackL ts us)).map txt)))) [] := by
  obtain ⟨k', a', hL⟩ := foStack_L ts us (by omega) (by omega) hc hu (ts.length + us.length) 0 0 [] (by omega) (by omega) (by simp) (by omega) (by omega)
  rw [List.nil_append] at hL
  have hl := stk_len ts us (ts.length + us.length) 0 0
  exact spec_foStack_p1 _ _ _ _ _ _ _ _ _ hL (wdShort_SC (stackL ts us) (by show (stk ts us (ts.length + us.length) 0 0).length ≤ _; omega))

theorem foTexts_trim (ts : List Tr) : foTexts (trim ts) = foTexts ts ∧ foOk (trim ts) = foOk ts := by
  rw [foTexts, foTexts, foOk, foOk, trim_trim, trim_sumC]
  exact ⟨rfl, rfl⟩

theorem fo_facts' {fs : List (List UInt8)} (h : isFo fs = true) : fs = (treesOf fs).map txt ∧ (treesOf fs).length ≤ 8 ∧ ∀ t ∈ treesOf fs, t.c ≤ 8 := by
  obtain ⟨h1, h2, h3, h4, h5⟩ := isFo_spec h
  have hl : (treesOf fs).length = fs.length := List.length_map ..
  exact ⟨h5, by omega, fun t ht => Nat.le_trans (c_le_sum _ t ht) h3⟩

def stackV (fs gs : List (List UInt8)) : List (List UInt8) := if (isFo fs && isFo gs) = true then foTexts (stackL (treesOf fs) (treesOf gs)) else []
def stackB (fs gs : List (List UInt8)) : Bool := (isFo fs && isFo gs) && foOk (stackL (treesOf fs) (treesOf gs))

theorem implStack_SC (fs gs : List (List UInt8)) (hs : ∀ l ∈ fs, l.length ≤ 2 ^ 40) (hfl : fs.length ≤ 2 ^ 40) (hs' : ∀ l ∈ gs, l.length ≤ 2 ^ 40) (hgl : gs.length ≤ 2 ^ 40) :
    SC cfg.P i_impl_StackForests [.s (.v (.sl .str) (txs fs)), .s (.v (.sl .str) (txs gs))] (.tup [.own t_string .str (txs (stackV fs gs)), .v .bool (stackB fs gs)]) [] := by
  obtain ⟨ts, us, h1, h2⟩ := twoForests_SC fs gs hs hfl hs' hgl
  cases hb : (isFo fs && isFo gs) with
  | false =>
    rw [hb] at h2
    rw [stackV, stackB, hb, if_neg (by simp), Bool.false_and]
    exact impl_StackForests_p2 _ _ _ _ h2
  | true =>
    rw [hb] at h2
    have hb' := Bool.and_eq_true_iff.1 hb
    obtain ⟨rfl, rfl⟩ := h1 hb'
    obtain ⟨_, l1, c1⟩ := fo_facts' hb'.1
    obtain ⟨_, l2, c2⟩ := fo_facts' hb'.2
    have hE := stack_SC (treesOf fs) (treesOf gs) (by omega) (by omega) (fun t ht => by have := c1 t ht; omega)
    have hl := stk_len (treesOf fs) (treesOf gs) ((treesOf fs).length + (treesOf gs).length) 0 0
    have hT := texts_SC (stackL (treesOf fs) (treesOf gs)) (by show (stk _ _ _ 0 0).length ≤ _; omega) (fun t ht => by have := stk_c _ _ 8 8 c1 c2 _ 0 0 t ht; omega)
    rw [stackV, stackB, hb, if_pos rfl, Bool.true_and]
    exact impl_StackForests_p1 _ _ _ _ _ _ _ h2 hE hT

theorem specStack_SC (fs gs : List (List UInt8)) (hs : ∀ l ∈ fs, l.length ≤ 2 ^ 40) (hfl : fs.length ≤ 2 ^ 40) (hs' : ∀ l ∈ gs, l.length ≤ 2 ^ 40) (hgl : gs.length ≤ 2 ^ 40) :
    SC cfg.P i_spec_StackForests [.s (.v (.sl .str) (txs fs)), .s (.v (.sl .str) (txs gs))] (.tup [.own t_string .str (txs (stackV fs gs)), .v .bool (stackB fs gs)]) [] := by
  have h1 := foGood_SC fs hs hfl
  have h2 := foGood_SC gs hs' hgl
  cases hf : isFo fs with
  | false =>
    rw [hf] at h1
    rw [stackV, stackB, hf, Bool.false_and, if_neg (by simp), Bool.false_and]
    exact spec_StackForests_p3 _ _ h1
  | true =>
    rw [hf] at h1
    cases hg : isFo gs with
    | false =>
      rw [hg] at h2
      rw [stackV, stackB, hg, Bool.and_false, if_neg (by simp), Bool.false_and]
      exact spec_StackForests_p2 _ _ h1 h2
    | true =>
      rw [hg] at h2
      rw [stackV, stackB, hf, hg, Bool.true_and, if_pos rfl, Bool.true_and]
      obtain ⟨e1, l1, c1⟩ := fo_facts' hf
      obtain ⟨e2, l2, c2⟩ := fo_facts' hg
      have hS := foStack_SC (treesOf fs) (treesOf gs) (by omega) (by omega) (fun t ht => by have := c1 t ht; omega) (fun t ht => by have := c2 t ht; omega)
      rw [← e1, ← e2] at hS
      have hl := stk_len (treesOf fs) (treesOf gs) ((treesOf fs).length + (treesOf gs).length) 0 0
      have hl2 := trim_len (stackL (treesOf fs) (treesOf gs))
      have hT := foIf_SC (trim (stackL (treesOf fs) (treesOf gs))) (by have : (stackL (treesOf fs) (treesOf gs)).length ≤ (treesOf fs).length + (treesOf gs).length := hl; omega) (fun t ht => by have := stk_c _ _ 8 8 c1 c2 _ 0 0 t (trim_mem ht); omega)
      rw [(foTexts_trim _).1, (foTexts_trim _).2] at hT
      exact spec_StackForests_p1 _ _ _ _ _ h1 h2 hS hT

end Go.AI
