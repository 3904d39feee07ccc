/- Contracts: forests hung at a right comb; their pairs. -/
import Derived.Test.YtnnbjnmkkfakdaaGE
import Derived.Test.YtnnbjnmkkfakdaaCQ
import Derived.Test.YtnnbjnmkkfakdaaCE
set_option autoImplicit false
set_option maxRecDepth 100000
set_option linter.unusedVariables false
namespace Go.AI
open Go.Proofs

/-- The right comb. -/
def combR : Nat → Tr
  | 0 => .leaf
  | n + 1 => .node .leaf (combR n)

theorem combR_c : ∀ n, (combR n).c = n
  | 0 => rfl
  | n + 1 => by simp only [combR, Tr.c, combR_c n]; omega

/-- The right comb with trees in place of its first leaves. -/
def combT : List Tr → Tr
  | [] => .leaf
  | t :: ts => .node t (combT ts)

theorem combT_c : ∀ ts, (combT ts).c = ts.length + sumC ts
  | [] => rfl
  | t :: ts => by
    have := combT_c ts
    have e : sumC (t :: ts) = t.c + sumC ts := by simp [sumC]
    simp only [combT, Tr.c, List.length_cons, e, this]
    omega

theorem grow_comb (ts : List Tr) : ∀ (n k : Nat), k + n = ts.length → growT ts (combR n) k = combT (ts.drop k)
  | 0, k, h => by
    have e : k = ts.length := by omega
    subst e
    rw [List.drop_length, combR, growT, combT, List.getD_eq_getElem?_getD, List.getElem?_eq_none (Nat.le_refl _)]
    rfl
  | n + 1, k, h => by
    have hk : k < ts.length := by omega
    rw [combR, growT, growT, Tr.c, grow_comb ts n (k + (0 + 1)) (by omega), List.drop_eq_getElem_cons hk, combT, List.getD_eq_getElem?_getD, List.getElem?_eq_getElem hk]
    rfl

theorem grownB_SC (us : List Tr) : ∀ (t : Tr) (n : Nat), n + t.c ≤ 2 ^ 30 → SC cfg.P i_impl_node_grown [.s (.v .tree t), .s (.v (.int .i64) (n : Int)), .fn i_impl_forest_tree [.v (.sl .tree) us] []] (.s (.v .tree (growT us t n))) []
  | .leaf, n, _ => impl_node_grownB_p1 _ _ _ _ (ftree_SC us n)
  | .node a b, n, h => by
    simp only [Tr.c] at h
    have hl := leaves_SC a (by omega)
    have ea : IntKind.wrap .i64 ((n : Int) + ((a.c + 1 : Nat) : Int)) = ((n + (a.c + 1) : Nat) : Int) := by rw [w64] <;> omega
    have h2 := grownB_SC us b (n + (a.c + 1)) (by omega)
    rw [← ea] at h2
    exact impl_node_grownB_p2 _ _ _ _ _ _ _ _ (grownB_SC us a n (by omega)) hl h2

theorem combR_succ : ∀ n, combR (n + 1) = .node .leaf (combR n) := fun _ => rfl

theorem rightComb_SC (n : Nat) (h : n ≤ 2 ^ 30) : SC cfg.P i_impl_rightComb [.s (.v (.int .i64) (n : Int))] (.s (.v .tree (combR n))) [] := by
  have key : ∀ (m i : Nat), i + m = n → LoopSC cfg.P 1 (lb P_impl_rightComb 0) (impl_rightComb_L0a (combR i) (n : Int) (i : Int)) (.exit 0) (impl_rightComb_L0X1 (combR n) (n : Int) (n : Int) false) := by
    intro m
    induction m with
    | zero =>
      intro i hi
      have e : i = n := by omega
      subst e
      exact impl_rightComb_L0a_x2 _ _ _ (by omega)
    | succ m ih =>
      intro i hi
      have hn := ih (i + 1) (by omega)
      rw [← wrap_succ (by omega), combR_succ] at hn
      exact impl_rightComb_L0a_i1 _ _ _ (by omega) hn
  exact impl_rightComb_p1 _ _ _ _ _ (key n 0 (by omega))

theorem trRight_SC (n : Nat) (h : n ≤ 2 ^ 20) : SC cfg.P i_spec_trRight [.s (.v (.int .i64) (n : Int))] (.s (.v .str (bs (txt (combR n))))) [] := by
  have key : ∀ (m i : Nat), i + m = n → LoopSC cfg.P 1 (lb P_spec_trRight 0) (spec_trRight_L0a (m : Int) (bs (txt (combR i)))) (.exit 0) (spec_trRight_L0X1 0 (bs (txt (combR n))) false) := by
    intro m
    induction m with
    | zero =>
      intro i hi
      have e : i = n := by omega
      subst e
      exact spec_trRight_L0a_x2 _ _ (by omega)
    | succ m ih =>
      intro i hi
      have hn := ih (i + 1) (by omega)
      have ew : IntKind.wrap .i64 (((m + 1 : Nat) : Int) - 1) = (m : Int) := by rw [w64] <;> omega
      have hc := combR_c i
      rw [← ew, combR_succ] at hn
      exact spec_trRight_L0a_i1 _ _ _ (by omega) (trOf_SC .leaf (combR i) (by simp [Tr.c]) (by omega)) hn
  exact spec_trRight_p1 _ _ _ _ (key n 0 (by omega))

theorem drop_last (ts : List Tr) (k : Nat) (h : k < ts.length) : combT (ts.drop k) = .node (ts.getD k .leaf) (combT (ts.drop (k + 1))) := by
  rw [List.drop_eq_getElem_cons h, combT, List.getD_eq_getElem?_getD, List.getElem?_eq_getElem h]
  rfl

theorem sum_drop (ts : List Tr) (k : Nat) : sumC (ts.drop k) ≤ sumC ts := by
  have e : ts = ts.take k ++ ts.drop k := (List.take_append_drop k ts).symm
  have h2 : sumC (ts.take k ++ ts.drop k) = sumC (ts.take k) + sumC (ts.drop k) := by rw [sumC, List.map_append, List.sum_append]; rfl
  rw [← e] at h2
  omega

theorem wdComb_SC (ts : List Tr) (h : ts.length ≤ 2 ^ 20) (hs : sumC ts ≤ 2 ^ 20) : SC cfg.P i_spec_wdComb [.s (.v (.sl .str) (txs (ts.map txt)))] (.s (.v .str (bs (txt (combT ts))))) [] := by
  have hl : List.length (txs (ts.map txt)) = ts.length := by simp
  have key : ∀ (m : Nat), m ≤ ts.length → LoopSC cfg.P 1 (lb P_spec_wdComb 0) (spec_wdComb_L0a (txs (ts.map txt)) (bs (txt (combT (ts.drop m)))) ((m : Int) - 1)) (.exit 0) (spec_wdComb_L0X1 (txs (ts.map txt)) (bs (txt (combT ts))) (-1) false) := by
    intro m
    induction m with
    | zero =>
      intro hm
      exact spec_wdComb_L0a_x2 _ _ _ (by omega)
    | succ m ih =>
      intro hm
      have hn := ih (by omega)
      have hd := drop_last ts m (by omega)
      have e1 : ((m + 1 : Nat) : Int) - 1 = (m : Int) := by omega
      have ew : IntKind.wrap .i64 ((m : Int) - 1) = (m : Int) - 1 := by rw [w64] <;> omega
      have hg : List.getD (txs (ts.map txt)) ((m : Int)).toNat (⟨#[]⟩ : ByteArray) = bs (txt (ts.getD m .leaf)) := by
        rw [Int.toNat_natCast, txs, List.map_map, gD_map (bs ∘ txt) ts m (by omega) .leaf]; rfl
      have hc := combT_c (ts.drop (m + 1))
      have hs1 := sum_drop ts (m + 1)
      have hlen : (ts.drop (m + 1)).length ≤ ts.length := by simp
      have ht : (ts.getD m .leaf).c ≤ sumC ts := c_le_sum ts _ (gD_mem (by omega) _)
      have ho := trOf_SC (ts.getD m .leaf) (combT (ts.drop (m + 1))) (by omega) (by omega)
      rw [← hd, ← hg] at ho
      rw [← ew] at hn
      rw [e1]
      exact spec_wdComb_L0a_i1 _ _ _ _ (by omega) (by omega) (by omega) ho hn
  have h0 := key ts.length (Nat.le_refl _)
  have ew : IntKind.wrap .i64 (((List.length (txs (ts.map txt)) : Nat) : Int) - 1) = (ts.length : Int) - 1 := by rw [hl, w64] <;> omega
  rw [List.drop_length, ← ew] at h0
  exact spec_wdComb_p1 _ _ _ _ _ h0

/-- A forest's pair. -/
def fpP (ts : List Tr) : Tr × Tr := red (combT ts).c (combT ts, combR (combT ts).c)

theorem fp_eqc (ts : List Tr) : (fpP ts).1.c = (fpP ts).2.c := red_eqc _ _ (by simp only [combR_c])

theorem fp_c (ts : List Tr) : (fpP ts).1.c ≤ ts.length + sumC ts := by
  have := (red_c (combT ts).c (combT ts, combR (combT ts).c)).1
  rw [← combT_c]
  exact this

theorem hung_SC (ts : List Tr) (h : ts.length ≤ 2 ^ 20) (ht : trim ts = ts) : SC cfg.P i_impl_forest_hung [.s (.v (.sl .tree) ts)] (.s (.v .tree (combT ts))) [] := by
  have h1 := trimmed_SC ts (by omega)
  rw [ht] at h1
  have h3 := grownB_SC ts (combR ts.length) 0 (by rw [combR_c]; omega)
  rw [grow_comb ts ts.length 0 (by omega), List.drop_zero] at h3
  exact impl_forest_hung_p1 _ _ _ _ h1 (rightComb_SC ts.length (by omega)) h3

theorem fpair_SC (ts : List Tr) (h : ts.length ≤ 2 ^ 18) (hs : sumC ts ≤ 2 ^ 18) (ht : trim ts = ts) : SC cfg.P i_impl_forest_pair [.s (.v (.sl .tree) ts)] (.s (.v (.pr .tree .tree) (fpP ts))) [] := by
  have hc := combT_c ts
  have hr := combR_c (combT ts).c
  exact impl_forest_pair_p1 _ _ _ _ _ (hung_SC ts (by omega) ht) (carets_SC (combT ts) (by omega)) (rightComb_SC (combT ts).c (by omega)) (reduced_SC (combT ts, combR (combT ts).c) (by simp only; omega) (by simp only; omega))

theorem foPair_SC (ts : List Tr) (h : ts.length ≤ 2 ^ 18) (hs : sumC ts ≤ 2 ^ 18) : SC cfg.P i_spec_foPair [.s (.v (.sl .str) (txs (ts.map txt)))] (.s (.v (.pr .str .str) (pt (fpP ts)))) [] := by
  have hc := combT_c ts
  have hr := combR_c (combT ts).c
  have hl := txt_len (combT ts)
  have h2 := trCarets_SC (txt (combT ts)) (by omega)
  rw [txt_count] at h2
  exact spec_foPair_p1 _ _ _ _ _ (wdComb_SC ts (by omega) (by omega)) h2 (trRight_SC (combT ts).c (by omega)) (prReduce_SC (combT ts, combR (combT ts).c) (by simp only; omega) (by simp only; omega))

theorem fo_facts2 {fs : List (List UInt8)} (h : isFo fs = true) : fs = (treesOf fs).map txt ∧ (treesOf fs).length ≤ 8 ∧ sumC (treesOf fs) ≤ 8 ∧ trim (treesOf fs) = treesOf fs := by
  obtain ⟨h1, h2, h3, h4, h5⟩ := isFo_spec h
  have hl : (treesOf fs).length = fs.length := List.length_map ..
  exact ⟨h5, by omega, h3, h4⟩

end Go.AI
