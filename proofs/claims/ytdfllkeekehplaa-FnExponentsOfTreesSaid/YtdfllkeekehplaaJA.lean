/- A part of the road: what it proves stands in its last texts. -/
import Derived.Test.YtdfllkeekehplaaCPg
import Derived.Test.YtdfllkeekehplaaGL
section
/- Contracts: forests. -/
set_option autoImplicit false
set_option maxRecDepth 100000
set_option linter.unusedVariables false
namespace Go.AI
open Go.Proofs

/-- How many carets. -/
def sumC (ts : List Tr) : Nat := (ts.map Tr.c).sum

/-- Without the leaves at the end. -/
def trim : List Tr → List Tr
  | [] => []
  | t :: ts => match trim ts with
    | [] => if t.isLeaf = true then [] else [t]
    | u :: us => t :: u :: us

theorem trim_snoc : ∀ (ts : List Tr) (t : Tr), trim (ts ++ [t]) = if t.isLeaf = true then trim ts else ts ++ [t]
  | [], t => rfl
  | x :: ts, t => by
    rw [List.cons_append, trim, trim_snoc ts t]
    by_cases h : t.isLeaf = true
    · rw [if_pos h, if_pos h, trim]
    · rw [if_neg h, if_neg h]
      cases ts <;> rfl

theorem trim_len : ∀ ts : List Tr, (trim ts).length ≤ ts.length
  | [] => Nat.le_refl _
  | t :: ts => by
    have := trim_len ts
    rw [trim]
    split
    · split <;> simp
    · rename_i u us e
      rw [e] at this
      simp only [List.length_cons] at this ⊢
      omega

theorem trim_prefix : ∀ ts : List Tr, ∃ r : List Tr, ts = trim ts ++ r ∧ ∀ t ∈ r, t.isLeaf = true
  | [] => ⟨[], rfl, fun t h => by cases h⟩
  | t :: ts => by
    obtain ⟨r, e, h⟩ := trim_prefix ts
    rw [trim]
    split
    · rename_i e2
      rw [e2, List.nil_append] at e
      subst e
      split
      · rename_i hl
        exact ⟨t :: ts, rfl, fun u hu => by rcases List.mem_cons.1 hu with rfl | hu; exact hl; exact h u hu⟩
      · exact ⟨ts, rfl, h⟩
    · rename_i u us e2
      rw [e2] at e
      exact ⟨r, by rw [e]; rfl, h⟩

theorem trim_sumC (ts : List Tr) : sumC (trim ts) = sumC ts := by
  obtain ⟨r, e, h⟩ := trim_prefix ts
  have h0 : sumC r = 0 := by
    unfold sumC
    induction r with
    | nil => rfl
    | cons t r ih =>
      rw [List.map_cons, List.sum_cons, leaf_c (h t (List.mem_cons_self ..))]
      have : ∀ (a b : List Tr), (∀ t ∈ a, t.isLeaf = true) → (a.map Tr.c).sum = 0 := by
        intro a b
        induction a with
        | nil => intro _; rfl
        | cons u a ih2 => intro hu; rw [List.map_cons, List.sum_cons, leaf_c (hu u (List.mem_cons_self ..)), ih2 (fun v hv => hu v (List.mem_cons_of_mem _ hv))]
      rw [this r r (fun v hv => h v (List.mem_cons_of_mem _ hv))]
  conv => rhs; rw [e]
  simp only [sumC, List.map_append, List.sum_append] at h0 ⊢
  omega

theorem trimmed_L : ∀ (n : Nat) (ts : List Tr), ts.length = n → n ≤ 2 ^ 30 → LoopSC cfg.P 1 (lb P_impl_forest_trimmed 0) (impl_forest_trimmed_L0a ts) (.exit 0) (impl_forest_trimmed_L0X1 (trim ts) false) := by
  intro n
  induction n with
  | zero =>
    intro ts h _
    have : ts = [] := List.eq_nil_of_length_eq_zero h
    subst this
    exact impl_forest_trimmed_L0a_x3 _ (by simp)
  | succ n ih =>
    intro ts h hn
    obtain ⟨m, x, rfl⟩ := snoc_ex ts (by intro e; subst e; simp at h)
    have hm : m.length = n := by simpa using h
    have ew : IntKind.wrap .i64 (((List.length (m ++ [x]) : Nat) : Int) - 1) = ((m.length : Nat) : Int) := by
      rw [List.length_append, List.length_singleton, w64] <;> omega
    rw [trim_snoc]
    by_cases hl : x.isLeaf = true
    · rw [if_pos hl]
      have hi := ih m hm (by omega)
      have hc : cutL (m ++ [x]) (0 : Int) (IntKind.wrap .i64 (((List.length (m ++ [x]) : Nat) : Int) - 1)) = m := by
        rw [ew]
        simp [cutL]
      rw [← hc] at hi
      exact impl_forest_trimmed_L0a_i1 _ (by rw [h]; omega) (by rw [ew]; omega) (by rw [ew, h]; omega) (by rw [ew, Int.toNat_natCast, getD_last]; exact hl) (by rw [ew, h]; omega) (by rw [hc] at hi ⊢; exact hi)
    · rw [if_neg hl]
      exact impl_forest_trimmed_L0a_x2 _ (by rw [h]; omega) (by rw [ew]; omega) (by rw [ew, h]; omega) (by rw [ew, Int.toNat_natCast, getD_last]; simpa using hl)

theorem trimmed_SC (ts : List Tr) (h : ts.length ≤ 2 ^ 30) : SC cfg.P i_impl_forest_trimmed [.s (.v (.sl .tree) ts)] (.s (.v (.sl .tree) (trim ts))) [] :=
  impl_forest_trimmed_p1 _ _ _ (trimmed_L _ ts rfl h)

theorem trim_full (ts : List Tr) (t : Tr) : (trim (ts ++ [t])).length = ts.length + 1 ↔ t.isLeaf = false := by
  rw [trim_snoc]
  by_cases h : t.isLeaf = true
  · rw [if_pos h]
    have := trim_len ts
    constructor
    · intro e; omega
    · intro e; rw [h] at e; cases e
  · rw [if_neg h]
    simp at h
    simp [h]

end Go.AI
end

section
/- Contracts: forests told, read and written. -/
set_option autoImplicit false
set_option maxRecDepth 100000
set_option linter.unusedVariables false
namespace Go.AI
open Go.Proofs

theorem count_le (l : List UInt8) : l.count 40 ≤ l.length := List.count_le_length

theorem c_le_sum : ∀ (ts : List Tr) (t : Tr), t ∈ ts → t.c ≤ sumC ts
  | x :: ts, t, h => by
    simp only [sumC, List.map_cons, List.sum_cons]
    rcases List.mem_cons.1 h with rfl | h
    · omega
    · have := c_le_sum ts t h
      simp only [sumC] at this
      omega

/-! ### The reference's side -/

theorem wdShort_L : ∀ (n : Nat) (ts more : List Tr), ts.length = n → n + more.length ≤ 2 ^ 30 →
    LoopSC cfg.P 1 (lb P_spec_wdShort 0) (spec_wdShort_L0a (txs ((ts ++ more).map txt)) (n : Int)) (.exit 0) (spec_wdShort_L0X1 (txs ((ts ++ more).map txt)) (((trim ts).length : Nat) : Int) false) := by
  intro n
  induction n with
  | zero =>
    intro ts more h _
    have : ts = [] := List.eq_nil_of_length_eq_zero h
    subst this
    exact spec_wdShort_L0a_x3 _ _ (by simp)
  | succ n ih =>
    intro ts more h hn
    obtain ⟨m, x, rfl⟩ := snoc_ex ts (by intro e; subst e; simp at h)
    have hm : m.length = n := by simpa using h
    have ew : IntKind.wrap .i64 (((n + 1 : Nat) : Int) - 1) = ((m.length : Nat) : Int) := by
      rw [w64] <;> omega
    have hlen : (txs (((m ++ [x]) ++ more).map txt)).length = n + 1 + more.length := by simp [hm]; omega
    have hget : List.getD (txs (((m ++ [x]) ++ more).map txt)) ((IntKind.wrap .i64 (((n + 1 : Nat) : Int) - 1))).toNat (⟨#[]⟩ : ByteArray) = bs (txt x) := by
      rw [ew, Int.toNat_natCast, txs, List.map_map, gD_map (bs ∘ txt) _ _ (by simp <;> omega) .leaf]
      have hx : ((m ++ [x]) ++ more).getD m.length .leaf = x := by simp [List.getD_eq_getElem?_getD]
      rw [hx]
      rfl
    rw [trim_snoc]
    cases x with
    | leaf =>
      have hl := trLeaf_leaf
      rw [← hget] at hl
      have hi := ih m (.leaf :: more) hm (by simp; omega)
      rw [show m ++ Tr.leaf :: more = m ++ [Tr.leaf] ++ more by simp] at hi
      rw [if_pos (show Tr.leaf.isLeaf = true from rfl)]
      rw [show ((n : Nat) : Int) = IntKind.wrap .i64 (((n + 1 : Nat) : Int) - 1) by rw [ew, hm]] at hi
      exact spec_wdShort_L0a_i1 _ _ (by omega) (by rw [ew]; omega) (by rw [ew, hlen]; omega) hl hi
    | node l r =>
      have hl := trLeaf_node l r
      rw [← hget] at hl
      rw [if_neg (by simp [Tr.isLeaf]), h]
      exact spec_wdShort_L0a_x2 _ _ (by omega) (by rw [ew]; omega) (by rw [ew, hlen]; omega) hl

theorem wdShort_SC (ts : List Tr) (h : ts.length ≤ 2 ^ 20) : SC cfg.P i_spec_wdShort [.s (.v (.sl .str) (txs (ts.map txt)))] (.s (.own t_string .str (txs ((trim ts).map txt)))) [] := by
  have hL := wdShort_L ts.length ts [] rfl (by simp; omega)
  rw [List.append_nil] at hL
  have hlen : (txs (ts.map txt)).length = ts.length := by simp
  have hl := trim_len ts
  have hc : cutL (txs (ts.map txt)) (0 : Int) (((trim ts).length : Nat) : Int) = txs ((trim ts).map txt) := by
    obtain ⟨r, e, _⟩ := trim_prefix ts
    have hl' := congrArg List.length e
    have : txs (ts.map txt) = txs ((trim ts).map txt) ++ txs (r.map txt) := by
      conv => lhs; rw [e]
      simp
    rw [this]
    have hlen2 : (txs ((trim ts).map txt)).length = (trim ts).length := by simp
    simp only [cutL, Int.toNat_natCast, Int.toNat_zero, List.drop_zero]
    rw [← hlen2, List.take_left]
  have hz : sizeOK (List.length ([] : List ByteArray) + List.length (cutL (txs (ts.map txt)) (0 : Int) (((trim ts).length : Nat) : Int))) := by
    rw [hc]; unfold sizeOK lim; simp; omega
  have := spec_wdShort_p1 (txs (ts.map txt)) _ _ _ (by rw [hlen]; exact hL) (by omega) (by rw [hlen]; omega) hz
  rw [hc, List.nil_append] at this
  exact this

theorem trim_trim (ts : List Tr) : trim (trim ts) = trim ts := by
  induction ts with
  | nil => rfl
  | cons t ts ih =>
    rw [trim]
    split
    · split
      · rfl
      · rename_i h
        simp [trim, h]
    · rename_i u us e
      rw [e] at ih
      rw [trim, ih]

theorem ftree_SC (ts : List Tr) (k : Nat) : SC cfg.P i_impl_forest_tree [.s (.v (.sl .tree) ts), .s (.v (.int .i64) (k : Int))] (.s (.v .tree (ts.getD k .leaf))) [] := by
  by_cases h : k < ts.length
  · exact impl_forest_tree_p1 _ _ (by omega) (by omega) (by omega)
  · rw [List.getD_eq_getElem?_getD, List.getElem?_eq_none (by omega)]
    exact impl_forest_tree_p2 _ _ (by omega)

end Go.AI
end
