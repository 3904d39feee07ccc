/- A part of the road: what it proves stands in its last texts. -/
import Derived.Test.YtdfllkeekehplaaSIds
import Derived.Test.YtdfllkeekehplaaProg
import Derived.Test.YtdfllkeekehplaaJB
import Derived.Test.YtdfllkeekehplaaCWk
import Derived.Test.YtdfllkeekehplaaJC
import Derived.Test.YtdfllkeekehplaaCE
import Derived.Test.YtdfllkeekehplaaJA
import Derived.Test.YtdfllkeekehplaaC9k
section
set_option autoImplicit false
set_option maxRecDepth 100000
set_option linter.unusedVariables false
namespace Go.AI
open Go.Proofs

/-! ### impl_JoinTrees -/


/-! ### spec_JoinTrees -/


/-! ### impl_CommonTree -/


/-! ### spec_CommonTree -/


/-! ### impl_IsPartOf -/


/-! ### spec_IsPartOf -/


/-! ### impl_SubtreeAt -/


/-! ### spec_SubtreeAt -/


/-! ### impl_GraftAt -/


/-! ### spec_GraftAt -/


/-! ### impl_AddressesOf -/


/-! ### spec_l1In -/


theorem spec_l1In_p1 (a0 : Int) (a1 : Int) (a2 : Int)
    (h1 : a0 ≥ a1)
    (h2 : a0 ≤ a2) :
    SC cfg.P i_spec_l1In [.s (.v (.int .i64) a0), .s (.v (.int .i64) a1), .s (.v (.int .i64) a2)] (.s (.v .bool true)) [] :=
  SC_of_run cfgOK (its := [.bool true, .bool true])
    (ps := [decide (a0 ≥ a1) = true,
      decide (a0 ≤ a2) = true]) (by kernel_rfl) ⟨(decide_eq_true h1), (decide_eq_true h2), trivial⟩ get_spec_l1In (by decide)

theorem spec_l1In_p2 (a0 : Int) (a1 : Int) (a2 : Int)
    (h1 : a0 ≥ a1)
    (h2 : ¬ (a0 ≤ a2)) :
    SC cfg.P i_spec_l1In [.s (.v (.int .i64) a0), .s (.v (.int .i64) a1), .s (.v (.int .i64) a2)] (.s (.v .bool false)) [] :=
  SC_of_run cfgOK (its := [.bool true, .bool false])
    (ps := [decide (a0 ≥ a1) = true,
      decide (a0 ≤ a2) = false]) (by kernel_rfl) ⟨(decide_eq_true h1), (decide_eq_false h2), trivial⟩ get_spec_l1In (by decide)

theorem spec_l1In_p3 (a0 : Int) (a1 : Int) (a2 : Int)
    (h1 : ¬ (a0 ≥ a1)) :
    SC cfg.P i_spec_l1In [.s (.v (.int .i64) a0), .s (.v (.int .i64) a1), .s (.v (.int .i64) a2)] (.s (.v .bool false)) [] :=
  SC_of_run cfgOK (its := [.bool false])
    (ps := [decide (a0 ≥ a1) = false]) (by kernel_rfl) ⟨(decide_eq_false h1), trivial⟩ get_spec_l1In (by decide)

/-! ### impl_told -/


theorem impl_told_p1 (a0 : Tr) (c1 : Int)
    (h1 : SC cfg.P i_impl_node_carets [.s (.v .tree a0)] (.s (.v (.int .i64) c1)) [])
    (h2 : c1 > (8 : Int)) :
    SC cfg.P i_impl_told [.s (.v .tree a0)] (.tup [.v .str (⟨#[]⟩ : ByteArray), .v .bool false]) [] :=
  SC_of_run cfgOK (its := [.res (.s (.v (.int .i64) c1)) [] [] [], .bool true])
    (ps := [SC cfg.P i_impl_node_carets [.s (.v .tree a0)] (.s (.v (.int .i64) c1)) [],
      decide (c1 > (8 : Int)) = true]) (by kernel_rfl) ⟨h1, (decide_eq_true h2), trivial⟩ get_impl_told (by decide)

theorem impl_told_p2 (a0 : Tr) (c1 : Int) (c2 : ByteArray)
    (h1 : SC cfg.P i_impl_node_carets [.s (.v .tree a0)] (.s (.v (.int .i64) c1)) [])
    (h2 : ¬ (c1 > (8 : Int)))
    (h3 : SC cfg.P i_impl_node_text [.s (.v .tree a0)] (.s (.v .str c2)) []) :
    SC cfg.P i_impl_told [.s (.v .tree a0)] (.tup [.v .str c2, .v .bool true]) [] :=
  SC_of_run cfgOK (its := [.res (.s (.v (.int .i64) c1)) [] [] [], .bool false, .res (.s (.v .str c2)) [] [] []])
    (ps := [SC cfg.P i_impl_node_carets [.s (.v .tree a0)] (.s (.v (.int .i64) c1)) [],
      decide (c1 > (8 : Int)) = false,
      SC cfg.P i_impl_node_text [.s (.v .tree a0)] (.s (.v .str c2)) []]) (by kernel_rfl) ⟨h1, (decide_eq_false h2), h3, trivial⟩ get_impl_told (by decide)

/-! ### impl_common -/


/-! ### spec_trCommon -/


/-! ### impl_isPart -/


/-! ### spec_trAt -/


/-! ### impl_hasLeaf -/


/-! ### impl_node_graft -/


/-! ### spec_trLeaves -/


end Go.AI
end

section
/- Common parts. -/
set_option autoImplicit false
set_option maxRecDepth 100000
set_option linter.unusedVariables false
namespace Go.AI
open Go.Proofs

def comT : Tr → Tr → Tr
  | .leaf, _ => .leaf
  | .node _ _, .leaf => .leaf
  | .node a b, .node c d => .node (comT a c) (comT b d)

end Go.AI
end

section
/- The laws of JoinForests and CommonForest. -/
set_option autoImplicit false
set_option maxRecDepth 100000
set_option linter.unusedVariables false
namespace Go.AI
open Go.Proofs

/-- Each tree of one forest with that of the other one. -/
def eachL (g : Tr → Tr → Tr) (ts us : List Tr) : List Tr := (List.range' 0 (max ts.length us.length)).map fun i => g (ts.getD i .leaf) (us.getD i .leaf)

end Go.AI
end

section
/- Parts. -/
set_option autoImplicit false
set_option maxRecDepth 100000
set_option linter.unusedVariables false
namespace Go.AI
open Go.Proofs

end Go.AI
end

section
/- The law of LeftQuotient. -/
set_option autoImplicit false
set_option maxRecDepth 100000
set_option linter.unusedVariables false
namespace Go.AI
open Go.Proofs

/-- Is each tree part of the other forest's? -/
def fpart (ts us : List Tr) : Bool := (List.range' 0 ts.length).all fun i => partB (ts.getD i .leaf) (us.getD i .leaf)

theorem fpart_all {ts us : List Tr} (h : fpart ts us = true) (i : Nat) : partB (ts.getD i .leaf) (us.getD i .leaf) = true := by
  by_cases hi : i < ts.length
  · exact List.all_eq_true.1 h i (by rw [List.mem_range'_1]; omega)
  · rw [List.getD_eq_getElem?_getD, List.getElem?_eq_none (by omega)]
    rfl

/-- What is left of a forest behind a part of it. -/
def quoL (ts us : List Tr) : List Tr := (List.range' 0 (max ts.length us.length)).flatMap fun i => partsT (ts.getD i .leaf) (us.getD i .leaf)

section
variable {fs gs : List (List UInt8)}

end

end Go.AI
end

section
/- Contracts: forests hung at a right comb; their pairs. -/
set_option autoImplicit false
set_option maxRecDepth 100000
set_option linter.unusedVariables false
namespace Go.AI
open Go.Proofs

/-- The right comb. -/
def combR : Nat → Tr
  | 0 => .leaf
  | n + 1 => .node .leaf (combR n)

theorem combR_c : ∀ n, (combR n).c = n
  | 0 => rfl
  | n + 1 => by simp only [combR, Tr.c, combR_c n]; omega

/-- The right comb with trees in place of its first leaves. -/
def combT : List Tr → Tr
  | [] => .leaf
  | t :: ts => .node t (combT ts)

theorem combT_c : ∀ ts, (combT ts).c = ts.length + sumC ts
  | [] => rfl
  | t :: ts => by
    have := combT_c ts
    have e : sumC (t :: ts) = t.c + sumC ts := by simp [sumC]
    simp only [combT, Tr.c, List.length_cons, e, this]
    omega

theorem grow_comb (ts : List Tr) : ∀ (n k : Nat), k + n = ts.length → growT ts (combR n) k = combT (ts.drop k)
  | 0, k, h => by
    have e : k = ts.length := by omega
    subst e
    rw [List.drop_length, combR, growT, combT, List.getD_eq_getElem?_getD, List.getElem?_eq_none (Nat.le_refl _)]
    rfl
  | n + 1, k, h => by
    have hk : k < ts.length := by omega
    rw [combR, growT, growT, Tr.c, grow_comb ts n (k + (0 + 1)) (by omega), List.drop_eq_getElem_cons hk, combT, List.getD_eq_getElem?_getD, List.getElem?_eq_getElem hk]
    rfl

theorem grownB_SC (us : List Tr) : ∀ (t : Tr) (n : Nat), n + t.c ≤ 2 ^ 30 → SC cfg.P i_impl_node_grown [.s (.v .tree t), .s (.v (.int .i64) (n : Int)), .fn i_impl_forest_tree [.v (.sl .tree) us] []] (.s (.v .tree (growT us t n))) []
  | .leaf, n, _ => impl_node_grownB_p1 _ _ _ _ (ftree_SC us n)
  | .node a b, n, h => by
    simp only [Tr.c] at h
    have hl := leaves_SC a (by omega)
    have ea : IntKind.wrap .i64 ((n : Int) + ((a.c + 1 : Nat) : Int)) = ((n + (a.c + 1) : Nat) : Int) := by rw [w64] <;> omega
    have h2 := grownB_SC us b (n + (a.c + 1)) (by omega)
    rw [← ea] at h2
    exact impl_node_grownB_p2 _ _ _ _ _ _ _ _ (grownB_SC us a n (by omega)) hl h2

theorem combR_succ : ∀ n, combR (n + 1) = .node .leaf (combR n) := fun _ => rfl

theorem rightComb_SC (n : Nat) (h : n ≤ 2 ^ 30) : SC cfg.P i_impl_rightComb [.s (.v (.int .i64) (n : Int))] (.s (.v .tree (combR n))) [] := by
  have key : ∀ (m i : Nat), i + m = n → LoopSC cfg.P 1 (lb P_impl_rightComb 0) (impl_rightComb_L0a (combR i) (n : Int) (i : Int)) (.exit 0) (impl_rightComb_L0X1 (combR n) (n : Int) (n : Int) false) := by
    intro m
    induction m with
    | zero =>
      intro i hi
      have e : i = n := by omega
      subst e
      exact impl_rightComb_L0a_x2 _ _ _ (by omega)
    | succ m ih =>
      intro i hi
      have hn := ih (i + 1) (by omega)
      rw [← wrap_succ (by omega), combR_succ] at hn
      exact impl_rightComb_L0a_i1 _ _ _ (by omega) hn
  exact impl_rightComb_p1 _ _ _ _ _ (key n 0 (by omega))

/-- A forest's pair. -/
def fpP (ts : List Tr) : Tr × Tr := red (combT ts).c (combT ts, combR (combT ts).c)

theorem fp_eqc (ts : List Tr) : (fpP ts).1.c = (fpP ts).2.c := red_eqc _ _ (by simp only [combR_c])

end Go.AI
end

section
/- Plain: forests as rows without an end: stacked, parted, joined; the pairs of stacked forests. -/
set_option autoImplicit false
set_option maxRecDepth 100000
set_option linter.unusedVariables false
namespace Go.AI

theorem getD_far {ts : List Tr} {i : Nat} (h : ts.length ≤ i) : ts.getD i .leaf = .leaf := by
  rw [List.getD_eq_getElem?_getD, List.getElem?_eq_none h]; rfl

theorem offS_offs (ts : List Tr) : ∀ k, offS ts k = offs ts 0 k
  | 0 => rfl
  | k + 1 => by rw [offS, offS_offs ts k, offs_add ts k 0 1, Nat.zero_add, offs, offs]

theorem offs_cons (t : Tr) (ts : List Tr) : ∀ (k n : Nat), offs (t :: ts) (n + 1) k = offs ts n k
  | 0, n => rfl
  | k + 1, n => by rw [offs, offs, offs_cons t ts k (n + 1), List.getD_cons_succ]

theorem offs_nil : ∀ (k n : Nat), offs [] n k = k
  | 0, n => rfl
  | k + 1, n => by rw [offs, offs_nil k]; simp [Tr.c]; omega

theorem offs_far : ∀ (ts : List Tr) (k : Nat), ts.length ≤ k → offs ts 0 k = k + sumC ts
  | [], k, _ => by rw [offs_nil]; rfl
  | t :: ts, k, h => by
    obtain ⟨k, rfl⟩ : ∃ j, k = j + 1 := ⟨k - 1, by rw [List.length_cons] at h; omega⟩
    rw [offs, offs_cons, offs_far ts k (by rw [List.length_cons] at h; omega)]
    have e : sumC (t :: ts) = t.c + sumC ts := by simp [sumC]
    rw [e, List.getD_cons_zero]
    omega

theorem offS_far {ts : List Tr} {k : Nat} (h : ts.length ≤ k) : offS ts k = k + sumC ts := by rw [offS_offs, offs_far ts k h]

/-- A row that lies over two others, stacked. -/
def Stk (F G S : List Tr) : Prop := ∀ i, S.getD i .leaf = growT G (F.getD i .leaf) (offS F i)

theorem stk_of (F G : List Tr) : Stk F G (stackL F G) := stackL_get F G

theorem Stk.trim {F G S : List Tr} (h : Stk F G S) : Stk F G (trim S) := fun i => by rw [trim_getD]; exact h i

theorem Stk.offE {F G S : List Tr} (h : Stk F G S) : ∀ k, offS S k = offS G (offS F k)
  | 0 => rfl
  | k + 1 => by
    rw [offS, offS, h.offE k, h k, growT_offs, offS_offs G (offS F k + ((F.getD k .leaf).c + 1)), offs_add G (offS F k) 0, Nat.zero_add, ← offS_offs]

theorem Stk.sum {F G S : List Tr} (h : Stk F G S) : sumC S = sumC F + sumC G := by
  have e := h.offE (S.length + F.length + G.length)
  rw [offS_far (by omega), offS_far (ts := F) (by omega), offS_far (by omega)] at e
  omega

theorem part_grow (us : List Tr) : ∀ (t : Tr) (n : Nat), partB t (growT us t n) = true
  | .leaf, _ => rfl
  | .node a b, n => by rw [growT, partB, part_grow us a, part_grow us b]; rfl

theorem fpart_iff {ts us : List Tr} : fpart ts us = true ↔ ∀ i, partB (ts.getD i .leaf) (us.getD i .leaf) = true :=
  ⟨fun h i => fpart_all h i, fun h => List.all_eq_true.2 fun i _ => h i⟩

theorem Stk.part {F G S : List Tr} (h : Stk F G S) : fpart F S = true := fpart_iff.2 fun i => by rw [h i]; exact part_grow _ _ _

theorem parts_grow (us : List Tr) : ∀ (t : Tr) (n : Nat), partsT t (growT us t n) = (List.range' n (t.c + 1)).map fun j => us.getD j .leaf
  | .leaf, n => rfl
  | .node a b, n => by
    rw [growT, partsT, parts_grow us a, parts_grow us b, ← List.map_append]
    have e : (Tr.node a b).c + 1 = (a.c + 1) + (b.c + 1) := by simp only [Tr.c]; omega
    rw [e, List.range'_append_1]

theorem quo_rows {F G S : List Tr} (h : Stk F G S) : ∀ m, ((List.range' 0 m).flatMap fun i => partsT (F.getD i .leaf) (S.getD i .leaf)) = (List.range' 0 (offS F m)).map fun j => G.getD j .leaf
  | 0 => rfl
  | m + 1 => by
    have e : List.range' 0 (m + 1) = List.range' 0 m ++ [m] := by rw [List.range'_concat]; simp
    rw [e, List.flatMap_append, quo_rows h m, List.flatMap_cons, List.flatMap_nil, List.append_nil, h m, parts_grow, ← List.map_append, offS]
    have e2 := List.range'_append_1 (s := 0) (m := offS F m) (n := (F.getD m .leaf).c + 1)
    rw [Nat.zero_add] at e2
    rw [e2]

theorem map_getD_leaf (G : List Tr) (n i : Nat) (h : i < n) : ((List.range' 0 n).map fun j => G.getD j .leaf).getD i .leaf = G.getD i .leaf := by
  rw [List.getD_eq_getElem?_getD, List.getElem?_map, List.getElem?_eq_getElem (by rw [List.length_range']; exact h), List.getElem_range']
  simp

theorem Stk.quo {F G S : List Tr} (h : Stk F G S) : ∀ i, (quoL F S).getD i .leaf = G.getD i .leaf := fun i => by
  unfold quoL
  rw [quo_rows h]
  by_cases hi : i < offS F (max F.length S.length)
  · exact map_getD_leaf _ _ _ hi
  · rw [getD_far (by rw [List.length_map, List.length_range']; omega)]
    have e0 := offS_far (ts := F) (k := max F.length S.length) (by omega)
    have hk := h (max F.length S.length + (i - offS F (max F.length S.length)))
    rw [getD_far (ts := S) (by omega), getD_far (ts := F) (by omega), offS_far (by omega), growT] at hk
    rw [show max F.length S.length + (i - offS F (max F.length S.length)) + sumC F = i by omega] at hk
    exact hk

/-- What is left is stacked again. -/
theorem quo_get (F K : List Tr) (hp : fpart F K = true) : ∀ m, ∃ Q, ((List.range' 0 m).flatMap fun i => partsT (F.getD i .leaf) (K.getD i .leaf)) = Q ∧ Q.length = offS F m ∧ ∀ i, i < m → ∀ R, growT (Q ++ R) (F.getD i .leaf) (offS F i) = K.getD i .leaf
  | 0 => ⟨[], rfl, rfl, fun i hi => by omega⟩
  | m + 1 => by
    obtain ⟨Q, e1, e2, e3⟩ := quo_get F K hp m
    have hm := fpart_all hp m
    refine ⟨Q ++ partsT (F.getD m .leaf) (K.getD m .leaf), ?_, ?_, fun i hi R => ?_⟩
    · have e : List.range' 0 (m + 1) = List.range' 0 m ++ [m] := by rw [List.range'_concat]; simp
      rw [e, List.flatMap_append, e1, List.flatMap_cons, List.flatMap_nil, List.append_nil]
    · rw [List.length_append, e2, partsT_len _ _ hm, offS]
    · rw [List.append_assoc]
      by_cases hi' : i < m
      · exact e3 i hi' _
      · have e : i = m := by omega
        subst e
        have := growT_app_r (F.getD i .leaf) Q (partsT (F.getD i .leaf) (K.getD i .leaf) ++ R) 0
        rw [Nat.add_zero, e2] at this
        rw [this, growT_app_l _ _ _ 0 (by rw [partsT_len _ _ hm]; omega), grow_parts _ _ hm]

theorem quo_stk {F K : List Tr} (hp : fpart F K = true) : Stk F (quoL F K) K := fun i => by
  obtain ⟨Q, e1, e2, e3⟩ := quo_get F K hp (max F.length K.length)
  have eq : quoL F K = Q := e1
  rw [eq]
  by_cases hi : i < max F.length K.length
  · have := e3 i hi []
    rw [List.append_nil] at this
    exact this.symm
  · rw [getD_far (ts := K) (by omega), getD_far (ts := F) (by omega), growT, getD_far]
    rw [e2, offS_far (ts := F) (by omega), offS_far (ts := F) (by omega)]
    omega

/-! ### Joins and common parts -/

theorem com_l : ∀ t u : Tr, partB (comT t u) t = true
  | .leaf, _ => rfl
  | .node _ _, .leaf => rfl
  | .node a b, .node c d => by rw [comT, partB, com_l a c, com_l b d]; rfl

theorem com_r : ∀ t u : Tr, partB (comT t u) u = true
  | .leaf, _ => rfl
  | .node _ _, .leaf => rfl
  | .node a b, .node c d => by rw [comT, partB, com_r a c, com_r b d]; rfl

theorem com_eq : ∀ t u : Tr, comT t u = t ↔ partB t u = true
  | .leaf, _ => by simp [comT, partB]
  | .node a b, .leaf => by simp [comT, partB]
  | .node a b, .node c d => by simp [comT, partB, com_eq a c, com_eq b d]

theorem each_get (g : Tr → Tr → Tr) (hg : g .leaf .leaf = .leaf) (ts us : List Tr) (i : Nat) : (eachL g ts us).getD i .leaf = g (ts.getD i .leaf) (us.getD i .leaf) := by
  unfold eachL
  by_cases hi : i < max ts.length us.length
  · rw [List.getD_eq_getElem?_getD, List.getElem?_map, List.getElem?_eq_getElem (by rw [List.length_range']; exact hi), List.getElem_range']
    simp
  · rw [getD_far (by rw [List.length_map, List.length_range']; omega), getD_far (ts := ts) (by omega), getD_far (ts := us) (by omega), hg]

theorem sum_mono {A B : List Tr} (h : ∀ i, (A.getD i .leaf).c ≤ (B.getD i .leaf).c) : sumC A ≤ sumC B := by
  have key : ∀ k, offS A k ≤ offS B k := fun k => by
    induction k with
    | zero => exact Nat.le_refl _
    | succ k ih => rw [offS, offS]; have := h k; omega
  have := key (A.length + B.length)
  rw [offS_far (by omega), offS_far (by omega)] at this
  omega

theorem trim_iff {A B : List Tr} : trim A = trim B ↔ ∀ i, A.getD i .leaf = B.getD i .leaf :=
  ⟨fun h i => by rw [← trim_getD A, h, trim_getD], trim_ext A B⟩

/-! ### Pairs of forests -/

theorem growT_ext {us vs : List Tr} (h : ∀ i, us.getD i .leaf = vs.getD i .leaf) : ∀ (t : Tr) (n : Nat), growT us t n = growT vs t n
  | .leaf, n => h n
  | .node a b, n => by rw [growT, growT, growT_ext h a, growT_ext h b]

theorem combR_rep : ∀ n, combR n = combT (List.replicate n .leaf)
  | 0 => rfl
  | n + 1 => by rw [combR, combR_rep n]; rfl

theorem comb_pad : ∀ (ts : List Tr) (n : Nat), growT (caretAt (n + (combT ts).c)) (combT ts) n = combT (ts ++ [.leaf])
  | [], n => by
    show (caretAt (n + 0)).getD n .leaf = .node .leaf .leaf
    rw [caretAt_at, if_pos (by omega)]
  | t :: ts, n => by
    have e : (combT (t :: ts)).c = t.c + 1 + (combT ts).c := by simp only [combT, Tr.c]; omega
    rw [e, combT, growT, List.cons_append, combT]
    congr 1
    · exact grow_none _ _ _ fun i h1 h2 => by rw [caretAt_at, if_neg (by omega)]
    · have := comb_pad ts (n + (t.c + 1))
      rw [← this]
      congr 2
      omega

/-- What a forest does. -/
def foF (ts : List Tr) : St2 → St2 := fOf (combT ts, combR (combT ts).c)

theorem foF_pad1 (ts : List Tr) : foF (ts ++ [.leaf]) = foF ts := by
  funext s
  unfold foF
  have h1 := comb_pad ts 0
  have h2 := comb_pad (List.replicate (combT ts).c .leaf) 0
  rw [← combR_rep, combR_c] at h2
  rw [Nat.zero_add] at h1 h2
  have e : combT (List.replicate (combT ts).c .leaf ++ [.leaf]) = combR ((combT ts).c + 1) := by
    rw [combR_rep, List.replicate_succ']
  have ec : (combT (ts ++ [.leaf])).c = (combT ts).c + 1 := by rw [combT_c, combT_c]; simp [sumC, Tr.c]; omega
  rw [ec, ← e, ← h1, ← h2]
  exact fOf_grow _ _ _ (by rw [combR_c]) s

theorem foF_pad (ts : List Tr) : ∀ n, foF (ts ++ List.replicate n .leaf) = foF ts
  | 0 => by rw [List.replicate_zero, List.append_nil]
  | n + 1 => by rw [List.replicate_succ', ← List.append_assoc, foF_pad1, foF_pad ts n]

theorem foF_trim (ts : List Tr) : foF (trim ts) = foF ts := by
  obtain ⟨r, e, hr⟩ := trim_prefix ts
  have er : r = List.replicate r.length .leaf := List.eq_replicate_iff.2 ⟨rfl, fun t ht => by have := hr t ht; cases t <;> simp_all [Tr.isLeaf]⟩
  conv => rhs; rw [e, er]
  rw [foF_pad]

theorem foF_ext {A B : List Tr} (h : ∀ i, A.getD i .leaf = B.getD i .leaf) : foF A = foF B := by rw [← foF_trim A, trim_ext A B h, foF_trim]

/-- Trees with others in place of their leaves, one after the other. -/
def gl (us : List Tr) : List Tr → Nat → List Tr
  | [], _ => []
  | t :: ts, n => growT us t n :: gl us ts (n + (t.c + 1))

theorem gl_len (us : List Tr) : ∀ (ts : List Tr) (n : Nat), (gl us ts n).length = ts.length
  | [], _ => rfl
  | t :: ts, n => by rw [gl, List.length_cons, gl_len us ts, List.length_cons]

theorem gl_comb (us : List Tr) : ∀ (ts : List Tr) (n : Nat), us.getD (n + (combT ts).c) .leaf = .leaf → growT us (combT ts) n = combT (gl us ts n)
  | [], n, h => h
  | t :: ts, n, h => by
    have e : (combT (t :: ts)).c = t.c + 1 + (combT ts).c := by simp only [combT, Tr.c]; omega
    rw [e] at h
    rw [combT, growT, gl, combT, gl_comb us ts (n + (t.c + 1)) (by rw [← h]; congr 1; omega)]

theorem gl_get (us : List Tr) : ∀ (ts : List Tr) (n i : Nat), i < ts.length → (gl us ts n).getD i .leaf = growT us (ts.getD i .leaf) (n + offs ts 0 i)
  | [], n, i, h => by simp at h
  | t :: ts, n, 0, h => rfl
  | t :: ts, n, i + 1, h => by
    rw [gl, List.getD_cons_succ, gl_get us ts _ i (by simpa using h), List.getD_cons_succ]
    congr 1
    rw [offs, offs_cons, List.getD_cons_zero]
    omega

theorem pad_get (ts : List Tr) (n i : Nat) : (ts ++ List.replicate n Tr.leaf).getD i .leaf = ts.getD i .leaf := by
  rw [List.getD_eq_getElem?_getD, List.getD_eq_getElem?_getD]
  by_cases h : i < ts.length
  · rw [List.getElem?_append_left h]
  · rw [List.getElem?_append_right (by omega), List.getElem?_eq_none (l := ts) (by omega), List.getElem?_replicate]
    split <;> rfl

theorem Stk.foE {F G S : List Tr} (h : Stk F G S) (s : St2) : foF S s = foF G (foF F s) := by
  let N := F.length + G.length + S.length
  let F' := F ++ List.replicate (N - F.length) .leaf
  have lF' : F'.length = N := by show (F ++ List.replicate _ _).length = N; rw [List.length_append, List.length_replicate]; omega
  have gF' : ∀ i, F'.getD i .leaf = F.getD i .leaf := pad_get F _
  let M := (combT F').c
  have hM : N ≤ M := by show N ≤ (combT F').c; rw [combT_c, lF']; omega
  let G' := G ++ List.replicate (M - G.length) .leaf
  have lG' : G'.length = M := by show (G ++ List.replicate _ _).length = M; rw [List.length_append, List.length_replicate]; omega
  have gG' : ∀ i, G'.getD i .leaf = G.getD i .leaf := pad_get G _
  have e1 : growT G' (combR M) 0 = combT G' := by
    have := grow_comb G' M 0 (by omega)
    rw [List.drop_zero] at this
    exact this
  have e2 : growT G' (combT F') 0 = combT (gl G' F' 0) := gl_comb G' F' 0 (by rw [Nat.zero_add]; exact getD_far (by rw [lG']; exact Nat.le_refl _))
  have e3 : foF (gl G' F' 0) = foF S := foF_ext fun i => by
    by_cases hi : i < N
    · rw [gl_get _ _ _ _ (by omega), h i, gF' i, Nat.zero_add, ← offS_offs, offS_ext gF', growT_ext gG']
    · rw [getD_far (by rw [gl_len]; omega), h i, getD_far (ts := F) (by omega), growT, getD_far]
      have := offS_ge F i
      omega
  have e4 : (combT (gl G' F' 0)).c = (combT G').c := by
    have a := growT_offs G' (combT F') 0
    have b := growT_offs G' (combR M) 0
    rw [combR_c] at b
    have : (growT G' (combT F') 0).c + 1 = (growT G' (combR M) 0).c + 1 := by rw [a, b]
    rw [e1, e2] at this
    omega
  rw [← e3, show foF G = foF G' from (foF_pad G _).symm, show foF F = foF F' from (foF_pad F _).symm]
  have e5 : foF F' s = fOf (growT G' (combT F') 0, growT G' (combR M) 0) s := (fOf_grow G' _ _ (by rw [combR_c]) s).symm
  rw [e5, e1, e2]
  show fOf (combT (gl G' F' 0), combR (combT (gl G' F' 0)).c) s = fOf (combT G', combR (combT G').c) _
  rw [e4, fOf_comp _ _ _ e4]

theorem fp_fOf (ts : List Tr) (s : St2) : fOf (fpP ts) s = foF ts s := by
  unfold fpP foF
  rw [fOf_red _ _ (by rw [combR_c])]

theorem fp_red (ts : List Tr) : bothL (fpP ts) = [] := red_done _ _ (Nat.le_refl _)

theorem Stk.pair {F G S : List Tr} (h : Stk F G S) : timesT (fpP F) (fpP G) = fpP S :=
  red_unique _ _ (times_eqc _ _ (fp_eqc F) (fp_eqc G)) (fp_eqc S) (times_red _ _) (fp_red S) fun s => by
    rw [fOf_times _ _ (fp_eqc F) (fp_eqc G), fp_fOf, fp_fOf, fp_fOf, h.foE]

theorem fp_ext {A B : List Tr} (h : ∀ i, A.getD i .leaf = B.getD i .leaf) : fpP A = fpP B :=
  red_unique _ _ (fp_eqc A) (fp_eqc B) (fp_red A) (fp_red B) fun s => by rw [fp_fOf, fp_fOf, foF_ext h]

end Go.AI
end
