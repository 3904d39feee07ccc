/- Contracts: exposed carets, dropped carets, what both trees have. -/
import Derived.Test.YtcbhdileamhklaaGZ
import Derived.Test.YtcbhdileamhklaaCT
set_option autoImplicit false
set_option maxRecDepth 100000
set_option linter.unusedVariables false
namespace Go.AI
open Go.Proofs

/-- The left leaves of the exposed carets. -/
def exL : Tr → Nat → List Nat
  | .leaf, _ => []
  | .node l r, k => if l.isLeaf = true ∧ r.isLeaf = true then [k] else exL l k ++ exL r (k + l.c + 1)

/-- A tree without an exposed caret. -/
def wo : Tr → Nat → Tr
  | .leaf, _ => .leaf
  | .node l r, k => if l.isLeaf = true ∧ r.isLeaf = true then .leaf else if l.c + 1 ≤ k then .node l (wo r (k - (l.c + 1))) else .node (wo l k) r

theorem exL_node (l r : Tr) (k : Nat) : exL (.node l r) k = if l.isLeaf = true ∧ r.isLeaf = true then [k] else exL l k ++ exL r (k + l.c + 1) := rfl

theorem wo_node (l r : Tr) (k : Nat) : wo (.node l r) k = if l.isLeaf = true ∧ r.isLeaf = true then .leaf else if l.c + 1 ≤ k then .node l (wo r (k - (l.c + 1))) else .node (wo l k) r := rfl

theorem exL_range : ∀ (t : Tr) (k x : Nat), x ∈ exL t k → k ≤ x ∧ x < k + t.c
  | .leaf, _, _, h => by simp [exL] at h
  | .node l r, k, x, h => by
    simp only [exL] at h
    simp only [Tr.c]
    split at h
    · simp at h; omega
    · rcases List.mem_append.1 h with h | h
      · have := exL_range l k x h; omega
      · have := exL_range r _ x h; omega

theorem exL_shift : ∀ (t : Tr) (k d : Nat), exL t (k + d) = (exL t k).map (· + d)
  | .leaf, _, _ => rfl
  | .node l r, k, d => by
    simp only [exL]
    split
    · rfl
    · rw [exL_shift l k d, show k + d + l.c + 1 = (k + l.c + 1) + d by omega, exL_shift r _ d, List.map_append]

theorem exL_len : ∀ (t : Tr) (k : Nat), (exL t k).length ≤ t.c
  | .leaf, _ => Nat.le_refl _
  | .node l r, k => by
    simp only [exL, Tr.c]
    split
    · simp; omega
    · rw [List.length_append]
      have := exL_len l k
      have := exL_len r (k + l.c + 1)
      omega

abbrev ints (l : List Nat) : List Int := l.map fun n : Nat => (n : Int)

theorem zokI (l m : List Int) (h : l.length + m.length ≤ 2 ^ 40) : sizeOK (List.length l + List.length m) := h

theorem leaves_SC (t : Tr) (h : t.c ≤ 2 ^ 30) : SC cfg.P i_impl_node_leaves [.s (.v .tree t)] (.s (.v (.int .i64) ((t.c + 1 : Nat) : Int))) [] := by
  have := impl_node_leaves_p1 t _ (carets_SC t (by omega))
  have e : IntKind.wrap .i64 ((t.c : Int) + 1) = ((t.c + 1 : Nat) : Int) := by rw [w64] <;> omega
  rw [e] at this
  exact this

theorem exposed_SC : ∀ (t : Tr) (k : Nat), t.c ≤ 2 ^ 30 → k ≤ 2 ^ 31 - t.c → SC cfg.P i_impl_node_exposed [.s (.v .tree t), .s (.v (.int .i64) (k : Int))] (.s (.own t_int (.int .i64) (ints (exL t k)))) []
  | .leaf, k, _, _ => impl_node_exposed_p1 _
  | .node .leaf .leaf, k, _, _ => by
    have e : ints (exL (.node .leaf .leaf) k) = [(k : Int)] := by simp [exL, Tr.isLeaf]
    rw [e]
    exact impl_node_exposed_p2 _
  | .node .leaf (.node rl rr), k, hc, hk => by
    have h1 := exposed_SC .leaf k (by simp only [Tr.c] at *; omega) (by simp only [Tr.c] at *; omega)
    have h2 := leaves_SC .leaf (by simp [Tr.c])
    have h3 := exposed_SC (.node rl rr) (k + 1) (by simp only [Tr.c] at *; omega) (by simp only [Tr.c] at *; omega)
    have ek : IntKind.wrap .i64 ((k : Int) + ((Tr.leaf.c + 1 : Nat) : Int)) = ((k + 1 : Nat) : Int) := by simp only [Tr.c] at *; rw [w64] <;> omega
    rw [← ek] at h3
    have e : ints (exL (.node .leaf (.node rl rr)) k) = ints (exL .leaf k) ++ ints (exL (.node rl rr) (k + 1)) := by
      rw [exL_node, if_neg (by simp [Tr.isLeaf]), ← List.map_append]; rfl
    rw [e]
    have l1 := exL_len (.node rl rr) (k + 1)
    exact impl_node_exposed_p3 _ _ _ _ _ _ h1 h2 h3 (zokI _ _ (by
      have e0 : exL .leaf k = [] := rfl
      simp only [List.length_map, e0, List.length_nil]
      simp only [Tr.c] at *
      omega))
  | .node (.node ll lr) r, k, hc, hk => by
    have h1 := exposed_SC (.node ll lr) k (by simp only [Tr.c] at *; omega) (by simp only [Tr.c] at *; omega)
    have h2 := leaves_SC (.node ll lr) (by simp only [Tr.c] at *; omega)
    have h3 := exposed_SC r (k + (Tr.node ll lr).c + 1) (by simp only [Tr.c] at *; omega) (by simp only [Tr.c] at *; omega)
    have ek : IntKind.wrap .i64 ((k : Int) + (((Tr.node ll lr).c + 1 : Nat) : Int)) = ((k + (Tr.node ll lr).c + 1 : Nat) : Int) := by simp only [Tr.c] at *; rw [w64] <;> omega
    rw [← ek] at h3
    have e : ints (exL (.node (.node ll lr) r) k) = ints (exL (.node ll lr) k) ++ ints (exL r (k + (Tr.node ll lr).c + 1)) := by
      rw [exL_node, if_neg (by simp [Tr.isLeaf]), ← List.map_append]
    rw [e]
    have l1 := exL_len (.node ll lr) k
    have l2 := exL_len r (k + (Tr.node ll lr).c + 1)
    exact impl_node_exposed_p4 _ _ _ _ _ _ _ h1 h2 h3 (zokI _ _ (by simp only [List.length_map]; simp only [Tr.c] at *; omega))

theorem without_SC : ∀ (t : Tr) (k : Nat), t.c ≤ 2 ^ 30 → k ∈ exL t 0 → SC cfg.P i_impl_node_without [.s (.v .tree t), .s (.v (.int .i64) (k : Int))] (.s (.v .tree (wo t k))) []
  | .leaf, k, _, h => by simp [exL] at h
  | .node .leaf .leaf, k, _, h => by
    have e : wo (.node .leaf .leaf) k = .leaf := by simp [wo, Tr.isLeaf]
    rw [e]
    exact impl_node_without_p1 _
  | .node .leaf (.node rl rr), k, hc, h => by
    rw [exL_node, if_neg (by simp [Tr.isLeaf])] at h
    have hk : k ∈ exL (.node rl rr) 1 := by
      rcases List.mem_append.1 h with h | h
      · cases h
      · exact h
    have hr := exL_range _ _ _ hk
    have hm : k - 1 ∈ exL (.node rl rr) 0 := by
      have e := exL_shift (.node rl rr) 0 1
      rw [Nat.zero_add] at e
      rw [e] at hk
      obtain ⟨y, hy, rfl⟩ := List.mem_map.1 hk
      simpa using hy
    have h3 := without_SC (.node rl rr) (k - 1) (by simp only [Tr.c] at *; omega) hm
    have h2 := leaves_SC .leaf (by simp [Tr.c])
    have ek : IntKind.wrap .i64 ((k : Int) - ((Tr.leaf.c + 1 : Nat) : Int)) = ((k - 1 : Nat) : Int) := by simp only [Tr.c] at *; rw [w64] <;> omega
    rw [← ek] at h3
    have e : wo (.node .leaf (.node rl rr)) k = .node .leaf (wo (.node rl rr) (k - 1)) := by
      rw [wo_node, if_neg (by simp [Tr.isLeaf]), if_pos (by simp only [Tr.c]; omega)]; rfl
    rw [e]
    exact impl_node_without_p2 _ _ _ _ _ h2 (by simp only [Tr.c]; omega) h3
  | .node (.node ll lr) r, k, hc, h => by
    rw [exL_node, if_neg (by simp [Tr.isLeaf])] at h
    have h2 := leaves_SC (.node ll lr) (by simp only [Tr.c] at *; omega)
    rcases List.mem_append.1 h with h | h
    · have hr := exL_range _ _ _ h
      have h3 := without_SC (.node ll lr) k (by simp only [Tr.c] at *; omega) h
      have e : wo (.node (.node ll lr) r) k = .node (wo (.node ll lr) k) r := by
        rw [wo_node, if_neg (by simp [Tr.isLeaf]), if_neg (by omega)]
      rw [e]
      exact impl_node_without_p5 _ _ _ _ _ _ h2 (by omega) h3
    · have hr := exL_range _ _ _ h
      have hm : k - ((Tr.node ll lr).c + 1) ∈ exL r 0 := by
        have e := exL_shift r 0 (0 + (Tr.node ll lr).c + 1)
        rw [Nat.zero_add] at e
        rw [e] at h
        obtain ⟨y, hy, rfl⟩ := List.mem_map.1 h
        have e2 : y + (0 + (Tr.node ll lr).c + 1) - ((Tr.node ll lr).c + 1) = y := by omega
        rw [e2]
        exact hy
      have h3 := without_SC r (k - ((Tr.node ll lr).c + 1)) (by simp only [Tr.c] at *; omega) hm
      have ek : IntKind.wrap .i64 ((k : Int) - (((Tr.node ll lr).c + 1 : Nat) : Int)) = ((k - ((Tr.node ll lr).c + 1) : Nat) : Int) := by simp only [Tr.c] at *; rw [w64] <;> omega
      rw [← ek] at h3
      have e : wo (.node (.node ll lr) r) k = .node (.node ll lr) (wo r (k - ((Tr.node ll lr).c + 1))) := by
        rw [wo_node, if_neg (by simp [Tr.isLeaf]), if_pos (by omega)]
      rw [e]
      exact impl_node_without_p4 _ _ _ _ _ _ h2 (by omega) h3

theorem wo_c : ∀ (t : Tr) (k : Nat), k ∈ exL t 0 → (wo t k).c + 1 = t.c
  | .leaf, k, h => by simp [exL] at h
  | .node l r, k, h => by
    rw [exL_node] at h
    rw [wo_node]
    split
    · rename_i hl
      cases l <;> cases r <;> simp_all [Tr.isLeaf, Tr.c]
    · rename_i hl
      rw [if_neg hl] at h
      rcases List.mem_append.1 h with h | h
      · have hr := exL_range _ _ _ h
        have := wo_c l k h
        rw [if_neg (by omega)]
        simp only [Tr.c]; omega
      · have hr := exL_range _ _ _ h
        have hm : k - (l.c + 1) ∈ exL r 0 := by
          have e := exL_shift r 0 (0 + l.c + 1)
          rw [Nat.zero_add] at e
          rw [e] at h
          obtain ⟨y, hy, rfl⟩ := List.mem_map.1 h
          have e2 : y + (0 + l.c + 1) - (l.c + 1) = y := by omega
          rw [e2]
          exact hy
        have := wo_c r _ hm
        rw [if_pos (by omega)]
        simp only [Tr.c]; omega

theorem text_SC : ∀ (t : Tr), t.c ≤ 2 ^ 30 → SC cfg.P i_impl_node_text [.s (.v .tree t)] (.s (.v .str (bs (txt t)))) []
  | .leaf, _ => impl_node_text_p1
  | .node l r, h => by
    simp only [Tr.c] at h
    have h1 := text_SC l (by omega)
    have h2 := text_SC r (by omega)
    have e : bs (txt (.node l r)) = (((⟨#[40]⟩ : ByteArray) ++ bs (txt l)) ++ bs (txt r)) ++ (⟨#[41]⟩ : ByteArray) := by
      show _ = ((bs [40] ++ bs (txt l)) ++ bs (txt r)) ++ bs [41]
      rw [bs_append, bs_append, bs_append]
      simp [txt]
    have s1 : ((⟨#[40]⟩ : ByteArray)).size = 1 := rfl
    have s2 : ((⟨#[41]⟩ : ByteArray)).size = 1 := rfl
    have q1 : ((⟨#[40]⟩ : ByteArray) ++ bs (txt l)).size = 1 + (txt l).length := by
      show (bs [40] ++ bs (txt l)).size = _
      rw [bs_append, bs_size]; simp; omega
    have q2 : (((⟨#[40]⟩ : ByteArray) ++ bs (txt l)) ++ bs (txt r)).size = 1 + (txt l).length + (txt r).length := by
      show ((bs [40] ++ bs (txt l)) ++ bs (txt r)).size = _
      rw [bs_append, bs_append, bs_size]; simp; omega
    have l1 := txt_len l
    have l2 := txt_len r
    rw [e]
    exact impl_node_text_p2 _ _ _ _ h1 (by rw [s1, bs_size]; omega) h2 (by rw [q1, bs_size]; omega) (by rw [q2, s2]; omega)

/-! ### Search -/

theorem index_SC (l : List Nat) (hl : l.length ≤ 2 ^ 40) (x : Nat) : SC cfg.P i_slices_Contains [.s (.v (.sl (.int .i64)) (ints l)), .s (.v (.int .i64) (x : Int))] (.s (.v .bool (l.contains x))) [] := by
  have key : ∀ (m i : Nat), l.length - i = m → i ≤ l.length →
      ((l.drop i).contains x = true → ∃ j : Nat, LoopSC cfg.P 2 (lb P_slices_Index 0) (slices_Index_L0a (ints l) (x : Int) ((List.length (ints l) : Nat) : Int) (i : Int)) .ret (slices_Index_L0X1 (j : Int))) ∧
      ((l.drop i).contains x = false → LoopSC cfg.P 2 (lb P_slices_Index 0) (slices_Index_L0a (ints l) (x : Int) ((List.length (ints l) : Nat) : Int) (i : Int)) (.exit 0) (slices_Index_L0X2 (ints l) (x : Int) ((List.length (ints l) : Nat) : Int) (l.length : Int) false)) := by
    have hle : List.length (ints l) = l.length := List.length_map ..
    intro m
    induction m with
    | zero =>
      intro i hm hi
      have e : i = l.length := by omega
      subst e
      refine ⟨fun h => ?_, fun _ => slices_Index_L0a_x3 _ _ _ _ (by rw [hle]; omega)⟩
      rw [List.drop_length] at h
      cases h
    | succ m ih =>
      intro i hm hi
      have hlt : i < l.length := by omega
      obtain ⟨h1, h2⟩ := ih (i + 1) (by omega) (by omega)
      have e1 : IntKind.wrap .i64 ((i : Int) + 1) = ((i + 1 : Nat) : Int) := by rw [w64] <;> omega
      have hg : List.getD (ints l) ((i : Int)).toNat (0 : Int) = (l[i] : Int) := by
        rw [Int.toNat_natCast, List.getD_eq_getElem?_getD, List.getElem?_map, List.getElem?_eq_getElem hlt]; rfl
      have hd : (l.drop i).contains x = (x == l[i] || (l.drop (i + 1)).contains x) := by
        rw [List.drop_eq_getElem_cons hlt, List.contains_cons]
      rw [hd]
      by_cases hx : x = l[i]
      · have hb : (x == l[i]) = true := by rw [beq_iff_eq]; exact hx
        rw [hb]
        exact ⟨fun _ => ⟨i, slices_Index_L0a_x1 _ _ _ _ (by rw [hle]; omega) (by omega) (by rw [hle]; omega) (by rw [hg, ← hx])⟩, fun h => by simp at h⟩
      · have hb : (x == l[i]) = false := by rw [beq_eq_false_iff_ne]; exact hx
        have hne : (x : Int) ≠ List.getD (ints l) ((i : Int)).toNat (0 : Int) := by rw [hg]; omega
        rw [hb, Bool.false_or]
        refine ⟨fun h => ?_, fun h => ?_⟩
        · obtain ⟨j, hj⟩ := h1 h
          rw [← e1] at hj
          exact ⟨j, slices_Index_L0a_i2 _ _ _ _ (by rw [hle]; omega) (by omega) (by rw [hle]; omega) hne hj⟩
        · have hj := h2 h
          rw [← e1] at hj
          exact slices_Index_L0a_i2 _ _ _ _ (by rw [hle]; omega) (by omega) (by rw [hle]; omega) hne hj
  obtain ⟨h1, h2⟩ := key l.length 0 (by omega) (by omega)
  rw [List.drop_zero] at h1 h2
  cases h : l.contains x with
  | true =>
    obtain ⟨j, hj⟩ := h1 h
    exact slices_Contains_p1 _ _ _ (slices_Index_p1 _ _ _ hj) (by omega)
  | false => exact slices_Contains_p2 _ _ _ (slices_Index_p2 _ _ _ _ _ _ _ (h2 h)) (by omega)

theorem has_SC (l : List Nat) (hl : l.length ≤ 2 ^ 40) (x : Nat) : SC cfg.P i_spec_l1Has [.s (.v (.sl (.int .i64)) (ints l)), .s (.v (.int .i64) (x : Int))] (.s (.v .bool (l.contains x))) [] := by
  have key : ∀ (m i : Nat), l.length - i = m → i ≤ l.length →
      ((l.drop i).contains x = true → LoopSC cfg.P 2 (lb P_spec_l1Has 0) (spec_l1Has_L0a (x : Int) (ints l) ((List.length (ints l) : Nat) : Int) (i : Int)) .ret (spec_l1Has_L0X1 true)) ∧
      ((l.drop i).contains x = false → LoopSC cfg.P 2 (lb P_spec_l1Has 0) (spec_l1Has_L0a (x : Int) (ints l) ((List.length (ints l) : Nat) : Int) (i : Int)) (.exit 0) (spec_l1Has_L0X2 (x : Int) (ints l) ((List.length (ints l) : Nat) : Int) (l.length : Int) false)) := by
    have hle : List.length (ints l) = l.length := List.length_map ..
    intro m
    induction m with
    | zero =>
      intro i hm hi
      have e : i = l.length := by omega
      subst e
      refine ⟨fun h => ?_, fun _ => spec_l1Has_L0a_x3 _ _ _ _ (by rw [hle]; omega)⟩
      rw [List.drop_length] at h
      cases h
    | succ m ih =>
      intro i hm hi
      have hlt : i < l.length := by omega
      obtain ⟨h1, h2⟩ := ih (i + 1) (by omega) (by omega)
      have e1 : IntKind.wrap .i64 ((i : Int) + 1) = ((i + 1 : Nat) : Int) := by rw [w64] <;> omega
      have hg : List.getD (ints l) ((i : Int)).toNat (0 : Int) = (l[i] : Int) := by
        rw [Int.toNat_natCast, List.getD_eq_getElem?_getD, List.getElem?_map, List.getElem?_eq_getElem hlt]; rfl
      have hd : (l.drop i).contains x = (x == l[i] || (l.drop (i + 1)).contains x) := by
        rw [List.drop_eq_getElem_cons hlt, List.contains_cons]
      rw [hd]
      by_cases hx : x = l[i]
      · have hb : (x == l[i]) = true := by rw [beq_iff_eq]; exact hx
        rw [hb]
        exact ⟨fun _ => spec_l1Has_L0a_x1 _ _ _ _ (by rw [hle]; omega) (by omega) (by rw [hle]; omega) (by rw [hg, ← hx]), fun h => by simp at h⟩
      · have hb : (x == l[i]) = false := by rw [beq_eq_false_iff_ne]; exact hx
        have hne : List.getD (ints l) ((i : Int)).toNat (0 : Int) ≠ (x : Int) := by rw [hg]; omega
        rw [hb, Bool.false_or]
        refine ⟨fun h => ?_, fun h => ?_⟩
        · have hj := h1 h
          rw [← e1] at hj
          exact spec_l1Has_L0a_i2 _ _ _ _ (by rw [hle]; omega) (by omega) (by rw [hle]; omega) hne hj
        · have hj := h2 h
          rw [← e1] at hj
          exact spec_l1Has_L0a_i2 _ _ _ _ (by rw [hle]; omega) (by omega) (by rw [hle]; omega) hne hj
  obtain ⟨h1, h2⟩ := key l.length 0 (by omega) (by omega)
  rw [List.drop_zero] at h1 h2
  cases h : l.contains x with
  | true => exact spec_l1Has_p1 _ _ _ (h1 h)
  | false => exact spec_l1Has_p2 _ _ _ _ _ _ _ (h2 h)

/-! ### What both trees have exposed -/

def bothL (p : Tr × Tr) : List Nat := (exL p.1 0).filter fun k => (exL p.2 0).contains k

theorem implBoth_L (f t : List Nat) (hf : f.length ≤ 2 ^ 30) (ht : t.length ≤ 2 ^ 30) : ∀ (m i : Nat) (cur : List Nat), f.length - i = m → i ≤ f.length → cur.length ≤ i →
    LoopSC cfg.P 1 (lb P_impl_pair_both 0) (impl_pair_both_L0a ((List.length (ints f) : Nat) : Int) (i : Int) (ints cur) (ints t) (ints f)) (.exit 0) (impl_pair_both_L0X1 ((List.length (ints f) : Nat) : Int) (f.length : Int) false (ints (cur ++ (f.drop i).filter fun k => t.contains k)) (ints t) (ints f)) := by
  have hle : List.length (ints f) = f.length := List.length_map ..
  intro m
  induction m with
  | zero =>
    intro i cur hm hi hc
    have e : i = f.length := by omega
    subst e
    rw [List.drop_length, List.filter_nil, List.append_nil]
    exact impl_pair_both_L0a_x3 _ _ _ _ _ (by rw [hle]; omega)
  | succ m ih =>
    intro i cur hm hi hc
    have hlt : i < f.length := by omega
    have e1 : IntKind.wrap .i64 ((i : Int) + 1) = ((i + 1 : Nat) : Int) := by rw [w64] <;> omega
    have hg : List.getD (ints f) ((i : Int)).toNat (0 : Int) = (f[i] : Int) := by
      rw [Int.toNat_natCast, List.getD_eq_getElem?_getD, List.getElem?_map, List.getElem?_eq_getElem hlt]; rfl
    have hk := index_SC t (by omega) f[i]
    rw [← hg] at hk
    have g1 : (i : Int) < ((List.length (ints f) : Nat) : Int) := by rw [hle]; omega
    rw [List.drop_eq_getElem_cons hlt, List.filter_cons]
    by_cases hin : t.contains f[i] = true
    · rw [if_pos hin]
      rw [hin] at hk
      have hn := ih (i + 1) (cur ++ [f[i]]) (by omega) (by omega) (by simp; omega)
      have e2 : ints (cur ++ [f[i]]) = ints cur ++ [List.getD (ints f) ((i : Int)).toNat (0 : Int)] := by rw [hg]; simp
      rw [List.append_assoc, List.singleton_append, ← e1, e2] at hn
      exact impl_pair_both_L0a_i1 _ _ _ _ _ g1 (by omega) g1 (by rw [hle]; omega) hk (zokI _ _ (by simp; omega)) hn
    · rw [if_neg hin]
      have hin' : t.contains f[i] = false := by simpa using hin
      rw [hin'] at hk
      have hn := ih (i + 1) cur (by omega) (by omega) (by omega)
      rw [← e1] at hn
      exact impl_pair_both_L0a_i2 _ _ _ _ _ g1 (by omega) g1 (by rw [hle]; omega) hk hn

theorem both_SC (p : Tr × Tr) (h1 : p.1.c ≤ 2 ^ 20) (h2 : p.2.c ≤ 2 ^ 20) : SC cfg.P i_impl_pair_both [.s (.v (.pr .tree .tree) p)] (.s (.own t_int (.int .i64) (ints (bothL p)))) [] := by
  have e1 := exposed_SC p.1 0 (by omega) (by omega)
  have e2 := exposed_SC p.2 0 (by omega) (by omega)
  have l1 := exL_len p.1 0
  have l2 := exL_len p.2 0
  have hL := implBoth_L (exL p.1 0) (exL p.2 0) (by omega) (by omega) _ 0 [] rfl (by omega) (by simp)
  rw [List.drop_zero, List.nil_append] at hL
  exact impl_pair_both_p1 _ _ _ _ _ _ _ _ _ e2 e1 hL

theorem bothL_mem {p : Tr × Tr} {k : Nat} (h : k ∈ bothL p) : k ∈ exL p.1 0 ∧ k ∈ exL p.2 0 := by
  simp only [bothL, List.mem_filter, List.contains_iff_mem] at h
  exact h

/-- The reduced pair: the first common exposed caret is dropped, again and again. -/
def red : Nat → Tr × Tr → Tr × Tr
  | 0, p => p
  | n + 1, p => match bothL p with
    | [] => p
    | k :: _ => red n (wo p.1 k, wo p.2 k)

theorem drop_SC (p : Tr × Tr) (k : Nat) (h1 : p.1.c ≤ 2 ^ 20) (h2 : p.2.c ≤ 2 ^ 20) (h : k ∈ bothL p) : SC cfg.P i_impl_pair_drop [.s (.v (.pr .tree .tree) p), .s (.v (.int .i64) (k : Int))] (.s (.v (.pr .tree .tree) (wo p.1 k, wo p.2 k))) [] :=
  impl_pair_drop_p1 _ _ _ _ (without_SC _ _ (by omega) (bothL_mem h).1) (without_SC _ _ (by omega) (bothL_mem h).2)

theorem plain_SC (p : Tr × Tr) (h1 : p.1.c ≤ 2 ^ 20) (h2 : p.2.c ≤ 2 ^ 20) : SC cfg.P i_impl_pair_plain [.s (.v (.pr .tree .tree) p)] (.s (.v (.pr .str .str) (bs (txt p.1), bs (txt p.2)))) [] :=
  impl_pair_plain_p1 _ _ _ (text_SC _ (by omega)) (text_SC _ (by omega))

end Go.AI
