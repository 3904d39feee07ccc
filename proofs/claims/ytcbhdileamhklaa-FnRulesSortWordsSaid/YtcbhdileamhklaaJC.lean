/- A part of the road: what it proves stands in its last texts. -/
import Derived.Test.YtcbhdileamhklaaGZ
import Derived.Test.YtcbhdileamhklaaCR
import Derived.Test.YtcbhdileamhklaaCPg
import Derived.Test.YtcbhdileamhklaaCT
section
/- Contracts: exposed carets in texts. -/
set_option autoImplicit false
set_option maxRecDepth 100000
set_option linter.unusedVariables false
namespace Go.AI
open Go.Proofs

/-- The reference's search for '(..)': by the sign before. -/
def exG : UInt8 → List UInt8 → Nat → List Nat
  | _, [], _ => []
  | c0, c :: r, k => (if c0 = 40 ∧ c = 46 ∧ r.take 2 = [46, 41] then [k] else []) ++ exG c r (k + if c = 46 then 1 else 0)

def lastC : Tr → UInt8
  | .leaf => 46
  | .node _ _ => 41

theorem txt_take (r : Tr) (q : List UInt8) : (txt r ++ 41 :: q).take 2 = [46, 41] ↔ r.isLeaf = true := by
  cases r with
  | leaf => simp [txt, Tr.isLeaf]
  | node a b => simp [txt, Tr.isLeaf]

theorem exG_txt : ∀ (t : Tr) (c0 : UInt8) (q : List UInt8) (k : Nat), exG c0 (txt t ++ q) k = (if t.isLeaf = true then (if c0 = 40 ∧ q.take 2 = [46, 41] then [k] else []) else exL t k) ++ exG (lastC t) q (k + t.c + 1)
  | .leaf, c0, q, k => by
    simp [txt, exG, Tr.isLeaf, lastC, Tr.c]
  | .node l r, c0, q, k => by
    have e : txt (.node l r) ++ q = 40 :: (txt l ++ (txt r ++ 41 :: q)) := by simp [txt]
    rw [e]
    have hl := exG_txt l 40 (txt r ++ 41 :: q) k
    have hr := exG_txt r (lastC l) (41 :: q) (k + l.c + 1)
    have hll : lastC l ≠ 40 := by
      cases l
      · show (46 : UInt8) ≠ 40; decide
      · show (41 : UInt8) ≠ 40; decide
    have h0 : ∀ (c : UInt8) (z : List UInt8) (j : Nat), exG c (40 :: z) j = exG 40 z j := fun c z j => by
      have n : ¬ (c = 40 ∧ (40 : UInt8) = 46 ∧ z.take 2 = [46, 41]) := fun h => absurd h.2.1 (by decide)
      have n2 : ¬ ((40 : UInt8) = 46) := by decide
      simp only [exG, if_neg n, if_neg n2, List.nil_append, Nat.add_zero]
    have h1 : ∀ (c : UInt8) (z : List UInt8) (j : Nat), exG c (41 :: z) j = exG 41 z j := fun c z j => by
      have n : ¬ (c = 40 ∧ (41 : UInt8) = 46 ∧ z.take 2 = [46, 41]) := fun h => absurd h.2.1 (by decide)
      have n2 : ¬ ((41 : UInt8) = 46) := by decide
      simp only [exG, if_neg n, if_neg n2, List.nil_append, Nat.add_zero]
    rw [h0, hl, hr, h1]
    have hgoal : (if (Tr.node l r).isLeaf = true then (if c0 = 40 ∧ q.take 2 = [46, 41] then [k] else []) else exL (.node l r) k) = exL (.node l r) k := if_neg (by simp [Tr.isLeaf])
    rw [hgoal, exL_node]
    have hq : k + l.c + 1 + r.c + 1 = k + (Tr.node l r).c + 1 := by simp only [Tr.c]; omega
    rw [hq, ← List.append_assoc]
    congr 1
    have hr0 : (if r.isLeaf = true then if lastC l = 40 ∧ List.take 2 (41 :: q) = [46, 41] then [k + l.c + 1] else [] else exL r (k + l.c + 1)) = exL r (k + l.c + 1) := by
      cases r with
      | leaf => exact (if_pos rfl).trans (if_neg (fun h => hll h.1))
      | node a b => rfl
    rw [hr0]
    cases l with
    | node a b =>
      have : ((Tr.node a b).isLeaf = true) = False := by simp [Tr.isLeaf]
      simp only [this, false_and, if_false]
    | leaf =>
      have hlf : (Tr.leaf.isLeaf = true) = True := by simp [Tr.isLeaf]
      simp only [hlf, if_true, true_and, txt_take]
      cases r with
      | leaf => simp [Tr.isLeaf, exL]
      | node a b => simp [Tr.isLeaf, exL]

theorem exG_all (t : Tr) : exG 0 (txt t) 0 = exL t 0 := by
  have := exG_txt t 0 [] 0
  rw [List.append_nil] at this
  rw [this]
  cases t with
  | leaf => simp [Tr.isLeaf, exG, exL]
  | node l r => simp [Tr.isLeaf, exG]

theorem exG_bound : ∀ (l : List UInt8) (c : UInt8) (k : Nat), (exG c l k).length ≤ l.length
  | [], _, _ => by simp [exG]
  | c :: r, c0, k => by
    simp only [exG, List.length_append, List.length_cons]
    have := exG_bound r c (k + if c = 46 then 1 else 0)
    split <;> simp <;> omega

/-- The sign before a place. -/
def before (l : List UInt8) (i : Nat) : UInt8 := if i = 0 then 0 else l.getD (i - 1) 0

theorem pat_iff (l r : List UInt8) (c : UInt8) (i : Nat) (hi : 1 ≤ i) (h : l.drop i = c :: r) (hlen : i + 2 < l.length) :
    ByteArray.extract (bs l) (i - 1) (i + 3) = (⟨#[40, 46, 46, 41]⟩ : ByteArray) ↔ (before l i = 40 ∧ c = 46 ∧ r.take 2 = [46, 41]) := by
  have hb : before l i = l[i - 1]'(by omega) := by
    rw [before, if_neg (by omega), List.getD_eq_getElem?_getD, List.getElem?_eq_getElem (by omega)]
    rfl
  have hd : l.drop (i - 1) = l[i - 1]'(by omega) :: c :: r := by
    rw [List.drop_eq_getElem_cons (by omega : i - 1 < l.length), show i - 1 + 1 = i by omega, h]
  rw [bs_extract, show i + 3 - (i - 1) = 4 by omega, hd]
  show bs _ = bs [40, 46, 46, 41] ↔ _
  rw [bs_inj, ← hb]
  simp only [List.take_succ_cons, List.cons.injEq]

end Go.AI
end

section
/- Contracts: carets dropped from texts; pairs that are told. -/
set_option autoImplicit false
set_option maxRecDepth 100000
set_option linter.unusedVariables false
namespace Go.AI
open Go.Proofs

theorem txt_dots : ∀ t : Tr, (txt t).count 46 = t.c + 1
  | .leaf => rfl
  | .node l r => by
    simp only [txt, List.count_cons, List.count_append, txt_dots l, txt_dots r, Tr.c]
    simp
    omega

theorem split_ex : ∀ (t : Tr) (n : Nat), n ∈ exL t 0 → ∃ u v : List UInt8, txt t = u ++ [40, 46, 46, 41] ++ v ∧ u.count 46 = n ∧ txt (wo t n) = u ++ [46] ++ v
  | .leaf, n, h => by simp [exL] at h
  | .node l r, n, h => by
    rw [exL_node] at h
    rw [wo_node]
    by_cases hb : l.isLeaf = true ∧ r.isLeaf = true
    · rw [if_pos hb] at h
      rw [if_pos hb]
      have hl : l = .leaf := by cases l <;> simp_all [Tr.isLeaf]
      have hr : r = .leaf := by cases r <;> simp_all [Tr.isLeaf]
      subst hl; subst hr
      simp at h
      subst h
      exact ⟨[], [], rfl, rfl, rfl⟩
    · rw [if_neg hb] at h
      rw [if_neg hb]
      rcases List.mem_append.1 h with h | h
      · have hr := exL_range _ _ _ h
        rw [if_neg (by omega)]
        obtain ⟨u, v, e1, e2, e3⟩ := split_ex l n h
        refine ⟨40 :: u, v ++ txt r ++ [41], ?_, ?_, ?_⟩
        · simp [txt, e1]
        · rw [List.count_cons_of_ne (by decide)]; exact e2
        · simp [txt, e3]
      · have hr := exL_range _ _ _ h
        rw [if_pos (by omega)]
        have hm : n - (l.c + 1) ∈ exL r 0 := by
          have e := exL_shift r 0 (0 + l.c + 1)
          rw [Nat.zero_add] at e
          rw [e] at h
          obtain ⟨y, hy, rfl⟩ := List.mem_map.1 h
          have e2 : y + (0 + l.c + 1) - (l.c + 1) = y := by omega
          rw [e2]
          exact hy
        obtain ⟨u, v, e1, e2, e3⟩ := split_ex r _ hm
        refine ⟨40 :: (txt l ++ u), v ++ [41], ?_, ?_, ?_⟩
        · simp [txt, e1]
        · rw [List.count_cons_of_ne (by decide), List.count_append, txt_dots, e2]; omega
        · simp [txt, e3]

abbrev pt (p : Tr × Tr) : ByteArray × ByteArray := (bs (txt p.1), bs (txt p.2))

/-! ### Pairs -/

def isPair (a b : List UInt8) : Bool := isTree a && isTree b && ((treeOf a).c == (treeOf b).c)

theorem isPair_trees {a b : List UInt8} (h : isPair a b = true) : a = txt (treeOf a) ∧ b = txt (treeOf b) ∧ (treeOf a).c ≤ 8 ∧ (treeOf b).c ≤ 8 ∧ (treeOf a).c = (treeOf b).c := by
  simp only [isPair, Bool.and_eq_true, beq_iff_eq] at h
  obtain ⟨⟨h1, h2⟩, h3⟩ := h
  have a1 := treeOf_txt h1
  have a2 := treeOf_txt h2
  exact ⟨a1.1, a2.1, a1.2, a2.2, h3⟩

theorem red_c : ∀ (n : Nat) (p : Tr × Tr), (red n p).1.c ≤ p.1.c ∧ (red n p).2.c ≤ p.2.c
  | 0, p => ⟨Nat.le_refl _, Nat.le_refl _⟩
  | n + 1, p => by
    simp only [red]
    split
    · exact ⟨Nat.le_refl _, Nat.le_refl _⟩
    · rename_i k ks hB
      have hmem : k ∈ bothL p := by rw [hB]; exact List.mem_cons_self
      have c1 := wo_c p.1 k (bothL_mem hmem).1
      have c2 := wo_c p.2 k (bothL_mem hmem).2
      have := red_c n (wo p.1 k, wo p.2 k)
      simp only at this
      omega

end Go.AI
end

section
/- Contracts: joined trees. -/
set_option autoImplicit false
set_option maxRecDepth 100000
set_option linter.unusedVariables false
namespace Go.AI
open Go.Proofs

def joiT : Tr → Tr → Tr
  | .leaf, u => u
  | .node a b, .leaf => .node a b
  | .node a b, .node c d => .node (joiT a c) (joiT b d)

theorem joiT_c : ∀ t u : Tr, (joiT t u).c ≤ t.c + u.c
  | .leaf, _ => by simp [joiT]
  | .node _ _, .leaf => by simp [joiT]
  | .node a b, .node c d => by have := joiT_c a c; have := joiT_c b d; simp only [joiT, Tr.c]; omega

theorem join_SC : ∀ t u : Tr, SC cfg.P i_impl_join [.s (.v .tree t), .s (.v .tree u)] (.s (.v .tree (joiT t u))) []
  | .leaf, u => impl_join_p1 u
  | .node a b, .leaf => impl_join_p2 a b
  | .node a b, .node c d => impl_join_p3 _ _ _ _ _ _ (join_SC a c) (join_SC b d)

theorem getD_leaf_c {ts : List Tr} {b : Nat} (h : ∀ t ∈ ts, t.c ≤ b) (i : Nat) : (ts.getD i .leaf).c ≤ b := by
  by_cases hi : i < ts.length
  · exact h _ (gD_mem hi .leaf)
  · rw [List.getD_eq_getElem?_getD, List.getElem?_eq_none (by omega)]
    simp [Tr.c]

end Go.AI
end

section
/- Contracts: trees in place of leaves. -/
set_option autoImplicit false
set_option maxRecDepth 100000
set_option linter.unusedVariables false
namespace Go.AI
open Go.Proofs

/-- A tree with those of a forest in place of its leaves. -/
def growT (us : List Tr) : Tr → Nat → Tr
  | .leaf, n => us.getD n .leaf
  | .node a b, n => .node (growT us a n) (growT us b (n + (a.c + 1)))

theorem growT_c (us : List Tr) (b : Nat) (h : ∀ u ∈ us, u.c ≤ b) : ∀ (t : Tr) (n : Nat), (growT us t n).c ≤ t.c + (t.c + 1) * b
  | .leaf, n => by have := getD_leaf_c h n; simp only [growT, Tr.c]; omega
  | .node x y, n => by
    have h1 := growT_c us b h x n
    have h2 := growT_c us b h y (n + (x.c + 1))
    simp only [growT, Tr.c]
    have e : (1 + x.c + y.c + 1) * b = (x.c + 1) * b + (y.c + 1) * b := by rw [← Nat.add_mul]; congr 1; omega
    rw [e]
    omega

/-- A text with others in place of its points. -/
def subS (us : List Tr) : List UInt8 → Nat → List UInt8
  | [], _ => []
  | c :: r, n => if c = 46 then txt (us.getD n .leaf) ++ subS us r (n + 1) else c :: subS us r n

theorem subS_txt (us : List Tr) : ∀ (t : Tr) (q : List UInt8) (n : Nat), subS us (txt t ++ q) n = txt (growT us t n) ++ subS us q (n + (t.c + 1))
  | .leaf, q, n => by simp [txt, subS, growT, Tr.c]
  | .node a b, q, n => by
    have h1 := subS_txt us a (txt b ++ (41 :: q)) n
    have h2 := subS_txt us b (41 :: q) (n + (a.c + 1))
    have e : txt (.node a b) ++ q = 40 :: (txt a ++ (txt b ++ (41 :: q))) := by simp [txt]
    rw [e, subS, if_neg (by decide), h1, h2, subS, if_neg (by decide)]
    have e2 : n + (a.c + 1) + (b.c + 1) = n + ((Tr.node a b).c + 1) := by simp only [Tr.c]; omega
    rw [e2]
    simp [txt, growT]

theorem txt_dots' : ∀ t : Tr, (txt t).count 46 = t.c + 1
  | .leaf => rfl
  | .node l r => by
    simp only [txt, List.count_cons, List.count_append, txt_dots' l, txt_dots' r, Tr.c]
    simp
    omega

end Go.AI
end

section
/- Contracts: addresses of leaves. -/
set_option autoImplicit false
set_option maxRecDepth 100000
set_option linter.unusedVariables false
namespace Go.AI
open Go.Proofs

/-- The addresses of the leaves, behind that of the tree. -/
def adL : Tr → List UInt8 → List (List UInt8)
  | .leaf, p => [p]
  | .node l r, p => adL l (p ++ [48]) ++ adL r (p ++ [49])

abbrev strs' (l : List (List UInt8)) : List ByteArray := l.map bs

theorem adL_len : ∀ (t : Tr) (p : List UInt8), (adL t p).length = t.c + 1
  | .leaf, _ => rfl
  | .node l r, p => by simp only [adL, List.length_append, adL_len l, adL_len r, Tr.c]; omega

theorem zokS (l m : List ByteArray) (h : l.length + m.length ≤ 2 ^ 40) : sizeOK (List.length l + List.length m) := h

theorem addresses_SC : ∀ (t : Tr) (p : List UInt8), t.c ≤ 2 ^ 20 → p.length + t.c ≤ 2 ^ 30 → SC cfg.P i_impl_node_addresses [.s (.v .tree t), .s (.v .str (bs p))] (.s (.own t_string .str (strs' (adL t p)))) []
  | .leaf, p, _, _ => impl_node_addresses_p1 _
  | .node l r, p, h, hp => by
    simp only [Tr.c] at h hp
    have h1 := addresses_SC l (p ++ [48]) (by omega) (by simp; omega)
    have h2 := addresses_SC r (p ++ [49]) (by omega) (by simp; omega)
    have e0 : bs (p ++ [48]) = bs p ++ (⟨#[48]⟩ : ByteArray) := by show _ = bs p ++ bs [48]; rw [bs_append]
    have e1 : bs (p ++ [49]) = bs p ++ (⟨#[49]⟩ : ByteArray) := by show _ = bs p ++ bs [49]; rw [bs_append]
    rw [e0] at h1
    rw [e1] at h2
    have e : strs' (adL (.node l r) p) = strs' (adL l (p ++ [48])) ++ strs' (adL r (p ++ [49])) := by simp [adL]
    rw [e]
    have s0 : ((⟨#[48]⟩ : ByteArray)).size = 1 := rfl
    have s1 : ((⟨#[49]⟩ : ByteArray)).size = 1 := rfl
    exact impl_node_addresses_p2 _ _ _ _ _ (by rw [bs_size, s0]; omega) h1 (by rw [bs_size, s1]; omega) h2 (zokS _ _ (by simp [adL_len]; omega))

theorem adL_bound : ∀ (t : Tr) (p a : List UInt8), a ∈ adL t p → a.length ≤ p.length + t.c
  | .leaf, p, a, h => by simp [adL] at h; subst h; simp [Tr.c]
  | .node l r, p, a, h => by
    simp only [adL] at h
    simp only [Tr.c]
    rcases List.mem_append.1 h with h | h
    · have := adL_bound l _ a h; simp at this; omega
    · have := adL_bound r _ a h; simp at this; omega

theorem strs_get (l : List (List UInt8)) (i : Nat) (h : i < l.length) : List.getD (strs' l) ((i : Int)).toNat ⟨#[]⟩ = bs l[i] := by
  rw [Int.toNat_natCast, List.getD_eq_getElem?_getD, List.getElem?_map, List.getElem?_eq_getElem h]; rfl

end Go.AI
end

section
/- Contracts: what hangs at the leaves of a part. -/
set_option autoImplicit false
set_option maxRecDepth 100000
set_option linter.unusedVariables false
namespace Go.AI
open Go.Proofs

def partB : Tr → Tr → Bool
  | .leaf, _ => true
  | .node _ _, .leaf => false
  | .node a b, .node c d => partB a c && partB b d

theorem joiT_eq : ∀ t u : Tr, joiT t u = u ↔ partB t u = true
  | .leaf, u => by simp [joiT, partB]
  | .node a b, .leaf => by simp [joiT, partB]
  | .node a b, .node c d => by
    have h1 := joiT_eq a c
    have h2 := joiT_eq b d
    simp only [joiT, partB, Tr.node.injEq, h1, h2, Bool.and_eq_true]

/-- What stands at an address. -/
def atR : Tr → List UInt8 → Tr
  | t, [] => t
  | .leaf, _ :: _ => .leaf
  | .node l r, c :: s => if c = 48 then atR l s else if c = 49 then atR r s else .leaf

theorem at_L (l : List UInt8) (hl : l.length ≤ 2 ^ 30) : ∀ (m i : Nat) (t : Tr), l.length - i = m → i ≤ l.length →
    (∃ b, LoopSC cfg.P 2 (lb P_impl_node_at 0) (impl_node_at_L0a t (bs l) ((bs l).size : Int) (i : Int)) .ret (impl_node_at_L0X1 (atR t (l.drop i)) b)) ∨
    LoopSC cfg.P 2 (lb P_impl_node_at 0) (impl_node_at_L0a t (bs l) ((bs l).size : Int) (i : Int)) (.exit 0) (impl_node_at_L0X2 (atR t (l.drop i)) (bs l) ((bs l).size : Int) (l.length : Int) false) := by
  intro m
  induction m with
  | zero =>
    intro i t hm hi
    have e : i = l.length := by omega
    subst e
    rw [List.drop_length]
    have : atR t [] = t := by cases t <;> rfl
    rw [this]
    exact .inr (impl_node_at_L0a_x5 _ _ _ _ (by rw [bs_size]; omega))
  | succ m ih =>
    intro i t hm hi
    have hi1 : i < l.length := by omega
    have hd : l.drop i = l[i] :: l.drop (i + 1) := List.drop_eq_getElem_cons hi1
    have hg : bt (bs l) (i : Int) = (l[i].toNat : Int) := by rw [bs_bt, Int.toNat_natCast, List.getD_eq_getElem?_getD, List.getElem?_eq_getElem hi1]; rfl
    have ew := wrap_succ (i := i) (by omega)
    rw [hd]
    cases t with
    | leaf => exact .inl ⟨false, impl_node_at_L0a_x1 _ _ _ (by rw [bs_size]; omega)⟩
    | node a b =>
      rw [atR]
      by_cases h0 : l[i] = 48
      · rw [if_pos h0]
        rcases ih (i + 1) a (by omega) (by omega) with ⟨b', hn⟩ | hn
        · rw [← ew] at hn
          exact .inl ⟨b', impl_node_at_L0a_i2 _ _ _ _ _ (by rw [bs_size]; omega) (by omega) (by rw [bs_size]; omega) (by rw [hg, h0]; rfl) hn⟩
        · rw [← ew] at hn
          exact .inr (impl_node_at_L0a_i2 _ _ _ _ _ (by rw [bs_size]; omega) (by omega) (by rw [bs_size]; omega) (by rw [hg, h0]; rfl) hn)
      · rw [if_neg h0]
        have hne : bt (bs l) (i : Int) ≠ 48 := by rw [hg]; intro e; exact h0 ((byte_eq _ 48).1 e)
        by_cases h1 : l[i] = 49
        · rw [if_pos h1]
          rcases ih (i + 1) b (by omega) (by omega) with ⟨b', hn⟩ | hn
          · rw [← ew] at hn
            exact .inl ⟨b', impl_node_at_L0a_i3 _ _ _ _ _ (by rw [bs_size]; omega) (by omega) (by rw [bs_size]; omega) hne (by rw [hg, h1]; rfl) hn⟩
          · rw [← ew] at hn
            exact .inr (impl_node_at_L0a_i3 _ _ _ _ _ (by rw [bs_size]; omega) (by omega) (by rw [bs_size]; omega) hne (by rw [hg, h1]; rfl) hn)
        · rw [if_neg h1]
          exact .inl ⟨false, impl_node_at_L0a_x4 _ _ _ _ _ (by rw [bs_size]; omega) (by omega) (by rw [bs_size]; omega) hne (by rw [hg]; intro e; exact h1 ((byte_eq _ 49).1 e))⟩

theorem at_SC (t : Tr) (l : List UInt8) (hl : l.length ≤ 2 ^ 30) : ∃ b, SC cfg.P i_impl_node_at [.s (.v .tree t), .s (.v .str (bs l))] (.tup [.v .tree (atR t l), .v .bool b]) [] := by
  rcases at_L l hl _ 0 t rfl (by omega) with ⟨b, h⟩ | h
  · rw [List.drop_zero] at h
    exact ⟨b, impl_node_at_p1 _ _ _ _ h⟩
  · rw [List.drop_zero] at h
    exact ⟨true, impl_node_at_p2 _ _ _ _ _ _ _ h⟩

/-- What hangs at the leaves of a part. -/
def partsT : Tr → Tr → List Tr
  | .leaf, u => [u]
  | .node a b, .node c d => partsT a c ++ partsT b d
  | .node _ _, .leaf => []

theorem partsT_len : ∀ t u : Tr, partB t u = true → (partsT t u).length = t.c + 1
  | .leaf, u, _ => rfl
  | .node a b, .leaf, h => by simp [partB] at h
  | .node a b, .node c d, h => by
    simp only [partB, Bool.and_eq_true] at h
    simp only [partsT, List.length_append, partsT_len a c h.1, partsT_len b d h.2, Tr.c]
    omega

theorem partsT_c : ∀ t u : Tr, ∀ x ∈ partsT t u, x.c ≤ u.c
  | .leaf, u, x, h => by simp [partsT] at h; rw [h]; exact Nat.le_refl _
  | .node a b, .leaf, x, h => by simp [partsT] at h
  | .node a b, .node c d, x, h => by
    simp only [partsT] at h
    simp only [Tr.c]
    rcases List.mem_append.1 h with h | h
    · have := partsT_c a c x h; omega
    · have := partsT_c b d x h; omega

theorem atR_snoc : ∀ (u : Tr) (p : List UInt8) (c d : Tr), atR u p = .node c d → atR u (p ++ [48]) = c ∧ atR u (p ++ [49]) = d
  | u, [], c, d, h => by
    have : atR u [] = u := by cases u <;> rfl
    rw [this] at h
    subst h
    have h1 : atR c [] = c := by cases c <;> rfl
    have h2 : atR d [] = d := by cases d <;> rfl
    simp [atR, h1, h2]
  | .leaf, x :: p, c, d, h => by simp [atR] at h
  | .node a b, x :: p, c, d, h => by
    rw [List.cons_append, List.cons_append, atR, atR]
    rw [atR] at h
    by_cases h0 : x = 48
    · rw [if_pos h0] at h; rw [if_pos h0, if_pos h0]; exact atR_snoc a p c d h
    · rw [if_neg h0] at h; rw [if_neg h0, if_neg h0]
      by_cases h1 : x = 49
      · rw [if_pos h1] at h; rw [if_pos h1, if_pos h1]; exact atR_snoc b p c d h
      · rw [if_neg h1] at h; cases h

theorem at_parts : ∀ (t u w : Tr) (p : List UInt8), partB t u = true → atR w p = u → (adL t p).map (atR w) = partsT t u
  | .leaf, u, w, p, _, h => by simp [adL, partsT, h]
  | .node a b, .leaf, w, p, h, _ => by simp [partB] at h
  | .node a b, .node c d, w, p, h, hw => by
    simp only [partB, Bool.and_eq_true] at h
    obtain ⟨h1, h2⟩ := atR_snoc w p c d hw
    simp only [adL, List.map_append, partsT, at_parts a c w _ h.1 h1, at_parts b d w _ h.2 h2]

end Go.AI
end

section
/- Pairs of trees as functions of infinite words: products are compositions, and reduced pairs are known by what they do. -/
set_option autoImplicit false
set_option maxRecDepth 100000
set_option linter.unusedVariables false
namespace Go.AI

/-- Infinite words of two letters. -/
abbrev St2 : Type := Nat → Bool

def sc (b : Bool) (s : St2) : St2
  | 0 => b
  | n + 1 => s n

def tl (s : St2) : St2 := fun n => s (n + 1)

theorem tl_sc (b : Bool) (s : St2) : tl (sc b s) = s := rfl

theorem sc_tl (s : St2) : sc (s 0) (tl s) = s := by
  funext n
  cases n <;> rfl

theorem sc_inj {a b : Bool} {s t : St2} (h : sc a s = sc b t) : a = b ∧ s = t :=
  ⟨congrFun h 0, by have := congrArg tl h; exact this⟩

/-- A finite word ahead. -/
def ap : List Bool → St2 → St2
  | [], s => s
  | b :: l, s => sc b (ap l s)

/-- The leaf that a word leads to, and what is left of the word. -/
def walk : Tr → St2 → Nat × St2
  | .leaf, s => (0, s)
  | .node l r, s => if s 0 = false then walk l (tl s) else ((walk r (tl s)).1 + (l.c + 1), (walk r (tl s)).2)

/-- The word that leads to a leaf, with more behind. -/
def emit : Tr → Nat → St2 → St2
  | .leaf, _, s => s
  | .node l r, i, s => if i < l.c + 1 then sc false (emit l i s) else sc true (emit r (i - (l.c + 1)) s)

theorem walk_f (l r : Tr) (s : St2) : walk (.node l r) (sc false s) = walk l s := by
  have h : sc false s 0 = false := rfl
  rw [walk, if_pos h, tl_sc]

theorem walk_t (l r : Tr) (s : St2) : walk (.node l r) (sc true s) = ((walk r s).1 + (l.c + 1), (walk r s).2) := by
  have h : ¬ (sc true s 0 = false) := fun h => Bool.noConfusion (show true = false from h)
  rw [walk, if_neg h, tl_sc]

theorem walk_le : ∀ (t : Tr) (s : St2), (walk t s).1 ≤ t.c
  | .leaf, s => Nat.le_refl _
  | .node l r, s => by
    simp only [walk, Tr.c]
    split
    · have := walk_le l (tl s); omega
    · have := walk_le r (tl s); simp only; omega

theorem emit_walk : ∀ (t : Tr) (s : St2), emit t (walk t s).1 (walk t s).2 = s
  | .leaf, s => rfl
  | .node l r, s => by
    have h1 := walk_le l (tl s)
    have h2 := walk_le r (tl s)
    simp only [walk]
    split
    · rename_i h
      rw [emit, if_pos (by omega), emit_walk l, ← h, sc_tl]
    · rename_i h
      have hb : s 0 = true := by cases hs : s 0 <;> simp_all
      rw [emit, if_neg (by simp only; omega), Nat.add_sub_cancel, emit_walk r, ← hb, sc_tl]

theorem walk_emit : ∀ (t : Tr) (i : Nat) (s : St2), i ≤ t.c → walk t (emit t i s) = (i, s)
  | .leaf, i, s, h => by simp only [Tr.c] at h; have : i = 0 := by omega
                         subst this; rfl
  | .node l r, i, s, h => by
    simp only [Tr.c] at h
    by_cases hi : i < l.c + 1
    · rw [emit, if_pos hi, walk_f, walk_emit l i s (by omega)]
    · rw [emit, if_neg hi, walk_t, walk_emit r _ s (by omega)]
      show (i - (l.c + 1) + (l.c + 1), s) = (i, s)
      rw [Nat.sub_add_cancel (by omega)]

/-- What a pair does. -/
def fOf (p : Tr × Tr) (s : St2) : St2 := emit p.2 (walk p.1 s).1 (walk p.1 s).2

theorem fOf_emit (p : Tr × Tr) (i : Nat) (s : St2) (h : i ≤ p.1.c) : fOf p (emit p.1 i s) = emit p.2 i s := by
  rw [fOf, walk_emit _ _ _ h]

theorem fOf_comp (a b c : Tr) (h : a.c = b.c) (s : St2) : fOf (b, c) (fOf (a, b) s) = fOf (a, c) s := by
  have := walk_le a s
  simp only [fOf]
  rw [walk_emit b _ _ (by omega)]

theorem fOf_inv (a b : Tr) (h : a.c = b.c) (s : St2) : fOf (b, a) (fOf (a, b) s) = s := by
  rw [fOf_comp a b a h]
  exact emit_walk a s

/-! ### Expansions -/

/-- How many leaves the first trees of a row have. -/
def offs (us : List Tr) (n : Nat) : Nat → Nat
  | 0 => 0
  | i + 1 => ((us.getD n .leaf).c + 1) + offs us (n + 1) i

theorem offs_add (us : List Tr) : ∀ (i n j : Nat), offs us n (i + j) = offs us n i + offs us (n + i) j
  | 0, n, j => by simp [offs]
  | i + 1, n, j => by
    rw [show i + 1 + j = (i + j) + 1 by omega, offs, offs, offs_add us i (n + 1) j, show n + 1 + i = n + (i + 1) by omega]
    omega

theorem growT_offs (us : List Tr) : ∀ (t : Tr) (n : Nat), (growT us t n).c + 1 = offs us n (t.c + 1)
  | .leaf, n => by simp [growT, Tr.c, offs]
  | .node a b, n => by
    have h1 := growT_offs us a n
    have h2 := growT_offs us b (n + (a.c + 1))
    simp only [growT, Tr.c]
    rw [show 1 + a.c + b.c + 1 = (a.c + 1) + (b.c + 1) by omega, offs_add, ← h1, ← h2]
    omega

theorem walk_growT (us : List Tr) : ∀ (t : Tr) (n : Nat) (s : St2),
    walk (growT us t n) s = (offs us n (walk t s).1 + (walk (us.getD (n + (walk t s).1) .leaf) (walk t s).2).1, (walk (us.getD (n + (walk t s).1) .leaf) (walk t s).2).2)
  | .leaf, n, s => by simp [growT, walk, offs]
  | .node a b, n, s => by
    have h1 := growT_offs us a n
    simp only [growT, walk]
    split
    · exact walk_growT us a n (tl s)
    · rw [walk_growT us b (n + (a.c + 1)) (tl s)]
      simp only
      rw [show n + ((walk b (tl s)).1 + (a.c + 1)) = n + (a.c + 1) + (walk b (tl s)).1 by omega, Nat.add_comm (walk b (tl s)).1 (a.c + 1), offs_add, ← h1]
      congr 1
      omega

theorem emit_growT (us : List Tr) : ∀ (t : Tr) (n i j : Nat) (s : St2), i ≤ t.c → j ≤ (us.getD (n + i) .leaf).c →
    emit (growT us t n) (offs us n i + j) s = emit t i (emit (us.getD (n + i) .leaf) j s)
  | .leaf, n, i, j, s, hi, hj => by
    simp only [Tr.c] at hi
    have : i = 0 := by omega
    subst this
    simp [growT, offs, emit]
  | .node a b, n, i, j, s, hi, hj => by
    simp only [Tr.c] at hi
    have h1 := growT_offs us a n
    by_cases h : i < a.c + 1
    · have hlt : offs us n i + j < (growT us a n).c + 1 := by
        have e : offs us n (a.c + 1) = offs us n i + offs us (n + i) (a.c - i + 1) := by rw [← offs_add]; congr 1; omega
        rw [h1, e, offs]
        omega
      rw [growT, emit, if_pos hlt, emit, if_pos h, emit_growT us a n i j s (by omega) hj]
    · have e : offs us n i = offs us n (a.c + 1) + offs us (n + (a.c + 1)) (i - (a.c + 1)) := by rw [← offs_add]; congr 1; omega
      rw [growT, emit, if_neg (by omega), emit, if_neg h]
      have ej : offs us n i + j - ((growT us a n).c + 1) = offs us (n + (a.c + 1)) (i - (a.c + 1)) + j := by omega
      rw [ej, emit_growT us b (n + (a.c + 1)) (i - (a.c + 1)) j s (by omega) (by rw [show n + (a.c + 1) + (i - (a.c + 1)) = n + i by omega]; exact hj)]
      rw [show n + (a.c + 1) + (i - (a.c + 1)) = n + i by omega]

/-- An expanded pair does the same. -/
theorem fOf_grow (us : List Tr) (a b : Tr) (h : a.c = b.c) (s : St2) : fOf (growT us a 0, growT us b 0) s = fOf (a, b) s := by
  have h1 := walk_le a s
  have h2 := walk_le (us.getD (0 + (walk a s).1) .leaf) (walk a s).2
  simp only [fOf]
  rw [walk_growT, emit_growT us b 0 _ _ _ (by omega) h2, emit_walk]

/-! ### Products -/

theorem partB_self : ∀ t : Tr, partB t t = true
  | .leaf => rfl
  | .node a b => by simp [partB, partB_self a, partB_self b]

theorem partB_l : ∀ t u : Tr, partB t (joiT t u) = true
  | .leaf, u => rfl
  | .node a b, .leaf => partB_self _
  | .node a b, .node c d => by simp [joiT, partB, partB_l a c, partB_l b d]

theorem partB_r : ∀ t u : Tr, partB u (joiT t u) = true
  | .leaf, u => partB_self u
  | .node a b, .leaf => rfl
  | .node a b, .node c d => by simp [joiT, partB, partB_r a c, partB_r b d]

theorem growT_app_l : ∀ (t : Tr) (us vs : List Tr) (n : Nat), n + t.c + 1 ≤ us.length → growT (us ++ vs) t n = growT us t n
  | .leaf, us, vs, n, h => by
    simp only [growT]
    simp only [Tr.c] at h
    rw [List.getD_eq_getElem?_getD, List.getD_eq_getElem?_getD, List.getElem?_append_left (by omega)]
  | .node a b, us, vs, n, h => by
    simp only [Tr.c] at h
    rw [growT, growT, growT_app_l a us vs n (by omega), growT_app_l b us vs (n + (a.c + 1)) (by omega)]

theorem growT_app_r : ∀ (t : Tr) (us vs : List Tr) (n : Nat), growT (us ++ vs) t (us.length + n) = growT vs t n
  | .leaf, us, vs, n => by
    simp only [growT]
    rw [List.getD_eq_getElem?_getD, List.getD_eq_getElem?_getD, List.getElem?_append_right (by omega), Nat.add_sub_cancel_left]
  | .node a b, us, vs, n => by
    simp only [growT, growT_app_r a us vs n]
    rw [show us.length + n + (a.c + 1) = us.length + (n + (a.c + 1)) by omega, growT_app_r b us vs _]

theorem grow_parts : ∀ t u : Tr, partB t u = true → growT (partsT t u) t 0 = u
  | .leaf, u, _ => rfl
  | .node a b, .leaf, h => by simp [partB] at h
  | .node a b, .node c d, h => by
    simp only [partB, Bool.and_eq_true] at h
    have l1 := partsT_len a c h.1
    simp only [growT, partsT]
    rw [growT_app_l a _ _ 0 (by omega), grow_parts a c h.1]
    have e : 0 + (a.c + 1) = (partsT a c).length + 0 := by omega
    rw [e, growT_app_r b, grow_parts b d h.2]

/-- The trees of a product, not yet reduced. -/
def rawT (p q : Tr × Tr) : Tr × Tr := (growT (partsT p.2 (joiT p.2 q.1)) p.1 0, growT (partsT q.1 (joiT p.2 q.1)) q.2 0)

def timesT (p q : Tr × Tr) : Tr × Tr := red (rawT p q).1.c (rawT p q)

theorem raw_c1 (p q : Tr × Tr) (h : p.1.c = p.2.c) : (rawT p q).1.c = (joiT p.2 q.1).c := by
  have h1 := growT_offs (partsT p.2 (joiT p.2 q.1)) p.1 0
  have h2 := growT_offs (partsT p.2 (joiT p.2 q.1)) p.2 0
  rw [grow_parts _ _ (partB_l _ _)] at h2
  rw [h] at h1
  show (growT (partsT p.2 (joiT p.2 q.1)) p.1 0).c = _
  omega

theorem raw_c2 (p q : Tr × Tr) (h : q.1.c = q.2.c) : (rawT p q).2.c = (joiT p.2 q.1).c := by
  have h1 := growT_offs (partsT q.1 (joiT p.2 q.1)) q.1 0
  have h2 := growT_offs (partsT q.1 (joiT p.2 q.1)) q.2 0
  rw [grow_parts _ _ (partB_r _ _)] at h1
  rw [← h] at h2
  show (growT (partsT q.1 (joiT p.2 q.1)) q.2 0).c = _
  omega

theorem fOf_raw (p q : Tr × Tr) (hp : p.1.c = p.2.c) (hq : q.1.c = q.2.c) (s : St2) : fOf (rawT p q) s = fOf q (fOf p s) := by
  have e1 : fOf p s = fOf ((rawT p q).1, joiT p.2 q.1) s := by
    rw [← fOf_grow (partsT p.2 (joiT p.2 q.1)) p.1 p.2 hp s, grow_parts _ _ (partB_l _ _)]
    rfl
  have e2 : ∀ t, fOf q t = fOf (joiT p.2 q.1, (rawT p q).2) t := by
    intro t
    rw [← fOf_grow (partsT q.1 (joiT p.2 q.1)) q.1 q.2 hq t, grow_parts _ _ (partB_r _ _)]
    rfl
  rw [e1, e2, fOf_comp _ _ _ (raw_c1 p q hp)]

/-! ### Reduced pairs -/

/-- The row that puts a caret back. -/
def caretAt (k : Nat) : List Tr := List.replicate k .leaf ++ [.node .leaf .leaf]

theorem caretAt_at (k n : Nat) : (caretAt k).getD n .leaf = if n = k then .node .leaf .leaf else .leaf := by
  unfold caretAt
  rw [List.getD_eq_getElem?_getD]
  by_cases h : n < k
  · rw [List.getElem?_append_left (by simpa using h), if_neg (by omega)]
    simp [h]
  · rw [List.getElem?_append_right (by simpa using h), List.length_replicate]
    by_cases h2 : n = k
    · subst h2; simp
    · rw [if_neg h2, List.getElem?_eq_none (by simp; omega)]; rfl

theorem grow_none (us : List Tr) : ∀ (t : Tr) (n : Nat), (∀ i, n ≤ i → i ≤ n + t.c → us.getD i .leaf = .leaf) → growT us t n = t
  | .leaf, n, h => h n (Nat.le_refl _) (by simp [Tr.c])
  | .node a b, n, h => by
    simp only [Tr.c] at h
    rw [growT, grow_none us a n (fun i h1 h2 => h i h1 (by omega)), grow_none us b _ (fun i h1 h2 => h i (by omega) (by omega))]

theorem grow_wo : ∀ (t : Tr) (k n m : Nat), k ∈ exL t 0 → m = n + k → growT (caretAt m) (wo t k) n = t
  | .leaf, k, n, m, h, _ => by simp [exL] at h
  | .node l r, k, n, m, h, e => by
    rw [exL_node] at h
    rw [wo_node]
    by_cases hb : l.isLeaf = true ∧ r.isLeaf = true
    · rw [if_pos hb] at h ⊢
      have hl : l = .leaf := by cases l <;> simp_all [Tr.isLeaf]
      have hr : r = .leaf := by cases r <;> simp_all [Tr.isLeaf]
      subst hl; subst hr
      simp at h
      rw [growT, caretAt_at, if_pos (by omega)]
    · rw [if_neg hb] at h ⊢
      rcases List.mem_append.1 h with h | h
      · have hr := exL_range _ _ _ h
        rw [if_neg (by omega), growT, grow_wo l k n m h e]
        have hc := wo_c l k h
        rw [grow_none (caretAt m) r _ (fun i h1 h2 => by rw [caretAt_at, if_neg (by omega)])]
      · have hr := exL_range _ _ _ h
        have hm : k - (l.c + 1) ∈ exL r 0 := by
          have e := exL_shift r 0 (0 + l.c + 1)
          rw [Nat.zero_add] at e
          rw [e] at h
          obtain ⟨y, hy, rfl⟩ := List.mem_map.1 h
          have e2 : y + (0 + l.c + 1) - (l.c + 1) = y := by omega
          rw [e2]
          exact hy
        rw [if_pos (by omega), growT, grow_none (caretAt m) l n (fun i h1 h2 => by rw [caretAt_at, if_neg (by omega)]),
          grow_wo r (k - (l.c + 1)) (n + (l.c + 1)) m hm (by omega)]

theorem fOf_drop (p : Tr × Tr) (k : Nat) (h : k ∈ bothL p) (hp : p.1.c = p.2.c) : fOf (wo p.1 k, wo p.2 k) = fOf p := by
  have h1 := wo_c p.1 k (bothL_mem h).1
  have h2 := wo_c p.2 k (bothL_mem h).2
  funext s
  rw [← fOf_grow (caretAt k) (wo p.1 k) (wo p.2 k) (by omega) s, grow_wo p.1 k 0 k (bothL_mem h).1 (by omega), grow_wo p.2 k 0 k (bothL_mem h).2 (by omega)]

theorem red_eqc : ∀ (n : Nat) (p : Tr × Tr), p.1.c = p.2.c → (red n p).1.c = (red n p).2.c
  | 0, p, h => h
  | n + 1, p, h => by
    simp only [red]
    split
    · exact h
    · rename_i k ks hB
      have hmem : k ∈ bothL p := by rw [hB]; exact List.mem_cons_self
      have h1 := wo_c p.1 k (bothL_mem hmem).1
      have h2 := wo_c p.2 k (bothL_mem hmem).2
      exact red_eqc n _ (by simp only; omega)

theorem fOf_red : ∀ (n : Nat) (p : Tr × Tr), p.1.c = p.2.c → fOf (red n p) = fOf p
  | 0, p, h => rfl
  | n + 1, p, h => by
    simp only [red]
    split
    · rfl
    · rename_i k ks hB
      have hmem : k ∈ bothL p := by rw [hB]; exact List.mem_cons_self
      have h1 := wo_c p.1 k (bothL_mem hmem).1
      have h2 := wo_c p.2 k (bothL_mem hmem).2
      rw [fOf_red n _ (by simp only; omega), fOf_drop p k hmem h]

theorem red_done : ∀ (n : Nat) (p : Tr × Tr), p.1.c ≤ n → bothL (red n p) = []
  | 0, p, h => by
    have hl : p.1 = .leaf := by
      cases hp : p.1 with
      | leaf => rfl
      | node l r => rw [hp] at h; simp only [Tr.c] at h; omega
    simp [red, bothL, hl, exL]
  | n + 1, p, h => by
    simp only [red]
    split
    · rename_i hB; exact hB
    · rename_i k ks hB
      have hmem : k ∈ bothL p := by rw [hB]; exact List.mem_cons_self
      have h1 := wo_c p.1 k (bothL_mem hmem).1
      exact red_done n _ (by simp only; omega)

/-! ### Reduced pairs are known by what they do -/

theorem walk_inj : ∀ a b : Tr, (∀ s, walk a s = walk b s) → a = b
  | .leaf, .leaf, _ => rfl
  | .leaf, .node l r, h => by
    have := h (fun _ => true)
    simp [walk] at this
  | .node l r, .leaf, h => by
    have := h (fun _ => true)
    simp [walk] at this
  | .node l r, .node l' r', h => by
    have hl : l = l' := walk_inj l l' fun s => by
      have := h (sc false s)
      rw [walk_f, walk_f] at this
      exact this
    subst hl
    have hr : r = r' := walk_inj r r' fun s => by
      have := h (sc true s)
      rw [walk_t, walk_t, Prod.mk.injEq] at this
      exact Prod.ext (by omega) this.2
    subst hr
    rfl

theorem emit_inj (b d : Tr) (hc : b.c = d.c) (h : ∀ i s, i ≤ b.c → emit b i s = emit d i s) : b = d := by
  apply walk_inj
  intro s
  have h1 := walk_le b s
  have h2 := h (walk b s).1 (walk b s).2 h1
  rw [emit_walk] at h2
  conv => rhs; rw [h2]
  rw [walk_emit d _ _ (by omega)]

/-- An exposed caret, seen from the words. -/
theorem ex_words : ∀ t : Tr, t.isLeaf = false → ∃ k v, k ∈ exL t 0 ∧ ∀ s, emit t k s = ap v (sc false s) ∧ emit t (k + 1) s = ap v (sc true s)
  | .leaf, h => by simp [Tr.isLeaf] at h
  | .node l r, _ => by
    by_cases hb : l.isLeaf = true ∧ r.isLeaf = true
    · have hl : l = .leaf := by cases l <;> simp_all [Tr.isLeaf]
      have hr : r = .leaf := by cases r <;> simp_all [Tr.isLeaf]
      subst hl; subst hr
      exact ⟨0, [], by simp [exL, Tr.isLeaf], fun s => ⟨by simp [emit, ap, Tr.c], by simp [emit, ap, Tr.c]⟩⟩
    · cases hl : l.isLeaf with
      | false =>
        obtain ⟨k, v, hk, hv⟩ := ex_words l hl
        have hr := exL_range _ _ _ hk
        refine ⟨k, false :: v, by rw [exL_node, if_neg hb]; exact List.mem_append_left _ hk, fun s => ?_⟩
        rw [emit, if_pos (by omega), emit, if_pos (by omega), (hv s).1, (hv s).2]
        exact ⟨rfl, rfl⟩
      | true =>
        have hr : r.isLeaf = false := by cases h : r.isLeaf <;> simp_all
        obtain ⟨k, v, hk, hv⟩ := ex_words r hr
        refine ⟨k + (l.c + 1), true :: v, ?_, fun s => ?_⟩
        · rw [exL_node, if_neg hb]
          refine List.mem_append_right _ ?_
          have e := exL_shift r 0 (0 + l.c + 1)
          rw [Nat.zero_add] at e
          rw [e]
          exact List.mem_map.2 ⟨k, hk, by omega⟩
        · rw [emit, if_neg (by omega), emit, if_neg (by omega), show k + (l.c + 1) - (l.c + 1) = k by omega, show k + (l.c + 1) + 1 - (l.c + 1) = k + 1 by omega, (hv s).1, (hv s).2]
          exact ⟨rfl, rfl⟩

theorem emit_id : ∀ (t : Tr) (k : Nat), (∀ s, emit t k s = s) → t = .leaf
  | .leaf, k, _ => rfl
  | .node l r, k, h => by
    exfalso
    by_cases hk : k < l.c + 1
    · have := congrFun (h fun _ => true) 0
      rw [emit, if_pos hk] at this
      simp [sc] at this
    · have := congrFun (h fun _ => false) 0
      rw [emit, if_neg hk] at this
      simp [sc] at this

theorem ap_self : ∀ (v : List Bool) (b : Bool) (s : St2), s = ap v (sc b s) → s v.length = b
  | [], b, s, h => by rw [h]; rfl
  | x :: v, b, s, h => by
    have key : ∀ (v : List Bool) (u : St2), ap v u v.length = u 0 := by
      intro v
      induction v with
      | nil => intro u; rfl
      | cons y v ih => intro u; exact ih u
    rw [h, key]
    rfl

theorem words_ex : ∀ (d : Tr) (k : Nat) (v : List Bool), k + 1 ≤ d.c → (∀ s, emit d k s = ap v (sc false s) ∧ emit d (k + 1) s = ap v (sc true s)) → k ∈ exL d 0
  | .leaf, k, v, hk, h => by simp [Tr.c] at hk
  | .node l r, k, [], hk, h => by
    simp only [Tr.c] at hk
    have h1 : k < l.c + 1 := by
      by_cases h1 : k < l.c + 1
      · exact h1
      · have := congrFun (h fun _ => false).1 0
        rw [emit, if_neg h1] at this
        simp [sc, ap] at this
    have h2 : ¬ (k + 1 < l.c + 1) := by
      intro h2
      have := congrFun (h fun _ => false).2 0
      rw [emit, if_pos h2] at this
      simp [sc, ap] at this
    have hl : l = .leaf := emit_id l k fun s => by
      have := (h s).1
      rw [emit, if_pos h1] at this
      exact (sc_inj this).2
    have hr : r = .leaf := emit_id r (k + 1 - (l.c + 1)) fun s => by
      have := (h s).2
      rw [emit, if_neg h2] at this
      exact (sc_inj this).2
    subst hl; subst hr
    simp only [Tr.c] at h1
    simp [exL, Tr.isLeaf]
    omega
  | .node l r, k, false :: v, hk, h => by
    simp only [Tr.c] at hk
    have h1 : k + 1 < l.c + 1 := by
      by_cases h1 : k + 1 < l.c + 1
      · exact h1
      · have := congrFun (h fun _ => false).2 0
        rw [emit, if_neg h1] at this
        simp [sc, ap] at this
    have ih := words_ex l k v (by omega) fun s => by
      obtain ⟨g1, g2⟩ := h s
      rw [emit, if_pos (by omega)] at g1
      rw [emit, if_pos h1] at g2
      exact ⟨(sc_inj g1).2, (sc_inj g2).2⟩
    have hr := exL_range _ _ _ ih
    rw [exL_node, if_neg (by intro hb; have : l = .leaf := by cases l <;> simp_all [Tr.isLeaf]
                             subst this; simp [exL] at ih)]
    exact List.mem_append_left _ ih
  | .node l r, k, true :: v, hk, h => by
    simp only [Tr.c] at hk
    have h1 : ¬ (k < l.c + 1) := by
      intro h1
      have := congrFun (h fun _ => false).1 0
      rw [emit, if_pos h1] at this
      simp [sc, ap] at this
    have ih := words_ex r (k - (l.c + 1)) v (by omega) fun s => by
      obtain ⟨g1, g2⟩ := h s
      rw [emit, if_neg h1] at g1
      rw [emit, if_neg (by omega), show k + 1 - (l.c + 1) = k - (l.c + 1) + 1 by omega] at g2
      exact ⟨(sc_inj g1).2, (sc_inj g2).2⟩
    have hr := exL_range _ _ _ ih
    rw [exL_node, if_neg (by intro hb; have : r = .leaf := by cases r <;> simp_all [Tr.isLeaf]
                             subst this; simp [exL] at ih)]
    refine List.mem_append_right _ ?_
    have e := exL_shift r 0 (0 + l.c + 1)
    rw [Nat.zero_add] at e
    rw [e]
    exact List.mem_map.2 ⟨k - (l.c + 1), ih, by omega⟩

/-- Where two trees part, one of them has an exposed caret below a leaf of the other. -/
theorem apart : ∀ a c : Tr, a ≠ c →
    (∃ k i v, k ∈ exL c 0 ∧ ∀ s, walk a (emit c k s) = (i, ap v (sc false s)) ∧ walk a (emit c (k + 1) s) = (i, ap v (sc true s))) ∨
    (∃ k i v, k ∈ exL a 0 ∧ ∀ s, walk c (emit a k s) = (i, ap v (sc false s)) ∧ walk c (emit a (k + 1) s) = (i, ap v (sc true s)))
  | .leaf, .leaf, h => absurd rfl h
  | .leaf, .node l r, _ => by
    obtain ⟨k, v, hk, hv⟩ := ex_words (.node l r) rfl
    exact .inl ⟨k, 0, v, hk, fun s => by rw [(hv s).1, (hv s).2]; exact ⟨rfl, rfl⟩⟩
  | .node l r, .leaf, _ => by
    obtain ⟨k, v, hk, hv⟩ := ex_words (.node l r) rfl
    exact .inr ⟨k, 0, v, hk, fun s => by rw [(hv s).1, (hv s).2]; exact ⟨rfl, rfl⟩⟩
  | .node l r, .node l' r', h => by
    have L : ∀ (x y z w : Tr) (k i : Nat) (v : List Bool), k ∈ exL y 0 → (∀ s, walk x (emit y k s) = (i, ap v (sc false s)) ∧ walk x (emit y (k + 1) s) = (i, ap v (sc true s))) →
        k ∈ exL (.node y w) 0 ∧ ∀ s, walk (.node x z) (emit (.node y w) k s) = (i, ap v (sc false s)) ∧ walk (.node x z) (emit (.node y w) (k + 1) s) = (i, ap v (sc true s)) := by
      intro x y z w k i v hk hv
      have hr := exL_range _ _ _ hk
      refine ⟨?_, fun s => ?_⟩
      · rw [exL_node, if_neg (by intro hb; have : y = .leaf := by cases y <;> simp_all [Tr.isLeaf]
                                 subst this; simp [exL] at hk)]
        exact List.mem_append_left _ hk
      · rw [emit, if_pos (by omega), emit, if_pos (by omega), walk_f, walk_f]
        exact hv s
    have R : ∀ (x y z w : Tr) (k i : Nat) (v : List Bool), k ∈ exL w 0 → (∀ s, walk z (emit w k s) = (i, ap v (sc false s)) ∧ walk z (emit w (k + 1) s) = (i, ap v (sc true s))) →
        k + (y.c + 1) ∈ exL (.node y w) 0 ∧ ∀ s, walk (.node x z) (emit (.node y w) (k + (y.c + 1)) s) = (i + (x.c + 1), ap v (sc false s)) ∧ walk (.node x z) (emit (.node y w) (k + (y.c + 1) + 1) s) = (i + (x.c + 1), ap v (sc true s)) := by
      intro x y z w k i v hk hv
      refine ⟨?_, fun s => ?_⟩
      · rw [exL_node, if_neg (by intro hb; have : w = .leaf := by cases w <;> simp_all [Tr.isLeaf]
                                 subst this; simp [exL] at hk)]
        refine List.mem_append_right _ ?_
        have e := exL_shift w 0 (0 + y.c + 1)
        rw [Nat.zero_add] at e
        rw [e]
        exact List.mem_map.2 ⟨k, hk, by omega⟩
      · rw [emit, if_neg (by omega), emit, if_neg (by omega), show k + (y.c + 1) - (y.c + 1) = k by omega, show k + (y.c + 1) + 1 - (y.c + 1) = k + 1 by omega,
          walk_t, walk_t, (hv s).1, (hv s).2]
        exact ⟨rfl, rfl⟩
    by_cases hl : l = l'
    · have hr : r ≠ r' := fun e => h (by rw [hl, e])
      rcases apart r r' hr with ⟨k, i, v, hk, hv⟩ | ⟨k, i, v, hk, hv⟩
      · exact .inl ⟨_, _, v, (R l l' r r' k i v hk hv)⟩
      · exact .inr ⟨_, _, v, (R l' l r' r k i v hk hv)⟩
    · rcases apart l l' hl with ⟨k, i, v, hk, hv⟩ | ⟨k, i, v, hk, hv⟩
      · exact .inl ⟨k, i, v, L l l' r r' k i v hk hv⟩
      · exact .inr ⟨k, i, v, L l' l r' r k i v hk hv⟩

theorem emit_ap : ∀ (t : Tr) (i : Nat), ∃ v : List Bool, ∀ s, emit t i s = ap v s
  | .leaf, i => ⟨[], fun s => rfl⟩
  | .node l r, i => by
    by_cases h : i < l.c + 1
    · obtain ⟨v, hv⟩ := emit_ap l i
      exact ⟨false :: v, fun s => by rw [emit, if_pos h, hv]; rfl⟩
    · obtain ⟨v, hv⟩ := emit_ap r (i - (l.c + 1))
      exact ⟨true :: v, fun s => by rw [emit, if_neg h, hv]; rfl⟩

theorem ap_ap : ∀ (v w : List Bool) (s : St2), ap v (ap w s) = ap (v ++ w) s
  | [], w, s => rfl
  | b :: v, w, s => by show sc b (ap v (ap w s)) = sc b (ap (v ++ w) s); rw [ap_ap v w s]

theorem not_red (p q : Tr × Tr) (hq : q.1.c = q.2.c) (h : ∀ s, fOf p s = fOf q s)
    (k i : Nat) (v : List Bool) (hk : k ∈ exL q.1 0) (hv : ∀ s, walk p.1 (emit q.1 k s) = (i, ap v (sc false s)) ∧ walk p.1 (emit q.1 (k + 1) s) = (i, ap v (sc true s))) : bothL q ≠ [] := by
  have hr := exL_range _ _ _ hk
  obtain ⟨w, hw⟩ := emit_ap p.2 i
  have hd : k ∈ exL q.2 0 := words_ex q.2 k (w ++ v) (by omega) fun s => by
    have h1 := h (emit q.1 k s)
    have h2 := h (emit q.1 (k + 1) s)
    rw [fOf_emit q k s (by omega)] at h1
    rw [fOf_emit q (k + 1) s (by omega)] at h2
    rw [← h1, ← h2]
    simp only [fOf]
    rw [(hv s).1, (hv s).2]
    simp only
    rw [hw, hw, ap_ap, ap_ap]
    exact ⟨rfl, rfl⟩
  intro he
  have : k ∈ bothL q := List.mem_filter.2 ⟨hk, by simpa using hd⟩
  rw [he] at this
  cases this

/-- REDUCED PAIRS THAT DO THE SAME ARE THE SAME. -/
theorem red_unique (p q : Tr × Tr) (hp : p.1.c = p.2.c) (hq : q.1.c = q.2.c) (rp : bothL p = []) (rq : bothL q = []) (h : ∀ s, fOf p s = fOf q s) : p = q := by
  have e1 : p.1 = q.1 := by
    by_cases e : p.1 = q.1
    · exact e
    · exfalso
      rcases apart p.1 q.1 e with ⟨k, i, v, hk, hv⟩ | ⟨k, i, v, hk, hv⟩
      · exact not_red p q hq h k i v hk hv rq
      · exact not_red q p hp (fun s => (h s).symm) k i v hk hv rp
  have e2 : p.2 = q.2 := emit_inj p.2 q.2 (by rw [← hp, ← hq, e1]) fun i s hi => by
    have := h (emit p.1 i s)
    rw [fOf_emit p i s (by omega), e1, fOf_emit q i s (by rw [← e1]; omega)] at this
    exact this
  exact Prod.ext e1 e2

theorem times_eqc (p q : Tr × Tr) (hp : p.1.c = p.2.c) (hq : q.1.c = q.2.c) : (timesT p q).1.c = (timesT p q).2.c :=
  red_eqc _ _ (by rw [raw_c1 p q hp, raw_c2 p q hq])

theorem fOf_times (p q : Tr × Tr) (hp : p.1.c = p.2.c) (hq : q.1.c = q.2.c) (s : St2) : fOf (timesT p q) s = fOf q (fOf p s) := by
  rw [timesT, fOf_red _ _ (by rw [raw_c1 p q hp, raw_c2 p q hq]), fOf_raw p q hp hq]

theorem times_red (p q : Tr × Tr) : bothL (timesT p q) = [] := red_done _ _ (Nat.le_refl _)

theorem times_assoc (p q r : Tr × Tr) (hp : p.1.c = p.2.c) (hq : q.1.c = q.2.c) (hr : r.1.c = r.2.c) : timesT (timesT p q) r = timesT p (timesT q r) := by
  have h1 := times_eqc p q hp hq
  have h2 := times_eqc q r hq hr
  refine red_unique _ _ (times_eqc _ _ h1 hr) (times_eqc _ _ hp h2) (times_red _ _) (times_red _ _) fun s => ?_
  rw [fOf_times _ _ h1 hr, fOf_times _ _ hp hq, fOf_times _ _ hp h2, fOf_times _ _ hq hr]

end Go.AI
end
