/- A part of the road: what it proves stands in its last texts. -/
import Derived.Test.YtndnckjnnfnnnaaDoorGZ
import Derived.Test.YtndnckjnnfnnnaaDoorCT
import Derived.Test.YtndnckjnnfnnnaaDoorCF
section
/- Contracts: exposed carets, dropped carets, what both trees have. -/
set_option autoImplicit false
set_option maxRecDepth 100000
set_option linter.unusedVariables false
namespace Go.AI
open Go.Proofs

/-- The left leaves of the exposed carets. -/
def exL : Tr → Nat → List Nat
  | .leaf, _ => []
  | .node l r, k => if l.isLeaf = true ∧ r.isLeaf = true then [k] else exL l k ++ exL r (k + l.c + 1)

/-- A tree without an exposed caret. -/
def wo : Tr → Nat → Tr
  | .leaf, _ => .leaf
  | .node l r, k => if l.isLeaf = true ∧ r.isLeaf = true then .leaf else if l.c + 1 ≤ k then .node l (wo r (k - (l.c + 1))) else .node (wo l k) r

theorem exL_node (l r : Tr) (k : Nat) : exL (.node l r) k = if l.isLeaf = true ∧ r.isLeaf = true then [k] else exL l k ++ exL r (k + l.c + 1) := rfl

theorem wo_node (l r : Tr) (k : Nat) : wo (.node l r) k = if l.isLeaf = true ∧ r.isLeaf = true then .leaf else if l.c + 1 ≤ k then .node l (wo r (k - (l.c + 1))) else .node (wo l k) r := rfl

theorem exL_range : ∀ (t : Tr) (k x : Nat), x ∈ exL t k → k ≤ x ∧ x < k + t.c
  | .leaf, _, _, h => by simp [exL] at h
  | .node l r, k, x, h => by
    simp only [exL] at h
    simp only [Tr.c]
    split at h
    · simp at h; omega
    · rcases List.mem_append.1 h with h | h
      · have := exL_range l k x h; omega
      · have := exL_range r _ x h; omega

theorem exL_shift : ∀ (t : Tr) (k d : Nat), exL t (k + d) = (exL t k).map (· + d)
  | .leaf, _, _ => rfl
  | .node l r, k, d => by
    simp only [exL]
    split
    · rfl
    · rw [exL_shift l k d, show k + d + l.c + 1 = (k + l.c + 1) + d by omega, exL_shift r _ d, List.map_append]

theorem exL_len : ∀ (t : Tr) (k : Nat), (exL t k).length ≤ t.c
  | .leaf, _ => Nat.le_refl _
  | .node l r, k => by
    simp only [exL, Tr.c]
    split
    · simp; omega
    · rw [List.length_append]
      have := exL_len l k
      have := exL_len r (k + l.c + 1)
      omega

abbrev ints (l : List Nat) : List Int := l.map fun n : Nat => (n : Int)

theorem zokI (l m : List Int) (h : l.length + m.length ≤ 2 ^ 40) : sizeOK (List.length l + List.length m) := h

theorem wo_c : ∀ (t : Tr) (k : Nat), k ∈ exL t 0 → (wo t k).c + 1 = t.c
  | .leaf, k, h => by simp [exL] at h
  | .node l r, k, h => by
    rw [exL_node] at h
    rw [wo_node]
    split
    · rename_i hl
      cases l <;> cases r <;> simp_all [Tr.isLeaf, Tr.c]
    · rename_i hl
      rw [if_neg hl] at h
      rcases List.mem_append.1 h with h | h
      · have hr := exL_range _ _ _ h
        have := wo_c l k h
        rw [if_neg (by omega)]
        simp only [Tr.c]; omega
      · have hr := exL_range _ _ _ h
        have hm : k - (l.c + 1) ∈ exL r 0 := by
          have e := exL_shift r 0 (0 + l.c + 1)
          rw [Nat.zero_add] at e
          rw [e] at h
          obtain ⟨y, hy, rfl⟩ := List.mem_map.1 h
          have e2 : y + (0 + l.c + 1) - (l.c + 1) = y := by omega
          rw [e2]
          exact hy
        have := wo_c r _ hm
        rw [if_pos (by omega)]
        simp only [Tr.c]; omega

theorem text_SC : ∀ (t : Tr), t.c ≤ 2 ^ 30 → SC cfg.P i_impl_node_text [.s (.v .tree t)] (.s (.v .str (bs (txt t)))) []
  | .leaf, _ => impl_node_text_p1
  | .node l r, h => by
    simp only [Tr.c] at h
    have h1 := text_SC l (by omega)
    have h2 := text_SC r (by omega)
    have e : bs (txt (.node l r)) = (((⟨#[40]⟩ : ByteArray) ++ bs (txt l)) ++ bs (txt r)) ++ (⟨#[41]⟩ : ByteArray) := by
      show _ = ((bs [40] ++ bs (txt l)) ++ bs (txt r)) ++ bs [41]
      rw [bs_append, bs_append, bs_append]
      simp [txt]
    have s1 : ((⟨#[40]⟩ : ByteArray)).size = 1 := rfl
    have s2 : ((⟨#[41]⟩ : ByteArray)).size = 1 := rfl
    have q1 : ((⟨#[40]⟩ : ByteArray) ++ bs (txt l)).size = 1 + (txt l).length := by
      show (bs [40] ++ bs (txt l)).size = _
      rw [bs_append, bs_size]; simp; omega
    have q2 : (((⟨#[40]⟩ : ByteArray) ++ bs (txt l)) ++ bs (txt r)).size = 1 + (txt l).length + (txt r).length := by
      show ((bs [40] ++ bs (txt l)) ++ bs (txt r)).size = _
      rw [bs_append, bs_append, bs_size]; simp; omega
    have l1 := txt_len l
    have l2 := txt_len r
    rw [e]
    exact impl_node_text_p2 _ _ _ _ h1 (by rw [s1, bs_size]; omega) h2 (by rw [q1, bs_size]; omega) (by rw [q2, s2]; omega)

/-! ### Search -/

theorem has_SC (l : List Nat) (hl : l.length ≤ 2 ^ 40) (x : Nat) : SC cfg.P i_spec_l1Has [.s (.v (.sl (.int .i64)) (ints l)), .s (.v (.int .i64) (x : Int))] (.s (.v .bool (l.contains x))) [] := by
  have key : ∀ (m i : Nat), l.length - i = m → i ≤ l.length →
      ((l.drop i).contains x = true → LoopSC cfg.P 2 (lb P_spec_l1Has 0) (spec_l1Has_L0a (x : Int) (ints l) ((List.length (ints l) : Nat) : Int) (i : Int)) .ret (spec_l1Has_L0X1 true)) ∧
      ((l.drop i).contains x = false → LoopSC cfg.P 2 (lb P_spec_l1Has 0) (spec_l1Has_L0a (x : Int) (ints l) ((List.length (ints l) : Nat) : Int) (i : Int)) (.exit 0) (spec_l1Has_L0X2 (x : Int) (ints l) ((List.length (ints l) : Nat) : Int) (l.length : Int) false)) := by
    have hle : List.length (ints l) = l.length := List.length_map ..
    intro m
    induction m with
    | zero =>
      intro i hm hi
      have e : i = l.length := by omega
      subst e
      refine ⟨fun h => ?_, fun _ => spec_l1Has_L0a_x3 _ _ _ _ (by rw [hle]; omega)⟩
      rw [List.drop_length] at h
      cases h
    | succ m ih =>
      intro i hm hi
      have hlt : i < l.length := by omega
      obtain ⟨h1, h2⟩ := ih (i + 1) (by omega) (by omega)
      have e1 : IntKind.wrap .i64 ((i : Int) + 1) = ((i + 1 : Nat) : Int) := by rw [w64] <;> omega
      have hg : List.getD (ints l) ((i : Int)).toNat (0 : Int) = (l[i] : Int) := by
        rw [Int.toNat_natCast, List.getD_eq_getElem?_getD, List.getElem?_map, List.getElem?_eq_getElem hlt]; rfl
      have hd : (l.drop i).contains x = (x == l[i] || (l.drop (i + 1)).contains x) := by
        rw [List.drop_eq_getElem_cons hlt, List.contains_cons]
      rw [hd]
      by_cases hx : x = l[i]
      · have hb : (x == l[i]) = true := by rw [beq_iff_eq]; exact hx
        rw [hb]
        exact ⟨fun _ => spec_l1Has_L0a_x1 _ _ _ _ (by rw [hle]; omega) (by omega) (by rw [hle]; omega) (by rw [hg, ← hx]), fun h => by simp at h⟩
      · have hb : (x == l[i]) = false := by rw [beq_eq_false_iff_ne]; exact hx
        have hne : List.getD (ints l) ((i : Int)).toNat (0 : Int) ≠ (x : Int) := by rw [hg]; omega
        rw [hb, Bool.false_or]
        refine ⟨fun h => ?_, fun h => ?_⟩
        · have hj := h1 h
          rw [← e1] at hj
          exact spec_l1Has_L0a_i2 _ _ _ _ (by rw [hle]; omega) (by omega) (by rw [hle]; omega) hne hj
        · have hj := h2 h
          rw [← e1] at hj
          exact spec_l1Has_L0a_i2 _ _ _ _ (by rw [hle]; omega) (by omega) (by rw [hle]; omega) hne hj
  obtain ⟨h1, h2⟩ := key l.length 0 (by omega) (by omega)
  rw [List.drop_zero] at h1 h2
  cases h : l.contains x with
  | true => exact spec_l1Has_p1 _ _ _ (h1 h)
  | false => exact spec_l1Has_p2 _ _ _ _ _ _ _ (h2 h)

/-! ### What both trees have exposed -/

def bothL (p : Tr × Tr) : List Nat := (exL p.1 0).filter fun k => (exL p.2 0).contains k

theorem specBoth_L (f t : List Nat) (hf : f.length ≤ 2 ^ 30) (ht : t.length ≤ 2 ^ 30) : ∀ (m i : Nat) (cur : List Nat), f.length - i = m → i ≤ f.length → cur.length ≤ i →
    LoopSC cfg.P 1 (lb P_spec_prBoth 0) (spec_prBoth_L0a ((List.length (ints f) : Nat) : Int) (i : Int) (ints cur) (ints t) (ints f)) (.exit 0) (spec_prBoth_L0X1 ((List.length (ints f) : Nat) : Int) (f.length : Int) false (ints (cur ++ (f.drop i).filter fun k => t.contains k)) (ints t) (ints f)) := by
  have hle : List.length (ints f) = f.length := List.length_map ..
  intro m
  induction m with
  | zero =>
    intro i cur hm hi hc
    have e : i = f.length := by omega
    subst e
    rw [List.drop_length, List.filter_nil, List.append_nil]
    exact spec_prBoth_L0a_x3 _ _ _ _ _ (by rw [hle]; omega)
  | succ m ih =>
    intro i cur hm hi hc
    have hlt : i < f.length := by omega
    have e1 : IntKind.wrap .i64 ((i : Int) + 1) = ((i + 1 : Nat) : Int) := by rw [w64] <;> omega
    have hg : List.getD (ints f) ((i : Int)).toNat (0 : Int) = (f[i] : Int) := by
      rw [Int.toNat_natCast, List.getD_eq_getElem?_getD, List.getElem?_map, List.getElem?_eq_getElem hlt]; rfl
    have hk := has_SC t (by omega) f[i]
    rw [← hg] at hk
    have g1 : (i : Int) < ((List.length (ints f) : Nat) : Int) := by rw [hle]; omega
    rw [List.drop_eq_getElem_cons hlt, List.filter_cons]
    by_cases hin : t.contains f[i] = true
    · rw [if_pos hin]
      rw [hin] at hk
      have hn := ih (i + 1) (cur ++ [f[i]]) (by omega) (by omega) (by simp; omega)
      have e2 : ints (cur ++ [f[i]]) = ints cur ++ [List.getD (ints f) ((i : Int)).toNat (0 : Int)] := by rw [hg]; simp
      rw [List.append_assoc, List.singleton_append, ← e1, e2] at hn
      exact spec_prBoth_L0a_i1 _ _ _ _ _ g1 (by omega) g1 (by rw [hle]; omega) hk (zokI _ _ (by simp; omega)) hn
    · rw [if_neg hin]
      have hin' : t.contains f[i] = false := by simpa using hin
      rw [hin'] at hk
      have hn := ih (i + 1) cur (by omega) (by omega) (by omega)
      rw [← e1] at hn
      exact spec_prBoth_L0a_i2 _ _ _ _ _ g1 (by omega) g1 (by rw [hle]; omega) hk hn

theorem bothL_mem {p : Tr × Tr} {k : Nat} (h : k ∈ bothL p) : k ∈ exL p.1 0 ∧ k ∈ exL p.2 0 := by
  simp only [bothL, List.mem_filter, List.contains_iff_mem] at h
  exact h

/-- The reduced pair: the first common exposed caret is dropped, again and again. -/
def red : Nat → Tr × Tr → Tr × Tr
  | 0, p => p
  | n + 1, p => match bothL p with
    | [] => p
    | k :: _ => red n (wo p.1 k, wo p.2 k)

theorem plain_SC (p : Tr × Tr) (h1 : p.1.c ≤ 2 ^ 20) (h2 : p.2.c ≤ 2 ^ 20) : SC cfg.P i_impl_pair_plain [.s (.v (.pr .tree .tree) p)] (.s (.v (.pr .str .str) (bs (txt p.1), bs (txt p.2)))) [] :=
  impl_pair_plain_p1 _ _ _ (text_SC _ (by omega)) (text_SC _ (by omega))

end Go.AI
end

section
/- Contracts: exposed carets in texts. -/
set_option autoImplicit false
set_option maxRecDepth 100000
set_option linter.unusedVariables false
namespace Go.AI
open Go.Proofs

/-- The reference's search for '(..)': by the sign before. -/
def exG : UInt8 → List UInt8 → Nat → List Nat
  | _, [], _ => []
  | c0, c :: r, k => (if c0 = 40 ∧ c = 46 ∧ r.take 2 = [46, 41] then [k] else []) ++ exG c r (k + if c = 46 then 1 else 0)

def lastC : Tr → UInt8
  | .leaf => 46
  | .node _ _ => 41

theorem txt_take (r : Tr) (q : List UInt8) : (txt r ++ 41 :: q).take 2 = [46, 41] ↔ r.isLeaf = true := by
  cases r with
  | leaf => simp [txt, Tr.isLeaf]
  | node a b => simp [txt, Tr.isLeaf]

theorem exG_txt : ∀ (t : Tr) (c0 : UInt8) (q : List UInt8) (k : Nat), exG c0 (txt t ++ q) k = (if t.isLeaf = true then (if c0 = 40 ∧ q.take 2 = [46, 41] then [k] else []) else exL t k) ++ exG (lastC t) q (k + t.c + 1)
  | .leaf, c0, q, k => by
    simp [txt, exG, Tr.isLeaf, lastC, Tr.c]
  | .node l r, c0, q, k => by
    have e : txt (.node l r) ++ q = 40 :: (txt l ++ (txt r ++ 41 :: q)) := by simp [txt]
    rw [e]
    have hl := exG_txt l 40 (txt r ++ 41 :: q) k
    have hr := exG_txt r (lastC l) (41 :: q) (k + l.c + 1)
    have hll : lastC l ≠ 40 := by
      cases l
      · show (46 : UInt8) ≠ 40; decide
      · show (41 : UInt8) ≠ 40; decide
    have h0 : ∀ (c : UInt8) (z : List UInt8) (j : Nat), exG c (40 :: z) j = exG 40 z j := fun c z j => by
      have n : ¬ (c = 40 ∧ (40 : UInt8) = 46 ∧ z.take 2 = [46, 41]) := fun h => absurd h.2.1 (by decide)
      have n2 : ¬ ((40 : UInt8) = 46) := by decide
      simp only [exG, if_neg n, if_neg n2, List.nil_append, Nat.add_zero]
    have h1 : ∀ (c : UInt8) (z : List UInt8) (j : Nat), exG c (41 :: z) j = exG 41 z j := fun c z j => by
      have n : ¬ (c = 40 ∧ (41 : UInt8) = 46 ∧ z.take 2 = [46, 41]) := fun h => absurd h.2.1 (by decide)
      have n2 : ¬ ((41 : UInt8) = 46) := by decide
      simp only [exG, if_neg n, if_neg n2, List.nil_append, Nat.add_zero]
    rw [h0, hl, hr, h1]
    have hgoal : (if (Tr.node l r).isLeaf = true then (if c0 = 40 ∧ q.take 2 = [46, 41] then [k] else []) else exL (.node l r) k) = exL (.node l r) k := if_neg (by simp [Tr.isLeaf])
    rw [hgoal, exL_node]
    have hq : k + l.c + 1 + r.c + 1 = k + (Tr.node l r).c + 1 := by simp only [Tr.c]; omega
    rw [hq, ← List.append_assoc]
    congr 1
    have hr0 : (if r.isLeaf = true then if lastC l = 40 ∧ List.take 2 (41 :: q) = [46, 41] then [k + l.c + 1] else [] else exL r (k + l.c + 1)) = exL r (k + l.c + 1) := by
      cases r with
      | leaf => exact (if_pos rfl).trans (if_neg (fun h => hll h.1))
      | node a b => rfl
    rw [hr0]
    cases l with
    | node a b =>
      have : ((Tr.node a b).isLeaf = true) = False := by simp [Tr.isLeaf]
      simp only [this, false_and, if_false]
    | leaf =>
      have hlf : (Tr.leaf.isLeaf = true) = True := by simp [Tr.isLeaf]
      simp only [hlf, if_true, true_and, txt_take]
      cases r with
      | leaf => simp [Tr.isLeaf, exL]
      | node a b => simp [Tr.isLeaf, exL]

theorem exG_all (t : Tr) : exG 0 (txt t) 0 = exL t 0 := by
  have := exG_txt t 0 [] 0
  rw [List.append_nil] at this
  rw [this]
  cases t with
  | leaf => simp [Tr.isLeaf, exG, exL]
  | node l r => simp [Tr.isLeaf, exG]

theorem exG_bound : ∀ (l : List UInt8) (c : UInt8) (k : Nat), (exG c l k).length ≤ l.length
  | [], _, _ => by simp [exG]
  | c :: r, c0, k => by
    simp only [exG, List.length_append, List.length_cons]
    have := exG_bound r c (k + if c = 46 then 1 else 0)
    split <;> simp <;> omega

/-- The sign before a place. -/
def before (l : List UInt8) (i : Nat) : UInt8 := if i = 0 then 0 else l.getD (i - 1) 0

theorem pat_iff (l r : List UInt8) (c : UInt8) (i : Nat) (hi : 1 ≤ i) (h : l.drop i = c :: r) (hlen : i + 2 < l.length) :
    ByteArray.extract (bs l) (i - 1) (i + 3) = (⟨#[40, 46, 46, 41]⟩ : ByteArray) ↔ (before l i = 40 ∧ c = 46 ∧ r.take 2 = [46, 41]) := by
  have hb : before l i = l[i - 1]'(by omega) := by
    rw [before, if_neg (by omega), List.getD_eq_getElem?_getD, List.getElem?_eq_getElem (by omega)]
    rfl
  have hd : l.drop (i - 1) = l[i - 1]'(by omega) :: c :: r := by
    rw [List.drop_eq_getElem_cons (by omega : i - 1 < l.length), show i - 1 + 1 = i by omega, h]
  rw [bs_extract, show i + 3 - (i - 1) = 4 by omega, hd]
  show bs _ = bs [40, 46, 46, 41] ↔ _
  rw [bs_inj, ← hb]
  simp only [List.take_succ_cons, List.cons.injEq]

theorem trExposed_L (l : List UInt8) (hl : l.length ≤ 2 ^ 30) : ∀ (m i k : Nat) (cur : List Nat), l.length - i = m → i ≤ l.length → k ≤ i → cur.length ≤ i →
    ∃ k' : Nat, LoopSC cfg.P 1 (lb P_spec_trExposed 0) (spec_trExposed_L0a (bs l) (k : Int) (i : Int) (ints cur)) (.exit 0) (spec_trExposed_L0X1 (bs l) (k' : Int) (l.length : Int) false (ints (cur ++ exG (before l i) (l.drop i) k))) := by
  intro m
  induction m with
  | zero =>
    intro i k cur hm hi hk hc
    have e : i = l.length := by omega
    subst e
    rw [List.drop_length]
    simp only [exG, List.append_nil]
    exact ⟨k, spec_trExposed_L0a_x9 _ _ _ _ (by rw [bs_size]; omega)⟩
  | succ m ih =>
    intro i k cur hm hi hk hc
    have hlt : i < l.length := by omega
    obtain ⟨c, r, hcr⟩ : ∃ c r, l.drop i = c :: r := ⟨_, _, (List.drop_eq_getElem_cons hlt)⟩
    have hc0 : l.getD i 0 = c := by
      have : (l.drop i)[0]? = some c := by rw [hcr]; rfl
      rw [List.getElem?_drop] at this
      simp only [Nat.add_zero] at this
      simp only [List.getD_eq_getElem?_getD, this, Option.getD]
    have hr : l.drop (i + 1) = r := by
      have : (l.drop i).drop 1 = r := by rw [hcr]; rfl
      rw [List.drop_drop] at this
      exact this
    have hrl : r.length + i + 1 = l.length := by
      have := congrArg List.length hcr
      simp at this
      omega
    have hbt : bt (bs l) (i : Int) = (c.toNat : Int) := by rw [bs_bt, Int.toNat_natCast, hc0]
    have hbef : before l (i + 1) = c := by rw [before, if_neg (by omega)]; exact hc0
    have e1 : IntKind.wrap .i64 ((i : Int) + 1) = ((i + 1 : Nat) : Int) := by rw [w64] <;> omega
    have ek : IntKind.wrap .i64 ((k : Int) + 1) = ((k + 1 : Nat) : Int) := by rw [w64] <;> omega
    have g1 : (i : Int) < ((bs l).size : Int) := by rw [bs_size]; omega
    have y46 : c = 46 → bt (bs l) (i : Int) = 46 := fun h => by rw [hbt, h]; rfl
    have n46 : c ≠ 46 → bt (bs l) (i : Int) ≠ 46 := fun h => by rw [hbt]; intro e; exact h ((byte_eq c 46).1 e)
    rw [hcr]
    simp only [exG]
    by_cases hpat : before l i = 40 ∧ c = 46 ∧ r.take 2 = [46, 41]
    · have hi0 : i ≠ 0 := by
        intro e
        have := hpat.1
        rw [before, if_pos e] at this
        exact absurd this (by decide)
      have hr2 : 2 ≤ r.length := by
        have := congrArg List.length hpat.2.2
        simp at this
        omega
      have hext := (pat_iff l r c i (by omega) hcr (by omega)).2 hpat
      have w1 : IntKind.wrap .i64 ((i : Int) + 2) = ((i + 2 : Nat) : Int) := by rw [w64] <;> omega
      have w2 : IntKind.wrap .i64 ((i : Int) - 1) = ((i - 1 : Nat) : Int) := by rw [w64] <;> omega
      have w3 : IntKind.wrap .i64 ((i : Int) + 3) = ((i + 3 : Nat) : Int) := by rw [w64] <;> omega
      rw [if_pos hpat, if_pos hpat.2.1]
      obtain ⟨k', hn⟩ := ih (i + 1) (k + 1) (cur ++ [k]) (by omega) (by omega) (by omega) (by simp; omega)
      have e2 : ints (cur ++ [k]) = ints cur ++ [(k : Int)] := by simp
      rw [hbef, hr, List.append_assoc, ← e1, ← ek, e2] at hn
      refine ⟨k', spec_trExposed_L0a_i1 _ _ _ _ g1 (by omega) (by rw [w1, bs_size]; omega) (by rw [w2]; omega) (by rw [w2, w3]; omega) (by rw [w3, bs_size]; omega) (by rw [w2, w3, Int.toNat_natCast, Int.toNat_natCast]; exact hext) (zokI _ _ (by simp; omega)) (by omega) (y46 hpat.2.1) hn⟩
    · rw [if_neg hpat, List.nil_append]
      by_cases hi0 : i = 0
      · by_cases h46 : c = 46
        · rw [if_pos h46]
          obtain ⟨k', hn⟩ := ih (i + 1) (k + 1) cur (by omega) (by omega) (by omega) (by omega)
          rw [hbef, hr, ← e1, ← ek] at hn
          exact ⟨k', spec_trExposed_L0a_i7 _ _ _ _ g1 (by omega) (by omega) (y46 h46) hn⟩
        · rw [if_neg h46, Nat.add_zero]
          obtain ⟨k', hn⟩ := ih (i + 1) k cur (by omega) (by omega) (by omega) (by omega)
          rw [hbef, hr, ← e1] at hn
          exact ⟨k', spec_trExposed_L0a_i8 _ _ _ _ g1 (by omega) (by omega) (n46 h46) hn⟩
      · have w1 : IntKind.wrap .i64 ((i : Int) + 2) = ((i + 2 : Nat) : Int) := by rw [w64] <;> omega
        have w2 : IntKind.wrap .i64 ((i : Int) - 1) = ((i - 1 : Nat) : Int) := by rw [w64] <;> omega
        have w3 : IntKind.wrap .i64 ((i : Int) + 3) = ((i + 3 : Nat) : Int) := by rw [w64] <;> omega
        by_cases h2 : i + 2 < l.length
        · have hext : ByteArray.extract (bs l) (i - 1) (i + 3) ≠ (⟨#[40, 46, 46, 41]⟩ : ByteArray) := fun h => hpat ((pat_iff l r c i (by omega) hcr h2).1 h)
          by_cases h46 : c = 46
          · rw [if_pos h46]
            obtain ⟨k', hn⟩ := ih (i + 1) (k + 1) cur (by omega) (by omega) (by omega) (by omega)
            rw [hbef, hr, ← e1, ← ek] at hn
            exact ⟨k', spec_trExposed_L0a_i3 _ _ _ _ g1 (by omega) (by rw [w1, bs_size]; omega) (by rw [w2]; omega) (by rw [w2, w3]; omega) (by rw [w3, bs_size]; omega) (by rw [w2, w3, Int.toNat_natCast, Int.toNat_natCast]; exact hext) (by omega) (y46 h46) hn⟩
          · rw [if_neg h46, Nat.add_zero]
            obtain ⟨k', hn⟩ := ih (i + 1) k cur (by omega) (by omega) (by omega) (by omega)
            rw [hbef, hr, ← e1] at hn
            exact ⟨k', spec_trExposed_L0a_i4 _ _ _ _ g1 (by omega) (by rw [w1, bs_size]; omega) (by rw [w2]; omega) (by rw [w2, w3]; omega) (by rw [w3, bs_size]; omega) (by rw [w2, w3, Int.toNat_natCast, Int.toNat_natCast]; exact hext) (by omega) (n46 h46) hn⟩
        · by_cases h46 : c = 46
          · rw [if_pos h46]
            obtain ⟨k', hn⟩ := ih (i + 1) (k + 1) cur (by omega) (by omega) (by omega) (by omega)
            rw [hbef, hr, ← e1, ← ek] at hn
            exact ⟨k', spec_trExposed_L0a_i5 _ _ _ _ g1 (by omega) (by rw [w1, bs_size]; omega) (by omega) (y46 h46) hn⟩
          · rw [if_neg h46, Nat.add_zero]
            obtain ⟨k', hn⟩ := ih (i + 1) k cur (by omega) (by omega) (by omega) (by omega)
            rw [hbef, hr, ← e1] at hn
            exact ⟨k', spec_trExposed_L0a_i6 _ _ _ _ g1 (by omega) (by rw [w1, bs_size]; omega) (by omega) (n46 h46) hn⟩

theorem trExposed_SC (t : Tr) (h : t.c ≤ 2 ^ 20) : SC cfg.P i_spec_trExposed [.s (.v .str (bs (txt t)))] (.s (.own t_int (.int .i64) (ints (exL t 0)))) [] := by
  obtain ⟨k', hL⟩ := trExposed_L (txt t) (by rw [txt_len]; omega) _ 0 0 [] rfl (by omega) (by omega) (by simp)
  have e : exG (before (txt t) 0) ((txt t).drop 0) 0 = exL t 0 := exG_all t
  rw [e, List.nil_append] at hL
  exact spec_trExposed_p1 _ _ _ _ _ _ hL

end Go.AI
end

section
/- Contracts: pairs. -/
set_option autoImplicit false
set_option maxRecDepth 100000
set_option linter.unusedVariables false
namespace Go.AI
open Go.Proofs

theorem txt_dots : ∀ t : Tr, (txt t).count 46 = t.c + 1
  | .leaf => rfl
  | .node l r => by
    simp only [txt, List.count_cons, List.count_append, txt_dots l, txt_dots r, Tr.c]
    simp
    omega

theorem split_ex : ∀ (t : Tr) (n : Nat), n ∈ exL t 0 → ∃ u v : List UInt8, txt t = u ++ [40, 46, 46, 41] ++ v ∧ u.count 46 = n ∧ txt (wo t n) = u ++ [46] ++ v
  | .leaf, n, h => by simp [exL] at h
  | .node l r, n, h => by
    rw [exL_node] at h
    rw [wo_node]
    by_cases hb : l.isLeaf = true ∧ r.isLeaf = true
    · rw [if_pos hb] at h
      rw [if_pos hb]
      have hl : l = .leaf := by cases l <;> simp_all [Tr.isLeaf]
      have hr : r = .leaf := by cases r <;> simp_all [Tr.isLeaf]
      subst hl; subst hr
      simp at h
      subst h
      exact ⟨[], [], rfl, rfl, rfl⟩
    · rw [if_neg hb] at h
      rw [if_neg hb]
      rcases List.mem_append.1 h with h | h
      · have hr := exL_range _ _ _ h
        rw [if_neg (by omega)]
        obtain ⟨u, v, e1, e2, e3⟩ := split_ex l n h
        refine ⟨40 :: u, v ++ txt r ++ [41], ?_, ?_, ?_⟩
        · simp [txt, e1]
        · rw [List.count_cons_of_ne (by decide)]; exact e2
        · simp [txt, e3]
      · have hr := exL_range _ _ _ h
        rw [if_pos (by omega)]
        have hm : n - (l.c + 1) ∈ exL r 0 := by
          have e := exL_shift r 0 (0 + l.c + 1)
          rw [Nat.zero_add] at e
          rw [e] at h
          obtain ⟨y, hy, rfl⟩ := List.mem_map.1 h
          have e2 : y + (0 + l.c + 1) - (l.c + 1) = y := by omega
          rw [e2]
          exact hy
        obtain ⟨u, v, e1, e2, e3⟩ := split_ex r _ hm
        refine ⟨40 :: (txt l ++ u), v ++ [41], ?_, ?_, ?_⟩
        · simp [txt, e1]
        · rw [List.count_cons_of_ne (by decide), List.count_append, txt_dots, e2]; omega
        · simp [txt, e3]

theorem trDrop_SC (t : Tr) (n : Nat) (h : t.c ≤ 2 ^ 20) (hn : n ∈ exL t 0) : SC cfg.P i_spec_trDrop [.s (.v .str (bs (txt t))), .s (.v (.int .i64) (n : Int))] (.s (.v .str (bs (txt (wo t n))))) [] := by
  obtain ⟨u, v, e1, e2, e3⟩ := split_ex t n hn
  have hlen := txt_len t
  have hlen2 : (txt t).length = u.length + 4 + v.length := by rw [e1]; simp; omega
  have hnb := exL_range _ _ _ hn
  have key : ∀ (m i : Nat), u.length + 1 - i = m → i ≤ u.length + 1 →
      LoopSC cfg.P 2 (lb P_spec_trDrop 0) (spec_trDrop_L0a (bs (txt t)) (n : Int) ((((txt t).take i).count 46 : Nat) : Int) (i : Int)) .ret (spec_trDrop_L0X1 (bs (txt (wo t n)))) := by
    intro m
    induction m with
    | zero =>
      intro i hm hi
      have ei : i = u.length + 1 := by omega
      subst ei
      have ht : (txt t).take (u.length + 1) = u ++ [40] := by
        rw [e1, List.append_assoc, List.take_append]
        simp
        exact List.take_of_length_le (by omega)
      have hc : ((txt t).take (u.length + 1)).count 46 = n := by
        rw [ht, List.count_append, e2]; rfl
      rw [hc]
      have hg : bt (bs (txt t)) ((u.length + 1 : Nat) : Int) = 46 := by
        rw [bs_bt, Int.toNat_natCast, e1, List.append_assoc, List.getD_eq_getElem?_getD, List.getElem?_append_right (by omega)]
        have : u.length + 1 - u.length = 1 := by omega
        rw [this]
        rfl
      have w2 : IntKind.wrap .i64 (((u.length + 1 : Nat) : Int) - 1) = ((u.length : Nat) : Int) := by rw [w64] <;> omega
      have w3 : IntKind.wrap .i64 (((u.length + 1 : Nat) : Int) + 3) = ((u.length + 4 : Nat) : Int) := by rw [w64] <;> omega
      have x1 : ByteArray.extract (bs (txt t)) ((0 : Int)).toNat (((u.length : Nat) : Int)).toNat = bs u := by
        rw [bs_extract, Int.toNat_natCast, e1]
        simp
      have x2 : ByteArray.extract (bs (txt t)) (((u.length + 4 : Nat) : Int)).toNat (((bs (txt t)).size : Int)).toNat = bs v := by
        rw [bs_extract, Int.toNat_natCast, bs_size, Int.toNat_natCast, hlen2, e1]
        have hd : (u ++ [40, 46, 46, 41] ++ v).drop (u.length + 4) = v := by
          have : u.length + 4 = (u ++ [40, 46, 46, 41]).length := by simp
          rw [this, List.drop_left]
        rw [hd]
        congr 1
        apply List.take_of_length_le
        omega
      have hfin : bs (txt (wo t n)) = (bs u ++ (⟨#[46]⟩ : ByteArray)) ++ bs v := by
        show _ = (bs u ++ bs [46]) ++ bs v
        rw [bs_append, bs_append, e3]
      have s1 : ((⟨#[46]⟩ : ByteArray)).size = 1 := rfl
      have q1 : (bs u ++ (⟨#[46]⟩ : ByteArray)).size = u.length + 1 := by
        show (bs u ++ bs [46]).size = _
        rw [bs_append, bs_size]; simp
      have := spec_trDrop_L0a_x2 (bs (txt t)) (n : Int) (n : Int) ((u.length + 1 : Nat) : Int) (by rw [bs_size]; omega) (by omega) hg rfl (by rw [w2]; omega) (by rw [w2, bs_size]; omega) (by rw [w2, x1, s1, bs_size]; omega) (by rw [w3]; omega) (by rw [w3, bs_size]; omega) (by rw [w2, w3, x1, x2, q1, bs_size]; omega)
      rw [w2, w3, x1, x2, ← hfin] at this
      exact this
    | succ m ih =>
      intro i hm hi
      have hlt : i < (txt t).length := by omega
      have hn' := ih (i + 1) (by omega) (by omega)
      have ht : (txt t).take (i + 1) = (txt t).take i ++ [(txt t)[i]] := (List.take_append_getElem hlt).symm
      have hg : bt (bs (txt t)) (i : Int) = ((txt t)[i].toNat : Int) := by rw [bs_bt, Int.toNat_natCast, List.getD_eq_getElem?_getD, List.getElem?_eq_getElem hlt]; rfl
      have ew : IntKind.wrap .i64 ((i : Int) + 1) = ((i + 1 : Nat) : Int) := by rw [w64] <;> omega
      have hcb : ((txt t).take i).count 46 ≤ i := Nat.le_trans List.count_le_length (by simp; omega)
      by_cases h46 : (txt t)[i] = 46
      · have hcnt : ((txt t).take (i + 1)).count 46 = ((txt t).take i).count 46 + 1 := by
          rw [ht, List.count_append, h46]; rfl
        have hle : ((txt t).take (i + 1)).count 46 ≤ n := by
          have e5 : (txt t).take (i + 1) = ((txt t).take (u.length + 1)).take (i + 1) := by rw [List.take_take]; congr 1; omega
          have ht2 : (txt t).take (u.length + 1) = u ++ [40] := by
            rw [e1, List.append_assoc, List.take_append]
            simp
            exact List.take_of_length_le (by omega)
          have hc : ((txt t).take (u.length + 1)).count 46 = n := by rw [ht2, List.count_append, e2]; rfl
          rw [e5, ← hc]
          exact (List.take_sublist _ _).count_le _
        have ec : IntKind.wrap .i64 ((((txt t).take i).count 46 : Nat) + 1 : Int) = ((((txt t).take (i + 1)).count 46 : Nat) : Int) := by rw [hcnt, w64] <;> omega
        rw [← ew, ← ec] at hn'
        exact spec_trDrop_L0a_i3 _ _ _ _ (by rw [bs_size]; omega) (by omega) (by rw [hg, h46]; rfl) (by omega) hn'
      · have hcnt : ((txt t).take (i + 1)).count 46 = ((txt t).take i).count 46 := by
          rw [ht, List.count_append, List.count_cons_of_ne h46]
          simp
        rw [hcnt, ← ew] at hn'
        exact spec_trDrop_L0a_i1 _ _ _ _ (by rw [bs_size]; omega) (by omega) (by rw [hg]; intro e; exact h46 ((byte_eq _ 46).1 e)) hn'
  have := key (u.length + 1) 0 (by omega) (by omega)
  exact spec_trDrop_p1 _ _ _ this

theorem prBoth_SC (p : Tr × Tr) (h1 : p.1.c ≤ 2 ^ 20) (h2 : p.2.c ≤ 2 ^ 20) : SC cfg.P i_spec_prBoth [.s (.v (.pr .str .str) (bs (txt p.1), bs (txt p.2)))] (.s (.own t_int (.int .i64) (ints (bothL p)))) [] := by
  have l1 := exL_len p.1 0
  have l2 := exL_len p.2 0
  have hL := specBoth_L (exL p.1 0) (exL p.2 0) (by omega) (by omega) _ 0 [] rfl (by omega) (by simp)
  rw [List.drop_zero, List.nil_append] at hL
  exact spec_prBoth_p1 _ _ _ _ _ _ _ _ _ (trExposed_SC p.2 h2) (trExposed_SC p.1 h1) hL

abbrev pt (p : Tr × Tr) : ByteArray × ByteArray := (bs (txt p.1), bs (txt p.2))

def isPair (a b : List UInt8) : Bool := isTree a && isTree b && ((treeOf a).c == (treeOf b).c)

theorem isPair_trees {a b : List UInt8} (h : isPair a b = true) : a = txt (treeOf a) ∧ b = txt (treeOf b) ∧ (treeOf a).c ≤ 8 ∧ (treeOf b).c ≤ 8 ∧ (treeOf a).c = (treeOf b).c := by
  simp only [isPair, Bool.and_eq_true, beq_iff_eq] at h
  obtain ⟨⟨h1, h2⟩, h3⟩ := h
  have a1 := treeOf_txt h1
  have a2 := treeOf_txt h2
  exact ⟨a1.1, a2.1, a1.2, a2.2, h3⟩

theorem red_c : ∀ (n : Nat) (p : Tr × Tr), (red n p).1.c ≤ p.1.c ∧ (red n p).2.c ≤ p.2.c
  | 0, p => ⟨Nat.le_refl _, Nat.le_refl _⟩
  | n + 1, p => by
    simp only [red]
    split
    · exact ⟨Nat.le_refl _, Nat.le_refl _⟩
    · rename_i k ks hB
      have hmem : k ∈ bothL p := by rw [hB]; exact List.mem_cons_self
      have c1 := wo_c p.1 k (bothL_mem hmem).1
      have c2 := wo_c p.2 k (bothL_mem hmem).2
      have := red_c n (wo p.1 k, wo p.2 k)
      simp only at this
      omega

end Go.AI
end

section
/- Names that the texts about trees with addresses share. -/
set_option autoImplicit false
namespace Go.AI
abbrev E1 : ByteArray := (⟨#[]⟩ : ByteArray)
end Go.AI
end

section
/- A caret over two trees. -/
set_option autoImplicit false
set_option maxRecDepth 100000
set_option linter.unusedVariables false
namespace Go.AI
open Go.Proofs

theorem trOf_SC (t u : Tr) (ht : t.c ≤ 2 ^ 30) (hu : u.c ≤ 2 ^ 30) : SC cfg.P i_spec_trOf [.s (.v .str (bs (txt t))), .s (.v .str (bs (txt u)))] (.s (.v .str (bs (txt (.node t u))))) [] := by
  have h1 := txt_len t
  have h2 := txt_len u
  have s0 : ((⟨#[40]⟩ : ByteArray)).size = 1 := rfl
  have s1 : ((⟨#[41]⟩ : ByteArray)).size = 1 := rfl
  have e1 : (⟨#[40]⟩ : ByteArray) ++ bs (txt t) = bs (40 :: txt t) := by show bs [40] ++ _ = _; rw [bs_append]; rfl
  have e2 : (⟨#[40]⟩ : ByteArray) ++ bs (txt t) ++ bs (txt u) = bs (40 :: txt t ++ txt u) := by rw [e1, bs_append]
  have e3 : (⟨#[40]⟩ : ByteArray) ++ bs (txt t) ++ bs (txt u) ++ (⟨#[41]⟩ : ByteArray) = bs (txt (.node t u)) := by
    rw [e2]; show _ ++ bs [41] = _; rw [bs_append]; simp [txt]
  have := spec_trOf_p1 (bs (txt t)) (bs (txt u)) (by rw [s0, bs_size]; omega) (by rw [e1, bs_size, bs_size]; simp; omega) (by rw [e2, bs_size, s1]; simp; omega)
  rw [e3] at this
  exact this

end Go.AI
end
