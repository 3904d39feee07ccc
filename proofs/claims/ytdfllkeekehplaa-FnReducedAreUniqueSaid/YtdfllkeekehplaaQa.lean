/- Contracts: reduced and expanded pairs, their texts. -/
import Derived.Test.YtdfllkeekehplaaCAb
import Derived.Test.YtdfllkeekehplaaC6b
import Derived.Test.YtdfllkeekehplaaCSc
import Derived.Test.YtdfllkeekehplaaDe
import Derived.Test.YtdfllkeekehplaaDt
import Derived.Test.YtdfllkeekehplaaFpm
import Derived.Test.YtdfllkeekehplaaGA
import Derived.Test.YtdfllkeekehplaaAiH
set_option autoImplicit false
set_option maxRecDepth 100000
set_option linter.unusedVariables false
namespace Go.AI
open Go.Proofs

/-- A pair that may be. -/
def Ok8 (p : Tr × Tr) : Prop := p.1.c = p.2.c ∧ p.1.c ≤ 8

theorem ok_of {a b : List UInt8} (h : isPair a b = true) : Ok8 (treeOf a, treeOf b) ∧ (bs a, bs b) = pt (treeOf a, treeOf b) := by
  obtain ⟨x1, x2, x3, x4, x5⟩ := isPair_trees h
  refine ⟨⟨x5, x3⟩, ?_⟩
  show (bs a, bs b) = (bs (txt (treeOf a)), bs (txt (treeOf b)))
  rw [← x1, ← x2]

theorem is_txt {p : Tr × Tr} (h : Ok8 p) : isPair (txt p.1) (txt p.2) = true := by
  rw [isPair_txt p h.1]; exact decide_eq_true h.2

theorem tree_txt {p : Tr × Tr} (h : Ok8 p) : treeOf (txt p.1) = p.1 ∧ treeOf (txt p.2) = p.2 := by
  obtain ⟨x1, x2, _, _, _⟩ := isPair_trees (is_txt h)
  exact ⟨(txt_inj' x1).symm, (txt_inj' x2).symm⟩

theorem txt8 {p : Tr × Tr} (h : Ok8 p) : (txt p.1).length ≤ 25 ∧ (txt p.2).length ≤ 25 := by
  have := txt_len p.1
  have := txt_len p.2
  have := h.1
  have := h.2
  omega

theorem po_SC (p : Tr × Tr) (h : Ok8 p) : SC cfg.P i_impl_pairOf [.s (.v (.pr .str .str) (pt p))] (.tup [.v (.pr .tree .tree) p, .v .bool true]) [] := by
  have ht := txt8 h
  have r := pairOf_SC (txt p.1) (txt p.2) (by omega) (by omega)
  rw [is_txt h, (tree_txt h).1, (tree_txt h).2] at r
  exact r

theorem isRed_SC (p : Tr × Tr) (h : Ok8 p) : SC cfg.P i_impl_IsReduced [.s (.v (.pr .str .str) (pt p))] (.tup [.v .bool (decide (bothL p = [])), .v .bool true]) [] := by
  have r := both_SC p (by have := h.2; omega) (by have := h.1; have := h.2; omega)
  by_cases hb : bothL p = []
  · rw [hb] at r
    rw [decide_eq_true hb]
    exact impl_IsReduced_p1 _ _ _ (po_SC p h) r rfl
  · rw [decide_eq_false hb]
    refine impl_IsReduced_p2 _ _ _ (po_SC p h) r ?_
    have : (ints (bothL p)).length = (bothL p).length := List.length_map ..
    have h0 := List.length_pos_iff.2 hb
    omega

def irB (a b : List UInt8) : Bool := isPair a b && decide (bothL (treeOf a, treeOf b) = [])

theorem implIR_SC (a b : List UInt8) (ha : a.length ≤ 2 ^ 40) (hb : b.length ≤ 2 ^ 40) : SC cfg.P i_impl_IsReduced [.s (.v (.pr .str .str) (bs a, bs b))] (.tup [.v .bool (irB a b), .v .bool (isPair a b)]) [] := by
  unfold irB
  cases hp : isPair a b with
  | true =>
    obtain ⟨o, e⟩ := ok_of hp
    rw [e, Bool.true_and]
    exact isRed_SC _ o
  | false =>
    have h := pairOf_SC a b ha hb
    rw [hp] at h
    rw [Bool.false_and]
    exact impl_IsReduced_p3 _ _ h

theorem specIR_SC (a b : List UInt8) (ha : a.length ≤ 2 ^ 40) (hb : b.length ≤ 2 ^ 40) : SC cfg.P i_spec_IsReduced [.s (.v (.pr .str .str) (bs a, bs b))] (.tup [.v .bool (irB a b), .v .bool (isPair a b)]) [] := by
  have h := prGood_SC a b ha hb
  unfold irB
  cases hp : isPair a b with
  | true =>
    rw [hp] at h
    obtain ⟨o, e⟩ := ok_of hp
    rw [Bool.true_and]
    rw [e] at h ⊢
    have r := prBoth_SC (treeOf a, treeOf b) (by have := o.2; omega) (by have := o.1; have := o.2; omega)
    by_cases hb : bothL (treeOf a, treeOf b) = []
    · rw [hb] at r
      rw [decide_eq_true hb]
      exact spec_IsReduced_p1 _ _ h r rfl
    · rw [decide_eq_false hb]
      refine spec_IsReduced_p2 _ _ h r ?_
      have : (ints (bothL (treeOf a, treeOf b))).length = (bothL (treeOf a, treeOf b)).length := List.length_map ..
      have h0 := List.length_pos_iff.2 hb
      omega
  | false =>
    rw [hp] at h
    rw [Bool.false_and]
    exact spec_IsReduced_p3 _ h

theorem same_SC' (p q : Tr × Tr) (hp : Ok8 p) (hq : Ok8 q) (h : redP p = redP q) : SC cfg.P i_laws_fSameMap [.s (.v (.pr .str .str) (pt p)), .s (.v (.pr .str .str) (pt q))] (.s (.v .bool true)) [] := by
  have t1 := txt8 hp
  have t2 := txt8 hq
  have r := implSame_SC (txt p.1) (txt p.2) (txt q.1) (txt q.2) (by omega) (by omega) (by omega) (by omega)
  rw [is_txt hp, is_txt hq] at r
  unfold sameB at r
  rw [is_txt hp, is_txt hq, (tree_txt hp).1, (tree_txt hp).2, (tree_txt hq).1, (tree_txt hq).2, decide_eq_true h] at r
  exact laws_fSameMap_p1 _ _ _ r

def rpV (a b : List UInt8) : ByteArray × ByteArray := if isPair a b = true then pt (redP (treeOf a, treeOf b)) else (⟨#[]⟩, ⟨#[]⟩)

theorem redP_c (p : Tr × Tr) : (redP p).1.c ≤ p.1.c ∧ (redP p).2.c ≤ p.2.c := red_c _ p

theorem implRP_SC (a b : List UInt8) (ha : a.length ≤ 2 ^ 40) (hb : b.length ≤ 2 ^ 40) : SC cfg.P i_impl_ReducePair [.s (.v (.pr .str .str) (bs a, bs b))] (.tup [.v (.pr .str .str) (rpV a b), .v .bool (isPair a b)]) [] := by
  have h := pairOf_SC a b ha hb
  unfold rpV
  cases hp : isPair a b with
  | true =>
    rw [hp] at h
    rw [if_pos rfl]
    obtain ⟨o, e⟩ := ok_of hp
    have c := redP_c (treeOf a, treeOf b)
    have o1 := o.1
    have o2 := o.2
    exact impl_ReducePair_p1 _ _ _ _ h (reduced_SC (treeOf a, treeOf b) (by omega) (by omega)) (plain_SC (redP (treeOf a, treeOf b)) (by omega) (by omega))
  | false =>
    rw [hp] at h
    rw [if_neg (by simp)]
    exact impl_ReducePair_p2 _ _ h

theorem specRP_SC (a b : List UInt8) (ha : a.length ≤ 2 ^ 40) (hb : b.length ≤ 2 ^ 40) : SC cfg.P i_spec_ReducePair [.s (.v (.pr .str .str) (bs a, bs b))] (.tup [.v (.pr .str .str) (rpV a b), .v .bool (isPair a b)]) [] := by
  have h := prGood_SC a b ha hb
  unfold rpV
  cases hp : isPair a b with
  | true =>
    rw [hp] at h
    rw [if_pos rfl]
    obtain ⟨o, e⟩ := ok_of hp
    have o1 := o.1
    have o2 := o.2
    have r := prReduce_SC (treeOf a, treeOf b) (by omega) (by omega)
    rw [← e] at r
    exact spec_ReducePair_p1 _ _ h r
  | false =>
    rw [hp] at h
    rw [if_neg (by simp)]
    exact spec_ReducePair_p2 _ h

theorem redBy_steps : ∀ (n : Nat) (cs : List Nat) (p : Tr × Tr), Steps p (redBy n cs p) ∧ (p.1.c ≤ n → Nf (redBy n cs p)) := by
  intro n
  induction n with
  | zero => exact fun cs p => ⟨.refl p, fun h q hq => by have h2 : q.1.c + 1 = p.1.c := hq.c.1; omega⟩
  | succ n ih =>
    intro cs p
    rw [redBy]
    split
    · rename_i hb
      exact ⟨.refl p, fun _ => nf_both.2 hb⟩
    · rename_i k r hb
      have hm : pick cs (k :: r) ∈ bothL p := by rw [hb]; exact pick_mem cs k r
      obtain ⟨h1, h2⟩ := step_mem.1 hm
      have hs : Step p (wo p.1 (pick cs (k :: r)), wo p.2 (pick cs (k :: r))) := ⟨_, h1, h2, rfl⟩
      obtain ⟨i1, i2⟩ := ih cs.tail (wo p.1 (pick cs (k :: r)), wo p.2 (pick cs (k :: r)))
      exact ⟨.cons hs i1, fun hc => i2 (by have h3 : (wo p.1 (pick cs (k :: r))).c + 1 = p.1.c := hs.c.1; show (wo p.1 (pick cs (k :: r))).c ≤ n; omega)⟩

theorem redBy_red (cs : List Nat) (p : Tr × Tr) : redBy p.1.c cs p = redP p := by
  obtain ⟨a1, a2⟩ := redBy_steps p.1.c cs p
  obtain ⟨b1, b2⟩ := red_steps p.1.c p
  exact nf_one p.1.c p _ _ (Nat.le_refl _) a1 (a2 (Nat.le_refl _)) b1 (b2 (Nat.le_refl _))

/-! ### Expanded pairs -/

abbrev cher : Tr := .node .leaf .leaf

theorem grf_ex : ∀ (t : Tr) (k : Nat), k ≤ t.c → isEx (grf t k cher) k = true ∧ wo (grf t k cher) k = t
  | .leaf, k, h => by
    simp only [Tr.c] at h
    have e : k = 0 := by omega
    subst e
    exact ⟨rfl, rfl⟩
  | .node l r, k, h => by
    have e : (Tr.node l r).c = l.c + r.c + 1 := by simp only [Tr.c]; omega
    rw [grf]
    by_cases hk : k ≤ l.c
    · rw [if_pos hk]
      obtain ⟨i1, i2⟩ := grf_ex l k hk
      have c1 := grf_c l k cher hk
      have z : cher.c = 1 := rfl
      have nb : ¬ ((grf l k cher).isLeaf = true ∧ r.isLeaf = true) := fun g => by rw [isEx_leaf i1] at g; exact absurd g.1 (by simp)
      rw [isEx, if_neg nb, if_neg (by omega), wo, if_neg nb, if_neg (by omega), i2]
      exact ⟨i1, rfl⟩
    · rw [if_neg hk]
      obtain ⟨i1, i2⟩ := grf_ex r (k - (l.c + 1)) (by omega)
      have nb : ¬ (l.isLeaf = true ∧ (grf r (k - (l.c + 1)) cher).isLeaf = true) := fun g => by rw [isEx_leaf i1] at g; exact absurd g.2 (by simp)
      rw [isEx, if_neg nb, if_pos (by omega), wo, if_neg nb, if_pos (by omega), i2]
      exact ⟨i1, rfl⟩

def exP (p : Tr × Tr) (k : Nat) : Tr × Tr := (grf p.1 k cher, grf p.2 k cher)

theorem exP_step (p : Tr × Tr) (k : Nat) (hp : p.1.c = p.2.c) (hk : k ≤ p.1.c) : Step (exP p k) p := by
  obtain ⟨a1, a2⟩ := grf_ex p.1 k hk
  obtain ⟨b1, b2⟩ := grf_ex p.2 k (by omega)
  exact ⟨k, a1, b1, by show p = (wo (grf p.1 k cher) k, wo (grf p.2 k cher) k); rw [a2, b2]⟩

theorem redP_step {p q : Tr × Tr} (h : Step p q) : redP p = redP q :=
  red_one (.refl p) (.cons h (.refl q)) (Nat.le_refl _) (Nat.le_refl _)

def exB (a b : List UInt8) (k : Int) : Bool := isPair a b && (decide (0 ≤ k ∧ k ≤ (treeOf a).c) && decide ((treeOf a).c < 8))
def exV (a b : List UInt8) (k : Int) : ByteArray × ByteArray := if exB a b k = true then pt (exP (treeOf a, treeOf b) k.toNat) else (⟨#[]⟩, ⟨#[]⟩)

theorem implEx_SC (a b : List UInt8) (ha : a.length ≤ 2 ^ 40) (hb : b.length ≤ 2 ^ 40) (k : Int) : SC cfg.P i_impl_ExpandPair [.s (.v (.pr .str .str) (bs a, bs b)), .s (.v (.int .i64) k)] (.tup [.v (.pr .str .str) (exV a b k), .v .bool (exB a b k)]) [] := by
  have h := pairOf_SC a b ha hb
  unfold exV exB
  cases hp : isPair a b with
  | false =>
    rw [hp] at h
    rw [Bool.false_and, if_neg (by simp)]
    exact impl_ExpandPair_p3 _ _ _ h
  | true =>
    rw [hp] at h
    rw [Bool.true_and]
    obtain ⟨o, e⟩ := ok_of hp
    have o1 := o.1
    have o2 := o.2
    generalize treeOf a = t at *
    generalize treeOf b = u at *
    simp only at o1 o2
    have hl := leaves_SC t (by omega)
    by_cases hk : 0 ≤ k ∧ k ≤ t.c
    · rw [decide_eq_true hk, Bool.true_and]
      obtain ⟨m, rfl⟩ : ∃ m : Nat, k = m := ⟨k.toNat, by omega⟩
      have hh := impl_hasLeaf_p1 _ _ _ (show ((m : Nat) : Int) ≥ 0 by omega) hl (by omega)
      have g1 := graftN_SC t m cher (by omega) (by omega)
      have g2 := graftN_SC u m cher (by omega) (by omega)
      have c1 := grf_c t m cher (by omega)
      have c2 := grf_c u m cher (by omega)
      have z : cher.c = 1 := rfl
      have f := fits_SC (grf t m cher, grf u m cher) (by show (grf t m cher).c ≤ _; omega) (by show (grf u m cher).c ≤ _; omega)
      have r := impl_ExpandPair_p1 _ _ _ _ _ _ _ h hh g1 g2 f
      by_cases h8 : t.c < 8
      · rw [decide_eq_true h8, if_pos rfl]
        have q : (grf t m cher, grf u m cher).1.c ≤ 8 := by show (grf t m cher).c ≤ 8; omega
        rw [decide_eq_true q] at r
        unfold fitV at r
        rw [if_pos q] at r
        exact r
      · rw [decide_eq_false h8, if_neg (by simp)]
        have q : ¬ (grf t m cher, grf u m cher).1.c ≤ 8 := by show ¬ (grf t m cher).c ≤ 8; omega
        rw [decide_eq_false q] at r
        unfold fitV at r
        rw [if_neg q] at r
        exact r
    · rw [decide_eq_false hk, Bool.false_and, if_neg (by simp)]
      refine impl_ExpandPair_p2 _ _ _ h ?_
      by_cases h0 : k ≥ 0
      · exact impl_hasLeaf_p2 _ _ _ h0 hl (by omega)
      · exact impl_hasLeaf_p3 _ _ h0

theorem l1In_SC (n lo hi : Int) : SC cfg.P i_spec_l1In [.s (.v (.int .i64) n), .s (.v (.int .i64) lo), .s (.v (.int .i64) hi)] (.s (.v .bool (decide (lo ≤ n ∧ n ≤ hi)))) [] := by
  by_cases h1 : lo ≤ n
  · by_cases h2 : n ≤ hi
    · rw [decide_eq_true ⟨h1, h2⟩]; exact spec_l1In_p1 _ _ _ (by omega) h2
    · rw [decide_eq_false (fun h => h2 h.2)]; exact spec_l1In_p2 _ _ _ (by omega) h2
  · rw [decide_eq_false (fun h => h1 h.1)]; exact spec_l1In_p3 _ _ _ (by omega)

theorem specEx_SC (a b : List UInt8) (ha : a.length ≤ 2 ^ 40) (hb : b.length ≤ 2 ^ 40) (k : Int) : SC cfg.P i_spec_ExpandPair [.s (.v (.pr .str .str) (bs a, bs b)), .s (.v (.int .i64) k)] (.tup [.v (.pr .str .str) (exV a b k), .v .bool (exB a b k)]) [] := by
  have h := prGood_SC a b ha hb
  unfold exV exB
  cases hp : isPair a b with
  | false =>
    rw [hp] at h
    rw [Bool.false_and, if_neg (by simp)]
    exact spec_ExpandPair_p3 _ _ (spec_prLeaf_p2 _ _ h)
  | true =>
    rw [hp] at h
    rw [Bool.true_and]
    obtain ⟨o, e⟩ := ok_of hp
    have o1 := o.1
    have o2 := o.2
    rw [e] at h ⊢
    generalize treeOf a = t at *
    generalize treeOf b = u at *
    simp only at o1 o2
    have lt := txt_len t
    have hc := trCarets_SC (txt t) (by omega)
    rw [txt_count] at hc
    have hi := l1In_SC k 0 (t.c : Int)
    by_cases hk : 0 ≤ k ∧ k ≤ t.c
    · rw [decide_eq_true hk] at hi
      rw [decide_eq_true hk, Bool.true_and]
      have hL := spec_prLeaf_p1 (pt (t, u)) k _ _ h hc hi
      by_cases h8 : t.c < 8
      · rw [decide_eq_true h8, if_pos rfl]
        obtain ⟨m, rfl⟩ : ∃ m : Nat, k = m := ⟨k.toNat, by omega⟩
        have g1 := trGraft_SC t m cher (by omega) (by omega) (by decide)
        have g2 := trGraft_SC u m cher (by omega) (by omega) (by decide)
        exact spec_ExpandPair_p2 _ _ _ _ _ hL hc (by omega) g1 g2
      · rw [decide_eq_false h8, if_neg (by simp)]
        exact spec_ExpandPair_p1 _ _ _ hL hc (by omega)
    · rw [decide_eq_false hk] at hi
      rw [decide_eq_false hk, Bool.false_and, if_neg (by simp)]
      exact spec_ExpandPair_p3 _ _ (spec_prLeaf_p1 (pt (t, u)) k _ _ h hc hi)

end Go.AI
