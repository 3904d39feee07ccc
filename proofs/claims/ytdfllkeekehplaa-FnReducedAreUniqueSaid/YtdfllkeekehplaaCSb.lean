/- Contracts: pairs that do the same. -/
import Derived.Test.YtdfllkeekehplaaGX
import Derived.Test.YtdfllkeekehplaaCE
set_option autoImplicit false
set_option maxRecDepth 100000
set_option linter.unusedVariables false
namespace Go.AI
open Go.Proofs

theorem txt_inj' {t u : Tr} (h : txt t = txt u) : t = u := by
  have := txt_inj t u [] [] (by simpa using h)
  exact this.1

theorem pt_inj {p q : Tr × Tr} : pt p = pt q ↔ p = q := by
  constructor
  · intro h
    simp only [pt, Prod.mk.injEq, bs_inj] at h
    exact Prod.ext (txt_inj' h.1) (txt_inj' h.2)
  · intro h; rw [h]

theorem ptext_SC (p : Tr × Tr) (h1 : p.1.c ≤ 2 ^ 20) (h2 : p.2.c ≤ 2 ^ 20) : SC cfg.P i_impl_pair_text [.s (.v (.pr .tree .tree) p)] (.s (.v .str (bs (txt p.1 ++ [62] ++ txt p.2)))) [] := by
  have l1 := txt_len p.1
  have l2 := txt_len p.2
  have s1 : ((⟨#[62]⟩ : ByteArray)).size = 1 := rfl
  have q1 : (bs (txt p.1) ++ (⟨#[62]⟩ : ByteArray)).size = (txt p.1).length + 1 := by
    show (bs (txt p.1) ++ bs [62]).size = _
    rw [bs_append, bs_size]; simp
  have := impl_pair_text_p1 p _ _ (text_SC p.1 (by omega)) (by rw [bs_size, s1]; omega) (text_SC p.2 (by omega)) (by rw [q1, bs_size]; omega)
  have e : (bs (txt p.1) ++ (⟨#[62]⟩ : ByteArray)) ++ bs (txt p.2) = bs (txt p.1 ++ [62] ++ txt p.2) := by
    show (bs (txt p.1) ++ bs [62]) ++ bs (txt p.2) = _
    rw [bs_append, bs_append]
  rw [e] at this
  exact this

def redP (p : Tr × Tr) : Tr × Tr := red p.1.c p

theorem same_SC (p q : Tr × Tr) (h1 : p.1.c ≤ 2 ^ 10) (h2 : p.2.c ≤ 2 ^ 10) (h3 : q.1.c ≤ 2 ^ 10) (h4 : q.2.c ≤ 2 ^ 10) :
    SC cfg.P i_impl_pair_same [.s (.v (.pr .tree .tree) p), .s (.v (.pr .tree .tree) q)] (.s (.v .bool (decide (redP p = redP q)))) [] := by
  have r1 := reduced_SC p (by omega) (by omega)
  have r2 := reduced_SC q (by omega) (by omega)
  have c1 := red_c p.1.c p
  have c2 := red_c q.1.c q
  have t1 := ptext_SC (redP p) (by unfold redP; omega) (by unfold redP; omega)
  have t2 := ptext_SC (redP q) (by unfold redP; omega) (by unfold redP; omega)
  by_cases h : redP p = redP q
  · rw [decide_eq_true h]
    exact impl_pair_same_p1 _ _ _ _ _ _ r1 t1 r2 t2 (by rw [h])
  · rw [decide_eq_false h]
    refine impl_pair_same_p2 _ _ _ _ _ _ r1 t1 r2 t2 ?_
    intro e
    rw [bs_inj, List.append_assoc, List.append_assoc] at e
    obtain ⟨e1, e2⟩ := txt_inj _ _ _ _ e
    simp at e2
    exact h (Prod.ext e1 (txt_inj' e2))

def sameB (a b c d : List UInt8) : Bool := (isPair a b && isPair c d) && decide (redP (treeOf a, treeOf b) = redP (treeOf c, treeOf d))

theorem implSame_SC (a b c d : List UInt8) (ha : a.length ≤ 2 ^ 40) (hb : b.length ≤ 2 ^ 40) (hc : c.length ≤ 2 ^ 40) (hd : d.length ≤ 2 ^ 40) :
    SC cfg.P i_impl_AreSamePairs [.s (.v (.pr .str .str) (bs a, bs b)), .s (.v (.pr .str .str) (bs c, bs d))] (.tup [.v .bool (sameB a b c d), .v .bool (isPair a b && isPair c d)]) [] := by
  have h2 := two_SC a b c d ha hb hc hd
  unfold twoB at h2
  unfold sameB
  cases h : (isPair a b && isPair c d) with
  | true =>
    rw [h] at h2
    rw [Bool.and_eq_true] at h
    obtain ⟨_, _, x3, x4, _⟩ := isPair_trees h.1
    obtain ⟨_, _, y3, y4, _⟩ := isPair_trees h.2
    have hs := same_SC (treeOf a, treeOf b) (treeOf c, treeOf d) (by simp only; omega) (by simp only; omega) (by simp only; omega) (by simp only; omega)
    rw [Bool.true_and]
    exact impl_AreSamePairs_p1 _ _ _ _ _ h2 hs
  | false =>
    rw [h] at h2
    rw [Bool.false_and]
    exact impl_AreSamePairs_p2 _ _ _ _ h2

end Go.AI
