/- The law of WordOfPair. -/
import Derived.Test.YtdfllkeekehplaaJJ
import Derived.Test.YtdfllkeekehplaaCMw
set_option autoImplicit false
set_option maxRecDepth 100000
set_option linter.unusedVariables false
namespace Go.AI
open Go.Proofs

def wopW (a b : List UInt8) : List Int := norW (red (treeOf a).c (treeOf a, treeOf b))
def wopV (a b : List UInt8) : List Int := if isPair a b = true then wopW a b else []

theorem wop_facts (a b : List UInt8) (h : isPair a b = true) : isWd (wopW a b) = true ∧ (wopW a b).length ≤ 16 ∧ (red (treeOf a).c (treeOf a, treeOf b)).1.c ≤ 8 ∧ (red (treeOf a).c (treeOf a, treeOf b)).2.c ≤ 8 := by
  obtain ⟨a1, a2, a3, a4, a5⟩ := isPair_trees h
  have hr := red_c (treeOf a).c (treeOf a, treeOf b)
  simp only at hr
  obtain ⟨n1, n2, n3, n4⟩ := nor_facts (red (treeOf a).c (treeOf a, treeOf b))
  have hlen : (wopW a b).length ≤ 16 := by
    have hi : (invW (ints (woR (exR (red (treeOf a).c (treeOf a, treeOf b)).2) 0))).length = (ints (woR (exR (red (treeOf a).c (treeOf a, treeOf b)).2) 0)).length := by simp [invW]
    unfold wopW norW
    rw [List.length_append, hi]
    omega
  refine ⟨?_, hlen, by omega, by omega⟩
  rw [isWd, decide_eq_true (by omega), Bool.true_and, List.all_eq_true]
  intro n hn
  apply decide_eq_true
  unfold wopW norW at hn
  rcases List.mem_append.1 hn with hn | hn
  · have := n3 n hn; omega
  · unfold invW at hn
    obtain ⟨x, hx, rfl⟩ := List.mem_map.1 hn
    have := n4 x (List.mem_reverse.1 hx)
    omega

theorem implWop_SC (a b : List UInt8) (ha : a.length ≤ 2 ^ 40) (hb : b.length ≤ 2 ^ 40) :
    SC cfg.P i_impl_WordOfPair [.s (.v (.pr .str .str) (bs a, bs b))] (.tup [.own t_int (.int .i64) (wopV a b), .v .bool (isPair a b)]) [] := by
  have h1 := pairOf_SC a b ha hb
  unfold wopV
  cases t : isPair a b with
  | false => rw [t] at h1; exact impl_WordOfPair_p3 _ _ h1
  | true =>
    rw [t] at h1
    obtain ⟨a1, a2, a3, a4, a5⟩ := isPair_trees t
    obtain ⟨f1, f2, f3, f4⟩ := wop_facts a b t
    have h2 := reduced_SC (treeOf a, treeOf b) (by simp only; omega) (by simp only; omega)
    have h3 := wordOfPair_SC (red (treeOf a).c (treeOf a, treeOf b)) (by omega) (by omega)
    rw [if_pos rfl]
    exact impl_WordOfPair_p1 _ _ _ _ _ h1 h2 h3 (madeWord_SCS (wopW a b) (by omega) f1)

end Go.AI
