/- The law of ProductPair. -/
import Derived.Test.YtdfllkeekehplaaGK
import Derived.Test.YtdfllkeekehplaaCE
set_option autoImplicit false
set_option maxRecDepth 100000
set_option linter.unusedVariables false
namespace Go.AI
open Go.Proofs

/-- The product that is told. -/
def prodP (a b e f : List UInt8) : Tr × Tr := timesT (treeOf a, treeOf b) (treeOf e, treeOf f)
def ppB (a b e f : List UInt8) : Bool := twoB a b e f && decide ((prodP a b e f).1.c ≤ 8)
def ppV (a b e f : List UInt8) : ByteArray × ByteArray := if twoB a b e f = true then fitV (prodP a b e f) else (⟨#[]⟩, ⟨#[]⟩)

theorem specPP_SC (a b e f : List UInt8) (ha : a.length ≤ 2 ^ 40) (hb : b.length ≤ 2 ^ 40) (he : e.length ≤ 2 ^ 40) (hf : f.length ≤ 2 ^ 40) :
    SC cfg.P i_spec_ProductPair [.s (.v (.pr .str .str) (bs a, bs b)), .s (.v (.pr .str .str) (bs e, bs f))] (.tup [.v (.pr .str .str) (ppV a b e f), .v .bool (ppB a b e f)]) [] := by
  have h1 := prGood_SC a b ha hb
  have h2 := prGood_SC e f he hf
  unfold ppV ppB twoB
  cases t1 : isPair a b with
  | false => rw [t1] at h1; exact spec_ProductPair_p3 _ _ h1
  | true =>
    rw [t1] at h1
    cases t2 : isPair e f with
    | false => rw [t2] at h2; exact spec_ProductPair_p2 _ _ h1 h2
    | true =>
      rw [t2] at h2
      obtain ⟨a1, a2, a3, a4, a5⟩ := isPair_trees t1
      obtain ⟨b1, b2, b3, b4, b5⟩ := isPair_trees t2
      have ht := prTimes_SC (treeOf a, treeOf b) (treeOf e, treeOf f) a5 b5 (by simp only; omega)
      have e1 : pt (treeOf a, treeOf b) = (bs a, bs b) := by rw [pt, ← a1, ← a2]
      have e2 : pt (treeOf e, treeOf f) = (bs e, bs f) := by rw [pt, ← b1, ← b2]
      rw [e1, e2] at ht
      have hc := raw_c (treeOf a, treeOf b) (treeOf e, treeOf f) a5
      simp only at hc
      exact spec_ProductPair_p1 _ _ _ _ _ h1 h2 ht (prIf_SC _ (times_eqc _ _ a5 b5) (by omega))

theorem implPP_SC (a b e f : List UInt8) (ha : a.length ≤ 2 ^ 40) (hb : b.length ≤ 2 ^ 40) (he : e.length ≤ 2 ^ 40) (hf : f.length ≤ 2 ^ 40) :
    SC cfg.P i_impl_ProductPair [.s (.v (.pr .str .str) (bs a, bs b)), .s (.v (.pr .str .str) (bs e, bs f))] (.tup [.v (.pr .str .str) (ppV a b e f), .v .bool (ppB a b e f)]) [] := by
  have h1 := two_SC a b e f ha hb he hf
  unfold ppV ppB
  cases t : twoB a b e f with
  | false => rw [t] at h1; exact impl_ProductPair_p2 _ _ _ _ h1
  | true =>
    rw [t] at h1
    have t' := t
    simp only [twoB, Bool.and_eq_true] at t'
    obtain ⟨a1, a2, a3, a4, a5⟩ := isPair_trees t'.1
    obtain ⟨b1, b2, b3, b4, b5⟩ := isPair_trees t'.2
    have hc := raw_c (treeOf a, treeOf b) (treeOf e, treeOf f) a5
    have hq := times_eqc (treeOf a, treeOf b) (treeOf e, treeOf f) a5 b5
    simp only at hc
    exact impl_ProductPair_p1 _ _ _ _ _ _ _ h1 (times_SC _ _ a5 b5 (by simp only; omega) (by simp only; omega)) (fits_SC _ (by omega) (by omega))


end Go.AI
