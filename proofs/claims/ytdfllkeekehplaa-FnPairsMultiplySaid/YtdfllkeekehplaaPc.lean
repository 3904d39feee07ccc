/- The law of CommutatorPair. -/
import Derived.Test.YtdfllkeekehplaaGK
import Derived.Test.YtdfllkeekehplaaCE
set_option autoImplicit false
set_option maxRecDepth 100000
set_option linter.unusedVariables false
namespace Go.AI
open Go.Proofs

/-- The commutator that is told. -/
def comP (p q : Tr × Tr) : Tr × Tr := timesT (timesT (p.2, p.1) (q.2, q.1)) (timesT p q)
def cmP (a b e f : List UInt8) : Tr × Tr := comP (treeOf a, treeOf b) (treeOf e, treeOf f)
def cmB (a b e f : List UInt8) : Bool := twoB a b e f && decide ((cmP a b e f).1.c ≤ 8)
def cmV (a b e f : List UInt8) : ByteArray × ByteArray := if twoB a b e f = true then fitV (cmP a b e f) else (⟨#[]⟩, ⟨#[]⟩)

theorem com_assoc (p q : Tr × Tr) (hp : p.1.c = p.2.c) (hq : q.1.c = q.2.c) : timesT (timesT (timesT (p.2, p.1) (q.2, q.1)) p) q = comP p q :=
  times_assoc _ _ _ (times_eqc (p.2, p.1) (q.2, q.1) hp.symm hq.symm) hp hq

theorem specCM_SC (a b e f : List UInt8) (ha : a.length ≤ 2 ^ 40) (hb : b.length ≤ 2 ^ 40) (he : e.length ≤ 2 ^ 40) (hf : f.length ≤ 2 ^ 40) :
    SC cfg.P i_spec_CommutatorPair [.s (.v (.pr .str .str) (bs a, bs b)), .s (.v (.pr .str .str) (bs e, bs f))] (.tup [.v (.pr .str .str) (cmV a b e f), .v .bool (cmB a b e f)]) [] := by
  have h1 := prGood_SC a b ha hb
  have h2 := prGood_SC e f he hf
  unfold cmV cmB twoB
  cases t1 : isPair a b with
  | false => rw [t1] at h1; exact spec_CommutatorPair_p3 _ _ h1
  | true =>
    rw [t1] at h1
    cases t2 : isPair e f with
    | false => rw [t2] at h2; exact spec_CommutatorPair_p2 _ _ h1 h2
    | true =>
      rw [t2] at h2
      obtain ⟨a1, a2, a3, a4, a5⟩ := isPair_trees t1
      obtain ⟨b1, b2, b3, b4, b5⟩ := isPair_trees t2
      have e1 : pt (treeOf a, treeOf b) = (bs a, bs b) := by rw [pt, ← a1, ← a2]
      have e2 : pt (treeOf e, treeOf f) = (bs e, bs f) := by rw [pt, ← b1, ← b2]
      have e3 : pt (treeOf b, treeOf a) = (bs b, bs a) := by rw [pt, ← a1, ← a2]
      have e4 : pt (treeOf f, treeOf e) = (bs f, bs e) := by rw [pt, ← b1, ← b2]
      have ht := prTimes_SC (treeOf a, treeOf b) (treeOf e, treeOf f) a5 b5 (by simp only; omega)
      have hi := prTimes_SC (treeOf b, treeOf a) (treeOf f, treeOf e) a5.symm b5.symm (by simp only; omega)
      have c1 := raw_c (treeOf a, treeOf b) (treeOf e, treeOf f) a5
      have c2 := raw_c (treeOf b, treeOf a) (treeOf f, treeOf e) a5.symm
      have q1 := times_eqc (treeOf a, treeOf b) (treeOf e, treeOf f) a5 b5
      have q2 := times_eqc (treeOf b, treeOf a) (treeOf f, treeOf e) a5.symm b5.symm
      simp only at c1 c2
      have hc := prTimes_SC _ _ q2 q1 (by omega)
      have c3 := raw_c _ (timesT (treeOf a, treeOf b) (treeOf e, treeOf f)) q2
      rw [e1, e2] at ht
      rw [e3, e4] at hi
      exact spec_CommutatorPair_p1 _ _ _ _ _ _ _ _ _ h1 h2 (spec_prInverse_p1 _) (spec_prInverse_p1 _) hi ht hc (prIf_SC _ (times_eqc _ _ q2 q1) (by omega))

theorem implCM_SC (a b e f : List UInt8) (ha : a.length ≤ 2 ^ 40) (hb : b.length ≤ 2 ^ 40) (he : e.length ≤ 2 ^ 40) (hf : f.length ≤ 2 ^ 40) :
    SC cfg.P i_impl_CommutatorPair [.s (.v (.pr .str .str) (bs a, bs b)), .s (.v (.pr .str .str) (bs e, bs f))] (.tup [.v (.pr .str .str) (cmV a b e f), .v .bool (cmB a b e f)]) [] := by
  have h1 := two_SC a b e f ha hb he hf
  unfold cmV cmB
  cases t : twoB a b e f with
  | false => rw [t] at h1; exact impl_CommutatorPair_p2 _ _ _ _ h1
  | true =>
    rw [t] at h1
    have t' := t
    simp only [twoB, Bool.and_eq_true] at t'
    obtain ⟨a1, a2, a3, a4, a5⟩ := isPair_trees t'.1
    obtain ⟨b1, b2, b3, b4, b5⟩ := isPair_trees t'.2
    have c2 := raw_c (treeOf b, treeOf a) (treeOf f, treeOf e) a5.symm
    have q2 := times_eqc (treeOf b, treeOf a) (treeOf f, treeOf e) a5.symm b5.symm
    have c3 := raw_c (timesT (treeOf b, treeOf a) (treeOf f, treeOf e)) (treeOf a, treeOf b) q2
    have q3 := times_eqc _ (treeOf a, treeOf b) q2 a5
    have c4 := raw_c (timesT (timesT (treeOf b, treeOf a) (treeOf f, treeOf e)) (treeOf a, treeOf b)) (treeOf e, treeOf f) q3
    have q4 := times_eqc _ (treeOf e, treeOf f) q3 b5
    simp only at c2 c3 c4
    have x1 := times_SC (treeOf b, treeOf a) (treeOf f, treeOf e) a5.symm b5.symm (by simp only; omega) (by simp only; omega)
    have x2 := times_SC _ (treeOf a, treeOf b) q2 a5 (by omega) (by simp only; omega)
    have x3 := times_SC _ (treeOf e, treeOf f) q3 b5 (by omega) (by simp only; omega)
    have x4 := fits_SC _ (show (timesT (timesT (timesT (treeOf b, treeOf a) (treeOf f, treeOf e)) (treeOf a, treeOf b)) (treeOf e, treeOf f)).1.c ≤ 2 ^ 20 by omega) (by omega)
    have ha := com_assoc (treeOf a, treeOf b) (treeOf e, treeOf f) a5 b5
    simp only at ha
    rw [ha] at x4
    rw [ha] at x3
    exact impl_CommutatorPair_p1 _ _ _ _ _ _ _ _ _ _ _ h1 (impl_pair_inverse_p1 _) (impl_pair_inverse_p1 _) x1 x2 x3 x4


end Go.AI
