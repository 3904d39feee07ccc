/- The law of DistanceOf. -/
import Derived.Test.YtnnbjnmkkfakdaaCLt
import Derived.Test.YtnnbjnmkkfakdaaCEs
import Derived.Test.YtnnbjnmkkfakdaaGP
set_option autoImplicit false
set_option maxRecDepth 100000
set_option linter.unusedVariables false
namespace Go.AI
open Go.Proofs

def dofV (a b c d : List UInt8) : Int := if twoB a b c d = true then lenT (timesT (treeOf b, treeOf a) (treeOf c, treeOf d)) else 0

theorem red_self (p : Tr × Tr) (h : bothL p = []) (n : Nat) : red n p = p := by
  cases n with
  | zero => rfl
  | succ n => simp only [red, h]

theorem implDof_SC (a b c d : List UInt8) (ha : a.length ≤ 2 ^ 40) (hb : b.length ≤ 2 ^ 40) (hc : c.length ≤ 2 ^ 40) (hd : d.length ≤ 2 ^ 40) :
    SC cfg.P i_impl_DistanceOf [.s (.v (.pr .str .str) (bs a, bs b)), .s (.v (.pr .str .str) (bs c, bs d))] (.tup [.v (.int .i64) (dofV a b c d), .v .bool (twoB a b c d)]) [] := by
  have h1 := two_SC a b c d ha hb hc hd
  unfold dofV
  cases t : twoB a b c d with
  | false => rw [t] at h1; exact impl_DistanceOf_p2 _ _ _ _ h1
  | true =>
    rw [t] at h1
    have t' : (isPair a b && isPair c d) = true := t
    rw [Bool.and_eq_true] at t'
    obtain ⟨a1, a2, a3, a4, a5⟩ := isPair_trees t'.1
    obtain ⟨b1, b2, b3, b4, b5⟩ := isPair_trees t'.2
    have ht := times_SC (treeOf b, treeOf a) (treeOf c, treeOf d) (by simp only; omega) (by simp only; omega) (by simp only; omega) (by simp only; omega)
    have hq := times_eqc (treeOf b, treeOf a) (treeOf c, treeOf d) (by simp only; omega) (by simp only; omega)
    have hcc := raw_c (treeOf b, treeOf a) (treeOf c, treeOf d) (by simp only; omega)
    simp only at hcc
    have hl := length_SC _ hq (by omega)
    rw [red_self _ (times_red _ _)] at hl
    rw [if_pos rfl]
    exact impl_DistanceOf_p1 _ _ _ _ _ _ _ h1 (impl_pair_inverse_p1 _) ht hl

theorem specDof_SC (a b c d : List UInt8) (ha : a.length ≤ 2 ^ 40) (hb : b.length ≤ 2 ^ 40) (hc : c.length ≤ 2 ^ 40) (hd : d.length ≤ 2 ^ 40) :
    SC cfg.P i_spec_DistanceOf [.s (.v (.pr .str .str) (bs a, bs b)), .s (.v (.pr .str .str) (bs c, bs d))] (.tup [.v (.int .i64) (dofV a b c d), .v .bool (twoB a b c d)]) [] := by
  have h1 := prGood_SC a b ha hb
  have h2 := prGood_SC c d hc hd
  unfold dofV twoB
  cases t1 : isPair a b with
  | false => rw [t1] at h1; exact spec_DistanceOf_p3 _ _ h1
  | true =>
    rw [t1] at h1
    cases t2 : isPair c d with
    | false => rw [t2] at h2; exact spec_DistanceOf_p2 _ _ h1 h2
    | true =>
      rw [t2] at h2
      obtain ⟨a1, a2, a3, a4, a5⟩ := isPair_trees t1
      obtain ⟨b1, b2, b3, b4, b5⟩ := isPair_trees t2
      have e1 : pt (treeOf c, treeOf d) = (bs c, bs d) := by rw [pt, ← b1, ← b2]
      have e2 : pt (treeOf b, treeOf a) = (bs b, bs a) := by rw [pt, ← a1, ← a2]
      have ht := prTimes_SC (treeOf b, treeOf a) (treeOf c, treeOf d) (by simp only; omega) (by simp only; omega) (by simp only; omega)
      rw [e1, e2] at ht
      have hq := times_eqc (treeOf b, treeOf a) (treeOf c, treeOf d) (by simp only; omega) (by simp only; omega)
      have hcc := raw_c (treeOf b, treeOf a) (treeOf c, treeOf d) (by simp only; omega)
      simp only at hcc
      exact spec_DistanceOf_p1 _ _ _ _ _ h1 h2 (spec_prInverse_p1 _) ht (lnOf_SC _ hq (by omega))

/-- The law of DistanceOf. -/
theorem law_Dof (x1 x2 y1 y2 : ByteArray) (h1 : x1.size ≤ 2 ^ 63 - 1) (h2 : x2.size ≤ 2 ^ 63 - 1) (h3 : y1.size ≤ 2 ^ 63 - 1) (h4 : y2.size ≤ 2 ^ 63 - 1) :
    SC cfg.P i_laws_FnExactDistanceOf [.s (.v (.pr .str .str) (x1, x2)), .s (.v (.pr .str .str) (y1, y2))] (.s (.v .bool true)) [] := by
  obtain ⟨c, s1, h⟩ := szPairs (x1, x2) (y1, y2) h1 h2 h3 h4
  rcases h with h | ⟨hc, d, s2, h⟩
  · exact laws_FnExactDistanceOf_p1 _ _ _ s1 h
  · rcases h with h | ⟨hd, a, b, e, f, ea, eb, l1, l2, l3, l4⟩
    · exact laws_FnExactDistanceOf_p2 _ _ _ _ s1 hc s2 h
    · rw [ea] at s1 ⊢
      rw [eb] at s2 ⊢
      exact laws_FnExactDistanceOf_p3 _ _ _ _ _ _ _ _ _ _ _ _ s1 hc s2 hd (laws_toPair_p1 _) (laws_toPair_p1 _) (specDof_SC a b e f l1 l2 l3 l4) (laws_toPair_p1 _) (laws_toPair_p1 _) (implDof_SC a b e f l1 l2 l3 l4) rfl (by simp)

end Go.AI
