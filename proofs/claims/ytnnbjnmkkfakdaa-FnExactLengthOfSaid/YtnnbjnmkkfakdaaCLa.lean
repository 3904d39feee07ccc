/- The law of LengthOf. -/
import Derived.Test.YtnnbjnmkkfakdaaCLt
import Derived.Test.YtnnbjnmkkfakdaaCEs
set_option autoImplicit false
set_option maxRecDepth 100000
set_option linter.unusedVariables false
namespace Go.AI
open Go.Proofs

def lofV (a b : List UInt8) : Int := if isPair a b = true then lenT (red (treeOf a).c (treeOf a, treeOf b)) else 0

theorem implLof_SC (a b : List UInt8) (ha : a.length ≤ 2 ^ 40) (hb : b.length ≤ 2 ^ 40) :
    SC cfg.P i_impl_LengthOf [.s (.v (.pr .str .str) (bs a, bs b))] (.tup [.v (.int .i64) (lofV a b), .v .bool (isPair a b)]) [] := by
  have h1 := pairOf_SC a b ha hb
  unfold lofV
  cases t : isPair a b with
  | false => rw [t] at h1; exact impl_LengthOf_p2 _ _ h1
  | true =>
    rw [t] at h1
    obtain ⟨a1, a2, a3, a4, a5⟩ := isPair_trees t
    rw [if_pos rfl]
    exact impl_LengthOf_p1 _ _ _ h1 (length_SC (treeOf a, treeOf b) (by simp only; omega) (by simp only; omega))

theorem specLof_SC (a b : List UInt8) (ha : a.length ≤ 2 ^ 40) (hb : b.length ≤ 2 ^ 40) :
    SC cfg.P i_spec_LengthOf [.s (.v (.pr .str .str) (bs a, bs b))] (.tup [.v (.int .i64) (lofV a b), .v .bool (isPair a b)]) [] := by
  have h1 := prGood_SC a b ha hb
  unfold lofV
  cases t : isPair a b with
  | false => rw [t] at h1; exact spec_LengthOf_p2 _ h1
  | true =>
    rw [t] at h1
    obtain ⟨a1, a2, a3, a4, a5⟩ := isPair_trees t
    have e1 : pt (treeOf a, treeOf b) = (bs a, bs b) := by rw [pt, ← a1, ← a2]
    have h2 := prReduce_SC (treeOf a, treeOf b) (by simp only; omega) (by simp only; omega)
    rw [e1] at h2
    have hr := red_c (treeOf a).c (treeOf a, treeOf b)
    simp only at hr
    rw [if_pos rfl]
    exact spec_LengthOf_p1 _ _ _ h1 h2 (lnOf_SC (red (treeOf a).c (treeOf a, treeOf b)) (red_eqc _ _ (by simp only; omega)) (by omega))

/-- The law of LengthOf. -/
theorem law_Lof (x y : ByteArray) (hx : x.size ≤ 2 ^ 63 - 1) (hy : y.size ≤ 2 ^ 63 - 1) :
    SC cfg.P i_laws_FnExactLengthOf [.s (.v (.pr .str .str) (x, y))] (.s (.v .bool true)) [] := by
  obtain ⟨a, rfl⟩ := bs_ex x
  obtain ⟨b, rfl⟩ := bs_ex y
  rw [bs_size] at hx hy
  by_cases h : a.length + b.length ≤ 1048576
  · exact laws_FnExactLengthOf_p2 _ _ _ _ _ _ _ _ (szPair_in a b h) (by omega) (laws_toPair_p1 _) (specLof_SC a b (by omega) (by omega)) (laws_toPair_p1 _) (implLof_SC a b (by omega) (by omega)) rfl (by simp)
  · exact laws_FnExactLengthOf_p1 _ _ (szPair_out a b hx hy h) (by omega)

end Go.AI
