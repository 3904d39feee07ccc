/- The law of SlopeAt. -/
import Derived.Test.YtmoodcnoncipiaaGA
import Derived.Test.YtmoodcnoncipiaaCN
import Derived.Test.YtmoodcnoncipiaaCD
set_option autoImplicit false
set_option maxRecDepth 100000
set_option linter.unusedVariables false
namespace Go.AI
open Go.Proofs

/-- What SlopeAt tells. -/
def slopeAtV (a b : List UInt8) (x : Int × Int) : Int := if isPair a b = true ∧ goodF x = true then slA (treeOf a) (treeOf b) (leafAt (treeOf a) (plc x.1.toNat x.2.toNat)) else 0

theorem specSlopeAt_SC (a b : List UInt8) (ha : a.length ≤ 2 ^ 40) (hb : b.length ≤ 2 ^ 40) (x : Int × Int) :
    SC cfg.P i_spec_SlopeAt [.s (.v (.pr .str .str) (bs a, bs b)), .s (.v FrK x)] (.tup [.v (.int .i64) (slopeAtV a b x), .v .bool (isPair a b && goodF x)]) [] := by
  have hp := prGood_SC a b ha hb
  have hf := mpGood_SC x
  cases ht : isPair a b with
  | false =>
    rw [ht] at hp
    rw [slopeAtV, if_neg (by rw [ht]; simp), Bool.false_and]
    exact spec_SlopeAt_p3 _ _ hp
  | true =>
    rw [ht] at hp
    cases hg : goodF x with
    | false =>
      rw [hg] at hf
      rw [slopeAtV, if_neg (by rw [hg]; simp)]
      exact spec_SlopeAt_p2 _ _ hp hf
    | true =>
      rw [hg] at hf
      rw [slopeAtV, if_pos ⟨ht, hg⟩]
      obtain ⟨n, d, rfl, h1, h2, hn, hpw⟩ := goodF_nat hg
      simp only [Int.toNat_natCast]
      obtain ⟨x1, x2, x3, x4, x5⟩ := isPair_trees ht
      have hs := (mpSlopes_SC (treeOf a) (treeOf b) (by omega) x5).view
      have hl := mpLeaf_SC (treeOf a) (by omega) n d h1 h2 hn hpw
      rw [← x1, ← x2] at hs
      rw [← x1] at hl
      have hlt := leafAt_lt (treeOf a) (plc n d)
      have := spec_SlopeAt_p1 (bs a, bs b) _ _ _ hp hf hs hl (by omega) (by rw [slopesL_len _ _ x5]; omega)
      rw [Int.toNat_natCast, slopesL_get _ _ x5 _ hlt] at this
      exact this

theorem implSlopeAt_SC (a b : List UInt8) (ha : a.length ≤ 2 ^ 40) (hb : b.length ≤ 2 ^ 40) (x : Int × Int) :
    SC cfg.P i_impl_SlopeAt [.s (.v (.pr .str .str) (bs a, bs b)), .s (.v FrK x)] (.tup [.v (.int .i64) (slopeAtV a b x), .v .bool (isPair a b && goodF x)]) [] := by
  have hp := pairOf_SC a b ha hb
  have hf := isFraction_SC x
  cases ht : isPair a b with
  | false =>
    rw [ht] at hp
    rw [slopeAtV, if_neg (by rw [ht]; simp), Bool.false_and]
    exact impl_SlopeAt_p3 _ _ _ hp
  | true =>
    rw [ht] at hp
    cases hg : goodF x with
    | false =>
      rw [hg] at hf
      rw [slopeAtV, if_neg (by rw [hg]; simp)]
      exact impl_SlopeAt_p2 _ _ _ hp hf
    | true =>
      rw [hg] at hf
      rw [slopeAtV, if_pos ⟨ht, hg⟩]
      obtain ⟨n, d, rfl, h1, h2, hn, hpw⟩ := goodF_nat hg
      simp only [Int.toNat_natCast]
      obtain ⟨x1, x2, x3, x4, x5⟩ := isPair_trees ht
      have hs := (pieces_SC (treeOf a, treeOf b) (by simp only; omega) x5).view
      have hpl := place_SC n d h1 h2 hn
      have hat := pieceAt_SC (treeOf a) (treeOf b) (by omega) x5 (plc n d)
      have hsl := slopeAt_SC (treeOf a) (treeOf b) (by omega) x5 _ (leafAt_lt (treeOf a) (plc n d))
      exact impl_SlopeAt_p1 _ _ _ _ _ _ _ hp hf hs hpl hat hsl

/-- THE LAW. -/
theorem law_SlopeAt (x y : ByteArray) (z : Int × Int) (hx : x.size ≤ 2 ^ 63 - 1) (hy : y.size ≤ 2 ^ 63 - 1) :
    SC cfg.P i_laws_FnExactSlopeAt [.s (.v (.pr .str .str) (x, y)), .s (.v FrK z)] (.s (.v .bool true)) [] := by
  obtain ⟨a, rfl⟩ := bs_ex x
  obtain ⟨b, rfl⟩ := bs_ex y
  rw [bs_size] at hx hy
  by_cases h : a.length + b.length ≤ 1048576
  · exact laws_FnExactSlopeAt_p2 _ _ _ _ _ _ _ _ _ _ _ (szPair_in a b h) (by omega) (laws_toPair_p1 _) (laws_toFraction_p1 z) (specSlopeAt_SC a b (by omega) (by omega) z) (laws_toPair_p1 _) (laws_toFraction_p1 z) (implSlopeAt_SC a b (by omega) (by omega) z) rfl (by simp)
  · exact laws_FnExactSlopeAt_p1 _ _ _ (szPair_out a b hx hy h) (by omega)

end Go.AI
