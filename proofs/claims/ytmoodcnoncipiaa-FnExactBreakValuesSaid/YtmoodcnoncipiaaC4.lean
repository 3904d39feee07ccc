/- The law of BreakValues. -/
import Derived.Test.YtmoodcnoncipiaaGD
import Derived.Test.YtmoodcnoncipiaaCO
import Derived.Test.YtmoodcnoncipiaaCY
import Derived.Test.YtmoodcnoncipiaaCD
set_option autoImplicit false
set_option maxRecDepth 100000
set_option linter.unusedVariables false
namespace Go.AI
open Go.Proofs

/-- What BreakValues tells. -/
def breakValuesV (a b : List UInt8) : List (Int × Int) := if isPair a b = true then (brk (treeOf a) (treeOf b)).map fun k => frA ((adL (treeOf b) []).getD k []) else []

theorem breakValuesV_len (a b : List UInt8) : (breakValuesV a b).length ≤ 2 ^ 20 := by
  unfold breakValuesV
  split
  · rename_i h
    obtain ⟨x1, x2, x3, x4, x5⟩ := isPair_trees h
    have := brk_len (treeOf a) (treeOf b)
    rw [List.length_map]
    omega
  · simp

theorem specBreakValues_SC (a b : List UInt8) (ha : a.length ≤ 2 ^ 40) (hb : b.length ≤ 2 ^ 40) :
    SC cfg.P i_spec_BreakValues [.s (.v (.pr .str .str) (bs a, bs b))] (.tup [.own t_impl_Fraction FrK (breakValuesV a b), .v .bool (isPair a b)]) [] := by
  have hp := prGood_SC a b ha hb
  cases ht : isPair a b with
  | false =>
    rw [ht] at hp
    rw [breakValuesV, if_neg (by rw [ht]; simp)]
    exact spec_BreakValues_p2 _ hp
  | true =>
    rw [ht] at hp
    rw [breakValuesV, if_pos ht]
    obtain ⟨x1, x2, x3, x4, x5⟩ := isPair_trees ht
    have hs := (mpBreaks_SC (treeOf a) (treeOf b) (by omega) x5).view
    have hl := brk_len (treeOf a) (treeOf b)
    have hat := mpAt_SC (treeOf b) (by omega) (brk (treeOf a) (treeOf b)) (fun k hk => by have := brk_mem hk; omega) (by omega)
    rw [← x1, ← x2] at hs
    rw [← x2] at hat
    exact spec_BreakValues_p1 (bs a, bs b) _ _ hp hs hat

theorem implBreakValues_SC (a b : List UInt8) (ha : a.length ≤ 2 ^ 40) (hb : b.length ≤ 2 ^ 40) :
    SC cfg.P i_impl_BreakValues [.s (.v (.pr .str .str) (bs a, bs b))] (.tup [.own t_impl_Fraction FrK (breakValuesV a b), .v .bool (isPair a b)]) [] := by
  have hp := pairOf_SC a b ha hb
  cases ht : isPair a b with
  | false =>
    rw [ht] at hp
    rw [breakValuesV, if_neg (by rw [ht]; simp)]
    exact impl_BreakValues_p2 _ _ hp
  | true =>
    rw [ht] at hp
    rw [breakValuesV, if_pos ht]
    obtain ⟨x1, x2, x3, x4, x5⟩ := isPair_trees ht
    have hs := breaks_SC (treeOf a, treeOf b) (by simp only; omega) x5
    have hl := brk_len (treeOf a) (treeOf b)
    have hbl : (brkP (treeOf a) (treeOf b)).length = (brk (treeOf a) (treeOf b)).length := List.length_map ..
    have key := loop_up (P := cfg.P) (np := 1) (c := lb P_impl_BreakValues 0) (fun i (cur : List (Int × Int)) => impl_BreakValues_L0a ((List.length (brkP (treeOf a) (treeOf b)) : Nat) : Int) (i : Int) cur (brkP (treeOf a) (treeOf b))) (fun cur => impl_BreakValues_L0X1 ((List.length (brkP (treeOf a) (treeOf b)) : Nat) : Int) ((brk (treeOf a) (treeOf b)).length : Int) false cur (brkP (treeOf a) (treeOf b)))
      (fun i cur => cur ++ [frA ((adL (treeOf b) []).getD ((brk (treeOf a) (treeOf b)).getD i 0) [])]) (fun i cur => cur.length ≤ i) (brk (treeOf a) (treeOf b)).length
      (fun i cur hi hI => by
        refine ⟨by simp; omega, fun e' st hn => ?_⟩
        have hg := brkP_get (treeOf a) (treeOf b) x5 i hi
        have hk := brk_mem (getD_mem hi 0)
        obtain ⟨bb, hf⟩ := fractionAt_SC (stA (treeOf b) ((brk (treeOf a) (treeOf b)).getD i 0)) (Nat.le_of_lt (stA_lt _ (by omega) _ (by omega)))
        rw [frN_stA _ (by omega) _ (by omega)] at hf
        rw [← wrap_succ (by omega)] at hn
        exact impl_BreakValues_L0a_i1 _ _ _ _ _ bb (by omega) (by omega) (by omega) (by omega) (by rw [hg]; exact hf) (sizeOK_one (by omega)) hn)
      (fun cur _ => impl_BreakValues_L0a_x2 _ _ _ _ (by omega)) (brk (treeOf a) (treeOf b)).length 0 [] (by omega) (by simp)
    have hL := key.1
    rw [itr_map (fun i => frA ((adL (treeOf b) []).getD ((brk (treeOf a) (treeOf b)).getD i 0) [])), List.nil_append, map_range' (brk (treeOf a) (treeOf b)) 0 (fun k => frA ((adL (treeOf b) []).getD k []))] at hL
    exact impl_BreakValues_p1 _ _ _ _ _ _ _ _ hp hs hL

/-- THE BreakValues. -/
theorem law_BreakValues (x y : ByteArray) (hx : x.size ≤ 2 ^ 63 - 1) (hy : y.size ≤ 2 ^ 63 - 1) :
    SC cfg.P i_laws_FnExactBreakValues [.s (.v (.pr .str .str) (x, y))] (.s (.v .bool true)) [] := by
  obtain ⟨a, rfl⟩ := bs_ex x
  obtain ⟨b, rfl⟩ := bs_ex y
  rw [bs_size] at hx hy
  by_cases h : a.length + b.length ≤ 1048576
  · have hl := breakValuesV_len a b
    have h1 := specBreakValues_SC a b (by omega) (by omega)
    have h2 := implBreakValues_SC a b (by omega) (by omega)
    have h3 := eqFractionS_SC (breakValuesV a b) (by omega)
    have h4 := markFractionS_SC (breakValuesV a b) (by omega)
    have h5 := heldFractionS_SC (breakValuesV a b).length (by omega)
    exact laws_FnExactBreakValues_p2 _ _ _ _ _ _ _ _ _ _ _ _ _ _ _ (szPair_in a b h) (by omega) (laws_toPair_p1 _) h1 (laws_toPair_p1 _) h2 h3 (by simp) h4 h5 (by omega) rfl (laws_toPair_p1 _) h2 h3 (by simp) h5 (by omega) rfl
  · exact laws_FnExactBreakValues_p1 _ _ (szPair_out a b hx hy h) (by omega)

end Go.AI
