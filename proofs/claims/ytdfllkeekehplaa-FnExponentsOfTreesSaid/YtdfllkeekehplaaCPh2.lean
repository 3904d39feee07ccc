/- Contracts: forests hung at a right comb; their pairs. -/
import Derived.Test.YtdfllkeekehplaaJE
import Derived.Test.YtdfllkeekehplaaGL
import Derived.Test.YtdfllkeekehplaaGX
set_option autoImplicit false
set_option maxRecDepth 100000
set_option linter.unusedVariables false
namespace Go.AI
open Go.Proofs

theorem drop_last (ts : List Tr) (k : Nat) (h : k < ts.length) : combT (ts.drop k) = .node (ts.getD k .leaf) (combT (ts.drop (k + 1))) := by
  rw [List.drop_eq_getElem_cons h, combT, List.getD_eq_getElem?_getD, List.getElem?_eq_getElem h]
  rfl

theorem sum_drop (ts : List Tr) (k : Nat) : sumC (ts.drop k) ≤ sumC ts := by
  have e : ts = ts.take k ++ ts.drop k := (List.take_append_drop k ts).symm
  have h2 : sumC (ts.take k ++ ts.drop k) = sumC (ts.take k) + sumC (ts.drop k) := by rw [sumC, List.map_append, List.sum_append]; rfl
  rw [← e] at h2
  omega

theorem wdComb_SC (ts : List Tr) (h : ts.length ≤ 2 ^ 20) (hs : sumC ts ≤ 2 ^ 20) : SC cfg.P i_spec_wdComb [.s (.v (.sl .str) (txs (ts.map txt)))] (.s (.v .str (bs (txt (combT ts))))) [] := by
  have hl : List.length (txs (ts.map txt)) = ts.length := by simp
  have key : ∀ (m : Nat), m ≤ ts.length → LoopSC cfg.P 1 (lb P_spec_wdComb 0) (spec_wdComb_L0a (txs (ts.map txt)) (bs (txt (combT (ts.drop m)))) ((m : Int) - 1)) (.exit 0) (spec_wdComb_L0X1 (txs (ts.map txt)) (bs (txt (combT ts))) (-1) false) := by
    intro m
    induction m with
    | zero =>
      intro hm
      exact spec_wdComb_L0a_x2 _ _ _ (by omega)
    | succ m ih =>
      intro hm
      have hn := ih (by omega)
      have hd := drop_last ts m (by omega)
      have e1 : ((m + 1 : Nat) : Int) - 1 = (m : Int) := by omega
      have ew : IntKind.wrap .i64 ((m : Int) - 1) = (m : Int) - 1 := by rw [w64] <;> omega
      have hg : List.getD (txs (ts.map txt)) ((m : Int)).toNat (⟨#[]⟩ : ByteArray) = bs (txt (ts.getD m .leaf)) := by
        rw [Int.toNat_natCast, txs, List.map_map, gD_map (bs ∘ txt) ts m (by omega) .leaf]; rfl
      have hc := combT_c (ts.drop (m + 1))
      have hs1 := sum_drop ts (m + 1)
      have hlen : (ts.drop (m + 1)).length ≤ ts.length := by simp
      have ht : (ts.getD m .leaf).c ≤ sumC ts := c_le_sum ts _ (gD_mem (by omega) _)
      have ho := trOf_SC (ts.getD m .leaf) (combT (ts.drop (m + 1))) (by omega) (by omega)
      rw [← hd, ← hg] at ho
      rw [← ew] at hn
      rw [e1]
      exact spec_wdComb_L0a_i1 _ _ _ _ (by omega) (by omega) (by omega) ho hn
  have h0 := key ts.length (Nat.le_refl _)
  have ew : IntKind.wrap .i64 (((List.length (txs (ts.map txt)) : Nat) : Int) - 1) = (ts.length : Int) - 1 := by rw [hl, w64] <;> omega
  rw [List.drop_length, ← ew] at h0
  exact spec_wdComb_p1 _ _ _ _ _ h0

end Go.AI
