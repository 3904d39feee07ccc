/- Contracts: texts split at each mark. -/
import Derived.Test.YtcnmifjicepkhaaDoorGO
import Derived.Test.YtcnmifjicepkhaaDoorCU
import Derived.Test.YtcnmifjicepkhaaDoorCPg
import Derived.Test.YtcnmifjicepkhaaDoorFsp
set_option autoImplicit false
set_option maxRecDepth 100000
set_option linter.unusedVariables false
namespace Go.AI
open Go.Proofs

theorem l1Split_SC (l : List UInt8) (b : UInt8) (hl : l.length ≤ 2 ^ 30) : SC cfg.P i_spec_l1Split [.s (.v .str (bs l)), .s (.v (.int .u8) (b.toNat : Int))] (.s (.own t_string .str (txs (spl b [] l)))) [] := by
  have key : ∀ (m i f : Nat) (cur : List (List UInt8)), l.length - i = m → i ≤ l.length → f ≤ i → cur.length ≤ i →
      ∃ (f' : Nat) (cur' : List (List UInt8)), f' ≤ l.length ∧ cur'.length ≤ l.length ∧ cur' ++ [l.drop f'] = cur ++ spl b ((l.take i).drop f) (l.drop i) ∧
      LoopSC cfg.P 2 (lb P_spec_l1Split 0) (spec_l1Split_L0a (bs l) (b.toNat : Int) (f : Int) (i : Int) (txs cur)) (.exit 0) (spec_l1Split_L0X1 (bs l) (b.toNat : Int) (f' : Int) (l.length : Int) false (txs cur')) := by
    intro m
    induction m with
    | zero =>
      intro i f cur hm hi hf hc
      have e : i = l.length := by omega
      subst e
      exact ⟨f, cur, hf, hc, by rw [List.drop_length, spl, List.take_length], spec_l1Split_L0a_x3 _ _ _ _ _ (by rw [bs_size]; omega)⟩
    | succ m ih =>
      intro i f cur hm hi hf hc
      have hi1 : i < l.length := by omega
      have hd : l.drop i = l[i] :: l.drop (i + 1) := List.drop_eq_getElem_cons hi1
      have ht : l.take (i + 1) = l.take i ++ [l[i]] := (List.take_append_getElem hi1).symm
      have hg : bt (bs l) (i : Int) = (l[i].toNat : Int) := by rw [bs_bt, Int.toNat_natCast, List.getD_eq_getElem?_getD, List.getElem?_eq_getElem hi1]; rfl
      have ew := wrap_succ (i := i) (by omega)
      rw [hd, spl]
      by_cases h : l[i] = b
      · rw [if_pos h]
        obtain ⟨f', cur', a1, a2, a3, hn⟩ := ih (i + 1) (i + 1) (cur ++ [(l.take i).drop f]) (by omega) (by omega) (by omega) (by rw [List.length_append, List.length_singleton]; omega)
        have hx : ByteArray.extract (bs l) ((f : Int)).toNat ((i : Int)).toNat = bs ((l.take i).drop f) := by
          rw [Int.toNat_natCast, Int.toNat_natCast, bs_extract, List.drop_take]
        have e1 : txs (cur ++ [(l.take i).drop f]) = txs cur ++ [bs ((l.take i).drop f)] := by simp
        have e2 : (l.take (i + 1)).drop (i + 1) = [] := List.drop_eq_nil_of_le (by simp; omega)
        rw [e1, ← hx, ← ew] at hn
        rw [e2, List.append_assoc] at a3
        refine ⟨f', cur', a1, a2, a3, spec_l1Split_L0a_i1 _ _ _ _ _ (by rw [bs_size]; omega) (by omega) (by rw [hg, h]) (by omega) (by omega) (by rw [bs_size]; omega) (sizeOK_one (by rw [List.length_map]; omega)) hn⟩
      · rw [if_neg h]
        obtain ⟨f', cur', a1, a2, a3, hn⟩ := ih (i + 1) f cur (by omega) (by omega) (by omega) (by omega)
        have e2 : (l.take (i + 1)).drop f = (l.take i).drop f ++ [l[i]] := by
          rw [ht, List.drop_append_of_le_length (by rw [List.length_take]; omega)]
        rw [← ew] at hn
        rw [e2] at a3
        exact ⟨f', cur', a1, a2, a3, spec_l1Split_L0a_i2 _ _ _ _ _ (by rw [bs_size]; omega) (by omega) (by rw [hg]; intro e; exact h ((byte_eq _ b).1 e)) hn⟩
  obtain ⟨f', cur', a1, a2, a3, hn⟩ := key _ 0 0 [] rfl (by omega) (by omega) (by simp)
  simp only [List.take_zero, List.drop_zero, List.nil_append, List.drop_nil] at a3
  have hx : ByteArray.extract (bs l) ((f' : Int)).toNat (((bs l).size : Int)).toNat = bs (l.drop f') := by
    rw [Int.toNat_natCast, Int.toNat_natCast, bs_size, bs_extract]
    congr 1
    apply List.take_of_length_le
    rw [List.length_drop]
    omega
  have := spec_l1Split_p1 _ _ _ _ _ _ _ _ hn (by omega) (by rw [bs_size]; omega) (sizeOK_one (by rw [List.length_map]; omega))
  rw [hx] at this
  rw [← a3]
  have e : txs (cur' ++ [l.drop f']) = txs cur' ++ [bs (l.drop f')] := by simp
  rw [e]
  exact this



end Go.AI
