/- A tree in the place of a leaf, in texts. -/
import Derived.Test.YtpfaelacdnmeaaaFg0
import Derived.Test.YtpfaelacdnmeaaaGV
set_option autoImplicit false
set_option maxRecDepth 100000
set_option linter.unusedVariables false
namespace Go.AI
open Go.Proofs

theorem trGraft_SC (t : Tr) (k : Nat) (u : Tr) (hk : k ≤ t.c) (ht : t.c ≤ 2 ^ 20) (hu : u.c ≤ 2 ^ 20) :
    SC cfg.P i_spec_trGraft [.s (.v .str (bs (txt t))), .s (.v (.int .i64) (k : Int)), .s (.v .str (bs (txt u)))] (.s (.v .str (bs (txt (grf t k u))))) [] := by
  obtain ⟨pre, post, e1, e2, e3⟩ := grf_txt t k u hk
  have lt := txt_len t
  have lu := txt_len u
  have hl : (txt t).length = pre.length + (post.length + 1) := by rw [e1, List.length_append, List.length_cons]
  have hbyte : ∀ i, i < pre.length → bt (bs (txt t)) (i : Int) = ((pre.getD i 0).toNat : Int) := fun i hi => by
    rw [bs_bt, Int.toNat_natCast, e1, List.getD_eq_getElem?_getD, List.getElem?_append_left hi, List.getD_eq_getElem?_getD]
  have key : ∀ (m i : Nat), pre.length - i = m → i ≤ pre.length →
      LoopSC cfg.P 3 (lb P_spec_trGraft 0) (spec_trGraft_L0a (bs (txt t)) (k : Int) (bs (txt u)) ((((pre.take i).count 46 : Nat) : Int) - 1) (i : Int)) .ret (spec_trGraft_L0X1 (bs (txt (grf t k u)))) := by
    intro m
    induction m with
    | zero =>
      intro i hm hi
      have e : i = pre.length := by omega
      subst e
      rw [List.take_length, e2]
      have hb : bt (bs (txt t)) (pre.length : Int) = 46 := by
        rw [bs_bt, Int.toNat_natCast, e1, List.getD_eq_getElem?_getD, List.getElem?_append_right (Nat.le_refl _), Nat.sub_self]; rfl
      have x1 : ByteArray.extract (bs (txt t)) ((0 : Int)).toNat ((pre.length : Int)).toNat = bs pre := by
        rw [Int.toNat_natCast, bs_extract, e1]
        simp
      have w : IntKind.wrap .i64 ((pre.length : Int) + 1) = ((pre.length + 1 : Nat) : Int) := by rw [w64] <;> omega
      have x2 : ByteArray.extract (bs (txt t)) (IntKind.wrap .i64 ((pre.length : Int) + 1)).toNat (((bs (txt t)).size : Int)).toNat = bs post := by
        rw [w, Int.toNat_natCast, Int.toNat_natCast, bs_size, bs_extract, hl, e1]
        have ed : (pre ++ 46 :: post).drop (pre.length + 1) = post := by
          have e0 : pre ++ 46 :: post = (pre ++ [46]) ++ post := by simp
          rw [e0]
          exact List.drop_left' (by simp)
        rw [ed]
        congr 1
        apply List.take_of_length_le
        omega
      have st := spec_trGraft_L0a_x1 (bs (txt t)) (k : Int) (bs (txt u)) ((k : Int) - 1) (pre.length : Int) (by rw [bs_size]; omega) (by omega) hb (by rw [w64] <;> omega) (by rw [bs_size]; omega) (by rw [x1, bs_size, bs_size]; omega) (by rw [w]; omega) (by rw [w, bs_size]; omega) (by rw [x1, x2, bs_append, bs_size, bs_size, List.length_append]; omega)
      rw [x1, x2, bs_append, bs_append, ← e3] at st
      exact st
    | succ m ih =>
      intro i hm hi
      have hlt : i < pre.length := by omega
      have k1 := ih (i + 1) (by omega) (by omega)
      have htk : pre.take (i + 1) = pre.take i ++ [pre.getD i 0] := by
        rw [List.getD_eq_getElem?_getD, List.getElem?_eq_getElem hlt]
        exact (List.take_append_getElem hlt).symm
      have hcle : (pre.take (i + 1)).count 46 ≤ k := by
        rw [← e2]
        exact List.Sublist.count_le 46 (List.take_sublist _ _)
      have hcl2 : (pre.take i).count 46 ≤ i := Nat.le_trans List.count_le_length (by rw [List.length_take]; omega)
      rw [htk, List.count_append, ← wrap_succ (i := i) (by omega)] at k1
      rw [htk, List.count_append] at hcle
      by_cases h : pre.getD i 0 = 46
      · rw [h] at k1 hcle
        have e : [(46 : UInt8)].count 46 = 1 := by decide
        rw [e] at k1 hcle
        have w : IntKind.wrap .i64 ((((pre.take i).count 46 : Nat) : Int) - 1 + 1) = ((((pre.take i).count 46 + 1 : Nat) : Int) - 1) := by rw [w64] <;> omega
        rw [← w] at k1
        exact spec_trGraft_L0a_i2 _ _ _ _ _ (by rw [bs_size]; omega) (by omega) (by rw [hbyte i hlt, h]; rfl) (by rw [w]; omega) k1
      · have e : [pre.getD i 0].count 46 = 0 := List.count_eq_zero.2 fun hm => h (List.mem_singleton.1 hm).symm
        rw [e] at k1 hcle
        exact spec_trGraft_L0a_i4 _ _ _ _ _ (by rw [bs_size]; omega) (by omega) (by rw [hbyte i hlt]; intro g; exact h ((byte_eq _ 46).1 g)) (by omega) k1
  have h0 := key _ 0 rfl (by omega)
  exact spec_trGraft_p1 _ _ _ _ h0

end Go.AI
