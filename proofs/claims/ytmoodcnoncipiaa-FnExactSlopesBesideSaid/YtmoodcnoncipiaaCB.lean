/- The law of SlopesBeside. -/
import Derived.Test.YtmoodcnoncipiaaGB
import Derived.Test.YtmoodcnoncipiaaCN
import Derived.Test.YtmoodcnoncipiaaCD
set_option autoImplicit false
set_option maxRecDepth 100000
set_option linter.unusedVariables false
namespace Go.AI
open Go.Proofs

def besideB (a b : List UInt8) (x : Int × Int) : Bool := isPair a b && (goodF x && decide (x.2 > 1))

/-- What SlopesBeside tells. -/
def besideL (a b : List UInt8) (x : Int × Int) : Int := if besideB a b x = true then slA (treeOf a) (treeOf b) (leafAt (treeOf a) (plc x.1.toNat x.2.toNat - 1)) else 0
def besideR (a b : List UInt8) (x : Int × Int) : Int := if besideB a b x = true then slA (treeOf a) (treeOf b) (leafAt (treeOf a) (plc x.1.toNat x.2.toNat)) else 0

theorem isBetween_SC (x : Int × Int) : SC cfg.P i_impl_isBetween [.s (.v FrK x)] (.s (.v .bool (goodF x && decide (x.2 > 1)))) [] := by
  have hf := isFraction_SC x
  cases hg : goodF x with
  | false => rw [hg] at hf; exact impl_isBetween_p3 _ hf
  | true =>
    rw [hg] at hf
    by_cases h : x.2 > 1
    · rw [decide_eq_true h]; exact impl_isBetween_p1 _ hf h
    · rw [decide_eq_false h]; exact impl_isBetween_p2 _ hf h

theorem plc_between {n d : Nat} (h2 : d ≤ 1024) (hp : pow2 d = true) (hd : 1 < d) (hn : n ≤ d) (ho : n % 2 = 1) : 0 < plc n d ∧ plc n d < 1099511627776 := by
  have hd' := pow2_dvd h2 hp
  have hP : 0 < 1099511627776 / d := Nat.pos_of_ne_zero (by intro e; rw [e] at hd'; omega)
  have hne : n ≠ d := by
    rintro rfl
    obtain ⟨m, _, rfl⟩ := pow2_ex h2 hp
    cases m with
    | zero => omega
    | succ m => rw [Nat.pow_succ] at ho; omega
  have h1 : (n + 1) * (1099511627776 / d) ≤ 1099511627776 := by
    rw [← hd']
    have e : d * (1099511627776 / d) / d = 1099511627776 / d := by rw [hd']
    rw [e]
    exact Nat.mul_le_mul_right _ (by omega)
  rw [Nat.add_mul, Nat.one_mul] at h1
  refine ⟨Nat.mul_pos (by omega) hP, ?_⟩
  show n * (1099511627776 / d) < 1099511627776
  omega

theorem specBeside_SC (a b : List UInt8) (ha : a.length ≤ 2 ^ 40) (hb : b.length ≤ 2 ^ 40) (x : Int × Int) :
    SC cfg.P i_spec_SlopesBeside [.s (.v (.pr .str .str) (bs a, bs b)), .s (.v FrK x)] (.tup [.v (.int .i64) (besideL a b x), .v (.int .i64) (besideR a b x), .v .bool (besideB a b x)]) [] := by
  have hp := prGood_SC a b ha hb
  have hf := mpGood_SC x
  have hB : besideB a b x = (isPair a b && (goodF x && decide (x.2 > 1))) := rfl
  cases ht : isPair a b with
  | false =>
    rw [ht] at hp
    rw [ht, Bool.false_and] at hB
    rw [besideL, besideR, hB, if_neg (by simp), if_neg (by simp)]
    exact spec_SlopesBeside_p5 _ _ hp
  | true =>
    rw [ht] at hp
    cases hg : goodF x with
    | false =>
      rw [hg] at hf
      rw [hg, Bool.false_and, Bool.and_false] at hB
      rw [besideL, besideR, hB, if_neg (by simp), if_neg (by simp)]
      exact spec_SlopesBeside_p4 _ _ hp hf
    | true =>
      rw [hg] at hf
      obtain ⟨n, d, rfl, h1, h2, hn, hpw, hlow⟩ := goodF_nat' hg
      by_cases hd : d = 1
      · subst hd
        have hB' : besideB a b ((n : Int), ((1 : Nat) : Int)) = false := by rw [hB]; simp
        rw [besideL, besideR, hB', if_neg (by simp), if_neg (by simp)]
        exact spec_SlopesBeside_p1 _ _ hp hf rfl
      · have hB' : besideB a b ((n : Int), (d : Int)) = true := by
          rw [hB, ht, hg, decide_eq_true (by show (d : Int) > 1; omega)]; rfl
        rw [besideL, besideR, hB', if_pos rfl, if_pos rfl]
        simp only [Int.toNat_natCast]
        have ho : n % 2 = 1 := by omega
        obtain ⟨x1, x2, x3, x4, x5⟩ := isPair_trees ht
        have hs := (mpSlopes_SC (treeOf a) (treeOf b) (by omega) x5).view
        have hl := mpLeaf_SC (treeOf a) (by omega) n d h1 h2 hn hpw
        have hst := (mpStarts_SC (treeOf a) (by omega)).view
        rw [← x1, ← x2] at hs
        rw [← x1] at hl hst
        have hlt := leafAt_lt (treeOf a) (plc n d)
        obtain ⟨p0, p1⟩ := plc_between h2 hpw (by omega) hn ho
        obtain ⟨b1, b2⟩ := leaf_before (treeOf a) (by omega) (plc n d) p0 p1
        have l1 := adL_len (treeOf a) []
        have hml : ((adL (treeOf a) []).map frA).length = (treeOf a).c + 1 := by rw [List.length_map, l1]
        have hget : List.getD ((adL (treeOf a) []).map frA) ((leafAt (treeOf a) (plc n d) : Int)).toNat ((0 : Int), (0 : Int)) = frA ((adL (treeOf a) []).getD (leafAt (treeOf a) (plc n d)) []) := by
          rw [Int.toNat_natCast]; exact getD_mapN frA _ _ (by omega) [] _
        have hiff := frA_eq_iff n d h2 hpw hlow ((adL (treeOf a) []).getD (leafAt (treeOf a) (plc n d)) []) (by have := ad_get_len _ _ hlt; omega)
        by_cases he : stA (treeOf a) (leafAt (treeOf a) (plc n d)) = plc n d
        · obtain ⟨c1, c2⟩ := b1 he
          have hfr := hiff.2 he
          have ew : IntKind.wrap .i64 (((leafAt (treeOf a) (plc n d) : Nat) : Int) - 1) = ((leafAt (treeOf a) (plc n d) - 1 : Nat) : Int) := by rw [w64] <;> omega
          have := spec_SlopesBeside_p2 (bs a, bs b) _ _ _ _ hp hf (by show (d : Int) ≠ 1; omega) hs hl (by omega) (by rw [slopesL_len _ _ x5]; omega) hst (by rw [hml]; omega) (by rw [hget, hfr]; simp) (by rw [ew]; omega) (by rw [ew, slopesL_len _ _ x5]; omega)
          rw [ew, Int.toNat_natCast, Int.toNat_natCast, slopesL_get _ _ x5 _ (by omega), slopesL_get _ _ x5 _ hlt, ← c2] at this
          exact this
        · have c2 := b2 he
          have := spec_SlopesBeside_p3 (bs a, bs b) _ _ _ _ hp hf (by show (d : Int) ≠ 1; omega) hs hl (by omega) (by rw [slopesL_len _ _ x5]; omega) hst (by rw [hml]; omega) (by
            rw [hget, Bool.and_eq_false_iff]
            by_cases g : (frA ((adL (treeOf a) []).getD (leafAt (treeOf a) (plc n d)) [])).1 = (n : Int)
            · refine .inr (by
                rw [beq_eq_false_iff_ne]
                intro g2
                exact he (hiff.1 (Prod.ext g g2)))
            · exact .inl (by rw [beq_eq_false_iff_ne]; exact g))
          rw [Int.toNat_natCast, slopesL_get _ _ x5 _ hlt] at this
          rw [c2]
          exact this

theorem implBeside_SC (a b : List UInt8) (ha : a.length ≤ 2 ^ 40) (hb : b.length ≤ 2 ^ 40) (x : Int × Int) :
    SC cfg.P i_impl_SlopesBeside [.s (.v (.pr .str .str) (bs a, bs b)), .s (.v FrK x)] (.tup [.v (.int .i64) (besideL a b x), .v (.int .i64) (besideR a b x), .v .bool (besideB a b x)]) [] := by
  have hp := pairOf_SC a b ha hb
  have hf := isBetween_SC x
  have hB : besideB a b x = (isPair a b && (goodF x && decide (x.2 > 1))) := rfl
  cases ht : isPair a b with
  | false =>
    rw [ht] at hp
    rw [ht, Bool.false_and] at hB
    rw [besideL, besideR, hB, if_neg (by simp), if_neg (by simp)]
    exact impl_SlopesBeside_p3 _ _ _ hp
  | true =>
    rw [ht] at hp
    cases hg : (goodF x && decide (x.2 > 1)) with
    | false =>
      rw [hg] at hf
      rw [hg, Bool.and_false] at hB
      rw [besideL, besideR, hB, if_neg (by simp), if_neg (by simp)]
      exact impl_SlopesBeside_p2 _ _ _ hp hf
    | true =>
      rw [hg] at hf
      rw [hg, ht] at hB
      rw [besideL, besideR, hB]
      simp only [Bool.and_self, if_true]
      rw [Bool.and_eq_true, decide_eq_true_eq] at hg
      obtain ⟨hg, hd⟩ := hg
      obtain ⟨n, d, rfl, h1, h2, hn, hpw, hlow⟩ := goodF_nat' hg
      have hd' : 1 < d := by have : (d : Int) > 1 := hd; omega
      simp only [Int.toNat_natCast]
      obtain ⟨x1, x2, x3, x4, x5⟩ := isPair_trees ht
      obtain ⟨p0, p1⟩ := plc_between h2 hpw hd' hn (by omega)
      have hs := (pieces_SC (treeOf a, treeOf b) (by simp only; omega) x5).view
      have hpl := place_SC n d h1 h2 hn
      have hat := pieceAt_SC (treeOf a) (treeOf b) (by omega) x5 (plc n d)
      have hat1 := pieceAt_SC (treeOf a) (treeOf b) (by omega) x5 (plc n d - 1)
      have ew : IntKind.wrap .i64 (((plc n d : Nat) : Int) - 1) = ((plc n d - 1 : Nat) : Int) := by rw [w64] <;> omega
      rw [← ew] at hat1
      have hsl := slopeAt_SC (treeOf a) (treeOf b) (by omega) x5 _ (leafAt_lt (treeOf a) (plc n d))
      have hsl1 := slopeAt_SC (treeOf a) (treeOf b) (by omega) x5 _ (leafAt_lt (treeOf a) (plc n d - 1))
      exact impl_SlopesBeside_p1 _ _ _ _ _ _ _ _ _ _ hp hf hs hpl hat1 hsl1 hpl hat hsl

/-- THE LAW. -/
theorem law_Beside (x y : ByteArray) (z : Int × Int) (hx : x.size ≤ 2 ^ 63 - 1) (hy : y.size ≤ 2 ^ 63 - 1) :
    SC cfg.P i_laws_FnExactSlopesBeside [.s (.v (.pr .str .str) (x, y)), .s (.v FrK z)] (.s (.v .bool true)) [] := by
  obtain ⟨a, rfl⟩ := bs_ex x
  obtain ⟨b, rfl⟩ := bs_ex y
  rw [bs_size] at hx hy
  by_cases h : a.length + b.length ≤ 1048576
  · exact laws_FnExactSlopesBeside_p2 _ _ _ _ _ _ _ _ _ _ _ _ _ (szPair_in a b h) (by omega) (laws_toPair_p1 _) (laws_toFraction_p1 z) (specBeside_SC a b (by omega) (by omega) z) (laws_toPair_p1 _) (laws_toFraction_p1 z) (implBeside_SC a b (by omega) (by omega) z) rfl rfl (by simp)
  · exact laws_FnExactSlopesBeside_p1 _ _ _ (szPair_out a b hx hy h) (by omega)

end Go.AI
