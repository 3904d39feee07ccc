/- A part of the road: what it proves stands in its last texts. -/
import Derived.Test.YtndnckjnnfnnnaaDoorJD
import Derived.Test.YtndnckjnnfnnnaaDoorJA
section
/- Contracts: breaks that rise, and their ends. -/
set_option autoImplicit false
set_option maxRecDepth 100000
set_option linter.unusedVariables false
namespace Go.AI
open Go.Proofs

theorem goodF_bd {x : Int × Int} (h : goodF x = true) : 1 ≤ x.2 ∧ x.2 ≤ 1024 ∧ 0 ≤ x.1 ∧ x.1 ≤ x.2 := by
  simp only [goodF, Bool.and_eq_true, decide_eq_true_eq] at h
  omega

theorem mpLess2_SC (x y : Int × Int) (hx : goodF x = true) (hy : goodF y = true) :
    SC cfg.P i_spec_mpLess [.s (.v FrK x), .s (.v FrK y)] (.s (.v .bool (decide (x.1 * y.2 < y.1 * x.2)))) [] := by
  obtain ⟨a1, a2, a3, a4⟩ := goodF_bd hx
  obtain ⟨b1, b2, b3, b4⟩ := goodF_bd hy
  have m1 : 0 ≤ x.1 * y.2 := Int.mul_nonneg a3 (by omega)
  have m2 : x.1 * y.2 ≤ 1024 * 1024 := Int.mul_le_mul (by omega) b2 (by omega) (by omega)
  have m3 : 0 ≤ y.1 * x.2 := Int.mul_nonneg b3 (by omega)
  have m4 : y.1 * x.2 ≤ 1024 * 1024 := Int.mul_le_mul (by omega) a2 (by omega) (by omega)
  have w1 : IntKind.wrap .i64 (x.1 * y.2) = x.1 * y.2 := by rw [w64] <;> omega
  have w2 : IntKind.wrap .i64 (y.1 * x.2) = y.1 * x.2 := by rw [w64] <;> omega
  by_cases h : x.1 * y.2 < y.1 * x.2
  · rw [decide_eq_true h]; exact spec_mpLess_p1 x y (by rw [w1, w2]; exact h)
  · rw [decide_eq_false h]; exact spec_mpLess_p2 x y (by rw [w1, w2]; exact h)

/-- Breaks that are fractions, inside, and rise. -/
def risG : Option (Int × Int) → List (Int × Int) → Bool
  | _, [] => true
  | p, x :: r => goodF x && !(x.2 == 1) && (match p with | none => true | some y => decide (y.1 * x.2 < x.1 * y.2)) && risG (some x) r

def risF (l : List (Int × Int)) : Bool := decide (l.length ≤ 8) && risG none l

theorem getD_mid {α : Type} (pre r : List α) (x d : α) : List.getD (pre ++ x :: r) ((pre.length : Int)).toNat d = x := by
  rw [Int.toNat_natCast, List.getD_eq_getElem?_getD, List.getElem?_append_right (Nat.le_refl _), Nat.sub_self]; rfl

theorem rising_L (l : List (Int × Int)) (hl : l.length ≤ 8) : ∀ (rest done : List (Int × Int)), l = done ++ rest → (∀ x ∈ done, goodF x = true) →
    (risG done.getLast? rest = false → LoopSC cfg.P 1 (lb P_spec_mpRising 0) (spec_mpRising_L0a l l ((l.length : Nat) : Int) ((done.length : Nat) : Int)) .ret (spec_mpRising_L0X1 false)) ∧
    (risG done.getLast? rest = true → LoopSC cfg.P 1 (lb P_spec_mpRising 0) (spec_mpRising_L0a l l ((l.length : Nat) : Int) ((done.length : Nat) : Int)) (.exit 0) (spec_mpRising_L0X2 l l ((l.length : Nat) : Int) ((l.length : Nat) : Int) false)) := by
  intro rest
  induction rest with
  | nil =>
    intro done hd hg
    rw [List.append_nil] at hd
    subst hd
    exact ⟨fun h => (by cases h), fun _ => spec_mpRising_L0a_x6 _ _ _ _ (by omega)⟩
  | cons x r ih =>
    intro done hd hg
    have hlen : l.length = done.length + (r.length + 1) := by rw [hd]; simp
    have hx : List.getD l (((done.length : Nat) : Int)).toNat ((0 : Int), (0 : Int)) = x := by rw [hd]; exact getD_mid _ _ _ _
    have hG := mpGood_SC x
    have l1 : ((done.length : Nat) : Int) < ((l.length : Nat) : Int) := by omega
    cases hgx : goodF x with
    | false =>
      rw [hgx, ← hx] at hG
      refine ⟨fun _ => spec_mpRising_L0a_x5 _ _ _ _ l1 (by omega) l1 hG, fun h => ?_⟩
      simp [risG, hgx] at h
    | true =>
      have hxg := hgx
      rw [hgx, ← hx] at hG
      by_cases h1 : x.2 = 1
      · refine ⟨fun _ => spec_mpRising_L0a_x1 _ _ _ _ l1 (by omega) l1 hG (by rw [hx]; exact h1), fun h => ?_⟩
        simp [risG, h1] at h
      · have h1' : (List.getD l (((done.length : Nat) : Int)).toNat ((0 : Int), (0 : Int))).2 ≠ (1 : Int) := by rw [hx]; exact h1
        obtain ⟨i1, i2⟩ := ih (done ++ [x]) (by rw [hd]; simp) (by
          intro y hy
          rcases List.mem_append.1 hy with hy | hy
          · exact hg y hy
          · rw [List.mem_singleton.1 hy]; exact hxg)
        have el : (done ++ [x]).getLast? = some x := by simp
        have en : (((done ++ [x]).length : Nat) : Int) = IntKind.wrap .i64 (((done.length : Nat) : Int) + (1 : Int)) := by
          rw [List.length_append, List.length_singleton, wrap_succ (by omega)]
        rw [el, en] at i1 i2
        rcases List.eq_nil_or_concat done with hn | ⟨pre, y, hy⟩
        · subst hn
          have hr : risG ([] : List (Int × Int)).getLast? (x :: r) = risG (some x) r := by simp [risG, hxg, h1]
          rw [hr]
          exact ⟨fun h => spec_mpRising_L0a_i4 _ _ _ _ l1 (by omega) l1 hG h1' (by simp) (i1 h), fun h => spec_mpRising_L0a_i4 _ _ _ _ l1 (by omega) l1 hG h1' (by simp) (i2 h)⟩
        · rw [List.concat_eq_append] at hy
          have hyl : done.length = pre.length + 1 := by rw [hy]; simp
          have hlast : done.getLast? = some y := by rw [hy]; simp
          have hyg : goodF y = true := hg y (by rw [hy]; simp)
          have w1 : IntKind.wrap .i64 (((done.length : Nat) : Int) - (1 : Int)) = ((pre.length : Nat) : Int) := by
            rw [w64] <;> omega
          have hyD : List.getD l (((pre.length : Nat) : Int)).toNat ((0 : Int), (0 : Int)) = y := by
            rw [hd, hy, List.append_assoc]; exact getD_mid _ _ _ _
          have hL := mpLess2_SC y x hyg hxg
          have pos : ((done.length : Nat) : Int) > 0 := by omega
          have k1 : 0 ≤ IntKind.wrap .i64 (((done.length : Nat) : Int) - (1 : Int)) := by rw [w1]; omega
          have k2 : IntKind.wrap .i64 (((done.length : Nat) : Int) - (1 : Int)) < ((l.length : Nat) : Int) := by rw [w1]; omega
          by_cases hlt : y.1 * x.2 < x.1 * y.2
          · have hr : risG done.getLast? (x :: r) = risG (some x) r := by simp [risG, hxg, h1, hlast, hlt]
            rw [hr]
            rw [decide_eq_true hlt] at hL
            have hL' : SC cfg.P i_spec_mpLess [.s (.v FrK (List.getD l (IntKind.wrap .i64 (((done.length : Nat) : Int) - (1 : Int))).toNat ((0 : Int), (0 : Int)))), .s (.v FrK (List.getD l (((done.length : Nat) : Int)).toNat ((0 : Int), (0 : Int))))] (.s (.v .bool true)) [] := by
              rw [w1, hyD, hx]; exact hL
            exact ⟨fun h => spec_mpRising_L0a_i2 _ _ _ _ l1 (by omega) l1 hG h1' pos k1 k2 hL' (i1 h), fun h => spec_mpRising_L0a_i2 _ _ _ _ l1 (by omega) l1 hG h1' pos k1 k2 hL' (i2 h)⟩
          · rw [decide_eq_false hlt] at hL
            have hL' : SC cfg.P i_spec_mpLess [.s (.v FrK (List.getD l (IntKind.wrap .i64 (((done.length : Nat) : Int) - (1 : Int))).toNat ((0 : Int), (0 : Int)))), .s (.v FrK (List.getD l (((done.length : Nat) : Int)).toNat ((0 : Int), (0 : Int))))] (.s (.v .bool false)) [] := by
              rw [w1, hyD, hx]; exact hL
            refine ⟨fun _ => spec_mpRising_L0a_x3 _ _ _ _ l1 (by omega) l1 hG h1' pos k1 k2 hL', fun h => ?_⟩
            simp [risG, hlast, hlt] at h

theorem mpRising_SC (l : List (Int × Int)) : SC cfg.P i_spec_mpRising [.s (.v (.sl FrK) l)] (.s (.v .bool (risF l))) [] := by
  by_cases h : l.length ≤ 8
  · obtain ⟨i1, i2⟩ := rising_L l h l [] rfl (fun x hx => by cases hx)
    have hr : risF l = risG none l := by simp [risF, h]
    rw [hr]
    cases hq : risG none l with
    | false => exact spec_mpRising_p2 l _ (by omega) (i1 hq)
    | true => exact spec_mpRising_p3 l _ _ _ _ _ (by omega) (i2 hq)
  · have hr : risF l = false := by simp [risF, h]
    rw [hr]
    exact spec_mpRising_p1 l (by omega)

theorem mpEnds_SC (l : List (Int × Int)) (h : l.length ≤ 2 ^ 20) : SC cfg.P i_spec_mpEnds [.s (.v (.sl FrK) l)] (.s (.own t_impl_Fraction FrK ((0, 1) :: l ++ [(1, 1)]))) [] :=
  spec_mpEnds_p1 l (zS _ _ (by simp; omega)) (zS _ _ (by simp; omega))

end Go.AI
end

section
/- Contracts: the reference's address of a fraction. -/
set_option autoImplicit false
set_option maxRecDepth 100000
set_option linter.unusedVariables false
namespace Go.AI
open Go.Proofs

theorem bit_str (n k : Nat) (hk : k ≤ 60) (hn : n ≤ 2 ^ 40) :
    strOf ([(IntKind.wrap .u8 (IntKind.wrap .i64 ((48 : Int) + (Int.tmod (Int.fdiv (n : Int) (2 ^ (min ((k : Int)).toNat (IntKind.bits .i64)))) (2 : Int)))))] : List Int) = bs [bit (n / 2 ^ k)] := by
  have e1 : min ((k : Int)).toNat (IntKind.bits .i64) = k := by
    rw [Int.toNat_natCast]; show min k 64 = k; omega
  have e2 : Int.fdiv (n : Int) (2 ^ k) = ((n / 2 ^ k : Nat) : Int) := by
    have : ((2 : Int) ^ k) = ((2 ^ k : Nat) : Int) := by rw [Int.natCast_pow]; rfl
    rw [this, Int.fdiv_eq_ediv_of_nonneg _ (Int.natCast_nonneg _)]
    rfl
  have e3 : Int.tmod ((n / 2 ^ k : Nat) : Int) (2 : Int) = ((n / 2 ^ k % 2 : Nat) : Int) := tmodN _ 2
  rw [e1, e2, e3, bit]
  have : n / 2 ^ k % 2 = 0 ∨ n / 2 ^ k % 2 = 1 := by omega
  rcases this with h | h
  · rw [h]; rfl
  · rw [h]; rfl

theorem addrOf_L (n : Nat) (hn : n ≤ 2 ^ 40) : ∀ (m : Nat) (out : List UInt8), m ≤ 40 → out.length + m ≤ 2 ^ 20 →
    LoopSC cfg.P 2 (lb P_spec_AddressOf 0) (spec_AddressOf_L0a (n : Int) (bs out) ((m : Int) - 1)) (.exit 0) (spec_AddressOf_L0X1 (n : Int) (bs (out ++ dig n m (m - 1))) (-1) false)
  | 0, out, _, _ => by
    rw [dig, List.append_nil]
    exact spec_AddressOf_L0a_x2 _ _ _ (by omega)
  | m + 1, out, hm, ho => by
    have ih := addrOf_L n hn m (out ++ [bit (n / 2 ^ m)]) (by omega) (by simp; omega)
    have ec : ((m + 1 : Nat) : Int) - 1 = (m : Int) := by omega
    have ed : out ++ dig n (m + 1) (m + 1 - 1) = out ++ [bit (n / 2 ^ m)] ++ dig n m (m - 1) := by
      rw [show m + 1 - 1 = m by omega, dig]; simp
    have ew : IntKind.wrap .i64 ((m : Int) - (1 : Int)) = (m : Int) - 1 := by rw [w64] <;> omega
    rw [ec, ed]
    rw [← ew, ← bs_append, ← bit_str n m (by omega) hn] at ih
    refine spec_AddressOf_L0a_i1 _ _ _ (by omega) (by omega) (by decide) ?_ ih
    rw [bit_str n m (by omega) hn, bs_size, bs_size, List.length_singleton]
    omega

theorem AddressOf_SC (x : Int × Int) (n d len : Nat) (e : x = ((n : Int), (d : Int))) (hg : goodF x = true) (hlt : n < d) (hlen : len ≤ 10) (hd : d ≤ 2 ^ len) :
    SC cfg.P i_spec_AddressOf [.s (.v FrK x), .s (.v (.int .i64) (len : Int))] (.tup [.v .str (bs (dig (n * (2 ^ len / d)) len (len - 1))), .v .bool true]) [] := by
  have hG := mpGood_SC x
  rw [hg] at hG
  have hI := l1In_SC (len : Int) 0 10
  rw [decide_eq_true (by omega)] at hI
  have e1 : IntKind.wrap .i64 ((1 : Int) * 2 ^ (min ((len : Int)).toNat (IntKind.bits .i64))) = ((2 ^ len : Nat) : Int) := by
    have : min ((len : Int)).toNat (IntKind.bits .i64) = len := by rw [Int.toNat_natCast]; show min len 64 = len; omega
    have hp : 2 ^ len ≤ 2 ^ 10 := Nat.pow_le_pow_right (by omega) hlen
    rw [this, Int.one_mul, show ((2 : Int) ^ len) = ((2 ^ len : Nat) : Int) by rw [Int.natCast_pow]; rfl, w64] <;> omega
  have hp : 2 ^ len ≤ 2 ^ 10 := Nat.pow_le_pow_right (by omega) hlen
  have hq : 2 ^ len / d ≤ 2 ^ len := Nat.div_le_self _ _
  have hm : n * (2 ^ len / d) ≤ 2 ^ 10 * 2 ^ 10 := Nat.mul_le_mul (by omega) (by omega)
  have e2 : IntKind.wrap .i64 (Int.tdiv ((2 ^ len : Nat) : Int) (d : Int)) = ((2 ^ len / d : Nat) : Int) := by
    rw [tdivN]
    generalize 2 ^ len / d = q at *
    rw [w64] <;> omega
  have e3 : IntKind.wrap .i64 ((n : Int) * ((2 ^ len / d : Nat) : Int)) = ((n * (2 ^ len / d) : Nat) : Int) := by
    rw [← Int.natCast_mul, w64] <;> omega
  have hL := addrOf_L (n * (2 ^ len / d)) (by omega) len [] (by omega) (by simp; omega)
  have ew : IntKind.wrap .i64 ((len : Int) - (1 : Int)) = (len : Int) - 1 := by rw [w64] <;> omega
  rw [List.nil_append, ← e3, ← e2, ← e1, ← ew] at hL
  subst e
  exact spec_AddressOf_p3 ((n : Int), (d : Int)) (len : Int) _ _ _ _ hG (by show (n : Int) ≠ (d : Int); omega) hI (by omega) (by rw [e1]; show ¬ ((d : Int) > ((2 ^ len : Nat) : Int)); omega) (by show (d : Int) ≠ 0; omega) hL

end Go.AI
end
