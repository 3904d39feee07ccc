/- A part of the road: what it proves stands in its last texts. -/
import Derived.Test.YtndnckjnnfnnnaaDoorGX
import Derived.Test.YtndnckjnnfnnnaaDoorJF
import Derived.Test.YtndnckjnnfnnnaaDoorJD
section
/- Contracts: the program's spots. -/
set_option autoImplicit false
set_option maxRecDepth 100000
set_option linter.unusedVariables false
namespace Go.AI
open Go.Proofs

abbrev gE (X : List (Int × Int)) (i : Nat) : Int × Int := List.getD X i (0, 0)

/-- The place of a fraction. -/
def plI (x : Int × Int) : Nat := plc x.1.toNat x.2.toNat

theorem plI_SC (x : Int × Int) (h : goodF x = true) : SC cfg.P i_impl_Fraction_place [.s (.v FrK x)] (.s (.v (.int .i64) ((plI x : Nat) : Int))) [] := by
  obtain ⟨b1, b2, b3, b4⟩ := goodF_bd h
  have e : x = ((x.1.toNat : Int), (x.2.toNat : Int)) := Prod.ext (by show x.1 = _; omega) (by show x.2 = _; omega)
  have := place_SC x.1.toNat x.2.toNat (by omega) (by omega) (by omega)
  rw [← e] at this
  exact this

def sgood (A B : List (Int × Int)) : Nat → Nat → Bool
  | 0, _ => true
  | m + 1, i => goodF (gE A i) && goodF (gE B i) && sgood A B m (i + 1)

def spts (A B : List (Int × Int)) : Nat → Nat → List (Nat × Nat)
  | 0, _ => []
  | m + 1, i => (plI (gE A i), plI (gE B i)) :: spts A B m (i + 1)

theorem spots_L (A B : List (Int × Int)) (q : ByteArray × ByteArray) (hA : A.length ≤ 8) (hB : B.length = A.length) : ∀ (m i : Nat) (acc : List (Nat × Nat)), i + m = A.length → acc.length ≤ i + 1 →
    (sgood A B m i = false → LoopSC cfg.P 2 (lb P_impl_PairOfBreaks 0) (impl_PairOfBreaks_L0a A B ((A.length : Nat) : Int) (i : Int) q (spN acc)) .ret (impl_PairOfBreaks_L0X1 false ((⟨#[]⟩ : ByteArray), (⟨#[]⟩ : ByteArray)))) ∧
    (sgood A B m i = true → LoopSC cfg.P 2 (lb P_impl_PairOfBreaks 0) (impl_PairOfBreaks_L0a A B ((A.length : Nat) : Int) (i : Int) q (spN acc)) (.exit 0) (impl_PairOfBreaks_L0X2 A B ((A.length : Nat) : Int) ((A.length : Nat) : Int) false q (spN (acc ++ spts A B m i))))
  | 0, i, acc, hi, ha => by
    have e : i = A.length := by omega
    refine ⟨(fun hh => by simp [sgood] at hh), fun _ => ?_⟩
    rw [spts, List.append_nil, e]
    exact impl_PairOfBreaks_L0a_x4 _ _ _ _ _ _ (by omega)
  | m + 1, i, acc, hi, ha => by
    have w2 : IntKind.wrap .i64 ((i : Int) + (1 : Int)) = ((i + 1 : Nat) : Int) := wrap_succ (by omega)
    have g1 := isFraction_SC (gE A i)
    have g2 := isFraction_SC (gE B i)
    have l1 : (i : Int) < ((A.length : Nat) : Int) := by omega
    have l2 : (i : Int) < ((B.length : Nat) : Int) := by omega
    cases q1 : goodF (gE A i) with
    | false =>
      rw [q1] at g1
      exact ⟨fun _ => impl_PairOfBreaks_L0a_x3 A B _ (i : Int) _ _ l1 (by omega) l1 g1, (fun hh => by rw [sgood, q1] at hh; cases hh)⟩
    | true =>
      rw [q1] at g1
      cases q2 : goodF (gE B i) with
      | false =>
        rw [q2] at g2
        exact ⟨fun _ => impl_PairOfBreaks_L0a_x2 A B _ (i : Int) _ _ l1 (by omega) l1 g1 l2 g2, (fun hh => by rw [sgood, q1, q2] at hh; cases hh)⟩
      | true =>
        rw [q2] at g2
        obtain ⟨k1, k2⟩ := spots_L A B q hA hB m (i + 1) (acc ++ [(plI (gE A i), plI (gE B i))]) (by omega) (by simp; omega)
        have es : sgood A B (m + 1) i = sgood A B m (i + 1) := by simp only [sgood, q1, q2, Bool.true_and]
        have el : acc ++ spts A B (m + 1) i = acc ++ [(plI (gE A i), plI (gE B i))] ++ spts A B m (i + 1) := by rw [spts]; simp
        rw [es, el]
        have ea : spN (acc ++ [(plI (gE A i), plI (gE B i))]) = spN acc ++ [(((plI (gE A i) : Nat) : Int), ((plI (gE B i) : Nat) : Int))] := List.map_append ..
        rw [ea, ← w2] at k1 k2
        have go : ∀ {e : AEx} {st : St}, LoopSC cfg.P 2 (lb P_impl_PairOfBreaks 0) (impl_PairOfBreaks_L0a A B ((A.length : Nat) : Int) (IntKind.wrap .i64 ((i : Int) + (1 : Int))) q (spN acc ++ [(((plI (gE A i) : Nat) : Int), ((plI (gE B i) : Nat) : Int))])) e st → LoopSC cfg.P 2 (lb P_impl_PairOfBreaks 0) (impl_PairOfBreaks_L0a A B ((A.length : Nat) : Int) (i : Int) q (spN acc)) e st := fun hn =>
          impl_PairOfBreaks_L0a_i1 A B _ (i : Int) _ _ _ _ l1 (by omega) l1 g1 l2 g2 (plI_SC _ q1) (plI_SC _ q2) (by show (spN acc).length + 1 ≤ 2 ^ 40; rw [List.length_map]; omega) hn
        exact ⟨fun hh => go (k1 hh), fun hh => go (k2 hh)⟩

end Go.AI
end

section
/- Contracts: the program's check that spots rise with slopes that are powers of 2. -/
set_option autoImplicit false
set_option maxRecDepth 100000
set_option linter.unusedVariables false
namespace Go.AI
open Go.Proofs

abbrev gS (S : List (Nat × Nat)) (i : Nat) : Nat × Nat := List.getD S i (0, 0)

/-- One step from spot to spot: it rises, and its slope is a power of 2. -/
def okSt (p q : Nat × Nat) : Bool :=
  decide (p.1 < q.1) && (decide (p.2 < q.2) && (decide (popC (IntKind.wrap .u64 ((slp p q).1 : Int)) = 1) && decide (popC (IntKind.wrap .u64 ((slp p q).2 : Int)) = 1)))

def mdOk (S : List (Nat × Nat)) : Nat → Nat → Bool
  | 0, _ => true
  | m + 1, i => okSt (gS S (i - 1)) (gS S i) && mdOk S m (i + 1)

theorem gS_spN (S : List (Nat × Nat)) (k : Nat) (h : k < S.length) : List.getD (spN S) ((k : Int)).toNat ((0 : Int), (0 : Int)) = (((gS S k).1 : Int), ((gS S k).2 : Int)) := by
  rw [sp_getD S k h, gS, List.getD_eq_getElem?_getD, List.getElem?_eq_getElem h]; rfl

theorem made_L (S : List (Nat × Nat)) (hS : S.length ≤ 2 ^ 10) (hb : ∀ i, i < S.length → (gS S i).1 ≤ 2 ^ 40 ∧ (gS S i).2 ≤ 2 ^ 40) (t : Tr × Tr) : ∀ (m i : Nat), 1 ≤ i → i + m = S.length →
    (mdOk S m i = false → LoopSC cfg.P 1 (lb P_impl_made 0) (impl_made_L0a (spN S) (i : Int) t) .ret (impl_made_L0X1 false (Tr.leaf, Tr.leaf))) ∧
    (mdOk S m i = true → LoopSC cfg.P 1 (lb P_impl_made 0) (impl_made_L0a (spN S) (i : Int) t) (.exit 0) (impl_made_L0X2 (spN S) ((S.length : Nat) : Int) false t))
  | 0, i, h1, hi => by
    have e : i = S.length := by omega
    have hl : List.length (spN S) = S.length := List.length_map ..
    refine ⟨(fun hh => by rw [mdOk] at hh; cases hh), fun _ => ?_⟩
    rw [e]
    exact impl_made_L0a_x6 _ _ _ (by omega)
  | m + 1, i, h1, hi => by
    have hl : List.length (spN S) = S.length := List.length_map ..
    obtain ⟨k1, k2⟩ := made_L S hS hb t m (i + 1) (by omega) (by omega)
    have w1 : IntKind.wrap .i64 ((i : Int) - (1 : Int)) = ((i - 1 : Nat) : Int) := by rw [w64] <;> omega
    have w2 : IntKind.wrap .i64 ((i : Int) + (1 : Int)) = ((i + 1 : Nat) : Int) := wrap_succ (by omega)
    rw [← w2] at k1 k2
    have H1 : (i : Int) < ((List.length (spN S) : Nat) : Int) := by omega
    have H4 : 0 ≤ IntKind.wrap .i64 ((i : Int) - (1 : Int)) := by rw [w1]; omega
    have H5 : IntKind.wrap .i64 ((i : Int) - (1 : Int)) < (List.length (spN S) : Int) := by rw [w1]; omega
    have e1 := gS_spN S i (by omega)
    have e0 := gS_spN S (i - 1) (by omega)
    rw [← w1] at e0
    obtain ⟨b1, b2⟩ := hb i (by omega)
    obtain ⟨c1, c2⟩ := hb (i - 1) (by omega)
    have d1 : IntKind.wrap .i64 ((List.getD (spN S) ((i : Int)).toNat ((0 : Int), (0 : Int))).1 - (List.getD (spN S) (IntKind.wrap .i64 ((i : Int) - (1 : Int))).toNat ((0 : Int), (0 : Int))).1) = ((gS S i).1 : Int) - ((gS S (i - 1)).1 : Int) := by
      rw [e1, e0]
      show IntKind.wrap .i64 (((gS S i).1 : Int) - ((gS S (i - 1)).1 : Int)) = _
      rw [w64] <;> omega
    have d2 : IntKind.wrap .i64 ((List.getD (spN S) ((i : Int)).toNat ((0 : Int), (0 : Int))).2 - (List.getD (spN S) (IntKind.wrap .i64 ((i : Int) - (1 : Int))).toNat ((0 : Int), (0 : Int))).2) = ((gS S i).2 : Int) - ((gS S (i - 1)).2 : Int) := by
      rw [e1, e0]
      show IntKind.wrap .i64 (((gS S i).2 : Int) - ((gS S (i - 1)).2 : Int)) = _
      rw [w64] <;> omega
    rw [mdOk]
    by_cases u1 : (gS S (i - 1)).1 < (gS S i).1
    · have U1 : ¬ (IntKind.wrap .i64 ((List.getD (spN S) ((i : Int)).toNat ((0 : Int), (0 : Int))).1 - (List.getD (spN S) (IntKind.wrap .i64 ((i : Int) - (1 : Int))).toNat ((0 : Int), (0 : Int))).1) ≤ 0) := by rw [d1]; omega
      by_cases u2 : (gS S (i - 1)).2 < (gS S i).2
      · have U2 : ¬ (IntKind.wrap .i64 ((List.getD (spN S) ((i : Int)).toNat ((0 : Int), (0 : Int))).2 - (List.getD (spN S) (IntKind.wrap .i64 ((i : Int) - (1 : Int))).toNat ((0 : Int), (0 : Int))).2) ≤ 0) := by rw [d2]; omega
        have hL := low_SC (gS S (i - 1)) (gS S i) ⟨u1, u2⟩ b1 b2
        have e3 : IntKind.wrap .i64 (((gS S i).1 : Int) - ((gS S (i - 1)).1 : Int)) = ((gS S i).1 : Int) - ((gS S (i - 1)).1 : Int) := by rw [w64] <;> omega
        have e4 : IntKind.wrap .i64 (((gS S i).2 : Int) - ((gS S (i - 1)).2 : Int)) = ((gS S i).2 : Int) - ((gS S (i - 1)).2 : Int) := by rw [w64] <;> omega
        rw [e3, e4, ← d1, ← d2] at hL
        have P1 := popC_SC (IntKind.wrap .u64 ((slp (gS S (i - 1)) (gS S i)).1 : Int))
        have P2 := popC_SC (IntKind.wrap .u64 ((slp (gS S (i - 1)) (gS S i)).2 : Int))
        by_cases v1 : popC (IntKind.wrap .u64 ((slp (gS S (i - 1)) (gS S i)).1 : Int)) = 1
        · by_cases v2 : popC (IntKind.wrap .u64 ((slp (gS S (i - 1)) (gS S i)).2 : Int)) = 1
          · have hf : okSt (gS S (i - 1)) (gS S i) = true := by unfold okSt; rw [decide_eq_true u1, decide_eq_true u2, decide_eq_true v1, decide_eq_true v2]; rfl
            rw [hf, Bool.true_and]
            exact ⟨fun hh => impl_made_L0a_i5 _ _ _ _ _ _ _ H1 (by omega) H1 H4 H5 U1 U2 hL P1 v1 P2 v2 (k1 hh), fun hh => impl_made_L0a_i5 _ _ _ _ _ _ _ H1 (by omega) H1 H4 H5 U1 U2 hL P1 v1 P2 v2 (k2 hh)⟩
          · have hf : okSt (gS S (i - 1)) (gS S i) = false := by unfold okSt; rw [decide_eq_false v2]; simp only [Bool.and_false]
            rw [hf]
            exact ⟨fun _ => impl_made_L0a_x4 _ _ _ _ _ _ _ H1 (by omega) H1 H4 H5 U1 U2 hL P1 v1 P2 v2, (fun hh => by cases hh)⟩
        · have hf : okSt (gS S (i - 1)) (gS S i) = false := by unfold okSt; rw [decide_eq_false v1]; simp only [Bool.false_and, Bool.and_false]
          rw [hf]
          exact ⟨fun _ => impl_made_L0a_x3 _ _ _ _ _ _ H1 (by omega) H1 H4 H5 U1 U2 hL P1 v1, (fun hh => by cases hh)⟩
      · have hf : okSt (gS S (i - 1)) (gS S i) = false := by unfold okSt; rw [decide_eq_false u2]; simp
        rw [hf]
        exact ⟨fun _ => impl_made_L0a_x2 _ _ _ H1 (by omega) H1 H4 H5 U1 (by rw [d2]; omega), (fun hh => by cases hh)⟩
    · have hf : okSt (gS S (i - 1)) (gS S i) = false := by unfold okSt; rw [decide_eq_false u1]; simp
      rw [hf]
      exact ⟨fun _ => impl_made_L0a_x1 _ _ _ H1 (by omega) H1 H4 H5 (by rw [d1]; omega), (fun hh => by cases hh)⟩

end Go.AI
end
