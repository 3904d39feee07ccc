/- A part of the road: what it proves stands in its last texts. -/
import Derived.Test.YtndnckjnnfnnnaaDoorJG
import Derived.Test.YtndnckjnnfnnnaaDoorJH
import Derived.Test.YtndnckjnnfnnnaaDoorJF
import Derived.Test.YtndnckjnnfnnnaaDoorJA
import Derived.Test.YtndnckjnnfnnnaaDoorJD
section
/- Plain law: fractions and their places. -/
set_option autoImplicit false
set_option maxRecDepth 100000
set_option linter.unusedVariables false
namespace Go.AI

/-- A fraction at a place. -/
structure Pw (x : Int × Int) (p : Nat) : Prop where
  e : x.1 * 1099511627776 = (p : Int) * x.2
  pos : 0 < x.2

theorem mulLt {a b c : Int} (hc : 0 < c) : a * c < b * c ↔ a < b := by
  constructor
  · intro h
    exact Int.lt_of_mul_lt_mul_right h (by omega)
  · intro h
    exact Int.mul_lt_mul_of_pos_right h hc

theorem Pw.lt {x y : Int × Int} {p q : Nat} (h : Pw x p) (k : Pw y q) : fLt x y = decide (p < q) := by
  obtain ⟨h1, h2⟩ := h
  obtain ⟨k1, k2⟩ := k
  unfold fLt
  have e1 : x.1 * y.2 * 1099511627776 = (p : Int) * (x.2 * y.2) := by
    rw [Int.mul_assoc, Int.mul_comm y.2, ← Int.mul_assoc, h1, Int.mul_assoc]
  have e2 : y.1 * x.2 * 1099511627776 = (q : Int) * (x.2 * y.2) := by
    rw [Int.mul_assoc, Int.mul_comm x.2, ← Int.mul_assoc, k1, Int.mul_assoc, Int.mul_comm y.2]
  have hp : 0 < x.2 * y.2 := Int.mul_pos h2 k2
  have key : x.1 * y.2 < y.1 * x.2 ↔ (p : Int) < (q : Int) := by
    rw [← mulLt (by omega : (0 : Int) < 1099511627776), e1, e2, mulLt hp]
  by_cases hlt : p < q
  · rw [decide_eq_true hlt, decide_eq_true (key.2 (by omega))]
  · rw [decide_eq_false hlt, decide_eq_false (fun c => hlt (by have := key.1 c; omega))]

theorem good_Pw {x : Int × Int} (h : goodF x = true) : Pw x (plI x) ∧ plI x ≤ 2 ^ 40 ∧ 2 ^ 30 ∣ plI x := by
  obtain ⟨n, d, rfl, h1, h2, h3, h4⟩ := goodF_nat h
  have hd := pow2_dvd h2 h4
  have e : plI ((n : Int), (d : Int)) = n * (1099511627776 / d) := rfl
  rw [e]
  refine ⟨⟨?_, by show (0 : Int) < (d : Int); omega⟩, ?_, ?_⟩
  · show (n : Int) * 1099511627776 = ((n * (1099511627776 / d) : Nat) : Int) * (d : Int)
    have : n * 1099511627776 = n * (1099511627776 / d) * d := by
      rw [Nat.mul_assoc, Nat.mul_comm (1099511627776 / d), hd]
    rw [← Int.natCast_mul, ← this]
    rfl
  · have := Nat.mul_le_mul_right (1099511627776 / d) h3
    rw [hd] at this
    exact this
  · refine Nat.dvd_mul_left_of_dvd ?_ n
    have hall : (List.range 1025).all (fun d => !pow2 d || decide (1099511627776 / d % 2 ^ 30 = 0)) = true := by decide +kernel
    have := List.all_eq_true.1 hall d (List.mem_range.2 (by omega))
    rw [h4, Bool.not_true, Bool.false_or, decide_eq_true_eq] at this
    exact Nat.dvd_of_mod_eq_zero this

theorem plI_0 : plI (0, 1) = 0 := rfl
theorem plI_1 : plI (1, 1) = 2 ^ 40 := rfl
theorem good_0 : goodF (0, 1) = true := by decide +kernel
theorem good_1 : goodF (1, 1) = true := by decide +kernel

theorem FS_Pw_uniq {x : Int × Int} {p q : Nat} (h : Pw x p) (k : Pw x q) : p = q := by
  have e := h.e.symm.trans k.e
  have := Int.eq_of_mul_eq_mul_right (by have := h.pos; omega) e
  omega

end Go.AI
end

section
/- Contracts: the reference joins parts of one slope. -/
set_option autoImplicit false
set_option maxRecDepth 100000
set_option linter.unusedVariables false
namespace Go.AI
open Go.Proofs

abbrev Mst := List (Int × Int) × List (Int × Int) × List Int

abbrev gF (X : List (Int × Int)) (i : Nat) : Int × Int := List.getD X i (0, 0)

noncomputable def slAt (X Y : List (Int × Int)) (i : Nat) : Int × Bool :=
  slq (numI (gF Y i) (gF Y (i - 1)) (gF X i) (gF X (i - 1))).toNat (numI (gF X i) (gF X (i - 1)) (gF Y i) (gF Y (i - 1))).toNat

noncomputable def mst (X Y : List (Int × Int)) (i : Nat) (st : Mst) : Mst :=
  if 0 < st.2.2.length ∧ List.getD st.2.2 (st.2.2.length - 1) 0 = (slAt X Y i).1 then (st.1.set st.2.2.length (gF X i), st.2.1.set st.2.2.length (gF Y i), st.2.2)
  else (st.1 ++ [gF X i], st.2.1 ++ [gF Y i], st.2.2 ++ [(slAt X Y i).1])

noncomputable def mrg (X Y : List (Int × Int)) : Nat → Nat → Mst → Option Mst
  | 0, _, st => some st
  | m + 1, i, st => if (slAt X Y i).2 = true then mrg X Y m (i + 1) (mst X Y i st) else none

structure MOK (X Y : List (Int × Int)) : Prop where
  hX : ∀ x ∈ X, FS x
  hY : ∀ x ∈ Y, FS x
  l : Y.length = X.length
  l1 : X.length ≤ 2 ^ 10
  uX : ∀ i, 1 ≤ i → i < X.length → fLt (gF X (i - 1)) (gF X i) = true
  uY : ∀ i, 1 ≤ i → i < X.length → fLt (gF Y (i - 1)) (gF Y i) = true

theorem mrg_L (X Y : List (Int × Int)) (h : MOK X Y) (q : ByteArray × ByteArray) : ∀ (m i : Nat) (S V : List (Int × Int)) (L : List Int), 1 ≤ i → i + m = X.length → S.length = L.length + 1 → V.length = L.length + 1 → L.length < i →
    (mrg X Y m i (S, V, L) = none → LoopSC cfg.P 2 (lb P_spec_mpPair 0) (spec_mpPair_L0a X Y (i : Int) q L S V) .ret (spec_mpPair_L0X1 false ((⟨#[]⟩ : ByteArray), (⟨#[]⟩ : ByteArray)))) ∧
    (∀ S' V' L', mrg X Y m i (S, V, L) = some (S', V', L') → LoopSC cfg.P 2 (lb P_spec_mpPair 0) (spec_mpPair_L0a X Y (i : Int) q L S V) (.exit 0) (spec_mpPair_L0X2 X Y ((X.length : Nat) : Int) false q L' S' V'))
  | 0, i, S, V, L, h1, hi, hS, hV, hL => by
    have e : i = X.length := by omega
    subst e
    refine ⟨(fun hh => by simp [mrg] at hh), fun S' V' L' hh => ?_⟩
    simp only [mrg, Option.some.injEq, Prod.mk.injEq] at hh
    obtain ⟨rfl, rfl, rfl⟩ := hh
    exact spec_mpPair_L0a_x5 _ _ _ _ _ _ _ (by omega)
  | m + 1, i, S, V, L, h1, hi, hS, hV, hL => by
    have hl := h.l
    have hl1 := h.l1
    have w1 : IntKind.wrap .i64 ((i : Int) - (1 : Int)) = ((i - 1 : Nat) : Int) := by rw [w64] <;> omega
    have w2 : IntKind.wrap .i64 ((i : Int) + (1 : Int)) = ((i + 1 : Nat) : Int) := wrap_succ (by omega)
    have x1 := getD_mem' h.hX ((0, 0) : Int × Int) i (by omega)
    have x0 := getD_mem' h.hX ((0, 0) : Int × Int) (i - 1) (by omega)
    have y1 := getD_mem' h.hY ((0, 0) : Int × Int) i (by omega)
    have y0 := getD_mem' h.hY ((0, 0) : Int × Int) (i - 1) (by omega)
    obtain ⟨a1, a2, a3⟩ := numI_wrap (gF Y i) (gF Y (i - 1)) (gF X i) (gF X (i - 1)) y1 y0 x1 x0 (h.uY i h1 (by omega))
    obtain ⟨c1, c2, c3⟩ := numI_wrap (gF X i) (gF X (i - 1)) (gF Y i) (gF Y (i - 1)) x1 x0 y1 y0 (h.uX i h1 (by omega))
    have H8 := (slq_spec _ _ a2 c2 a3 c3).1
    rw [← a1, ← c1] at H8
    have H4 : 0 ≤ IntKind.wrap .i64 ((i : Int) - (1 : Int)) := by rw [w1]; omega
    have H5 : IntKind.wrap .i64 ((i : Int) - (1 : Int)) < (List.length Y : Int) := by rw [w1]; omega
    have H7 : IntKind.wrap .i64 ((i : Int) - (1 : Int)) < (List.length X : Int) := by rw [w1]; omega
    have H1 : (i : Int) < ((List.length X : Nat) : Int) := by omega
    have H3 : (i : Int) < (List.length Y : Int) := by omega
    have ex : gF X (i - 1) = List.getD X (IntKind.wrap .i64 ((i : Int) - (1 : Int))).toNat ((0 : Int), (0 : Int)) := by rw [w1, Int.toNat_natCast]
    have ey : gF Y (i - 1) = List.getD Y (IntKind.wrap .i64 ((i : Int) - (1 : Int))).toNat ((0 : Int), (0 : Int)) := by rw [w1, Int.toNat_natCast]
    change SC cfg.P i_spec_mpSlope _ (.tup [.v (.int .i64) (slAt X Y i).1, .v .bool (slAt X Y i).2]) [] at H8
    unfold mrg mst
    generalize slAt X Y i = r at H8 ⊢
    rw [ex, ey] at H8
    obtain ⟨r1, r2⟩ := r
    cases r2 with
    | false =>
      refine ⟨fun _ => ?_, (fun S' V' L' hh => by simp at hh)⟩
      exact spec_mpPair_L0a_x4 X Y (i : Int) q L S V r1 H1 (by omega) H3 H4 H5 H1 H7 H8
    | true =>
      rw [if_pos rfl]
      by_cases hp : 0 < L.length
      · have wl : IntKind.wrap .i64 (((List.length L : Nat) : Int) - (1 : Int)) = ((L.length - 1 : Nat) : Int) := by rw [w64] <;> omega
        have eL : List.getD L (IntKind.wrap .i64 (((List.length L : Nat) : Int) - (1 : Int))).toNat (0 : Int) = List.getD L (L.length - 1) 0 := by rw [wl, Int.toNat_natCast]
        by_cases he : List.getD L (L.length - 1) 0 = r1
        · rw [if_pos ⟨hp, he⟩]
          obtain ⟨k1, k2⟩ := mrg_L X Y h q m (i + 1) (S.set L.length (gF X i)) (V.set L.length (gF Y i)) L (by omega) (by omega) (by rw [List.length_set]; exact hS) (by rw [List.length_set]; exact hV) (by omega)
          rw [← w2] at k1 k2
          have go : ∀ {e : AEx} {st : St}, LoopSC cfg.P 2 (lb P_spec_mpPair 0) (spec_mpPair_L0a X Y (IntKind.wrap .i64 ((i : Int) + (1 : Int))) q L (S.set L.length (gF X i)) (V.set L.length (gF Y i))) e st → LoopSC cfg.P 2 (lb P_spec_mpPair 0) (spec_mpPair_L0a X Y (i : Int) q L S V) e st := fun hn =>
            spec_mpPair_L0a_i1 X Y (i : Int) q L S V r1 H1 (by omega) H3 H4 H5 H1 H7 H8 (by omega) (by rw [wl]; omega) (by rw [wl]; omega) (by rw [wl, Int.toNat_natCast]; omega) (eL.trans he) (by omega) (by omega) (by rw [Int.toNat_natCast]; omega) (by omega) (by rw [Int.toNat_natCast]; omega) hn
          exact ⟨fun hh => go (k1 hh), fun S' V' L' hh => go (k2 S' V' L' hh)⟩
        · rw [if_neg (fun hh => he hh.2)]
          obtain ⟨k1, k2⟩ := mrg_L X Y h q m (i + 1) (S ++ [gF X i]) (V ++ [gF Y i]) (L ++ [r1]) (by omega) (by omega) (by simp; omega) (by simp; omega) (by simp; omega)
          rw [← w2] at k1 k2
          have go : ∀ {e : AEx} {st : St}, LoopSC cfg.P 2 (lb P_spec_mpPair 0) (spec_mpPair_L0a X Y (IntKind.wrap .i64 ((i : Int) + (1 : Int))) q (L ++ [r1]) (S ++ [gF X i]) (V ++ [gF Y i])) e st → LoopSC cfg.P 2 (lb P_spec_mpPair 0) (spec_mpPair_L0a X Y (i : Int) q L S V) e st := fun hn =>
            spec_mpPair_L0a_i2 X Y (i : Int) q L S V r1 H1 (by omega) H3 H4 H5 H1 H7 H8 (by omega) (by rw [wl]; omega) (by rw [wl]; omega) (by rw [wl, Int.toNat_natCast]; omega) (fun hh => he (eL.symm.trans hh)) (by show L.length + 1 ≤ 2 ^ 40; omega) (by show S.length + 1 ≤ 2 ^ 40; omega) (by show V.length + 1 ≤ 2 ^ 40; omega) hn
          exact ⟨fun hh => go (k1 hh), fun S' V' L' hh => go (k2 S' V' L' hh)⟩
      · rw [if_neg (fun hh => hp hh.1)]
        obtain ⟨k1, k2⟩ := mrg_L X Y h q m (i + 1) (S ++ [gF X i]) (V ++ [gF Y i]) (L ++ [r1]) (by omega) (by omega) (by simp; omega) (by simp; omega) (by simp; omega)
        rw [← w2] at k1 k2
        have go : ∀ {e : AEx} {st : St}, LoopSC cfg.P 2 (lb P_spec_mpPair 0) (spec_mpPair_L0a X Y (IntKind.wrap .i64 ((i : Int) + (1 : Int))) q (L ++ [r1]) (S ++ [gF X i]) (V ++ [gF Y i])) e st → LoopSC cfg.P 2 (lb P_spec_mpPair 0) (spec_mpPair_L0a X Y (i : Int) q L S V) e st := fun hn =>
          spec_mpPair_L0a_i3 X Y (i : Int) q L S V r1 H1 (by omega) H3 H4 H5 H1 H7 H8 (by omega) (by show L.length + 1 ≤ 2 ^ 40; omega) (by show S.length + 1 ≤ 2 ^ 40; omega) (by show V.length + 1 ≤ 2 ^ 40; omega) hn
        exact ⟨fun hh => go (k1 hh), fun S' V' L' hh => go (k2 S' V' L' hh)⟩

end Go.AI
end

section
/- Plain law: when two slopes are equal. -/
set_option autoImplicit false
set_option maxRecDepth 100000
set_option linter.unusedVariables false
namespace Go.AI

theorem red_iff (a b c d : Nat) (ha : 0 < a) (hb : 0 < b) (hc : 0 < c) (hd : 0 < d) :
    (a / Nat.gcd a b = c / Nat.gcd c d ∧ b / Nat.gcd a b = d / Nat.gcd c d) ↔ a * d = c * b := by
  have g1 : 0 < Nat.gcd a b := Nat.gcd_pos_of_pos_left _ ha
  have g2 : 0 < Nat.gcd c d := Nat.gcd_pos_of_pos_left _ hc
  have ea := Nat.div_mul_cancel (Nat.gcd_dvd_left a b)
  have eb := Nat.div_mul_cancel (Nat.gcd_dvd_right a b)
  have ec := Nat.div_mul_cancel (Nat.gcd_dvd_left c d)
  have ed := Nat.div_mul_cancel (Nat.gcd_dvd_right c d)
  have k1 : Nat.Coprime (a / Nat.gcd a b) (b / Nat.gcd a b) := Nat.coprime_div_gcd_div_gcd g1
  have k2 : Nat.Coprime (c / Nat.gcd c d) (d / Nat.gcd c d) := Nat.coprime_div_gcd_div_gcd g2
  have key : a * d = c * b ↔ a / Nat.gcd a b * (d / Nat.gcd c d) = c / Nat.gcd c d * (b / Nat.gcd a b) := by
    generalize a / Nat.gcd a b = x at *
    generalize b / Nat.gcd a b = y at *
    generalize c / Nat.gcd c d = z at *
    generalize d / Nat.gcd c d = w at *
    generalize Nat.gcd a b = g at *
    generalize Nat.gcd c d = e at *
    subst ea; subst eb; subst ec; subst ed
    have l : x * g * (w * e) = g * e * (x * w) := by ac_rfl
    have r : z * e * (y * g) = g * e * (z * y) := by ac_rfl
    rw [l, r]
    exact ⟨fun h => Nat.eq_of_mul_eq_mul_left (Nat.mul_pos g1 g2) h, fun h => by rw [h]⟩
  rw [key]
  have pz : 0 < c / Nat.gcd c d := Nat.div_pos (Nat.le_of_dvd hc (Nat.gcd_dvd_left _ _)) g2
  have px : 0 < a / Nat.gcd a b := Nat.div_pos (Nat.le_of_dvd ha (Nat.gcd_dvd_left _ _)) g1
  generalize a / Nat.gcd a b = x at *
  generalize b / Nat.gcd a b = y at *
  generalize c / Nat.gcd c d = z at *
  generalize d / Nat.gcd c d = w at *
  constructor
  · rintro ⟨rfl, rfl⟩; rfl
  · intro h
    have h1 : x ∣ z := k1.dvd_of_dvd_mul_right (by rw [← h]; exact Nat.dvd_mul_right _ _)
    have h2 : z ∣ x := k2.dvd_of_dvd_mul_right (by rw [h]; exact Nat.dvd_mul_right _ _)
    have e := Nat.dvd_antisymm h1 h2
    subst e
    exact ⟨rfl, (Nat.eq_of_mul_eq_mul_left px h).symm⟩

theorem slp_iff (p q r s : Nat × Nat) (h1 : Up p q) (h2 : Up r s) : slp p q = slp r s ↔ (q.1 - p.1) * (s.2 - r.2) = (s.1 - r.1) * (q.2 - p.2) := by
  obtain ⟨a, b⟩ := h1
  obtain ⟨c, d⟩ := h2
  rw [← red_iff (q.1 - p.1) (q.2 - p.2) (s.1 - r.1) (s.2 - r.2) (by omega) (by omega) (by omega) (by omega)]
  exact Prod.ext_iff

/-- Two parts of one slope are a part of that slope. -/
theorem slp_join (l x y : Nat × Nat) (h1 : Up l x) (h2 : Up x y) (h : slp l x = slp x y) : slp l y = slp x y := by
  rw [slp_iff l x x y h1 h2] at h
  rw [slp_iff l y x y (h1.trans h2) h2]
  obtain ⟨a, b⟩ := h1
  obtain ⟨c, d⟩ := h2
  have e1 : y.1 - l.1 = (x.1 - l.1) + (y.1 - x.1) := by omega
  have e2 : y.2 - l.2 = (x.2 - l.2) + (y.2 - x.2) := by omega
  rw [e1, e2, Nat.add_mul, Nat.mul_add, h]

end Go.AI
end

section
/- Plain law: slopes of steps, in fractions and in places. -/
set_option autoImplicit false
set_option maxRecDepth 100000
set_option linter.unusedVariables false
namespace Go.AI

/-- The slope of a step. -/
def Slope (p q : Nat × Nat) (k : Int) : Prop := IsSl (q.2 - p.2) (q.1 - p.1) k

theorem Slope.eq_iff {p q r s : Nat × Nat} {k k' : Int} (h1 : Up p q) (h2 : Up r s) (h : Slope p q k) (h' : Slope r s k') : slp p q = slp r s ↔ k = k' := by
  rw [slp_iff p q r s h1 h2]
  obtain ⟨a, b⟩ := h1
  obtain ⟨c, d⟩ := h2
  constructor
  · intro e
    refine IsSl.uniq (by omega) (by omega) (by omega) (by omega) h h' ?_
    rw [Nat.mul_comm (q.2 - p.2), ← e, Nat.mul_comm]
  · intro e
    subst e
    have t := IsSl.two h
    have t' := IsSl.two h'
    have hp : 0 < 2 ^ (-k).toNat * 2 ^ k.toNat := Nat.mul_pos (Nat.pow_pos (by omega)) (Nat.pow_pos (by omega))
    refine Nat.eq_of_mul_eq_mul_right hp ?_
    calc (q.1 - p.1) * (s.2 - r.2) * (2 ^ (-k).toNat * 2 ^ k.toNat) = ((q.1 - p.1) * 2 ^ k.toNat) * ((s.2 - r.2) * 2 ^ (-k).toNat) := by ac_rfl
      _ = ((q.2 - p.2) * 2 ^ (-k).toNat) * ((s.1 - r.1) * 2 ^ k.toNat) := by rw [t, t']
      _ = (s.1 - r.1) * (q.2 - p.2) * (2 ^ (-k).toNat * 2 ^ k.toNat) := by ac_rfl

theorem IsSl.cross {n d n' d' : Nat} {k : Int} (hd : 0 < d) (hn : 0 < n) (e : n * d' = d * n') (h : IsSl n d k) : IsSl n' d' k := by
  rcases h with ⟨h1, h2⟩ | ⟨h1, h2⟩
  · left
    refine ⟨h1, ?_⟩
    rw [h2, Nat.mul_assoc] at e
    have := Nat.eq_of_mul_eq_mul_left hd e
    rw [← this, Nat.mul_comm]
  · right
    refine ⟨h1, ?_⟩
    rw [h2, Nat.mul_assoc] at e
    have := Nat.eq_of_mul_eq_mul_left hn e
    rw [this, Nat.mul_comm]

theorem pow2_iff {d : Nat} : pow2 d = true ↔ ∃ e, e ≤ 10 ∧ d = 2 ^ e := by
  constructor
  · intro h
    simp only [pow2, List.contains_iff_mem, List.mem_cons, List.not_mem_nil, or_false] at h
    rcases h with h | h | h | h | h | h | h | h | h | h | h
    · exact ⟨0, by omega, by rw [h]⟩
    · exact ⟨1, by omega, by rw [h]⟩
    · exact ⟨2, by omega, by rw [h]⟩
    · exact ⟨3, by omega, by rw [h]⟩
    · exact ⟨4, by omega, by rw [h]⟩
    · exact ⟨5, by omega, by rw [h]⟩
    · exact ⟨6, by omega, by rw [h]⟩
    · exact ⟨7, by omega, by rw [h]⟩
    · exact ⟨8, by omega, by rw [h]⟩
    · exact ⟨9, by omega, by rw [h]⟩
    · exact ⟨10, by omega, by rw [h]⟩
  · rintro ⟨e, he, rfl⟩
    have : (List.range 11).all (fun e => pow2 (2 ^ e)) = true := by decide +kernel
    exact List.all_eq_true.1 this e (List.mem_range.2 (by omega))

theorem pw10 {e : Nat} (h : 2 ^ e ≤ 1024) : e ≤ 10 := by
  by_cases hh : e ≤ 10
  · exact hh
  · have := Nat.pow_le_pow_right (show 0 < 2 by omega) (show 11 ≤ e by omega)
    omega

theorem wrapU {n : Nat} (h : n ≤ 1024) : IntKind.wrap .u64 (n : Int) = (n : Int) := by simp [IntKind.wrap, IntKind.bits, IntKind.signed]; omega

theorem div_1024 {n g : Nat} (hn : n ≤ 2 ^ 40) (hg : 0 < g) (h : 2 ^ 30 ∣ g) : n / g ≤ 1024 := by
  obtain ⟨c, rfl⟩ := h
  have hc : 0 < c := by
    cases c with
    | zero => simp at hg
    | succ c => omega
  have h1 : 2 ^ 30 ≤ 2 ^ 30 * c := Nat.le_mul_of_pos_right _ hc
  have h2 : n / (2 ^ 30 * c) ≤ n / 2 ^ 30 := Nat.div_le_div_left h1 (by omega)
  have h3 : n / 2 ^ 30 ≤ 2 ^ 40 / 2 ^ 30 := Nat.div_le_div_right hn
  omega

/-- The program's check of a step. -/
theorem okSt_iff {p q : Nat × Nat} (h : Up p q) (hq1 : q.1 ≤ 2 ^ 40) (hq2 : q.2 ≤ 2 ^ 40) (d1 : 2 ^ 30 ∣ q.1 - p.1) (d2 : 2 ^ 30 ∣ q.2 - p.2) : okSt p q = true ↔ ∃ k, Slope p q k := by
  obtain ⟨u1, u2⟩ := h
  have hg : 0 < Nat.gcd (q.1 - p.1) (q.2 - p.2) := Nat.gcd_pos_of_pos_left _ (by omega)
  have hdg : 2 ^ 30 ∣ Nat.gcd (q.1 - p.1) (q.2 - p.2) := Nat.dvd_gcd d1 d2
  have l1 : (slp p q).1 ≤ 1024 := div_1024 (by omega) hg hdg
  have l2 : (slp p q).2 ≤ 1024 := div_1024 (by omega) hg hdg
  have e1 := Nat.div_mul_cancel (Nat.gcd_dvd_left (q.1 - p.1) (q.2 - p.2))
  have e2 := Nat.div_mul_cancel (Nat.gcd_dvd_right (q.1 - p.1) (q.2 - p.2))
  have hc : Nat.Coprime (slp p q).1 (slp p q).2 := Nat.coprime_div_gcd_div_gcd hg
  have s1 : (q.1 - p.1) / Nat.gcd (q.1 - p.1) (q.2 - p.2) = (slp p q).1 := rfl
  have s2 : (q.2 - p.2) / Nat.gcd (q.1 - p.1) (q.2 - p.2) = (slp p q).2 := rfl
  rw [s1] at e1
  rw [s2] at e2
  have key : okSt p q = true ↔ pow2 (slp p q).1 = true ∧ pow2 (slp p q).2 = true := by
    unfold okSt
    rw [decide_eq_true u1, decide_eq_true u2, Bool.true_and, Bool.true_and, Bool.and_eq_true, decide_eq_true_eq, decide_eq_true_eq, wrapU l1, wrapU l2, pop_iff _ l1, pop_iff _ l2]
  rw [key]
  generalize (slp p q).1 = a at *
  generalize (slp p q).2 = b at *
  generalize Nat.gcd (q.1 - p.1) (q.2 - p.2) = g at *
  constructor
  · rintro ⟨h1, h2⟩
    obtain ⟨u, hu, rfl⟩ := pow2_iff.1 h1
    obtain ⟨v, hv, rfl⟩ := pow2_iff.1 h2
    by_cases hu0 : u = 0
    · subst hu0
      refine ⟨(v : Int), .inl ⟨by omega, ?_⟩⟩
      rw [Int.toNat_natCast, ← e1, ← e2, Nat.pow_zero, Nat.one_mul, Nat.mul_comm]
    · have hv0 : v = 0 := by
        by_cases hv0 : v = 0
        · exact hv0
        · exfalso
          have x1 : 2 ∣ 2 ^ u := Nat.dvd_trans (Nat.dvd_refl 2) (by rw [show u = (u - 1) + 1 by omega, Nat.pow_succ]; exact Nat.dvd_mul_left _ _)
          have x2 : 2 ∣ 2 ^ v := by rw [show v = (v - 1) + 1 by omega, Nat.pow_succ]; exact Nat.dvd_mul_left _ _
          have := Nat.dvd_gcd x1 x2
          rw [show Nat.gcd (2 ^ u) (2 ^ v) = 1 from hc] at this
          omega
      subst hv0
      refine ⟨-(u : Int), .inr ⟨by omega, ?_⟩⟩
      rw [show (- -(u : Int)).toNat = u by omega, ← e1, ← e2, Nat.pow_zero, Nat.one_mul, Nat.mul_comm]
  · rintro ⟨k, ⟨h1, h2⟩ | ⟨h1, h2⟩⟩
    · rw [← e1, ← e2] at h2
      have h3 : b = a * 2 ^ k.toNat := Nat.eq_of_mul_eq_mul_right hg (by rw [h2]; ac_rfl)
      have ha : a = 1 := by
        have : a ∣ b := by rw [h3]; exact Nat.dvd_mul_right _ _
        have := Nat.dvd_gcd (Nat.dvd_refl a) this
        rw [show Nat.gcd a b = 1 from hc] at this
        exact Nat.dvd_one.1 this
      subst ha
      rw [Nat.one_mul] at h3
      subst h3
      exact ⟨pow2_iff.2 ⟨0, by omega, rfl⟩, pow2_iff.2 ⟨_, pw10 l2, rfl⟩⟩
    · rw [← e1, ← e2] at h2
      have h3 : a = b * 2 ^ (-k).toNat := Nat.eq_of_mul_eq_mul_right hg (by rw [h2]; ac_rfl)
      have hb : b = 1 := by
        have : b ∣ a := by rw [h3]; exact Nat.dvd_mul_right _ _
        have := Nat.dvd_gcd this (Nat.dvd_refl b)
        rw [show Nat.gcd a b = 1 from hc] at this
        exact Nat.dvd_one.1 this
      subst hb
      rw [Nat.one_mul] at h3
      subst h3
      exact ⟨pow2_iff.2 ⟨_, pw10 l1, rfl⟩, pow2_iff.2 ⟨0, by omega, rfl⟩⟩

theorem numI_pl {y z x w : Int × Int} {p q : Nat} (hy : Pw y p) (hz : Pw z q) : numI y z x w * 1099511627776 = ((p : Int) - (q : Int)) * (y.2 * z.2 * x.2 * w.2) := by
  unfold numI
  have e1 : y.1 * z.2 * 1099511627776 = (p : Int) * (y.2 * z.2) := by
    rw [Int.mul_assoc, Int.mul_comm z.2, ← Int.mul_assoc, hy.e, Int.mul_assoc]
  have e2 : z.1 * y.2 * 1099511627776 = (q : Int) * (y.2 * z.2) := by
    rw [Int.mul_assoc, Int.mul_comm y.2, ← Int.mul_assoc, hz.e, Int.mul_assoc, Int.mul_comm z.2]
  calc (y.1 * z.2 - z.1 * y.2) * x.2 * w.2 * 1099511627776 = (y.1 * z.2 * 1099511627776 - z.1 * y.2 * 1099511627776) * (x.2 * w.2) := by
        rw [← Int.sub_mul]; ac_rfl
    _ = ((p : Int) - (q : Int)) * (y.2 * z.2 * x.2 * w.2) := by
        rw [e1, e2, ← Int.sub_mul]; ac_rfl

/-- The ratio of the reference is that of the places. -/
theorem ratio {x1 x0 y1 y0 : Int × Int} {p q r s : Nat} (hx1 : Pw x1 p) (hx0 : Pw x0 q) (hy1 : Pw y1 r) (hy0 : Pw y0 s) (h1 : q < p) (h2 : s < r) :
    0 < (numI y1 y0 x1 x0).toNat ∧ 0 < (numI x1 x0 y1 y0).toNat ∧ (numI y1 y0 x1 x0).toNat * (p - q) = (numI x1 x0 y1 y0).toNat * (r - s) := by
  have a := numI_pl (x := x1) (w := x0) hy1 hy0
  have b := numI_pl (x := y1) (w := y0) hx1 hx0
  have hm : 0 < y1.2 * y0.2 * x1.2 * x0.2 := Int.mul_pos (Int.mul_pos (Int.mul_pos hy1.pos hy0.pos) hx1.pos) hx0.pos
  have hm2 : x1.2 * x0.2 * y1.2 * y0.2 = y1.2 * y0.2 * x1.2 * x0.2 := by ac_rfl
  rw [hm2] at b
  generalize y1.2 * y0.2 * x1.2 * x0.2 = M at *
  have pa : 0 < ((r : Int) - (s : Int)) * M := Int.mul_pos (by omega) hm
  have pb : 0 < ((p : Int) - (q : Int)) * M := Int.mul_pos (by omega) hm
  refine ⟨by omega, by omega, ?_⟩
  have na : (((numI y1 y0 x1 x0).toNat : Nat) : Int) = numI y1 y0 x1 x0 := by omega
  have nb : (((numI x1 x0 y1 y0).toNat : Nat) : Int) = numI x1 x0 y1 y0 := by omega
  apply Int.ofNat_inj.1
  rw [Int.natCast_mul, Int.natCast_mul, na, nb, Int.ofNat_sub (by omega), Int.ofNat_sub (by omega)]
  refine Int.eq_of_mul_eq_mul_right (a := 1099511627776) (by omega) ?_
  calc numI y1 y0 x1 x0 * ((p : Int) - (q : Int)) * 1099511627776 = numI y1 y0 x1 x0 * 1099511627776 * ((p : Int) - (q : Int)) := by ac_rfl
    _ = numI x1 x0 y1 y0 * 1099511627776 * ((r : Int) - (s : Int)) := by rw [a, b]; ac_rfl
    _ = numI x1 x0 y1 y0 * ((r : Int) - (s : Int)) * 1099511627776 := by ac_rfl

end Go.AI
end
