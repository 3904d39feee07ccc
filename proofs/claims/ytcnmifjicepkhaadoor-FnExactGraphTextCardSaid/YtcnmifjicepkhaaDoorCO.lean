/- Contracts: breaks; fractions at places. -/
import Derived.Test.YtcnmifjicepkhaaDoorCN
import Derived.Test.YtcnmifjicepkhaaDoorCPg
set_option autoImplicit false
set_option maxRecDepth 100000
set_option linter.unusedVariables false
namespace Go.AI
open Go.Proofs

abbrev ints (l : List Nat) : List Int := l.map fun n : Nat => (n : Int)

/-- Does the slope change where a leaf begins? -/
def isBrk (t u : Tr) (k : Nat) : Bool := decide (slA t u k ≠ slA t u (k - 1))

/-- The leaves that begin at breaks. -/
def brk (t u : Tr) : List Nat := (List.range' 1 t.c).filter (isBrk t u)

theorem brk_mem {t u : Tr} {k : Nat} (h : k ∈ brk t u) : 1 ≤ k ∧ k < t.c + 1 := by
  have h1 := (List.mem_filter.1 h).1
  rw [List.mem_range'_1] at h1
  omega

theorem brk_len (t u : Tr) : (brk t u).length ≤ t.c := by
  have := List.length_filter_le (isBrk t u) (List.range' 1 t.c)
  rw [List.length_range'] at this
  exact this

theorem mpBreaks_SC (t u : Tr) (h : t.c ≤ 20) (e : t.c = u.c) :
    SC cfg.P i_spec_mpBreaks [.s (.v (.pr .str .str) (bs (txt t), bs (txt u)))] (.s (.own t_int (.int .i64) (ints (brk t u)))) [] := by
  have hs := mpSlopes_SC t u h e
  have hl := slopesL_len t u e
  have key := loop_up (P := cfg.P) (np := 1) (c := lb P_spec_mpBreaks 0) (fun i (cur : List Int) => spec_mpBreaks_L0a (i : Int) cur (slopesL t u)) (fun cur => spec_mpBreaks_L0X1 ((t.c + 1 : Nat) : Int) false cur (slopesL t u))
    (fun i cur => if isBrk t u i = true then cur ++ [(i : Int)] else cur) (fun i cur => cur.length ≤ i ∧ 1 ≤ i) (t.c + 1)
    (fun i cur hi hI => by
      refine ⟨by split <;> simp <;> omega, fun e' st hn => ?_⟩
      have ew : IntKind.wrap .i64 ((i : Int) - 1) = ((i - 1 : Nat) : Int) := by rw [w64] <;> omega
      have g1 := slopesL_get t u e i (by omega)
      have g2 := slopesL_get t u e (i - 1) (by omega)
      by_cases hb : isBrk t u i = true
      · rw [if_pos hb, ← wrap_succ (by omega)] at hn
        exact spec_mpBreaks_L0a_i1 _ _ _ (by omega) (by omega) (by omega) (by omega) (by rw [ew]; omega) (by rw [ew]; omega) (by rw [ew]; omega) (by rw [ew, Int.toNat_natCast, Int.toNat_natCast, g1, g2]; exact of_decide_eq_true hb) (sizeOK_one (by omega)) hn
      · rw [if_neg hb, ← wrap_succ (by omega)] at hn
        exact spec_mpBreaks_L0a_i2 _ _ _ (by omega) (by omega) (by omega) (by omega) (by rw [ew]; omega) (by rw [ew]; omega) (by rw [ew]; omega) (by rw [ew, Int.toNat_natCast, Int.toNat_natCast, g1, g2]; simpa [isBrk] using hb) hn)
    (fun cur _ => spec_mpBreaks_L0a_x3 _ _ _ (by omega)) t.c 1 [] (by omega) (by simp)
  have hL := key.1
  rw [itr_filter (isBrk t u) (fun i => (i : Int)), List.nil_append] at hL
  exact spec_mpBreaks_p1 _ _ _ _ _ _ hs hL

abbrev brkP (t u : Tr) : List Pc := (brk t u).map fun k => List.getD (piecesL t u) k pc0

theorem breaks_SC (p : Tr × Tr) (h : p.1.c ≤ 20) (e : p.1.c = p.2.c) :
    SC cfg.P i_impl_pair_breaks [.s (.v (.pr .tree .tree) p)] (.s (.own t_impl_piece PcK (brkP p.1 p.2))) [] := by
  have hs := pieces_SC p (by omega) e
  have hl : (piecesL p.1 p.2).length = p.1.c + 1 := by simp [piecesL, adL_len, e]
  have key := loop_up (P := cfg.P) (np := 1) (c := lb P_impl_pair_breaks 0) (fun i (cur : List Pc) => impl_pair_breaks_L0a (i : Int) cur (piecesL p.1 p.2)) (fun cur => impl_pair_breaks_L0X1 ((p.1.c + 1 : Nat) : Int) false cur (piecesL p.1 p.2))
    (fun i cur => if isBrk p.1 p.2 i = true then cur ++ [List.getD (piecesL p.1 p.2) i pc0] else cur) (fun i cur => cur.length ≤ i ∧ 1 ≤ i) (p.1.c + 1)
    (fun i cur hi hI => by
      refine ⟨by split <;> simp <;> omega, fun e' st hn => ?_⟩
      have ew : IntKind.wrap .i64 ((i : Int) - 1) = ((i - 1 : Nat) : Int) := by rw [w64] <;> omega
      have s1 := slopeAt_SC p.1 p.2 h e i (by omega)
      have s2 := slopeAt_SC p.1 p.2 h e (i - 1) (by omega)
      by_cases hb : isBrk p.1 p.2 i = true
      · rw [if_pos hb, ← wrap_succ (by omega)] at hn
        exact impl_pair_breaks_L0a_i1 _ _ _ _ _ (by omega) (by omega) (by omega) (by omega) s1 (by rw [ew]; omega) (by rw [ew]; omega) (by rw [ew]; omega) (by rw [ew]; exact s2) (of_decide_eq_true hb) (sizeOK_one (by omega)) hn
      · rw [if_neg hb, ← wrap_succ (by omega)] at hn
        exact impl_pair_breaks_L0a_i2 _ _ _ _ _ (by omega) (by omega) (by omega) (by omega) s1 (by rw [ew]; omega) (by rw [ew]; omega) (by rw [ew]; omega) (by rw [ew]; exact s2) (by simpa [isBrk] using hb) hn)
    (fun cur _ => impl_pair_breaks_L0a_x3 _ _ _ (by omega)) p.1.c 1 [] (by omega) (by simp)
  have hL := key.1
  rw [itr_filter (isBrk p.1 p.2) (fun i => List.getD (piecesL p.1 p.2) i pc0), List.nil_append] at hL
  exact impl_pair_breaks_p1 _ _ _ _ _ _ hs hL

theorem mpAt_SC (t : Tr) (h : t.c ≤ 20) (ks : List Nat) (hk : ∀ k ∈ ks, k < t.c + 1) (hl : ks.length ≤ 2 ^ 20) :
    SC cfg.P i_spec_mpAt [.s (.v .str (bs (txt t))), .s (.v (.sl (.int .i64)) (ints ks))] (.s (.own t_impl_Fraction FrK (ks.map fun k => frA ((adL t []).getD k [])))) [] := by
  have hs := mpStarts_SC t h
  have hsl : ((adL t []).map frA).length = t.c + 1 := by rw [List.length_map, adL_len]
  have hil : (ints ks).length = ks.length := List.length_map ..
  have key := loop_up (P := cfg.P) (np := 2) (c := lb P_spec_mpAt 0) (fun i (cur : List (Int × Int)) => spec_mpAt_L0a (ints ks) ((List.length (ints ks) : Nat) : Int) (i : Int) cur ((adL t []).map frA)) (fun cur => spec_mpAt_L0X1 (ints ks) ((List.length (ints ks) : Nat) : Int) (ks.length : Int) false cur ((adL t []).map frA))
    (fun i cur => cur ++ [frA ((adL t []).getD (ks.getD i 0) [])]) (fun i cur => cur.length ≤ i) ks.length
    (fun i cur hi hI => by
      refine ⟨by simp; omega, fun e' st hn => ?_⟩
      have hg : List.getD (ints ks) ((i : Int)).toNat (0 : Int) = ((ks.getD i 0 : Nat) : Int) := by
        rw [Int.toNat_natCast]; exact getD_mapN _ _ _ hi 0 0
      have hk' := hk _ (getD_mem hi 0)
      have hf : List.getD ((adL t []).map frA) (ks.getD i 0) ((0 : Int), (0 : Int)) = frA ((adL t []).getD (ks.getD i 0) []) := getD_mapN frA _ _ (by rw [adL_len]; omega) [] _
      rw [← wrap_succ (by omega), ← hf, show ks.getD i 0 = (((ks.getD i 0 : Nat) : Int)).toNat from rfl, ← hg] at hn
      exact spec_mpAt_L0a_i1 _ _ _ _ _ (by omega) (by omega) (by omega) (by rw [hg]; omega) (by rw [hg]; omega) (by rw [hg]; omega) (sizeOK_one (by omega)) hn)
    (fun cur _ => spec_mpAt_L0a_x2 _ _ _ _ _ (by omega)) ks.length 0 [] (by omega) (by simp)
  have hL := key.1
  rw [itr_map (fun i => frA ((adL t []).getD (ks.getD i 0) [])), List.nil_append, map_range' ks 0 (fun k => frA ((adL t []).getD k []))] at hL
  exact spec_mpAt_p1 _ _ _ _ _ _ _ _ _ hs hL

/-! ### The fraction at a place -/

/-- A place as a fraction in lowest terms. -/
def frN (s : Nat) : Int × Int := (((s / Nat.gcd s 1099511627776 : Nat) : Int), ((1099511627776 / Nat.gcd s 1099511627776 : Nat) : Int))

theorem fractionAt_L (z : Int × Int) : ∀ (m p : Nat), m ≤ 40 → p ≤ 2 ^ 40 →
    LoopSC cfg.P 1 (lb P_impl_fractionAt 0) (impl_fractionAt_L0a (p : Int) ((2 ^ m : Nat) : Int) z) (.exit 0) (impl_fractionAt_L0X1 ((p / Nat.gcd p (2 ^ m) : Nat) : Int) ((2 ^ m / Nat.gcd p (2 ^ m) : Nat) : Int) false z)
  | 0, p, _, _ => by
    simp only [Nat.pow_zero, Nat.gcd_one_right, Nat.div_one]
    exact impl_fractionAt_L0a_x3 _ _ _ (by omega)
  | m + 1, p, hm, hp => by
    have h40 : 2 ^ (m + 1) ≤ 2 ^ 40 := Nat.pow_le_pow_right (by omega) hm
    have hpos : 0 < 2 ^ m := Nat.pow_pos (by omega)
    have hps : 2 ^ (m + 1) = 2 * 2 ^ m := Nat.pow_succ'
    have ht : Int.tmod (p : Int) 2 = ((p % 2 : Nat) : Int) := rfl
    by_cases h : p % 2 = 0
    · obtain ⟨q, rfl⟩ : ∃ q, p = 2 * q := ⟨p / 2, by omega⟩
      have ih := fractionAt_L z m q (by omega) (by omega)
      have e1 : IntKind.wrap .i64 (Int.tdiv ((2 * q : Nat) : Int) 2) = (q : Int) := by
        have e : Int.tdiv ((2 * q : Nat) : Int) 2 = ((2 * q / 2 : Nat) : Int) := rfl
        rw [e, Nat.mul_div_cancel_left _ (by omega), w64] <;> omega
      have e2 : IntKind.wrap .i64 (Int.tdiv ((2 ^ (m + 1) : Nat) : Int) 2) = ((2 ^ m : Nat) : Int) := by
        rw [hps] at h40 ⊢
        generalize 2 ^ m = r at *
        have e : Int.tdiv ((2 * r : Nat) : Int) 2 = ((2 * r / 2 : Nat) : Int) := rfl
        rw [e, Nat.mul_div_cancel_left _ (by omega), w64] <;> omega
      have hg : Nat.gcd (2 * q) (2 ^ (m + 1)) = 2 * Nat.gcd q (2 ^ m) := by rw [hps, Nat.gcd_mul_left]
      rw [hg, hps, Nat.mul_div_mul_left _ _ (by omega), Nat.mul_div_mul_left _ _ (by omega), ← hps]
      rw [← e1, ← e2] at ih
      exact impl_fractionAt_L0a_i1 _ _ _ (by omega) (by decide) (by rw [ht, h]; rfl) ih
    · have hg : Nat.gcd p (2 ^ (m + 1)) = 1 := by
        refine Nat.Coprime.pow_right (m + 1) ?_
        rw [Nat.coprime_comm, Nat.Coprime, Nat.gcd_rec, show p % 2 = 1 by omega]
        rfl
      rw [hg, Nat.div_one, Nat.div_one]
      exact impl_fractionAt_L0a_x2 _ _ _ (by omega) (by decide) (by rw [ht]; omega)

theorem fractionAt_SC (s : Nat) (h : s ≤ 1099511627776) : ∃ b, SC cfg.P i_impl_fractionAt [.s (.v (.int .i64) (s : Int))] (.tup [.v FrK (frN s), .v .bool b]) [] := by
  have hL := fractionAt_L ((0 : Int), (0 : Int)) 40 s (by omega) (by omega)
  rw [show (2 : Nat) ^ 40 = 1099511627776 from rfl] at hL
  by_cases h2 : ((1099511627776 / Nat.gcd s 1099511627776 : Nat) : Int) ≤ 1024
  · exact ⟨true, impl_fractionAt_p3 _ _ _ _ _ (by omega) (by omega) hL h2⟩
  · exact ⟨false, impl_fractionAt_p4 _ _ _ _ _ (by omega) (by omega) hL h2⟩

theorem frN_plF (a : List UInt8) (ha : a.length ≤ 40) : frN (plF a 1099511627776 0) = frA a := by
  have e := plF_eq a 40 0 ha
  rw [Nat.zero_add] at e
  have h40 : (1099511627776 : Nat) = 2 ^ a.length * 2 ^ (40 - a.length) := by
    rw [← Nat.pow_add, show a.length + (40 - a.length) = 40 by omega]
  rw [show (2 : Nat) ^ 40 = 1099511627776 from rfl] at e
  have hpos : 0 < 2 ^ (40 - a.length) := Nat.pow_pos (by omega)
  rw [frN, e, frA]
  have hg : Nat.gcd (bn a * 2 ^ (40 - a.length)) 1099511627776 = Nat.gcd (bn a) (2 ^ a.length) * 2 ^ (40 - a.length) := by
    rw [h40, Nat.gcd_mul_right]
  rw [hg, Nat.mul_div_mul_right _ _ hpos]
  have h2 : 1099511627776 / (Nat.gcd (bn a) (2 ^ a.length) * 2 ^ (40 - a.length)) = 2 ^ a.length / Nat.gcd (bn a) (2 ^ a.length) := by
    rw [h40, Nat.mul_div_mul_right _ _ hpos]
  rw [h2]

theorem frN_inj {s r : Nat} (h : frN s = frN r) : s = r := by
  rw [frN, frN, Prod.mk.injEq, Int.natCast_inj, Int.natCast_inj] at h
  obtain ⟨h1, h2⟩ := h
  have gs : 0 < Nat.gcd s 1099511627776 := Nat.gcd_pos_of_pos_right _ (by omega)
  have gr : 0 < Nat.gcd r 1099511627776 := Nat.gcd_pos_of_pos_right _ (by omega)
  have d1 := Nat.div_mul_cancel (Nat.gcd_dvd_left s 1099511627776)
  have d2 := Nat.div_mul_cancel (Nat.gcd_dvd_left r 1099511627776)
  have d3 := Nat.div_mul_cancel (Nat.gcd_dvd_right s 1099511627776)
  have d4 := Nat.div_mul_cancel (Nat.gcd_dvd_right r 1099511627776)
  have hpos : 0 < 1099511627776 / Nat.gcd r 1099511627776 := Nat.div_pos (Nat.gcd_le_right _ (by omega)) gr
  have hg : Nat.gcd s 1099511627776 = Nat.gcd r 1099511627776 := by
    apply Nat.eq_of_mul_eq_mul_left hpos
    rw [d4, ← h2, d3]
  rw [← d1, ← d2, h1, hg]

theorem stA_lt (t : Tr) (h : t.c ≤ 40) (k : Nat) (hk : k < t.c + 1) : stA t k < 1099511627776 := by
  have := ad_get_len t k hk
  exact (iv_le _ (by omega)).1

theorem frN_stA (t : Tr) (h : t.c ≤ 40) (k : Nat) (hk : k < t.c + 1) : frN (stA t k) = frA ((adL t []).getD k []) := by
  have := ad_get_len t k hk
  exact frN_plF _ (by omega)

theorem brkP_get (t u : Tr) (e : t.c = u.c) (i : Nat) (hi : i < (brk t u).length) :
    List.getD (brkP t u) ((i : Int)).toNat pc0 = pc ((adL t []).getD ((brk t u).getD i 0) []) ((adL u []).getD ((brk t u).getD i 0) []) := by
  rw [Int.toNat_natCast, getD_mapN (fun k => List.getD (piecesL t u) k pc0) (brk t u) i hi 0, piecesL_get t u e _ (brk_mem (getD_mem hi 0)).2]

end Go.AI
