/- The law of CarrierOf. -/
import Derived.Test.YtlhkdglakjkpiaaCCr
set_option autoImplicit false
set_option maxRecDepth 100000
set_option linter.unusedVariables false
namespace Go.AI
open Go.Proofs

/-- What the search wants of a fraction. -/
structure Fr2 (n d m : Nat) : Prop where
  hd : d = 2 ^ m
  hm : m ≤ 10
  hn : n < d
  hp : pow2 d = true
  ho : n % 2 = 1

theorem Fr2.d1 {n d m : Nat} (h : Fr2 n d m) : 1 ≤ d ∧ d ≤ 1024 := by
  rw [h.hd]
  exact ⟨Nat.pow_pos (by decide), Nat.pow_le_pow_right (by decide) h.hm⟩

theorem Fr2.x {n d m : Nat} (h : Fr2 n d m) : plc n d = n * 2 ^ (40 - m) ∧ plc n d < 1099511627776 := by
  have e : plc n d = n * 2 ^ (40 - m) := by
    unfold plc
    rw [h.hd, grain_div (by have := h.hm; omega)]
  refine ⟨e, ?_⟩
  have h1 := h.hn
  rw [h.hd] at h1
  have h2 : n * 2 ^ (40 - m) < 2 ^ m * 2 ^ (40 - m) := Nat.mul_lt_mul_of_pos_right h1 (Nat.pow_pos (by decide))
  rw [← Nat.pow_add, show m + (40 - m) = 40 by have := h.hm; omega] at h2
  omega

theorem fr2_of {x : Int × Int} (h : goodF x = true) (h1 : x.2 ≠ 1) : ∃ n d m : Nat, x = ((n : Int), (d : Int)) ∧ Fr2 n d m := by
  obtain ⟨n, d, e, g1, g2, g3, g4, g5⟩ := goodF_nat' h
  obtain ⟨m, hm, e2⟩ := pow2_ex g2 g4
  rw [e] at h1
  simp only at h1
  have hd : d ≠ 1 := by omega
  have ho : n % 2 = 1 := by omega
  refine ⟨n, d, m, e, e2, hm, ?_, g4, ho⟩
  by_cases hn : n = d
  · have hm0 : m ≠ 0 := by intro e0; rw [e0] at e2; omega
    obtain ⟨k, rfl⟩ : ∃ k, m = k + 1 := ⟨m - 1, by omega⟩
    rw [Nat.pow_succ] at e2
    omega
  · omega

theorem lfA_nil (t : Tr) (x : Nat) : lfA t [] x = leafAt t x := rfl

/-- The tree and its leaf. -/
def stT (n d m : Nat) : Tr := sT (plc n d) m []

theorem stT_c {n d m : Nat} (h : Fr2 n d m) : (stT n d m).c ≤ 10 := by
  have := sT_c (plc n d) m [] (by have := h.hm; simp; omega)
  have := h.hm
  unfold stT; omega

theorem root_iv : (iv []).2 = 1099511627776 := rfl

/-- At the end a leaf begins at the place. -/
theorem stT_at {n d m : Nat} (h : Fr2 n d m) : stA (stT n d m) (leafAt (stT n d m) (plc n d)) = plc n d := by
  obtain ⟨e, hx⟩ := h.x
  have hm := h.hm
  have st := sT_step (plc n d) m [] (by simp; omega) (Nat.zero_le _) (by rw [root_iv]; exact hx)
  simp only [lfA_nil] at st
  obtain ⟨a1, a2, a3, a4⟩ := st
  by_cases hp : pl ((adL (sT (plc n d) m []) []).getD (leafAt (sT (plc n d) m []) (plc n d)) []) = plc n d
  · exact hp
  · exact absurd (no_inside (by omega) ⟨n, e⟩ (by have := (a4 hp).1; simpa using this) a1 a2) hp

theorem obStart_SC {n d m : Nat} (h : Fr2 n d m) : SC cfg.P i_spec_obStart [.s (.v FrK ((n : Int), (d : Int)))] (.tup [.v .str (bs (txt (stT n d m))), .v (.int .i64) ((leafAt (stT n d m) (plc n d) : Nat) : Int)]) [] := by
  obtain ⟨e, hx⟩ := h.x
  obtain ⟨d1, d2⟩ := h.d1
  have hm := h.hm
  have hn := h.hn
  have key : ∀ (j k : Nat), k + j = m →
      LoopSC cfg.P 1 (lb P_spec_obStart 0) (spec_obStart_L0a (bs (txt (sT (plc n d) k []))) ((n : Int), (d : Int))) .ret (spec_obStart_L0X1 (bs (txt (stT n d m))) ((leafAt (stT n d m) (plc n d) : Nat) : Int)) := by
    intro j
    induction j with
    | zero =>
      intro k hk
      have ek : k = m := by omega
      subst ek
      have hc := stT_c h
      have hat := stT_at h
      have h1 := mpStarts_SC (stT n d k) (by omega)
      have h2 := mpLeaf_SC (stT n d k) (by omega) n d d1 d2 (by omega) h.hp
      have hlf := leafAt_lt (stT n d k) (plc n d)
      have la := adL_len (stT n d k) []
      have hg : List.getD ((adL (stT n d k) []).map frA) (((leafAt (stT n d k) (plc n d) : Nat) : Int)).toNat ((0 : Int), (0 : Int)) = ((n : Int), (d : Int)) := by
        rw [Int.toNat_natCast, getD_mapN frA _ _ (by omega) [] _]
        exact (frA_eq_iff n d d2 h.hp (.inr h.ho) _ (by have := ad_get_len (stT n d k) _ hlf; omega)).2 hat
      exact spec_obStart_L0a_x1 _ _ _ _ h1.view h2 (by omega) (by rw [List.length_map]; omega) (by rw [hg]; simp)
    | succ j ih =>
      intro k hk
      have hc := sT_c (plc n d) k [] (by simp; omega)
      have st := sT_step (plc n d) k [] (by simp; omega) (Nat.zero_le _) (by rw [root_iv]; exact hx)
      simp only [lfA_nil] at st
      obtain ⟨a1, a2, a3, a4⟩ := st
      have h1 := mpStarts_SC (sT (plc n d) k []) (by omega)
      have h2 := mpLeaf_SC (sT (plc n d) k []) (by omega) n d d1 d2 (by omega) h.hp
      have hlf := leafAt_lt (sT (plc n d) k []) (plc n d)
      have la := adL_len (sT (plc n d) k []) []
      have hg : List.getD ((adL (sT (plc n d) k []) []).map frA) (((leafAt (sT (plc n d) k []) (plc n d) : Nat) : Int)).toNat ((0 : Int), (0 : Int)) = frA ((adL (sT (plc n d) k []) []).getD (leafAt (sT (plc n d) k []) (plc n d)) []) := by
        rw [Int.toNat_natCast, getD_mapN frA _ _ (by omega) [] _]
      have hiff := frA_eq_iff n d d2 h.hp (.inr h.ho) ((adL (sT (plc n d) k []) []).getD (leafAt (sT (plc n d) k []) (plc n d)) []) (by have := ad_get_len (sT (plc n d) k []) _ hlf; omega)
      by_cases hp : pl ((adL (sT (plc n d) k []) []).getD (leafAt (sT (plc n d) k []) (plc n d)) []) = plc n d
      · have es : stT n d m = sT (plc n d) k [] := a3 hp m (by omega) (by simp; omega)
        rw [es]
        exact spec_obStart_L0a_x1 _ _ _ _ h1.view h2 (by omega) (by rw [List.length_map]; omega) (by rw [hg, hiff.2 hp]; simp)
      · obtain ⟨b1, b2⟩ := a4 hp
        have h3 := trGraft_SC (sT (plc n d) k []) (leafAt (sT (plc n d) k []) (plc n d)) cr (by omega) (by omega) (by decide)
        rw [b2] at h3
        have hne : ((frA ((adL (sT (plc n d) k []) []).getD (leafAt (sT (plc n d) k []) (plc n d)) [])).1 == (n : Int) && (frA ((adL (sT (plc n d) k []) []).getD (leafAt (sT (plc n d) k []) (plc n d)) [])).2 == (d : Int)) = false := by
          rw [Bool.eq_false_iff]
          intro g
          rw [Bool.and_eq_true, beq_iff_eq, beq_iff_eq] at g
          exact hp (hiff.1 (Prod.ext g.1 g.2))
        exact spec_obStart_L0a_i2 _ _ _ _ _ h1.view h2 (by omega) (by rw [List.length_map]; omega) (by rw [hg]; exact hne) h3 (ih (k + 1) (by omega))
  exact spec_obStart_p1 _ _ _ (key m 0 (by omega))

theorem isBetween_SC (x : Int × Int) : SC cfg.P i_impl_isBetween [.s (.v FrK x)] (.s (.v .bool (goodF x && decide (x.2 ≠ 1)))) [] := by
  have h1 := isFraction_SC x
  cases h : goodF x with
  | false => rw [h] at h1; exact impl_isBetween_p3 _ h1
  | true =>
    rw [h] at h1
    obtain ⟨n, d, rfl, g1, _⟩ := goodF_nat h
    by_cases e : ((d : Nat) : Int) = 1
    · rw [decide_eq_false (by simpa using e)]
      exact impl_isBetween_p2 _ h1 (by show ¬ ((d : Int) > 1); omega)
    · rw [decide_eq_true (by simpa using e)]
      exact impl_isBetween_p1 _ h1 (by show ((d : Int) > 1); omega)

theorem most_SC (a : Nat) (z : Int) (h : (a : Int) = if z > 0 then z else 0) : SC cfg.P i_spec_l1Most [.s (.v (.int .i64) (0 : Int)), .s (.v (.int .i64) z)] (.s (.v (.int .i64) (a : Int))) [] := by
  rw [h]
  by_cases g : (0 : Int) > z
  · rw [if_neg (by omega)]; exact spec_l1Most_p1 _ _ g
  · by_cases g2 : z > 0
    · rw [if_pos g2]; exact spec_l1Most_p2 _ _ g
    · rw [if_neg g2]
      have e : z = 0 := by omega
      subst e
      exact spec_l1Most_p2 _ _ g

/-- The pair of two trees and the leaves that begin at the places. -/
def carT (a b : Tr) (i j : Nat) : Tr × Tr :=
  (padT a (combR (j - i)) (combR ((b.c - j) - (a.c - i))), padT b (combR (i - j)) (combR ((a.c - i) - (b.c - j))))

theorem carT_c (a b : Tr) (i j : Nat) (hi : i ≤ a.c) (hj : j ≤ b.c) : (carT a b i j).1.c = (carT a b i j).2.c ∧ (carT a b i j).1.c ≤ a.c + b.c + b.c := by
  unfold carT
  simp only [padT_c, combR_c]
  omega

def carV (a b : Tr) (i j : Nat) : Tr × Tr := red (carT a b i j).1.c (carT a b i j)

theorem car_both (x y : Int × Int) : ∃ V B, SC cfg.P i_impl_CarrierOf [.s (.v FrK x), .s (.v FrK y)] (.tup [.v (.pr .str .str) V, .v .bool B]) [] ∧ SC cfg.P i_spec_CarrierOf [.s (.v FrK x), .s (.v FrK y)] (.tup [.v (.pr .str .str) V, .v .bool B]) [] := by
  have b1 := isBetween_SC x
  have b2 := isBetween_SC y
  have g1 := mpGood_SC x
  have g2 := mpGood_SC y
  cases e1 : goodF x with
  | false =>
    rw [e1] at b1 g1
    exact ⟨_, _, impl_CarrierOf_p3 _ _ b1, spec_CarrierOf_p5 _ _ g1⟩
  | true =>
    rw [e1, Bool.true_and] at b1
    rw [e1] at g1
    cases e2 : goodF y with
    | false =>
      rw [e2] at b2 g2
      by_cases h1 : x.2 = 1
      · rw [decide_eq_false (by simpa using h1)] at b1
        exact ⟨_, _, impl_CarrierOf_p3 _ _ b1, spec_CarrierOf_p4 _ _ g1 g2⟩
      · rw [decide_eq_true h1] at b1
        exact ⟨_, _, impl_CarrierOf_p2 _ _ b1 b2, spec_CarrierOf_p4 _ _ g1 g2⟩
    | true =>
      rw [e2, Bool.true_and] at b2
      rw [e2] at g2
      by_cases h1 : x.2 = 1
      · rw [decide_eq_false (by simpa using h1)] at b1
        exact ⟨_, _, impl_CarrierOf_p3 _ _ b1, spec_CarrierOf_p1 _ _ g1 g2 h1⟩
      rw [decide_eq_true h1] at b1
      by_cases h2 : y.2 = 1
      · rw [decide_eq_false (by simpa using h2)] at b2
        exact ⟨_, _, impl_CarrierOf_p2 _ _ b1 b2, spec_CarrierOf_p2 _ _ g1 g2 h1 h2⟩
      rw [decide_eq_true h2] at b2
      obtain ⟨n, d, m, rfl, f1⟩ := fr2_of e1 h1
      obtain ⟨k, c, l, rfl, f2⟩ := fr2_of e2 h2
      have fm1 := f1.hm
      have fm2 := f2.hm
      have p1 := place_SC n d f1.d1.1 f1.d1.2 (by have := f1.hn; omega)
      have p2 := place_SC k c f2.d1.1 f2.d1.2 (by have := f2.hn; omega)
      have s1 := starting_SC (x := plc n d) (m := m) (by omega) ⟨n, f1.x.1⟩ m [] (by simp)
      have s2 := starting_SC (x := plc k c) (m := l) (by omega) ⟨k, f2.x.1⟩ l [] (by simp)
      have c1 := stT_c f1
      have c2 := stT_c f2
      have l1 := leafAt_lt (stT n d m) (plc n d)
      have l2 := leafAt_lt (stT k c l) (plc k c)
      have d1 := sides_SC (stT n d m) (by omega) (leafAt (stT n d m) (plc n d)) (by omega)
      have d2 := sides_SC (stT k c l) (by omega) (leafAt (stT k c l) (plc k c)) (by omega)
      rw [stT_at f1] at d1
      rw [stT_at f2] at d2
      have o1 := obStart_SC f1
      have o2 := obStart_SC f2
      have z1 : 0 < (stT n d m).c := by
        have h0 := stT_at f1
        by_cases hz : (stT n d m).c = 0
        · have e0 : leafAt (stT n d m) (plc n d) = 0 := by omega
          rw [e0, stA_zero _ (by omega)] at h0
          have := f1.ho
          have hx := f1.x.1
          rw [← h0] at hx
          have hpos : 0 < n * 2 ^ (40 - m) := Nat.mul_pos (by omega) (Nat.pow_pos (by decide))
          omega
        · omega
      have z2 : 0 < (stT k c l).c := by
        have h0 := stT_at f2
        by_cases hz : (stT k c l).c = 0
        · have e0 : leafAt (stT k c l) (plc k c) = 0 := by omega
          rw [e0, stA_zero _ (by omega)] at h0
          have := f2.ho
          have hx := f2.x.1
          rw [← h0] at hx
          have hpos : 0 < k * 2 ^ (40 - l) := Nat.mul_pos (by omega) (Nat.pow_pos (by decide))
          omega
        · omega
      generalize hi : leafAt (stT n d m) (plc n d) = i at *
      generalize hj : leafAt (stT k c l) (plc k c) = j at *
      change SC cfg.P i_impl_starting _ (.s (.v .tree (stT n d m))) [] at s1
      change SC cfg.P i_impl_starting _ (.s (.v .tree (stT k c l))) [] at s2
      generalize stT n d m = a at *
      generalize stT k c l = b at *
      have hcc := carT_c a b i j (by omega) (by omega)
      have hr := reduced_SC (carT a b i j) (by omega) (by omega)
      have hrc := red_c (carT a b i j).1.c (carT a b i j)
      have hf := fits_SC (carV a b i j) (by unfold carV; omega) (by unfold carV; omega)
      have hre := redE (carT a b i j).1.c (carT a b i j) hcc.1
      have hpr := prReduce_SC (carT a b i j) (by omega) (by omega)
      have hpi := prIf_SC (carV a b i j) hre (by unfold carV; omega)
      have q1 := padded_SC a (j - i) ((b.c - j) - (a.c - i)) z1 (by omega) (by omega) (by omega)
      have q2 := padded_SC b (i - j) ((a.c - i) - (b.c - j)) z2 (by omega) (by omega) (by omega)
      have mx : ∀ (u v : Nat), u ≤ 100 → v ≤ 100 → maxI 0 (IntKind.wrap .i64 ((u : Int) - (v : Int))) = ((u - v : Nat) : Int) := fun u v hu hv => by
        rw [w64 (by omega) (by omega)]
        unfold maxI
        split <;> omega
      have m1 := mx j i (by omega) (by omega)
      have m2 := mx (b.c - j) (a.c - i) (by omega) (by omega)
      have m3 := mx i j (by omega) (by omega)
      have m4 := mx (a.c - i) (b.c - j) (by omega) (by omega)
      rw [← m1, ← m2] at q1
      rw [← m3, ← m4] at q2
      rw [m1, m2] at q1
      rw [m3, m4] at q2
      have I : SC cfg.P i_impl_CarrierOf [.s (.v FrK ((n : Int), (d : Int))), .s (.v FrK ((k : Int), (c : Int)))] (.tup [.v (.pr .str .str) (fitV (carV a b i j)), .v .bool (decide ((carV a b i j).1.c ≤ 8))]) [] :=
        impl_CarrierOf_p1 _ _ _ _ _ _ _ _ _ _ _ _ _ _ _ _ _ b1 b2 p1 s1 p2 s2 p1 d1 p2 d2 (by rw [m1, m2]; exact q1) (by rw [m3, m4]; exact q2) hr hf
      refine ⟨_, _, I, ?_⟩
      have tc : ∀ t : Tr, t.c ≤ 20 → SC cfg.P i_spec_trCarets [.s (.v .str (bs (txt t)))] (.s (.v (.int .i64) (t.c : Int))) [] := fun t ht => by
        have := trCarets_SC (txt t) (by have := txt_len t; omega)
        rw [txt_count] at this
        exact this
      have wd : ∀ (u v : Nat), u ≤ 20 → v ≤ u → IntKind.wrap .i64 (IntKind.wrap .i64 ((u : Int) + 1) - (v : Int)) = ((u + 1 - v : Nat) : Int) := fun u v hu hv => by
        rw [w64 (n := (u : Int) + 1) (by omega) (by omega), w64] <;> omega
      have ra : (rm a (combR ((b.c - j) - (a.c - i)))).c = a.c + ((b.c - j) - (a.c - i)) := by rw [rm_c, combR_c]
      have rb : (rm b (combR ((a.c - i) - (b.c - j)))).c = b.c + ((a.c - i) - (b.c - j)) := by rw [rm_c, combR_c]
      have k10 := trGraft_SC a a.c (combR ((b.c - j) - (a.c - i))) (Nat.le_refl _) (by omega) (by rw [combR_c]; omega)
      have k14 := trGraft_SC b b.c (combR ((a.c - i) - (b.c - j))) (Nat.le_refl _) (by omega) (by rw [combR_c]; omega)
      have k17 := trGraft_SC (rm a (combR ((b.c - j) - (a.c - i)))) 0 (combR (j - i)) (Nat.zero_le _) (by omega) (by rw [combR_c]; omega)
      have k20 := trGraft_SC (rm b (combR ((a.c - i) - (b.c - j)))) 0 (combR (i - j)) (Nat.zero_le _) (by omega) (by rw [combR_c]; omega)
      have n8 := most_SC ((b.c - j) - (a.c - i)) (IntKind.wrap .i64 (IntKind.wrap .i64 (IntKind.wrap .i64 ((b.c : Int) + 1) - (j : Int)) - IntKind.wrap .i64 (IntKind.wrap .i64 ((a.c : Int) + 1) - (i : Int)))) (by
        rw [wd b.c j (by omega) (by omega), wd a.c i (by omega) (by omega), w64 (by omega) (by omega)]
        split <;> omega)
      have n12 := most_SC ((a.c - i) - (b.c - j)) (IntKind.wrap .i64 (IntKind.wrap .i64 (IntKind.wrap .i64 ((a.c : Int) + 1) - (i : Int)) - IntKind.wrap .i64 (IntKind.wrap .i64 ((b.c : Int) + 1) - (j : Int)))) (by
        rw [wd b.c j (by omega) (by omega), wd a.c i (by omega) (by omega), w64 (by omega) (by omega)]
        split <;> omega)
      have n15 := most_SC (j - i) (IntKind.wrap .i64 ((j : Int) - (i : Int))) (by
        rw [w64 (by omega) (by omega)]
        split <;> omega)
      have n18 := most_SC (i - j) (IntKind.wrap .i64 ((i : Int) - (j : Int))) (by
        rw [w64 (by omega) (by omega)]
        split <;> omega)
      exact spec_CarrierOf_p3 _ _ _ _ _ _ _ _ _ _ _ _ _ _ _ _ _ _ _ _ _ _ _ _ _ g1 g2 h1 h2 o1 o2 (tc a (by omega)) (tc b (by omega)) (tc a (by omega)) n8 (trRight_SC _ (by omega)) k10 (tc b (by omega)) n12 (trRight_SC _ (by omega)) k14 n15 (trRight_SC _ (by omega)) k17 n18 (trRight_SC _ (by omega)) k20 hpr hpi

/-- The law of CarrierOf. -/
theorem law_Car (x y : Int × Int) :
    SC cfg.P i_laws_FnExactCarrierOf [.s (.v FrK x), .s (.v FrK y)] (.s (.v .bool true)) [] := by
  obtain ⟨V, B, hI, hS⟩ := car_both x y
  exact laws_FnExactCarrierOf_p1 _ _ _ _ _ _ _ _ _ _ (laws_toFraction_p1 _) (laws_toFraction_p1 _) hS (laws_toFraction_p1 _) (laws_toFraction_p1 _) hI (eqPair_SC _) (by simp)

end Go.AI
