/- The law of ApartCommute. -/
import Derived.Test.YtnhjfdkogbelaaaJH
import Derived.Test.YtnhjfdkogbelaaaJI
import Derived.Test.YtnhjfdkogbelaaaJJ
import Derived.Test.YtnhjfdkogbelaaaGL
import Derived.Test.YtnhjfdkogbelaaaAiH
set_option autoImplicit false
set_option maxRecDepth 100000
set_option linter.unusedVariables false
namespace Go.AI
open Go.Proofs

theorem nbeq (b : Bool) : (!(b == b)) = false := by simp

theorem apart_SC {n : Nat} {c : Cur} (h : CurOk n c) (hn : n ≤ 2 ^ 20) : ∃ (a b e f : List UInt8) (c' : Cur), a.length ≤ 2 ^ 12 ∧ b.length ≤ 2 ^ 12 ∧ e.length ≤ 2 ^ 12 ∧ f.length ≤ 2 ^ 12 ∧
    SC cfg.P i_spec_l1Cur_apart [.s (.mbx CurK c)] (.tup [.v (.pr .str .str) (bs a, bs b), .v (.pr .str .str) (bs e, bs f)]) [.box CurK c'] := by
  obtain ⟨a, b, c1, ha, hb, h1, s1⟩ := pair_SC h (by omega) 3 (by omega)
  obtain ⟨e, f, c2, he, hf, h2, s2⟩ := pair_SC h1 (by omega) 3 (by omega)
  obtain ⟨a, rfl⟩ := bs_ex a
  obtain ⟨b, rfl⟩ := bs_ex b
  obtain ⟨e, rfl⟩ := bs_ex e
  obtain ⟨f, rfl⟩ := bs_ex f
  rw [bs_size] at ha hb he hf
  have g1 := prGood_SC a b (by omega) (by omega)
  have g2 := prGood_SC e f (by omega) (by omega)
  cases c1' : isPair a b with
  | false =>
    rw [c1'] at g1
    exact ⟨a, b, e, f, _, by omega, by omega, by omega, by omega, spec_l1Cur_apart_p4 _ _ _ _ _ s1 s2 g1⟩
  | true =>
    rw [c1'] at g1
    cases c2' : isPair e f with
    | false =>
      rw [c2'] at g2
      exact ⟨a, b, e, f, _, by omega, by omega, by omega, by omega, spec_l1Cur_apart_p3 _ _ _ _ _ s1 s2 g1 g2⟩
    | true =>
      rw [c2'] at g2
      obtain ⟨x, c3, h3, s3⟩ := one_SC h2 (by omega) 2 (by omega)
      cases x with
      | false => exact ⟨a, b, e, f, _, by omega, by omega, by omega, by omega, spec_l1Cur_apart_p2 _ _ _ _ _ _ s1 s2 g1 g2 s3⟩
      | true =>
        obtain ⟨a1, a2, a3, a4, a5⟩ := isPair_trees c1'
        obtain ⟨b1, b2, b3, b4, b5⟩ := isPair_trees c2'
        have cl : Tr.leaf.c = 0 := rfl
        have t1 := trOf_SC (treeOf a) .leaf (by omega) (by omega)
        have t2 := trOf_SC (treeOf b) .leaf (by omega) (by omega)
        have t3 := trOf_SC .leaf (treeOf e) (by omega) (by omega)
        have t4 := trOf_SC .leaf (treeOf f) (by omega) (by omega)
        rw [← a1] at t1
        rw [← a2] at t2
        rw [← b1] at t3
        rw [← b2] at t4
        have l1 := txt_len (.node (treeOf a) .leaf)
        have l2 := txt_len (.node (treeOf b) .leaf)
        have l3 := txt_len (.node .leaf (treeOf e))
        have l4 := txt_len (.node .leaf (treeOf f))
        have n1 : (Tr.node (treeOf a) .leaf).c ≤ 20 := by simp only [Tr.c]; omega
        have n2 : (Tr.node (treeOf b) .leaf).c ≤ 20 := by simp only [Tr.c]; omega
        have n3 : (Tr.node .leaf (treeOf e)).c ≤ 20 := by simp only [Tr.c]; omega
        have n4 : (Tr.node .leaf (treeOf f)).c ≤ 20 := by simp only [Tr.c]; omega
        exact ⟨_, _, _, _, _, by omega, by omega, by omega, by omega, spec_l1Cur_apart_p1 _ _ _ _ _ _ _ _ _ _ s1 s2 g1 g2 s3 t1 t2 t3 t4⟩

theorem drawAp_SC {l : List Int} (h : ∀ x ∈ l, 0 ≤ x ∧ x ≤ 255) (hl : l.length ≤ 2 ^ 20) : ∃ (a b e f : List UInt8), a.length ≤ 2 ^ 12 ∧ b.length ≤ 2 ^ 12 ∧ e.length ≤ 2 ^ 12 ∧ f.length ≤ 2 ^ 12 ∧
    SC cfg.P i_spec_DrawDoCommute [.s (.v (.sl (.int .u8)) l)] (.tup [.v (.pr .str .str) (bs a, bs b), .v (.pr .str .str) (bs e, bs f)]) [] := by
  have hc : CurOk 0 (l, ((0 : Int), (0 : Int))) := ⟨Int.le_refl _, Int.le_refl _, by show l.length ≤ _; omega, h⟩
  obtain ⟨a, b, e, f, c', ha, hb, he, hf, s⟩ := apart_SC hc (by omega)
  exact ⟨a, b, e, f, ha, hb, he, hf, spec_DrawDoCommute_p1 _ _ _ _ s⟩

theorem dcG_comm (a b e f : List UInt8) : dcG e f a b = dcG a b e f := by
  unfold dcG twoB
  rw [Bool.and_comm (isPair e f), Bool.and_assoc, Bool.and_assoc, Bool.and_comm (decide _)]
  simp only [Bool.and_assoc]

theorem dcB_comm (a b e f : List UInt8) : dcB e f a b = dcB a b e f := by
  unfold dcB
  rw [dcG_comm a b e f]
  congr 1
  exact decide_eq_decide.2 ⟨fun h => h.symm, fun h => h.symm⟩

theorem dcG_two {a b e f : List UInt8} (h : dcG a b e f = true) : twoB a b e f = true ∧ (timesT (treeOf a, treeOf b) (treeOf e, treeOf f)).1.c ≤ 8 ∧ (timesT (treeOf e, treeOf f) (treeOf a, treeOf b)).1.c ≤ 8 := by
  unfold dcG at h
  simp only [Bool.and_eq_true, decide_eq_true_eq] at h
  exact ⟨h.1.1, h.1.2, h.2⟩

theorem ac17 (a b e f : List UInt8) (ha : a.length ≤ 2 ^ 12) (hb : b.length ≤ 2 ^ 12) (he : e.length ≤ 2 ^ 12) (hf : f.length ≤ 2 ^ 12) (q : Bool) :
    RestSC cfg.P 2 (rest P_laws_FnApartCommute 17) (laws_FnApartCommute_C17a (dcB a b e f) (dcG a b e f) q (bs a, bs b) (bs e, bs f)) .ret (laws_FnApartCommute_R1 true) := by
  cases g : dcG a b e f with
  | false => exact laws_FnApartCommute_C17a_i3 _ _ _ _ (laws_FnApartCommute_C19a_x1 _ _ _ _)
  | true =>
    obtain ⟨t, k1, k2⟩ := dcG_two g
    have g' : dcG e f a b = true := by rw [dcG_comm]; exact g
    obtain ⟨t', _, _⟩ := dcG_two g'
    have d1 := implDC_SC e f a b (by omega) (by omega) (by omega) (by omega)
    rw [dcB_comm, g'] at d1
    have p1 := implPP_SC a b e f (by omega) (by omega) (by omega) (by omega)
    have p2 := implPP_SC e f a b (by omega) (by omega) (by omega) (by omega)
    have v1 : ppB a b e f = true := by unfold ppB prodP; rw [t, decide_eq_true k1]; rfl
    have v2 : ppB e f a b = true := by unfold ppB prodP; rw [t', decide_eq_true k2]; rfl
    have w1 : ppV a b e f = pt (timesT (treeOf a, treeOf b) (treeOf e, treeOf f)) := by unfold ppV prodP fitV; rw [if_pos t, if_pos k1]
    have w2 : ppV e f a b = pt (timesT (treeOf e, treeOf f) (treeOf a, treeOf b)) := by unfold ppV prodP fitV; rw [if_pos t', if_pos k2]
    rw [v1, w1] at p1
    rw [v2, w2] at p2
    by_cases eq : timesT (treeOf a, treeOf b) (treeOf e, treeOf f) = timesT (treeOf e, treeOf f) (treeOf a, treeOf b)
    · have eB : dcB a b e f = true := by unfold dcB; rw [g, decide_eq_true eq]; rfl
      exact laws_FnApartCommute_C17a_x1 _ _ _ _ _ _ _ d1 p1 p2 rfl (by rw [pt_eq, decide_eq_true eq]) (by rw [eB]; rfl)
    · have eB : dcB a b e f = false := by unfold dcB; rw [g, decide_eq_false eq]; rfl
      exact laws_FnApartCommute_C17a_x2 _ _ _ _ _ _ _ d1 p1 p2 rfl (by rw [pt_eq, decide_eq_false eq]) (by rw [eB]; rfl)

theorem ac12 {l : List Int} (h : ∀ x ∈ l, 0 ≤ x ∧ x ≤ 255) (hl : l.length ≤ 2 ^ 20) (q : Bool) : RestSC cfg.P 2 (rest P_laws_FnApartCommute 12) (laws_FnApartCommute_C12a l q) .ret (laws_FnApartCommute_R1 true) := by
  obtain ⟨a, b, e, f, ha, hb, he, hf, s⟩ := drawAp_SC h hl
  exact laws_FnApartCommute_C12a_i1 _ _ _ _ _ _ _ _ s (implDC_SC a b e f (by omega) (by omega) (by omega) (by omega)) (specDC_SC a b e f (by omega) (by omega) (by omega) (by omega)) (nbeq _) (nbeq _) (ac17 a b e f ha hb he hf _)

theorem ac10 {l : List Int} (h : ∀ x ∈ l, 0 ≤ x ∧ x ≤ 255) (hl : l.length ≤ 2 ^ 20) (x y z q : Bool) (hxy : z = true → x = true → y = true) : RestSC cfg.P 2 (rest P_laws_FnApartCommute 10) (laws_FnApartCommute_C10a l x y z q) .ret (laws_FnApartCommute_R1 true) := by
  cases z with
  | false => exact laws_FnApartCommute_C10a_i3 _ _ _ _ (ac12 h hl _)
  | true =>
    cases x with
    | false => exact laws_FnApartCommute_C10a_i2 _ _ _ (ac12 h hl _)
    | true =>
      have := hxy rfl rfl
      subst this
      exact laws_FnApartCommute_C10a_i1 _ _ (ac12 h hl _)

theorem ac3 {x0 x1 : List Int} (h0 : ∀ x ∈ x0, 0 ≤ x ∧ x ≤ 255) (h1 : ∀ x ∈ x1, 0 ≤ x ∧ x ≤ 255) (l0 : x0.length ≤ 2 ^ 20) (l1 : x1.length ≤ 2 ^ 20) (q : Bool) :
    RestSC cfg.P 2 (rest P_laws_FnApartCommute 3) (laws_FnApartCommute_C3a x0 x1 q) .ret (laws_FnApartCommute_R1 true) := by
  obtain ⟨a, b, e, f, ha, hb, he, hf, s⟩ := drawAp_SC h0 l0
  have sA := spec_DrawAreApart_p1 _ _ _ s
  have a1 := implAA_SC a b e f (by omega) (by omega) (by omega) (by omega)
  have a2 := specAA_SC a b e f (by omega) (by omega) (by omega) (by omega)
  have a3 := implDC_SC a b e f (by omega) (by omega) (by omega) (by omega)
  have a4 := specDC_SC a b e f (by omega) (by omega) (by omega) (by omega)
  cases g : dcG a b e f with
  | false =>
    rw [g] at a3 a4
    exact laws_FnApartCommute_C3a_i2 _ _ _ _ _ _ _ _ _ _ _ _ sA a1 a2 a3 a4 (nbeq _) (nbeq _) (nbeq _) (nbeq _) (ac10 h1 l1 _ _ _ _ (fun e => by cases e))
  | true =>
    rw [g] at a3 a4
    obtain ⟨t, k1, k2⟩ := dcG_two g
    have t2 : (isPair a b && isPair e f) = true := t
    rw [t2] at a1 a2
    refine laws_FnApartCommute_C3a_i1 _ _ _ _ _ _ _ _ _ _ _ sA a1 a2 a3 a4 (nbeq _) (nbeq _) (nbeq _) (nbeq _) (ac10 h1 l1 _ _ _ _ fun _ hx => ?_)
    unfold apB at hx
    rw [if_pos t2, Bool.not_eq_true'] at hx
    rw [Bool.and_eq_true] at t2
    obtain ⟨_, _, b3, b4, b5⟩ := isPair_trees t2.1
    obtain ⟨_, _, d3, d4, d5⟩ := isPair_trees t2.2
    have := apart_commute (treeOf a, treeOf b) (treeOf e, treeOf f) b3 b5 d3 d5 hx
    unfold dcB
    rw [g, decide_eq_true this]
    rfl

/-- The law of ApartCommute. -/
theorem law_Ac (a b : List Int) (_ha : a.length ≤ 2 ^ 63 - 1) (h1 : ∀ n ∈ a, (Lit.int .u8 n).wf = true) (_hb : b.length ≤ 2 ^ 63 - 1) (h2 : ∀ n ∈ b, (Lit.int .u8 n).wf = true) :
    SC cfg.P i_laws_FnApartCommute [.s (.v (.sl (.int .u8)) a), .s (.v (.sl (.int .u8)) b)] (.s (.v .bool true)) [] := by
  by_cases g1 : a.length ≤ 1048576
  · have w : IntKind.wrap .i64 (1048576 - ((a.length : Nat) : Int)) = 1048576 - ((a.length : Nat) : Int) := by rw [w64] <;> omega
    by_cases g2 : a.length + b.length ≤ 1048576
    · have hbig : SC cfg.P i_laws_big [.s (.v (.sl (.int .u8)) a), .s (.v (.sl (.int .u8)) b)] (.s (.v .bool false)) [] := laws_big_p3 _ _ (by omega) (by rw [w]; omega)
      exact laws_FnApartCommute_R1_of _ _ _ (laws_FnApartCommute_C0a_i2 _ _ hbig (ac3 (fun x hx => byte_wf (h1 x hx)) (fun x hx => byte_wf (h2 x hx)) (by omega) (by omega) _))
    · exact laws_FnApartCommute_R1_of _ _ _ (laws_FnApartCommute_C0a_x1 _ _ (laws_big_p2 _ _ (by omega) (by rw [w]; omega)))
  · exact laws_FnApartCommute_R1_of _ _ _ (laws_FnApartCommute_C0a_x1 _ _ (laws_big_p1 _ _ (by omega)))

end Go.AI
