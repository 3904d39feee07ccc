/- The law of AreApart. -/
import Derived.Test.YtlkjnlhpdjbjdaaCmv
set_option autoImplicit false
set_option maxRecDepth 100000
set_option linter.unusedVariables false
namespace Go.AI
open Go.Proofs

theorem obNear (a b : Iv) (ha : small a.1 ∧ small a.2) (hb : small b.1 ∧ small b.2) :
    SC cfg.P i_spec_obLess [.s (.v RK a.1), .s (.v RK b.2)] (.s (.v .bool (rlt a.1 b.2))) [] ∧ SC cfg.P i_spec_obLess [.s (.v RK b.1), .s (.v RK a.2)] (.s (.v .bool (rlt b.1 a.2))) [] :=
  ⟨obLess_SC _ _ ha.1 hb.2, obLess_SC _ _ hb.1 ha.2⟩

theorem spec_in (a : Iv) (ha : small a.1 ∧ small a.2) (l : List Iv) (hl : l.length ≤ 2 ^ 30) (hs : smalls l) (x20 x21 : Int) (xo3 : ByteArray × ByteArray) (xo19 : List (List Rt)) : ∀ (m i : Nat), l.length - i = m → i ≤ l.length → (∀ j (h : j < i) (h' : j < l.length), meet a l[j] = false) →
    (l.any (meet a) = true ∧ LoopSC cfg.P 2 (lb P_spec_AreApart 1) (spec_AreApart_L1a [a.1, a.2] x20 x21 ((List.length (ivL l) : Nat) : Int) (i : Int) xo3 xo19 (ivL l)) (.ret) (spec_AreApart_L1X1 false true)) ∨
    (l.any (meet a) = false ∧ LoopSC cfg.P 2 (lb P_spec_AreApart 1) (spec_AreApart_L1a [a.1, a.2] x20 x21 ((List.length (ivL l) : Nat) : Int) (i : Int) xo3 xo19 (ivL l)) (.exit 2) (spec_AreApart_L1X2 [a.1, a.2] x20 x21 ((List.length (ivL l) : Nat) : Int) (l.length : Int) false xo3 xo19 (ivL l))) := by
  have lL : List.length (ivL l) = l.length := List.length_map ..
  intro m
  induction m with
  | zero =>
    intro i hm hi hj
    have e : i = l.length := by omega
    subst e
    refine .inr ⟨?_, spec_AreApart_L1a_x4 _ _ _ _ _ _ _ _ (by rw [lL]; omega)⟩
    rw [List.any_eq_false]
    intro x hx
    obtain ⟨j, hj', rfl⟩ := List.mem_iff_getElem.1 hx
    rw [hj j hj' hj']; exact Bool.false_ne_true
  | succ m ih =>
    intro i hm hi hj
    have hlt : i < l.length := by omega
    obtain ⟨l1, l2⟩ := obNear a l[i] ha (hs l[i] (List.getElem_mem hlt))
    have g := iv_getD l i hlt
    have e2 : ((i + 1 : Nat) : Int) = IntKind.wrap .i64 ((i : Int) + 1) := by rw [w64 (by omega) (by omega)]; omega
    have on : meet a l[i] = false → ∀ (e : AEx) (st : St), LoopSC cfg.P 2 (lb P_spec_AreApart 1) (spec_AreApart_L1a [a.1, a.2] x20 x21 ((List.length (ivL l) : Nat) : Int) ((i + 1 : Nat) : Int) xo3 xo19 (ivL l)) e st → LoopSC cfg.P 2 (lb P_spec_AreApart 1) (spec_AreApart_L1a [a.1, a.2] x20 x21 ((List.length (ivL l) : Nat) : Int) (i : Int) xo3 xo19 (ivL l)) e st := fun c e st h => by
      rw [e2] at h
      unfold meet at c
      cases k1 : rlt a.1 l[i].2
      · rw [k1] at l1
        exact spec_AreApart_L1a_i3 _ _ _ _ _ _ _ _ (by rw [lL]; omega) (by omega) (by rw [lL]; omega) (by rw [lL]; omega) (l2p0 _ _) (by rw [Int.toNat_natCast, g]; exact l2p1 _ _) (by rw [Int.toNat_natCast, g]; exact l1) h
      · rw [k1] at l1 c
        rw [Bool.true_and] at c
        rw [c] at l2
        exact spec_AreApart_L1a_i2 _ _ _ _ _ _ _ _ (by rw [lL]; omega) (by omega) (by rw [lL]; omega) (by rw [lL]; omega) (l2p0 _ _) (by rw [Int.toNat_natCast, g]; exact l2p1 _ _) (by rw [Int.toNat_natCast, g]; exact l1) (by rw [Int.toNat_natCast, g]; exact l2p0 _ _) (l2p1 _ _) (by rw [Int.toNat_natCast, g]; exact l2) h
    cases c : meet a l[i]
    · rcases ih (i + 1) (by omega) (by omega) (fun j h h' => by
        by_cases e : j = i
        · subst e; exact c
        · exact hj j (by omega) h') with ⟨h1, h2⟩ | ⟨h1, h2⟩
      · exact .inl ⟨h1, on c _ _ h2⟩
      · exact .inr ⟨h1, on c _ _ h2⟩
    · refine .inl ⟨List.any_eq_true.2 ⟨l[i], List.getElem_mem hlt, c⟩, ?_⟩
      unfold meet at c
      rw [Bool.and_eq_true] at c
      rw [c.1] at l1
      rw [c.2] at l2
      exact spec_AreApart_L1a_x1 _ _ _ _ _ _ _ _ (by rw [lL]; omega) (by omega) (by rw [lL]; omega) (by rw [lL]; omega) (l2p0 _ _) (by rw [Int.toNat_natCast, g]; exact l2p1 _ _) (by rw [Int.toNat_natCast, g]; exact l1) (by rw [Int.toNat_natCast, g]; exact l2p0 _ _) (l2p1 _ _) (by rw [Int.toNat_natCast, g]; exact l2)

theorem spec_out (q : PT) (h1 : q.1.c ≤ 8) (h2 : q.1.c = q.2.c) (l : List Iv) (hl : l.length ≤ 2 ^ 30) (hs : smalls l) : ∀ (m i : Nat), l.length - i = m → i ≤ l.length → (∀ j (h : j < i) (h' : j < l.length), (mvP q).any (meet l[j]) = false) →
    (l.any (fun a => (mvP q).any (meet a)) = true ∧ LoopSC cfg.P 2 (lb P_spec_AreApart 0) (spec_AreApart_L0a ((List.length (ivL l) : Nat) : Int) (i : Int) (bs (txt q.1), bs (txt q.2)) (ivL l)) (.ret) (spec_AreApart_L0X1 false true)) ∨
    (l.any (fun a => (mvP q).any (meet a)) = false ∧ LoopSC cfg.P 2 (lb P_spec_AreApart 0) (spec_AreApart_L0a ((List.length (ivL l) : Nat) : Int) (i : Int) (bs (txt q.1), bs (txt q.2)) (ivL l)) (.exit 0) (spec_AreApart_L0X2 ((List.length (ivL l) : Nat) : Int) (l.length : Int) false (bs (txt q.1), bs (txt q.2)) (ivL l))) := by
  have lL : List.length (ivL l) = l.length := List.length_map ..
  intro m
  induction m with
  | zero =>
    intro i hm hi hj
    have e : i = l.length := by omega
    subst e
    refine .inr ⟨?_, spec_AreApart_L0a_x3 _ _ _ _ (by rw [lL]; omega)⟩
    rw [List.any_eq_false]
    intro x hx
    obtain ⟨j, hj', rfl⟩ := List.mem_iff_getElem.1 hx
    rw [hj j hj' hj']; exact Bool.false_ne_true
  | succ m ih =>
    intro i hm hi hj
    have hlt : i < l.length := by omega
    have g := iv_getD l i hlt
    have e2 : ((i + 1 : Nat) : Int) = IntKind.wrap .i64 ((i : Int) + 1) := by rw [w64 (by omega) (by omega)]; omega
    have hM := obMoved_SC q h1 h2
    rcases spec_in l[i] (hs _ (List.getElem_mem hlt)) (mvP q) (mvP_len q h1) (smalls_mvL (smalls_fxL q h1 h2)) ((List.length (ivL l) : Nat) : Int) (i : Int) (bs (txt q.1), bs (txt q.2)) (ivL l) (mvP q).length 0 rfl (by omega) (fun j h _ => absurd h (by omega)) with ⟨c, hi2⟩ | ⟨c, hi2⟩
    · refine .inl ⟨List.any_eq_true.2 ⟨l[i], List.getElem_mem hlt, c⟩, ?_⟩
      exact spec_AreApart_L0a_x1 _ _ _ _ _ _ _ (by rw [lL]; omega) (by omega) (by rw [lL]; omega) (by rw [lL]; omega) hM (by rw [Int.toNat_natCast, g]; exact hi2)
    · have step := fun (e : AEx) (st : St) => spec_AreApart_L0a_i2 ((List.length (ivL l) : Nat) : Int) (i : Int) (bs (txt q.1), bs (txt q.2)) (ivL l) _ _ _ _ _ _ _ _ _ _ (by rw [lL]; omega) (by omega) (by rw [lL]; omega) (by rw [lL]; omega) hM (by rw [Int.toNat_natCast, g]; exact hi2) (e := e) (st := st)
      rw [← e2] at step
      rcases ih (i + 1) (by omega) (by omega) (fun j h h' => by
        by_cases e : j = i
        · subst e; exact c
        · exact hj j (by omega) h') with ⟨h1, h2⟩ | ⟨h1, h2⟩
      · exact .inl ⟨h1, step _ _ h2⟩
      · exact .inr ⟨h1, step _ _ h2⟩

theorem specAA_SC (a b e f : List UInt8) (ha : a.length ≤ 2 ^ 40) (hb : b.length ≤ 2 ^ 40) (he : e.length ≤ 2 ^ 40) (hf : f.length ≤ 2 ^ 40) :
    SC cfg.P i_spec_AreApart [.s (.v (.pr .str .str) (bs a, bs b)), .s (.v (.pr .str .str) (bs e, bs f))] (.tup [.v .bool (apB a b e f), .v .bool (isPair a b && isPair e f)]) [] := by
  have g1 := prGood_SC a b ha hb
  have g2 := prGood_SC e f he hf
  unfold apB
  cases c1 : isPair a b
  · rw [c1] at g1
    exact spec_AreApart_p4 _ _ g1
  · rw [c1] at g1
    cases c2 : isPair e f
    · rw [c2] at g2
      exact spec_AreApart_p3 _ _ g1 g2
    · rw [c2] at g2
      obtain ⟨a1, a2, a3, a4, a5⟩ := isPair_trees c1
      obtain ⟨b1, b2, b3, b4, b5⟩ := isPair_trees c2
      have hM := obMoved_SC (treeOf a, treeOf b) a3 a5
      simp only [← a1, ← a2] at hM
      rcases spec_out (treeOf e, treeOf f) b3 b5 (mvP (treeOf a, treeOf b)) (mvP_len _ a3) (smalls_mvL (smalls_fxL _ a3 a5)) (mvP (treeOf a, treeOf b)).length 0 rfl (by omega) (fun j h _ => absurd h (by omega)) with ⟨c, hL⟩ | ⟨c, hL⟩
      · rw [c]
        simp only [← b1, ← b2] at hL
        exact spec_AreApart_p1 _ _ _ _ _ g1 g2 hM hL
      · rw [c]
        simp only [← b1, ← b2] at hL
        exact spec_AreApart_p2 _ _ _ _ _ _ _ _ g1 g2 hM hL

/-- The law of AreApart. -/
theorem law_AA (x y : ByteArray × ByteArray) (h1 : x.1.size ≤ 2 ^ 63 - 1) (h2 : x.2.size ≤ 2 ^ 63 - 1) (h3 : y.1.size ≤ 2 ^ 63 - 1) (h4 : y.2.size ≤ 2 ^ 63 - 1) :
    SC cfg.P i_laws_FnExactAreApart [.s (.v (.pr .str .str) x), .s (.v (.pr .str .str) y)] (.s (.v .bool true)) [] := by
  obtain ⟨c, s1, hc | ⟨hc, d, s2, hd | ⟨hd, a, b, e, f, rfl, rfl, la, lb, le, lf⟩⟩⟩ := szPairs x y h1 h2 h3 h4
  · exact laws_FnExactAreApart_p1 _ _ _ s1 hc
  · exact laws_FnExactAreApart_p2 _ _ _ _ s1 hc s2 hd
  · exact laws_FnExactAreApart_p3 _ _ _ _ _ _ _ _ _ _ _ _ s1 hc s2 hd (laws_toPair_p1 _) (laws_toPair_p1 _) (specAA_SC a b e f la lb le lf) (laws_toPair_p1 _) (laws_toPair_p1 _) (implAA_SC a b e f la lb le lf) (by simp) (by simp)

theorem law_AA' (x1 x2 y1 y2 : ByteArray) (h1 : x1.size ≤ 2 ^ 63 - 1) (h2 : x2.size ≤ 2 ^ 63 - 1) (h3 : y1.size ≤ 2 ^ 63 - 1) (h4 : y2.size ≤ 2 ^ 63 - 1) :
    SC cfg.P i_laws_FnExactAreApart [.s (.v (.pr .str .str) (x1, x2)), .s (.v (.pr .str .str) (y1, y2))] (.s (.v .bool true)) [] := law_AA (x1, x2) (y1, y2) h1 h2 h3 h4

end Go.AI
