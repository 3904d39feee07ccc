/- The law of DoCommute. -/
import Derived.Test.YtnnbjnmkkfakdaaGD
import Derived.Test.YtnnbjnmkkfakdaaCEs
set_option autoImplicit false
set_option maxRecDepth 100000
set_option linter.unusedVariables false
namespace Go.AI
open Go.Proofs

theorem ptext_SC (p : Tr × Tr) (h1 : p.1.c ≤ 2 ^ 20) (h2 : p.2.c ≤ 2 ^ 20) : SC cfg.P i_impl_pair_text [.s (.v (.pr .tree .tree) p)] (.s (.v .str (bs (txt p.1 ++ 62 :: txt p.2)))) [] := by
  have l1 := txt_len p.1
  have l2 := txt_len p.2
  have s1 : ((⟨#[62]⟩ : ByteArray)).size = 1 := rfl
  have e1 : bs (txt p.1) ++ (⟨#[62]⟩ : ByteArray) = bs (txt p.1 ++ [62]) := by show bs (txt p.1) ++ bs [62] = _; rw [bs_append]
  have e2 : bs (txt p.1) ++ (⟨#[62]⟩ : ByteArray) ++ bs (txt p.2) = bs (txt p.1 ++ 62 :: txt p.2) := by rw [e1, bs_append, List.append_assoc]; rfl
  have := impl_pair_text_p1 p _ _ (text_SC p.1 (by omega)) (by rw [bs_size, s1]; omega) (text_SC p.2 (by omega)) (by rw [e1, bs_size, bs_size]; simp; omega)
  rw [e2] at this
  exact this

theorem ptext_inj (p q : Tr × Tr) : bs (txt p.1 ++ 62 :: txt p.2) = bs (txt q.1 ++ 62 :: txt q.2) ↔ p = q := by
  rw [bs_inj]
  constructor
  · intro h
    obtain ⟨h1, h2⟩ := txt_inj p.1 q.1 _ _ h
    have h3 := (List.cons.inj h2).2
    have h4 := (txt_inj p.2 q.2 [] [] (by rw [List.append_nil, List.append_nil]; exact h3)).1
    exact Prod.ext h1 h4
  · rintro rfl; rfl

theorem pt_eq (p q : Tr × Tr) : ((((pt p).1).toList == ((pt q).1).toList) && (((pt p).2).toList == ((pt q).2).toList)) = decide (p = q) := by
  have key : ∀ a b : Tr, ((bs (txt a)).toList == (bs (txt b)).toList) = decide (a = b) := by
    intro a b
    by_cases h : a = b
    · subst h; simp
    · rw [decide_eq_false h]
      exact seq_f fun h1 => h (txt_inj a b [] [] (by rw [List.append_nil, List.append_nil]; exact bs_inj.1 h1)).1
  show (((bs (txt p.1)).toList == (bs (txt q.1)).toList) && ((bs (txt p.2)).toList == (bs (txt q.2)).toList)) = _
  rw [key, key]
  by_cases h1 : p.1 = q.1
  · by_cases h2 : p.2 = q.2
    · rw [decide_eq_true h1, decide_eq_true h2, decide_eq_true (Prod.ext h1 h2)]; rfl
    · rw [decide_eq_false h2, decide_eq_false (show ¬ (p = q) from fun e => h2 (congrArg Prod.snd e)), Bool.and_false]
  · rw [decide_eq_false h1, decide_eq_false (show ¬ (p = q) from fun e => h1 (congrArg Prod.fst e)), Bool.false_and]

def dcG (a b e f : List UInt8) : Bool := twoB a b e f && decide ((timesT (treeOf a, treeOf b) (treeOf e, treeOf f)).1.c ≤ 8) && decide ((timesT (treeOf e, treeOf f) (treeOf a, treeOf b)).1.c ≤ 8)
def dcB (a b e f : List UInt8) : Bool := dcG a b e f && decide (timesT (treeOf a, treeOf b) (treeOf e, treeOf f) = timesT (treeOf e, treeOf f) (treeOf a, treeOf b))

theorem specDC_SC (a b e f : List UInt8) (ha : a.length ≤ 2 ^ 40) (hb : b.length ≤ 2 ^ 40) (he : e.length ≤ 2 ^ 40) (hf : f.length ≤ 2 ^ 40) :
    SC cfg.P i_spec_DoCommute [.s (.v (.pr .str .str) (bs a, bs b)), .s (.v (.pr .str .str) (bs e, bs f))] (.tup [.v .bool (dcB a b e f), .v .bool (dcG a b e f)]) [] := by
  have h1 := prGood_SC a b ha hb
  have h2 := prGood_SC e f he hf
  unfold dcB dcG twoB
  cases t1 : isPair a b with
  | false => rw [t1] at h1; exact spec_DoCommute_p6 _ _ h1
  | true =>
    rw [t1] at h1
    cases t2 : isPair e f with
    | false => rw [t2] at h2; exact spec_DoCommute_p5 _ _ h1 h2
    | true =>
      rw [t2] at h2
      obtain ⟨a1, a2, a3, a4, a5⟩ := isPair_trees t1
      obtain ⟨b1, b2, b3, b4, b5⟩ := isPair_trees t2
      have e1 : pt (treeOf a, treeOf b) = (bs a, bs b) := by rw [pt, ← a1, ← a2]
      have e2 : pt (treeOf e, treeOf f) = (bs e, bs f) := by rw [pt, ← b1, ← b2]
      have ht := prTimes_SC (treeOf a, treeOf b) (treeOf e, treeOf f) a5 b5 (by simp only; omega)
      have hu := prTimes_SC (treeOf e, treeOf f) (treeOf a, treeOf b) b5 a5 (by simp only; omega)
      have c1 := raw_c (treeOf a, treeOf b) (treeOf e, treeOf f) a5
      have c2 := raw_c (treeOf e, treeOf f) (treeOf a, treeOf b) b5
      have q1 := times_eqc (treeOf a, treeOf b) (treeOf e, treeOf f) a5 b5
      have q2 := times_eqc (treeOf e, treeOf f) (treeOf a, treeOf b) b5 a5
      simp only at c1 c2
      rw [e1, e2] at ht
      rw [e1, e2] at hu
      generalize timesT (treeOf a, treeOf b) (treeOf e, treeOf f) = x at *
      generalize timesT (treeOf e, treeOf f) (treeOf a, treeOf b) = y at *
      have i1 := prIf_SC x q1 (by omega)
      have i2 := prIf_SC y q2 (by omega)
      by_cases g1 : x.1.c ≤ 8
      · rw [decide_eq_true g1] at i1 ⊢
        rw [fitV, if_pos g1] at i1
        by_cases g2 : y.1.c ≤ 8
        · rw [decide_eq_true g2] at i2 ⊢
          rw [fitV, if_pos g2] at i2
          by_cases hxy : x = y
          · rw [decide_eq_true hxy]
            exact spec_DoCommute_p1 _ _ _ _ _ _ h1 h2 ht i1 hu i2 (by rw [pt_eq, decide_eq_true hxy])
          · rw [decide_eq_false hxy]
            exact spec_DoCommute_p2 _ _ _ _ _ _ h1 h2 ht i1 hu i2 (by rw [pt_eq, decide_eq_false hxy])
        · rw [decide_eq_false g2] at i2 ⊢
          exact spec_DoCommute_p3 _ _ _ _ _ _ h1 h2 ht i1 hu i2
      · rw [decide_eq_false g1] at i1 ⊢
        exact spec_DoCommute_p4 _ _ _ _ _ _ _ h1 h2 ht i1 hu i2

theorem implDC_SC (a b e f : List UInt8) (ha : a.length ≤ 2 ^ 40) (hb : b.length ≤ 2 ^ 40) (he : e.length ≤ 2 ^ 40) (hf : f.length ≤ 2 ^ 40) :
    SC cfg.P i_impl_DoCommute [.s (.v (.pr .str .str) (bs a, bs b)), .s (.v (.pr .str .str) (bs e, bs f))] (.tup [.v .bool (dcB a b e f), .v .bool (dcG a b e f)]) [] := by
  have h1 := two_SC a b e f ha hb he hf
  unfold dcB dcG
  cases t : twoB a b e f with
  | false => rw [t] at h1; exact impl_DoCommute_p5 _ _ _ _ h1
  | true =>
    rw [t] at h1
    have t' := t
    simp only [twoB, Bool.and_eq_true] at t'
    obtain ⟨a1, a2, a3, a4, a5⟩ := isPair_trees t'.1
    obtain ⟨b1, b2, b3, b4, b5⟩ := isPair_trees t'.2
    have ht := times_SC (treeOf a, treeOf b) (treeOf e, treeOf f) a5 b5 (by simp only; omega) (by simp only; omega)
    have hu := times_SC (treeOf e, treeOf f) (treeOf a, treeOf b) b5 a5 (by simp only; omega) (by simp only; omega)
    have c1 := raw_c (treeOf a, treeOf b) (treeOf e, treeOf f) a5
    have c2 := raw_c (treeOf e, treeOf f) (treeOf a, treeOf b) b5
    have q1 := times_eqc (treeOf a, treeOf b) (treeOf e, treeOf f) a5 b5
    have q2 := times_eqc (treeOf e, treeOf f) (treeOf a, treeOf b) b5 a5
    simp only at c1 c2
    generalize timesT (treeOf a, treeOf b) (treeOf e, treeOf f) = x at *
    generalize timesT (treeOf e, treeOf f) (treeOf a, treeOf b) = y at *
    have k1 := carets_SC x.1 (by omega)
    have k2 := carets_SC y.1 (by omega)
    by_cases g1 : x.1.c ≤ 8
    · rw [decide_eq_true g1]
      by_cases g2 : y.1.c ≤ 8
      · rw [decide_eq_true g2]
        have t1 := ptext_SC x (by omega) (by omega)
        have t2 := ptext_SC y (by omega) (by omega)
        by_cases hxy : x = y
        · rw [decide_eq_true hxy]
          exact impl_DoCommute_p3 _ _ _ _ _ _ _ _ _ _ h1 ht hu k1 (by omega) k2 (by omega) t1 t2 ((ptext_inj x y).2 hxy)
        · rw [decide_eq_false hxy]
          exact impl_DoCommute_p4 _ _ _ _ _ _ _ _ _ _ h1 ht hu k1 (by omega) k2 (by omega) t1 t2 (fun h => hxy ((ptext_inj x y).1 h))
      · rw [decide_eq_false g2]
        exact impl_DoCommute_p2 _ _ _ _ _ _ _ _ h1 ht hu k1 (by omega) k2 (by omega)
    · rw [decide_eq_false g1]
      exact impl_DoCommute_p1 _ _ _ _ _ _ _ h1 ht hu k1 (by omega)

/-- The law of DoCommute. -/
theorem law_DC (x y : ByteArray × ByteArray) (h1 : x.1.size ≤ 2 ^ 63 - 1) (h2 : x.2.size ≤ 2 ^ 63 - 1) (h3 : y.1.size ≤ 2 ^ 63 - 1) (h4 : y.2.size ≤ 2 ^ 63 - 1) :
    SC cfg.P i_laws_FnExactDoCommute [.s (.v (.pr .str .str) x), .s (.v (.pr .str .str) y)] (.s (.v .bool true)) [] := by
  obtain ⟨c, s1, hc | ⟨hc, d, s2, hd | ⟨hd, a, b, e, f, rfl, rfl, la, lb, le, lf⟩⟩⟩ := szPairs x y h1 h2 h3 h4
  · exact laws_FnExactDoCommute_p1 _ _ _ s1 hc
  · exact laws_FnExactDoCommute_p2 _ _ _ _ s1 hc s2 hd
  · exact laws_FnExactDoCommute_p3 _ _ _ _ _ _ _ _ _ _ _ _ s1 hc s2 hd (laws_toPair_p1 _) (laws_toPair_p1 _) (specDC_SC a b e f la lb le lf) (laws_toPair_p1 _) (laws_toPair_p1 _) (implDC_SC a b e f la lb le lf) (by simp) (by simp)

theorem law_DC' (x1 x2 y1 y2 : ByteArray) (h1 : x1.size ≤ 2 ^ 63 - 1) (h2 : x2.size ≤ 2 ^ 63 - 1) (h3 : y1.size ≤ 2 ^ 63 - 1) (h4 : y2.size ≤ 2 ^ 63 - 1) :
    SC cfg.P i_laws_FnExactDoCommute [.s (.v (.pr .str .str) (x1, x2)), .s (.v (.pr .str .str) (y1, y2))] (.s (.v .bool true)) [] := law_DC (x1, x2) (y1, y2) h1 h2 h3 h4

end Go.AI
