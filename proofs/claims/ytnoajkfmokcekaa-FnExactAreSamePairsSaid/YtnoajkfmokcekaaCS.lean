/- Contracts: the same element. -/
import Derived.Test.YtnoajkfmokcekaaGS
import Derived.Test.YtnoajkfmokcekaaCD
set_option autoImplicit false
set_option maxRecDepth 100000
set_option linter.unusedVariables false
namespace Go.AI
open Go.Proofs

theorem txt_inj' {t u : Tr} (h : txt t = txt u) : t = u := by
  have := txt_inj t u [] [] (by simpa using h)
  exact this.1

theorem pt_inj {p q : Tr × Tr} : pt p = pt q ↔ p = q := by
  constructor
  · intro h
    simp only [pt, Prod.mk.injEq, bs_inj] at h
    exact Prod.ext (txt_inj' h.1) (txt_inj' h.2)
  · intro h; rw [h]

theorem ptext_SC (p : Tr × Tr) (h1 : p.1.c ≤ 2 ^ 20) (h2 : p.2.c ≤ 2 ^ 20) : SC cfg.P i_impl_pair_text [.s (.v (.pr .tree .tree) p)] (.s (.v .str (bs (txt p.1 ++ [62] ++ txt p.2)))) [] := by
  have l1 := txt_len p.1
  have l2 := txt_len p.2
  have s1 : ((⟨#[62]⟩ : ByteArray)).size = 1 := rfl
  have q1 : (bs (txt p.1) ++ (⟨#[62]⟩ : ByteArray)).size = (txt p.1).length + 1 := by
    show (bs (txt p.1) ++ bs [62]).size = _
    rw [bs_append, bs_size]; simp
  have := impl_pair_text_p1 p _ _ (text_SC p.1 (by omega)) (by rw [bs_size, s1]; omega) (text_SC p.2 (by omega)) (by rw [q1, bs_size]; omega)
  have e : (bs (txt p.1) ++ (⟨#[62]⟩ : ByteArray)) ++ bs (txt p.2) = bs (txt p.1 ++ [62] ++ txt p.2) := by
    show (bs (txt p.1) ++ bs [62]) ++ bs (txt p.2) = _
    rw [bs_append, bs_append]
  rw [e] at this
  exact this

def redP (p : Tr × Tr) : Tr × Tr := red p.1.c p

theorem same_SC (p q : Tr × Tr) (h1 : p.1.c ≤ 2 ^ 10) (h2 : p.2.c ≤ 2 ^ 10) (h3 : q.1.c ≤ 2 ^ 10) (h4 : q.2.c ≤ 2 ^ 10) :
    SC cfg.P i_impl_pair_same [.s (.v (.pr .tree .tree) p), .s (.v (.pr .tree .tree) q)] (.s (.v .bool (decide (redP p = redP q)))) [] := by
  have r1 := reduced_SC p (by omega) (by omega)
  have r2 := reduced_SC q (by omega) (by omega)
  have c1 := red_c p.1.c p
  have c2 := red_c q.1.c q
  have t1 := ptext_SC (redP p) (by unfold redP; omega) (by unfold redP; omega)
  have t2 := ptext_SC (redP q) (by unfold redP; omega) (by unfold redP; omega)
  by_cases h : redP p = redP q
  · rw [decide_eq_true h]
    exact impl_pair_same_p1 _ _ _ _ _ _ r1 t1 r2 t2 (by rw [h])
  · rw [decide_eq_false h]
    refine impl_pair_same_p2 _ _ _ _ _ _ r1 t1 r2 t2 ?_
    intro e
    rw [bs_inj, List.append_assoc, List.append_assoc] at e
    obtain ⟨e1, e2⟩ := txt_inj _ _ _ _ e
    simp at e2
    exact h (Prod.ext e1 (txt_inj' e2))

theorem two_SC (a b c d : List UInt8) (ha : a.length ≤ 2 ^ 40) (hb : b.length ≤ 2 ^ 40) (hc : c.length ≤ 2 ^ 40) (hd : d.length ≤ 2 ^ 40) :
    SC cfg.P i_impl_two [.s (.v (.pr .str .str) (bs a, bs b)), .s (.v (.pr .str .str) (bs c, bs d))] (.tup [.v (.pr .tree .tree) (treeOf a, treeOf b), .v (.pr .tree .tree) (treeOf c, treeOf d), .v .bool (isPair a b && isPair c d)]) [] := by
  have h1 := pairOf_SC a b ha hb
  have h2 := pairOf_SC c d hc hd
  cases h : isPair a b with
  | true =>
    rw [h] at h1
    exact impl_two_p1 _ _ _ _ _ h1 h2
  | false =>
    rw [h] at h1
    exact impl_two_p2 _ _ _ _ _ h1 h2

def sameB (a b c d : List UInt8) : Bool := (isPair a b && isPair c d) && decide (redP (treeOf a, treeOf b) = redP (treeOf c, treeOf d))

theorem implSame_SC (a b c d : List UInt8) (ha : a.length ≤ 2 ^ 40) (hb : b.length ≤ 2 ^ 40) (hc : c.length ≤ 2 ^ 40) (hd : d.length ≤ 2 ^ 40) :
    SC cfg.P i_impl_AreSamePairs [.s (.v (.pr .str .str) (bs a, bs b)), .s (.v (.pr .str .str) (bs c, bs d))] (.tup [.v .bool (sameB a b c d), .v .bool (isPair a b && isPair c d)]) [] := by
  have h2 := two_SC a b c d ha hb hc hd
  unfold sameB
  cases h : (isPair a b && isPair c d) with
  | true =>
    rw [h] at h2
    rw [Bool.and_eq_true] at h
    obtain ⟨_, _, x3, x4, _⟩ := isPair_trees h.1
    obtain ⟨_, _, y3, y4, _⟩ := isPair_trees h.2
    have hs := same_SC (treeOf a, treeOf b) (treeOf c, treeOf d) (by simp only; omega) (by simp only; omega) (by simp only; omega) (by simp only; omega)
    rw [Bool.true_and]
    exact impl_AreSamePairs_p1 _ _ _ _ _ h2 hs
  | false =>
    rw [h] at h2
    rw [Bool.false_and]
    exact impl_AreSamePairs_p2 _ _ _ _ h2

theorem specSame_SC (a b c d : List UInt8) (ha : a.length ≤ 2 ^ 40) (hb : b.length ≤ 2 ^ 40) (hc : c.length ≤ 2 ^ 40) (hd : d.length ≤ 2 ^ 40) :
    SC cfg.P i_spec_AreSamePairs [.s (.v (.pr .str .str) (bs a, bs b)), .s (.v (.pr .str .str) (bs c, bs d))] (.tup [.v .bool (sameB a b c d), .v .bool (isPair a b && isPair c d)]) [] := by
  have h1 := prGood_SC a b ha hb
  have h2 := prGood_SC c d hc hd
  unfold sameB
  cases hp : isPair a b with
  | false =>
    rw [hp] at h1
    exact spec_AreSamePairs_p4 _ _ h1
  | true =>
    rw [hp] at h1
    cases hq : isPair c d with
    | false =>
      rw [hq] at h2
      exact spec_AreSamePairs_p3 _ _ h1 h2
    | true =>
      rw [hq] at h2
      obtain ⟨x1, x2, x3, x4, _⟩ := isPair_trees hp
      obtain ⟨y1, y2, y3, y4, _⟩ := isPair_trees hq
      have r1 := prReduce_SC (treeOf a, treeOf b) (by simp only; omega) (by simp only; omega)
      have r2 := prReduce_SC (treeOf c, treeOf d) (by simp only; omega) (by simp only; omega)
      have e1 : pt (treeOf a, treeOf b) = (bs a, bs b) := by rw [pt, ← x1, ← x2]
      have e2 : pt (treeOf c, treeOf d) = (bs c, bs d) := by rw [pt, ← y1, ← y2]
      rw [e1] at r1
      rw [e2] at r2
      by_cases h : redP (treeOf a, treeOf b) = redP (treeOf c, treeOf d)
      · rw [decide_eq_true h]
        have h' : pt (red (treeOf a, treeOf b).1.c (treeOf a, treeOf b)) = pt (red (treeOf c, treeOf d).1.c (treeOf c, treeOf d)) := pt_inj.2 h
        rw [h'] at r1
        exact spec_AreSamePairs_p1 _ _ _ _ h1 h2 r1 r2 (by rw [seq_t rfl, seq_t rfl]; rfl)
      · rw [decide_eq_false h]
        refine spec_AreSamePairs_p2 _ _ _ _ h1 h2 r1 r2 ?_
        rw [Bool.and_eq_false_iff]
        by_cases g : (pt (red (treeOf a, treeOf b).1.c (treeOf a, treeOf b))).1 = (pt (red (treeOf c, treeOf d).1.c (treeOf c, treeOf d))).1
        · refine .inr (seq_f ?_)
          intro g2
          exact h (pt_inj.1 (Prod.ext g g2))
        · exact .inl (seq_f g)

theorem szPair_gen (l m : List UInt8) (s : Int) (hs0 : 0 ≤ s) (hs1 : s ≤ 1048576) (hl : l.length ≤ 2 ^ 63 - 1) (hm : m.length ≤ 2 ^ 63 - 1) :
    (((l.length : Int) + m.length ≤ s) ∧ SC cfg.P i_laws_szPair [.s (.v (.pr .str .str) (bs l, bs m)), .s (.v (.int .i64) s)] (.s (.v (.int .i64) (s - (l.length : Int) - (m.length : Int)))) []) ∨
    SC cfg.P i_laws_szPair [.s (.v (.pr .str .str) (bs l, bs m)), .s (.v (.int .i64) s)] (.s (.v (.int .i64) (-1 : Int))) [] := by
  have e1 : IntKind.wrap .i64 (s - ((bs l).size : Int)) = s - (l.length : Int) := by rw [bs_size, w64] <;> omega
  by_cases h1 : (l.length : Int) ≤ s
  · have e2 : IntKind.wrap .i64 (s - (l.length : Int) - ((bs m).size : Int)) = s - (l.length : Int) - (m.length : Int) := by rw [bs_size, w64] <;> omega
    have g1 : ¬ (IntKind.wrap .i64 (s - ((bs l).size : Int)) < 0) := by rw [e1]; omega
    by_cases h2 : (l.length : Int) + m.length ≤ s
    · have := laws_szPair_p3 (bs l, bs m) s g1 (by
        show ¬ (IntKind.wrap .i64 (IntKind.wrap .i64 (s - ((bs l).size : Int)) - ((bs m).size : Int)) < 0)
        rw [e1, e2]; omega)
      simp only at this
      rw [e1, e2] at this
      exact .inl ⟨h2, this⟩
    · exact .inr (laws_szPair_p2 (bs l, bs m) s g1 (by
        show IntKind.wrap .i64 (IntKind.wrap .i64 (s - ((bs l).size : Int)) - ((bs m).size : Int)) < 0
        rw [e1, e2]; omega))
  · exact .inr (laws_szPair_p1 (bs l, bs m) s (by
      show IntKind.wrap .i64 (s - ((bs l).size : Int)) < 0
      rw [e1]; omega))

/-- THE LAW. -/
theorem law_Same (x y z u : ByteArray) (hx : x.size ≤ 2 ^ 63 - 1) (hy : y.size ≤ 2 ^ 63 - 1) (hz : z.size ≤ 2 ^ 63 - 1) (hu : u.size ≤ 2 ^ 63 - 1) :
    SC cfg.P i_laws_FnExactAreSamePairs [.s (.v (.pr .str .str) (x, y)), .s (.v (.pr .str .str) (z, u))] (.s (.v .bool true)) [] := by
  obtain ⟨a, rfl⟩ := bs_ex x
  obtain ⟨b, rfl⟩ := bs_ex y
  obtain ⟨c, rfl⟩ := bs_ex z
  obtain ⟨d, rfl⟩ := bs_ex u
  rw [bs_size] at hx hy hz hu
  rcases szPair_gen a b 1048576 (by omega) (by omega) hx hy with ⟨l1, s1⟩ | s1
  · rcases szPair_gen c d (1048576 - (a.length : Int) - (b.length : Int)) (by omega) (by omega) hz hu with ⟨l2, s2⟩ | s2
    · have hs := specSame_SC a b c d (by omega) (by omega) (by omega) (by omega)
      have hi := implSame_SC a b c d (by omega) (by omega) (by omega) (by omega)
      exact laws_FnExactAreSamePairs_p3 _ _ _ _ _ _ _ _ _ _ _ _ s1 (by omega) s2 (by omega) (laws_toPair_p1 _) (laws_toPair_p1 _) hs (laws_toPair_p1 _) (laws_toPair_p1 _) hi (by simp) (by simp)
    · exact laws_FnExactAreSamePairs_p2 _ _ _ _ s1 (by omega) s2 (by omega)
  · exact laws_FnExactAreSamePairs_p1 _ _ _ s1 (by omega)

end Go.AI
