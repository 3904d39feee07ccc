/- Contracts: what is moved; whether two pairs move something in common. -/
import Derived.Test.YtnhjfdkogbelaaaGX
import Derived.Test.YtnhjfdkogbelaaaJD
import Derived.Test.YtnhjfdkogbelaaaJG
import Derived.Test.YtnhjfdkogbelaaaJE
import Derived.Test.YtnhjfdkogbelaaaGZ
set_option autoImplicit false
set_option maxRecDepth 100000
set_option linter.unusedVariables false
namespace Go.AI
open Go.Proofs

theorem mvL_len : ∀ l : List Iv, (mvL l).length = l.length - 1
  | [] => rfl
  | [_] => rfl
  | x :: y :: r => by rw [mvL, List.length_cons, mvL_len (y :: r)]; simp

theorem mvL_take : ∀ (l : List Iv) (i : Nat) (h : i + 1 < l.length), mvL (l.take (i + 2)) = mvL (l.take (i + 1)) ++ [(l[i].2, l[i + 1].1)]
  | [], _, h => by simp at h
  | [_], _, h => by simp at h
  | x :: y :: r, 0, _ => rfl
  | x :: y :: r, i + 1, h => by
    have := mvL_take (y :: r) i (by simpa using h)
    simp only [List.take_succ_cons, mvL] at this ⊢
    rw [this]
    rfl

theorem iv_getD (l : List Iv) (i : Nat) (h : i < l.length) : List.getD (ivL l) i ([] : List Rt) = [l[i].1, l[i].2] := by
  rw [List.getD_eq_getElem?_getD, List.getElem?_map, List.getElem?_eq_getElem h]; rfl

theorem moved_L (l : List Iv) (hl : l.length ≤ 2 ^ 30) : ∀ (m i : Nat), l.length - (i + 1) = m → i + 1 ≤ l.length → LoopSC cfg.P 1 (lb P_impl_pair_moved 0) (impl_pair_moved_L0a ((i + 1 : Nat) : Int) (ivL (mvL (l.take (i + 1)))) (ivL l)) (.exit 0) (impl_pair_moved_L0X1 (l.length : Int) false (ivL (mvL l)) (ivL l)) := by
  have lL : List.length (ivL l) = l.length := List.length_map ..
  intro m
  induction m with
  | zero =>
    intro i hm hi
    have e : l.length = i + 1 := by omega
    rw [List.take_of_length_le (by omega)]
    have := impl_pair_moved_L0a_x2 ((i + 1 : Nat) : Int) (ivL (mvL l)) (ivL l) (by rw [lL]; omega)
    rw [← e] at this ⊢
    exact this
  | succ m ih =>
    intro i hm hi
    have hn := ih (i + 1) (by omega) (by omega)
    have e1 : IntKind.wrap .i64 (((i + 1 : Nat) : Int) - 1) = (i : Int) := by rw [w64 (by omega) (by omega)]; omega
    have e2 : ((i + 1 + 1 : Nat) : Int) = IntKind.wrap .i64 (((i + 1 : Nat) : Int) + 1) := by rw [w64 (by omega) (by omega)]; omega
    have ht := mvL_take l i (by omega)
    have hh : ivL (mvL (l.take (i + 1 + 1))) = ivL (mvL (l.take (i + 1))) ++ [[l[i].2, l[i + 1].1]] := by rw [show i + 1 + 1 = i + 2 from rfl, ht]; simp
    have g1 := iv_getD l i (by omega)
    have g2 := iv_getD l (i + 1) (by omega)
    rw [hh, e2] at hn
    have hmm := mvL_len (l.take (i + 1))
    refine impl_pair_moved_L0a_i1 _ _ _ (by rw [lL]; omega) (by rw [e1]; omega) (by rw [e1, lL]; omega) (by rw [e1, lL]; omega) (by rw [e1, Int.toNat_natCast, g1]; exact l2p1 _ _) (by omega) (by rw [lL]; omega) (by rw [lL]; omega) (by rw [Int.toNat_natCast, g2]; exact l2p0 _ _)
      (by show _ ≤ 2 ^ 40; rw [List.length_map, hmm, List.length_take]; simp; omega) ?_
    rw [e1, Int.toNat_natCast, Int.toNat_natCast, g1, g2]
    exact hn

theorem moved_0 : LoopSC cfg.P 1 (lb P_impl_pair_moved 0) (impl_pair_moved_L0a (1 : Int) ([] : List (List Rt)) (ivL [])) (.exit 0) (impl_pair_moved_L0X1 (1 : Int) false ([] : List (List Rt)) (ivL [])) :=
  impl_pair_moved_L0a_x2 _ _ _ (by decide)

theorem obMoved_L (l : List Iv) (hl : l.length ≤ 2 ^ 30) : ∀ (m i : Nat), l.length - (i + 1) = m → i + 1 ≤ l.length → LoopSC cfg.P 1 (lb P_spec_obMoved 0) (spec_obMoved_L0a ((i + 1 : Nat) : Int) (ivL (mvL (l.take (i + 1)))) (ivL l)) (.exit 0) (spec_obMoved_L0X1 (l.length : Int) false (ivL (mvL l)) (ivL l)) := by
  have lL : List.length (ivL l) = l.length := List.length_map ..
  intro m
  induction m with
  | zero =>
    intro i hm hi
    have e : l.length = i + 1 := by omega
    rw [List.take_of_length_le (by omega)]
    have := spec_obMoved_L0a_x2 ((i + 1 : Nat) : Int) (ivL (mvL l)) (ivL l) (by rw [lL]; omega)
    rw [← e] at this ⊢
    exact this
  | succ m ih =>
    intro i hm hi
    have hn := ih (i + 1) (by omega) (by omega)
    have e1 : IntKind.wrap .i64 (((i + 1 : Nat) : Int) - 1) = (i : Int) := by rw [w64 (by omega) (by omega)]; omega
    have e2 : ((i + 1 + 1 : Nat) : Int) = IntKind.wrap .i64 (((i + 1 : Nat) : Int) + 1) := by rw [w64 (by omega) (by omega)]; omega
    have ht := mvL_take l i (by omega)
    have hh : ivL (mvL (l.take (i + 1 + 1))) = ivL (mvL (l.take (i + 1))) ++ [[l[i].2, l[i + 1].1]] := by rw [show i + 1 + 1 = i + 2 from rfl, ht]; simp
    have g1 := iv_getD l i (by omega)
    have g2 := iv_getD l (i + 1) (by omega)
    rw [hh, e2] at hn
    have hmm := mvL_len (l.take (i + 1))
    refine spec_obMoved_L0a_i1 _ _ _ (by rw [lL]; omega) (by rw [e1]; omega) (by rw [e1, lL]; omega) (by rw [e1, lL]; omega) (by rw [e1, Int.toNat_natCast, g1]; exact l2p1 _ _) (by omega) (by rw [lL]; omega) (by rw [lL]; omega) (by rw [Int.toNat_natCast, g2]; exact l2p0 _ _)
      (by show _ ≤ 2 ^ 40; rw [List.length_map, hmm, List.length_take]; simp; omega) ?_
    rw [e1, Int.toNat_natCast, Int.toNat_natCast, g1, g2]
    exact hn

def mvP (p : PT) : List Iv := mvL (fxL p)

theorem fxL_len (p : PT) : (fxL p).length ≤ (adL p.1 []).length := by
  have := foldl_len ((adL p.1 []).zip (adL p.2 [])) []
  rw [List.length_zip] at this
  unfold fxL FX
  simp only [List.length_nil] at this
  omega

theorem moved_SC (p : PT) (h1 : p.1.c ≤ 8) (h2 : p.1.c = p.2.c) : SC cfg.P i_impl_pair_moved [.s (.v (.pr .tree .tree) p)] (.s (.own t_Simpl_Ratio (.sl RK) (ivL (mvP p)))) [] := by
  have hf := fixed_SC p h1 h2
  have hl := fxL_len p
  rw [adL_len] at hl
  unfold mvP
  generalize fxL p = l at *
  cases l with
  | nil => exact impl_pair_moved_p1 _ _ _ _ _ _ hf moved_0
  | cons x r => exact impl_pair_moved_p1 _ _ _ _ _ _ hf (moved_L (x :: r) (by omega) _ 0 rfl (by simp))

theorem obMoved_SC (p : PT) (h1 : p.1.c ≤ 8) (h2 : p.1.c = p.2.c) : SC cfg.P i_spec_obMoved [.s (.v (.pr .str .str) (bs (txt p.1), bs (txt p.2)))] (.s (.own t_Simpl_Ratio (.sl RK) (ivL (mvP p)))) [] := by
  have hf := obFixed_SC p h1 h2
  have hl := fxL_len p
  rw [adL_len] at hl
  unfold mvP
  generalize fxL p = l at *
  cases l with
  | nil => exact spec_obMoved_p1 (bs (txt p.1), bs (txt p.2)) _ _ _ _ _ hf (spec_obMoved_L0a_x2 _ _ _ (by decide))
  | cons x r => exact spec_obMoved_p1 (bs (txt p.1), bs (txt p.2)) _ _ _ _ _ hf (obMoved_L (x :: r) (by omega) _ 0 rfl (by simp))

theorem two2_SC (a b c d : List UInt8) (ha : a.length ≤ 2 ^ 40) (hb : b.length ≤ 2 ^ 40) (hc : c.length ≤ 2 ^ 40) (hd : d.length ≤ 2 ^ 40) :
    SC cfg.P i_impl_two [.s (.v (.pr .str .str) (bs a, bs b)), .s (.v (.pr .str .str) (bs c, bs d))] (.tup [.v (.pr .tree .tree) (treeOf a, treeOf b), .v (.pr .tree .tree) (treeOf c, treeOf d), .v .bool (isPair a b && isPair c d)]) [] := by
  have h1 := pairOf_SC a b ha hb
  have h2 := pairOf_SC c d hc hd
  cases e1 : isPair a b with
  | false => rw [e1] at h1; exact impl_two_p2 _ _ _ _ _ h1 h2
  | true => rw [e1] at h1; exact impl_two_p1 _ _ _ _ _ h1 h2

/-! ### Apart -/

theorem smalls_fxL (p : PT) (h1 : p.1.c ≤ 8) (h2 : p.1.c = p.2.c) : smalls (fxL p) := by
  have := smalls_FX ((adL p.1 []).zip (adL p.2 [])) (fun a ha => ⟨(adL_8 h1 _ (List.of_mem_zip ha).1).1, (adL_8 (t := p.2) (by omega) _ (List.of_mem_zip ha).2).1⟩) ((adL p.1 []).zip (adL p.2 [])).length
  rw [List.take_of_length_le (Nat.le_refl _)] at this
  exact this

theorem smalls_mvL : ∀ {l : List Iv}, smalls l → smalls (mvL l)
  | [], _ => fun x hx => by cases hx
  | [_], _ => fun x hx => by cases hx
  | x :: y :: r, h => fun z hz => by
    rw [mvL] at hz
    rcases List.mem_cons.1 hz with rfl | hz
    · exact ⟨(h x (by simp)).2, (h y (by simp)).1⟩
    · exact smalls_mvL (l := y :: r) (fun q hq => h q (by simp [List.mem_cons.1 hq])) z hz

/-- Two open intervals have a number in common. -/
def meet (a b : Iv) : Bool := rlt a.1 b.2 && rlt b.1 a.2

theorem k1k1_SC (a b : Iv) (ha : small a.1 ∧ small a.2) (hb : small b.1 ∧ small b.2) : SC cfg.P i_impl_AreApart_k1_k1 [.s (.v (.sl RK) [b.1, b.2]), .s (.fadr (.sl RK) [a.1, a.2])] (.s (.v .bool (meet a b))) [] := by
  have l1 := less_SC a.1 b.2 ha.1 hb.2
  have l2 := less_SC b.1 a.2 hb.1 ha.2
  unfold meet
  cases k1 : rlt a.1 b.2
  · rw [k1] at l1
    exact impl_AreApart_k1_k1_p2 [b.1, b.2] [a.1, a.2] (l2p0 _ _) (l2p1 _ _) l1
  · rw [k1] at l1
    exact impl_AreApart_k1_k1_p1 [b.1, b.2] [a.1, a.2] _ (l2p0 _ _) (l2p1 _ _) l1 (l2p0 _ _) (l2p1 _ _) l2

theorem idxB_SC (a : Iv) (ha : small a.1 ∧ small a.2) (l : List Iv) (hl : l.length ≤ 2 ^ 30) (hs : smalls l) : ∀ (m i : Nat), l.length - i = m → i ≤ l.length → (∀ j (h : j < i) (h' : j < l.length), meet a l[j] = false) →
    (∃ j : Nat, (l.any (meet a) = true) ∧ LoopSC cfg.P 2 (lb P_slices_IndexFunc 0) (slices_IndexFunc_L0d (ivL l) i_impl_AreApart_k1_k1 [a.1, a.2] ((List.length (ivL l) : Nat) : Int) (i : Int)) (.ret) (slices_IndexFunc_L0X1 (j : Int))) ∨
    (l.any (meet a) = false ∧ LoopSC cfg.P 2 (lb P_slices_IndexFunc 0) (slices_IndexFunc_L0d (ivL l) i_impl_AreApart_k1_k1 [a.1, a.2] ((List.length (ivL l) : Nat) : Int) (i : Int)) (.exit 0) (slices_IndexFunc_L0X3 (ivL l) i_impl_AreApart_k1_k1 [a.1, a.2] ((List.length (ivL l) : Nat) : Int) (l.length : Int) false)) := by
  have lL : List.length (ivL l) = l.length := List.length_map ..
  intro m
  induction m with
  | zero =>
    intro i hm hi hj
    have e : i = l.length := by omega
    subst e
    refine .inr ⟨?_, slices_IndexFunc_L0d_x3 _ _ _ _ _ (by rw [lL]; omega)⟩
    rw [List.any_eq_false]
    intro x hx
    obtain ⟨j, hj', rfl⟩ := List.mem_iff_getElem.1 hx
    rw [hj j hj' hj']; exact Bool.false_ne_true
  | succ m ih =>
    intro i hm hi hj
    have hlt : i < l.length := by omega
    have hk := k1k1_SC a l[i] ha (hs l[i] (List.getElem_mem hlt))
    have g := iv_getD l i hlt
    have e2 : ((i + 1 : Nat) : Int) = IntKind.wrap .i64 ((i : Int) + 1) := by rw [w64 (by omega) (by omega)]; omega
    cases c : meet a l[i]
    · rw [c] at hk
      have step := fun (e : AEx) (st : St) => slices_IndexFunc_L0d_i2 (ivL l) i_impl_AreApart_k1_k1 [a.1, a.2] ((List.length (ivL l) : Nat) : Int) (i : Int) (by rw [lL]; omega) (by omega) (by rw [lL]; omega) (by rw [Int.toNat_natCast, g]; exact hk) (e := e) (st := st)
      rw [← e2] at step
      rcases ih (i + 1) (by omega) (by omega) (fun j h h' => by
        by_cases e : j = i
        · subst e; exact c
        · exact hj j (by omega) h') with ⟨j, h1, h2⟩ | ⟨h1, h2⟩
      · exact .inl ⟨j, h1, step _ _ h2⟩
      · exact .inr ⟨h1, step _ _ h2⟩
    · rw [c] at hk
      refine .inl ⟨i, ?_, slices_IndexFunc_L0d_x1 _ _ _ _ _ (by rw [lL]; omega) (by omega) (by rw [lL]; omega) (by rw [Int.toNat_natCast, g]; exact hk)⟩
      rw [List.any_eq_true]
      exact ⟨l[i], List.getElem_mem hlt, c⟩

theorem contB_SC (a : Iv) (ha : small a.1 ∧ small a.2) (l : List Iv) (hl : l.length ≤ 2 ^ 30) (hs : smalls l) : SC cfg.P i_slices_ContainsFunc [.s (.v (.sl (.sl RK)) (ivL l)), .fn i_impl_AreApart_k1_k1 [] [.fadr (.sl RK) [a.1, a.2]]] (.s (.v .bool (l.any (meet a)))) [] := by
  rcases idxB_SC a ha l hl hs l.length 0 rfl (by omega) (fun j h _ => absurd h (by omega)) with ⟨j, h1, h2⟩ | ⟨h1, h2⟩
  · rw [h1]
    exact slices_ContainsFuncB_p1 _ _ _ _ (slices_IndexFuncB_p1 _ _ _ _ h2) (by omega)
  · rw [h1]
    exact slices_ContainsFuncB_p2 _ _ _ _ (slices_IndexFuncB_p2 _ _ _ _ _ _ _ _ _ h2) (by omega)

theorem mvP_len (p : PT) (h : p.1.c ≤ 8) : (mvP p).length ≤ 2 ^ 30 := by
  have := fxL_len p
  rw [adL_len] at this
  unfold mvP
  rw [mvL_len]
  omega

theorem k1_SC (a : Iv) (ha : small a.1 ∧ small a.2) (q : PT) (h1 : q.1.c ≤ 8) (h2 : q.1.c = q.2.c) : SC cfg.P i_impl_AreApart_k1 [.s (.v (.sl RK) [a.1, a.2]), .s (.fadr (.pr .tree .tree) q)] (.s (.v .bool ((mvP q).any (meet a)))) [] :=
  impl_AreApart_k1_p1 _ _ _ _ (moved_SC q h1 h2) (contB_SC a ha (mvP q) (mvP_len q h1) (smalls_mvL (smalls_fxL q h1 h2)))

theorem idxA_SC (q : PT) (h1 : q.1.c ≤ 8) (h2 : q.1.c = q.2.c) (l : List Iv) (hl : l.length ≤ 2 ^ 30) (hs : smalls l) : ∀ (m i : Nat), l.length - i = m → i ≤ l.length → (∀ j (h : j < i) (h' : j < l.length), (mvP q).any (meet l[j]) = false) →
    (∃ j : Nat, (l.any (fun a => (mvP q).any (meet a)) = true) ∧ LoopSC cfg.P 2 (lb P_slices_IndexFunc 0) (slices_IndexFunc_L0a (ivL l) i_impl_AreApart_k1 q ((List.length (ivL l) : Nat) : Int) (i : Int)) (.ret) (slices_IndexFunc_L0X1 (j : Int))) ∨
    (l.any (fun a => (mvP q).any (meet a)) = false ∧ LoopSC cfg.P 2 (lb P_slices_IndexFunc 0) (slices_IndexFunc_L0a (ivL l) i_impl_AreApart_k1 q ((List.length (ivL l) : Nat) : Int) (i : Int)) (.exit 0) (slices_IndexFunc_L0X2 (ivL l) i_impl_AreApart_k1 q ((List.length (ivL l) : Nat) : Int) (l.length : Int) false)) := by
  have lL : List.length (ivL l) = l.length := List.length_map ..
  intro m
  induction m with
  | zero =>
    intro i hm hi hj
    have e : i = l.length := by omega
    subst e
    refine .inr ⟨?_, slices_IndexFunc_L0a_x3 _ _ _ _ _ (by rw [lL]; omega)⟩
    rw [List.any_eq_false]
    intro x hx
    obtain ⟨j, hj', rfl⟩ := List.mem_iff_getElem.1 hx
    rw [hj j hj' hj']; exact Bool.false_ne_true
  | succ m ih =>
    intro i hm hi hj
    have hlt : i < l.length := by omega
    have hk := k1_SC l[i] (hs l[i] (List.getElem_mem hlt)) q h1 h2
    have g := iv_getD l i hlt
    have e2 : ((i + 1 : Nat) : Int) = IntKind.wrap .i64 ((i : Int) + 1) := by rw [w64 (by omega) (by omega)]; omega
    cases c : (mvP q).any (meet l[i])
    · rw [c] at hk
      have step := fun (e : AEx) (st : St) => slices_IndexFunc_L0a_i2 (ivL l) i_impl_AreApart_k1 q ((List.length (ivL l) : Nat) : Int) (i : Int) (by rw [lL]; omega) (by omega) (by rw [lL]; omega) (by rw [Int.toNat_natCast, g]; exact hk) (e := e) (st := st)
      rw [← e2] at step
      rcases ih (i + 1) (by omega) (by omega) (fun j h h' => by
        by_cases e : j = i
        · subst e; exact c
        · exact hj j (by omega) h') with ⟨j, h1, h2⟩ | ⟨h1, h2⟩
      · exact .inl ⟨j, h1, step _ _ h2⟩
      · exact .inr ⟨h1, step _ _ h2⟩
    · rw [c] at hk
      refine .inl ⟨i, ?_, slices_IndexFunc_L0a_x1 _ _ _ _ _ (by rw [lL]; omega) (by omega) (by rw [lL]; omega) (by rw [Int.toNat_natCast, g]; exact hk)⟩
      rw [List.any_eq_true]
      exact ⟨l[i], List.getElem_mem hlt, c⟩

theorem contA_SC (q : PT) (h1 : q.1.c ≤ 8) (h2 : q.1.c = q.2.c) (l : List Iv) (hl : l.length ≤ 2 ^ 30) (hs : smalls l) : SC cfg.P i_slices_ContainsFunc [.s (.v (.sl (.sl RK)) (ivL l)), .fn i_impl_AreApart_k1 [] [.fadr (.pr .tree .tree) q]] (.s (.v .bool (l.any (fun a => (mvP q).any (meet a))))) [] := by
  rcases idxA_SC q h1 h2 l hl hs l.length 0 rfl (by omega) (fun j h _ => absurd h (by omega)) with ⟨j, h1, h2⟩ | ⟨h1, h2⟩
  · rw [h1]
    exact slices_ContainsFunc_p1 _ _ _ _ (slices_IndexFunc_p1 _ _ _ _ h2) (by omega)
  · rw [h1]
    exact slices_ContainsFunc_p2 _ _ _ _ (slices_IndexFunc_p2 _ _ _ _ _ _ _ _ _ h2) (by omega)

def apB (a b e f : List UInt8) : Bool := if isPair a b && isPair e f then !((mvP (treeOf a, treeOf b)).any (fun x => (mvP (treeOf e, treeOf f)).any (meet x))) else false

theorem implAA_SC (a b e f : List UInt8) (ha : a.length ≤ 2 ^ 40) (hb : b.length ≤ 2 ^ 40) (he : e.length ≤ 2 ^ 40) (hf : f.length ≤ 2 ^ 40) :
    SC cfg.P i_impl_AreApart [.s (.v (.pr .str .str) (bs a, bs b)), .s (.v (.pr .str .str) (bs e, bs f))] (.tup [.v .bool (apB a b e f), .v .bool (isPair a b && isPair e f)]) [] := by
  have h := two2_SC a b e f ha hb he hf
  unfold apB
  cases c : isPair a b && isPair e f
  · rw [c] at h
    exact impl_AreApart_p2 _ _ _ _ h
  · rw [c] at h
    simp only [Bool.and_eq_true] at c
    obtain ⟨_, _, a3, a4, a5⟩ := isPair_trees c.1
    obtain ⟨_, _, b3, b4, b5⟩ := isPair_trees c.2
    have hm := (moved_SC (treeOf a, treeOf b) a3 a5)
    have hc := contA_SC (treeOf e, treeOf f) b3 b5 (mvP (treeOf a, treeOf b)) (mvP_len _ a3) (smalls_mvL (smalls_fxL _ a3 a5))
    exact impl_AreApart_p1 _ _ _ _ _ _ h hm hc

end Go.AI
