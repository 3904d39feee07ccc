/- A part of the road: what it proves stands in its last texts. -/
import Derived.Test.YtcbhdileamhklaaWs
section
/- Contracts: steps and sorted words. -/
set_option autoImplicit false
set_option maxRecDepth 100000
set_option linter.unusedVariables false
namespace Go.AI
open Go.Proofs

theorem get_mid (l : List Int) (a : Int) (r : List Int) : List.getD (l ++ a :: r) ((l.length : Int)).toNat (0 : Int) = a := by
  rw [Int.toNat_natCast, List.getD_eq_getElem?_getD]
  simp

theorem get_mid1 (l : List Int) (a b : Int) (r : List Int) : List.getD (l ++ a :: b :: r) (((l.length + 1 : Nat) : Int)).toNat (0 : Int) = b := by
  rw [Int.toNat_natCast, List.getD_eq_getElem?_getD]
  simp

theorem cut_l (l m : List Int) : cutL (l ++ m) (0 : Int) (l.length : Int) = l := by
  unfold cutL
  simp

theorem cut_r (l : List Int) (a b : Int) (r : List Int) : cutL (l ++ a :: b :: r) ((l.length + 2 : Nat) : Int) (((l ++ a :: b :: r).length : Nat) : Int) = r := by
  unfold cutL
  rw [Int.toNat_natCast, Int.toNat_natCast, List.take_of_length_le (Nat.le_refl _)]
  have e : l ++ a :: b :: r = (l ++ [a, b]) ++ r := by simp
  rw [e, List.drop_append_of_le_length (by simp), List.drop_of_length_le (by simp), List.nil_append]

theorem zI (l m : List Int) (h : l.length + m.length ≤ 2 ^ 40) : sizeOK (List.length l + List.length m) := h

theorem st_facts : ∀ (w v : List Int), st w = some v → Al Nz w → Al Nz v ∧ v.length ≤ w.length
  | [], _, h, _ => by cases h
  | [_], _, h, _ => by cases h
  | a :: b :: r, v, h, n => by
    rw [st] at h
    cases c : rl a b with
    | none =>
      rw [c] at h
      simp only [Option.map_eq_some_iff] at h
      obtain ⟨u, hu, rfl⟩ := h
      obtain ⟨h1, h2⟩ := st_facts (b :: r) u hu n.tail
      exact ⟨.cons n.head h1, by simp only [List.length_cons] at *; omega⟩
    | some q =>
      rw [c] at h
      cases q with
      | none =>
        simp only [Option.some.injEq] at h
        subst h
        exact ⟨n.tail.tail, by simp only [List.length_cons]; omega⟩
      | some q =>
        obtain ⟨x, y⟩ := q
        simp only [Option.some.injEq] at h
        subst h
        have h2 := rl_two c
        have na := n.head
        refine ⟨.cons ?_ (.cons ?_ n.tail.tail), by simp⟩
        · show x ≠ 0; omega
        · show y ≠ 0; omega

theorem stepped_L (w : List Int) (hw : Al Sm w) (nw : Al Nz w) (hl : w.length ≤ 2 ^ 20) : ∀ (r l : List Int) (a : Int), w = l ++ a :: r → So (l ++ [a]) →
    (∀ v, st w = some v → LoopSC cfg.P 1 (lb P_impl_stepped 0) (impl_stepped_L0a w ((l.length + 1 : Nat) : Int)) .ret (impl_stepped_L0X1 true v)) ∧
    (st w = none → LoopSC cfg.P 1 (lb P_impl_stepped 0) (impl_stepped_L0a w ((l.length + 1 : Nat) : Int)) (.exit 0) (impl_stepped_L0X2 w (w.length : Int) false))
  | [], l, a, e, hs => by
    subst e
    have hn := st_none hs
    refine ⟨fun v h => (by rw [hn] at h; cases h), fun _ => ?_⟩
    have := impl_stepped_L0a_x4 (l ++ [a]) ((l.length + 1 : Nat) : Int) (by simp)
    simpa using this
  | b :: r, l, a, e, hs => by
    subst e
    have hst := st_at l a b r hs
    have hlen : ((List.length (l ++ a :: b :: r) : Nat) : Int) = (l.length : Int) + 2 + (r.length : Int) := by simp; omega
    have hl' : l.length + r.length ≤ 2 ^ 20 := by simp at hl; omega
    have w1 : IntKind.wrap .i64 (((l.length + 1 : Nat) : Int) - (1 : Int)) = (l.length : Int) := by rw [w64] <;> omega
    have w2 : IntKind.wrap .i64 (((l.length + 1 : Nat) : Int) + (1 : Int)) = ((l.length + 2 : Nat) : Int) := by rw [w64] <;> omega
    have ga := get_mid l a (b :: r)
    have gb := get_mid1 l a b r
    have sa := hw a (by simp)
    have sb := hw b (by simp)
    have na := nw a (by simp)
    have nb := nw b (by simp)
    have hc := slices_Clone_SC l (by omega)
    have cl := cut_l l (a :: b :: r)
    have cr := cut_r l a b r
    cases hr : rl a b with
    | none =>
      have hs' : So ((l ++ [a]) ++ [b]) := by
        rw [List.append_assoc]
        exact So_app l a b [] hs hr trivial
      obtain ⟨k1, k2⟩ := stepped_L _ hw nw hl r (l ++ [a]) b (by simp) hs'
      have hi : (((l ++ [a]).length + 1 : Nat) : Int) = ((l.length + 2 : Nat) : Int) := by simp; omega
      rw [hi] at k1 k2
      have hrule := rule_none sa sb na nb hr
      have step : ∀ (e : AEx) (st' : St), LoopSC cfg.P 1 (lb P_impl_stepped 0) (impl_stepped_L0a (l ++ a :: b :: r) ((l.length + 2 : Nat) : Int)) e st' → LoopSC cfg.P 1 (lb P_impl_stepped 0) (impl_stepped_L0a (l ++ a :: b :: r) ((l.length + 1 : Nat) : Int)) e st' := fun e st' h => by
        rw [← w2] at h
        refine impl_stepped_L0a_i3 _ _ 0 0 (by rw [hlen]; omega) (by rw [w1]; omega) (by rw [w1, hlen]; omega) (by omega) (by rw [hlen]; omega) ?_ h
        rw [w1, ga, gb]
        exact hrule
      exact ⟨fun v h => step _ _ (k1 v h), fun h => step _ _ (k2 h)⟩
    | some q =>
      rw [hr] at hst
      cases q with
      | none =>
        refine ⟨fun v h => ?_, fun h => (by rw [hst] at h; cases h)⟩
        rw [hst] at h
        simp only [Option.some.injEq] at h
        subst h
        have hrule := rule_nil sa sb hr
        have := impl_stepped_L0a_x2 (l ++ a :: b :: r) ((l.length + 1 : Nat) : Int) 0 0 l (by rw [hlen]; omega) (by rw [w1]; omega) (by rw [w1, hlen]; omega) (by omega) (by rw [hlen]; omega) (by rw [w1, ga, gb]; exact hrule) (by rw [w1, hlen]; omega) (by rw [w1, cl]; exact hc) rfl (by rw [w2]; omega) (by rw [w2, hlen]; omega) (by rw [w2, cr]; exact zI _ _ (by omega))
        rw [w2, cr] at this
        exact this
      | some q =>
        obtain ⟨c, d⟩ := q
        refine ⟨fun v h => ?_, fun h => (by rw [hst] at h; cases h)⟩
        rw [hst] at h
        simp only [Option.some.injEq] at h
        subst h
        have hrule := rule_two sa sb hr
        have h2 := rl_two hr
        have hc0 : c ≠ 0 := by have : a ≠ 0 := na; omega
        have := impl_stepped_L0a_x1 (l ++ a :: b :: r) ((l.length + 1 : Nat) : Int) c d l (by rw [hlen]; omega) (by rw [w1]; omega) (by rw [w1, hlen]; omega) (by omega) (by rw [hlen]; omega) (by rw [w1, ga, gb]; exact hrule) (by rw [w1, hlen]; omega) (by rw [w1, cl]; exact hc) hc0 (zI _ _ (by simp; omega)) (by rw [w2]; omega) (by rw [w2, hlen]; omega) (by rw [w2, cr]; exact zI _ _ (by simp; omega))
        rw [w2, cr] at this
        have e : l ++ [c, d] ++ r = l ++ c :: d :: r := by simp
        rw [e] at this
        exact this

theorem stepped_SC (w : List Int) (hw : Al Sm w) (nw : Al Nz w) (hl : w.length ≤ 2 ^ 20) : SC cfg.P i_impl_stepped [.s (.v (.sl (.int .i64)) w)] (.tup [.v (.sl (.int .i64)) ((st w).getD []), .v .bool (st w).isSome]) [] := by
  cases w with
  | nil =>
    have := impl_stepped_L0a_x4 [] (1 : Int) (by simp)
    exact (impl_stepped_p2 _ _ _ _ this).viewT
  | cons a r =>
    obtain ⟨k1, k2⟩ := stepped_L (a :: r) hw nw hl r [] a rfl trivial
    cases h : st (a :: r) with
    | none => exact (impl_stepped_p2 _ _ _ _ (k2 h)).viewT
    | some v => exact (impl_stepped_p1 _ _ _ (k1 v h)).viewT

theorem own_SC (l : List Int) (h : l.length ≤ 2 ^ 30) : SC cfg.P i_spec_l1Own [.s (.v (.sl (.int .i64)) l)] (.s (.own t_int (.int .i64) l)) [] := by
  have := spec_l1Own_p1 l (zI _ _ (by simp; omega))
  rw [List.nil_append] at this
  exact this

theorem wdStep_L (w : List Int) (hw : Al Sm w) (nw : Al Nz w) (hl : w.length ≤ 2 ^ 20) : ∀ (r l : List Int) (a : Int), w = l ++ a :: r → So (l ++ [a]) →
    (∀ v, st w = some v → LoopSC cfg.P 1 (lb P_spec_wdStep 0) (spec_wdStep_L0a w (l.length : Int)) .ret (spec_wdStep_L0X1 true v)) ∧
    (st w = none → ∃ k : Int, LoopSC cfg.P 1 (lb P_spec_wdStep 0) (spec_wdStep_L0a w (l.length : Int)) (.exit 0) (spec_wdStep_L0X2 w k false))
  | [], l, a, e, hs => by
    subst e
    have hn := st_none hs
    have hl' : l.length ≤ 2 ^ 20 := by simp at hl; omega
    have w2 : IntKind.wrap .i64 ((l.length : Int) + (1 : Int)) = ((l.length + 1 : Nat) : Int) := by rw [w64] <;> omega
    exact ⟨fun v h => (by rw [hn] at h; cases h), fun _ => ⟨_, spec_wdStep_L0a_x3 (l ++ [a]) (l.length : Int) (by rw [w2]; simp)⟩⟩
  | b :: r, l, a, e, hs => by
    subst e
    have hst := st_at l a b r hs
    have hlen : ((List.length (l ++ a :: b :: r) : Nat) : Int) = (l.length : Int) + 2 + (r.length : Int) := by simp; omega
    have hl' : l.length + r.length ≤ 2 ^ 20 := by simp at hl; omega
    have w1 : IntKind.wrap .i64 ((l.length : Int) + (1 : Int)) = ((l.length + 1 : Nat) : Int) := by rw [w64] <;> omega
    have w2 : IntKind.wrap .i64 ((l.length : Int) + (2 : Int)) = ((l.length + 2 : Nat) : Int) := by rw [w64] <;> omega
    have ga := get_mid l a (b :: r)
    have gb := get_mid1 l a b r
    have sa := hw a (by simp)
    have sb := hw b (by simp)
    have na := nw a (by simp)
    have nb := nw b (by simp)
    have hc := own_SC l (by omega)
    have cl := cut_l l (a :: b :: r)
    have cr := cut_r l a b r
    cases hr : rl a b with
    | none =>
      have hs' : So ((l ++ [a]) ++ [b]) := by
        rw [List.append_assoc]
        exact So_app l a b [] hs hr trivial
      obtain ⟨k1, k2⟩ := wdStep_L _ hw nw hl r (l ++ [a]) b (by simp) hs'
      have hi : (((l ++ [a]).length : Nat) : Int) = ((l.length + 1 : Nat) : Int) := by simp
      rw [hi] at k1 k2
      have hrule := wrule_none sa sb na nb hr
      have step : ∀ (e : AEx) (st' : St), LoopSC cfg.P 1 (lb P_spec_wdStep 0) (spec_wdStep_L0a (l ++ a :: b :: r) ((l.length + 1 : Nat) : Int)) e st' → LoopSC cfg.P 1 (lb P_spec_wdStep 0) (spec_wdStep_L0a (l ++ a :: b :: r) (l.length : Int)) e st' := fun e st' h => by
        rw [← w1] at h
        refine spec_wdStep_L0a_i2 _ _ [] (by rw [w1, hlen]; omega) (by omega) (by rw [hlen]; omega) (by rw [w1]; omega) (by rw [w1, hlen]; omega) ?_ h
        rw [w1, ga, gb]
        exact hrule
      exact ⟨fun v h => step _ _ (k1 v h), fun h => by obtain ⟨k, hk⟩ := k2 h; exact ⟨k, step _ _ hk⟩⟩
    | some q =>
      rw [hr] at hst
      cases q with
      | none =>
        refine ⟨fun v h => ?_, fun h => (by rw [hst] at h; cases h)⟩
        rw [hst] at h
        simp only [Option.some.injEq] at h
        subst h
        have hrule := wrule_nil sa sb hr
        have := spec_wdStep_L0a_x1 (l ++ a :: b :: r) (l.length : Int) [] l (by rw [w1, hlen]; omega) (by omega) (by rw [hlen]; omega) (by rw [w1]; omega) (by rw [w1, hlen]; omega) (by rw [w1, ga, gb]; exact hrule) (by rw [hlen]; omega) (by rw [cl]; exact hc) (zI _ _ (by simp; omega)) (by rw [w2]; omega) (by rw [w2, hlen]; omega) (by rw [w2, cr]; exact zI _ _ (by simp; omega))
        rw [w2, cr, List.append_nil] at this
        exact this
      | some q =>
        obtain ⟨c, d⟩ := q
        refine ⟨fun v h => ?_, fun h => (by rw [hst] at h; cases h)⟩
        rw [hst] at h
        simp only [Option.some.injEq] at h
        subst h
        have hrule := wrule_two sa sb hr
        have := spec_wdStep_L0a_x1 (l ++ a :: b :: r) (l.length : Int) [c, d] l (by rw [w1, hlen]; omega) (by omega) (by rw [hlen]; omega) (by rw [w1]; omega) (by rw [w1, hlen]; omega) (by rw [w1, ga, gb]; exact hrule) (by rw [hlen]; omega) (by rw [cl]; exact hc) (zI _ _ (by simp; omega)) (by rw [w2]; omega) (by rw [w2, hlen]; omega) (by rw [w2, cr]; exact zI _ _ (by simp; omega))
        rw [w2, cr] at this
        have e : l ++ [c, d] ++ r = l ++ c :: d :: r := by simp
        rw [e] at this
        exact this

theorem wdStep_SC (w : List Int) (hw : Al Sm w) (nw : Al Nz w) (hl : w.length ≤ 2 ^ 20) : SC cfg.P i_spec_wdStep [.s (.v (.sl (.int .i64)) w)] (.tup [.v (.sl (.int .i64)) ((st w).getD w), .v .bool (st w).isSome]) [] := by
  cases w with
  | nil => exact spec_wdStep_p2 _ _ _ _ (spec_wdStep_L0a_x3 [] (0 : Int) (by decide))
  | cons a r =>
    obtain ⟨k1, k2⟩ := wdStep_L (a :: r) hw nw hl r [] a rfl trivial
    cases h : st (a :: r) with
    | none =>
      obtain ⟨k, hk⟩ := k2 h
      exact spec_wdStep_p2 _ _ _ _ hk
    | some v => exact (spec_wdStep_p1 _ _ _ (k1 v h)).viewT

theorem wdSorted_SC (w : List Int) (hw : Al Sm w) (nw : Al Nz w) (hl : w.length ≤ 2 ^ 20) : SC cfg.P i_spec_wdSorted [.s (.v (.sl (.int .i64)) w)] (.s (.v .bool (!(st w).isSome))) [] := spec_wdSorted_p1 _ _ _ (wdStep_SC w hw nw hl)

theorem sorted_L (w : List Int) (hw : Al Sm w) (nw : Al Nz w) (hl : w.length ≤ 2 ^ 20) : ∀ (r l : List Int) (a : Int), w = l ++ a :: r → So (l ++ [a]) →
    ((st w).isSome = true → LoopSC cfg.P 1 (lb P_impl_sorted 0) (impl_sorted_L0a w ((l.length + 1 : Nat) : Int)) .ret (impl_sorted_L0X1 false)) ∧
    (st w = none → LoopSC cfg.P 1 (lb P_impl_sorted 0) (impl_sorted_L0a w ((l.length + 1 : Nat) : Int)) (.exit 0) (impl_sorted_L0X2 w (w.length : Int) false))
  | [], l, a, e, hs => by
    subst e
    have hn := st_none hs
    refine ⟨fun h => (by rw [hn] at h; cases h), fun _ => ?_⟩
    have := impl_sorted_L0a_x3 (l ++ [a]) ((l.length + 1 : Nat) : Int) (by simp)
    simpa using this
  | b :: r, l, a, e, hs => by
    subst e
    have hst := st_at l a b r hs
    have hlen : ((List.length (l ++ a :: b :: r) : Nat) : Int) = (l.length : Int) + 2 + (r.length : Int) := by simp; omega
    have hl' : l.length + r.length ≤ 2 ^ 20 := by simp at hl; omega
    have w1 : IntKind.wrap .i64 (((l.length + 1 : Nat) : Int) - (1 : Int)) = (l.length : Int) := by rw [w64] <;> omega
    have w2 : IntKind.wrap .i64 (((l.length + 1 : Nat) : Int) + (1 : Int)) = ((l.length + 2 : Nat) : Int) := by rw [w64] <;> omega
    have ga := get_mid l a (b :: r)
    have gb := get_mid1 l a b r
    have sa := hw a (by simp)
    have sb := hw b (by simp)
    have na := nw a (by simp)
    have nb := nw b (by simp)
    cases hr : rl a b with
    | none =>
      have hs' : So ((l ++ [a]) ++ [b]) := by
        rw [List.append_assoc]
        exact So_app l a b [] hs hr trivial
      obtain ⟨k1, k2⟩ := sorted_L _ hw nw hl r (l ++ [a]) b (by simp) hs'
      have hi : (((l ++ [a]).length + 1 : Nat) : Int) = ((l.length + 2 : Nat) : Int) := by simp; omega
      rw [hi] at k1 k2
      have hrule := rule_none sa sb na nb hr
      have step : ∀ (e : AEx) (st' : St), LoopSC cfg.P 1 (lb P_impl_sorted 0) (impl_sorted_L0a (l ++ a :: b :: r) ((l.length + 2 : Nat) : Int)) e st' → LoopSC cfg.P 1 (lb P_impl_sorted 0) (impl_sorted_L0a (l ++ a :: b :: r) ((l.length + 1 : Nat) : Int)) e st' := fun e st' h => by
        rw [← w2] at h
        refine impl_sorted_L0a_i2 _ _ 0 0 (by rw [hlen]; omega) (by rw [w1]; omega) (by rw [w1, hlen]; omega) (by omega) (by rw [hlen]; omega) ?_ h
        rw [w1, ga, gb]
        exact hrule
      exact ⟨fun h => step _ _ (k1 h), fun h => step _ _ (k2 h)⟩
    | some q =>
      rw [hr] at hst
      refine ⟨fun _ => ?_, fun h => ?_⟩
      · obtain ⟨c, d, hrule⟩ : ∃ c d : Int, SC cfg.P i_impl_rule [.s (.v (.int .i64) a), .s (.v (.int .i64) b)] (.tup [.v (.int .i64) c, .v (.int .i64) d, .v .bool true]) [] := by
          cases q with
          | none => exact ⟨0, 0, rule_nil sa sb hr⟩
          | some q => obtain ⟨c, d⟩ := q; exact ⟨c, d, rule_two sa sb hr⟩
        exact impl_sorted_L0a_x1 _ _ c d (by rw [hlen]; omega) (by rw [w1]; omega) (by rw [w1, hlen]; omega) (by omega) (by rw [hlen]; omega) (by rw [w1, ga, gb]; exact hrule)
      · rw [hst] at h
        cases q with
        | none => cases h
        | some q => cases h

theorem sorted_SC (w : List Int) (hw : Al Sm w) (nw : Al Nz w) (hl : w.length ≤ 2 ^ 20) : SC cfg.P i_impl_sorted [.s (.v (.sl (.int .i64)) w)] (.s (.v .bool (!(st w).isSome))) [] := by
  cases w with
  | nil => exact impl_sorted_p2 _ _ _ _ (impl_sorted_L0a_x3 [] (1 : Int) (by decide))
  | cons a r =>
    obtain ⟨k1, k2⟩ := sorted_L (a :: r) hw nw hl r [] a rfl trivial
    cases h : st (a :: r) with
    | none => exact impl_sorted_p2 _ _ _ _ (k2 h)
    | some v => exact impl_sorted_p1 _ _ (k1 (by rw [h]; rfl))

end Go.AI
end

section
/- Contracts: sorted words, steps told. -/
set_option autoImplicit false
set_option maxRecDepth 100000
set_option linter.unusedVariables false
namespace Go.AI
open Go.Proofs

theorem isWd_iff (l : List Int) : isWd l = true ↔ l.length ≤ 20 ∧ Al Nz l ∧ Al Gd l := by
  unfold isWd
  rw [Bool.and_eq_true, decide_eq_true_eq, List.all_eq_true]
  refine and_congr_right fun _ => ⟨fun h => ⟨fun x hx => ?_, fun x hx => ?_⟩, fun h x hx => ?_⟩
  · have := h x hx
    unfold isLt at this
    rw [decide_eq_true_eq] at this
    exact this.1
  · have := h x hx
    unfold isLt at this
    rw [decide_eq_true_eq] at this
    exact this.2
  · unfold isLt
    rw [decide_eq_true_eq]
    exact ⟨h.1 x hx, h.2 x hx⟩

theorem gd_sm {l : List Int} (h : Al Gd l) : Al Sm l := h.mono fun x hx => by unfold Gd Sm Lo at *; omega

theorem wdSort_L {w v : List Int} {n : Nat} (h : Steps (Al (Lo 1000)) w n v) : ∀ (k : Nat), Al Nz w → w.length ≤ 2 ^ 20 → So v → Al (Lo 1000) v → k + n ≤ 2 ^ 40 →
    LoopSC cfg.P 1 (lb P_spec_wdSort 0) (spec_wdSort_L0a w (k : Int)) .ret (spec_wdSort_L0X1 v ((k + n : Nat) : Int)) := by
  have sm : ∀ {l : List Int}, Al (Lo 1000) l → Al Sm l := fun h => h.mono fun x hx => by unfold Sm Lo at *; omega
  induction h with
  | refl w =>
    intro k nw hl hs hb hk
    have := wdStep_SC w (sm hb) nw hl
    rw [st_none hs] at this
    exact spec_wdSort_L0a_x2 _ _ _ this
  | step p s h' ih =>
    intro k nw hl hs hb hk
    rename_i w v u n
    obtain ⟨f1, f2⟩ := st_facts w v s nw
    have := wdStep_SC w (sm p) nw hl
    rw [s] at this
    have i := ih (k + 1) f1 (by omega) hs hb (by omega)
    rw [← wrap_succ (by omega)] at i
    have e : k + 1 + n = k + (n + 1) := by omega
    rw [e] at i
    exact spec_wdSort_L0a_i1 _ _ _ this i

/-- What is sorted of a good word. -/
theorem srt_good_facts (w : List Int) (hg : isWd w = true) : Steps (Al (Lo 1000)) w (srt [] w).2 (srt [] w).1 ∧ So (srt [] w).1 ∧ Al Nz (srt [] w).1 ∧ Al (Lo 1000) (srt [] w).1 ∧ (srt [] w).1.length ≤ w.length ∧ (srt [] w).2 ≤ 400 := by
  obtain ⟨h1, h2, h3⟩ := (isWd_iff w).1 hg
  obtain ⟨k1, k2⟩ := srt_steps w [] 22 trivial .nil h2 .nil (h3.mono fun x hx => by unfold Gd Lo at *; omega) (by omega) (by omega) (by simp; omega)
  obtain ⟨s1, s2⟩ := srt_so w [] trivial .nil h2
  obtain ⟨l1, l2⟩ := srt_len w []
  rw [List.nil_append] at k1
  simp only [List.length_nil, Nat.zero_add] at l1 l2
  have : w.length * w.length ≤ 20 * 20 := Nat.mul_le_mul h1 h1
  exact ⟨k1, s1, s2, k2, l1, by omega⟩

theorem wdSort_SC (w : List Int) (hg : isWd w = true) : SC cfg.P i_spec_wdSort [.s (.v (.sl (.int .i64)) w)] (.tup [.v (.sl (.int .i64)) (srt [] w).1, .v (.int .i64) ((srt [] w).2 : Int)]) [] := by
  obtain ⟨h1, h2, h3⟩ := (isWd_iff w).1 hg
  obtain ⟨k1, k2, k3, k4, k5, k6⟩ := srt_good_facts w hg
  have := wdSort_L k1 0 h2 (by omega) k2 k4 (by omega)
  rw [Nat.zero_add] at this
  exact spec_wdSort_p1 _ _ _ _ (own_SC w (by omega)).view this

/-- A sorted word stays. -/
theorem wdSort_id (v : List Int) (hs : So v) (nv : Al Nz v) (hb : Al (Lo 1000) v) (hl : v.length ≤ 2 ^ 20) : SC cfg.P i_spec_wdSort [.s (.v (.sl (.int .i64)) v)] (.tup [.v (.sl (.int .i64)) v, .v (.int .i64) (0 : Int)]) [] :=
  spec_wdSort_p1 _ _ _ _ (own_SC v (by omega)).view (wdSort_L (.refl v) 0 nv hl hs hb (by omega))

/-! ### The program's sort -/

theorem sort_good_L {w v : List Int} {n : Nat} (h : Steps (Al Gd) w n v) : ∀ (k : Nat), Al Nz w → w.length ≤ 20 → So v → Al Gd v → k + n ≤ 2 ^ 40 →
    LoopSC cfg.P 1 (lb P_impl_sort 0) (impl_sort_L0a w (k : Int)) .ret (impl_sort_L0X2 v ((k + n : Nat) : Int) true) := by
  induction h with
  | refl w =>
    intro k nw hl hs hb hk
    have := stepped_SC w (gd_sm hb) nw (by omega)
    rw [st_none hs] at this
    exact impl_sort_L0a_x3 _ _ _ this
  | step p s h' ih =>
    intro k nw hl hs hb hk
    rename_i w v u n
    obtain ⟨f1, f2⟩ := st_facts w v s nw
    have := stepped_SC w (gd_sm p) nw (by omega)
    rw [s] at this
    have gv : Al Gd v := by
      cases h' with
      | refl => exact hb
      | step p' _ _ => exact p'
    have hw := isWord_SC v (by omega)
    rw [(isWd_iff v).2 ⟨by omega, f1, gv⟩] at hw
    have i := ih (k + 1) f1 (by omega) hs hb (by omega)
    rw [← wrap_succ (by omega)] at i
    have e : k + 1 + n = k + (n + 1) := by omega
    rw [e] at i
    exact impl_sort_L0a_i1 _ _ _ this hw i

theorem sort_bad_L {w v : List Int} {n : Nat} (h : Steps (Al (Lo 1000)) w n v) : ∀ (k : Nat), Al Nz w → w.length ≤ 20 → Al Gd w → ¬ Al Gd v → k + n ≤ 2 ^ 40 →
    LoopSC cfg.P 1 (lb P_impl_sort 0) (impl_sort_L0a w (k : Int)) .ret (impl_sort_L0X1 (0 : Int) false ([] : List Int)) := by
  induction h with
  | refl w => intro k nw hl hg hb hk; exact absurd hg hb
  | step p s h' ih =>
    intro k nw hl hg hb hk
    rename_i w v u n
    obtain ⟨f1, f2⟩ := st_facts w v s nw
    have := stepped_SC w (gd_sm hg) nw (by omega)
    rw [s] at this
    have hw := isWord_SC v (by omega)
    cases c : isWd v with
    | true =>
      rw [c] at hw
      have i := ih (k + 1) f1 (by omega) ((isWd_iff v).1 c).2.2 hb (by omega)
      rw [← wrap_succ (by omega)] at i
      exact impl_sort_L0a_i1 _ _ _ this hw i
    | false =>
      rw [c] at hw
      exact impl_sort_L0a_x2 _ _ _ this hw

/-- Can a word be sorted? -/
def soB (w : List Int) : Bool := isWd w && isWd (srt [] w).1
def soV (w : List Int) : List Int := if soB w = true then (srt [] w).1 else []
def soN (w : List Int) : Int := if soB w = true then ((srt [] w).2 : Int) else 0

theorem implSort_SC (w : List Int) (hl : w.length ≤ 2 ^ 20) (hd : isWd w = true → Drawn w) : SC cfg.P i_impl_sort [.s (.v (.sl (.int .i64)) w)] (.tup [.v (.sl (.int .i64)) (soV w), .v (.int .i64) (soN w), .v .bool (soB w)]) [] := by
  have hw := isWord_SC w (by omega)
  unfold soV soN soB
  cases c : isWd w with
  | false =>
    rw [c] at hw
    exact (impl_sort_p3 _ hw).viewT
  | true =>
    rw [c] at hw
    obtain ⟨h1, h2, h3⟩ := (isWd_iff w).1 c
    obtain ⟨k1, k2, k3, k4, k5, k6⟩ := srt_good_facts w c
    have hc := (slices_Clone_SC w (by omega)).view
    cases d : isWd (srt [] w).1 with
    | true =>
      have gv := ((isWd_iff _).1 d).2.2
      have := sort_good_L (drawn_steps w (hd c) h2 h3 gv) 0 h2 h1 k2 gv (by omega)
      rw [Nat.zero_add] at this
      exact impl_sort_p2 _ _ _ _ _ hw hc this
    | false =>
      have nb : ¬ Al Gd (srt [] w).1 := fun g => by
        rw [(isWd_iff _).2 ⟨by omega, k3, g⟩] at d
        cases d
      exact (impl_sort_p1 _ _ _ _ _ hw hc (sort_bad_L k1 0 h2 h1 h3 nb (by omega))).viewT

theorem implSorted_SC (w : List Int) (hl : w.length ≤ 2 ^ 20) (hd : isWd w = true → Drawn w) : SC cfg.P i_impl_SortedWord [.s (.v (.sl (.int .i64)) w)] (.tup [.v (.sl (.int .i64)) (soV w), .v .bool (soB w)]) [] := impl_SortedWord_p1 _ _ _ _ (implSort_SC w hl hd)
theorem implSteps_SC (w : List Int) (hl : w.length ≤ 2 ^ 20) (hd : isWd w = true → Drawn w) : SC cfg.P i_impl_RuleSteps [.s (.v (.sl (.int .i64)) w)] (.tup [.v (.int .i64) (soN w), .v .bool (soB w)]) [] := impl_RuleSteps_p1 _ _ _ _ (implSort_SC w hl hd)

theorem wdIf_SC (l : List Int) (hl : l.length ≤ 2 ^ 40) : SC cfg.P i_spec_wdIf [.s (.v (.sl (.int .i64)) l)] (.tup [.v (.sl (.int .i64)) (if isWd l = true then l else []), .v .bool (isWd l)]) [] := by
  have := wdGood_SC l hl
  cases c : isWd l with
  | true => rw [c] at this; exact spec_wdIf_p1 _ this
  | false => rw [c] at this; exact (spec_wdIf_p2 _ this).viewT

theorem madeW_SC (l : List Int) (hl : l.length ≤ 2 ^ 40) : SC cfg.P i_impl_madeWord [.s (.v (.sl (.int .i64)) l)] (.tup [.v (.sl (.int .i64)) (if isWd l = true then l else []), .v .bool (isWd l)]) [] := by
  have := isWord_SC l hl
  cases c : isWd l with
  | true => rw [c] at this; exact impl_madeWord_p1 _ this
  | false => rw [c] at this; exact (impl_madeWord_p2 _ this).viewT

theorem specSorted_SC (w : List Int) (hl : w.length ≤ 2 ^ 20) : SC cfg.P i_spec_SortedWord [.s (.v (.sl (.int .i64)) w)] (.tup [.v (.sl (.int .i64)) (soV w), .v .bool (soB w)]) [] := by
  have hw := wdGood_SC w (by omega)
  unfold soV soB
  cases c : isWd w with
  | false => rw [c] at hw; exact (spec_SortedWord_p2 _ hw).viewT
  | true =>
    rw [c] at hw
    obtain ⟨k1, k2, k3, k4, k5, k6⟩ := srt_good_facts w c
    exact spec_SortedWord_p1 _ _ _ _ _ hw (wdSort_SC w c) (wdIf_SC _ (by omega))

theorem specSteps_SC (w : List Int) (hl : w.length ≤ 2 ^ 20) : SC cfg.P i_spec_RuleSteps [.s (.v (.sl (.int .i64)) w)] (.tup [.v (.int .i64) (soN w), .v .bool (soB w)]) [] := by
  have hw := wdGood_SC w (by omega)
  unfold soN soB
  cases c : isWd w with
  | false => rw [c] at hw; exact spec_RuleSteps_p3 _ hw
  | true =>
    rw [c] at hw
    obtain ⟨k1, k2, k3, k4, k5, k6⟩ := srt_good_facts w c
    have hv := wdGood_SC (srt [] w).1 (by omega)
    cases d : isWd (srt [] w).1 with
    | true => rw [d] at hv; exact spec_RuleSteps_p1 _ _ _ hw (wdSort_SC w c) hv
    | false => rw [d] at hv; exact spec_RuleSteps_p2 _ _ _ hw (wdSort_SC w c) hv

/-! ### One step -/

def rsO (w : List Int) : Option (List Int) := if isWd w = true then (match st w with | some v => if isWd v = true then some v else none | none => none) else none
def rsB (w : List Int) : Bool := (rsO w).isSome
def rsV (w : List Int) : List Int := (rsO w).getD []

theorem implRS_SC (w : List Int) (hl : w.length ≤ 2 ^ 20) : SC cfg.P i_impl_RuleStep [.s (.v (.sl (.int .i64)) w)] (.tup [.v (.sl (.int .i64)) (rsV w), .v .bool (rsB w)]) [] := by
  have hw := isWord_SC w (by omega)
  unfold rsV rsB rsO
  cases c : isWd w with
  | false => rw [c] at hw; exact (impl_RuleStep_p3 _ hw).viewT
  | true =>
    rw [c] at hw
    obtain ⟨h1, h2, h3⟩ := (isWd_iff w).1 c
    have hs := stepped_SC w (gd_sm h3) h2 hl
    cases s : st w with
    | none => rw [s] at hs; exact (impl_RuleStep_p2 _ _ hw hs).viewT
    | some v =>
      rw [s] at hs
      have f := (st_facts w v s h2).2
      have hm := madeW_SC v (by omega)
      cases d : isWd v with
      | true =>
        rw [d] at hm
        have := impl_RuleStep_p1 _ _ _ _ hw hs hm
        simpa [d] using this
      | false =>
        rw [d] at hm
        have := impl_RuleStep_p1 _ _ _ _ hw hs hm
        simpa [d] using this

theorem specRS_SC (w : List Int) (hl : w.length ≤ 2 ^ 20) : SC cfg.P i_spec_RuleStep [.s (.v (.sl (.int .i64)) w)] (.tup [.v (.sl (.int .i64)) (rsV w), .v .bool (rsB w)]) [] := by
  have hw := wdGood_SC w (by omega)
  unfold rsV rsB rsO
  cases c : isWd w with
  | false => rw [c] at hw; exact (spec_RuleStep_p3 _ hw).viewT
  | true =>
    rw [c] at hw
    obtain ⟨h1, h2, h3⟩ := (isWd_iff w).1 c
    have hs := wdStep_SC w (gd_sm h3) h2 hl
    cases s : st w with
    | none => rw [s] at hs; exact (spec_RuleStep_p2 _ _ hw hs).viewT
    | some v =>
      rw [s] at hs
      have f := (st_facts w v s h2).2
      have hm := wdIf_SC v (by omega)
      cases d : isWd v with
      | true =>
        rw [d] at hm
        have := spec_RuleStep_p1 _ _ _ _ hw hs hm
        simpa [d] using this
      | false =>
        rw [d] at hm
        have := spec_RuleStep_p1 _ _ _ _ hw hs hm
        simpa [d] using this

end Go.AI
end
