/- The law of ExponentsOfTrees. -/
import Derived.Test.YtdfllkeekehplaaEx1
set_option autoImplicit false
set_option maxRecDepth 100000
set_option linter.unusedVariables false
namespace Go.AI
open Go.Proofs

/-! ### The program's tree of exponents -/

theorem hungT_SC (ts : List Tr) (h : ts.length ≤ 2 ^ 20) : SC cfg.P i_impl_forest_hung [.s (.v (.sl .tree) ts)] (.s (.v .tree (combT (trim ts)))) [] := by
  have h1 := trimmed_SC ts (by omega)
  have hl := trim_len ts
  have h3 := grownB_SC (trim ts) (combR (trim ts).length) 0 (by rw [combR_c]; omega)
  rw [grow_comb (trim ts) (trim ts).length 0 (by omega), List.drop_zero] at h3
  exact impl_forest_hung_p1 _ _ _ _ h1 (rightComb_SC (trim ts).length (by omega)) h3

def tldV (t : Tr) : ByteArray := if t.c ≤ 8 then bs (txt t) else ⟨#[]⟩

theorem told_SC (t : Tr) (h : t.c ≤ 2 ^ 20) : SC cfg.P i_impl_told [.s (.v .tree t)] (.tup [.v .str (tldV t), .v .bool (decide (t.c ≤ 8))]) [] := by
  have hc := carets_SC t (by omega)
  unfold tldV
  by_cases g : t.c ≤ 8
  · rw [if_pos g, decide_eq_true g]; exact impl_told_p2 _ _ _ hc (by omega) (text_SC t (by omega))
  · rw [if_neg g, decide_eq_false g]; exact impl_told_p1 _ _ hc (by omega)

theorem iti_L (l : List Int) (len : Int) (X : List Nat) (n : Nat) (hX : X.length ≤ 9) (hs : X.sum + n ≤ 80) : ∀ (m j : Nat) (f : List Tr), n - j = m → j ≤ n →
    Sim f (bldP (X ++ [j]) (List.replicate (X.sum + j) .leaf)) → f.length ≤ 10 * (X.sum + j) → (∀ t ∈ f, t.c ≤ X.sum + j) →
    ∃ f', Sim f' (bldP (X ++ [n]) (List.replicate (X.sum + n) .leaf)) ∧ f'.length ≤ 10 * (X.sum + n) ∧ (∀ t ∈ f', t.c ≤ X.sum + n) ∧
      LoopSC cfg.P 1 (lb P_impl_TreeOfExponents 1) (impl_TreeOfExponents_L1a f (X.length : Int) l len (X.length : Int) (n : Int) (j : Int)) (.exit 2) (impl_TreeOfExponents_L1X1 f' (X.length : Int) l len (X.length : Int) (n : Int) (n : Int) false) := by
  intro m
  induction m with
  | zero =>
    intro j f hm hj h1 h2 h3
    have e : j = n := by omega
    subst e
    exact ⟨f, h1, h2, h3, impl_TreeOfExponents_L1a_x2 _ _ _ _ _ _ _ (by omega)⟩
  | succ m ih =>
    intro j f hm hj h1 h2 h3
    have sp := split_SC f X.length (by omega) (by omega) (fun t ht => by have := h3 t ht; omega)
    have l1 := stackL_len f (letF X.length)
    rw [letF_len] at l1
    obtain ⟨f', k1, k2, k3, k4⟩ := ih (j + 1) (stackL f (letF X.length)) (by omega) (by omega) (split_sim (by simp) h1) (by omega) (fun t ht => stk_letF f X.length (X.sum + j) h3 _ 0 0 t ht)
    rw [← wrap_succ (by omega)] at k4
    exact ⟨f', k1, k2, k3, impl_TreeOfExponents_L1a_i1 _ _ _ _ _ _ _ _ (by omega) sp k4⟩

theorem ite_L (l : List Int) (hl : l.length ≤ 9) : ∀ (m i : Nat) (f : List Tr) (X : List Nat), l.length - i = m → i ≤ l.length → X = (l.take i).map Int.toNat → X.sum ≤ 8 * i →
    Sim f (bldP X (List.replicate X.sum .leaf)) → f.length ≤ 10 * X.sum → (∀ t ∈ f, t.c ≤ X.sum) →
    ((l.drop i).all ok8 = true → ∃ f', Sim f' (bldP (l.map Int.toNat) (List.replicate (l.map Int.toNat).sum .leaf)) ∧ (l.map Int.toNat).sum ≤ 72 ∧ f'.length ≤ 720 ∧ (∀ t ∈ f', t.c ≤ 72) ∧
      LoopSC cfg.P 1 (lb P_impl_TreeOfExponents 0) (impl_TreeOfExponents_L0a f l ((List.length l : Nat) : Int) (i : Int)) (.exit 0) (impl_TreeOfExponents_L0X2 f' l ((List.length l : Nat) : Int) ((List.length l : Nat) : Int) false)) ∧
    ((l.drop i).all ok8 = false → LoopSC cfg.P 1 (lb P_impl_TreeOfExponents 0) (impl_TreeOfExponents_L0a f l ((List.length l : Nat) : Int) (i : Int)) .ret (impl_TreeOfExponents_L0X1 ⟨#[]⟩ false)) := by
  intro m
  induction m with
  | zero =>
    intro i f X hm hi hX hs h1 h2 h3
    have e : i = l.length := by omega
    subst e
    rw [List.take_length] at hX
    subst hX
    refine ⟨fun _ => ⟨f, h1, by omega, by omega, fun t ht => by have := h3 t ht; omega, impl_TreeOfExponents_L0a_x4 _ _ _ _ (by omega)⟩, fun g => ?_⟩
    rw [List.drop_length] at g
    cases g
  | succ m ih =>
    intro i f X hm hi hX hs h1 h2 h3
    have hlt : i < l.length := by omega
    have ed : l.drop i = l[i] :: l.drop (i + 1) := List.drop_eq_getElem_cons hlt
    have hg : List.getD l ((i : Int)).toNat 0 = l[i] := by rw [Int.toNat_natCast, List.getD_eq_getElem?_getD, List.getElem?_eq_getElem hlt]; rfl
    rw [ed, List.all_cons]
    cases ho : ok8 l[i] with
    | false =>
      refine ⟨fun g => by simp at g, fun _ => ?_⟩
      have hn : ¬ (0 ≤ l[i] ∧ l[i] ≤ 8) := of_decide_eq_false ho
      by_cases h0 : l[i] < 0
      · exact impl_TreeOfExponents_L0a_x1 _ _ _ _ (by omega) (by omega) (by omega) (by rw [hg]; exact h0)
      · exact impl_TreeOfExponents_L0a_x2 _ _ _ _ (by omega) (by omega) (by omega) (by rw [hg]; exact h0) (by rw [hg]; omega)
    | true =>
      have hy : 0 ≤ l[i] ∧ l[i] ≤ 8 := of_decide_eq_true ho
      obtain ⟨n, hn⟩ : ∃ n : Nat, l[i] = (n : Int) := ⟨l[i].toNat, by omega⟩
      have lX : X.length = i := by rw [hX, List.length_map, List.length_take]; omega
      have s1 := sim_next (Nat.le_refl _) h1
      obtain ⟨f', k1, k2, k3, k4⟩ := iti_L l ((List.length l : Nat) : Int) X n (by omega) (by omega) _ 0 f rfl (by omega) s1 h2 h3
      rw [lX] at k4
      have eX : X ++ [n] = (l.take (i + 1)).map Int.toNat := by
        rw [List.take_succ_eq_append_getElem hlt, List.map_append, ← hX, List.map_singleton, hn, Int.toNat_natCast]
      have es : (X ++ [n]).sum = X.sum + n := by simp
      obtain ⟨a1, a2⟩ := ih (i + 1) f' (X ++ [n]) (by omega) (by omega) eX (by omega) (by rw [es]; exact k1) (by omega) (by rw [es]; exact k3)
      rw [← wrap_succ (by omega)] at a1 a2
      have hlo : ¬ (List.getD l ((i : Int)).toNat 0 < 0) := by rw [hg]; omega
      have hhi : ¬ (List.getD l ((i : Int)).toNat 0 > 8) := by rw [hg]; omega
      have k4' : LoopSC cfg.P 1 (lb P_impl_TreeOfExponents 1) (impl_TreeOfExponents_L1a f (i : Int) l ((List.length l : Nat) : Int) (i : Int) (List.getD l ((i : Int)).toNat 0) (0 : Int)) (.exit 2) (impl_TreeOfExponents_L1X1 f' (i : Int) l ((List.length l : Nat) : Int) (i : Int) (n : Int) (n : Int) false) := by
        rw [hg, hn]; exact k4
      refine ⟨fun g => ?_, fun g => ?_⟩
      · obtain ⟨f2, q1, q2, q3, q4, q5⟩ := a1 (by simpa using g)
        exact ⟨f2, q1, q2, q3, q4, impl_TreeOfExponents_L0a_i3 _ _ _ _ _ _ _ _ _ _ _ _ (by omega) (by omega) (by omega) hlo hhi k4' q5⟩
      · exact impl_TreeOfExponents_L0a_i3 _ _ _ _ _ _ _ _ _ _ _ _ (by omega) (by omega) (by omega) hlo hhi k4' (a2 (by simpa using g))

/-- The tree of exponents. -/
def toeT (l : List Int) : Tr := combT (trim (bldP (l.map Int.toNat) (List.replicate (l.map Int.toNat).sum .leaf)))

theorem nat_list {l : List Int} (h : l.all ok8 = true) : ints (l.map Int.toNat) = l ∧ ∀ x ∈ l.map Int.toNat, x ≤ 8 := by
  have h' : ∀ x ∈ l, 0 ≤ x ∧ x ≤ 8 := fun x hx => of_decide_eq_true (List.all_eq_true.1 h x hx)
  refine ⟨?_, fun x hx => ?_⟩
  · unfold ints
    rw [List.map_map]
    conv => rhs; rw [← List.map_id l]
    exact List.map_congr_left fun x hx => by have := h' x hx; show ((x.toNat : Nat) : Int) = x; omega
  · obtain ⟨y, hy, rfl⟩ := List.mem_map.1 hx
    have := h' y hy
    omega

theorem toe_both (l : List Int) (hl : l.length ≤ 2 ^ 40) : ∃ V B, SC cfg.P i_impl_TreeOfExponents [.s (.v (.sl (.int .i64)) l)] (.tup [.v .str V, .v .bool B]) [] ∧ SC cfg.P i_spec_TreeOfExponents [.s (.v (.sl (.int .i64)) l)] (.tup [.v .str V, .v .bool B]) [] ∧
    (B = true → l.length ≤ 9 ∧ l.all ok8 = true ∧ (l.length = 0 ∨ l.getD (l.length - 1) 0 ≠ 0) ∧ (toeT l).c ≤ 8 ∧ V = bs (txt (toeT l))) := by
  by_cases h9 : l.length ≤ 9
  · have ha := l1All_SC l hl
    have w : IntKind.wrap .i64 (((List.length l : Nat) : Int) - (1 : Int)) = ((List.length l : Nat) : Int) - 1 := by rw [w64] <;> omega
    have hk : 0 < l.length → List.getD l (((List.length l : Nat) : Int) - 1).toNat 0 = l.getD (l.length - 1) 0 := fun hp => by congr 1; omega
    obtain ⟨a1, a2⟩ := ite_L l h9 _ 0 [] [] rfl (by omega) rfl (by simp) sim_nil (by simp) (by simp)
    rw [List.drop_zero] at a1 a2
    cases ho : l.all ok8 with
    | false =>
      rw [ho] at ha
      have r := spec_TreeOfExponents_p7 _ (by omega) ha
      refine ⟨_, _, ?_, r, fun g => (by cases g)⟩
      by_cases hp : 0 < l.length
      · by_cases hz : l.getD (l.length - 1) 0 = 0
        · exact impl_TreeOfExponents_p2 _ (by omega) (by omega) (by rw [w]; omega) (by rw [w]; omega) (by rw [w, hk hp]; exact hz)
        · exact impl_TreeOfExponents_p3 _ _ _ (by omega) (by omega) (by rw [w]; omega) (by rw [w]; omega) (by rw [w, hk hp]; exact hz) (a2 ho)
      · exact impl_TreeOfExponents_p5 _ _ _ (by omega) (by omega) (a2 ho)
    | true =>
      rw [ho] at ha
      obtain ⟨f, q1, q2, q3, q4, q5⟩ := a1 ho
      obtain ⟨n1, n2⟩ := nat_list ho
      have lA : (l.map Int.toNat).length ≤ 9 := by rw [List.length_map]; exact h9
      have wf := wdForest_SC (l.map Int.toNat) lA n2
      rw [n1] at wf
      have lb := bld_len (l.map Int.toNat) (List.replicate ((l.map Int.toNat).sum + 1) .leaf) (by rw [List.length_replicate]; omega)
      have sb := bld_sum (l.map Int.toNat) (List.replicate ((l.map Int.toNat).sum + 1) .leaf) (by rw [List.length_replicate]; omega)
      rw [List.length_replicate] at lb
      rw [sum_leaves] at sb
      have ws := wdShort_SC (bldP (l.map Int.toNat) (List.replicate ((l.map Int.toNat).sum + 1) .leaf)) (by omega)
      have et : trim (bldP (l.map Int.toNat) (List.replicate ((l.map Int.toNat).sum + 1) .leaf)) = trim (bldP (l.map Int.toNat) (List.replicate (l.map Int.toNat).sum .leaf)) := (trim_ext _ _ (sim_bld _ _ _ (Nat.le_refl _) (by omega))).symm
      have ts := trim_sumC (bldP (l.map Int.toNat) (List.replicate ((l.map Int.toNat).sum + 1) .leaf))
      have tl := trim_len (bldP (l.map Int.toNat) (List.replicate ((l.map Int.toNat).sum + 1) .leaf))
      rw [et] at ws ts tl
      have wc := wdComb_SC (trim (bldP (l.map Int.toNat) (List.replicate (l.map Int.toNat).sum .leaf))) (by omega) (by omega)
      have cT : (toeT l).c ≤ 2 ^ 10 := by unfold toeT; rw [combT_c]; omega
      have lt := txt_len (toeT l)
      have tc := trCarets_SC (txt (toeT l)) (by omega)
      rw [txt_count] at tc
      have ef : trim f = trim (bldP (l.map Int.toNat) (List.replicate (l.map Int.toNat).sum .leaf)) := trim_ext _ _ q1
      have hu := hungT_SC f (by omega)
      rw [ef] at hu
      have td := told_SC (toeT l) (by omega)
      by_cases g : (toeT l).c ≤ 8
      · rw [tldV, if_pos g, decide_eq_true g] at td
        by_cases hp : 0 < l.length
        · by_cases hz : l.getD (l.length - 1) 0 = 0
          · exact ⟨_, _, impl_TreeOfExponents_p2 _ (by omega) (by omega) (by rw [w]; omega) (by rw [w]; omega) (by rw [w, hk hp]; exact hz), spec_TreeOfExponents_p2 _ (by omega) ha (by omega) (by rw [w]; omega) (by rw [w]; omega) (by rw [w, hk hp]; exact hz), fun g => (by cases g)⟩
          · exact ⟨_, _, impl_TreeOfExponents_p4 _ _ _ _ _ _ _ _ _ (by omega) (by omega) (by rw [w]; omega) (by rw [w]; omega) (by rw [w, hk hp]; exact hz) q5 hu td,
              spec_TreeOfExponents_p4 _ _ _ _ _ (by omega) ha (by omega) (by rw [w]; omega) (by rw [w]; omega) (by rw [w, hk hp]; exact hz) wf ws wc tc (by omega), fun _ => ⟨h9, rfl, .inr hz, g, rfl⟩⟩
        · exact ⟨_, _, impl_TreeOfExponents_p6 _ _ _ _ _ _ _ _ _ (by omega) (by omega) q5 hu td, spec_TreeOfExponents_p6 _ _ _ _ _ (by omega) ha (by omega) wf ws wc tc (by omega), fun _ => ⟨h9, rfl, .inl (by omega), g, rfl⟩⟩
      · rw [tldV, if_neg g, decide_eq_false g] at td
        by_cases hp : 0 < l.length
        · by_cases hz : l.getD (l.length - 1) 0 = 0
          · exact ⟨_, _, impl_TreeOfExponents_p2 _ (by omega) (by omega) (by rw [w]; omega) (by rw [w]; omega) (by rw [w, hk hp]; exact hz), spec_TreeOfExponents_p2 _ (by omega) ha (by omega) (by rw [w]; omega) (by rw [w]; omega) (by rw [w, hk hp]; exact hz), fun g => (by cases g)⟩
          · exact ⟨_, _, impl_TreeOfExponents_p4 _ _ _ _ _ _ _ _ _ (by omega) (by omega) (by rw [w]; omega) (by rw [w]; omega) (by rw [w, hk hp]; exact hz) q5 hu td,
              spec_TreeOfExponents_p3 _ _ _ _ _ (by omega) ha (by omega) (by rw [w]; omega) (by rw [w]; omega) (by rw [w, hk hp]; exact hz) wf ws wc tc (by omega), fun g => (by cases g)⟩
        · exact ⟨_, _, impl_TreeOfExponents_p6 _ _ _ _ _ _ _ _ _ (by omega) (by omega) q5 hu td, spec_TreeOfExponents_p5 _ _ _ _ _ (by omega) ha (by omega) wf ws wc tc (by omega), fun g => (by cases g)⟩
  · exact ⟨_, _, impl_TreeOfExponents_p1 _ (by omega), spec_TreeOfExponents_p1 _ (by omega), fun g => (by cases g)⟩

end Go.AI
