/- Carets added at a leaf: marks, lengths, exposed carets. -/
import Derived.Test.YtlimomnchicfgaaFa
set_option autoImplicit false
set_option maxRecDepth 100000
set_option linter.unusedVariables false
namespace Go.AI

/-- A caret in place of a leaf. -/
def addC : Tr → Nat → Tr
  | .leaf, k => if k = 0 then .node .leaf .leaf else .leaf
  | .node l r, k => if k < l.c + 1 then .node (addC l k) r else .node l (addC r (k - (l.c + 1)))

theorem addC_c : ∀ (t : Tr) (k : Nat), k ≤ t.c → (addC t k).c = t.c + 1
  | .leaf, k, h => by
    simp only [Tr.c] at h
    have : k = 0 := by omega
    subst this; rfl
  | .node l r, k, h => by
    simp only [Tr.c] at h
    rw [addC]
    split
    · have := addC_c l k (by omega); simp only [Tr.c]; omega
    · have := addC_c r (k - (l.c + 1)) (by omega); simp only [Tr.c]; omega

theorem addC_leaf (t : Tr) (k : Nat) (h : k ≤ t.c) : (addC t k).isLeaf = false := by
  have := addC_c t k h
  cases e : addC t k with
  | leaf => rw [e] at this; simp [Tr.c] at this
  | node l r => rfl

theorem grow_addC : ∀ (t : Tr) (k n m : Nat), k ≤ t.c → m = n + k → growT (caretAt m) t n = addC t k
  | .leaf, k, n, m, h, e => by
    simp only [Tr.c] at h
    have h0 : k = 0 := by omega
    subst h0
    rw [growT, caretAt_at, if_pos (by omega)]; rfl
  | .node l r, k, n, m, h, e => by
    simp only [Tr.c] at h
    rw [growT, addC]
    by_cases hk : k < l.c + 1
    · rw [if_pos hk, grow_addC l k n m (by omega) e, grow_none (caretAt m) r _ (fun i h1 h2 => by rw [caretAt_at, if_neg (by omega)])]
    · rw [if_neg hk, grow_none (caretAt m) l n (fun i h1 h2 => by rw [caretAt_at, if_neg (by omega)]), grow_addC r (k - (l.c + 1)) (n + (l.c + 1)) m (by omega) (by omega)]

theorem fOf_addC (a b : Tr) (k : Nat) (h : a.c = b.c) (hk : k ≤ a.c) : fOf (addC a k, addC b k) = fOf (a, b) := by
  funext s
  rw [← fOf_grow (caretAt k) a b h s, grow_addC a k 0 k hk (by omega), grow_addC b k 0 k (by omega) (by omega)]

/-- On which side a leaf is. -/
def sdC : Tr → Int → Bool → Nat → Int
  | .leaf, s, _, _ => s
  | .node l r, s, wh, k => if k < l.c + 1 then sdC l (if s = 0 then 0 else 2) false k else sdC r (if wh = true ∨ s = 1 then 1 else 2) false (k - (l.c + 1))

/-- The same, or the last one's flag is down. -/
def lastF (Q Q0 : List Mk) : Prop := Q = Q0 ∨ ∃ Z x, Q0 = Z ++ [(x, true)] ∧ Q = Z ++ [(x, false)]

theorem lastF.app {Q Q0 : List Mk} (A : List Mk) (h : lastF Q Q0) : lastF (A ++ Q) (A ++ Q0) := by
  rcases h with rfl | ⟨Z, x, rfl, rfl⟩
  · exact .inl rfl
  · exact .inr ⟨A ++ Z, x, by rw [List.append_assoc], by rw [List.append_assoc]⟩

theorem ins : ∀ (t : Tr) (s : Int) (wh : Bool) (k : Nat), k ≤ t.c →
    ∃ Q Q0 R, mkT t s wh = Q0 ++ R ∧ mkT (addC t k) s wh = Q ++ (sdC t s wh k, true) :: R ∧ Q0.length = k ∧ lastF Q Q0
  | .leaf, s, wh, k, h => by
    simp only [Tr.c] at h
    have : k = 0 := by omega
    subst this
    exact ⟨[], [], [], rfl, by simp [addC, mkT, sdC, Tr.isLeaf], rfl, .inl rfl⟩
  | .node l r, s, wh, k, h => by
    simp only [Tr.c] at h
    by_cases hk : k < l.c + 1
    · obtain ⟨Q, Q0, R, e1, e2, e3, e4⟩ := ins l (if s = 0 then 0 else 2) false k (by omega)
      refine ⟨Q, Q0, R ++ [(s, r.isLeaf)] ++ mkT r (if wh = true ∨ s = 1 then 1 else 2) false, ?_, ?_, e3, e4⟩
      · rw [mkT, e1]; simp
      · rw [addC, if_pos hk, mkT, e2, sdC, if_pos hk]; simp
    · obtain ⟨Q, Q0, R, e1, e2, e3, e4⟩ := ins r (if wh = true ∨ s = 1 then 1 else 2) false (k - (l.c + 1)) (by omega)
      have hl := mkT_len l (if s = 0 then 0 else 2) false
      have hadd := addC_leaf r (k - (l.c + 1)) (by omega)
      rw [addC, if_neg hk, sdC, if_neg hk, mkT, mkT, hadd, e2, e1]
      cases r with
      | leaf =>
        have e0 : Q0 = [] ∧ R = [] := by
          simp only [mkT] at e1
          exact List.append_eq_nil_iff.1 e1.symm
        obtain ⟨rfl, rfl⟩ := e0
        have hQ : Q = [] := by
          rcases e4 with h | ⟨Z, x, h, _⟩
          · exact h
          · simp at h
        subst hQ
        refine ⟨mkT l (if s = 0 then 0 else 2) false ++ [(s, false)], mkT l (if s = 0 then 0 else 2) false ++ [(s, true)], [], by simp [Tr.isLeaf], by simp, ?_, .inr ⟨_, s, rfl, rfl⟩⟩
        simp only [List.length_append, List.length_singleton, hl]
        simp only [Tr.c] at h
        omega
      | node x y =>
        refine ⟨(mkT l (if s = 0 then 0 else 2) false ++ [(s, false)]) ++ Q, (mkT l (if s = 0 then 0 else 2) false ++ [(s, false)]) ++ Q0, R, by simp [Tr.isLeaf], by simp, ?_, e4.app _⟩
        simp only [List.length_append, List.length_singleton, hl, e3]
        omega

theorem sd2 : ∀ (t : Tr) (k : Nat), sdC t 2 false k = 2
  | .leaf, _ => rfl
  | .node l r, k => by
    rw [sdC]
    have e1 : (if (2 : Int) = 0 then (0 : Int) else 2) = 2 := by decide
    have e2 : (if false = true ∨ (2 : Int) = 1 then (1 : Int) else 2) = 2 := by decide
    rw [e1, e2, sd2 l, sd2 r]
    simp

theorem sd1 : ∀ (t : Tr) (k : Nat), k ≤ t.c → sdC t 1 false k = if k = t.c then 1 else 2
  | .leaf, k, h => by
    simp only [Tr.c] at h
    rw [if_pos (by simp only [Tr.c]; omega)]; rfl
  | .node l r, k, h => by
    simp only [Tr.c] at h
    rw [sdC]
    have e1 : (if (1 : Int) = 0 then (0 : Int) else 2) = 2 := by decide
    have e2 : (if false = true ∨ (1 : Int) = 1 then (1 : Int) else 2) = 1 := by decide
    rw [e1, e2, sd2 l]
    by_cases hk : k < l.c + 1
    · rw [if_pos hk, if_neg (by simp only [Tr.c]; omega)]
    · rw [if_neg hk, sd1 r _ (by omega)]
      by_cases he : k - (l.c + 1) = r.c
      · rw [if_pos he, if_pos (by simp only [Tr.c]; omega)]
      · rw [if_neg he, if_neg (by simp only [Tr.c]; omega)]

theorem sd0 : ∀ (t : Tr) (k : Nat), k ≤ t.c → sdC t 0 false k = if k = 0 then 0 else 2
  | .leaf, k, h => by
    simp only [Tr.c] at h
    rw [if_pos (by omega)]; rfl
  | .node l r, k, h => by
    simp only [Tr.c] at h
    rw [sdC]
    have e1 : (if (0 : Int) = 0 then (0 : Int) else 2) = 0 := by decide
    have e2 : (if false = true ∨ (0 : Int) = 1 then (1 : Int) else 2) = 2 := by decide
    rw [e1, e2, sd2 r]
    by_cases hk : k < l.c + 1
    · rw [if_pos hk, sd0 l k (by omega)]
    · rw [if_neg hk, if_neg (by omega)]

/-- On which side a leaf of a whole tree is. -/
theorem sdT (l r : Tr) (k : Nat) (h : k ≤ (Tr.node l r).c) : sdC (.node l r) 0 true k = if k = 0 then 0 else if k = (Tr.node l r).c then 1 else 2 := by
  simp only [Tr.c] at h
  rw [sdC]
  have e1 : (if (0 : Int) = 0 then (0 : Int) else 2) = 0 := by decide
  have e2 : (if true = true ∨ (0 : Int) = 1 then (1 : Int) else 2) = 1 := by decide
  rw [e1, e2]
  by_cases hk : k < l.c + 1
  · rw [if_pos hk, sd0 l k (by omega)]
    by_cases h0 : k = 0
    · rw [if_pos h0, if_pos h0]
    · rw [if_neg h0, if_neg h0, if_neg (by simp only [Tr.c]; omega)]
  · have h0 : k ≠ 0 := by omega
    rw [if_neg hk, sd1 r _ (by omega), if_neg h0]
    by_cases he : k - (l.c + 1) = r.c
    · rw [if_pos he, if_pos (by simp only [Tr.c]; omega)]
    · rw [if_neg he, if_neg (by simp only [Tr.c]; omega)]

/-! ### Lengths -/

/-- Flags of carets at the sides do not matter. -/
def nrm (m : Mk) : Mk := if m.1 = 0 ∨ m.1 = 1 then (m.1, true) else m

theorem nrm_1 (m : Mk) : (nrm m).1 = m.1 := by unfold nrm; split <;> rfl

theorem notR_nrm (r : List Mk) : notR (r.map nrm) = notR r := by
  unfold notR
  rw [List.any_map]
  congr 1
  funext m
  simp only [Function.comp, nrm_1]

theorem kd_nrm (m : Mk) (r : List Mk) : kd (nrm m) (r.map nrm) = kd m r := by
  have h0 : ((r.map nrm).getD 0 (0, false)).1 = (r.getD 0 (0, false)).1 := by
    cases r with
    | nil => rfl
    | cons x r => exact nrm_1 x
  unfold kd
  rw [nrm_1, notR_nrm, h0]
  by_cases h1 : m.1 = 0
  · rw [if_pos h1, if_pos h1]
  · by_cases h2 : m.1 = 1
    · rw [if_neg h1, if_neg h1, if_pos h2, if_pos h2]
    · have : nrm m = m := by unfold nrm; rw [if_neg (by omega)]
      rw [this]

theorem ls_nrm : ∀ M N : List Mk, ls (M.map nrm) (N.map nrm) = ls M N
  | [], _ => by cases ‹List Mk› <;> rfl
  | _ :: _, [] => rfl
  | m :: M, n :: N => by
    rw [List.map_cons, List.map_cons, ls_cons, ls_cons, kd_nrm, kd_nrm, ls_nrm M N]

theorem notR_app (M X : List Mk) : notR (M ++ X) = (notR M || notR X) := by unfold notR; rw [List.any_append]

theorem kd_app1 (m : Mk) (r : List Mk) : kd m (r ++ [((1 : Int), true)]) = kd m r := by
  have hn : notR (r ++ [((1 : Int), true)]) = notR r := by
    rw [notR_app]
    have : notR [((1 : Int), true)] = false := by decide
    rw [this, Bool.or_false]
  unfold kd
  rw [hn]
  cases r with
  | nil =>
    have : notR ([] : List Mk) = false := rfl
    rw [this]
    simp
  | cons x r => rfl

/-- A caret at the right end of both. -/
theorem ls_app1 : ∀ M N : List Mk, M.length = N.length → ls (M ++ [((1 : Int), true)]) (N ++ [((1 : Int), true)]) = ls M N
  | [], [], _ => by
    show tabV (kd (1, true) []) (kd (1, true) []) + 0 = 0
    have : kd (1, true) [] = sR0 := by decide +kernel
    rw [this, tab_R00]; rfl
  | m :: M, n :: N, h => by
    rw [List.cons_append, List.cons_append, ls_cons, ls_cons, kd_app1, kd_app1, ls_app1 M N (by simpa using h)]

/-- The side of the last caret. -/
theorem last_side : ∀ (l r : Tr) (s : Int) (wh : Bool), (wh = true ∨ s = 1) → (s = 0 ∨ s = 1) → ∀ Z x, mkT (.node l r) s wh = Z ++ [x] → x.1 = 0 ∨ x.1 = 1
  | l, .leaf, s, wh, h, hs, Z, x, e => by
    simp only [mkT, List.append_nil] at e
    have := (List.append_inj' e rfl).2
    simp at this
    rw [← this]
    exact hs
  | l, .node a b, s, wh, h, hs, Z, x, e => by
    rw [mkT, if_pos h] at e
    have hne : mkT (.node a b) 1 false ≠ [] := by
      intro e
      have := congrArg List.length e
      rw [mkT_len] at this
      simp [Tr.c] at this
    obtain ⟨Y, y, hY⟩ : ∃ Y y, mkT (.node a b) 1 false = Y ++ [y] := by
      rcases List.eq_nil_or_concat (mkT (.node a b) 1 false) with h | ⟨Y, y, h⟩
      · exact absurd h hne
      · exact ⟨Y, y, by simpa using h⟩
    rw [hY, ← List.append_assoc] at e
    have := (List.append_inj' e rfl).2
    simp at this
    rw [← this]
    exact last_side a b 1 false (.inr rfl) (.inr rfl) Y y hY

theorem lastF_nrm {Q Q0 : List Mk} (h : lastF Q Q0) (hx : ∀ Z x, Q0 = Z ++ [x] → x.1 = 0 ∨ x.1 = 1) : Q.map nrm = Q0.map nrm := by
  rcases h with rfl | ⟨Z, x, rfl, rfl⟩
  · rfl
  · have := hx Z (x, true) rfl
    simp only at this
    rw [List.map_append, List.map_append, List.map_singleton, List.map_singleton]
    congr 2
    unfold nrm
    rw [if_pos this, if_pos this]

theorem ins_last (l r : Tr) : ∃ Q, mkT (addC (.node l r) (Tr.node l r).c) 0 true = Q ++ [((1 : Int), true)] ∧ Q.map nrm = (mkT (.node l r) 0 true).map nrm ∧ Q.length = (Tr.node l r).c := by
  obtain ⟨Q, Q0, R, e1, e2, e3, e4⟩ := ins (.node l r) 0 true _ (Nat.le_refl _)
  have hl := mkT_len (.node l r) 0 true
  have hR : R = [] := by
    rw [e1, List.length_append, e3] at hl
    exact List.length_eq_zero_iff.1 (by omega)
  subst hR
  rw [List.append_nil] at e1
  rw [sdT l r _ (Nat.le_refl _), if_neg (by simp only [Tr.c]; omega), if_pos rfl] at e2
  have hn := lastF_nrm e4 (fun Z x h => last_side l r 0 true (.inl rfl) (.inl rfl) Z x (by rw [e1, h]))
  refine ⟨Q, e2, by rw [hn, e1], ?_⟩
  have := congrArg List.length hn
  rw [List.length_map, List.length_map] at this
  omega

/-- A caret at the last leaf of both trees. -/
theorem len_last (S T : Tr) (h : S.c = T.c) (h0 : 0 < S.c) : lenT (addC S S.c, addC T T.c) = lenT (S, T) := by
  cases S with
  | leaf => simp [Tr.c] at h0
  | node l r =>
    cases T with
    | leaf => rw [h] at h0; simp [Tr.c] at h0
    | node l' r' =>
      obtain ⟨Q, e1, e2, e3⟩ := ins_last l r
      obtain ⟨P, f1, f2, f3⟩ := ins_last l' r'
      have a1 := addC_c (.node l r) _ (Nat.le_refl _)
      have a2 := addC_c (.node l' r') _ (Nat.le_refl _)
      rw [lenT_ls _ (by simp only; omega), lenT_ls _ h]
      simp only
      rw [e1, f1, tail_app (by intro e; rw [e] at e3; simp at e3; omega), tail_app (by intro e; rw [e] at f3; simp at f3; omega), ls_app1 _ _ (by simp; omega), ← ls_nrm,
        ← ls_nrm (mkT (.node l r) 0 true).tail, List.map_tail, List.map_tail, List.map_tail, List.map_tail, e2, f2]

theorem head_0 : ∀ (t : Tr) (wh : Bool) (m : Mk) (M : List Mk), mkT t 0 wh = m :: M → m.1 = 0
  | .leaf, _, _, _, h => by simp [mkT] at h
  | .node l r, wh, m, M, h => by
    rw [mkT] at h
    have e1 : (if (0 : Int) = 0 then (0 : Int) else 2) = 0 := by decide
    rw [e1] at h
    cases hl : mkT l 0 false with
    | nil =>
      rw [hl] at h
      simp at h
      rw [← h.1]
    | cons x X =>
      rw [hl] at h
      simp at h
      rw [← h.1]
      exact head_0 l false x X hl

/-- A caret at the first leaf, and one more on the right side. -/
theorem len_first (c T : Tr) (h : (Tr.node .leaf c).c = T.c) : lenT (.node .leaf (.node .leaf c), addC T 0) = lenT (.node .leaf c, T) + 1 := by
  have hT : 0 < T.c := by simp only [Tr.c] at h; omega
  have a := addC_c T 0 (by omega)
  cases T with
  | leaf => simp [Tr.c] at hT
  | node l r =>
    obtain ⟨Q, Q0, R, e1, e2, e3, e4⟩ := ins (.node l r) 0 true 0 (by omega)
    have hQ0 : Q0 = [] := List.length_eq_zero_iff.1 e3
    subst hQ0
    have hQ : Q = [] := by
      rcases e4 with h | ⟨Z, x, h, _⟩
      · exact h
      · simp at h
    subst hQ
    rw [List.nil_append] at e1 e2
    rw [lenT_ls _ (by simp only [Tr.c] at h a ⊢; omega), lenT_ls _ h]
    simp only
    rw [e2, e1, mk_root, mk_root, mk_right]
    have hl := mkT_len (.node l r) 0 true
    rw [e1] at hl
    obtain ⟨n, N, hR⟩ : ∃ n N, R = n :: N := by
      cases R with
      | nil => simp only [List.length_nil, Tr.c] at hl; omega
      | cons n N => exact ⟨n, N, rfl⟩
    have hn := head_0 (.node l r) true n N (by rw [e1, hR])
    rw [hR]
    simp only [mkT, List.nil_append, List.tail_cons, List.singleton_append]
    rw [ls_cons, kd_zero n N hn, (tab_RL _ (kd_right (1, c.isLeaf) (mkT c 1 false) rfl)).1]
    omega

theorem kd_one (n y : Mk) (Z : List Mk) (h1 : n.1 = 1) (hn : notR (y :: Z) = true) : kd n (y :: Z) = if y.1 = 2 then sRI else sRN := by
  unfold kd
  rw [if_neg (by omega), if_pos h1, if_pos hn]
  rfl

/-- The ends of two rows, the second one with something put in. -/
theorem ls_mid : ∀ (P Q Q0 : List Mk) (b : Bool) (X Y R : List Mk), (∀ m ∈ P, m.1 ≠ 1 ∧ (m.1 = 0 ∨ m.1 = 2)) → Q0.length = P.length + 1 → lastF Q Q0 →
    ls (P ++ [((0 : Int), b)] ++ Y) (Q ++ ((2 : Int), true) :: R) - ls Y (((2 : Int), true) :: R) = ls (P ++ [((0 : Int), b)] ++ X) (Q0 ++ R) - ls X R
  | [], Q, Q0, b, X, Y, R, _, hl, hf => by
    obtain ⟨n0, e0⟩ : ∃ n0, Q0 = [n0] := List.length_eq_one_iff.1 hl
    subst e0
    obtain ⟨n, e, hn⟩ : ∃ n, Q = [n] ∧ n.1 = n0.1 := by
      rcases hf with rfl | ⟨Z, x, h, rfl⟩
      · exact ⟨n0, rfl, rfl⟩
      · have hZ : Z = [] := by
          have := congrArg List.length h
          simp at this
          exact this
        subst hZ
        simp at h
        exact ⟨_, rfl, by rw [h]⟩
    subst e
    simp only [List.nil_append, List.singleton_append, ls_cons]
    rw [kd_zero (0, b) _ rfl, kd_zero (0, b) _ rfl]
    have : tabV sLL (kd n (((2 : Int), true) :: R)) = tabV sLL (kd n0 R) := by
      by_cases h0 : n.1 = 0
      · rw [kd_zero _ _ h0, kd_zero _ _ (by omega)]
      · by_cases h1 : n.1 = 1
        · rw [(tab_RL _ (kd_right n _ h1)).2, (tab_RL _ (kd_right n0 _ (by omega))).2]
        · have key : ∀ (m : Mk) (r : List Mk), m.1 ≠ 0 → m.1 ≠ 1 → tabV sLL (kd m r) = 2 := fun m r g0 g1 => by
            unfold kd
            rw [if_neg g0, if_neg g1]
            split
            · exact tab_LI.1
            · exact tab_LI.2
          rw [key n _ h0 h1, key n0 _ (by omega) (by omega)]
    omega
  | m :: P, Q, Q0, b, X, Y, R, hP, hl, hf => by
    obtain ⟨n, Q2, Q02, e1, e2, hf2⟩ : ∃ n Q2 Q02, Q = n :: Q2 ∧ Q0 = n :: Q02 ∧ lastF Q2 Q02 := by
      rcases hf with rfl | ⟨Z, x, h1, h2⟩
      · cases Q with
        | nil => simp at hl
        | cons n Q2 => exact ⟨n, Q2, Q2, rfl, rfl, .inl rfl⟩
      · cases Z with
        | nil => rw [h1] at hl; simp at hl
        | cons n Z => exact ⟨n, Z ++ [(x, false)], Z ++ [(x, true)], h2, h1, .inr ⟨Z, x, rfl, rfl⟩⟩
    subst e1; subst e2
    have hl2 : Q02.length = P.length + 1 := by simpa using hl
    have ih := ls_mid P Q2 Q02 b X Y R (fun x hx => hP x (by simp [hx])) hl2 hf2
    simp only [List.cons_append, ls_cons]
    have hm := hP m (by simp)
    rw [kd_left m (P ++ [((0 : Int), b)] ++ Y) (P ++ [((0 : Int), b)] ++ X) hm.1]
    have hk : tabV (kd m (P ++ [((0 : Int), b)] ++ X)) (kd n (Q2 ++ ((2 : Int), true) :: R)) = tabV (kd m (P ++ [((0 : Int), b)] ++ X)) (kd n (Q02 ++ R)) := by
      by_cases h1 : n.1 = 1
      · -- heads
        obtain ⟨y, y0, Y2, Y02, g1, g2, g3, g4⟩ : ∃ y y0 Y2 Y02, Q2 = y :: Y2 ∧ Q02 = y0 :: Y02 ∧ y.1 = y0.1 ∧ lastF (y :: Y2) (y0 :: Y02) := by
          rcases hf2 with rfl | ⟨Z, x, h1, h2⟩
          · cases Q2 with
            | nil => simp at hl2
            | cons y Y2 => exact ⟨y, y, Y2, Y2, rfl, rfl, rfl, .inl rfl⟩
          · cases Z with
            | nil => exact ⟨(x, false), (x, true), [], [], h2, h1, rfl, .inr ⟨[], x, rfl, rfl⟩⟩
            | cons y Z => exact ⟨y, y, Z ++ [(x, false)], Z ++ [(x, true)], h2, h1, rfl, .inr ⟨y :: Z, x, rfl, rfl⟩⟩
        subst g1; subst g2
        have n1 : notR ((y :: Y2) ++ ((2 : Int), true) :: R) = true := by
          rw [notR_app]
          have : notR (((2 : Int), true) :: R) = true := by simp [notR]
          rw [this, Bool.or_true]
        by_cases h2 : y.1 = 2
        · have n0 : notR ((y0 :: Y02) ++ R) = true := by
            have : (y0.1 == 1) = false := beq_f (by omega)
            simp [notR, this]
          have a1 : kd n ((y :: Y2) ++ ((2 : Int), true) :: R) = sRI := by
            rw [List.cons_append] at n1 ⊢; rw [kd_one n y _ h1 n1, if_pos h2]
          have a2 : kd n ((y0 :: Y02) ++ R) = sRI := by
            rw [List.cons_append] at n0 ⊢; rw [kd_one n y0 _ h1 n0, if_pos (by omega)]
          rw [a1, a2]
        · have a1 : kd n ((y :: Y2) ++ ((2 : Int), true) :: R) = sRN := by
            rw [List.cons_append] at n1 ⊢; rw [kd_one n y _ h1 n1, if_neg h2]
          have a2 : kd n ((y0 :: Y02) ++ R) = sRN ∨ kd n ((y0 :: Y02) ++ R) = sR0 := by
            cases hq : notR ((y0 :: Y02) ++ R) with
            | true => rw [List.cons_append] at hq ⊢; rw [kd_one n y0 _ h1 hq, if_neg (by omega)]; exact .inl rfl
            | false => right; unfold kd; rw [if_neg (by omega), if_pos h1, hq]; rfl
          have hx : kd m (P ++ [((0 : Int), b)] ++ X) ∈ [sLL, sI0, sIR] := by
            unfold kd
            by_cases g : m.1 = 0
            · rw [if_pos g]; simp
            · rw [if_neg g, if_neg hm.1]
              split <;> simp
          have := tab_NR _ hx
          rw [a1]
          rcases a2 with a2 | a2 <;> rw [a2]
          exact this
      · rw [kd_left n _ (Q02 ++ R) h1]
    omega

/-- A caret in the midst, and one more on the right side. -/
theorem len_mid (a d T : Tr) (h : (Tr.node a (.node .leaf d)).c = T.c) : lenT (.node a (.node .leaf (.node .leaf d)), addC T (a.c + 1)) = lenT (.node a (.node .leaf d), T) + 1 := by
  have hT : a.c + 1 < T.c := by simp only [Tr.c] at h; omega
  have ha := addC_c T (a.c + 1) (by omega)
  have la := mkT_len a 0 false
  cases T with
  | leaf => simp [Tr.c] at hT
  | node l r =>
    obtain ⟨Q, Q0, R, e1, e2, e3, e4⟩ := ins (.node l r) 0 true (a.c + 1) (by omega)
    rw [sdT l r _ (by omega), if_neg (by omega), if_neg (by omega)] at e2
    rw [lenT_ls _ (by simp only [Tr.c] at h ha ⊢; omega), lenT_ls _ h]
    simp only
    rw [e2, e1, mk_root, mk_root, mk_right, mk_right]
    have f1 : (Tr.node .leaf (.node .leaf d)).isLeaf = false := rfl
    have f2 : (Tr.node .leaf d).isLeaf = false := rfl
    rw [f1, f2]
    have e6 : mkT a 0 false ++ [((0 : Int), false)] ++ (mkT .leaf 2 false ++ [((1 : Int), d.isLeaf)] ++ mkT d 1 false) = mkT a 0 false ++ [((0 : Int), false)] ++ (((1 : Int), d.isLeaf) :: mkT d 1 false) := by
      simp [mkT]
    rw [show mkT a 0 false ++ [((0 : Int), false)] ++ (mkT .leaf 2 false ++ [((1 : Int), false)] ++ (mkT .leaf 2 false ++ [((1 : Int), d.isLeaf)] ++ mkT d 1 false)) = mkT a 0 false ++ [((0 : Int), false)] ++ (((1 : Int), false) :: ((1 : Int), d.isLeaf) :: mkT d 1 false) by simp [mkT], e6]
    -- the end of both
    have hend : ls (((1 : Int), false) :: ((1 : Int), d.isLeaf) :: mkT d 1 false) (((2 : Int), true) :: R) = ls (((1 : Int), d.isLeaf) :: mkT d 1 false) R + 1 := by
      rw [ls_cons]
      have k1 : kd (2, true) R = sI0 := by simp [kd]
      have k2 : kd (1, false) (((1 : Int), d.isLeaf) :: mkT d 1 false) ∈ [sRN, sR0] := by
        unfold kd
        rw [if_neg (by decide), if_pos rfl]
        split
        · simp
        · simp
      rw [k1, tab_RI0 _ k2]
      omega
    have hsides : ∀ m ∈ mkT a 0 false, m.1 ≠ 1 ∧ (m.1 = 0 ∨ m.1 = 2) := fun m hm => by
      have h1 := mkT_no1 a 0 (by decide) m hm
      have h2 := mkT_sides a 0 false (.inl rfl) m hm
      exact ⟨h1, by omega⟩
    cases hA : mkT a 0 false with
    | nil =>
      rw [hA] at la
      have ea : a.c = 0 := by simpa using la.symm
      rw [ea] at e3
      obtain ⟨n0, hq0⟩ : ∃ n0, Q0 = [n0] := List.length_eq_one_iff.1 e3
      subst hq0
      obtain ⟨n, hq⟩ : ∃ n, Q = [n] := by
        rcases e4 with rfl | ⟨Z, x, h, rfl⟩
        · exact ⟨n0, rfl⟩
        · have hZ : Z = [] := by
            have := congrArg List.length h
            simp at this
            exact this
          subst hZ
          exact ⟨_, rfl⟩
      subst hq
      simp only [List.nil_append, List.singleton_append, List.tail_cons]
      exact hend
    | cons m A =>
      rw [hA] at la hsides
      have hl0 : Q0.length = (m :: A).length + 1 := by rw [e3, la]
      obtain ⟨n, Q2, Q02, g1, g2, hf2⟩ : ∃ n Q2 Q02, Q = n :: Q2 ∧ Q0 = n :: Q02 ∧ lastF Q2 Q02 := by
        rcases e4 with rfl | ⟨Z, x, h1, h2⟩
        · cases Q with
          | nil => simp at hl0
          | cons n Q2 => exact ⟨n, Q2, Q2, rfl, rfl, .inl rfl⟩
        · cases Z with
          | nil => rw [h1] at hl0; simp at hl0
          | cons n Z => exact ⟨n, Z ++ [(x, false)], Z ++ [(x, true)], h2, h1, .inr ⟨Z, x, rfl, rfl⟩⟩
      subst g1; subst g2
      have := ls_mid A Q2 Q02 false (((1 : Int), d.isLeaf) :: mkT d 1 false) (((1 : Int), false) :: ((1 : Int), d.isLeaf) :: mkT d 1 false) R (fun x hx => hsides x (by simp [hx])) (by simpa using hl0) hf2
      simp only [List.cons_append, List.tail_cons]
      omega

end Go.AI
