/- A letter in front changes the length by one at most. -/
import Derived.Test.YtlimomnchicfgaaFb
set_option autoImplicit false
set_option maxRecDepth 100000
set_option linter.unusedVariables false
namespace Go.AI

/-! ### Exposed carets -/

theorem mem_ex (l r : Tr) (j : Nat) : j ∈ exL (.node l r) 0 ↔ (l.isLeaf = true ∧ r.isLeaf = true ∧ j = 0) ∨ j ∈ exL l 0 ∨ ∃ i, i ∈ exL r 0 ∧ j = i + (l.c + 1) := by
  rw [exL_node]
  have hs := exL_shift r 0 (l.c + 1)
  rw [Nat.zero_add] at hs
  have e0 : 0 + l.c + 1 = l.c + 1 := by omega
  rw [e0, hs]
  by_cases hb : l.isLeaf = true ∧ r.isLeaf = true
  · rw [if_pos hb]
    have hl : l = .leaf := by cases l <;> simp_all [Tr.isLeaf]
    have hr : r = .leaf := by cases r <;> simp_all [Tr.isLeaf]
    subst hl; subst hr
    simp [exL, Tr.isLeaf]
  · rw [if_neg hb, List.mem_append, List.mem_map]
    constructor
    · rintro (h | ⟨i, h1, rfl⟩)
      · exact .inr (.inl h)
      · exact .inr (.inr ⟨i, h1, rfl⟩)
    · rintro (⟨h1, h2, _⟩ | h | ⟨i, h1, rfl⟩)
      · exact absurd ⟨h1, h2⟩ hb
      · exact .inl h
      · exact .inr ⟨i, h1, rfl⟩

theorem ex_addC : ∀ (t : Tr) (k j : Nat), k ≤ t.c → j ∈ exL (addC t k) 0 → j = k ∨ (j + 1 < k ∧ j ∈ exL t 0) ∨ (k + 1 < j ∧ j - 1 ∈ exL t 0)
  | .leaf, k, j, h, hj => by
    simp only [Tr.c] at h
    have : k = 0 := by omega
    subst this
    rw [addC, if_pos rfl, mem_ex] at hj
    rcases hj with ⟨_, _, h⟩ | h | ⟨i, h, _⟩
    · exact .inl h
    · simp [exL] at h
    · simp [exL] at h
  | .node l r, k, j, h, hj => by
    simp only [Tr.c] at h
    rw [addC] at hj
    by_cases hk : k < l.c + 1
    · rw [if_pos hk, mem_ex] at hj
      have hc := addC_c l k (by omega)
      rcases hj with ⟨h1, _, _⟩ | h1 | ⟨i, h1, e⟩
      · rw [addC_leaf l k (by omega)] at h1; cases h1
      · rcases ex_addC l k j (by omega) h1 with g | ⟨g1, g2⟩ | ⟨g1, g2⟩
        · exact .inl g
        · exact .inr (.inl ⟨g1, (mem_ex l r j).2 (.inr (.inl g2))⟩)
        · exact .inr (.inr ⟨g1, (mem_ex l r _).2 (.inr (.inl g2))⟩)
      · exact .inr (.inr ⟨by omega, (mem_ex l r _).2 (.inr (.inr ⟨i, h1, by omega⟩))⟩)
    · rw [if_neg hk, mem_ex] at hj
      rcases hj with ⟨_, h1, _⟩ | h1 | ⟨i, h1, e⟩
      · rw [addC_leaf r _ (by omega)] at h1; cases h1
      · have := exL_range l 0 j h1
        exact .inr (.inl ⟨by omega, (mem_ex l r j).2 (.inr (.inl h1))⟩)
      · rcases ex_addC r (k - (l.c + 1)) i (by omega) h1 with g | ⟨g1, g2⟩ | ⟨g1, g2⟩
        · exact .inl (by omega)
        · exact .inr (.inl ⟨by omega, (mem_ex l r j).2 (.inr (.inr ⟨i, g2, e⟩))⟩)
        · exact .inr (.inr ⟨by omega, (mem_ex l r _).2 (.inr (.inr ⟨i - 1, g2, by omega⟩))⟩)

theorem both_nil {p : Tr × Tr} (h : ∀ j, j ∈ exL p.1 0 → j ∈ exL p.2 0 → False) : bothL p = [] := by
  cases hb : bothL p with
  | nil => rfl
  | cons j L =>
    have hm : j ∈ bothL p := by rw [hb]; simp
    exact (h j (bothL_mem hm).1 (bothL_mem hm).2).elim

theorem not_both {p : Tr × Tr} (h : bothL p = []) (j : Nat) (h1 : j ∈ exL p.1 0) (h2 : j ∈ exL p.2 0) : False := by
  have : j ∈ bothL p := by
    unfold bothL
    rw [List.mem_filter]
    exact ⟨h1, by simpa using h2⟩
  rw [h] at this
  cases this

theorem red_lt (p : Tr × Tr) (n : Nat) (hn : 0 < n) (h : bothL p ≠ []) : (red n p).1.c < p.1.c := by
  cases n with
  | zero => omega
  | succ n =>
    rw [red]
    cases hb : bothL p with
    | nil => exact absurd hb h
    | cons k L =>
      have hm : k ∈ bothL p := by rw [hb]; simp
      have hc := wo_c p.1 k (bothL_mem hm).1
      have := (red_c n (wo p.1 k, wo p.2 k)).1
      simp only at this ⊢
      omega

/-! ### Rotations are letters -/

theorem rot0_f (a b c T : Tr) (h : (Tr.node a (.node b c)).c = T.c) (s : St2) : fOf (.node (.node a b) c, T) s = fOf (.node a (.node b c), T) (fOf (genT 0) s) := by
  have e1 : growT [a, b, c] (genT 0).1 0 = .node (.node a b) c := rfl
  have e2 : growT [a, b, c] (genT 0).2 0 = .node a (.node b c) := rfl
  have hg := fOf_grow [a, b, c] (genT 0).1 (genT 0).2 rfl s
  rw [e1, e2] at hg
  have hc := fOf_comp (.node (.node a b) c) (.node a (.node b c)) T (by simp only [Tr.c]; omega) s
  rw [← hc, hg]

theorem rot1_f (a b c d T : Tr) (h : (Tr.node a (.node b (.node c d))).c = T.c) (s : St2) : fOf (.node a (.node (.node b c) d), T) s = fOf (.node a (.node b (.node c d)), T) (fOf (genT 1) s) := by
  have e1 : growT [a, b, c, d] (genT 1).1 0 = .node a (.node (.node b c) d) := rfl
  have e2 : growT [a, b, c, d] (genT 1).2 0 = .node a (.node b (.node c d)) := rfl
  have hg := fOf_grow [a, b, c, d] (genT 1).1 (genT 1).2 rfl s
  rw [e1, e2] at hg
  have hc := fOf_comp (.node a (.node (.node b c) d)) (.node a (.node b (.node c d))) T (by simp only [Tr.c]; omega) s
  rw [← hc, hg]

theorem gen_onto (i : Nat) (t : St2) : ∃ s, fOf (genT i) s = t := by
  have hc := gen_c i
  refine ⟨fOf ((genT i).2, (genT i).1) t, ?_⟩
  exact fOf_inv (genT i).2 (genT i).1 (by omega) t

/-- Two reduced pairs, the second one with a letter in front of the first one. -/
structure Nb (i : Nat) (p q : Tr × Tr) : Prop where
  pe : p.1.c = p.2.c
  qe : q.1.c = q.2.c
  pr : bothL p = []
  qr : bothL q = []
  f : ∀ s, fOf q s = fOf p (fOf (genT i) s)

def near (x y : Int) : Prop := -1 ≤ x - y ∧ x - y ≤ 1

theorem leaf_pair {p : Tr × Tr} (h : p.1.c = p.2.c) (h0 : p.1 = .leaf) : p = (.leaf, .leaf) := by
  have : p.2 = .leaf := by
    rw [h0] at h
    cases h2 : p.2 with
    | leaf => rfl
    | node l r => rw [h2] at h; simp only [Tr.c] at h; omega
  exact Prod.ext h0 this

theorem fOf_id (s : St2) : fOf (.leaf, .leaf) s = s := rfl

/-- From the identity. -/
theorem Nb.one {i : Nat} {p q : Tr × Tr} (h : Nb i p q) (h0 : p.1 = .leaf) (hg : bothL (genT i) = []) : p = (.leaf, .leaf) ∧ q = genT i := by
  have e := leaf_pair h.pe h0
  refine ⟨e, red_unique _ _ h.qe (by have := gen_c i; omega) h.qr hg fun s => ?_⟩
  rw [h.f, e, fOf_id]

theorem Nb.one' {i : Nat} {p q : Tr × Tr} (h : Nb i p q) (h0 : q.1 = .leaf) (hg : bothL ((genT i).2, (genT i).1) = []) : q = (.leaf, .leaf) ∧ p = ((genT i).2, (genT i).1) := by
  have e := leaf_pair h.qe h0
  refine ⟨e, red_unique _ _ h.pe (by have := gen_c i; simp only; omega) h.pr hg fun s => ?_⟩
  obtain ⟨t, rfl⟩ := gen_onto i s
  rw [← h.f, e, fOf_id]
  exact (fOf_inv (genT i).1 (genT i).2 (by have := gen_c i; omega) t).symm

theorem gens : bothL (genT 0) = [] ∧ bothL (genT 1) = [] ∧ bothL ((genT 0).2, (genT 0).1) = [] ∧ bothL ((genT 1).2, (genT 1).1) = [] := by decide +kernel

theorem gens_len : lenT (.leaf, .leaf) = 0 ∧ lenT (genT 0) = 1 ∧ lenT (genT 1) = 1 ∧ lenT ((genT 0).2, (genT 0).1) = 1 ∧ lenT ((genT 1).2, (genT 1).1) = 1 := by decide +kernel

/-- What comes out of the rotated pair. -/
theorem Nb.q_is {i : Nat} {p q : Tr × Tr} (h : Nb i p q) (x : Tr × Tr) (hx : x.1.c = x.2.c) (hf : ∀ s, fOf x s = fOf p (fOf (genT i) s)) : q = red x.1.c x := by
  refine red_unique _ _ h.qe (red_eqc _ _ hx) h.qr (red_done _ _ (Nat.le_refl _)) fun s => ?_
  rw [h.f, fOf_red _ _ hx, hf]

theorem Nb.p_is {i : Nat} {p q : Tr × Tr} (h : Nb i p q) (x : Tr × Tr) (hx : x.1.c = x.2.c) (hf : ∀ s, fOf q s = fOf x (fOf (genT i) s)) : p = red x.1.c x := by
  refine red_unique _ _ h.pe (red_eqc _ _ hx) h.pr (red_done _ _ (Nat.le_refl _)) fun s => ?_
  obtain ⟨t, rfl⟩ := gen_onto i s
  rw [← h.f, fOf_red _ _ hx, ← hf]

theorem red_nil (x : Tr × Tr) (n : Nat) (h : bothL x = []) : red n x = x := by
  cases n with
  | zero => rfl
  | succ n => simp only [red, h]

theorem Nb.len0 {p q : Tr × Tr} (h : Nb 0 p q) : near (lenT p) (lenT q) := by
  obtain ⟨S, T⟩ := p
  have hpe : S.c = T.c := h.pe
  cases S with
  | leaf =>
    obtain ⟨e1, e2⟩ := h.one rfl gens.1
    rw [e1, e2, gens_len.1, gens_len.2.1]
    exact ⟨by omega, by omega⟩
  | node a r =>
    cases r with
    | leaf =>
      -- a caret is added at the last leaf
      have hl := len_last (.node a .leaf) T hpe (by simp only [Tr.c]; omega)
      have eU : addC (.node a .leaf) (Tr.node a .leaf).c = .node a (.node .leaf .leaf) := by
        rw [addC, if_neg (by simp only [Tr.c]; omega)]
        simp only [Tr.c]
        rw [show 1 + a.c + 0 - (a.c + 1) = 0 by omega]; rfl
      have hT := addC_c T T.c (Nat.le_refl _)
      have hc : (Tr.node a (.node .leaf .leaf)).c = (addC T T.c).c := by rw [hT, ← hpe]; simp only [Tr.c] <;> omega
      have hadd := fOf_addC (.node a .leaf) T (Tr.node a .leaf).c hpe (Nat.le_refl _)
      rw [hpe] at hadd
      rw [← hpe, eU] at hadd
      rw [eU] at hl
      have hr : bothL (Tr.node (.node a .leaf) .leaf, addC T T.c) = [] := both_nil fun j h1 h2 => by
        simp only at h1 h2
        rw [mem_ex] at h1
        have h1' : j ∈ exL (.node a .leaf) 0 := by
          rcases h1 with ⟨g, _⟩ | g | ⟨i, g, _⟩
          · cases g
          · exact g
          · simp [exL] at g
        have hrg := exL_range _ _ _ h1'
        rcases ex_addC T T.c j (Nat.le_refl _) h2 with g | ⟨g1, g2⟩ | ⟨g1, g2⟩
        · omega
        · exact not_both h.pr j h1' g2
        · omega
      have hq := h.q_is (Tr.node (.node a .leaf) .leaf, addC T T.c) (by have g := hc; simp only [Tr.c] at g ⊢ <;> omega) (fun s => by rw [rot0_f a .leaf .leaf _ hc, ← hpe, hadd])
      rw [red_nil _ _ hr] at hq
      rw [hq]
      have := rot0 a .leaf .leaf (addC T T.c) hc
      rw [← hpe] at this hl ⊢
      rw [hl] at this
      exact this
    | node b c =>
      have hc : (Tr.node (.node a b) c).c = T.c := by simp only [Tr.c] at hpe ⊢; omega
      have hq := h.q_is (Tr.node (.node a b) c, T) hc (fun s => rot0_f a b c T hpe s)
      by_cases hr : bothL (Tr.node (.node a b) c, T) = []
      · rw [red_nil _ _ hr] at hq
        rw [hq]
        exact rot0 a b c T hpe
      · have hlt := red_lt (Tr.node (.node a b) c, T) (Tr.node (.node a b) c).c (by simp only [Tr.c]; omega) hr
        rw [← hq] at hlt
        simp only at hlt
        obtain ⟨S', T'⟩ := q
        have hqe : S'.c = T'.c := h.qe
        cases S' with
        | leaf =>
          obtain ⟨e1, e2⟩ := h.one' rfl gens.2.2.1
          rw [e1, e2, gens_len.1, gens_len.2.2.2.1]
          exact ⟨by omega, by omega⟩
        | node l c' =>
          cases l with
          | leaf =>
            have hT := addC_c T' 0 (by omega)
            have hc2 : (Tr.node .leaf (.node .leaf c')).c = (addC T' 0).c := by rw [hT, ← hqe]; simp only [Tr.c]; omega
            have hadd := fOf_addC (.node .leaf c') T' 0 hqe (by omega)
            have eU : addC (.node .leaf c') 0 = .node (.node .leaf .leaf) c' := by
              rw [addC, if_pos (by omega)]; rfl
            rw [eU] at hadd
            have hr2 : bothL (Tr.node .leaf (.node .leaf c'), addC T' 0) = [] := both_nil fun j h1 h2 => by
              simp only at h1 h2
              have h1' : 1 ≤ j ∧ (j - 1) ∈ exL (.node .leaf c') 0 := by
                rw [mem_ex] at h1
                rcases h1 with ⟨_, g, _⟩ | g | ⟨i, g, e⟩
                · cases g
                · simp [exL] at g
                · simp only [Tr.c] at e
                  exact ⟨by omega, by rw [show j - 1 = i by omega]; exact g⟩
              rcases ex_addC T' 0 j (by omega) h2 with g | ⟨g1, g2⟩ | ⟨g1, g2⟩
              · omega
              · omega
              · exact not_both h.qr (j - 1) h1'.2 g2
            have hp := h.p_is (Tr.node .leaf (.node .leaf c'), addC T' 0) hc2 (fun s => by rw [← rot0_f .leaf .leaf c' _ hc2, hadd])
            rw [red_nil _ _ hr2] at hp
            rw [hp, len_first c' T' hqe]
            exact ⟨by omega, by omega⟩
          | node a' b' =>
            exfalso
            have hc2 : (Tr.node a' (.node b' c')).c = T'.c := by simp only [Tr.c] at hqe ⊢; omega
            have hp := h.p_is (Tr.node a' (.node b' c'), T') hc2 (fun s => rot0_f a' b' c' T' hc2 s)
            have := (red_c (Tr.node a' (.node b' c')).c (Tr.node a' (.node b' c'), T')).1
            rw [← hp] at this
            simp only [Tr.c] at this hlt
            omega

/-- The first caret of a row of the right side is at the last leaf. -/
theorem ex_left {a r : Tr} {j : Nat} (h : j ∈ exL a 0) : j ∈ exL (.node a r) 0 := (mem_ex a r j).2 (.inr (.inl h))
theorem ex_right {a r : Tr} {i : Nat} (h : i ∈ exL r 0) : i + (a.c + 1) ∈ exL (.node a r) 0 := (mem_ex a r _).2 (.inr (.inr ⟨i, h, rfl⟩))

theorem ex_inv {a r : Tr} {j : Nat} (h : j ∈ exL (.node a r) 0) (hr : r.isLeaf = false) : j ∈ exL a 0 ∨ ∃ i, i ∈ exL r 0 ∧ j = i + (a.c + 1) := by
  rcases (mem_ex a r j).1 h with ⟨_, g, _⟩ | g | g
  · rw [hr] at g; cases g
  · exact .inl g
  · exact .inr g

theorem ex_c2 : ∀ i, i ∈ exL (.node (.node .leaf .leaf) .leaf) 0 → i = 0 := by decide +kernel
theorem ex_c3 : ∀ i, i ∈ exL (.node .leaf (.node .leaf .leaf)) 0 → i = 1 := by decide +kernel

theorem add_end (a : Tr) (k : Nat) (h : k = a.c + 1) : addC (.node a .leaf) k = .node a (.node .leaf .leaf) := by
  rw [addC, if_neg (by omega), show k - (a.c + 1) = 0 by omega]; rfl

theorem Nb.len1 {p q : Tr × Tr} (h : Nb 1 p q) : near (lenT p) (lenT q) := by
  obtain ⟨S, T⟩ := p
  have hpe : S.c = T.c := h.pe
  cases S with
  | leaf =>
    obtain ⟨e1, e2⟩ := h.one rfl gens.2.1
    rw [e1, e2, gens_len.1, gens_len.2.2.1]
    exact ⟨by omega, by omega⟩
  | node a r =>
    cases r with
    | leaf =>
      have hc0 : T.c = a.c + 1 := by simp only [Tr.c] at hpe; omega
      have hT := addC_c T T.c (Nat.le_refl _)
      have hT2 := addC_c (addC T T.c) (T.c + 1) (by omega)
      have eU : addC (.node a .leaf) T.c = .node a (.node .leaf .leaf) := add_end a _ hc0
      have eU2 : addC (.node a (.node .leaf .leaf)) (T.c + 1) = .node a (.node .leaf (.node .leaf .leaf)) := by
        rw [addC, if_neg (by omega), addC, if_neg (by simp only [Tr.c]; omega)]
        simp only [Tr.c]
        rw [show T.c + 1 - (a.c + 1) - (0 + 1) = 0 by omega]; rfl
      have l1 := len_last (.node a .leaf) T hpe (by simp only [Tr.c]; omega)
      rw [hpe, eU] at l1
      have l2 := len_last (.node a (.node .leaf .leaf)) (addC T T.c) (by rw [hT]; simp only [Tr.c]; omega) (by simp only [Tr.c]; omega)
      have ec : (Tr.node a (.node .leaf .leaf)).c = T.c + 1 := by simp only [Tr.c]; omega
      rw [ec, eU2, hT] at l2
      have f1 := fOf_addC (.node a .leaf) T T.c hpe (by omega)
      rw [eU] at f1
      have f2 := fOf_addC (.node a (.node .leaf .leaf)) (addC T T.c) (T.c + 1) (by omega) (by omega)
      rw [eU2] at f2
      have hc : (Tr.node a (.node .leaf (.node .leaf .leaf))).c = (addC (addC T T.c) (T.c + 1)).c := by simp only [Tr.c]; omega
      have hr : bothL (Tr.node a (.node (.node .leaf .leaf) .leaf), addC (addC T T.c) (T.c + 1)) = [] := both_nil fun j h1 h2 => by
        simp only at h1 h2
        have hj : j ∈ exL a 0 ∨ j = T.c := by
          rcases ex_inv h1 rfl with g | ⟨i, g, e⟩
          · exact .inl g
          · have := ex_c2 i g; exact .inr (by omega)
        have hlt : j ∈ exL a 0 → j < a.c := fun g => by have := exL_range _ _ _ g; omega
        rcases ex_addC _ _ j (by omega) h2 with g | ⟨g1, g2⟩ | ⟨g1, g2⟩
        · rcases hj with e | e
          · have := hlt e; omega
          · omega
        · rcases ex_addC _ _ j (by omega) g2 with k | ⟨k1, k2⟩ | ⟨k1, k2⟩
          · omega
          · rcases hj with e | e
            · exact not_both h.pr j (ex_left e) k2
            · omega
          · omega
        · rcases hj with e | e
          · have := hlt e; omega
          · omega
      have hq := h.q_is (Tr.node a (.node (.node .leaf .leaf) .leaf), addC (addC T T.c) (T.c + 1)) (by have g := hc; simp only [Tr.c] at g ⊢ <;> omega) (fun s => by rw [rot1_f a .leaf .leaf .leaf _ hc, f2, f1])
      rw [red_nil _ _ hr] at hq
      have := rot1 a .leaf .leaf .leaf (addC (addC T T.c) (T.c + 1)) hc
      rw [hq]
      rw [l2, l1] at this
      exact this
    | node b r2 =>
      cases r2 with
      | leaf =>
        have hc0 : T.c = a.c + 1 + (b.c + 1) := by simp only [Tr.c] at hpe; omega
        have hT := addC_c T T.c (Nat.le_refl _)
        have eU : addC (.node a (.node b .leaf)) T.c = .node a (.node b (.node .leaf .leaf)) := by
          rw [addC, if_neg (by omega), add_end b _ (by omega)]
        have l1 := len_last (.node a (.node b .leaf)) T hpe (by simp only [Tr.c]; omega)
        rw [hpe, eU] at l1
        have f1 := fOf_addC (.node a (.node b .leaf)) T T.c hpe (by omega)
        rw [eU] at f1
        have hc : (Tr.node a (.node b (.node .leaf .leaf))).c = (addC T T.c).c := by simp only [Tr.c]; omega
        have hr : bothL (Tr.node a (.node (.node b .leaf) .leaf), addC T T.c) = [] := both_nil fun j h1 h2 => by
          simp only at h1 h2
          have hj : j ∈ exL (.node a (.node b .leaf)) 0 := by
            rcases ex_inv h1 rfl with g | ⟨i, g, e⟩
            · exact ex_left g
            · rw [e]
              rcases (mem_ex _ _ i).1 g with ⟨g1, _⟩ | g1 | ⟨_, g1, _⟩
              · cases g1
              · exact ex_right g1
              · simp [exL] at g1
          have hrg := exL_range _ _ _ hj
          simp only [Tr.c] at hrg
          rcases ex_addC _ _ j (by omega) h2 with g | ⟨g1, g2⟩ | ⟨g1, g2⟩
          · omega
          · exact not_both h.pr j hj g2
          · omega
        have hq := h.q_is (Tr.node a (.node (.node b .leaf) .leaf), addC T T.c) (by have g := hc; simp only [Tr.c] at g ⊢ <;> omega) (fun s => by rw [rot1_f a b .leaf .leaf _ hc, f1])
        rw [red_nil _ _ hr] at hq
        have := rot1 a b .leaf .leaf (addC T T.c) hc
        rw [hq]
        rw [l1] at this
        exact this
      | node c d =>
        have hc : (Tr.node a (.node (.node b c) d)).c = T.c := by simp only [Tr.c] at hpe ⊢; omega
        have hq := h.q_is (Tr.node a (.node (.node b c) d), T) hc (fun s => rot1_f a b c d T hpe s)
        by_cases hr : bothL (Tr.node a (.node (.node b c) d), T) = []
        · rw [red_nil _ _ hr] at hq
          rw [hq]
          exact rot1 a b c d T hpe
        · have hlt := red_lt (Tr.node a (.node (.node b c) d), T) (Tr.node a (.node (.node b c) d)).c (by simp only [Tr.c]; omega) hr
          rw [← hq] at hlt
          simp only at hlt
          obtain ⟨S', T'⟩ := q
          have hqe : S'.c = T'.c := h.qe
          cases S' with
          | leaf =>
            obtain ⟨e1, e2⟩ := h.one' rfl gens.2.2.2
            rw [e1, e2, gens_len.1, gens_len.2.2.2.2]
            exact ⟨by omega, by omega⟩
          | node a' r' =>
            cases r' with
            | leaf =>
              have hc0 : T'.c = a'.c + 1 := by simp only [Tr.c] at hqe; omega
              have hT := addC_c T' T'.c (Nat.le_refl _)
              have hT2 := addC_c (addC T' T'.c) T'.c (by omega)
              have eU : addC (.node a' .leaf) T'.c = .node a' (.node .leaf .leaf) := add_end a' _ hc0
              have eU2 : addC (.node a' (.node .leaf .leaf)) T'.c = .node a' (.node (.node .leaf .leaf) .leaf) := by
                rw [addC, if_neg (by omega), addC, if_pos (by simp only [Tr.c]; omega)]
                rw [show T'.c - (a'.c + 1) = 0 by omega]; rfl
              have l1 := len_last (.node a' .leaf) T' hqe (by simp only [Tr.c]; omega)
              rw [hqe, eU] at l1
              have l2 := len_mid a' .leaf (addC T' T'.c) (by rw [hT]; simp only [Tr.c]; omega)
              rw [l1, ← hc0] at l2
              have f1 := fOf_addC (.node a' .leaf) T' T'.c hqe (by omega)
              rw [eU] at f1
              have f2 := fOf_addC (.node a' (.node .leaf .leaf)) (addC T' T'.c) T'.c (by rw [hT]; simp only [Tr.c]; omega) (by simp only [Tr.c]; omega)
              rw [eU2] at f2
              have hc2 : (Tr.node a' (.node .leaf (.node .leaf .leaf))).c = (addC (addC T' T'.c) T'.c).c := by simp only [Tr.c]; omega
              have hr2 : bothL (Tr.node a' (.node .leaf (.node .leaf .leaf)), addC (addC T' T'.c) T'.c) = [] := both_nil fun j h1 h2 => by
                simp only at h1 h2
                have hj : j ∈ exL a' 0 ∨ j = T'.c + 1 := by
                  rcases ex_inv h1 rfl with g | ⟨i, g, e⟩
                  · exact .inl g
                  · have := ex_c3 i g; exact .inr (by omega)
                have hlt : j ∈ exL a' 0 → j < a'.c := fun g => by have := exL_range _ _ _ g; omega
                rcases ex_addC _ _ j (by omega) h2 with g | ⟨g1, g2⟩ | ⟨g1, g2⟩
                · rcases hj with e | e
                  · have := hlt e; omega
                  · omega
                · rcases ex_addC _ _ j (by omega) g2 with k | ⟨k1, k2⟩ | ⟨k1, k2⟩
                  · omega
                  · rcases hj with e | e
                    · exact not_both h.qr j (ex_left e) k2
                    · omega
                  · omega
                · rcases hj with e | e
                  · have := hlt e; omega
                  · omega
              have hp := h.p_is (Tr.node a' (.node .leaf (.node .leaf .leaf)), addC (addC T' T'.c) T'.c) hc2 (fun s => by rw [← rot1_f a' .leaf .leaf .leaf _ hc2, f2, f1])
              rw [red_nil _ _ hr2] at hp
              rw [hp, l2]
              exact ⟨by omega, by omega⟩
            | node l d' =>
              cases l with
              | leaf =>
                have hk : a'.c + 1 ≤ T'.c := by simp only [Tr.c] at hqe; omega
                have hT := addC_c T' (a'.c + 1) hk
                have eU : addC (.node a' (.node .leaf d')) (a'.c + 1) = .node a' (.node (.node .leaf .leaf) d') := by
                  rw [addC, if_neg (by omega), addC, if_pos (by omega), Nat.sub_self]; rfl
                have l1 := len_mid a' d' T' hqe
                have f1 := fOf_addC (.node a' (.node .leaf d')) T' (a'.c + 1) hqe (by omega)
                rw [eU] at f1
                have hc2 : (Tr.node a' (.node .leaf (.node .leaf d'))).c = (addC T' (a'.c + 1)).c := by simp only [Tr.c] at hqe ⊢; omega
                have hr2 : bothL (Tr.node a' (.node .leaf (.node .leaf d')), addC T' (a'.c + 1)) = [] := both_nil fun j h1 h2 => by
                  simp only at h1 h2
                  have hj : (j < a'.c ∧ j ∈ exL (.node a' (.node .leaf d')) 0) ∨ (a'.c + 2 ≤ j ∧ (j - 1) ∈ exL (.node a' (.node .leaf d')) 0) := by
                    rcases ex_inv h1 rfl with g | ⟨i, g, e⟩
                    · have := exL_range _ _ _ g
                      exact .inl ⟨by omega, ex_left g⟩
                    · rcases ex_inv g rfl with k | ⟨i', k, e'⟩
                      · simp [exL] at k
                      · simp only [Tr.c] at e'
                        exact .inr ⟨by omega, by rw [show j - 1 = i' + (a'.c + 1) by omega]; exact ex_right k⟩
                  rcases ex_addC _ _ j hk h2 with g | ⟨g1, g2⟩ | ⟨g1, g2⟩
                  · rcases hj with ⟨e, _⟩ | ⟨e, _⟩ <;> omega
                  · rcases hj with ⟨e, e2⟩ | ⟨e, _⟩
                    · exact not_both h.qr j e2 g2
                    · omega
                  · rcases hj with ⟨e, _⟩ | ⟨e, e2⟩
                    · omega
                    · exact not_both h.qr (j - 1) e2 g2
                have hp := h.p_is (Tr.node a' (.node .leaf (.node .leaf d')), addC T' (a'.c + 1)) hc2 (fun s => by rw [← rot1_f a' .leaf .leaf d' _ hc2, f1])
                rw [red_nil _ _ hr2] at hp
                rw [hp, l1]
                exact ⟨by omega, by omega⟩
              | node b' c' =>
                exfalso
                have hc2 : (Tr.node a' (.node b' (.node c' d'))).c = T'.c := by simp only [Tr.c] at hqe ⊢; omega
                have hp := h.p_is (Tr.node a' (.node b' (.node c' d')), T') hc2 (fun s => rot1_f a' b' c' d' T' hc2 s)
                have := (red_c (Tr.node a' (.node b' (.node c' d'))).c (Tr.node a' (.node b' (.node c' d')), T')).1
                rw [← hp] at this
                simp only [Tr.c] at this hlt
                omega

/-- A letter in front changes the length of a reduced pair by one at most. -/
theorem len_step (p : Tr × Tr) (hp : p.1.c = p.2.c) (hr : bothL p = []) (n : Int) (hn : n = 1 ∨ n = -1 ∨ n = 2 ∨ n = -2) : near (lenT p) (lenT (timesT (letT n) p)) := by
  have hc := let_c n
  have hq := times_eqc (letT n) p (by omega) hp
  have key : ∀ i, letT n = genT i → (∀ {p q : Tr × Tr}, Nb i p q → near (lenT p) (lenT q)) → near (lenT p) (lenT (timesT (letT n) p)) := fun i e hN =>
    hN ⟨hp, hq, hr, times_red _ _, fun s => by rw [fOf_times _ _ (by omega) hp, e]⟩
  have key2 : ∀ i, letT n = ((genT i).2, (genT i).1) → (∀ {p q : Tr × Tr}, Nb i p q → near (lenT p) (lenT q)) → near (lenT p) (lenT (timesT (letT n) p)) := fun i e hN => by
    have := hN (p := timesT (letT n) p) (q := p) ⟨hq, hp, times_red _ _, hr, fun s => by
      rw [fOf_times _ _ (by omega) hp, e, fOf_inv _ _ (by have := gen_c i; omega)]⟩
    exact ⟨by have := this.2; omega, by have := this.1; omega⟩
  rcases hn with rfl | rfl | rfl | rfl
  · exact key 0 rfl Nb.len0
  · exact key2 0 rfl Nb.len0
  · exact key 1 rfl Nb.len1
  · exact key2 1 rfl Nb.len1

end Go.AI
