/- Reduced pairs have few carets for their lengths. -/
import Derived.Test.YtlimomnchicfgaaFc
set_option autoImplicit false
set_option maxRecDepth 100000
set_option linter.unusedVariables false
namespace Go.AI

/-- The last two carets are on the right side. -/
def R2 (X : List Mk) : Prop := ∃ Z a b, X = Z ++ [a, b] ∧ a.1 = 1 ∧ b.1 = 1

theorem two_ex {α : Type} (X : List α) (h : 2 ≤ X.length) : ∃ Z a b, X = Z ++ [a, b] := by
  obtain ⟨Y, b, rfl⟩ := snoc_ex X (by intro e; rw [e] at h; simp at h)
  obtain ⟨Z, a, rfl⟩ := snoc_ex Y (by intro e; rw [e] at h; simp at h)
  exact ⟨Z, a, b, by simp⟩

theorem R2.app {A B : List Mk} (hB : 2 ≤ B.length) (h : R2 (A ++ B)) : R2 B := by
  obtain ⟨Z, a, b, e, h1, h2⟩ := h
  obtain ⟨Y, u, v, rfl⟩ := two_ex B hB
  rw [← List.append_assoc] at e
  have := (List.append_inj' e rfl).2
  simp at this
  exact ⟨Y, u, v, rfl, by rw [this.1]; exact h1, by rw [this.2]; exact h2⟩

theorem R2.cons {m : Mk} {X : List Mk} (h : R2 X) : R2 (m :: X) := by
  obtain ⟨Z, a, b, rfl, h1, h2⟩ := h
  exact ⟨m :: Z, a, b, rfl, h1, h2⟩

theorem R2_of_all {X : List Mk} (h : 2 ≤ X.length) (ha : ∀ m ∈ X, m.1 = 1) : R2 X := by
  obtain ⟨Z, a, b, rfl⟩ := two_ex X h
  exact ⟨Z, a, b, rfl, ha a (by simp), ha b (by simp)⟩

/-- The last two of a row that ends with one other. -/
theorem R2_snoc {A : List Mk} {a b : Mk} (h : R2 (A ++ [a, b])) : a.1 = 1 ∧ b.1 = 1 := by
  obtain ⟨Z, u, v, e, h1, h2⟩ := h
  have := (List.append_inj' e rfl).2
  simp at this
  rw [this.1, this.2]
  exact ⟨h1, h2⟩

theorem R2_len {X : List Mk} (h : R2 X) : 2 ≤ X.length := by
  obtain ⟨Z, a, b, rfl, _⟩ := h
  simp

theorem R0_sides {m : Mk} {r : List Mk} (h : kd m r = sR0) : m.1 = 1 ∧ ∀ x ∈ r, x.1 = 1 := by
  unfold kd at h
  split at h
  · exact absurd h (by decide)
  · split at h
    · rename_i h1
      split at h
      · split at h
        · exact absurd h (by decide)
        · exact absurd h (by decide)
      · rename_i hn
        refine ⟨h1, fun x hx => ?_⟩
        by_cases e : x.1 = 1
        · exact e
        · exfalso
          apply hn
          unfold notR
          rw [List.any_eq_true]
          exact ⟨x, hx, by simp [e]⟩
    · split at h
      · exact absurd h (by decide)
      · exact absurd h (by decide)

theorem ls_low : ∀ X Y : List Mk, X.length = Y.length → ¬ (R2 X ∧ R2 Y) → (X.length : Int) - 1 ≤ ls X Y
  | [], [], _, _ => by simp [ls]
  | m :: X, n :: Y, h, hR => by
    have hl : X.length = Y.length := by simpa using h
    have ih := ls_low X Y hl fun ⟨h1, h2⟩ => hR ⟨h1.cons, h2.cons⟩
    obtain ⟨t1, t2⟩ := tab_pos _ (kd_six m X) _ (kd_six n Y)
    rw [ls_cons]
    simp only [List.length_cons]
    by_cases h0 : tabV (kd m X) (kd n Y) = 0
    · obtain ⟨e1, e2⟩ := t2 h0
      obtain ⟨a1, a2⟩ := R0_sides e1
      obtain ⟨b1, b2⟩ := R0_sides e2
      cases X with
      | nil =>
        cases Y with
        | nil => simp [ls]; omega
        | cons y Y => simp at hl
      | cons x X =>
        exfalso
        apply hR
        exact ⟨R2_of_all (by simp) (fun z hz => by rcases List.mem_cons.1 hz with e | e
                                                   · rw [e]; exact a1
                                                   · exact a2 z e),
          R2_of_all (by rw [List.length_cons, ← hl]; simp) (fun z hz => by rcases List.mem_cons.1 hz with e | e
                                                                           · rw [e]; exact b1
                                                                           · exact b2 z e)⟩
    · omega

theorem c_zero' {t : Tr} (h : t.c = 0) : t = .leaf := by
  cases t with
  | leaf => rfl
  | node l r => simp only [Tr.c] at h; omega

theorem ex_r2 : ∀ r : Tr, 2 ≤ r.c → R2 (mkT r 1 false) → (r.c - 1) ∈ exL r 0
  | .leaf, h, _ => by simp [Tr.c] at h
  | .node x y, h, hR => by
    rw [mk_right] at hR
    cases y with
    | leaf =>
      exfalso
      simp only [mkT, List.append_nil] at hR
      cases x with
      | leaf => simp only [Tr.c] at h; omega
      | node u v =>
        obtain ⟨Z, w, hZ⟩ := snoc_ex (mkT (.node u v) 2 false) (by
          intro e
          have := congrArg List.length e
          rw [mkT_len] at this
          simp [Tr.c] at this)
        have hw := mkT_2 (.node u v) w (by rw [hZ]; simp)
        rw [hZ, List.append_assoc] at hR
        have := (R2_snoc hR).1
        omega
    | node u v =>
      have hl := mkT_len (.node u v) 1 false
      by_cases hc : 2 ≤ (Tr.node u v).c
      · have := ex_r2 (.node u v) hc (hR.app (by rw [hl]; exact hc))
        have e : (Tr.node x (.node u v)).c - 1 = ((Tr.node u v).c - 1) + (x.c + 1) := by
          simp only [Tr.c] at hc ⊢; omega
        rw [e]
        exact ex_right this
      · simp only [Tr.c] at hc
        have hu : u = .leaf := c_zero' (by omega)
        have hv : v = .leaf := c_zero' (by omega)
        subst hu; subst hv
        have e : (Tr.node x (.node .leaf .leaf)).c - 1 = 0 + (x.c + 1) := by simp only [Tr.c]; omega
        rw [e]
        exact ex_right (by decide)

theorem ex_R2 (t : Tr) (h : R2 (mkT t 0 true).tail) : (t.c - 1) ∈ exL t 0 := by
  have hlen := R2_len h
  cases t with
  | leaf => simp [mkT] at hlen
  | node l r =>
    rw [mk_root] at h
    rw [tail_app (by simp)] at h
    have hl := mkT_len r 1 false
    have ll := mkT_len l 0 false
    by_cases hc : 2 ≤ r.c
    · have := ex_r2 r hc (h.app (by rw [hl]; exact hc))
      have e : (Tr.node l r).c - 1 = (r.c - 1) + (l.c + 1) := by simp only [Tr.c]; omega
      rw [e]
      exact ex_right this
    · exfalso
      have hh := R2_len h
      simp only [List.length_append, List.length_tail, List.length_singleton, hl, ll] at hh
      have hpos : 0 < l.c := by omega
      have hA : (mkT l 0 false ++ [((0 : Int), r.isLeaf)]).tail = (mkT l 0 false).tail ++ [((0 : Int), r.isLeaf)] := tail_app (by
        intro e; rw [e] at ll; simp at ll; omega)
      rw [hA] at h
      cases r with
      | leaf =>
        simp only [mkT, List.append_nil] at h
        obtain ⟨Z, a, b, e, h1, h2⟩ := h
        have e' : (mkT l 0 false).tail ++ [((0 : Int), Tr.leaf.isLeaf)] = (Z ++ [a]) ++ [b] := by rw [e]; simp
        have := (List.append_inj' e' rfl).2
        simp at this
        rw [← this] at h2
        exact absurd h2 (by decide)
      | node u v =>
        obtain ⟨y, hy⟩ : ∃ y, mkT (.node u v) 1 false = [y] := List.length_eq_one_iff.1 (by rw [hl]; simp only [Tr.c] at hc ⊢; omega)
        rw [hy, List.append_assoc] at h
        have := (R2_snoc h).1
        simp at this

/-- A reduced pair has two carets more than its length at most. -/
theorem len_low (p : Tr × Tr) (hp : p.1.c = p.2.c) (hr : bothL p = []) : (p.1.c : Int) ≤ lenT p + 2 := by
  have l1 := mkT_len p.1 0 true
  have l2 := mkT_len p.2 0 true
  have := ls_low (mkT p.1 0 true).tail (mkT p.2 0 true).tail (by simp; omega) fun ⟨h1, h2⟩ => by
    have g1 := ex_R2 _ h1
    have g2 := ex_R2 _ h2
    rw [← hp] at g2
    exact not_both hr _ g1 g2
  rw [← lenT_ls p hp] at this
  simp only [List.length_tail, l1] at this
  omega

theorem two_trees (t : Tr) (h : t.c = 2) : t = .node (.node .leaf .leaf) .leaf ∨ t = .node .leaf (.node .leaf .leaf) := by
  have key : ∀ u : Tr, u.c = 0 → u = .leaf := fun u hu => by
    cases u with
    | leaf => rfl
    | node l r => simp only [Tr.c] at hu; omega
  have key1 : ∀ u : Tr, u.c = 1 → u = .node .leaf .leaf := fun u hu => by
    cases u with
    | leaf => simp [Tr.c] at hu
    | node l r => simp only [Tr.c] at hu; rw [key l (by omega), key r (by omega)]
  cases t with
  | leaf => simp [Tr.c] at h
  | node l r =>
    simp only [Tr.c] at h
    by_cases hl : l.c = 0
    · rw [key l hl, key1 r (by omega)]; exact .inr rfl
    · rw [key1 l (by omega), key r (by omega)]; exact .inl rfl

/-- The identity alone has length 0. -/
theorem len_zero (p : Tr × Tr) (hp : p.1.c = p.2.c) (hr : bothL p = []) (h : lenT p = 0) : p = (.leaf, .leaf) := by
  have hl := len_low p hp hr
  obtain ⟨S, T⟩ := p
  simp only at hp hl
  have h3 : S.c = 0 ∨ S.c = 1 ∨ S.c = 2 := by omega
  rcases h3 with h3 | h3 | h3
  · have : S = .leaf := by
      cases S with
      | leaf => rfl
      | node l r => simp only [Tr.c] at h3; omega
    exact leaf_pair (p := (S, T)) hp this
  · exfalso
    have key1 : ∀ u : Tr, u.c = 1 → u = .node .leaf .leaf := fun u hu => by
      cases u with
      | leaf => simp [Tr.c] at hu
      | node l r =>
        simp only [Tr.c] at hu
        cases l with
        | leaf =>
          cases r with
          | leaf => rfl
          | node a b => simp only [Tr.c] at hu; omega
        | node a b => simp only [Tr.c] at hu; omega
    rw [key1 S h3, key1 T (by omega)] at hr
    exact absurd hr (by decide)
  · exfalso
    rcases two_trees S h3 with e | e <;> rcases two_trees T (by omega) with f | f <;> rw [e, f] at hr h
    · exact absurd hr (by decide)
    · exact absurd h (by decide +kernel)
    · exact absurd h (by decide +kernel)
    · exact absurd hr (by decide)

end Go.AI
