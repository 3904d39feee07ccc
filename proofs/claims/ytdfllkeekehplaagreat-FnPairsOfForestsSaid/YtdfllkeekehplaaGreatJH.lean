/- A part of the road: what it proves stands in its last texts. -/
import Derived.Test.YtdfllkeekehplaaGreatCR
import Derived.Test.YtdfllkeekehplaaGreatJC
import Derived.Test.YtdfllkeekehplaaGreatJE
section
/- Plain: whatever is dropped first, the same reduced pair is left. -/
set_option autoImplicit false
set_option linter.unusedVariables false
namespace Go.AI

/-- Is the leaf the left one of an exposed caret? -/
def isEx : Tr → Nat → Bool
  | .leaf, _ => false
  | .node l r, k => if l.isLeaf = true ∧ r.isLeaf = true then decide (k = 0) else if l.c + 1 ≤ k then isEx r (k - (l.c + 1)) else isEx l k

theorem isEx_lt : ∀ (t : Tr) (k : Nat), isEx t k = true → k < t.c
  | .leaf, _, h => by simp [isEx] at h
  | .node l r, k, h => by
    rw [isEx] at h
    have e : (Tr.node l r).c = l.c + r.c + 1 := by simp only [Tr.c]; omega
    split at h
    · have : k = 0 := of_decide_eq_true h
      omega
    · split at h
      · have := isEx_lt r _ h; omega
      · have := isEx_lt l _ h; omega

theorem isEx_iff : ∀ (t : Tr) (k : Nat), isEx t k = true ↔ k ∈ exL t 0
  | .leaf, k => by simp [isEx, exL]
  | .node l r, k => by
    rw [isEx, exL]
    split
    · simp
    · have e : exL r (0 + l.c + 1) = (exL r 0).map (· + (l.c + 1)) := by
        rw [← exL_shift r 0 (l.c + 1), Nat.add_assoc]
      rw [e, List.mem_append, List.mem_map]
      split
      · rename_i hk
        rw [isEx_iff r]
        constructor
        · intro h; exact .inr ⟨_, h, by omega⟩
        · rintro (h | ⟨x, h, hx⟩)
          · have := exL_range l 0 k h; omega
          · have : k - (l.c + 1) = x := by omega
            rw [this]; exact h
      · rename_i hk
        rw [isEx_iff l]
        constructor
        · intro h; exact .inl h
        · rintro (h | ⟨x, h, hx⟩)
          · exact h
          · omega

theorem isEx_leaf {t : Tr} {k : Nat} (h : isEx t k = true) : t.isLeaf = false := by
  cases t with
  | leaf => simp [isEx] at h
  | node l r => rfl

theorem wo_cc : ∀ (t : Tr) (k : Nat), isEx t k = true → (wo t k).c + 1 = t.c
  | .leaf, _, h => by simp [isEx] at h
  | .node l r, k, h => by
    rw [isEx] at h
    rw [wo]
    have e : (Tr.node l r).c = l.c + r.c + 1 := by simp only [Tr.c]; omega
    split at h
    · rename_i hb
      rw [if_pos hb]
      obtain ⟨h1, h2⟩ := hb
      cases l <;> cases r <;> simp_all [Tr.isLeaf, Tr.c]
    · rename_i hb
      rw [if_neg hb]
      split at h
      · rename_i hk
        rw [if_pos hk]
        have := wo_cc r _ h
        have e2 : (Tr.node l (wo r (k - (l.c + 1)))).c = l.c + (wo r (k - (l.c + 1))).c + 1 := by simp only [Tr.c]; omega
        omega
      · rename_i hk
        rw [if_neg hk]
        have := wo_cc l _ h
        have e2 : (Tr.node (wo l k) r).c = (wo l k).c + r.c + 1 := by simp only [Tr.c]; omega
        omega

theorem dia : ∀ (t : Tr) (j k : Nat), isEx t j = true → isEx t k = true → j < k →
    isEx (wo t k) j = true ∧ isEx (wo t j) (k - 1) = true ∧ wo (wo t k) j = wo (wo t j) (k - 1)
  | .leaf, _, _, h, _, _ => by simp [isEx] at h
  | .node l r, j, k, hj, hk, hlt => by
    rw [isEx] at hj hk
    by_cases hb : l.isLeaf = true ∧ r.isLeaf = true
    · rw [if_pos hb] at hj hk
      have := of_decide_eq_true hj
      have := of_decide_eq_true hk
      omega
    · rw [if_neg hb] at hj hk
      by_cases h1 : l.c + 1 ≤ j
      · have h2 : l.c + 1 ≤ k := by omega
        rw [if_pos h1] at hj
        rw [if_pos h2] at hk
        obtain ⟨a1, a2, a3⟩ := dia r _ _ hj hk (by omega)
        have ek : wo (.node l r) k = .node l (wo r (k - (l.c + 1))) := by rw [wo, if_neg hb, if_pos h2]
        have ej : wo (.node l r) j = .node l (wo r (j - (l.c + 1))) := by rw [wo, if_neg hb, if_pos h1]
        have n1 : ¬ (l.isLeaf = true ∧ (wo r (k - (l.c + 1))).isLeaf = true) := fun h => by rw [isEx_leaf a1] at h; exact absurd h.2 (by simp)
        have n2 : ¬ (l.isLeaf = true ∧ (wo r (j - (l.c + 1))).isLeaf = true) := fun h => by rw [isEx_leaf a2] at h; exact absurd h.2 (by simp)
        have e1 : k - 1 - (l.c + 1) = k - (l.c + 1) - 1 := by omega
        rw [ek, ej, isEx, if_neg n1, if_pos h1, isEx, if_neg n2, if_pos (by omega), wo, if_neg n1, if_pos h1, wo, if_neg n2, if_pos (by omega), e1]
        exact ⟨a1, a2, by rw [a3]⟩
      · rw [if_neg h1] at hj
        have ej : wo (.node l r) j = .node (wo l j) r := by rw [wo, if_neg hb, if_neg h1]
        have hjl := isEx_lt l j hj
        have hcj := wo_cc l j hj
        by_cases h2 : l.c + 1 ≤ k
        · rw [if_pos h2] at hk
          have ek : wo (.node l r) k = .node l (wo r (k - (l.c + 1))) := by rw [wo, if_neg hb, if_pos h2]
          have n1 : ¬ (l.isLeaf = true ∧ (wo r (k - (l.c + 1))).isLeaf = true) := fun h => by rw [isEx_leaf hj] at h; exact absurd h.1 (by simp)
          have n2 : ¬ ((wo l j).isLeaf = true ∧ r.isLeaf = true) := fun h => by rw [isEx_leaf hk] at h; exact absurd h.2 (by simp)
          have e1 : k - 1 - ((wo l j).c + 1) = k - (l.c + 1) := by omega
          rw [ek, ej, isEx, if_neg n1, if_neg h1, isEx, if_neg n2, if_pos (by omega), wo, if_neg n1, if_neg h1, wo, if_neg n2, if_pos (by omega), e1]
          exact ⟨hj, hk, rfl⟩
        · rw [if_neg h2] at hk
          obtain ⟨a1, a2, a3⟩ := dia l _ _ hj hk hlt
          have ek : wo (.node l r) k = .node (wo l k) r := by rw [wo, if_neg hb, if_neg h2]
          have n1 : ¬ ((wo l k).isLeaf = true ∧ r.isLeaf = true) := fun h => by rw [isEx_leaf a1] at h; exact absurd h.1 (by simp)
          have n2 : ¬ ((wo l j).isLeaf = true ∧ r.isLeaf = true) := fun h => by rw [isEx_leaf a2] at h; exact absurd h.1 (by simp)
          have b1 := isEx_lt _ _ a1
          have b2 := isEx_lt _ _ a2
          rw [ek, ej, isEx, if_neg n1, if_neg (by omega), isEx, if_neg n2, if_neg (by omega), wo, if_neg n1, if_neg (by omega), wo, if_neg n2, if_neg (by omega)]
          exact ⟨a1, a2, by rw [a3]⟩

/-- One caret that both trees have is dropped. -/
def Step (p q : Tr × Tr) : Prop := ∃ k, isEx p.1 k = true ∧ isEx p.2 k = true ∧ q = (wo p.1 k, wo p.2 k)

inductive Steps : Tr × Tr → Tr × Tr → Prop
  | refl (p : Tr × Tr) : Steps p p
  | cons {p q r : Tr × Tr} : Step p q → Steps q r → Steps p r

def Nf (p : Tr × Tr) : Prop := ∀ q, ¬ Step p q

theorem Step.c {p q : Tr × Tr} (h : Step p q) : q.1.c + 1 = p.1.c ∧ q.2.c + 1 = p.2.c := by
  obtain ⟨k, h1, h2, rfl⟩ := h
  exact ⟨wo_cc _ _ h1, wo_cc _ _ h2⟩

theorem Steps.c {p q : Tr × Tr} (h : Steps p q) : q.1.c ≤ p.1.c ∧ q.2.c ≤ p.2.c ∧ q.1.c + p.2.c = p.1.c + q.2.c := by
  induction h with
  | refl p => exact ⟨Nat.le_refl _, Nat.le_refl _, rfl⟩
  | cons h1 _ ih => have := h1.c; omega

theorem Steps.trans {p q r : Tr × Tr} (h1 : Steps p q) (h2 : Steps q r) : Steps p r := by
  induction h1 with
  | refl p => exact h2
  | cons h _ ih => exact .cons h (ih h2)

theorem nf_ex : ∀ (n : Nat) (p : Tr × Tr), p.1.c ≤ n → ∃ q, Steps p q ∧ Nf q := by
  intro n
  induction n with
  | zero => exact fun p hp => ⟨p, .refl p, fun q h => by have := h.c; omega⟩
  | succ n ih =>
    intro p hp
    by_cases h : ∃ q, Step p q
    · obtain ⟨q, hq⟩ := h
      obtain ⟨r, h1, h2⟩ := ih q (by have := hq.c; omega)
      exact ⟨r, .cons hq h1, h2⟩
    · exact ⟨p, .refl p, fun q hq => h ⟨q, hq⟩⟩

theorem diaP {p q r : Tr × Tr} (h1 : Step p q) (h2 : Step p r) : q = r ∨ ∃ s, Step q s ∧ Step r s := by
  obtain ⟨j, a1, a2, rfl⟩ := h1
  obtain ⟨k, b1, b2, rfl⟩ := h2
  rcases Nat.lt_trichotomy j k with h | h | h
  · obtain ⟨c1, c2, c3⟩ := dia p.1 j k a1 b1 h
    obtain ⟨d1, d2, d3⟩ := dia p.2 j k a2 b2 h
    exact .inr ⟨(wo (wo p.1 k) j, wo (wo p.2 k) j), ⟨k - 1, c2, d2, by rw [c3, d3]⟩, ⟨j, c1, d1, rfl⟩⟩
  · subst h; exact .inl rfl
  · obtain ⟨c1, c2, c3⟩ := dia p.1 k j b1 a1 h
    obtain ⟨d1, d2, d3⟩ := dia p.2 k j b2 a2 h
    exact .inr ⟨(wo (wo p.1 j) k, wo (wo p.2 j) k), ⟨k, c1, d1, rfl⟩, ⟨j - 1, c2, d2, by rw [c3, d3]⟩⟩

theorem nf_one : ∀ (n : Nat) (p a b : Tr × Tr), p.1.c ≤ n → Steps p a → Nf a → Steps p b → Nf b → a = b := by
  intro n
  induction n with
  | zero =>
    intro p a b hp ha na hb nb
    cases ha with
    | refl => cases hb with
      | refl => rfl
      | cons h _ => exact absurd h (na _)
    | cons h _ => have := h.c; omega
  | succ n ih =>
    intro p a b hp ha na hb nb
    cases ha with
    | refl => cases hb with
      | refl => rfl
      | cons h _ => exact absurd h (na _)
    | cons h1 ha1 => cases hb with
      | refl => exact absurd h1 (nb _)
      | cons h2 hb1 =>
        have c1 := h1.c
        have c2 := h2.c
        rcases diaP h1 h2 with e | ⟨s, s1, s2⟩
        · subst e
          exact ih _ a b (by omega) ha1 na hb1 nb
        · obtain ⟨c, hc, nc⟩ := nf_ex s.1.c s (Nat.le_refl _)
          have e1 := ih _ a c (by omega) ha1 na (.cons s1 hc) nc
          have e2 := ih _ b c (by omega) hb1 nb (.cons s2 hc) nc
          rw [e1, e2]

theorem step_mem {p : Tr × Tr} {k : Nat} : k ∈ bothL p ↔ isEx p.1 k = true ∧ isEx p.2 k = true := by
  unfold bothL
  rw [List.mem_filter, isEx_iff, isEx_iff, List.contains_iff_mem]

theorem nf_both {p : Tr × Tr} : Nf p ↔ bothL p = [] := by
  constructor
  · intro h
    cases hb : bothL p with
    | nil => rfl
    | cons k r =>
      have hm : k ∈ bothL p := by rw [hb]; simp
      obtain ⟨h1, h2⟩ := step_mem.1 hm
      exact absurd ⟨k, h1, h2, rfl⟩ (h _)
  · intro h q ⟨k, h1, h2, _⟩
    have hm := step_mem.2 ⟨h1, h2⟩
    rw [h] at hm
    cases hm

theorem red_steps : ∀ (n : Nat) (p : Tr × Tr), Steps p (red n p) ∧ (p.1.c ≤ n → Nf (red n p)) := by
  intro n
  induction n with
  | zero => exact fun p => ⟨.refl p, fun h q hq => by have h2 : q.1.c + 1 = p.1.c := hq.c.1; omega⟩
  | succ n ih =>
    intro p
    rw [red]
    split
    · rename_i hb
      exact ⟨.refl p, fun _ => nf_both.2 hb⟩
    · rename_i k r hb
      have hm : k ∈ bothL p := by rw [hb]; simp
      obtain ⟨h1, h2⟩ := step_mem.1 hm
      have hs : Step p (wo p.1 k, wo p.2 k) := ⟨k, h1, h2, rfl⟩
      obtain ⟨i1, i2⟩ := ih (wo p.1 k, wo p.2 k)
      exact ⟨.cons hs i1, fun hc => i2 (by have h3 : (wo p.1 k).c + 1 = p.1.c := hs.c.1; show (wo p.1 k).c ≤ n; omega)⟩

/-- What is left does not depend on the order. -/
theorem red_one {n m : Nat} {p q r : Tr × Tr} (h1 : Steps p q) (h2 : Steps p r) (hn : q.1.c ≤ n) (hm : r.1.c ≤ m) : red n q = red m r := by
  obtain ⟨a1, a2⟩ := red_steps n q
  obtain ⟨b1, b2⟩ := red_steps m r
  exact nf_one p.1.c p _ _ (Nat.le_refl _) (h1.trans a1) (a2 hn) (h2.trans b1) (b2 hm)

end Go.AI
end

section
/- Plain: inverses, mirrors, powers and commutators of pairs. -/
set_option autoImplicit false
set_option maxRecDepth 100000
set_option linter.unusedVariables false
namespace Go.AI

/-! ### Inverses -/

abbrev swp (p : Tr × Tr) : Tr × Tr := (p.2, p.1)

theorem both_swp {p : Tr × Tr} (h : bothL p = []) : bothL (swp p) = [] := by
  cases hb : bothL (swp p) with
  | nil => rfl
  | cons k r =>
    have hm : k ∈ bothL (swp p) := by rw [hb]; simp
    obtain ⟨h1, h2⟩ := step_mem.1 hm
    have : k ∈ bothL p := step_mem.2 ⟨h2, h1⟩
    rw [h] at this
    cases this

theorem fOf_swp (p : Tr × Tr) (hp : p.1.c = p.2.c) (s : St2) : fOf (swp p) (fOf p s) = s := fOf_inv p.1 p.2 hp s

theorem fOf_swp' (p : Tr × Tr) (hp : p.1.c = p.2.c) (s : St2) : fOf p (fOf (swp p) s) = s := fOf_inv p.2 p.1 hp.symm s

theorem times_swp (p q : Tr × Tr) (hp : p.1.c = p.2.c) (hq : q.1.c = q.2.c) : timesT (swp q) (swp p) = swp (timesT p q) := by
  have hr := times_eqc p q hp hq
  refine red_unique _ _ (times_eqc _ _ hq.symm hp.symm) hr.symm (times_red _ _) (both_swp (times_red _ _)) fun s => ?_
  rw [fOf_times _ _ hq.symm hp.symm]
  have e : s = fOf (timesT p q) (fOf (swp (timesT p q)) s) := (fOf_swp' _ hr s).symm
  conv => lhs; rw [e]
  rw [fOf_times p q hp hq, fOf_swp q hq, fOf_swp p hp]

/-! ### Mirrors -/

def mir : Tr → Tr
  | .leaf => .leaf
  | .node l r => .node (mir r) (mir l)

theorem mir_c : ∀ t : Tr, (mir t).c = t.c
  | .leaf => rfl
  | .node l r => by simp only [mir, Tr.c, mir_c l, mir_c r]; omega

theorem mir_leaf (t : Tr) : (mir t).isLeaf = t.isLeaf := by cases t <;> rfl

theorem mir_mir : ∀ t : Tr, mir (mir t) = t
  | .leaf => rfl
  | .node l r => by simp only [mir, mir_mir l, mir_mir r]

theorem isEx_mir : ∀ (t : Tr) (k : Nat), isEx t k = true → isEx (mir t) (t.c - 1 - k) = true
  | .leaf, _, h => by simp [isEx] at h
  | .node l r, k, h => by
    rw [isEx] at h
    have e : (Tr.node l r).c = l.c + r.c + 1 := by simp only [Tr.c]; omega
    by_cases hb : l.isLeaf = true ∧ r.isLeaf = true
    · rw [if_pos hb] at h
      have hk : k = 0 := of_decide_eq_true h
      have hl : l.c = 0 := by cases l <;> simp_all [Tr.isLeaf, Tr.c]
      have hr : r.c = 0 := by cases r <;> simp_all [Tr.isLeaf, Tr.c]
      rw [mir, isEx, if_pos ⟨by rw [mir_leaf]; exact hb.2, by rw [mir_leaf]; exact hb.1⟩, decide_eq_true]
      omega
    · rw [if_neg hb] at h
      have nb : ¬ ((mir r).isLeaf = true ∧ (mir l).isLeaf = true) := fun hh => hb ⟨by rw [← mir_leaf]; exact hh.2, by rw [← mir_leaf]; exact hh.1⟩
      have cl := mir_c l
      have cr := mir_c r
      rw [mir, isEx, if_neg nb]
      by_cases hk : l.c + 1 ≤ k
      · rw [if_pos hk] at h
        have i1 := isEx_mir r _ h
        have i2 := isEx_lt r _ h
        rw [if_neg (by omega)]
        have ei : (Tr.node l r).c - 1 - k = r.c - 1 - (k - (l.c + 1)) := by omega
        rw [ei]; exact i1
      · rw [if_neg hk] at h
        have i1 := isEx_mir l _ h
        have i2 := isEx_lt l _ h
        rw [if_pos (by omega)]
        have ei : (Tr.node l r).c - 1 - k - ((mir r).c + 1) = l.c - 1 - k := by omega
        rw [ei]; exact i1

abbrev mirP (p : Tr × Tr) : Tr × Tr := (mir p.1, mir p.2)

theorem both_mir {p : Tr × Tr} (hp : p.1.c = p.2.c) (h : bothL p = []) : bothL (mirP p) = [] := by
  cases hb : bothL (mirP p) with
  | nil => rfl
  | cons k r =>
    have hm : k ∈ bothL (mirP p) := by rw [hb]; simp
    obtain ⟨h1, h2⟩ := step_mem.1 hm
    have j1 := isEx_mir _ _ h1
    have j2 := isEx_mir _ _ h2
    simp only [mir_mir, mir_c] at j1 j2
    rw [← hp] at j2
    have : p.1.c - 1 - k ∈ bothL p := step_mem.2 ⟨j1, j2⟩
    rw [h] at this
    cases this

def flp (s : St2) : St2 := fun n => !s n

theorem flp_flp (s : St2) : flp (flp s) = s := by funext n; simp [flp]
theorem flp_sc (b : Bool) (s : St2) : flp (sc b s) = sc (!b) (flp s) := by funext n; cases n <;> rfl

theorem emit_mir : ∀ (t : Tr) (i : Nat) (s : St2), i ≤ t.c → emit (mir t) (t.c - i) (flp s) = flp (emit t i s)
  | .leaf, i, s, h => rfl
  | .node l r, i, s, h => by
    have e : (Tr.node l r).c = l.c + r.c + 1 := by simp only [Tr.c]; omega
    have cl := mir_c l
    have cr := mir_c r
    rw [mir, emit, emit]
    by_cases hi : i < l.c + 1
    · rw [if_pos hi, if_neg (by omega), flp_sc]
      have ei : (Tr.node l r).c - i - ((mir r).c + 1) = l.c - i := by omega
      rw [ei, emit_mir l i s (by omega)]
      rfl
    · rw [if_neg hi, if_pos (by omega), flp_sc]
      have ei : (Tr.node l r).c - i = r.c - (i - (l.c + 1)) := by omega
      rw [ei, emit_mir r (i - (l.c + 1)) s (by omega)]
      rfl

theorem fOf_mir (p : Tr × Tr) (hp : p.1.c = p.2.c) (s : St2) : fOf (mirP p) (flp s) = flp (fOf p s) := by
  have hw := walk_le p.1 s
  have e : flp s = emit (mir p.1) (p.1.c - (walk p.1 s).1) (flp (walk p.1 s).2) := by
    rw [emit_mir _ _ _ hw, emit_walk]
  rw [e]
  have h1 := fOf_emit (mirP p) (p.1.c - (walk p.1 s).1) (flp (walk p.1 s).2) (by show _ ≤ (mir p.1).c; rw [mir_c]; omega)
  refine h1.trans ?_
  show emit (mir p.2) _ _ = _
  rw [hp, emit_mir _ _ _ (by omega)]
  rfl

theorem times_mir (p q : Tr × Tr) (hp : p.1.c = p.2.c) (hq : q.1.c = q.2.c) : timesT (mirP p) (mirP q) = mirP (timesT p q) := by
  have hr := times_eqc p q hp hq
  have mp : (mirP p).1.c = (mirP p).2.c := by show (mir p.1).c = (mir p.2).c; rw [mir_c, mir_c, hp]
  have mq : (mirP q).1.c = (mirP q).2.c := by show (mir q.1).c = (mir q.2).c; rw [mir_c, mir_c, hq]
  have mr : (mirP (timesT p q)).1.c = (mirP (timesT p q)).2.c := by show (mir _).c = (mir _).c; rw [mir_c, mir_c, hr]
  refine red_unique _ _ (times_eqc _ _ mp mq) mr (times_red _ _) (both_mir hr (times_red _ _)) fun s => ?_
  rw [fOf_times _ _ mp mq]
  have e : s = flp (flp s) := (flp_flp s).symm
  rw [e, fOf_mir p hp, fOf_mir q hq, fOf_mir _ hr, fOf_times p q hp hq]

/-! ### Reduced pairs and what they do -/

theorem red_of (p q : Tr × Tr) (hp : p.1.c = p.2.c) (hq : q.1.c = q.2.c) (rq : bothL q = []) (h : ∀ s, fOf q s = fOf p s) (n : Nat) (hn : p.1.c ≤ n) : red n p = q :=
  red_unique _ _ (red_eqc n p hp) hq (red_done n p hn) rq fun s => by rw [fOf_red n p hp, h]

theorem red_self (q : Tr × Tr) (hq : q.1.c = q.2.c) (rq : bothL q = []) (n : Nat) (hn : q.1.c ≤ n) : red n q = q := red_of q q hq hq rq (fun _ => rfl) n hn

theorem times_back (p q : Tr × Tr) (hp : p.1.c = p.2.c) (hq : q.1.c = q.2.c) : timesT (timesT p q) (swp q) = red p.1.c p := by
  have hr := times_eqc p q hp hq
  refine (red_of p _ hp (times_eqc _ _ hr hq.symm) (times_red _ _) (fun s => ?_) p.1.c (Nat.le_refl _)).symm
  rw [fOf_times _ _ hr hq.symm, fOf_times _ _ hp hq, fOf_swp q hq]

/-- Times a pair and its inverse. -/
theorem times_undo (o p : Tr × Tr) (ho : o.1.c = o.2.c) (ro : bothL o = []) (hp : p.1.c = p.2.c) : timesT (timesT o (swp p)) p = o := by
  have hr := times_eqc o (swp p) ho hp.symm
  refine red_unique _ _ (times_eqc _ _ hr hp) ho (times_red _ _) ro fun s => ?_
  rw [fOf_times _ _ hr hp, fOf_times _ _ ho hp.symm, fOf_swp' p hp]

theorem fOf_unit (s : St2) : fOf (.leaf, .leaf) s = s := rfl

theorem times_unit (p : Tr × Tr) (hp : p.1.c = p.2.c) (s : St2) : fOf (timesT (.leaf, .leaf) p) s = fOf p s := by rw [fOf_times _ _ rfl hp]; rfl

/-! ### Commutators -/

def comT2 (p q : Tr × Tr) : Tr × Tr := timesT (timesT (swp p) (swp q)) (timesT p q)

theorem comT_eqc (p q : Tr × Tr) (hp : p.1.c = p.2.c) (hq : q.1.c = q.2.c) : (comT2 p q).1.c = (comT2 p q).2.c :=
  times_eqc _ _ (times_eqc _ _ hp.symm hq.symm) (times_eqc _ _ hp hq)

theorem fOf_com (p q : Tr × Tr) (hp : p.1.c = p.2.c) (hq : q.1.c = q.2.c) (s : St2) : fOf (comT2 p q) s = fOf q (fOf p (fOf (swp q) (fOf (swp p) s))) := by
  rw [comT2, fOf_times _ _ (times_eqc (swp p) (swp q) hp.symm hq.symm) (times_eqc p q hp hq), fOf_times (swp p) (swp q) hp.symm hq.symm, fOf_times p q hp hq]

theorem com_unit (p q : Tr × Tr) (hp : p.1.c = p.2.c) (hq : q.1.c = q.2.c) : comT2 p q = (.leaf, .leaf) ↔ timesT p q = timesT q p := by
  constructor
  · intro h
    refine red_unique _ _ (times_eqc _ _ hp hq) (times_eqc _ _ hq hp) (times_red _ _) (times_red _ _) fun s => ?_
    rw [fOf_times _ _ hp hq, fOf_times _ _ hq hp]
    have h1 := fOf_com p q hp hq (fOf p (fOf q s))
    rw [h, fOf_swp p hp, fOf_swp q hq] at h1
    exact h1.symm
  · intro h
    refine red_unique _ _ (comT_eqc p q hp hq) rfl (times_red _ _) rfl fun s => ?_
    rw [fOf_com p q hp hq]
    have h1 : ∀ u, fOf q (fOf p u) = fOf p (fOf q u) := fun u => by rw [← fOf_times _ _ hp hq, h, fOf_times _ _ hq hp]
    rw [h1, fOf_swp' q hq, fOf_swp' p hp]
    rfl

/-! ### The slope at the left end -/

def ld : Tr → Nat
  | .leaf => 0
  | .node l _ => ld l + 1

def rd' : Tr → Nat
  | .leaf => 0
  | .node _ r => rd' r + 1

theorem ld_mir : ∀ t : Tr, ld (mir t) = rd' t
  | .leaf => rfl
  | .node l r => by simp only [mir, ld, rd', ld_mir r]

theorem emit_ld : ∀ (t : Tr) (s : St2), emit t 0 s = ap (List.replicate (ld t) false) s
  | .leaf, s => rfl
  | .node l r, s => by
    rw [emit, if_pos (by omega), emit_ld l, ld, List.replicate_succ]; rfl

/-- Words that begin with zeros are moved by a number of zeros. -/
def Sh (F : St2 → St2) (a b : Nat) : Prop := ∀ m s, F (ap (List.replicate (m + a) false) s) = ap (List.replicate (m + b) false) s

theorem ap_rep (a b : Nat) (s : St2) : ap (List.replicate (a + b) false) s = ap (List.replicate a false) (ap (List.replicate b false) s) := by
  rw [ap_ap, List.replicate_append_replicate]

theorem sh_pair (p : Tr × Tr) (hp : p.1.c = p.2.c) : Sh (fOf p) (ld p.1) (ld p.2) := by
  intro m s
  have h1 : ap (List.replicate (m + ld p.1) false) s = emit p.1 0 (ap (List.replicate m false) s) := by rw [emit_ld, Nat.add_comm, ap_rep]
  have h2 : ap (List.replicate (m + ld p.2) false) s = emit p.2 0 (ap (List.replicate m false) s) := by rw [emit_ld, Nat.add_comm, ap_rep]
  rw [h1, h2, fOf_emit _ _ _ (Nat.zero_le _)]

theorem sh_comp {F G : St2 → St2} {a b c d : Nat} (h1 : Sh F a b) (h2 : Sh G c d) : Sh (fun s => G (F s)) (a + c) (b + d) := by
  intro m s
  have e1 : m + (a + c) = (m + c) + a := by omega
  have e2 : (m + c) + b = (m + b) + c := by omega
  have e3 : (m + b) + d = m + (b + d) := by omega
  show G (F _) = _
  rw [e1, h1, e2, h2, e3]

theorem ap_inj : ∀ (a b : Nat), ap (List.replicate a false) (fun _ => true) = ap (List.replicate b false) (fun _ => true) → a = b
  | 0, 0, _ => rfl
  | 0, b + 1, h => by have := congrFun h 0; simp [List.replicate_succ, ap, sc] at this
  | a + 1, 0, h => by have := congrFun h 0; simp [List.replicate_succ, ap, sc] at this
  | a + 1, b + 1, h => by
    rw [List.replicate_succ, List.replicate_succ] at h
    have := ap_inj a b (sc_inj h).2
    omega

theorem com_ld (p q : Tr × Tr) (hp : p.1.c = p.2.c) (hq : q.1.c = q.2.c) : ld (comT2 p q).1 = ld (comT2 p q).2 := by
  have h0 := sh_pair (comT2 p q) (comT_eqc p q hp hq)
  have h1 := sh_comp (sh_comp (sh_comp (sh_pair (swp p) hp.symm) (sh_pair (swp q) hq.symm)) (sh_pair p hp)) (sh_pair q hq)
  generalize hA : ld (swp p).1 + ld (swp q).1 + ld p.1 + ld q.1 = A at h1
  have hB : ld (swp p).2 + ld (swp q).2 + ld p.2 + ld q.2 = A := by
    rw [← hA]; show ld p.1 + ld q.1 + ld p.2 + ld q.2 = ld p.2 + ld q.2 + ld p.1 + ld q.1; omega
  rw [hB] at h1
  have e1 := h0 A (fun _ => true)
  have e2 := h1 (ld (comT2 p q).1) (fun _ => true)
  have e3 : ∀ s, fOf (comT2 p q) s = fOf q (fOf p (fOf (swp q) (fOf (swp p) s))) := fOf_com p q hp hq
  rw [e3, Nat.add_comm] at e1
  have e4 := e1.symm.trans e2
  have := ap_inj _ _ e4
  omega

theorem mir_com (p q : Tr × Tr) (hp : p.1.c = p.2.c) (hq : q.1.c = q.2.c) : comT2 (mirP p) (mirP q) = mirP (comT2 p q) := by
  have h1 := times_mir (swp p) (swp q) hp.symm hq.symm
  have h2 := times_mir p q hp hq
  have h3 := times_mir (timesT (swp p) (swp q)) (timesT p q) (times_eqc _ _ hp.symm hq.symm) (times_eqc _ _ hp hq)
  unfold comT2
  rw [← h3, ← h1, ← h2]

theorem com_rd (p q : Tr × Tr) (hp : p.1.c = p.2.c) (hq : q.1.c = q.2.c) : rd' (comT2 p q).1 = rd' (comT2 p q).2 := by
  have h := com_ld (mirP p) (mirP q) (by show (mir p.1).c = (mir p.2).c; rw [mir_c, mir_c, hp]) (by show (mir q.1).c = (mir q.2).c; rw [mir_c, mir_c, hq])
  rw [mir_com p q hp hq] at h
  have h' : ld (mir (comT2 p q).1) = ld (mir (comT2 p q).2) := h
  rwa [ld_mir, ld_mir] at h'

end Go.AI
end

section
/- Plain: fractions of forests. -/
set_option autoImplicit false
set_option maxRecDepth 100000
set_option linter.unusedVariables false
namespace Go.AI

/-- What hangs at the left sides of the right side of a tree. -/
def hangT : Tr → List Tr
  | .leaf => []
  | .node l r => l :: hangT r

theorem comb_hang : ∀ t : Tr, combT (hangT t) = t
  | .leaf => rfl
  | .node l r => by rw [hangT, combT, comb_hang r]

theorem foF_hang (t : Tr) : foF (trim (hangT t)) = fOf (t, combR t.c) := by
  rw [foF_trim, foF, comb_hang]

/-- The fraction of two forests. -/
def frP (F G : List Tr) : Tr × Tr := timesT (fpP F) ((fpP G).2, (fpP G).1)

theorem frP_eqc (F G : List Tr) : (frP F G).1.c = (frP F G).2.c := times_eqc _ _ (fp_eqc F) (fp_eqc G).symm

theorem frP_red (F G : List Tr) : bothL (frP F G) = [] := times_red _ _

/-- A fraction takes s to y where the second forest takes y to what the first one takes s to. -/
theorem frP_fOf (F G : List Tr) (s y : St2) (h : foF G y = foF F s) : fOf (frP F G) s = y := by
  unfold frP
  rw [fOf_times _ _ (fp_eqc F) (fp_eqc G).symm, fp_fOf, ← h, ← fp_fOf G]
  exact fOf_inv _ _ (fp_eqc G) y

theorem foF_frP (F G : List Tr) (s : St2) : foF G (fOf (frP F G) s) = foF F s := by
  unfold frP
  rw [fOf_times _ _ (fp_eqc F) (fp_eqc G).symm, fp_fOf, ← fp_fOf G]
  exact fOf_inv _ _ (fp_eqc G).symm _

theorem frP_uniq (F G : List Tr) (p : Tr × Tr) (hp : p.1.c = p.2.c) (hr : bothL p = []) (h : ∀ s, foF G (fOf p s) = foF F s) : frP F G = p :=
  red_unique _ _ (frP_eqc F G) hp (frP_red F G) hr fun s => frP_fOf F G s _ (h s)

theorem frP_hang (p : Tr × Tr) (hp : p.1.c = p.2.c) (hr : bothL p = []) : frP (trim (hangT p.1)) (trim (hangT p.2)) = p :=
  frP_uniq _ _ p hp hr fun s => by
    rw [foF_hang, foF_hang]
    have := fOf_comp p.1 p.2 (combR p.2.c) hp s
    rw [this, hp]

theorem frP_swp (F G : List Tr) : frP F G = ((frP G F).2, (frP G F).1) := by
  refine frP_uniq F G _ (frP_eqc G F).symm ?_ fun s => ?_
  · have := frP_red G F
    exact both_swp this
  · have h := foF_frP G F (fOf ((frP G F).2, (frP G F).1) s)
    rw [← h]
    have e : fOf (frP G F) (fOf ((frP G F).2, (frP G F).1) s) = s := fOf_inv (frP G F).2 (frP G F).1 (frP_eqc G F).symm s
    rw [e]

theorem frP_stack {F G T S U : List Tr} (h1 : Stk F T S) (h2 : Stk G T U) : frP S U = frP F G :=
  frP_uniq S U _ (frP_eqc F G) (frP_red F G) fun s => by rw [h2.foE, foF_frP, h1.foE]

theorem frP_one (F : List Tr) : frP F [] = fpP F :=
  frP_uniq F [] _ (fp_eqc F) (fp_red F) fun s => by
    rw [fp_fOf]
    rfl

end Go.AI
end
