/- Plain: whatever is dropped first, the same reduced pair is left. -/
import Derived.Test.YtdfllkeekehplaaCR
set_option autoImplicit false
set_option linter.unusedVariables false
namespace Go.AI

/-- Is the leaf the left one of an exposed caret? -/
def isEx : Tr → Nat → Bool
  | .leaf, _ => false
  | .node l r, k => if l.isLeaf = true ∧ r.isLeaf = true then decide (k = 0) else if l.c + 1 ≤ k then isEx r (k - (l.c + 1)) else isEx l k

theorem isEx_lt : ∀ (t : Tr) (k : Nat), isEx t k = true → k < t.c
  | .leaf, _, h => by simp [isEx] at h
  | .node l r, k, h => by
    rw [isEx] at h
    have e : (Tr.node l r).c = l.c + r.c + 1 := by simp only [Tr.c]; omega
    split at h
    · have : k = 0 := of_decide_eq_true h
      omega
    · split at h
      · have := isEx_lt r _ h; omega
      · have := isEx_lt l _ h; omega

theorem isEx_iff : ∀ (t : Tr) (k : Nat), isEx t k = true ↔ k ∈ exL t 0
  | .leaf, k => by simp [isEx, exL]
  | .node l r, k => by
    rw [isEx, exL]
    split
    · simp
    · have e : exL r (0 + l.c + 1) = (exL r 0).map (· + (l.c + 1)) := by
        rw [← exL_shift r 0 (l.c + 1), Nat.add_assoc]
      rw [e, List.mem_append, List.mem_map]
      split
      · rename_i hk
        rw [isEx_iff r]
        constructor
        · intro h; exact .inr ⟨_, h, by omega⟩
        · rintro (h | ⟨x, h, hx⟩)
          · have := exL_range l 0 k h; omega
          · have : k - (l.c + 1) = x := by omega
            rw [this]; exact h
      · rename_i hk
        rw [isEx_iff l]
        constructor
        · intro h; exact .inl h
        · rintro (h | ⟨x, h, hx⟩)
          · exact h
          · omega

theorem isEx_leaf {t : Tr} {k : Nat} (h : isEx t k = true) : t.isLeaf = false := by
  cases t with
  | leaf => simp [isEx] at h
  | node l r => rfl

theorem wo_cc : ∀ (t : Tr) (k : Nat), isEx t k = true → (wo t k).c + 1 = t.c
  | .leaf, _, h => by simp [isEx] at h
  | .node l r, k, h => by
    rw [isEx] at h
    rw [wo]
    have e : (Tr.node l r).c = l.c + r.c + 1 := by simp only [Tr.c]; omega
    split at h
    · rename_i hb
      rw [if_pos hb]
      obtain ⟨h1, h2⟩ := hb
      cases l <;> cases r <;> simp_all [Tr.isLeaf, Tr.c]
    · rename_i hb
      rw [if_neg hb]
      split at h
      · rename_i hk
        rw [if_pos hk]
        have := wo_cc r _ h
        have e2 : (Tr.node l (wo r (k - (l.c + 1)))).c = l.c + (wo r (k - (l.c + 1))).c + 1 := by simp only [Tr.c]; omega
        omega
      · rename_i hk
        rw [if_neg hk]
        have := wo_cc l _ h
        have e2 : (Tr.node (wo l k) r).c = (wo l k).c + r.c + 1 := by simp only [Tr.c]; omega
        omega

theorem dia : ∀ (t : Tr) (j k : Nat), isEx t j = true → isEx t k = true → j < k →
    isEx (wo t k) j = true ∧ isEx (wo t j) (k - 1) = true ∧ wo (wo t k) j = wo (wo t j) (k - 1)
  | .leaf, _, _, h, _, _ => by simp [isEx] at h
  | .node l r, j, k, hj, hk, hlt => by
    rw [isEx] at hj hk
    by_cases hb : l.isLeaf = true ∧ r.isLeaf = true
    · rw [if_pos hb] at hj hk
      have := of_decide_eq_true hj
      have := of_decide_eq_true hk
      omega
    · rw [if_neg hb] at hj hk
      by_cases h1 : l.c + 1 ≤ j
      · have h2 : l.c + 1 ≤ k := by omega
        rw [if_pos h1] at hj
        rw [if_pos h2] at hk
        obtain ⟨a1, a2, a3⟩ := dia r _ _ hj hk (by omega)
        have ek : wo (.node l r) k = .node l (wo r (k - (l.c + 1))) := by rw [wo, if_neg hb, if_pos h2]
        have ej : wo (.node l r) j = .node l (wo r (j - (l.c + 1))) := by rw [wo, if_neg hb, if_pos h1]
        have n1 : ¬ (l.isLeaf = true ∧ (wo r (k - (l.c + 1))).isLeaf = true) := fun h => by rw [isEx_leaf a1] at h; exact absurd h.2 (by simp)
        have n2 : ¬ (l.isLeaf = true ∧ (wo r (j - (l.c + 1))).isLeaf = true) := fun h => by rw [isEx_leaf a2] at h; exact absurd h.2 (by simp)
        have e1 : k - 1 - (l.c + 1) = k - (l.c + 1) - 1 := by omega
        rw [ek, ej, isEx, if_neg n1, if_pos h1, isEx, if_neg n2, if_pos (by omega), wo, if_neg n1, if_pos h1, wo, if_neg n2, if_pos (by omega), e1]
        exact ⟨a1, a2, by rw [a3]⟩
      · rw [if_neg h1] at hj
        have ej : wo (.node l r) j = .node (wo l j) r := by rw [wo, if_neg hb, if_neg h1]
        have hjl := isEx_lt l j hj
        have hcj := wo_cc l j hj
        by_cases h2 : l.c + 1 ≤ k
        · rw [if_pos h2] at hk
          have ek : wo (.node l r) k = .node l (wo r (k - (l.c + 1))) := by rw [wo, if_neg hb, if_pos h2]
          have n1 : ¬ (l.isLeaf = true ∧ (wo r (k - (l.c + 1))).isLeaf = true) := fun h => by rw [isEx_leaf hj] at h; exact absurd h.1 (by simp)
          have n2 : ¬ ((wo l j).isLeaf = true ∧ r.isLeaf = true) := fun h => by rw [isEx_leaf hk] at h; exact absurd h.2 (by simp)
          have e1 : k - 1 - ((wo l j).c + 1) = k - (l.c + 1) := by omega
          rw [ek, ej, isEx, if_neg n1, if_neg h1, isEx, if_neg n2, if_pos (by omega), wo, if_neg n1, if_neg h1, wo, if_neg n2, if_pos (by omega), e1]
          exact ⟨hj, hk, rfl⟩
        · rw [if_neg h2] at hk
          obtain ⟨a1, a2, a3⟩ := dia l _ _ hj hk hlt
          have ek : wo (.node l r) k = .node (wo l k) r := by rw [wo, if_neg hb, if_neg h2]
          have n1 : ¬ ((wo l k).isLeaf = true ∧ r.isLeaf = true) := fun h => by rw [isEx_leaf a1] at h; exact absurd h.1 (by simp)
          have n2 : ¬ ((wo l j).isLeaf = true ∧ r.isLeaf = true) := fun h => by rw [isEx_leaf a2] at h; exact absurd h.1 (by simp)
          have b1 := isEx_lt _ _ a1
          have b2 := isEx_lt _ _ a2
          rw [ek, ej, isEx, if_neg n1, if_neg (by omega), isEx, if_neg n2, if_neg (by omega), wo, if_neg n1, if_neg (by omega), wo, if_neg n2, if_neg (by omega)]
          exact ⟨a1, a2, by rw [a3]⟩

/-- One caret that both trees have is dropped. -/
def Step (p q : Tr × Tr) : Prop := ∃ k, isEx p.1 k = true ∧ isEx p.2 k = true ∧ q = (wo p.1 k, wo p.2 k)

inductive Steps : Tr × Tr → Tr × Tr → Prop
  | refl (p : Tr × Tr) : Steps p p
  | cons {p q r : Tr × Tr} : Step p q → Steps q r → Steps p r

def Nf (p : Tr × Tr) : Prop := ∀ q, ¬ Step p q

theorem Step.c {p q : Tr × Tr} (h : Step p q) : q.1.c + 1 = p.1.c ∧ q.2.c + 1 = p.2.c := by
  obtain ⟨k, h1, h2, rfl⟩ := h
  exact ⟨wo_cc _ _ h1, wo_cc _ _ h2⟩

theorem Steps.c {p q : Tr × Tr} (h : Steps p q) : q.1.c ≤ p.1.c ∧ q.2.c ≤ p.2.c ∧ q.1.c + p.2.c = p.1.c + q.2.c := by
  induction h with
  | refl p => exact ⟨Nat.le_refl _, Nat.le_refl _, rfl⟩
  | cons h1 _ ih => have := h1.c; omega

theorem Steps.trans {p q r : Tr × Tr} (h1 : Steps p q) (h2 : Steps q r) : Steps p r := by
  induction h1 with
  | refl p => exact h2
  | cons h _ ih => exact .cons h (ih h2)

theorem nf_ex : ∀ (n : Nat) (p : Tr × Tr), p.1.c ≤ n → ∃ q, Steps p q ∧ Nf q := by
  intro n
  induction n with
  | zero => exact fun p hp => ⟨p, .refl p, fun q h => by have := h.c; omega⟩
  | succ n ih =>
    intro p hp
    by_cases h : ∃ q, Step p q
    · obtain ⟨q, hq⟩ := h
      obtain ⟨r, h1, h2⟩ := ih q (by have := hq.c; omega)
      exact ⟨r, .cons hq h1, h2⟩
    · exact ⟨p, .refl p, fun q hq => h ⟨q, hq⟩⟩

theorem diaP {p q r : Tr × Tr} (h1 : Step p q) (h2 : Step p r) : q = r ∨ ∃ s, Step q s ∧ Step r s := by
  obtain ⟨j, a1, a2, rfl⟩ := h1
  obtain ⟨k, b1, b2, rfl⟩ := h2
  rcases Nat.lt_trichotomy j k with h | h | h
  · obtain ⟨c1, c2, c3⟩ := dia p.1 j k a1 b1 h
    obtain ⟨d1, d2, d3⟩ := dia p.2 j k a2 b2 h
    exact .inr ⟨(wo (wo p.1 k) j, wo (wo p.2 k) j), ⟨k - 1, c2, d2, by rw [c3, d3]⟩, ⟨j, c1, d1, rfl⟩⟩
  · subst h; exact .inl rfl
  · obtain ⟨c1, c2, c3⟩ := dia p.1 k j b1 a1 h
    obtain ⟨d1, d2, d3⟩ := dia p.2 k j b2 a2 h
    exact .inr ⟨(wo (wo p.1 j) k, wo (wo p.2 j) k), ⟨k, c1, d1, rfl⟩, ⟨j - 1, c2, d2, by rw [c3, d3]⟩⟩

theorem nf_one : ∀ (n : Nat) (p a b : Tr × Tr), p.1.c ≤ n → Steps p a → Nf a → Steps p b → Nf b → a = b := by
  intro n
  induction n with
  | zero =>
    intro p a b hp ha na hb nb
    cases ha with
    | refl => cases hb with
      | refl => rfl
      | cons h _ => exact absurd h (na _)
    | cons h _ => have := h.c; omega
  | succ n ih =>
    intro p a b hp ha na hb nb
    cases ha with
    | refl => cases hb with
      | refl => rfl
      | cons h _ => exact absurd h (na _)
    | cons h1 ha1 => cases hb with
      | refl => exact absurd h1 (nb _)
      | cons h2 hb1 =>
        have c1 := h1.c
        have c2 := h2.c
        rcases diaP h1 h2 with e | ⟨s, s1, s2⟩
        · subst e
          exact ih _ a b (by omega) ha1 na hb1 nb
        · obtain ⟨c, hc, nc⟩ := nf_ex s.1.c s (Nat.le_refl _)
          have e1 := ih _ a c (by omega) ha1 na (.cons s1 hc) nc
          have e2 := ih _ b c (by omega) hb1 nb (.cons s2 hc) nc
          rw [e1, e2]

theorem step_mem {p : Tr × Tr} {k : Nat} : k ∈ bothL p ↔ isEx p.1 k = true ∧ isEx p.2 k = true := by
  unfold bothL
  rw [List.mem_filter, isEx_iff, isEx_iff, List.contains_iff_mem]

theorem nf_both {p : Tr × Tr} : Nf p ↔ bothL p = [] := by
  constructor
  · intro h
    cases hb : bothL p with
    | nil => rfl
    | cons k r =>
      have hm : k ∈ bothL p := by rw [hb]; simp
      obtain ⟨h1, h2⟩ := step_mem.1 hm
      exact absurd ⟨k, h1, h2, rfl⟩ (h _)
  · intro h q ⟨k, h1, h2, _⟩
    have hm := step_mem.2 ⟨h1, h2⟩
    rw [h] at hm
    cases hm

theorem red_steps : ∀ (n : Nat) (p : Tr × Tr), Steps p (red n p) ∧ (p.1.c ≤ n → Nf (red n p)) := by
  intro n
  induction n with
  | zero => exact fun p => ⟨.refl p, fun h q hq => by have h2 : q.1.c + 1 = p.1.c := hq.c.1; omega⟩
  | succ n ih =>
    intro p
    rw [red]
    split
    · rename_i hb
      exact ⟨.refl p, fun _ => nf_both.2 hb⟩
    · rename_i k r hb
      have hm : k ∈ bothL p := by rw [hb]; simp
      obtain ⟨h1, h2⟩ := step_mem.1 hm
      have hs : Step p (wo p.1 k, wo p.2 k) := ⟨k, h1, h2, rfl⟩
      obtain ⟨i1, i2⟩ := ih (wo p.1 k, wo p.2 k)
      exact ⟨.cons hs i1, fun hc => i2 (by have h3 : (wo p.1 k).c + 1 = p.1.c := hs.c.1; show (wo p.1 k).c ≤ n; omega)⟩

/-- What is left does not depend on the order. -/
theorem red_one {n m : Nat} {p q r : Tr × Tr} (h1 : Steps p q) (h2 : Steps p r) (hn : q.1.c ≤ n) (hm : r.1.c ≤ m) : red n q = red m r := by
  obtain ⟨a1, a2⟩ := red_steps n q
  obtain ⟨b1, b2⟩ := red_steps m r
  exact nf_one p.1.c p _ _ (Nat.le_refl _) (h1.trans a1) (a2 hn) (h2.trans b1) (b2 hm)

end Go.AI
