/- A part of the road: what it proves stands in its last texts. -/
import Derived.Test.YtndnckjnnfnnnaaDoorJL
section
/- Plain law: both cuts; what is cut is reduced. -/
set_option autoImplicit false
set_option maxRecDepth 100000
set_option linter.unusedVariables false
namespace Go.AI

theorem child0 (a : List UInt8) (ha : a.length < 40) : stA (a ++ [48]) = stA a ∧ enA (a ++ [48]) = stA a + 2 ^ (39 - a.length) := by
  have e : stA (a ++ [48]) = stA a := by unfold stA; rw [plF_snoc, if_neg (by decide)]
  refine ⟨e, ?_⟩
  rw [(stA_lt (a ++ [48]) (by simp; omega)).2.2, e, List.length_append, List.length_singleton, show 40 - (a.length + 1) = 39 - a.length by omega]

theorem child1 (a : List UInt8) (ha : a.length < 40) : stA (a ++ [49]) = stA a + 2 ^ (39 - a.length) ∧ enA (a ++ [49]) = enA a := by
  have e : stA (a ++ [49]) = stA a + 2 ^ (39 - a.length) := by
    unfold stA; rw [plF_snoc, if_pos rfl, grain_div (by omega), show 40 - (a.length + 1) = 39 - a.length by omega]
  refine ⟨e, ?_⟩
  rw [(stA_lt (a ++ [49]) (by simp; omega)).2.2, e, (stA_lt a (by omega)).2.2, List.length_append, List.length_singleton, show 40 - (a.length + 1) = 39 - a.length by omega, Nat.add_assoc, ← Nat.two_mul, ← Nat.pow_succ', show (39 - a.length).succ = 40 - a.length by omega]

/-- An interval of one part whose image is too long. -/
def Lng (Z : List (Nat × Nat)) (L : List Int) (a : List UInt8) : Prop := ∃ k, InP Z L (stA a) k ∧ enA a ≤ (gS Z (k + 1)).1 ∧ 8 < (a.length : Int) - List.getD L k 0

theorem Lng.child {Z : List (Nat × Nat)} {L : List Int} {a : List UInt8} (h : Lng Z L a) (ha : a.length < 40) : Lng Z L (a ++ [48]) ∧ Lng Z L (a ++ [49]) := by
  obtain ⟨k, h1, h2, h3⟩ := h
  obtain ⟨c1, c2⟩ := child0 a ha
  obtain ⟨d1, d2⟩ := child1 a ha
  have hp : 0 < 2 ^ (39 - a.length) := Nat.pow_pos (by omega)
  have hs := (stA_lt a (by omega)).2.2
  have he : 2 ^ (40 - a.length) = 2 ^ (39 - a.length) + 2 ^ (39 - a.length) := by rw [show 40 - a.length = 39 - a.length + 1 by omega, Nat.pow_succ]; omega
  have h4 := h1.gt
  have h5 := h1.le
  generalize 2 ^ (39 - a.length) = P at *
  generalize 2 ^ (40 - a.length) = Q at *
  refine ⟨⟨k, ⟨h1.lt, by omega, by omega⟩, by omega, by rw [List.length_append, List.length_singleton]; omega⟩, ⟨k, ⟨h1.lt, by omega, by omega⟩, by omega, by rw [List.length_append, List.length_singleton]; omega⟩⟩

theorem accK_some {Z : List (Nat × Nat)} {L : List Int} {a b : List UInt8} {k : Nat} (h : accK Z L a k = some b) : enA a ≤ (gS Z (k + 1)).1 ∧ 0 ≤ (a.length : Int) - List.getD L k 0 ∧ (b.length : Int) = (a.length : Int) - List.getD L k 0 ∧ atI Z L (stA a) k % 2 ^ (40 - b.length) = 0 ∧ b = dig (atI Z L (stA a) k) b.length 39 := by
  unfold accK at h
  split at h
  · cases h
  · split at h
    · rename_i h1 h2
      simp only [Option.some.injEq] at h
      have hl : b.length = ((a.length : Int) - List.getD L k 0).toNat := by rw [← h, dig_length]
      exact ⟨by omega, h2.1, by omega, by rw [hl]; exact h2.2, by rw [hl]; exact h.symm⟩
    · cases h

theorem lng_none {Z : List (Nat × Nat)} {L : List Int} {R : List UInt8 → Option (List UInt8)} (hz : GZ Z L) (hR : ∀ a, a.length ≤ 8 → R a = (accI Z L a).filter fun b => decide (b.length ≤ 8)) : ∀ (f : Nat) (a : List UInt8), a.length + f = 9 → Lng Z L a → cutR R f a = none
  | 0, a, _, _ => rfl
  | f + 1, a, hf, h => by
    have hr : R a = none := by
      rw [hR a (by omega)]
      cases hg : accI Z L a with
      | none => rfl
      | some b =>
        obtain ⟨k, h1, h2, h3⟩ := h
        rw [accI_eq hz a (by omega) h1] at hg
        have := (accK_some hg).2.2.1
        rw [Option.filter_some, if_neg (by rw [decide_eq_true_eq]; omega)]
    have hc := lng_none hz hR f (a ++ [48]) (by simp; omega) (h.child (by omega)).1
    simp only [cutR, hr, hc]

/-- The reference's cut: the program's, where all images are short. -/
theorem cut_two {Z : List (Nat × Nat)} {L : List Int} {R : List UInt8 → Option (List UInt8)} (hz : GZ Z L) (hR : ∀ a, a.length ≤ 8 → R a = (accI Z L a).filter fun b => decide (b.length ≤ 8)) : ∀ (f : Nat) (a : List UInt8) (x y : LL), a.length + f = 9 →
    (cutR R f a = some (x, y) ↔ cutR (accI Z L) f a = some (x, y) ∧ ∀ b ∈ y, b.length ≤ 8)
  | 0, a, x, y, _ => by simp [cutR]
  | f + 1, a, x, y, hf => by
    have hr := hR a (by omega)
    cases hg : accI Z L a with
    | some b =>
      rw [hg] at hr
      rw [cutR_some _ f a hg]
      by_cases hb : b.length ≤ 8
      · rw [Option.filter_some, if_pos (decide_eq_true hb)] at hr
        rw [cutR_some _ f a hr]
        constructor
        · intro h
          refine ⟨h, ?_⟩
          simp only [Option.some.injEq, Prod.mk.injEq] at h
          rw [← h.2]
          intro c hc
          rw [List.mem_singleton.1 hc]
          exact hb
        · exact fun h => h.1
      · have hl : Lng Z L a := by
          have hk := accI_in hz a (by omega)
          rw [accI_eq hz a (by omega) hk] at hg
          have t := accK_some hg
          exact ⟨_, hk, t.1, by omega⟩
        rw [lng_none hz hR (f + 1) a hf hl]
        constructor
        · intro h; cases h
        · rintro ⟨h, h2⟩
          simp only [Option.some.injEq, Prod.mk.injEq] at h
          exact absurd (h2 b (by rw [← h.2]; simp)) hb
    | none =>
      rw [hg] at hr
      have hr : R a = none := hr
      have i1 := fun x y => cut_two hz hR f (a ++ [48]) x y (by simp; omega)
      have i2 := fun x y => cut_two hz hR f (a ++ [49]) x y (by simp; omega)
      constructor
      · intro h
        simp only [cutR, hr] at h
        cases c1 : cutR R f (a ++ [48]) with
        | none => rw [c1] at h; cases h
        | some p =>
          obtain ⟨x1, y1⟩ := p
          rw [c1] at h
          obtain ⟨g1, s1⟩ := (i1 x1 y1).1 c1
          cases c2 : cutR R f (a ++ [49]) with
          | none => rw [c2] at h; cases h
          | some p =>
            obtain ⟨x2, y2⟩ := p
            rw [c2] at h
            obtain ⟨g2, s2⟩ := (i2 x2 y2).1 c2
            simp only at h
            split at h
            · cases h
            · rename_i hlen
              simp only [Option.some.injEq, Prod.mk.injEq] at h
              refine ⟨by simp only [cutR, hg, g1, g2, if_neg hlen, h.1, h.2], ?_⟩
              rw [← h.2]
              intro b hb
              rcases List.mem_append.1 hb with hb | hb
              · exact s1 b hb
              · exact s2 b hb
      · rintro ⟨h, hy⟩
        simp only [cutR, hg] at h
        cases c1 : cutR (accI Z L) f (a ++ [48]) with
        | none => rw [c1] at h; cases h
        | some p =>
          obtain ⟨x1, y1⟩ := p
          rw [c1] at h
          cases c2 : cutR (accI Z L) f (a ++ [49]) with
          | none => rw [c2] at h; cases h
          | some p =>
            obtain ⟨x2, y2⟩ := p
            rw [c2] at h
            simp only at h
            split at h
            · cases h
            · rename_i hlen
              simp only [Option.some.injEq, Prod.mk.injEq] at h
              rw [← h.2] at hy
              have g1 := (i1 x1 y1).2 ⟨c1, fun b hb => hy b (List.mem_append_left _ hb)⟩
              have g2 := (i2 x2 y2).2 ⟨c2, fun b hb => hy b (List.mem_append_right _ hb)⟩
              simp only [cutR, hr, g1, g2, if_neg hlen, h.1, h.2]

/-- What a cut leaves: a tree, and what its leaves are carried to. -/
inductive CT (acc : List UInt8 → Option (List UInt8)) : List UInt8 → Tr → LL → Prop where
  | leaf (a b : List UInt8) (h : acc a = some b) : CT acc a .leaf [b]
  | node (a : List UInt8) (l r : Tr) (y1 y2 : LL) (h : acc a = none) (h1 : CT acc (a ++ [48]) l y1) (h2 : CT acc (a ++ [49]) r y2) : CT acc a (.node l r) (y1 ++ y2)

theorem CT.len {acc : List UInt8 → Option (List UInt8)} {a : List UInt8} {t : Tr} {y : LL} (h : CT acc a t y) : y.length = t.c + 1 := by
  induction h with
  | leaf => rfl
  | node a l r y1 y2 _ _ _ i1 i2 => rw [List.length_append, i1, i2]; simp only [Tr.c]; omega

theorem cut_tree (acc : List UInt8 → Option (List UInt8)) : ∀ (f : Nat) (a : List UInt8) (x y : LL), cutR acc f a = some (x, y) → ∃ t, x = adL t a ∧ CT acc a t y ∧ t.h < f
  | 0, a, x, y, h => by cases h
  | f + 1, a, x, y, h => by
    cases hg : acc a with
    | some b =>
      rw [cutR_some _ f a hg] at h
      simp only [Option.some.injEq, Prod.mk.injEq] at h
      rw [← h.1, ← h.2]
      exact ⟨.leaf, rfl, .leaf a b hg, by simp [Tr.h]⟩
    | none =>
      simp only [cutR, hg] at h
      cases c1 : cutR acc f (a ++ [48]) with
      | none => rw [c1] at h; cases h
      | some p =>
        obtain ⟨x1, y1⟩ := p
        rw [c1] at h
        cases c2 : cutR acc f (a ++ [49]) with
        | none => rw [c2] at h; cases h
        | some p =>
          obtain ⟨x2, y2⟩ := p
          rw [c2] at h
          simp only at h
          split at h
          · cases h
          · simp only [Option.some.injEq, Prod.mk.injEq] at h
            obtain ⟨t1, e1, g1, k1⟩ := cut_tree acc f _ _ _ c1
            obtain ⟨t2, e2, g2, k2⟩ := cut_tree acc f _ _ _ c2
            rw [← h.1, ← h.2, e1, e2]
            exact ⟨.node t1 t2, rfl, .node a t1 t2 y1 y2 hg g1 g2, by simp only [Tr.h]; omega⟩

theorem isLeaf_eq {t : Tr} (h : t.isLeaf = true) : t = .leaf := by cases t <;> simp_all [Tr.isLeaf]

/-- An exposed caret of a tree: two leaves side by side. -/
theorem exL_adL : ∀ (t : Tr) (p : List UInt8) (n k : Nat), k ∈ exL t n → ∃ r, (adL t p)[k - n]? = some (r ++ [48]) ∧ (adL t p)[k - n + 1]? = some (r ++ [49])
  | .leaf, p, n, k, h => by simp [exL] at h
  | .node l r, p, n, k, h => by
    rw [exL_node] at h
    split at h
    · rename_i hl
      rw [isLeaf_eq hl.1, isLeaf_eq hl.2]
      simp only [List.mem_singleton] at h
      subst h
      rw [Nat.sub_self]
      exact ⟨p, rfl, rfl⟩
    · simp only [adL]
      have hlen := adL_len l (p ++ [48])
      rcases List.mem_append.1 h with h | h
      · obtain ⟨a1, a2⟩ := exL_range l n k h
        obtain ⟨q, q1, q2⟩ := exL_adL l (p ++ [48]) n k h
        exact ⟨q, by rw [List.getElem?_append_left (by omega)]; exact q1, by rw [List.getElem?_append_left (by omega)]; exact q2⟩
      · obtain ⟨a1, a2⟩ := exL_range r _ k h
        obtain ⟨q, q1, q2⟩ := exL_adL r (p ++ [49]) _ k h
        refine ⟨q, ?_, ?_⟩
        · rw [List.getElem?_append_right (by omega), hlen, show k - n - (l.c + 1) = k - (n + l.c + 1) by omega]; exact q1
        · rw [List.getElem?_append_right (by omega), hlen, show k - n + 1 - (l.c + 1) = k - (n + l.c + 1) + 1 by omega]; exact q2

/-- An exposed caret of what is cut. -/
theorem CT.exposed {acc : List UInt8 → Option (List UInt8)} {a : List UInt8} {t : Tr} {y : LL} (h : CT acc a t y) : ∀ (n k : Nat), k ∈ exL t n → ∃ q b0 b1, acc q = none ∧ acc (q ++ [48]) = some b0 ∧ acc (q ++ [49]) = some b1 ∧ y[k - n]? = some b0 ∧ y[k - n + 1]? = some b1 ∧ q.length ≤ a.length + t.h := by
  induction h with
  | leaf => intro n k h; simp [exL] at h
  | node a l r y1 y2 h0 h1 h2 i1 i2 =>
    intro n k h
    rw [exL_node] at h
    split at h
    · rename_i hl
      have e1 := isLeaf_eq hl.1
      have e2 := isLeaf_eq hl.2
      subst e1
      subst e2
      simp only [List.mem_singleton] at h
      subst h
      rw [Nat.sub_self]
      cases h1 with
      | leaf _ b0 g0 =>
        cases h2 with
        | leaf _ b1 g1 => exact ⟨a, b0, b1, h0, g0, g1, rfl, rfl, by omega⟩
    · have l1 := h1.len
      rcases List.mem_append.1 h with h | h
      · obtain ⟨a1, a2⟩ := exL_range l n k h
        obtain ⟨q, b0, b1, g1, g2, g3, g4, g5, g6⟩ := i1 n k h
        exact ⟨q, b0, b1, g1, g2, g3, by rw [List.getElem?_append_left (by omega)]; exact g4, by rw [List.getElem?_append_left (by omega)]; exact g5, by simp only [Tr.h, List.length_append, List.length_singleton] at g6 ⊢; omega⟩
      · obtain ⟨a1, a2⟩ := exL_range r _ k h
        obtain ⟨q, b0, b1, g1, g2, g3, g4, g5, g6⟩ := i2 _ k h
        refine ⟨q, b0, b1, g1, g2, g3, ?_, ?_, by simp only [Tr.h, List.length_append, List.length_singleton] at g6 ⊢; omega⟩
        · rw [List.getElem?_append_right (by omega), l1, show k - n - (l.c + 1) = k - (n + l.c + 1) by omega]; exact g4
        · rw [List.getElem?_append_right (by omega), l1, show k - n + 1 - (l.c + 1) = k - (n + l.c + 1) + 1 by omega]; exact g5

theorem dig_get (x : Nat) : ∀ (n k i : Nat), i < n → i ≤ k → (dig x n k)[i]? = some (bit (x / 2 ^ (k - i)))
  | 0, _, _, h, _ => by omega
  | n + 1, k, 0, _, _ => by rw [dig]; rfl
  | n + 1, k, i + 1, h, hk => by
    rw [dig, List.getElem?_cons_succ, dig_get x n (k - 1) i (by omega) (by omega), show k - 1 - i = k - (i + 1) by omega]

/-- Two halves with halves of one interval as images: the whole would have been taken. -/
theorem halves {Z : List (Nat × Nat)} {L : List Int} (hz : GZ Z L) (q r : List UInt8) (hq : q.length ≤ 20) (h : accI Z L q = none) (h0 : accI Z L (q ++ [48]) = some (r ++ [48])) (h1 : accI Z L (q ++ [49]) = some (r ++ [49])) : False := by
  obtain ⟨c1, c2⟩ := child0 q (by omega)
  obtain ⟨d1, d2⟩ := child1 q (by omega)
  have l0 : (q ++ [48]).length = q.length + 1 := by simp
  have l1 : (q ++ [49]).length = q.length + 1 := by simp
  have m0 : (r ++ [48]).length = r.length + 1 := by simp
  have m1 : (r ++ [49]).length = r.length + 1 := by simp
  have k0 := accI_in hz (q ++ [48]) (by omega)
  have k1 := accI_in hz (q ++ [49]) (by omega)
  rw [accI_eq hz _ (by omega) k0] at h0
  rw [accI_eq hz _ (by omega) k1] at h1
  generalize kN Z L.length (stA (q ++ [48])) L.length 0 = i at k0 h0
  generalize kN Z L.length (stA (q ++ [49])) L.length 0 = j at k1 h1
  obtain ⟨a1, a2, a3, a4, a5⟩ := accK_some h0
  obtain ⟨b1, b2, b3, b4, b5⟩ := accK_some h1
  rw [c1] at k0 a4 a5
  rw [c2] at a1
  rw [d1] at k1
  rw [d2] at b1
  rw [l0, m0] at a3
  rw [l1, m1] at b3
  have hs1 := (stA_lt (q ++ [49]) (by omega)).1
  rw [d1] at hs1
  have hpos : 0 < 2 ^ (39 - q.length) := Nat.pow_pos (by omega)
  by_cases hm : stA q + 2 ^ (39 - q.length) < (gS Z (i + 1)).1
  · have e : j = i := InP.uniq hz k1 ⟨k0.lt, by have := k0.le; omega, hm⟩
    subst e
    rw [accI_eq hz q (by omega) k0] at h
    unfold accK at h
    rw [if_neg (by omega)] at h
    have hn : ((q.length : Int) - List.getD L j 0).toNat = r.length := by omega
    rw [hn] at h
    have hmod : atI Z L (stA q) j % 2 ^ (40 - r.length) = 0 := by
      have g := dig_get (atI Z L (stA q) j) (r.length + 1) 39 r.length (by omega) (by have := (hz.sl k0.lt).1; omega)
      rw [m0] at a5 a4
      rw [← a5, List.getElem?_append_right (Nat.le_refl _), Nat.sub_self] at g
      simp only [List.getElem?_cons_zero, Option.some.injEq] at g
      have hr40 : r.length < 40 := by have := (hz.sl k0.lt).1; omega
      have heven : atI Z L (stA q) j / 2 ^ (39 - r.length) % 2 = 0 := by
        unfold bit at g
        split at g
        · cases g
        · omega
      rw [show 40 - (r.length + 1) = 39 - r.length by omega] at a4
      obtain ⟨c, hc⟩ := Nat.dvd_of_mod_eq_zero a4
      rw [hc, Nat.mul_div_cancel_left _ (Nat.pow_pos (by omega))] at heven
      obtain ⟨d, hd⟩ := Nat.dvd_of_mod_eq_zero heven
      rw [hc, hd, ← Nat.mul_assoc, ← Nat.pow_succ, show (39 - r.length).succ = 40 - r.length by omega]
      exact Nat.mul_mod_right _ _
    rw [if_pos ⟨by omega, hmod⟩] at h
    cases h
  · have hi1 : i + 1 < L.length := by
      have := k0.lt
      by_cases hl : i + 1 = L.length
      · rw [hl, hz.z1] at a1
        rw [hl, hz.z1] at hm
        omega
      · omega
    have e : j = i + 1 := InP.uniq hz k1 ⟨hi1, by omega, by have := (hz.p.up (i + 1) hi1).1.1; omega⟩
    subst e
    exact hz.p.ne i hi1 (by omega)

end Go.AI
end

section
/- Plain law: breaks that rise; the joined parts go from corner to corner. -/
set_option autoImplicit false
set_option maxRecDepth 100000
set_option linter.unusedVariables false
namespace Go.AI

/-- Breaks that rise up to the end. -/
def upl : Int × Int → List (Int × Int) → Prop
  | y, [] => plI y < 2 ^ 40
  | y, x :: r => plI y < plI x ∧ upl x r

theorem upl_lt : ∀ (l : List (Int × Int)) (y : Int × Int), upl y l → plI y < 2 ^ 40
  | [], y, h => h
  | x :: r, y, h => Nat.lt_trans h.1 (upl_lt r x h.2)

theorem den1 {x : Int × Int} (h : goodF x = true) : (x.2 = 1 → plI x = 0 ∨ plI x = 2 ^ 40) ∧ (x.2 ≠ 1 → 0 < plI x ∧ plI x < 2 ^ 40) := by
  obtain ⟨n, d, rfl, h1, h2, h3, h4⟩ := goodF_nat h
  have e : plI ((n : Int), (d : Int)) = n * (1099511627776 / d) := rfl
  have hd := pow2_dvd h2 h4
  rw [e]
  constructor
  · intro h5
    have : d = 1 := by have : (d : Int) = 1 := h5; omega
    subst this
    have : n = 0 ∨ n = 1 := by omega
    rcases this with rfl | rfl
    · left; omega
    · right; rfl
  · intro h5
    have hd1 : d ≠ 1 := fun c => h5 (by show (d : Int) = 1; omega)
    have hodd : (n : Int) % 2 = 1 := by
      simp only [goodF, Bool.and_eq_true, Bool.or_eq_true, decide_eq_true_eq] at h
      rcases h.2 with h6 | h6
      · exact absurd h6 h5
      · exact h6
    have hn0 : 0 < n := by omega
    have hev : d % 2 = 0 := by
      by_cases h6 : d % 2 = 1
      · have := pow2_odd (by omega) h2 h6
        rw [h4] at this; cases this
      · omega
    have hnd : n < d := by omega
    have hp : 0 < 1099511627776 / d := Nat.div_pos (by omega) (by omega)
    refine ⟨Nat.mul_pos hn0 hp, ?_⟩
    have := Nat.mul_lt_mul_of_pos_right hnd hp
    rw [hd] at this
    exact this

theorem risG_upl : ∀ (l : List (Int × Int)) (y : Int × Int), (∀ x ∈ l, goodF x = true) → goodF y = true → plI y < 2 ^ 40 → (risG (some y) l = true ↔ upl y l)
  | [], y, _, _, h => ⟨fun _ => h, fun _ => rfl⟩
  | x :: r, y, hg, hy, h => by
    have hx := hg x List.mem_cons_self
    have hr := fun z hz => hg z (List.mem_cons_of_mem x hz)
    have hl : decide (y.1 * x.2 < x.1 * y.2) = decide (plI y < plI x) := (good_Pw hy).1.lt (good_Pw hx).1
    obtain ⟨d1, d2⟩ := den1 hx
    simp only [risG, hx, Bool.true_and, hl, Bool.and_eq_true, decide_eq_true_eq, upl]
    constructor
    · rintro ⟨⟨h1, h2⟩, h3⟩
      have h1 : x.2 ≠ 1 := by simpa using h1
      exact ⟨h2, (risG_upl r x hr hx (d2 h1).2).1 h3⟩
    · rintro ⟨h2, h3⟩
      have hlt := upl_lt r x h3
      have h1 : x.2 ≠ 1 := fun c => by rcases d1 c with e | e <;> omega
      exact ⟨⟨by simpa using h1, h2⟩, (risG_upl r x hr hx hlt).2 h3⟩

theorem risF_upl (l : List (Int × Int)) (hl : l.length ≤ 8) (hg : ∀ x ∈ l, goodF x = true) : risF l = true ↔ upl (0, 1) l := by
  unfold risF
  rw [decide_eq_true hl, Bool.true_and]
  cases l with
  | nil => exact ⟨fun _ => by show plI (0, 1) < 2 ^ 40; rw [plI_0]; omega, fun _ => rfl⟩
  | cons x r =>
    have hx := hg x List.mem_cons_self
    have hr := fun z hz => hg z (List.mem_cons_of_mem x hz)
    obtain ⟨d1, d2⟩ := den1 hx
    simp only [risG, hx, Bool.true_and, Bool.and_true, Bool.and_eq_true, upl, plI_0]
    constructor
    · rintro ⟨h1, h3⟩
      have h1 : x.2 ≠ 1 := by simpa using h1
      exact ⟨(d2 h1).1, (risG_upl r x hr hx (d2 h1).2).1 h3⟩
    · rintro ⟨h2, h3⟩
      have hlt := upl_lt r x h3
      have h1 : x.2 ≠ 1 := fun c => by rcases d1 c with e | e <;> omega
      exact ⟨by simpa using h1, (risG_upl r x hr hx hlt).2 h3⟩

/-- With both ends. -/
abbrev ends (l : List (Int × Int)) : List (Int × Int) := (0, 1) :: l ++ [(1, 1)]

theorem upl_idx : ∀ (l : List (Int × Int)) (y : Int × Int), upl y l ↔ ∀ j, 1 ≤ j → j < (y :: l ++ [((1 : Int), (1 : Int))]).length → plI (gF (y :: l ++ [(1, 1)]) (j - 1)) < plI (gF (y :: l ++ [(1, 1)]) j)
  | [], y => by
    constructor
    · intro h j h1 h2
      have : j = 1 := by simp at h2; omega
      subst this
      show plI y < plI (1, 1)
      rw [plI_1]
      exact h
    · intro h
      have h1 : plI y < plI (1, 1) := h 1 (Nat.le_refl _) (by simp)
      rw [plI_1] at h1
      exact h1
  | x :: r, y => by
    have ih := upl_idx r x
    constructor
    · rintro ⟨h1, h2⟩ j j1 j2
      cases j with
      | zero => omega
      | succ j =>
        cases j with
        | zero => exact h1
        | succ j => exact ih.1 h2 (j + 1) (by omega) (by simp at j2 ⊢; omega)
    · intro h
      refine ⟨h 1 (Nat.le_refl _) (by simp), ih.2 fun j j1 j2 => ?_⟩
      cases j with
      | zero => omega
      | succ j => exact h (j + 1 + 1) (by omega) (by simp at j2 ⊢; omega)

theorem ends_get (l : List (Int × Int)) (j : Nat) (hj : j < l.length) : gF (ends l) (j + 1) = List.getD l j (0, 0) := getD_app l _ _ _ hj

theorem ends_last (l : List (Int × Int)) : gF (ends l) (l.length + 1) = (1, 1) := getD_snoc l _ _

theorem ends_good {l : List (Int × Int)} (hg : ∀ x ∈ l, goodF x = true) (j : Nat) (hj : j < (ends l).length) : goodF (gF (ends l) j) = true := by
  refine getD_mem' (P := fun x => goodF x = true) (fun x hx => ?_) _ _ hj
  rcases List.mem_append.1 hx with hx | hx
  · rcases List.mem_cons.1 hx with rfl | hx
    · exact good_0
    · exact hg x hx
  · rw [List.mem_singleton.1 hx]; exact good_1

/-- The program's list of spots. -/
theorem sps_ends (A B : List (Int × Int)) (hB : B.length = A.length) : ∀ (m i : Nat), i + m = A.length → sps (ends A) (ends B) (m + 1) (i + 1) = spts A B m i ++ [(2 ^ 40, 2 ^ 40)]
  | 0, i, h => by
    have e : i = A.length := by omega
    subst e
    show [spt (ends A) (ends B) (A.length + 1)] = [(2 ^ 40, 2 ^ 40)]
    have e1 := ends_last A
    have e2 := ends_last B
    rw [hB] at e2
    unfold spt
    rw [e1, e2, plI_1]
  | m + 1, i, h => by
    rw [sps, sps_ends A B hB m (i + 1) (by omega), spts]
    unfold spt
    rw [ends_get A i (by omega), ends_get B i (by omega)]
    rfl

theorem sps_all (A B : List (Int × Int)) (hB : B.length = A.length) : sps (ends A) (ends B) (ends A).length 0 = [(0, 0)] ++ spts A B A.length 0 ++ [(2 ^ 40, 2 ^ 40)] := by
  have e : (ends A).length = A.length + 1 + 1 := by simp
  rw [e, sps, sps_ends A B hB A.length 0 (by omega)]
  have e0 : spt (ends A) (ends B) 0 = (0, 0) := by
    show (plI (0, 1), plI (0, 1)) = (0, 0)
    rw [plI_0]
  rw [e0]
  simp

theorem sgood_iff (A B : List (Int × Int)) : ∀ (m i : Nat), i + m = A.length → (sgood A B m i = true ↔ ∀ j, i ≤ j → j < A.length → goodF (List.getD A j (0, 0)) = true ∧ goodF (List.getD B j (0, 0)) = true)
  | 0, i, h => ⟨fun _ j h1 h2 => by omega, fun _ => rfl⟩
  | m + 1, i, h => by
    rw [sgood, Bool.and_eq_true, Bool.and_eq_true, sgood_iff A B m (i + 1) (by omega)]
    constructor
    · rintro ⟨h1, h2⟩ j j1 j2
      by_cases e : j = i
      · subst e; exact h1
      · exact h2 j (by omega) j2
    · intro h1
      exact ⟨h1 i (Nat.le_refl _) (by omega), fun j j1 j2 => h1 j (by omega) j2⟩

theorem risG_good : ∀ (l : List (Int × Int)) (o : Option (Int × Int)), risG o l = true → ∀ x ∈ l, goodF x = true
  | [], _, _, x, hx => by cases hx
  | y :: r, o, h, x, hx => by
    simp only [risG, Bool.and_eq_true] at h
    rcases List.mem_cons.1 hx with rfl | hx
    · exact h.1.1.1
    · exact risG_good r _ h.2 x hx

theorem bnt_len : ∀ (r : List (Nat × Nat)) (l : Nat × Nat), (bnt l r).length ≤ r.length
  | [], _ => by simp [bnt]
  | [x], _ => by simp [bnt]
  | x :: y :: r, l => by
    rw [bnt]
    split
    · have := bnt_len (y :: r) l; simp only [List.length_cons] at *; omega
    · have := bnt_len (y :: r) x; simp only [List.length_cons] at *; omega

theorem bnt_last : ∀ (r : List (Nat × Nat)) (l z : Nat × Nat), r.getLast? = some z → (bnt l r).getLast? = some z
  | [], _, _, h => by cases h
  | [x], _, _, h => h
  | x :: y :: r, l, z, h => by
    have h' : (y :: r).getLast? = some z := by rw [← h, List.getLast?_cons_cons]
    rw [bnt]
    split
    · exact bnt_last (y :: r) l z h'
    · have := bnt_last (y :: r) x z h'
      cases hb : bnt x (y :: r) with
      | nil => rw [hb] at this; cases this
      | cons a b => rw [hb] at this; rw [List.getLast?_cons_cons]; exact this

theorem gS_last {Z : List (Nat × Nat)} {n : Nat} {z : Nat × Nat} (hl : Z.length = n + 1) (h : Z.getLast? = some z) : gS Z n = z := by
  rw [List.getLast?_eq_getElem?, hl, Nat.add_sub_cancel] at h
  rw [gS, List.getD_eq_getElem?_getD, h]; rfl

end Go.AI
end
