/- The least tree in which a leaf begins at a place; trees put in the place of leaves. -/
import Derived.Test.YtlhkdglakjkpiaaCNx
set_option autoImplicit false
set_option maxRecDepth 100000
set_option linter.unusedVariables false
namespace Go.AI
open Go.Proofs

/-! ### A tree in the place of a leaf -/

def grf : Tr → Nat → Tr → Tr
  | .leaf, _, u => u
  | .node l r, k, u => if k ≤ l.c then .node (grf l k u) r else .node l (grf r (k - (l.c + 1)) u)

theorem grf_c : ∀ (t : Tr) (k : Nat) (u : Tr), k ≤ t.c → (grf t k u).c = t.c + u.c
  | .leaf, k, u, h => by simp [grf, Tr.c]
  | .node l r, k, u, h => by
    simp only [Tr.c] at h
    rw [grf]
    split
    · rename_i h1
      have := grf_c l k u h1
      simp only [Tr.c]; omega
    · have := grf_c r (k - (l.c + 1)) u (by omega)
      simp only [Tr.c]; omega

theorem count46 : ∀ t : Tr, (txt t).count 46 = t.c + 1
  | .leaf => rfl
  | .node l r => by
    have h1 := count46 l
    have h2 := count46 r
    simp only [txt, List.count_cons, List.count_append, h1, h2, Tr.c]
    simp
    omega

theorem grf_txt : ∀ (t : Tr) (k : Nat) (u : Tr), k ≤ t.c → ∃ pre post, txt t = pre ++ 46 :: post ∧ pre.count 46 = k ∧ txt (grf t k u) = pre ++ txt u ++ post
  | .leaf, k, u, h => ⟨[], [], rfl, by simp [Tr.c] at h; simp [h], by simp [grf]⟩
  | .node l r, k, u, h => by
    simp only [Tr.c] at h
    rw [grf]
    split
    · rename_i h1
      obtain ⟨pre, post, e1, e2, e3⟩ := grf_txt l k u h1
      refine ⟨40 :: pre, post ++ txt r ++ [41], by simp [txt, e1], by rw [List.count_cons, e2]; simp, by simp [txt, e3]⟩
    · obtain ⟨pre, post, e1, e2, e3⟩ := grf_txt r (k - (l.c + 1)) u (by omega)
      refine ⟨40 :: (txt l ++ pre), post ++ [41], by simp [txt, e1], ?_, by simp [txt, e3]⟩
      rw [List.count_cons, List.count_append, e2, count46]; simp; omega

def lm (t u : Tr) : Tr := grf t 0 u
def rm (t u : Tr) : Tr := grf t t.c u

theorem lm_node (l r u : Tr) : lm (.node l r) u = .node (lm l u) r := by
  unfold lm; rw [grf, if_pos (Nat.zero_le _)]

theorem rm_node (l r u : Tr) : rm (.node l r) u = .node l (rm r u) := by
  have e : (Tr.node l r).c - (l.c + 1) = r.c := by simp only [Tr.c]; omega
  unfold rm; rw [grf, if_neg (by simp only [Tr.c]; omega), e]

/-- Trees in the places of all leaves, by a function. -/
def gN (f : Nat → Tr) : Tr → Nat → Tr
  | .leaf, n => f n
  | .node a b, n => .node (gN f a n) (gN f b (n + (a.c + 1)))

def padF (N : Nat) (R1 R2 : Tr) (k : Nat) : Tr := if k = 0 then R1 else if k = N then R2 else .leaf

theorem gN_mid (N : Nat) (R1 R2 : Tr) : ∀ (t : Tr) (n : Nat), 0 < n → n + t.c < N → gN (padF N R1 R2) t n = t
  | .leaf, n, h0, h => by simp only [Tr.c] at h; unfold gN padF; rw [if_neg (by omega), if_neg (by omega)]
  | .node a b, n, h0, h => by
    simp only [Tr.c] at h
    rw [gN, gN_mid N R1 R2 a n h0 (by omega), gN_mid N R1 R2 b _ (by omega) (by omega)]

theorem gN_first (N : Nat) (R1 R2 : Tr) : ∀ (t : Tr), t.c < N → gN (padF N R1 R2) t 0 = lm t R1
  | .leaf, h => by unfold gN padF; rw [if_pos rfl]; rfl
  | .node a b, h => by
    simp only [Tr.c] at h
    rw [gN, gN_first N R1 R2 a (by omega), gN_mid N R1 R2 b _ (by omega) (by omega), lm_node]

theorem gN_last (N : Nat) (R1 R2 : Tr) : ∀ (t : Tr) (n : Nat), 0 < n → n + t.c = N → gN (padF N R1 R2) t n = rm t R2
  | .leaf, n, h0, h => by simp only [Tr.c] at h; unfold gN padF; rw [if_neg (by omega), if_pos (by omega)]; rfl
  | .node a b, n, h0, h => by
    simp only [Tr.c] at h
    rw [gN, gN_mid N R1 R2 a n h0 (by omega), gN_last N R1 R2 b _ (by omega) (by omega), rm_node]

/-- Trees in the places of the first and of the last leaf. -/
def padT (t R1 R2 : Tr) : Tr := lm (rm t R2) R1

theorem gN_pad (t R1 R2 : Tr) (h : 0 < t.c) : gN (padF t.c R1 R2) t 0 = padT t R1 R2 := by
  cases t with
  | leaf => simp [Tr.c] at h
  | node a b =>
    have e : (Tr.node a b).c = a.c + b.c + 1 := by simp only [Tr.c]; omega
    unfold padT
    rw [gN, e, gN_first _ R1 R2 a (by omega), gN_last _ R1 R2 b _ (by omega) (by omega), rm_node, lm_node]

theorem rm_c (t u : Tr) : (rm t u).c = t.c + u.c := grf_c t t.c u (Nat.le_refl _)
theorem lm_c (t u : Tr) : (lm t u).c = t.c + u.c := grf_c t 0 u (Nat.zero_le _)
theorem padT_c (t R1 R2 : Tr) : (padT t R1 R2).c = t.c + R2.c + R1.c := by unfold padT; rw [lm_c, rm_c]

/-! ### The least tree -/

abbrev pl (p : List UInt8) : Nat := plF p 1099511627776 0

def sT (x : Nat) : Nat → List UInt8 → Tr
  | 0, p => .leaf
  | n + 1, p => if pl p < x ∧ x < (iv p).2 then .node (sT x n (p ++ [48])) (sT x n (p ++ [49])) else .leaf

theorem sT_out (x n : Nat) (p : List UInt8) (h : ¬ (pl p < x ∧ x < (iv p).2)) : sT x n p = .leaf := by
  cases n with
  | zero => rfl
  | succ n => rw [sT, if_neg h]

theorem iv_left (p : List UInt8) (h : p.length ≤ 39) : pl (p ++ [48]) = pl p ∧ (iv (p ++ [48])).2 = pl (p ++ [49]) ∧ (iv (p ++ [49])).2 = (iv p).2 ∧ pl p < pl (p ++ [49]) ∧ pl (p ++ [49]) < (iv p).2 := by
  have e1 : pl (p ++ [48]) = pl p := by unfold pl; rw [plF_snoc, if_neg (by decide)]
  have e2 : pl (p ++ [49]) = pl p + 1099511627776 / 2 ^ (p.length + 1) := by unfold pl; rw [plF_snoc, if_pos rfl]
  have e : 1099511627776 / 2 ^ p.length = 1099511627776 / 2 ^ (p.length + 1) + 1099511627776 / 2 ^ (p.length + 1) := by
    rw [grain_div (by omega), grain_div (by omega), show 40 - p.length = (40 - (p.length + 1)) + 1 by omega, Nat.pow_succ]
    omega
  have e0 : 0 < 1099511627776 / 2 ^ (p.length + 1) := by rw [grain_div (by omega)]; exact Nat.pow_pos (by omega)
  have i1 : (iv (p ++ [48])).2 = pl (p ++ [48]) + 1099511627776 / 2 ^ (p ++ [48]).length := rfl
  have i2 : (iv (p ++ [49])).2 = pl (p ++ [49]) + 1099511627776 / 2 ^ (p ++ [49]).length := rfl
  have i3 : (iv p).2 = pl p + 1099511627776 / 2 ^ p.length := rfl
  rw [List.length_append, List.length_singleton] at i1 i2
  omega

theorem sT_c (x : Nat) : ∀ (n : Nat) (p : List UInt8), p.length + n ≤ 40 → (sT x n p).c ≤ n
  | 0, p, _ => Nat.le_refl _
  | n + 1, p, h => by
    rw [sT]
    split
    · obtain ⟨h1, h2, h3, h4, h5⟩ := iv_left p (by omega)
      by_cases hx : x < pl (p ++ [49])
      · have e : sT x n (p ++ [49]) = .leaf := sT_out _ _ _ (by omega)
        have := sT_c x n (p ++ [48]) (by simp; omega)
        simp only [Tr.c, e]; omega
      · have e : sT x n (p ++ [48]) = .leaf := sT_out _ _ _ (by omega)
        have := sT_c x n (p ++ [49]) (by simp; omega)
        simp only [Tr.c, e]; omega
    · exact Nat.zero_le _

theorem lf_app_l : ∀ (l m : List (Nat × Nat)) (a b x i : Nat), tiles l a b → l ≠ [] → x < b → lf (l ++ m) x i = lf l x i
  | [], _, _, _, _, _, _, h, _ => absurd rfl h
  | [(s, e)], m, a, b, x, i, ⟨h1, h2, h3⟩, _, hx => by
    have : e = b := h3
    subst this
    simp only [List.cons_append, lf, if_pos hx]
  | (s, e) :: y :: r, m, a, b, x, i, ⟨h1, h2, h3⟩, _, hx => by
    rw [List.cons_append, lf, lf]
    split
    · rfl
    · exact lf_app_l (y :: r) m e b x (i + 1) h3 (by simp) hx

theorem lf_app_r : ∀ (l m : List (Nat × Nat)) (a b x i : Nat), tiles l a b → b ≤ x → lf (l ++ m) x i = lf m x (i + l.length)
  | [], m, a, b, x, i, _, _ => rfl
  | (s, e) :: r, m, a, b, x, i, ⟨h1, h2, h3⟩, hx => by
    have he : e ≤ b := by
      clear h1 h2
      induction r generalizing e with
      | nil => exact Nat.le_of_eq h3
      | cons y r ih => obtain ⟨s', e'⟩ := y; obtain ⟨g1, g2, g3⟩ := h3; have := ih e' g3; omega
    rw [List.cons_append, lf, if_neg (by omega), lf_app_r r m e b x (i + 1) h3 hx, List.length_cons]
    congr 1; omega

theorem lf_shift : ∀ (l : List (Nat × Nat)) (x i : Nat), l ≠ [] → lf l x i = i + lf l x 0
  | [], _, _, h => absurd rfl h
  | [(s, e)], x, i, _ => by simp only [lf]; split <;> omega
  | (s, e) :: y :: r, x, i, _ => by
    show (if x < e then i else lf (y :: r) x (i + 1)) = i + (if x < e then 0 else lf (y :: r) x (0 + 1))
    split
    · omega
    · rw [lf_shift (y :: r) x (i + 1) (by simp), lf_shift (y :: r) x (0 + 1) (by simp)]; omega

/-- The leaf that has a place, in a subtree. -/
def lfA (t : Tr) (p : List UInt8) (x : Nat) : Nat := lf ((adL t p).map iv) x 0

theorem ivs_ne (t : Tr) (p : List UInt8) : (adL t p).map iv ≠ [] := by
  have := adL_len t p
  intro e
  rw [List.map_eq_nil_iff] at e
  rw [e] at this
  simp at this

theorem lfA_left (l r : Tr) (p : List UInt8) (x : Nat) (h : p.length + (l.c + r.c + 1) ≤ 40) (hx : x < pl (p ++ [49])) : lfA (.node l r) p x = lfA l (p ++ [48]) x := by
  obtain ⟨h1, h2, _⟩ := iv_left p (by omega)
  have T := tiles_adL l (p ++ [48]) (by simp; omega)
  unfold lfA
  simp only [adL, List.map_append]
  exact lf_app_l _ _ _ _ x 0 T (ivs_ne _ _) (by have : (iv (p ++ [48])).2 = plF (p ++ [48]) 1099511627776 0 + 1099511627776 / 2 ^ (p ++ [48]).length := rfl; omega)

theorem lfA_right (l r : Tr) (p : List UInt8) (x : Nat) (h : p.length + (l.c + r.c + 1) ≤ 40) (hx : pl (p ++ [49]) ≤ x) : lfA (.node l r) p x = (l.c + 1) + lfA r (p ++ [49]) x := by
  obtain ⟨h1, h2, _⟩ := iv_left p (by omega)
  have T := tiles_adL l (p ++ [48]) (by simp; omega)
  unfold lfA
  simp only [adL, List.map_append]
  rw [lf_app_r _ _ _ _ x 0 T (by have : (iv (p ++ [48])).2 = plF (p ++ [48]) 1099511627776 0 + 1099511627776 / 2 ^ (p ++ [48]).length := rfl; omega), lf_shift _ _ _ (ivs_ne _ _), List.length_map, adL_len]
  omega

theorem ad_left (l r : Tr) (p : List UInt8) (i : Nat) (h : i ≤ l.c) : (adL (.node l r) p).getD i [] = (adL l (p ++ [48])).getD i [] := by
  have := adL_len l (p ++ [48])
  simp only [adL]
  rw [List.getD_eq_getElem?_getD, List.getElem?_append_left (by omega), List.getD_eq_getElem?_getD]

theorem ad_right (l r : Tr) (p : List UInt8) (i : Nat) : (adL (.node l r) p).getD ((l.c + 1) + i) [] = (adL r (p ++ [49])).getD i [] := by
  have := adL_len l (p ++ [48])
  simp only [adL]
  rw [List.getD_eq_getElem?_getD, List.getElem?_append_right (by omega), List.getD_eq_getElem?_getD]
  congr 2; omega

theorem lfA_le (t : Tr) (p : List UInt8) (x : Nat) : lfA t p x ≤ t.c := by
  have := lf_bound ((adL t p).map iv) x 0 (ivs_ne _ _)
  rw [List.length_map, adL_len] at this
  unfold lfA; omega

abbrev cr : Tr := .node .leaf .leaf

/-- One more split. -/
theorem sT_step (x : Nat) : ∀ (k : Nat) (p : List UInt8), p.length + k ≤ 39 → pl p ≤ x → x < (iv p).2 →
    let a := (adL (sT x k p) p).getD (lfA (sT x k p) p x) []
    pl a ≤ x ∧ x < (iv a).2 ∧
    (pl a = x → ∀ k', k ≤ k' → p.length + k' ≤ 39 → sT x k' p = sT x k p) ∧
    (pl a ≠ x → a.length = p.length + k ∧ grf (sT x k p) (lfA (sT x k p) p x) cr = sT x (k + 1) p)
  | 0, p, hp, h1, h2 => by
    have e : lfA (sT x 0 p) p x = 0 := by
      show lf [(_, _)] x 0 = 0
      simp [lf]
    simp only [e]
    have ea : (adL (sT x 0 p) p).getD 0 [] = p := rfl
    rw [ea]
    refine ⟨h1, h2, fun h k' _ _ => sT_out _ _ _ (by omega), fun h => ⟨rfl, ?_⟩⟩
    show cr = sT x (0 + 1) p
    rw [sT, if_pos ⟨by omega, h2⟩]
    rfl
  | k + 1, p, hp, h1, h2 => by
    by_cases hin : pl p < x ∧ x < (iv p).2
    · have hT : ∀ j, sT x (j + 1) p = .node (sT x j (p ++ [48])) (sT x j (p ++ [49])) := fun j => by rw [sT, if_pos hin]
      obtain ⟨i1, i2, i3, i4, i5⟩ := iv_left p (by omega)
      have c1 := sT_c x k (p ++ [48]) (by simp; omega)
      have c2 := sT_c x k (p ++ [49]) (by simp; omega)
      have hcT := sT_c x (k + 1) p (by omega)
      rw [hT] at hcT
      simp only [Tr.c] at hcT
      by_cases hx : x < pl (p ++ [49])
      · have ih := sT_step x k (p ++ [48]) (by simp; omega) (by omega) (by omega)
        have er : ∀ j, sT x j (p ++ [49]) = .leaf := fun j => sT_out _ _ _ (by omega)
        have hi := lfA_le (sT x k (p ++ [48])) (p ++ [48]) x
        simp only at ih ⊢
        rw [hT k, lfA_left _ _ p x (by omega) hx, ad_left _ _ p _ hi]
        obtain ⟨a1, a2, a3, a4⟩ := ih
        refine ⟨a1, a2, fun h k' hk' hl => ?_, fun h => ?_⟩
        · obtain ⟨j, rfl⟩ : ∃ j, k' = j + 1 := ⟨k' - 1, by omega⟩
          rw [hT j, a3 h j (by omega) (by simp; omega), er, er]
        · obtain ⟨b1, b2⟩ := a4 h
          refine ⟨by rw [b1]; simp; omega, ?_⟩
          rw [grf, if_pos hi, b2, hT (k + 1), er, er]
      · have ih := sT_step x k (p ++ [49]) (by simp; omega) (by omega) (by omega)
        have er : ∀ j, sT x j (p ++ [48]) = .leaf := fun j => sT_out _ _ _ (by omega)
        simp only at ih ⊢
        rw [hT k, lfA_right _ _ p x (by omega) (by omega), ad_right _ _ p]
        obtain ⟨a1, a2, a3, a4⟩ := ih
        refine ⟨a1, a2, fun h k' hk' hl => ?_, fun h => ?_⟩
        · obtain ⟨j, rfl⟩ : ∃ j, k' = j + 1 := ⟨k' - 1, by omega⟩
          rw [hT j, a3 h j (by omega) (by simp; omega), er, er]
        · obtain ⟨b1, b2⟩ := a4 h
          refine ⟨by rw [b1]; simp; omega, ?_⟩
          rw [grf, if_neg (by omega), show (sT x k (p ++ [48])).c + 1 + lfA (sT x k (p ++ [49])) (p ++ [49]) x - ((sT x k (p ++ [48])).c + 1) = lfA (sT x k (p ++ [49])) (p ++ [49]) x by omega, b2, hT (k + 1), er, er]
    · have hp0 : pl p = x := by omega
      have e0 : sT x (k + 1) p = .leaf := sT_out _ _ _ hin
      have e : lfA .leaf p x = 0 := by
        show lf [(_, _)] x 0 = 0
        simp [lf]
      simp only [e0, e]
      have ea : (adL .leaf p).getD 0 [] = p := rfl
      rw [ea]
      exact ⟨h1, h2, fun _ k' _ _ => sT_out _ _ _ hin, fun h => absurd hp0 h⟩

/-- A place of m places after the point is no place inside an interval of as many letters. -/
theorem no_inside {x m : Nat} (hm : m ≤ 40) (hx : ∃ q, x = q * 2 ^ (40 - m)) {a : List UInt8} (ha : a.length = m) (h1 : pl a ≤ x) (h2 : x < (iv a).2) : pl a = x := by
  obtain ⟨q, rfl⟩ := hx
  have e := plF_eq a 40 0 (by omega)
  have e1 : pl a = bn a * 2 ^ (40 - m) := by
    show plF a (2 ^ 40) 0 = _
    rw [e, ha, Nat.zero_add]
  have e2 : (iv a).2 = pl a + 2 ^ (40 - m) := by
    show pl a + 1099511627776 / 2 ^ a.length = _
    rw [ha, grain_div hm]
  rw [e2, e1] at h2
  rw [e1] at h1 ⊢
  have hpos : 0 < 2 ^ (40 - m) := Nat.pow_pos (by decide)
  have g1 : bn a ≤ q := Nat.le_of_mul_le_mul_right h1 hpos
  have g2 : q < bn a + 1 := by
    have : q * 2 ^ (40 - m) < (bn a + 1) * 2 ^ (40 - m) := by rw [Nat.add_mul, Nat.one_mul]; exact h2
    exact Nat.lt_of_mul_lt_mul_right this
  rw [show q = bn a by omega]

end Go.AI
