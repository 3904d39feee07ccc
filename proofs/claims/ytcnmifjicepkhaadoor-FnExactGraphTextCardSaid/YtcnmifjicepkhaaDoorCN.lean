/- The plain law of leaves beside a place; of fractions in lowest terms. -/
import Derived.Test.YtcnmifjicepkhaaDoorCM
set_option autoImplicit false
set_option maxRecDepth 100000
set_option linter.unusedVariables false
namespace Go.AI
open Go.Proofs

theorem tiles_ge : ∀ (l : List (Nat × Nat)) (a b k : Nat), tiles l a b → k < l.length → a ≤ (l.getD k (0, 0)).1
  | [], _, _, _, _, h => by simp at h
  | (s, e) :: r, a, b, 0, ⟨h1, _, _⟩, _ => by simp [h1]
  | (s, e) :: r, a, b, k + 1, ⟨h1, h2, h3⟩, h => by
    have := tiles_ge r e b k h3 (by simpa using h)
    simp only [List.getD_cons_succ]
    omega

theorem lf_in : ∀ (l : List (Nat × Nat)) (a b x i : Nat), tiles l a b → a ≤ x → x < b → ∃ k, k < l.length ∧ lf l x i = i + k ∧ (l.getD k (0, 0)).1 ≤ x ∧ x < (l.getD k (0, 0)).2
  | [], a, b, x, i, h, h1, h2 => by have : a = b := h; omega
  | (s, e) :: r, a, b, x, i, ⟨h1, h2, h3⟩, hx, hb => by
    by_cases h : x < e
    · exact ⟨0, by simp, by simp [lf, h], by simp [h1, hx], by simpa using h⟩
    · obtain ⟨k, k1, k2, k3, k4⟩ := lf_in r e b x (i + 1) h3 (by omega) hb
      exact ⟨k + 1, by simpa using k1, by simp only [lf, if_neg h, k2]; omega, by simpa using k3, by simpa using k4⟩

theorem lf_at : ∀ (l : List (Nat × Nat)) (a b x i k : Nat), tiles l a b → k < l.length → (l.getD k (0, 0)).1 ≤ x → x < (l.getD k (0, 0)).2 → lf l x i = i + k
  | [], _, _, _, _, _, _, h, _, _ => by simp at h
  | (s, e) :: r, a, b, x, i, 0, _, _, _, h => by
    simp at h
    simp [lf, h]
  | (s, e) :: r, a, b, x, i, k + 1, ⟨h1, h2, h3⟩, hk, hs, he => by
    simp only [List.getD_cons_succ] at hs he
    have hk' : k < r.length := by simpa using hk
    have := tiles_ge r e b k h3 hk'
    simp only [lf]
    rw [if_neg (by omega), lf_at r e b x (i + 1) k h3 hk' hs he]
    omega

theorem tiles_next : ∀ (l : List (Nat × Nat)) (a b k : Nat), tiles l a b → k + 1 < l.length → (l.getD k (0, 0)).2 = (l.getD (k + 1) (0, 0)).1 ∧ (l.getD k (0, 0)).1 < (l.getD k (0, 0)).2
  | [], _, _, _, _, h => by simp at h
  | (s, e) :: [], a, b, k, _, h => by simp at h
  | (s, e) :: (s', e') :: r, a, b, 0, ⟨h1, h2, h3⟩, _ => by
    obtain ⟨h4, _, _⟩ := h3
    simp [h4, h1, h2]
  | (s, e) :: (s', e') :: r, a, b, k + 1, ⟨h1, h2, h3⟩, h => by
    have := tiles_next ((s', e') :: r) e b k h3 (by simpa using h)
    simpa using this

theorem tiles_first : ∀ (l : List (Nat × Nat)) (a b : Nat), tiles l a b → 0 < l.length → (l.getD 0 (0, 0)).1 = a
  | [], _, _, _, h => by simp at h
  | (s, e) :: r, a, b, ⟨h1, _, _⟩, _ => by simp [h1]

/-- Where a leaf begins. -/
def stA (t : Tr) (k : Nat) : Nat := plF ((adL t []).getD k []) 1099511627776 0

theorem ivs_get (t : Tr) (k : Nat) (h : k < t.c + 1) : (((adL t []).map iv).getD k (0, 0)).1 = stA t k := by
  rw [getD_mapN iv (adL t []) k (by rw [adL_len]; omega) [] (0, 0)]; rfl

theorem tiles_tree (t : Tr) (h : t.c ≤ 40) : tiles ((adL t []).map iv) 0 1099511627776 := by
  have := tiles_adL t [] (by simpa using h)
  simpa [plF] using this

theorem stA_zero (t : Tr) (h : t.c ≤ 40) : stA t 0 = 0 := by
  rw [← ivs_get t 0 (by omega)]
  exact tiles_first _ _ _ (tiles_tree t h) (by rw [List.length_map, adL_len]; omega)

/-- The leaf at the place before. -/
theorem leaf_before (t : Tr) (h : t.c ≤ 40) (p : Nat) (h0 : 0 < p) (h1 : p < 1099511627776) :
    (stA t (leafAt t p) = p → 0 < leafAt t p ∧ leafAt t (p - 1) = leafAt t p - 1) ∧ (stA t (leafAt t p) ≠ p → leafAt t (p - 1) = leafAt t p) := by
  have T := tiles_tree t h
  have hlen : ((adL t []).map iv).length = t.c + 1 := by rw [List.length_map, adL_len]
  obtain ⟨k, k1, k2, k3, k4⟩ := lf_in _ _ _ p 0 T (by omega) h1
  rw [Nat.zero_add] at k2
  have hk : leafAt t p = k := k2
  rw [hk]
  rw [hlen] at k1
  rw [ivs_get t k k1] at k3
  constructor
  · intro e
    have hk0 : 0 < k := by
      apply Nat.pos_of_ne_zero
      intro e0
      subst e0
      rw [stA_zero t h] at e
      omega
    refine ⟨hk0, ?_⟩
    obtain ⟨k', rfl⟩ : ∃ k', k = k' + 1 := ⟨k - 1, by omega⟩
    obtain ⟨n1, n2⟩ := tiles_next _ _ _ k' T (by omega)
    rw [ivs_get t (k' + 1) k1] at n1
    have := lf_at _ _ _ (p - 1) 0 k' T (by omega) (by omega) (by omega)
    show lf ((adL t []).map iv) (p - 1) 0 = _
    omega
  · intro e
    have := lf_at _ _ _ (p - 1) 0 k T (by omega) (by rw [ivs_get t k k1]; omega) (by omega)
    show lf ((adL t []).map iv) (p - 1) 0 = _
    omega

theorem pow2_ex_all : (List.range 1025).all (fun d => !pow2 d || (List.range 11).any (fun m => decide (d = 2 ^ m))) = true := by decide +kernel

theorem pow2_ex {d : Nat} (h2 : d ≤ 1024) (h : pow2 d = true) : ∃ m, m ≤ 10 ∧ d = 2 ^ m := by
  have := List.all_eq_true.1 pow2_ex_all d (List.mem_range.2 (by omega))
  rw [h, Bool.not_true, Bool.false_or, List.any_eq_true] at this
  obtain ⟨m, hm, e⟩ := this
  exact ⟨m, by have := List.mem_range.1 hm; omega, of_decide_eq_true e⟩

theorem low_terms (n E N d P Q M : Nat) (h1 : d * P = M) (h2 : E * Q = M) (hM : 0 < M) (c1 : Nat.Coprime n d) (c2 : Nat.Coprime N E) : (N = n ∧ E = d) ↔ N * Q = n * P := by
  have hP : 0 < P := Nat.pos_of_ne_zero (by intro e; subst e; omega)
  have hQ : 0 < Q := Nat.pos_of_ne_zero (by intro e; subst e; omega)
  have hE : 0 < E := Nat.pos_of_ne_zero (by intro e; subst e; omega)
  constructor
  · rintro ⟨rfl, rfl⟩
    have : Q = P := Nat.eq_of_mul_eq_mul_left hE (by omega)
    rw [this]
  · intro e
    have e1 : n * E * (P * Q) = n * P * M := by rw [← h2]; ac_rfl
    have e2 : N * d * (P * Q) = N * Q * M := by rw [← h1]; ac_rfl
    have e3 : n * E = N * d := Nat.eq_of_mul_eq_mul_right (Nat.mul_pos hP hQ) (by rw [e1, e2, e])
    have d1 : E ∣ d := c2.symm.dvd_of_dvd_mul_left ⟨n, by rw [Nat.mul_comm E n]; exact e3.symm⟩
    have d2 : d ∣ E := c1.symm.dvd_of_dvd_mul_left ⟨N, by rw [Nat.mul_comm d N]; exact e3⟩
    have hEd : E = d := Nat.dvd_antisymm d1 d2
    refine ⟨?_, hEd⟩
    subst hEd
    exact (Nat.eq_of_mul_eq_mul_right hE e3).symm

/-- A fraction of a leaf's beginning is one in lowest terms. -/
theorem frA_eq_iff (n d : Nat) (h2 : d ≤ 1024) (hp : pow2 d = true) (hl : d = 1 ∨ n % 2 = 1) (a : List UInt8) (ha : a.length ≤ 40) :
    frA a = ((n : Int), (d : Int)) ↔ plF a 1099511627776 0 = plc n d := by
  have e := plF_eq a 40 0 ha
  rw [Nat.zero_add] at e
  rw [show (1099511627776 : Nat) = 2 ^ 40 from rfl] at *
  rw [e]
  have hpos : 0 < 2 ^ a.length := Nat.pow_pos (by omega)
  have hg : 0 < Nat.gcd (bn a) (2 ^ a.length) := Nat.gcd_pos_of_pos_right _ hpos
  obtain ⟨E, hE⟩ := Nat.gcd_dvd_right (bn a) (2 ^ a.length)
  obtain ⟨N, hN⟩ := Nat.gcd_dvd_left (bn a) (2 ^ a.length)
  have d1 : 2 ^ a.length / Nat.gcd (bn a) (2 ^ a.length) = E := by
    conv => lhs; lhs; rw [hE]
    exact Nat.mul_div_cancel_left _ hg
  have d2 : bn a / Nat.gcd (bn a) (2 ^ a.length) = N := by
    conv => lhs; lhs; rw [hN]
    exact Nat.mul_div_cancel_left _ hg
  have hcop : Nat.Coprime N E := by
    rw [← d1, ← d2]
    exact Nat.coprime_div_gcd_div_gcd hg
  have hQ : E * (Nat.gcd (bn a) (2 ^ a.length) * 2 ^ (40 - a.length)) = 2 ^ 40 := by
    rw [← Nat.mul_assoc, Nat.mul_comm E, ← hE, ← Nat.pow_add]
    congr 1
    omega
  have hb : bn a * 2 ^ (40 - a.length) = N * (Nat.gcd (bn a) (2 ^ a.length) * 2 ^ (40 - a.length)) := by
    rw [← Nat.mul_assoc, Nat.mul_comm N, ← hN]
  rw [hb]
  have hd' := pow2_dvd h2 hp
  have c1 : Nat.Coprime n d := by
    rcases hl with rfl | ho
    · exact Nat.coprime_one_right _
    · obtain ⟨m, _, rfl⟩ := pow2_ex h2 hp
      refine Nat.Coprime.pow_right m ?_
      rw [Nat.coprime_comm, Nat.Coprime, Nat.gcd_rec, ho]
      rfl
  have key := low_terms n E N d (2 ^ 40 / d) _ (2 ^ 40) hd' hQ (Nat.pow_pos (by omega)) c1 hcop
  rw [show plc n d = n * (2 ^ 40 / d) from rfl, ← key, frA, d1, d2, Prod.mk.injEq, Int.natCast_inj, Int.natCast_inj]

theorem goodF_nat' {x : Int × Int} (h : goodF x = true) : ∃ n d : Nat, x = ((n : Int), (d : Int)) ∧ 1 ≤ d ∧ d ≤ 1024 ∧ n ≤ d ∧ pow2 d = true ∧ (d = 1 ∨ n % 2 = 1) := by
  simp only [goodF, Bool.and_eq_true, Bool.or_eq_true, decide_eq_true_eq] at h
  obtain ⟨⟨⟨⟨⟨h1, h2⟩, h3⟩, h4⟩, h5⟩, h6⟩ := h
  refine ⟨x.1.toNat, x.2.toNat, ?_, by omega, by omega, by omega, h3, by omega⟩
  rw [Int.toNat_of_nonneg h4, Int.toNat_of_nonneg (by omega)]

end Go.AI
