/- A part of the road: what it proves stands in its last texts. -/
import Derived.Test.YtndnckjnnfnnnaaDoorJK
section
/- Plain law: what the program says of an interval. -/
set_option autoImplicit false
set_option maxRecDepth 100000
set_option linter.unusedVariables false
namespace Go.AI

/-- Parts from corner to corner, in steps of a thousandth. -/
structure GZ (Z : List (Nat × Nat)) (L : List Int) : Prop where
  p : Parts Z L
  l0 : 0 < L.length
  l1 : L.length ≤ 2 ^ 9
  z0 : gS Z 0 = (0, 0)
  z1 : gS Z L.length = (2 ^ 40, 2 ^ 40)
  dv : ∀ k, k ≤ L.length → 2 ^ 30 ∣ (gS Z k).1 ∧ 2 ^ 30 ∣ (gS Z k).2

theorem GZ.mono {Z : List (Nat × Nat)} {L : List Int} (h : GZ Z L) : ∀ (d j : Nat), j + d ≤ L.length → (gS Z j).1 ≤ (gS Z (j + d)).1 ∧ (gS Z j).2 ≤ (gS Z (j + d)).2
  | 0, j, _ => ⟨Nat.le_refl _, Nat.le_refl _⟩
  | d + 1, j, hj => by
    obtain ⟨i1, i2⟩ := GZ.mono h d j (by omega)
    obtain ⟨⟨u1, u2⟩, _⟩ := h.p.up (j + d) (by omega)
    rw [show j + (d + 1) = j + d + 1 by omega]
    omega

theorem GZ.le {Z : List (Nat × Nat)} {L : List Int} (h : GZ Z L) {j k : Nat} (hjk : j ≤ k) (hk : k ≤ L.length) : (gS Z j).1 ≤ (gS Z k).1 ∧ (gS Z j).2 ≤ (gS Z k).2 := by
  have := h.mono (k - j) j (by omega)
  rw [show j + (k - j) = k by omega] at this
  exact this

theorem GZ.bd {Z : List (Nat × Nat)} {L : List Int} (h : GZ Z L) {k : Nat} (hk : k ≤ L.length) : (gS Z k).1 ≤ 2 ^ 40 ∧ (gS Z k).2 ≤ 2 ^ 40 := by
  have := h.le hk (Nat.le_refl _)
  rw [h.z1] at this
  exact this

structure InP (Z : List (Nat × Nat)) (L : List Int) (s k : Nat) : Prop where
  lt : k < L.length
  le : (gS Z k).1 ≤ s
  gt : s < (gS Z (k + 1)).1

theorem InP.uniq {Z : List (Nat × Nat)} {L : List Int} (h : GZ Z L) {s j k : Nat} (a : InP Z L s j) (b : InP Z L s k) : j = k := by
  rcases Nat.lt_trichotomy j k with hlt | e | hlt
  · have := (h.le (show j + 1 ≤ k by omega) (by have := b.lt; omega)).1
    have := a.gt
    have := b.le
    omega
  · exact e
  · have := (h.le (show k + 1 ≤ j by omega) (by have := a.lt; omega)).1
    have := b.gt
    have := a.le
    omega

/-- The part in which a place lies. -/
def kN (Z : List (Nat × Nat)) (n s : Nat) : Nat → Nat → Nat
  | 0, k => k
  | m + 1, k => if k + 1 < n then (if s < (gS Z (k + 1)).1 then k else kN Z n s m (k + 1)) else k

theorem kN_in {Z : List (Nat × Nat)} {L : List Int} (h : GZ Z L) (s : Nat) (hs : s < 2 ^ 40) : ∀ (m k : Nat), k < L.length → L.length ≤ k + m + 1 → (gS Z k).1 ≤ s → InP Z L s (kN Z L.length s m k)
  | 0, k, h1, h2, h3 => by
    refine ⟨h1, h3, ?_⟩
    rw [kN, show k + 1 = L.length by omega, h.z1]
    exact hs
  | m + 1, k, h1, h2, h3 => by
    unfold kN
    split
    · rename_i hk
      split
      · rename_i hlt
        exact ⟨h1, h3, hlt⟩
      · rename_i hlt
        exact kN_in h s hs m (k + 1) hk (by omega) (by omega)
    · rename_i hk
      refine ⟨h1, h3, ?_⟩
      rw [show k + 1 = L.length by omega, h.z1]
      exact hs

theorem slope_bd {p q : Nat × Nat} {k : Int} (hu : Up p q) (h1 : q.1 ≤ 2 ^ 40) (h2 : q.2 ≤ 2 ^ 40) (d1 : 2 ^ 30 ∣ q.1 - p.1) (d2 : 2 ^ 30 ∣ q.2 - p.2) (h : Slope p q k) : -10 ≤ k ∧ k ≤ 10 := by
  obtain ⟨u1, u2⟩ := hu
  have m1 := Nat.le_of_dvd (by omega) d1
  have m2 := Nat.le_of_dvd (by omega) d2
  have key : ∀ (x y e : Nat), 2 ^ 30 ≤ x → y ≤ 2 ^ 40 → y = x * 2 ^ e → e ≤ 10 := fun x y e hx hy he => by
    have h3 : 2 ^ 30 * 2 ^ e ≤ 2 ^ 40 := Nat.le_trans (Nat.mul_le_mul_right _ hx) (by omega)
    rw [← Nat.pow_add] at h3
    have := (Nat.pow_le_pow_iff_right (by omega : 1 < 2)).1 h3
    omega
  rcases h with ⟨h3, h4⟩ | ⟨h3, h4⟩
  · have := key _ _ _ m1 (by omega) h4; omega
  · have := key _ _ _ m2 (by omega) h4; omega

theorem GZ.sl {Z : List (Nat × Nat)} {L : List Int} (h : GZ Z L) {k : Nat} (hk : k < L.length) : -10 ≤ List.getD L k 0 ∧ List.getD L k 0 ≤ 10 := by
  obtain ⟨u, s⟩ := h.p.up k hk
  have a := h.dv k (by omega)
  have b := h.dv (k + 1) (by omega)
  have c := h.bd (show k + 1 ≤ L.length by omega)
  exact slope_bd u c.1 c.2 (Nat.dvd_sub b.1 a.1) (Nat.dvd_sub b.2 a.2) s

theorem scl_pos (n dx u : Nat) (h : 0 < dx) : scl n (dx * 2 ^ u) dx = n * 2 ^ u := by
  unfold scl
  have e : Nat.gcd (dx * 2 ^ u) dx = dx := Nat.gcd_eq_right (Nat.dvd_mul_right _ _)
  rw [e, Nat.div_self h, Nat.div_one, Nat.mul_div_cancel_left _ h]

theorem scl_neg (n dy d : Nat) (h : 0 < dy) : scl n dy (dy * 2 ^ d) = n / 2 ^ d := by
  unfold scl
  have e : Nat.gcd dy (dy * 2 ^ d) = dy := Nat.gcd_eq_left (Nat.dvd_mul_right _ _)
  rw [e, Nat.div_self h, Nat.mul_one, Nat.mul_div_cancel_left _ h]

/-- A length under a slope. -/
def stretch (n : Nat) (k : Int) : Nat := if 0 ≤ k then n * 2 ^ k.toNat else n / 2 ^ (-k).toNat

theorem scl_stretch {p q : Nat × Nat} {k : Int} (hu : Up p q) (h : Slope p q k) (n : Nat) : scl n (q.2 - p.2) (q.1 - p.1) = stretch n k := by
  obtain ⟨u1, u2⟩ := hu
  unfold stretch
  by_cases hk : 0 ≤ k
  · rw [if_pos hk]
    have e : q.2 - p.2 = (q.1 - p.1) * 2 ^ k.toNat := by
      rcases h with ⟨_, e⟩ | ⟨h3, e⟩
      · exact e
      · have : k = 0 := by omega
        subst this
        simp at e ⊢; omega
    rw [e, scl_pos _ _ _ (by omega)]
  · rw [if_neg hk]
    have e : q.1 - p.1 = (q.2 - p.2) * 2 ^ (-k).toNat := by
      rcases h with ⟨h3, e⟩ | ⟨_, e⟩
      · omega
      · exact e
    rw [e, scl_neg _ _ _ (by omega)]

theorem stretch_pow {E : Nat} {k : Int} (h1 : -10 ≤ k) (h2 : 10 ≤ E) : stretch (2 ^ E) k = 2 ^ ((E : Int) + k).toNat := by
  unfold stretch
  by_cases hk : 0 ≤ k
  · rw [if_pos hk, ← Nat.pow_add]; congr 1; omega
  · rw [if_neg hk, Nat.pow_div (by omega) (by omega)]; congr 1; omega

/-- Where an interval begins that is carried straight. -/
def atI (Z : List (Nat × Nat)) (L : List Int) (s k : Nat) : Nat := (gS Z k).2 + stretch (s - (gS Z k).1) (List.getD L k 0)

/-- What the program says of an interval. -/
def accK (Z : List (Nat × Nat)) (L : List Int) (a : List UInt8) (k : Nat) : Option (List UInt8) :=
  if (gS Z (k + 1)).1 < enA a then none
  else if 0 ≤ (a.length : Int) - List.getD L k 0 ∧ atI Z L (stA a) k % 2 ^ (40 - ((a.length : Int) - List.getD L k 0).toNat) = 0 then some (dig (atI Z L (stA a) k) ((a.length : Int) - List.getD L k 0).toNat 39)
  else none

def accI (Z : List (Nat × Nat)) (L : List Int) (a : List UInt8) : Option (List UInt8) := accK Z L a (kN Z L.length (stA a) L.length 0)

theorem dig_length (x : Nat) : ∀ (n k : Nat), (dig x n k).length = n
  | 0, _ => rfl
  | n + 1, k => by rw [dig, List.length_cons, dig_length x n (k - 1)]

theorem stA_lt (a : List UInt8) (ha : a.length ≤ 40) : stA a < 2 ^ 40 ∧ enA a ≤ 2 ^ 40 ∧ enA a = stA a + 2 ^ (40 - a.length) := by
  have h := iv_le a ha
  have e : enA a = stA a + 2 ^ (40 - a.length) := by unfold enA; rw [grain_div ha]
  exact ⟨h.1, h.2, e⟩

theorem accI_in {Z : List (Nat × Nat)} {L : List Int} (h : GZ Z L) (a : List UInt8) (ha : a.length ≤ 40) : InP Z L (stA a) (kN Z L.length (stA a) L.length 0) :=
  kN_in h _ (stA_lt a ha).1 _ _ h.l0 (by omega) (by rw [h.z0]; exact Nat.zero_le _)

theorem accI_eq {Z : List (Nat × Nat)} {L : List Int} (h : GZ Z L) (a : List UInt8) (ha : a.length ≤ 40) {k : Nat} (hk : InP Z L (stA a) k) : accI Z L a = accK Z L a k := by
  unfold accI
  rw [InP.uniq h (accI_in h a ha) hk]

theorem says {Z : List (Nat × Nat)} {L : List Int} (h : GZ Z L) : SaysOf Z (accI Z L) := by
  intro a h01 ha
  have hk := accI_in h a (by omega)
  rw [accI]
  generalize kN Z L.length (stA a) L.length 0 = k at hk ⊢
  obtain ⟨s1, s2, s3⟩ := stA_lt a (by omega)
  obtain ⟨hu, hs⟩ := h.p.up k hk.lt
  obtain ⟨b1, b2⟩ := h.sl hk.lt
  have hZ := h.p.len
  have hl1 := h.l1
  have hlt := hk.lt
  have bd := h.bd (show k + 1 ≤ L.length by omega)
  have gget : ∀ j (hj : j < Z.length), Z[j] = gS Z j := fun j hj => by rw [gS, List.getD_eq_getElem?_getD, List.getElem?_eq_getElem hj]; rfl
  have hin : InPart Z (stA a) k := by
    refine ⟨by omega, fun j hj hjk => ?_, ?_⟩
    · rw [gget]
      exact Nat.le_trans (h.le hjk (by omega)).1 hk.le
    · rw [gget]; exact hk.gt
  obtain ⟨c1, c2, c3⟩ := straight_SC Z (by omega) (stA a) (enA a) k hin (by rw [s3]; exact Nat.lt_add_of_pos_right (Nat.pow_pos (by omega))) (gS Z k).1 (gS Z k).2 (gS Z (k + 1)).1 (gS Z (k + 1)).2 (by rw [gget]) (by rw [gget]) hu.1 hu.2 bd.1 bd.2
  have el : enA a - stA a = 2 ^ (40 - a.length) := by rw [s3, Nat.add_sub_cancel_left]
  rw [scl_stretch hu hs, scl_stretch hu hs, el, stretch_pow b1 (by omega)] at c2
  unfold accK
  by_cases hx : (gS Z (k + 1)).1 < enA a
  · rw [if_pos hx]
    exact c1 hx
  · rw [if_neg hx]
    have hx' : enA a ≤ (gS Z (k + 1)).1 := by omega
    have hat : (gS Z k).2 + stretch (stA a - (gS Z k).1) (List.getD L k 0) = atI Z L (stA a) k := rfl
    by_cases hn : 0 ≤ (a.length : Int) - List.getD L k 0
    · have hE : (((40 - a.length : Nat) : Int) + List.getD L k 0).toNat = 40 - ((a.length : Int) - List.getD L k 0).toNat := by omega
      rw [hE] at c2
      by_cases hm : atI Z L (stA a) k % 2 ^ (40 - ((a.length : Int) - List.getD L k 0).toNat) = 0
      · rw [if_pos ⟨hn, hm⟩]
        have c3 := c3 ((a.length : Int) - List.getD L k 0).toNat (by omega) hx'
        rw [scl_stretch hu hs, scl_stretch hu hs, el, stretch_pow b1 (by omega), hE, hat] at c3
        exact c3 rfl hm
      · rw [if_neg (fun c => hm c.2)]
        exact c2 hx' (Nat.pow_pos (by omega)) (fun c => hm c.1)
    · rw [if_neg (fun c => hn c.1)]
      refine c2 hx' (Nat.pow_pos (by omega)) (fun c => ?_)
      have hlt : 2 ^ 40 < 2 ^ (((40 - a.length : Nat) : Int) + List.getD L k 0).toNat := Nat.pow_lt_pow_right (by omega) (by omega)
      have := c.2
      rw [Nat.mod_eq_of_lt hlt] at this
      omega

theorem accI_len {Z : List (Nat × Nat)} {L : List Int} (h : GZ Z L) (a b : List UInt8) (ha : a.length ≤ 2 ^ 8) (hab : accI Z L a = some b) : b.length ≤ 2 ^ 9 := by
  unfold accI at hab
  generalize kN Z L.length (stA a) L.length 0 = k at hab
  have hs : -10 ≤ List.getD L k 0 := by
    by_cases hk : k < L.length
    · exact (h.sl hk).1
    · rw [List.getD_eq_getElem?_getD, List.getElem?_eq_none (by omega)]
      simp
  unfold accK at hab
  split at hab
  · cases hab
  · split at hab
    · simp only [Option.some.injEq] at hab
      rw [← hab, dig_length]
      omega
    · cases hab

end Go.AI
end

section
/- Plain law: what the reference says of an interval is what the program says, where the image is short. -/
set_option autoImplicit false
set_option maxRecDepth 100000
set_option linter.unusedVariables false
namespace Go.AI

theorem dvd_pow2 : ∀ (n d : Nat), d ∣ 2 ^ n → ∃ j, j ≤ n ∧ d = 2 ^ j
  | 0, d, h => ⟨0, Nat.le_refl _, by simpa using h⟩
  | n + 1, d, h => by
    by_cases he : 2 ∣ d
    · obtain ⟨e, rfl⟩ := he
      rw [Nat.pow_succ'] at h
      obtain ⟨j, hj, rfl⟩ := dvd_pow2 n e (Nat.dvd_of_mul_dvd_mul_left (by omega) h)
      exact ⟨j + 1, by omega, by rw [Nat.pow_succ']⟩
    · have hc : Nat.Coprime d 2 := by
        have hg : Nat.gcd d 2 ∣ 2 := Nat.gcd_dvd_right _ _
        have hle := Nat.le_of_dvd (by omega) hg
        have hp : 0 < Nat.gcd d 2 := Nat.gcd_pos_of_pos_right _ (by omega)
        have : Nat.gcd d 2 = 1 ∨ Nat.gcd d 2 = 2 := by omega
        rcases this with h1 | h1
        · exact h1
        · exact absurd (h1 ▸ Nat.gcd_dvd_left d 2) he
      rw [Nat.pow_succ'] at h
      obtain ⟨j, hj, e⟩ := dvd_pow2 n d (hc.dvd_of_dvd_mul_left h)
      exact ⟨j, by omega, e⟩

theorem dig_scale (w e : Nat) : ∀ (n k : Nat), n ≤ k + 1 → dig (w * 2 ^ e) n (e + k) = dig w n k
  | 0, _, _ => rfl
  | n + 1, k, h => by
    rw [dig, dig]
    have h1 : w * 2 ^ e / 2 ^ (e + k) = w / 2 ^ k := by
      rw [Nat.pow_add, Nat.mul_comm w, Nat.mul_div_mul_left _ _ (Nat.pow_pos (by omega))]
    rw [h1]
    cases k with
    | zero =>
      have : n = 0 := by omega
      subst this
      rfl
    | succ k =>
      rw [show e + (k + 1) - 1 = e + k by omega, show k + 1 - 1 = k by omega, dig_scale w e n k (by omega)]

theorem adr_law (p q x n : Nat) (hn : n ≤ 8) (hq : 0 < q) (cop : Nat.Coprime p q) (h : p * 2 ^ 40 = q * x) (hx : x < 2 ^ 40) :
    (q ≤ 2 ^ n ↔ x % 2 ^ (40 - n) = 0) ∧ (q ≤ 2 ^ n → (adrF ((p : Int), (q : Int)) n).1 = dig x n 39) := by
  have hdq : q ∣ 2 ^ 40 := (Nat.Coprime.symm cop).dvd_of_dvd_mul_left (by rw [h]; exact Nat.dvd_mul_right _ _)
  obtain ⟨j, hj, rfl⟩ := dvd_pow2 40 q hdq
  have hxe : x = p * 2 ^ (40 - j) := by
    have : 2 ^ j * (p * 2 ^ (40 - j)) = 2 ^ j * x := by
      rw [← h, Nat.mul_left_comm, ← Nat.pow_add, show j + (40 - j) = 40 by omega]
    exact (Nat.eq_of_mul_eq_mul_left (Nat.pow_pos (by omega)) this).symm
  have hodd : 1 ≤ j → p % 2 = 1 := fun h1 => by
    by_cases hp : p % 2 = 1
    · exact hp
    · exfalso
      have d1 : 2 ∣ p := Nat.dvd_of_mod_eq_zero (by omega)
      have d2 : 2 ∣ 2 ^ j := by rw [show j = (j - 1) + 1 by omega, Nat.pow_succ]; exact Nat.dvd_mul_left _ _
      have := Nat.dvd_gcd d1 d2
      rw [show Nat.gcd p (2 ^ j) = 1 from cop] at this
      omega
  have hlt : p < 2 ^ j := by
    have h1 : p * 2 ^ 40 < 2 ^ j * 2 ^ 40 := by rw [h]; exact Nat.mul_lt_mul_of_pos_left hx (Nat.pow_pos (by omega))
    exact Nat.lt_of_mul_lt_mul_right h1
  have hjn : 2 ^ j ≤ 2 ^ n ↔ j ≤ n := Nat.pow_le_pow_iff_right (by omega)
  constructor
  · rw [hjn]
    constructor
    · intro hle
      rw [hxe, show 40 - j = (n - j) + (40 - n) by omega, Nat.pow_add, ← Nat.mul_assoc]
      exact Nat.mul_mod_left _ _
    · intro hm
      by_cases hle : j ≤ n
      · exact hle
      · exfalso
        obtain ⟨c, hc⟩ := Nat.dvd_of_mod_eq_zero hm
        rw [hxe, show 40 - n = (j - n) + (40 - j) by omega, Nat.pow_add] at hc
        have hpc : p = c * 2 ^ (j - n) := by
          refine Nat.eq_of_mul_eq_mul_right (Nat.pow_pos (show 0 < 2 by omega) : 0 < 2 ^ (40 - j)) ?_
          rw [hc]; ac_rfl
        have := hodd (by omega)
        rw [hpc, show j - n = (j - n - 1) + 1 by omega, Nat.pow_succ, ← Nat.mul_assoc, Nat.mul_mod_left] at this
        omega
  · intro hle'
    have hle := hjn.1 hle'
    have hp8 : 2 ^ j ≤ 2 ^ 8 := Nat.pow_le_pow_right (by omega) (by omega)
    have hg : goodF ((p : Int), ((2 ^ j : Nat) : Int)) = true := by
      refine goodF_true ⟨?_, ?_, ?_, ?_, ?_, ?_⟩
      · show (1 : Int) ≤ ((2 ^ j : Nat) : Int); omega
      · show ((2 ^ j : Nat) : Int) ≤ 1024; omega
      · show pow2 (((2 ^ j : Nat) : Int)).toNat = true
        rw [Int.toNat_natCast]
        exact pow2_iff.2 ⟨j, by omega, rfl⟩
      · show (0 : Int) ≤ (p : Int); omega
      · show (p : Int) ≤ ((2 ^ j : Nat) : Int); omega
      · show ((2 ^ j : Nat) : Int) = 1 ∨ (p : Int) % 2 = 1
        cases j with
        | zero => left; rfl
        | succ j => right; have := hodd (by omega); omega
    unfold adrF
    rw [if_pos ⟨hg, by show (p : Int) ≠ ((2 ^ j : Nat) : Int); omega, by show (((2 ^ j : Nat) : Int)).toNat ≤ 2 ^ n; rw [Int.toNat_natCast]; exact hle'⟩]
    show dig (((p : Int)).toNat * (2 ^ n / (((2 ^ j : Nat) : Int)).toNat)) n (n - 1) = _
    rw [Int.toNat_natCast, Int.toNat_natCast, Nat.pow_div hle (by omega)]
    cases n with
    | zero => rfl
    | succ n =>
      have := dig_scale (p * 2 ^ (n + 1 - j)) (40 - (n + 1)) (n + 1) n (by omega)
      rw [show 40 - (n + 1) + n = 39 by omega, Nat.mul_assoc, ← Nat.pow_add, show n + 1 - j + (40 - (n + 1)) = 40 - j by omega, ← hxe] at this
      rw [show n + 1 - 1 = n by omega]
      exact this.symm

theorem frA_Pw (a : List UInt8) (ha : a.length ≤ 40) : Pw (frA a) (stA a) ∧ Pw (endF a) (enA a) := by
  have e := plF_eq a 40 0 ha
  rw [Nat.zero_add] at e
  have es : stA a = bn a * 2 ^ (40 - a.length) := e
  have hp : 0 < 2 ^ a.length := Nat.pow_pos (by omega)
  obtain ⟨E, hE⟩ := Nat.gcd_dvd_right (bn a) (2 ^ a.length)
  obtain ⟨N, hN⟩ := Nat.gcd_dvd_left (bn a) (2 ^ a.length)
  have hg : 0 < Nat.gcd (bn a) (2 ^ a.length) := Nat.gcd_pos_of_pos_right _ hp
  have d1 : 2 ^ a.length / Nat.gcd (bn a) (2 ^ a.length) = E := by
    conv => lhs; lhs; rw [hE]
    exact Nat.mul_div_cancel_left _ hg
  have d2 : bn a / Nat.gcd (bn a) (2 ^ a.length) = N := by
    conv => lhs; lhs; rw [hN]
    exact Nat.mul_div_cancel_left _ hg
  have hEp : 0 < E := by
    cases E with
    | zero => simp at hE
    | succ E => omega
  have d3 : 2 ^ a.length / E = Nat.gcd (bn a) (2 ^ a.length) := by
    conv => lhs; lhs; rw [hE]
    exact Nat.mul_div_cancel _ hEp
  have hfull : 2 ^ a.length * 2 ^ (40 - a.length) = 1099511627776 := by
    rw [← Nat.pow_add, show a.length + (40 - a.length) = 40 by omega]
  have ef : frA a = ((N : Int), (E : Int)) := by unfold frA; rw [d1, d2]
  have ee : endF a = ((bn a : Int) + 1, ((2 ^ a.length : Nat) : Int)) := by
    unfold endF
    rw [ef, d1, d3]
    show ((N : Int) * ((Nat.gcd (bn a) (2 ^ a.length) : Nat) : Int) + 1, _) = _
    rw [← Int.natCast_mul, Nat.mul_comm N, ← hN]
  constructor
  · rw [ef]
    refine ⟨?_, by show (0 : Int) < (E : Int); omega⟩
    show (N : Int) * 1099511627776 = ((stA a : Nat) : Int) * (E : Int)
    have : N * 1099511627776 = stA a * E := by
      rw [es, ← hfull]
      calc N * (2 ^ a.length * 2 ^ (40 - a.length)) = N * (Nat.gcd (bn a) (2 ^ a.length) * E * 2 ^ (40 - a.length)) := by rw [← hE]
        _ = Nat.gcd (bn a) (2 ^ a.length) * N * 2 ^ (40 - a.length) * E := by ac_rfl
        _ = bn a * 2 ^ (40 - a.length) * E := by rw [← hN]
    rw [← Int.natCast_mul, ← this]; rfl
  · rw [ee]
    refine ⟨?_, by show (0 : Int) < ((2 ^ a.length : Nat) : Int); omega⟩
    show ((bn a : Int) + 1) * 1099511627776 = ((enA a : Nat) : Int) * ((2 ^ a.length : Nat) : Int)
    have : (bn a + 1) * 1099511627776 = enA a * 2 ^ a.length := by
      rw [(stA_lt a ha).2.2, es, ← hfull, Nat.add_mul, Nat.add_mul, Nat.one_mul]
      have c1 : bn a * (2 ^ a.length * 2 ^ (40 - a.length)) = bn a * 2 ^ (40 - a.length) * 2 ^ a.length := by ac_rfl
      have c2 : 2 ^ a.length * 2 ^ (40 - a.length) = 2 ^ (40 - a.length) * 2 ^ a.length := Nat.mul_comm _ _
      rw [c1, c2]
    rw [← Int.natCast_mul, ← this]; rfl

end Go.AI
end

section
/- Plain law: the two sides' images of an interval. -/
set_option autoImplicit false
set_option maxRecDepth 100000
set_option linter.unusedVariables false
namespace Go.AI

theorem ZS_get {S V : List (Int × Int)} {n : Nat} (h1 : S.length = n + 1) (h2 : V.length = n + 1) {k : Nat} (hk : k ≤ n) : gS (ZS S V) k = (plI (gF S k), plI (gF V k)) := by
  rw [gS, List.getD_eq_getElem?_getD, List.getElem?_zipWith, gF, gF, List.getD_eq_getElem?_getD, List.getD_eq_getElem?_getD, List.getElem?_eq_getElem (show k < S.length by omega), List.getElem?_eq_getElem (show k < V.length by omega)]
  rfl

/-- Breaks and values, with their slopes. -/
structure RV (S V : List (Int × Int)) (L : List Int) : Prop where
  lS : S.length = L.length + 1
  lV : V.length = L.length + 1
  oS : ∀ x ∈ S, goodF x = true
  oV : ∀ x ∈ V, goodF x = true
  z : GZ (ZS S V) L

theorem RV.at1 {S V : List (Int × Int)} {L : List Int} (h : RV S V L) {k : Nat} (hk : k ≤ L.length) : Pw (gF S k) (gS (ZS S V) k).1 ∧ Pw (gF V k) (gS (ZS S V) k).2 := by
  rw [ZS_get h.lS h.lV hk]
  exact ⟨(good_Pw (getD_mem' h.oS _ _ (by rw [h.lS]; omega))).1, (good_Pw (getD_mem' h.oV _ _ (by rw [h.lV]; omega))).1⟩

theorem kS_kN {S V : List (Int × Int)} {L : List Int} (h : RV S V L) (a : List UInt8) (ha : a.length ≤ 8) : ∀ (m k : Nat), kS S L.length (frA a) m k = kN (ZS S V) L.length (stA a) m k
  | 0, k => rfl
  | m + 1, k => by
    unfold kS kN
    by_cases hk : k + 1 < L.length
    · rw [if_pos hk, if_pos hk, (frA_Pw a (by omega)).1.lt (h.at1 (show k + 1 ≤ L.length by omega)).1, kS_kN h a ha m (k + 1)]
      by_cases hlt : stA a < (gS (ZS S V) (k + 1)).1
      · rw [if_pos (decide_eq_true hlt), if_pos hlt]
      · rw [if_neg (by rw [decide_eq_false hlt]; decide), if_neg hlt]
    · rw [if_neg hk, if_neg hk]

theorem stretch_lt {p q : Nat × Nat} {k : Int} (hu : Up p q) (h : Slope p q k) {n : Nat} (hn : n < q.1 - p.1) : stretch n k < q.2 - p.2 := by
  obtain ⟨u1, u2⟩ := hu
  unfold stretch
  by_cases hk : 0 ≤ k
  · rw [if_pos hk]
    have e : q.2 - p.2 = (q.1 - p.1) * 2 ^ k.toNat := by
      rcases h with ⟨_, e⟩ | ⟨h3, e⟩
      · exact e
      · have : k = 0 := by omega
        subst this
        simp at e ⊢; omega
    rw [e]
    exact Nat.mul_lt_mul_of_pos_right hn (Nat.pow_pos (by omega))
  · rw [if_neg hk]
    have e : q.1 - p.1 = (q.2 - p.2) * 2 ^ (-k).toNat := by
      rcases h with ⟨h3, e⟩ | ⟨_, e⟩
      · omega
      · exact e
    rw [Nat.div_lt_iff_lt_mul (Nat.pow_pos (by omega)), ← e]
    exact hn

theorem atI_lt {Z : List (Nat × Nat)} {L : List Int} (h : GZ Z L) {s k : Nat} (hk : InP Z L s k) : atI Z L s k < (gS Z (k + 1)).2 := by
  obtain ⟨hu, hs⟩ := h.p.up k hk.lt
  have := stretch_lt hu hs (n := s - (gS Z k).1) (by have := hk.le; have := hk.gt; omega)
  have := hu.2
  unfold atI
  omega

theorem dvd_stA (a : List UInt8) (ha : a.length ≤ 10) : 2 ^ 30 ∣ stA a := by
  have e := plF_eq a 40 0 (by omega)
  rw [Nat.zero_add] at e
  have es : stA a = bn a * 2 ^ (40 - a.length) := e
  rw [es, show 40 - a.length = 30 + (10 - a.length) by omega, Nat.pow_add]
  exact Nat.dvd_mul_left_of_dvd (Nat.dvd_mul_right _ _) _

/-- Value times numbers: the reference's fraction is at the place. -/
theorem value_law {s x y : Int × Int} {ps px q dn up : Nat} (hs : Pw s ps) (hx : Pw x px) (hy : Pw y q) (hle : px ≤ ps) (w : Nat) (hw : (ps - px) * 2 ^ up + q * 2 ^ dn = 2 ^ dn * w) :
    nV s x y up dn * 1099511627776 = dV s x y dn * (w : Int) ∧ 0 < dV s x y dn ∧ 0 ≤ nV s x y up dn := by
  have pd : (0 : Int) < ((2 ^ dn : Nat) : Int) := by have : 0 < 2 ^ dn := Nat.pow_pos (by omega); omega
  have hd : 0 < dV s x y dn := Int.mul_pos (Int.mul_pos (Int.mul_pos hs.pos hx.pos) pd) hy.pos
  have hW : ((ps : Int) - (px : Int)) * ((2 ^ up : Nat) : Int) + (q : Int) * ((2 ^ dn : Nat) : Int) = ((2 ^ dn : Nat) : Int) * (w : Int) := by
    have h1 : (((ps - px) * 2 ^ up + q * 2 ^ dn : Nat) : Int) = ((2 ^ dn * w : Nat) : Int) := by rw [hw]
    rw [Int.natCast_add, Int.natCast_mul, Int.natCast_mul, Int.natCast_mul, Int.ofNat_sub hle] at h1
    exact h1
  have e : nV s x y up dn * 1099511627776 = dV s x y dn * (w : Int) := by
    unfold nV dV
    generalize ((2 ^ up : Nat) : Int) = U at *
    generalize ((2 ^ dn : Nat) : Int) = D at *
    have e1 : s.1 * x.2 * 1099511627776 = (ps : Int) * (s.2 * x.2) := by
      rw [Int.mul_assoc, Int.mul_comm x.2, ← Int.mul_assoc, hs.e, Int.mul_assoc]
    have e2 : x.1 * s.2 * 1099511627776 = (px : Int) * (s.2 * x.2) := by
      rw [Int.mul_assoc, Int.mul_comm s.2, ← Int.mul_assoc, hx.e, Int.mul_assoc, Int.mul_comm x.2]
    calc ((s.1 * x.2 - x.1 * s.2) * U * y.2 + y.1 * (s.2 * x.2) * D) * 1099511627776
        = (s.1 * x.2 * 1099511627776 - x.1 * s.2 * 1099511627776) * (U * y.2) + (y.1 * 1099511627776) * ((s.2 * x.2) * D) := by
          rw [Int.add_mul, ← Int.sub_mul]; ac_rfl
      _ = (((ps : Int) - (px : Int)) * U + (q : Int) * D) * (s.2 * x.2 * y.2) := by
          rw [e1, e2, hy.e, ← Int.sub_mul, Int.add_mul]; ac_rfl
      _ = s.2 * x.2 * D * y.2 * (w : Int) := by rw [hW]; ac_rfl
  refine ⟨e, hd, ?_⟩
  have h0 : 0 ≤ dV s x y dn * (w : Int) := Int.mul_nonneg (by omega) (by omega)
  omega

theorem accR_eq {S V : List (Int × Int)} {L : List Int} (h : RV S V L) (a : List UInt8) (ha : a.length ≤ 8) : accR S V L a = (accI (ZS S V) L a).filter fun b => decide (b.length ≤ 8) := by
  have hk := accI_in h.z a (by omega)
  unfold accR
  simp only []
  rw [kS_kN h a ha]
  unfold accI
  generalize kN (ZS S V) L.length (stA a) L.length 0 = k at hk ⊢
  obtain ⟨hu, hs⟩ := h.z.p.up k hk.lt
  obtain ⟨b1, b2⟩ := h.z.sl hk.lt
  obtain ⟨px, py⟩ := h.at1 (show k ≤ L.length by have := hk.lt; omega)
  obtain ⟨qx, qy⟩ := h.at1 (show k + 1 ≤ L.length by have := hk.lt; omega)
  obtain ⟨f1, f2⟩ := frA_Pw a (by omega)
  have hlt := atI_lt h.z hk
  have hbd := (h.z.bd (show k + 1 ≤ L.length by have := hk.lt; omega)).2
  have hdiv : 2 ^ 30 ∣ stA a - (gS (ZS S V) k).1 := Nat.dvd_sub (dvd_stA a (by omega)) (h.z.dv k (by have := hk.lt; omega)).1
  have hat : atI (ZS S V) L (stA a) k = (gS (ZS S V) k).2 + stretch (stA a - (gS (ZS S V) k).1) (List.getD L k 0) := rfl
  have hW : (stA a - (gS (ZS S V) k).1) * 2 ^ (max 0 (List.getD L k 0)).toNat + (gS (ZS S V) k).2 * 2 ^ (max 0 (0 - List.getD L k 0)).toNat = 2 ^ (max 0 (0 - List.getD L k 0)).toNat * atI (ZS S V) L (stA a) k := by
    rw [hat]
    unfold stretch
    generalize List.getD L k 0 = σ at *
    by_cases hσ : 0 ≤ σ
    · rw [if_pos hσ, show (max 0 σ).toNat = σ.toNat by omega, show (max 0 (0 - σ)).toNat = 0 by omega]
      simp only [Nat.pow_zero, Nat.mul_one, Nat.one_mul]
      omega
    · rw [if_neg hσ, show (max 0 σ).toNat = 0 by omega, show (max 0 (0 - σ)).toNat = (-σ).toNat by omega, Nat.pow_zero, Nat.mul_one, Nat.mul_add]
      have hd : 2 ^ (-σ).toNat ∣ stA a - (gS (ZS S V) k).1 := Nat.dvd_trans (Nat.pow_dvd_pow 2 (by omega)) hdiv
      rw [Nat.mul_div_cancel' hd, Nat.mul_comm, Nat.add_comm]
  obtain ⟨v1, v2, v3⟩ := value_law f1 px py hk.le _ hW
  rw [qx.lt f2]
  unfold accK
  by_cases hx : (gS (ZS S V) (k + 1)).1 < enA a
  · rw [if_pos (decide_eq_true hx), if_pos hx]
    rfl
  · rw [if_neg (by rw [decide_eq_false hx]; decide), if_neg hx]
    generalize nV (frA a) (List.getD S k (0, 0)) (List.getD V k (0, 0)) (max 0 (List.getD L k 0)).toNat (max 0 (0 - List.getD L k 0)).toNat = N at *
    generalize dV (frA a) (List.getD S k (0, 0)) (List.getD V k (0, 0)) (max 0 (0 - List.getD L k 0)).toNat = D at *
    generalize atI (ZS S V) L (stA a) k = w at *
    generalize List.getD L k 0 = σ at *
    have hD : 0 < D.toNat := by omega
    have hg : 0 < Nat.gcd N.toNat D.toNat := Nat.gcd_pos_of_pos_right _ hD
    have hND : N.toNat * 2 ^ 40 = D.toNat * w := by
      apply Int.ofNat_inj.1
      rw [Int.natCast_mul, Int.natCast_mul, show ((N.toNat : Nat) : Int) = N by omega, show ((D.toNat : Nat) : Int) = D by omega]
      exact v1
    have e1 := Nat.div_mul_cancel (Nat.gcd_dvd_left N.toNat D.toNat)
    have e2 := Nat.div_mul_cancel (Nat.gcd_dvd_right N.toNat D.toNat)
    have cop : Nat.Coprime (N.toNat / Nat.gcd N.toNat D.toNat) (D.toNat / Nat.gcd N.toNat D.toNat) := Nat.coprime_div_gcd_div_gcd hg
    have hq : 0 < D.toNat / Nat.gcd N.toNat D.toNat := Nat.div_pos (Nat.le_of_dvd hD (Nat.gcd_dvd_right _ _)) hg
    unfold shortF
    generalize N.toNat / Nat.gcd N.toNat D.toNat = p at *
    generalize D.toNat / Nat.gcd N.toNat D.toNat = q at *
    have hpq : p * 2 ^ 40 = q * w := by
      refine Nat.eq_of_mul_eq_mul_right hg ?_
      calc p * 2 ^ 40 * Nat.gcd N.toNat D.toNat = (p * Nat.gcd N.toNat D.toNat) * 2 ^ 40 := by ac_rfl
        _ = (q * Nat.gcd N.toNat D.toNat) * w := by rw [e1, e2]; exact hND
        _ = q * w * Nat.gcd N.toNat D.toNat := by ac_rfl
    by_cases hn : 0 ≤ (a.length : Int) - σ ∧ (a.length : Int) - σ ≤ 8
    · rw [if_pos hn]
      obtain ⟨l1, l2⟩ := adr_law p q w ((a.length : Int) - σ).toNat (by omega) hq cop hpq (by omega)
      by_cases hm : w % 2 ^ (40 - ((a.length : Int) - σ).toNat) = 0
      · have hle := l1.2 hm
        rw [if_pos (by show (q : Int) ≤ ((2 ^ ((a.length : Int) - σ).toNat : Nat) : Int); exact Int.ofNat_le.2 hle), if_pos ⟨hn.1, hm⟩, l2 hle]
        rw [Option.filter_some, if_pos (decide_eq_true (by rw [dig_length]; omega))]
      · rw [if_neg (by show ¬ ((q : Int) ≤ ((2 ^ ((a.length : Int) - σ).toNat : Nat) : Int)); exact fun c => hm (l1.1 (Int.ofNat_le.1 c))), if_neg (fun c => hm c.2)]
        rfl
    · rw [if_neg hn]
      by_cases hm : 0 ≤ (a.length : Int) - σ ∧ w % 2 ^ (40 - ((a.length : Int) - σ).toNat) = 0
      · rw [if_pos hm, Option.filter_some, if_neg (by rw [decide_eq_true_eq, dig_length]; omega)]
      · rw [if_neg hm]
        rfl

end Go.AI
end
