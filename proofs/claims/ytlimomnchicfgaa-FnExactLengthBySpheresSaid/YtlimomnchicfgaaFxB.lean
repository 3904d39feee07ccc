/- A part of the road: what it proves stands in its last texts. -/
import Derived.Test.YtlimomnchicfgaaCSw
section
/- Numbers of words: letters in front and letters behind. -/
set_option autoImplicit false
set_option maxRecDepth 100000
set_option linter.unusedVariables false
namespace Go.AI
open Go.Proofs

structure Gd (p : Tr × Tr) : Prop where
  e : p.1.c = p.2.c
  r : bothL p = []

/-- A pair turned round. -/
def sw (p : Tr × Tr) : Tr × Tr := (p.2, p.1)

theorem Gd.sw {p : Tr × Tr} (h : Gd p) : Gd (sw p) :=
  ⟨h.e.symm, both_nil fun j h1 h2 => not_both h.r j h2 h1⟩

theorem ls_sym : ∀ X Y : List Mk, ls X Y = ls Y X
  | [], [] => rfl
  | [], y :: Y => by simp [ls]
  | x :: X, [] => by simp [ls]
  | x :: X, y :: Y => by rw [ls_cons, ls_cons, ls_sym X Y, tab_sym _ (kd_six x X) _ (kd_six y Y)]

theorem len_sw (p : Tr × Tr) (h : p.1.c = p.2.c) : lenT (sw p) = lenT p := by
  rw [lenT_ls p h, lenT_ls (sw p) h.symm, ls_sym]
  rfl

theorem let_sw (n : Int) (h : n ≠ 0) : letT (-n) = sw (letT n) := by
  unfold letT sw
  by_cases h1 : n < 0
  · rw [if_pos h1, if_neg (by omega), Int.natAbs_neg]
  · rw [if_neg h1, if_pos (by omega), Int.natAbs_neg]

theorem times_gd (p q : Tr × Tr) (hp : p.1.c = p.2.c) (hq : q.1.c = q.2.c) : Gd (timesT p q) := ⟨times_eqc p q hp hq, times_red p q⟩

theorem fOf_sw (p : Tr × Tr) (h : p.1.c = p.2.c) (s : St2) : fOf (sw p) (fOf p s) = s := fOf_inv p.1 p.2 h s
theorem fOf_sw' (p : Tr × Tr) (h : p.1.c = p.2.c) (s : St2) : fOf p (fOf (sw p) s) = s := fOf_inv p.2 p.1 h.symm s

theorem sw_times (p q : Tr × Tr) (hp : p.1.c = p.2.c) (hq : q.1.c = q.2.c) : sw (timesT p q) = timesT (sw q) (sw p) := by
  have h := times_gd p q hp hq
  refine red_unique _ _ h.sw.e (times_eqc _ _ hq.symm hp.symm) h.sw.r (times_red _ _) fun s => ?_
  have e : s = fOf (timesT p q) (fOf (sw p) (fOf (sw q) s)) := by
    rw [fOf_times p q hp hq, fOf_sw' p hp, fOf_sw' q hq]
  rw [fOf_times (sw q) (sw p) hq.symm hp.symm]
  conv => lhs; rw [e]
  exact fOf_sw _ h.e _

/-- A letter behind changes the length by one. -/
theorem len_stepR (p : Tr × Tr) (h : Gd p) (n : Int) (hn : n = 1 ∨ n = -1 ∨ n = 2 ∨ n = -2) : near (lenT p) (lenT (timesT p (letT n))) := by
  have hc := let_c n
  have h1 := len_step (sw p) h.sw.e h.sw.r (-n) (by omega)
  rw [let_sw n (by omega), ← sw_times p (letT n) h.e (by omega), len_sw _ (times_eqc _ _ h.e (by omega)), len_sw p h.e] at h1
  exact h1

theorem one_of {p : Tr × Tr} (h : Gd p) (hf : ∀ s, fOf p s = s) : p = (.leaf, .leaf) :=
  red_unique _ _ h.e rfl h.r rfl fun s => by rw [hf, fOf_id]

theorem turn0 (x y : Tr × Tr) (hx : x.1.c = x.2.c) (hy : y.1.c = y.2.c) (h : lenT (timesT x y) = 0) : lenT (timesT y x) = 0 := by
  have h1 := times_gd x y hx hy
  have h2 := len_zero _ h1.e h1.r h
  have h3 : ∀ s, fOf y (fOf x s) = s := fun s => by rw [← fOf_times x y hx hy, h2, fOf_id]
  have h4 : timesT y x = (.leaf, .leaf) := one_of (times_gd y x hy hx) fun s => by
    rw [fOf_times y x hy hx]
    have e := h3 (fOf (sw x) s)
    rw [fOf_sw' x hx] at e
    rw [e, fOf_sw' x hx]
  rw [h4]
  exact gens_len.1

/-! ### Sums over letters -/

def sum4 (g : Int → Int) : Int := g 1 + g (-1) + g 2 + g (-2)

theorem sum4_swap (g : Int → Int → Int) : (sum4 fun l => sum4 fun m => g l m) = sum4 fun m => sum4 fun l => g l m := by
  simp only [sum4]
  omega

theorem sum4_congr {g k : Int → Int} (h : ∀ l ∈ ltrs, g l = k l) : sum4 g = sum4 k := by
  unfold sum4
  rw [h 1 (by decide), h (-1) (by decide), h 2 (by decide), h (-2) (by decide)]

theorem sum4_neg (g : Int → Int) : (sum4 fun l => g (-l)) = sum4 g := by
  unfold sum4
  simp only [Int.neg_neg]
  omega

theorem sum4_bd {g : Int → Int} {M : Int} (h : ∀ l ∈ ltrs, 0 ≤ g l ∧ g l ≤ M) : 0 ≤ sum4 g ∧ sum4 g ≤ 4 * M := by
  have h1 := h 1 (by decide)
  have h2 := h (-1) (by decide)
  have h3 := h 2 (by decide)
  have h4 := h (-2) (by decide)
  unfold sum4
  omega

def opA (f : Tr × Tr → Int) (p : Tr × Tr) : Int := sum4 fun l => f (timesT (letT (-l)) p)
def opB (f : Tr × Tr → Int) (p : Tr × Tr) : Int := sum4 fun l => f (timesT p (letT l))

def dlt (p : Tr × Tr) : Int := if lenT p = 0 then 1 else 0

def cA : Nat → Tr × Tr → Int
  | 0 => dlt
  | n + 1 => opA (cA n)

def cB : Nat → Tr × Tr → Int
  | 0 => dlt
  | n + 1 => opB (cB n)

theorem let_e (l : Int) : (letT l).1.c = (letT l).2.c := by have := let_c l; omega

theorem gdA {p : Tr × Tr} (h : Gd p) (l : Int) : Gd (timesT (letT l) p) := times_gd _ _ (let_e l) h.e
theorem gdB {p : Tr × Tr} (h : Gd p) (l : Int) : Gd (timesT p (letT l)) := times_gd _ _ h.e (let_e l)

theorem opA_congr {f g : Tr × Tr → Int} (h : ∀ p, Gd p → f p = g p) {p : Tr × Tr} (hp : Gd p) : opA f p = opA g p :=
  sum4_congr fun l _ => h _ (gdA hp _)
theorem opB_congr {f g : Tr × Tr → Int} (h : ∀ p, Gd p → f p = g p) {p : Tr × Tr} (hp : Gd p) : opB f p = opB g p :=
  sum4_congr fun l _ => h _ (gdB hp _)

theorem op_comm (f : Tr × Tr → Int) {p : Tr × Tr} (hp : Gd p) : opA (opB f) p = opB (opA f) p := by
  have e : opA (opB f) p = sum4 fun l => sum4 fun m => f (timesT (timesT (letT (-l)) p) (letT m)) := rfl
  have e2 : opB (opA f) p = sum4 fun m => sum4 fun l => f (timesT (letT (-l)) (timesT p (letT m))) := rfl
  rw [e, e2, sum4_swap]
  exact sum4_congr fun m _ => sum4_congr fun l _ => by rw [times_assoc _ _ _ (let_e _) hp.e (let_e _)]

theorem op_dlt {p : Tr × Tr} (hp : Gd p) : opA dlt p = opB dlt p := by
  have e : opB dlt p = sum4 fun l => dlt (timesT p (letT (-l))) := (sum4_neg fun l => dlt (timesT p (letT l))).symm
  rw [e]
  refine sum4_congr fun l _ => ?_
  have h1 : lenT (timesT (letT (-l)) p) = 0 ↔ lenT (timesT p (letT (-l))) = 0 := ⟨turn0 _ _ (let_e _) hp.e, turn0 _ _ hp.e (let_e _)⟩
  unfold dlt
  by_cases h : lenT (timesT (letT (-l)) p) = 0
  · rw [if_pos h, if_pos (h1.1 h)]
  · rw [if_neg h, if_neg fun g => h (h1.2 g)]

theorem opA_cB : ∀ (n : Nat) {p : Tr × Tr}, Gd p → opA (cB n) p = cB (n + 1) p
  | 0, p, hp => op_dlt hp
  | n + 1, p, hp => by
    have e : opA (cB (n + 1)) p = opB (opA (cB n)) p := op_comm (cB n) hp
    rw [e]
    exact opB_congr (fun q hq => opA_cB n hq) hp

theorem cA_cB : ∀ (n : Nat) {p : Tr × Tr}, Gd p → cA n p = cB n p
  | 0, p, hp => rfl
  | n + 1, p, hp => by
    have e : cA (n + 1) p = opA (cB n) p := opA_congr (fun q hq => cA_cB n hq) hp
    rw [e, opA_cB n hp]

theorem cA_bd : ∀ (n : Nat) (p : Tr × Tr), 0 ≤ cA n p ∧ cA n p ≤ 4 ^ n
  | 0, p => by
    show 0 ≤ dlt p ∧ dlt p ≤ 4 ^ 0
    unfold dlt
    split <;> decide
  | n + 1, p => by
    have h : 0 ≤ opA (cA n) p ∧ opA (cA n) p ≤ 4 * 4 ^ n := sum4_bd fun l _ => cA_bd n _
    rw [Int.pow_succ, Int.mul_comm]
    exact h

theorem cA_zero : ∀ (n : Nat) {p : Tr × Tr}, Gd p → (n : Int) < lenT p → cA n p = 0
  | 0, p, hp, h => by
    show dlt p = 0
    unfold dlt
    rw [if_neg (by omega)]
  | n + 1, p, hp, h => by
    have h0 : ∀ l ∈ ltrs, cA n (timesT (letT (-l)) p) = 0 := fun l hl => cA_zero n (gdA hp _) (by
      have := (len_step p hp.e hp.r (-l) (ltrs_neg l hl).1).2
      omega)
    have e : cA (n + 1) p = sum4 fun l => cA n (timesT (letT (-l)) p) := rfl
    rw [e, sum4_congr h0]
    rfl

/-- A letter in front that makes the pair shorter. -/
theorem cA_step (n : Nat) {p : Tr × Tr} (hp : Gd p) (h : lenT p = ((n + 1 : Nat) : Int)) :
    cA (n + 1) p = sum4 fun l => if lenT (timesT (letT (-l)) p) < lenT p then cA n (timesT (letT (-l)) p) else 0 := by
  have e : cA (n + 1) p = sum4 fun l => cA n (timesT (letT (-l)) p) := rfl
  rw [e]
  refine sum4_congr fun l hl => ?_
  split
  · rfl
  · exact cA_zero n (gdA hp _) (by omega)

theorem cB_step (n : Nat) {p : Tr × Tr} (hp : Gd p) (h : lenT p = ((n + 1 : Nat) : Int)) :
    cA (n + 1) p = sum4 fun l => if lenT (timesT p (letT l)) < lenT p then cA n (timesT p (letT l)) else 0 := by
  have e : cB (n + 1) p = sum4 fun l => cB n (timesT p (letT l)) := rfl
  rw [cA_cB _ hp, e]
  refine sum4_congr fun l hl => ?_
  rw [← cA_cB n (gdB hp _)]
  split
  · rfl
  · exact cA_zero n (gdB hp _) (by omega)

theorem lessA {p : Tr × Tr} (hp : Gd p) {l : Int} (hl : l ∈ ltrs) (h : lenT (timesT (letT (-l)) p) < lenT p) : lenT (timesT (letT (-l)) p) = lenT p - 1 := by
  have := (len_step p hp.e hp.r (-l) (ltrs_neg l hl).1).2
  omega

theorem lessB {p : Tr × Tr} (hp : Gd p) {l : Int} (hl : l ∈ ltrs) (h : lenT (timesT p (letT l)) < lenT p) : lenT (timesT p (letT l)) = lenT p - 1 := by
  have := (len_stepR p hp l (by have := (ltrs_neg l hl).1; omega)).2
  omega

end Go.AI
end

section
/- Spheres: what is at each distance. -/
set_option autoImplicit false
set_option maxRecDepth 100000
set_option linter.unusedVariables false
namespace Go.AI
open Go.Proofs

def Bal : Nat → Tr × Tr → Prop
  | 0, p => p = (.leaf, .leaf)
  | k + 1, p => Bal k p ∨ ∃ q l, Bal k q ∧ l ∈ ltrs ∧ p = timesT q (letT l)

def Sph : Nat → Tr × Tr → Prop
  | 0, p => Bal 0 p
  | k + 1, p => Bal (k + 1) p ∧ ¬ Bal k p

theorem leaf_gd : Gd (.leaf, .leaf) := ⟨rfl, rfl⟩

theorem ltr_cases {l : Int} (hl : l ∈ ltrs) : l = 1 ∨ l = -1 ∨ l = 2 ∨ l = -2 := by
  have := (ltrs_neg l hl).1
  omega

theorem Bal.gd : ∀ {k : Nat} {p : Tr × Tr}, Bal k p → Gd p ∧ lenT p ≤ (k : Int)
  | 0, p, h => by
    have h : p = (.leaf, .leaf) := h
    subst h
    exact ⟨leaf_gd, by rw [gens_len.1]; omega⟩
  | k + 1, p, h => by
    rcases h with h | ⟨q, l, hq, hl, rfl⟩
    · have := Bal.gd h
      exact ⟨this.1, by have := this.2; omega⟩
    · have g := Bal.gd hq
      have := (len_stepR q g.1 l (ltr_cases hl)).1
      exact ⟨gdB g.1 l, by have := g.2; omega⟩

theorem Sph.bal : ∀ {k : Nat} {p : Tr × Tr}, Sph k p → Bal k p
  | 0, p, h => h
  | k + 1, p, h => h.1

theorem Sph.gd {k : Nat} {p : Tr × Tr} (h : Sph k p) : Gd p := h.bal.gd.1

theorem Bal.up {k : Nat} {p : Tr × Tr} (h : Bal k p) {l : Int} (hl : l ∈ ltrs) : Bal (k + 1) (timesT p (letT l)) := .inr ⟨p, l, h, hl, rfl⟩

/-- A letter and its inverse. -/
theorem there_back {q : Tr × Tr} (h : Gd q) {l : Int} (hl : l ∈ ltrs) : timesT (timesT q (letT l)) (letT (-l)) = q := by
  have h1 := times_gd q (letT l) h.e (let_e l)
  refine red_unique _ _ (times_eqc _ _ h1.e (let_e _)) h.e (times_red _ _) h.r fun s => ?_
  rw [fOf_times _ _ h1.e (let_e _), fOf_times _ _ h.e (let_e _), let_sw l (by have := ltr_cases hl; omega), fOf_sw _ (let_e l)]

theorem neg_ltr {l : Int} (hl : l ∈ ltrs) : -l ∈ ltrs := by
  rcases ltr_cases hl with rfl | rfl | rfl | rfl <;> decide

/-- A neighbour of a sphere is in it, in the one below, or beyond. -/
theorem near_bal {k : Nat} {q : Tr × Tr} (hq : Sph k q) {l : Int} (hl : l ∈ ltrs) : Bal k (timesT q (letT l)) ↔ Sph k (timesT q (letT l)) ∨ ∃ j, k = j + 1 ∧ Sph j (timesT q (letT l)) := by
  constructor
  · intro h
    cases k with
    | zero => exact .inl h
    | succ j =>
      by_cases h1 : Bal j (timesT q (letT l))
      · right
        refine ⟨j, rfl, ?_⟩
        cases j with
        | zero => exact h1
        | succ i =>
          refine ⟨h1, fun h2 => hq.2 ?_⟩
          have := h2.up (neg_ltr hl)
          rw [there_back hq.gd hl] at this
          exact this
      · exact .inl ⟨h, h1⟩
  · rintro (h | ⟨j, rfl, h⟩)
    · exact h.bal
    · exact .inl h.bal

theorem sph_succ (k : Nat) (p : Tr × Tr) : Sph (k + 1) p ↔ (∃ q l, Sph k q ∧ l ∈ ltrs ∧ p = timesT q (letT l)) ∧ ¬ Bal k p := by
  constructor
  · rintro ⟨h, h1⟩
    rcases h with h | ⟨q, l, hq, hl, rfl⟩
    · exact absurd h h1
    · refine ⟨⟨q, l, ?_, hl, rfl⟩, h1⟩
      cases k with
      | zero => exact hq
      | succ k => exact ⟨hq, fun h2 => h1 (h2.up hl)⟩
  · rintro ⟨⟨q, l, hq, hl, rfl⟩, h1⟩
    exact ⟨hq.bal.up hl, h1⟩

def pwT : Nat → Tr × Tr
  | 0 => (.leaf, .leaf)
  | k + 1 => timesT (pwT k) (letT 1)

theorem pw_len : ∀ k ≤ 4, lenT (pwT k) = (k : Int) := by decide +kernel

theorem pw_bal : ∀ k, Bal k (pwT k)
  | 0 => rfl
  | k + 1 => (pw_bal k).up (by decide)

theorem sph_ex {k : Nat} (h : k ≤ 4) : Sph k (pwT k) := by
  cases k with
  | zero => rfl
  | succ k =>
    refine ⟨pw_bal _, fun h1 => ?_⟩
    have := h1.gd.2
    rw [pw_len _ h] at this
    omega

theorem sph_c {k : Nat} {p : Tr × Tr} (h : Sph k p) : (p.1.c : Int) ≤ (k : Int) + 2 := by
  have h1 := h.bal.gd
  have := len_low p h1.1.e h1.1.r
  have := h1.2
  omega

/-- The letters behind a pair. -/
def nbs (q : Tr × Tr) : List (Tr × Tr) := ltrs.map fun l => timesT q (letT l)

theorem mem_nbs {q p : Tr × Tr} : p ∈ nbs q ↔ ∃ l, l ∈ ltrs ∧ p = timesT q (letT l) := by
  unfold nbs
  rw [List.mem_map]
  exact ⟨fun ⟨l, h, e⟩ => ⟨l, h, e.symm⟩, fun ⟨l, h, e⟩ => ⟨l, h, e.symm⟩⟩

theorem mem_nb {k : Nat} {Q : List (Tr × Tr)} (hQ : ∀ q, q ∈ Q ↔ Sph k q) (p : Tr × Tr) : p ∈ Q.flatMap nbs ↔ ∃ q l, Sph k q ∧ l ∈ ltrs ∧ p = timesT q (letT l) := by
  rw [List.mem_flatMap]
  constructor
  · rintro ⟨q, hq, hp⟩
    obtain ⟨l, hl, e⟩ := mem_nbs.1 hp
    exact ⟨q, l, (hQ q).1 hq, hl, e⟩
  · rintro ⟨q, l, hq, hl, e⟩
    exact ⟨q, (hQ q).2 hq, mem_nbs.2 ⟨l, hl, e⟩⟩

theorem nbs_len (Q : List (Tr × Tr)) : (Q.flatMap nbs).length = 4 * Q.length := by
  induction Q with
  | nil => rfl
  | cons q Q ih => rw [List.flatMap_cons, List.length_append, ih]; simp [nbs, ltrs]; omega

end Go.AI
end
