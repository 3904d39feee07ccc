/- A part of the road: what it proves stands in its last texts. -/
import Derived.Test.YtcbhdileamhklaaAiG
section
/- Plain law: rules of words; the leftmost rule is an insertion. -/
set_option autoImplicit false
set_option maxRecDepth 100000
set_option linter.unusedVariables false
namespace Go.AI

/-- What becomes of two letters. -/
def rl (a b : Int) : Option (Option (Int × Int)) :=
  if a = -b then some none
  else if a > 0 ∧ b > 0 ∧ b < a then some (some (b, a + 1))
  else if a < 0 ∧ b < 0 ∧ -a < -b then some (some (b - 1, a))
  else if a < 0 ∧ b > 0 ∧ -a < b then some (some (b + 1, a))
  else if a < 0 ∧ b > 0 ∧ b < -a then some (some (b, a - 1))
  else none

theorem rl_nil {a b : Int} : rl a b = some none ↔ a = -b := by
  unfold rl
  constructor
  · intro h
    split at h
    · assumption
    · split at h
      · cases h
      · split at h
        · cases h
        · split at h
          · cases h
          · split at h <;> cases h
  · intro h; rw [if_pos h]

theorem rl_two {a b c d : Int} (h : rl a b = some (some (c, d))) : (a > 0 ∧ b > 0 ∧ b < a ∧ c = b ∧ d = a + 1) ∨ (a < 0 ∧ b < 0 ∧ b < a ∧ c = b - 1 ∧ d = a) ∨ (a < 0 ∧ b > 0 ∧ -a < b ∧ c = b + 1 ∧ d = a) ∨ (a < 0 ∧ b > 0 ∧ b < -a ∧ c = b ∧ d = a - 1) := by
  unfold rl at h
  split at h
  · cases h
  · split at h
    · cases h; omega
    · split at h
      · cases h; omega
      · split at h
        · cases h; omega
        · split at h
          · cases h; omega
          · cases h

theorem rl_no {a b : Int} (ha : a ≠ 0) (hb : b ≠ 0) (h : rl a b = none) : (a > 0 ∧ b > 0 ∧ a ≤ b) ∨ (a > 0 ∧ b < 0 ∧ a ≠ -b) ∨ (a < 0 ∧ b < 0 ∧ a ≤ b) := by
  unfold rl at h
  split at h
  · cases h
  · split at h
    · cases h
    · split at h
      · cases h
      · split at h
        · cases h
        · split at h
          · cases h
          · omega

theorem rl_is_no {a b : Int} (h : (a > 0 ∧ b > 0 ∧ a ≤ b) ∨ (a > 0 ∧ b < 0 ∧ a ≠ -b) ∨ (a < 0 ∧ b < 0 ∧ a ≤ b)) : rl a b = none := by
  unfold rl
  rw [if_neg (by omega), if_neg (by omega), if_neg (by omega), if_neg (by omega), if_neg (by omega)]

/-- Behind a crossing two letters are in order. -/
theorem nr_after {a b c d : Int} (h : rl a b = some (some (c, d))) : rl c d = none := by
  rcases rl_two h with h | h | h | h <;> exact rl_is_no (by omega)

/-- What two crossings by one letter leave is in order. -/
theorem nr_cross {y y0 x0 x r c d : Int} (hy : y ≠ 0) (hy0 : y0 ≠ 0) (h1 : rl y y0 = none) (h2 : rl y0 x0 = some (some (x, r))) (h3 : rl y x = some (some (c, d))) : rl d r = none := by
  have h1' := rl_no hy hy0 h1
  apply rl_is_no
  rcases rl_two h2 with h2 | h2 | h2 | h2 <;> rcases rl_two h3 with h3 | h3 | h3 | h3 <;> omega

/-- Where a letter was taken away no rule but taking away is left. -/
theorem nr_cancel {z y y0 x0 x r : Int} (hz : z ≠ 0) (hy : y ≠ 0) (hy0 : y0 ≠ 0) (h0 : rl z y = none) (h1 : rl y y0 = none) (h2 : rl y0 x0 = some (some (x, r))) (h3 : y = -x) : rl z r = none ∨ (z > 0 ∧ r < 0) := by
  have h0' := rl_no hz hy h0
  have h1' := rl_no hy hy0 h1
  rcases rl_two h2 with h2 | h2 | h2 | h2
  · omega
  · by_cases k : z > 0 ∧ r < 0
    · exact .inr k
    · exact .inl (rl_is_no (by omega))
  · by_cases k : z > 0 ∧ r < 0
    · exact .inr k
    · exact .inl (rl_is_no (by omega))
  · by_cases k : z > 0 ∧ r < 0
    · exact .inr k
    · exact .inl (rl_is_no (by omega))

theorem nr_posneg {z r : Int} (h : z > 0 ∧ r < 0) : rl z r = if z = -r then some none else none := by
  by_cases e : z = -r
  · rw [if_pos e]; exact rl_nil.2 e
  · rw [if_neg e]; exact rl_is_no (by omega)

/-! ### The first rule -/

def st : List Int → Option (List Int)
  | [] => none
  | [_] => none
  | a :: b :: r => match rl a b with
    | some none => some r
    | some (some (c, d)) => some (c :: d :: r)
    | none => (st (b :: r)).map (a :: ·)

/-- No rule changes a word whose letters stand as in this order. -/
def So : List Int → Prop
  | [] => True
  | [_] => True
  | a :: b :: r => rl a b = none ∧ So (b :: r)

theorem So.tail {a : Int} {l : List Int} (h : So (a :: l)) : So l := by
  cases l with
  | nil => trivial
  | cons b r => exact h.2

theorem st_none : ∀ {w : List Int}, So w → st w = none
  | [], _ => rfl
  | [_], _ => rfl
  | a :: b :: r, h => by
    rw [st, h.1]
    simp only
    rw [st_none h.2]
    rfl

theorem So_of : ∀ {w : List Int}, st w = none → So w
  | [], _ => trivial
  | [_], _ => trivial
  | a :: b :: r, h => by
    rw [st] at h
    cases c : rl a b with
    | none =>
      rw [c] at h
      simp only [Option.map_eq_none_iff] at h
      exact ⟨c, So_of h⟩
    | some q =>
      rw [c] at h
      cases q with
      | none => simp at h
      | some q => obtain ⟨x, y⟩ := q; simp at h

theorem So_app : ∀ (l : List Int) (a b : Int) (r : List Int), So (l ++ [a]) → rl a b = none → So (b :: r) → So (l ++ a :: b :: r)
  | [], a, b, r, _, h, h2 => ⟨h, h2⟩
  | [x], a, b, r, h, h1, h2 => ⟨h.1, h1, h2⟩
  | x :: y :: l, a, b, r, h, h1, h2 => ⟨h.1, So_app (y :: l) a b r h.2 h1 h2⟩

theorem So_left : ∀ (l m : List Int), So (l ++ m) → So l
  | [], _, _ => trivial
  | [_], _, _ => trivial
  | x :: y :: l, m, h => ⟨h.1, So_left (y :: l) m h.2⟩

theorem So_right : ∀ (l m : List Int), So (l ++ m) → So m
  | [], _, h => h
  | x :: l, m, h => So_right l m h.tail

theorem So_mid : ∀ (l : List Int) (a b : Int) (m : List Int), So (l ++ a :: b :: m) → rl a b = none
  | [], a, b, m, h => h.1
  | x :: l, a, b, m, h => So_mid l a b m h.tail

/-- The first rule behind letters in order. -/
theorem st_at : ∀ (l : List Int) (a b : Int) (r : List Int), So (l ++ [a]) → st (l ++ a :: b :: r) = match rl a b with
    | some none => some (l ++ r)
    | some (some (c, d)) => some (l ++ c :: d :: r)
    | none => (st (b :: r)).map (l ++ a :: ·)
  | [], a, b, r, _ => by
    show st (a :: b :: r) = _
    rw [st]
    cases rl a b with
    | none => rfl
    | some q => cases q with
      | none => rfl
      | some q => rfl
  | [x], a, b, r, h => by
    have h1 : rl x a = none := h.1
    show st (x :: a :: b :: r) = _
    rw [st, h1]
    simp only
    have := st_at [] a b r trivial
    rw [List.nil_append] at this
    rw [this]
    cases rl a b with
    | none => simp [Function.comp_def]
    | some q => cases q with
      | none => rfl
      | some q => rfl
  | x :: y :: l, a, b, r, h => by
    have h1 : rl x y = none := h.1
    show st (x :: y :: (l ++ a :: b :: r)) = _
    rw [st, h1]
    simp only
    have := st_at (y :: l) a b r h.2
    rw [List.cons_append] at this
    rw [this]
    cases rl a b with
    | none => simp [Function.comp_def]
    | some q => cases q with
      | none => rfl
      | some q => rfl

/-! ### Steps -/

/-- So many rules, the first ones, lead from a word to another one, and all words before the last one have a property. -/
inductive Steps (P : List Int → Prop) : List Int → Nat → List Int → Prop
  | refl (w : List Int) : Steps P w 0 w
  | step {w v u : List Int} {n : Nat} : P w → st w = some v → Steps P v n u → Steps P w (n + 1) u

theorem Steps.trans {P : List Int → Prop} {w v u : List Int} {n m : Nat} (h1 : Steps P w n v) (h2 : Steps P v m u) : Steps P w (n + m) u := by
  induction h1 with
  | refl => rw [Nat.zero_add]; exact h2
  | step p s _ ih => rw [Nat.add_right_comm]; exact .step p s (ih h2)

theorem Steps.mono {P Q : List Int → Prop} (hPQ : ∀ w, P w → Q w) {w v : List Int} {n : Nat} (h : Steps P w n v) : Steps Q w n v := by
  induction h with
  | refl => exact .refl _
  | step p s _ ih => exact .step (hPQ _ p) s ih

end Go.AI
end

section
/- Plain law: the first rules sort a word by insertion. -/
set_option autoImplicit false
set_option maxRecDepth 100000
set_option linter.unusedVariables false
namespace Go.AI

/-- Taking away where two words meet. -/
def cn : List Int → List Int → List Int × Nat
  | [], R => (R, 0)
  | z :: L, [] => ((z :: L).reverse, 0)
  | z :: L, r :: R => if z = -r then ((cn L R).1, (cn L R).2 + 1) else ((z :: L).reverse ++ r :: R, 0)

/-- A letter goes to its place: ahead of it the letters (backwards), behind it those that it has passed. -/
def ins : List Int → Int → List Int → List Int × Nat
  | [], x, R => (x :: R, 0)
  | y :: L, x, R => match rl y x with
    | none => ((y :: L).reverse ++ x :: R, 0)
    | some none => ((cn L R).1, (cn L R).2 + 1)
    | some (some (c, d)) => ((ins L c (d :: R)).1, (ins L c (d :: R)).2 + 1)

def Al (p : Int → Prop) (w : List Int) : Prop := ∀ x ∈ w, p x

theorem Al.app {p : Int → Prop} {l m : List Int} (h1 : Al p l) (h2 : Al p m) : Al p (l ++ m) := fun x hx => (List.mem_append.1 hx).elim (h1 x) (h2 x)
theorem Al.rev {p : Int → Prop} {l : List Int} (h : Al p l) : Al p l.reverse := fun x hx => h x (List.mem_reverse.1 hx)
theorem Al.cons {p : Int → Prop} {x : Int} {l : List Int} (hx : p x) (h : Al p l) : Al p (x :: l) := fun y hy => (List.mem_cons.1 hy).elim (fun e => e ▸ hx) (h y)
theorem Al.head {p : Int → Prop} {x : Int} {l : List Int} (h : Al p (x :: l)) : p x := h x List.mem_cons_self
theorem Al.tail {p : Int → Prop} {x : Int} {l : List Int} (h : Al p (x :: l)) : Al p l := fun y hy => h y (List.mem_cons_of_mem _ hy)
theorem Al.nil {p : Int → Prop} : Al p [] := fun x hx => by cases hx

abbrev Nz : Int → Prop := fun x => x ≠ 0

theorem So_revcons {y : Int} {L : List Int} (h : So (y :: L).reverse) : So L.reverse := by
  rw [List.reverse_cons] at h
  exact So_left _ _ h

theorem So_rev2 {y z : Int} {L : List Int} (h : So (y :: z :: L).reverse) : rl z y = none := by
  rw [List.reverse_cons, List.reverse_cons, List.append_assoc] at h
  exact So_mid L.reverse z y [] h

theorem cn_steps (p : Int → Prop) (rest : List Int) (hp : Al p rest) : ∀ (L R : List Int), So L.reverse → So R → Al Nz L → Al Nz R → Al p L → Al p R →
    (∀ z r L' R', L = z :: L' → R = r :: R' → rl z r = none ∨ (z > 0 ∧ r < 0)) →
    Steps (Al p) (L.reverse ++ (R ++ rest)) (cn L R).2 ((cn L R).1 ++ rest) ∧ So (cn L R).1 ∧ (∀ x ∈ (cn L R).1, x ∈ L ∨ x ∈ R)
  | [], R, _, h2, _, _, _, _, _ => ⟨.refl _, h2, fun x hx => .inr hx⟩
  | z :: L, [], h1, _, _, _, _, _, _ => ⟨.refl _, h1, fun x hx => .inl (List.mem_reverse.1 hx)⟩
  | z :: L, r :: R, h1, h2, n1, n2, p1, p2, hj => by
    have hs : So (L.reverse ++ [z]) := by rw [← List.reverse_cons]; exact h1
    rw [cn]
    by_cases e : z = -r
    · rw [if_pos e]
      have e0 : rl z r = some none := rl_nil.2 e
      have hzr : z > 0 ∧ r < 0 := by
        rcases hj z r L R rfl rfl with h | h
        · rw [e0] at h; cases h
        · exact h
      obtain ⟨k1, k2, k3⟩ := cn_steps p rest hp L R (So_revcons h1) h2.tail n1.tail n2.tail p1.tail p2.tail (by
        intro z' r' L' R' eL eR
        subst eL; subst eR
        have a1 := rl_no (n1.tail.head) n1.head (So_rev2 h1)
        have a2 := rl_no n2.head n2.tail.head h2.1
        right
        omega)
      refine ⟨?_, k2, fun x hx => ?_⟩
      · have hst := st_at L.reverse z r (R ++ rest) hs
        rw [e0] at hst
        have ew : (z :: L).reverse ++ (r :: R ++ rest) = L.reverse ++ z :: r :: (R ++ rest) := by simp
        rw [ew]
        refine .step ?_ hst k1
        exact p1.tail.rev.app (.cons p1.head (.cons p2.head (p2.tail.app hp)))
      · rcases k3 x hx with h | h
        · exact .inl (List.mem_cons_of_mem _ h)
        · exact .inr (List.mem_cons_of_mem _ h)
    · rw [if_neg e]
      have e0 : rl z r = none := by
        rcases hj z r L R rfl rfl with h | h
        · exact h
        · rw [nr_posneg h, if_neg e]
      refine ⟨by rw [List.append_assoc]; exact .refl _, ?_, fun x hx => ?_⟩
      · have := So_app L.reverse z r R hs e0 h2
        rw [List.reverse_cons, List.append_assoc]
        exact this
      · rcases List.mem_append.1 hx with h | h
        · exact .inl (List.mem_reverse.1 h)
        · exact .inr h

theorem cn_le : ∀ L R : List Int, (cn L R).2 ≤ L.length
  | [], _ => Nat.zero_le _
  | _ :: _, [] => Nat.zero_le _
  | z :: L, r :: R => by
    rw [cn]
    split
    · have := cn_le L R; simp only [List.length_cons]; omega
    · exact Nat.zero_le _

theorem ins_le : ∀ (L : List Int) (x : Int) (R : List Int), (ins L x R).2 ≤ L.length
  | [], _, _ => Nat.zero_le _
  | y :: L, x, R => by
    rw [ins]
    cases rl y x with
    | none => exact Nat.zero_le _
    | some q =>
      cases q with
      | none => have := cn_le L R; simp only [List.length_cons]; omega
      | some q => obtain ⟨c, d⟩ := q; have := ins_le L c (d :: R); simp only [List.length_cons]; omega

theorem cn_len : ∀ L R : List Int, (cn L R).1.length ≤ L.length + R.length
  | [], _ => by simp [cn]
  | _ :: _, [] => by simp [cn]
  | z :: L, r :: R => by
    rw [cn]
    split
    · have := cn_len L R; simp only [List.length_cons]; omega
    · simp; omega

theorem ins_len : ∀ (L : List Int) (x : Int) (R : List Int), (ins L x R).1.length ≤ L.length + 1 + R.length
  | [], _, _ => by simp [ins]; omega
  | y :: L, x, R => by
    rw [ins]
    cases rl y x with
    | none => simp; omega
    | some q =>
      cases q with
      | none => have := cn_len L R; simp only [List.length_cons]; omega
      | some q => obtain ⟨c, d⟩ := q; have := ins_len L c (d :: R); simp only [List.length_cons] at *; omega

theorem ins_steps (p : Int → Prop) (rest : List Int) (hp : Al p rest) (I : List Int → Int → List Int → Prop)
    (hI1 : ∀ L x R, I L x R → Al p L ∧ p x ∧ Al p R) (hI2 : ∀ y L x R c d, I (y :: L) x R → rl y x = some (some (c, d)) → I L c (d :: R)) :
    ∀ (L : List Int) (x : Int) (R : List Int), I L x R → So L.reverse → So (x :: R) → Al Nz L → x ≠ 0 → Al Nz R →
    (R = [] ∨ ∃ y0 x0 r R', R = r :: R' ∧ y0 ≠ 0 ∧ rl y0 x0 = some (some (x, r)) ∧ ∀ y L', L = y :: L' → rl y y0 = none) →
    Steps (Al p) (L.reverse ++ (x :: R ++ rest)) (ins L x R).2 ((ins L x R).1 ++ rest) ∧ So (ins L x R).1 ∧ Al Nz (ins L x R).1
  | [], x, R, _, _, h2, _, nx, nR, _ => ⟨.refl _, h2, .cons nx nR⟩
  | y :: L, x, R, hI, h1, h2, nL, nx, nR, hinv => by
    obtain ⟨pL, px, pR⟩ := hI1 _ _ _ hI
    have hs : So (L.reverse ++ [y]) := by rw [← List.reverse_cons]; exact h1
    have hst := st_at L.reverse y x (R ++ rest) hs
    have ew : (y :: L).reverse ++ (x :: R ++ rest) = L.reverse ++ y :: x :: (R ++ rest) := by simp
    have pw : Al p (L.reverse ++ y :: x :: (R ++ rest)) := pL.tail.rev.app (.cons pL.head (.cons px (pR.app hp)))
    rw [ins]
    cases hr : rl y x with
    | none =>
      refine ⟨by rw [List.append_assoc]; exact .refl _, ?_, nL.rev.app (.cons nx nR)⟩
      have := So_app L.reverse y x R hs hr h2
      rw [List.reverse_cons, List.append_assoc]
      exact this
    | some q =>
      cases q with
      | none =>
        rw [hr] at hst
        have hyx := rl_nil.1 hr
        obtain ⟨k1, k2, k3⟩ := cn_steps p rest hp L R (So_revcons h1) h2.tail nL.tail nR pL.tail pR (by
          intro z r L' R' eL eR
          subst eL; subst eR
          rcases hinv with h | ⟨y0, x0, r', R'', e, n0, h0, hy⟩
          · cases h
          · cases e
            exact nr_cancel nL.tail.head nL.head n0 (So_rev2 h1) (hy y _ rfl) h0 hyx)
        refine ⟨?_, k2, fun u hu => ?_⟩
        · rw [ew]
          exact .step pw hst k1
        · rcases k3 u hu with h | h
          · exact nL.tail u h
          · exact nR u h
      | some q =>
        obtain ⟨c, d⟩ := q
        rw [hr] at hst
        have hcd := rl_two hr
        have nc : c ≠ 0 ∧ d ≠ 0 := by have := nL.head; omega
        have h2' : So (c :: d :: R) := by
          refine ⟨nr_after hr, ?_⟩
          cases R with
          | nil => trivial
          | cons r R' =>
            refine ⟨?_, h2.tail⟩
            rcases hinv with h | ⟨y0, x0, r', R'', e, n0, h0, hy⟩
            · cases h
            · cases e
              exact nr_cross nL.head n0 (hy y _ rfl) h0 hr
        obtain ⟨k1, k2, k3⟩ := ins_steps p rest hp I hI1 hI2 L c (d :: R) (hI2 _ _ _ _ _ _ hI hr) (So_revcons h1) h2' nL.tail nc.1 (.cons nc.2 nR)
          (.inr ⟨y, x, d, R, rfl, nL.head, hr, fun z L' eL => by subst eL; exact So_rev2 h1⟩)
        refine ⟨?_, k2, k3⟩
        rw [ew]
        exact .step pw hst k1

/-! ### How great letters become -/

def Lo (M : Int) : Int → Prop := fun x => -M ≤ x ∧ x ≤ M

def IM (M : Int) (L : List Int) (x : Int) (R : List Int) : Prop := Al (Lo (M - 1)) L ∧ Lo (M - L.length) x ∧ Al (Lo M) R

theorem IM1 (M : Int) (L : List Int) (x : Int) (R : List Int) (h : IM M L x R) : Al (Lo M) L ∧ Lo M x ∧ Al (Lo M) R := by
  obtain ⟨h1, h2, h3⟩ := h
  refine ⟨fun y hy => ?_, ?_, h3⟩
  · have := h1 y hy; unfold Lo at *; omega
  · unfold Lo at *; omega

theorem IM2 (M : Int) (y : Int) (L : List Int) (x : Int) (R : List Int) (c d : Int) (h : IM M (y :: L) x R) (hr : rl y x = some (some (c, d))) : IM M L c (d :: R) := by
  obtain ⟨h1, h2, h3⟩ := h
  have hy := h1.head
  rw [List.length_cons] at h2
  unfold Lo at hy h2
  push_cast at h2
  refine ⟨h1.tail, ?_, .cons ?_ h3⟩
  · unfold Lo
    rcases rl_two hr with h | h | h | h <;> omega
  · unfold Lo
    rcases rl_two hr with h | h | h | h <;> omega

theorem cn_mem : ∀ (L R : List Int) (x : Int), x ∈ (cn L R).1 → x ∈ L ∨ x ∈ R
  | [], R, x, h => .inr h
  | z :: L, [], x, h => .inl (List.mem_reverse.1 h)
  | z :: L, r :: R, x, h => by
    rw [cn] at h
    split at h
    · rcases cn_mem L R x h with h | h
      · exact .inl (List.mem_cons_of_mem _ h)
      · exact .inr (List.mem_cons_of_mem _ h)
    · rcases List.mem_append.1 h with h | h
      · exact .inl (List.mem_reverse.1 h)
      · exact .inr h

theorem ins_lo (M : Int) : ∀ (L : List Int) (x : Int) (R : List Int), IM M L x R → Al (Lo M) (ins L x R).1
  | [], x, R, h => .cons (IM1 _ _ _ _ h).2.1 h.2.2
  | y :: L, x, R, h => by
    obtain ⟨a1, a2, a3⟩ := IM1 _ _ _ _ h
    rw [ins]
    cases hr : rl y x with
    | none => exact a1.rev.app (.cons a2 a3)
    | some q =>
      cases q with
      | none => exact fun u hu => (cn_mem L R u hu).elim (a1.tail u) (a3 u)
      | some q => obtain ⟨c, d⟩ := q; exact ins_lo M L c (d :: R) (IM2 M y L x R c d h hr)

/-! ### Good in the end is good in between -/

abbrev Gd : Int → Prop := Lo 21

theorem cn_good : ∀ (L R : List Int), Al Gd L → Al Gd (cn L R).1 → Al Gd R
  | [], R, _, h => h
  | z :: L, [], _, _ => .nil
  | z :: L, r :: R, h1, h => by
    rw [cn] at h
    split at h
    · rename_i e
      refine .cons ?_ (cn_good L R h1.tail h)
      have := h1.head
      unfold Gd Lo at *
      omega
    · exact fun x hx => h x (List.mem_append_right _ hx)

theorem ins_good : ∀ (L : List Int) (x : Int) (R : List Int), Al Gd L → Al Gd (ins L x R).1 → Gd x ∧ Al Gd R
  | [], x, R, _, h => ⟨h.head, h.tail⟩
  | y :: L, x, R, h1, h => by
    rw [ins] at h
    cases hr : rl y x with
    | none =>
      rw [hr] at h
      exact ⟨h x (List.mem_append_right _ List.mem_cons_self), fun u hu => h u (List.mem_append_right _ (List.mem_cons_of_mem _ hu))⟩
    | some q =>
      rw [hr] at h
      cases q with
      | none =>
        have := rl_nil.1 hr
        have hy := h1.head
        exact ⟨by unfold Gd Lo at *; omega, cn_good L R h1.tail h⟩
      | some q =>
        obtain ⟨c, d⟩ := q
        obtain ⟨k1, k2⟩ := ins_good L c (d :: R) h1.tail h
        refine ⟨?_, k2.tail⟩
        unfold Gd Lo at *
        rcases rl_two hr with h | h | h | h <;> omega

def IG (L : List Int) (x : Int) (R : List Int) : Prop := Al Gd L ∧ Al Gd (ins L x R).1

theorem IG1 (L : List Int) (x : Int) (R : List Int) (h : IG L x R) : Al Gd L ∧ Gd x ∧ Al Gd R := ⟨h.1, ins_good L x R h.1 h.2⟩

theorem IG2 (y : Int) (L : List Int) (x : Int) (R : List Int) (c d : Int) (h : IG (y :: L) x R) (hr : rl y x = some (some (c, d))) : IG L c (d :: R) := by
  refine ⟨h.1.tail, ?_⟩
  have := h.2
  rw [ins, hr] at this
  exact this

end Go.AI
end

section
/- Plain law: words that are drawn: the sorted word is good if, and only if, all words on the way are. -/
set_option autoImplicit false
set_option maxRecDepth 100000
set_option linter.unusedVariables false
namespace Go.AI

/-- The letters are put in, one by one. -/
def srt : List Int → List Int → List Int × Nat
  | v, [] => (v, 0)
  | v, x :: r => ((srt (ins v.reverse x []).1 r).1, (ins v.reverse x []).2 + (srt (ins v.reverse x []).1 r).2)

theorem srt_app : ∀ (a b v : List Int), (srt v (a ++ b)).1 = (srt (srt v a).1 b).1 ∧ (srt v (a ++ b)).2 = (srt v a).2 + (srt (srt v a).1 b).2
  | [], b, v => ⟨rfl, by simp [srt]⟩
  | x :: a, b, v => by
    obtain ⟨h1, h2⟩ := srt_app a b (ins v.reverse x []).1
    simp only [List.cons_append, srt]
    exact ⟨h1, by omega⟩

theorem Al.mono {p q : Int → Prop} (h : ∀ x, p x → q x) {l : List Int} (hl : Al p l) : Al q l := fun x hx => h x (hl x hx)

theorem Al.app_l {p : Int → Prop} {l m : List Int} (h : Al p (l ++ m)) : Al p l := fun x hx => h x (List.mem_append_left _ hx)
theorem Al.app_r {p : Int → Prop} {l m : List Int} (h : Al p (l ++ m)) : Al p m := fun x hx => h x (List.mem_append_right _ hx)

/-- One letter is put in: general. -/
theorem put_steps (p : Int → Prop) (I : List Int → Int → List Int → Prop) (hI1 : ∀ L x R, I L x R → Al p L ∧ p x ∧ Al p R) (hI2 : ∀ y L x R c d, I (y :: L) x R → rl y x = some (some (c, d)) → I L c (d :: R))
    (v : List Int) (x : Int) (rest : List Int) (hI : I v.reverse x []) (hv : So v) (nv : Al Nz v) (nx : x ≠ 0) (hp : Al p rest) :
    Steps (Al p) (v ++ x :: rest) (ins v.reverse x []).2 ((ins v.reverse x []).1 ++ rest) ∧ So (ins v.reverse x []).1 ∧ Al Nz (ins v.reverse x []).1 := by
  have := ins_steps p rest hp I hI1 hI2 v.reverse x [] hI (by rw [List.reverse_reverse]; exact hv) trivial nv.rev nx .nil (.inl rfl)
  rw [List.reverse_reverse] at this
  exact this

theorem put_so (v : List Int) (x : Int) (hv : So v) (nv : Al Nz v) (nx : x ≠ 0) : So (ins v.reverse x []).1 ∧ Al Nz (ins v.reverse x []).1 := by
  have := put_steps (fun _ => True) (fun _ _ _ => True) (fun _ _ _ _ => ⟨fun _ _ => trivial, trivial, fun _ _ => trivial⟩) (fun _ _ _ _ _ _ _ _ => trivial) v x [] trivial hv nv nx .nil
  exact this.2

theorem put_len (v : List Int) (x : Int) : (ins v.reverse x []).1.length ≤ v.length + 1 ∧ (ins v.reverse x []).2 ≤ v.length := by
  have h1 := ins_len v.reverse x []
  have h2 := ins_le v.reverse x []
  rw [List.length_reverse] at h1 h2
  simp at h1
  exact ⟨h1, h2⟩

theorem srt_so : ∀ (r v : List Int), So v → Al Nz v → Al Nz r → So (srt v r).1 ∧ Al Nz (srt v r).1
  | [], v, h, n, _ => ⟨h, n⟩
  | x :: r, v, h, n, nr => by
    obtain ⟨h1, h2⟩ := put_so v x h n nr.head
    exact srt_so r _ h1 h2 nr.tail

theorem srt_len : ∀ (r v : List Int), (srt v r).1.length ≤ v.length + r.length ∧ (srt v r).2 ≤ (v.length + r.length) * r.length
  | [], v => ⟨Nat.le_refl _, Nat.zero_le _⟩
  | x :: r, v => by
    obtain ⟨a1, a2⟩ := put_len v x
    obtain ⟨b1, b2⟩ := srt_len r (ins v.reverse x []).1
    simp only [srt, List.length_cons]
    refine ⟨by omega, ?_⟩
    have : ((ins v.reverse x []).1.length + r.length) * r.length ≤ (v.length + (r.length + 1)) * r.length := Nat.mul_le_mul_right _ (by omega)
    rw [Nat.mul_succ]
    omega

/-- All words on the way have letters that are not too great for the machine. -/
theorem srt_steps : ∀ (r v : List Int) (B : Int), So v → Al Nz v → Al Nz r → Al (Lo B) v → Al (Lo 22) r → 22 ≤ B → B + 25 * r.length ≤ 1000 → v.length + r.length ≤ 21 →
    Steps (Al (Lo 1000)) (v ++ r) (srt v r).2 (srt v r).1 ∧ Al (Lo 1000) (srt v r).1
  | [], v, B, _, _, _, h1, _, hB, hb, _ => by
    rw [List.append_nil]
    refine ⟨.refl _, h1.mono fun x hx => ?_⟩
    unfold Lo at *
    simp at hb
    omega
  | x :: r, v, B, hv, nv, nr, h1, h2, hB, hb, hl => by
    simp only [List.length_cons] at hb hl
    push_cast at hb
    have hx := h2.head
    have hlr : ((v.reverse.length : Nat) : Int) = (v.length : Int) := by rw [List.length_reverse]
    have hI : IM (B + 25) v.reverse x [] := by
      refine ⟨h1.rev.mono fun y hy => ?_, ?_, .nil⟩
      · unfold Lo at *; omega
      · rw [hlr]; unfold Lo at *; omega
    have hI' : IM 1000 v.reverse x [] := by
      refine ⟨h1.rev.mono fun y hy => ?_, ?_, .nil⟩
      · unfold Lo at *; omega
      · rw [hlr]; unfold Lo at *; omega
    obtain ⟨k1, k2, k3⟩ := put_steps (Lo 1000) (IM 1000) (IM1 1000) (IM2 1000) v x r hI' hv nv nr.head (h2.tail.mono fun y hy => by unfold Lo at *; omega)
    have hb2 := ins_lo (B + 25) v.reverse x [] hI
    have hln := (put_len v x).1
    obtain ⟨m1, m2⟩ := srt_steps r (ins v.reverse x []).1 (B + 25) k2 k3 nr.tail hb2 h2.tail (by omega) (by omega) (by omega)
    exact ⟨k1.trans m1, m2⟩

/-- All words behind the letters put in are good. -/
def Stg : List Int → List Int → Prop
  | _, [] => True
  | v, x :: r => Al Gd (ins v.reverse x []).1 ∧ Stg (ins v.reverse x []).1 r

theorem Stg.app : ∀ (a b v : List Int), Stg v a → Stg (srt v a).1 b → Stg v (a ++ b)
  | [], _, _, _, h => h
  | x :: a, b, v, h, h2 => ⟨h.1, Stg.app a b _ h.2 h2⟩

theorem stg_steps : ∀ (r v : List Int), So v → Al Nz v → Al Nz r → Al Gd v → Al Gd r → Stg v r → Steps (Al Gd) (v ++ r) (srt v r).2 (srt v r).1
  | [], v, _, _, _, _, _, _ => by rw [List.append_nil]; exact .refl _
  | x :: r, v, hv, nv, nr, h1, h2, hs => by
    obtain ⟨k1, k2, k3⟩ := put_steps Gd IG IG1 IG2 v x r ⟨h1.rev, hs.1⟩ hv nv nr.head h2.tail
    exact k1.trans (stg_steps r _ k2 k3 nr.tail hs.1 h2.tail hs.2)

/-! ### Short words of small letters -/

theorem stg_small : ∀ (r v : List Int) (k : Nat), Al (Lo (5 + k)) v → v.length ≤ k → Al (Lo 6) r → k + r.length ≤ 12 → Stg v r ∧ Al (Lo 17) (srt v r).1
  | [], v, k, h1, _, _, hk => ⟨trivial, h1.mono fun x hx => by unfold Lo at *; simp at hk; omega⟩
  | x :: r, v, k, h1, hl, h2, hk => by
    simp only [List.length_cons] at hk
    have hx := h2.head
    have hI : IM (6 + k) v.reverse x [] := by
      refine ⟨h1.rev.mono fun y hy => ?_, ?_, .nil⟩
      · unfold Lo at *; omega
      · rw [List.length_reverse]; unfold Lo at *; omega
    have hb := ins_lo (6 + k) v.reverse x [] hI
    have hln := (put_len v x).1
    obtain ⟨m1, m2⟩ := stg_small r (ins v.reverse x []).1 (k + 1) (hb.mono fun y hy => by unfold Lo at *; push_cast; omega) (by omega) h2.tail (by omega)
    exact ⟨⟨hb.mono fun y hy => by unfold Gd Lo at *; omega, m1⟩, m2⟩

/-! ### Ones -/

theorem ins_one : ∀ (L R : List Int), So L.reverse → Al Nz L → (R = [] ∨ ∃ y0 x0 r R', R = r :: R' ∧ y0 ≠ 0 ∧ rl y0 x0 = some (some (1, r)) ∧ ∀ y L', L = y :: L' → rl y y0 = none) →
    Al Gd (ins L 1 R).1 → Al Gd L
  | [], _, _, _, _, _ => .nil
  | y :: L, R, hs, nL, hinv, h => by
    rw [ins] at h
    cases hr : rl y 1 with
    | none =>
      rw [hr] at h
      exact fun u hu => h u (List.mem_append_left _ (List.mem_reverse.2 hu))
    | some q =>
      rw [hr] at h
      cases q with
      | none =>
        have hy := rl_nil.1 hr
        rcases hinv with hR | ⟨y0, x0, r, R', e, n0, h0, hh⟩
        · subst hR
          refine .cons (by unfold Gd Lo; omega) ?_
          cases L with
          | nil => exact .nil
          | cons z L => exact fun u hu => h u (List.mem_reverse.2 hu)
        · exfalso
          have := rl_no nL.head n0 (hh y L rfl)
          rcases rl_two h0 with h0 | h0 | h0 | h0 <;> omega
      | some q =>
        obtain ⟨c, d⟩ := q
        have h2 := rl_two hr
        have hc : c = 1 := by omega
        subst hc
        have hL := ins_one L (d :: R) (So_revcons hs) nL.tail (.inr ⟨y, 1, d, R, rfl, nL.head, hr, fun z L' eL => by subst eL; exact So_rev2 hs⟩) h
        have hd := (ins_good L 1 (d :: R) hL h).2.head
        refine .cons ?_ hL
        unfold Gd Lo at *
        omega

theorem stg_ones : ∀ (j : Nat) (v : List Int), So v → Al Nz v → Al Gd (srt v (List.replicate j 1)).1 → Al Gd v ∧ Stg v (List.replicate j 1)
  | 0, v, _, _, h => ⟨h, trivial⟩
  | j + 1, v, hv, nv, h => by
    rw [List.replicate_succ] at h ⊢
    obtain ⟨h1, h2⟩ := put_so v 1 hv nv (by omega)
    obtain ⟨k1, k2⟩ := stg_ones j (ins v.reverse 1 []).1 h1 h2 h
    refine ⟨?_, k1, k2⟩
    have := ins_one v.reverse [] (by rw [List.reverse_reverse]; exact hv) nv.rev (.inl rfl) k1
    exact fun u hu => this u (List.mem_reverse.2 hu)

/-! ### Great letters -/

def Ng (N : Int) : Int → Prop := fun x => -N ≤ x

theorem ins_ng (N : Int) : ∀ (L : List Int) (x : Int) (R : List Int), Al (Ng (N - 1)) L → 0 < x → 0 ≤ N → Al (Ng N) R → Al (Ng N) (ins L x R).1
  | [], x, R, _, hx, hN, h2 => .cons (by unfold Ng; omega) h2
  | y :: L, x, R, h1, hx, hN, h2 => by
    have w : ∀ u, Ng (N - 1) u → Ng N u := fun u hu => by unfold Ng at *; omega
    rw [ins]
    cases hr : rl y x with
    | none => exact (h1.mono w).rev.app (.cons (by unfold Ng; omega) h2)
    | some q =>
      cases q with
      | none => exact fun u hu => (cn_mem L R u hu).elim (h1.tail.mono w u) (h2 u)
      | some q =>
        obtain ⟨c, d⟩ := q
        have hy := h1.head
        have h3 := rl_two hr
        refine ins_ng N L c (d :: R) h1.tail (by omega) hN (.cons ?_ h2)
        unfold Ng at *
        omega

def Big (l : List Int) : Prop := ∃ x ∈ l, 22 ≤ x

theorem cn_big : ∀ (L R : List Int), Al (Ng 20) L → Al (Ng 21) R → (Big L ∨ Big R) → Big (cn L R).1
  | [], R, _, _, h => by
    rcases h with ⟨x, hx, _⟩ | h
    · cases hx
    · exact h
  | z :: L, [], _, _, h => by
    rcases h with ⟨x, hx, k⟩ | ⟨x, hx, _⟩
    · exact ⟨x, List.mem_reverse.2 hx, k⟩
    · cases hx
  | z :: L, r :: R, h1, h2, h => by
    rw [cn]
    have a := h1.head
    have b := h2.head
    unfold Ng at a b
    split
    · rename_i e
      refine cn_big L R h1.tail h2.tail ?_
      rcases h with ⟨x, hx, k⟩ | ⟨x, hx, k⟩
      · rcases List.mem_cons.1 hx with e2 | hx
        · omega
        · exact .inl ⟨x, hx, k⟩
      · rcases List.mem_cons.1 hx with e2 | hx
        · omega
        · exact .inr ⟨x, hx, k⟩
    · rcases h with ⟨x, hx, k⟩ | ⟨x, hx, k⟩
      · exact ⟨x, List.mem_append_left _ (List.mem_reverse.2 hx), k⟩
      · exact ⟨x, List.mem_append_right _ hx, k⟩

theorem ins_big : ∀ (L : List Int) (x : Int) (R : List Int), Al (Ng 20) L → 0 < x → Al (Ng 21) R → (Big L ∨ 22 ≤ x ∨ Big R) → Big (ins L x R).1
  | [], x, R, _, _, _, h => by
    rcases h with ⟨u, hu, _⟩ | h | ⟨u, hu, k⟩
    · cases hu
    · exact ⟨x, List.mem_cons_self, h⟩
    · exact ⟨u, List.mem_cons_of_mem _ hu, k⟩
  | y :: L, x, R, h1, hx, h2, h => by
    have a := h1.head
    unfold Ng at a
    rw [ins]
    cases hr : rl y x with
    | none =>
      rcases h with ⟨u, hu, k⟩ | h | ⟨u, hu, k⟩
      · exact ⟨u, List.mem_append_left _ (List.mem_reverse.2 hu), k⟩
      · exact ⟨x, List.mem_append_right _ List.mem_cons_self, h⟩
      · exact ⟨u, List.mem_append_right _ (List.mem_cons_of_mem _ hu), k⟩
    | some q =>
      cases q with
      | none =>
        have e := rl_nil.1 hr
        refine cn_big L R h1.tail h2 ?_
        rcases h with ⟨u, hu, k⟩ | h | h
        · rcases List.mem_cons.1 hu with e2 | hu
          · omega
          · exact .inl ⟨u, hu, k⟩
        · omega
        · exact .inr h
      | some q =>
        obtain ⟨c, d⟩ := q
        have h3 := rl_two hr
        refine ins_big L c (d :: R) h1.tail (by omega) (.cons (by unfold Ng; omega) h2) ?_
        rcases h with ⟨u, hu, k⟩ | h | ⟨u, hu, k⟩
        · rcases List.mem_cons.1 hu with e2 | hu
          · right; right
            exact ⟨d, List.mem_cons_self, by omega⟩
          · exact .inl ⟨u, hu, k⟩
        · right; left; omega
        · right; right
          exact ⟨u, List.mem_cons_of_mem _ hu, k⟩

theorem big_of {v : List Int} (h : Al (Ng 21) v) (hg : ¬ Al Gd v) : Big v := by
  apply Classical.byContradiction
  intro hb
  apply hg
  intro x hx
  have := h x hx
  unfold Gd Lo
  unfold Ng at this
  refine ⟨this, ?_⟩
  apply Classical.byContradiction
  intro hlt
  exact hb ⟨x, hx, by omega⟩

theorem big_not {v : List Int} (h : Big v) : ¬ Al Gd v := fun hg => by
  obtain ⟨x, hx, k⟩ := h
  have := hg x hx
  unfold Gd Lo at this
  omega

theorem stg_three (v : List Int) (h17 : Al (Lo 17) v) (h : Al Gd (srt v [20, 5, 20]).1) : Stg v [20, 5, 20] := by
  have n0 : Al (Ng 17) v := h17.mono fun x hx => by unfold Ng Lo at *; omega
  have n1 := ins_ng 18 v.reverse 20 [] (n0.rev.mono fun x hx => by unfold Ng at *; omega) (by omega) (by omega) .nil
  have n2 := ins_ng 19 (ins v.reverse 20 []).1.reverse 5 [] (n1.rev.mono fun x hx => by unfold Ng at *; omega) (by omega) (by omega) .nil
  have e3 : Al Gd (ins (ins (ins v.reverse 20 []).1.reverse 5 []).1.reverse 20 []).1 := h
  have g2 : Al Gd (ins (ins v.reverse 20 []).1.reverse 5 []).1 := by
    apply Classical.byContradiction
    intro hn
    obtain ⟨u, hu, k⟩ := big_of (n2.mono fun x hx => by unfold Ng at *; omega) hn
    exact big_not (ins_big _ 20 [] (n2.rev.mono fun x hx => by unfold Ng at *; omega) (by omega) .nil (.inl ⟨u, List.mem_reverse.2 hu, k⟩)) e3
  have g1 : Al Gd (ins v.reverse 20 []).1 := by
    apply Classical.byContradiction
    intro hn
    obtain ⟨u, hu, k⟩ := big_of (n1.mono fun x hx => by unfold Ng at *; omega) hn
    exact big_not (ins_big _ 5 [] (n1.rev.mono fun x hx => by unfold Ng at *; omega) (by omega) .nil (.inl ⟨u, List.mem_reverse.2 hu, k⟩)) g2
  exact ⟨g1, g2, e3, trivial⟩

/-! ### Words that are drawn -/

/-- The words that are drawn and are words. -/
def Drawn (w : List Int) : Prop := ∃ u t : List Int, w = u ++ t ∧ u.length ≤ 12 ∧ Al (Lo 6) u ∧ Al Nz u ∧ (t = [] ∨ t.length = 1 ∨ (∃ j, t = List.replicate j 1) ∨ t = [20, 5, 20])

/-- If the sorted word is good, all words on the way to it are. -/
theorem drawn_steps (w : List Int) (hd : Drawn w) (hn : Al Nz w) (hg : Al Gd w) (h : Al Gd (srt [] w).1) : Steps (Al Gd) w (srt [] w).2 (srt [] w).1 := by
  obtain ⟨u, t, rfl, hl, h6, nu, ht⟩ := hd
  obtain ⟨s1, s2⟩ := stg_small u [] 0 .nil (by simp) h6 (by simpa using hl)
  have nt := hn.app_r
  obtain ⟨k1, k2⟩ := srt_so u [] trivial .nil nu
  have e := (srt_app u t []).1
  rw [e] at h
  have hs : Stg [] (u ++ t) := by
    refine Stg.app u t [] s1 ?_
    rcases ht with e | e | ⟨j, e⟩ | e
    · subst e; trivial
    · obtain ⟨x, rfl⟩ := List.length_eq_one_iff.1 e
      exact ⟨h, trivial⟩
    · subst e; exact (stg_ones j _ k1 k2 h).2
    · subst e; exact stg_three _ s2 h
  have := stg_steps (u ++ t) [] trivial .nil hn .nil hg hs
  exact this

end Go.AI
end
