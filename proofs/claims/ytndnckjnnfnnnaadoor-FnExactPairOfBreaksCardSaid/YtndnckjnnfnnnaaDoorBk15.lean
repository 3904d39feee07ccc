/- Plain law: the program's cut and the reference's cut are one. -/
import Derived.Test.YtndnckjnnfnnnaaDoorJH
set_option autoImplicit false
set_option maxRecDepth 100000
set_option linter.unusedVariables false
namespace Go.AI

abbrev LL := List (List UInt8)

/-- The program's cut: it hands two lists on. -/
def cutI (acc : List UInt8 → Option (List UInt8)) : Nat → List UInt8 → LL × LL → (LL × LL) × Bool
  | 0, _, st => (st, false)
  | f + 1, a, st => if st.1.length > 8 then (st, false) else
    match acc a with
    | some b => ((st.1 ++ [a], st.2 ++ [b]), true)
    | none => if (cutI acc f (a ++ [48]) st).2 = true then cutI acc f (a ++ [49]) (cutI acc f (a ++ [48]) st).1 else cutI acc f (a ++ [48]) st

theorem cutR_pos (acc : List UInt8 → Option (List UInt8)) : ∀ (f : Nat) (a : List UInt8) (x y : LL), cutR acc f a = some (x, y) → 1 ≤ x.length
  | 0, a, x, y, h => by simp [cutR] at h
  | f + 1, a, x, y, h => by
    unfold cutR at h
    split at h
    · simp only [Option.some.injEq, Prod.mk.injEq] at h
      rw [← h.1]
      simp
    · split at h
      · cases h
      · rename_i x1 y1 h1
        split at h
        · cases h
        · split at h
          · cases h
          · simp only [Option.some.injEq, Prod.mk.injEq] at h
            have i1 := cutR_pos acc f _ _ _ h1
            rw [← h.1, List.length_append]
            omega

theorem cut_eq (acc : List UInt8 → Option (List UInt8)) : ∀ (f : Nat) (a : List UInt8) (st : LL × LL),
    (∀ x y, cutR acc f a = some (x, y) → st.1.length + x.length ≤ 9 → cutI acc f a st = ((st.1 ++ x, st.2 ++ y), true)) ∧
    (∀ x y, cutR acc f a = some (x, y) → ¬ (st.1.length + x.length ≤ 9) → (cutI acc f a st).2 = false) ∧
    (cutR acc f a = none → (cutI acc f a st).2 = false)
  | 0, a, st => ⟨fun x y h => by simp [cutR] at h, fun x y h => by simp [cutR] at h, fun _ => rfl⟩
  | f + 1, a, st => by
    by_cases hst : st.1.length > 8
    · have e : cutI acc (f + 1) a st = (st, false) := by unfold cutI; rw [if_pos hst]
      rw [e]
      exact ⟨fun x y h hl => by have := cutR_pos acc _ _ _ _ h; omega, fun _ _ _ _ => rfl, fun _ => rfl⟩
    · cases ha : acc a with
      | some b =>
        have e : cutI acc (f + 1) a st = ((st.1 ++ [a], st.2 ++ [b]), true) := by unfold cutI; rw [if_neg hst, ha]
        have er := cutR_some acc f a ha
        rw [e, er]
        refine ⟨fun x y h _ => ?_, fun x y h hl => ?_, fun h => by cases h⟩
        · simp only [Option.some.injEq, Prod.mk.injEq] at h
          rw [← h.1, ← h.2]
        · simp only [Option.some.injEq, Prod.mk.injEq] at h
          rw [← h.1, List.length_singleton] at hl
          omega
      | none =>
        have e : cutI acc (f + 1) a st = if (cutI acc f (a ++ [48]) st).2 = true then cutI acc f (a ++ [49]) (cutI acc f (a ++ [48]) st).1 else cutI acc f (a ++ [48]) st := by
          conv => lhs; unfold cutI
          rw [if_neg hst, ha]
        obtain ⟨p1, p2, p3⟩ := cut_eq acc f (a ++ [48]) st
        cases r1 : cutR acc f (a ++ [48]) with
        | none =>
          have hR : cutR acc (f + 1) a = none := by simp only [cutR, ha, r1]
          rw [e, if_neg (by rw [p3 r1]; decide), hR]
          exact ⟨(fun _ _ h => by cases h), (fun _ _ h => by cases h), fun _ => p3 r1⟩
        | some xy =>
          obtain ⟨x, y⟩ := xy
          have x1 := cutR_pos _ _ _ _ _ r1
          by_cases h1 : st.1.length + x.length ≤ 9
          · rw [e, if_pos (by rw [p1 x y r1 h1]), p1 x y r1 h1]
            obtain ⟨q1, q2, q3⟩ := cut_eq acc f (a ++ [49]) (st.1 ++ x, st.2 ++ y)
            cases r2 : cutR acc f (a ++ [49]) with
            | none =>
              have hR : cutR acc (f + 1) a = none := by simp only [cutR, ha, r1, r2]
              rw [hR]
              exact ⟨(fun _ _ h => by cases h), (fun _ _ h => by cases h), fun _ => q3 r2⟩
            | some zw =>
              obtain ⟨z, w⟩ := zw
              by_cases h2 : x.length + z.length > 9
              · have hR : cutR acc (f + 1) a = none := by simp only [cutR, ha, r1, r2, if_pos h2]
                rw [hR]
                exact ⟨(fun _ _ h => by cases h), (fun _ _ h => by cases h), fun _ => q2 z w r2 (by show ¬ ((st.1 ++ x).length + z.length ≤ 9); rw [List.length_append]; omega)⟩
              · have hR : cutR acc (f + 1) a = some (x ++ z, y ++ w) := by simp only [cutR, ha, r1, r2, if_neg h2]
                rw [hR]
                refine ⟨fun u v h hl => ?_, fun u v h hl => ?_, fun h => by cases h⟩
                · simp only [Option.some.injEq, Prod.mk.injEq] at h
                  rw [← h.1, List.length_append] at hl
                  rw [q1 z w r2 (by show (st.1 ++ x).length + z.length ≤ 9; rw [List.length_append]; omega), ← h.1, ← h.2]
                  simp only [List.append_assoc]
                · simp only [Option.some.injEq, Prod.mk.injEq] at h
                  rw [← h.1, List.length_append] at hl
                  exact q2 z w r2 (by show ¬ ((st.1 ++ x).length + z.length ≤ 9); rw [List.length_append]; omega)
          · rw [e, if_neg (by rw [p2 x y r1 h1]; decide)]
            refine ⟨fun u v h hl => ?_, fun _ _ _ _ => p2 x y r1 h1, fun _ => p2 x y r1 h1⟩
            exfalso
            simp only [cutR, ha, r1] at h
            split at h
            · cases h
            · split at h
              · cases h
              · simp only [Option.some.injEq, Prod.mk.injEq] at h
                rw [← h.1, List.length_append] at hl
                omega

end Go.AI
