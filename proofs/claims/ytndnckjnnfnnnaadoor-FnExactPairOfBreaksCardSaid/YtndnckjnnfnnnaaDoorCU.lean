/- Loops that count up, once for all. -/
import Derived.Test.YtndnckjnnfnnnaaDoorGZ
import Derived.Test.YtndnckjnnfnnnaaDoorAiG
set_option autoImplicit false
set_option linter.unusedVariables false
namespace Go.AI

/-- What m rounds from number i on make of a. -/
def itr {α : Type} (f : Nat → α → α) : Nat → Nat → α → α
  | _, 0, a => a
  | i, m + 1, a => itr f (i + 1) m (f i a)

theorem loop_up {α : Type} {P : Program} {np : Nat} {c : Code} (s : Nat → α → St) (X : α → St) (f : Nat → α → α) (I : Nat → α → Prop) (n : Nat)
    (hstep : ∀ i a, i < n → I i a → I (i + 1) (f i a) ∧ ∀ e st, LoopSC P np c (s (i + 1) (f i a)) e st → LoopSC P np c (s i a) e st)
    (hexit : ∀ a, I n a → LoopSC P np c (s n a) (.exit 0) (X a)) :
    ∀ (m i : Nat) (a : α), i + m = n → I i a → LoopSC P np c (s i a) (.exit 0) (X (itr f i m a)) ∧ I n (itr f i m a)
  | 0, i, a, h, hI => by
    have e : i = n := by omega
    subst e
    exact ⟨hexit a hI, hI⟩
  | m + 1, i, a, h, hI => by
    obtain ⟨h1, h2⟩ := hstep i a (by omega) hI
    obtain ⟨h3, h4⟩ := loop_up s X f I n hstep hexit m (i + 1) (f i a) (by omega) h1
    exact ⟨h2 _ _ h3, h4⟩

/-- A loop that adds one element a round. -/
theorem itr_map {β : Type} (g : Nat → β) : ∀ (m i : Nat) (cur : List β), itr (fun i cur => cur ++ [g i]) i m cur = cur ++ (List.range' i m).map g
  | 0, i, cur => by simp [itr]
  | m + 1, i, cur => by
    rw [itr, itr_map g m (i + 1), List.range'_succ, List.map_cons, List.append_assoc, List.singleton_append]

theorem itr_filter {β : Type} (p : Nat → Bool) (g : Nat → β) : ∀ (m i : Nat) (cur : List β), itr (fun i cur => if p i = true then cur ++ [g i] else cur) i m cur = cur ++ ((List.range' i m).filter p).map g
  | 0, i, cur => by simp [itr]
  | m + 1, i, cur => by
    rw [itr, itr_filter p g m (i + 1), List.range'_succ, List.filter_cons]
    by_cases h : p i = true
    · rw [if_pos h, if_pos h, List.map_cons, List.append_assoc, List.singleton_append]
    · rw [if_neg h, if_neg h]

theorem map_range' {α β : Type} (l : List α) (d : α) (g : α → β) : (List.range' 0 l.length).map (fun i => g (l.getD i d)) = l.map g := by
  apply List.ext_getElem?
  intro i
  rw [List.getElem?_map, List.getElem?_map]
  by_cases h : i < l.length
  · rw [List.getElem?_range' (by simpa using h), List.getElem?_eq_getElem h]
    simp [List.getD_eq_getElem?_getD, List.getElem?_eq_getElem h]
  · rw [List.getElem?_eq_none (by simp; omega), List.getElem?_eq_none (by omega)]
    rfl

/-- One more in i64. -/
theorem wrap_succ {i : Nat} (h : i < 2 ^ 62) : IntKind.wrap .i64 ((i : Int) + 1) = ((i + 1 : Nat) : Int) := by rw [w64] <;> omega

theorem sizeOK_one {α : Type} {l : List α} {x : α} (h : l.length ≤ 2 ^ 30) : sizeOK (List.length l + List.length [x]) := by
  unfold sizeOK lim; simp; omega

end Go.AI
