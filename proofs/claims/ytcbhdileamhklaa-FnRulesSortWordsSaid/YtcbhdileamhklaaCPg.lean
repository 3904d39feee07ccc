/- Rows and loops, once for all. -/
import Derived.Test.YtcbhdileamhklaaGZ
import Derived.Test.YtcbhdileamhklaaCU
import Derived.Test.YtcbhdileamhklaaCT
import Derived.Test.YtcbhdileamhklaaCR
import Derived.Test.YtcbhdileamhklaaCV
set_option autoImplicit false
set_option maxRecDepth 100000
set_option linter.unusedVariables false
namespace Go.AI
open Go.Proofs

theorem loop_ret {α : Type} {P : Program} {np : Nat} {c : Code} (s : Nat → α → St) (X : α → St) (R : St) (f : Nat → α → α) (I : Nat → α → Prop) (p : Nat → Bool) (n : Nat)
    (hstep : ∀ i a, i < n → I i a → p i = true → I (i + 1) (f i a) ∧ ∀ e st, LoopSC P np c (s (i + 1) (f i a)) e st → LoopSC P np c (s i a) e st)
    (hret : ∀ i a, i < n → I i a → p i = false → LoopSC P np c (s i a) .ret R)
    (hexit : ∀ a, I n a → LoopSC P np c (s n a) (.exit 0) (X a)) :
    ∀ (m i : Nat) (a : α), i + m = n → I i a →
      ((List.range' i m).all p = true → LoopSC P np c (s i a) (.exit 0) (X (itr f i m a))) ∧ ((List.range' i m).all p = false → LoopSC P np c (s i a) .ret R)
  | 0, i, a, h, hI => by
    have e : i = n := by omega
    subst e
    exact ⟨fun _ => hexit a hI, fun h => by simp at h⟩
  | m + 1, i, a, h, hI => by
    rw [List.range'_succ, List.all_cons]
    cases hp : p i with
    | true =>
      obtain ⟨h1, h2⟩ := hstep i a (by omega) hI hp
      obtain ⟨h3, h4⟩ := loop_ret s X R f I p n hstep hret hexit m (i + 1) (f i a) (by omega) h1
      rw [Bool.true_and]
      exact ⟨fun h => h2 _ _ (h3 h), fun h => h2 _ _ (h4 h)⟩
    | false =>
      rw [Bool.false_and]
      exact ⟨fun h => (by cases h), fun _ => hret i a (by omega) hI hp⟩

theorem all_range' {α : Type} (l : List α) (d : α) (q : α → Bool) : (List.range' 0 l.length).all (fun i => q (l.getD i d)) = l.all q := by
  have h := map_range' l d q
  have e1 : (List.range' 0 l.length).all (fun i => q (l.getD i d)) = ((List.range' 0 l.length).map (fun i => q (l.getD i d))).all id := by rw [List.all_map]; rfl
  rw [e1, h, List.all_map]
  rfl

theorem itr_sum (g : Nat → Nat) : ∀ (m i a : Nat), itr (fun i a => a + g i) i m a = a + ((List.range' i m).map g).sum
  | 0, i, a => by simp [itr]
  | m + 1, i, a => by
    rw [itr, itr_sum g m (i + 1), List.range'_succ, List.map_cons, List.sum_cons, Nat.add_assoc]

theorem gD_map {α β : Type} (f : α → β) (l : List α) (i : Nat) (h : i < l.length) (a : α) (d : β) : List.getD (l.map f) i d = f (l.getD i a) := by
  simp [List.getD_eq_getElem?_getD, List.getElem?_map, List.getElem?_eq_getElem h]

theorem gD_mem {α : Type} {l : List α} {i : Nat} (h : i < l.length) (d : α) : l.getD i d ∈ l := by
  rw [List.getD_eq_getElem?_getD, List.getElem?_eq_getElem h]; exact List.getElem_mem h

theorem sum_le {α : Type} (g : α → Nat) (b : Nat) : ∀ l : List α, (∀ x ∈ l, g x ≤ b) → (l.map g).sum ≤ l.length * b
  | [], _ => by simp
  | x :: l, h => by
    have := sum_le g b l (fun y hy => h y (List.mem_cons_of_mem _ hy))
    have := h x (List.mem_cons_self ..)
    simp only [List.map_cons, List.sum_cons, List.length_cons, Nat.add_mul, Nat.one_mul]
    omega

/-- Texts as they come in. -/
abbrev txs (l : List (List UInt8)) : List ByteArray := l.map bs

theorem txs_ex : ∀ l : List ByteArray, ∃ fs, l = txs fs
  | [] => ⟨[], rfl⟩
  | x :: l => by
    obtain ⟨a, rfl⟩ := bs_ex x
    obtain ⟨fs, rfl⟩ := txs_ex l
    exact ⟨a :: fs, rfl⟩

theorem txs_get (l : List (List UInt8)) (i : Nat) (h : i < l.length) (d : ByteArray) : List.getD (txs l) i d = bs (l.getD i []) := gD_map bs l i h [] d

theorem itr_setR {β : Type} (g : Nat → β) : ∀ (m i : Nat) (l : List β), i + m = l.length → itr (fun i l => l.set i (g i)) i m l = l.take i ++ (List.range' i m).map g
  | 0, i, l, h => by
    have e : i = l.length := by omega
    subst e
    simp [itr]
  | m + 1, i, l, h => by
    rw [itr, itr_setR g m (i + 1) (l.set i (g i)) (by simp; omega), List.range'_succ, List.map_cons]
    have e : (l.set i (g i)).take (i + 1) = l.take i ++ [g i] := by
      apply List.ext_getElem?
      intro j
      rw [List.getElem?_take, List.getElem?_set]
      by_cases h1 : j < i
      · rw [if_pos (by omega), if_neg (by omega), List.getElem?_append_left (by simp; omega), List.getElem?_take, if_pos h1]
      · by_cases h2 : j = i
        · subst h2
          rw [if_pos (by omega), if_pos rfl, if_pos (by omega), List.getElem?_append_right (by simp; omega)]
          simp [Nat.min_eq_left (show j ≤ l.length by omega)]
        · rw [if_neg (by omega), List.getElem?_eq_none (by simp; omega)]
    rw [e, List.append_assoc, List.singleton_append]

theorem leaf_c {t : Tr} (h : t.isLeaf = true) : t.c = 0 := by cases t <;> simp_all [Tr.isLeaf, Tr.c]

theorem snoc_ex {α : Type} : ∀ (l : List α), l ≠ [] → ∃ m x, l = m ++ [x]
  | [], h => absurd rfl h
  | [a], _ => ⟨[], a, rfl⟩
  | a :: b :: l, _ => by
    obtain ⟨m, x, e⟩ := snoc_ex (b :: l) (by simp)
    exact ⟨a :: m, x, by rw [e]; rfl⟩

theorem getD_last {α : Type} (l : List α) (x d : α) : List.getD (l ++ [x]) l.length d = x := by
  simp [List.getD_eq_getElem?_getD]

end Go.AI
