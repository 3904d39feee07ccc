/- The order of texts; rows in order. -/
import Derived.Test.YtdfllkeekehplaaAiG
import Derived.Lib.Strings
set_option autoImplicit false
set_option maxRecDepth 100000
set_option linter.unusedVariables false
namespace Go.AI

theorem bl_irr : ∀ x : List UInt8, ¬ Op.bytesLess x x = true
  | [] => by simp [Op.bytesLess]
  | a :: x => by
    have := bl_irr x
    simp only [Op.bytesLess, Bool.or_eq_true, Bool.and_eq_true, decide_eq_true_eq, UInt8.lt_iff_toNat_lt]
    intro h
    rcases h with h | h
    · omega
    · exact this h.2

theorem bl_tr : ∀ x y z : List UInt8, Op.bytesLess x y = true → Op.bytesLess y z = true → Op.bytesLess x z = true
  | [], [], _, h, _ => by simp [Op.bytesLess] at h
  | _ :: _, [], _, h, _ => by simp [Op.bytesLess] at h
  | _, _ :: _, [], _, h => by simp [Op.bytesLess] at h
  | [], _ :: _, _ :: _, _, _ => by simp [Op.bytesLess]
  | a :: x, b :: y, c :: z, h1, h2 => by
    simp only [Op.bytesLess, Bool.or_eq_true, Bool.and_eq_true, decide_eq_true_eq, UInt8.lt_iff_toNat_lt, beq_iff_eq] at h1 h2 ⊢
    rcases h1 with h1 | ⟨rfl, h1⟩
    · rcases h2 with h2 | ⟨rfl, h2⟩
      · left; omega
      · left; exact h1
    · rcases h2 with h2 | ⟨rfl, h2⟩
      · left; exact h2
      · right; exact ⟨rfl, bl_tr x y z h1 h2⟩

theorem bl_tot : ∀ x y : List UInt8, x ≠ y → ¬ Op.bytesLess x y = true → Op.bytesLess y x = true
  | [], [], h, _ => absurd rfl h
  | _ :: _, [], _, _ => by simp [Op.bytesLess]
  | [], _ :: _, _, h => by simp [Op.bytesLess] at h
  | a :: x, b :: y, h, h1 => by
    simp only [Op.bytesLess, Bool.or_eq_true, Bool.and_eq_true, decide_eq_true_eq, UInt8.lt_iff_toNat_lt, beq_iff_eq] at h1 ⊢
    by_cases e : a = b
    · subst e
      right
      exact ⟨rfl, bl_tot x y (fun g => h (by rw [g])) fun g => h1 (.inr ⟨rfl, g⟩)⟩
    · left
      have : a.toNat ≠ b.toNat := fun g => e (UInt8.toNat_inj.1 g)
      have : ¬ a.toNat < b.toNat := fun g => h1 (.inl g)
      omega

/-- One text lies before another one. -/
def Lt (x y : ByteArray) : Prop := Op.bytesLess x.toList y.toList = true

theorem tl_inj {x y : ByteArray} (h : x.toList = y.toList) : x = y := by
  rw [Lib.toList_data, Lib.toList_data] at h
  obtain ⟨⟨a⟩⟩ := x
  obtain ⟨⟨b⟩⟩ := y
  simp only at h
  rw [h]

theorem Lt.irr (x : ByteArray) : ¬ Lt x x := bl_irr _
theorem Lt.tr {x y z : ByteArray} (h1 : Lt x y) (h2 : Lt y z) : Lt x z := bl_tr _ _ _ h1 h2
theorem Lt.tot {x y : ByteArray} (h : x ≠ y) (h1 : ¬ Lt x y) : Lt y x := bl_tot _ _ (fun e => h (tl_inj e)) h1

def Le (x y : ByteArray) : Prop := x = y ∨ Lt x y

theorem Le.tr {x y z : ByteArray} (h1 : Le x y) (h2 : Le y z) : Le x z := by
  rcases h1 with rfl | h1
  · exact h2
  · rcases h2 with rfl | h2
    · exact .inr h1
    · exact .inr (h1.tr h2)

theorem Le.tot (x y : ByteArray) : Le x y ∨ Lt y x := by
  by_cases e : x = y
  · exact .inl (.inl e)
  · by_cases h : Lt x y
    · exact .inl (.inr h)
    · exact .inr (Lt.tot e h)

theorem le_test (x y : ByteArray) (b : Bool) : ((Op.bytesLess x.toList y.toList || (x.toList == y.toList)) = b) ↔ (b = true ↔ Le x y) := by
  have h : (Op.bytesLess x.toList y.toList || (x.toList == y.toList)) = true ↔ Le x y := by
    rw [Bool.or_eq_true, beq_iff_eq]
    exact ⟨fun h => h.elim (fun h => .inr h) fun h => .inl (tl_inj h), fun h => h.elim (fun h => .inr (by rw [h])) fun h => .inl h⟩
  constructor
  · intro e; rw [← e]; exact h
  · intro e
    exact Bool.eq_iff_iff.2 (h.trans e.symm)

instance memD (s : ByteArray) (T : List ByteArray) : Decidable (s ∈ T) := @List.instDecidableMemOfLawfulBEq ByteArray instBEqOfDecidableEq inferInstance s T

/-- Each text lies before those behind it. -/
abbrev Srt (T : List ByteArray) : Prop := T.Pairwise Lt

theorem Srt.nodup {T : List ByteArray} (h : Srt T) : T.Nodup := List.Pairwise.imp (fun {a b} h (e : a = b) => by subst e; exact Lt.irr _ h) h

/-- A text put behind a row in order, unless it is the last one. -/
theorem Srt.put {T : List ByteArray} (h : Srt T) {s : ByteArray} (hs : ∀ x ∈ T, Le x s) (hn : ∀ x, T.getLast? = some x → x ≠ s) : Srt (T ++ [s]) := by
  refine List.pairwise_append.2 ⟨h, by simp, fun x hx y hy => ?_⟩
  rw [List.mem_singleton] at hy
  subst hy
  rcases hs x hx with e | h1
  · subst e
    obtain ⟨A, B, rfl⟩ := List.append_of_mem hx
    cases B with
    | nil => exact absurd rfl (hn x (by simp))
    | cons b B =>
      obtain ⟨y, hy⟩ : ∃ y, y ∈ b :: B := ⟨b, by simp⟩
      have h2 : Lt x y := by
        have := (List.pairwise_append.1 h).2.1
        exact (List.pairwise_cons.1 this).1 y hy
      rcases hs y (by simp [List.mem_cons.1 hy]) with e | h3
      · subst e; exact h2
      · exact h2.tr h3
  · exact h1

/-- Rows without repetitions that have the same members are of the same length. -/
theorem len_of_mem {α : Type} [DecidableEq α] : ∀ (A B : List α), A.Nodup → (∀ x, x ∈ A → x ∈ B) → A.length ≤ B.length
  | [], B, _, _ => Nat.zero_le _
  | a :: A, B, hA, h => by
    rw [List.nodup_cons] at hA
    have hb : a ∈ B := h a (by simp)
    have := len_of_mem A (B.erase a) hA.2 fun x hx => by
      have hne : x ≠ a := fun e => hA.1 (e ▸ hx)
      exact (List.mem_erase_of_ne hne).2 (h x (by simp [hx]))
    rw [List.length_erase_of_mem hb] at this
    have : 0 < B.length := List.length_pos_of_mem hb
    simp only [List.length_cons]
    omega

end Go.AI
