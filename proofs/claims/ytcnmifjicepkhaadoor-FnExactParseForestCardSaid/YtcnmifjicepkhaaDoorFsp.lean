/- Plain: texts split at a mark; texts of bits. -/
import Derived.Lib.SplitLaws
import Derived.Lib.CutLaws
import Derived.Lib.SlTrimSet
set_option autoImplicit false
set_option linter.unusedVariables false
namespace Go.AI

def spl (b : UInt8) : List UInt8 → List UInt8 → List (List UInt8)
  | acc, [] => [acc]
  | acc, c :: r => if c = b then acc :: spl b [] r else spl b (acc ++ [c]) r

theorem spl_none (b : UInt8) : ∀ (l acc : List UInt8), b ∉ l → spl b acc l = [acc ++ l]
  | [], acc, _ => by simp [spl]
  | c :: r, acc, h => by
    simp only [List.mem_cons, not_or] at h
    rw [spl, if_neg (fun e => h.1 e.symm), spl_none b r _ h.2, List.append_assoc]; rfl

theorem spl_some (b : UInt8) : ∀ (u v acc : List UInt8), b ∉ u → spl b acc (u ++ b :: v) = (acc ++ u) :: spl b [] v
  | [], v, acc, _ => by rw [List.nil_append, spl, if_pos rfl, List.append_nil]
  | c :: r, v, acc, h => by
    simp only [List.mem_cons, not_or] at h
    rw [List.cons_append, spl, if_neg (fun e => h.1 e.symm), spl_some b r v _ h.2, List.append_assoc]; rfl

theorem first_at (b : UInt8) : ∀ l : List UInt8, b ∉ l ∨ ∃ u v, l = u ++ b :: v ∧ b ∉ u
  | [] => .inl (by simp)
  | c :: r => by
    by_cases h : c = b
    · subst h; exact .inr ⟨[], r, rfl, by simp⟩
    · rcases first_at b r with h1 | ⟨u, v, rfl, h1⟩
      · exact .inl (by simp only [List.mem_cons, not_or]; exact ⟨fun e => h e.symm, h1⟩)
      · exact .inr ⟨c :: u, v, rfl, by simp only [List.mem_cons, not_or]; exact ⟨fun e => h e.symm, h1⟩⟩

theorem idx_none (b : UInt8) : ∀ l : List UInt8, b ∉ l → Lib.indexByte l b = -1
  | [], _ => rfl
  | c :: r, h => by
    simp only [List.mem_cons, not_or] at h
    have e : (c == b) = false := by rw [beq_eq_false_iff_ne]; exact fun e => h.1 e.symm
    rw [Lib.indexByte, e, idx_none b r h.2]
    rfl

theorem idx_some (b : UInt8) : ∀ u v : List UInt8, b ∉ u → Lib.indexByte (u ++ b :: v) b = (u.length : Int)
  | [], v, _ => by simp [Lib.indexByte]
  | c :: r, v, h => by
    simp only [List.mem_cons, not_or] at h
    have e : (c == b) = false := by rw [beq_eq_false_iff_ne]; exact fun e => h.1 e.symm
    rw [List.cons_append, Lib.indexByte, e, idx_some b r v h.2]
    have h2 : (((r.length : Int)) == -1) = false := by rw [beq_eq_false_iff_ne]; omega
    rw [h2]
    simp only [Bool.false_eq_true, if_false, List.length_cons]
    omega

theorem splitK_spl (b : UInt8) : ∀ (n : Nat) (l : List UInt8), l.length ≤ n → Lib.splitK [b] 0 (Lib.count l [b]) l = spl b [] l := by
  intro n
  induction n with
  | zero =>
    intro l hl
    have e : l = [] := List.length_eq_zero_iff.1 (Nat.le_zero.1 hl)
    subst e
    rfl
  | succ n ih =>
    intro l hl
    rcases first_at b l with h | ⟨u, v, rfl, h⟩
    · have hi : Lib.index l [b] = -1 := by rw [Lib.index_one, idx_none b l h]
      rw [Lib.count_miss hi, spl_none b l [] h]
      rfl
    · have hi : Lib.index (u ++ b :: v) [b] = (u.length : Int) := by rw [Lib.index_one, idx_some b u v h]
      have hd : (u ++ b :: v).drop (u.length + [b].length) = v := by
        have : u ++ b :: v = (u ++ [b]) ++ v := by simp
        rw [this, List.drop_append_of_le_length (by simp)]
        simp
      have ht : (u ++ b :: v).take (u.length + 0) = u := by simp
      rw [Lib.count_hit (by simp) hi, hd, Nat.add_comm 1, Lib.splitK]
      have hm : ¬ (Lib.index (u ++ b :: v) [b] == -1) = true := fun e => by have := beq_iff_eq.1 e; omega
      rw [if_neg hm, hi, Int.toNat_natCast, hd, ht, ih v (by simp at hl; omega), spl_some b u v [] h]
      rfl

/-- All letters are 0 or 1. -/
def bits (l : List UInt8) : Bool := l.all fun c => c == 48 || c == 49

theorem dw_nil {p : UInt8 → Bool} : ∀ {l : List UInt8}, l.dropWhile p = [] ↔ l.all p = true
  | [] => by simp
  | c :: r => by
    rw [List.dropWhile_cons]
    cases h : p c with
    | true => rw [if_pos rfl, dw_nil]; simp [h]
    | false => simp [h]

theorem dw_all {p : UInt8 → Bool} : ∀ {l : List UInt8}, (l.dropWhile p).all p = l.all p
  | [] => rfl
  | c :: r => by
    rw [List.dropWhile_cons]
    cases h : p c with
    | true => rw [if_pos rfl, dw_all]; simp [h]
    | false => simp [h]

theorem trim_nil (l cs : List UInt8) : Lib.trimS l cs = [] ↔ l.all (cs.contains ·) = true := by
  unfold Lib.trimS Lib.trimLeftS Lib.trimRightS
  rw [dw_nil, List.all_reverse, dw_all, List.all_reverse]

theorem trim_bits (l : List UInt8) : Lib.trimS l [48, 49] = [] ↔ bits l = true := by
  rw [trim_nil]
  have e : (fun c : UInt8 => [48, 49].contains c) = fun c => c == 48 || c == 49 := by
    funext c
    simp [List.contains, List.elem]
    cases c == 48 <;> cases c == 49 <;> rfl
  unfold bits
  rw [e]

end Go.AI
