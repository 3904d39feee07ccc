/- From the library's contracts to the interpreter's: rows of texts. -/
import Derived.Test.YtcbhdileamhklaaAiSh
set_option autoImplicit false
set_option linter.unusedVariables false
namespace Go.AI

theorem rows_strs {w : World} {B : Nat → Prop} : ∀ {l : List ByteArray} {flat : List Value}, RowsOf (RepK w B .str) l flat → flat = l.map Value.string
  | [], flat, h => h
  | x :: l, flat, h => by
    obtain ⟨c1, c2, rfl, h1, h2⟩ := h
    have e1 : c1 = [.string x] := h1
    rw [e1, rows_strs h2]
    rfl

/-- A row of texts as the library's contracts speak of it. -/
theorem strs_cells {w : World} {B : Nat → Prop} {l : List ByteArray} {u : Value} (h : RepV w B (.sl .str) l u) (hl : l ≠ []) :
    ∃ bk o c, u = .slice (some ⟨bk, o, none⟩) l.length c ∧ l.length ≤ c ∧ bk < w.heap.size ∧ ∀ (j : Nat) x, l[j]? = some x → w.cell? ⟨bk, o + j, none⟩ = some (.string x) := by
  obtain ⟨a, c, flat, rfl, hle, hr, hn, hc⟩ := RepV.sl h
  have hf := rows_strs hr
  cases a with
  | none => exact absurd (hn rfl) hl
  | some ad =>
    obtain ⟨hs, hcell, _⟩ := hc ad rfl
    obtain ⟨bk, o, spot⟩ := ad
    simp only at hs
    subst hs
    have hcells : ∀ (j : Nat) x, l[j]? = some x → w.cell? ⟨bk, o + j, none⟩ = some (.string x) := fun j x hj => by
      have := hcell j (.string x) (by rw [hf, List.getElem?_map, hj]; rfl)
      rw [Addr.add] at this
      split at this
      · rename_i h0; subst h0; exact this
      · exact this
    refine ⟨bk, o, c, rfl, hle, ?_, hcells⟩
    obtain ⟨x, r, rfl⟩ : ∃ x r, l = x :: r := by cases l with
      | nil => exact absurd rfl hl
      | cons x r => exact ⟨x, r, rfl⟩
    have h0 := hcells 0 x rfl
    by_cases hb : bk < w.heap.size
    · exact hb
    · exfalso
      rw [World.cell?] at h0
      simp [Nat.le_of_not_lt hb] at h0

theorem Fr.ofBelow {w w' : World} (h : Go.RowKit.Below w.heap.size w w') : Fr w [] w' := ⟨h.os, h.tape, h.output, h.size, fun k hk _ => h.block k hk⟩

end Go.AI
