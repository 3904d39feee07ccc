/- Kinds and the table. -/
import Derived.Test.YtdfllkeekehplaaCLt
set_option autoImplicit false
set_option maxRecDepth 100000
set_option linter.unusedVariables false
namespace Go.AI
open Go.Proofs

/-- The kind of a caret, with those behind it. -/
def kd (m : Mk) (r : List Mk) : ByteArray :=
  if m.1 = 0 then sLL else if m.1 = 1 then (if notR r = true then (if (r.getD 0 (0, false)).1 = 2 then sRI else sRN) else sR0) else if m.2 = true then sI0 else sIR

theorem kindAt_kd (M : List Mk) (i : Nat) (h0 : 1 ≤ i) (h : i < M.length) : kindAt M i = kd (M[i]) (M.drop (i + 1)) := by
  have hg : M.getD i (0, false) = M[i] := by rw [List.getD_eq_getElem?_getD, List.getElem?_eq_getElem h]; rfl
  have hn : (M.drop (i + 1)).getD 0 (0, false) = M.getD (i + 1) (0, false) := by
    rw [List.getD_eq_getElem?_getD, List.getD_eq_getElem?_getD, List.getElem?_drop, Nat.add_zero]
  unfold kindAt kd
  rw [if_neg (by omega), hg, hn]
  by_cases e : M[i].1 = 1
  · rw [notR_drop M i h, hg, e]
    simp
  · simp only [if_neg e]

def six : List ByteArray := [sLL, sRI, sRN, sR0, sI0, sIR]

theorem kd_six (m : Mk) (r : List Mk) : kd m r ∈ six := by
  unfold kd six
  split
  · simp
  · split
    · split
      · split <;> simp
      · simp
    · split <;> simp

theorem tab_sym : ∀ x ∈ six, ∀ y ∈ six, tabV x y = tabV y x := by decide +kernel

end Go.AI
