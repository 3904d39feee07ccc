/- Contracts: words. -/
import Derived.Test.YtdfllkeekehplaaCPg
import Derived.Test.YtdfllkeekehplaaGL
import Derived.Test.YtdfllkeekehplaaJE
set_option autoImplicit false
set_option maxRecDepth 100000
set_option linter.unusedVariables false
namespace Go.AI
open Go.Proofs

/-- Is it a word? -/
def isLt (n : Int) : Bool := decide (n ≠ 0 ∧ -21 ≤ n ∧ n ≤ 21)

def isWd (l : List Int) : Bool := decide (l.length ≤ 20) && l.all isLt

theorem isLetter_SC (n : Int) : SC cfg.P i_impl_isLetter [.s (.v (.int .i64) n)] (.s (.v .bool (isLt n))) [] := by
  by_cases h0 : n = 0
  · rw [isLt, decide_eq_false (fun h => h.1 h0)]; exact impl_isLetter_p4 _ h0
  · by_cases h1 : -21 ≤ n
    · by_cases h2 : n ≤ 21
      · rw [isLt, decide_eq_true ⟨h0, h1, h2⟩]; exact impl_isLetter_p1 _ h0 h1 h2
      · rw [isLt, decide_eq_false (fun h => h2 h.2.2)]; exact impl_isLetter_p2 _ h0 h1 h2
    · rw [isLt, decide_eq_false (fun h => h1 h.2.1)]; exact impl_isLetter_p3 _ h0 h1

theorem isWord_SC (l : List Int) (hl : l.length ≤ 2 ^ 40) : SC cfg.P i_impl_IsWord [.s (.v (.sl (.int .i64)) l)] (.s (.v .bool (isWd l))) [] := by
  have key := loop_ret (P := cfg.P) (np := 1) (c := lb P_impl_IsWord 0) (fun i (a : Unit) => impl_IsWord_L0a l l ((l.length : Nat) : Int) (i : Int)) (fun a => impl_IsWord_L0X2 l l ((l.length : Nat) : Int) (l.length : Int) false) (impl_IsWord_L0X1 false)
    (fun i a => a) (fun i a => True) (fun i => isLt (l.getD i 0)) l.length
    (fun i a hi hI hp => by
      refine ⟨trivial, fun e st hn => ?_⟩
      have hL := isLetter_SC (l.getD i 0)
      rw [hp] at hL
      rw [← wrap_succ (by omega)] at hn
      exact impl_IsWord_L0a_i1 _ _ _ _ (by omega) (by omega) (by omega) hL hn)
    (fun i a hi hI hp => by
      have hL := isLetter_SC (l.getD i 0)
      rw [hp] at hL
      exact impl_IsWord_L0a_x2 _ _ _ _ (by omega) (by omega) (by omega) hL)
    (fun a _ => impl_IsWord_L0a_x3 _ _ _ _ (by omega)) l.length 0 () (by omega) trivial
  rw [all_range' l 0 isLt] at key
  cases hf : l.all isLt with
  | true =>
    rw [isWd, hf, Bool.and_true]
    by_cases h : l.length ≤ 20
    · rw [decide_eq_true h]; exact impl_IsWord_p2 _ _ _ _ _ _ (key.1 hf) (by omega)
    · rw [decide_eq_false h]; exact impl_IsWord_p3 _ _ _ _ _ _ (key.1 hf) (by omega)
  | false =>
    rw [isWd, hf, Bool.and_false]
    exact impl_IsWord_p1 _ _ (key.2 hf)

end Go.AI
