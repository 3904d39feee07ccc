/- Contracts: words. -/
import Derived.Test.YtnnbjnmkkfakdaaGX
import Derived.Test.YtnnbjnmkkfakdaaGB
import Derived.Test.YtnnbjnmkkfakdaaCPg
set_option autoImplicit false
set_option maxRecDepth 100000
set_option linter.unusedVariables false
namespace Go.AI
open Go.Proofs

/-- Is it a word? -/
def isLt (n : Int) : Bool := decide (n ≠ 0 ∧ -21 ≤ n ∧ n ≤ 21)

def isWd (l : List Int) : Bool := decide (l.length ≤ 20) && l.all isLt

theorem isLetter_SC (n : Int) : SC cfg.P i_impl_isLetter [.s (.v (.int .i64) n)] (.s (.v .bool (isLt n))) [] := by
  by_cases h0 : n = 0
  · rw [isLt, decide_eq_false (fun h => h.1 h0)]; exact impl_isLetter_p4 _ h0
  · by_cases h1 : -21 ≤ n
    · by_cases h2 : n ≤ 21
      · rw [isLt, decide_eq_true ⟨h0, h1, h2⟩]; exact impl_isLetter_p1 _ h0 h1 h2
      · rw [isLt, decide_eq_false (fun h => h2 h.2.2)]; exact impl_isLetter_p2 _ h0 h1 h2
    · rw [isLt, decide_eq_false (fun h => h1 h.2.1)]; exact impl_isLetter_p3 _ h0 h1

theorem isWord_SC (l : List Int) (hl : l.length ≤ 2 ^ 40) : SC cfg.P i_impl_IsWord [.s (.v (.sl (.int .i64)) l)] (.s (.v .bool (isWd l))) [] := by
  have key := loop_ret (P := cfg.P) (np := 1) (c := lb P_impl_IsWord 0) (fun i (a : Unit) => impl_IsWord_L0a l l ((l.length : Nat) : Int) (i : Int)) (fun a => impl_IsWord_L0X2 l l ((l.length : Nat) : Int) (l.length : Int) false) (impl_IsWord_L0X1 false)
    (fun i a => a) (fun i a => True) (fun i => isLt (l.getD i 0)) l.length
    (fun i a hi hI hp => by
      refine ⟨trivial, fun e st hn => ?_⟩
      have hL := isLetter_SC (l.getD i 0)
      rw [hp] at hL
      rw [← wrap_succ (by omega)] at hn
      exact impl_IsWord_L0a_i1 _ _ _ _ (by omega) (by omega) (by omega) hL hn)
    (fun i a hi hI hp => by
      have hL := isLetter_SC (l.getD i 0)
      rw [hp] at hL
      exact impl_IsWord_L0a_x2 _ _ _ _ (by omega) (by omega) (by omega) hL)
    (fun a _ => impl_IsWord_L0a_x3 _ _ _ _ (by omega)) l.length 0 () (by omega) trivial
  rw [all_range' l 0 isLt] at key
  cases hf : l.all isLt with
  | true =>
    rw [isWd, hf, Bool.and_true]
    by_cases h : l.length ≤ 20
    · rw [decide_eq_true h]; exact impl_IsWord_p2 _ _ _ _ _ _ (key.1 hf) (by omega)
    · rw [decide_eq_false h]; exact impl_IsWord_p3 _ _ _ _ _ _ (key.1 hf) (by omega)
  | false =>
    rw [isWd, hf, Bool.and_false]
    exact impl_IsWord_p1 _ _ (key.2 hf)

theorem l1InZ_SC (n lo hi : Int) : SC cfg.P i_spec_l1In [.s (.v (.int .i64) n), .s (.v (.int .i64) lo), .s (.v (.int .i64) hi)] (.s (.v .bool (decide (lo ≤ n ∧ n ≤ hi)))) [] := by
  by_cases h1 : lo ≤ n
  · by_cases h2 : n ≤ hi
    · rw [decide_eq_true ⟨h1, h2⟩]; exact spec_l1In_p1 _ _ _ (by omega) h2
    · rw [decide_eq_false (fun h => h2 h.2)]; exact spec_l1In_p2 _ _ _ (by omega) h2
  · rw [decide_eq_false (fun h => h1 h.1)]; exact spec_l1In_p3 _ _ _ (by omega)

/-- Letters with numbers up to a most. -/
def isLtM (m : Nat) (n : Int) : Bool := decide (n ≠ 0 ∧ -(m : Int) - 1 ≤ n ∧ n ≤ (m : Int) + 1)

theorem isLt_eq : isLtM 20 = isLt := by
  funext n
  unfold isLtM isLt
  by_cases h : n ≠ 0 ∧ -21 ≤ n ∧ n ≤ 21
  · rw [decide_eq_true h, decide_eq_true ⟨h.1, by omega, by omega⟩]
  · rw [decide_eq_false h, decide_eq_false (fun g => h ⟨g.1, by omega, by omega⟩)]

theorem wdIsM_SC (m : Nat) (hm : m ≤ 2 ^ 20) (l : List Int) (hl : l.length ≤ 2 ^ 40) : SC cfg.P i_spec_wdIs [.s (.v (.sl (.int .i64)) l), .s (.v (.int .i64) (m : Int))] (.s (.v .bool (l.all (isLtM m)))) [] := by
  have hin : ∀ n : Int, n ≠ 0 → SC cfg.P i_spec_l1In [.s (.v (.int .i64) n), .s (.v (.int .i64) (IntKind.wrap .i64 ((IntKind.wrap .i64 (0 - (m : Int))) - (1 : Int)))), .s (.v (.int .i64) (IntKind.wrap .i64 ((m : Int) + (1 : Int))))] (.s (.v .bool (isLtM m n))) [] := fun n h0 => by
    have e0 : IntKind.wrap .i64 (0 - (m : Int)) = -(m : Int) := by rw [w64] <;> omega
    have e1 : IntKind.wrap .i64 (-(m : Int) - (1 : Int)) = -(m : Int) - 1 := by rw [w64] <;> omega
    have e2 : IntKind.wrap .i64 ((m : Int) + (1 : Int)) = (m : Int) + 1 := by rw [w64] <;> omega
    rw [e0, e1, e2]
    have := l1InZ_SC n (-(m : Int) - 1) ((m : Int) + 1)
    have e : isLtM m n = decide (-(m : Int) - 1 ≤ n ∧ n ≤ (m : Int) + 1) := by
      unfold isLtM
      by_cases h : -(m : Int) - 1 ≤ n ∧ n ≤ (m : Int) + 1
      · rw [decide_eq_true h, decide_eq_true ⟨h0, h⟩]
      · rw [decide_eq_false h, decide_eq_false (fun g => h g.2)]
    rw [e]
    exact this
  have key := loop_ret (P := cfg.P) (np := 2) (c := lb P_spec_wdIs 0) (fun i (a : Unit) => spec_wdIs_L0a (m : Int) l ((l.length : Nat) : Int) (i : Int)) (fun a => spec_wdIs_L0X2 (m : Int) l ((l.length : Nat) : Int) (l.length : Int) false) (spec_wdIs_L0X1 false)
    (fun i a => a) (fun i a => True) (fun i => isLtM m (l.getD i 0)) l.length
    (fun i a hi hI hp => by
      refine ⟨trivial, fun e st hn => ?_⟩
      have h0 : l.getD i 0 ≠ 0 := (of_decide_eq_true hp).1
      have hL := hin _ h0
      rw [hp] at hL
      rw [← wrap_succ (by omega)] at hn
      exact spec_wdIs_L0a_i2 _ _ _ _ (by omega) (by omega) (by omega) h0 hL hn)
    (fun i a hi hI hp => by
      by_cases h0 : l.getD i 0 = 0
      · exact spec_wdIs_L0a_x1 _ _ _ _ (by omega) (by omega) (by omega) h0
      · have hL := hin _ h0
        rw [hp] at hL
        exact spec_wdIs_L0a_x3 _ _ _ _ (by omega) (by omega) (by omega) h0 hL)
    (fun a _ => spec_wdIs_L0a_x4 _ _ _ _ (by omega)) l.length 0 () (by omega) trivial
  rw [all_range' l 0 (isLtM m)] at key
  cases hf : l.all (isLtM m) with
  | true => exact spec_wdIs_p2 _ _ _ _ _ _ _ (key.1 hf)
  | false => exact spec_wdIs_p1 _ _ _ (key.2 hf)

theorem wdIs_SC (l : List Int) (hl : l.length ≤ 2 ^ 40) : SC cfg.P i_spec_wdIs [.s (.v (.sl (.int .i64)) l), .s (.v (.int .i64) (20 : Int))] (.s (.v .bool (l.all isLt))) [] := by
  have := wdIsM_SC 20 (by omega) l hl
  rw [isLt_eq] at this
  exact this

theorem wdGood_SC (l : List Int) (hl : l.length ≤ 2 ^ 40) : SC cfg.P i_spec_wdGood [.s (.v (.sl (.int .i64)) l)] (.s (.v .bool (isWd l))) [] := by
  by_cases h : l.length ≤ 20
  · rw [isWd, decide_eq_true h, Bool.true_and]; exact spec_wdGood_p1 _ _ (by omega) (wdIs_SC l hl)
  · rw [isWd, decide_eq_false h, Bool.false_and]; exact spec_wdGood_p2 _ (by omega)

end Go.AI
