/- Contracts: words; lists of numbers marked and held. -/
import Derived.Test.YtmoodcnoncipiaaGX
import Derived.Test.YtmoodcnoncipiaaC8
import Derived.Test.YtmoodcnoncipiaaCF
set_option autoImplicit false
set_option maxRecDepth 100000
set_option linter.unusedVariables false
namespace Go.AI
open Go.Proofs

/-- Is it a word? -/
def isLt (n : Int) : Bool := decide (n ≠ 0 ∧ -21 ≤ n ∧ n ≤ 21)
def isWd (l : List Int) : Bool := decide (l.length ≤ 20) && l.all isLt

theorem isLetter_SC (n : Int) : SC cfg.P i_impl_isLetter [.s (.v (.int .i64) n)] (.s (.v .bool (isLt n))) [] := by
  by_cases h0 : n = 0
  · rw [isLt, decide_eq_false (fun h => h.1 h0)]; exact impl_isLetter_p4 _ h0
  · by_cases h1 : -21 ≤ n
    · by_cases h2 : n ≤ 21
      · rw [isLt, decide_eq_true ⟨h0, h1, h2⟩]; exact impl_isLetter_p1 _ h0 h1 h2
      · rw [isLt, decide_eq_false (fun h => h2 h.2.2)]; exact impl_isLetter_p2 _ h0 h1 h2
    · rw [isLt, decide_eq_false (fun h => h1 h.2.1)]; exact impl_isLetter_p3 _ h0 h1

theorem isWord_SC (l : List Int) (hl : l.length ≤ 2 ^ 40) : SC cfg.P i_impl_IsWord [.s (.v (.sl (.int .i64)) l)] (.s (.v .bool (isWd l))) [] := by
  have key := loop_ret (P := cfg.P) (np := 1) (c := lb P_impl_IsWord 0) (fun i (a : Unit) => impl_IsWord_L0a l l ((l.length : Nat) : Int) (i : Int)) (fun a => impl_IsWord_L0X2 l l ((l.length : Nat) : Int) (l.length : Int) false) (impl_IsWord_L0X1 false)
    (fun i a => a) (fun i a => True) (fun i => isLt (l.getD i 0)) l.length
    (fun i a hi hI hp => by
      refine ⟨trivial, fun e st hn => ?_⟩
      have hL := isLetter_SC (l.getD i 0)
      rw [hp] at hL
      rw [← wrap_succ (by omega)] at hn
      exact impl_IsWord_L0a_i1 _ _ _ _ (by omega) (by omega) (by omega) hL hn)
    (fun i a hi hI hp => by
      have hL := isLetter_SC (l.getD i 0)
      rw [hp] at hL
      exact impl_IsWord_L0a_x2 _ _ _ _ (by omega) (by omega) (by omega) hL)
    (fun a _ => impl_IsWord_L0a_x3 _ _ _ _ (by omega)) l.length 0 () (by omega) trivial
  rw [all_range' l 0 isLt] at key
  cases hf : l.all isLt with
  | true =>
    rw [isWd, hf, Bool.and_true]
    by_cases h : l.length ≤ 20
    · rw [decide_eq_true h]; exact impl_IsWord_p2 _ _ _ _ _ _ (key.1 hf) (by omega)
    · rw [decide_eq_false h]; exact impl_IsWord_p3 _ _ _ _ _ _ (key.1 hf) (by omega)
  | false =>
    rw [isWd, hf, Bool.and_false]
    exact impl_IsWord_p1 _ _ (key.2 hf)

theorem wdIs_SC (l : List Int) (hl : l.length ≤ 2 ^ 40) : SC cfg.P i_spec_wdIs [.s (.v (.sl (.int .i64)) l), .s (.v (.int .i64) (20 : Int))] (.s (.v .bool (l.all isLt))) [] := by
  have hin : ∀ n : Int, n ≠ 0 → SC cfg.P i_spec_l1In [.s (.v (.int .i64) n), .s (.v (.int .i64) (IntKind.wrap .i64 ((IntKind.wrap .i64 (0 - (20 : Int))) - (1 : Int)))), .s (.v (.int .i64) (IntKind.wrap .i64 ((20 : Int) + (1 : Int))))] (.s (.v .bool (isLt n))) [] := fun n h0 => by
    have e1 : IntKind.wrap .i64 ((IntKind.wrap .i64 (0 - (20 : Int))) - (1 : Int)) = -21 := by decide
    have e2 : IntKind.wrap .i64 ((20 : Int) + (1 : Int)) = 21 := by decide
    rw [e1, e2]
    have := l1In_SC n (-21) 21
    have e : isLt n = decide (n ≥ -21 ∧ n ≤ 21) := by
      unfold isLt
      congr 1
      exact propext ⟨fun h => h.2, fun h => ⟨h0, h⟩⟩
    rw [e]
    exact this
  have key := loop_ret (P := cfg.P) (np := 2) (c := lb P_spec_wdIs 0) (fun i (a : Unit) => spec_wdIs_L0a (20 : Int) l ((l.length : Nat) : Int) (i : Int)) (fun a => spec_wdIs_L0X2 (20 : Int) l ((l.length : Nat) : Int) (l.length : Int) false) (spec_wdIs_L0X1 false)
    (fun i a => a) (fun i a => True) (fun i => isLt (l.getD i 0)) l.length
    (fun i a hi hI hp => by
      refine ⟨trivial, fun e st hn => ?_⟩
      have h0 : l.getD i 0 ≠ 0 := (of_decide_eq_true hp).1
      have hL := hin _ h0
      rw [hp] at hL
      rw [← wrap_succ (by omega)] at hn
      exact spec_wdIs_L0a_i2 _ _ _ _ (by omega) (by omega) (by omega) h0 hL hn)
    (fun i a hi hI hp => by
      by_cases h0 : l.getD i 0 = 0
      · exact spec_wdIs_L0a_x1 _ _ _ _ (by omega) (by omega) (by omega) h0
      · have hL := hin _ h0
        rw [hp] at hL
        exact spec_wdIs_L0a_x3 _ _ _ _ (by omega) (by omega) (by omega) h0 hL)
    (fun a _ => spec_wdIs_L0a_x4 _ _ _ _ (by omega)) l.length 0 () (by omega) trivial
  rw [all_range' l 0 isLt] at key
  cases hf : l.all isLt with
  | true => exact spec_wdIs_p2 _ _ _ _ _ _ _ (key.1 hf)
  | false => exact spec_wdIs_p1 _ _ _ (key.2 hf)

theorem wdGood_SC (l : List Int) (hl : l.length ≤ 2 ^ 40) : SC cfg.P i_spec_wdGood [.s (.v (.sl (.int .i64)) l)] (.s (.v .bool (isWd l))) [] := by
  by_cases h : l.length ≤ 20
  · rw [isWd, decide_eq_true h, Bool.true_and]; exact spec_wdGood_p1 _ _ (by omega) (wdIs_SC l hl)
  · rw [isWd, decide_eq_false h, Bool.false_and]; exact spec_wdGood_p2 _ (by omega)

/-- The marks. -/
def mkI (n : Nat) : List Int := (List.range' 0 n).map fun i => ((1 + i : Nat) : Int)

theorem mkI_length (n : Nat) : (mkI n).length = n := by simp [mkI]

theorem mkI_get {n i : Nat} (h : i < n) (d : Int) : (mkI n).getD i d = ((1 + i : Nat) : Int) := by
  rw [mkI, List.getD_eq_getElem?_getD, List.getElem?_map, List.getElem?_range' (by simpa using h)]
  simp

theorem markIntS_SC (l : List Int) (hl : l.length ≤ 2 ^ 30) :
    SC cfg.P i_laws_markIntS [.s (.msl t_int (.int .i64) l), .s (.v (.int .i64) (1 : Int))] (.s (.v (.int .i64) ((1 + l.length : Nat) : Int))) [.row t_int (.int .i64) (mkI l.length)] := by
  have key := loop_up (P := cfg.P) (np := 2) (c := lb P_laws_markIntS 0) (fun i (m : List Int) => laws_markIntS_L0a ((1 + i : Nat) : Int) (i : Int) m) (fun m => laws_markIntS_L0X1 ((1 + l.length : Nat) : Int) (l.length : Int) false m)
    (fun i m => m.set i ((1 + i : Nat) : Int)) (fun _ m => m.length = l.length) l.length
    (fun i m hi hm => ⟨by rw [List.length_set]; exact hm, fun e st hn => by
      have e1 : IntKind.wrap .i64 (((1 + i : Nat) : Int) + 1) = ((1 + (i + 1) : Nat) : Int) := by rw [w64] <;> omega
      rw [← wrap_succ (by omega), ← e1] at hn
      rw [show (i : Nat) = ((i : Int)).toNat from rfl] at hn
      exact laws_markIntS_L0a_i1 _ _ _ (by omega) (by omega) (by omega) (by omega) hn⟩)
    (fun m hm => laws_markIntS_L0a_x2 _ _ _ (by omega)) l.length 0 l (by omega) rfl
  have hL := key.1
  rw [itr_setR (fun i => ((1 + i : Nat) : Int)) l.length 0 l (by omega), List.take_zero, List.nil_append] at hL
  exact laws_markIntS_p1 _ _ _ _ _ _ hL

theorem heldIntS_SC (n : Nat) (hn : n ≤ 2 ^ 30) : SC cfg.P i_laws_heldIntS [.s (.v (.sl (.int .i64)) (mkI n)), .s (.v (.int .i64) (1 : Int))] (.s (.v (.int .i64) ((1 + n : Nat) : Int))) [] := by
  have hl := mkI_length n
  have key := loop_up (P := cfg.P) (np := 2) (c := lb P_laws_heldIntS 0) (fun i (_ : Unit) => laws_heldIntS_L0a (mkI n) ((1 + i : Nat) : Int) (i : Int)) (fun _ => laws_heldIntS_L0X2 (mkI n) ((1 + n : Nat) : Int) (n : Int) false)
    (fun _ u => u) (fun _ _ => True) n
    (fun i u hi _ => ⟨trivial, fun e st hn' => by
      have e1 : IntKind.wrap .i64 (((1 + i : Nat) : Int) + 1) = ((1 + (i + 1) : Nat) : Int) := by rw [w64] <;> omega
      rw [← wrap_succ (by omega), ← e1] at hn'
      exact laws_heldIntS_L0a_i2 _ _ _ (by omega) (by omega) (by omega) (by rw [Int.toNat_natCast, mkI_get hi]) hn'⟩)
    (fun u _ => laws_heldIntS_L0a_x3 _ _ _ (by omega)) n 0 () (by omega) trivial
  exact laws_heldIntS_p2 _ _ _ _ _ _ key.1

end Go.AI
