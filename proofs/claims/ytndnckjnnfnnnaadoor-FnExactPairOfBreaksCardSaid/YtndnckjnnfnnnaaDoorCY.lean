/- Contracts: lists of fractions marked and held. -/
import Derived.Test.YtndnckjnnfnnnaaDoorGZ
import Derived.Test.YtndnckjnnfnnnaaDoorCU
set_option autoImplicit false
set_option maxRecDepth 100000
set_option linter.unusedVariables false
namespace Go.AI
open Go.Proofs

abbrev FrK' : Kd := .pr (.int .i64) (.int .i64)

theorem eqFraction_SC (x : Int × Int) : SC cfg.P i_laws_eqFraction [.s (.v FrK' x), .s (.v FrK' x)] (.s (.v .bool true)) [] := laws_eqFraction_p3 _ _ rfl rfl

theorem eqFractionS_SC (l : List (Int × Int)) (hl : l.length ≤ 2 ^ 30) : SC cfg.P i_laws_eqFractionS [.s (.v (.sl FrK') l), .s (.v (.sl FrK') l)] (.s (.v .bool true)) [] := by
  have key := loop_up (P := cfg.P) (np := 2) (c := lb P_laws_eqFractionS 0) (fun i (_ : Unit) => laws_eqFractionS_L0a l l (i : Int)) (fun _ => laws_eqFractionS_L0X2 l l (l.length : Int) false)
    (fun _ u => u) (fun _ _ => True) l.length
    (fun i u hi _ => ⟨trivial, fun e st hn => by
      rw [← wrap_succ (by omega)] at hn
      exact laws_eqFractionS_L0a_i1 _ _ _ (by omega) (by omega) (by omega) (by omega) (eqFraction_SC _) hn⟩)
    (fun u _ => laws_eqFractionS_L0a_x3 _ _ _ (by omega)) l.length 0 () (by omega) trivial
  exact laws_eqFractionS_p3 _ _ _ _ _ _ rfl key.1

theorem itr_set {β : Type} (g : Nat → β) : ∀ (m i : Nat) (l : List β), i + m = l.length → itr (fun i l => l.set i (g i)) i m l = l.take i ++ (List.range' i m).map g
  | 0, i, l, h => by
    have e : i = l.length := by omega
    subst e
    simp [itr]
  | m + 1, i, l, h => by
    rw [itr, itr_set g m (i + 1) (l.set i (g i)) (by simp; omega), List.range'_succ, List.map_cons]
    have e : (l.set i (g i)).take (i + 1) = l.take i ++ [g i] := by
      apply List.ext_getElem?
      intro j
      rw [List.getElem?_take, List.getElem?_set]
      by_cases h1 : j < i
      · rw [if_pos (by omega), if_neg (by omega), List.getElem?_append_left (by simp; omega), List.getElem?_take, if_pos h1]
      · by_cases h2 : j = i
        · subst h2
          rw [if_pos (by omega), if_pos rfl, if_pos (by omega), List.getElem?_append_right (by simp; omega)]
          simp [Nat.min_eq_left (show j ≤ l.length by omega)]
        · rw [if_neg (by omega), List.getElem?_eq_none (by simp; omega)]
    rw [e, List.append_assoc, List.singleton_append]

/-- The marks. -/
def mkF (n : Nat) : List (Int × Int) := (List.range' 0 n).map fun i => (((1 + 2 * i : Nat) : Int), ((2 + 2 * i : Nat) : Int))

theorem mkF_length (n : Nat) : (mkF n).length = n := by simp [mkF]

theorem mkF_get {n i : Nat} (h : i < n) (d : Int × Int) : (mkF n).getD i d = (((1 + 2 * i : Nat) : Int), ((2 + 2 * i : Nat) : Int)) := by
  rw [mkF, List.getD_eq_getElem?_getD, List.getElem?_map, List.getElem?_range' (by simpa using h)]
  simp

theorem set_twice {l : List (Int × Int)} {i : Nat} (h : i < l.length) (x y : Int) (d : Int × Int) :
    List.set (List.set l i (x, (List.getD l i d).2)) i ((List.getD (List.set l i (x, (List.getD l i d).2)) i d).1, y) = l.set i (x, y) := by
  rw [List.set_set]
  have e : (List.getD (List.set l i (x, (List.getD l i d).2)) i d).1 = x := by
    rw [List.getD_eq_getElem?_getD, List.getElem?_set, if_pos rfl, if_pos h]; rfl
  rw [e]

end Go.AI
