/- Contracts: lists of numbers marked and held. -/
import Derived.Test.YtlkjnlhpdjbjdaaGI
import Derived.Test.YtlkjnlhpdjbjdaaCPg
set_option autoImplicit false
set_option maxRecDepth 100000
set_option linter.unusedVariables false
namespace Go.AI
open Go.Proofs

/-- The marks. -/
def mkI (n : Nat) : List Int := (List.range' 0 n).map fun i => ((1 + i : Nat) : Int)

theorem mkI_length (n : Nat) : (mkI n).length = n := by simp [mkI]

theorem mkI_get {n i : Nat} (h : i < n) (d : Int) : (mkI n).getD i d = ((1 + i : Nat) : Int) := by
  rw [mkI, List.getD_eq_getElem?_getD, List.getElem?_map, List.getElem?_range' (by simpa using h)]
  simp

theorem markIntS_SC (l : List Int) (hl : l.length ≤ 2 ^ 30) :
    SC cfg.P i_laws_markIntS [.s (.msl t_int (.int .i64) l), .s (.v (.int .i64) (1 : Int))] (.s (.v (.int .i64) ((1 + l.length : Nat) : Int))) [.row t_int (.int .i64) (mkI l.length)] := by
  have key := loop_up (P := cfg.P) (np := 2) (c := lb P_laws_markIntS 0) (fun i (m : List Int) => laws_markIntS_L0a ((1 + i : Nat) : Int) (i : Int) m) (fun m => laws_markIntS_L0X1 ((1 + l.length : Nat) : Int) (l.length : Int) false m)
    (fun i m => m.set i ((1 + i : Nat) : Int)) (fun _ m => m.length = l.length) l.length
    (fun i m hi hm => ⟨by rw [List.length_set]; exact hm, fun e st hn => by
      have e1 : IntKind.wrap .i64 (((1 + i : Nat) : Int) + 1) = ((1 + (i + 1) : Nat) : Int) := by rw [w64] <;> omega
      rw [← wrap_succ (by omega), ← e1] at hn
      rw [show (i : Nat) = ((i : Int)).toNat from rfl] at hn
      exact laws_markIntS_L0a_i1 _ _ _ (by omega) (by omega) (by omega) (by omega) hn⟩)
    (fun m hm => laws_markIntS_L0a_x2 _ _ _ (by omega)) l.length 0 l (by omega) rfl
  have hL := key.1
  rw [itr_setR (fun i => ((1 + i : Nat) : Int)) l.length 0 l (by omega), List.take_zero, List.nil_append] at hL
  exact laws_markIntS_p1 _ _ _ _ _ _ hL

theorem heldIntS_SC (n : Nat) (hn : n ≤ 2 ^ 30) : SC cfg.P i_laws_heldIntS [.s (.v (.sl (.int .i64)) (mkI n)), .s (.v (.int .i64) (1 : Int))] (.s (.v (.int .i64) ((1 + n : Nat) : Int))) [] := by
  have hl := mkI_length n
  have key := loop_up (P := cfg.P) (np := 2) (c := lb P_laws_heldIntS 0) (fun i (_ : Unit) => laws_heldIntS_L0a (mkI n) ((1 + i : Nat) : Int) (i : Int)) (fun _ => laws_heldIntS_L0X2 (mkI n) ((1 + n : Nat) : Int) (n : Int) false)
    (fun _ u => u) (fun _ _ => True) n
    (fun i u hi _ => ⟨trivial, fun e st hn' => by
      have e1 : IntKind.wrap .i64 (((1 + i : Nat) : Int) + 1) = ((1 + (i + 1) : Nat) : Int) := by rw [w64] <;> omega
      rw [← wrap_succ (by omega), ← e1] at hn'
      exact laws_heldIntS_L0a_i2 _ _ _ (by omega) (by omega) (by omega) (by rw [Int.toNat_natCast, mkI_get hi]) hn'⟩)
    (fun u _ => laws_heldIntS_L0a_x3 _ _ _ (by omega)) n 0 () (by omega) trivial
  exact laws_heldIntS_p2 _ _ _ _ _ _ key.1

end Go.AI
