/- A part of the road: what it proves stands in its last texts. -/
import Derived.Test.YtlkjnlhpdjbjdaaSIds
import Derived.Test.YtlkjnlhpdjbjdaaProg
set_option autoImplicit false
set_option maxRecDepth 100000
set_option linter.unusedVariables false
namespace Go.AI
open Go.Proofs

/-! ### laws_eqIntS -/


def laws_eqIntS_L0a (x0 : (List Int)) (x1 : (List Int)) (x5 : Int) : St := mkSt 26 [(0, .s (.v (.sl (.int .i64)) x0)), (1, .s (.v (.sl (.int .i64)) x1)), (5, .s (.v (.int .i64) x5))] []

def laws_eqIntS_L0X1 (y4 : Bool) : St := mkSt 26 [(4, .s (.v .bool y4))] []

def laws_eqIntS_L0X2 (y0 : (List Int)) (y1 : (List Int)) (y5 : Int) (y14 : Bool) : St := mkSt 26 [(0, .s (.v (.sl (.int .i64)) y0)), (1, .s (.v (.sl (.int .i64)) y1)), (5, .s (.v (.int .i64) y5)), (14, .s (.v .bool y14))] []

theorem laws_eqIntS_L0a_x1 (x0 : (List Int)) (x1 : (List Int)) (x5 : Int)
    (h1 : x5 < ((List.length x0 : Nat) : Int))
    (h2 : 0 ≤ x5)
    (h3 : x5 < (List.length x0 : Int))
    (h4 : x5 < (List.length x1 : Int))
    (h5 : (List.getD x0 (x5).toNat (0 : Int)) ≠ (List.getD x1 (x5).toNat (0 : Int))) :
    LoopSC cfg.P 2 (lb P_laws_eqIntS 0) (laws_eqIntS_L0a x0 x1 x5) (.ret) (laws_eqIntS_L0X1 false) :=
  loop_out cfgOK (f := i_laws_eqIntS) (its := [.bool true, .bool true])
    (ps := [decide (x5 < ((List.length x0 : Nat) : Int)) = true,
      0 ≤ x5,
      x5 < (List.length x0 : Int),
      0 ≤ x5,
      x5 < (List.length x1 : Int),
      ((List.getD x0 (x5).toNat (0 : Int)) != (List.getD x1 (x5).toNat (0 : Int))) = true]) (by kernel_rfl) ⟨(decide_eq_true h1), h2, h3, h2, h4, (bne_t h5), trivial⟩ (fun h => by cases h)

theorem laws_eqIntS_L0a_i2 (x0 : (List Int)) (x1 : (List Int)) (x5 : Int)
    (h1 : x5 < ((List.length x0 : Nat) : Int))
    (h2 : 0 ≤ x5)
    (h3 : x5 < (List.length x0 : Int))
    (h4 : x5 < (List.length x1 : Int))
    (h5 : (List.getD x0 (x5).toNat (0 : Int)) = (List.getD x1 (x5).toNat (0 : Int)))
    {e : AEx} {st : St} (next : LoopSC cfg.P 2 (lb P_laws_eqIntS 0) (laws_eqIntS_L0a x0 x1 (IntKind.wrap .i64 (x5 + (1 : Int)))) e st) :
    LoopSC cfg.P 2 (lb P_laws_eqIntS 0) (laws_eqIntS_L0a x0 x1 x5) e st :=
  loop_iter cfgOK (f := i_laws_eqIntS) (its := [.bool true, .bool false])
    (ps := [decide (x5 < ((List.length x0 : Nat) : Int)) = true,
      0 ≤ x5,
      x5 < (List.length x0 : Int),
      0 ≤ x5,
      x5 < (List.length x1 : Int),
      ((List.getD x0 (x5).toNat (0 : Int)) != (List.getD x1 (x5).toNat (0 : Int))) = false]) (st1 := laws_eqIntS_L0a x0 x1 (IntKind.wrap .i64 (x5 + (1 : Int)))) (by kernel_rfl) ⟨(decide_eq_true h1), h2, h3, h2, h4, (bne_f h5), trivial⟩ next

theorem laws_eqIntS_L0a_x3 (x0 : (List Int)) (x1 : (List Int)) (x5 : Int)
    (h1 : ¬ (x5 < ((List.length x0 : Nat) : Int))) :
    LoopSC cfg.P 2 (lb P_laws_eqIntS 0) (laws_eqIntS_L0a x0 x1 x5) (.exit 0) (laws_eqIntS_L0X2 x0 x1 x5 false) :=
  loop_out cfgOK (f := i_laws_eqIntS) (its := [.bool false])
    (ps := [decide (x5 < ((List.length x0 : Nat) : Int)) = false]) (by kernel_rfl) ⟨(decide_eq_false h1), trivial⟩ (fun h => by cases h)

theorem laws_eqIntS_p1 (a0 : (List Int)) (a1 : (List Int))
    (h1 : ((List.length a0 : Nat) : Int) ≠ ((List.length a1 : Nat) : Int)) :
    SC cfg.P i_laws_eqIntS [.s (.v (.sl (.int .i64)) a0), .s (.v (.sl (.int .i64)) a1)] (.s (.v .bool false)) [] :=
  SC_of_run cfgOK (its := [.bool true])
    (ps := [(((List.length a0 : Nat) : Int) != ((List.length a1 : Nat) : Int)) = true]) (by kernel_rfl) ⟨(bne_t h1), trivial⟩ get_laws_eqIntS (by decide)

theorem laws_eqIntS_p2 (a0 : (List Int)) (a1 : (List Int)) (k1y4 : Bool)
    (h1 : ((List.length a0 : Nat) : Int) = ((List.length a1 : Nat) : Int))
    (h2 : LoopSC cfg.P 2 (lb P_laws_eqIntS 0) (laws_eqIntS_L0a a0 a1 (0 : Int)) (.ret) (laws_eqIntS_L0X1 k1y4)) :
    SC cfg.P i_laws_eqIntS [.s (.v (.sl (.int .i64)) a0), .s (.v (.sl (.int .i64)) a1)] (.s (.v .bool k1y4)) [] :=
  SC_of_run cfgOK (its := [.bool false, .loop (fun _ => (.ret, laws_eqIntS_L0X1 k1y4))])
    (ps := [(((List.length a0 : Nat) : Int) != ((List.length a1 : Nat) : Int)) = false,
      LoopSC cfg.P 2 (lb P_laws_eqIntS 0) (laws_eqIntS_L0a a0 a1 (0 : Int)) (.ret) (laws_eqIntS_L0X1 k1y4)]) (by kernel_rfl) ⟨(bne_f h1), h2, trivial⟩ get_laws_eqIntS (by decide)

theorem laws_eqIntS_p3 (a0 : (List Int)) (a1 : (List Int)) (k1y0 : (List Int)) (k1y1 : (List Int)) (k1y5 : Int) (k1y14 : Bool)
    (h1 : ((List.length a0 : Nat) : Int) = ((List.length a1 : Nat) : Int))
    (h2 : LoopSC cfg.P 2 (lb P_laws_eqIntS 0) (laws_eqIntS_L0a a0 a1 (0 : Int)) (.exit 0) (laws_eqIntS_L0X2 k1y0 k1y1 k1y5 k1y14)) :
    SC cfg.P i_laws_eqIntS [.s (.v (.sl (.int .i64)) a0), .s (.v (.sl (.int .i64)) a1)] (.s (.v .bool true)) [] :=
  SC_of_run cfgOK (its := [.bool false, .loop (fun _ => (.exit 0, laws_eqIntS_L0X2 k1y0 k1y1 k1y5 k1y14))])
    (ps := [(((List.length a0 : Nat) : Int) != ((List.length a1 : Nat) : Int)) = false,
      LoopSC cfg.P 2 (lb P_laws_eqIntS 0) (laws_eqIntS_L0a a0 a1 (0 : Int)) (.exit 0) (laws_eqIntS_L0X2 k1y0 k1y1 k1y5 k1y14)]) (by kernel_rfl) ⟨(bne_f h1), h2, trivial⟩ get_laws_eqIntS (by decide)

/-! ### laws_markIntS -/


def laws_markIntS_L0a (x1 : Int) (x5 : Int) (xo0 : (List Int)) : St := mkSt 19 [(0, .s (.osl 0 0)), (1, .s (.v (.int .i64) x1)), (5, .s (.v (.int .i64) x5))] [(0, .row t_int (.int .i64) xo0 0 false)]

def laws_markIntS_L0X1 (y1 : Int) (y5 : Int) (y9 : Bool) (yo0 : (List Int)) : St := mkSt 19 [(0, .s (.osl 0 0)), (1, .s (.v (.int .i64) y1)), (5, .s (.v (.int .i64) y5)), (9, .s (.v .bool y9))] [(0, .row t_int (.int .i64) yo0 0 false)]

theorem laws_markIntS_L0a_i1 (x1 : Int) (x5 : Int) (xo0 : (List Int))
    (h1 : x5 < ((List.length xo0 : Nat) : Int))
    (h2 : 0 ≤ x5)
    (h3 : x5 < (List.length xo0 : Int))
    (h4 : (x5).toNat < List.length xo0)
    {e : AEx} {st : St} (next : LoopSC cfg.P 2 (lb P_laws_markIntS 0) (laws_markIntS_L0a (IntKind.wrap .i64 (x1 + (1 : Int))) (IntKind.wrap .i64 (x5 + (1 : Int))) (List.set xo0 (x5).toNat x1)) e st) :
    LoopSC cfg.P 2 (lb P_laws_markIntS 0) (laws_markIntS_L0a x1 x5 xo0) e st :=
  loop_iter cfgOK (f := i_laws_markIntS) (its := [.bool true])
    (ps := [decide (x5 < ((List.length xo0 : Nat) : Int)) = true,
      0 ≤ x5,
      x5 < (List.length xo0 : Int),
      (x5).toNat < List.length xo0]) (st1 := laws_markIntS_L0a (IntKind.wrap .i64 (x1 + (1 : Int))) (IntKind.wrap .i64 (x5 + (1 : Int))) (List.set xo0 (x5).toNat x1)) (by kernel_rfl) ⟨(decide_eq_true h1), h2, h3, h4, trivial⟩ next

theorem laws_markIntS_L0a_x2 (x1 : Int) (x5 : Int) (xo0 : (List Int))
    (h1 : ¬ (x5 < ((List.length xo0 : Nat) : Int))) :
    LoopSC cfg.P 2 (lb P_laws_markIntS 0) (laws_markIntS_L0a x1 x5 xo0) (.exit 0) (laws_markIntS_L0X1 x1 x5 false xo0) :=
  loop_out cfgOK (f := i_laws_markIntS) (its := [.bool false])
    (ps := [decide (x5 < ((List.length xo0 : Nat) : Int)) = false]) (by kernel_rfl) ⟨(decide_eq_false h1), trivial⟩ (fun h => by cases h)

theorem laws_markIntS_p1 (a0 : (List Int)) (a1 : Int) (k1y1 : Int) (k1y5 : Int) (k1y9 : Bool) (k1yo0 : (List Int))
    (h1 : LoopSC cfg.P 2 (lb P_laws_markIntS 0) (laws_markIntS_L0a a1 (0 : Int) a0) (.exit 0) (laws_markIntS_L0X1 k1y1 k1y5 k1y9 k1yo0)) :
    SC cfg.P i_laws_markIntS [.s (.msl t_int (.int .i64) a0), .s (.v (.int .i64) a1)] (.s (.v (.int .i64) k1y1)) [.row t_int (.int .i64) k1yo0] :=
  SC_of_run cfgOK (its := [.loop (fun _ => (.exit 0, laws_markIntS_L0X1 k1y1 k1y5 k1y9 k1yo0))])
    (ps := [LoopSC cfg.P 2 (lb P_laws_markIntS 0) (laws_markIntS_L0a a1 (0 : Int) a0) (.exit 0) (laws_markIntS_L0X1 k1y1 k1y5 k1y9 k1yo0)]) (by kernel_rfl) ⟨h1, trivial⟩ get_laws_markIntS (by decide)

/-! ### laws_heldIntS -/


def laws_heldIntS_L0a (x0 : (List Int)) (x1 : Int) (x5 : Int) : St := mkSt 21 [(0, .s (.v (.sl (.int .i64)) x0)), (1, .s (.v (.int .i64) x1)), (5, .s (.v (.int .i64) x5))] []

def laws_heldIntS_L0X1 (y4 : Int) : St := mkSt 21 [(4, .s (.v (.int .i64) y4))] []

def laws_heldIntS_L0X2 (y0 : (List Int)) (y1 : Int) (y5 : Int) (y9 : Bool) : St := mkSt 21 [(0, .s (.v (.sl (.int .i64)) y0)), (1, .s (.v (.int .i64) y1)), (5, .s (.v (.int .i64) y5)), (9, .s (.v .bool y9))] []

theorem laws_heldIntS_L0a_x1 (x0 : (List Int)) (x1 : Int) (x5 : Int)
    (h1 : x5 < ((List.length x0 : Nat) : Int))
    (h2 : 0 ≤ x5)
    (h3 : x5 < (List.length x0 : Int))
    (h4 : (List.getD x0 (x5).toNat (0 : Int)) ≠ x1) :
    LoopSC cfg.P 2 (lb P_laws_heldIntS 0) (laws_heldIntS_L0a x0 x1 x5) (.ret) (laws_heldIntS_L0X1 (-1 : Int)) :=
  loop_out cfgOK (f := i_laws_heldIntS) (its := [.bool true, .bool true])
    (ps := [decide (x5 < ((List.length x0 : Nat) : Int)) = true,
      0 ≤ x5,
      x5 < (List.length x0 : Int),
      ((List.getD x0 (x5).toNat (0 : Int)) != x1) = true]) (by kernel_rfl) ⟨(decide_eq_true h1), h2, h3, (bne_t h4), trivial⟩ (fun h => by cases h)

theorem laws_heldIntS_L0a_i2 (x0 : (List Int)) (x1 : Int) (x5 : Int)
    (h1 : x5 < ((List.length x0 : Nat) : Int))
    (h2 : 0 ≤ x5)
    (h3 : x5 < (List.length x0 : Int))
    (h4 : (List.getD x0 (x5).toNat (0 : Int)) = x1)
    {e : AEx} {st : St} (next : LoopSC cfg.P 2 (lb P_laws_heldIntS 0) (laws_heldIntS_L0a x0 (IntKind.wrap .i64 (x1 + (1 : Int))) (IntKind.wrap .i64 (x5 + (1 : Int)))) e st) :
    LoopSC cfg.P 2 (lb P_laws_heldIntS 0) (laws_heldIntS_L0a x0 x1 x5) e st :=
  loop_iter cfgOK (f := i_laws_heldIntS) (its := [.bool true, .bool false])
    (ps := [decide (x5 < ((List.length x0 : Nat) : Int)) = true,
      0 ≤ x5,
      x5 < (List.length x0 : Int),
      ((List.getD x0 (x5).toNat (0 : Int)) != x1) = false]) (st1 := laws_heldIntS_L0a x0 (IntKind.wrap .i64 (x1 + (1 : Int))) (IntKind.wrap .i64 (x5 + (1 : Int)))) (by kernel_rfl) ⟨(decide_eq_true h1), h2, h3, (bne_f h4), trivial⟩ next

theorem laws_heldIntS_L0a_x3 (x0 : (List Int)) (x1 : Int) (x5 : Int)
    (h1 : ¬ (x5 < ((List.length x0 : Nat) : Int))) :
    LoopSC cfg.P 2 (lb P_laws_heldIntS 0) (laws_heldIntS_L0a x0 x1 x5) (.exit 0) (laws_heldIntS_L0X2 x0 x1 x5 false) :=
  loop_out cfgOK (f := i_laws_heldIntS) (its := [.bool false])
    (ps := [decide (x5 < ((List.length x0 : Nat) : Int)) = false]) (by kernel_rfl) ⟨(decide_eq_false h1), trivial⟩ (fun h => by cases h)

theorem laws_heldIntS_p1 (a0 : (List Int)) (a1 : Int) (k1y4 : Int)
    (h1 : LoopSC cfg.P 2 (lb P_laws_heldIntS 0) (laws_heldIntS_L0a a0 a1 (0 : Int)) (.ret) (laws_heldIntS_L0X1 k1y4)) :
    SC cfg.P i_laws_heldIntS [.s (.v (.sl (.int .i64)) a0), .s (.v (.int .i64) a1)] (.s (.v (.int .i64) k1y4)) [] :=
  SC_of_run cfgOK (its := [.loop (fun _ => (.ret, laws_heldIntS_L0X1 k1y4))])
    (ps := [LoopSC cfg.P 2 (lb P_laws_heldIntS 0) (laws_heldIntS_L0a a0 a1 (0 : Int)) (.ret) (laws_heldIntS_L0X1 k1y4)]) (by kernel_rfl) ⟨h1, trivial⟩ get_laws_heldIntS (by decide)

theorem laws_heldIntS_p2 (a0 : (List Int)) (a1 : Int) (k1y0 : (List Int)) (k1y1 : Int) (k1y5 : Int) (k1y9 : Bool)
    (h1 : LoopSC cfg.P 2 (lb P_laws_heldIntS 0) (laws_heldIntS_L0a a0 a1 (0 : Int)) (.exit 0) (laws_heldIntS_L0X2 k1y0 k1y1 k1y5 k1y9)) :
    SC cfg.P i_laws_heldIntS [.s (.v (.sl (.int .i64)) a0), .s (.v (.int .i64) a1)] (.s (.v (.int .i64) k1y1)) [] :=
  SC_of_run cfgOK (its := [.loop (fun _ => (.exit 0, laws_heldIntS_L0X2 k1y0 k1y1 k1y5 k1y9))])
    (ps := [LoopSC cfg.P 2 (lb P_laws_heldIntS 0) (laws_heldIntS_L0a a0 a1 (0 : Int)) (.exit 0) (laws_heldIntS_L0X2 k1y0 k1y1 k1y5 k1y9)]) (by kernel_rfl) ⟨h1, trivial⟩ get_laws_heldIntS (by decide)

end Go.AI
