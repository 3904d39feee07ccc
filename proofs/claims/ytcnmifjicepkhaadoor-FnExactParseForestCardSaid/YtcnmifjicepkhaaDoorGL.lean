/- A part of the road: what it proves stands in its last texts. -/
import Derived.Test.YtcnmifjicepkhaaDoorSIds
import Derived.Test.YtcnmifjicepkhaaDoorProg
set_option autoImplicit false
set_option maxRecDepth 100000
set_option linter.unusedVariables false
namespace Go.AI
open Go.Proofs

/-! ### laws_eqStringS -/


def laws_eqStringS_L0a (x0 : (List ByteArray)) (x1 : (List ByteArray)) (x5 : Int) : St := mkSt 26 [(0, .s (.v (.sl .str) x0)), (1, .s (.v (.sl .str) x1)), (5, .s (.v (.int .i64) x5))] []

def laws_eqStringS_L0X1 (y4 : Bool) : St := mkSt 26 [(4, .s (.v .bool y4))] []

def laws_eqStringS_L0X2 (y0 : (List ByteArray)) (y1 : (List ByteArray)) (y5 : Int) (y14 : Bool) : St := mkSt 26 [(0, .s (.v (.sl .str) y0)), (1, .s (.v (.sl .str) y1)), (5, .s (.v (.int .i64) y5)), (14, .s (.v .bool y14))] []

theorem laws_eqStringS_L0a_x1 (x0 : (List ByteArray)) (x1 : (List ByteArray)) (x5 : Int)
    (h1 : x5 < ((List.length x0 : Nat) : Int))
    (h2 : 0 ≤ x5)
    (h3 : x5 < (List.length x0 : Int))
    (h4 : x5 < (List.length x1 : Int))
    (h5 : (List.getD x0 (x5).toNat (⟨#[]⟩ : ByteArray)) ≠ (List.getD x1 (x5).toNat (⟨#[]⟩ : ByteArray))) :
    LoopSC cfg.P 2 (lb P_laws_eqStringS 0) (laws_eqStringS_L0a x0 x1 x5) (.ret) (laws_eqStringS_L0X1 false) :=
  loop_out cfgOK (f := i_laws_eqStringS) (its := [.bool true, .bool true])
    (ps := [decide (x5 < ((List.length x0 : Nat) : Int)) = true,
      0 ≤ x5,
      x5 < (List.length x0 : Int),
      0 ≤ x5,
      x5 < (List.length x1 : Int),
      (!(((List.getD x0 (x5).toNat (⟨#[]⟩ : ByteArray))).toList == ((List.getD x1 (x5).toNat (⟨#[]⟩ : ByteArray))).toList)) = true]) (by kernel_rfl) ⟨(decide_eq_true h1), h2, h3, h2, h4, (nseq_t h5), trivial⟩ (fun h => by cases h)

theorem laws_eqStringS_L0a_i2 (x0 : (List ByteArray)) (x1 : (List ByteArray)) (x5 : Int)
    (h1 : x5 < ((List.length x0 : Nat) : Int))
    (h2 : 0 ≤ x5)
    (h3 : x5 < (List.length x0 : Int))
    (h4 : x5 < (List.length x1 : Int))
    (h5 : (List.getD x0 (x5).toNat (⟨#[]⟩ : ByteArray)) = (List.getD x1 (x5).toNat (⟨#[]⟩ : ByteArray)))
    {e : AEx} {st : St} (next : LoopSC cfg.P 2 (lb P_laws_eqStringS 0) (laws_eqStringS_L0a x0 x1 (IntKind.wrap .i64 (x5 + (1 : Int)))) e st) :
    LoopSC cfg.P 2 (lb P_laws_eqStringS 0) (laws_eqStringS_L0a x0 x1 x5) e st :=
  loop_iter cfgOK (f := i_laws_eqStringS) (its := [.bool true, .bool false])
    (ps := [decide (x5 < ((List.length x0 : Nat) : Int)) = true,
      0 ≤ x5,
      x5 < (List.length x0 : Int),
      0 ≤ x5,
      x5 < (List.length x1 : Int),
      (!(((List.getD x0 (x5).toNat (⟨#[]⟩ : ByteArray))).toList == ((List.getD x1 (x5).toNat (⟨#[]⟩ : ByteArray))).toList)) = false]) (st1 := laws_eqStringS_L0a x0 x1 (IntKind.wrap .i64 (x5 + (1 : Int)))) (by kernel_rfl) ⟨(decide_eq_true h1), h2, h3, h2, h4, (nseq_f h5), trivial⟩ next

theorem laws_eqStringS_L0a_x3 (x0 : (List ByteArray)) (x1 : (List ByteArray)) (x5 : Int)
    (h1 : ¬ (x5 < ((List.length x0 : Nat) : Int))) :
    LoopSC cfg.P 2 (lb P_laws_eqStringS 0) (laws_eqStringS_L0a x0 x1 x5) (.exit 0) (laws_eqStringS_L0X2 x0 x1 x5 false) :=
  loop_out cfgOK (f := i_laws_eqStringS) (its := [.bool false])
    (ps := [decide (x5 < ((List.length x0 : Nat) : Int)) = false]) (by kernel_rfl) ⟨(decide_eq_false h1), trivial⟩ (fun h => by cases h)

theorem laws_eqStringS_p1 (a0 : (List ByteArray)) (a1 : (List ByteArray))
    (h1 : ((List.length a0 : Nat) : Int) ≠ ((List.length a1 : Nat) : Int)) :
    SC cfg.P i_laws_eqStringS [.s (.v (.sl .str) a0), .s (.v (.sl .str) a1)] (.s (.v .bool false)) [] :=
  SC_of_run cfgOK (its := [.bool true])
    (ps := [(((List.length a0 : Nat) : Int) != ((List.length a1 : Nat) : Int)) = true]) (by kernel_rfl) ⟨(bne_t h1), trivial⟩ get_laws_eqStringS (by decide)

theorem laws_eqStringS_p2 (a0 : (List ByteArray)) (a1 : (List ByteArray)) (k1y4 : Bool)
    (h1 : ((List.length a0 : Nat) : Int) = ((List.length a1 : Nat) : Int))
    (h2 : LoopSC cfg.P 2 (lb P_laws_eqStringS 0) (laws_eqStringS_L0a a0 a1 (0 : Int)) (.ret) (laws_eqStringS_L0X1 k1y4)) :
    SC cfg.P i_laws_eqStringS [.s (.v (.sl .str) a0), .s (.v (.sl .str) a1)] (.s (.v .bool k1y4)) [] :=
  SC_of_run cfgOK (its := [.bool false, .loop (fun _ => (.ret, laws_eqStringS_L0X1 k1y4))])
    (ps := [(((List.length a0 : Nat) : Int) != ((List.length a1 : Nat) : Int)) = false,
      LoopSC cfg.P 2 (lb P_laws_eqStringS 0) (laws_eqStringS_L0a a0 a1 (0 : Int)) (.ret) (laws_eqStringS_L0X1 k1y4)]) (by kernel_rfl) ⟨(bne_f h1), h2, trivial⟩ get_laws_eqStringS (by decide)

theorem laws_eqStringS_p3 (a0 : (List ByteArray)) (a1 : (List ByteArray)) (k1y0 : (List ByteArray)) (k1y1 : (List ByteArray)) (k1y5 : Int) (k1y14 : Bool)
    (h1 : ((List.length a0 : Nat) : Int) = ((List.length a1 : Nat) : Int))
    (h2 : LoopSC cfg.P 2 (lb P_laws_eqStringS 0) (laws_eqStringS_L0a a0 a1 (0 : Int)) (.exit 0) (laws_eqStringS_L0X2 k1y0 k1y1 k1y5 k1y14)) :
    SC cfg.P i_laws_eqStringS [.s (.v (.sl .str) a0), .s (.v (.sl .str) a1)] (.s (.v .bool true)) [] :=
  SC_of_run cfgOK (its := [.bool false, .loop (fun _ => (.exit 0, laws_eqStringS_L0X2 k1y0 k1y1 k1y5 k1y14))])
    (ps := [(((List.length a0 : Nat) : Int) != ((List.length a1 : Nat) : Int)) = false,
      LoopSC cfg.P 2 (lb P_laws_eqStringS 0) (laws_eqStringS_L0a a0 a1 (0 : Int)) (.exit 0) (laws_eqStringS_L0X2 k1y0 k1y1 k1y5 k1y14)]) (by kernel_rfl) ⟨(bne_f h1), h2, trivial⟩ get_laws_eqStringS (by decide)

/-! ### laws_markStringS -/


def laws_markStringS_L0a (x1 : Int) (x5 : Int) (xo0 : (List ByteArray)) : St := mkSt 20 [(0, .s (.osl 0 0)), (1, .s (.v (.int .i64) x1)), (5, .s (.v (.int .i64) x5))] [(0, .row t_string .str xo0 0 false)]

def laws_markStringS_L0X1 (y1 : Int) (y5 : Int) (y9 : Bool) (yo0 : (List ByteArray)) : St := mkSt 20 [(0, .s (.osl 0 0)), (1, .s (.v (.int .i64) y1)), (5, .s (.v (.int .i64) y5)), (9, .s (.v .bool y9))] [(0, .row t_string .str yo0 0 false)]

theorem laws_markStringS_L0a_i1 (x1 : Int) (x5 : Int) (xo0 : (List ByteArray)) (dc1 : ByteArray)
    (h1 : x5 < ((List.length xo0 : Nat) : Int))
    (h2 : SC cfg.P i_laws_markText [.s (.v (.int .i64) x1)] (.s (.v .str dc1)) [])
    (h3 : 0 ≤ x5)
    (h4 : x5 < (List.length xo0 : Int))
    (h5 : (x5).toNat < List.length xo0)
    {e : AEx} {st : St} (next : LoopSC cfg.P 2 (lb P_laws_markStringS 0) (laws_markStringS_L0a (IntKind.wrap .i64 (x1 + (1 : Int))) (IntKind.wrap .i64 (x5 + (1 : Int))) (List.set xo0 (x5).toNat dc1)) e st) :
    LoopSC cfg.P 2 (lb P_laws_markStringS 0) (laws_markStringS_L0a x1 x5 xo0) e st :=
  loop_iter cfgOK (f := i_laws_markStringS) (its := [.bool true, .res (.s (.v .str dc1)) [] [] []])
    (ps := [decide (x5 < ((List.length xo0 : Nat) : Int)) = true,
      SC cfg.P i_laws_markText [.s (.v (.int .i64) x1)] (.s (.v .str dc1)) [],
      0 ≤ x5,
      x5 < (List.length xo0 : Int),
      (x5).toNat < List.length xo0]) (st1 := laws_markStringS_L0a (IntKind.wrap .i64 (x1 + (1 : Int))) (IntKind.wrap .i64 (x5 + (1 : Int))) (List.set xo0 (x5).toNat dc1)) (by kernel_rfl) ⟨(decide_eq_true h1), h2, h3, h4, h5, trivial⟩ next

theorem laws_markStringS_L0a_x2 (x1 : Int) (x5 : Int) (xo0 : (List ByteArray))
    (h1 : ¬ (x5 < ((List.length xo0 : Nat) : Int))) :
    LoopSC cfg.P 2 (lb P_laws_markStringS 0) (laws_markStringS_L0a x1 x5 xo0) (.exit 0) (laws_markStringS_L0X1 x1 x5 false xo0) :=
  loop_out cfgOK (f := i_laws_markStringS) (its := [.bool false])
    (ps := [decide (x5 < ((List.length xo0 : Nat) : Int)) = false]) (by kernel_rfl) ⟨(decide_eq_false h1), trivial⟩ (fun h => by cases h)

theorem laws_markStringS_p1 (a0 : (List ByteArray)) (a1 : Int) (k1y1 : Int) (k1y5 : Int) (k1y9 : Bool) (k1yo0 : (List ByteArray))
    (h1 : LoopSC cfg.P 2 (lb P_laws_markStringS 0) (laws_markStringS_L0a a1 (0 : Int) a0) (.exit 0) (laws_markStringS_L0X1 k1y1 k1y5 k1y9 k1yo0)) :
    SC cfg.P i_laws_markStringS [.s (.msl t_string .str a0), .s (.v (.int .i64) a1)] (.s (.v (.int .i64) k1y1)) [.row t_string .str k1yo0] :=
  SC_of_run cfgOK (its := [.loop (fun _ => (.exit 0, laws_markStringS_L0X1 k1y1 k1y5 k1y9 k1yo0))])
    (ps := [LoopSC cfg.P 2 (lb P_laws_markStringS 0) (laws_markStringS_L0a a1 (0 : Int) a0) (.exit 0) (laws_markStringS_L0X1 k1y1 k1y5 k1y9 k1yo0)]) (by kernel_rfl) ⟨h1, trivial⟩ get_laws_markStringS (by decide)

/-! ### laws_heldStringS -/


def laws_heldStringS_L0a (x0 : (List ByteArray)) (x1 : Int) (x5 : Int) : St := mkSt 22 [(0, .s (.v (.sl .str) x0)), (1, .s (.v (.int .i64) x1)), (5, .s (.v (.int .i64) x5))] []

def laws_heldStringS_L0X1 (y4 : Int) : St := mkSt 22 [(4, .s (.v (.int .i64) y4))] []

def laws_heldStringS_L0X2 (y0 : (List ByteArray)) (y1 : Int) (y5 : Int) (y9 : Bool) : St := mkSt 22 [(0, .s (.v (.sl .str) y0)), (1, .s (.v (.int .i64) y1)), (5, .s (.v (.int .i64) y5)), (9, .s (.v .bool y9))] []

theorem laws_heldStringS_L0a_x1 (x0 : (List ByteArray)) (x1 : Int) (x5 : Int) (dc1 : ByteArray)
    (h1 : x5 < ((List.length x0 : Nat) : Int))
    (h2 : 0 ≤ x5)
    (h3 : x5 < (List.length x0 : Int))
    (h4 : SC cfg.P i_laws_markText [.s (.v (.int .i64) x1)] (.s (.v .str dc1)) [])
    (h5 : (List.getD x0 (x5).toNat (⟨#[]⟩ : ByteArray)) ≠ dc1) :
    LoopSC cfg.P 2 (lb P_laws_heldStringS 0) (laws_heldStringS_L0a x0 x1 x5) (.ret) (laws_heldStringS_L0X1 (-1 : Int)) :=
  loop_out cfgOK (f := i_laws_heldStringS) (its := [.bool true, .res (.s (.v .str dc1)) [] [] [], .bool true])
    (ps := [decide (x5 < ((List.length x0 : Nat) : Int)) = true,
      0 ≤ x5,
      x5 < (List.length x0 : Int),
      SC cfg.P i_laws_markText [.s (.v (.int .i64) x1)] (.s (.v .str dc1)) [],
      (!(((List.getD x0 (x5).toNat (⟨#[]⟩ : ByteArray))).toList == (dc1).toList)) = true]) (by kernel_rfl) ⟨(decide_eq_true h1), h2, h3, h4, (nseq_t h5), trivial⟩ (fun h => by cases h)

theorem laws_heldStringS_L0a_i2 (x0 : (List ByteArray)) (x1 : Int) (x5 : Int) (dc1 : ByteArray)
    (h1 : x5 < ((List.length x0 : Nat) : Int))
    (h2 : 0 ≤ x5)
    (h3 : x5 < (List.length x0 : Int))
    (h4 : SC cfg.P i_laws_markText [.s (.v (.int .i64) x1)] (.s (.v .str dc1)) [])
    (h5 : (List.getD x0 (x5).toNat (⟨#[]⟩ : ByteArray)) = dc1)
    {e : AEx} {st : St} (next : LoopSC cfg.P 2 (lb P_laws_heldStringS 0) (laws_heldStringS_L0a x0 (IntKind.wrap .i64 (x1 + (1 : Int))) (IntKind.wrap .i64 (x5 + (1 : Int)))) e st) :
    LoopSC cfg.P 2 (lb P_laws_heldStringS 0) (laws_heldStringS_L0a x0 x1 x5) e st :=
  loop_iter cfgOK (f := i_laws_heldStringS) (its := [.bool true, .res (.s (.v .str dc1)) [] [] [], .bool false])
    (ps := [decide (x5 < ((List.length x0 : Nat) : Int)) = true,
      0 ≤ x5,
      x5 < (List.length x0 : Int),
      SC cfg.P i_laws_markText [.s (.v (.int .i64) x1)] (.s (.v .str dc1)) [],
      (!(((List.getD x0 (x5).toNat (⟨#[]⟩ : ByteArray))).toList == (dc1).toList)) = false]) (st1 := laws_heldStringS_L0a x0 (IntKind.wrap .i64 (x1 + (1 : Int))) (IntKind.wrap .i64 (x5 + (1 : Int)))) (by kernel_rfl) ⟨(decide_eq_true h1), h2, h3, h4, (nseq_f h5), trivial⟩ next

theorem laws_heldStringS_L0a_x3 (x0 : (List ByteArray)) (x1 : Int) (x5 : Int)
    (h1 : ¬ (x5 < ((List.length x0 : Nat) : Int))) :
    LoopSC cfg.P 2 (lb P_laws_heldStringS 0) (laws_heldStringS_L0a x0 x1 x5) (.exit 0) (laws_heldStringS_L0X2 x0 x1 x5 false) :=
  loop_out cfgOK (f := i_laws_heldStringS) (its := [.bool false])
    (ps := [decide (x5 < ((List.length x0 : Nat) : Int)) = false]) (by kernel_rfl) ⟨(decide_eq_false h1), trivial⟩ (fun h => by cases h)

theorem laws_heldStringS_p1 (a0 : (List ByteArray)) (a1 : Int) (k1y4 : Int)
    (h1 : LoopSC cfg.P 2 (lb P_laws_heldStringS 0) (laws_heldStringS_L0a a0 a1 (0 : Int)) (.ret) (laws_heldStringS_L0X1 k1y4)) :
    SC cfg.P i_laws_heldStringS [.s (.v (.sl .str) a0), .s (.v (.int .i64) a1)] (.s (.v (.int .i64) k1y4)) [] :=
  SC_of_run cfgOK (its := [.loop (fun _ => (.ret, laws_heldStringS_L0X1 k1y4))])
    (ps := [LoopSC cfg.P 2 (lb P_laws_heldStringS 0) (laws_heldStringS_L0a a0 a1 (0 : Int)) (.ret) (laws_heldStringS_L0X1 k1y4)]) (by kernel_rfl) ⟨h1, trivial⟩ get_laws_heldStringS (by decide)

theorem laws_heldStringS_p2 (a0 : (List ByteArray)) (a1 : Int) (k1y0 : (List ByteArray)) (k1y1 : Int) (k1y5 : Int) (k1y9 : Bool)
    (h1 : LoopSC cfg.P 2 (lb P_laws_heldStringS 0) (laws_heldStringS_L0a a0 a1 (0 : Int)) (.exit 0) (laws_heldStringS_L0X2 k1y0 k1y1 k1y5 k1y9)) :
    SC cfg.P i_laws_heldStringS [.s (.v (.sl .str) a0), .s (.v (.int .i64) a1)] (.s (.v (.int .i64) k1y1)) [] :=
  SC_of_run cfgOK (its := [.loop (fun _ => (.exit 0, laws_heldStringS_L0X2 k1y0 k1y1 k1y5 k1y9))])
    (ps := [LoopSC cfg.P 2 (lb P_laws_heldStringS 0) (laws_heldStringS_L0a a0 a1 (0 : Int)) (.exit 0) (laws_heldStringS_L0X2 k1y0 k1y1 k1y5 k1y9)]) (by kernel_rfl) ⟨h1, trivial⟩ get_laws_heldStringS (by decide)

/-! ### laws_markText -/


def laws_markText_L0a (x0 : Int) (x3 : ByteArray) : St := mkSt 20 [(0, .s (.v (.int .i64) x0)), (3, .s (.v .str x3))] []

def laws_markText_L0X1 (y0 : Int) (y3 : ByteArray) (y7 : Bool) : St := mkSt 20 [(0, .s (.v (.int .i64) y0)), (3, .s (.v .str y3)), (7, .s (.v .bool y7))] []

theorem laws_markText_L0a_i1 (x0 : Int) (x3 : ByteArray)
    (h1 : x0 > (0 : Int))
    (h2 : (10 : Int) ≠ 0)
    (h3 : ((strOf ([(IntKind.wrap .u8 (IntKind.wrap .i64 ((48 : Int) + (Int.tmod x0 (10 : Int)))))] : List Int))).size + (x3).size ≤ 2 ^ 62)
    {e : AEx} {st : St} (next : LoopSC cfg.P 1 (lb P_laws_markText 0) (laws_markText_L0a (IntKind.wrap .i64 (Int.tdiv x0 (10 : Int))) ((strOf ([(IntKind.wrap .u8 (IntKind.wrap .i64 ((48 : Int) + (Int.tmod x0 (10 : Int)))))] : List Int)) ++ x3)) e st) :
    LoopSC cfg.P 1 (lb P_laws_markText 0) (laws_markText_L0a x0 x3) e st :=
  loop_iter cfgOK (f := i_laws_markText) (its := [.bool true])
    (ps := [decide (x0 > (0 : Int)) = true,
      (10 : Int) ≠ 0,
      ((strOf ([(IntKind.wrap .u8 (IntKind.wrap .i64 ((48 : Int) + (Int.tmod x0 (10 : Int)))))] : List Int))).size + (x3).size ≤ 2 ^ 62,
      (10 : Int) ≠ 0]) (st1 := laws_markText_L0a (IntKind.wrap .i64 (Int.tdiv x0 (10 : Int))) ((strOf ([(IntKind.wrap .u8 (IntKind.wrap .i64 ((48 : Int) + (Int.tmod x0 (10 : Int)))))] : List Int)) ++ x3)) (by kernel_rfl) ⟨(decide_eq_true h1), h2, h3, h2, trivial⟩ next

theorem laws_markText_L0a_x2 (x0 : Int) (x3 : ByteArray)
    (h1 : ¬ (x0 > (0 : Int))) :
    LoopSC cfg.P 1 (lb P_laws_markText 0) (laws_markText_L0a x0 x3) (.exit 0) (laws_markText_L0X1 x0 x3 false) :=
  loop_out cfgOK (f := i_laws_markText) (its := [.bool false])
    (ps := [decide (x0 > (0 : Int)) = false]) (by kernel_rfl) ⟨(decide_eq_false h1), trivial⟩ (fun h => by cases h)

theorem laws_markText_p1 (a0 : Int)
    (h1 : a0 ≤ (0 : Int)) :
    SC cfg.P i_laws_markText [.s (.v (.int .i64) a0)] (.s (.v .str (⟨#[109, 48]⟩ : ByteArray))) [] :=
  SC_of_run cfgOK (its := [.bool true])
    (ps := [decide (a0 ≤ (0 : Int)) = true]) (by kernel_rfl) ⟨(decide_eq_true h1), trivial⟩ get_laws_markText (by decide)

theorem laws_markText_p2 (a0 : Int) (k1y0 : Int) (k1y3 : ByteArray) (k1y7 : Bool)
    (h1 : ¬ (a0 ≤ (0 : Int)))
    (h2 : LoopSC cfg.P 1 (lb P_laws_markText 0) (laws_markText_L0a a0 (⟨#[]⟩ : ByteArray)) (.exit 0) (laws_markText_L0X1 k1y0 k1y3 k1y7))
    (h3 : ((⟨#[109]⟩ : ByteArray)).size + (k1y3).size ≤ 2 ^ 62) :
    SC cfg.P i_laws_markText [.s (.v (.int .i64) a0)] (.s (.v .str ((⟨#[109]⟩ : ByteArray) ++ k1y3))) [] :=
  SC_of_run cfgOK (its := [.bool false, .loop (fun _ => (.exit 0, laws_markText_L0X1 k1y0 k1y3 k1y7))])
    (ps := [decide (a0 ≤ (0 : Int)) = false,
      LoopSC cfg.P 1 (lb P_laws_markText 0) (laws_markText_L0a a0 (⟨#[]⟩ : ByteArray)) (.exit 0) (laws_markText_L0X1 k1y0 k1y3 k1y7),
      ((⟨#[109]⟩ : ByteArray)).size + (k1y3).size ≤ 2 ^ 62]) (by kernel_rfl) ⟨(decide_eq_false h1), h2, h3, trivial⟩ get_laws_markText (by decide)

end Go.AI
