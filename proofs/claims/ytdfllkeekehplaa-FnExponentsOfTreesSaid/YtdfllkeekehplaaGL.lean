/- A part of the road: what it proves stands in its last texts. -/
import Derived.Test.YtdfllkeekehplaaSIds
import Derived.Test.YtdfllkeekehplaaAiI
import Derived.Test.YtdfllkeekehplaaProg
set_option autoImplicit false
set_option maxRecDepth 100000
set_option linter.unusedVariables false
namespace Go.AI
open Go.Proofs

/-! ### laws_FnExponentsOfTrees -/


def laws_FnExponentsOfTrees_C0a (x0 : (List Int)) (x1 : (List Int)) : St := mkSt 183 [(0, .s (.v (.sl (.int .u8)) x0)), (1, .s (.v (.sl (.int .u8)) x1))] []

def laws_FnExponentsOfTrees_R1 (y4 : Bool) : St := mkSt 183 [(4, .s (.v .bool y4))] []

def laws_FnExponentsOfTrees_C3a (x0 : (List Int)) (x1 : (List Int)) (x32 : Bool) : St := mkSt 183 [(0, .s (.v (.sl (.int .u8)) x0)), (1, .s (.v (.sl (.int .u8)) x1)), (32, .s (.v .bool x32))] []

def laws_FnExponentsOfTrees_C8a (x1 : (List Int)) (x5 : ByteArray) (x7 : Bool) (x59 : Bool) (xo37 : (List Int)) : St := mkSt 183 [(1, .s (.v (.sl (.int .u8)) x1)), (5, .s (.v .str x5)), (6, .s (.osl 37 0)), (7, .s (.v .bool x7)), (59, .s (.v .bool x59))] [(37, .row t_int (.int .i64) xo37 0 false)]

def laws_FnExponentsOfTrees_L0a (x1 : (List Int)) (x16 : Int) (x108 : Int) (x109 : Int) (xo37 : (List Int)) (xo91 : (List Int)) : St := mkSt 183 [(1, .s (.v (.sl (.int .u8)) x1)), (14, .s (.osl 91 0)), (16, .s (.v (.int .i64) x16)), (107, .s (.osl 37 0)), (108, .s (.v (.int .i64) x108)), (109, .s (.v (.int .i64) x109))] [(37, .row t_int (.int .i64) xo37 0 false), (91, .row t_int (.int .i64) xo91 0 false)]

def laws_FnExponentsOfTrees_L1a (x1 : (List Int)) (x16 : Int) (x17 : Int) (x18 : Int) (x19 : Int) (x108 : Int) (x109 : Int) (xo37 : (List Int)) (xo91 : (List Int)) : St := mkSt 183 [(1, .s (.v (.sl (.int .u8)) x1)), (14, .s (.osl 91 0)), (16, .s (.v (.int .i64) x16)), (17, .s (.v (.int .i64) x17)), (18, .s (.v (.int .i64) x18)), (19, .s (.v (.int .i64) x19)), (107, .s (.osl 37 0)), (108, .s (.v (.int .i64) x108)), (109, .s (.v (.int .i64) x109))] [(37, .row t_int (.int .i64) xo37 0 false), (91, .row t_int (.int .i64) xo91 0 false)]

def laws_FnExponentsOfTrees_L1X2 (y1 : (List Int)) (y16 : Int) (y17 : Int) (y18 : Int) (y19 : Int) (y108 : Int) (y109 : Int) (y116 : Bool) (yo37 : (List Int)) (yo91 : (List Int)) : St := mkSt 183 [(1, .s (.v (.sl (.int .u8)) y1)), (14, .s (.osl 91 0)), (16, .s (.v (.int .i64) y16)), (17, .s (.v (.int .i64) y17)), (18, .s (.v (.int .i64) y18)), (19, .s (.v (.int .i64) y19)), (107, .s (.osl 37 0)), (108, .s (.v (.int .i64) y108)), (109, .s (.v (.int .i64) y109)), (116, .s (.v .bool y116))] [(37, .row t_int (.int .i64) yo37 0 false), (91, .row t_int (.int .i64) yo91 0 false)]

def laws_FnExponentsOfTrees_L0X2 (y1 : (List Int)) (y16 : Int) (y108 : Int) (y109 : Int) (y110 : Bool) (yo37 : (List Int)) (yo91 : (List Int)) : St := mkSt 183 [(1, .s (.v (.sl (.int .u8)) y1)), (14, .s (.osl 91 0)), (16, .s (.v (.int .i64) y16)), (107, .s (.osl 37 0)), (108, .s (.v (.int .i64) y108)), (109, .s (.v (.int .i64) y109)), (110, .s (.v .bool y110))] [(37, .row t_int (.int .i64) yo37 0 false), (91, .row t_int (.int .i64) yo91 0 false)]

def laws_FnExponentsOfTrees_C10a (x1 : (List Int)) (x16 : Int) (x108 : Int) (x109 : Int) (x110 : Bool) (xo37 : (List Int)) (xo91 : (List Int)) : St := mkSt 183 [(1, .s (.v (.sl (.int .u8)) x1)), (14, .s (.osl 91 0)), (16, .s (.v (.int .i64) x16)), (107, .s (.osl 37 0)), (108, .s (.v (.int .i64) x108)), (109, .s (.v (.int .i64) x109)), (110, .s (.v .bool x110))] [(37, .row t_int (.int .i64) xo37 0 false), (91, .row t_int (.int .i64) xo91 0 false)]

def laws_FnExponentsOfTrees_C10b (x1 : (List Int)) (x5 : ByteArray) (x60 : Bool) (xo37 : (List Int)) : St := mkSt 183 [(1, .s (.v (.sl (.int .u8)) x1)), (5, .s (.v .str x5)), (6, .s (.osl 37 0)), (60, .s (.v .bool x60))] [(37, .row t_int (.int .i64) xo37 0 false)]

def laws_FnExponentsOfTrees_C15a (x21 : ByteArray) (x22 : Bool) (x148 : Bool) (xo130 : (List Int)) : St := mkSt 183 [(20, .s (.osl 130 0)), (21, .s (.v .str x21)), (22, .s (.v .bool x22)), (148, .s (.v .bool x148))] [(130, .row t_int (.int .i64) xo130 0 false)]

def laws_FnExponentsOfTrees_L2a (x165 : Int) (x166 : Int) (xo130 : (List Int)) (xo152 : (List Int)) : St := mkSt 183 [(20, .s (.osl 130 0)), (164, .s (.osl 152 0)), (165, .s (.v (.int .i64) x165)), (166, .s (.v (.int .i64) x166))] [(130, .row t_int (.int .i64) xo130 0 false), (152, .row t_int (.int .i64) xo152 0 false)]

def laws_FnExponentsOfTrees_L2X2 (y165 : Int) (y166 : Int) (y167 : Bool) (yo130 : (List Int)) (yo152 : (List Int)) : St := mkSt 183 [(20, .s (.osl 130 0)), (164, .s (.osl 152 0)), (165, .s (.v (.int .i64) y165)), (166, .s (.v (.int .i64) y166)), (167, .s (.v .bool y167))] [(130, .row t_int (.int .i64) yo130 0 false), (152, .row t_int (.int .i64) yo152 0 false)]

def laws_FnExponentsOfTrees_C17a (x165 : Int) (x166 : Int) (x167 : Bool) (xo130 : (List Int)) (xo152 : (List Int)) : St := mkSt 183 [(20, .s (.osl 130 0)), (164, .s (.osl 152 0)), (165, .s (.v (.int .i64) x165)), (166, .s (.v (.int .i64) x166)), (167, .s (.v .bool x167))] [(130, .row t_int (.int .i64) xo130 0 false), (152, .row t_int (.int .i64) xo152 0 false)]

def laws_FnExponentsOfTrees_C17b (x21 : ByteArray) (x149 : Bool) (xo130 : (List Int)) : St := mkSt 183 [(20, .s (.osl 130 0)), (21, .s (.v .str x21)), (149, .s (.v .bool x149))] [(130, .row t_int (.int .i64) xo130 0 false)]

theorem laws_FnExponentsOfTrees_L0a_i2 (x1 : (List Int)) (x16 : Int) (x108 : Int) (x109 : Int) (xo37 : (List Int)) (xo91 : (List Int)) (dk1y1 : (List Int)) (dk1y16 : Int) (dk1y17 : Int) (dk1y18 : Int) (dk1y19 : Int) (dk1y108 : Int) (dk1y109 : Int) (dk1y116 : Bool) (dk1yo37 : (List Int)) (dk1yo91 : (List Int))
    (h1 : x109 < x108)
    (h2 : 0 ≤ x109)
    (h3 : x109 < (List.length xo37 : Int))
    (h4 : (x109).toNat < List.length xo37)
    (h5 : LoopSC cfg.P 2 (lb P_laws_FnExponentsOfTrees 1) (laws_FnExponentsOfTrees_L1a x1 x16 x109 (List.getD xo37 (x109).toNat (0 : Int)) (0 : Int) x108 x109 xo37 xo91) (.exit 2) (laws_FnExponentsOfTrees_L1X2 dk1y1 dk1y16 dk1y17 dk1y18 dk1y19 dk1y108 dk1y109 dk1y116 dk1yo37 dk1yo91))
    {e : AEx} {st : St} (next : LoopSC cfg.P 2 (lb P_laws_FnExponentsOfTrees 0) (laws_FnExponentsOfTrees_L0a dk1y1 dk1y16 dk1y108 (IntKind.wrap .i64 (dk1y109 + (1 : Int))) dk1yo37 dk1yo91) e st) :
    LoopSC cfg.P 2 (lb P_laws_FnExponentsOfTrees 0) (laws_FnExponentsOfTrees_L0a x1 x16 x108 x109 xo37 xo91) e st :=
  loop_iter cfgOK (f := i_laws_FnExponentsOfTrees) (its := [.bool true, .loop (fun _ => (.exit 2, laws_FnExponentsOfTrees_L1X2 dk1y1 dk1y16 dk1y17 dk1y18 dk1y19 dk1y108 dk1y109 dk1y116 dk1yo37 dk1yo91))])
    (ps := [decide (x109 < x108) = true,
      0 ≤ x109,
      x109 < (List.length xo37 : Int),
      (x109).toNat < List.length xo37,
      LoopSC cfg.P 2 (lb P_laws_FnExponentsOfTrees 1) (laws_FnExponentsOfTrees_L1a x1 x16 x109 (List.getD xo37 (x109).toNat (0 : Int)) (0 : Int) x108 x109 xo37 xo91) (.exit 2) (laws_FnExponentsOfTrees_L1X2 dk1y1 dk1y16 dk1y17 dk1y18 dk1y19 dk1y108 dk1y109 dk1y116 dk1yo37 dk1yo91)]) (st1 := laws_FnExponentsOfTrees_L0a dk1y1 dk1y16 dk1y108 (IntKind.wrap .i64 (dk1y109 + (1 : Int))) dk1yo37 dk1yo91) (by kernel_rfl) ⟨(decide_eq_true h1), h2, h3, h4, h5, trivial⟩ next

theorem laws_FnExponentsOfTrees_L0a_x3 (x1 : (List Int)) (x16 : Int) (x108 : Int) (x109 : Int) (xo37 : (List Int)) (xo91 : (List Int))
    (h1 : ¬ (x109 < x108)) :
    LoopSC cfg.P 2 (lb P_laws_FnExponentsOfTrees 0) (laws_FnExponentsOfTrees_L0a x1 x16 x108 x109 xo37 xo91) (.exit 0) (laws_FnExponentsOfTrees_L0X2 x1 x16 x108 x109 false xo37 xo91) :=
  loop_out cfgOK (f := i_laws_FnExponentsOfTrees) (its := [.bool false])
    (ps := [decide (x109 < x108) = false]) (by kernel_rfl) ⟨(decide_eq_false h1), trivial⟩ (fun h => by cases h)

theorem laws_FnExponentsOfTrees_L1a_i2 (x1 : (List Int)) (x16 : Int) (x17 : Int) (x18 : Int) (x19 : Int) (x108 : Int) (x109 : Int) (xo37 : (List Int)) (xo91 : (List Int))
    (h1 : x19 < x18)
    (h2 : 0 ≤ x16)
    (h3 : x16 < (List.length xo91 : Int))
    (h4 : (x16).toNat < List.length xo91)
    (h5 : (List.getD xo91 (x16).toNat (0 : Int)) = (IntKind.wrap .i64 (x17 + (1 : Int))))
    {e : AEx} {st : St} (next : LoopSC cfg.P 2 (lb P_laws_FnExponentsOfTrees 1) (laws_FnExponentsOfTrees_L1a x1 (IntKind.wrap .i64 (x16 + (1 : Int))) x17 x18 (IntKind.wrap .i64 (x19 + (1 : Int))) x108 x109 xo37 xo91) e st) :
    LoopSC cfg.P 2 (lb P_laws_FnExponentsOfTrees 1) (laws_FnExponentsOfTrees_L1a x1 x16 x17 x18 x19 x108 x109 xo37 xo91) e st :=
  loop_iter cfgOK (f := i_laws_FnExponentsOfTrees) (its := [.bool true, .bool false])
    (ps := [decide (x19 < x18) = true,
      0 ≤ x16,
      x16 < (List.length xo91 : Int),
      (x16).toNat < List.length xo91,
      ((List.getD xo91 (x16).toNat (0 : Int)) != (IntKind.wrap .i64 (x17 + (1 : Int)))) = false]) (st1 := laws_FnExponentsOfTrees_L1a x1 (IntKind.wrap .i64 (x16 + (1 : Int))) x17 x18 (IntKind.wrap .i64 (x19 + (1 : Int))) x108 x109 xo37 xo91) (by kernel_rfl) ⟨(decide_eq_true h1), h2, h3, h4, (bne_eq_false_iff_eq.mpr h5), trivial⟩ next

theorem laws_FnExponentsOfTrees_L1a_x3 (x1 : (List Int)) (x16 : Int) (x17 : Int) (x18 : Int) (x19 : Int) (x108 : Int) (x109 : Int) (xo37 : (List Int)) (xo91 : (List Int))
    (h1 : ¬ (x19 < x18)) :
    LoopSC cfg.P 2 (lb P_laws_FnExponentsOfTrees 1) (laws_FnExponentsOfTrees_L1a x1 x16 x17 x18 x19 x108 x109 xo37 xo91) (.exit 2) (laws_FnExponentsOfTrees_L1X2 x1 x16 x17 x18 x19 x108 x109 false xo37 xo91) :=
  loop_out cfgOK (f := i_laws_FnExponentsOfTrees) (its := [.bool false])
    (ps := [decide (x19 < x18) = false]) (by kernel_rfl) ⟨(decide_eq_false h1), trivial⟩ (fun h => by cases h)

theorem laws_FnExponentsOfTrees_L2a_i2 (x165 : Int) (x166 : Int) (xo130 : (List Int)) (xo152 : (List Int))
    (h1 : x166 < x165)
    (h2 : 0 ≤ x166)
    (h3 : x166 < (List.length xo152 : Int))
    (h4 : (x166).toNat < List.length xo152)
    (h5 : x166 < ((List.length xo130 : Nat) : Int))
    (h6 : x166 < (List.length xo130 : Int))
    (h7 : (x166).toNat < List.length xo130)
    (h8 : (List.getD xo152 (x166).toNat (0 : Int)) = (List.getD xo130 (x166).toNat (0 : Int)))
    {e : AEx} {st : St} (next : LoopSC cfg.P 2 (lb P_laws_FnExponentsOfTrees 2) (laws_FnExponentsOfTrees_L2a x165 (IntKind.wrap .i64 (x166 + (1 : Int))) xo130 xo152) e st) :
    LoopSC cfg.P 2 (lb P_laws_FnExponentsOfTrees 2) (laws_FnExponentsOfTrees_L2a x165 x166 xo130 xo152) e st :=
  loop_iter cfgOK (f := i_laws_FnExponentsOfTrees) (its := [.bool true, .bool true, .bool false])
    (ps := [decide (x166 < x165) = true,
      0 ≤ x166,
      x166 < (List.length xo152 : Int),
      (x166).toNat < List.length xo152,
      decide (x166 < ((List.length xo130 : Nat) : Int)) = true,
      0 ≤ x166,
      x166 < (List.length xo130 : Int),
      (x166).toNat < List.length xo130,
      ((List.getD xo152 (x166).toNat (0 : Int)) != (List.getD xo130 (x166).toNat (0 : Int))) = false]) (st1 := laws_FnExponentsOfTrees_L2a x165 (IntKind.wrap .i64 (x166 + (1 : Int))) xo130 xo152) (by kernel_rfl) ⟨(decide_eq_true h1), h2, h3, h4, (decide_eq_true h5), h2, h6, h7, (bne_eq_false_iff_eq.mpr h8), trivial⟩ next

theorem laws_FnExponentsOfTrees_L2a_i4 (x165 : Int) (x166 : Int) (xo130 : (List Int)) (xo152 : (List Int))
    (h1 : x166 < x165)
    (h2 : 0 ≤ x166)
    (h3 : x166 < (List.length xo152 : Int))
    (h4 : (x166).toNat < List.length xo152)
    (h5 : ¬ (x166 < ((List.length xo130 : Nat) : Int)))
    (h6 : (List.getD xo152 (x166).toNat (0 : Int)) = (0 : Int))
    {e : AEx} {st : St} (next : LoopSC cfg.P 2 (lb P_laws_FnExponentsOfTrees 2) (laws_FnExponentsOfTrees_L2a x165 (IntKind.wrap .i64 (x166 + (1 : Int))) xo130 xo152) e st) :
    LoopSC cfg.P 2 (lb P_laws_FnExponentsOfTrees 2) (laws_FnExponentsOfTrees_L2a x165 x166 xo130 xo152) e st :=
  loop_iter cfgOK (f := i_laws_FnExponentsOfTrees) (its := [.bool true, .bool false, .bool false])
    (ps := [decide (x166 < x165) = true,
      0 ≤ x166,
      x166 < (List.length xo152 : Int),
      (x166).toNat < List.length xo152,
      decide (x166 < ((List.length xo130 : Nat) : Int)) = false,
      ((List.getD xo152 (x166).toNat (0 : Int)) != (0 : Int)) = false]) (st1 := laws_FnExponentsOfTrees_L2a x165 (IntKind.wrap .i64 (x166 + (1 : Int))) xo130 xo152) (by kernel_rfl) ⟨(decide_eq_true h1), h2, h3, h4, (decide_eq_false h5), (bne_eq_false_iff_eq.mpr h6), trivial⟩ next

theorem laws_FnExponentsOfTrees_L2a_x5 (x165 : Int) (x166 : Int) (xo130 : (List Int)) (xo152 : (List Int))
    (h1 : ¬ (x166 < x165)) :
    LoopSC cfg.P 2 (lb P_laws_FnExponentsOfTrees 2) (laws_FnExponentsOfTrees_L2a x165 x166 xo130 xo152) (.exit 4) (laws_FnExponentsOfTrees_L2X2 x165 x166 false xo130 xo152) :=
  loop_out cfgOK (f := i_laws_FnExponentsOfTrees) (its := [.bool false])
    (ps := [decide (x166 < x165) = false]) (by kernel_rfl) ⟨(decide_eq_false h1), trivial⟩ (fun h => by cases h)

theorem laws_FnExponentsOfTrees_C0a_x1 (x0 : (List Int)) (x1 : (List Int))
    (h1 : SC cfg.P i_laws_big [.s (.v (.sl (.int .u8)) x0), .s (.v (.sl (.int .u8)) x1)] (.s (.v .bool true)) []) :
    RestSC cfg.P 2 (rest P_laws_FnExponentsOfTrees 0) (laws_FnExponentsOfTrees_C0a x0 x1) .ret (laws_FnExponentsOfTrees_R1 true) :=
  rest_ret cfgOK (f := i_laws_FnExponentsOfTrees) (k := 0) (m := 3) (its := [.res (.s (.v .bool true)) [] [] []])
    (ps := [SC cfg.P i_laws_big [.s (.v (.sl (.int .u8)) x0), .s (.v (.sl (.int .u8)) x1)] (.s (.v .bool true)) []]) (by kernel_rfl) ⟨h1, trivial⟩

theorem laws_FnExponentsOfTrees_C0a_i2 (x0 : (List Int)) (x1 : (List Int))
    (h1 : SC cfg.P i_laws_big [.s (.v (.sl (.int .u8)) x0), .s (.v (.sl (.int .u8)) x1)] (.s (.v .bool false)) [])
    {e : AEx} {st : St} (next : RestSC cfg.P 2 (rest P_laws_FnExponentsOfTrees 3) (laws_FnExponentsOfTrees_C3a x0 x1 false) e st) :
    RestSC cfg.P 2 (rest P_laws_FnExponentsOfTrees 0) (laws_FnExponentsOfTrees_C0a x0 x1) e st :=
  rest_next cfgOK (f := i_laws_FnExponentsOfTrees) (k := 0) (m := 3) (its := [.res (.s (.v .bool false)) [] [] []])
    (ps := [SC cfg.P i_laws_big [.s (.v (.sl (.int .u8)) x0), .s (.v (.sl (.int .u8)) x1)] (.s (.v .bool false)) []]) (st1 := laws_FnExponentsOfTrees_C3a x0 x1 false) (by kernel_rfl) ⟨h1, trivial⟩ next

theorem laws_FnExponentsOfTrees_C3a_i1 (x0 : (List Int)) (x1 : (List Int)) (x32 : Bool) (dc1 : ByteArray) (dc2a : (List Int)) (dc2b : Bool) (dc3a : (List Int)) (dc3b : Bool) (dc5 : Bool)
    (h1 : SC cfg.P i_spec_DrawExponentsOf [.s (.v (.sl (.int .u8)) x0)] (.s (.v .str dc1)) [])
    (h2 : SC cfg.P i_impl_ExponentsOf [.s (.v .str dc1)] (.tup [.own t_int (.int .i64) dc2a, .v .bool dc2b]) [])
    (h3 : SC cfg.P i_spec_ExponentsOf [.s (.v .str dc1)] (.tup [.own t_int (.int .i64) dc3a, .v .bool dc3b]) [])
    (h4 : (!(dc2b == dc3b)) = false)
    (h5 : SC cfg.P i_laws_nSame [.s (.v (.sl (.int .i64)) dc2a), .s (.v (.sl (.int .i64)) dc3a)] (.s (.v .bool true)) [])
    (h6 : SC cfg.P i_impl_IsTree [.s (.v .str dc1)] (.s (.v .bool dc5)) [])
    (h7 : (!(dc2b == dc5)) = false)
    {e : AEx} {st : St} (next : RestSC cfg.P 2 (rest P_laws_FnExponentsOfTrees 8) (laws_FnExponentsOfTrees_C8a x1 dc1 dc2b false dc2a) e st) :
    RestSC cfg.P 2 (rest P_laws_FnExponentsOfTrees 3) (laws_FnExponentsOfTrees_C3a x0 x1 x32) e st :=
  rest_next cfgOK (f := i_laws_FnExponentsOfTrees) (k := 3) (m := 5) (its := [.res (.s (.v .str dc1)) [] [] [], .res (.tup [.own t_int (.int .i64) dc2a, .v .bool dc2b]) [] [] [37], .res (.tup [.own t_int (.int .i64) dc3a, .v .bool dc3b]) [] [] [42], .bool false, .res (.s (.v .bool true)) [] [] [], .res (.s (.v .bool dc5)) [] [] [], .bool false])
    (ps := [SC cfg.P i_spec_DrawExponentsOf [.s (.v (.sl (.int .u8)) x0)] (.s (.v .str dc1)) [],
      SC cfg.P i_impl_ExponentsOf [.s (.v .str dc1)] (.tup [.own t_int (.int .i64) dc2a, .v .bool dc2b]) [],
      SC cfg.P i_spec_ExponentsOf [.s (.v .str dc1)] (.tup [.own t_int (.int .i64) dc3a, .v .bool dc3b]) [],
      (!(dc2b == dc3b)) = false,
      SC cfg.P i_laws_nSame [.s (.v (.sl (.int .i64)) dc2a), .s (.v (.sl (.int .i64)) dc3a)] (.s (.v .bool true)) [],
      SC cfg.P i_impl_IsTree [.s (.v .str dc1)] (.s (.v .bool dc5)) [],
      (!(dc2b == dc5)) = false]) (st1 := laws_FnExponentsOfTrees_C8a x1 dc1 dc2b false dc2a) (by kernel_rfl) ⟨h1, h2, h3, h4, h5, h6, h7, trivial⟩ next

theorem laws_FnExponentsOfTrees_C8a_i2 (x1 : (List Int)) (x5 : ByteArray) (x59 : Bool) (xo37 : (List Int)) (dc1a : Int) (dc2a : ByteArray) (dc3a : (List Int)) (dc4 : Int) (dk1y1 : (List Int)) (dk1y16 : Int) (dk1y108 : Int) (dk1y109 : Int) (dk1y110 : Bool) (dk1yo37 : (List Int)) (dk1yo91 : (List Int))
    (h1 : SC cfg.P i_impl_CaretsOf [.s (.v .str x5)] (.tup [.v (.int .i64) dc1a, .v .bool true]) [])
    (h2 : ((List.length xo37 : Nat) : Int) = (IntKind.wrap .i64 (dc1a + (1 : Int))))
    (h3 : 0 ≤ dc1a)
    (h4 : dc1a < (List.length xo37 : Int))
    (h5 : (dc1a).toNat < List.length xo37)
    (h6 : (List.getD xo37 (dc1a).toNat (0 : Int)) = (0 : Int))
    (h7 : SC cfg.P i_impl_RightComb [.s (.v (.int .i64) dc1a)] (.tup [.v .str dc2a, .v .bool true]) [])
    (h8 : SC cfg.P i_impl_WordOfPair [.s (.v (.pr .str .str) (x5, dc2a))] (.tup [.own t_int (.int .i64) dc3a, .v .bool true]) [])
    (h9 : SC cfg.P i_laws_nSum [.s (.v (.sl (.int .i64)) xo37)] (.s (.v (.int .i64) dc4)) [])
    (h10 : ((List.length dc3a : Nat) : Int) = dc4)
    (h11 : LoopSC cfg.P 2 (lb P_laws_FnExponentsOfTrees 0) (laws_FnExponentsOfTrees_L0a x1 (0 : Int) ((List.length xo37 : Nat) : Int) (0 : Int) xo37 dc3a) (.exit 0) (laws_FnExponentsOfTrees_L0X2 dk1y1 dk1y16 dk1y108 dk1y109 dk1y110 dk1yo37 dk1yo91))
    {e : AEx} {st : St} (next : RestSC cfg.P 2 (rest P_laws_FnExponentsOfTrees 10) (laws_FnExponentsOfTrees_C10a dk1y1 dk1y16 dk1y108 dk1y109 dk1y110 dk1yo37 dk1yo91) e st) :
    RestSC cfg.P 2 (rest P_laws_FnExponentsOfTrees 8) (laws_FnExponentsOfTrees_C8a x1 x5 true x59 xo37) e st :=
  rest_next cfgOK (f := i_laws_FnExponentsOfTrees) (k := 8) (m := 2) (its := [.res (.tup [.v (.int .i64) dc1a, .v .bool true]) [] [] [], .bool false, .bool false, .res (.tup [.v .str dc2a, .v .bool true]) [] [] [], .res (.tup [.own t_int (.int .i64) dc3a, .v .bool true]) [] [] [91], .res (.s (.v (.int .i64) dc4)) [] [] [], .bool false, .loop (fun _ => (.exit 0, laws_FnExponentsOfTrees_L0X2 dk1y1 dk1y16 dk1y108 dk1y109 dk1y110 dk1yo37 dk1yo91))])
    (ps := [SC cfg.P i_impl_CaretsOf [.s (.v .str x5)] (.tup [.v (.int .i64) dc1a, .v .bool true]) [],
      (((List.length xo37 : Nat) : Int) != (IntKind.wrap .i64 (dc1a + (1 : Int)))) = false,
      0 ≤ dc1a,
      dc1a < (List.length xo37 : Int),
      (dc1a).toNat < List.length xo37,
      ((List.getD xo37 (dc1a).toNat (0 : Int)) != (0 : Int)) = false,
      SC cfg.P i_impl_RightComb [.s (.v (.int .i64) dc1a)] (.tup [.v .str dc2a, .v .bool true]) [],
      SC cfg.P i_impl_WordOfPair [.s (.v (.pr .str .str) (x5, dc2a))] (.tup [.own t_int (.int .i64) dc3a, .v .bool true]) [],
      SC cfg.P i_laws_nSum [.s (.v (.sl (.int .i64)) xo37)] (.s (.v (.int .i64) dc4)) [],
      (((List.length dc3a : Nat) : Int) != dc4) = false,
      LoopSC cfg.P 2 (lb P_laws_FnExponentsOfTrees 0) (laws_FnExponentsOfTrees_L0a x1 (0 : Int) ((List.length xo37 : Nat) : Int) (0 : Int) xo37 dc3a) (.exit 0) (laws_FnExponentsOfTrees_L0X2 dk1y1 dk1y16 dk1y108 dk1y109 dk1y110 dk1yo37 dk1yo91)]) (st1 := laws_FnExponentsOfTrees_C10a dk1y1 dk1y16 dk1y108 dk1y109 dk1y110 dk1yo37 dk1yo91) (by kernel_rfl) ⟨h1, (bne_eq_false_iff_eq.mpr h2), h3, h4, h5, (bne_eq_false_iff_eq.mpr h6), h7, h8, h9, (bne_eq_false_iff_eq.mpr h10), h11, trivial⟩ next

theorem laws_FnExponentsOfTrees_C8a_i3 (x1 : (List Int)) (x5 : ByteArray) (x59 : Bool) (xo37 : (List Int))
    {e : AEx} {st : St} (next : RestSC cfg.P 2 (rest P_laws_FnExponentsOfTrees 10) (laws_FnExponentsOfTrees_C10b x1 x5 false xo37) e st) :
    RestSC cfg.P 2 (rest P_laws_FnExponentsOfTrees 8) (laws_FnExponentsOfTrees_C8a x1 x5 false x59 xo37) e st :=
  rest_next cfgOK (f := i_laws_FnExponentsOfTrees) (k := 8) (m := 2) (its := [])
    (ps := []) (st1 := laws_FnExponentsOfTrees_C10b x1 x5 false xo37) (by kernel_rfl) trivial next

theorem laws_FnExponentsOfTrees_C10a_i1 (x1 : (List Int)) (x16 : Int) (x108 : Int) (x109 : Int) (x110 : Bool) (xo37 : (List Int)) (xo91 : (List Int)) (dc1 : (List Int)) (dc2a : ByteArray) (dc2b : Bool) (dc3a : ByteArray) (dc3b : Bool)
    (h1 : SC cfg.P i_spec_DrawTreeOfExponents [.s (.v (.sl (.int .u8)) x1)] (.s (.own t_int (.int .i64) dc1)) [])
    (h2 : SC cfg.P i_impl_TreeOfExponents [.s (.v (.sl (.int .i64)) dc1)] (.tup [.v .str dc2a, .v .bool dc2b]) [])
    (h3 : SC cfg.P i_spec_TreeOfExponents [.s (.v (.sl (.int .i64)) dc1)] (.tup [.v .str dc3a, .v .bool dc3b]) [])
    (h4 : (!(dc2b == dc3b)) = false)
    (h5 : dc2a = dc3a)
    {e : AEx} {st : St} (next : RestSC cfg.P 2 (rest P_laws_FnExponentsOfTrees 15) (laws_FnExponentsOfTrees_C15a dc2a dc2b false dc1) e st) :
    RestSC cfg.P 2 (rest P_laws_FnExponentsOfTrees 10) (laws_FnExponentsOfTrees_C10a x1 x16 x108 x109 x110 xo37 xo91) e st :=
  rest_next cfgOK (f := i_laws_FnExponentsOfTrees) (k := 10) (m := 5) (its := [.res (.s (.own t_int (.int .i64) dc1)) [] [] [130], .res (.tup [.v .str dc2a, .v .bool dc2b]) [] [] [], .res (.tup [.v .str dc3a, .v .bool dc3b]) [] [] [], .bool false, .bool false])
    (ps := [SC cfg.P i_spec_DrawTreeOfExponents [.s (.v (.sl (.int .u8)) x1)] (.s (.own t_int (.int .i64) dc1)) [],
      SC cfg.P i_impl_TreeOfExponents [.s (.v (.sl (.int .i64)) dc1)] (.tup [.v .str dc2a, .v .bool dc2b]) [],
      SC cfg.P i_spec_TreeOfExponents [.s (.v (.sl (.int .i64)) dc1)] (.tup [.v .str dc3a, .v .bool dc3b]) [],
      (!(dc2b == dc3b)) = false,
      (!((dc2a).toList == (dc3a).toList)) = false]) (st1 := laws_FnExponentsOfTrees_C15a dc2a dc2b false dc1) (by kernel_rfl) ⟨h1, h2, h3, h4, (nseq_f h5), trivial⟩ next

theorem laws_FnExponentsOfTrees_C10b_i1 (x1 : (List Int)) (x5 : ByteArray) (x60 : Bool) (xo37 : (List Int)) (dc1 : (List Int)) (dc2a : ByteArray) (dc2b : Bool) (dc3a : ByteArray) (dc3b : Bool)
    (h1 : SC cfg.P i_spec_DrawTreeOfExponents [.s (.v (.sl (.int .u8)) x1)] (.s (.own t_int (.int .i64) dc1)) [])
    (h2 : SC cfg.P i_impl_TreeOfExponents [.s (.v (.sl (.int .i64)) dc1)] (.tup [.v .str dc2a, .v .bool dc2b]) [])
    (h3 : SC cfg.P i_spec_TreeOfExponents [.s (.v (.sl (.int .i64)) dc1)] (.tup [.v .str dc3a, .v .bool dc3b]) [])
    (h4 : (!(dc2b == dc3b)) = false)
    (h5 : dc2a = dc3a)
    {e : AEx} {st : St} (next : RestSC cfg.P 2 (rest P_laws_FnExponentsOfTrees 15) (laws_FnExponentsOfTrees_C15a dc2a dc2b false dc1) e st) :
    RestSC cfg.P 2 (rest P_laws_FnExponentsOfTrees 10) (laws_FnExponentsOfTrees_C10b x1 x5 x60 xo37) e st :=
  rest_next cfgOK (f := i_laws_FnExponentsOfTrees) (k := 10) (m := 5) (its := [.res (.s (.own t_int (.int .i64) dc1)) [] [] [130], .res (.tup [.v .str dc2a, .v .bool dc2b]) [] [] [], .res (.tup [.v .str dc3a, .v .bool dc3b]) [] [] [], .bool false, .bool false])
    (ps := [SC cfg.P i_spec_DrawTreeOfExponents [.s (.v (.sl (.int .u8)) x1)] (.s (.own t_int (.int .i64) dc1)) [],
      SC cfg.P i_impl_TreeOfExponents [.s (.v (.sl (.int .i64)) dc1)] (.tup [.v .str dc2a, .v .bool dc2b]) [],
      SC cfg.P i_spec_TreeOfExponents [.s (.v (.sl (.int .i64)) dc1)] (.tup [.v .str dc3a, .v .bool dc3b]) [],
      (!(dc2b == dc3b)) = false,
      (!((dc2a).toList == (dc3a).toList)) = false]) (st1 := laws_FnExponentsOfTrees_C15a dc2a dc2b false dc1) (by kernel_rfl) ⟨h1, h2, h3, h4, (nseq_f h5), trivial⟩ next

theorem laws_FnExponentsOfTrees_C15a_i2 (x21 : ByteArray) (x148 : Bool) (xo130 : (List Int)) (dc1a : (List Int)) (dk1y165 : Int) (dk1y166 : Int) (dk1y167 : Bool) (dk1yo130 : (List Int)) (dk1yo152 : (List Int))
    (h1 : SC cfg.P i_impl_ExponentsOf [.s (.v .str x21)] (.tup [.own t_int (.int .i64) dc1a, .v .bool true]) [])
    (h2 : ¬ (((List.length dc1a : Nat) : Int) < ((List.length xo130 : Nat) : Int)))
    (h3 : LoopSC cfg.P 2 (lb P_laws_FnExponentsOfTrees 2) (laws_FnExponentsOfTrees_L2a ((List.length dc1a : Nat) : Int) (0 : Int) xo130 dc1a) (.exit 4) (laws_FnExponentsOfTrees_L2X2 dk1y165 dk1y166 dk1y167 dk1yo130 dk1yo152))
    {e : AEx} {st : St} (next : RestSC cfg.P 2 (rest P_laws_FnExponentsOfTrees 17) (laws_FnExponentsOfTrees_C17a dk1y165 dk1y166 dk1y167 dk1yo130 dk1yo152) e st) :
    RestSC cfg.P 2 (rest P_laws_FnExponentsOfTrees 15) (laws_FnExponentsOfTrees_C15a x21 true x148 xo130) e st :=
  rest_next cfgOK (f := i_laws_FnExponentsOfTrees) (k := 15) (m := 2) (its := [.res (.tup [.own t_int (.int .i64) dc1a, .v .bool true]) [] [] [152], .bool false, .loop (fun _ => (.exit 4, laws_FnExponentsOfTrees_L2X2 dk1y165 dk1y166 dk1y167 dk1yo130 dk1yo152))])
    (ps := [SC cfg.P i_impl_ExponentsOf [.s (.v .str x21)] (.tup [.own t_int (.int .i64) dc1a, .v .bool true]) [],
      decide (((List.length dc1a : Nat) : Int) < ((List.length xo130 : Nat) : Int)) = false,
      LoopSC cfg.P 2 (lb P_laws_FnExponentsOfTrees 2) (laws_FnExponentsOfTrees_L2a ((List.length dc1a : Nat) : Int) (0 : Int) xo130 dc1a) (.exit 4) (laws_FnExponentsOfTrees_L2X2 dk1y165 dk1y166 dk1y167 dk1yo130 dk1yo152)]) (st1 := laws_FnExponentsOfTrees_C17a dk1y165 dk1y166 dk1y167 dk1yo130 dk1yo152) (by kernel_rfl) ⟨h1, (decide_eq_false h2), h3, trivial⟩ next

theorem laws_FnExponentsOfTrees_C15a_i3 (x21 : ByteArray) (x148 : Bool) (xo130 : (List Int))
    {e : AEx} {st : St} (next : RestSC cfg.P 2 (rest P_laws_FnExponentsOfTrees 17) (laws_FnExponentsOfTrees_C17b x21 false xo130) e st) :
    RestSC cfg.P 2 (rest P_laws_FnExponentsOfTrees 15) (laws_FnExponentsOfTrees_C15a x21 false x148 xo130) e st :=
  rest_next cfgOK (f := i_laws_FnExponentsOfTrees) (k := 15) (m := 2) (its := [])
    (ps := []) (st1 := laws_FnExponentsOfTrees_C17b x21 false xo130) (by kernel_rfl) trivial next

theorem laws_FnExponentsOfTrees_C17a_x1 (x165 : Int) (x166 : Int) (x167 : Bool) (xo130 : (List Int)) (xo152 : (List Int))
     :
    RestSC cfg.P 2 (rest P_laws_FnExponentsOfTrees 17) (laws_FnExponentsOfTrees_C17a x165 x166 x167 xo130 xo152) .ret (laws_FnExponentsOfTrees_R1 true) :=
  rest_ret cfgOK (f := i_laws_FnExponentsOfTrees) (k := 17) (m := 2) (its := [])
    (ps := []) (by kernel_rfl) trivial

theorem laws_FnExponentsOfTrees_C17b_x1 (x21 : ByteArray) (x149 : Bool) (xo130 : (List Int))
     :
    RestSC cfg.P 2 (rest P_laws_FnExponentsOfTrees 17) (laws_FnExponentsOfTrees_C17b x21 x149 xo130) .ret (laws_FnExponentsOfTrees_R1 true) :=
  rest_ret cfgOK (f := i_laws_FnExponentsOfTrees) (k := 17) (m := 2) (its := [])
    (ps := []) (by kernel_rfl) trivial

theorem laws_FnExponentsOfTrees_R1_of (a0 : (List Int)) (a1 : (List Int)) (y4 : Bool)
    (h : RestSC cfg.P 2 (rest P_laws_FnExponentsOfTrees 0) (laws_FnExponentsOfTrees_C0a a0 a1) .ret (laws_FnExponentsOfTrees_R1 y4)) :
    SC cfg.P i_laws_FnExponentsOfTrees [.s (.v (.sl (.int .u8)) a0), .s (.v (.sl (.int .u8)) a1)] (.s (.v .bool y4)) [] :=
  SC_of_rest cfgOK (f := i_laws_FnExponentsOfTrees) h (by kernel_rfl) (by kernel_rfl) (by kernel_rfl) get_laws_FnExponentsOfTrees (by decide)

/-! ### impl_RightComb -/


theorem impl_RightComb_p1 (a0 : Int) (c2 : Tr) (c3 : ByteArray)
    (h1 : SC cfg.P i_impl_isCarets [.s (.v (.int .i64) a0)] (.s (.v .bool true)) [])
    (h2 : SC cfg.P i_impl_rightComb [.s (.v (.int .i64) a0)] (.s (.v .tree c2)) [])
    (h3 : SC cfg.P i_impl_node_text [.s (.v .tree c2)] (.s (.v .str c3)) []) :
    SC cfg.P i_impl_RightComb [.s (.v (.int .i64) a0)] (.tup [.v .str c3, .v .bool true]) [] :=
  SC_of_run cfgOK (its := [.res (.s (.v .bool true)) [] [] [], .res (.s (.v .tree c2)) [] [] [], .res (.s (.v .str c3)) [] [] []])
    (ps := [SC cfg.P i_impl_isCarets [.s (.v (.int .i64) a0)] (.s (.v .bool true)) [],
      SC cfg.P i_impl_rightComb [.s (.v (.int .i64) a0)] (.s (.v .tree c2)) [],
      SC cfg.P i_impl_node_text [.s (.v .tree c2)] (.s (.v .str c3)) []]) (by kernel_rfl) ⟨h1, h2, h3, trivial⟩ get_impl_RightComb (by decide)

/-! ### impl_IsTree -/


theorem impl_IsTree_p1 (a0 : ByteArray) (c1a : Tr) (c1b : Bool)
    (h1 : SC cfg.P i_impl_parse [.s (.v .str a0)] (.tup [.v .tree c1a, .v .bool c1b]) []) :
    SC cfg.P i_impl_IsTree [.s (.v .str a0)] (.s (.v .bool c1b)) [] :=
  SC_of_run cfgOK (its := [.res (.tup [.v .tree c1a, .v .bool c1b]) [] [] []])
    (ps := [SC cfg.P i_impl_parse [.s (.v .str a0)] (.tup [.v .tree c1a, .v .bool c1b]) []]) (by kernel_rfl) ⟨h1, trivial⟩ get_impl_IsTree (by decide)

/-! ### spec_DrawExponentsOf -/


theorem spec_DrawExponentsOf_p1 (a0 : (List Int)) (c1 : ByteArray) (c1o0 : ((List Int) × (Int × Int)))
    (h1 : SC cfg.P i_spec_l1Cur_tree [.s (.mbx (.pr (.sl (.int .u8)) (.pr (.int .i64) (.int .u64))) (a0, ((0 : Int), (0 : Int)))), .s (.v (.int .i64) (8 : Int))] (.s (.v .str c1)) [.box (.pr (.sl (.int .u8)) (.pr (.int .i64) (.int .u64))) c1o0]) :
    SC cfg.P i_spec_DrawExponentsOf [.s (.v (.sl (.int .u8)) a0)] (.s (.v .str c1)) [] :=
  SC_of_run cfgOK (its := [.res (.s (.v .str c1)) [.box (.pr (.sl (.int .u8)) (.pr (.int .i64) (.int .u64))) c1o0] [] []])
    (ps := [SC cfg.P i_spec_l1Cur_tree [.s (.mbx (.pr (.sl (.int .u8)) (.pr (.int .i64) (.int .u64))) (a0, ((0 : Int), (0 : Int)))), .s (.v (.int .i64) (8 : Int))] (.s (.v .str c1)) [.box (.pr (.sl (.int .u8)) (.pr (.int .i64) (.int .u64))) c1o0]]) (by kernel_rfl) ⟨h1, trivial⟩ get_spec_DrawExponentsOf (by decide)

/-! ### impl_ExponentsOf -/


theorem impl_ExponentsOf_p1 (a0 : ByteArray) (c1a : Tr) (c2 : (List Int))
    (h1 : SC cfg.P i_impl_parse [.s (.v .str a0)] (.tup [.v .tree c1a, .v .bool true]) [])
    (h2 : SC cfg.P i_impl_node_exponents [.s (.v .tree c1a)] (.s (.own t_int (.int .i64) c2)) []) :
    SC cfg.P i_impl_ExponentsOf [.s (.v .str a0)] (.tup [.own t_int (.int .i64) c2, .v .bool true]) [] :=
  SC_of_run cfgOK (its := [.res (.tup [.v .tree c1a, .v .bool true]) [] [] [], .res (.s (.own t_int (.int .i64) c2)) [] [] [14]])
    (ps := [SC cfg.P i_impl_parse [.s (.v .str a0)] (.tup [.v .tree c1a, .v .bool true]) [],
      SC cfg.P i_impl_node_exponents [.s (.v .tree c1a)] (.s (.own t_int (.int .i64) c2)) []]) (by kernel_rfl) ⟨h1, h2, trivial⟩ get_impl_ExponentsOf (by decide)

theorem impl_ExponentsOf_p2 (a0 : ByteArray) (c1a : Tr)
    (h1 : SC cfg.P i_impl_parse [.s (.v .str a0)] (.tup [.v .tree c1a, .v .bool false]) []) :
    SC cfg.P i_impl_ExponentsOf [.s (.v .str a0)] (.tup [.own t_int (.int .i64) ([] : List Int), .v .bool false]) [] :=
  SC_of_run cfgOK (its := [.res (.tup [.v .tree c1a, .v .bool false]) [] [] []])
    (ps := [SC cfg.P i_impl_parse [.s (.v .str a0)] (.tup [.v .tree c1a, .v .bool false]) []]) (by kernel_rfl) ⟨h1, trivial⟩ get_impl_ExponentsOf (by decide)

/-! ### spec_ExponentsOf -/


theorem spec_ExponentsOf_p1 (a0 : ByteArray) (c2 : (List Int))
    (h1 : SC cfg.P i_spec_trIs [.s (.v .str a0)] (.s (.v .bool true)) [])
    (h2 : SC cfg.P i_spec_wdRight [.s (.v .str a0)] (.s (.own t_int (.int .i64) c2)) []) :
    SC cfg.P i_spec_ExponentsOf [.s (.v .str a0)] (.tup [.own t_int (.int .i64) c2, .v .bool true]) [] :=
  SC_of_run cfgOK (its := [.res (.s (.v .bool true)) [] [] [], .res (.s (.own t_int (.int .i64) c2)) [] [] [8]])
    (ps := [SC cfg.P i_spec_trIs [.s (.v .str a0)] (.s (.v .bool true)) [],
      SC cfg.P i_spec_wdRight [.s (.v .str a0)] (.s (.own t_int (.int .i64) c2)) []]) (by kernel_rfl) ⟨h1, h2, trivial⟩ get_spec_ExponentsOf (by decide)

theorem spec_ExponentsOf_p2 (a0 : ByteArray)
    (h1 : SC cfg.P i_spec_trIs [.s (.v .str a0)] (.s (.v .bool false)) []) :
    SC cfg.P i_spec_ExponentsOf [.s (.v .str a0)] (.tup [.own t_int (.int .i64) ([] : List Int), .v .bool false]) [] :=
  SC_of_run cfgOK (its := [.res (.s (.v .bool false)) [] [] []])
    (ps := [SC cfg.P i_spec_trIs [.s (.v .str a0)] (.s (.v .bool false)) []]) (by kernel_rfl) ⟨h1, trivial⟩ get_spec_ExponentsOf (by decide)

/-! ### laws_nSame -/


def laws_nSame_L0a (x0 : (List Int)) (x1 : (List Int)) (x12 : Int) (x13 : Int) : St := mkSt 26 [(0, .s (.v (.sl (.int .i64)) x0)), (1, .s (.v (.sl (.int .i64)) x1)), (12, .s (.v (.int .i64) x12)), (13, .s (.v (.int .i64) x13))] []

def laws_nSame_L0X2 (y0 : (List Int)) (y1 : (List Int)) (y12 : Int) (y13 : Int) (y14 : Bool) : St := mkSt 26 [(0, .s (.v (.sl (.int .i64)) y0)), (1, .s (.v (.sl (.int .i64)) y1)), (12, .s (.v (.int .i64) y12)), (13, .s (.v (.int .i64) y13)), (14, .s (.v .bool y14))] []

theorem laws_nSame_L0a_i2 (x0 : (List Int)) (x1 : (List Int)) (x12 : Int) (x13 : Int)
    (h1 : x13 < x12)
    (h2 : 0 ≤ x13)
    (h3 : x13 < (List.length x0 : Int))
    (h4 : x13 < (List.length x1 : Int))
    (h5 : (List.getD x0 (x13).toNat (0 : Int)) = (List.getD x1 (x13).toNat (0 : Int)))
    {e : AEx} {st : St} (next : LoopSC cfg.P 2 (lb P_laws_nSame 0) (laws_nSame_L0a x0 x1 x12 (IntKind.wrap .i64 (x13 + (1 : Int)))) e st) :
    LoopSC cfg.P 2 (lb P_laws_nSame 0) (laws_nSame_L0a x0 x1 x12 x13) e st :=
  loop_iter cfgOK (f := i_laws_nSame) (its := [.bool true, .bool false])
    (ps := [decide (x13 < x12) = true,
      0 ≤ x13,
      x13 < (List.length x0 : Int),
      0 ≤ x13,
      x13 < (List.length x1 : Int),
      ((List.getD x0 (x13).toNat (0 : Int)) != (List.getD x1 (x13).toNat (0 : Int))) = false]) (st1 := laws_nSame_L0a x0 x1 x12 (IntKind.wrap .i64 (x13 + (1 : Int)))) (by kernel_rfl) ⟨(decide_eq_true h1), h2, h3, h2, h4, (bne_eq_false_iff_eq.mpr h5), trivial⟩ next

theorem laws_nSame_L0a_x3 (x0 : (List Int)) (x1 : (List Int)) (x12 : Int) (x13 : Int)
    (h1 : ¬ (x13 < x12)) :
    LoopSC cfg.P 2 (lb P_laws_nSame 0) (laws_nSame_L0a x0 x1 x12 x13) (.exit 0) (laws_nSame_L0X2 x0 x1 x12 x13 false) :=
  loop_out cfgOK (f := i_laws_nSame) (its := [.bool false])
    (ps := [decide (x13 < x12) = false]) (by kernel_rfl) ⟨(decide_eq_false h1), trivial⟩ (fun h => by cases h)

theorem laws_nSame_p3 (a0 : (List Int)) (a1 : (List Int)) (k1y0 : (List Int)) (k1y1 : (List Int)) (k1y12 : Int) (k1y13 : Int) (k1y14 : Bool)
    (h1 : ((List.length a0 : Nat) : Int) = ((List.length a1 : Nat) : Int))
    (h2 : LoopSC cfg.P 2 (lb P_laws_nSame 0) (laws_nSame_L0a a0 a1 ((List.length a0 : Nat) : Int) (0 : Int)) (.exit 0) (laws_nSame_L0X2 k1y0 k1y1 k1y12 k1y13 k1y14)) :
    SC cfg.P i_laws_nSame [.s (.v (.sl (.int .i64)) a0), .s (.v (.sl (.int .i64)) a1)] (.s (.v .bool true)) [] :=
  SC_of_run cfgOK (its := [.bool false, .loop (fun _ => (.exit 0, laws_nSame_L0X2 k1y0 k1y1 k1y12 k1y13 k1y14))])
    (ps := [(((List.length a0 : Nat) : Int) != ((List.length a1 : Nat) : Int)) = false,
      LoopSC cfg.P 2 (lb P_laws_nSame 0) (laws_nSame_L0a a0 a1 ((List.length a0 : Nat) : Int) (0 : Int)) (.exit 0) (laws_nSame_L0X2 k1y0 k1y1 k1y12 k1y13 k1y14)]) (by kernel_rfl) ⟨(bne_eq_false_iff_eq.mpr h1), h2, trivial⟩ get_laws_nSame (by decide)

/-! ### impl_WordOfPair -/


theorem impl_WordOfPair_p1 (a0 : (ByteArray × ByteArray)) (c1a : (Tr × Tr)) (c2 : (Tr × Tr)) (c3 : (List Int)) (c4b : Bool)
    (h1 : SC cfg.P i_impl_pairOf [.s (.v (.pr .str .str) a0)] (.tup [.v (.pr .tree .tree) c1a, .v .bool true]) [])
    (h2 : SC cfg.P i_impl_pair_reduced [.s (.v (.pr .tree .tree) c1a)] (.s (.v (.pr .tree .tree) c2)) [])
    (h3 : SC cfg.P i_impl_wordOfPair [.s (.v (.pr .tree .tree) c2)] (.s (.own t_int (.int .i64) c3)) [])
    (h4 : SCS cfg.P i_impl_madeWord [.s (.v (.sl (.int .i64)) c3)] (.v .bool c4b)) :
    SC cfg.P i_impl_WordOfPair [.s (.v (.pr .str .str) a0)] (.tup [.own t_int (.int .i64) c3, .v .bool c4b]) [] :=
  SC_of_run cfgOK (its := [.res (.tup [.v (.pr .tree .tree) c1a, .v .bool true]) [] [] [], .res (.s (.v (.pr .tree .tree) c2)) [] [] [], .res (.s (.own t_int (.int .i64) c3)) [] [] [15], .same (.v .bool c4b)])
    (ps := [SC cfg.P i_impl_pairOf [.s (.v (.pr .str .str) a0)] (.tup [.v (.pr .tree .tree) c1a, .v .bool true]) [],
      SC cfg.P i_impl_pair_reduced [.s (.v (.pr .tree .tree) c1a)] (.s (.v (.pr .tree .tree) c2)) [],
      SC cfg.P i_impl_wordOfPair [.s (.v (.pr .tree .tree) c2)] (.s (.own t_int (.int .i64) c3)) [],
      SCS cfg.P i_impl_madeWord [.s (.v (.sl (.int .i64)) c3)] (.v .bool c4b)]) (by kernel_rfl) ⟨h1, h2, h3, h4, trivial⟩ get_impl_WordOfPair (by decide)

theorem impl_WordOfPair_p3 (a0 : (ByteArray × ByteArray)) (c1a : (Tr × Tr))
    (h1 : SC cfg.P i_impl_pairOf [.s (.v (.pr .str .str) a0)] (.tup [.v (.pr .tree .tree) c1a, .v .bool false]) []) :
    SC cfg.P i_impl_WordOfPair [.s (.v (.pr .str .str) a0)] (.tup [.own t_int (.int .i64) ([] : List Int), .v .bool false]) [] :=
  SC_of_run cfgOK (its := [.res (.tup [.v (.pr .tree .tree) c1a, .v .bool false]) [] [] []])
    (ps := [SC cfg.P i_impl_pairOf [.s (.v (.pr .str .str) a0)] (.tup [.v (.pr .tree .tree) c1a, .v .bool false]) []]) (by kernel_rfl) ⟨h1, trivial⟩ get_impl_WordOfPair (by decide)

/-! ### laws_nSum -/


def laws_nSum_L0a (x3 : Int) (x6 : (List Int)) (x7 : Int) (x8 : Int) : St := mkSt 17 [(3, .s (.v (.int .i64) x3)), (6, .s (.v (.sl (.int .i64)) x6)), (7, .s (.v (.int .i64) x7)), (8, .s (.v (.int .i64) x8))] []

def laws_nSum_L0X1 (y3 : Int) (y6 : (List Int)) (y7 : Int) (y8 : Int) (y9 : Bool) : St := mkSt 17 [(3, .s (.v (.int .i64) y3)), (6, .s (.v (.sl (.int .i64)) y6)), (7, .s (.v (.int .i64) y7)), (8, .s (.v (.int .i64) y8)), (9, .s (.v .bool y9))] []

theorem laws_nSum_L0a_i1 (x3 : Int) (x6 : (List Int)) (x7 : Int) (x8 : Int)
    (h1 : x8 < x7)
    (h2 : 0 ≤ x8)
    (h3 : x8 < (List.length x6 : Int))
    {e : AEx} {st : St} (next : LoopSC cfg.P 1 (lb P_laws_nSum 0) (laws_nSum_L0a (IntKind.wrap .i64 (x3 + (List.getD x6 (x8).toNat (0 : Int)))) x6 x7 (IntKind.wrap .i64 (x8 + (1 : Int)))) e st) :
    LoopSC cfg.P 1 (lb P_laws_nSum 0) (laws_nSum_L0a x3 x6 x7 x8) e st :=
  loop_iter cfgOK (f := i_laws_nSum) (its := [.bool true])
    (ps := [decide (x8 < x7) = true,
      0 ≤ x8,
      x8 < (List.length x6 : Int)]) (st1 := laws_nSum_L0a (IntKind.wrap .i64 (x3 + (List.getD x6 (x8).toNat (0 : Int)))) x6 x7 (IntKind.wrap .i64 (x8 + (1 : Int)))) (by kernel_rfl) ⟨(decide_eq_true h1), h2, h3, trivial⟩ next

theorem laws_nSum_L0a_x2 (x3 : Int) (x6 : (List Int)) (x7 : Int) (x8 : Int)
    (h1 : ¬ (x8 < x7)) :
    LoopSC cfg.P 1 (lb P_laws_nSum 0) (laws_nSum_L0a x3 x6 x7 x8) (.exit 0) (laws_nSum_L0X1 x3 x6 x7 x8 false) :=
  loop_out cfgOK (f := i_laws_nSum) (its := [.bool false])
    (ps := [decide (x8 < x7) = false]) (by kernel_rfl) ⟨(decide_eq_false h1), trivial⟩ (fun h => by cases h)

theorem laws_nSum_p1 (a0 : (List Int)) (k1y3 : Int) (k1y6 : (List Int)) (k1y7 : Int) (k1y8 : Int) (k1y9 : Bool)
    (h1 : LoopSC cfg.P 1 (lb P_laws_nSum 0) (laws_nSum_L0a (0 : Int) a0 ((List.length a0 : Nat) : Int) (0 : Int)) (.exit 0) (laws_nSum_L0X1 k1y3 k1y6 k1y7 k1y8 k1y9)) :
    SC cfg.P i_laws_nSum [.s (.v (.sl (.int .i64)) a0)] (.s (.v (.int .i64) k1y3)) [] :=
  SC_of_run cfgOK (its := [.loop (fun _ => (.exit 0, laws_nSum_L0X1 k1y3 k1y6 k1y7 k1y8 k1y9))])
    (ps := [LoopSC cfg.P 1 (lb P_laws_nSum 0) (laws_nSum_L0a (0 : Int) a0 ((List.length a0 : Nat) : Int) (0 : Int)) (.exit 0) (laws_nSum_L0X1 k1y3 k1y6 k1y7 k1y8 k1y9)]) (by kernel_rfl) ⟨h1, trivial⟩ get_laws_nSum (by decide)

/-! ### spec_DrawTreeOfExponents -/


def spec_DrawTreeOfExponents_L0a (x6 : Int) (xo21 : (List Int)) : St := mkSt 73 [(5, .s (.osl 21 0)), (6, .s (.v (.int .i64) x6))] [(21, .row t_int (.int .i64) xo21 0 false)]

def spec_DrawTreeOfExponents_L0X1 (y6 : Int) (y33 : Bool) (yo21 : (List Int)) : St := mkSt 73 [(5, .s (.osl 21 0)), (6, .s (.v (.int .i64) y6)), (33, .s (.v .bool y33))] [(21, .row t_int (.int .i64) yo21 0 false)]

def spec_DrawTreeOfExponents_L1a (x8 : Int) (xo7 : (List Int)) (xo11 : ((List Int) × (Int × Int))) : St := mkSt 73 [(3, .s (.adr 11 none)), (7, .s (.osl 7 0)), (8, .s (.v (.int .i64) x8))] [(7, .row t_int (.int .i64) xo7 0 false), (11, .box (.pr (.sl (.int .u8)) (.pr (.int .i64) (.int .u64))) xo11 false)]

def spec_DrawTreeOfExponents_L1X1 (y8 : Int) (y43 : Bool) (yo7 : (List Int)) (yo11 : ((List Int) × (Int × Int))) : St := mkSt 73 [(3, .s (.adr 11 none)), (7, .s (.osl 7 0)), (8, .s (.v (.int .i64) y8)), (43, .s (.v .bool y43))] [(7, .row t_int (.int .i64) yo7 0 false), (11, .box (.pr (.sl (.int .u8)) (.pr (.int .i64) (.int .u64))) yo11 false)]

theorem spec_DrawTreeOfExponents_L0a_i1 (x6 : Int) (xo21 : (List Int))
    (h1 : x6 > (0 : Int))
    (h2 : 0 ≤ (IntKind.wrap .i64 (x6 - (1 : Int))))
    (h3 : (IntKind.wrap .i64 (x6 - (1 : Int))) < (List.length xo21 : Int))
    (h4 : ((IntKind.wrap .i64 (x6 - (1 : Int)))).toNat < List.length xo21)
    (h5 : (List.getD xo21 ((IntKind.wrap .i64 (x6 - (1 : Int)))).toNat (0 : Int)) = (0 : Int))
    {e : AEx} {st : St} (next : LoopSC cfg.P 1 (lb P_spec_DrawTreeOfExponents 0) (spec_DrawTreeOfExponents_L0a (IntKind.wrap .i64 (x6 - (1 : Int))) xo21) e st) :
    LoopSC cfg.P 1 (lb P_spec_DrawTreeOfExponents 0) (spec_DrawTreeOfExponents_L0a x6 xo21) e st :=
  loop_iter cfgOK (f := i_spec_DrawTreeOfExponents) (its := [.bool true, .bool true])
    (ps := [decide (x6 > (0 : Int)) = true,
      0 ≤ (IntKind.wrap .i64 (x6 - (1 : Int))),
      (IntKind.wrap .i64 (x6 - (1 : Int))) < (List.length xo21 : Int),
      ((IntKind.wrap .i64 (x6 - (1 : Int)))).toNat < List.length xo21,
      ((List.getD xo21 ((IntKind.wrap .i64 (x6 - (1 : Int)))).toNat (0 : Int)) == (0 : Int)) = true]) (st1 := spec_DrawTreeOfExponents_L0a (IntKind.wrap .i64 (x6 - (1 : Int))) xo21) (by kernel_rfl) ⟨(decide_eq_true h1), h2, h3, h4, (beq_iff_eq.mpr h5), trivial⟩ next

theorem spec_DrawTreeOfExponents_L0a_x2 (x6 : Int) (xo21 : (List Int))
    (h1 : x6 > (0 : Int))
    (h2 : 0 ≤ (IntKind.wrap .i64 (x6 - (1 : Int))))
    (h3 : (IntKind.wrap .i64 (x6 - (1 : Int))) < (List.length xo21 : Int))
    (h4 : ((IntKind.wrap .i64 (x6 - (1 : Int)))).toNat < List.length xo21)
    (h5 : (List.getD xo21 ((IntKind.wrap .i64 (x6 - (1 : Int)))).toNat (0 : Int)) ≠ (0 : Int)) :
    LoopSC cfg.P 1 (lb P_spec_DrawTreeOfExponents 0) (spec_DrawTreeOfExponents_L0a x6 xo21) (.exit 0) (spec_DrawTreeOfExponents_L0X1 x6 false xo21) :=
  loop_out cfgOK (f := i_spec_DrawTreeOfExponents) (its := [.bool true, .bool false])
    (ps := [decide (x6 > (0 : Int)) = true,
      0 ≤ (IntKind.wrap .i64 (x6 - (1 : Int))),
      (IntKind.wrap .i64 (x6 - (1 : Int))) < (List.length xo21 : Int),
      ((IntKind.wrap .i64 (x6 - (1 : Int)))).toNat < List.length xo21,
      ((List.getD xo21 ((IntKind.wrap .i64 (x6 - (1 : Int)))).toNat (0 : Int)) == (0 : Int)) = false]) (by kernel_rfl) ⟨(decide_eq_true h1), h2, h3, h4, (beq_eq_false_iff_ne.mpr h5), trivial⟩ (fun h => by cases h)

theorem spec_DrawTreeOfExponents_L0a_x3 (x6 : Int) (xo21 : (List Int))
    (h1 : ¬ (x6 > (0 : Int))) :
    LoopSC cfg.P 1 (lb P_spec_DrawTreeOfExponents 0) (spec_DrawTreeOfExponents_L0a x6 xo21) (.exit 0) (spec_DrawTreeOfExponents_L0X1 x6 false xo21) :=
  loop_out cfgOK (f := i_spec_DrawTreeOfExponents) (its := [.bool false])
    (ps := [decide (x6 > (0 : Int)) = false]) (by kernel_rfl) ⟨(decide_eq_false h1), trivial⟩ (fun h => by cases h)

theorem spec_DrawTreeOfExponents_L1a_i1 (x8 : Int) (xo7 : (List Int)) (xo11 : ((List Int) × (Int × Int))) (dc1 : Int) (dc1o0 : ((List Int) × (Int × Int)))
    (h1 : x8 > (0 : Int))
    (h2 : SC cfg.P i_spec_l1Cur_among [.s (.mbx (.pr (.sl (.int .u8)) (.pr (.int .i64) (.int .u64))) xo11), .s (.v (.sl (.int .i64)) ([(0 : Int), (0 : Int), (1 : Int), (1 : Int), (2 : Int)] : List Int))] (.s (.v (.int .i64) dc1)) [.box (.pr (.sl (.int .u8)) (.pr (.int .i64) (.int .u64))) dc1o0])
    (h3 : sizeOK (List.length xo7 + List.length ([dc1] : List Int)))
    {e : AEx} {st : St} (next : LoopSC cfg.P 1 (lb P_spec_DrawTreeOfExponents 1) (spec_DrawTreeOfExponents_L1a (IntKind.wrap .i64 (x8 - (1 : Int))) (xo7 ++ ([dc1] : List Int)) dc1o0) e st) :
    LoopSC cfg.P 1 (lb P_spec_DrawTreeOfExponents 1) (spec_DrawTreeOfExponents_L1a x8 xo7 xo11) e st :=
  loop_iter cfgOK (f := i_spec_DrawTreeOfExponents) (its := [.bool true, .res (.s (.v (.int .i64) dc1)) [.box (.pr (.sl (.int .u8)) (.pr (.int .i64) (.int .u64))) dc1o0] [] []])
    (ps := [decide (x8 > (0 : Int)) = true,
      SC cfg.P i_spec_l1Cur_among [.s (.mbx (.pr (.sl (.int .u8)) (.pr (.int .i64) (.int .u64))) xo11), .s (.v (.sl (.int .i64)) ([(0 : Int), (0 : Int), (1 : Int), (1 : Int), (2 : Int)] : List Int))] (.s (.v (.int .i64) dc1)) [.box (.pr (.sl (.int .u8)) (.pr (.int .i64) (.int .u64))) dc1o0],
      sizeOK (List.length xo7 + List.length ([dc1] : List Int))]) (st1 := spec_DrawTreeOfExponents_L1a (IntKind.wrap .i64 (x8 - (1 : Int))) (xo7 ++ ([dc1] : List Int)) dc1o0) (by kernel_rfl) ⟨(decide_eq_true h1), h2, h3, trivial⟩ next

theorem spec_DrawTreeOfExponents_L1a_x2 (x8 : Int) (xo7 : (List Int)) (xo11 : ((List Int) × (Int × Int)))
    (h1 : ¬ (x8 > (0 : Int))) :
    LoopSC cfg.P 1 (lb P_spec_DrawTreeOfExponents 1) (spec_DrawTreeOfExponents_L1a x8 xo7 xo11) (.exit 2) (spec_DrawTreeOfExponents_L1X1 x8 false xo7 xo11) :=
  loop_out cfgOK (f := i_spec_DrawTreeOfExponents) (its := [.bool false])
    (ps := [decide (x8 > (0 : Int)) = false]) (by kernel_rfl) ⟨(decide_eq_false h1), trivial⟩ (fun h => by cases h)

theorem spec_DrawTreeOfExponents_p1 (a0 : (List Int)) (c1 : ByteArray) (c1o0 : ((List Int) × (Int × Int))) (c3o0 : ((List Int) × (Int × Int))) (c4 : (List Int)) (k1y6 : Int) (k1y33 : Bool) (k1yo21 : (List Int)) (c5 : (List Int))
    (h1 : SC cfg.P i_spec_l1Cur_tree [.s (.mbx (.pr (.sl (.int .u8)) (.pr (.int .i64) (.int .u64))) (a0, ((0 : Int), (0 : Int)))), .s (.v (.int .i64) (8 : Int))] (.s (.v .str c1)) [.box (.pr (.sl (.int .u8)) (.pr (.int .i64) (.int .u64))) c1o0])
    (h2 : SC cfg.P i_spec_trIs [.s (.v .str c1)] (.s (.v .bool true)) [])
    (h3 : SC cfg.P i_spec_l1Cur_one [.s (.mbx (.pr (.sl (.int .u8)) (.pr (.int .i64) (.int .u64))) c1o0), .s (.v (.int .i64) (2 : Int))] (.s (.v .bool true)) [.box (.pr (.sl (.int .u8)) (.pr (.int .i64) (.int .u64))) c3o0])
    (h4 : SC cfg.P i_spec_wdRight [.s (.v .str c1)] (.s (.own t_int (.int .i64) c4)) [])
    (h5 : LoopSC cfg.P 1 (lb P_spec_DrawTreeOfExponents 0) (spec_DrawTreeOfExponents_L0a ((List.length c4 : Nat) : Int) c4) (.exit 0) (spec_DrawTreeOfExponents_L0X1 k1y6 k1y33 k1yo21))
    (h6 : 0 ≤ k1y6)
    (h7 : k1y6 ≤ (List.length k1yo21 : Int))
    (h8 : SC cfg.P i_spec_l1Own [.s (.v (.sl (.int .i64)) (cutL k1yo21 (0 : Int) k1y6))] (.s (.own t_int (.int .i64) c5)) []) :
    SC cfg.P i_spec_DrawTreeOfExponents [.s (.v (.sl (.int .u8)) a0)] (.s (.own t_int (.int .i64) c5)) [] :=
  SC_of_run cfgOK (its := [.res (.s (.v .str c1)) [.box (.pr (.sl (.int .u8)) (.pr (.int .i64) (.int .u64))) c1o0] [] [], .res (.s (.v .bool true)) [] [] [], .res (.s (.v .bool true)) [.box (.pr (.sl (.int .u8)) (.pr (.int .i64) (.int .u64))) c3o0] [] [], .res (.s (.own t_int (.int .i64) c4)) [] [] [21], .loop (fun _ => (.exit 0, spec_DrawTreeOfExponents_L0X1 k1y6 k1y33 k1yo21)), .std, .res (.s (.own t_int (.int .i64) c5)) [] [] [39]])
    (ps := [SC cfg.P i_spec_l1Cur_tree [.s (.mbx (.pr (.sl (.int .u8)) (.pr (.int .i64) (.int .u64))) (a0, ((0 : Int), (0 : Int)))), .s (.v (.int .i64) (8 : Int))] (.s (.v .str c1)) [.box (.pr (.sl (.int .u8)) (.pr (.int .i64) (.int .u64))) c1o0],
      SC cfg.P i_spec_trIs [.s (.v .str c1)] (.s (.v .bool true)) [],
      SC cfg.P i_spec_l1Cur_one [.s (.mbx (.pr (.sl (.int .u8)) (.pr (.int .i64) (.int .u64))) c1o0), .s (.v (.int .i64) (2 : Int))] (.s (.v .bool true)) [.box (.pr (.sl (.int .u8)) (.pr (.int .i64) (.int .u64))) c3o0],
      SC cfg.P i_spec_wdRight [.s (.v .str c1)] (.s (.own t_int (.int .i64) c4)) [],
      LoopSC cfg.P 1 (lb P_spec_DrawTreeOfExponents 0) (spec_DrawTreeOfExponents_L0a ((List.length c4 : Nat) : Int) c4) (.exit 0) (spec_DrawTreeOfExponents_L0X1 k1y6 k1y33 k1yo21),
      0 ≤ k1y6,
      k1y6 ≤ (List.length k1yo21 : Int),
      SC cfg.P i_spec_l1Own [.s (.v (.sl (.int .i64)) (cutL k1yo21 (0 : Int) k1y6))] (.s (.own t_int (.int .i64) c5)) []]) (by kernel_rfl) ⟨h1, h2, h3, h4, h5, h6, h7, h8, trivial⟩ get_spec_DrawTreeOfExponents (by decide)

theorem spec_DrawTreeOfExponents_p2 (a0 : (List Int)) (c1 : ByteArray) (c1o0 : ((List Int) × (Int × Int))) (c3o0 : ((List Int) × (Int × Int))) (c4 : Int) (c4o0 : ((List Int) × (Int × Int))) (k1y8 : Int) (k1y43 : Bool) (k1yo7 : (List Int)) (k1yo11 : ((List Int) × (Int × Int))) (c5o0 : ((List Int) × (Int × Int))) (c6o0 : ((List Int) × (Int × Int))) (c7 : Int) (c7o0 : ((List Int) × (Int × Int)))
    (h1 : SC cfg.P i_spec_l1Cur_tree [.s (.mbx (.pr (.sl (.int .u8)) (.pr (.int .i64) (.int .u64))) (a0, ((0 : Int), (0 : Int)))), .s (.v (.int .i64) (8 : Int))] (.s (.v .str c1)) [.box (.pr (.sl (.int .u8)) (.pr (.int .i64) (.int .u64))) c1o0])
    (h2 : SC cfg.P i_spec_trIs [.s (.v .str c1)] (.s (.v .bool true)) [])
    (h3 : SC cfg.P i_spec_l1Cur_one [.s (.mbx (.pr (.sl (.int .u8)) (.pr (.int .i64) (.int .u64))) c1o0), .s (.v (.int .i64) (2 : Int))] (.s (.v .bool false)) [.box (.pr (.sl (.int .u8)) (.pr (.int .i64) (.int .u64))) c3o0])
    (h4 : SC cfg.P i_spec_l1Cur_pick [.s (.mbx (.pr (.sl (.int .u8)) (.pr (.int .i64) (.int .u64))) c3o0), .s (.v (.int .i64) (6 : Int))] (.s (.v (.int .i64) c4)) [.box (.pr (.sl (.int .u8)) (.pr (.int .i64) (.int .u64))) c4o0])
    (h5 : LoopSC cfg.P 1 (lb P_spec_DrawTreeOfExponents 1) (spec_DrawTreeOfExponents_L1a c4 ([] : List Int) c4o0) (.exit 2) (spec_DrawTreeOfExponents_L1X1 k1y8 k1y43 k1yo7 k1yo11))
    (h6 : ((List.length k1yo7 : Nat) : Int) > (0 : Int))
    (h7 : SC cfg.P i_spec_l1Cur_one [.s (.mbx (.pr (.sl (.int .u8)) (.pr (.int .i64) (.int .u64))) k1yo11), .s (.v (.int .i64) (2 : Int))] (.s (.v .bool true)) [.box (.pr (.sl (.int .u8)) (.pr (.int .i64) (.int .u64))) c5o0])
    (h8 : 0 ≤ (IntKind.wrap .i64 (((List.length k1yo7 : Nat) : Int) - (1 : Int))))
    (h9 : (IntKind.wrap .i64 (((List.length k1yo7 : Nat) : Int) - (1 : Int))) < (List.length k1yo7 : Int))
    (h10 : ((IntKind.wrap .i64 (((List.length k1yo7 : Nat) : Int) - (1 : Int)))).toNat < List.length k1yo7)
    (h11 : SC cfg.P i_spec_l1Cur_one [.s (.mbx (.pr (.sl (.int .u8)) (.pr (.int .i64) (.int .u64))) c5o0), .s (.v (.int .i64) (12 : Int))] (.s (.v .bool true)) [.box (.pr (.sl (.int .u8)) (.pr (.int .i64) (.int .u64))) c6o0])
    (h12 : SC cfg.P i_spec_l1Cur_among [.s (.mbx (.pr (.sl (.int .u8)) (.pr (.int .i64) (.int .u64))) c6o0), .s (.v (.sl (.int .i64)) ([(-1 : Int), (0 : Int), (9 : Int), (8 : Int), (4611686018427387904 : Int)] : List Int))] (.s (.v (.int .i64) c7)) [.box (.pr (.sl (.int .u8)) (.pr (.int .i64) (.int .u64))) c7o0])
    (h13 : sizeOK (List.length (List.set k1yo7 ((IntKind.wrap .i64 (((List.length k1yo7 : Nat) : Int) - (1 : Int)))).toNat (1 : Int)) + List.length ([c7] : List Int))) :
    SC cfg.P i_spec_DrawTreeOfExponents [.s (.v (.sl (.int .u8)) a0)] (.s (.own t_int (.int .i64) ((List.set k1yo7 ((IntKind.wrap .i64 (((List.length k1yo7 : Nat) : Int) - (1 : Int)))).toNat (1 : Int)) ++ ([c7] : List Int)))) [] :=
  SC_of_run cfgOK (its := [.res (.s (.v .str c1)) [.box (.pr (.sl (.int .u8)) (.pr (.int .i64) (.int .u64))) c1o0] [] [], .res (.s (.v .bool true)) [] [] [], .res (.s (.v .bool false)) [.box (.pr (.sl (.int .u8)) (.pr (.int .i64) (.int .u64))) c3o0] [] [], .res (.s (.v (.int .i64) c4)) [.box (.pr (.sl (.int .u8)) (.pr (.int .i64) (.int .u64))) c4o0] [] [], .loop (fun _ => (.exit 2, spec_DrawTreeOfExponents_L1X1 k1y8 k1y43 k1yo7 k1yo11)), .bool true, .res (.s (.v .bool true)) [.box (.pr (.sl (.int .u8)) (.pr (.int .i64) (.int .u64))) c5o0] [] [], .res (.s (.v .bool true)) [.box (.pr (.sl (.int .u8)) (.pr (.int .i64) (.int .u64))) c6o0] [] [], .res (.s (.v (.int .i64) c7)) [.box (.pr (.sl (.int .u8)) (.pr (.int .i64) (.int .u64))) c7o0] [] []])
    (ps := [SC cfg.P i_spec_l1Cur_tree [.s (.mbx (.pr (.sl (.int .u8)) (.pr (.int .i64) (.int .u64))) (a0, ((0 : Int), (0 : Int)))), .s (.v (.int .i64) (8 : Int))] (.s (.v .str c1)) [.box (.pr (.sl (.int .u8)) (.pr (.int .i64) (.int .u64))) c1o0],
      SC cfg.P i_spec_trIs [.s (.v .str c1)] (.s (.v .bool true)) [],
      SC cfg.P i_spec_l1Cur_one [.s (.mbx (.pr (.sl (.int .u8)) (.pr (.int .i64) (.int .u64))) c1o0), .s (.v (.int .i64) (2 : Int))] (.s (.v .bool false)) [.box (.pr (.sl (.int .u8)) (.pr (.int .i64) (.int .u64))) c3o0],
      SC cfg.P i_spec_l1Cur_pick [.s (.mbx (.pr (.sl (.int .u8)) (.pr (.int .i64) (.int .u64))) c3o0), .s (.v (.int .i64) (6 : Int))] (.s (.v (.int .i64) c4)) [.box (.pr (.sl (.int .u8)) (.pr (.int .i64) (.int .u64))) c4o0],
      LoopSC cfg.P 1 (lb P_spec_DrawTreeOfExponents 1) (spec_DrawTreeOfExponents_L1a c4 ([] : List Int) c4o0) (.exit 2) (spec_DrawTreeOfExponents_L1X1 k1y8 k1y43 k1yo7 k1yo11),
      decide (((List.length k1yo7 : Nat) : Int) > (0 : Int)) = true,
      SC cfg.P i_spec_l1Cur_one [.s (.mbx (.pr (.sl (.int .u8)) (.pr (.int .i64) (.int .u64))) k1yo11), .s (.v (.int .i64) (2 : Int))] (.s (.v .bool true)) [.box (.pr (.sl (.int .u8)) (.pr (.int .i64) (.int .u64))) c5o0],
      0 ≤ (IntKind.wrap .i64 (((List.length k1yo7 : Nat) : Int) - (1 : Int))),
      (IntKind.wrap .i64 (((List.length k1yo7 : Nat) : Int) - (1 : Int))) < (List.length k1yo7 : Int),
      ((IntKind.wrap .i64 (((List.length k1yo7 : Nat) : Int) - (1 : Int)))).toNat < List.length k1yo7,
      SC cfg.P i_spec_l1Cur_one [.s (.mbx (.pr (.sl (.int .u8)) (.pr (.int .i64) (.int .u64))) c5o0), .s (.v (.int .i64) (12 : Int))] (.s (.v .bool true)) [.box (.pr (.sl (.int .u8)) (.pr (.int .i64) (.int .u64))) c6o0],
      SC cfg.P i_spec_l1Cur_among [.s (.mbx (.pr (.sl (.int .u8)) (.pr (.int .i64) (.int .u64))) c6o0), .s (.v (.sl (.int .i64)) ([(-1 : Int), (0 : Int), (9 : Int), (8 : Int), (4611686018427387904 : Int)] : List Int))] (.s (.v (.int .i64) c7)) [.box (.pr (.sl (.int .u8)) (.pr (.int .i64) (.int .u64))) c7o0],
      sizeOK (List.length (List.set k1yo7 ((IntKind.wrap .i64 (((List.length k1yo7 : Nat) : Int) - (1 : Int)))).toNat (1 : Int)) + List.length ([c7] : List Int))]) (by kernel_rfl) ⟨h1, h2, h3, h4, h5, (decide_eq_true h6), h7, h8, h9, h10, h11, h12, h13, trivial⟩ get_spec_DrawTreeOfExponents (by decide)

theorem spec_DrawTreeOfExponents_p3 (a0 : (List Int)) (c1 : ByteArray) (c1o0 : ((List Int) × (Int × Int))) (c3o0 : ((List Int) × (Int × Int))) (c4 : Int) (c4o0 : ((List Int) × (Int × Int))) (k1y8 : Int) (k1y43 : Bool) (k1yo7 : (List Int)) (k1yo11 : ((List Int) × (Int × Int))) (c5o0 : ((List Int) × (Int × Int))) (c6o0 : ((List Int) × (Int × Int)))
    (h1 : SC cfg.P i_spec_l1Cur_tree [.s (.mbx (.pr (.sl (.int .u8)) (.pr (.int .i64) (.int .u64))) (a0, ((0 : Int), (0 : Int)))), .s (.v (.int .i64) (8 : Int))] (.s (.v .str c1)) [.box (.pr (.sl (.int .u8)) (.pr (.int .i64) (.int .u64))) c1o0])
    (h2 : SC cfg.P i_spec_trIs [.s (.v .str c1)] (.s (.v .bool true)) [])
    (h3 : SC cfg.P i_spec_l1Cur_one [.s (.mbx (.pr (.sl (.int .u8)) (.pr (.int .i64) (.int .u64))) c1o0), .s (.v (.int .i64) (2 : Int))] (.s (.v .bool false)) [.box (.pr (.sl (.int .u8)) (.pr (.int .i64) (.int .u64))) c3o0])
    (h4 : SC cfg.P i_spec_l1Cur_pick [.s (.mbx (.pr (.sl (.int .u8)) (.pr (.int .i64) (.int .u64))) c3o0), .s (.v (.int .i64) (6 : Int))] (.s (.v (.int .i64) c4)) [.box (.pr (.sl (.int .u8)) (.pr (.int .i64) (.int .u64))) c4o0])
    (h5 : LoopSC cfg.P 1 (lb P_spec_DrawTreeOfExponents 1) (spec_DrawTreeOfExponents_L1a c4 ([] : List Int) c4o0) (.exit 2) (spec_DrawTreeOfExponents_L1X1 k1y8 k1y43 k1yo7 k1yo11))
    (h6 : ((List.length k1yo7 : Nat) : Int) > (0 : Int))
    (h7 : SC cfg.P i_spec_l1Cur_one [.s (.mbx (.pr (.sl (.int .u8)) (.pr (.int .i64) (.int .u64))) k1yo11), .s (.v (.int .i64) (2 : Int))] (.s (.v .bool true)) [.box (.pr (.sl (.int .u8)) (.pr (.int .i64) (.int .u64))) c5o0])
    (h8 : 0 ≤ (IntKind.wrap .i64 (((List.length k1yo7 : Nat) : Int) - (1 : Int))))
    (h9 : (IntKind.wrap .i64 (((List.length k1yo7 : Nat) : Int) - (1 : Int))) < (List.length k1yo7 : Int))
    (h10 : ((IntKind.wrap .i64 (((List.length k1yo7 : Nat) : Int) - (1 : Int)))).toNat < List.length k1yo7)
    (h11 : SC cfg.P i_spec_l1Cur_one [.s (.mbx (.pr (.sl (.int .u8)) (.pr (.int .i64) (.int .u64))) c5o0), .s (.v (.int .i64) (12 : Int))] (.s (.v .bool false)) [.box (.pr (.sl (.int .u8)) (.pr (.int .i64) (.int .u64))) c6o0]) :
    SC cfg.P i_spec_DrawTreeOfExponents [.s (.v (.sl (.int .u8)) a0)] (.s (.own t_int (.int .i64) (List.set k1yo7 ((IntKind.wrap .i64 (((List.length k1yo7 : Nat) : Int) - (1 : Int)))).toNat (1 : Int)))) [] :=
  SC_of_run cfgOK (its := [.res (.s (.v .str c1)) [.box (.pr (.sl (.int .u8)) (.pr (.int .i64) (.int .u64))) c1o0] [] [], .res (.s (.v .bool true)) [] [] [], .res (.s (.v .bool false)) [.box (.pr (.sl (.int .u8)) (.pr (.int .i64) (.int .u64))) c3o0] [] [], .res (.s (.v (.int .i64) c4)) [.box (.pr (.sl (.int .u8)) (.pr (.int .i64) (.int .u64))) c4o0] [] [], .loop (fun _ => (.exit 2, spec_DrawTreeOfExponents_L1X1 k1y8 k1y43 k1yo7 k1yo11)), .bool true, .res (.s (.v .bool true)) [.box (.pr (.sl (.int .u8)) (.pr (.int .i64) (.int .u64))) c5o0] [] [], .res (.s (.v .bool false)) [.box (.pr (.sl (.int .u8)) (.pr (.int .i64) (.int .u64))) c6o0] [] []])
    (ps := [SC cfg.P i_spec_l1Cur_tree [.s (.mbx (.pr (.sl (.int .u8)) (.pr (.int .i64) (.int .u64))) (a0, ((0 : Int), (0 : Int)))), .s (.v (.int .i64) (8 : Int))] (.s (.v .str c1)) [.box (.pr (.sl (.int .u8)) (.pr (.int .i64) (.int .u64))) c1o0],
      SC cfg.P i_spec_trIs [.s (.v .str c1)] (.s (.v .bool true)) [],
      SC cfg.P i_spec_l1Cur_one [.s (.mbx (.pr (.sl (.int .u8)) (.pr (.int .i64) (.int .u64))) c1o0), .s (.v (.int .i64) (2 : Int))] (.s (.v .bool false)) [.box (.pr (.sl (.int .u8)) (.pr (.int .i64) (.int .u64))) c3o0],
      SC cfg.P i_spec_l1Cur_pick [.s (.mbx (.pr (.sl (.int .u8)) (.pr (.int .i64) (.int .u64))) c3o0), .s (.v (.int .i64) (6 : Int))] (.s (.v (.int .i64) c4)) [.box (.pr (.sl (.int .u8)) (.pr (.int .i64) (.int .u64))) c4o0],
      LoopSC cfg.P 1 (lb P_spec_DrawTreeOfExponents 1) (spec_DrawTreeOfExponents_L1a c4 ([] : List Int) c4o0) (.exit 2) (spec_DrawTreeOfExponents_L1X1 k1y8 k1y43 k1yo7 k1yo11),
      decide (((List.length k1yo7 : Nat) : Int) > (0 : Int)) = true,
      SC cfg.P i_spec_l1Cur_one [.s (.mbx (.pr (.sl (.int .u8)) (.pr (.int .i64) (.int .u64))) k1yo11), .s (.v (.int .i64) (2 : Int))] (.s (.v .bool true)) [.box (.pr (.sl (.int .u8)) (.pr (.int .i64) (.int .u64))) c5o0],
      0 ≤ (IntKind.wrap .i64 (((List.length k1yo7 : Nat) : Int) - (1 : Int))),
      (IntKind.wrap .i64 (((List.length k1yo7 : Nat) : Int) - (1 : Int))) < (List.length k1yo7 : Int),
      ((IntKind.wrap .i64 (((List.length k1yo7 : Nat) : Int) - (1 : Int)))).toNat < List.length k1yo7,
      SC cfg.P i_spec_l1Cur_one [.s (.mbx (.pr (.sl (.int .u8)) (.pr (.int .i64) (.int .u64))) c5o0), .s (.v (.int .i64) (12 : Int))] (.s (.v .bool false)) [.box (.pr (.sl (.int .u8)) (.pr (.int .i64) (.int .u64))) c6o0]]) (by kernel_rfl) ⟨h1, h2, h3, h4, h5, (decide_eq_true h6), h7, h8, h9, h10, h11, trivial⟩ get_spec_DrawTreeOfExponents (by decide)

theorem spec_DrawTreeOfExponents_p4 (a0 : (List Int)) (c1 : ByteArray) (c1o0 : ((List Int) × (Int × Int))) (c3o0 : ((List Int) × (Int × Int))) (c4 : Int) (c4o0 : ((List Int) × (Int × Int))) (k1y8 : Int) (k1y43 : Bool) (k1yo7 : (List Int)) (k1yo11 : ((List Int) × (Int × Int))) (c5o0 : ((List Int) × (Int × Int))) (c6o0 : ((List Int) × (Int × Int))) (c7 : Int) (c7o0 : ((List Int) × (Int × Int)))
    (h1 : SC cfg.P i_spec_l1Cur_tree [.s (.mbx (.pr (.sl (.int .u8)) (.pr (.int .i64) (.int .u64))) (a0, ((0 : Int), (0 : Int)))), .s (.v (.int .i64) (8 : Int))] (.s (.v .str c1)) [.box (.pr (.sl (.int .u8)) (.pr (.int .i64) (.int .u64))) c1o0])
    (h2 : SC cfg.P i_spec_trIs [.s (.v .str c1)] (.s (.v .bool true)) [])
    (h3 : SC cfg.P i_spec_l1Cur_one [.s (.mbx (.pr (.sl (.int .u8)) (.pr (.int .i64) (.int .u64))) c1o0), .s (.v (.int .i64) (2 : Int))] (.s (.v .bool false)) [.box (.pr (.sl (.int .u8)) (.pr (.int .i64) (.int .u64))) c3o0])
    (h4 : SC cfg.P i_spec_l1Cur_pick [.s (.mbx (.pr (.sl (.int .u8)) (.pr (.int .i64) (.int .u64))) c3o0), .s (.v (.int .i64) (6 : Int))] (.s (.v (.int .i64) c4)) [.box (.pr (.sl (.int .u8)) (.pr (.int .i64) (.int .u64))) c4o0])
    (h5 : LoopSC cfg.P 1 (lb P_spec_DrawTreeOfExponents 1) (spec_DrawTreeOfExponents_L1a c4 ([] : List Int) c4o0) (.exit 2) (spec_DrawTreeOfExponents_L1X1 k1y8 k1y43 k1yo7 k1yo11))
    (h6 : ((List.length k1yo7 : Nat) : Int) > (0 : Int))
    (h7 : SC cfg.P i_spec_l1Cur_one [.s (.mbx (.pr (.sl (.int .u8)) (.pr (.int .i64) (.int .u64))) k1yo11), .s (.v (.int .i64) (2 : Int))] (.s (.v .bool false)) [.box (.pr (.sl (.int .u8)) (.pr (.int .i64) (.int .u64))) c5o0])
    (h8 : SC cfg.P i_spec_l1Cur_one [.s (.mbx (.pr (.sl (.int .u8)) (.pr (.int .i64) (.int .u64))) c5o0), .s (.v (.int .i64) (12 : Int))] (.s (.v .bool true)) [.box (.pr (.sl (.int .u8)) (.pr (.int .i64) (.int .u64))) c6o0])
    (h9 : SC cfg.P i_spec_l1Cur_among [.s (.mbx (.pr (.sl (.int .u8)) (.pr (.int .i64) (.int .u64))) c6o0), .s (.v (.sl (.int .i64)) ([(-1 : Int), (0 : Int), (9 : Int), (8 : Int), (4611686018427387904 : Int)] : List Int))] (.s (.v (.int .i64) c7)) [.box (.pr (.sl (.int .u8)) (.pr (.int .i64) (.int .u64))) c7o0])
    (h10 : sizeOK (List.length k1yo7 + List.length ([c7] : List Int))) :
    SC cfg.P i_spec_DrawTreeOfExponents [.s (.v (.sl (.int .u8)) a0)] (.s (.own t_int (.int .i64) (k1yo7 ++ ([c7] : List Int)))) [] :=
  SC_of_run cfgOK (its := [.res (.s (.v .str c1)) [.box (.pr (.sl (.int .u8)) (.pr (.int .i64) (.int .u64))) c1o0] [] [], .res (.s (.v .bool true)) [] [] [], .res (.s (.v .bool false)) [.box (.pr (.sl (.int .u8)) (.pr (.int .i64) (.int .u64))) c3o0] [] [], .res (.s (.v (.int .i64) c4)) [.box (.pr (.sl (.int .u8)) (.pr (.int .i64) (.int .u64))) c4o0] [] [], .loop (fun _ => (.exit 2, spec_DrawTreeOfExponents_L1X1 k1y8 k1y43 k1yo7 k1yo11)), .bool true, .res (.s (.v .bool false)) [.box (.pr (.sl (.int .u8)) (.pr (.int .i64) (.int .u64))) c5o0] [] [], .res (.s (.v .bool true)) [.box (.pr (.sl (.int .u8)) (.pr (.int .i64) (.int .u64))) c6o0] [] [], .res (.s (.v (.int .i64) c7)) [.box (.pr (.sl (.int .u8)) (.pr (.int .i64) (.int .u64))) c7o0] [] []])
    (ps := [SC cfg.P i_spec_l1Cur_tree [.s (.mbx (.pr (.sl (.int .u8)) (.pr (.int .i64) (.int .u64))) (a0, ((0 : Int), (0 : Int)))), .s (.v (.int .i64) (8 : Int))] (.s (.v .str c1)) [.box (.pr (.sl (.int .u8)) (.pr (.int .i64) (.int .u64))) c1o0],
      SC cfg.P i_spec_trIs [.s (.v .str c1)] (.s (.v .bool true)) [],
      SC cfg.P i_spec_l1Cur_one [.s (.mbx (.pr (.sl (.int .u8)) (.pr (.int .i64) (.int .u64))) c1o0), .s (.v (.int .i64) (2 : Int))] (.s (.v .bool false)) [.box (.pr (.sl (.int .u8)) (.pr (.int .i64) (.int .u64))) c3o0],
      SC cfg.P i_spec_l1Cur_pick [.s (.mbx (.pr (.sl (.int .u8)) (.pr (.int .i64) (.int .u64))) c3o0), .s (.v (.int .i64) (6 : Int))] (.s (.v (.int .i64) c4)) [.box (.pr (.sl (.int .u8)) (.pr (.int .i64) (.int .u64))) c4o0],
      LoopSC cfg.P 1 (lb P_spec_DrawTreeOfExponents 1) (spec_DrawTreeOfExponents_L1a c4 ([] : List Int) c4o0) (.exit 2) (spec_DrawTreeOfExponents_L1X1 k1y8 k1y43 k1yo7 k1yo11),
      decide (((List.length k1yo7 : Nat) : Int) > (0 : Int)) = true,
      SC cfg.P i_spec_l1Cur_one [.s (.mbx (.pr (.sl (.int .u8)) (.pr (.int .i64) (.int .u64))) k1yo11), .s (.v (.int .i64) (2 : Int))] (.s (.v .bool false)) [.box (.pr (.sl (.int .u8)) (.pr (.int .i64) (.int .u64))) c5o0],
      SC cfg.P i_spec_l1Cur_one [.s (.mbx (.pr (.sl (.int .u8)) (.pr (.int .i64) (.int .u64))) c5o0), .s (.v (.int .i64) (12 : Int))] (.s (.v .bool true)) [.box (.pr (.sl (.int .u8)) (.pr (.int .i64) (.int .u64))) c6o0],
      SC cfg.P i_spec_l1Cur_among [.s (.mbx (.pr (.sl (.int .u8)) (.pr (.int .i64) (.int .u64))) c6o0), .s (.v (.sl (.int .i64)) ([(-1 : Int), (0 : Int), (9 : Int), (8 : Int), (4611686018427387904 : Int)] : List Int))] (.s (.v (.int .i64) c7)) [.box (.pr (.sl (.int .u8)) (.pr (.int .i64) (.int .u64))) c7o0],
      sizeOK (List.length k1yo7 + List.length ([c7] : List Int))]) (by kernel_rfl) ⟨h1, h2, h3, h4, h5, (decide_eq_true h6), h7, h8, h9, h10, trivial⟩ get_spec_DrawTreeOfExponents (by decide)

theorem spec_DrawTreeOfExponents_p5 (a0 : (List Int)) (c1 : ByteArray) (c1o0 : ((List Int) × (Int × Int))) (c3o0 : ((List Int) × (Int × Int))) (c4 : Int) (c4o0 : ((List Int) × (Int × Int))) (k1y8 : Int) (k1y43 : Bool) (k1yo7 : (List Int)) (k1yo11 : ((List Int) × (Int × Int))) (c5o0 : ((List Int) × (Int × Int))) (c6o0 : ((List Int) × (Int × Int)))
    (h1 : SC cfg.P i_spec_l1Cur_tree [.s (.mbx (.pr (.sl (.int .u8)) (.pr (.int .i64) (.int .u64))) (a0, ((0 : Int), (0 : Int)))), .s (.v (.int .i64) (8 : Int))] (.s (.v .str c1)) [.box (.pr (.sl (.int .u8)) (.pr (.int .i64) (.int .u64))) c1o0])
    (h2 : SC cfg.P i_spec_trIs [.s (.v .str c1)] (.s (.v .bool true)) [])
    (h3 : SC cfg.P i_spec_l1Cur_one [.s (.mbx (.pr (.sl (.int .u8)) (.pr (.int .i64) (.int .u64))) c1o0), .s (.v (.int .i64) (2 : Int))] (.s (.v .bool false)) [.box (.pr (.sl (.int .u8)) (.pr (.int .i64) (.int .u64))) c3o0])
    (h4 : SC cfg.P i_spec_l1Cur_pick [.s (.mbx (.pr (.sl (.int .u8)) (.pr (.int .i64) (.int .u64))) c3o0), .s (.v (.int .i64) (6 : Int))] (.s (.v (.int .i64) c4)) [.box (.pr (.sl (.int .u8)) (.pr (.int .i64) (.int .u64))) c4o0])
    (h5 : LoopSC cfg.P 1 (lb P_spec_DrawTreeOfExponents 1) (spec_DrawTreeOfExponents_L1a c4 ([] : List Int) c4o0) (.exit 2) (spec_DrawTreeOfExponents_L1X1 k1y8 k1y43 k1yo7 k1yo11))
    (h6 : ((List.length k1yo7 : Nat) : Int) > (0 : Int))
    (h7 : SC cfg.P i_spec_l1Cur_one [.s (.mbx (.pr (.sl (.int .u8)) (.pr (.int .i64) (.int .u64))) k1yo11), .s (.v (.int .i64) (2 : Int))] (.s (.v .bool false)) [.box (.pr (.sl (.int .u8)) (.pr (.int .i64) (.int .u64))) c5o0])
    (h8 : SC cfg.P i_spec_l1Cur_one [.s (.mbx (.pr (.sl (.int .u8)) (.pr (.int .i64) (.int .u64))) c5o0), .s (.v (.int .i64) (12 : Int))] (.s (.v .bool false)) [.box (.pr (.sl (.int .u8)) (.pr (.int .i64) (.int .u64))) c6o0]) :
    SC cfg.P i_spec_DrawTreeOfExponents [.s (.v (.sl (.int .u8)) a0)] (.s (.own t_int (.int .i64) k1yo7)) [] :=
  SC_of_run cfgOK (its := [.res (.s (.v .str c1)) [.box (.pr (.sl (.int .u8)) (.pr (.int .i64) (.int .u64))) c1o0] [] [], .res (.s (.v .bool true)) [] [] [], .res (.s (.v .bool false)) [.box (.pr (.sl (.int .u8)) (.pr (.int .i64) (.int .u64))) c3o0] [] [], .res (.s (.v (.int .i64) c4)) [.box (.pr (.sl (.int .u8)) (.pr (.int .i64) (.int .u64))) c4o0] [] [], .loop (fun _ => (.exit 2, spec_DrawTreeOfExponents_L1X1 k1y8 k1y43 k1yo7 k1yo11)), .bool true, .res (.s (.v .bool false)) [.box (.pr (.sl (.int .u8)) (.pr (.int .i64) (.int .u64))) c5o0] [] [], .res (.s (.v .bool false)) [.box (.pr (.sl (.int .u8)) (.pr (.int .i64) (.int .u64))) c6o0] [] []])
    (ps := [SC cfg.P i_spec_l1Cur_tree [.s (.mbx (.pr (.sl (.int .u8)) (.pr (.int .i64) (.int .u64))) (a0, ((0 : Int), (0 : Int)))), .s (.v (.int .i64) (8 : Int))] (.s (.v .str c1)) [.box (.pr (.sl (.int .u8)) (.pr (.int .i64) (.int .u64))) c1o0],
      SC cfg.P i_spec_trIs [.s (.v .str c1)] (.s (.v .bool true)) [],
      SC cfg.P i_spec_l1Cur_one [.s (.mbx (.pr (.sl (.int .u8)) (.pr (.int .i64) (.int .u64))) c1o0), .s (.v (.int .i64) (2 : Int))] (.s (.v .bool false)) [.box (.pr (.sl (.int .u8)) (.pr (.int .i64) (.int .u64))) c3o0],
      SC cfg.P i_spec_l1Cur_pick [.s (.mbx (.pr (.sl (.int .u8)) (.pr (.int .i64) (.int .u64))) c3o0), .s (.v (.int .i64) (6 : Int))] (.s (.v (.int .i64) c4)) [.box (.pr (.sl (.int .u8)) (.pr (.int .i64) (.int .u64))) c4o0],
      LoopSC cfg.P 1 (lb P_spec_DrawTreeOfExponents 1) (spec_DrawTreeOfExponents_L1a c4 ([] : List Int) c4o0) (.exit 2) (spec_DrawTreeOfExponents_L1X1 k1y8 k1y43 k1yo7 k1yo11),
      decide (((List.length k1yo7 : Nat) : Int) > (0 : Int)) = true,
      SC cfg.P i_spec_l1Cur_one [.s (.mbx (.pr (.sl (.int .u8)) (.pr (.int .i64) (.int .u64))) k1yo11), .s (.v (.int .i64) (2 : Int))] (.s (.v .bool false)) [.box (.pr (.sl (.int .u8)) (.pr (.int .i64) (.int .u64))) c5o0],
      SC cfg.P i_spec_l1Cur_one [.s (.mbx (.pr (.sl (.int .u8)) (.pr (.int .i64) (.int .u64))) c5o0), .s (.v (.int .i64) (12 : Int))] (.s (.v .bool false)) [.box (.pr (.sl (.int .u8)) (.pr (.int .i64) (.int .u64))) c6o0]]) (by kernel_rfl) ⟨h1, h2, h3, h4, h5, (decide_eq_true h6), h7, h8, trivial⟩ get_spec_DrawTreeOfExponents (by decide)

theorem spec_DrawTreeOfExponents_p6 (a0 : (List Int)) (c1 : ByteArray) (c1o0 : ((List Int) × (Int × Int))) (c3o0 : ((List Int) × (Int × Int))) (c4 : Int) (c4o0 : ((List Int) × (Int × Int))) (k1y8 : Int) (k1y43 : Bool) (k1yo7 : (List Int)) (k1yo11 : ((List Int) × (Int × Int))) (c5o0 : ((List Int) × (Int × Int))) (c6 : Int) (c6o0 : ((List Int) × (Int × Int)))
    (h1 : SC cfg.P i_spec_l1Cur_tree [.s (.mbx (.pr (.sl (.int .u8)) (.pr (.int .i64) (.int .u64))) (a0, ((0 : Int), (0 : Int)))), .s (.v (.int .i64) (8 : Int))] (.s (.v .str c1)) [.box (.pr (.sl (.int .u8)) (.pr (.int .i64) (.int .u64))) c1o0])
    (h2 : SC cfg.P i_spec_trIs [.s (.v .str c1)] (.s (.v .bool true)) [])
    (h3 : SC cfg.P i_spec_l1Cur_one [.s (.mbx (.pr (.sl (.int .u8)) (.pr (.int .i64) (.int .u64))) c1o0), .s (.v (.int .i64) (2 : Int))] (.s (.v .bool false)) [.box (.pr (.sl (.int .u8)) (.pr (.int .i64) (.int .u64))) c3o0])
    (h4 : SC cfg.P i_spec_l1Cur_pick [.s (.mbx (.pr (.sl (.int .u8)) (.pr (.int .i64) (.int .u64))) c3o0), .s (.v (.int .i64) (6 : Int))] (.s (.v (.int .i64) c4)) [.box (.pr (.sl (.int .u8)) (.pr (.int .i64) (.int .u64))) c4o0])
    (h5 : LoopSC cfg.P 1 (lb P_spec_DrawTreeOfExponents 1) (spec_DrawTreeOfExponents_L1a c4 ([] : List Int) c4o0) (.exit 2) (spec_DrawTreeOfExponents_L1X1 k1y8 k1y43 k1yo7 k1yo11))
    (h6 : ¬ (((List.length k1yo7 : Nat) : Int) > (0 : Int)))
    (h7 : SC cfg.P i_spec_l1Cur_one [.s (.mbx (.pr (.sl (.int .u8)) (.pr (.int .i64) (.int .u64))) k1yo11), .s (.v (.int .i64) (12 : Int))] (.s (.v .bool true)) [.box (.pr (.sl (.int .u8)) (.pr (.int .i64) (.int .u64))) c5o0])
    (h8 : SC cfg.P i_spec_l1Cur_among [.s (.mbx (.pr (.sl (.int .u8)) (.pr (.int .i64) (.int .u64))) c5o0), .s (.v (.sl (.int .i64)) ([(-1 : Int), (0 : Int), (9 : Int), (8 : Int), (4611686018427387904 : Int)] : List Int))] (.s (.v (.int .i64) c6)) [.box (.pr (.sl (.int .u8)) (.pr (.int .i64) (.int .u64))) c6o0])
    (h9 : sizeOK (List.length k1yo7 + List.length ([c6] : List Int))) :
    SC cfg.P i_spec_DrawTreeOfExponents [.s (.v (.sl (.int .u8)) a0)] (.s (.own t_int (.int .i64) (k1yo7 ++ ([c6] : List Int)))) [] :=
  SC_of_run cfgOK (its := [.res (.s (.v .str c1)) [.box (.pr (.sl (.int .u8)) (.pr (.int .i64) (.int .u64))) c1o0] [] [], .res (.s (.v .bool true)) [] [] [], .res (.s (.v .bool false)) [.box (.pr (.sl (.int .u8)) (.pr (.int .i64) (.int .u64))) c3o0] [] [], .res (.s (.v (.int .i64) c4)) [.box (.pr (.sl (.int .u8)) (.pr (.int .i64) (.int .u64))) c4o0] [] [], .loop (fun _ => (.exit 2, spec_DrawTreeOfExponents_L1X1 k1y8 k1y43 k1yo7 k1yo11)), .bool false, .res (.s (.v .bool true)) [.box (.pr (.sl (.int .u8)) (.pr (.int .i64) (.int .u64))) c5o0] [] [], .res (.s (.v (.int .i64) c6)) [.box (.pr (.sl (.int .u8)) (.pr (.int .i64) (.int .u64))) c6o0] [] []])
    (ps := [SC cfg.P i_spec_l1Cur_tree [.s (.mbx (.pr (.sl (.int .u8)) (.pr (.int .i64) (.int .u64))) (a0, ((0 : Int), (0 : Int)))), .s (.v (.int .i64) (8 : Int))] (.s (.v .str c1)) [.box (.pr (.sl (.int .u8)) (.pr (.int .i64) (.int .u64))) c1o0],
      SC cfg.P i_spec_trIs [.s (.v .str c1)] (.s (.v .bool true)) [],
      SC cfg.P i_spec_l1Cur_one [.s (.mbx (.pr (.sl (.int .u8)) (.pr (.int .i64) (.int .u64))) c1o0), .s (.v (.int .i64) (2 : Int))] (.s (.v .bool false)) [.box (.pr (.sl (.int .u8)) (.pr (.int .i64) (.int .u64))) c3o0],
      SC cfg.P i_spec_l1Cur_pick [.s (.mbx (.pr (.sl (.int .u8)) (.pr (.int .i64) (.int .u64))) c3o0), .s (.v (.int .i64) (6 : Int))] (.s (.v (.int .i64) c4)) [.box (.pr (.sl (.int .u8)) (.pr (.int .i64) (.int .u64))) c4o0],
      LoopSC cfg.P 1 (lb P_spec_DrawTreeOfExponents 1) (spec_DrawTreeOfExponents_L1a c4 ([] : List Int) c4o0) (.exit 2) (spec_DrawTreeOfExponents_L1X1 k1y8 k1y43 k1yo7 k1yo11),
      decide (((List.length k1yo7 : Nat) : Int) > (0 : Int)) = false,
      SC cfg.P i_spec_l1Cur_one [.s (.mbx (.pr (.sl (.int .u8)) (.pr (.int .i64) (.int .u64))) k1yo11), .s (.v (.int .i64) (12 : Int))] (.s (.v .bool true)) [.box (.pr (.sl (.int .u8)) (.pr (.int .i64) (.int .u64))) c5o0],
      SC cfg.P i_spec_l1Cur_among [.s (.mbx (.pr (.sl (.int .u8)) (.pr (.int .i64) (.int .u64))) c5o0), .s (.v (.sl (.int .i64)) ([(-1 : Int), (0 : Int), (9 : Int), (8 : Int), (4611686018427387904 : Int)] : List Int))] (.s (.v (.int .i64) c6)) [.box (.pr (.sl (.int .u8)) (.pr (.int .i64) (.int .u64))) c6o0],
      sizeOK (List.length k1yo7 + List.length ([c6] : List Int))]) (by kernel_rfl) ⟨h1, h2, h3, h4, h5, (decide_eq_false h6), h7, h8, h9, trivial⟩ get_spec_DrawTreeOfExponents (by decide)

theorem spec_DrawTreeOfExponents_p7 (a0 : (List Int)) (c1 : ByteArray) (c1o0 : ((List Int) × (Int × Int))) (c3o0 : ((List Int) × (Int × Int))) (c4 : Int) (c4o0 : ((List Int) × (Int × Int))) (k1y8 : Int) (k1y43 : Bool) (k1yo7 : (List Int)) (k1yo11 : ((List Int) × (Int × Int))) (c5o0 : ((List Int) × (Int × Int)))
    (h1 : SC cfg.P i_spec_l1Cur_tree [.s (.mbx (.pr (.sl (.int .u8)) (.pr (.int .i64) (.int .u64))) (a0, ((0 : Int), (0 : Int)))), .s (.v (.int .i64) (8 : Int))] (.s (.v .str c1)) [.box (.pr (.sl (.int .u8)) (.pr (.int .i64) (.int .u64))) c1o0])
    (h2 : SC cfg.P i_spec_trIs [.s (.v .str c1)] (.s (.v .bool true)) [])
    (h3 : SC cfg.P i_spec_l1Cur_one [.s (.mbx (.pr (.sl (.int .u8)) (.pr (.int .i64) (.int .u64))) c1o0), .s (.v (.int .i64) (2 : Int))] (.s (.v .bool false)) [.box (.pr (.sl (.int .u8)) (.pr (.int .i64) (.int .u64))) c3o0])
    (h4 : SC cfg.P i_spec_l1Cur_pick [.s (.mbx (.pr (.sl (.int .u8)) (.pr (.int .i64) (.int .u64))) c3o0), .s (.v (.int .i64) (6 : Int))] (.s (.v (.int .i64) c4)) [.box (.pr (.sl (.int .u8)) (.pr (.int .i64) (.int .u64))) c4o0])
    (h5 : LoopSC cfg.P 1 (lb P_spec_DrawTreeOfExponents 1) (spec_DrawTreeOfExponents_L1a c4 ([] : List Int) c4o0) (.exit 2) (spec_DrawTreeOfExponents_L1X1 k1y8 k1y43 k1yo7 k1yo11))
    (h6 : ¬ (((List.length k1yo7 : Nat) : Int) > (0 : Int)))
    (h7 : SC cfg.P i_spec_l1Cur_one [.s (.mbx (.pr (.sl (.int .u8)) (.pr (.int .i64) (.int .u64))) k1yo11), .s (.v (.int .i64) (12 : Int))] (.s (.v .bool false)) [.box (.pr (.sl (.int .u8)) (.pr (.int .i64) (.int .u64))) c5o0]) :
    SC cfg.P i_spec_DrawTreeOfExponents [.s (.v (.sl (.int .u8)) a0)] (.s (.own t_int (.int .i64) k1yo7)) [] :=
  SC_of_run cfgOK (its := [.res (.s (.v .str c1)) [.box (.pr (.sl (.int .u8)) (.pr (.int .i64) (.int .u64))) c1o0] [] [], .res (.s (.v .bool true)) [] [] [], .res (.s (.v .bool false)) [.box (.pr (.sl (.int .u8)) (.pr (.int .i64) (.int .u64))) c3o0] [] [], .res (.s (.v (.int .i64) c4)) [.box (.pr (.sl (.int .u8)) (.pr (.int .i64) (.int .u64))) c4o0] [] [], .loop (fun _ => (.exit 2, spec_DrawTreeOfExponents_L1X1 k1y8 k1y43 k1yo7 k1yo11)), .bool false, .res (.s (.v .bool false)) [.box (.pr (.sl (.int .u8)) (.pr (.int .i64) (.int .u64))) c5o0] [] []])
    (ps := [SC cfg.P i_spec_l1Cur_tree [.s (.mbx (.pr (.sl (.int .u8)) (.pr (.int .i64) (.int .u64))) (a0, ((0 : Int), (0 : Int)))), .s (.v (.int .i64) (8 : Int))] (.s (.v .str c1)) [.box (.pr (.sl (.int .u8)) (.pr (.int .i64) (.int .u64))) c1o0],
      SC cfg.P i_spec_trIs [.s (.v .str c1)] (.s (.v .bool true)) [],
      SC cfg.P i_spec_l1Cur_one [.s (.mbx (.pr (.sl (.int .u8)) (.pr (.int .i64) (.int .u64))) c1o0), .s (.v (.int .i64) (2 : Int))] (.s (.v .bool false)) [.box (.pr (.sl (.int .u8)) (.pr (.int .i64) (.int .u64))) c3o0],
      SC cfg.P i_spec_l1Cur_pick [.s (.mbx (.pr (.sl (.int .u8)) (.pr (.int .i64) (.int .u64))) c3o0), .s (.v (.int .i64) (6 : Int))] (.s (.v (.int .i64) c4)) [.box (.pr (.sl (.int .u8)) (.pr (.int .i64) (.int .u64))) c4o0],
      LoopSC cfg.P 1 (lb P_spec_DrawTreeOfExponents 1) (spec_DrawTreeOfExponents_L1a c4 ([] : List Int) c4o0) (.exit 2) (spec_DrawTreeOfExponents_L1X1 k1y8 k1y43 k1yo7 k1yo11),
      decide (((List.length k1yo7 : Nat) : Int) > (0 : Int)) = false,
      SC cfg.P i_spec_l1Cur_one [.s (.mbx (.pr (.sl (.int .u8)) (.pr (.int .i64) (.int .u64))) k1yo11), .s (.v (.int .i64) (12 : Int))] (.s (.v .bool false)) [.box (.pr (.sl (.int .u8)) (.pr (.int .i64) (.int .u64))) c5o0]]) (by kernel_rfl) ⟨h1, h2, h3, h4, h5, (decide_eq_false h6), h7, trivial⟩ get_spec_DrawTreeOfExponents (by decide)

theorem spec_DrawTreeOfExponents_p8 (a0 : (List Int)) (c1 : ByteArray) (c1o0 : ((List Int) × (Int × Int))) (c3 : Int) (c3o0 : ((List Int) × (Int × Int))) (k1y8 : Int) (k1y43 : Bool) (k1yo7 : (List Int)) (k1yo11 : ((List Int) × (Int × Int))) (c4o0 : ((List Int) × (Int × Int))) (c5o0 : ((List Int) × (Int × Int))) (c6 : Int) (c6o0 : ((List Int) × (Int × Int)))
    (h1 : SC cfg.P i_spec_l1Cur_tree [.s (.mbx (.pr (.sl (.int .u8)) (.pr (.int .i64) (.int .u64))) (a0, ((0 : Int), (0 : Int)))), .s (.v (.int .i64) (8 : Int))] (.s (.v .str c1)) [.box (.pr (.sl (.int .u8)) (.pr (.int .i64) (.int .u64))) c1o0])
    (h2 : SC cfg.P i_spec_trIs [.s (.v .str c1)] (.s (.v .bool false)) [])
    (h3 : SC cfg.P i_spec_l1Cur_pick [.s (.mbx (.pr (.sl (.int .u8)) (.pr (.int .i64) (.int .u64))) c1o0), .s (.v (.int .i64) (6 : Int))] (.s (.v (.int .i64) c3)) [.box (.pr (.sl (.int .u8)) (.pr (.int .i64) (.int .u64))) c3o0])
    (h4 : LoopSC cfg.P 1 (lb P_spec_DrawTreeOfExponents 1) (spec_DrawTreeOfExponents_L1a c3 ([] : List Int) c3o0) (.exit 2) (spec_DrawTreeOfExponents_L1X1 k1y8 k1y43 k1yo7 k1yo11))
    (h5 : ((List.length k1yo7 : Nat) : Int) > (0 : Int))
    (h6 : SC cfg.P i_spec_l1Cur_one [.s (.mbx (.pr (.sl (.int .u8)) (.pr (.int .i64) (.int .u64))) k1yo11), .s (.v (.int .i64) (2 : Int))] (.s (.v .bool true)) [.box (.pr (.sl (.int .u8)) (.pr (.int .i64) (.int .u64))) c4o0])
    (h7 : 0 ≤ (IntKind.wrap .i64 (((List.length k1yo7 : Nat) : Int) - (1 : Int))))
    (h8 : (IntKind.wrap .i64 (((List.length k1yo7 : Nat) : Int) - (1 : Int))) < (List.length k1yo7 : Int))
    (h9 : ((IntKind.wrap .i64 (((List.length k1yo7 : Nat) : Int) - (1 : Int)))).toNat < List.length k1yo7)
    (h10 : SC cfg.P i_spec_l1Cur_one [.s (.mbx (.pr (.sl (.int .u8)) (.pr (.int .i64) (.int .u64))) c4o0), .s (.v (.int .i64) (12 : Int))] (.s (.v .bool true)) [.box (.pr (.sl (.int .u8)) (.pr (.int .i64) (.int .u64))) c5o0])
    (h11 : SC cfg.P i_spec_l1Cur_among [.s (.mbx (.pr (.sl (.int .u8)) (.pr (.int .i64) (.int .u64))) c5o0), .s (.v (.sl (.int .i64)) ([(-1 : Int), (0 : Int), (9 : Int), (8 : Int), (4611686018427387904 : Int)] : List Int))] (.s (.v (.int .i64) c6)) [.box (.pr (.sl (.int .u8)) (.pr (.int .i64) (.int .u64))) c6o0])
    (h12 : sizeOK (List.length (List.set k1yo7 ((IntKind.wrap .i64 (((List.length k1yo7 : Nat) : Int) - (1 : Int)))).toNat (1 : Int)) + List.length ([c6] : List Int))) :
    SC cfg.P i_spec_DrawTreeOfExponents [.s (.v (.sl (.int .u8)) a0)] (.s (.own t_int (.int .i64) ((List.set k1yo7 ((IntKind.wrap .i64 (((List.length k1yo7 : Nat) : Int) - (1 : Int)))).toNat (1 : Int)) ++ ([c6] : List Int)))) [] :=
  SC_of_run cfgOK (its := [.res (.s (.v .str c1)) [.box (.pr (.sl (.int .u8)) (.pr (.int .i64) (.int .u64))) c1o0] [] [], .res (.s (.v .bool false)) [] [] [], .res (.s (.v (.int .i64) c3)) [.box (.pr (.sl (.int .u8)) (.pr (.int .i64) (.int .u64))) c3o0] [] [], .loop (fun _ => (.exit 2, spec_DrawTreeOfExponents_L1X1 k1y8 k1y43 k1yo7 k1yo11)), .bool true, .res (.s (.v .bool true)) [.box (.pr (.sl (.int .u8)) (.pr (.int .i64) (.int .u64))) c4o0] [] [], .res (.s (.v .bool true)) [.box (.pr (.sl (.int .u8)) (.pr (.int .i64) (.int .u64))) c5o0] [] [], .res (.s (.v (.int .i64) c6)) [.box (.pr (.sl (.int .u8)) (.pr (.int .i64) (.int .u64))) c6o0] [] []])
    (ps := [SC cfg.P i_spec_l1Cur_tree [.s (.mbx (.pr (.sl (.int .u8)) (.pr (.int .i64) (.int .u64))) (a0, ((0 : Int), (0 : Int)))), .s (.v (.int .i64) (8 : Int))] (.s (.v .str c1)) [.box (.pr (.sl (.int .u8)) (.pr (.int .i64) (.int .u64))) c1o0],
      SC cfg.P i_spec_trIs [.s (.v .str c1)] (.s (.v .bool false)) [],
      SC cfg.P i_spec_l1Cur_pick [.s (.mbx (.pr (.sl (.int .u8)) (.pr (.int .i64) (.int .u64))) c1o0), .s (.v (.int .i64) (6 : Int))] (.s (.v (.int .i64) c3)) [.box (.pr (.sl (.int .u8)) (.pr (.int .i64) (.int .u64))) c3o0],
      LoopSC cfg.P 1 (lb P_spec_DrawTreeOfExponents 1) (spec_DrawTreeOfExponents_L1a c3 ([] : List Int) c3o0) (.exit 2) (spec_DrawTreeOfExponents_L1X1 k1y8 k1y43 k1yo7 k1yo11),
      decide (((List.length k1yo7 : Nat) : Int) > (0 : Int)) = true,
      SC cfg.P i_spec_l1Cur_one [.s (.mbx (.pr (.sl (.int .u8)) (.pr (.int .i64) (.int .u64))) k1yo11), .s (.v (.int .i64) (2 : Int))] (.s (.v .bool true)) [.box (.pr (.sl (.int .u8)) (.pr (.int .i64) (.int .u64))) c4o0],
      0 ≤ (IntKind.wrap .i64 (((List.length k1yo7 : Nat) : Int) - (1 : Int))),
      (IntKind.wrap .i64 (((List.length k1yo7 : Nat) : Int) - (1 : Int))) < (List.length k1yo7 : Int),
      ((IntKind.wrap .i64 (((List.length k1yo7 : Nat) : Int) - (1 : Int)))).toNat < List.length k1yo7,
      SC cfg.P i_spec_l1Cur_one [.s (.mbx (.pr (.sl (.int .u8)) (.pr (.int .i64) (.int .u64))) c4o0), .s (.v (.int .i64) (12 : Int))] (.s (.v .bool true)) [.box (.pr (.sl (.int .u8)) (.pr (.int .i64) (.int .u64))) c5o0],
      SC cfg.P i_spec_l1Cur_among [.s (.mbx (.pr (.sl (.int .u8)) (.pr (.int .i64) (.int .u64))) c5o0), .s (.v (.sl (.int .i64)) ([(-1 : Int), (0 : Int), (9 : Int), (8 : Int), (4611686018427387904 : Int)] : List Int))] (.s (.v (.int .i64) c6)) [.box (.pr (.sl (.int .u8)) (.pr (.int .i64) (.int .u64))) c6o0],
      sizeOK (List.length (List.set k1yo7 ((IntKind.wrap .i64 (((List.length k1yo7 : Nat) : Int) - (1 : Int)))).toNat (1 : Int)) + List.length ([c6] : List Int))]) (by kernel_rfl) ⟨h1, h2, h3, h4, (decide_eq_true h5), h6, h7, h8, h9, h10, h11, h12, trivial⟩ get_spec_DrawTreeOfExponents (by decide)

theorem spec_DrawTreeOfExponents_p9 (a0 : (List Int)) (c1 : ByteArray) (c1o0 : ((List Int) × (Int × Int))) (c3 : Int) (c3o0 : ((List Int) × (Int × Int))) (k1y8 : Int) (k1y43 : Bool) (k1yo7 : (List Int)) (k1yo11 : ((List Int) × (Int × Int))) (c4o0 : ((List Int) × (Int × Int))) (c5o0 : ((List Int) × (Int × Int)))
    (h1 : SC cfg.P i_spec_l1Cur_tree [.s (.mbx (.pr (.sl (.int .u8)) (.pr (.int .i64) (.int .u64))) (a0, ((0 : Int), (0 : Int)))), .s (.v (.int .i64) (8 : Int))] (.s (.v .str c1)) [.box (.pr (.sl (.int .u8)) (.pr (.int .i64) (.int .u64))) c1o0])
    (h2 : SC cfg.P i_spec_trIs [.s (.v .str c1)] (.s (.v .bool false)) [])
    (h3 : SC cfg.P i_spec_l1Cur_pick [.s (.mbx (.pr (.sl (.int .u8)) (.pr (.int .i64) (.int .u64))) c1o0), .s (.v (.int .i64) (6 : Int))] (.s (.v (.int .i64) c3)) [.box (.pr (.sl (.int .u8)) (.pr (.int .i64) (.int .u64))) c3o0])
    (h4 : LoopSC cfg.P 1 (lb P_spec_DrawTreeOfExponents 1) (spec_DrawTreeOfExponents_L1a c3 ([] : List Int) c3o0) (.exit 2) (spec_DrawTreeOfExponents_L1X1 k1y8 k1y43 k1yo7 k1yo11))
    (h5 : ((List.length k1yo7 : Nat) : Int) > (0 : Int))
    (h6 : SC cfg.P i_spec_l1Cur_one [.s (.mbx (.pr (.sl (.int .u8)) (.pr (.int .i64) (.int .u64))) k1yo11), .s (.v (.int .i64) (2 : Int))] (.s (.v .bool true)) [.box (.pr (.sl (.int .u8)) (.pr (.int .i64) (.int .u64))) c4o0])
    (h7 : 0 ≤ (IntKind.wrap .i64 (((List.length k1yo7 : Nat) : Int) - (1 : Int))))
    (h8 : (IntKind.wrap .i64 (((List.length k1yo7 : Nat) : Int) - (1 : Int))) < (List.length k1yo7 : Int))
    (h9 : ((IntKind.wrap .i64 (((List.length k1yo7 : Nat) : Int) - (1 : Int)))).toNat < List.length k1yo7)
    (h10 : SC cfg.P i_spec_l1Cur_one [.s (.mbx (.pr (.sl (.int .u8)) (.pr (.int .i64) (.int .u64))) c4o0), .s (.v (.int .i64) (12 : Int))] (.s (.v .bool false)) [.box (.pr (.sl (.int .u8)) (.pr (.int .i64) (.int .u64))) c5o0]) :
    SC cfg.P i_spec_DrawTreeOfExponents [.s (.v (.sl (.int .u8)) a0)] (.s (.own t_int (.int .i64) (List.set k1yo7 ((IntKind.wrap .i64 (((List.length k1yo7 : Nat) : Int) - (1 : Int)))).toNat (1 : Int)))) [] :=
  SC_of_run cfgOK (its := [.res (.s (.v .str c1)) [.box (.pr (.sl (.int .u8)) (.pr (.int .i64) (.int .u64))) c1o0] [] [], .res (.s (.v .bool false)) [] [] [], .res (.s (.v (.int .i64) c3)) [.box (.pr (.sl (.int .u8)) (.pr (.int .i64) (.int .u64))) c3o0] [] [], .loop (fun _ => (.exit 2, spec_DrawTreeOfExponents_L1X1 k1y8 k1y43 k1yo7 k1yo11)), .bool true, .res (.s (.v .bool true)) [.box (.pr (.sl (.int .u8)) (.pr (.int .i64) (.int .u64))) c4o0] [] [], .res (.s (.v .bool false)) [.box (.pr (.sl (.int .u8)) (.pr (.int .i64) (.int .u64))) c5o0] [] []])
    (ps := [SC cfg.P i_spec_l1Cur_tree [.s (.mbx (.pr (.sl (.int .u8)) (.pr (.int .i64) (.int .u64))) (a0, ((0 : Int), (0 : Int)))), .s (.v (.int .i64) (8 : Int))] (.s (.v .str c1)) [.box (.pr (.sl (.int .u8)) (.pr (.int .i64) (.int .u64))) c1o0],
      SC cfg.P i_spec_trIs [.s (.v .str c1)] (.s (.v .bool false)) [],
      SC cfg.P i_spec_l1Cur_pick [.s (.mbx (.pr (.sl (.int .u8)) (.pr (.int .i64) (.int .u64))) c1o0), .s (.v (.int .i64) (6 : Int))] (.s (.v (.int .i64) c3)) [.box (.pr (.sl (.int .u8)) (.pr (.int .i64) (.int .u64))) c3o0],
      LoopSC cfg.P 1 (lb P_spec_DrawTreeOfExponents 1) (spec_DrawTreeOfExponents_L1a c3 ([] : List Int) c3o0) (.exit 2) (spec_DrawTreeOfExponents_L1X1 k1y8 k1y43 k1yo7 k1yo11),
      decide (((List.length k1yo7 : Nat) : Int) > (0 : Int)) = true,
      SC cfg.P i_spec_l1Cur_one [.s (.mbx (.pr (.sl (.int .u8)) (.pr (.int .i64) (.int .u64))) k1yo11), .s (.v (.int .i64) (2 : Int))] (.s (.v .bool true)) [.box (.pr (.sl (.int .u8)) (.pr (.int .i64) (.int .u64))) c4o0],
      0 ≤ (IntKind.wrap .i64 (((List.length k1yo7 : Nat) : Int) - (1 : Int))),
      (IntKind.wrap .i64 (((List.length k1yo7 : Nat) : Int) - (1 : Int))) < (List.length k1yo7 : Int),
      ((IntKind.wrap .i64 (((List.length k1yo7 : Nat) : Int) - (1 : Int)))).toNat < List.length k1yo7,
      SC cfg.P i_spec_l1Cur_one [.s (.mbx (.pr (.sl (.int .u8)) (.pr (.int .i64) (.int .u64))) c4o0), .s (.v (.int .i64) (12 : Int))] (.s (.v .bool false)) [.box (.pr (.sl (.int .u8)) (.pr (.int .i64) (.int .u64))) c5o0]]) (by kernel_rfl) ⟨h1, h2, h3, h4, (decide_eq_true h5), h6, h7, h8, h9, h10, trivial⟩ get_spec_DrawTreeOfExponents (by decide)

theorem spec_DrawTreeOfExponents_p10 (a0 : (List Int)) (c1 : ByteArray) (c1o0 : ((List Int) × (Int × Int))) (c3 : Int) (c3o0 : ((List Int) × (Int × Int))) (k1y8 : Int) (k1y43 : Bool) (k1yo7 : (List Int)) (k1yo11 : ((List Int) × (Int × Int))) (c4o0 : ((List Int) × (Int × Int))) (c5o0 : ((List Int) × (Int × Int))) (c6 : Int) (c6o0 : ((List Int) × (Int × Int)))
    (h1 : SC cfg.P i_spec_l1Cur_tree [.s (.mbx (.pr (.sl (.int .u8)) (.pr (.int .i64) (.int .u64))) (a0, ((0 : Int), (0 : Int)))), .s (.v (.int .i64) (8 : Int))] (.s (.v .str c1)) [.box (.pr (.sl (.int .u8)) (.pr (.int .i64) (.int .u64))) c1o0])
    (h2 : SC cfg.P i_spec_trIs [.s (.v .str c1)] (.s (.v .bool false)) [])
    (h3 : SC cfg.P i_spec_l1Cur_pick [.s (.mbx (.pr (.sl (.int .u8)) (.pr (.int .i64) (.int .u64))) c1o0), .s (.v (.int .i64) (6 : Int))] (.s (.v (.int .i64) c3)) [.box (.pr (.sl (.int .u8)) (.pr (.int .i64) (.int .u64))) c3o0])
    (h4 : LoopSC cfg.P 1 (lb P_spec_DrawTreeOfExponents 1) (spec_DrawTreeOfExponents_L1a c3 ([] : List Int) c3o0) (.exit 2) (spec_DrawTreeOfExponents_L1X1 k1y8 k1y43 k1yo7 k1yo11))
    (h5 : ((List.length k1yo7 : Nat) : Int) > (0 : Int))
    (h6 : SC cfg.P i_spec_l1Cur_one [.s (.mbx (.pr (.sl (.int .u8)) (.pr (.int .i64) (.int .u64))) k1yo11), .s (.v (.int .i64) (2 : Int))] (.s (.v .bool false)) [.box (.pr (.sl (.int .u8)) (.pr (.int .i64) (.int .u64))) c4o0])
    (h7 : SC cfg.P i_spec_l1Cur_one [.s (.mbx (.pr (.sl (.int .u8)) (.pr (.int .i64) (.int .u64))) c4o0), .s (.v (.int .i64) (12 : Int))] (.s (.v .bool true)) [.box (.pr (.sl (.int .u8)) (.pr (.int .i64) (.int .u64))) c5o0])
    (h8 : SC cfg.P i_spec_l1Cur_among [.s (.mbx (.pr (.sl (.int .u8)) (.pr (.int .i64) (.int .u64))) c5o0), .s (.v (.sl (.int .i64)) ([(-1 : Int), (0 : Int), (9 : Int), (8 : Int), (4611686018427387904 : Int)] : List Int))] (.s (.v (.int .i64) c6)) [.box (.pr (.sl (.int .u8)) (.pr (.int .i64) (.int .u64))) c6o0])
    (h9 : sizeOK (List.length k1yo7 + List.length ([c6] : List Int))) :
    SC cfg.P i_spec_DrawTreeOfExponents [.s (.v (.sl (.int .u8)) a0)] (.s (.own t_int (.int .i64) (k1yo7 ++ ([c6] : List Int)))) [] :=
  SC_of_run cfgOK (its := [.res (.s (.v .str c1)) [.box (.pr (.sl (.int .u8)) (.pr (.int .i64) (.int .u64))) c1o0] [] [], .res (.s (.v .bool false)) [] [] [], .res (.s (.v (.int .i64) c3)) [.box (.pr (.sl (.int .u8)) (.pr (.int .i64) (.int .u64))) c3o0] [] [], .loop (fun _ => (.exit 2, spec_DrawTreeOfExponents_L1X1 k1y8 k1y43 k1yo7 k1yo11)), .bool true, .res (.s (.v .bool false)) [.box (.pr (.sl (.int .u8)) (.pr (.int .i64) (.int .u64))) c4o0] [] [], .res (.s (.v .bool true)) [.box (.pr (.sl (.int .u8)) (.pr (.int .i64) (.int .u64))) c5o0] [] [], .res (.s (.v (.int .i64) c6)) [.box (.pr (.sl (.int .u8)) (.pr (.int .i64) (.int .u64))) c6o0] [] []])
    (ps := [SC cfg.P i_spec_l1Cur_tree [.s (.mbx (.pr (.sl (.int .u8)) (.pr (.int .i64) (.int .u64))) (a0, ((0 : Int), (0 : Int)))), .s (.v (.int .i64) (8 : Int))] (.s (.v .str c1)) [.box (.pr (.sl (.int .u8)) (.pr (.int .i64) (.int .u64))) c1o0],
      SC cfg.P i_spec_trIs [.s (.v .str c1)] (.s (.v .bool false)) [],
      SC cfg.P i_spec_l1Cur_pick [.s (.mbx (.pr (.sl (.int .u8)) (.pr (.int .i64) (.int .u64))) c1o0), .s (.v (.int .i64) (6 : Int))] (.s (.v (.int .i64) c3)) [.box (.pr (.sl (.int .u8)) (.pr (.int .i64) (.int .u64))) c3o0],
      LoopSC cfg.P 1 (lb P_spec_DrawTreeOfExponents 1) (spec_DrawTreeOfExponents_L1a c3 ([] : List Int) c3o0) (.exit 2) (spec_DrawTreeOfExponents_L1X1 k1y8 k1y43 k1yo7 k1yo11),
      decide (((List.length k1yo7 : Nat) : Int) > (0 : Int)) = true,
      SC cfg.P i_spec_l1Cur_one [.s (.mbx (.pr (.sl (.int .u8)) (.pr (.int .i64) (.int .u64))) k1yo11), .s (.v (.int .i64) (2 : Int))] (.s (.v .bool false)) [.box (.pr (.sl (.int .u8)) (.pr (.int .i64) (.int .u64))) c4o0],
      SC cfg.P i_spec_l1Cur_one [.s (.mbx (.pr (.sl (.int .u8)) (.pr (.int .i64) (.int .u64))) c4o0), .s (.v (.int .i64) (12 : Int))] (.s (.v .bool true)) [.box (.pr (.sl (.int .u8)) (.pr (.int .i64) (.int .u64))) c5o0],
      SC cfg.P i_spec_l1Cur_among [.s (.mbx (.pr (.sl (.int .u8)) (.pr (.int .i64) (.int .u64))) c5o0), .s (.v (.sl (.int .i64)) ([(-1 : Int), (0 : Int), (9 : Int), (8 : Int), (4611686018427387904 : Int)] : List Int))] (.s (.v (.int .i64) c6)) [.box (.pr (.sl (.int .u8)) (.pr (.int .i64) (.int .u64))) c6o0],
      sizeOK (List.length k1yo7 + List.length ([c6] : List Int))]) (by kernel_rfl) ⟨h1, h2, h3, h4, (decide_eq_true h5), h6, h7, h8, h9, trivial⟩ get_spec_DrawTreeOfExponents (by decide)

theorem spec_DrawTreeOfExponents_p11 (a0 : (List Int)) (c1 : ByteArray) (c1o0 : ((List Int) × (Int × Int))) (c3 : Int) (c3o0 : ((List Int) × (Int × Int))) (k1y8 : Int) (k1y43 : Bool) (k1yo7 : (List Int)) (k1yo11 : ((List Int) × (Int × Int))) (c4o0 : ((List Int) × (Int × Int))) (c5o0 : ((List Int) × (Int × Int)))
    (h1 : SC cfg.P i_spec_l1Cur_tree [.s (.mbx (.pr (.sl (.int .u8)) (.pr (.int .i64) (.int .u64))) (a0, ((0 : Int), (0 : Int)))), .s (.v (.int .i64) (8 : Int))] (.s (.v .str c1)) [.box (.pr (.sl (.int .u8)) (.pr (.int .i64) (.int .u64))) c1o0])
    (h2 : SC cfg.P i_spec_trIs [.s (.v .str c1)] (.s (.v .bool false)) [])
    (h3 : SC cfg.P i_spec_l1Cur_pick [.s (.mbx (.pr (.sl (.int .u8)) (.pr (.int .i64) (.int .u64))) c1o0), .s (.v (.int .i64) (6 : Int))] (.s (.v (.int .i64) c3)) [.box (.pr (.sl (.int .u8)) (.pr (.int .i64) (.int .u64))) c3o0])
    (h4 : LoopSC cfg.P 1 (lb P_spec_DrawTreeOfExponents 1) (spec_DrawTreeOfExponents_L1a c3 ([] : List Int) c3o0) (.exit 2) (spec_DrawTreeOfExponents_L1X1 k1y8 k1y43 k1yo7 k1yo11))
    (h5 : ((List.length k1yo7 : Nat) : Int) > (0 : Int))
    (h6 : SC cfg.P i_spec_l1Cur_one [.s (.mbx (.pr (.sl (.int .u8)) (.pr (.int .i64) (.int .u64))) k1yo11), .s (.v (.int .i64) (2 : Int))] (.s (.v .bool false)) [.box (.pr (.sl (.int .u8)) (.pr (.int .i64) (.int .u64))) c4o0])
    (h7 : SC cfg.P i_spec_l1Cur_one [.s (.mbx (.pr (.sl (.int .u8)) (.pr (.int .i64) (.int .u64))) c4o0), .s (.v (.int .i64) (12 : Int))] (.s (.v .bool false)) [.box (.pr (.sl (.int .u8)) (.pr (.int .i64) (.int .u64))) c5o0]) :
    SC cfg.P i_spec_DrawTreeOfExponents [.s (.v (.sl (.int .u8)) a0)] (.s (.own t_int (.int .i64) k1yo7)) [] :=
  SC_of_run cfgOK (its := [.res (.s (.v .str c1)) [.box (.pr (.sl (.int .u8)) (.pr (.int .i64) (.int .u64))) c1o0] [] [], .res (.s (.v .bool false)) [] [] [], .res (.s (.v (.int .i64) c3)) [.box (.pr (.sl (.int .u8)) (.pr (.int .i64) (.int .u64))) c3o0] [] [], .loop (fun _ => (.exit 2, spec_DrawTreeOfExponents_L1X1 k1y8 k1y43 k1yo7 k1yo11)), .bool true, .res (.s (.v .bool false)) [.box (.pr (.sl (.int .u8)) (.pr (.int .i64) (.int .u64))) c4o0] [] [], .res (.s (.v .bool false)) [.box (.pr (.sl (.int .u8)) (.pr (.int .i64) (.int .u64))) c5o0] [] []])
    (ps := [SC cfg.P i_spec_l1Cur_tree [.s (.mbx (.pr (.sl (.int .u8)) (.pr (.int .i64) (.int .u64))) (a0, ((0 : Int), (0 : Int)))), .s (.v (.int .i64) (8 : Int))] (.s (.v .str c1)) [.box (.pr (.sl (.int .u8)) (.pr (.int .i64) (.int .u64))) c1o0],
      SC cfg.P i_spec_trIs [.s (.v .str c1)] (.s (.v .bool false)) [],
      SC cfg.P i_spec_l1Cur_pick [.s (.mbx (.pr (.sl (.int .u8)) (.pr (.int .i64) (.int .u64))) c1o0), .s (.v (.int .i64) (6 : Int))] (.s (.v (.int .i64) c3)) [.box (.pr (.sl (.int .u8)) (.pr (.int .i64) (.int .u64))) c3o0],
      LoopSC cfg.P 1 (lb P_spec_DrawTreeOfExponents 1) (spec_DrawTreeOfExponents_L1a c3 ([] : List Int) c3o0) (.exit 2) (spec_DrawTreeOfExponents_L1X1 k1y8 k1y43 k1yo7 k1yo11),
      decide (((List.length k1yo7 : Nat) : Int) > (0 : Int)) = true,
      SC cfg.P i_spec_l1Cur_one [.s (.mbx (.pr (.sl (.int .u8)) (.pr (.int .i64) (.int .u64))) k1yo11), .s (.v (.int .i64) (2 : Int))] (.s (.v .bool false)) [.box (.pr (.sl (.int .u8)) (.pr (.int .i64) (.int .u64))) c4o0],
      SC cfg.P i_spec_l1Cur_one [.s (.mbx (.pr (.sl (.int .u8)) (.pr (.int .i64) (.int .u64))) c4o0), .s (.v (.int .i64) (12 : Int))] (.s (.v .bool false)) [.box (.pr (.sl (.int .u8)) (.pr (.int .i64) (.int .u64))) c5o0]]) (by kernel_rfl) ⟨h1, h2, h3, h4, (decide_eq_true h5), h6, h7, trivial⟩ get_spec_DrawTreeOfExponents (by decide)

theorem spec_DrawTreeOfExponents_p12 (a0 : (List Int)) (c1 : ByteArray) (c1o0 : ((List Int) × (Int × Int))) (c3 : Int) (c3o0 : ((List Int) × (Int × Int))) (k1y8 : Int) (k1y43 : Bool) (k1yo7 : (List Int)) (k1yo11 : ((List Int) × (Int × Int))) (c4o0 : ((List Int) × (Int × Int))) (c5 : Int) (c5o0 : ((List Int) × (Int × Int)))
    (h1 : SC cfg.P i_spec_l1Cur_tree [.s (.mbx (.pr (.sl (.int .u8)) (.pr (.int .i64) (.int .u64))) (a0, ((0 : Int), (0 : Int)))), .s (.v (.int .i64) (8 : Int))] (.s (.v .str c1)) [.box (.pr (.sl (.int .u8)) (.pr (.int .i64) (.int .u64))) c1o0])
    (h2 : SC cfg.P i_spec_trIs [.s (.v .str c1)] (.s (.v .bool false)) [])
    (h3 : SC cfg.P i_spec_l1Cur_pick [.s (.mbx (.pr (.sl (.int .u8)) (.pr (.int .i64) (.int .u64))) c1o0), .s (.v (.int .i64) (6 : Int))] (.s (.v (.int .i64) c3)) [.box (.pr (.sl (.int .u8)) (.pr (.int .i64) (.int .u64))) c3o0])
    (h4 : LoopSC cfg.P 1 (lb P_spec_DrawTreeOfExponents 1) (spec_DrawTreeOfExponents_L1a c3 ([] : List Int) c3o0) (.exit 2) (spec_DrawTreeOfExponents_L1X1 k1y8 k1y43 k1yo7 k1yo11))
    (h5 : ¬ (((List.length k1yo7 : Nat) : Int) > (0 : Int)))
    (h6 : SC cfg.P i_spec_l1Cur_one [.s (.mbx (.pr (.sl (.int .u8)) (.pr (.int .i64) (.int .u64))) k1yo11), .s (.v (.int .i64) (12 : Int))] (.s (.v .bool true)) [.box (.pr (.sl (.int .u8)) (.pr (.int .i64) (.int .u64))) c4o0])
    (h7 : SC cfg.P i_spec_l1Cur_among [.s (.mbx (.pr (.sl (.int .u8)) (.pr (.int .i64) (.int .u64))) c4o0), .s (.v (.sl (.int .i64)) ([(-1 : Int), (0 : Int), (9 : Int), (8 : Int), (4611686018427387904 : Int)] : List Int))] (.s (.v (.int .i64) c5)) [.box (.pr (.sl (.int .u8)) (.pr (.int .i64) (.int .u64))) c5o0])
    (h8 : sizeOK (List.length k1yo7 + List.length ([c5] : List Int))) :
    SC cfg.P i_spec_DrawTreeOfExponents [.s (.v (.sl (.int .u8)) a0)] (.s (.own t_int (.int .i64) (k1yo7 ++ ([c5] : List Int)))) [] :=
  SC_of_run cfgOK (its := [.res (.s (.v .str c1)) [.box (.pr (.sl (.int .u8)) (.pr (.int .i64) (.int .u64))) c1o0] [] [], .res (.s (.v .bool false)) [] [] [], .res (.s (.v (.int .i64) c3)) [.box (.pr (.sl (.int .u8)) (.pr (.int .i64) (.int .u64))) c3o0] [] [], .loop (fun _ => (.exit 2, spec_DrawTreeOfExponents_L1X1 k1y8 k1y43 k1yo7 k1yo11)), .bool false, .res (.s (.v .bool true)) [.box (.pr (.sl (.int .u8)) (.pr (.int .i64) (.int .u64))) c4o0] [] [], .res (.s (.v (.int .i64) c5)) [.box (.pr (.sl (.int .u8)) (.pr (.int .i64) (.int .u64))) c5o0] [] []])
    (ps := [SC cfg.P i_spec_l1Cur_tree [.s (.mbx (.pr (.sl (.int .u8)) (.pr (.int .i64) (.int .u64))) (a0, ((0 : Int), (0 : Int)))), .s (.v (.int .i64) (8 : Int))] (.s (.v .str c1)) [.box (.pr (.sl (.int .u8)) (.pr (.int .i64) (.int .u64))) c1o0],
      SC cfg.P i_spec_trIs [.s (.v .str c1)] (.s (.v .bool false)) [],
      SC cfg.P i_spec_l1Cur_pick [.s (.mbx (.pr (.sl (.int .u8)) (.pr (.int .i64) (.int .u64))) c1o0), .s (.v (.int .i64) (6 : Int))] (.s (.v (.int .i64) c3)) [.box (.pr (.sl (.int .u8)) (.pr (.int .i64) (.int .u64))) c3o0],
      LoopSC cfg.P 1 (lb P_spec_DrawTreeOfExponents 1) (spec_DrawTreeOfExponents_L1a c3 ([] : List Int) c3o0) (.exit 2) (spec_DrawTreeOfExponents_L1X1 k1y8 k1y43 k1yo7 k1yo11),
      decide (((List.length k1yo7 : Nat) : Int) > (0 : Int)) = false,
      SC cfg.P i_spec_l1Cur_one [.s (.mbx (.pr (.sl (.int .u8)) (.pr (.int .i64) (.int .u64))) k1yo11), .s (.v (.int .i64) (12 : Int))] (.s (.v .bool true)) [.box (.pr (.sl (.int .u8)) (.pr (.int .i64) (.int .u64))) c4o0],
      SC cfg.P i_spec_l1Cur_among [.s (.mbx (.pr (.sl (.int .u8)) (.pr (.int .i64) (.int .u64))) c4o0), .s (.v (.sl (.int .i64)) ([(-1 : Int), (0 : Int), (9 : Int), (8 : Int), (4611686018427387904 : Int)] : List Int))] (.s (.v (.int .i64) c5)) [.box (.pr (.sl (.int .u8)) (.pr (.int .i64) (.int .u64))) c5o0],
      sizeOK (List.length k1yo7 + List.length ([c5] : List Int))]) (by kernel_rfl) ⟨h1, h2, h3, h4, (decide_eq_false h5), h6, h7, h8, trivial⟩ get_spec_DrawTreeOfExponents (by decide)

theorem spec_DrawTreeOfExponents_p13 (a0 : (List Int)) (c1 : ByteArray) (c1o0 : ((List Int) × (Int × Int))) (c3 : Int) (c3o0 : ((List Int) × (Int × Int))) (k1y8 : Int) (k1y43 : Bool) (k1yo7 : (List Int)) (k1yo11 : ((List Int) × (Int × Int))) (c4o0 : ((List Int) × (Int × Int)))
    (h1 : SC cfg.P i_spec_l1Cur_tree [.s (.mbx (.pr (.sl (.int .u8)) (.pr (.int .i64) (.int .u64))) (a0, ((0 : Int), (0 : Int)))), .s (.v (.int .i64) (8 : Int))] (.s (.v .str c1)) [.box (.pr (.sl (.int .u8)) (.pr (.int .i64) (.int .u64))) c1o0])
    (h2 : SC cfg.P i_spec_trIs [.s (.v .str c1)] (.s (.v .bool false)) [])
    (h3 : SC cfg.P i_spec_l1Cur_pick [.s (.mbx (.pr (.sl (.int .u8)) (.pr (.int .i64) (.int .u64))) c1o0), .s (.v (.int .i64) (6 : Int))] (.s (.v (.int .i64) c3)) [.box (.pr (.sl (.int .u8)) (.pr (.int .i64) (.int .u64))) c3o0])
    (h4 : LoopSC cfg.P 1 (lb P_spec_DrawTreeOfExponents 1) (spec_DrawTreeOfExponents_L1a c3 ([] : List Int) c3o0) (.exit 2) (spec_DrawTreeOfExponents_L1X1 k1y8 k1y43 k1yo7 k1yo11))
    (h5 : ¬ (((List.length k1yo7 : Nat) : Int) > (0 : Int)))
    (h6 : SC cfg.P i_spec_l1Cur_one [.s (.mbx (.pr (.sl (.int .u8)) (.pr (.int .i64) (.int .u64))) k1yo11), .s (.v (.int .i64) (12 : Int))] (.s (.v .bool false)) [.box (.pr (.sl (.int .u8)) (.pr (.int .i64) (.int .u64))) c4o0]) :
    SC cfg.P i_spec_DrawTreeOfExponents [.s (.v (.sl (.int .u8)) a0)] (.s (.own t_int (.int .i64) k1yo7)) [] :=
  SC_of_run cfgOK (its := [.res (.s (.v .str c1)) [.box (.pr (.sl (.int .u8)) (.pr (.int .i64) (.int .u64))) c1o0] [] [], .res (.s (.v .bool false)) [] [] [], .res (.s (.v (.int .i64) c3)) [.box (.pr (.sl (.int .u8)) (.pr (.int .i64) (.int .u64))) c3o0] [] [], .loop (fun _ => (.exit 2, spec_DrawTreeOfExponents_L1X1 k1y8 k1y43 k1yo7 k1yo11)), .bool false, .res (.s (.v .bool false)) [.box (.pr (.sl (.int .u8)) (.pr (.int .i64) (.int .u64))) c4o0] [] []])
    (ps := [SC cfg.P i_spec_l1Cur_tree [.s (.mbx (.pr (.sl (.int .u8)) (.pr (.int .i64) (.int .u64))) (a0, ((0 : Int), (0 : Int)))), .s (.v (.int .i64) (8 : Int))] (.s (.v .str c1)) [.box (.pr (.sl (.int .u8)) (.pr (.int .i64) (.int .u64))) c1o0],
      SC cfg.P i_spec_trIs [.s (.v .str c1)] (.s (.v .bool false)) [],
      SC cfg.P i_spec_l1Cur_pick [.s (.mbx (.pr (.sl (.int .u8)) (.pr (.int .i64) (.int .u64))) c1o0), .s (.v (.int .i64) (6 : Int))] (.s (.v (.int .i64) c3)) [.box (.pr (.sl (.int .u8)) (.pr (.int .i64) (.int .u64))) c3o0],
      LoopSC cfg.P 1 (lb P_spec_DrawTreeOfExponents 1) (spec_DrawTreeOfExponents_L1a c3 ([] : List Int) c3o0) (.exit 2) (spec_DrawTreeOfExponents_L1X1 k1y8 k1y43 k1yo7 k1yo11),
      decide (((List.length k1yo7 : Nat) : Int) > (0 : Int)) = false,
      SC cfg.P i_spec_l1Cur_one [.s (.mbx (.pr (.sl (.int .u8)) (.pr (.int .i64) (.int .u64))) k1yo11), .s (.v (.int .i64) (12 : Int))] (.s (.v .bool false)) [.box (.pr (.sl (.int .u8)) (.pr (.int .i64) (.int .u64))) c4o0]]) (by kernel_rfl) ⟨h1, h2, h3, h4, (decide_eq_false h5), h6, trivial⟩ get_spec_DrawTreeOfExponents (by decide)

/-! ### impl_TreeOfExponents -/


def impl_TreeOfExponents_L0a (x4 : (List Tr)) (x24 : (List Int)) (x25 : Int) (x26 : Int) : St := mkSt 50 [(4, .s (.v (.sl .tree) x4)), (24, .s (.v (.sl (.int .i64)) x24)), (25, .s (.v (.int .i64) x25)), (26, .s (.v (.int .i64) x26))] []

def impl_TreeOfExponents_L1a (x4 : (List Tr)) (x5 : Int) (x24 : (List Int)) (x25 : Int) (x26 : Int) (x37 : Int) (x38 : Int) : St := mkSt 50 [(4, .s (.v (.sl .tree) x4)), (5, .s (.v (.int .i64) x5)), (24, .s (.v (.sl (.int .i64)) x24)), (25, .s (.v (.int .i64) x25)), (26, .s (.v (.int .i64) x26)), (37, .s (.v (.int .i64) x37)), (38, .s (.v (.int .i64) x38))] []

def impl_TreeOfExponents_L1X1 (y4 : (List Tr)) (y5 : Int) (y24 : (List Int)) (y25 : Int) (y26 : Int) (y37 : Int) (y38 : Int) (y39 : Bool) : St := mkSt 50 [(4, .s (.v (.sl .tree) y4)), (5, .s (.v (.int .i64) y5)), (24, .s (.v (.sl (.int .i64)) y24)), (25, .s (.v (.int .i64) y25)), (26, .s (.v (.int .i64) y26)), (37, .s (.v (.int .i64) y37)), (38, .s (.v (.int .i64) y38)), (39, .s (.v .bool y39))] []

def impl_TreeOfExponents_L0X1 (y2 : ByteArray) (y3 : Bool) : St := mkSt 50 [(2, .s (.v .str y2)), (3, .s (.v .bool y3))] []

def impl_TreeOfExponents_L0X2 (y4 : (List Tr)) (y24 : (List Int)) (y25 : Int) (y26 : Int) (y27 : Bool) : St := mkSt 50 [(4, .s (.v (.sl .tree) y4)), (24, .s (.v (.sl (.int .i64)) y24)), (25, .s (.v (.int .i64) y25)), (26, .s (.v (.int .i64) y26)), (27, .s (.v .bool y27))] []

theorem impl_TreeOfExponents_L0a_x1 (x4 : (List Tr)) (x24 : (List Int)) (x25 : Int) (x26 : Int)
    (h1 : x26 < x25)
    (h2 : 0 ≤ x26)
    (h3 : x26 < (List.length x24 : Int))
    (h4 : (List.getD x24 (x26).toNat (0 : Int)) < (0 : Int)) :
    LoopSC cfg.P 1 (lb P_impl_TreeOfExponents 0) (impl_TreeOfExponents_L0a x4 x24 x25 x26) (.ret) (impl_TreeOfExponents_L0X1 (⟨#[]⟩ : ByteArray) false) :=
  loop_out cfgOK (f := i_impl_TreeOfExponents) (its := [.bool true, .bool true])
    (ps := [decide (x26 < x25) = true,
      0 ≤ x26,
      x26 < (List.length x24 : Int),
      decide ((List.getD x24 (x26).toNat (0 : Int)) < (0 : Int)) = true]) (by kernel_rfl) ⟨(decide_eq_true h1), h2, h3, (decide_eq_true h4), trivial⟩ (fun h => by cases h)

theorem impl_TreeOfExponents_L0a_x2 (x4 : (List Tr)) (x24 : (List Int)) (x25 : Int) (x26 : Int)
    (h1 : x26 < x25)
    (h2 : 0 ≤ x26)
    (h3 : x26 < (List.length x24 : Int))
    (h4 : ¬ ((List.getD x24 (x26).toNat (0 : Int)) < (0 : Int)))
    (h5 : (List.getD x24 (x26).toNat (0 : Int)) > (8 : Int)) :
    LoopSC cfg.P 1 (lb P_impl_TreeOfExponents 0) (impl_TreeOfExponents_L0a x4 x24 x25 x26) (.ret) (impl_TreeOfExponents_L0X1 (⟨#[]⟩ : ByteArray) false) :=
  loop_out cfgOK (f := i_impl_TreeOfExponents) (its := [.bool true, .bool false, .bool true])
    (ps := [decide (x26 < x25) = true,
      0 ≤ x26,
      x26 < (List.length x24 : Int),
      decide ((List.getD x24 (x26).toNat (0 : Int)) < (0 : Int)) = false,
      decide ((List.getD x24 (x26).toNat (0 : Int)) > (8 : Int)) = true]) (by kernel_rfl) ⟨(decide_eq_true h1), h2, h3, (decide_eq_false h4), (decide_eq_true h5), trivial⟩ (fun h => by cases h)

theorem impl_TreeOfExponents_L0a_i3 (x4 : (List Tr)) (x24 : (List Int)) (x25 : Int) (x26 : Int) (dk1y4 : (List Tr)) (dk1y5 : Int) (dk1y24 : (List Int)) (dk1y25 : Int) (dk1y26 : Int) (dk1y37 : Int) (dk1y38 : Int) (dk1y39 : Bool)
    (h1 : x26 < x25)
    (h2 : 0 ≤ x26)
    (h3 : x26 < (List.length x24 : Int))
    (h4 : ¬ ((List.getD x24 (x26).toNat (0 : Int)) < (0 : Int)))
    (h5 : ¬ ((List.getD x24 (x26).toNat (0 : Int)) > (8 : Int)))
    (h6 : LoopSC cfg.P 1 (lb P_impl_TreeOfExponents 1) (impl_TreeOfExponents_L1a x4 x26 x24 x25 x26 (List.getD x24 (x26).toNat (0 : Int)) (0 : Int)) (.exit 2) (impl_TreeOfExponents_L1X1 dk1y4 dk1y5 dk1y24 dk1y25 dk1y26 dk1y37 dk1y38 dk1y39))
    {e : AEx} {st : St} (next : LoopSC cfg.P 1 (lb P_impl_TreeOfExponents 0) (impl_TreeOfExponents_L0a dk1y4 dk1y24 dk1y25 (IntKind.wrap .i64 (dk1y26 + (1 : Int)))) e st) :
    LoopSC cfg.P 1 (lb P_impl_TreeOfExponents 0) (impl_TreeOfExponents_L0a x4 x24 x25 x26) e st :=
  loop_iter cfgOK (f := i_impl_TreeOfExponents) (its := [.bool true, .bool false, .bool false, .loop (fun _ => (.exit 2, impl_TreeOfExponents_L1X1 dk1y4 dk1y5 dk1y24 dk1y25 dk1y26 dk1y37 dk1y38 dk1y39))])
    (ps := [decide (x26 < x25) = true,
      0 ≤ x26,
      x26 < (List.length x24 : Int),
      decide ((List.getD x24 (x26).toNat (0 : Int)) < (0 : Int)) = false,
      decide ((List.getD x24 (x26).toNat (0 : Int)) > (8 : Int)) = false,
      LoopSC cfg.P 1 (lb P_impl_TreeOfExponents 1) (impl_TreeOfExponents_L1a x4 x26 x24 x25 x26 (List.getD x24 (x26).toNat (0 : Int)) (0 : Int)) (.exit 2) (impl_TreeOfExponents_L1X1 dk1y4 dk1y5 dk1y24 dk1y25 dk1y26 dk1y37 dk1y38 dk1y39)]) (st1 := impl_TreeOfExponents_L0a dk1y4 dk1y24 dk1y25 (IntKind.wrap .i64 (dk1y26 + (1 : Int)))) (by kernel_rfl) ⟨(decide_eq_true h1), h2, h3, (decide_eq_false h4), (decide_eq_false h5), h6, trivial⟩ next

theorem impl_TreeOfExponents_L0a_x4 (x4 : (List Tr)) (x24 : (List Int)) (x25 : Int) (x26 : Int)
    (h1 : ¬ (x26 < x25)) :
    LoopSC cfg.P 1 (lb P_impl_TreeOfExponents 0) (impl_TreeOfExponents_L0a x4 x24 x25 x26) (.exit 0) (impl_TreeOfExponents_L0X2 x4 x24 x25 x26 false) :=
  loop_out cfgOK (f := i_impl_TreeOfExponents) (its := [.bool false])
    (ps := [decide (x26 < x25) = false]) (by kernel_rfl) ⟨(decide_eq_false h1), trivial⟩ (fun h => by cases h)

theorem impl_TreeOfExponents_L1a_i1 (x4 : (List Tr)) (x5 : Int) (x24 : (List Int)) (x25 : Int) (x26 : Int) (x37 : Int) (x38 : Int) (dc1 : (List Tr))
    (h1 : x38 < x37)
    (h2 : SC cfg.P i_impl_forest_split [.s (.v (.sl .tree) x4), .s (.v (.int .i64) x5)] (.s (.own t_pimpl_node .tree dc1)) [])
    {e : AEx} {st : St} (next : LoopSC cfg.P 1 (lb P_impl_TreeOfExponents 1) (impl_TreeOfExponents_L1a dc1 x5 x24 x25 x26 x37 (IntKind.wrap .i64 (x38 + (1 : Int)))) e st) :
    LoopSC cfg.P 1 (lb P_impl_TreeOfExponents 1) (impl_TreeOfExponents_L1a x4 x5 x24 x25 x26 x37 x38) e st :=
  loop_iter cfgOK (f := i_impl_TreeOfExponents) (its := [.bool true, .res (.s (.own t_pimpl_node .tree dc1)) [] [] [42]])
    (ps := [decide (x38 < x37) = true,
      SC cfg.P i_impl_forest_split [.s (.v (.sl .tree) x4), .s (.v (.int .i64) x5)] (.s (.own t_pimpl_node .tree dc1)) []]) (st1 := impl_TreeOfExponents_L1a dc1 x5 x24 x25 x26 x37 (IntKind.wrap .i64 (x38 + (1 : Int)))) (by kernel_rfl) ⟨(decide_eq_true h1), h2, trivial⟩ next

theorem impl_TreeOfExponents_L1a_x2 (x4 : (List Tr)) (x5 : Int) (x24 : (List Int)) (x25 : Int) (x26 : Int) (x37 : Int) (x38 : Int)
    (h1 : ¬ (x38 < x37)) :
    LoopSC cfg.P 1 (lb P_impl_TreeOfExponents 1) (impl_TreeOfExponents_L1a x4 x5 x24 x25 x26 x37 x38) (.exit 2) (impl_TreeOfExponents_L1X1 x4 x5 x24 x25 x26 x37 x38 false) :=
  loop_out cfgOK (f := i_impl_TreeOfExponents) (its := [.bool false])
    (ps := [decide (x38 < x37) = false]) (by kernel_rfl) ⟨(decide_eq_false h1), trivial⟩ (fun h => by cases h)

theorem impl_TreeOfExponents_p1 (a0 : (List Int))
    (h1 : ((List.length a0 : Nat) : Int) > (9 : Int)) :
    SC cfg.P i_impl_TreeOfExponents [.s (.v (.sl (.int .i64)) a0)] (.tup [.v .str (⟨#[]⟩ : ByteArray), .v .bool false]) [] :=
  SC_of_run cfgOK (its := [.bool true])
    (ps := [decide (((List.length a0 : Nat) : Int) > (9 : Int)) = true]) (by kernel_rfl) ⟨(decide_eq_true h1), trivial⟩ get_impl_TreeOfExponents (by decide)

theorem impl_TreeOfExponents_p2 (a0 : (List Int))
    (h1 : ¬ (((List.length a0 : Nat) : Int) > (9 : Int)))
    (h2 : ((List.length a0 : Nat) : Int) > (0 : Int))
    (h3 : 0 ≤ (IntKind.wrap .i64 (((List.length a0 : Nat) : Int) - (1 : Int))))
    (h4 : (IntKind.wrap .i64 (((List.length a0 : Nat) : Int) - (1 : Int))) < (List.length a0 : Int))
    (h5 : (List.getD a0 ((IntKind.wrap .i64 (((List.length a0 : Nat) : Int) - (1 : Int)))).toNat (0 : Int)) = (0 : Int)) :
    SC cfg.P i_impl_TreeOfExponents [.s (.v (.sl (.int .i64)) a0)] (.tup [.v .str (⟨#[]⟩ : ByteArray), .v .bool false]) [] :=
  SC_of_run cfgOK (its := [.bool false, .bool true, .bool true])
    (ps := [decide (((List.length a0 : Nat) : Int) > (9 : Int)) = false,
      decide (((List.length a0 : Nat) : Int) > (0 : Int)) = true,
      0 ≤ (IntKind.wrap .i64 (((List.length a0 : Nat) : Int) - (1 : Int))),
      (IntKind.wrap .i64 (((List.length a0 : Nat) : Int) - (1 : Int))) < (List.length a0 : Int),
      ((List.getD a0 ((IntKind.wrap .i64 (((List.length a0 : Nat) : Int) - (1 : Int)))).toNat (0 : Int)) == (0 : Int)) = true]) (by kernel_rfl) ⟨(decide_eq_false h1), (decide_eq_true h2), h3, h4, (beq_iff_eq.mpr h5), trivial⟩ get_impl_TreeOfExponents (by decide)

theorem impl_TreeOfExponents_p3 (a0 : (List Int)) (k1y2 : ByteArray) (k1y3 : Bool)
    (h1 : ¬ (((List.length a0 : Nat) : Int) > (9 : Int)))
    (h2 : ((List.length a0 : Nat) : Int) > (0 : Int))
    (h3 : 0 ≤ (IntKind.wrap .i64 (((List.length a0 : Nat) : Int) - (1 : Int))))
    (h4 : (IntKind.wrap .i64 (((List.length a0 : Nat) : Int) - (1 : Int))) < (List.length a0 : Int))
    (h5 : (List.getD a0 ((IntKind.wrap .i64 (((List.length a0 : Nat) : Int) - (1 : Int)))).toNat (0 : Int)) ≠ (0 : Int))
    (h6 : LoopSC cfg.P 1 (lb P_impl_TreeOfExponents 0) (impl_TreeOfExponents_L0a ([] : List Tr) a0 ((List.length a0 : Nat) : Int) (0 : Int)) (.ret) (impl_TreeOfExponents_L0X1 k1y2 k1y3)) :
    SC cfg.P i_impl_TreeOfExponents [.s (.v (.sl (.int .i64)) a0)] (.tup [.v .str k1y2, .v .bool k1y3]) [] :=
  SC_of_run cfgOK (its := [.bool false, .bool true, .bool false, .loop (fun _ => (.ret, impl_TreeOfExponents_L0X1 k1y2 k1y3))])
    (ps := [decide (((List.length a0 : Nat) : Int) > (9 : Int)) = false,
      decide (((List.length a0 : Nat) : Int) > (0 : Int)) = true,
      0 ≤ (IntKind.wrap .i64 (((List.length a0 : Nat) : Int) - (1 : Int))),
      (IntKind.wrap .i64 (((List.length a0 : Nat) : Int) - (1 : Int))) < (List.length a0 : Int),
      ((List.getD a0 ((IntKind.wrap .i64 (((List.length a0 : Nat) : Int) - (1 : Int)))).toNat (0 : Int)) == (0 : Int)) = false,
      LoopSC cfg.P 1 (lb P_impl_TreeOfExponents 0) (impl_TreeOfExponents_L0a ([] : List Tr) a0 ((List.length a0 : Nat) : Int) (0 : Int)) (.ret) (impl_TreeOfExponents_L0X1 k1y2 k1y3)]) (by kernel_rfl) ⟨(decide_eq_false h1), (decide_eq_true h2), h3, h4, (beq_eq_false_iff_ne.mpr h5), h6, trivial⟩ get_impl_TreeOfExponents (by decide)

theorem impl_TreeOfExponents_p4 (a0 : (List Int)) (k1y4 : (List Tr)) (k1y24 : (List Int)) (k1y25 : Int) (k1y26 : Int) (k1y27 : Bool) (c1 : Tr) (c2a : ByteArray) (c2b : Bool)
    (h1 : ¬ (((List.length a0 : Nat) : Int) > (9 : Int)))
    (h2 : ((List.length a0 : Nat) : Int) > (0 : Int))
    (h3 : 0 ≤ (IntKind.wrap .i64 (((List.length a0 : Nat) : Int) - (1 : Int))))
    (h4 : (IntKind.wrap .i64 (((List.length a0 : Nat) : Int) - (1 : Int))) < (List.length a0 : Int))
    (h5 : (List.getD a0 ((IntKind.wrap .i64 (((List.length a0 : Nat) : Int) - (1 : Int)))).toNat (0 : Int)) ≠ (0 : Int))
    (h6 : LoopSC cfg.P 1 (lb P_impl_TreeOfExponents 0) (impl_TreeOfExponents_L0a ([] : List Tr) a0 ((List.length a0 : Nat) : Int) (0 : Int)) (.exit 0) (impl_TreeOfExponents_L0X2 k1y4 k1y24 k1y25 k1y26 k1y27))
    (h7 : SC cfg.P i_impl_forest_hung [.s (.v (.sl .tree) k1y4)] (.s (.v .tree c1)) [])
    (h8 : SC cfg.P i_impl_told [.s (.v .tree c1)] (.tup [.v .str c2a, .v .bool c2b]) []) :
    SC cfg.P i_impl_TreeOfExponents [.s (.v (.sl (.int .i64)) a0)] (.tup [.v .str c2a, .v .bool c2b]) [] :=
  SC_of_run cfgOK (its := [.bool false, .bool true, .bool false, .loop (fun _ => (.exit 0, impl_TreeOfExponents_L0X2 k1y4 k1y24 k1y25 k1y26 k1y27)), .res (.s (.v .tree c1)) [] [] [], .res (.tup [.v .str c2a, .v .bool c2b]) [] [] []])
    (ps := [decide (((List.length a0 : Nat) : Int) > (9 : Int)) = false,
      decide (((List.length a0 : Nat) : Int) > (0 : Int)) = true,
      0 ≤ (IntKind.wrap .i64 (((List.length a0 : Nat) : Int) - (1 : Int))),
      (IntKind.wrap .i64 (((List.length a0 : Nat) : Int) - (1 : Int))) < (List.length a0 : Int),
      ((List.getD a0 ((IntKind.wrap .i64 (((List.length a0 : Nat) : Int) - (1 : Int)))).toNat (0 : Int)) == (0 : Int)) = false,
      LoopSC cfg.P 1 (lb P_impl_TreeOfExponents 0) (impl_TreeOfExponents_L0a ([] : List Tr) a0 ((List.length a0 : Nat) : Int) (0 : Int)) (.exit 0) (impl_TreeOfExponents_L0X2 k1y4 k1y24 k1y25 k1y26 k1y27),
      SC cfg.P i_impl_forest_hung [.s (.v (.sl .tree) k1y4)] (.s (.v .tree c1)) [],
      SC cfg.P i_impl_told [.s (.v .tree c1)] (.tup [.v .str c2a, .v .bool c2b]) []]) (by kernel_rfl) ⟨(decide_eq_false h1), (decide_eq_true h2), h3, h4, (beq_eq_false_iff_ne.mpr h5), h6, h7, h8, trivial⟩ get_impl_TreeOfExponents (by decide)

theorem impl_TreeOfExponents_p5 (a0 : (List Int)) (k1y2 : ByteArray) (k1y3 : Bool)
    (h1 : ¬ (((List.length a0 : Nat) : Int) > (9 : Int)))
    (h2 : ¬ (((List.length a0 : Nat) : Int) > (0 : Int)))
    (h3 : LoopSC cfg.P 1 (lb P_impl_TreeOfExponents 0) (impl_TreeOfExponents_L0a ([] : List Tr) a0 ((List.length a0 : Nat) : Int) (0 : Int)) (.ret) (impl_TreeOfExponents_L0X1 k1y2 k1y3)) :
    SC cfg.P i_impl_TreeOfExponents [.s (.v (.sl (.int .i64)) a0)] (.tup [.v .str k1y2, .v .bool k1y3]) [] :=
  SC_of_run cfgOK (its := [.bool false, .bool false, .loop (fun _ => (.ret, impl_TreeOfExponents_L0X1 k1y2 k1y3))])
    (ps := [decide (((List.length a0 : Nat) : Int) > (9 : Int)) = false,
      decide (((List.length a0 : Nat) : Int) > (0 : Int)) = false,
      LoopSC cfg.P 1 (lb P_impl_TreeOfExponents 0) (impl_TreeOfExponents_L0a ([] : List Tr) a0 ((List.length a0 : Nat) : Int) (0 : Int)) (.ret) (impl_TreeOfExponents_L0X1 k1y2 k1y3)]) (by kernel_rfl) ⟨(decide_eq_false h1), (decide_eq_false h2), h3, trivial⟩ get_impl_TreeOfExponents (by decide)

theorem impl_TreeOfExponents_p6 (a0 : (List Int)) (k1y4 : (List Tr)) (k1y24 : (List Int)) (k1y25 : Int) (k1y26 : Int) (k1y27 : Bool) (c1 : Tr) (c2a : ByteArray) (c2b : Bool)
    (h1 : ¬ (((List.length a0 : Nat) : Int) > (9 : Int)))
    (h2 : ¬ (((List.length a0 : Nat) : Int) > (0 : Int)))
    (h3 : LoopSC cfg.P 1 (lb P_impl_TreeOfExponents 0) (impl_TreeOfExponents_L0a ([] : List Tr) a0 ((List.length a0 : Nat) : Int) (0 : Int)) (.exit 0) (impl_TreeOfExponents_L0X2 k1y4 k1y24 k1y25 k1y26 k1y27))
    (h4 : SC cfg.P i_impl_forest_hung [.s (.v (.sl .tree) k1y4)] (.s (.v .tree c1)) [])
    (h5 : SC cfg.P i_impl_told [.s (.v .tree c1)] (.tup [.v .str c2a, .v .bool c2b]) []) :
    SC cfg.P i_impl_TreeOfExponents [.s (.v (.sl (.int .i64)) a0)] (.tup [.v .str c2a, .v .bool c2b]) [] :=
  SC_of_run cfgOK (its := [.bool false, .bool false, .loop (fun _ => (.exit 0, impl_TreeOfExponents_L0X2 k1y4 k1y24 k1y25 k1y26 k1y27)), .res (.s (.v .tree c1)) [] [] [], .res (.tup [.v .str c2a, .v .bool c2b]) [] [] []])
    (ps := [decide (((List.length a0 : Nat) : Int) > (9 : Int)) = false,
      decide (((List.length a0 : Nat) : Int) > (0 : Int)) = false,
      LoopSC cfg.P 1 (lb P_impl_TreeOfExponents 0) (impl_TreeOfExponents_L0a ([] : List Tr) a0 ((List.length a0 : Nat) : Int) (0 : Int)) (.exit 0) (impl_TreeOfExponents_L0X2 k1y4 k1y24 k1y25 k1y26 k1y27),
      SC cfg.P i_impl_forest_hung [.s (.v (.sl .tree) k1y4)] (.s (.v .tree c1)) [],
      SC cfg.P i_impl_told [.s (.v .tree c1)] (.tup [.v .str c2a, .v .bool c2b]) []]) (by kernel_rfl) ⟨(decide_eq_false h1), (decide_eq_false h2), h3, h4, h5, trivial⟩ get_impl_TreeOfExponents (by decide)

/-! ### spec_TreeOfExponents -/


theorem spec_TreeOfExponents_p1 (a0 : (List Int))
    (h1 : ((List.length a0 : Nat) : Int) > (9 : Int)) :
    SC cfg.P i_spec_TreeOfExponents [.s (.v (.sl (.int .i64)) a0)] (.tup [.v .str (⟨#[]⟩ : ByteArray), .v .bool false]) [] :=
  SC_of_run cfgOK (its := [.bool true])
    (ps := [decide (((List.length a0 : Nat) : Int) > (9 : Int)) = true]) (by kernel_rfl) ⟨(decide_eq_true h1), trivial⟩ get_spec_TreeOfExponents (by decide)

theorem spec_TreeOfExponents_p2 (a0 : (List Int))
    (h1 : ¬ (((List.length a0 : Nat) : Int) > (9 : Int)))
    (h2 : SC cfg.P i_spec_l1All [.s (.v (.sl (.int .i64)) a0), .s (.v (.int .i64) (0 : Int)), .s (.v (.int .i64) (8 : Int))] (.s (.v .bool true)) [])
    (h3 : ((List.length a0 : Nat) : Int) > (0 : Int))
    (h4 : 0 ≤ (IntKind.wrap .i64 (((List.length a0 : Nat) : Int) - (1 : Int))))
    (h5 : (IntKind.wrap .i64 (((List.length a0 : Nat) : Int) - (1 : Int))) < (List.length a0 : Int))
    (h6 : (List.getD a0 ((IntKind.wrap .i64 (((List.length a0 : Nat) : Int) - (1 : Int)))).toNat (0 : Int)) = (0 : Int)) :
    SC cfg.P i_spec_TreeOfExponents [.s (.v (.sl (.int .i64)) a0)] (.tup [.v .str (⟨#[]⟩ : ByteArray), .v .bool false]) [] :=
  SC_of_run cfgOK (its := [.bool false, .res (.s (.v .bool true)) [] [] [], .bool true, .bool true])
    (ps := [decide (((List.length a0 : Nat) : Int) > (9 : Int)) = false,
      SC cfg.P i_spec_l1All [.s (.v (.sl (.int .i64)) a0), .s (.v (.int .i64) (0 : Int)), .s (.v (.int .i64) (8 : Int))] (.s (.v .bool true)) [],
      decide (((List.length a0 : Nat) : Int) > (0 : Int)) = true,
      0 ≤ (IntKind.wrap .i64 (((List.length a0 : Nat) : Int) - (1 : Int))),
      (IntKind.wrap .i64 (((List.length a0 : Nat) : Int) - (1 : Int))) < (List.length a0 : Int),
      ((List.getD a0 ((IntKind.wrap .i64 (((List.length a0 : Nat) : Int) - (1 : Int)))).toNat (0 : Int)) == (0 : Int)) = true]) (by kernel_rfl) ⟨(decide_eq_false h1), h2, (decide_eq_true h3), h4, h5, (beq_iff_eq.mpr h6), trivial⟩ get_spec_TreeOfExponents (by decide)

theorem spec_TreeOfExponents_p3 (a0 : (List Int)) (c2 : (List ByteArray)) (c3 : (List ByteArray)) (c4 : ByteArray) (c5 : Int)
    (h1 : ¬ (((List.length a0 : Nat) : Int) > (9 : Int)))
    (h2 : SC cfg.P i_spec_l1All [.s (.v (.sl (.int .i64)) a0), .s (.v (.int .i64) (0 : Int)), .s (.v (.int .i64) (8 : Int))] (.s (.v .bool true)) [])
    (h3 : ((List.length a0 : Nat) : Int) > (0 : Int))
    (h4 : 0 ≤ (IntKind.wrap .i64 (((List.length a0 : Nat) : Int) - (1 : Int))))
    (h5 : (IntKind.wrap .i64 (((List.length a0 : Nat) : Int) - (1 : Int))) < (List.length a0 : Int))
    (h6 : (List.getD a0 ((IntKind.wrap .i64 (((List.length a0 : Nat) : Int) - (1 : Int)))).toNat (0 : Int)) ≠ (0 : Int))
    (h7 : SC cfg.P i_spec_wdForest [.s (.v (.sl (.int .i64)) a0)] (.s (.v (.sl .str) c2)) [])
    (h8 : SC cfg.P i_spec_wdShort [.s (.v (.sl .str) c2)] (.s (.own t_string .str c3)) [])
    (h9 : SC cfg.P i_spec_wdComb [.s (.v (.sl .str) c3)] (.s (.v .str c4)) [])
    (h10 : SC cfg.P i_spec_trCarets [.s (.v .str c4)] (.s (.v (.int .i64) c5)) [])
    (h11 : c5 > (8 : Int)) :
    SC cfg.P i_spec_TreeOfExponents [.s (.v (.sl (.int .i64)) a0)] (.tup [.v .str (⟨#[]⟩ : ByteArray), .v .bool false]) [] :=
  SC_of_run cfgOK (its := [.bool false, .res (.s (.v .bool true)) [] [] [], .bool true, .bool false, .res (.s (.v (.sl .str) c2)) [] [] [], .res (.s (.own t_string .str c3)) [] [] [29], .res (.s (.v .str c4)) [] [] [], .res (.s (.v (.int .i64) c5)) [] [] [], .bool true])
    (ps := [decide (((List.length a0 : Nat) : Int) > (9 : Int)) = false,
      SC cfg.P i_spec_l1All [.s (.v (.sl (.int .i64)) a0), .s (.v (.int .i64) (0 : Int)), .s (.v (.int .i64) (8 : Int))] (.s (.v .bool true)) [],
      decide (((List.length a0 : Nat) : Int) > (0 : Int)) = true,
      0 ≤ (IntKind.wrap .i64 (((List.length a0 : Nat) : Int) - (1 : Int))),
      (IntKind.wrap .i64 (((List.length a0 : Nat) : Int) - (1 : Int))) < (List.length a0 : Int),
      ((List.getD a0 ((IntKind.wrap .i64 (((List.length a0 : Nat) : Int) - (1 : Int)))).toNat (0 : Int)) == (0 : Int)) = false,
      SC cfg.P i_spec_wdForest [.s (.v (.sl (.int .i64)) a0)] (.s (.v (.sl .str) c2)) [],
      SC cfg.P i_spec_wdShort [.s (.v (.sl .str) c2)] (.s (.own t_string .str c3)) [],
      SC cfg.P i_spec_wdComb [.s (.v (.sl .str) c3)] (.s (.v .str c4)) [],
      SC cfg.P i_spec_trCarets [.s (.v .str c4)] (.s (.v (.int .i64) c5)) [],
      decide (c5 > (8 : Int)) = true]) (by kernel_rfl) ⟨(decide_eq_false h1), h2, (decide_eq_true h3), h4, h5, (beq_eq_false_iff_ne.mpr h6), h7, h8, h9, h10, (decide_eq_true h11), trivial⟩ get_spec_TreeOfExponents (by decide)

theorem spec_TreeOfExponents_p4 (a0 : (List Int)) (c2 : (List ByteArray)) (c3 : (List ByteArray)) (c4 : ByteArray) (c5 : Int)
    (h1 : ¬ (((List.length a0 : Nat) : Int) > (9 : Int)))
    (h2 : SC cfg.P i_spec_l1All [.s (.v (.sl (.int .i64)) a0), .s (.v (.int .i64) (0 : Int)), .s (.v (.int .i64) (8 : Int))] (.s (.v .bool true)) [])
    (h3 : ((List.length a0 : Nat) : Int) > (0 : Int))
    (h4 : 0 ≤ (IntKind.wrap .i64 (((List.length a0 : Nat) : Int) - (1 : Int))))
    (h5 : (IntKind.wrap .i64 (((List.length a0 : Nat) : Int) - (1 : Int))) < (List.length a0 : Int))
    (h6 : (List.getD a0 ((IntKind.wrap .i64 (((List.length a0 : Nat) : Int) - (1 : Int)))).toNat (0 : Int)) ≠ (0 : Int))
    (h7 : SC cfg.P i_spec_wdForest [.s (.v (.sl (.int .i64)) a0)] (.s (.v (.sl .str) c2)) [])
    (h8 : SC cfg.P i_spec_wdShort [.s (.v (.sl .str) c2)] (.s (.own t_string .str c3)) [])
    (h9 : SC cfg.P i_spec_wdComb [.s (.v (.sl .str) c3)] (.s (.v .str c4)) [])
    (h10 : SC cfg.P i_spec_trCarets [.s (.v .str c4)] (.s (.v (.int .i64) c5)) [])
    (h11 : ¬ (c5 > (8 : Int))) :
    SC cfg.P i_spec_TreeOfExponents [.s (.v (.sl (.int .i64)) a0)] (.tup [.v .str c4, .v .bool true]) [] :=
  SC_of_run cfgOK (its := [.bool false, .res (.s (.v .bool true)) [] [] [], .bool true, .bool false, .res (.s (.v (.sl .str) c2)) [] [] [], .res (.s (.own t_string .str c3)) [] [] [29], .res (.s (.v .str c4)) [] [] [], .res (.s (.v (.int .i64) c5)) [] [] [], .bool false])
    (ps := [decide (((List.length a0 : Nat) : Int) > (9 : Int)) = false,
      SC cfg.P i_spec_l1All [.s (.v (.sl (.int .i64)) a0), .s (.v (.int .i64) (0 : Int)), .s (.v (.int .i64) (8 : Int))] (.s (.v .bool true)) [],
      decide (((List.length a0 : Nat) : Int) > (0 : Int)) = true,
      0 ≤ (IntKind.wrap .i64 (((List.length a0 : Nat) : Int) - (1 : Int))),
      (IntKind.wrap .i64 (((List.length a0 : Nat) : Int) - (1 : Int))) < (List.length a0 : Int),
      ((List.getD a0 ((IntKind.wrap .i64 (((List.length a0 : Nat) : Int) - (1 : Int)))).toNat (0 : Int)) == (0 : Int)) = false,
      SC cfg.P i_spec_wdForest [.s (.v (.sl (.int .i64)) a0)] (.s (.v (.sl .str) c2)) [],
      SC cfg.P i_spec_wdShort [.s (.v (.sl .str) c2)] (.s (.own t_string .str c3)) [],
      SC cfg.P i_spec_wdComb [.s (.v (.sl .str) c3)] (.s (.v .str c4)) [],
      SC cfg.P i_spec_trCarets [.s (.v .str c4)] (.s (.v (.int .i64) c5)) [],
      decide (c5 > (8 : Int)) = false]) (by kernel_rfl) ⟨(decide_eq_false h1), h2, (decide_eq_true h3), h4, h5, (beq_eq_false_iff_ne.mpr h6), h7, h8, h9, h10, (decide_eq_false h11), trivial⟩ get_spec_TreeOfExponents (by decide)

theorem spec_TreeOfExponents_p5 (a0 : (List Int)) (c2 : (List ByteArray)) (c3 : (List ByteArray)) (c4 : ByteArray) (c5 : Int)
    (h1 : ¬ (((List.length a0 : Nat) : Int) > (9 : Int)))
    (h2 : SC cfg.P i_spec_l1All [.s (.v (.sl (.int .i64)) a0), .s (.v (.int .i64) (0 : Int)), .s (.v (.int .i64) (8 : Int))] (.s (.v .bool true)) [])
    (h3 : ¬ (((List.length a0 : Nat) : Int) > (0 : Int)))
    (h4 : SC cfg.P i_spec_wdForest [.s (.v (.sl (.int .i64)) a0)] (.s (.v (.sl .str) c2)) [])
    (h5 : SC cfg.P i_spec_wdShort [.s (.v (.sl .str) c2)] (.s (.own t_string .str c3)) [])
    (h6 : SC cfg.P i_spec_wdComb [.s (.v (.sl .str) c3)] (.s (.v .str c4)) [])
    (h7 : SC cfg.P i_spec_trCarets [.s (.v .str c4)] (.s (.v (.int .i64) c5)) [])
    (h8 : c5 > (8 : Int)) :
    SC cfg.P i_spec_TreeOfExponents [.s (.v (.sl (.int .i64)) a0)] (.tup [.v .str (⟨#[]⟩ : ByteArray), .v .bool false]) [] :=
  SC_of_run cfgOK (its := [.bool false, .res (.s (.v .bool true)) [] [] [], .bool false, .res (.s (.v (.sl .str) c2)) [] [] [], .res (.s (.own t_string .str c3)) [] [] [29], .res (.s (.v .str c4)) [] [] [], .res (.s (.v (.int .i64) c5)) [] [] [], .bool true])
    (ps := [decide (((List.length a0 : Nat) : Int) > (9 : Int)) = false,
      SC cfg.P i_spec_l1All [.s (.v (.sl (.int .i64)) a0), .s (.v (.int .i64) (0 : Int)), .s (.v (.int .i64) (8 : Int))] (.s (.v .bool true)) [],
      decide (((List.length a0 : Nat) : Int) > (0 : Int)) = false,
      SC cfg.P i_spec_wdForest [.s (.v (.sl (.int .i64)) a0)] (.s (.v (.sl .str) c2)) [],
      SC cfg.P i_spec_wdShort [.s (.v (.sl .str) c2)] (.s (.own t_string .str c3)) [],
      SC cfg.P i_spec_wdComb [.s (.v (.sl .str) c3)] (.s (.v .str c4)) [],
      SC cfg.P i_spec_trCarets [.s (.v .str c4)] (.s (.v (.int .i64) c5)) [],
      decide (c5 > (8 : Int)) = true]) (by kernel_rfl) ⟨(decide_eq_false h1), h2, (decide_eq_false h3), h4, h5, h6, h7, (decide_eq_true h8), trivial⟩ get_spec_TreeOfExponents (by decide)

theorem spec_TreeOfExponents_p6 (a0 : (List Int)) (c2 : (List ByteArray)) (c3 : (List ByteArray)) (c4 : ByteArray) (c5 : Int)
    (h1 : ¬ (((List.length a0 : Nat) : Int) > (9 : Int)))
    (h2 : SC cfg.P i_spec_l1All [.s (.v (.sl (.int .i64)) a0), .s (.v (.int .i64) (0 : Int)), .s (.v (.int .i64) (8 : Int))] (.s (.v .bool true)) [])
    (h3 : ¬ (((List.length a0 : Nat) : Int) > (0 : Int)))
    (h4 : SC cfg.P i_spec_wdForest [.s (.v (.sl (.int .i64)) a0)] (.s (.v (.sl .str) c2)) [])
    (h5 : SC cfg.P i_spec_wdShort [.s (.v (.sl .str) c2)] (.s (.own t_string .str c3)) [])
    (h6 : SC cfg.P i_spec_wdComb [.s (.v (.sl .str) c3)] (.s (.v .str c4)) [])
    (h7 : SC cfg.P i_spec_trCarets [.s (.v .str c4)] (.s (.v (.int .i64) c5)) [])
    (h8 : ¬ (c5 > (8 : Int))) :
    SC cfg.P i_spec_TreeOfExponents [.s (.v (.sl (.int .i64)) a0)] (.tup [.v .str c4, .v .bool true]) [] :=
  SC_of_run cfgOK (its := [.bool false, .res (.s (.v .bool true)) [] [] [], .bool false, .res (.s (.v (.sl .str) c2)) [] [] [], .res (.s (.own t_string .str c3)) [] [] [29], .res (.s (.v .str c4)) [] [] [], .res (.s (.v (.int .i64) c5)) [] [] [], .bool false])
    (ps := [decide (((List.length a0 : Nat) : Int) > (9 : Int)) = false,
      SC cfg.P i_spec_l1All [.s (.v (.sl (.int .i64)) a0), .s (.v (.int .i64) (0 : Int)), .s (.v (.int .i64) (8 : Int))] (.s (.v .bool true)) [],
      decide (((List.length a0 : Nat) : Int) > (0 : Int)) = false,
      SC cfg.P i_spec_wdForest [.s (.v (.sl (.int .i64)) a0)] (.s (.v (.sl .str) c2)) [],
      SC cfg.P i_spec_wdShort [.s (.v (.sl .str) c2)] (.s (.own t_string .str c3)) [],
      SC cfg.P i_spec_wdComb [.s (.v (.sl .str) c3)] (.s (.v .str c4)) [],
      SC cfg.P i_spec_trCarets [.s (.v .str c4)] (.s (.v (.int .i64) c5)) [],
      decide (c5 > (8 : Int)) = false]) (by kernel_rfl) ⟨(decide_eq_false h1), h2, (decide_eq_false h3), h4, h5, h6, h7, (decide_eq_false h8), trivial⟩ get_spec_TreeOfExponents (by decide)

theorem spec_TreeOfExponents_p7 (a0 : (List Int))
    (h1 : ¬ (((List.length a0 : Nat) : Int) > (9 : Int)))
    (h2 : SC cfg.P i_spec_l1All [.s (.v (.sl (.int .i64)) a0), .s (.v (.int .i64) (0 : Int)), .s (.v (.int .i64) (8 : Int))] (.s (.v .bool false)) []) :
    SC cfg.P i_spec_TreeOfExponents [.s (.v (.sl (.int .i64)) a0)] (.tup [.v .str (⟨#[]⟩ : ByteArray), .v .bool false]) [] :=
  SC_of_run cfgOK (its := [.bool false, .res (.s (.v .bool false)) [] [] []])
    (ps := [decide (((List.length a0 : Nat) : Int) > (9 : Int)) = false,
      SC cfg.P i_spec_l1All [.s (.v (.sl (.int .i64)) a0), .s (.v (.int .i64) (0 : Int)), .s (.v (.int .i64) (8 : Int))] (.s (.v .bool false)) []]) (by kernel_rfl) ⟨(decide_eq_false h1), h2, trivial⟩ get_spec_TreeOfExponents (by decide)

/-! ### impl_isCarets -/


theorem impl_isCarets_p1 (a0 : Int)
    (h1 : a0 ≥ (0 : Int))
    (h2 : a0 ≤ (8 : Int)) :
    SC cfg.P i_impl_isCarets [.s (.v (.int .i64) a0)] (.s (.v .bool true)) [] :=
  SC_of_run cfgOK (its := [.bool true, .bool true])
    (ps := [decide (a0 ≥ (0 : Int)) = true,
      decide (a0 ≤ (8 : Int)) = true]) (by kernel_rfl) ⟨(decide_eq_true h1), (decide_eq_true h2), trivial⟩ get_impl_isCarets (by decide)

/-! ### impl_rightComb -/


def impl_rightComb_L0a (x3 : Tr) (x4 : Int) (x5 : Int) : St := mkSt 12 [(3, .s (.v .tree x3)), (4, .s (.v (.int .i64) x4)), (5, .s (.v (.int .i64) x5))] []

def impl_rightComb_L0X1 (y3 : Tr) (y4 : Int) (y5 : Int) (y6 : Bool) : St := mkSt 12 [(3, .s (.v .tree y3)), (4, .s (.v (.int .i64) y4)), (5, .s (.v (.int .i64) y5)), (6, .s (.v .bool y6))] []

theorem impl_rightComb_L0a_i1 (x3 : Tr) (x4 : Int) (x5 : Int)
    (h1 : x5 < x4)
    {e : AEx} {st : St} (next : LoopSC cfg.P 1 (lb P_impl_rightComb 0) (impl_rightComb_L0a (Tr.node Tr.leaf x3) x4 (IntKind.wrap .i64 (x5 + (1 : Int)))) e st) :
    LoopSC cfg.P 1 (lb P_impl_rightComb 0) (impl_rightComb_L0a x3 x4 x5) e st :=
  loop_iter cfgOK (f := i_impl_rightComb) (its := [.bool true])
    (ps := [decide (x5 < x4) = true]) (st1 := impl_rightComb_L0a (Tr.node Tr.leaf x3) x4 (IntKind.wrap .i64 (x5 + (1 : Int)))) (by kernel_rfl) ⟨(decide_eq_true h1), trivial⟩ next

theorem impl_rightComb_L0a_x2 (x3 : Tr) (x4 : Int) (x5 : Int)
    (h1 : ¬ (x5 < x4)) :
    LoopSC cfg.P 1 (lb P_impl_rightComb 0) (impl_rightComb_L0a x3 x4 x5) (.exit 0) (impl_rightComb_L0X1 x3 x4 x5 false) :=
  loop_out cfgOK (f := i_impl_rightComb) (its := [.bool false])
    (ps := [decide (x5 < x4) = false]) (by kernel_rfl) ⟨(decide_eq_false h1), trivial⟩ (fun h => by cases h)

theorem impl_rightComb_p1 (a0 : Int) (k1y3 : Tr) (k1y4 : Int) (k1y5 : Int) (k1y6 : Bool)
    (h1 : LoopSC cfg.P 1 (lb P_impl_rightComb 0) (impl_rightComb_L0a Tr.leaf a0 (0 : Int)) (.exit 0) (impl_rightComb_L0X1 k1y3 k1y4 k1y5 k1y6)) :
    SC cfg.P i_impl_rightComb [.s (.v (.int .i64) a0)] (.s (.v .tree k1y3)) [] :=
  SC_of_run cfgOK (its := [.loop (fun _ => (.exit 0, impl_rightComb_L0X1 k1y3 k1y4 k1y5 k1y6))])
    (ps := [LoopSC cfg.P 1 (lb P_impl_rightComb 0) (impl_rightComb_L0a Tr.leaf a0 (0 : Int)) (.exit 0) (impl_rightComb_L0X1 k1y3 k1y4 k1y5 k1y6)]) (by kernel_rfl) ⟨h1, trivial⟩ get_impl_rightComb (by decide)

/-! ### impl_node_exponents -/


def impl_node_exponents_L0a (x0 : Tr) (xo3 : (List Int)) : St := mkSt 20 [(0, .s (.v .tree x0)), (3, .s (.osl 3 0))] [(3, .row t_int (.int .i64) xo3 0 false)]

def impl_node_exponents_L0X1 (y0 : Tr) (y5 : Bool) (yo3 : (List Int)) : St := mkSt 20 [(0, .s (.v .tree y0)), (3, .s (.osl 3 0)), (5, .s (.v .bool y5))] [(3, .row t_int (.int .i64) yo3 0 false)]

theorem impl_node_exponents_L0a_x1 (xo3 : (List Int))
     :
    LoopSC cfg.P 1 (lb P_impl_node_exponents 0) (impl_node_exponents_L0a Tr.leaf xo3) (.exit 0) (impl_node_exponents_L0X1 Tr.leaf false xo3) :=
  loop_out cfgOK (f := i_impl_node_exponents) (its := [.bool false])
    (ps := [(!Tr.leaf.isLeaf) = false]) (by kernel_rfl) ⟨rfl, trivial⟩ (fun h => by cases h)

theorem impl_node_exponents_L0a_i2 (x0l : Tr) (x0r : Tr) (xo3 : (List Int)) (dc1 : (List Int))
    (h1 : SC cfg.P i_impl_node_climbs [.s (.v .tree x0l), .s (.v (.int .i64) (0 : Int))] (.s (.own t_int (.int .i64) dc1)) [])
    (h2 : sizeOK (List.length xo3 + List.length dc1))
    {e : AEx} {st : St} (next : LoopSC cfg.P 1 (lb P_impl_node_exponents 0) (impl_node_exponents_L0a x0r (xo3 ++ dc1)) e st) :
    LoopSC cfg.P 1 (lb P_impl_node_exponents 0) (impl_node_exponents_L0a (Tr.node x0l x0r) xo3) e st :=
  loop_iter cfgOK (f := i_impl_node_exponents) (its := [.bool true, .res (.s (.own t_int (.int .i64) dc1)) [] [] [15]])
    (ps := [(!(Tr.node x0l x0r).isLeaf) = true,
      SC cfg.P i_impl_node_climbs [.s (.v .tree x0l), .s (.v (.int .i64) (0 : Int))] (.s (.own t_int (.int .i64) dc1)) [],
      sizeOK (List.length xo3 + List.length dc1)]) (st1 := impl_node_exponents_L0a x0r (xo3 ++ dc1)) (by kernel_rfl) ⟨rfl, h1, h2, trivial⟩ next

theorem impl_node_exponents_p1 (a0 : Tr) (k1y0 : Tr) (k1y5 : Bool) (k1yo3 : (List Int))
    (h1 : LoopSC cfg.P 1 (lb P_impl_node_exponents 0) (impl_node_exponents_L0a a0 ([] : List Int)) (.exit 0) (impl_node_exponents_L0X1 k1y0 k1y5 k1yo3))
    (h2 : sizeOK (List.length k1yo3 + List.length ([(0 : Int)] : List Int))) :
    SC cfg.P i_impl_node_exponents [.s (.v .tree a0)] (.s (.own t_int (.int .i64) (k1yo3 ++ ([(0 : Int)] : List Int)))) [] :=
  SC_of_run cfgOK (its := [.loop (fun _ => (.exit 0, impl_node_exponents_L0X1 k1y0 k1y5 k1yo3))])
    (ps := [LoopSC cfg.P 1 (lb P_impl_node_exponents 0) (impl_node_exponents_L0a a0 ([] : List Int)) (.exit 0) (impl_node_exponents_L0X1 k1y0 k1y5 k1yo3),
      sizeOK (List.length k1yo3 + List.length ([(0 : Int)] : List Int))]) (by kernel_rfl) ⟨h1, h2, trivial⟩ get_impl_node_exponents (by decide)

/-! ### spec_wdRight -/


theorem spec_wdRight_p1 (a0 : ByteArray)
    (h1 : SC cfg.P i_spec_trLeaf [.s (.v .str a0)] (.s (.v .bool true)) []) :
    SC cfg.P i_spec_wdRight [.s (.v .str a0)] (.s (.own t_int (.int .i64) ([(0 : Int)] : List Int))) [] :=
  SC_of_run cfgOK (its := [.res (.s (.v .bool true)) [] [] []])
    (ps := [SC cfg.P i_spec_trLeaf [.s (.v .str a0)] (.s (.v .bool true)) []]) (by kernel_rfl) ⟨h1, trivial⟩ get_spec_wdRight (by decide)

theorem spec_wdRight_p2 (a0 : ByteArray) (c2a : ByteArray) (c2b : ByteArray) (c3 : (List Int)) (c4 : (List Int))
    (h1 : SC cfg.P i_spec_trLeaf [.s (.v .str a0)] (.s (.v .bool false)) [])
    (h2 : SC cfg.P i_spec_trSides [.s (.v .str a0)] (.tup [.v .str c2a, .v .str c2b]) [])
    (h3 : SC cfg.P i_spec_wdExponents [.s (.v .str c2a), .s (.v (.int .i64) (0 : Int))] (.s (.own t_int (.int .i64) c3)) [])
    (h4 : SC cfg.P i_spec_wdRight [.s (.v .str c2b)] (.s (.own t_int (.int .i64) c4)) [])
    (h5 : sizeOK (List.length c3 + List.length c4)) :
    SC cfg.P i_spec_wdRight [.s (.v .str a0)] (.s (.own t_int (.int .i64) (c3 ++ c4))) [] :=
  SC_of_run cfgOK (its := [.res (.s (.v .bool false)) [] [] [], .res (.tup [.v .str c2a, .v .str c2b]) [] [] [], .res (.s (.own t_int (.int .i64) c3)) [] [] [14], .res (.s (.own t_int (.int .i64) c4)) [] [] [16]])
    (ps := [SC cfg.P i_spec_trLeaf [.s (.v .str a0)] (.s (.v .bool false)) [],
      SC cfg.P i_spec_trSides [.s (.v .str a0)] (.tup [.v .str c2a, .v .str c2b]) [],
      SC cfg.P i_spec_wdExponents [.s (.v .str c2a), .s (.v (.int .i64) (0 : Int))] (.s (.own t_int (.int .i64) c3)) [],
      SC cfg.P i_spec_wdRight [.s (.v .str c2b)] (.s (.own t_int (.int .i64) c4)) [],
      sizeOK (List.length c3 + List.length c4)]) (by kernel_rfl) ⟨h1, h2, h3, h4, h5, trivial⟩ get_spec_wdRight (by decide)

/-! ### impl_madeWord -/


/-! ### impl_wordOfPair -/


theorem impl_wordOfPair_p1 (a0 : (Tr × Tr)) (c1 : (List Int)) (c2 : (List Int)) (c3 : (List Int)) (c4 : (List Int)) (c5 : (List Int))
    (h1 : SC cfg.P i_impl_node_exponents [.s (.v .tree a0.1)] (.s (.v (.sl (.int .i64)) c1)) [])
    (h2 : SC cfg.P i_impl_wordOf [.s (.v (.sl (.int .i64)) c1)] (.s (.own t_int (.int .i64) c2)) [])
    (h3 : SC cfg.P i_impl_node_exponents [.s (.v .tree a0.2)] (.s (.v (.sl (.int .i64)) c3)) [])
    (h4 : SC cfg.P i_impl_wordOf [.s (.v (.sl (.int .i64)) c3)] (.s (.own t_int (.int .i64) c4)) [])
    (h5 : SC cfg.P i_impl_inverseOf [.s (.v (.sl (.int .i64)) c4)] (.s (.v (.sl (.int .i64)) c5)) [])
    (h6 : sizeOK (List.length c2 + List.length c5)) :
    SC cfg.P i_impl_wordOfPair [.s (.v (.pr .tree .tree) a0)] (.s (.own t_int (.int .i64) (c2 ++ c5))) [] :=
  SC_of_run cfgOK (its := [.res (.s (.v (.sl (.int .i64)) c1)) [] [] [], .res (.s (.own t_int (.int .i64) c2)) [] [] [6], .res (.s (.v (.sl (.int .i64)) c3)) [] [] [], .res (.s (.own t_int (.int .i64) c4)) [] [] [10], .res (.s (.v (.sl (.int .i64)) c5)) [] [] []])
    (ps := [SC cfg.P i_impl_node_exponents [.s (.v .tree a0.1)] (.s (.v (.sl (.int .i64)) c1)) [],
      SC cfg.P i_impl_wordOf [.s (.v (.sl (.int .i64)) c1)] (.s (.own t_int (.int .i64) c2)) [],
      SC cfg.P i_impl_node_exponents [.s (.v .tree a0.2)] (.s (.v (.sl (.int .i64)) c3)) [],
      SC cfg.P i_impl_wordOf [.s (.v (.sl (.int .i64)) c3)] (.s (.own t_int (.int .i64) c4)) [],
      SC cfg.P i_impl_inverseOf [.s (.v (.sl (.int .i64)) c4)] (.s (.v (.sl (.int .i64)) c5)) [],
      sizeOK (List.length c2 + List.length c5)]) (by kernel_rfl) ⟨h1, h2, h3, h4, h5, h6, trivial⟩ get_impl_wordOfPair (by decide)

/-! ### spec_l1Own -/


theorem spec_l1Own_p1 (a0 : (List Int))
    (h1 : sizeOK (List.length ([] : List Int) + List.length a0)) :
    SC cfg.P i_spec_l1Own [.s (.v (.sl (.int .i64)) a0)] (.s (.own t_int (.int .i64) (([] : List Int) ++ a0))) [] :=
  SC_of_run cfgOK (its := [])
    (ps := [sizeOK (List.length ([] : List Int) + List.length a0)]) (by kernel_rfl) ⟨h1, trivial⟩ get_spec_l1Own (by decide)

/-! ### impl_forest_split -/


theorem impl_forest_split_p1 (a0 : (List Tr)) (a1 : Int) (c1 : (List Tr))
    (h1 : 0 ≤ (IntKind.wrap .i64 (a1 + (1 : Int))))
    (h2 : (IntKind.wrap .i64 (a1 + (1 : Int))) ≤ (lim : Int))
    (h3 : (IntKind.wrap .i64 (a1 + (1 : Int))) = (IntKind.wrap .i64 (a1 + (1 : Int))))
    (h4 : 0 ≤ a1)
    (h5 : a1 < (List.length (List.replicate ((IntKind.wrap .i64 (a1 + (1 : Int)))).toNat Tr.leaf) : Int))
    (h6 : (a1).toNat < List.length (List.replicate ((IntKind.wrap .i64 (a1 + (1 : Int)))).toNat Tr.leaf))
    (h7 : SC cfg.P i_impl_forest_stack [.s (.v (.sl .tree) a0), .s (.v (.sl .tree) (List.set (List.replicate ((IntKind.wrap .i64 (a1 + (1 : Int)))).toNat Tr.leaf) (a1).toNat (Tr.node Tr.leaf Tr.leaf)))] (.s (.own t_pimpl_node .tree c1)) []) :
    SC cfg.P i_impl_forest_split [.s (.v (.sl .tree) a0), .s (.v (.int .i64) a1)] (.s (.own t_pimpl_node .tree c1)) [] :=
  SC_of_run cfgOK (its := [.res (.s (.own t_pimpl_node .tree c1)) [] [] [16]])
    (ps := [0 ≤ (IntKind.wrap .i64 (a1 + (1 : Int))),
      (IntKind.wrap .i64 (a1 + (1 : Int))) ≤ (lim : Int),
      (IntKind.wrap .i64 (a1 + (1 : Int))) = (IntKind.wrap .i64 (a1 + (1 : Int))),
      0 ≤ a1,
      a1 < (List.length (List.replicate ((IntKind.wrap .i64 (a1 + (1 : Int)))).toNat Tr.leaf) : Int),
      (a1).toNat < List.length (List.replicate ((IntKind.wrap .i64 (a1 + (1 : Int)))).toNat Tr.leaf),
      SC cfg.P i_impl_forest_stack [.s (.v (.sl .tree) a0), .s (.v (.sl .tree) (List.set (List.replicate ((IntKind.wrap .i64 (a1 + (1 : Int)))).toNat Tr.leaf) (a1).toNat (Tr.node Tr.leaf Tr.leaf)))] (.s (.own t_pimpl_node .tree c1)) []]) (by kernel_rfl) ⟨h1, h2, h3, h4, h5, h6, h7, trivial⟩ get_impl_forest_split (by decide)

/-! ### impl_forest_hung -/


theorem impl_forest_hung_p1 (a0 : (List Tr)) (c1 : (List Tr)) (c2 : Tr) (c3 : Tr)
    (h1 : SC cfg.P i_impl_forest_trimmed [.s (.v (.sl .tree) a0)] (.s (.v (.sl .tree) c1)) [])
    (h2 : SC cfg.P i_impl_rightComb [.s (.v (.int .i64) ((List.length c1 : Nat) : Int))] (.s (.v .tree c2)) [])
    (h3 : SC cfg.P i_impl_node_grown [.s (.v .tree c2), .s (.v (.int .i64) (0 : Int)), .fn i_impl_forest_tree [.v (.sl .tree) c1] []] (.s (.v .tree c3)) []) :
    SC cfg.P i_impl_forest_hung [.s (.v (.sl .tree) a0)] (.s (.v .tree c3)) [] :=
  SC_of_run cfgOK (its := [.res (.s (.v (.sl .tree) c1)) [] [] [], .res (.s (.v .tree c2)) [] [] [], .res (.s (.v .tree c3)) [] [] []])
    (ps := [SC cfg.P i_impl_forest_trimmed [.s (.v (.sl .tree) a0)] (.s (.v (.sl .tree) c1)) [],
      SC cfg.P i_impl_rightComb [.s (.v (.int .i64) ((List.length c1 : Nat) : Int))] (.s (.v .tree c2)) [],
      SC cfg.P i_impl_node_grown [.s (.v .tree c2), .s (.v (.int .i64) (0 : Int)), .fn i_impl_forest_tree [.v (.sl .tree) c1] []] (.s (.v .tree c3)) []]) (by kernel_rfl) ⟨h1, h2, h3, trivial⟩ get_impl_forest_hung (by decide)

/-! ### spec_l1All -/


def spec_l1All_L0a (x1 : Int) (x2 : Int) (x9 : (List Int)) (x10 : Int) (x11 : Int) : St := mkSt 21 [(1, .s (.v (.int .i64) x1)), (2, .s (.v (.int .i64) x2)), (9, .s (.v (.sl (.int .i64)) x9)), (10, .s (.v (.int .i64) x10)), (11, .s (.v (.int .i64) x11))] []

def spec_l1All_L0X1 (y6 : Bool) : St := mkSt 21 [(6, .s (.v .bool y6))] []

def spec_l1All_L0X2 (y1 : Int) (y2 : Int) (y9 : (List Int)) (y10 : Int) (y11 : Int) (y12 : Bool) : St := mkSt 21 [(1, .s (.v (.int .i64) y1)), (2, .s (.v (.int .i64) y2)), (9, .s (.v (.sl (.int .i64)) y9)), (10, .s (.v (.int .i64) y10)), (11, .s (.v (.int .i64) y11)), (12, .s (.v .bool y12))] []

theorem spec_l1All_L0a_i1 (x1 : Int) (x2 : Int) (x9 : (List Int)) (x10 : Int) (x11 : Int)
    (h1 : x11 < x10)
    (h2 : 0 ≤ x11)
    (h3 : x11 < (List.length x9 : Int))
    (h4 : SC cfg.P i_spec_l1In [.s (.v (.int .i64) (List.getD x9 (x11).toNat (0 : Int))), .s (.v (.int .i64) x1), .s (.v (.int .i64) x2)] (.s (.v .bool true)) [])
    {e : AEx} {st : St} (next : LoopSC cfg.P 3 (lb P_spec_l1All 0) (spec_l1All_L0a x1 x2 x9 x10 (IntKind.wrap .i64 (x11 + (1 : Int)))) e st) :
    LoopSC cfg.P 3 (lb P_spec_l1All 0) (spec_l1All_L0a x1 x2 x9 x10 x11) e st :=
  loop_iter cfgOK (f := i_spec_l1All) (its := [.bool true, .res (.s (.v .bool true)) [] [] []])
    (ps := [decide (x11 < x10) = true,
      0 ≤ x11,
      x11 < (List.length x9 : Int),
      SC cfg.P i_spec_l1In [.s (.v (.int .i64) (List.getD x9 (x11).toNat (0 : Int))), .s (.v (.int .i64) x1), .s (.v (.int .i64) x2)] (.s (.v .bool true)) []]) (st1 := spec_l1All_L0a x1 x2 x9 x10 (IntKind.wrap .i64 (x11 + (1 : Int)))) (by kernel_rfl) ⟨(decide_eq_true h1), h2, h3, h4, trivial⟩ next

theorem spec_l1All_L0a_x2 (x1 : Int) (x2 : Int) (x9 : (List Int)) (x10 : Int) (x11 : Int)
    (h1 : x11 < x10)
    (h2 : 0 ≤ x11)
    (h3 : x11 < (List.length x9 : Int))
    (h4 : SC cfg.P i_spec_l1In [.s (.v (.int .i64) (List.getD x9 (x11).toNat (0 : Int))), .s (.v (.int .i64) x1), .s (.v (.int .i64) x2)] (.s (.v .bool false)) []) :
    LoopSC cfg.P 3 (lb P_spec_l1All 0) (spec_l1All_L0a x1 x2 x9 x10 x11) (.ret) (spec_l1All_L0X1 false) :=
  loop_out cfgOK (f := i_spec_l1All) (its := [.bool true, .res (.s (.v .bool false)) [] [] []])
    (ps := [decide (x11 < x10) = true,
      0 ≤ x11,
      x11 < (List.length x9 : Int),
      SC cfg.P i_spec_l1In [.s (.v (.int .i64) (List.getD x9 (x11).toNat (0 : Int))), .s (.v (.int .i64) x1), .s (.v (.int .i64) x2)] (.s (.v .bool false)) []]) (by kernel_rfl) ⟨(decide_eq_true h1), h2, h3, h4, trivial⟩ (fun h => by cases h)

theorem spec_l1All_L0a_x3 (x1 : Int) (x2 : Int) (x9 : (List Int)) (x10 : Int) (x11 : Int)
    (h1 : ¬ (x11 < x10)) :
    LoopSC cfg.P 3 (lb P_spec_l1All 0) (spec_l1All_L0a x1 x2 x9 x10 x11) (.exit 0) (spec_l1All_L0X2 x1 x2 x9 x10 x11 false) :=
  loop_out cfgOK (f := i_spec_l1All) (its := [.bool false])
    (ps := [decide (x11 < x10) = false]) (by kernel_rfl) ⟨(decide_eq_false h1), trivial⟩ (fun h => by cases h)

theorem spec_l1All_p1 (a0 : (List Int)) (a1 : Int) (a2 : Int) (k1y6 : Bool)
    (h1 : LoopSC cfg.P 3 (lb P_spec_l1All 0) (spec_l1All_L0a a1 a2 a0 ((List.length a0 : Nat) : Int) (0 : Int)) (.ret) (spec_l1All_L0X1 k1y6)) :
    SC cfg.P i_spec_l1All [.s (.v (.sl (.int .i64)) a0), .s (.v (.int .i64) a1), .s (.v (.int .i64) a2)] (.s (.v .bool k1y6)) [] :=
  SC_of_run cfgOK (its := [.loop (fun _ => (.ret, spec_l1All_L0X1 k1y6))])
    (ps := [LoopSC cfg.P 3 (lb P_spec_l1All 0) (spec_l1All_L0a a1 a2 a0 ((List.length a0 : Nat) : Int) (0 : Int)) (.ret) (spec_l1All_L0X1 k1y6)]) (by kernel_rfl) ⟨h1, trivial⟩ get_spec_l1All (by decide)

theorem spec_l1All_p2 (a0 : (List Int)) (a1 : Int) (a2 : Int) (k1y1 : Int) (k1y2 : Int) (k1y9 : (List Int)) (k1y10 : Int) (k1y11 : Int) (k1y12 : Bool)
    (h1 : LoopSC cfg.P 3 (lb P_spec_l1All 0) (spec_l1All_L0a a1 a2 a0 ((List.length a0 : Nat) : Int) (0 : Int)) (.exit 0) (spec_l1All_L0X2 k1y1 k1y2 k1y9 k1y10 k1y11 k1y12)) :
    SC cfg.P i_spec_l1All [.s (.v (.sl (.int .i64)) a0), .s (.v (.int .i64) a1), .s (.v (.int .i64) a2)] (.s (.v .bool true)) [] :=
  SC_of_run cfgOK (its := [.loop (fun _ => (.exit 0, spec_l1All_L0X2 k1y1 k1y2 k1y9 k1y10 k1y11 k1y12))])
    (ps := [LoopSC cfg.P 3 (lb P_spec_l1All 0) (spec_l1All_L0a a1 a2 a0 ((List.length a0 : Nat) : Int) (0 : Int)) (.exit 0) (spec_l1All_L0X2 k1y1 k1y2 k1y9 k1y10 k1y11 k1y12)]) (by kernel_rfl) ⟨h1, trivial⟩ get_spec_l1All (by decide)

/-! ### spec_wdComb -/


def spec_wdComb_L0a (x0 : (List ByteArray)) (x3 : ByteArray) (x4 : Int) : St := mkSt 19 [(0, .s (.v (.sl .str) x0)), (3, .s (.v .str x3)), (4, .s (.v (.int .i64) x4))] []

def spec_wdComb_L0X1 (y0 : (List ByteArray)) (y3 : ByteArray) (y4 : Int) (y9 : Bool) : St := mkSt 19 [(0, .s (.v (.sl .str) y0)), (3, .s (.v .str y3)), (4, .s (.v (.int .i64) y4)), (9, .s (.v .bool y9))] []

theorem spec_wdComb_L0a_i1 (x0 : (List ByteArray)) (x3 : ByteArray) (x4 : Int) (dc1 : ByteArray)
    (h1 : x4 ≥ (0 : Int))
    (h2 : 0 ≤ x4)
    (h3 : x4 < (List.length x0 : Int))
    (h4 : SC cfg.P i_spec_trOf [.s (.v .str (List.getD x0 (x4).toNat (⟨#[]⟩ : ByteArray))), .s (.v .str x3)] (.s (.v .str dc1)) [])
    {e : AEx} {st : St} (next : LoopSC cfg.P 1 (lb P_spec_wdComb 0) (spec_wdComb_L0a x0 dc1 (IntKind.wrap .i64 (x4 - (1 : Int)))) e st) :
    LoopSC cfg.P 1 (lb P_spec_wdComb 0) (spec_wdComb_L0a x0 x3 x4) e st :=
  loop_iter cfgOK (f := i_spec_wdComb) (its := [.bool true, .res (.s (.v .str dc1)) [] [] []])
    (ps := [decide (x4 ≥ (0 : Int)) = true,
      0 ≤ x4,
      x4 < (List.length x0 : Int),
      SC cfg.P i_spec_trOf [.s (.v .str (List.getD x0 (x4).toNat (⟨#[]⟩ : ByteArray))), .s (.v .str x3)] (.s (.v .str dc1)) []]) (st1 := spec_wdComb_L0a x0 dc1 (IntKind.wrap .i64 (x4 - (1 : Int)))) (by kernel_rfl) ⟨(decide_eq_true h1), h2, h3, h4, trivial⟩ next

theorem spec_wdComb_L0a_x2 (x0 : (List ByteArray)) (x3 : ByteArray) (x4 : Int)
    (h1 : ¬ (x4 ≥ (0 : Int))) :
    LoopSC cfg.P 1 (lb P_spec_wdComb 0) (spec_wdComb_L0a x0 x3 x4) (.exit 0) (spec_wdComb_L0X1 x0 x3 x4 false) :=
  loop_out cfgOK (f := i_spec_wdComb) (its := [.bool false])
    (ps := [decide (x4 ≥ (0 : Int)) = false]) (by kernel_rfl) ⟨(decide_eq_false h1), trivial⟩ (fun h => by cases h)

theorem spec_wdComb_p1 (a0 : (List ByteArray)) (k1y0 : (List ByteArray)) (k1y3 : ByteArray) (k1y4 : Int) (k1y9 : Bool)
    (h1 : LoopSC cfg.P 1 (lb P_spec_wdComb 0) (spec_wdComb_L0a a0 (⟨#[46]⟩ : ByteArray) (IntKind.wrap .i64 (((List.length a0 : Nat) : Int) - (1 : Int)))) (.exit 0) (spec_wdComb_L0X1 k1y0 k1y3 k1y4 k1y9)) :
    SC cfg.P i_spec_wdComb [.s (.v (.sl .str) a0)] (.s (.v .str k1y3)) [] :=
  SC_of_run cfgOK (its := [.loop (fun _ => (.exit 0, spec_wdComb_L0X1 k1y0 k1y3 k1y4 k1y9))])
    (ps := [LoopSC cfg.P 1 (lb P_spec_wdComb 0) (spec_wdComb_L0a a0 (⟨#[46]⟩ : ByteArray) (IntKind.wrap .i64 (((List.length a0 : Nat) : Int) - (1 : Int)))) (.exit 0) (spec_wdComb_L0X1 k1y0 k1y3 k1y4 k1y9)]) (by kernel_rfl) ⟨h1, trivial⟩ get_spec_wdComb (by decide)

/-! ### spec_wdShort -/


def spec_wdShort_L0a (x0 : (List ByteArray)) (x3 : Int) : St := mkSt 23 [(0, .s (.v (.sl .str) x0)), (3, .s (.v (.int .i64) x3))] []

def spec_wdShort_L0X1 (y0 : (List ByteArray)) (y3 : Int) (y15 : Bool) : St := mkSt 23 [(0, .s (.v (.sl .str) y0)), (3, .s (.v (.int .i64) y3)), (15, .s (.v .bool y15))] []

theorem spec_wdShort_L0a_i1 (x0 : (List ByteArray)) (x3 : Int)
    (h1 : x3 > (0 : Int))
    (h2 : 0 ≤ (IntKind.wrap .i64 (x3 - (1 : Int))))
    (h3 : (IntKind.wrap .i64 (x3 - (1 : Int))) < (List.length x0 : Int))
    (h4 : SC cfg.P i_spec_trLeaf [.s (.v .str (List.getD x0 ((IntKind.wrap .i64 (x3 - (1 : Int)))).toNat (⟨#[]⟩ : ByteArray)))] (.s (.v .bool true)) [])
    {e : AEx} {st : St} (next : LoopSC cfg.P 1 (lb P_spec_wdShort 0) (spec_wdShort_L0a x0 (IntKind.wrap .i64 (x3 - (1 : Int)))) e st) :
    LoopSC cfg.P 1 (lb P_spec_wdShort 0) (spec_wdShort_L0a x0 x3) e st :=
  loop_iter cfgOK (f := i_spec_wdShort) (its := [.bool true, .res (.s (.v .bool true)) [] [] []])
    (ps := [decide (x3 > (0 : Int)) = true,
      0 ≤ (IntKind.wrap .i64 (x3 - (1 : Int))),
      (IntKind.wrap .i64 (x3 - (1 : Int))) < (List.length x0 : Int),
      SC cfg.P i_spec_trLeaf [.s (.v .str (List.getD x0 ((IntKind.wrap .i64 (x3 - (1 : Int)))).toNat (⟨#[]⟩ : ByteArray)))] (.s (.v .bool true)) []]) (st1 := spec_wdShort_L0a x0 (IntKind.wrap .i64 (x3 - (1 : Int)))) (by kernel_rfl) ⟨(decide_eq_true h1), h2, h3, h4, trivial⟩ next

theorem spec_wdShort_L0a_x2 (x0 : (List ByteArray)) (x3 : Int)
    (h1 : x3 > (0 : Int))
    (h2 : 0 ≤ (IntKind.wrap .i64 (x3 - (1 : Int))))
    (h3 : (IntKind.wrap .i64 (x3 - (1 : Int))) < (List.length x0 : Int))
    (h4 : SC cfg.P i_spec_trLeaf [.s (.v .str (List.getD x0 ((IntKind.wrap .i64 (x3 - (1 : Int)))).toNat (⟨#[]⟩ : ByteArray)))] (.s (.v .bool false)) []) :
    LoopSC cfg.P 1 (lb P_spec_wdShort 0) (spec_wdShort_L0a x0 x3) (.exit 0) (spec_wdShort_L0X1 x0 x3 false) :=
  loop_out cfgOK (f := i_spec_wdShort) (its := [.bool true, .res (.s (.v .bool false)) [] [] []])
    (ps := [decide (x3 > (0 : Int)) = true,
      0 ≤ (IntKind.wrap .i64 (x3 - (1 : Int))),
      (IntKind.wrap .i64 (x3 - (1 : Int))) < (List.length x0 : Int),
      SC cfg.P i_spec_trLeaf [.s (.v .str (List.getD x0 ((IntKind.wrap .i64 (x3 - (1 : Int)))).toNat (⟨#[]⟩ : ByteArray)))] (.s (.v .bool false)) []]) (by kernel_rfl) ⟨(decide_eq_true h1), h2, h3, h4, trivial⟩ (fun h => by cases h)

theorem spec_wdShort_L0a_x3 (x0 : (List ByteArray)) (x3 : Int)
    (h1 : ¬ (x3 > (0 : Int))) :
    LoopSC cfg.P 1 (lb P_spec_wdShort 0) (spec_wdShort_L0a x0 x3) (.exit 0) (spec_wdShort_L0X1 x0 x3 false) :=
  loop_out cfgOK (f := i_spec_wdShort) (its := [.bool false])
    (ps := [decide (x3 > (0 : Int)) = false]) (by kernel_rfl) ⟨(decide_eq_false h1), trivial⟩ (fun h => by cases h)

theorem spec_wdShort_p1 (a0 : (List ByteArray)) (k1y0 : (List ByteArray)) (k1y3 : Int) (k1y15 : Bool)
    (h1 : LoopSC cfg.P 1 (lb P_spec_wdShort 0) (spec_wdShort_L0a a0 ((List.length a0 : Nat) : Int)) (.exit 0) (spec_wdShort_L0X1 k1y0 k1y3 k1y15))
    (h2 : 0 ≤ k1y3)
    (h3 : k1y3 ≤ (List.length k1y0 : Int))
    (h4 : sizeOK (List.length ([] : List ByteArray) + List.length (cutL k1y0 (0 : Int) k1y3))) :
    SC cfg.P i_spec_wdShort [.s (.v (.sl .str) a0)] (.s (.own t_string .str (([] : List ByteArray) ++ (cutL k1y0 (0 : Int) k1y3)))) [] :=
  SC_of_run cfgOK (its := [.loop (fun _ => (.exit 0, spec_wdShort_L0X1 k1y0 k1y3 k1y15))])
    (ps := [LoopSC cfg.P 1 (lb P_spec_wdShort 0) (spec_wdShort_L0a a0 ((List.length a0 : Nat) : Int)) (.exit 0) (spec_wdShort_L0X1 k1y0 k1y3 k1y15),
      0 ≤ k1y3,
      k1y3 ≤ (List.length k1y0 : Int),
      sizeOK (List.length ([] : List ByteArray) + List.length (cutL k1y0 (0 : Int) k1y3))]) (by kernel_rfl) ⟨h1, h2, h3, h4, trivial⟩ get_spec_wdShort (by decide)

/-! ### spec_wdForest -/


def spec_wdForest_L0a (x0 : (List Int)) (x4 : Int) (x15 : (List Int)) (x16 : Int) (x17 : Int) (xo3 : (List ByteArray)) : St := mkSt 73 [(0, .s (.v (.sl (.int .i64)) x0)), (3, .s (.osl 3 0)), (4, .s (.v (.int .i64) x4)), (15, .s (.v (.sl (.int .i64)) x15)), (16, .s (.v (.int .i64) x16)), (17, .s (.v (.int .i64) x17))] [(3, .row t_string .str xo3 0 false)]

def spec_wdForest_L0X1 (y0 : (List Int)) (y4 : Int) (y15 : (List Int)) (y16 : Int) (y17 : Int) (y18 : Bool) (yo3 : (List ByteArray)) : St := mkSt 73 [(0, .s (.v (.sl (.int .i64)) y0)), (3, .s (.osl 3 0)), (4, .s (.v (.int .i64) y4)), (15, .s (.v (.sl (.int .i64)) y15)), (16, .s (.v (.int .i64) y16)), (17, .s (.v (.int .i64) y17)), (18, .s (.v .bool y18))] [(3, .row t_string .str yo3 0 false)]

def spec_wdForest_L1a (x0 : (List Int)) (x4 : Int) (x7 : Int) (xo3 : (List ByteArray)) : St := mkSt 73 [(0, .s (.v (.sl (.int .i64)) x0)), (3, .s (.osl 3 0)), (4, .s (.v (.int .i64) x4)), (7, .s (.v (.int .i64) x7))] [(3, .row t_string .str xo3 0 false)]

def spec_wdForest_L1X1 (y0 : (List Int)) (y4 : Int) (y7 : Int) (y27 : Bool) (yo3 : (List ByteArray)) : St := mkSt 73 [(0, .s (.v (.sl (.int .i64)) y0)), (3, .s (.osl 3 0)), (4, .s (.v (.int .i64) y4)), (7, .s (.v (.int .i64) y7)), (27, .s (.v .bool y27))] [(3, .row t_string .str yo3 0 false)]

def spec_wdForest_L2a (x0 : (List Int)) (x3 : (List ByteArray)) (x8 : Int) : St := mkSt 73 [(0, .s (.v (.sl (.int .i64)) x0)), (3, .s (.v (.sl .str) x3)), (8, .s (.v (.int .i64) x8))] []

def spec_wdForest_L3a (x0 : (List Int)) (x3 : (List ByteArray)) (x8 : Int) (x9 : Int) : St := mkSt 73 [(0, .s (.v (.sl (.int .i64)) x0)), (3, .s (.v (.sl .str) x3)), (8, .s (.v (.int .i64) x8)), (9, .s (.v (.int .i64) x9))] []

def spec_wdForest_L3X1 (y0 : (List Int)) (y3 : (List ByteArray)) (y8 : Int) (y9 : Int) (y45 : Bool) : St := mkSt 73 [(0, .s (.v (.sl (.int .i64)) y0)), (3, .s (.v (.sl .str) y3)), (8, .s (.v (.int .i64) y8)), (9, .s (.v (.int .i64) y9)), (45, .s (.v .bool y45))] []

def spec_wdForest_L2X1 (y0 : (List Int)) (y3 : (List ByteArray)) (y8 : Int) (y37 : Bool) : St := mkSt 73 [(0, .s (.v (.sl (.int .i64)) y0)), (3, .s (.v (.sl .str) y3)), (8, .s (.v (.int .i64) y8)), (37, .s (.v .bool y37))] []

theorem spec_wdForest_L0a_i1 (x0 : (List Int)) (x4 : Int) (x15 : (List Int)) (x16 : Int) (x17 : Int) (xo3 : (List ByteArray))
    (h1 : x17 < x16)
    (h2 : 0 ≤ x17)
    (h3 : x17 < (List.length x15 : Int))
    {e : AEx} {st : St} (next : LoopSC cfg.P 1 (lb P_spec_wdForest 0) (spec_wdForest_L0a x0 (IntKind.wrap .i64 (x4 + (List.getD x15 (x17).toNat (0 : Int)))) x15 x16 (IntKind.wrap .i64 (x17 + (1 : Int))) xo3) e st) :
    LoopSC cfg.P 1 (lb P_spec_wdForest 0) (spec_wdForest_L0a x0 x4 x15 x16 x17 xo3) e st :=
  loop_iter cfgOK (f := i_spec_wdForest) (its := [.bool true])
    (ps := [decide (x17 < x16) = true,
      0 ≤ x17,
      x17 < (List.length x15 : Int)]) (st1 := spec_wdForest_L0a x0 (IntKind.wrap .i64 (x4 + (List.getD x15 (x17).toNat (0 : Int)))) x15 x16 (IntKind.wrap .i64 (x17 + (1 : Int))) xo3) (by kernel_rfl) ⟨(decide_eq_true h1), h2, h3, trivial⟩ next

theorem spec_wdForest_L0a_x2 (x0 : (List Int)) (x4 : Int) (x15 : (List Int)) (x16 : Int) (x17 : Int) (xo3 : (List ByteArray))
    (h1 : ¬ (x17 < x16)) :
    LoopSC cfg.P 1 (lb P_spec_wdForest 0) (spec_wdForest_L0a x0 x4 x15 x16 x17 xo3) (.exit 0) (spec_wdForest_L0X1 x0 x4 x15 x16 x17 false xo3) :=
  loop_out cfgOK (f := i_spec_wdForest) (its := [.bool false])
    (ps := [decide (x17 < x16) = false]) (by kernel_rfl) ⟨(decide_eq_false h1), trivial⟩ (fun h => by cases h)

theorem spec_wdForest_L1a_i1 (x0 : (List Int)) (x4 : Int) (x7 : Int) (xo3 : (List ByteArray))
    (h1 : x7 < x4)
    (h2 : sizeOK (List.length xo3 + List.length ([(⟨#[46]⟩ : ByteArray)] : List ByteArray)))
    {e : AEx} {st : St} (next : LoopSC cfg.P 1 (lb P_spec_wdForest 1) (spec_wdForest_L1a x0 x4 (IntKind.wrap .i64 (x7 + (1 : Int))) (xo3 ++ ([(⟨#[46]⟩ : ByteArray)] : List ByteArray))) e st) :
    LoopSC cfg.P 1 (lb P_spec_wdForest 1) (spec_wdForest_L1a x0 x4 x7 xo3) e st :=
  loop_iter cfgOK (f := i_spec_wdForest) (its := [.bool true])
    (ps := [decide (x7 < x4) = true,
      sizeOK (List.length xo3 + List.length ([(⟨#[46]⟩ : ByteArray)] : List ByteArray))]) (st1 := spec_wdForest_L1a x0 x4 (IntKind.wrap .i64 (x7 + (1 : Int))) (xo3 ++ ([(⟨#[46]⟩ : ByteArray)] : List ByteArray))) (by kernel_rfl) ⟨(decide_eq_true h1), h2, trivial⟩ next

theorem spec_wdForest_L1a_x2 (x0 : (List Int)) (x4 : Int) (x7 : Int) (xo3 : (List ByteArray))
    (h1 : ¬ (x7 < x4)) :
    LoopSC cfg.P 1 (lb P_spec_wdForest 1) (spec_wdForest_L1a x0 x4 x7 xo3) (.exit 2) (spec_wdForest_L1X1 x0 x4 x7 false xo3) :=
  loop_out cfgOK (f := i_spec_wdForest) (its := [.bool false])
    (ps := [decide (x7 < x4) = false]) (by kernel_rfl) ⟨(decide_eq_false h1), trivial⟩ (fun h => by cases h)

theorem spec_wdForest_L2a_i1 (x0 : (List Int)) (x3 : (List ByteArray)) (x8 : Int) (dk1y0 : (List Int)) (dk1y3 : (List ByteArray)) (dk1y8 : Int) (dk1y9 : Int) (dk1y45 : Bool)
    (h1 : x8 ≥ (0 : Int))
    (h2 : LoopSC cfg.P 1 (lb P_spec_wdForest 3) (spec_wdForest_L3a x0 x3 x8 (0 : Int)) (.exit 6) (spec_wdForest_L3X1 dk1y0 dk1y3 dk1y8 dk1y9 dk1y45))
    {e : AEx} {st : St} (next : LoopSC cfg.P 1 (lb P_spec_wdForest 2) (spec_wdForest_L2a dk1y0 dk1y3 (IntKind.wrap .i64 (dk1y8 - (1 : Int)))) e st) :
    LoopSC cfg.P 1 (lb P_spec_wdForest 2) (spec_wdForest_L2a x0 x3 x8) e st :=
  loop_iter cfgOK (f := i_spec_wdForest) (its := [.bool true, .loop (fun _ => (.exit 6, spec_wdForest_L3X1 dk1y0 dk1y3 dk1y8 dk1y9 dk1y45))])
    (ps := [decide (x8 ≥ (0 : Int)) = true,
      LoopSC cfg.P 1 (lb P_spec_wdForest 3) (spec_wdForest_L3a x0 x3 x8 (0 : Int)) (.exit 6) (spec_wdForest_L3X1 dk1y0 dk1y3 dk1y8 dk1y9 dk1y45)]) (st1 := spec_wdForest_L2a dk1y0 dk1y3 (IntKind.wrap .i64 (dk1y8 - (1 : Int)))) (by kernel_rfl) ⟨(decide_eq_true h1), h2, trivial⟩ next

theorem spec_wdForest_L2a_x2 (x0 : (List Int)) (x3 : (List ByteArray)) (x8 : Int)
    (h1 : ¬ (x8 ≥ (0 : Int))) :
    LoopSC cfg.P 1 (lb P_spec_wdForest 2) (spec_wdForest_L2a x0 x3 x8) (.exit 4) (spec_wdForest_L2X1 x0 x3 x8 false) :=
  loop_out cfgOK (f := i_spec_wdForest) (its := [.bool false])
    (ps := [decide (x8 ≥ (0 : Int)) = false]) (by kernel_rfl) ⟨(decide_eq_false h1), trivial⟩ (fun h => by cases h)

theorem spec_wdForest_L3a_i1 (x0 : (List Int)) (x3 : (List ByteArray)) (x8 : Int) (x9 : Int) (dc1 : ByteArray)
    (h1 : 0 ≤ x8)
    (h2 : x8 < (List.length x0 : Int))
    (h3 : x9 < (List.getD x0 (x8).toNat (0 : Int)))
    (h4 : x8 < (List.length x3 : Int))
    (h5 : 0 ≤ (IntKind.wrap .i64 (x8 + (1 : Int))))
    (h6 : (IntKind.wrap .i64 (x8 + (1 : Int))) < (List.length x3 : Int))
    (h7 : SC cfg.P i_spec_trOf [.s (.v .str (List.getD x3 (x8).toNat (⟨#[]⟩ : ByteArray))), .s (.v .str (List.getD x3 ((IntKind.wrap .i64 (x8 + (1 : Int)))).toNat (⟨#[]⟩ : ByteArray)))] (.s (.v .str dc1)) [])
    (h8 : x8 ≤ (List.length x3 : Int))
    (h9 : sizeOK (List.length ([] : List ByteArray) + List.length (cutL x3 (0 : Int) x8)))
    (h10 : sizeOK (List.length (([] : List ByteArray) ++ (cutL x3 (0 : Int) x8)) + List.length ([dc1] : List ByteArray)))
    (h11 : 0 ≤ (IntKind.wrap .i64 (x8 + (2 : Int))))
    (h12 : (IntKind.wrap .i64 (x8 + (2 : Int))) ≤ (List.length x3 : Int))
    (h13 : sizeOK (List.length ((([] : List ByteArray) ++ (cutL x3 (0 : Int) x8)) ++ ([dc1] : List ByteArray)) + List.length (cutL x3 (IntKind.wrap .i64 (x8 + (2 : Int))) ((List.length x3 : Nat) : Int))))
    {e : AEx} {st : St} (next : LoopSC cfg.P 1 (lb P_spec_wdForest 3) (spec_wdForest_L3a x0 (((([] : List ByteArray) ++ (cutL x3 (0 : Int) x8)) ++ ([dc1] : List ByteArray)) ++ (cutL x3 (IntKind.wrap .i64 (x8 + (2 : Int))) ((List.length x3 : Nat) : Int))) x8 (IntKind.wrap .i64 (x9 + (1 : Int)))) e st) :
    LoopSC cfg.P 1 (lb P_spec_wdForest 3) (spec_wdForest_L3a x0 x3 x8 x9) e st :=
  loop_iter cfgOK (f := i_spec_wdForest) (its := [.bool true, .res (.s (.v .str dc1)) [] [] []])
    (ps := [0 ≤ x8,
      x8 < (List.length x0 : Int),
      decide (x9 < (List.getD x0 (x8).toNat (0 : Int))) = true,
      0 ≤ x8,
      x8 < (List.length x3 : Int),
      0 ≤ (IntKind.wrap .i64 (x8 + (1 : Int))),
      (IntKind.wrap .i64 (x8 + (1 : Int))) < (List.length x3 : Int),
      SC cfg.P i_spec_trOf [.s (.v .str (List.getD x3 (x8).toNat (⟨#[]⟩ : ByteArray))), .s (.v .str (List.getD x3 ((IntKind.wrap .i64 (x8 + (1 : Int)))).toNat (⟨#[]⟩ : ByteArray)))] (.s (.v .str dc1)) [],
      0 ≤ x8,
      x8 ≤ (List.length x3 : Int),
      sizeOK (List.length ([] : List ByteArray) + List.length (cutL x3 (0 : Int) x8)),
      sizeOK (List.length (([] : List ByteArray) ++ (cutL x3 (0 : Int) x8)) + List.length ([dc1] : List ByteArray)),
      0 ≤ (IntKind.wrap .i64 (x8 + (2 : Int))),
      (IntKind.wrap .i64 (x8 + (2 : Int))) ≤ (List.length x3 : Int),
      sizeOK (List.length ((([] : List ByteArray) ++ (cutL x3 (0 : Int) x8)) ++ ([dc1] : List ByteArray)) + List.length (cutL x3 (IntKind.wrap .i64 (x8 + (2 : Int))) ((List.length x3 : Nat) : Int)))]) (st1 := spec_wdForest_L3a x0 (((([] : List ByteArray) ++ (cutL x3 (0 : Int) x8)) ++ ([dc1] : List ByteArray)) ++ (cutL x3 (IntKind.wrap .i64 (x8 + (2 : Int))) ((List.length x3 : Nat) : Int))) x8 (IntKind.wrap .i64 (x9 + (1 : Int)))) (by kernel_rfl) ⟨h1, h2, (decide_eq_true h3), h1, h4, h5, h6, h7, h1, h8, h9, h10, h11, h12, h13, trivial⟩ next

theorem spec_wdForest_L3a_x2 (x0 : (List Int)) (x3 : (List ByteArray)) (x8 : Int) (x9 : Int)
    (h1 : 0 ≤ x8)
    (h2 : x8 < (List.length x0 : Int))
    (h3 : ¬ (x9 < (List.getD x0 (x8).toNat (0 : Int)))) :
    LoopSC cfg.P 1 (lb P_spec_wdForest 3) (spec_wdForest_L3a x0 x3 x8 x9) (.exit 6) (spec_wdForest_L3X1 x0 x3 x8 x9 false) :=
  loop_out cfgOK (f := i_spec_wdForest) (its := [.bool false])
    (ps := [0 ≤ x8,
      x8 < (List.length x0 : Int),
      decide (x9 < (List.getD x0 (x8).toNat (0 : Int))) = false]) (by kernel_rfl) ⟨h1, h2, (decide_eq_false h3), trivial⟩ (fun h => by cases h)

theorem spec_wdForest_p1 (a0 : (List Int)) (k1y0 : (List Int)) (k1y4 : Int) (k1y15 : (List Int)) (k1y16 : Int) (k1y17 : Int) (k1y18 : Bool) (k1yo3 : (List ByteArray)) (k2y0 : (List Int)) (k2y4 : Int) (k2y7 : Int) (k2y27 : Bool) (k2yo3 : (List ByteArray)) (k3y0 : (List Int)) (k3y3 : (List ByteArray)) (k3y8 : Int) (k3y37 : Bool)
    (h1 : LoopSC cfg.P 1 (lb P_spec_wdForest 0) (spec_wdForest_L0a a0 (IntKind.wrap .i64 (((List.length a0 : Nat) : Int) + (1 : Int))) a0 ((List.length a0 : Nat) : Int) (0 : Int) ([] : List ByteArray)) (.exit 0) (spec_wdForest_L0X1 k1y0 k1y4 k1y15 k1y16 k1y17 k1y18 k1yo3))
    (h2 : LoopSC cfg.P 1 (lb P_spec_wdForest 1) (spec_wdForest_L1a k1y0 k1y4 (0 : Int) k1yo3) (.exit 2) (spec_wdForest_L1X1 k2y0 k2y4 k2y7 k2y27 k2yo3))
    (h3 : LoopSC cfg.P 1 (lb P_spec_wdForest 2) (spec_wdForest_L2a k2y0 k2yo3 (IntKind.wrap .i64 (((List.length k2y0 : Nat) : Int) - (1 : Int)))) (.exit 4) (spec_wdForest_L2X1 k3y0 k3y3 k3y8 k3y37)) :
    SC cfg.P i_spec_wdForest [.s (.v (.sl (.int .i64)) a0)] (.s (.v (.sl .str) k3y3)) [] :=
  SC_of_run cfgOK (its := [.loop (fun _ => (.exit 0, spec_wdForest_L0X1 k1y0 k1y4 k1y15 k1y16 k1y17 k1y18 k1yo3)), .loop (fun _ => (.exit 2, spec_wdForest_L1X1 k2y0 k2y4 k2y7 k2y27 k2yo3)), .loop (fun _ => (.exit 4, spec_wdForest_L2X1 k3y0 k3y3 k3y8 k3y37))])
    (ps := [LoopSC cfg.P 1 (lb P_spec_wdForest 0) (spec_wdForest_L0a a0 (IntKind.wrap .i64 (((List.length a0 : Nat) : Int) + (1 : Int))) a0 ((List.length a0 : Nat) : Int) (0 : Int) ([] : List ByteArray)) (.exit 0) (spec_wdForest_L0X1 k1y0 k1y4 k1y15 k1y16 k1y17 k1y18 k1yo3),
      LoopSC cfg.P 1 (lb P_spec_wdForest 1) (spec_wdForest_L1a k1y0 k1y4 (0 : Int) k1yo3) (.exit 2) (spec_wdForest_L1X1 k2y0 k2y4 k2y7 k2y27 k2yo3),
      LoopSC cfg.P 1 (lb P_spec_wdForest 2) (spec_wdForest_L2a k2y0 k2yo3 (IntKind.wrap .i64 (((List.length k2y0 : Nat) : Int) - (1 : Int)))) (.exit 4) (spec_wdForest_L2X1 k3y0 k3y3 k3y8 k3y37)]) (by kernel_rfl) ⟨h1, h2, h3, trivial⟩ get_spec_wdForest (by decide)

/-! ### impl_forest_stack -/


def impl_forest_stack_L0a (x0 : (List Tr)) (x1 : (List Tr)) (x6 : Int) (x7 : Int) (xo5 : (List Tr)) : St := mkSt 37 [(0, .s (.v (.sl .tree) x0)), (1, .s (.v (.sl .tree) x1)), (5, .s (.osl 5 0)), (6, .s (.v (.int .i64) x6)), (7, .s (.v (.int .i64) x7))] [(5, .row t_pimpl_node .tree xo5 0 false)]

def impl_forest_stack_L0X1 (y0 : (List Tr)) (y1 : (List Tr)) (y6 : Int) (y7 : Int) (y18 : Bool) (yo5 : (List Tr)) : St := mkSt 37 [(0, .s (.v (.sl .tree) y0)), (1, .s (.v (.sl .tree) y1)), (5, .s (.osl 5 0)), (6, .s (.v (.int .i64) y6)), (7, .s (.v (.int .i64) y7)), (18, .s (.v .bool y18))] [(5, .row t_pimpl_node .tree yo5 0 false)]

theorem impl_forest_stack_L0a_i1 (x0 : (List Tr)) (x1 : (List Tr)) (x6 : Int) (x7 : Int) (xo5 : (List Tr)) (dc1 : Tr) (dc2 : Tr) (dc3 : Int)
    (h1 : x7 < ((List.length x0 : Nat) : Int))
    (h2 : SC cfg.P i_impl_forest_tree [.s (.v (.sl .tree) x0), .s (.v (.int .i64) x7)] (.s (.v .tree dc1)) [])
    (h3 : SC cfg.P i_impl_node_grown [.s (.v .tree dc1), .s (.v (.int .i64) x6), .fn i_impl_forest_tree [.v (.sl .tree) x1] []] (.s (.v .tree dc2)) [])
    (h4 : sizeOK (List.length xo5 + List.length ([dc2] : List Tr)))
    (h5 : SC cfg.P i_impl_node_leaves [.s (.v .tree dc1)] (.s (.v (.int .i64) dc3)) [])
    {e : AEx} {st : St} (next : LoopSC cfg.P 2 (lb P_impl_forest_stack 0) (impl_forest_stack_L0a x0 x1 (IntKind.wrap .i64 (x6 + dc3)) (IntKind.wrap .i64 (x7 + (1 : Int))) (xo5 ++ ([dc2] : List Tr))) e st) :
    LoopSC cfg.P 2 (lb P_impl_forest_stack 0) (impl_forest_stack_L0a x0 x1 x6 x7 xo5) e st :=
  loop_iter cfgOK (f := i_impl_forest_stack) (its := [.bool true, .res (.s (.v .tree dc1)) [] [] [], .res (.s (.v .tree dc2)) [] [] [], .res (.s (.v (.int .i64) dc3)) [] [] []])
    (ps := [decide (x7 < ((List.length x0 : Nat) : Int)) = true,
      SC cfg.P i_impl_forest_tree [.s (.v (.sl .tree) x0), .s (.v (.int .i64) x7)] (.s (.v .tree dc1)) [],
      SC cfg.P i_impl_node_grown [.s (.v .tree dc1), .s (.v (.int .i64) x6), .fn i_impl_forest_tree [.v (.sl .tree) x1] []] (.s (.v .tree dc2)) [],
      sizeOK (List.length xo5 + List.length ([dc2] : List Tr)),
      SC cfg.P i_impl_node_leaves [.s (.v .tree dc1)] (.s (.v (.int .i64) dc3)) []]) (st1 := impl_forest_stack_L0a x0 x1 (IntKind.wrap .i64 (x6 + dc3)) (IntKind.wrap .i64 (x7 + (1 : Int))) (xo5 ++ ([dc2] : List Tr))) (by kernel_rfl) ⟨(decide_eq_true h1), h2, h3, h4, h5, trivial⟩ next

theorem impl_forest_stack_L0a_i2 (x0 : (List Tr)) (x1 : (List Tr)) (x6 : Int) (x7 : Int) (xo5 : (List Tr)) (dc1 : Tr) (dc2 : Tr) (dc3 : Int)
    (h1 : ¬ (x7 < ((List.length x0 : Nat) : Int)))
    (h2 : x6 < ((List.length x1 : Nat) : Int))
    (h3 : SC cfg.P i_impl_forest_tree [.s (.v (.sl .tree) x0), .s (.v (.int .i64) x7)] (.s (.v .tree dc1)) [])
    (h4 : SC cfg.P i_impl_node_grown [.s (.v .tree dc1), .s (.v (.int .i64) x6), .fn i_impl_forest_tree [.v (.sl .tree) x1] []] (.s (.v .tree dc2)) [])
    (h5 : sizeOK (List.length xo5 + List.length ([dc2] : List Tr)))
    (h6 : SC cfg.P i_impl_node_leaves [.s (.v .tree dc1)] (.s (.v (.int .i64) dc3)) [])
    {e : AEx} {st : St} (next : LoopSC cfg.P 2 (lb P_impl_forest_stack 0) (impl_forest_stack_L0a x0 x1 (IntKind.wrap .i64 (x6 + dc3)) (IntKind.wrap .i64 (x7 + (1 : Int))) (xo5 ++ ([dc2] : List Tr))) e st) :
    LoopSC cfg.P 2 (lb P_impl_forest_stack 0) (impl_forest_stack_L0a x0 x1 x6 x7 xo5) e st :=
  loop_iter cfgOK (f := i_impl_forest_stack) (its := [.bool false, .bool true, .res (.s (.v .tree dc1)) [] [] [], .res (.s (.v .tree dc2)) [] [] [], .res (.s (.v (.int .i64) dc3)) [] [] []])
    (ps := [decide (x7 < ((List.length x0 : Nat) : Int)) = false,
      decide (x6 < ((List.length x1 : Nat) : Int)) = true,
      SC cfg.P i_impl_forest_tree [.s (.v (.sl .tree) x0), .s (.v (.int .i64) x7)] (.s (.v .tree dc1)) [],
      SC cfg.P i_impl_node_grown [.s (.v .tree dc1), .s (.v (.int .i64) x6), .fn i_impl_forest_tree [.v (.sl .tree) x1] []] (.s (.v .tree dc2)) [],
      sizeOK (List.length xo5 + List.length ([dc2] : List Tr)),
      SC cfg.P i_impl_node_leaves [.s (.v .tree dc1)] (.s (.v (.int .i64) dc3)) []]) (st1 := impl_forest_stack_L0a x0 x1 (IntKind.wrap .i64 (x6 + dc3)) (IntKind.wrap .i64 (x7 + (1 : Int))) (xo5 ++ ([dc2] : List Tr))) (by kernel_rfl) ⟨(decide_eq_false h1), (decide_eq_true h2), h3, h4, h5, h6, trivial⟩ next

theorem impl_forest_stack_L0a_x3 (x0 : (List Tr)) (x1 : (List Tr)) (x6 : Int) (x7 : Int) (xo5 : (List Tr))
    (h1 : ¬ (x7 < ((List.length x0 : Nat) : Int)))
    (h2 : ¬ (x6 < ((List.length x1 : Nat) : Int))) :
    LoopSC cfg.P 2 (lb P_impl_forest_stack 0) (impl_forest_stack_L0a x0 x1 x6 x7 xo5) (.exit 0) (impl_forest_stack_L0X1 x0 x1 x6 x7 false xo5) :=
  loop_out cfgOK (f := i_impl_forest_stack) (its := [.bool false, .bool false])
    (ps := [decide (x7 < ((List.length x0 : Nat) : Int)) = false,
      decide (x6 < ((List.length x1 : Nat) : Int)) = false]) (by kernel_rfl) ⟨(decide_eq_false h1), (decide_eq_false h2), trivial⟩ (fun h => by cases h)

theorem impl_forest_stack_p1 (a0 : (List Tr)) (a1 : (List Tr)) (k1y0 : (List Tr)) (k1y1 : (List Tr)) (k1y6 : Int) (k1y7 : Int) (k1y18 : Bool) (k1yo5 : (List Tr))
    (h1 : LoopSC cfg.P 2 (lb P_impl_forest_stack 0) (impl_forest_stack_L0a a0 a1 (0 : Int) (0 : Int) ([] : List Tr)) (.exit 0) (impl_forest_stack_L0X1 k1y0 k1y1 k1y6 k1y7 k1y18 k1yo5)) :
    SC cfg.P i_impl_forest_stack [.s (.v (.sl .tree) a0), .s (.v (.sl .tree) a1)] (.s (.own t_pimpl_node .tree k1yo5)) [] :=
  SC_of_run cfgOK (its := [.loop (fun _ => (.exit 0, impl_forest_stack_L0X1 k1y0 k1y1 k1y6 k1y7 k1y18 k1yo5))])
    (ps := [LoopSC cfg.P 2 (lb P_impl_forest_stack 0) (impl_forest_stack_L0a a0 a1 (0 : Int) (0 : Int) ([] : List Tr)) (.exit 0) (impl_forest_stack_L0X1 k1y0 k1y1 k1y6 k1y7 k1y18 k1yo5)]) (by kernel_rfl) ⟨h1, trivial⟩ get_impl_forest_stack (by decide)

/-! ### impl_forest_tree -/


theorem impl_forest_tree_p1 (a0 : (List Tr)) (a1 : Int)
    (h1 : a1 < ((List.length a0 : Nat) : Int))
    (h2 : 0 ≤ a1)
    (h3 : a1 < (List.length a0 : Int)) :
    SC cfg.P i_impl_forest_tree [.s (.v (.sl .tree) a0), .s (.v (.int .i64) a1)] (.s (.v .tree (List.getD a0 (a1).toNat Tr.leaf))) [] :=
  SC_of_run cfgOK (its := [.bool true])
    (ps := [decide (a1 < ((List.length a0 : Nat) : Int)) = true,
      0 ≤ a1,
      a1 < (List.length a0 : Int)]) (by kernel_rfl) ⟨(decide_eq_true h1), h2, h3, trivial⟩ get_impl_forest_tree (by decide)

theorem impl_forest_tree_p2 (a0 : (List Tr)) (a1 : Int)
    (h1 : ¬ (a1 < ((List.length a0 : Nat) : Int))) :
    SC cfg.P i_impl_forest_tree [.s (.v (.sl .tree) a0), .s (.v (.int .i64) a1)] (.s (.v .tree Tr.leaf)) [] :=
  SC_of_run cfgOK (its := [.bool false])
    (ps := [decide (a1 < ((List.length a0 : Nat) : Int)) = false]) (by kernel_rfl) ⟨(decide_eq_false h1), trivial⟩ get_impl_forest_tree (by decide)

/-! ### impl_IsWord -/


def impl_IsWord_L0a (x0 : (List Int)) (x5 : (List Int)) (x6 : Int) (x7 : Int) : St := mkSt 18 [(0, .s (.v (.sl (.int .i64)) x0)), (5, .s (.v (.sl (.int .i64)) x5)), (6, .s (.v (.int .i64) x6)), (7, .s (.v (.int .i64) x7))] []

def impl_IsWord_L0X1 (y2 : Bool) : St := mkSt 18 [(2, .s (.v .bool y2))] []

def impl_IsWord_L0X2 (y0 : (List Int)) (y5 : (List Int)) (y6 : Int) (y7 : Int) (y8 : Bool) : St := mkSt 18 [(0, .s (.v (.sl (.int .i64)) y0)), (5, .s (.v (.sl (.int .i64)) y5)), (6, .s (.v (.int .i64) y6)), (7, .s (.v (.int .i64) y7)), (8, .s (.v .bool y8))] []

theorem impl_IsWord_L0a_i1 (x0 : (List Int)) (x5 : (List Int)) (x6 : Int) (x7 : Int)
    (h1 : x7 < x6)
    (h2 : 0 ≤ x7)
    (h3 : x7 < (List.length x5 : Int))
    (h4 : SC cfg.P i_impl_isLetter [.s (.v (.int .i64) (List.getD x5 (x7).toNat (0 : Int)))] (.s (.v .bool true)) [])
    {e : AEx} {st : St} (next : LoopSC cfg.P 1 (lb P_impl_IsWord 0) (impl_IsWord_L0a x0 x5 x6 (IntKind.wrap .i64 (x7 + (1 : Int)))) e st) :
    LoopSC cfg.P 1 (lb P_impl_IsWord 0) (impl_IsWord_L0a x0 x5 x6 x7) e st :=
  loop_iter cfgOK (f := i_impl_IsWord) (its := [.bool true, .res (.s (.v .bool true)) [] [] []])
    (ps := [decide (x7 < x6) = true,
      0 ≤ x7,
      x7 < (List.length x5 : Int),
      SC cfg.P i_impl_isLetter [.s (.v (.int .i64) (List.getD x5 (x7).toNat (0 : Int)))] (.s (.v .bool true)) []]) (st1 := impl_IsWord_L0a x0 x5 x6 (IntKind.wrap .i64 (x7 + (1 : Int)))) (by kernel_rfl) ⟨(decide_eq_true h1), h2, h3, h4, trivial⟩ next

theorem impl_IsWord_L0a_x2 (x0 : (List Int)) (x5 : (List Int)) (x6 : Int) (x7 : Int)
    (h1 : x7 < x6)
    (h2 : 0 ≤ x7)
    (h3 : x7 < (List.length x5 : Int))
    (h4 : SC cfg.P i_impl_isLetter [.s (.v (.int .i64) (List.getD x5 (x7).toNat (0 : Int)))] (.s (.v .bool false)) []) :
    LoopSC cfg.P 1 (lb P_impl_IsWord 0) (impl_IsWord_L0a x0 x5 x6 x7) (.ret) (impl_IsWord_L0X1 false) :=
  loop_out cfgOK (f := i_impl_IsWord) (its := [.bool true, .res (.s (.v .bool false)) [] [] []])
    (ps := [decide (x7 < x6) = true,
      0 ≤ x7,
      x7 < (List.length x5 : Int),
      SC cfg.P i_impl_isLetter [.s (.v (.int .i64) (List.getD x5 (x7).toNat (0 : Int)))] (.s (.v .bool false)) []]) (by kernel_rfl) ⟨(decide_eq_true h1), h2, h3, h4, trivial⟩ (fun h => by cases h)

theorem impl_IsWord_L0a_x3 (x0 : (List Int)) (x5 : (List Int)) (x6 : Int) (x7 : Int)
    (h1 : ¬ (x7 < x6)) :
    LoopSC cfg.P 1 (lb P_impl_IsWord 0) (impl_IsWord_L0a x0 x5 x6 x7) (.exit 0) (impl_IsWord_L0X2 x0 x5 x6 x7 false) :=
  loop_out cfgOK (f := i_impl_IsWord) (its := [.bool false])
    (ps := [decide (x7 < x6) = false]) (by kernel_rfl) ⟨(decide_eq_false h1), trivial⟩ (fun h => by cases h)

theorem impl_IsWord_p1 (a0 : (List Int)) (k1y2 : Bool)
    (h1 : LoopSC cfg.P 1 (lb P_impl_IsWord 0) (impl_IsWord_L0a a0 a0 ((List.length a0 : Nat) : Int) (0 : Int)) (.ret) (impl_IsWord_L0X1 k1y2)) :
    SC cfg.P i_impl_IsWord [.s (.v (.sl (.int .i64)) a0)] (.s (.v .bool k1y2)) [] :=
  SC_of_run cfgOK (its := [.loop (fun _ => (.ret, impl_IsWord_L0X1 k1y2))])
    (ps := [LoopSC cfg.P 1 (lb P_impl_IsWord 0) (impl_IsWord_L0a a0 a0 ((List.length a0 : Nat) : Int) (0 : Int)) (.ret) (impl_IsWord_L0X1 k1y2)]) (by kernel_rfl) ⟨h1, trivial⟩ get_impl_IsWord (by decide)

theorem impl_IsWord_p2 (a0 : (List Int)) (k1y0 : (List Int)) (k1y5 : (List Int)) (k1y6 : Int) (k1y7 : Int) (k1y8 : Bool)
    (h1 : LoopSC cfg.P 1 (lb P_impl_IsWord 0) (impl_IsWord_L0a a0 a0 ((List.length a0 : Nat) : Int) (0 : Int)) (.exit 0) (impl_IsWord_L0X2 k1y0 k1y5 k1y6 k1y7 k1y8))
    (h2 : ((List.length k1y0 : Nat) : Int) ≤ (20 : Int)) :
    SC cfg.P i_impl_IsWord [.s (.v (.sl (.int .i64)) a0)] (.s (.v .bool true)) [] :=
  SC_of_run cfgOK (its := [.loop (fun _ => (.exit 0, impl_IsWord_L0X2 k1y0 k1y5 k1y6 k1y7 k1y8)), .bool true])
    (ps := [LoopSC cfg.P 1 (lb P_impl_IsWord 0) (impl_IsWord_L0a a0 a0 ((List.length a0 : Nat) : Int) (0 : Int)) (.exit 0) (impl_IsWord_L0X2 k1y0 k1y5 k1y6 k1y7 k1y8),
      decide (((List.length k1y0 : Nat) : Int) ≤ (20 : Int)) = true]) (by kernel_rfl) ⟨h1, (decide_eq_true h2), trivial⟩ get_impl_IsWord (by decide)

theorem impl_IsWord_p3 (a0 : (List Int)) (k1y0 : (List Int)) (k1y5 : (List Int)) (k1y6 : Int) (k1y7 : Int) (k1y8 : Bool)
    (h1 : LoopSC cfg.P 1 (lb P_impl_IsWord 0) (impl_IsWord_L0a a0 a0 ((List.length a0 : Nat) : Int) (0 : Int)) (.exit 0) (impl_IsWord_L0X2 k1y0 k1y5 k1y6 k1y7 k1y8))
    (h2 : ¬ (((List.length k1y0 : Nat) : Int) ≤ (20 : Int))) :
    SC cfg.P i_impl_IsWord [.s (.v (.sl (.int .i64)) a0)] (.s (.v .bool false)) [] :=
  SC_of_run cfgOK (its := [.loop (fun _ => (.exit 0, impl_IsWord_L0X2 k1y0 k1y5 k1y6 k1y7 k1y8)), .bool false])
    (ps := [LoopSC cfg.P 1 (lb P_impl_IsWord 0) (impl_IsWord_L0a a0 a0 ((List.length a0 : Nat) : Int) (0 : Int)) (.exit 0) (impl_IsWord_L0X2 k1y0 k1y5 k1y6 k1y7 k1y8),
      decide (((List.length k1y0 : Nat) : Int) ≤ (20 : Int)) = false]) (by kernel_rfl) ⟨h1, (decide_eq_false h2), trivial⟩ get_impl_IsWord (by decide)

/-! ### impl_node_climbs -/


theorem impl_node_climbs_p1 (a1 : Int)
     :
    SC cfg.P i_impl_node_climbs [.s (.v .tree Tr.leaf), .s (.v (.int .i64) a1)] (.s (.own t_int (.int .i64) ([a1] : List Int))) [] :=
  SC_of_run cfgOK (its := [.bool true])
    (ps := [Tr.leaf.isLeaf = true]) (by kernel_rfl) ⟨rfl, trivial⟩ get_impl_node_climbs (by decide)

theorem impl_node_climbs_p2 (a0l : Tr) (a0r : Tr) (a1 : Int) (c1 : (List Int)) (c2 : (List Int))
    (h1 : SC cfg.P i_impl_node_climbs [.s (.v .tree a0l), .s (.v (.int .i64) (IntKind.wrap .i64 (a1 + (1 : Int))))] (.s (.own t_int (.int .i64) c1)) [])
    (h2 : SC cfg.P i_impl_node_climbs [.s (.v .tree a0r), .s (.v (.int .i64) (0 : Int))] (.s (.own t_int (.int .i64) c2)) [])
    (h3 : sizeOK (List.length c1 + List.length c2)) :
    SC cfg.P i_impl_node_climbs [.s (.v .tree (Tr.node a0l a0r)), .s (.v (.int .i64) a1)] (.s (.own t_int (.int .i64) (c1 ++ c2))) [] :=
  SC_of_run cfgOK (its := [.bool false, .res (.s (.own t_int (.int .i64) c1)) [] [] [15], .res (.s (.own t_int (.int .i64) c2)) [] [] [20]])
    (ps := [(Tr.node a0l a0r).isLeaf = false,
      SC cfg.P i_impl_node_climbs [.s (.v .tree a0l), .s (.v (.int .i64) (IntKind.wrap .i64 (a1 + (1 : Int))))] (.s (.own t_int (.int .i64) c1)) [],
      SC cfg.P i_impl_node_climbs [.s (.v .tree a0r), .s (.v (.int .i64) (0 : Int))] (.s (.own t_int (.int .i64) c2)) [],
      sizeOK (List.length c1 + List.length c2)]) (by kernel_rfl) ⟨rfl, h1, h2, h3, trivial⟩ get_impl_node_climbs (by decide)

/-! ### spec_wdExponents -/


theorem spec_wdExponents_p1 (a0 : ByteArray) (a1 : Int)
    (h1 : SC cfg.P i_spec_trLeaf [.s (.v .str a0)] (.s (.v .bool true)) []) :
    SC cfg.P i_spec_wdExponents [.s (.v .str a0), .s (.v (.int .i64) a1)] (.s (.own t_int (.int .i64) ([a1] : List Int))) [] :=
  SC_of_run cfgOK (its := [.res (.s (.v .bool true)) [] [] []])
    (ps := [SC cfg.P i_spec_trLeaf [.s (.v .str a0)] (.s (.v .bool true)) []]) (by kernel_rfl) ⟨h1, trivial⟩ get_spec_wdExponents (by decide)

theorem spec_wdExponents_p2 (a0 : ByteArray) (a1 : Int) (c2a : ByteArray) (c2b : ByteArray) (c3 : (List Int)) (c4 : (List Int))
    (h1 : SC cfg.P i_spec_trLeaf [.s (.v .str a0)] (.s (.v .bool false)) [])
    (h2 : SC cfg.P i_spec_trSides [.s (.v .str a0)] (.tup [.v .str c2a, .v .str c2b]) [])
    (h3 : SC cfg.P i_spec_wdExponents [.s (.v .str c2a), .s (.v (.int .i64) (IntKind.wrap .i64 (a1 + (1 : Int))))] (.s (.own t_int (.int .i64) c3)) [])
    (h4 : SC cfg.P i_spec_wdExponents [.s (.v .str c2b), .s (.v (.int .i64) (0 : Int))] (.s (.own t_int (.int .i64) c4)) [])
    (h5 : sizeOK (List.length c3 + List.length c4)) :
    SC cfg.P i_spec_wdExponents [.s (.v .str a0), .s (.v (.int .i64) a1)] (.s (.own t_int (.int .i64) (c3 ++ c4))) [] :=
  SC_of_run cfgOK (its := [.res (.s (.v .bool false)) [] [] [], .res (.tup [.v .str c2a, .v .str c2b]) [] [] [], .res (.s (.own t_int (.int .i64) c3)) [] [] [19], .res (.s (.own t_int (.int .i64) c4)) [] [] [21]])
    (ps := [SC cfg.P i_spec_trLeaf [.s (.v .str a0)] (.s (.v .bool false)) [],
      SC cfg.P i_spec_trSides [.s (.v .str a0)] (.tup [.v .str c2a, .v .str c2b]) [],
      SC cfg.P i_spec_wdExponents [.s (.v .str c2a), .s (.v (.int .i64) (IntKind.wrap .i64 (a1 + (1 : Int))))] (.s (.own t_int (.int .i64) c3)) [],
      SC cfg.P i_spec_wdExponents [.s (.v .str c2b), .s (.v (.int .i64) (0 : Int))] (.s (.own t_int (.int .i64) c4)) [],
      sizeOK (List.length c3 + List.length c4)]) (by kernel_rfl) ⟨h1, h2, h3, h4, h5, trivial⟩ get_spec_wdExponents (by decide)

/-! ### impl_wordOf -/


def impl_wordOf_L0a (x6 : (List Int)) (x7 : Int) (x8 : Int) (xo3 : (List Int)) : St := mkSt 24 [(3, .s (.osl 3 0)), (6, .s (.v (.sl (.int .i64)) x6)), (7, .s (.v (.int .i64) x7)), (8, .s (.v (.int .i64) x8))] [(3, .row t_int (.int .i64) xo3 0 false)]

def impl_wordOf_L1a (x4 : Int) (x6 : (List Int)) (x7 : Int) (x8 : Int) (x13 : Int) (x14 : Int) (xo3 : (List Int)) : St := mkSt 24 [(3, .s (.osl 3 0)), (4, .s (.v (.int .i64) x4)), (6, .s (.v (.sl (.int .i64)) x6)), (7, .s (.v (.int .i64) x7)), (8, .s (.v (.int .i64) x8)), (13, .s (.v (.int .i64) x13)), (14, .s (.v (.int .i64) x14))] [(3, .row t_int (.int .i64) xo3 0 false)]

def impl_wordOf_L1X1 (y4 : Int) (y6 : (List Int)) (y7 : Int) (y8 : Int) (y13 : Int) (y14 : Int) (y15 : Bool) (yo3 : (List Int)) : St := mkSt 24 [(3, .s (.osl 3 0)), (4, .s (.v (.int .i64) y4)), (6, .s (.v (.sl (.int .i64)) y6)), (7, .s (.v (.int .i64) y7)), (8, .s (.v (.int .i64) y8)), (13, .s (.v (.int .i64) y13)), (14, .s (.v (.int .i64) y14)), (15, .s (.v .bool y15))] [(3, .row t_int (.int .i64) yo3 0 false)]

def impl_wordOf_L0X1 (y6 : (List Int)) (y7 : Int) (y8 : Int) (y9 : Bool) (yo3 : (List Int)) : St := mkSt 24 [(3, .s (.osl 3 0)), (6, .s (.v (.sl (.int .i64)) y6)), (7, .s (.v (.int .i64) y7)), (8, .s (.v (.int .i64) y8)), (9, .s (.v .bool y9))] [(3, .row t_int (.int .i64) yo3 0 false)]

theorem impl_wordOf_L0a_i1 (x6 : (List Int)) (x7 : Int) (x8 : Int) (xo3 : (List Int)) (dk1y4 : Int) (dk1y6 : (List Int)) (dk1y7 : Int) (dk1y8 : Int) (dk1y13 : Int) (dk1y14 : Int) (dk1y15 : Bool) (dk1yo3 : (List Int))
    (h1 : x8 < x7)
    (h2 : 0 ≤ x8)
    (h3 : x8 < (List.length x6 : Int))
    (h4 : LoopSC cfg.P 1 (lb P_impl_wordOf 1) (impl_wordOf_L1a x8 x6 x7 x8 (List.getD x6 (x8).toNat (0 : Int)) (0 : Int) xo3) (.exit 2) (impl_wordOf_L1X1 dk1y4 dk1y6 dk1y7 dk1y8 dk1y13 dk1y14 dk1y15 dk1yo3))
    {e : AEx} {st : St} (next : LoopSC cfg.P 1 (lb P_impl_wordOf 0) (impl_wordOf_L0a dk1y6 dk1y7 (IntKind.wrap .i64 (dk1y8 + (1 : Int))) dk1yo3) e st) :
    LoopSC cfg.P 1 (lb P_impl_wordOf 0) (impl_wordOf_L0a x6 x7 x8 xo3) e st :=
  loop_iter cfgOK (f := i_impl_wordOf) (its := [.bool true, .loop (fun _ => (.exit 2, impl_wordOf_L1X1 dk1y4 dk1y6 dk1y7 dk1y8 dk1y13 dk1y14 dk1y15 dk1yo3))])
    (ps := [decide (x8 < x7) = true,
      0 ≤ x8,
      x8 < (List.length x6 : Int),
      LoopSC cfg.P 1 (lb P_impl_wordOf 1) (impl_wordOf_L1a x8 x6 x7 x8 (List.getD x6 (x8).toNat (0 : Int)) (0 : Int) xo3) (.exit 2) (impl_wordOf_L1X1 dk1y4 dk1y6 dk1y7 dk1y8 dk1y13 dk1y14 dk1y15 dk1yo3)]) (st1 := impl_wordOf_L0a dk1y6 dk1y7 (IntKind.wrap .i64 (dk1y8 + (1 : Int))) dk1yo3) (by kernel_rfl) ⟨(decide_eq_true h1), h2, h3, h4, trivial⟩ next

theorem impl_wordOf_L0a_x2 (x6 : (List Int)) (x7 : Int) (x8 : Int) (xo3 : (List Int))
    (h1 : ¬ (x8 < x7)) :
    LoopSC cfg.P 1 (lb P_impl_wordOf 0) (impl_wordOf_L0a x6 x7 x8 xo3) (.exit 0) (impl_wordOf_L0X1 x6 x7 x8 false xo3) :=
  loop_out cfgOK (f := i_impl_wordOf) (its := [.bool false])
    (ps := [decide (x8 < x7) = false]) (by kernel_rfl) ⟨(decide_eq_false h1), trivial⟩ (fun h => by cases h)

theorem impl_wordOf_L1a_i1 (x4 : Int) (x6 : (List Int)) (x7 : Int) (x8 : Int) (x13 : Int) (x14 : Int) (xo3 : (List Int))
    (h1 : x14 < x13)
    (h2 : sizeOK (List.length xo3 + List.length ([(IntKind.wrap .i64 (x4 + (1 : Int)))] : List Int)))
    {e : AEx} {st : St} (next : LoopSC cfg.P 1 (lb P_impl_wordOf 1) (impl_wordOf_L1a x4 x6 x7 x8 x13 (IntKind.wrap .i64 (x14 + (1 : Int))) (xo3 ++ ([(IntKind.wrap .i64 (x4 + (1 : Int)))] : List Int))) e st) :
    LoopSC cfg.P 1 (lb P_impl_wordOf 1) (impl_wordOf_L1a x4 x6 x7 x8 x13 x14 xo3) e st :=
  loop_iter cfgOK (f := i_impl_wordOf) (its := [.bool true])
    (ps := [decide (x14 < x13) = true,
      sizeOK (List.length xo3 + List.length ([(IntKind.wrap .i64 (x4 + (1 : Int)))] : List Int))]) (st1 := impl_wordOf_L1a x4 x6 x7 x8 x13 (IntKind.wrap .i64 (x14 + (1 : Int))) (xo3 ++ ([(IntKind.wrap .i64 (x4 + (1 : Int)))] : List Int))) (by kernel_rfl) ⟨(decide_eq_true h1), h2, trivial⟩ next

theorem impl_wordOf_L1a_x2 (x4 : Int) (x6 : (List Int)) (x7 : Int) (x8 : Int) (x13 : Int) (x14 : Int) (xo3 : (List Int))
    (h1 : ¬ (x14 < x13)) :
    LoopSC cfg.P 1 (lb P_impl_wordOf 1) (impl_wordOf_L1a x4 x6 x7 x8 x13 x14 xo3) (.exit 2) (impl_wordOf_L1X1 x4 x6 x7 x8 x13 x14 false xo3) :=
  loop_out cfgOK (f := i_impl_wordOf) (its := [.bool false])
    (ps := [decide (x14 < x13) = false]) (by kernel_rfl) ⟨(decide_eq_false h1), trivial⟩ (fun h => by cases h)

theorem impl_wordOf_p1 (a0 : (List Int)) (k1y6 : (List Int)) (k1y7 : Int) (k1y8 : Int) (k1y9 : Bool) (k1yo3 : (List Int))
    (h1 : LoopSC cfg.P 1 (lb P_impl_wordOf 0) (impl_wordOf_L0a a0 ((List.length a0 : Nat) : Int) (0 : Int) ([] : List Int)) (.exit 0) (impl_wordOf_L0X1 k1y6 k1y7 k1y8 k1y9 k1yo3)) :
    SC cfg.P i_impl_wordOf [.s (.v (.sl (.int .i64)) a0)] (.s (.own t_int (.int .i64) k1yo3)) [] :=
  SC_of_run cfgOK (its := [.loop (fun _ => (.exit 0, impl_wordOf_L0X1 k1y6 k1y7 k1y8 k1y9 k1yo3))])
    (ps := [LoopSC cfg.P 1 (lb P_impl_wordOf 0) (impl_wordOf_L0a a0 ((List.length a0 : Nat) : Int) (0 : Int) ([] : List Int)) (.exit 0) (impl_wordOf_L0X1 k1y6 k1y7 k1y8 k1y9 k1yo3)]) (by kernel_rfl) ⟨h1, trivial⟩ get_impl_wordOf (by decide)

/-! ### impl_inverseOf -/


def impl_inverseOf_L0a (x0 : (List Int)) (x4 : Int) (xo3 : (List Int)) : St := mkSt 21 [(0, .s (.v (.sl (.int .i64)) x0)), (3, .s (.osl 3 0)), (4, .s (.v (.int .i64) x4))] [(3, .row t_int (.int .i64) xo3 0 false)]

def impl_inverseOf_L0X1 (y0 : (List Int)) (y4 : Int) (y9 : Bool) (yo3 : (List Int)) : St := mkSt 21 [(0, .s (.v (.sl (.int .i64)) y0)), (3, .s (.osl 3 0)), (4, .s (.v (.int .i64) y4)), (9, .s (.v .bool y9))] [(3, .row t_int (.int .i64) yo3 0 false)]

theorem impl_inverseOf_L0a_i1 (x0 : (List Int)) (x4 : Int) (xo3 : (List Int))
    (h1 : x4 ≥ (0 : Int))
    (h2 : 0 ≤ x4)
    (h3 : x4 < (List.length x0 : Int))
    (h4 : sizeOK (List.length xo3 + List.length ([(IntKind.wrap .i64 (0 - (List.getD x0 (x4).toNat (0 : Int))))] : List Int)))
    {e : AEx} {st : St} (next : LoopSC cfg.P 1 (lb P_impl_inverseOf 0) (impl_inverseOf_L0a x0 (IntKind.wrap .i64 (x4 - (1 : Int))) (xo3 ++ ([(IntKind.wrap .i64 (0 - (List.getD x0 (x4).toNat (0 : Int))))] : List Int))) e st) :
    LoopSC cfg.P 1 (lb P_impl_inverseOf 0) (impl_inverseOf_L0a x0 x4 xo3) e st :=
  loop_iter cfgOK (f := i_impl_inverseOf) (its := [.bool true])
    (ps := [decide (x4 ≥ (0 : Int)) = true,
      0 ≤ x4,
      x4 < (List.length x0 : Int),
      sizeOK (List.length xo3 + List.length ([(IntKind.wrap .i64 (0 - (List.getD x0 (x4).toNat (0 : Int))))] : List Int))]) (st1 := impl_inverseOf_L0a x0 (IntKind.wrap .i64 (x4 - (1 : Int))) (xo3 ++ ([(IntKind.wrap .i64 (0 - (List.getD x0 (x4).toNat (0 : Int))))] : List Int))) (by kernel_rfl) ⟨(decide_eq_true h1), h2, h3, h4, trivial⟩ next

theorem impl_inverseOf_L0a_x2 (x0 : (List Int)) (x4 : Int) (xo3 : (List Int))
    (h1 : ¬ (x4 ≥ (0 : Int))) :
    LoopSC cfg.P 1 (lb P_impl_inverseOf 0) (impl_inverseOf_L0a x0 x4 xo3) (.exit 0) (impl_inverseOf_L0X1 x0 x4 false xo3) :=
  loop_out cfgOK (f := i_impl_inverseOf) (its := [.bool false])
    (ps := [decide (x4 ≥ (0 : Int)) = false]) (by kernel_rfl) ⟨(decide_eq_false h1), trivial⟩ (fun h => by cases h)

theorem impl_inverseOf_p1 (a0 : (List Int)) (k1y0 : (List Int)) (k1y4 : Int) (k1y9 : Bool) (k1yo3 : (List Int))
    (h1 : LoopSC cfg.P 1 (lb P_impl_inverseOf 0) (impl_inverseOf_L0a a0 (IntKind.wrap .i64 (((List.length a0 : Nat) : Int) - (1 : Int))) ([] : List Int)) (.exit 0) (impl_inverseOf_L0X1 k1y0 k1y4 k1y9 k1yo3)) :
    SC cfg.P i_impl_inverseOf [.s (.v (.sl (.int .i64)) a0)] (.s (.own t_int (.int .i64) k1yo3)) [] :=
  SC_of_run cfgOK (its := [.loop (fun _ => (.exit 0, impl_inverseOf_L0X1 k1y0 k1y4 k1y9 k1yo3))])
    (ps := [LoopSC cfg.P 1 (lb P_impl_inverseOf 0) (impl_inverseOf_L0a a0 (IntKind.wrap .i64 (((List.length a0 : Nat) : Int) - (1 : Int))) ([] : List Int)) (.exit 0) (impl_inverseOf_L0X1 k1y0 k1y4 k1y9 k1yo3)]) (by kernel_rfl) ⟨h1, trivial⟩ get_impl_inverseOf (by decide)

/-! ### impl_forest_trimmed -/


def impl_forest_trimmed_L0a (x0 : (List Tr)) : St := mkSt 21 [(0, .s (.v (.sl .tree) x0))] []

def impl_forest_trimmed_L0X1 (y0 : (List Tr)) (y14 : Bool) : St := mkSt 21 [(0, .s (.v (.sl .tree) y0)), (14, .s (.v .bool y14))] []

theorem impl_forest_trimmed_L0a_i1 (x0 : (List Tr))
    (h1 : ((List.length x0 : Nat) : Int) > (0 : Int))
    (h2 : 0 ≤ (IntKind.wrap .i64 (((List.length x0 : Nat) : Int) - (1 : Int))))
    (h3 : (IntKind.wrap .i64 (((List.length x0 : Nat) : Int) - (1 : Int))) < (List.length x0 : Int))
    (h4 : ((List.getD x0 ((IntKind.wrap .i64 (((List.length x0 : Nat) : Int) - (1 : Int)))).toNat Tr.leaf)).isLeaf = true)
    (h5 : (IntKind.wrap .i64 (((List.length x0 : Nat) : Int) - (1 : Int))) ≤ (List.length x0 : Int))
    {e : AEx} {st : St} (next : LoopSC cfg.P 1 (lb P_impl_forest_trimmed 0) (impl_forest_trimmed_L0a (cutL x0 (0 : Int) (IntKind.wrap .i64 (((List.length x0 : Nat) : Int) - (1 : Int))))) e st) :
    LoopSC cfg.P 1 (lb P_impl_forest_trimmed 0) (impl_forest_trimmed_L0a x0) e st :=
  loop_iter cfgOK (f := i_impl_forest_trimmed) (its := [.bool true, .bool true])
    (ps := [decide (((List.length x0 : Nat) : Int) > (0 : Int)) = true,
      0 ≤ (IntKind.wrap .i64 (((List.length x0 : Nat) : Int) - (1 : Int))),
      (IntKind.wrap .i64 (((List.length x0 : Nat) : Int) - (1 : Int))) < (List.length x0 : Int),
      ((List.getD x0 ((IntKind.wrap .i64 (((List.length x0 : Nat) : Int) - (1 : Int)))).toNat Tr.leaf)).isLeaf = true,
      0 ≤ (IntKind.wrap .i64 (((List.length x0 : Nat) : Int) - (1 : Int))),
      (IntKind.wrap .i64 (((List.length x0 : Nat) : Int) - (1 : Int))) ≤ (List.length x0 : Int)]) (st1 := impl_forest_trimmed_L0a (cutL x0 (0 : Int) (IntKind.wrap .i64 (((List.length x0 : Nat) : Int) - (1 : Int))))) (by kernel_rfl) ⟨(decide_eq_true h1), h2, h3, h4, h2, h5, trivial⟩ next

theorem impl_forest_trimmed_L0a_x2 (x0 : (List Tr))
    (h1 : ((List.length x0 : Nat) : Int) > (0 : Int))
    (h2 : 0 ≤ (IntKind.wrap .i64 (((List.length x0 : Nat) : Int) - (1 : Int))))
    (h3 : (IntKind.wrap .i64 (((List.length x0 : Nat) : Int) - (1 : Int))) < (List.length x0 : Int))
    (h4 : ((List.getD x0 ((IntKind.wrap .i64 (((List.length x0 : Nat) : Int) - (1 : Int)))).toNat Tr.leaf)).isLeaf = false) :
    LoopSC cfg.P 1 (lb P_impl_forest_trimmed 0) (impl_forest_trimmed_L0a x0) (.exit 0) (impl_forest_trimmed_L0X1 x0 false) :=
  loop_out cfgOK (f := i_impl_forest_trimmed) (its := [.bool true, .bool false])
    (ps := [decide (((List.length x0 : Nat) : Int) > (0 : Int)) = true,
      0 ≤ (IntKind.wrap .i64 (((List.length x0 : Nat) : Int) - (1 : Int))),
      (IntKind.wrap .i64 (((List.length x0 : Nat) : Int) - (1 : Int))) < (List.length x0 : Int),
      ((List.getD x0 ((IntKind.wrap .i64 (((List.length x0 : Nat) : Int) - (1 : Int)))).toNat Tr.leaf)).isLeaf = false]) (by kernel_rfl) ⟨(decide_eq_true h1), h2, h3, h4, trivial⟩ (fun h => by cases h)

theorem impl_forest_trimmed_L0a_x3 (x0 : (List Tr))
    (h1 : ¬ (((List.length x0 : Nat) : Int) > (0 : Int))) :
    LoopSC cfg.P 1 (lb P_impl_forest_trimmed 0) (impl_forest_trimmed_L0a x0) (.exit 0) (impl_forest_trimmed_L0X1 x0 false) :=
  loop_out cfgOK (f := i_impl_forest_trimmed) (its := [.bool false])
    (ps := [decide (((List.length x0 : Nat) : Int) > (0 : Int)) = false]) (by kernel_rfl) ⟨(decide_eq_false h1), trivial⟩ (fun h => by cases h)

theorem impl_forest_trimmed_p1 (a0 : (List Tr)) (k1y0 : (List Tr)) (k1y14 : Bool)
    (h1 : LoopSC cfg.P 1 (lb P_impl_forest_trimmed 0) (impl_forest_trimmed_L0a a0) (.exit 0) (impl_forest_trimmed_L0X1 k1y0 k1y14)) :
    SC cfg.P i_impl_forest_trimmed [.s (.v (.sl .tree) a0)] (.s (.v (.sl .tree) k1y0)) [] :=
  SC_of_run cfgOK (its := [.loop (fun _ => (.exit 0, impl_forest_trimmed_L0X1 k1y0 k1y14))])
    (ps := [LoopSC cfg.P 1 (lb P_impl_forest_trimmed 0) (impl_forest_trimmed_L0a a0) (.exit 0) (impl_forest_trimmed_L0X1 k1y0 k1y14)]) (by kernel_rfl) ⟨h1, trivial⟩ get_impl_forest_trimmed (by decide)

/-! ### impl_isLetter -/


theorem impl_isLetter_p1 (a0 : Int)
    (h1 : a0 ≠ (0 : Int))
    (h2 : a0 ≥ (-21 : Int))
    (h3 : a0 ≤ (21 : Int)) :
    SC cfg.P i_impl_isLetter [.s (.v (.int .i64) a0)] (.s (.v .bool true)) [] :=
  SC_of_run cfgOK (its := [.bool true, .bool true, .bool true])
    (ps := [(a0 != (0 : Int)) = true,
      decide (a0 ≥ (-21 : Int)) = true,
      decide (a0 ≤ (21 : Int)) = true]) (by kernel_rfl) ⟨(bne_iff_ne.mpr h1), (decide_eq_true h2), (decide_eq_true h3), trivial⟩ get_impl_isLetter (by decide)

theorem impl_isLetter_p2 (a0 : Int)
    (h1 : a0 ≠ (0 : Int))
    (h2 : a0 ≥ (-21 : Int))
    (h3 : ¬ (a0 ≤ (21 : Int))) :
    SC cfg.P i_impl_isLetter [.s (.v (.int .i64) a0)] (.s (.v .bool false)) [] :=
  SC_of_run cfgOK (its := [.bool true, .bool true, .bool false])
    (ps := [(a0 != (0 : Int)) = true,
      decide (a0 ≥ (-21 : Int)) = true,
      decide (a0 ≤ (21 : Int)) = false]) (by kernel_rfl) ⟨(bne_iff_ne.mpr h1), (decide_eq_true h2), (decide_eq_false h3), trivial⟩ get_impl_isLetter (by decide)

theorem impl_isLetter_p3 (a0 : Int)
    (h1 : a0 ≠ (0 : Int))
    (h2 : ¬ (a0 ≥ (-21 : Int))) :
    SC cfg.P i_impl_isLetter [.s (.v (.int .i64) a0)] (.s (.v .bool false)) [] :=
  SC_of_run cfgOK (its := [.bool true, .bool false])
    (ps := [(a0 != (0 : Int)) = true,
      decide (a0 ≥ (-21 : Int)) = false]) (by kernel_rfl) ⟨(bne_iff_ne.mpr h1), (decide_eq_false h2), trivial⟩ get_impl_isLetter (by decide)

theorem impl_isLetter_p4 (a0 : Int)
    (h1 : a0 = (0 : Int)) :
    SC cfg.P i_impl_isLetter [.s (.v (.int .i64) a0)] (.s (.v .bool false)) [] :=
  SC_of_run cfgOK (its := [.bool false])
    (ps := [(a0 != (0 : Int)) = false]) (by kernel_rfl) ⟨(bne_eq_false_iff_eq.mpr h1), trivial⟩ get_impl_isLetter (by decide)

end Go.AI
