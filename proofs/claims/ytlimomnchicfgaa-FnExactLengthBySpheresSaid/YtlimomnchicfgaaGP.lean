/- A part of the road: what it proves stands in its last texts. -/
import Derived.Test.YtlimomnchicfgaaSIds
import Derived.Test.YtlimomnchicfgaaProg
set_option autoImplicit false
set_option maxRecDepth 100000
set_option linter.unusedVariables false
namespace Go.AI
open Go.Proofs

/-! ### spec_lnSpheres -/


def spec_lnSpheres_L0a (x0 : Int) (x4 : Int) (xo18 : (List (List ByteArray))) : St := mkSt 94 [(0, .s (.v (.int .i64) x0)), (3, .s (.osl 18 0)), (4, .s (.v (.int .i64) x4))] [(18, .row t_Sstring (.sl .str) xo18 0 false)]

def spec_lnSpheres_L1a (x0 : Int) (x4 : Int) (x28 : (List ByteArray)) (x29 : Int) (x30 : Int) (xo5 : (List ByteArray)) (xo18 : (List (List ByteArray))) : St := mkSt 94 [(0, .s (.v (.int .i64) x0)), (3, .s (.osl 18 0)), (4, .s (.v (.int .i64) x4)), (5, .s (.osl 5 0)), (28, .s (.v (.sl .str) x28)), (29, .s (.v (.int .i64) x29)), (30, .s (.v (.int .i64) x30))] [(5, .row t_string .str xo5 0 false), (18, .row t_Sstring (.sl .str) xo18 0 false)]

def spec_lnSpheres_L2a (x0 : Int) (x4 : Int) (x28 : (List ByteArray)) (x29 : Int) (x30 : Int) (x39 : (List Int)) (x40 : Int) (x41 : Int) (xo5 : (List ByteArray)) (xo8 : (ByteArray × ByteArray)) (xo18 : (List (List ByteArray))) : St := mkSt 94 [(0, .s (.v (.int .i64) x0)), (3, .s (.osl 18 0)), (4, .s (.v (.int .i64) x4)), (5, .s (.osl 5 0)), (8, .s (.adr 8 none)), (28, .s (.v (.sl .str) x28)), (29, .s (.v (.int .i64) x29)), (30, .s (.v (.int .i64) x30)), (39, .s (.v (.sl (.int .i64)) x39)), (40, .s (.v (.int .i64) x40)), (41, .s (.v (.int .i64) x41))] [(5, .row t_string .str xo5 0 false), (8, .box (.pr .str .str) xo8 false), (18, .row t_Sstring (.sl .str) xo18 0 false)]

def spec_lnSpheres_L2X1 (y0 : Int) (y4 : Int) (y28 : (List ByteArray)) (y29 : Int) (y30 : Int) (y39 : (List Int)) (y40 : Int) (y41 : Int) (y42 : Bool) (yo5 : (List ByteArray)) (yo8 : (ByteArray × ByteArray)) (yo18 : (List (List ByteArray))) : St := mkSt 94 [(0, .s (.v (.int .i64) y0)), (3, .s (.osl 18 0)), (4, .s (.v (.int .i64) y4)), (5, .s (.osl 5 0)), (8, .s (.adr 8 none)), (28, .s (.v (.sl .str) y28)), (29, .s (.v (.int .i64) y29)), (30, .s (.v (.int .i64) y30)), (39, .s (.v (.sl (.int .i64)) y39)), (40, .s (.v (.int .i64) y40)), (41, .s (.v (.int .i64) y41)), (42, .s (.v .bool y42))] [(5, .row t_string .str yo5 0 false), (8, .box (.pr .str .str) yo8 false), (18, .row t_Sstring (.sl .str) yo18 0 false)]

def spec_lnSpheres_L1X1 (y0 : Int) (y4 : Int) (y28 : (List ByteArray)) (y29 : Int) (y30 : Int) (y31 : Bool) (yo5 : (List ByteArray)) (yo18 : (List (List ByteArray))) : St := mkSt 94 [(0, .s (.v (.int .i64) y0)), (3, .s (.osl 18 0)), (4, .s (.v (.int .i64) y4)), (5, .s (.osl 5 0)), (28, .s (.v (.sl .str) y28)), (29, .s (.v (.int .i64) y29)), (30, .s (.v (.int .i64) y30)), (31, .s (.v .bool y31))] [(5, .row t_string .str yo5 0 false), (18, .row t_Sstring (.sl .str) yo18 0 false)]

def spec_lnSpheres_L3a (x0 : Int) (x4 : Int) (x57 : Int) (x58 : Int) (xo12 : (List ByteArray)) (xo18 : (List (List ByteArray))) (xo56 : (List ByteArray)) : St := mkSt 94 [(0, .s (.v (.int .i64) x0)), (3, .s (.osl 18 0)), (4, .s (.v (.int .i64) x4)), (12, .s (.osl 12 0)), (56, .s (.osl 56 0)), (57, .s (.v (.int .i64) x57)), (58, .s (.v (.int .i64) x58))] [(12, .row t_string .str xo12 0 false), (18, .row t_Sstring (.sl .str) xo18 0 false), (56, .row t_string .str xo56 0 false)]

def spec_lnSpheres_L3X1 (y0 : Int) (y4 : Int) (y57 : Int) (y58 : Int) (y59 : Bool) (yo12 : (List ByteArray)) (yo18 : (List (List ByteArray))) (yo56 : (List ByteArray)) : St := mkSt 94 [(0, .s (.v (.int .i64) y0)), (3, .s (.osl 18 0)), (4, .s (.v (.int .i64) y4)), (12, .s (.osl 12 0)), (56, .s (.osl 56 0)), (57, .s (.v (.int .i64) y57)), (58, .s (.v (.int .i64) y58)), (59, .s (.v .bool y59))] [(12, .row t_string .str yo12 0 false), (18, .row t_Sstring (.sl .str) yo18 0 false), (56, .row t_string .str yo56 0 false)]

def spec_lnSpheres_L0X1 (y0 : Int) (y4 : Int) (y21 : Bool) (yo18 : (List (List ByteArray))) : St := mkSt 94 [(0, .s (.v (.int .i64) y0)), (3, .s (.osl 18 0)), (4, .s (.v (.int .i64) y4)), (21, .s (.v .bool y21))] [(18, .row t_Sstring (.sl .str) yo18 0 false)]

theorem spec_lnSpheres_L0a_i1 (x0 : Int) (x4 : Int) (xo18 : (List (List ByteArray))) (dk1y0 : Int) (dk1y4 : Int) (dk1y28 : (List ByteArray)) (dk1y29 : Int) (dk1y30 : Int) (dk1y31 : Bool) (dk1yo5 : (List ByteArray)) (dk1yo18 : (List (List ByteArray))) (dc1 : (List ByteArray)) (dk2y0 : Int) (dk2y4 : Int) (dk2y57 : Int) (dk2y58 : Int) (dk2y59 : Bool) (dk2yo12 : (List ByteArray)) (dk2yo18 : (List (List ByteArray))) (dk2yo56 : (List ByteArray))
    (h1 : x4 ≤ x0)
    (h2 : 0 ≤ (IntKind.wrap .i64 (x4 - (1 : Int))))
    (h3 : (IntKind.wrap .i64 (x4 - (1 : Int))) < (List.length xo18 : Int))
    (h4 : ((IntKind.wrap .i64 (x4 - (1 : Int)))).toNat < List.length xo18)
    (h5 : LoopSC cfg.P 1 (lb P_spec_lnSpheres 1) (spec_lnSpheres_L1a x0 x4 (List.getD xo18 ((IntKind.wrap .i64 (x4 - (1 : Int)))).toNat ([] : List ByteArray)) ((List.length (List.getD xo18 ((IntKind.wrap .i64 (x4 - (1 : Int)))).toNat ([] : List ByteArray)) : Nat) : Int) (0 : Int) ([] : List ByteArray) xo18) (.exit 2) (spec_lnSpheres_L1X1 dk1y0 dk1y4 dk1y28 dk1y29 dk1y30 dk1y31 dk1yo5 dk1yo18))
    (h6 : SC cfg.P i_spec_lnSorted [.s (.v (.sl .str) dk1yo5)] (.s (.own t_string .str dc1)) [])
    (h7 : LoopSC cfg.P 1 (lb P_spec_lnSpheres 3) (spec_lnSpheres_L3a dk1y0 dk1y4 ((List.length dc1 : Nat) : Int) (0 : Int) ([] : List ByteArray) dk1yo18 dc1) (.exit 6) (spec_lnSpheres_L3X1 dk2y0 dk2y4 dk2y57 dk2y58 dk2y59 dk2yo12 dk2yo18 dk2yo56))
    (h8 : sizeOK (List.length dk2yo18 + List.length ([dk2yo12] : List (List ByteArray))))
    {e : AEx} {st : St} (next : LoopSC cfg.P 1 (lb P_spec_lnSpheres 0) (spec_lnSpheres_L0a dk2y0 (IntKind.wrap .i64 (dk2y4 + (1 : Int))) (dk2yo18 ++ ([dk2yo12] : List (List ByteArray)))) e st) :
    LoopSC cfg.P 1 (lb P_spec_lnSpheres 0) (spec_lnSpheres_L0a x0 x4 xo18) e st :=
  loop_iter cfgOK (f := i_spec_lnSpheres) (its := [.bool true, .loop (fun _ => (.exit 2, spec_lnSpheres_L1X1 dk1y0 dk1y4 dk1y28 dk1y29 dk1y30 dk1y31 dk1yo5 dk1yo18)), .res (.s (.own t_string .str dc1)) [] [] [56], .loop (fun _ => (.exit 6, spec_lnSpheres_L3X1 dk2y0 dk2y4 dk2y57 dk2y58 dk2y59 dk2yo12 dk2yo18 dk2yo56))])
    (ps := [decide (x4 ≤ x0) = true,
      0 ≤ (IntKind.wrap .i64 (x4 - (1 : Int))),
      (IntKind.wrap .i64 (x4 - (1 : Int))) < (List.length xo18 : Int),
      ((IntKind.wrap .i64 (x4 - (1 : Int)))).toNat < List.length xo18,
      LoopSC cfg.P 1 (lb P_spec_lnSpheres 1) (spec_lnSpheres_L1a x0 x4 (List.getD xo18 ((IntKind.wrap .i64 (x4 - (1 : Int)))).toNat ([] : List ByteArray)) ((List.length (List.getD xo18 ((IntKind.wrap .i64 (x4 - (1 : Int)))).toNat ([] : List ByteArray)) : Nat) : Int) (0 : Int) ([] : List ByteArray) xo18) (.exit 2) (spec_lnSpheres_L1X1 dk1y0 dk1y4 dk1y28 dk1y29 dk1y30 dk1y31 dk1yo5 dk1yo18),
      SC cfg.P i_spec_lnSorted [.s (.v (.sl .str) dk1yo5)] (.s (.own t_string .str dc1)) [],
      LoopSC cfg.P 1 (lb P_spec_lnSpheres 3) (spec_lnSpheres_L3a dk1y0 dk1y4 ((List.length dc1 : Nat) : Int) (0 : Int) ([] : List ByteArray) dk1yo18 dc1) (.exit 6) (spec_lnSpheres_L3X1 dk2y0 dk2y4 dk2y57 dk2y58 dk2y59 dk2yo12 dk2yo18 dk2yo56),
      sizeOK (List.length dk2yo18 + List.length ([dk2yo12] : List (List ByteArray)))]) (st1 := spec_lnSpheres_L0a dk2y0 (IntKind.wrap .i64 (dk2y4 + (1 : Int))) (dk2yo18 ++ ([dk2yo12] : List (List ByteArray)))) (by kernel_rfl) ⟨(decide_eq_true h1), h2, h3, h4, h5, h6, h7, h8, trivial⟩ next

theorem spec_lnSpheres_L0a_x2 (x0 : Int) (x4 : Int) (xo18 : (List (List ByteArray)))
    (h1 : ¬ (x4 ≤ x0)) :
    LoopSC cfg.P 1 (lb P_spec_lnSpheres 0) (spec_lnSpheres_L0a x0 x4 xo18) (.exit 0) (spec_lnSpheres_L0X1 x0 x4 false xo18) :=
  loop_out cfgOK (f := i_spec_lnSpheres) (its := [.bool false])
    (ps := [decide (x4 ≤ x0) = false]) (by kernel_rfl) ⟨(decide_eq_false h1), trivial⟩ (fun h => by cases h)

theorem spec_lnSpheres_L1a_i1 (x0 : Int) (x4 : Int) (x28 : (List ByteArray)) (x29 : Int) (x30 : Int) (xo5 : (List ByteArray)) (xo18 : (List (List ByteArray))) (dc1a : (ByteArray × ByteArray)) (dc1b : Bool) (dc2 : (List Int)) (dk1y0 : Int) (dk1y4 : Int) (dk1y28 : (List ByteArray)) (dk1y29 : Int) (dk1y30 : Int) (dk1y39 : (List Int)) (dk1y40 : Int) (dk1y41 : Int) (dk1y42 : Bool) (dk1yo5 : (List ByteArray)) (dk1yo8 : (ByteArray × ByteArray)) (dk1yo18 : (List (List ByteArray)))
    (h1 : x30 < x29)
    (h2 : 0 ≤ x30)
    (h3 : x30 < (List.length x28 : Int))
    (h4 : SC cfg.P i_spec_prParse [.s (.v .str (List.getD x28 (x30).toNat (⟨#[]⟩ : ByteArray)))] (.tup [.v (.pr .str .str) dc1a, .v .bool dc1b]) [])
    (h5 : SC cfg.P i_spec_lnLetters [] (.s (.v (.sl (.int .i64)) dc2)) [])
    (h6 : LoopSC cfg.P 1 (lb P_spec_lnSpheres 2) (spec_lnSpheres_L2a x0 x4 x28 x29 x30 dc2 ((List.length dc2 : Nat) : Int) (0 : Int) xo5 dc1a xo18) (.exit 4) (spec_lnSpheres_L2X1 dk1y0 dk1y4 dk1y28 dk1y29 dk1y30 dk1y39 dk1y40 dk1y41 dk1y42 dk1yo5 dk1yo8 dk1yo18))
    {e : AEx} {st : St} (next : LoopSC cfg.P 1 (lb P_spec_lnSpheres 1) (spec_lnSpheres_L1a dk1y0 dk1y4 dk1y28 dk1y29 (IntKind.wrap .i64 (dk1y30 + (1 : Int))) dk1yo5 dk1yo18) e st) :
    LoopSC cfg.P 1 (lb P_spec_lnSpheres 1) (spec_lnSpheres_L1a x0 x4 x28 x29 x30 xo5 xo18) e st :=
  loop_iter cfgOK (f := i_spec_lnSpheres) (its := [.bool true, .res (.tup [.v (.pr .str .str) dc1a, .v .bool dc1b]) [] [] [], .res (.s (.v (.sl (.int .i64)) dc2)) [] [] [], .loop (fun _ => (.exit 4, spec_lnSpheres_L2X1 dk1y0 dk1y4 dk1y28 dk1y29 dk1y30 dk1y39 dk1y40 dk1y41 dk1y42 dk1yo5 dk1yo8 dk1yo18))])
    (ps := [decide (x30 < x29) = true,
      0 ≤ x30,
      x30 < (List.length x28 : Int),
      SC cfg.P i_spec_prParse [.s (.v .str (List.getD x28 (x30).toNat (⟨#[]⟩ : ByteArray)))] (.tup [.v (.pr .str .str) dc1a, .v .bool dc1b]) [],
      SC cfg.P i_spec_lnLetters [] (.s (.v (.sl (.int .i64)) dc2)) [],
      LoopSC cfg.P 1 (lb P_spec_lnSpheres 2) (spec_lnSpheres_L2a x0 x4 x28 x29 x30 dc2 ((List.length dc2 : Nat) : Int) (0 : Int) xo5 dc1a xo18) (.exit 4) (spec_lnSpheres_L2X1 dk1y0 dk1y4 dk1y28 dk1y29 dk1y30 dk1y39 dk1y40 dk1y41 dk1y42 dk1yo5 dk1yo8 dk1yo18)]) (st1 := spec_lnSpheres_L1a dk1y0 dk1y4 dk1y28 dk1y29 (IntKind.wrap .i64 (dk1y30 + (1 : Int))) dk1yo5 dk1yo18) (by kernel_rfl) ⟨(decide_eq_true h1), h2, h3, h4, h5, h6, trivial⟩ next

theorem spec_lnSpheres_L1a_x2 (x0 : Int) (x4 : Int) (x28 : (List ByteArray)) (x29 : Int) (x30 : Int) (xo5 : (List ByteArray)) (xo18 : (List (List ByteArray)))
    (h1 : ¬ (x30 < x29)) :
    LoopSC cfg.P 1 (lb P_spec_lnSpheres 1) (spec_lnSpheres_L1a x0 x4 x28 x29 x30 xo5 xo18) (.exit 2) (spec_lnSpheres_L1X1 x0 x4 x28 x29 x30 false xo5 xo18) :=
  loop_out cfgOK (f := i_spec_lnSpheres) (its := [.bool false])
    (ps := [decide (x30 < x29) = false]) (by kernel_rfl) ⟨(decide_eq_false h1), trivial⟩ (fun h => by cases h)

theorem spec_lnSpheres_L2a_i1 (x0 : Int) (x4 : Int) (x28 : (List ByteArray)) (x29 : Int) (x30 : Int) (x39 : (List Int)) (x40 : Int) (x41 : Int) (xo5 : (List ByteArray)) (xo8 : (ByteArray × ByteArray)) (xo18 : (List (List ByteArray))) (dc1 : (ByteArray × ByteArray)) (dc2 : (ByteArray × ByteArray)) (dc3 : ByteArray)
    (h1 : x41 < x40)
    (h2 : 0 ≤ x41)
    (h3 : x41 < (List.length x39 : Int))
    (h4 : SC cfg.P i_spec_wdLetter [.s (.v (.int .i64) (List.getD x39 (x41).toNat (0 : Int)))] (.s (.v (.pr .str .str) dc1)) [])
    (h5 : SC cfg.P i_spec_prTimes [.s (.v (.pr .str .str) xo8), .s (.v (.pr .str .str) dc1)] (.s (.v (.pr .str .str) dc2)) [])
    (h6 : SC cfg.P i_spec_prText [.s (.v (.pr .str .str) dc2)] (.s (.v .str dc3)) [])
    (h7 : sizeOK (List.length xo5 + List.length ([dc3] : List ByteArray)))
    {e : AEx} {st : St} (next : LoopSC cfg.P 1 (lb P_spec_lnSpheres 2) (spec_lnSpheres_L2a x0 x4 x28 x29 x30 x39 x40 (IntKind.wrap .i64 (x41 + (1 : Int))) (xo5 ++ ([dc3] : List ByteArray)) xo8 xo18) e st) :
    LoopSC cfg.P 1 (lb P_spec_lnSpheres 2) (spec_lnSpheres_L2a x0 x4 x28 x29 x30 x39 x40 x41 xo5 xo8 xo18) e st :=
  loop_iter cfgOK (f := i_spec_lnSpheres) (its := [.bool true, .res (.s (.v (.pr .str .str) dc1)) [] [] [], .res (.s (.v (.pr .str .str) dc2)) [] [] [], .res (.s (.v .str dc3)) [] [] []])
    (ps := [decide (x41 < x40) = true,
      0 ≤ x41,
      x41 < (List.length x39 : Int),
      SC cfg.P i_spec_wdLetter [.s (.v (.int .i64) (List.getD x39 (x41).toNat (0 : Int)))] (.s (.v (.pr .str .str) dc1)) [],
      SC cfg.P i_spec_prTimes [.s (.v (.pr .str .str) xo8), .s (.v (.pr .str .str) dc1)] (.s (.v (.pr .str .str) dc2)) [],
      SC cfg.P i_spec_prText [.s (.v (.pr .str .str) dc2)] (.s (.v .str dc3)) [],
      sizeOK (List.length xo5 + List.length ([dc3] : List ByteArray))]) (st1 := spec_lnSpheres_L2a x0 x4 x28 x29 x30 x39 x40 (IntKind.wrap .i64 (x41 + (1 : Int))) (xo5 ++ ([dc3] : List ByteArray)) xo8 xo18) (by kernel_rfl) ⟨(decide_eq_true h1), h2, h3, h4, h5, h6, h7, trivial⟩ next

theorem spec_lnSpheres_L2a_x2 (x0 : Int) (x4 : Int) (x28 : (List ByteArray)) (x29 : Int) (x30 : Int) (x39 : (List Int)) (x40 : Int) (x41 : Int) (xo5 : (List ByteArray)) (xo8 : (ByteArray × ByteArray)) (xo18 : (List (List ByteArray)))
    (h1 : ¬ (x41 < x40)) :
    LoopSC cfg.P 1 (lb P_spec_lnSpheres 2) (spec_lnSpheres_L2a x0 x4 x28 x29 x30 x39 x40 x41 xo5 xo8 xo18) (.exit 4) (spec_lnSpheres_L2X1 x0 x4 x28 x29 x30 x39 x40 x41 false xo5 xo8 xo18) :=
  loop_out cfgOK (f := i_spec_lnSpheres) (its := [.bool false])
    (ps := [decide (x41 < x40) = false]) (by kernel_rfl) ⟨(decide_eq_false h1), trivial⟩ (fun h => by cases h)

theorem spec_lnSpheres_L3a_i1 (x0 : Int) (x4 : Int) (x57 : Int) (x58 : Int) (xo12 : (List ByteArray)) (xo18 : (List (List ByteArray))) (xo56 : (List ByteArray))
    (h1 : x58 < x57)
    (h2 : 0 ≤ x58)
    (h3 : x58 < (List.length xo56 : Int))
    (h4 : (x58).toNat < List.length xo56)
    (h5 : 0 ≤ (IntKind.wrap .i64 (x4 - (1 : Int))))
    (h6 : (IntKind.wrap .i64 (x4 - (1 : Int))) < (List.length xo18 : Int))
    (h7 : ((IntKind.wrap .i64 (x4 - (1 : Int)))).toNat < List.length xo18)
    (h8 : SC cfg.P i_spec_lnHas [.s (.v (.sl .str) (List.getD xo18 ((IntKind.wrap .i64 (x4 - (1 : Int)))).toNat ([] : List ByteArray))), .s (.v .str (List.getD xo56 (x58).toNat (⟨#[]⟩ : ByteArray)))] (.s (.v .bool true)) [])
    {e : AEx} {st : St} (next : LoopSC cfg.P 1 (lb P_spec_lnSpheres 3) (spec_lnSpheres_L3a x0 x4 x57 (IntKind.wrap .i64 (x58 + (1 : Int))) xo12 xo18 xo56) e st) :
    LoopSC cfg.P 1 (lb P_spec_lnSpheres 3) (spec_lnSpheres_L3a x0 x4 x57 x58 xo12 xo18 xo56) e st :=
  loop_iter cfgOK (f := i_spec_lnSpheres) (its := [.bool true, .res (.s (.v .bool true)) [] [] []])
    (ps := [decide (x58 < x57) = true,
      0 ≤ x58,
      x58 < (List.length xo56 : Int),
      (x58).toNat < List.length xo56,
      0 ≤ (IntKind.wrap .i64 (x4 - (1 : Int))),
      (IntKind.wrap .i64 (x4 - (1 : Int))) < (List.length xo18 : Int),
      ((IntKind.wrap .i64 (x4 - (1 : Int)))).toNat < List.length xo18,
      SC cfg.P i_spec_lnHas [.s (.v (.sl .str) (List.getD xo18 ((IntKind.wrap .i64 (x4 - (1 : Int)))).toNat ([] : List ByteArray))), .s (.v .str (List.getD xo56 (x58).toNat (⟨#[]⟩ : ByteArray)))] (.s (.v .bool true)) []]) (st1 := spec_lnSpheres_L3a x0 x4 x57 (IntKind.wrap .i64 (x58 + (1 : Int))) xo12 xo18 xo56) (by kernel_rfl) ⟨(decide_eq_true h1), h2, h3, h4, h5, h6, h7, h8, trivial⟩ next

theorem spec_lnSpheres_L3a_i2 (x0 : Int) (x4 : Int) (x57 : Int) (x58 : Int) (xo12 : (List ByteArray)) (xo18 : (List (List ByteArray))) (xo56 : (List ByteArray))
    (h1 : x58 < x57)
    (h2 : 0 ≤ x58)
    (h3 : x58 < (List.length xo56 : Int))
    (h4 : (x58).toNat < List.length xo56)
    (h5 : 0 ≤ (IntKind.wrap .i64 (x4 - (1 : Int))))
    (h6 : (IntKind.wrap .i64 (x4 - (1 : Int))) < (List.length xo18 : Int))
    (h7 : ((IntKind.wrap .i64 (x4 - (1 : Int)))).toNat < List.length xo18)
    (h8 : SC cfg.P i_spec_lnHas [.s (.v (.sl .str) (List.getD xo18 ((IntKind.wrap .i64 (x4 - (1 : Int)))).toNat ([] : List ByteArray))), .s (.v .str (List.getD xo56 (x58).toNat (⟨#[]⟩ : ByteArray)))] (.s (.v .bool false)) [])
    (h9 : x4 < (2 : Int))
    (h10 : sizeOK (List.length xo12 + List.length ([(List.getD xo56 (x58).toNat (⟨#[]⟩ : ByteArray))] : List ByteArray)))
    {e : AEx} {st : St} (next : LoopSC cfg.P 1 (lb P_spec_lnSpheres 3) (spec_lnSpheres_L3a x0 x4 x57 (IntKind.wrap .i64 (x58 + (1 : Int))) (xo12 ++ ([(List.getD xo56 (x58).toNat (⟨#[]⟩ : ByteArray))] : List ByteArray)) xo18 xo56) e st) :
    LoopSC cfg.P 1 (lb P_spec_lnSpheres 3) (spec_lnSpheres_L3a x0 x4 x57 x58 xo12 xo18 xo56) e st :=
  loop_iter cfgOK (f := i_spec_lnSpheres) (its := [.bool true, .res (.s (.v .bool false)) [] [] [], .bool true])
    (ps := [decide (x58 < x57) = true,
      0 ≤ x58,
      x58 < (List.length xo56 : Int),
      (x58).toNat < List.length xo56,
      0 ≤ (IntKind.wrap .i64 (x4 - (1 : Int))),
      (IntKind.wrap .i64 (x4 - (1 : Int))) < (List.length xo18 : Int),
      ((IntKind.wrap .i64 (x4 - (1 : Int)))).toNat < List.length xo18,
      SC cfg.P i_spec_lnHas [.s (.v (.sl .str) (List.getD xo18 ((IntKind.wrap .i64 (x4 - (1 : Int)))).toNat ([] : List ByteArray))), .s (.v .str (List.getD xo56 (x58).toNat (⟨#[]⟩ : ByteArray)))] (.s (.v .bool false)) [],
      decide (x4 < (2 : Int)) = true,
      sizeOK (List.length xo12 + List.length ([(List.getD xo56 (x58).toNat (⟨#[]⟩ : ByteArray))] : List ByteArray))]) (st1 := spec_lnSpheres_L3a x0 x4 x57 (IntKind.wrap .i64 (x58 + (1 : Int))) (xo12 ++ ([(List.getD xo56 (x58).toNat (⟨#[]⟩ : ByteArray))] : List ByteArray)) xo18 xo56) (by kernel_rfl) ⟨(decide_eq_true h1), h2, h3, h4, h5, h6, h7, h8, (decide_eq_true h9), h10, trivial⟩ next

theorem spec_lnSpheres_L3a_i3 (x0 : Int) (x4 : Int) (x57 : Int) (x58 : Int) (xo12 : (List ByteArray)) (xo18 : (List (List ByteArray))) (xo56 : (List ByteArray))
    (h1 : x58 < x57)
    (h2 : 0 ≤ x58)
    (h3 : x58 < (List.length xo56 : Int))
    (h4 : (x58).toNat < List.length xo56)
    (h5 : 0 ≤ (IntKind.wrap .i64 (x4 - (1 : Int))))
    (h6 : (IntKind.wrap .i64 (x4 - (1 : Int))) < (List.length xo18 : Int))
    (h7 : ((IntKind.wrap .i64 (x4 - (1 : Int)))).toNat < List.length xo18)
    (h8 : SC cfg.P i_spec_lnHas [.s (.v (.sl .str) (List.getD xo18 ((IntKind.wrap .i64 (x4 - (1 : Int)))).toNat ([] : List ByteArray))), .s (.v .str (List.getD xo56 (x58).toNat (⟨#[]⟩ : ByteArray)))] (.s (.v .bool false)) [])
    (h9 : ¬ (x4 < (2 : Int)))
    (h10 : 0 ≤ (IntKind.wrap .i64 (x4 - (2 : Int))))
    (h11 : (IntKind.wrap .i64 (x4 - (2 : Int))) < (List.length xo18 : Int))
    (h12 : ((IntKind.wrap .i64 (x4 - (2 : Int)))).toNat < List.length xo18)
    (h13 : SC cfg.P i_spec_lnHas [.s (.v (.sl .str) (List.getD xo18 ((IntKind.wrap .i64 (x4 - (2 : Int)))).toNat ([] : List ByteArray))), .s (.v .str (List.getD xo56 (x58).toNat (⟨#[]⟩ : ByteArray)))] (.s (.v .bool true)) [])
    {e : AEx} {st : St} (next : LoopSC cfg.P 1 (lb P_spec_lnSpheres 3) (spec_lnSpheres_L3a x0 x4 x57 (IntKind.wrap .i64 (x58 + (1 : Int))) xo12 xo18 xo56) e st) :
    LoopSC cfg.P 1 (lb P_spec_lnSpheres 3) (spec_lnSpheres_L3a x0 x4 x57 x58 xo12 xo18 xo56) e st :=
  loop_iter cfgOK (f := i_spec_lnSpheres) (its := [.bool true, .res (.s (.v .bool false)) [] [] [], .bool false, .res (.s (.v .bool true)) [] [] []])
    (ps := [decide (x58 < x57) = true,
      0 ≤ x58,
      x58 < (List.length xo56 : Int),
      (x58).toNat < List.length xo56,
      0 ≤ (IntKind.wrap .i64 (x4 - (1 : Int))),
      (IntKind.wrap .i64 (x4 - (1 : Int))) < (List.length xo18 : Int),
      ((IntKind.wrap .i64 (x4 - (1 : Int)))).toNat < List.length xo18,
      SC cfg.P i_spec_lnHas [.s (.v (.sl .str) (List.getD xo18 ((IntKind.wrap .i64 (x4 - (1 : Int)))).toNat ([] : List ByteArray))), .s (.v .str (List.getD xo56 (x58).toNat (⟨#[]⟩ : ByteArray)))] (.s (.v .bool false)) [],
      decide (x4 < (2 : Int)) = false,
      0 ≤ (IntKind.wrap .i64 (x4 - (2 : Int))),
      (IntKind.wrap .i64 (x4 - (2 : Int))) < (List.length xo18 : Int),
      ((IntKind.wrap .i64 (x4 - (2 : Int)))).toNat < List.length xo18,
      SC cfg.P i_spec_lnHas [.s (.v (.sl .str) (List.getD xo18 ((IntKind.wrap .i64 (x4 - (2 : Int)))).toNat ([] : List ByteArray))), .s (.v .str (List.getD xo56 (x58).toNat (⟨#[]⟩ : ByteArray)))] (.s (.v .bool true)) []]) (st1 := spec_lnSpheres_L3a x0 x4 x57 (IntKind.wrap .i64 (x58 + (1 : Int))) xo12 xo18 xo56) (by kernel_rfl) ⟨(decide_eq_true h1), h2, h3, h4, h5, h6, h7, h8, (decide_eq_false h9), h10, h11, h12, h13, trivial⟩ next

theorem spec_lnSpheres_L3a_i4 (x0 : Int) (x4 : Int) (x57 : Int) (x58 : Int) (xo12 : (List ByteArray)) (xo18 : (List (List ByteArray))) (xo56 : (List ByteArray))
    (h1 : x58 < x57)
    (h2 : 0 ≤ x58)
    (h3 : x58 < (List.length xo56 : Int))
    (h4 : (x58).toNat < List.length xo56)
    (h5 : 0 ≤ (IntKind.wrap .i64 (x4 - (1 : Int))))
    (h6 : (IntKind.wrap .i64 (x4 - (1 : Int))) < (List.length xo18 : Int))
    (h7 : ((IntKind.wrap .i64 (x4 - (1 : Int)))).toNat < List.length xo18)
    (h8 : SC cfg.P i_spec_lnHas [.s (.v (.sl .str) (List.getD xo18 ((IntKind.wrap .i64 (x4 - (1 : Int)))).toNat ([] : List ByteArray))), .s (.v .str (List.getD xo56 (x58).toNat (⟨#[]⟩ : ByteArray)))] (.s (.v .bool false)) [])
    (h9 : ¬ (x4 < (2 : Int)))
    (h10 : 0 ≤ (IntKind.wrap .i64 (x4 - (2 : Int))))
    (h11 : (IntKind.wrap .i64 (x4 - (2 : Int))) < (List.length xo18 : Int))
    (h12 : ((IntKind.wrap .i64 (x4 - (2 : Int)))).toNat < List.length xo18)
    (h13 : SC cfg.P i_spec_lnHas [.s (.v (.sl .str) (List.getD xo18 ((IntKind.wrap .i64 (x4 - (2 : Int)))).toNat ([] : List ByteArray))), .s (.v .str (List.getD xo56 (x58).toNat (⟨#[]⟩ : ByteArray)))] (.s (.v .bool false)) [])
    (h14 : sizeOK (List.length xo12 + List.length ([(List.getD xo56 (x58).toNat (⟨#[]⟩ : ByteArray))] : List ByteArray)))
    {e : AEx} {st : St} (next : LoopSC cfg.P 1 (lb P_spec_lnSpheres 3) (spec_lnSpheres_L3a x0 x4 x57 (IntKind.wrap .i64 (x58 + (1 : Int))) (xo12 ++ ([(List.getD xo56 (x58).toNat (⟨#[]⟩ : ByteArray))] : List ByteArray)) xo18 xo56) e st) :
    LoopSC cfg.P 1 (lb P_spec_lnSpheres 3) (spec_lnSpheres_L3a x0 x4 x57 x58 xo12 xo18 xo56) e st :=
  loop_iter cfgOK (f := i_spec_lnSpheres) (its := [.bool true, .res (.s (.v .bool false)) [] [] [], .bool false, .res (.s (.v .bool false)) [] [] []])
    (ps := [decide (x58 < x57) = true,
      0 ≤ x58,
      x58 < (List.length xo56 : Int),
      (x58).toNat < List.length xo56,
      0 ≤ (IntKind.wrap .i64 (x4 - (1 : Int))),
      (IntKind.wrap .i64 (x4 - (1 : Int))) < (List.length xo18 : Int),
      ((IntKind.wrap .i64 (x4 - (1 : Int)))).toNat < List.length xo18,
      SC cfg.P i_spec_lnHas [.s (.v (.sl .str) (List.getD xo18 ((IntKind.wrap .i64 (x4 - (1 : Int)))).toNat ([] : List ByteArray))), .s (.v .str (List.getD xo56 (x58).toNat (⟨#[]⟩ : ByteArray)))] (.s (.v .bool false)) [],
      decide (x4 < (2 : Int)) = false,
      0 ≤ (IntKind.wrap .i64 (x4 - (2 : Int))),
      (IntKind.wrap .i64 (x4 - (2 : Int))) < (List.length xo18 : Int),
      ((IntKind.wrap .i64 (x4 - (2 : Int)))).toNat < List.length xo18,
      SC cfg.P i_spec_lnHas [.s (.v (.sl .str) (List.getD xo18 ((IntKind.wrap .i64 (x4 - (2 : Int)))).toNat ([] : List ByteArray))), .s (.v .str (List.getD xo56 (x58).toNat (⟨#[]⟩ : ByteArray)))] (.s (.v .bool false)) [],
      sizeOK (List.length xo12 + List.length ([(List.getD xo56 (x58).toNat (⟨#[]⟩ : ByteArray))] : List ByteArray))]) (st1 := spec_lnSpheres_L3a x0 x4 x57 (IntKind.wrap .i64 (x58 + (1 : Int))) (xo12 ++ ([(List.getD xo56 (x58).toNat (⟨#[]⟩ : ByteArray))] : List ByteArray)) xo18 xo56) (by kernel_rfl) ⟨(decide_eq_true h1), h2, h3, h4, h5, h6, h7, h8, (decide_eq_false h9), h10, h11, h12, h13, h14, trivial⟩ next

theorem spec_lnSpheres_L3a_x5 (x0 : Int) (x4 : Int) (x57 : Int) (x58 : Int) (xo12 : (List ByteArray)) (xo18 : (List (List ByteArray))) (xo56 : (List ByteArray))
    (h1 : ¬ (x58 < x57)) :
    LoopSC cfg.P 1 (lb P_spec_lnSpheres 3) (spec_lnSpheres_L3a x0 x4 x57 x58 xo12 xo18 xo56) (.exit 6) (spec_lnSpheres_L3X1 x0 x4 x57 x58 false xo12 xo18 xo56) :=
  loop_out cfgOK (f := i_spec_lnSpheres) (its := [.bool false])
    (ps := [decide (x58 < x57) = false]) (by kernel_rfl) ⟨(decide_eq_false h1), trivial⟩ (fun h => by cases h)

theorem spec_lnSpheres_p1 (a0 : Int) (c1 : (ByteArray × ByteArray)) (c2 : ByteArray) (k1y0 : Int) (k1y4 : Int) (k1y21 : Bool) (k1yo18 : (List (List ByteArray)))
    (h1 : SC cfg.P i_spec_prUnit [] (.s (.v (.pr .str .str) c1)) [])
    (h2 : SC cfg.P i_spec_prText [.s (.v (.pr .str .str) c1)] (.s (.v .str c2)) [])
    (h3 : LoopSC cfg.P 1 (lb P_spec_lnSpheres 0) (spec_lnSpheres_L0a a0 (1 : Int) ([([c2] : List ByteArray)] : List (List ByteArray))) (.exit 0) (spec_lnSpheres_L0X1 k1y0 k1y4 k1y21 k1yo18)) :
    SC cfg.P i_spec_lnSpheres [.s (.v (.int .i64) a0)] (.s (.own t_Sstring (.sl .str) k1yo18)) [] :=
  SC_of_run cfgOK (its := [.res (.s (.v (.pr .str .str) c1)) [] [] [], .res (.s (.v .str c2)) [] [] [], .loop (fun _ => (.exit 0, spec_lnSpheres_L0X1 k1y0 k1y4 k1y21 k1yo18))])
    (ps := [SC cfg.P i_spec_prUnit [] (.s (.v (.pr .str .str) c1)) [],
      SC cfg.P i_spec_prText [.s (.v (.pr .str .str) c1)] (.s (.v .str c2)) [],
      LoopSC cfg.P 1 (lb P_spec_lnSpheres 0) (spec_lnSpheres_L0a a0 (1 : Int) ([([c2] : List ByteArray)] : List (List ByteArray))) (.exit 0) (spec_lnSpheres_L0X1 k1y0 k1y4 k1y21 k1yo18)]) (by kernel_rfl) ⟨h1, h2, h3, trivial⟩ get_spec_lnSpheres (by decide)

/-! ### impl_spheres -/


def impl_spheres_L0a (x17 : Int) (x18 : Int) (xo12 : (List (ByteArray × Bool))) (xo16 : (List (List (Tr × Tr)))) : St := mkSt 59 [(3, .s (.omp 12)), (4, .s (.osl 16 0)), (17, .s (.v (.int .i64) x17)), (18, .s (.v (.int .i64) x18))] [(12, .mp .bool xo12 false), (16, .row t_Simpl_pair (.sl (.pr .tree .tree)) xo16 0 false)]

def impl_spheres_L1a (x17 : Int) (x18 : Int) (x25 : (List (Tr × Tr))) (x26 : Int) (x27 : Int) (xo5 : (List (Tr × Tr))) (xo12 : (List (ByteArray × Bool))) (xo16 : (List (List (Tr × Tr)))) : St := mkSt 59 [(3, .s (.omp 12)), (4, .s (.osl 16 0)), (5, .s (.osl 5 0)), (17, .s (.v (.int .i64) x17)), (18, .s (.v (.int .i64) x18)), (25, .s (.v (.sl (.pr .tree .tree)) x25)), (26, .s (.v (.int .i64) x26)), (27, .s (.v (.int .i64) x27))] [(5, .row t_impl_pair (.pr .tree .tree) xo5 0 false), (12, .mp .bool xo12 false), (16, .row t_Simpl_pair (.sl (.pr .tree .tree)) xo16 0 false)]

def impl_spheres_L2a (x17 : Int) (x18 : Int) (x25 : (List (Tr × Tr))) (x26 : Int) (x27 : Int) (x31 : (List Int)) (x32 : Int) (xo5 : (List (Tr × Tr))) (xo7 : (Tr × Tr)) (xo12 : (List (ByteArray × Bool))) (xo16 : (List (List (Tr × Tr)))) : St := mkSt 59 [(3, .s (.omp 12)), (4, .s (.osl 16 0)), (5, .s (.osl 5 0)), (7, .s (.adr 7 none)), (17, .s (.v (.int .i64) x17)), (18, .s (.v (.int .i64) x18)), (25, .s (.v (.sl (.pr .tree .tree)) x25)), (26, .s (.v (.int .i64) x26)), (27, .s (.v (.int .i64) x27)), (31, .s (.v (.arr 2 (.int .i64)) x31)), (32, .s (.v (.int .i64) x32))] [(5, .row t_impl_pair (.pr .tree .tree) xo5 0 false), (7, .box (.pr .tree .tree) xo7 false), (12, .mp .bool xo12 false), (16, .row t_Simpl_pair (.sl (.pr .tree .tree)) xo16 0 false)]

def impl_spheres_L2X1 (y17 : Int) (y18 : Int) (y25 : (List (Tr × Tr))) (y26 : Int) (y27 : Int) (y31 : (List Int)) (y32 : Int) (y33 : Bool) (yo5 : (List (Tr × Tr))) (yo7 : (Tr × Tr)) (yo12 : (List (ByteArray × Bool))) (yo16 : (List (List (Tr × Tr)))) : St := mkSt 59 [(3, .s (.omp 12)), (4, .s (.osl 16 0)), (5, .s (.osl 5 0)), (7, .s (.adr 7 none)), (17, .s (.v (.int .i64) y17)), (18, .s (.v (.int .i64) y18)), (25, .s (.v (.sl (.pr .tree .tree)) y25)), (26, .s (.v (.int .i64) y26)), (27, .s (.v (.int .i64) y27)), (31, .s (.v (.arr 2 (.int .i64)) y31)), (32, .s (.v (.int .i64) y32)), (33, .s (.v .bool y33))] [(5, .row t_impl_pair (.pr .tree .tree) yo5 0 false), (7, .box (.pr .tree .tree) yo7 false), (12, .mp .bool yo12 false), (16, .row t_Simpl_pair (.sl (.pr .tree .tree)) yo16 0 false)]

def impl_spheres_L1X1 (y17 : Int) (y18 : Int) (y25 : (List (Tr × Tr))) (y26 : Int) (y27 : Int) (y28 : Bool) (yo5 : (List (Tr × Tr))) (yo12 : (List (ByteArray × Bool))) (yo16 : (List (List (Tr × Tr)))) : St := mkSt 59 [(3, .s (.omp 12)), (4, .s (.osl 16 0)), (5, .s (.osl 5 0)), (17, .s (.v (.int .i64) y17)), (18, .s (.v (.int .i64) y18)), (25, .s (.v (.sl (.pr .tree .tree)) y25)), (26, .s (.v (.int .i64) y26)), (27, .s (.v (.int .i64) y27)), (28, .s (.v .bool y28))] [(5, .row t_impl_pair (.pr .tree .tree) yo5 0 false), (12, .mp .bool yo12 false), (16, .row t_Simpl_pair (.sl (.pr .tree .tree)) yo16 0 false)]

def impl_spheres_L0X1 (y17 : Int) (y18 : Int) (y19 : Bool) (yo12 : (List (ByteArray × Bool))) (yo16 : (List (List (Tr × Tr)))) : St := mkSt 59 [(3, .s (.omp 12)), (4, .s (.osl 16 0)), (17, .s (.v (.int .i64) y17)), (18, .s (.v (.int .i64) y18)), (19, .s (.v .bool y19))] [(12, .mp .bool yo12 false), (16, .row t_Simpl_pair (.sl (.pr .tree .tree)) yo16 0 false)]

theorem impl_spheres_L0a_i1 (x17 : Int) (x18 : Int) (xo12 : (List (ByteArray × Bool))) (xo16 : (List (List (Tr × Tr)))) (dk1y17 : Int) (dk1y18 : Int) (dk1y25 : (List (Tr × Tr))) (dk1y26 : Int) (dk1y27 : Int) (dk1y28 : Bool) (dk1yo5 : (List (Tr × Tr))) (dk1yo12 : (List (ByteArray × Bool))) (dk1yo16 : (List (List (Tr × Tr))))
    (h1 : x18 < x17)
    (h2 : 0 ≤ (IntKind.wrap .i64 (((List.length xo16 : Nat) : Int) - (1 : Int))))
    (h3 : (IntKind.wrap .i64 (((List.length xo16 : Nat) : Int) - (1 : Int))) < (List.length xo16 : Int))
    (h4 : ((IntKind.wrap .i64 (((List.length xo16 : Nat) : Int) - (1 : Int)))).toNat < List.length xo16)
    (h5 : LoopSC cfg.P 1 (lb P_impl_spheres 1) (impl_spheres_L1a x17 x18 (List.getD xo16 ((IntKind.wrap .i64 (((List.length xo16 : Nat) : Int) - (1 : Int)))).toNat ([] : List (Tr × Tr))) ((List.length (List.getD xo16 ((IntKind.wrap .i64 (((List.length xo16 : Nat) : Int) - (1 : Int)))).toNat ([] : List (Tr × Tr))) : Nat) : Int) (0 : Int) ([] : List (Tr × Tr)) xo12 xo16) (.exit 2) (impl_spheres_L1X1 dk1y17 dk1y18 dk1y25 dk1y26 dk1y27 dk1y28 dk1yo5 dk1yo12 dk1yo16))
    (h6 : sizeOK (List.length dk1yo16 + List.length ([dk1yo5] : List (List (Tr × Tr)))))
    {e : AEx} {st : St} (next : LoopSC cfg.P 1 (lb P_impl_spheres 0) (impl_spheres_L0a dk1y17 (IntKind.wrap .i64 (dk1y18 + (1 : Int))) dk1yo12 (dk1yo16 ++ ([dk1yo5] : List (List (Tr × Tr))))) e st) :
    LoopSC cfg.P 1 (lb P_impl_spheres 0) (impl_spheres_L0a x17 x18 xo12 xo16) e st :=
  loop_iter cfgOK (f := i_impl_spheres) (its := [.bool true, .loop (fun _ => (.exit 2, impl_spheres_L1X1 dk1y17 dk1y18 dk1y25 dk1y26 dk1y27 dk1y28 dk1yo5 dk1yo12 dk1yo16))])
    (ps := [decide (x18 < x17) = true,
      0 ≤ (IntKind.wrap .i64 (((List.length xo16 : Nat) : Int) - (1 : Int))),
      (IntKind.wrap .i64 (((List.length xo16 : Nat) : Int) - (1 : Int))) < (List.length xo16 : Int),
      ((IntKind.wrap .i64 (((List.length xo16 : Nat) : Int) - (1 : Int)))).toNat < List.length xo16,
      LoopSC cfg.P 1 (lb P_impl_spheres 1) (impl_spheres_L1a x17 x18 (List.getD xo16 ((IntKind.wrap .i64 (((List.length xo16 : Nat) : Int) - (1 : Int)))).toNat ([] : List (Tr × Tr))) ((List.length (List.getD xo16 ((IntKind.wrap .i64 (((List.length xo16 : Nat) : Int) - (1 : Int)))).toNat ([] : List (Tr × Tr))) : Nat) : Int) (0 : Int) ([] : List (Tr × Tr)) xo12 xo16) (.exit 2) (impl_spheres_L1X1 dk1y17 dk1y18 dk1y25 dk1y26 dk1y27 dk1y28 dk1yo5 dk1yo12 dk1yo16),
      sizeOK (List.length dk1yo16 + List.length ([dk1yo5] : List (List (Tr × Tr))))]) (st1 := impl_spheres_L0a dk1y17 (IntKind.wrap .i64 (dk1y18 + (1 : Int))) dk1yo12 (dk1yo16 ++ ([dk1yo5] : List (List (Tr × Tr))))) (by kernel_rfl) ⟨(decide_eq_true h1), h2, h3, h4, h5, h6, trivial⟩ next

theorem impl_spheres_L0a_x2 (x17 : Int) (x18 : Int) (xo12 : (List (ByteArray × Bool))) (xo16 : (List (List (Tr × Tr))))
    (h1 : ¬ (x18 < x17)) :
    LoopSC cfg.P 1 (lb P_impl_spheres 0) (impl_spheres_L0a x17 x18 xo12 xo16) (.exit 0) (impl_spheres_L0X1 x17 x18 false xo12 xo16) :=
  loop_out cfgOK (f := i_impl_spheres) (its := [.bool false])
    (ps := [decide (x18 < x17) = false]) (by kernel_rfl) ⟨(decide_eq_false h1), trivial⟩ (fun h => by cases h)

theorem impl_spheres_L1a_i1 (x17 : Int) (x18 : Int) (x25 : (List (Tr × Tr))) (x26 : Int) (x27 : Int) (xo5 : (List (Tr × Tr))) (xo12 : (List (ByteArray × Bool))) (xo16 : (List (List (Tr × Tr)))) (dc1 : (List Int)) (dk1y17 : Int) (dk1y18 : Int) (dk1y25 : (List (Tr × Tr))) (dk1y26 : Int) (dk1y27 : Int) (dk1y31 : (List Int)) (dk1y32 : Int) (dk1y33 : Bool) (dk1yo5 : (List (Tr × Tr))) (dk1yo7 : (Tr × Tr)) (dk1yo12 : (List (ByteArray × Bool))) (dk1yo16 : (List (List (Tr × Tr))))
    (h1 : x27 < x26)
    (h2 : 0 ≤ x27)
    (h3 : x27 < (List.length x25 : Int))
    (h4 : SC cfg.P i_impl_letters [] (.s (.v (.arr 2 (.int .i64)) dc1)) [])
    (h5 : LoopSC cfg.P 1 (lb P_impl_spheres 2) (impl_spheres_L2a x17 x18 x25 x26 x27 dc1 (0 : Int) xo5 (List.getD x25 (x27).toNat (Tr.leaf, Tr.leaf)) xo12 xo16) (.exit 4) (impl_spheres_L2X1 dk1y17 dk1y18 dk1y25 dk1y26 dk1y27 dk1y31 dk1y32 dk1y33 dk1yo5 dk1yo7 dk1yo12 dk1yo16))
    {e : AEx} {st : St} (next : LoopSC cfg.P 1 (lb P_impl_spheres 1) (impl_spheres_L1a dk1y17 dk1y18 dk1y25 dk1y26 (IntKind.wrap .i64 (dk1y27 + (1 : Int))) dk1yo5 dk1yo12 dk1yo16) e st) :
    LoopSC cfg.P 1 (lb P_impl_spheres 1) (impl_spheres_L1a x17 x18 x25 x26 x27 xo5 xo12 xo16) e st :=
  loop_iter cfgOK (f := i_impl_spheres) (its := [.bool true, .res (.s (.v (.arr 2 (.int .i64)) dc1)) [] [] [], .loop (fun _ => (.exit 4, impl_spheres_L2X1 dk1y17 dk1y18 dk1y25 dk1y26 dk1y27 dk1y31 dk1y32 dk1y33 dk1yo5 dk1yo7 dk1yo12 dk1yo16))])
    (ps := [decide (x27 < x26) = true,
      0 ≤ x27,
      x27 < (List.length x25 : Int),
      SC cfg.P i_impl_letters [] (.s (.v (.arr 2 (.int .i64)) dc1)) [],
      LoopSC cfg.P 1 (lb P_impl_spheres 2) (impl_spheres_L2a x17 x18 x25 x26 x27 dc1 (0 : Int) xo5 (List.getD x25 (x27).toNat (Tr.leaf, Tr.leaf)) xo12 xo16) (.exit 4) (impl_spheres_L2X1 dk1y17 dk1y18 dk1y25 dk1y26 dk1y27 dk1y31 dk1y32 dk1y33 dk1yo5 dk1yo7 dk1yo12 dk1yo16)]) (st1 := impl_spheres_L1a dk1y17 dk1y18 dk1y25 dk1y26 (IntKind.wrap .i64 (dk1y27 + (1 : Int))) dk1yo5 dk1yo12 dk1yo16) (by kernel_rfl) ⟨(decide_eq_true h1), h2, h3, h4, h5, trivial⟩ next

theorem impl_spheres_L1a_x2 (x17 : Int) (x18 : Int) (x25 : (List (Tr × Tr))) (x26 : Int) (x27 : Int) (xo5 : (List (Tr × Tr))) (xo12 : (List (ByteArray × Bool))) (xo16 : (List (List (Tr × Tr))))
    (h1 : ¬ (x27 < x26)) :
    LoopSC cfg.P 1 (lb P_impl_spheres 1) (impl_spheres_L1a x17 x18 x25 x26 x27 xo5 xo12 xo16) (.exit 2) (impl_spheres_L1X1 x17 x18 x25 x26 x27 false xo5 xo12 xo16) :=
  loop_out cfgOK (f := i_impl_spheres) (its := [.bool false])
    (ps := [decide (x27 < x26) = false]) (by kernel_rfl) ⟨(decide_eq_false h1), trivial⟩ (fun h => by cases h)

theorem impl_spheres_L2a_i1 (x17 : Int) (x18 : Int) (x25 : (List (Tr × Tr))) (x26 : Int) (x27 : Int) (x31 : (List Int)) (x32 : Int) (xo5 : (List (Tr × Tr))) (xo7 : (Tr × Tr)) (xo12 : (List (ByteArray × Bool))) (xo16 : (List (List (Tr × Tr)))) (dc1 : (Tr × Tr)) (dc2 : (Tr × Tr)) (dc3 : ByteArray)
    (h1 : x32 < (4 : Int))
    (h2 : 0 ≤ x32)
    (h3 : x32 < ((4 : Nat) : Int))
    (h4 : SC cfg.P i_impl_letter [.s (.v (.int .i64) (List.getD x31 (x32).toNat (0 : Int)))] (.s (.v (.pr .tree .tree) dc1)) [])
    (h5 : SC cfg.P i_impl_pair_times [.s (.v (.pr .tree .tree) xo7), .s (.v (.pr .tree .tree) dc1)] (.s (.v (.pr .tree .tree) dc2)) [])
    (h6 : SC cfg.P i_impl_pair_text [.s (.v (.pr .tree .tree) dc2)] (.s (.v .str dc3)) [])
    (h7 : (mget xo12 dc3).getD false = true)
    {e : AEx} {st : St} (next : LoopSC cfg.P 1 (lb P_impl_spheres 2) (impl_spheres_L2a x17 x18 x25 x26 x27 x31 (IntKind.wrap .i64 (x32 + (1 : Int))) xo5 xo7 xo12 xo16) e st) :
    LoopSC cfg.P 1 (lb P_impl_spheres 2) (impl_spheres_L2a x17 x18 x25 x26 x27 x31 x32 xo5 xo7 xo12 xo16) e st :=
  loop_iter cfgOK (f := i_impl_spheres) (its := [.bool true, .res (.s (.v (.pr .tree .tree) dc1)) [] [] [], .res (.s (.v (.pr .tree .tree) dc2)) [] [] [], .res (.s (.v .str dc3)) [] [] [], .bool true])
    (ps := [decide (x32 < (4 : Int)) = true,
      0 ≤ x32,
      x32 < ((4 : Nat) : Int),
      SC cfg.P i_impl_letter [.s (.v (.int .i64) (List.getD x31 (x32).toNat (0 : Int)))] (.s (.v (.pr .tree .tree) dc1)) [],
      SC cfg.P i_impl_pair_times [.s (.v (.pr .tree .tree) xo7), .s (.v (.pr .tree .tree) dc1)] (.s (.v (.pr .tree .tree) dc2)) [],
      SC cfg.P i_impl_pair_text [.s (.v (.pr .tree .tree) dc2)] (.s (.v .str dc3)) [],
      (mget xo12 dc3).getD false = true]) (st1 := impl_spheres_L2a x17 x18 x25 x26 x27 x31 (IntKind.wrap .i64 (x32 + (1 : Int))) xo5 xo7 xo12 xo16) (by kernel_rfl) ⟨(decide_eq_true h1), h2, h3, h4, h5, h6, h7, trivial⟩ next

theorem impl_spheres_L2a_i2 (x17 : Int) (x18 : Int) (x25 : (List (Tr × Tr))) (x26 : Int) (x27 : Int) (x31 : (List Int)) (x32 : Int) (xo5 : (List (Tr × Tr))) (xo7 : (Tr × Tr)) (xo12 : (List (ByteArray × Bool))) (xo16 : (List (List (Tr × Tr)))) (dc1 : (Tr × Tr)) (dc2 : (Tr × Tr)) (dc3 : ByteArray)
    (h1 : x32 < (4 : Int))
    (h2 : 0 ≤ x32)
    (h3 : x32 < ((4 : Nat) : Int))
    (h4 : SC cfg.P i_impl_letter [.s (.v (.int .i64) (List.getD x31 (x32).toNat (0 : Int)))] (.s (.v (.pr .tree .tree) dc1)) [])
    (h5 : SC cfg.P i_impl_pair_times [.s (.v (.pr .tree .tree) xo7), .s (.v (.pr .tree .tree) dc1)] (.s (.v (.pr .tree .tree) dc2)) [])
    (h6 : SC cfg.P i_impl_pair_text [.s (.v (.pr .tree .tree) dc2)] (.s (.v .str dc3)) [])
    (h7 : (mget xo12 dc3).getD false = false)
    (h8 : sizeOK (List.length xo5 + List.length ([dc2] : List (Tr × Tr))))
    {e : AEx} {st : St} (next : LoopSC cfg.P 1 (lb P_impl_spheres 2) (impl_spheres_L2a x17 x18 x25 x26 x27 x31 (IntKind.wrap .i64 (x32 + (1 : Int))) (xo5 ++ ([dc2] : List (Tr × Tr))) xo7 (mput xo12 dc3 true) xo16) e st) :
    LoopSC cfg.P 1 (lb P_impl_spheres 2) (impl_spheres_L2a x17 x18 x25 x26 x27 x31 x32 xo5 xo7 xo12 xo16) e st :=
  loop_iter cfgOK (f := i_impl_spheres) (its := [.bool true, .res (.s (.v (.pr .tree .tree) dc1)) [] [] [], .res (.s (.v (.pr .tree .tree) dc2)) [] [] [], .res (.s (.v .str dc3)) [] [] [], .bool false])
    (ps := [decide (x32 < (4 : Int)) = true,
      0 ≤ x32,
      x32 < ((4 : Nat) : Int),
      SC cfg.P i_impl_letter [.s (.v (.int .i64) (List.getD x31 (x32).toNat (0 : Int)))] (.s (.v (.pr .tree .tree) dc1)) [],
      SC cfg.P i_impl_pair_times [.s (.v (.pr .tree .tree) xo7), .s (.v (.pr .tree .tree) dc1)] (.s (.v (.pr .tree .tree) dc2)) [],
      SC cfg.P i_impl_pair_text [.s (.v (.pr .tree .tree) dc2)] (.s (.v .str dc3)) [],
      (mget xo12 dc3).getD false = false,
      sizeOK (List.length xo5 + List.length ([dc2] : List (Tr × Tr)))]) (st1 := impl_spheres_L2a x17 x18 x25 x26 x27 x31 (IntKind.wrap .i64 (x32 + (1 : Int))) (xo5 ++ ([dc2] : List (Tr × Tr))) xo7 (mput xo12 dc3 true) xo16) (by kernel_rfl) ⟨(decide_eq_true h1), h2, h3, h4, h5, h6, h7, h8, trivial⟩ next

theorem impl_spheres_L2a_x3 (x17 : Int) (x18 : Int) (x25 : (List (Tr × Tr))) (x26 : Int) (x27 : Int) (x31 : (List Int)) (x32 : Int) (xo5 : (List (Tr × Tr))) (xo7 : (Tr × Tr)) (xo12 : (List (ByteArray × Bool))) (xo16 : (List (List (Tr × Tr))))
    (h1 : ¬ (x32 < (4 : Int))) :
    LoopSC cfg.P 1 (lb P_impl_spheres 2) (impl_spheres_L2a x17 x18 x25 x26 x27 x31 x32 xo5 xo7 xo12 xo16) (.exit 4) (impl_spheres_L2X1 x17 x18 x25 x26 x27 x31 x32 false xo5 xo7 xo12 xo16) :=
  loop_out cfgOK (f := i_impl_spheres) (its := [.bool false])
    (ps := [decide (x32 < (4 : Int)) = false]) (by kernel_rfl) ⟨(decide_eq_false h1), trivial⟩ (fun h => by cases h)

theorem impl_spheres_p1 (a0 : Int) (k1y17 : Int) (k1y18 : Int) (k1y19 : Bool) (k1yo12 : (List (ByteArray × Bool))) (k1yo16 : (List (List (Tr × Tr))))
    (h1 : LoopSC cfg.P 1 (lb P_impl_spheres 0) (impl_spheres_L0a a0 (0 : Int) (mput ([] : (List (ByteArray × Bool))) (⟨#[46, 62, 46]⟩ : ByteArray) true) ([([(Tr.leaf, Tr.leaf)] : List (Tr × Tr))] : List (List (Tr × Tr)))) (.exit 0) (impl_spheres_L0X1 k1y17 k1y18 k1y19 k1yo12 k1yo16)) :
    SC cfg.P i_impl_spheres [.s (.v (.int .i64) a0)] (.s (.own t_Simpl_pair (.sl (.pr .tree .tree)) k1yo16)) [] :=
  SC_of_run cfgOK (its := [.loop (fun _ => (.exit 0, impl_spheres_L0X1 k1y17 k1y18 k1y19 k1yo12 k1yo16))])
    (ps := [LoopSC cfg.P 1 (lb P_impl_spheres 0) (impl_spheres_L0a a0 (0 : Int) (mput ([] : (List (ByteArray × Bool))) (⟨#[46, 62, 46]⟩ : ByteArray) true) ([([(Tr.leaf, Tr.leaf)] : List (Tr × Tr))] : List (List (Tr × Tr)))) (.exit 0) (impl_spheres_L0X1 k1y17 k1y18 k1y19 k1yo12 k1yo16)]) (by kernel_rfl) ⟨h1, trivial⟩ get_impl_spheres (by decide)

/-! ### spec_lnHas -/


def spec_lnHas_L0a (x0 : (List ByteArray)) (x1 : ByteArray) (x5 : Int) (x6 : Int) : St := mkSt 38 [(0, .s (.v (.sl .str) x0)), (1, .s (.v .str x1)), (5, .s (.v (.int .i64) x5)), (6, .s (.v (.int .i64) x6))] []

def spec_lnHas_L0X1 (y0 : (List ByteArray)) (y1 : ByteArray) (y5 : Int) (y6 : Int) (y12 : Bool) : St := mkSt 38 [(0, .s (.v (.sl .str) y0)), (1, .s (.v .str y1)), (5, .s (.v (.int .i64) y5)), (6, .s (.v (.int .i64) y6)), (12, .s (.v .bool y12))] []

theorem spec_lnHas_L0a_i1 (x0 : (List ByteArray)) (x1 : ByteArray) (x5 : Int) (x6 : Int)
    (h1 : x5 < x6)
    (h2 : (2 : Int) ≠ 0)
    (h3 : 0 ≤ (IntKind.wrap .i64 (Int.tdiv (IntKind.wrap .i64 (x5 + x6)) (2 : Int))))
    (h4 : (IntKind.wrap .i64 (Int.tdiv (IntKind.wrap .i64 (x5 + x6)) (2 : Int))) < (List.length x0 : Int))
    (h5 : (Op.bytesLess ((List.getD x0 ((IntKind.wrap .i64 (Int.tdiv (IntKind.wrap .i64 (x5 + x6)) (2 : Int)))).toNat (⟨#[]⟩ : ByteArray))).toList (x1).toList) = true)
    {e : AEx} {st : St} (next : LoopSC cfg.P 2 (lb P_spec_lnHas 0) (spec_lnHas_L0a x0 x1 (IntKind.wrap .i64 ((IntKind.wrap .i64 (Int.tdiv (IntKind.wrap .i64 (x5 + x6)) (2 : Int))) + (1 : Int))) x6) e st) :
    LoopSC cfg.P 2 (lb P_spec_lnHas 0) (spec_lnHas_L0a x0 x1 x5 x6) e st :=
  loop_iter cfgOK (f := i_spec_lnHas) (its := [.bool true, .bool true])
    (ps := [decide (x5 < x6) = true,
      (2 : Int) ≠ 0,
      0 ≤ (IntKind.wrap .i64 (Int.tdiv (IntKind.wrap .i64 (x5 + x6)) (2 : Int))),
      (IntKind.wrap .i64 (Int.tdiv (IntKind.wrap .i64 (x5 + x6)) (2 : Int))) < (List.length x0 : Int),
      (Op.bytesLess ((List.getD x0 ((IntKind.wrap .i64 (Int.tdiv (IntKind.wrap .i64 (x5 + x6)) (2 : Int)))).toNat (⟨#[]⟩ : ByteArray))).toList (x1).toList) = true]) (st1 := spec_lnHas_L0a x0 x1 (IntKind.wrap .i64 ((IntKind.wrap .i64 (Int.tdiv (IntKind.wrap .i64 (x5 + x6)) (2 : Int))) + (1 : Int))) x6) (by kernel_rfl) ⟨(decide_eq_true h1), h2, h3, h4, h5, trivial⟩ next

theorem spec_lnHas_L0a_i2 (x0 : (List ByteArray)) (x1 : ByteArray) (x5 : Int) (x6 : Int)
    (h1 : x5 < x6)
    (h2 : (2 : Int) ≠ 0)
    (h3 : 0 ≤ (IntKind.wrap .i64 (Int.tdiv (IntKind.wrap .i64 (x5 + x6)) (2 : Int))))
    (h4 : (IntKind.wrap .i64 (Int.tdiv (IntKind.wrap .i64 (x5 + x6)) (2 : Int))) < (List.length x0 : Int))
    (h5 : (Op.bytesLess ((List.getD x0 ((IntKind.wrap .i64 (Int.tdiv (IntKind.wrap .i64 (x5 + x6)) (2 : Int)))).toNat (⟨#[]⟩ : ByteArray))).toList (x1).toList) = false)
    {e : AEx} {st : St} (next : LoopSC cfg.P 2 (lb P_spec_lnHas 0) (spec_lnHas_L0a x0 x1 x5 (IntKind.wrap .i64 (Int.tdiv (IntKind.wrap .i64 (x5 + x6)) (2 : Int)))) e st) :
    LoopSC cfg.P 2 (lb P_spec_lnHas 0) (spec_lnHas_L0a x0 x1 x5 x6) e st :=
  loop_iter cfgOK (f := i_spec_lnHas) (its := [.bool true, .bool false])
    (ps := [decide (x5 < x6) = true,
      (2 : Int) ≠ 0,
      0 ≤ (IntKind.wrap .i64 (Int.tdiv (IntKind.wrap .i64 (x5 + x6)) (2 : Int))),
      (IntKind.wrap .i64 (Int.tdiv (IntKind.wrap .i64 (x5 + x6)) (2 : Int))) < (List.length x0 : Int),
      (Op.bytesLess ((List.getD x0 ((IntKind.wrap .i64 (Int.tdiv (IntKind.wrap .i64 (x5 + x6)) (2 : Int)))).toNat (⟨#[]⟩ : ByteArray))).toList (x1).toList) = false]) (st1 := spec_lnHas_L0a x0 x1 x5 (IntKind.wrap .i64 (Int.tdiv (IntKind.wrap .i64 (x5 + x6)) (2 : Int)))) (by kernel_rfl) ⟨(decide_eq_true h1), h2, h3, h4, h5, trivial⟩ next

theorem spec_lnHas_L0a_x3 (x0 : (List ByteArray)) (x1 : ByteArray) (x5 : Int) (x6 : Int)
    (h1 : ¬ (x5 < x6)) :
    LoopSC cfg.P 2 (lb P_spec_lnHas 0) (spec_lnHas_L0a x0 x1 x5 x6) (.exit 0) (spec_lnHas_L0X1 x0 x1 x5 x6 false) :=
  loop_out cfgOK (f := i_spec_lnHas) (its := [.bool false])
    (ps := [decide (x5 < x6) = false]) (by kernel_rfl) ⟨(decide_eq_false h1), trivial⟩ (fun h => by cases h)

theorem spec_lnHas_p1 (a0 : (List ByteArray)) (a1 : ByteArray) (k1y0 : (List ByteArray)) (k1y1 : ByteArray) (k1y5 : Int) (k1y6 : Int) (k1y12 : Bool)
    (h1 : LoopSC cfg.P 2 (lb P_spec_lnHas 0) (spec_lnHas_L0a a0 a1 (0 : Int) ((List.length a0 : Nat) : Int)) (.exit 0) (spec_lnHas_L0X1 k1y0 k1y1 k1y5 k1y6 k1y12))
    (h2 : k1y5 < ((List.length k1y0 : Nat) : Int))
    (h3 : 0 ≤ k1y5)
    (h4 : k1y5 < (List.length k1y0 : Int))
    (h5 : (List.getD k1y0 (k1y5).toNat (⟨#[]⟩ : ByteArray)) = k1y1) :
    SC cfg.P i_spec_lnHas [.s (.v (.sl .str) a0), .s (.v .str a1)] (.s (.v .bool true)) [] :=
  SC_of_run cfgOK (its := [.loop (fun _ => (.exit 0, spec_lnHas_L0X1 k1y0 k1y1 k1y5 k1y6 k1y12)), .bool true, .bool true])
    (ps := [LoopSC cfg.P 2 (lb P_spec_lnHas 0) (spec_lnHas_L0a a0 a1 (0 : Int) ((List.length a0 : Nat) : Int)) (.exit 0) (spec_lnHas_L0X1 k1y0 k1y1 k1y5 k1y6 k1y12),
      decide (k1y5 < ((List.length k1y0 : Nat) : Int)) = true,
      0 ≤ k1y5,
      k1y5 < (List.length k1y0 : Int),
      (((List.getD k1y0 (k1y5).toNat (⟨#[]⟩ : ByteArray))).toList == (k1y1).toList) = true]) (by kernel_rfl) ⟨h1, (decide_eq_true h2), h3, h4, (seq_t h5), trivial⟩ get_spec_lnHas (by decide)

theorem spec_lnHas_p2 (a0 : (List ByteArray)) (a1 : ByteArray) (k1y0 : (List ByteArray)) (k1y1 : ByteArray) (k1y5 : Int) (k1y6 : Int) (k1y12 : Bool)
    (h1 : LoopSC cfg.P 2 (lb P_spec_lnHas 0) (spec_lnHas_L0a a0 a1 (0 : Int) ((List.length a0 : Nat) : Int)) (.exit 0) (spec_lnHas_L0X1 k1y0 k1y1 k1y5 k1y6 k1y12))
    (h2 : k1y5 < ((List.length k1y0 : Nat) : Int))
    (h3 : 0 ≤ k1y5)
    (h4 : k1y5 < (List.length k1y0 : Int))
    (h5 : (List.getD k1y0 (k1y5).toNat (⟨#[]⟩ : ByteArray)) ≠ k1y1) :
    SC cfg.P i_spec_lnHas [.s (.v (.sl .str) a0), .s (.v .str a1)] (.s (.v .bool false)) [] :=
  SC_of_run cfgOK (its := [.loop (fun _ => (.exit 0, spec_lnHas_L0X1 k1y0 k1y1 k1y5 k1y6 k1y12)), .bool true, .bool false])
    (ps := [LoopSC cfg.P 2 (lb P_spec_lnHas 0) (spec_lnHas_L0a a0 a1 (0 : Int) ((List.length a0 : Nat) : Int)) (.exit 0) (spec_lnHas_L0X1 k1y0 k1y1 k1y5 k1y6 k1y12),
      decide (k1y5 < ((List.length k1y0 : Nat) : Int)) = true,
      0 ≤ k1y5,
      k1y5 < (List.length k1y0 : Int),
      (((List.getD k1y0 (k1y5).toNat (⟨#[]⟩ : ByteArray))).toList == (k1y1).toList) = false]) (by kernel_rfl) ⟨h1, (decide_eq_true h2), h3, h4, (seq_f h5), trivial⟩ get_spec_lnHas (by decide)

theorem spec_lnHas_p3 (a0 : (List ByteArray)) (a1 : ByteArray) (k1y0 : (List ByteArray)) (k1y1 : ByteArray) (k1y5 : Int) (k1y6 : Int) (k1y12 : Bool)
    (h1 : LoopSC cfg.P 2 (lb P_spec_lnHas 0) (spec_lnHas_L0a a0 a1 (0 : Int) ((List.length a0 : Nat) : Int)) (.exit 0) (spec_lnHas_L0X1 k1y0 k1y1 k1y5 k1y6 k1y12))
    (h2 : ¬ (k1y5 < ((List.length k1y0 : Nat) : Int))) :
    SC cfg.P i_spec_lnHas [.s (.v (.sl .str) a0), .s (.v .str a1)] (.s (.v .bool false)) [] :=
  SC_of_run cfgOK (its := [.loop (fun _ => (.exit 0, spec_lnHas_L0X1 k1y0 k1y1 k1y5 k1y6 k1y12)), .bool false])
    (ps := [LoopSC cfg.P 2 (lb P_spec_lnHas 0) (spec_lnHas_L0a a0 a1 (0 : Int) ((List.length a0 : Nat) : Int)) (.exit 0) (spec_lnHas_L0X1 k1y0 k1y1 k1y5 k1y6 k1y12),
      decide (k1y5 < ((List.length k1y0 : Nat) : Int)) = false]) (by kernel_rfl) ⟨h1, (decide_eq_false h2), trivial⟩ get_spec_lnHas (by decide)

/-! ### spec_prParse -/


theorem spec_prParse_p1 (a0 : ByteArray) (c1 : (List ByteArray))
    (h1 : SC cfg.P i_spec_l1Split [.s (.v .str a0), .s (.v (.int .u8) (62 : Int))] (.s (.own t_string .str c1)) [])
    (h2 : ((a0).size : Int) > (200 : Int)) :
    SC cfg.P i_spec_prParse [.s (.v .str a0)] (.tup [.v (.pr .str .str) ((⟨#[]⟩ : ByteArray), (⟨#[]⟩ : ByteArray)), .v .bool false]) [] :=
  SC_of_run cfgOK (its := [.res (.s (.own t_string .str c1)) [] [] [6], .bool true])
    (ps := [SC cfg.P i_spec_l1Split [.s (.v .str a0), .s (.v (.int .u8) (62 : Int))] (.s (.own t_string .str c1)) [],
      decide (((a0).size : Int) > (200 : Int)) = true]) (by kernel_rfl) ⟨h1, (decide_eq_true h2), trivial⟩ get_spec_prParse (by decide)

theorem spec_prParse_p2 (a0 : ByteArray) (c1 : (List ByteArray))
    (h1 : SC cfg.P i_spec_l1Split [.s (.v .str a0), .s (.v (.int .u8) (62 : Int))] (.s (.own t_string .str c1)) [])
    (h2 : ¬ (((a0).size : Int) > (200 : Int)))
    (h3 : ((List.length c1 : Nat) : Int) ≠ (2 : Int)) :
    SC cfg.P i_spec_prParse [.s (.v .str a0)] (.tup [.v (.pr .str .str) ((⟨#[]⟩ : ByteArray), (⟨#[]⟩ : ByteArray)), .v .bool false]) [] :=
  SC_of_run cfgOK (its := [.res (.s (.own t_string .str c1)) [] [] [6], .bool false, .bool true])
    (ps := [SC cfg.P i_spec_l1Split [.s (.v .str a0), .s (.v (.int .u8) (62 : Int))] (.s (.own t_string .str c1)) [],
      decide (((a0).size : Int) > (200 : Int)) = false,
      (((List.length c1 : Nat) : Int) != (2 : Int)) = true]) (by kernel_rfl) ⟨h1, (decide_eq_false h2), (bne_t h3), trivial⟩ get_spec_prParse (by decide)

theorem spec_prParse_p3 (a0 : ByteArray) (c1 : (List ByteArray)) (c2a : (ByteArray × ByteArray)) (c2b : Bool)
    (h1 : SC cfg.P i_spec_l1Split [.s (.v .str a0), .s (.v (.int .u8) (62 : Int))] (.s (.own t_string .str c1)) [])
    (h2 : ¬ (((a0).size : Int) > (200 : Int)))
    (h3 : ((List.length c1 : Nat) : Int) = (2 : Int))
    (h4 : (0 : Int) < (List.length c1 : Int))
    (h5 : ((0 : Int)).toNat < List.length c1)
    (h6 : (1 : Int) < (List.length c1 : Int))
    (h7 : ((1 : Int)).toNat < List.length c1)
    (h8 : SC cfg.P i_spec_prIf [.s (.v (.pr .str .str) ((List.getD c1 ((0 : Int)).toNat (⟨#[]⟩ : ByteArray)), (List.getD c1 ((1 : Int)).toNat (⟨#[]⟩ : ByteArray))))] (.tup [.v (.pr .str .str) c2a, .v .bool c2b]) []) :
    SC cfg.P i_spec_prParse [.s (.v .str a0)] (.tup [.v (.pr .str .str) c2a, .v .bool c2b]) [] :=
  SC_of_run cfgOK (its := [.res (.s (.own t_string .str c1)) [] [] [6], .bool false, .bool false, .res (.tup [.v (.pr .str .str) c2a, .v .bool c2b]) [] [] []])
    (ps := [SC cfg.P i_spec_l1Split [.s (.v .str a0), .s (.v (.int .u8) (62 : Int))] (.s (.own t_string .str c1)) [],
      decide (((a0).size : Int) > (200 : Int)) = false,
      (((List.length c1 : Nat) : Int) != (2 : Int)) = false,
      0 ≤ (0 : Int),
      (0 : Int) < (List.length c1 : Int),
      ((0 : Int)).toNat < List.length c1,
      0 ≤ (1 : Int),
      (1 : Int) < (List.length c1 : Int),
      ((1 : Int)).toNat < List.length c1,
      SC cfg.P i_spec_prIf [.s (.v (.pr .str .str) ((List.getD c1 ((0 : Int)).toNat (⟨#[]⟩ : ByteArray)), (List.getD c1 ((1 : Int)).toNat (⟨#[]⟩ : ByteArray))))] (.tup [.v (.pr .str .str) c2a, .v .bool c2b]) []]) (by kernel_rfl) ⟨h1, (decide_eq_false h2), (bne_f h3), (by decide), h4, h5, (by decide), h6, h7, h8, trivial⟩ get_spec_prParse (by decide)

/-! ### spec_lnSorted -/


def spec_lnSorted_L0a (x3 : (List ByteArray)) (x4 : (List ByteArray)) (x6 : Int) (x7 : Int) (xo5 : (List ByteArray)) : St := mkSt 86 [(3, .s (.v (.sl .str) x3)), (4, .s (.v (.sl .str) x4)), (5, .s (.osl 5 0)), (6, .s (.v (.int .i64) x6)), (7, .s (.v (.int .i64) x7))] [(5, .row t_string .str xo5 0 false)]

def spec_lnSorted_L0b (x3 : (List ByteArray)) (x4 : (List ByteArray)) (x6 : Int) (x7 : Int) (x8 : ByteArray) (x80 : Bool) (xo5 : (List ByteArray)) : St := mkSt 86 [(3, .s (.v (.sl .str) x3)), (4, .s (.v (.sl .str) x4)), (5, .s (.osl 5 0)), (6, .s (.v (.int .i64) x6)), (7, .s (.v (.int .i64) x7)), (8, .s (.v .str x8)), (80, .s (.v .bool x80))] [(5, .row t_string .str xo5 0 false)]

def spec_lnSorted_L0X1 (y3 : (List ByteArray)) (y4 : (List ByteArray)) (y6 : Int) (y7 : Int) (y34 : Bool) (yo5 : (List ByteArray)) : St := mkSt 86 [(3, .s (.v (.sl .str) y3)), (4, .s (.v (.sl .str) y4)), (5, .s (.osl 5 0)), (6, .s (.v (.int .i64) y6)), (7, .s (.v (.int .i64) y7)), (34, .s (.v .bool y34))] [(5, .row t_string .str yo5 0 false)]

theorem spec_lnSorted_L0a_i1 (x3 : (List ByteArray)) (x4 : (List ByteArray)) (x6 : Int) (x7 : Int) (xo5 : (List ByteArray))
    (h1 : x6 < ((List.length x3 : Nat) : Int))
    (h2 : x7 = ((List.length x4 : Nat) : Int))
    (h3 : 0 ≤ x6)
    (h4 : x6 < (List.length x3 : Int))
    (h5 : ((List.length xo5 : Nat) : Int) = (0 : Int))
    (h6 : sizeOK (List.length xo5 + List.length ([(List.getD x3 (x6).toNat (⟨#[]⟩ : ByteArray))] : List ByteArray)))
    {e : AEx} {st : St} (next : LoopSC cfg.P 1 (lb P_spec_lnSorted 0) (spec_lnSorted_L0a x3 x4 (IntKind.wrap .i64 (x6 + (1 : Int))) x7 (xo5 ++ ([(List.getD x3 (x6).toNat (⟨#[]⟩ : ByteArray))] : List ByteArray))) e st) :
    LoopSC cfg.P 1 (lb P_spec_lnSorted 0) (spec_lnSorted_L0a x3 x4 x6 x7 xo5) e st :=
  loop_iter cfgOK (f := i_spec_lnSorted) (its := [.bool true, .bool true, .bool true])
    (ps := [decide (x6 < ((List.length x3 : Nat) : Int)) = true,
      (x7 == ((List.length x4 : Nat) : Int)) = true,
      0 ≤ x6,
      x6 < (List.length x3 : Int),
      (((List.length xo5 : Nat) : Int) == (0 : Int)) = true,
      sizeOK (List.length xo5 + List.length ([(List.getD x3 (x6).toNat (⟨#[]⟩ : ByteArray))] : List ByteArray))]) (st1 := spec_lnSorted_L0a x3 x4 (IntKind.wrap .i64 (x6 + (1 : Int))) x7 (xo5 ++ ([(List.getD x3 (x6).toNat (⟨#[]⟩ : ByteArray))] : List ByteArray))) (by kernel_rfl) ⟨(decide_eq_true h1), (beq_t h2), h3, h4, (beq_t h5), h6, trivial⟩ next

theorem spec_lnSorted_L0a_i2 (x3 : (List ByteArray)) (x4 : (List ByteArray)) (x6 : Int) (x7 : Int) (xo5 : (List ByteArray))
    (h1 : x6 < ((List.length x3 : Nat) : Int))
    (h2 : x7 = ((List.length x4 : Nat) : Int))
    (h3 : 0 ≤ x6)
    (h4 : x6 < (List.length x3 : Int))
    (h5 : ((List.length xo5 : Nat) : Int) ≠ (0 : Int))
    (h6 : 0 ≤ (IntKind.wrap .i64 (((List.length xo5 : Nat) : Int) - (1 : Int))))
    (h7 : (IntKind.wrap .i64 (((List.length xo5 : Nat) : Int) - (1 : Int))) < (List.length xo5 : Int))
    (h8 : ((IntKind.wrap .i64 (((List.length xo5 : Nat) : Int) - (1 : Int)))).toNat < List.length xo5)
    (h9 : (List.getD xo5 ((IntKind.wrap .i64 (((List.length xo5 : Nat) : Int) - (1 : Int)))).toNat (⟨#[]⟩ : ByteArray)) ≠ (List.getD x3 (x6).toNat (⟨#[]⟩ : ByteArray)))
    (h10 : sizeOK (List.length xo5 + List.length ([(List.getD x3 (x6).toNat (⟨#[]⟩ : ByteArray))] : List ByteArray)))
    {e : AEx} {st : St} (next : LoopSC cfg.P 1 (lb P_spec_lnSorted 0) (spec_lnSorted_L0a x3 x4 (IntKind.wrap .i64 (x6 + (1 : Int))) x7 (xo5 ++ ([(List.getD x3 (x6).toNat (⟨#[]⟩ : ByteArray))] : List ByteArray))) e st) :
    LoopSC cfg.P 1 (lb P_spec_lnSorted 0) (spec_lnSorted_L0a x3 x4 x6 x7 xo5) e st :=
  loop_iter cfgOK (f := i_spec_lnSorted) (its := [.bool true, .bool true, .bool false, .bool true])
    (ps := [decide (x6 < ((List.length x3 : Nat) : Int)) = true,
      (x7 == ((List.length x4 : Nat) : Int)) = true,
      0 ≤ x6,
      x6 < (List.length x3 : Int),
      (((List.length xo5 : Nat) : Int) == (0 : Int)) = false,
      0 ≤ (IntKind.wrap .i64 (((List.length xo5 : Nat) : Int) - (1 : Int))),
      (IntKind.wrap .i64 (((List.length xo5 : Nat) : Int) - (1 : Int))) < (List.length xo5 : Int),
      ((IntKind.wrap .i64 (((List.length xo5 : Nat) : Int) - (1 : Int)))).toNat < List.length xo5,
      (!(((List.getD xo5 ((IntKind.wrap .i64 (((List.length xo5 : Nat) : Int) - (1 : Int)))).toNat (⟨#[]⟩ : ByteArray))).toList == ((List.getD x3 (x6).toNat (⟨#[]⟩ : ByteArray))).toList)) = true,
      sizeOK (List.length xo5 + List.length ([(List.getD x3 (x6).toNat (⟨#[]⟩ : ByteArray))] : List ByteArray))]) (st1 := spec_lnSorted_L0a x3 x4 (IntKind.wrap .i64 (x6 + (1 : Int))) x7 (xo5 ++ ([(List.getD x3 (x6).toNat (⟨#[]⟩ : ByteArray))] : List ByteArray))) (by kernel_rfl) ⟨(decide_eq_true h1), (beq_t h2), h3, h4, (beq_f h5), h6, h7, h8, (nseq_t h9), h10, trivial⟩ next

theorem spec_lnSorted_L0a_i3 (x3 : (List ByteArray)) (x4 : (List ByteArray)) (x6 : Int) (x7 : Int) (xo5 : (List ByteArray))
    (h1 : x6 < ((List.length x3 : Nat) : Int))
    (h2 : x7 = ((List.length x4 : Nat) : Int))
    (h3 : 0 ≤ x6)
    (h4 : x6 < (List.length x3 : Int))
    (h5 : ((List.length xo5 : Nat) : Int) ≠ (0 : Int))
    (h6 : 0 ≤ (IntKind.wrap .i64 (((List.length xo5 : Nat) : Int) - (1 : Int))))
    (h7 : (IntKind.wrap .i64 (((List.length xo5 : Nat) : Int) - (1 : Int))) < (List.length xo5 : Int))
    (h8 : ((IntKind.wrap .i64 (((List.length xo5 : Nat) : Int) - (1 : Int)))).toNat < List.length xo5)
    (h9 : (List.getD xo5 ((IntKind.wrap .i64 (((List.length xo5 : Nat) : Int) - (1 : Int)))).toNat (⟨#[]⟩ : ByteArray)) = (List.getD x3 (x6).toNat (⟨#[]⟩ : ByteArray)))
    {e : AEx} {st : St} (next : LoopSC cfg.P 1 (lb P_spec_lnSorted 0) (spec_lnSorted_L0b x3 x4 (IntKind.wrap .i64 (x6 + (1 : Int))) x7 (List.getD x3 (x6).toNat (⟨#[]⟩ : ByteArray)) false xo5) e st) :
    LoopSC cfg.P 1 (lb P_spec_lnSorted 0) (spec_lnSorted_L0a x3 x4 x6 x7 xo5) e st :=
  loop_iter cfgOK (f := i_spec_lnSorted) (its := [.bool true, .bool true, .bool false, .bool false])
    (ps := [decide (x6 < ((List.length x3 : Nat) : Int)) = true,
      (x7 == ((List.length x4 : Nat) : Int)) = true,
      0 ≤ x6,
      x6 < (List.length x3 : Int),
      (((List.length xo5 : Nat) : Int) == (0 : Int)) = false,
      0 ≤ (IntKind.wrap .i64 (((List.length xo5 : Nat) : Int) - (1 : Int))),
      (IntKind.wrap .i64 (((List.length xo5 : Nat) : Int) - (1 : Int))) < (List.length xo5 : Int),
      ((IntKind.wrap .i64 (((List.length xo5 : Nat) : Int) - (1 : Int)))).toNat < List.length xo5,
      (!(((List.getD xo5 ((IntKind.wrap .i64 (((List.length xo5 : Nat) : Int) - (1 : Int)))).toNat (⟨#[]⟩ : ByteArray))).toList == ((List.getD x3 (x6).toNat (⟨#[]⟩ : ByteArray))).toList)) = false]) (st1 := spec_lnSorted_L0b x3 x4 (IntKind.wrap .i64 (x6 + (1 : Int))) x7 (List.getD x3 (x6).toNat (⟨#[]⟩ : ByteArray)) false xo5) (by kernel_rfl) ⟨(decide_eq_true h1), (beq_t h2), h3, h4, (beq_f h5), h6, h7, h8, (nseq_f h9), trivial⟩ next

theorem spec_lnSorted_L0a_i4 (x3 : (List ByteArray)) (x4 : (List ByteArray)) (x6 : Int) (x7 : Int) (xo5 : (List ByteArray))
    (h1 : x6 < ((List.length x3 : Nat) : Int))
    (h2 : x7 ≠ ((List.length x4 : Nat) : Int))
    (h3 : 0 ≤ x6)
    (h4 : x6 < (List.length x3 : Int))
    (h5 : 0 ≤ x7)
    (h6 : x7 < (List.length x4 : Int))
    (h7 : (Op.bytesLess ((List.getD x3 (x6).toNat (⟨#[]⟩ : ByteArray))).toList ((List.getD x4 (x7).toNat (⟨#[]⟩ : ByteArray))).toList || (((List.getD x3 (x6).toNat (⟨#[]⟩ : ByteArray))).toList == ((List.getD x4 (x7).toNat (⟨#[]⟩ : ByteArray))).toList)) = true)
    (h8 : ((List.length xo5 : Nat) : Int) = (0 : Int))
    (h9 : sizeOK (List.length xo5 + List.length ([(List.getD x3 (x6).toNat (⟨#[]⟩ : ByteArray))] : List ByteArray)))
    {e : AEx} {st : St} (next : LoopSC cfg.P 1 (lb P_spec_lnSorted 0) (spec_lnSorted_L0a x3 x4 (IntKind.wrap .i64 (x6 + (1 : Int))) x7 (xo5 ++ ([(List.getD x3 (x6).toNat (⟨#[]⟩ : ByteArray))] : List ByteArray))) e st) :
    LoopSC cfg.P 1 (lb P_spec_lnSorted 0) (spec_lnSorted_L0a x3 x4 x6 x7 xo5) e st :=
  loop_iter cfgOK (f := i_spec_lnSorted) (its := [.bool true, .bool false, .bool true, .bool true, .bool true])
    (ps := [decide (x6 < ((List.length x3 : Nat) : Int)) = true,
      (x7 == ((List.length x4 : Nat) : Int)) = false,
      decide (x6 < ((List.length x3 : Nat) : Int)) = true,
      0 ≤ x6,
      x6 < (List.length x3 : Int),
      0 ≤ x7,
      x7 < (List.length x4 : Int),
      (Op.bytesLess ((List.getD x3 (x6).toNat (⟨#[]⟩ : ByteArray))).toList ((List.getD x4 (x7).toNat (⟨#[]⟩ : ByteArray))).toList || (((List.getD x3 (x6).toNat (⟨#[]⟩ : ByteArray))).toList == ((List.getD x4 (x7).toNat (⟨#[]⟩ : ByteArray))).toList)) = true,
      0 ≤ x6,
      x6 < (List.length x3 : Int),
      (((List.length xo5 : Nat) : Int) == (0 : Int)) = true,
      sizeOK (List.length xo5 + List.length ([(List.getD x3 (x6).toNat (⟨#[]⟩ : ByteArray))] : List ByteArray))]) (st1 := spec_lnSorted_L0a x3 x4 (IntKind.wrap .i64 (x6 + (1 : Int))) x7 (xo5 ++ ([(List.getD x3 (x6).toNat (⟨#[]⟩ : ByteArray))] : List ByteArray))) (by kernel_rfl) ⟨(decide_eq_true h1), (beq_f h2), (decide_eq_true h1), h3, h4, h5, h6, h7, h3, h4, (beq_t h8), h9, trivial⟩ next

theorem spec_lnSorted_L0a_i5 (x3 : (List ByteArray)) (x4 : (List ByteArray)) (x6 : Int) (x7 : Int) (xo5 : (List ByteArray))
    (h1 : x6 < ((List.length x3 : Nat) : Int))
    (h2 : x7 ≠ ((List.length x4 : Nat) : Int))
    (h3 : 0 ≤ x6)
    (h4 : x6 < (List.length x3 : Int))
    (h5 : 0 ≤ x7)
    (h6 : x7 < (List.length x4 : Int))
    (h7 : (Op.bytesLess ((List.getD x3 (x6).toNat (⟨#[]⟩ : ByteArray))).toList ((List.getD x4 (x7).toNat (⟨#[]⟩ : ByteArray))).toList || (((List.getD x3 (x6).toNat (⟨#[]⟩ : ByteArray))).toList == ((List.getD x4 (x7).toNat (⟨#[]⟩ : ByteArray))).toList)) = true)
    (h8 : ((List.length xo5 : Nat) : Int) ≠ (0 : Int))
    (h9 : 0 ≤ (IntKind.wrap .i64 (((List.length xo5 : Nat) : Int) - (1 : Int))))
    (h10 : (IntKind.wrap .i64 (((List.length xo5 : Nat) : Int) - (1 : Int))) < (List.length xo5 : Int))
    (h11 : ((IntKind.wrap .i64 (((List.length xo5 : Nat) : Int) - (1 : Int)))).toNat < List.length xo5)
    (h12 : (List.getD xo5 ((IntKind.wrap .i64 (((List.length xo5 : Nat) : Int) - (1 : Int)))).toNat (⟨#[]⟩ : ByteArray)) ≠ (List.getD x3 (x6).toNat (⟨#[]⟩ : ByteArray)))
    (h13 : sizeOK (List.length xo5 + List.length ([(List.getD x3 (x6).toNat (⟨#[]⟩ : ByteArray))] : List ByteArray)))
    {e : AEx} {st : St} (next : LoopSC cfg.P 1 (lb P_spec_lnSorted 0) (spec_lnSorted_L0a x3 x4 (IntKind.wrap .i64 (x6 + (1 : Int))) x7 (xo5 ++ ([(List.getD x3 (x6).toNat (⟨#[]⟩ : ByteArray))] : List ByteArray))) e st) :
    LoopSC cfg.P 1 (lb P_spec_lnSorted 0) (spec_lnSorted_L0a x3 x4 x6 x7 xo5) e st :=
  loop_iter cfgOK (f := i_spec_lnSorted) (its := [.bool true, .bool false, .bool true, .bool true, .bool false, .bool true])
    (ps := [decide (x6 < ((List.length x3 : Nat) : Int)) = true,
      (x7 == ((List.length x4 : Nat) : Int)) = false,
      decide (x6 < ((List.length x3 : Nat) : Int)) = true,
      0 ≤ x6,
      x6 < (List.length x3 : Int),
      0 ≤ x7,
      x7 < (List.length x4 : Int),
      (Op.bytesLess ((List.getD x3 (x6).toNat (⟨#[]⟩ : ByteArray))).toList ((List.getD x4 (x7).toNat (⟨#[]⟩ : ByteArray))).toList || (((List.getD x3 (x6).toNat (⟨#[]⟩ : ByteArray))).toList == ((List.getD x4 (x7).toNat (⟨#[]⟩ : ByteArray))).toList)) = true,
      0 ≤ x6,
      x6 < (List.length x3 : Int),
      (((List.length xo5 : Nat) : Int) == (0 : Int)) = false,
      0 ≤ (IntKind.wrap .i64 (((List.length xo5 : Nat) : Int) - (1 : Int))),
      (IntKind.wrap .i64 (((List.length xo5 : Nat) : Int) - (1 : Int))) < (List.length xo5 : Int),
      ((IntKind.wrap .i64 (((List.length xo5 : Nat) : Int) - (1 : Int)))).toNat < List.length xo5,
      (!(((List.getD xo5 ((IntKind.wrap .i64 (((List.length xo5 : Nat) : Int) - (1 : Int)))).toNat (⟨#[]⟩ : ByteArray))).toList == ((List.getD x3 (x6).toNat (⟨#[]⟩ : ByteArray))).toList)) = true,
      sizeOK (List.length xo5 + List.length ([(List.getD x3 (x6).toNat (⟨#[]⟩ : ByteArray))] : List ByteArray))]) (st1 := spec_lnSorted_L0a x3 x4 (IntKind.wrap .i64 (x6 + (1 : Int))) x7 (xo5 ++ ([(List.getD x3 (x6).toNat (⟨#[]⟩ : ByteArray))] : List ByteArray))) (by kernel_rfl) ⟨(decide_eq_true h1), (beq_f h2), (decide_eq_true h1), h3, h4, h5, h6, h7, h3, h4, (beq_f h8), h9, h10, h11, (nseq_t h12), h13, trivial⟩ next

theorem spec_lnSorted_L0a_i6 (x3 : (List ByteArray)) (x4 : (List ByteArray)) (x6 : Int) (x7 : Int) (xo5 : (List ByteArray))
    (h1 : x6 < ((List.length x3 : Nat) : Int))
    (h2 : x7 ≠ ((List.length x4 : Nat) : Int))
    (h3 : 0 ≤ x6)
    (h4 : x6 < (List.length x3 : Int))
    (h5 : 0 ≤ x7)
    (h6 : x7 < (List.length x4 : Int))
    (h7 : (Op.bytesLess ((List.getD x3 (x6).toNat (⟨#[]⟩ : ByteArray))).toList ((List.getD x4 (x7).toNat (⟨#[]⟩ : ByteArray))).toList || (((List.getD x3 (x6).toNat (⟨#[]⟩ : ByteArray))).toList == ((List.getD x4 (x7).toNat (⟨#[]⟩ : ByteArray))).toList)) = true)
    (h8 : ((List.length xo5 : Nat) : Int) ≠ (0 : Int))
    (h9 : 0 ≤ (IntKind.wrap .i64 (((List.length xo5 : Nat) : Int) - (1 : Int))))
    (h10 : (IntKind.wrap .i64 (((List.length xo5 : Nat) : Int) - (1 : Int))) < (List.length xo5 : Int))
    (h11 : ((IntKind.wrap .i64 (((List.length xo5 : Nat) : Int) - (1 : Int)))).toNat < List.length xo5)
    (h12 : (List.getD xo5 ((IntKind.wrap .i64 (((List.length xo5 : Nat) : Int) - (1 : Int)))).toNat (⟨#[]⟩ : ByteArray)) = (List.getD x3 (x6).toNat (⟨#[]⟩ : ByteArray)))
    {e : AEx} {st : St} (next : LoopSC cfg.P 1 (lb P_spec_lnSorted 0) (spec_lnSorted_L0b x3 x4 (IntKind.wrap .i64 (x6 + (1 : Int))) x7 (List.getD x3 (x6).toNat (⟨#[]⟩ : ByteArray)) false xo5) e st) :
    LoopSC cfg.P 1 (lb P_spec_lnSorted 0) (spec_lnSorted_L0a x3 x4 x6 x7 xo5) e st :=
  loop_iter cfgOK (f := i_spec_lnSorted) (its := [.bool true, .bool false, .bool true, .bool true, .bool false, .bool false])
    (ps := [decide (x6 < ((List.length x3 : Nat) : Int)) = true,
      (x7 == ((List.length x4 : Nat) : Int)) = false,
      decide (x6 < ((List.length x3 : Nat) : Int)) = true,
      0 ≤ x6,
      x6 < (List.length x3 : Int),
      0 ≤ x7,
      x7 < (List.length x4 : Int),
      (Op.bytesLess ((List.getD x3 (x6).toNat (⟨#[]⟩ : ByteArray))).toList ((List.getD x4 (x7).toNat (⟨#[]⟩ : ByteArray))).toList || (((List.getD x3 (x6).toNat (⟨#[]⟩ : ByteArray))).toList == ((List.getD x4 (x7).toNat (⟨#[]⟩ : ByteArray))).toList)) = true,
      0 ≤ x6,
      x6 < (List.length x3 : Int),
      (((List.length xo5 : Nat) : Int) == (0 : Int)) = false,
      0 ≤ (IntKind.wrap .i64 (((List.length xo5 : Nat) : Int) - (1 : Int))),
      (IntKind.wrap .i64 (((List.length xo5 : Nat) : Int) - (1 : Int))) < (List.length xo5 : Int),
      ((IntKind.wrap .i64 (((List.length xo5 : Nat) : Int) - (1 : Int)))).toNat < List.length xo5,
      (!(((List.getD xo5 ((IntKind.wrap .i64 (((List.length xo5 : Nat) : Int) - (1 : Int)))).toNat (⟨#[]⟩ : ByteArray))).toList == ((List.getD x3 (x6).toNat (⟨#[]⟩ : ByteArray))).toList)) = false]) (st1 := spec_lnSorted_L0b x3 x4 (IntKind.wrap .i64 (x6 + (1 : Int))) x7 (List.getD x3 (x6).toNat (⟨#[]⟩ : ByteArray)) false xo5) (by kernel_rfl) ⟨(decide_eq_true h1), (beq_f h2), (decide_eq_true h1), h3, h4, h5, h6, h7, h3, h4, (beq_f h8), h9, h10, h11, (nseq_f h12), trivial⟩ next

theorem spec_lnSorted_L0a_i7 (x3 : (List ByteArray)) (x4 : (List ByteArray)) (x6 : Int) (x7 : Int) (xo5 : (List ByteArray))
    (h1 : x6 < ((List.length x3 : Nat) : Int))
    (h2 : x7 ≠ ((List.length x4 : Nat) : Int))
    (h3 : 0 ≤ x6)
    (h4 : x6 < (List.length x3 : Int))
    (h5 : 0 ≤ x7)
    (h6 : x7 < (List.length x4 : Int))
    (h7 : (Op.bytesLess ((List.getD x3 (x6).toNat (⟨#[]⟩ : ByteArray))).toList ((List.getD x4 (x7).toNat (⟨#[]⟩ : ByteArray))).toList || (((List.getD x3 (x6).toNat (⟨#[]⟩ : ByteArray))).toList == ((List.getD x4 (x7).toNat (⟨#[]⟩ : ByteArray))).toList)) = false)
    (h8 : ((List.length xo5 : Nat) : Int) = (0 : Int))
    (h9 : sizeOK (List.length xo5 + List.length ([(List.getD x4 (x7).toNat (⟨#[]⟩ : ByteArray))] : List ByteArray)))
    {e : AEx} {st : St} (next : LoopSC cfg.P 1 (lb P_spec_lnSorted 0) (spec_lnSorted_L0a x3 x4 x6 (IntKind.wrap .i64 (x7 + (1 : Int))) (xo5 ++ ([(List.getD x4 (x7).toNat (⟨#[]⟩ : ByteArray))] : List ByteArray))) e st) :
    LoopSC cfg.P 1 (lb P_spec_lnSorted 0) (spec_lnSorted_L0a x3 x4 x6 x7 xo5) e st :=
  loop_iter cfgOK (f := i_spec_lnSorted) (its := [.bool true, .bool false, .bool true, .bool false, .bool true])
    (ps := [decide (x6 < ((List.length x3 : Nat) : Int)) = true,
      (x7 == ((List.length x4 : Nat) : Int)) = false,
      decide (x6 < ((List.length x3 : Nat) : Int)) = true,
      0 ≤ x6,
      x6 < (List.length x3 : Int),
      0 ≤ x7,
      x7 < (List.length x4 : Int),
      (Op.bytesLess ((List.getD x3 (x6).toNat (⟨#[]⟩ : ByteArray))).toList ((List.getD x4 (x7).toNat (⟨#[]⟩ : ByteArray))).toList || (((List.getD x3 (x6).toNat (⟨#[]⟩ : ByteArray))).toList == ((List.getD x4 (x7).toNat (⟨#[]⟩ : ByteArray))).toList)) = false,
      0 ≤ x7,
      x7 < (List.length x4 : Int),
      (((List.length xo5 : Nat) : Int) == (0 : Int)) = true,
      sizeOK (List.length xo5 + List.length ([(List.getD x4 (x7).toNat (⟨#[]⟩ : ByteArray))] : List ByteArray))]) (st1 := spec_lnSorted_L0a x3 x4 x6 (IntKind.wrap .i64 (x7 + (1 : Int))) (xo5 ++ ([(List.getD x4 (x7).toNat (⟨#[]⟩ : ByteArray))] : List ByteArray))) (by kernel_rfl) ⟨(decide_eq_true h1), (beq_f h2), (decide_eq_true h1), h3, h4, h5, h6, h7, h5, h6, (beq_t h8), h9, trivial⟩ next

theorem spec_lnSorted_L0a_i8 (x3 : (List ByteArray)) (x4 : (List ByteArray)) (x6 : Int) (x7 : Int) (xo5 : (List ByteArray))
    (h1 : x6 < ((List.length x3 : Nat) : Int))
    (h2 : x7 ≠ ((List.length x4 : Nat) : Int))
    (h3 : 0 ≤ x6)
    (h4 : x6 < (List.length x3 : Int))
    (h5 : 0 ≤ x7)
    (h6 : x7 < (List.length x4 : Int))
    (h7 : (Op.bytesLess ((List.getD x3 (x6).toNat (⟨#[]⟩ : ByteArray))).toList ((List.getD x4 (x7).toNat (⟨#[]⟩ : ByteArray))).toList || (((List.getD x3 (x6).toNat (⟨#[]⟩ : ByteArray))).toList == ((List.getD x4 (x7).toNat (⟨#[]⟩ : ByteArray))).toList)) = false)
    (h8 : ((List.length xo5 : Nat) : Int) ≠ (0 : Int))
    (h9 : 0 ≤ (IntKind.wrap .i64 (((List.length xo5 : Nat) : Int) - (1 : Int))))
    (h10 : (IntKind.wrap .i64 (((List.length xo5 : Nat) : Int) - (1 : Int))) < (List.length xo5 : Int))
    (h11 : ((IntKind.wrap .i64 (((List.length xo5 : Nat) : Int) - (1 : Int)))).toNat < List.length xo5)
    (h12 : (List.getD xo5 ((IntKind.wrap .i64 (((List.length xo5 : Nat) : Int) - (1 : Int)))).toNat (⟨#[]⟩ : ByteArray)) ≠ (List.getD x4 (x7).toNat (⟨#[]⟩ : ByteArray)))
    (h13 : sizeOK (List.length xo5 + List.length ([(List.getD x4 (x7).toNat (⟨#[]⟩ : ByteArray))] : List ByteArray)))
    {e : AEx} {st : St} (next : LoopSC cfg.P 1 (lb P_spec_lnSorted 0) (spec_lnSorted_L0a x3 x4 x6 (IntKind.wrap .i64 (x7 + (1 : Int))) (xo5 ++ ([(List.getD x4 (x7).toNat (⟨#[]⟩ : ByteArray))] : List ByteArray))) e st) :
    LoopSC cfg.P 1 (lb P_spec_lnSorted 0) (spec_lnSorted_L0a x3 x4 x6 x7 xo5) e st :=
  loop_iter cfgOK (f := i_spec_lnSorted) (its := [.bool true, .bool false, .bool true, .bool false, .bool false, .bool true])
    (ps := [decide (x6 < ((List.length x3 : Nat) : Int)) = true,
      (x7 == ((List.length x4 : Nat) : Int)) = false,
      decide (x6 < ((List.length x3 : Nat) : Int)) = true,
      0 ≤ x6,
      x6 < (List.length x3 : Int),
      0 ≤ x7,
      x7 < (List.length x4 : Int),
      (Op.bytesLess ((List.getD x3 (x6).toNat (⟨#[]⟩ : ByteArray))).toList ((List.getD x4 (x7).toNat (⟨#[]⟩ : ByteArray))).toList || (((List.getD x3 (x6).toNat (⟨#[]⟩ : ByteArray))).toList == ((List.getD x4 (x7).toNat (⟨#[]⟩ : ByteArray))).toList)) = false,
      0 ≤ x7,
      x7 < (List.length x4 : Int),
      (((List.length xo5 : Nat) : Int) == (0 : Int)) = false,
      0 ≤ (IntKind.wrap .i64 (((List.length xo5 : Nat) : Int) - (1 : Int))),
      (IntKind.wrap .i64 (((List.length xo5 : Nat) : Int) - (1 : Int))) < (List.length xo5 : Int),
      ((IntKind.wrap .i64 (((List.length xo5 : Nat) : Int) - (1 : Int)))).toNat < List.length xo5,
      (!(((List.getD xo5 ((IntKind.wrap .i64 (((List.length xo5 : Nat) : Int) - (1 : Int)))).toNat (⟨#[]⟩ : ByteArray))).toList == ((List.getD x4 (x7).toNat (⟨#[]⟩ : ByteArray))).toList)) = true,
      sizeOK (List.length xo5 + List.length ([(List.getD x4 (x7).toNat (⟨#[]⟩ : ByteArray))] : List ByteArray))]) (st1 := spec_lnSorted_L0a x3 x4 x6 (IntKind.wrap .i64 (x7 + (1 : Int))) (xo5 ++ ([(List.getD x4 (x7).toNat (⟨#[]⟩ : ByteArray))] : List ByteArray))) (by kernel_rfl) ⟨(decide_eq_true h1), (beq_f h2), (decide_eq_true h1), h3, h4, h5, h6, h7, h5, h6, (beq_f h8), h9, h10, h11, (nseq_t h12), h13, trivial⟩ next

theorem spec_lnSorted_L0a_i9 (x3 : (List ByteArray)) (x4 : (List ByteArray)) (x6 : Int) (x7 : Int) (xo5 : (List ByteArray))
    (h1 : x6 < ((List.length x3 : Nat) : Int))
    (h2 : x7 ≠ ((List.length x4 : Nat) : Int))
    (h3 : 0 ≤ x6)
    (h4 : x6 < (List.length x3 : Int))
    (h5 : 0 ≤ x7)
    (h6 : x7 < (List.length x4 : Int))
    (h7 : (Op.bytesLess ((List.getD x3 (x6).toNat (⟨#[]⟩ : ByteArray))).toList ((List.getD x4 (x7).toNat (⟨#[]⟩ : ByteArray))).toList || (((List.getD x3 (x6).toNat (⟨#[]⟩ : ByteArray))).toList == ((List.getD x4 (x7).toNat (⟨#[]⟩ : ByteArray))).toList)) = false)
    (h8 : ((List.length xo5 : Nat) : Int) ≠ (0 : Int))
    (h9 : 0 ≤ (IntKind.wrap .i64 (((List.length xo5 : Nat) : Int) - (1 : Int))))
    (h10 : (IntKind.wrap .i64 (((List.length xo5 : Nat) : Int) - (1 : Int))) < (List.length xo5 : Int))
    (h11 : ((IntKind.wrap .i64 (((List.length xo5 : Nat) : Int) - (1 : Int)))).toNat < List.length xo5)
    (h12 : (List.getD xo5 ((IntKind.wrap .i64 (((List.length xo5 : Nat) : Int) - (1 : Int)))).toNat (⟨#[]⟩ : ByteArray)) = (List.getD x4 (x7).toNat (⟨#[]⟩ : ByteArray)))
    {e : AEx} {st : St} (next : LoopSC cfg.P 1 (lb P_spec_lnSorted 0) (spec_lnSorted_L0b x3 x4 x6 (IntKind.wrap .i64 (x7 + (1 : Int))) (List.getD x4 (x7).toNat (⟨#[]⟩ : ByteArray)) false xo5) e st) :
    LoopSC cfg.P 1 (lb P_spec_lnSorted 0) (spec_lnSorted_L0a x3 x4 x6 x7 xo5) e st :=
  loop_iter cfgOK (f := i_spec_lnSorted) (its := [.bool true, .bool false, .bool true, .bool false, .bool false, .bool false])
    (ps := [decide (x6 < ((List.length x3 : Nat) : Int)) = true,
      (x7 == ((List.length x4 : Nat) : Int)) = false,
      decide (x6 < ((List.length x3 : Nat) : Int)) = true,
      0 ≤ x6,
      x6 < (List.length x3 : Int),
      0 ≤ x7,
      x7 < (List.length x4 : Int),
      (Op.bytesLess ((List.getD x3 (x6).toNat (⟨#[]⟩ : ByteArray))).toList ((List.getD x4 (x7).toNat (⟨#[]⟩ : ByteArray))).toList || (((List.getD x3 (x6).toNat (⟨#[]⟩ : ByteArray))).toList == ((List.getD x4 (x7).toNat (⟨#[]⟩ : ByteArray))).toList)) = false,
      0 ≤ x7,
      x7 < (List.length x4 : Int),
      (((List.length xo5 : Nat) : Int) == (0 : Int)) = false,
      0 ≤ (IntKind.wrap .i64 (((List.length xo5 : Nat) : Int) - (1 : Int))),
      (IntKind.wrap .i64 (((List.length xo5 : Nat) : Int) - (1 : Int))) < (List.length xo5 : Int),
      ((IntKind.wrap .i64 (((List.length xo5 : Nat) : Int) - (1 : Int)))).toNat < List.length xo5,
      (!(((List.getD xo5 ((IntKind.wrap .i64 (((List.length xo5 : Nat) : Int) - (1 : Int)))).toNat (⟨#[]⟩ : ByteArray))).toList == ((List.getD x4 (x7).toNat (⟨#[]⟩ : ByteArray))).toList)) = false]) (st1 := spec_lnSorted_L0b x3 x4 x6 (IntKind.wrap .i64 (x7 + (1 : Int))) (List.getD x4 (x7).toNat (⟨#[]⟩ : ByteArray)) false xo5) (by kernel_rfl) ⟨(decide_eq_true h1), (beq_f h2), (decide_eq_true h1), h3, h4, h5, h6, h7, h5, h6, (beq_f h8), h9, h10, h11, (nseq_f h12), trivial⟩ next

theorem spec_lnSorted_L0a_i10 (x3 : (List ByteArray)) (x4 : (List ByteArray)) (x6 : Int) (x7 : Int) (xo5 : (List ByteArray))
    (h1 : ¬ (x6 < ((List.length x3 : Nat) : Int)))
    (h2 : x7 < ((List.length x4 : Nat) : Int))
    (h3 : x7 = ((List.length x4 : Nat) : Int))
    (h4 : 0 ≤ x6)
    (h5 : x6 < (List.length x3 : Int))
    (h6 : ((List.length xo5 : Nat) : Int) = (0 : Int))
    (h7 : sizeOK (List.length xo5 + List.length ([(List.getD x3 (x6).toNat (⟨#[]⟩ : ByteArray))] : List ByteArray)))
    {e : AEx} {st : St} (next : LoopSC cfg.P 1 (lb P_spec_lnSorted 0) (spec_lnSorted_L0a x3 x4 (IntKind.wrap .i64 (x6 + (1 : Int))) x7 (xo5 ++ ([(List.getD x3 (x6).toNat (⟨#[]⟩ : ByteArray))] : List ByteArray))) e st) :
    LoopSC cfg.P 1 (lb P_spec_lnSorted 0) (spec_lnSorted_L0a x3 x4 x6 x7 xo5) e st :=
  loop_iter cfgOK (f := i_spec_lnSorted) (its := [.bool false, .bool true, .bool true, .bool true])
    (ps := [decide (x6 < ((List.length x3 : Nat) : Int)) = false,
      decide (x7 < ((List.length x4 : Nat) : Int)) = true,
      (x7 == ((List.length x4 : Nat) : Int)) = true,
      0 ≤ x6,
      x6 < (List.length x3 : Int),
      (((List.length xo5 : Nat) : Int) == (0 : Int)) = true,
      sizeOK (List.length xo5 + List.length ([(List.getD x3 (x6).toNat (⟨#[]⟩ : ByteArray))] : List ByteArray))]) (st1 := spec_lnSorted_L0a x3 x4 (IntKind.wrap .i64 (x6 + (1 : Int))) x7 (xo5 ++ ([(List.getD x3 (x6).toNat (⟨#[]⟩ : ByteArray))] : List ByteArray))) (by kernel_rfl) ⟨(decide_eq_false h1), (decide_eq_true h2), (beq_t h3), h4, h5, (beq_t h6), h7, trivial⟩ next

theorem spec_lnSorted_L0a_i11 (x3 : (List ByteArray)) (x4 : (List ByteArray)) (x6 : Int) (x7 : Int) (xo5 : (List ByteArray))
    (h1 : ¬ (x6 < ((List.length x3 : Nat) : Int)))
    (h2 : x7 < ((List.length x4 : Nat) : Int))
    (h3 : x7 = ((List.length x4 : Nat) : Int))
    (h4 : 0 ≤ x6)
    (h5 : x6 < (List.length x3 : Int))
    (h6 : ((List.length xo5 : Nat) : Int) ≠ (0 : Int))
    (h7 : 0 ≤ (IntKind.wrap .i64 (((List.length xo5 : Nat) : Int) - (1 : Int))))
    (h8 : (IntKind.wrap .i64 (((List.length xo5 : Nat) : Int) - (1 : Int))) < (List.length xo5 : Int))
    (h9 : ((IntKind.wrap .i64 (((List.length xo5 : Nat) : Int) - (1 : Int)))).toNat < List.length xo5)
    (h10 : (List.getD xo5 ((IntKind.wrap .i64 (((List.length xo5 : Nat) : Int) - (1 : Int)))).toNat (⟨#[]⟩ : ByteArray)) ≠ (List.getD x3 (x6).toNat (⟨#[]⟩ : ByteArray)))
    (h11 : sizeOK (List.length xo5 + List.length ([(List.getD x3 (x6).toNat (⟨#[]⟩ : ByteArray))] : List ByteArray)))
    {e : AEx} {st : St} (next : LoopSC cfg.P 1 (lb P_spec_lnSorted 0) (spec_lnSorted_L0a x3 x4 (IntKind.wrap .i64 (x6 + (1 : Int))) x7 (xo5 ++ ([(List.getD x3 (x6).toNat (⟨#[]⟩ : ByteArray))] : List ByteArray))) e st) :
    LoopSC cfg.P 1 (lb P_spec_lnSorted 0) (spec_lnSorted_L0a x3 x4 x6 x7 xo5) e st :=
  loop_iter cfgOK (f := i_spec_lnSorted) (its := [.bool false, .bool true, .bool true, .bool false, .bool true])
    (ps := [decide (x6 < ((List.length x3 : Nat) : Int)) = false,
      decide (x7 < ((List.length x4 : Nat) : Int)) = true,
      (x7 == ((List.length x4 : Nat) : Int)) = true,
      0 ≤ x6,
      x6 < (List.length x3 : Int),
      (((List.length xo5 : Nat) : Int) == (0 : Int)) = false,
      0 ≤ (IntKind.wrap .i64 (((List.length xo5 : Nat) : Int) - (1 : Int))),
      (IntKind.wrap .i64 (((List.length xo5 : Nat) : Int) - (1 : Int))) < (List.length xo5 : Int),
      ((IntKind.wrap .i64 (((List.length xo5 : Nat) : Int) - (1 : Int)))).toNat < List.length xo5,
      (!(((List.getD xo5 ((IntKind.wrap .i64 (((List.length xo5 : Nat) : Int) - (1 : Int)))).toNat (⟨#[]⟩ : ByteArray))).toList == ((List.getD x3 (x6).toNat (⟨#[]⟩ : ByteArray))).toList)) = true,
      sizeOK (List.length xo5 + List.length ([(List.getD x3 (x6).toNat (⟨#[]⟩ : ByteArray))] : List ByteArray))]) (st1 := spec_lnSorted_L0a x3 x4 (IntKind.wrap .i64 (x6 + (1 : Int))) x7 (xo5 ++ ([(List.getD x3 (x6).toNat (⟨#[]⟩ : ByteArray))] : List ByteArray))) (by kernel_rfl) ⟨(decide_eq_false h1), (decide_eq_true h2), (beq_t h3), h4, h5, (beq_f h6), h7, h8, h9, (nseq_t h10), h11, trivial⟩ next

theorem spec_lnSorted_L0a_i12 (x3 : (List ByteArray)) (x4 : (List ByteArray)) (x6 : Int) (x7 : Int) (xo5 : (List ByteArray))
    (h1 : ¬ (x6 < ((List.length x3 : Nat) : Int)))
    (h2 : x7 < ((List.length x4 : Nat) : Int))
    (h3 : x7 = ((List.length x4 : Nat) : Int))
    (h4 : 0 ≤ x6)
    (h5 : x6 < (List.length x3 : Int))
    (h6 : ((List.length xo5 : Nat) : Int) ≠ (0 : Int))
    (h7 : 0 ≤ (IntKind.wrap .i64 (((List.length xo5 : Nat) : Int) - (1 : Int))))
    (h8 : (IntKind.wrap .i64 (((List.length xo5 : Nat) : Int) - (1 : Int))) < (List.length xo5 : Int))
    (h9 : ((IntKind.wrap .i64 (((List.length xo5 : Nat) : Int) - (1 : Int)))).toNat < List.length xo5)
    (h10 : (List.getD xo5 ((IntKind.wrap .i64 (((List.length xo5 : Nat) : Int) - (1 : Int)))).toNat (⟨#[]⟩ : ByteArray)) = (List.getD x3 (x6).toNat (⟨#[]⟩ : ByteArray)))
    {e : AEx} {st : St} (next : LoopSC cfg.P 1 (lb P_spec_lnSorted 0) (spec_lnSorted_L0b x3 x4 (IntKind.wrap .i64 (x6 + (1 : Int))) x7 (List.getD x3 (x6).toNat (⟨#[]⟩ : ByteArray)) false xo5) e st) :
    LoopSC cfg.P 1 (lb P_spec_lnSorted 0) (spec_lnSorted_L0a x3 x4 x6 x7 xo5) e st :=
  loop_iter cfgOK (f := i_spec_lnSorted) (its := [.bool false, .bool true, .bool true, .bool false, .bool false])
    (ps := [decide (x6 < ((List.length x3 : Nat) : Int)) = false,
      decide (x7 < ((List.length x4 : Nat) : Int)) = true,
      (x7 == ((List.length x4 : Nat) : Int)) = true,
      0 ≤ x6,
      x6 < (List.length x3 : Int),
      (((List.length xo5 : Nat) : Int) == (0 : Int)) = false,
      0 ≤ (IntKind.wrap .i64 (((List.length xo5 : Nat) : Int) - (1 : Int))),
      (IntKind.wrap .i64 (((List.length xo5 : Nat) : Int) - (1 : Int))) < (List.length xo5 : Int),
      ((IntKind.wrap .i64 (((List.length xo5 : Nat) : Int) - (1 : Int)))).toNat < List.length xo5,
      (!(((List.getD xo5 ((IntKind.wrap .i64 (((List.length xo5 : Nat) : Int) - (1 : Int)))).toNat (⟨#[]⟩ : ByteArray))).toList == ((List.getD x3 (x6).toNat (⟨#[]⟩ : ByteArray))).toList)) = false]) (st1 := spec_lnSorted_L0b x3 x4 (IntKind.wrap .i64 (x6 + (1 : Int))) x7 (List.getD x3 (x6).toNat (⟨#[]⟩ : ByteArray)) false xo5) (by kernel_rfl) ⟨(decide_eq_false h1), (decide_eq_true h2), (beq_t h3), h4, h5, (beq_f h6), h7, h8, h9, (nseq_f h10), trivial⟩ next

theorem spec_lnSorted_L0a_i13 (x3 : (List ByteArray)) (x4 : (List ByteArray)) (x6 : Int) (x7 : Int) (xo5 : (List ByteArray))
    (h1 : ¬ (x6 < ((List.length x3 : Nat) : Int)))
    (h2 : x7 < ((List.length x4 : Nat) : Int))
    (h3 : x7 ≠ ((List.length x4 : Nat) : Int))
    (h4 : 0 ≤ x7)
    (h5 : x7 < (List.length x4 : Int))
    (h6 : ((List.length xo5 : Nat) : Int) = (0 : Int))
    (h7 : sizeOK (List.length xo5 + List.length ([(List.getD x4 (x7).toNat (⟨#[]⟩ : ByteArray))] : List ByteArray)))
    {e : AEx} {st : St} (next : LoopSC cfg.P 1 (lb P_spec_lnSorted 0) (spec_lnSorted_L0a x3 x4 x6 (IntKind.wrap .i64 (x7 + (1 : Int))) (xo5 ++ ([(List.getD x4 (x7).toNat (⟨#[]⟩ : ByteArray))] : List ByteArray))) e st) :
    LoopSC cfg.P 1 (lb P_spec_lnSorted 0) (spec_lnSorted_L0a x3 x4 x6 x7 xo5) e st :=
  loop_iter cfgOK (f := i_spec_lnSorted) (its := [.bool false, .bool true, .bool false, .bool false, .bool true])
    (ps := [decide (x6 < ((List.length x3 : Nat) : Int)) = false,
      decide (x7 < ((List.length x4 : Nat) : Int)) = true,
      (x7 == ((List.length x4 : Nat) : Int)) = false,
      decide (x6 < ((List.length x3 : Nat) : Int)) = false,
      0 ≤ x7,
      x7 < (List.length x4 : Int),
      (((List.length xo5 : Nat) : Int) == (0 : Int)) = true,
      sizeOK (List.length xo5 + List.length ([(List.getD x4 (x7).toNat (⟨#[]⟩ : ByteArray))] : List ByteArray))]) (st1 := spec_lnSorted_L0a x3 x4 x6 (IntKind.wrap .i64 (x7 + (1 : Int))) (xo5 ++ ([(List.getD x4 (x7).toNat (⟨#[]⟩ : ByteArray))] : List ByteArray))) (by kernel_rfl) ⟨(decide_eq_false h1), (decide_eq_true h2), (beq_f h3), (decide_eq_false h1), h4, h5, (beq_t h6), h7, trivial⟩ next

theorem spec_lnSorted_L0a_i14 (x3 : (List ByteArray)) (x4 : (List ByteArray)) (x6 : Int) (x7 : Int) (xo5 : (List ByteArray))
    (h1 : ¬ (x6 < ((List.length x3 : Nat) : Int)))
    (h2 : x7 < ((List.length x4 : Nat) : Int))
    (h3 : x7 ≠ ((List.length x4 : Nat) : Int))
    (h4 : 0 ≤ x7)
    (h5 : x7 < (List.length x4 : Int))
    (h6 : ((List.length xo5 : Nat) : Int) ≠ (0 : Int))
    (h7 : 0 ≤ (IntKind.wrap .i64 (((List.length xo5 : Nat) : Int) - (1 : Int))))
    (h8 : (IntKind.wrap .i64 (((List.length xo5 : Nat) : Int) - (1 : Int))) < (List.length xo5 : Int))
    (h9 : ((IntKind.wrap .i64 (((List.length xo5 : Nat) : Int) - (1 : Int)))).toNat < List.length xo5)
    (h10 : (List.getD xo5 ((IntKind.wrap .i64 (((List.length xo5 : Nat) : Int) - (1 : Int)))).toNat (⟨#[]⟩ : ByteArray)) ≠ (List.getD x4 (x7).toNat (⟨#[]⟩ : ByteArray)))
    (h11 : sizeOK (List.length xo5 + List.length ([(List.getD x4 (x7).toNat (⟨#[]⟩ : ByteArray))] : List ByteArray)))
    {e : AEx} {st : St} (next : LoopSC cfg.P 1 (lb P_spec_lnSorted 0) (spec_lnSorted_L0a x3 x4 x6 (IntKind.wrap .i64 (x7 + (1 : Int))) (xo5 ++ ([(List.getD x4 (x7).toNat (⟨#[]⟩ : ByteArray))] : List ByteArray))) e st) :
    LoopSC cfg.P 1 (lb P_spec_lnSorted 0) (spec_lnSorted_L0a x3 x4 x6 x7 xo5) e st :=
  loop_iter cfgOK (f := i_spec_lnSorted) (its := [.bool false, .bool true, .bool false, .bool false, .bool false, .bool true])
    (ps := [decide (x6 < ((List.length x3 : Nat) : Int)) = false,
      decide (x7 < ((List.length x4 : Nat) : Int)) = true,
      (x7 == ((List.length x4 : Nat) : Int)) = false,
      decide (x6 < ((List.length x3 : Nat) : Int)) = false,
      0 ≤ x7,
      x7 < (List.length x4 : Int),
      (((List.length xo5 : Nat) : Int) == (0 : Int)) = false,
      0 ≤ (IntKind.wrap .i64 (((List.length xo5 : Nat) : Int) - (1 : Int))),
      (IntKind.wrap .i64 (((List.length xo5 : Nat) : Int) - (1 : Int))) < (List.length xo5 : Int),
      ((IntKind.wrap .i64 (((List.length xo5 : Nat) : Int) - (1 : Int)))).toNat < List.length xo5,
      (!(((List.getD xo5 ((IntKind.wrap .i64 (((List.length xo5 : Nat) : Int) - (1 : Int)))).toNat (⟨#[]⟩ : ByteArray))).toList == ((List.getD x4 (x7).toNat (⟨#[]⟩ : ByteArray))).toList)) = true,
      sizeOK (List.length xo5 + List.length ([(List.getD x4 (x7).toNat (⟨#[]⟩ : ByteArray))] : List ByteArray))]) (st1 := spec_lnSorted_L0a x3 x4 x6 (IntKind.wrap .i64 (x7 + (1 : Int))) (xo5 ++ ([(List.getD x4 (x7).toNat (⟨#[]⟩ : ByteArray))] : List ByteArray))) (by kernel_rfl) ⟨(decide_eq_false h1), (decide_eq_true h2), (beq_f h3), (decide_eq_false h1), h4, h5, (beq_f h6), h7, h8, h9, (nseq_t h10), h11, trivial⟩ next

theorem spec_lnSorted_L0a_i15 (x3 : (List ByteArray)) (x4 : (List ByteArray)) (x6 : Int) (x7 : Int) (xo5 : (List ByteArray))
    (h1 : ¬ (x6 < ((List.length x3 : Nat) : Int)))
    (h2 : x7 < ((List.length x4 : Nat) : Int))
    (h3 : x7 ≠ ((List.length x4 : Nat) : Int))
    (h4 : 0 ≤ x7)
    (h5 : x7 < (List.length x4 : Int))
    (h6 : ((List.length xo5 : Nat) : Int) ≠ (0 : Int))
    (h7 : 0 ≤ (IntKind.wrap .i64 (((List.length xo5 : Nat) : Int) - (1 : Int))))
    (h8 : (IntKind.wrap .i64 (((List.length xo5 : Nat) : Int) - (1 : Int))) < (List.length xo5 : Int))
    (h9 : ((IntKind.wrap .i64 (((List.length xo5 : Nat) : Int) - (1 : Int)))).toNat < List.length xo5)
    (h10 : (List.getD xo5 ((IntKind.wrap .i64 (((List.length xo5 : Nat) : Int) - (1 : Int)))).toNat (⟨#[]⟩ : ByteArray)) = (List.getD x4 (x7).toNat (⟨#[]⟩ : ByteArray)))
    {e : AEx} {st : St} (next : LoopSC cfg.P 1 (lb P_spec_lnSorted 0) (spec_lnSorted_L0b x3 x4 x6 (IntKind.wrap .i64 (x7 + (1 : Int))) (List.getD x4 (x7).toNat (⟨#[]⟩ : ByteArray)) false xo5) e st) :
    LoopSC cfg.P 1 (lb P_spec_lnSorted 0) (spec_lnSorted_L0a x3 x4 x6 x7 xo5) e st :=
  loop_iter cfgOK (f := i_spec_lnSorted) (its := [.bool false, .bool true, .bool false, .bool false, .bool false, .bool false])
    (ps := [decide (x6 < ((List.length x3 : Nat) : Int)) = false,
      decide (x7 < ((List.length x4 : Nat) : Int)) = true,
      (x7 == ((List.length x4 : Nat) : Int)) = false,
      decide (x6 < ((List.length x3 : Nat) : Int)) = false,
      0 ≤ x7,
      x7 < (List.length x4 : Int),
      (((List.length xo5 : Nat) : Int) == (0 : Int)) = false,
      0 ≤ (IntKind.wrap .i64 (((List.length xo5 : Nat) : Int) - (1 : Int))),
      (IntKind.wrap .i64 (((List.length xo5 : Nat) : Int) - (1 : Int))) < (List.length xo5 : Int),
      ((IntKind.wrap .i64 (((List.length xo5 : Nat) : Int) - (1 : Int)))).toNat < List.length xo5,
      (!(((List.getD xo5 ((IntKind.wrap .i64 (((List.length xo5 : Nat) : Int) - (1 : Int)))).toNat (⟨#[]⟩ : ByteArray))).toList == ((List.getD x4 (x7).toNat (⟨#[]⟩ : ByteArray))).toList)) = false]) (st1 := spec_lnSorted_L0b x3 x4 x6 (IntKind.wrap .i64 (x7 + (1 : Int))) (List.getD x4 (x7).toNat (⟨#[]⟩ : ByteArray)) false xo5) (by kernel_rfl) ⟨(decide_eq_false h1), (decide_eq_true h2), (beq_f h3), (decide_eq_false h1), h4, h5, (beq_f h6), h7, h8, h9, (nseq_f h10), trivial⟩ next

theorem spec_lnSorted_L0a_x16 (x3 : (List ByteArray)) (x4 : (List ByteArray)) (x6 : Int) (x7 : Int) (xo5 : (List ByteArray))
    (h1 : ¬ (x6 < ((List.length x3 : Nat) : Int)))
    (h2 : ¬ (x7 < ((List.length x4 : Nat) : Int))) :
    LoopSC cfg.P 1 (lb P_spec_lnSorted 0) (spec_lnSorted_L0a x3 x4 x6 x7 xo5) (.exit 0) (spec_lnSorted_L0X1 x3 x4 x6 x7 false xo5) :=
  loop_out cfgOK (f := i_spec_lnSorted) (its := [.bool false, .bool false])
    (ps := [decide (x6 < ((List.length x3 : Nat) : Int)) = false,
      decide (x7 < ((List.length x4 : Nat) : Int)) = false]) (by kernel_rfl) ⟨(decide_eq_false h1), (decide_eq_false h2), trivial⟩ (fun h => by cases h)

theorem spec_lnSorted_L0b_i1 (x3 : (List ByteArray)) (x4 : (List ByteArray)) (x6 : Int) (x7 : Int) (x8 : ByteArray) (x80 : Bool) (xo5 : (List ByteArray))
    (h1 : x6 < ((List.length x3 : Nat) : Int))
    (h2 : x7 = ((List.length x4 : Nat) : Int))
    (h3 : 0 ≤ x6)
    (h4 : x6 < (List.length x3 : Int))
    (h5 : ((List.length xo5 : Nat) : Int) = (0 : Int))
    (h6 : sizeOK (List.length xo5 + List.length ([(List.getD x3 (x6).toNat (⟨#[]⟩ : ByteArray))] : List ByteArray)))
    {e : AEx} {st : St} (next : LoopSC cfg.P 1 (lb P_spec_lnSorted 0) (spec_lnSorted_L0a x3 x4 (IntKind.wrap .i64 (x6 + (1 : Int))) x7 (xo5 ++ ([(List.getD x3 (x6).toNat (⟨#[]⟩ : ByteArray))] : List ByteArray))) e st) :
    LoopSC cfg.P 1 (lb P_spec_lnSorted 0) (spec_lnSorted_L0b x3 x4 x6 x7 x8 x80 xo5) e st :=
  loop_iter cfgOK (f := i_spec_lnSorted) (its := [.bool true, .bool true, .bool true])
    (ps := [decide (x6 < ((List.length x3 : Nat) : Int)) = true,
      (x7 == ((List.length x4 : Nat) : Int)) = true,
      0 ≤ x6,
      x6 < (List.length x3 : Int),
      (((List.length xo5 : Nat) : Int) == (0 : Int)) = true,
      sizeOK (List.length xo5 + List.length ([(List.getD x3 (x6).toNat (⟨#[]⟩ : ByteArray))] : List ByteArray))]) (st1 := spec_lnSorted_L0a x3 x4 (IntKind.wrap .i64 (x6 + (1 : Int))) x7 (xo5 ++ ([(List.getD x3 (x6).toNat (⟨#[]⟩ : ByteArray))] : List ByteArray))) (by kernel_rfl) ⟨(decide_eq_true h1), (beq_t h2), h3, h4, (beq_t h5), h6, trivial⟩ next

theorem spec_lnSorted_L0b_i2 (x3 : (List ByteArray)) (x4 : (List ByteArray)) (x6 : Int) (x7 : Int) (x8 : ByteArray) (x80 : Bool) (xo5 : (List ByteArray))
    (h1 : x6 < ((List.length x3 : Nat) : Int))
    (h2 : x7 = ((List.length x4 : Nat) : Int))
    (h3 : 0 ≤ x6)
    (h4 : x6 < (List.length x3 : Int))
    (h5 : ((List.length xo5 : Nat) : Int) ≠ (0 : Int))
    (h6 : 0 ≤ (IntKind.wrap .i64 (((List.length xo5 : Nat) : Int) - (1 : Int))))
    (h7 : (IntKind.wrap .i64 (((List.length xo5 : Nat) : Int) - (1 : Int))) < (List.length xo5 : Int))
    (h8 : ((IntKind.wrap .i64 (((List.length xo5 : Nat) : Int) - (1 : Int)))).toNat < List.length xo5)
    (h9 : (List.getD xo5 ((IntKind.wrap .i64 (((List.length xo5 : Nat) : Int) - (1 : Int)))).toNat (⟨#[]⟩ : ByteArray)) ≠ (List.getD x3 (x6).toNat (⟨#[]⟩ : ByteArray)))
    (h10 : sizeOK (List.length xo5 + List.length ([(List.getD x3 (x6).toNat (⟨#[]⟩ : ByteArray))] : List ByteArray)))
    {e : AEx} {st : St} (next : LoopSC cfg.P 1 (lb P_spec_lnSorted 0) (spec_lnSorted_L0a x3 x4 (IntKind.wrap .i64 (x6 + (1 : Int))) x7 (xo5 ++ ([(List.getD x3 (x6).toNat (⟨#[]⟩ : ByteArray))] : List ByteArray))) e st) :
    LoopSC cfg.P 1 (lb P_spec_lnSorted 0) (spec_lnSorted_L0b x3 x4 x6 x7 x8 x80 xo5) e st :=
  loop_iter cfgOK (f := i_spec_lnSorted) (its := [.bool true, .bool true, .bool false, .bool true])
    (ps := [decide (x6 < ((List.length x3 : Nat) : Int)) = true,
      (x7 == ((List.length x4 : Nat) : Int)) = true,
      0 ≤ x6,
      x6 < (List.length x3 : Int),
      (((List.length xo5 : Nat) : Int) == (0 : Int)) = false,
      0 ≤ (IntKind.wrap .i64 (((List.length xo5 : Nat) : Int) - (1 : Int))),
      (IntKind.wrap .i64 (((List.length xo5 : Nat) : Int) - (1 : Int))) < (List.length xo5 : Int),
      ((IntKind.wrap .i64 (((List.length xo5 : Nat) : Int) - (1 : Int)))).toNat < List.length xo5,
      (!(((List.getD xo5 ((IntKind.wrap .i64 (((List.length xo5 : Nat) : Int) - (1 : Int)))).toNat (⟨#[]⟩ : ByteArray))).toList == ((List.getD x3 (x6).toNat (⟨#[]⟩ : ByteArray))).toList)) = true,
      sizeOK (List.length xo5 + List.length ([(List.getD x3 (x6).toNat (⟨#[]⟩ : ByteArray))] : List ByteArray))]) (st1 := spec_lnSorted_L0a x3 x4 (IntKind.wrap .i64 (x6 + (1 : Int))) x7 (xo5 ++ ([(List.getD x3 (x6).toNat (⟨#[]⟩ : ByteArray))] : List ByteArray))) (by kernel_rfl) ⟨(decide_eq_true h1), (beq_t h2), h3, h4, (beq_f h5), h6, h7, h8, (nseq_t h9), h10, trivial⟩ next

theorem spec_lnSorted_L0b_i3 (x3 : (List ByteArray)) (x4 : (List ByteArray)) (x6 : Int) (x7 : Int) (x8 : ByteArray) (x80 : Bool) (xo5 : (List ByteArray))
    (h1 : x6 < ((List.length x3 : Nat) : Int))
    (h2 : x7 = ((List.length x4 : Nat) : Int))
    (h3 : 0 ≤ x6)
    (h4 : x6 < (List.length x3 : Int))
    (h5 : ((List.length xo5 : Nat) : Int) ≠ (0 : Int))
    (h6 : 0 ≤ (IntKind.wrap .i64 (((List.length xo5 : Nat) : Int) - (1 : Int))))
    (h7 : (IntKind.wrap .i64 (((List.length xo5 : Nat) : Int) - (1 : Int))) < (List.length xo5 : Int))
    (h8 : ((IntKind.wrap .i64 (((List.length xo5 : Nat) : Int) - (1 : Int)))).toNat < List.length xo5)
    (h9 : (List.getD xo5 ((IntKind.wrap .i64 (((List.length xo5 : Nat) : Int) - (1 : Int)))).toNat (⟨#[]⟩ : ByteArray)) = (List.getD x3 (x6).toNat (⟨#[]⟩ : ByteArray)))
    {e : AEx} {st : St} (next : LoopSC cfg.P 1 (lb P_spec_lnSorted 0) (spec_lnSorted_L0b x3 x4 (IntKind.wrap .i64 (x6 + (1 : Int))) x7 (List.getD x3 (x6).toNat (⟨#[]⟩ : ByteArray)) false xo5) e st) :
    LoopSC cfg.P 1 (lb P_spec_lnSorted 0) (spec_lnSorted_L0b x3 x4 x6 x7 x8 x80 xo5) e st :=
  loop_iter cfgOK (f := i_spec_lnSorted) (its := [.bool true, .bool true, .bool false, .bool false])
    (ps := [decide (x6 < ((List.length x3 : Nat) : Int)) = true,
      (x7 == ((List.length x4 : Nat) : Int)) = true,
      0 ≤ x6,
      x6 < (List.length x3 : Int),
      (((List.length xo5 : Nat) : Int) == (0 : Int)) = false,
      0 ≤ (IntKind.wrap .i64 (((List.length xo5 : Nat) : Int) - (1 : Int))),
      (IntKind.wrap .i64 (((List.length xo5 : Nat) : Int) - (1 : Int))) < (List.length xo5 : Int),
      ((IntKind.wrap .i64 (((List.length xo5 : Nat) : Int) - (1 : Int)))).toNat < List.length xo5,
      (!(((List.getD xo5 ((IntKind.wrap .i64 (((List.length xo5 : Nat) : Int) - (1 : Int)))).toNat (⟨#[]⟩ : ByteArray))).toList == ((List.getD x3 (x6).toNat (⟨#[]⟩ : ByteArray))).toList)) = false]) (st1 := spec_lnSorted_L0b x3 x4 (IntKind.wrap .i64 (x6 + (1 : Int))) x7 (List.getD x3 (x6).toNat (⟨#[]⟩ : ByteArray)) false xo5) (by kernel_rfl) ⟨(decide_eq_true h1), (beq_t h2), h3, h4, (beq_f h5), h6, h7, h8, (nseq_f h9), trivial⟩ next

theorem spec_lnSorted_L0b_i4 (x3 : (List ByteArray)) (x4 : (List ByteArray)) (x6 : Int) (x7 : Int) (x8 : ByteArray) (x80 : Bool) (xo5 : (List ByteArray))
    (h1 : x6 < ((List.length x3 : Nat) : Int))
    (h2 : x7 ≠ ((List.length x4 : Nat) : Int))
    (h3 : 0 ≤ x6)
    (h4 : x6 < (List.length x3 : Int))
    (h5 : 0 ≤ x7)
    (h6 : x7 < (List.length x4 : Int))
    (h7 : (Op.bytesLess ((List.getD x3 (x6).toNat (⟨#[]⟩ : ByteArray))).toList ((List.getD x4 (x7).toNat (⟨#[]⟩ : ByteArray))).toList || (((List.getD x3 (x6).toNat (⟨#[]⟩ : ByteArray))).toList == ((List.getD x4 (x7).toNat (⟨#[]⟩ : ByteArray))).toList)) = true)
    (h8 : ((List.length xo5 : Nat) : Int) = (0 : Int))
    (h9 : sizeOK (List.length xo5 + List.length ([(List.getD x3 (x6).toNat (⟨#[]⟩ : ByteArray))] : List ByteArray)))
    {e : AEx} {st : St} (next : LoopSC cfg.P 1 (lb P_spec_lnSorted 0) (spec_lnSorted_L0a x3 x4 (IntKind.wrap .i64 (x6 + (1 : Int))) x7 (xo5 ++ ([(List.getD x3 (x6).toNat (⟨#[]⟩ : ByteArray))] : List ByteArray))) e st) :
    LoopSC cfg.P 1 (lb P_spec_lnSorted 0) (spec_lnSorted_L0b x3 x4 x6 x7 x8 x80 xo5) e st :=
  loop_iter cfgOK (f := i_spec_lnSorted) (its := [.bool true, .bool false, .bool true, .bool true, .bool true])
    (ps := [decide (x6 < ((List.length x3 : Nat) : Int)) = true,
      (x7 == ((List.length x4 : Nat) : Int)) = false,
      decide (x6 < ((List.length x3 : Nat) : Int)) = true,
      0 ≤ x6,
      x6 < (List.length x3 : Int),
      0 ≤ x7,
      x7 < (List.length x4 : Int),
      (Op.bytesLess ((List.getD x3 (x6).toNat (⟨#[]⟩ : ByteArray))).toList ((List.getD x4 (x7).toNat (⟨#[]⟩ : ByteArray))).toList || (((List.getD x3 (x6).toNat (⟨#[]⟩ : ByteArray))).toList == ((List.getD x4 (x7).toNat (⟨#[]⟩ : ByteArray))).toList)) = true,
      0 ≤ x6,
      x6 < (List.length x3 : Int),
      (((List.length xo5 : Nat) : Int) == (0 : Int)) = true,
      sizeOK (List.length xo5 + List.length ([(List.getD x3 (x6).toNat (⟨#[]⟩ : ByteArray))] : List ByteArray))]) (st1 := spec_lnSorted_L0a x3 x4 (IntKind.wrap .i64 (x6 + (1 : Int))) x7 (xo5 ++ ([(List.getD x3 (x6).toNat (⟨#[]⟩ : ByteArray))] : List ByteArray))) (by kernel_rfl) ⟨(decide_eq_true h1), (beq_f h2), (decide_eq_true h1), h3, h4, h5, h6, h7, h3, h4, (beq_t h8), h9, trivial⟩ next

theorem spec_lnSorted_L0b_i5 (x3 : (List ByteArray)) (x4 : (List ByteArray)) (x6 : Int) (x7 : Int) (x8 : ByteArray) (x80 : Bool) (xo5 : (List ByteArray))
    (h1 : x6 < ((List.length x3 : Nat) : Int))
    (h2 : x7 ≠ ((List.length x4 : Nat) : Int))
    (h3 : 0 ≤ x6)
    (h4 : x6 < (List.length x3 : Int))
    (h5 : 0 ≤ x7)
    (h6 : x7 < (List.length x4 : Int))
    (h7 : (Op.bytesLess ((List.getD x3 (x6).toNat (⟨#[]⟩ : ByteArray))).toList ((List.getD x4 (x7).toNat (⟨#[]⟩ : ByteArray))).toList || (((List.getD x3 (x6).toNat (⟨#[]⟩ : ByteArray))).toList == ((List.getD x4 (x7).toNat (⟨#[]⟩ : ByteArray))).toList)) = true)
    (h8 : ((List.length xo5 : Nat) : Int) ≠ (0 : Int))
    (h9 : 0 ≤ (IntKind.wrap .i64 (((List.length xo5 : Nat) : Int) - (1 : Int))))
    (h10 : (IntKind.wrap .i64 (((List.length xo5 : Nat) : Int) - (1 : Int))) < (List.length xo5 : Int))
    (h11 : ((IntKind.wrap .i64 (((List.length xo5 : Nat) : Int) - (1 : Int)))).toNat < List.length xo5)
    (h12 : (List.getD xo5 ((IntKind.wrap .i64 (((List.length xo5 : Nat) : Int) - (1 : Int)))).toNat (⟨#[]⟩ : ByteArray)) ≠ (List.getD x3 (x6).toNat (⟨#[]⟩ : ByteArray)))
    (h13 : sizeOK (List.length xo5 + List.length ([(List.getD x3 (x6).toNat (⟨#[]⟩ : ByteArray))] : List ByteArray)))
    {e : AEx} {st : St} (next : LoopSC cfg.P 1 (lb P_spec_lnSorted 0) (spec_lnSorted_L0a x3 x4 (IntKind.wrap .i64 (x6 + (1 : Int))) x7 (xo5 ++ ([(List.getD x3 (x6).toNat (⟨#[]⟩ : ByteArray))] : List ByteArray))) e st) :
    LoopSC cfg.P 1 (lb P_spec_lnSorted 0) (spec_lnSorted_L0b x3 x4 x6 x7 x8 x80 xo5) e st :=
  loop_iter cfgOK (f := i_spec_lnSorted) (its := [.bool true, .bool false, .bool true, .bool true, .bool false, .bool true])
    (ps := [decide (x6 < ((List.length x3 : Nat) : Int)) = true,
      (x7 == ((List.length x4 : Nat) : Int)) = false,
      decide (x6 < ((List.length x3 : Nat) : Int)) = true,
      0 ≤ x6,
      x6 < (List.length x3 : Int),
      0 ≤ x7,
      x7 < (List.length x4 : Int),
      (Op.bytesLess ((List.getD x3 (x6).toNat (⟨#[]⟩ : ByteArray))).toList ((List.getD x4 (x7).toNat (⟨#[]⟩ : ByteArray))).toList || (((List.getD x3 (x6).toNat (⟨#[]⟩ : ByteArray))).toList == ((List.getD x4 (x7).toNat (⟨#[]⟩ : ByteArray))).toList)) = true,
      0 ≤ x6,
      x6 < (List.length x3 : Int),
      (((List.length xo5 : Nat) : Int) == (0 : Int)) = false,
      0 ≤ (IntKind.wrap .i64 (((List.length xo5 : Nat) : Int) - (1 : Int))),
      (IntKind.wrap .i64 (((List.length xo5 : Nat) : Int) - (1 : Int))) < (List.length xo5 : Int),
      ((IntKind.wrap .i64 (((List.length xo5 : Nat) : Int) - (1 : Int)))).toNat < List.length xo5,
      (!(((List.getD xo5 ((IntKind.wrap .i64 (((List.length xo5 : Nat) : Int) - (1 : Int)))).toNat (⟨#[]⟩ : ByteArray))).toList == ((List.getD x3 (x6).toNat (⟨#[]⟩ : ByteArray))).toList)) = true,
      sizeOK (List.length xo5 + List.length ([(List.getD x3 (x6).toNat (⟨#[]⟩ : ByteArray))] : List ByteArray))]) (st1 := spec_lnSorted_L0a x3 x4 (IntKind.wrap .i64 (x6 + (1 : Int))) x7 (xo5 ++ ([(List.getD x3 (x6).toNat (⟨#[]⟩ : ByteArray))] : List ByteArray))) (by kernel_rfl) ⟨(decide_eq_true h1), (beq_f h2), (decide_eq_true h1), h3, h4, h5, h6, h7, h3, h4, (beq_f h8), h9, h10, h11, (nseq_t h12), h13, trivial⟩ next

theorem spec_lnSorted_L0b_i6 (x3 : (List ByteArray)) (x4 : (List ByteArray)) (x6 : Int) (x7 : Int) (x8 : ByteArray) (x80 : Bool) (xo5 : (List ByteArray))
    (h1 : x6 < ((List.length x3 : Nat) : Int))
    (h2 : x7 ≠ ((List.length x4 : Nat) : Int))
    (h3 : 0 ≤ x6)
    (h4 : x6 < (List.length x3 : Int))
    (h5 : 0 ≤ x7)
    (h6 : x7 < (List.length x4 : Int))
    (h7 : (Op.bytesLess ((List.getD x3 (x6).toNat (⟨#[]⟩ : ByteArray))).toList ((List.getD x4 (x7).toNat (⟨#[]⟩ : ByteArray))).toList || (((List.getD x3 (x6).toNat (⟨#[]⟩ : ByteArray))).toList == ((List.getD x4 (x7).toNat (⟨#[]⟩ : ByteArray))).toList)) = true)
    (h8 : ((List.length xo5 : Nat) : Int) ≠ (0 : Int))
    (h9 : 0 ≤ (IntKind.wrap .i64 (((List.length xo5 : Nat) : Int) - (1 : Int))))
    (h10 : (IntKind.wrap .i64 (((List.length xo5 : Nat) : Int) - (1 : Int))) < (List.length xo5 : Int))
    (h11 : ((IntKind.wrap .i64 (((List.length xo5 : Nat) : Int) - (1 : Int)))).toNat < List.length xo5)
    (h12 : (List.getD xo5 ((IntKind.wrap .i64 (((List.length xo5 : Nat) : Int) - (1 : Int)))).toNat (⟨#[]⟩ : ByteArray)) = (List.getD x3 (x6).toNat (⟨#[]⟩ : ByteArray)))
    {e : AEx} {st : St} (next : LoopSC cfg.P 1 (lb P_spec_lnSorted 0) (spec_lnSorted_L0b x3 x4 (IntKind.wrap .i64 (x6 + (1 : Int))) x7 (List.getD x3 (x6).toNat (⟨#[]⟩ : ByteArray)) false xo5) e st) :
    LoopSC cfg.P 1 (lb P_spec_lnSorted 0) (spec_lnSorted_L0b x3 x4 x6 x7 x8 x80 xo5) e st :=
  loop_iter cfgOK (f := i_spec_lnSorted) (its := [.bool true, .bool false, .bool true, .bool true, .bool false, .bool false])
    (ps := [decide (x6 < ((List.length x3 : Nat) : Int)) = true,
      (x7 == ((List.length x4 : Nat) : Int)) = false,
      decide (x6 < ((List.length x3 : Nat) : Int)) = true,
      0 ≤ x6,
      x6 < (List.length x3 : Int),
      0 ≤ x7,
      x7 < (List.length x4 : Int),
      (Op.bytesLess ((List.getD x3 (x6).toNat (⟨#[]⟩ : ByteArray))).toList ((List.getD x4 (x7).toNat (⟨#[]⟩ : ByteArray))).toList || (((List.getD x3 (x6).toNat (⟨#[]⟩ : ByteArray))).toList == ((List.getD x4 (x7).toNat (⟨#[]⟩ : ByteArray))).toList)) = true,
      0 ≤ x6,
      x6 < (List.length x3 : Int),
      (((List.length xo5 : Nat) : Int) == (0 : Int)) = false,
      0 ≤ (IntKind.wrap .i64 (((List.length xo5 : Nat) : Int) - (1 : Int))),
      (IntKind.wrap .i64 (((List.length xo5 : Nat) : Int) - (1 : Int))) < (List.length xo5 : Int),
      ((IntKind.wrap .i64 (((List.length xo5 : Nat) : Int) - (1 : Int)))).toNat < List.length xo5,
      (!(((List.getD xo5 ((IntKind.wrap .i64 (((List.length xo5 : Nat) : Int) - (1 : Int)))).toNat (⟨#[]⟩ : ByteArray))).toList == ((List.getD x3 (x6).toNat (⟨#[]⟩ : ByteArray))).toList)) = false]) (st1 := spec_lnSorted_L0b x3 x4 (IntKind.wrap .i64 (x6 + (1 : Int))) x7 (List.getD x3 (x6).toNat (⟨#[]⟩ : ByteArray)) false xo5) (by kernel_rfl) ⟨(decide_eq_true h1), (beq_f h2), (decide_eq_true h1), h3, h4, h5, h6, h7, h3, h4, (beq_f h8), h9, h10, h11, (nseq_f h12), trivial⟩ next

theorem spec_lnSorted_L0b_i7 (x3 : (List ByteArray)) (x4 : (List ByteArray)) (x6 : Int) (x7 : Int) (x8 : ByteArray) (x80 : Bool) (xo5 : (List ByteArray))
    (h1 : x6 < ((List.length x3 : Nat) : Int))
    (h2 : x7 ≠ ((List.length x4 : Nat) : Int))
    (h3 : 0 ≤ x6)
    (h4 : x6 < (List.length x3 : Int))
    (h5 : 0 ≤ x7)
    (h6 : x7 < (List.length x4 : Int))
    (h7 : (Op.bytesLess ((List.getD x3 (x6).toNat (⟨#[]⟩ : ByteArray))).toList ((List.getD x4 (x7).toNat (⟨#[]⟩ : ByteArray))).toList || (((List.getD x3 (x6).toNat (⟨#[]⟩ : ByteArray))).toList == ((List.getD x4 (x7).toNat (⟨#[]⟩ : ByteArray))).toList)) = false)
    (h8 : ((List.length xo5 : Nat) : Int) = (0 : Int))
    (h9 : sizeOK (List.length xo5 + List.length ([(List.getD x4 (x7).toNat (⟨#[]⟩ : ByteArray))] : List ByteArray)))
    {e : AEx} {st : St} (next : LoopSC cfg.P 1 (lb P_spec_lnSorted 0) (spec_lnSorted_L0a x3 x4 x6 (IntKind.wrap .i64 (x7 + (1 : Int))) (xo5 ++ ([(List.getD x4 (x7).toNat (⟨#[]⟩ : ByteArray))] : List ByteArray))) e st) :
    LoopSC cfg.P 1 (lb P_spec_lnSorted 0) (spec_lnSorted_L0b x3 x4 x6 x7 x8 x80 xo5) e st :=
  loop_iter cfgOK (f := i_spec_lnSorted) (its := [.bool true, .bool false, .bool true, .bool false, .bool true])
    (ps := [decide (x6 < ((List.length x3 : Nat) : Int)) = true,
      (x7 == ((List.length x4 : Nat) : Int)) = false,
      decide (x6 < ((List.length x3 : Nat) : Int)) = true,
      0 ≤ x6,
      x6 < (List.length x3 : Int),
      0 ≤ x7,
      x7 < (List.length x4 : Int),
      (Op.bytesLess ((List.getD x3 (x6).toNat (⟨#[]⟩ : ByteArray))).toList ((List.getD x4 (x7).toNat (⟨#[]⟩ : ByteArray))).toList || (((List.getD x3 (x6).toNat (⟨#[]⟩ : ByteArray))).toList == ((List.getD x4 (x7).toNat (⟨#[]⟩ : ByteArray))).toList)) = false,
      0 ≤ x7,
      x7 < (List.length x4 : Int),
      (((List.length xo5 : Nat) : Int) == (0 : Int)) = true,
      sizeOK (List.length xo5 + List.length ([(List.getD x4 (x7).toNat (⟨#[]⟩ : ByteArray))] : List ByteArray))]) (st1 := spec_lnSorted_L0a x3 x4 x6 (IntKind.wrap .i64 (x7 + (1 : Int))) (xo5 ++ ([(List.getD x4 (x7).toNat (⟨#[]⟩ : ByteArray))] : List ByteArray))) (by kernel_rfl) ⟨(decide_eq_true h1), (beq_f h2), (decide_eq_true h1), h3, h4, h5, h6, h7, h5, h6, (beq_t h8), h9, trivial⟩ next

theorem spec_lnSorted_L0b_i8 (x3 : (List ByteArray)) (x4 : (List ByteArray)) (x6 : Int) (x7 : Int) (x8 : ByteArray) (x80 : Bool) (xo5 : (List ByteArray))
    (h1 : x6 < ((List.length x3 : Nat) : Int))
    (h2 : x7 ≠ ((List.length x4 : Nat) : Int))
    (h3 : 0 ≤ x6)
    (h4 : x6 < (List.length x3 : Int))
    (h5 : 0 ≤ x7)
    (h6 : x7 < (List.length x4 : Int))
    (h7 : (Op.bytesLess ((List.getD x3 (x6).toNat (⟨#[]⟩ : ByteArray))).toList ((List.getD x4 (x7).toNat (⟨#[]⟩ : ByteArray))).toList || (((List.getD x3 (x6).toNat (⟨#[]⟩ : ByteArray))).toList == ((List.getD x4 (x7).toNat (⟨#[]⟩ : ByteArray))).toList)) = false)
    (h8 : ((List.length xo5 : Nat) : Int) ≠ (0 : Int))
    (h9 : 0 ≤ (IntKind.wrap .i64 (((List.length xo5 : Nat) : Int) - (1 : Int))))
    (h10 : (IntKind.wrap .i64 (((List.length xo5 : Nat) : Int) - (1 : Int))) < (List.length xo5 : Int))
    (h11 : ((IntKind.wrap .i64 (((List.length xo5 : Nat) : Int) - (1 : Int)))).toNat < List.length xo5)
    (h12 : (List.getD xo5 ((IntKind.wrap .i64 (((List.length xo5 : Nat) : Int) - (1 : Int)))).toNat (⟨#[]⟩ : ByteArray)) ≠ (List.getD x4 (x7).toNat (⟨#[]⟩ : ByteArray)))
    (h13 : sizeOK (List.length xo5 + List.length ([(List.getD x4 (x7).toNat (⟨#[]⟩ : ByteArray))] : List ByteArray)))
    {e : AEx} {st : St} (next : LoopSC cfg.P 1 (lb P_spec_lnSorted 0) (spec_lnSorted_L0a x3 x4 x6 (IntKind.wrap .i64 (x7 + (1 : Int))) (xo5 ++ ([(List.getD x4 (x7).toNat (⟨#[]⟩ : ByteArray))] : List ByteArray))) e st) :
    LoopSC cfg.P 1 (lb P_spec_lnSorted 0) (spec_lnSorted_L0b x3 x4 x6 x7 x8 x80 xo5) e st :=
  loop_iter cfgOK (f := i_spec_lnSorted) (its := [.bool true, .bool false, .bool true, .bool false, .bool false, .bool true])
    (ps := [decide (x6 < ((List.length x3 : Nat) : Int)) = true,
      (x7 == ((List.length x4 : Nat) : Int)) = false,
      decide (x6 < ((List.length x3 : Nat) : Int)) = true,
      0 ≤ x6,
      x6 < (List.length x3 : Int),
      0 ≤ x7,
      x7 < (List.length x4 : Int),
      (Op.bytesLess ((List.getD x3 (x6).toNat (⟨#[]⟩ : ByteArray))).toList ((List.getD x4 (x7).toNat (⟨#[]⟩ : ByteArray))).toList || (((List.getD x3 (x6).toNat (⟨#[]⟩ : ByteArray))).toList == ((List.getD x4 (x7).toNat (⟨#[]⟩ : ByteArray))).toList)) = false,
      0 ≤ x7,
      x7 < (List.length x4 : Int),
      (((List.length xo5 : Nat) : Int) == (0 : Int)) = false,
      0 ≤ (IntKind.wrap .i64 (((List.length xo5 : Nat) : Int) - (1 : Int))),
      (IntKind.wrap .i64 (((List.length xo5 : Nat) : Int) - (1 : Int))) < (List.length xo5 : Int),
      ((IntKind.wrap .i64 (((List.length xo5 : Nat) : Int) - (1 : Int)))).toNat < List.length xo5,
      (!(((List.getD xo5 ((IntKind.wrap .i64 (((List.length xo5 : Nat) : Int) - (1 : Int)))).toNat (⟨#[]⟩ : ByteArray))).toList == ((List.getD x4 (x7).toNat (⟨#[]⟩ : ByteArray))).toList)) = true,
      sizeOK (List.length xo5 + List.length ([(List.getD x4 (x7).toNat (⟨#[]⟩ : ByteArray))] : List ByteArray))]) (st1 := spec_lnSorted_L0a x3 x4 x6 (IntKind.wrap .i64 (x7 + (1 : Int))) (xo5 ++ ([(List.getD x4 (x7).toNat (⟨#[]⟩ : ByteArray))] : List ByteArray))) (by kernel_rfl) ⟨(decide_eq_true h1), (beq_f h2), (decide_eq_true h1), h3, h4, h5, h6, h7, h5, h6, (beq_f h8), h9, h10, h11, (nseq_t h12), h13, trivial⟩ next

theorem spec_lnSorted_L0b_i9 (x3 : (List ByteArray)) (x4 : (List ByteArray)) (x6 : Int) (x7 : Int) (x8 : ByteArray) (x80 : Bool) (xo5 : (List ByteArray))
    (h1 : x6 < ((List.length x3 : Nat) : Int))
    (h2 : x7 ≠ ((List.length x4 : Nat) : Int))
    (h3 : 0 ≤ x6)
    (h4 : x6 < (List.length x3 : Int))
    (h5 : 0 ≤ x7)
    (h6 : x7 < (List.length x4 : Int))
    (h7 : (Op.bytesLess ((List.getD x3 (x6).toNat (⟨#[]⟩ : ByteArray))).toList ((List.getD x4 (x7).toNat (⟨#[]⟩ : ByteArray))).toList || (((List.getD x3 (x6).toNat (⟨#[]⟩ : ByteArray))).toList == ((List.getD x4 (x7).toNat (⟨#[]⟩ : ByteArray))).toList)) = false)
    (h8 : ((List.length xo5 : Nat) : Int) ≠ (0 : Int))
    (h9 : 0 ≤ (IntKind.wrap .i64 (((List.length xo5 : Nat) : Int) - (1 : Int))))
    (h10 : (IntKind.wrap .i64 (((List.length xo5 : Nat) : Int) - (1 : Int))) < (List.length xo5 : Int))
    (h11 : ((IntKind.wrap .i64 (((List.length xo5 : Nat) : Int) - (1 : Int)))).toNat < List.length xo5)
    (h12 : (List.getD xo5 ((IntKind.wrap .i64 (((List.length xo5 : Nat) : Int) - (1 : Int)))).toNat (⟨#[]⟩ : ByteArray)) = (List.getD x4 (x7).toNat (⟨#[]⟩ : ByteArray)))
    {e : AEx} {st : St} (next : LoopSC cfg.P 1 (lb P_spec_lnSorted 0) (spec_lnSorted_L0b x3 x4 x6 (IntKind.wrap .i64 (x7 + (1 : Int))) (List.getD x4 (x7).toNat (⟨#[]⟩ : ByteArray)) false xo5) e st) :
    LoopSC cfg.P 1 (lb P_spec_lnSorted 0) (spec_lnSorted_L0b x3 x4 x6 x7 x8 x80 xo5) e st :=
  loop_iter cfgOK (f := i_spec_lnSorted) (its := [.bool true, .bool false, .bool true, .bool false, .bool false, .bool false])
    (ps := [decide (x6 < ((List.length x3 : Nat) : Int)) = true,
      (x7 == ((List.length x4 : Nat) : Int)) = false,
      decide (x6 < ((List.length x3 : Nat) : Int)) = true,
      0 ≤ x6,
      x6 < (List.length x3 : Int),
      0 ≤ x7,
      x7 < (List.length x4 : Int),
      (Op.bytesLess ((List.getD x3 (x6).toNat (⟨#[]⟩ : ByteArray))).toList ((List.getD x4 (x7).toNat (⟨#[]⟩ : ByteArray))).toList || (((List.getD x3 (x6).toNat (⟨#[]⟩ : ByteArray))).toList == ((List.getD x4 (x7).toNat (⟨#[]⟩ : ByteArray))).toList)) = false,
      0 ≤ x7,
      x7 < (List.length x4 : Int),
      (((List.length xo5 : Nat) : Int) == (0 : Int)) = false,
      0 ≤ (IntKind.wrap .i64 (((List.length xo5 : Nat) : Int) - (1 : Int))),
      (IntKind.wrap .i64 (((List.length xo5 : Nat) : Int) - (1 : Int))) < (List.length xo5 : Int),
      ((IntKind.wrap .i64 (((List.length xo5 : Nat) : Int) - (1 : Int)))).toNat < List.length xo5,
      (!(((List.getD xo5 ((IntKind.wrap .i64 (((List.length xo5 : Nat) : Int) - (1 : Int)))).toNat (⟨#[]⟩ : ByteArray))).toList == ((List.getD x4 (x7).toNat (⟨#[]⟩ : ByteArray))).toList)) = false]) (st1 := spec_lnSorted_L0b x3 x4 x6 (IntKind.wrap .i64 (x7 + (1 : Int))) (List.getD x4 (x7).toNat (⟨#[]⟩ : ByteArray)) false xo5) (by kernel_rfl) ⟨(decide_eq_true h1), (beq_f h2), (decide_eq_true h1), h3, h4, h5, h6, h7, h5, h6, (beq_f h8), h9, h10, h11, (nseq_f h12), trivial⟩ next

theorem spec_lnSorted_L0b_i10 (x3 : (List ByteArray)) (x4 : (List ByteArray)) (x6 : Int) (x7 : Int) (x8 : ByteArray) (x80 : Bool) (xo5 : (List ByteArray))
    (h1 : ¬ (x6 < ((List.length x3 : Nat) : Int)))
    (h2 : x7 < ((List.length x4 : Nat) : Int))
    (h3 : x7 = ((List.length x4 : Nat) : Int))
    (h4 : 0 ≤ x6)
    (h5 : x6 < (List.length x3 : Int))
    (h6 : ((List.length xo5 : Nat) : Int) = (0 : Int))
    (h7 : sizeOK (List.length xo5 + List.length ([(List.getD x3 (x6).toNat (⟨#[]⟩ : ByteArray))] : List ByteArray)))
    {e : AEx} {st : St} (next : LoopSC cfg.P 1 (lb P_spec_lnSorted 0) (spec_lnSorted_L0a x3 x4 (IntKind.wrap .i64 (x6 + (1 : Int))) x7 (xo5 ++ ([(List.getD x3 (x6).toNat (⟨#[]⟩ : ByteArray))] : List ByteArray))) e st) :
    LoopSC cfg.P 1 (lb P_spec_lnSorted 0) (spec_lnSorted_L0b x3 x4 x6 x7 x8 x80 xo5) e st :=
  loop_iter cfgOK (f := i_spec_lnSorted) (its := [.bool false, .bool true, .bool true, .bool true])
    (ps := [decide (x6 < ((List.length x3 : Nat) : Int)) = false,
      decide (x7 < ((List.length x4 : Nat) : Int)) = true,
      (x7 == ((List.length x4 : Nat) : Int)) = true,
      0 ≤ x6,
      x6 < (List.length x3 : Int),
      (((List.length xo5 : Nat) : Int) == (0 : Int)) = true,
      sizeOK (List.length xo5 + List.length ([(List.getD x3 (x6).toNat (⟨#[]⟩ : ByteArray))] : List ByteArray))]) (st1 := spec_lnSorted_L0a x3 x4 (IntKind.wrap .i64 (x6 + (1 : Int))) x7 (xo5 ++ ([(List.getD x3 (x6).toNat (⟨#[]⟩ : ByteArray))] : List ByteArray))) (by kernel_rfl) ⟨(decide_eq_false h1), (decide_eq_true h2), (beq_t h3), h4, h5, (beq_t h6), h7, trivial⟩ next

theorem spec_lnSorted_L0b_i11 (x3 : (List ByteArray)) (x4 : (List ByteArray)) (x6 : Int) (x7 : Int) (x8 : ByteArray) (x80 : Bool) (xo5 : (List ByteArray))
    (h1 : ¬ (x6 < ((List.length x3 : Nat) : Int)))
    (h2 : x7 < ((List.length x4 : Nat) : Int))
    (h3 : x7 = ((List.length x4 : Nat) : Int))
    (h4 : 0 ≤ x6)
    (h5 : x6 < (List.length x3 : Int))
    (h6 : ((List.length xo5 : Nat) : Int) ≠ (0 : Int))
    (h7 : 0 ≤ (IntKind.wrap .i64 (((List.length xo5 : Nat) : Int) - (1 : Int))))
    (h8 : (IntKind.wrap .i64 (((List.length xo5 : Nat) : Int) - (1 : Int))) < (List.length xo5 : Int))
    (h9 : ((IntKind.wrap .i64 (((List.length xo5 : Nat) : Int) - (1 : Int)))).toNat < List.length xo5)
    (h10 : (List.getD xo5 ((IntKind.wrap .i64 (((List.length xo5 : Nat) : Int) - (1 : Int)))).toNat (⟨#[]⟩ : ByteArray)) ≠ (List.getD x3 (x6).toNat (⟨#[]⟩ : ByteArray)))
    (h11 : sizeOK (List.length xo5 + List.length ([(List.getD x3 (x6).toNat (⟨#[]⟩ : ByteArray))] : List ByteArray)))
    {e : AEx} {st : St} (next : LoopSC cfg.P 1 (lb P_spec_lnSorted 0) (spec_lnSorted_L0a x3 x4 (IntKind.wrap .i64 (x6 + (1 : Int))) x7 (xo5 ++ ([(List.getD x3 (x6).toNat (⟨#[]⟩ : ByteArray))] : List ByteArray))) e st) :
    LoopSC cfg.P 1 (lb P_spec_lnSorted 0) (spec_lnSorted_L0b x3 x4 x6 x7 x8 x80 xo5) e st :=
  loop_iter cfgOK (f := i_spec_lnSorted) (its := [.bool false, .bool true, .bool true, .bool false, .bool true])
    (ps := [decide (x6 < ((List.length x3 : Nat) : Int)) = false,
      decide (x7 < ((List.length x4 : Nat) : Int)) = true,
      (x7 == ((List.length x4 : Nat) : Int)) = true,
      0 ≤ x6,
      x6 < (List.length x3 : Int),
      (((List.length xo5 : Nat) : Int) == (0 : Int)) = false,
      0 ≤ (IntKind.wrap .i64 (((List.length xo5 : Nat) : Int) - (1 : Int))),
      (IntKind.wrap .i64 (((List.length xo5 : Nat) : Int) - (1 : Int))) < (List.length xo5 : Int),
      ((IntKind.wrap .i64 (((List.length xo5 : Nat) : Int) - (1 : Int)))).toNat < List.length xo5,
      (!(((List.getD xo5 ((IntKind.wrap .i64 (((List.length xo5 : Nat) : Int) - (1 : Int)))).toNat (⟨#[]⟩ : ByteArray))).toList == ((List.getD x3 (x6).toNat (⟨#[]⟩ : ByteArray))).toList)) = true,
      sizeOK (List.length xo5 + List.length ([(List.getD x3 (x6).toNat (⟨#[]⟩ : ByteArray))] : List ByteArray))]) (st1 := spec_lnSorted_L0a x3 x4 (IntKind.wrap .i64 (x6 + (1 : Int))) x7 (xo5 ++ ([(List.getD x3 (x6).toNat (⟨#[]⟩ : ByteArray))] : List ByteArray))) (by kernel_rfl) ⟨(decide_eq_false h1), (decide_eq_true h2), (beq_t h3), h4, h5, (beq_f h6), h7, h8, h9, (nseq_t h10), h11, trivial⟩ next

theorem spec_lnSorted_L0b_i12 (x3 : (List ByteArray)) (x4 : (List ByteArray)) (x6 : Int) (x7 : Int) (x8 : ByteArray) (x80 : Bool) (xo5 : (List ByteArray))
    (h1 : ¬ (x6 < ((List.length x3 : Nat) : Int)))
    (h2 : x7 < ((List.length x4 : Nat) : Int))
    (h3 : x7 = ((List.length x4 : Nat) : Int))
    (h4 : 0 ≤ x6)
    (h5 : x6 < (List.length x3 : Int))
    (h6 : ((List.length xo5 : Nat) : Int) ≠ (0 : Int))
    (h7 : 0 ≤ (IntKind.wrap .i64 (((List.length xo5 : Nat) : Int) - (1 : Int))))
    (h8 : (IntKind.wrap .i64 (((List.length xo5 : Nat) : Int) - (1 : Int))) < (List.length xo5 : Int))
    (h9 : ((IntKind.wrap .i64 (((List.length xo5 : Nat) : Int) - (1 : Int)))).toNat < List.length xo5)
    (h10 : (List.getD xo5 ((IntKind.wrap .i64 (((List.length xo5 : Nat) : Int) - (1 : Int)))).toNat (⟨#[]⟩ : ByteArray)) = (List.getD x3 (x6).toNat (⟨#[]⟩ : ByteArray)))
    {e : AEx} {st : St} (next : LoopSC cfg.P 1 (lb P_spec_lnSorted 0) (spec_lnSorted_L0b x3 x4 (IntKind.wrap .i64 (x6 + (1 : Int))) x7 (List.getD x3 (x6).toNat (⟨#[]⟩ : ByteArray)) false xo5) e st) :
    LoopSC cfg.P 1 (lb P_spec_lnSorted 0) (spec_lnSorted_L0b x3 x4 x6 x7 x8 x80 xo5) e st :=
  loop_iter cfgOK (f := i_spec_lnSorted) (its := [.bool false, .bool true, .bool true, .bool false, .bool false])
    (ps := [decide (x6 < ((List.length x3 : Nat) : Int)) = false,
      decide (x7 < ((List.length x4 : Nat) : Int)) = true,
      (x7 == ((List.length x4 : Nat) : Int)) = true,
      0 ≤ x6,
      x6 < (List.length x3 : Int),
      (((List.length xo5 : Nat) : Int) == (0 : Int)) = false,
      0 ≤ (IntKind.wrap .i64 (((List.length xo5 : Nat) : Int) - (1 : Int))),
      (IntKind.wrap .i64 (((List.length xo5 : Nat) : Int) - (1 : Int))) < (List.length xo5 : Int),
      ((IntKind.wrap .i64 (((List.length xo5 : Nat) : Int) - (1 : Int)))).toNat < List.length xo5,
      (!(((List.getD xo5 ((IntKind.wrap .i64 (((List.length xo5 : Nat) : Int) - (1 : Int)))).toNat (⟨#[]⟩ : ByteArray))).toList == ((List.getD x3 (x6).toNat (⟨#[]⟩ : ByteArray))).toList)) = false]) (st1 := spec_lnSorted_L0b x3 x4 (IntKind.wrap .i64 (x6 + (1 : Int))) x7 (List.getD x3 (x6).toNat (⟨#[]⟩ : ByteArray)) false xo5) (by kernel_rfl) ⟨(decide_eq_false h1), (decide_eq_true h2), (beq_t h3), h4, h5, (beq_f h6), h7, h8, h9, (nseq_f h10), trivial⟩ next

theorem spec_lnSorted_L0b_i13 (x3 : (List ByteArray)) (x4 : (List ByteArray)) (x6 : Int) (x7 : Int) (x8 : ByteArray) (x80 : Bool) (xo5 : (List ByteArray))
    (h1 : ¬ (x6 < ((List.length x3 : Nat) : Int)))
    (h2 : x7 < ((List.length x4 : Nat) : Int))
    (h3 : x7 ≠ ((List.length x4 : Nat) : Int))
    (h4 : 0 ≤ x7)
    (h5 : x7 < (List.length x4 : Int))
    (h6 : ((List.length xo5 : Nat) : Int) = (0 : Int))
    (h7 : sizeOK (List.length xo5 + List.length ([(List.getD x4 (x7).toNat (⟨#[]⟩ : ByteArray))] : List ByteArray)))
    {e : AEx} {st : St} (next : LoopSC cfg.P 1 (lb P_spec_lnSorted 0) (spec_lnSorted_L0a x3 x4 x6 (IntKind.wrap .i64 (x7 + (1 : Int))) (xo5 ++ ([(List.getD x4 (x7).toNat (⟨#[]⟩ : ByteArray))] : List ByteArray))) e st) :
    LoopSC cfg.P 1 (lb P_spec_lnSorted 0) (spec_lnSorted_L0b x3 x4 x6 x7 x8 x80 xo5) e st :=
  loop_iter cfgOK (f := i_spec_lnSorted) (its := [.bool false, .bool true, .bool false, .bool false, .bool true])
    (ps := [decide (x6 < ((List.length x3 : Nat) : Int)) = false,
      decide (x7 < ((List.length x4 : Nat) : Int)) = true,
      (x7 == ((List.length x4 : Nat) : Int)) = false,
      decide (x6 < ((List.length x3 : Nat) : Int)) = false,
      0 ≤ x7,
      x7 < (List.length x4 : Int),
      (((List.length xo5 : Nat) : Int) == (0 : Int)) = true,
      sizeOK (List.length xo5 + List.length ([(List.getD x4 (x7).toNat (⟨#[]⟩ : ByteArray))] : List ByteArray))]) (st1 := spec_lnSorted_L0a x3 x4 x6 (IntKind.wrap .i64 (x7 + (1 : Int))) (xo5 ++ ([(List.getD x4 (x7).toNat (⟨#[]⟩ : ByteArray))] : List ByteArray))) (by kernel_rfl) ⟨(decide_eq_false h1), (decide_eq_true h2), (beq_f h3), (decide_eq_false h1), h4, h5, (beq_t h6), h7, trivial⟩ next

theorem spec_lnSorted_L0b_i14 (x3 : (List ByteArray)) (x4 : (List ByteArray)) (x6 : Int) (x7 : Int) (x8 : ByteArray) (x80 : Bool) (xo5 : (List ByteArray))
    (h1 : ¬ (x6 < ((List.length x3 : Nat) : Int)))
    (h2 : x7 < ((List.length x4 : Nat) : Int))
    (h3 : x7 ≠ ((List.length x4 : Nat) : Int))
    (h4 : 0 ≤ x7)
    (h5 : x7 < (List.length x4 : Int))
    (h6 : ((List.length xo5 : Nat) : Int) ≠ (0 : Int))
    (h7 : 0 ≤ (IntKind.wrap .i64 (((List.length xo5 : Nat) : Int) - (1 : Int))))
    (h8 : (IntKind.wrap .i64 (((List.length xo5 : Nat) : Int) - (1 : Int))) < (List.length xo5 : Int))
    (h9 : ((IntKind.wrap .i64 (((List.length xo5 : Nat) : Int) - (1 : Int)))).toNat < List.length xo5)
    (h10 : (List.getD xo5 ((IntKind.wrap .i64 (((List.length xo5 : Nat) : Int) - (1 : Int)))).toNat (⟨#[]⟩ : ByteArray)) ≠ (List.getD x4 (x7).toNat (⟨#[]⟩ : ByteArray)))
    (h11 : sizeOK (List.length xo5 + List.length ([(List.getD x4 (x7).toNat (⟨#[]⟩ : ByteArray))] : List ByteArray)))
    {e : AEx} {st : St} (next : LoopSC cfg.P 1 (lb P_spec_lnSorted 0) (spec_lnSorted_L0a x3 x4 x6 (IntKind.wrap .i64 (x7 + (1 : Int))) (xo5 ++ ([(List.getD x4 (x7).toNat (⟨#[]⟩ : ByteArray))] : List ByteArray))) e st) :
    LoopSC cfg.P 1 (lb P_spec_lnSorted 0) (spec_lnSorted_L0b x3 x4 x6 x7 x8 x80 xo5) e st :=
  loop_iter cfgOK (f := i_spec_lnSorted) (its := [.bool false, .bool true, .bool false, .bool false, .bool false, .bool true])
    (ps := [decide (x6 < ((List.length x3 : Nat) : Int)) = false,
      decide (x7 < ((List.length x4 : Nat) : Int)) = true,
      (x7 == ((List.length x4 : Nat) : Int)) = false,
      decide (x6 < ((List.length x3 : Nat) : Int)) = false,
      0 ≤ x7,
      x7 < (List.length x4 : Int),
      (((List.length xo5 : Nat) : Int) == (0 : Int)) = false,
      0 ≤ (IntKind.wrap .i64 (((List.length xo5 : Nat) : Int) - (1 : Int))),
      (IntKind.wrap .i64 (((List.length xo5 : Nat) : Int) - (1 : Int))) < (List.length xo5 : Int),
      ((IntKind.wrap .i64 (((List.length xo5 : Nat) : Int) - (1 : Int)))).toNat < List.length xo5,
      (!(((List.getD xo5 ((IntKind.wrap .i64 (((List.length xo5 : Nat) : Int) - (1 : Int)))).toNat (⟨#[]⟩ : ByteArray))).toList == ((List.getD x4 (x7).toNat (⟨#[]⟩ : ByteArray))).toList)) = true,
      sizeOK (List.length xo5 + List.length ([(List.getD x4 (x7).toNat (⟨#[]⟩ : ByteArray))] : List ByteArray))]) (st1 := spec_lnSorted_L0a x3 x4 x6 (IntKind.wrap .i64 (x7 + (1 : Int))) (xo5 ++ ([(List.getD x4 (x7).toNat (⟨#[]⟩ : ByteArray))] : List ByteArray))) (by kernel_rfl) ⟨(decide_eq_false h1), (decide_eq_true h2), (beq_f h3), (decide_eq_false h1), h4, h5, (beq_f h6), h7, h8, h9, (nseq_t h10), h11, trivial⟩ next

theorem spec_lnSorted_L0b_i15 (x3 : (List ByteArray)) (x4 : (List ByteArray)) (x6 : Int) (x7 : Int) (x8 : ByteArray) (x80 : Bool) (xo5 : (List ByteArray))
    (h1 : ¬ (x6 < ((List.length x3 : Nat) : Int)))
    (h2 : x7 < ((List.length x4 : Nat) : Int))
    (h3 : x7 ≠ ((List.length x4 : Nat) : Int))
    (h4 : 0 ≤ x7)
    (h5 : x7 < (List.length x4 : Int))
    (h6 : ((List.length xo5 : Nat) : Int) ≠ (0 : Int))
    (h7 : 0 ≤ (IntKind.wrap .i64 (((List.length xo5 : Nat) : Int) - (1 : Int))))
    (h8 : (IntKind.wrap .i64 (((List.length xo5 : Nat) : Int) - (1 : Int))) < (List.length xo5 : Int))
    (h9 : ((IntKind.wrap .i64 (((List.length xo5 : Nat) : Int) - (1 : Int)))).toNat < List.length xo5)
    (h10 : (List.getD xo5 ((IntKind.wrap .i64 (((List.length xo5 : Nat) : Int) - (1 : Int)))).toNat (⟨#[]⟩ : ByteArray)) = (List.getD x4 (x7).toNat (⟨#[]⟩ : ByteArray)))
    {e : AEx} {st : St} (next : LoopSC cfg.P 1 (lb P_spec_lnSorted 0) (spec_lnSorted_L0b x3 x4 x6 (IntKind.wrap .i64 (x7 + (1 : Int))) (List.getD x4 (x7).toNat (⟨#[]⟩ : ByteArray)) false xo5) e st) :
    LoopSC cfg.P 1 (lb P_spec_lnSorted 0) (spec_lnSorted_L0b x3 x4 x6 x7 x8 x80 xo5) e st :=
  loop_iter cfgOK (f := i_spec_lnSorted) (its := [.bool false, .bool true, .bool false, .bool false, .bool false, .bool false])
    (ps := [decide (x6 < ((List.length x3 : Nat) : Int)) = false,
      decide (x7 < ((List.length x4 : Nat) : Int)) = true,
      (x7 == ((List.length x4 : Nat) : Int)) = false,
      decide (x6 < ((List.length x3 : Nat) : Int)) = false,
      0 ≤ x7,
      x7 < (List.length x4 : Int),
      (((List.length xo5 : Nat) : Int) == (0 : Int)) = false,
      0 ≤ (IntKind.wrap .i64 (((List.length xo5 : Nat) : Int) - (1 : Int))),
      (IntKind.wrap .i64 (((List.length xo5 : Nat) : Int) - (1 : Int))) < (List.length xo5 : Int),
      ((IntKind.wrap .i64 (((List.length xo5 : Nat) : Int) - (1 : Int)))).toNat < List.length xo5,
      (!(((List.getD xo5 ((IntKind.wrap .i64 (((List.length xo5 : Nat) : Int) - (1 : Int)))).toNat (⟨#[]⟩ : ByteArray))).toList == ((List.getD x4 (x7).toNat (⟨#[]⟩ : ByteArray))).toList)) = false]) (st1 := spec_lnSorted_L0b x3 x4 x6 (IntKind.wrap .i64 (x7 + (1 : Int))) (List.getD x4 (x7).toNat (⟨#[]⟩ : ByteArray)) false xo5) (by kernel_rfl) ⟨(decide_eq_false h1), (decide_eq_true h2), (beq_f h3), (decide_eq_false h1), h4, h5, (beq_f h6), h7, h8, h9, (nseq_f h10), trivial⟩ next

theorem spec_lnSorted_L0b_x16 (x3 : (List ByteArray)) (x4 : (List ByteArray)) (x6 : Int) (x7 : Int) (x8 : ByteArray) (x80 : Bool) (xo5 : (List ByteArray))
    (h1 : ¬ (x6 < ((List.length x3 : Nat) : Int)))
    (h2 : ¬ (x7 < ((List.length x4 : Nat) : Int))) :
    LoopSC cfg.P 1 (lb P_spec_lnSorted 0) (spec_lnSorted_L0b x3 x4 x6 x7 x8 x80 xo5) (.exit 0) (spec_lnSorted_L0X1 x3 x4 x6 x7 false xo5) :=
  loop_out cfgOK (f := i_spec_lnSorted) (its := [.bool false, .bool false])
    (ps := [decide (x6 < ((List.length x3 : Nat) : Int)) = false,
      decide (x7 < ((List.length x4 : Nat) : Int)) = false]) (by kernel_rfl) ⟨(decide_eq_false h1), (decide_eq_false h2), trivial⟩ (fun h => by cases h)

theorem spec_lnSorted_p1 (a0 : (List ByteArray))
    (h1 : ((List.length a0 : Nat) : Int) < (2 : Int)) :
    SC cfg.P i_spec_lnSorted [.s (.v (.sl .str) a0)] (.s (.v (.sl .str) a0)) [] :=
  SC_of_run cfgOK (its := [.bool true])
    (ps := [decide (((List.length a0 : Nat) : Int) < (2 : Int)) = true]) (by kernel_rfl) ⟨(decide_eq_true h1), trivial⟩ get_spec_lnSorted (by decide)

theorem spec_lnSorted_p2 (a0 : (List ByteArray)) (c1 : (List ByteArray)) (c2 : (List ByteArray)) (k1y3 : (List ByteArray)) (k1y4 : (List ByteArray)) (k1y6 : Int) (k1y7 : Int) (k1y34 : Bool) (k1yo5 : (List ByteArray))
    (h1 : ¬ (((List.length a0 : Nat) : Int) < (2 : Int)))
    (h2 : (2 : Int) ≠ 0)
    (h3 : 0 ≤ (IntKind.wrap .i64 (Int.tdiv ((List.length a0 : Nat) : Int) (2 : Int))))
    (h4 : (IntKind.wrap .i64 (Int.tdiv ((List.length a0 : Nat) : Int) (2 : Int))) ≤ (List.length a0 : Int))
    (h5 : SC cfg.P i_spec_lnSorted [.s (.v (.sl .str) (cutL a0 (0 : Int) (IntKind.wrap .i64 (Int.tdiv ((List.length a0 : Nat) : Int) (2 : Int)))))] (.s (.v (.sl .str) c1)) [])
    (h6 : SC cfg.P i_spec_lnSorted [.s (.v (.sl .str) (cutL a0 (IntKind.wrap .i64 (Int.tdiv ((List.length a0 : Nat) : Int) (2 : Int))) ((List.length a0 : Nat) : Int)))] (.s (.v (.sl .str) c2)) [])
    (h7 : LoopSC cfg.P 1 (lb P_spec_lnSorted 0) (spec_lnSorted_L0a c1 c2 (0 : Int) (0 : Int) ([] : List ByteArray)) (.exit 0) (spec_lnSorted_L0X1 k1y3 k1y4 k1y6 k1y7 k1y34 k1yo5)) :
    SC cfg.P i_spec_lnSorted [.s (.v (.sl .str) a0)] (.s (.own t_string .str k1yo5)) [] :=
  SC_of_run cfgOK (its := [.bool false, .res (.s (.v (.sl .str) c1)) [] [] [], .res (.s (.v (.sl .str) c2)) [] [] [], .loop (fun _ => (.exit 0, spec_lnSorted_L0X1 k1y3 k1y4 k1y6 k1y7 k1y34 k1yo5))])
    (ps := [decide (((List.length a0 : Nat) : Int) < (2 : Int)) = false,
      (2 : Int) ≠ 0,
      0 ≤ (IntKind.wrap .i64 (Int.tdiv ((List.length a0 : Nat) : Int) (2 : Int))),
      (IntKind.wrap .i64 (Int.tdiv ((List.length a0 : Nat) : Int) (2 : Int))) ≤ (List.length a0 : Int),
      SC cfg.P i_spec_lnSorted [.s (.v (.sl .str) (cutL a0 (0 : Int) (IntKind.wrap .i64 (Int.tdiv ((List.length a0 : Nat) : Int) (2 : Int)))))] (.s (.v (.sl .str) c1)) [],
      (2 : Int) ≠ 0,
      0 ≤ (IntKind.wrap .i64 (Int.tdiv ((List.length a0 : Nat) : Int) (2 : Int))),
      (IntKind.wrap .i64 (Int.tdiv ((List.length a0 : Nat) : Int) (2 : Int))) ≤ (List.length a0 : Int),
      SC cfg.P i_spec_lnSorted [.s (.v (.sl .str) (cutL a0 (IntKind.wrap .i64 (Int.tdiv ((List.length a0 : Nat) : Int) (2 : Int))) ((List.length a0 : Nat) : Int)))] (.s (.v (.sl .str) c2)) [],
      LoopSC cfg.P 1 (lb P_spec_lnSorted 0) (spec_lnSorted_L0a c1 c2 (0 : Int) (0 : Int) ([] : List ByteArray)) (.exit 0) (spec_lnSorted_L0X1 k1y3 k1y4 k1y6 k1y7 k1y34 k1yo5)]) (by kernel_rfl) ⟨(decide_eq_false h1), h2, h3, h4, h5, h2, h3, h4, h6, h7, trivial⟩ get_spec_lnSorted (by decide)

/-! ### spec_l1Split -/


def spec_l1Split_L0a (x0 : ByteArray) (x1 : Int) (x6 : Int) (x7 : Int) (xo5 : (List ByteArray)) : St := mkSt 34 [(0, .s (.v .str x0)), (1, .s (.v (.int .u8) x1)), (5, .s (.osl 5 0)), (6, .s (.v (.int .i64) x6)), (7, .s (.v (.int .i64) x7))] [(5, .row t_string .str xo5 0 false)]

def spec_l1Split_L0X1 (y0 : ByteArray) (y1 : Int) (y6 : Int) (y7 : Int) (y11 : Bool) (yo5 : (List ByteArray)) : St := mkSt 34 [(0, .s (.v .str y0)), (1, .s (.v (.int .u8) y1)), (5, .s (.osl 5 0)), (6, .s (.v (.int .i64) y6)), (7, .s (.v (.int .i64) y7)), (11, .s (.v .bool y11))] [(5, .row t_string .str yo5 0 false)]

theorem spec_l1Split_L0a_i1 (x0 : ByteArray) (x1 : Int) (x6 : Int) (x7 : Int) (xo5 : (List ByteArray))
    (h1 : x7 < ((x0).size : Int))
    (h2 : 0 ≤ x7)
    (h3 : (bt x0 x7) = x1)
    (h4 : 0 ≤ x6)
    (h5 : x6 ≤ x7)
    (h6 : x7 ≤ ((x0).size : Int))
    (h7 : sizeOK (List.length xo5 + List.length ([(ByteArray.extract x0 (x6).toNat (x7).toNat)] : List ByteArray)))
    {e : AEx} {st : St} (next : LoopSC cfg.P 2 (lb P_spec_l1Split 0) (spec_l1Split_L0a x0 x1 (IntKind.wrap .i64 (x7 + (1 : Int))) (IntKind.wrap .i64 (x7 + (1 : Int))) (xo5 ++ ([(ByteArray.extract x0 (x6).toNat (x7).toNat)] : List ByteArray))) e st) :
    LoopSC cfg.P 2 (lb P_spec_l1Split 0) (spec_l1Split_L0a x0 x1 x6 x7 xo5) e st :=
  loop_iter cfgOK (f := i_spec_l1Split) (its := [.bool true, .bool true])
    (ps := [decide (x7 < ((x0).size : Int)) = true,
      0 ≤ x7,
      x7 < ((x0).size : Int),
      ((bt x0 x7) == x1) = true,
      0 ≤ x6,
      x6 ≤ x7,
      x7 ≤ ((x0).size : Int),
      sizeOK (List.length xo5 + List.length ([(ByteArray.extract x0 (x6).toNat (x7).toNat)] : List ByteArray))]) (st1 := spec_l1Split_L0a x0 x1 (IntKind.wrap .i64 (x7 + (1 : Int))) (IntKind.wrap .i64 (x7 + (1 : Int))) (xo5 ++ ([(ByteArray.extract x0 (x6).toNat (x7).toNat)] : List ByteArray))) (by kernel_rfl) ⟨(decide_eq_true h1), h2, h1, (beq_t h3), h4, h5, h6, h7, trivial⟩ next

theorem spec_l1Split_L0a_i2 (x0 : ByteArray) (x1 : Int) (x6 : Int) (x7 : Int) (xo5 : (List ByteArray))
    (h1 : x7 < ((x0).size : Int))
    (h2 : 0 ≤ x7)
    (h3 : (bt x0 x7) ≠ x1)
    {e : AEx} {st : St} (next : LoopSC cfg.P 2 (lb P_spec_l1Split 0) (spec_l1Split_L0a x0 x1 x6 (IntKind.wrap .i64 (x7 + (1 : Int))) xo5) e st) :
    LoopSC cfg.P 2 (lb P_spec_l1Split 0) (spec_l1Split_L0a x0 x1 x6 x7 xo5) e st :=
  loop_iter cfgOK (f := i_spec_l1Split) (its := [.bool true, .bool false])
    (ps := [decide (x7 < ((x0).size : Int)) = true,
      0 ≤ x7,
      x7 < ((x0).size : Int),
      ((bt x0 x7) == x1) = false]) (st1 := spec_l1Split_L0a x0 x1 x6 (IntKind.wrap .i64 (x7 + (1 : Int))) xo5) (by kernel_rfl) ⟨(decide_eq_true h1), h2, h1, (beq_f h3), trivial⟩ next

theorem spec_l1Split_L0a_x3 (x0 : ByteArray) (x1 : Int) (x6 : Int) (x7 : Int) (xo5 : (List ByteArray))
    (h1 : ¬ (x7 < ((x0).size : Int))) :
    LoopSC cfg.P 2 (lb P_spec_l1Split 0) (spec_l1Split_L0a x0 x1 x6 x7 xo5) (.exit 0) (spec_l1Split_L0X1 x0 x1 x6 x7 false xo5) :=
  loop_out cfgOK (f := i_spec_l1Split) (its := [.bool false])
    (ps := [decide (x7 < ((x0).size : Int)) = false]) (by kernel_rfl) ⟨(decide_eq_false h1), trivial⟩ (fun h => by cases h)

theorem spec_l1Split_p1 (a0 : ByteArray) (a1 : Int) (k1y0 : ByteArray) (k1y1 : Int) (k1y6 : Int) (k1y7 : Int) (k1y11 : Bool) (k1yo5 : (List ByteArray))
    (h1 : LoopSC cfg.P 2 (lb P_spec_l1Split 0) (spec_l1Split_L0a a0 a1 (0 : Int) (0 : Int) ([] : List ByteArray)) (.exit 0) (spec_l1Split_L0X1 k1y0 k1y1 k1y6 k1y7 k1y11 k1yo5))
    (h2 : 0 ≤ k1y6)
    (h3 : k1y6 ≤ ((k1y0).size : Int))
    (h4 : sizeOK (List.length k1yo5 + List.length ([(ByteArray.extract k1y0 (k1y6).toNat (((k1y0).size : Int)).toNat)] : List ByteArray))) :
    SC cfg.P i_spec_l1Split [.s (.v .str a0), .s (.v (.int .u8) a1)] (.s (.own t_string .str (k1yo5 ++ ([(ByteArray.extract k1y0 (k1y6).toNat (((k1y0).size : Int)).toNat)] : List ByteArray)))) [] :=
  SC_of_run cfgOK (its := [.loop (fun _ => (.exit 0, spec_l1Split_L0X1 k1y0 k1y1 k1y6 k1y7 k1y11 k1yo5))])
    (ps := [LoopSC cfg.P 2 (lb P_spec_l1Split 0) (spec_l1Split_L0a a0 a1 (0 : Int) (0 : Int) ([] : List ByteArray)) (.exit 0) (spec_l1Split_L0X1 k1y0 k1y1 k1y6 k1y7 k1y11 k1yo5),
      0 ≤ k1y6,
      k1y6 ≤ ((k1y0).size : Int),
      sizeOK (List.length k1yo5 + List.length ([(ByteArray.extract k1y0 (k1y6).toNat (((k1y0).size : Int)).toNat)] : List ByteArray))]) (by kernel_rfl) ⟨h1, h2, h3, h4, trivial⟩ get_spec_l1Split (by decide)

end Go.AI
