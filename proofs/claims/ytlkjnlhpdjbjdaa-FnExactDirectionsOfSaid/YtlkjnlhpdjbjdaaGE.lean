/- A part of the road: what it proves stands in its last texts. -/
import Derived.Test.YtlkjnlhpdjbjdaaSIds
import Derived.Test.YtlkjnlhpdjbjdaaProg
set_option autoImplicit false
set_option maxRecDepth 100000
set_option linter.unusedVariables false
namespace Go.AI
open Go.Proofs

/-! ### laws_FnExactDirectionsOf -/


theorem laws_FnExactDirectionsOf_p1 (a0 : (ByteArray × ByteArray)) (c1 : Int)
    (h1 : SC cfg.P i_laws_szPair [.s (.v (.pr .str .str) a0), .s (.v (.int .i64) (1048576 : Int))] (.s (.v (.int .i64) c1)) [])
    (h2 : c1 < (0 : Int)) :
    SC cfg.P i_laws_FnExactDirectionsOf [.s (.v (.pr .str .str) a0)] (.s (.v .bool true)) [] :=
  SC_of_run cfgOK (its := [.res (.s (.v (.int .i64) c1)) [] [] [], .bool true])
    (ps := [SC cfg.P i_laws_szPair [.s (.v (.pr .str .str) a0), .s (.v (.int .i64) (1048576 : Int))] (.s (.v (.int .i64) c1)) [],
      decide (c1 < (0 : Int)) = true]) (by kernel_rfl) ⟨h1, (decide_eq_true h2), trivial⟩ get_laws_FnExactDirectionsOf (by decide)

theorem laws_FnExactDirectionsOf_p2 (a0 : (ByteArray × ByteArray)) (c1 : Int) (c2 : (ByteArray × ByteArray)) (c3a : (List Int)) (c3b : Bool) (c4 : (ByteArray × ByteArray)) (c5a : (List Int)) (c5b : Bool) (c7 : Int) (c7o0 : (List Int)) (c8 : Int) (c9 : (ByteArray × ByteArray)) (c10a : (List Int)) (c10b : Bool) (c12 : Int)
    (h1 : SC cfg.P i_laws_szPair [.s (.v (.pr .str .str) a0), .s (.v (.int .i64) (1048576 : Int))] (.s (.v (.int .i64) c1)) [])
    (h2 : ¬ (c1 < (0 : Int)))
    (h3 : SC cfg.P i_laws_toPair [.s (.v (.pr .str .str) a0)] (.s (.v (.pr .str .str) c2)) [])
    (h4 : SC cfg.P i_spec_DirectionsOf [.s (.v (.pr .str .str) c2)] (.tup [.own t_int (.int .i64) c3a, .v .bool c3b]) [])
    (h5 : SC cfg.P i_laws_toPair [.s (.v (.pr .str .str) a0)] (.s (.v (.pr .str .str) c4)) [])
    (h6 : SC cfg.P i_impl_DirectionsOf [.s (.v (.pr .str .str) c4)] (.tup [.own t_int (.int .i64) c5a, .v .bool c5b]) [])
    (h7 : SC cfg.P i_laws_eqIntS [.s (.v (.sl (.int .i64)) c5a), .s (.v (.sl (.int .i64)) c3a)] (.s (.v .bool true)) [])
    (h8 : (!(c5b == c3b)) = false)
    (h9 : SC cfg.P i_laws_markIntS [.s (.msl t_int (.int .i64) c5a), .s (.v (.int .i64) (1 : Int))] (.s (.v (.int .i64) c7)) [.row t_int (.int .i64) c7o0])
    (h10 : SC cfg.P i_laws_heldIntS [.s (.v (.sl (.int .i64)) c7o0), .s (.v (.int .i64) (1 : Int))] (.s (.v (.int .i64) c8)) [])
    (h11 : ¬ (c8 < (0 : Int)))
    (h12 : c8 = c7)
    (h13 : SC cfg.P i_laws_toPair [.s (.v (.pr .str .str) a0)] (.s (.v (.pr .str .str) c9)) [])
    (h14 : SC cfg.P i_impl_DirectionsOf [.s (.v (.pr .str .str) c9)] (.tup [.own t_int (.int .i64) c10a, .v .bool c10b]) [])
    (h15 : SC cfg.P i_laws_eqIntS [.s (.v (.sl (.int .i64)) c10a), .s (.v (.sl (.int .i64)) c3a)] (.s (.v .bool true)) [])
    (h16 : (!(c10b == c3b)) = false)
    (h17 : SC cfg.P i_laws_heldIntS [.s (.v (.sl (.int .i64)) c7o0), .s (.v (.int .i64) (1 : Int))] (.s (.v (.int .i64) c12)) [])
    (h18 : ¬ (c12 < (0 : Int)))
    (h19 : c12 = c7) :
    SC cfg.P i_laws_FnExactDirectionsOf [.s (.v (.pr .str .str) a0)] (.s (.v .bool true)) [] :=
  SC_of_run cfgOK (its := [.res (.s (.v (.int .i64) c1)) [] [] [], .bool false, .res (.s (.v (.pr .str .str) c2)) [] [] [], .res (.tup [.own t_int (.int .i64) c3a, .v .bool c3b]) [] [] [20], .res (.s (.v (.pr .str .str) c4)) [] [] [], .res (.tup [.own t_int (.int .i64) c5a, .v .bool c5b]) [] [] [26], .res (.s (.v .bool true)) [] [] [], .bool false, .res (.s (.v (.int .i64) c7)) [.row t_int (.int .i64) c7o0] [0] [], .res (.s (.v (.int .i64) c8)) [] [] [], .bool false, .bool false, .res (.s (.v (.pr .str .str) c9)) [] [] [], .res (.tup [.own t_int (.int .i64) c10a, .v .bool c10b]) [] [] [52], .res (.s (.v .bool true)) [] [] [], .bool false, .res (.s (.v (.int .i64) c12)) [] [] [], .bool false, .bool false])
    (ps := [SC cfg.P i_laws_szPair [.s (.v (.pr .str .str) a0), .s (.v (.int .i64) (1048576 : Int))] (.s (.v (.int .i64) c1)) [],
      decide (c1 < (0 : Int)) = false,
      SC cfg.P i_laws_toPair [.s (.v (.pr .str .str) a0)] (.s (.v (.pr .str .str) c2)) [],
      SC cfg.P i_spec_DirectionsOf [.s (.v (.pr .str .str) c2)] (.tup [.own t_int (.int .i64) c3a, .v .bool c3b]) [],
      SC cfg.P i_laws_toPair [.s (.v (.pr .str .str) a0)] (.s (.v (.pr .str .str) c4)) [],
      SC cfg.P i_impl_DirectionsOf [.s (.v (.pr .str .str) c4)] (.tup [.own t_int (.int .i64) c5a, .v .bool c5b]) [],
      SC cfg.P i_laws_eqIntS [.s (.v (.sl (.int .i64)) c5a), .s (.v (.sl (.int .i64)) c3a)] (.s (.v .bool true)) [],
      (!(c5b == c3b)) = false,
      SC cfg.P i_laws_markIntS [.s (.msl t_int (.int .i64) c5a), .s (.v (.int .i64) (1 : Int))] (.s (.v (.int .i64) c7)) [.row t_int (.int .i64) c7o0],
      SC cfg.P i_laws_heldIntS [.s (.v (.sl (.int .i64)) c7o0), .s (.v (.int .i64) (1 : Int))] (.s (.v (.int .i64) c8)) [],
      decide (c8 < (0 : Int)) = false,
      (c8 != c7) = false,
      SC cfg.P i_laws_toPair [.s (.v (.pr .str .str) a0)] (.s (.v (.pr .str .str) c9)) [],
      SC cfg.P i_impl_DirectionsOf [.s (.v (.pr .str .str) c9)] (.tup [.own t_int (.int .i64) c10a, .v .bool c10b]) [],
      SC cfg.P i_laws_eqIntS [.s (.v (.sl (.int .i64)) c10a), .s (.v (.sl (.int .i64)) c3a)] (.s (.v .bool true)) [],
      (!(c10b == c3b)) = false,
      SC cfg.P i_laws_heldIntS [.s (.v (.sl (.int .i64)) c7o0), .s (.v (.int .i64) (1 : Int))] (.s (.v (.int .i64) c12)) [],
      decide (c12 < (0 : Int)) = false,
      (c12 != c7) = false]) (by kernel_rfl) ⟨h1, (decide_eq_false h2), h3, h4, h5, h6, h7, h8, h9, h10, (decide_eq_false h11), (bne_f h12), h13, h14, h15, h16, h17, (decide_eq_false h18), (bne_f h19), trivial⟩ get_laws_FnExactDirectionsOf (by decide)

/-! ### spec_DirectionsOf -/


def spec_DirectionsOf_L0a (x18 : Int) (x19 : Int) (xo1 : (ByteArray × ByteArray)) (xo4 : (List Int)) (xo17 : (List (List (Int × Int)))) : St := mkSt 71 [(1, .s (.adr 1 none)), (4, .s (.osl 4 0)), (17, .s (.osl 17 0)), (18, .s (.v (.int .i64) x18)), (19, .s (.v (.int .i64) x19))] [(1, .box (.pr .str .str) xo1 false), (4, .row t_int (.int .i64) xo4 0 false), (17, .row t_Simpl_Ratio (.sl (.pr (.int .i64) (.int .i64))) xo17 0 false)]

def spec_DirectionsOf_L1a (x6 : (List (Int × Int))) (x7 : Int) (x18 : Int) (x19 : Int) (x29 : Int) (x30 : Int) (xo1 : (ByteArray × ByteArray)) (xo4 : (List Int)) (xo17 : (List (List (Int × Int)))) (xo25 : (List ByteArray)) (xo28 : (List ByteArray)) : St := mkSt 71 [(1, .s (.adr 1 none)), (4, .s (.osl 4 0)), (6, .s (.v (.sl (.pr (.int .i64) (.int .i64))) x6)), (7, .s (.v (.int .i64) x7)), (8, .s (.osl 25 0)), (17, .s (.osl 17 0)), (18, .s (.v (.int .i64) x18)), (19, .s (.v (.int .i64) x19)), (28, .s (.osl 28 0)), (29, .s (.v (.int .i64) x29)), (30, .s (.v (.int .i64) x30))] [(1, .box (.pr .str .str) xo1 false), (4, .row t_int (.int .i64) xo4 0 false), (17, .row t_Simpl_Ratio (.sl (.pr (.int .i64) (.int .i64))) xo17 0 false), (25, .row t_string .str xo25 0 false), (28, .row t_string .str xo28 0 false)]

def spec_DirectionsOf_L1X1 (y7 : Int) (y18 : Int) (y19 : Int) (yo1 : (ByteArray × ByteArray)) (yo4 : (List Int)) (yo17 : (List (List (Int × Int)))) : St := mkSt 71 [(1, .s (.adr 1 none)), (4, .s (.osl 4 0)), (7, .s (.v (.int .i64) y7)), (17, .s (.osl 17 0)), (18, .s (.v (.int .i64) y18)), (19, .s (.v (.int .i64) y19))] [(1, .box (.pr .str .str) yo1 false), (4, .row t_int (.int .i64) yo4 0 false), (17, .row t_Simpl_Ratio (.sl (.pr (.int .i64) (.int .i64))) yo17 0 false)]

def spec_DirectionsOf_L1X2 (y7 : Int) (y18 : Int) (y19 : Int) (y63 : Bool) (yo1 : (ByteArray × ByteArray)) (yo4 : (List Int)) (yo17 : (List (List (Int × Int)))) : St := mkSt 71 [(1, .s (.adr 1 none)), (4, .s (.osl 4 0)), (7, .s (.v (.int .i64) y7)), (17, .s (.osl 17 0)), (18, .s (.v (.int .i64) y18)), (19, .s (.v (.int .i64) y19)), (63, .s (.v .bool y63))] [(1, .box (.pr .str .str) yo1 false), (4, .row t_int (.int .i64) yo4 0 false), (17, .row t_Simpl_Ratio (.sl (.pr (.int .i64) (.int .i64))) yo17 0 false)]

def spec_DirectionsOf_L1X3 (y6 : (List (Int × Int))) (y7 : Int) (y18 : Int) (y19 : Int) (y29 : Int) (y30 : Int) (y31 : Bool) (yo1 : (ByteArray × ByteArray)) (yo4 : (List Int)) (yo17 : (List (List (Int × Int)))) (yo25 : (List ByteArray)) (yo28 : (List ByteArray)) : St := mkSt 71 [(1, .s (.adr 1 none)), (4, .s (.osl 4 0)), (6, .s (.v (.sl (.pr (.int .i64) (.int .i64))) y6)), (7, .s (.v (.int .i64) y7)), (8, .s (.osl 25 0)), (17, .s (.osl 17 0)), (18, .s (.v (.int .i64) y18)), (19, .s (.v (.int .i64) y19)), (28, .s (.osl 28 0)), (29, .s (.v (.int .i64) y29)), (30, .s (.v (.int .i64) y30)), (31, .s (.v .bool y31))] [(1, .box (.pr .str .str) yo1 false), (4, .row t_int (.int .i64) yo4 0 false), (17, .row t_Simpl_Ratio (.sl (.pr (.int .i64) (.int .i64))) yo17 0 false), (25, .row t_string .str yo25 0 false), (28, .row t_string .str yo28 0 false)]

def spec_DirectionsOf_L0X1 (y18 : Int) (y19 : Int) (y20 : Bool) (yo1 : (ByteArray × ByteArray)) (yo4 : (List Int)) (yo17 : (List (List (Int × Int)))) : St := mkSt 71 [(1, .s (.adr 1 none)), (4, .s (.osl 4 0)), (17, .s (.osl 17 0)), (18, .s (.v (.int .i64) y18)), (19, .s (.v (.int .i64) y19)), (20, .s (.v .bool y20))] [(1, .box (.pr .str .str) yo1 false), (4, .row t_int (.int .i64) yo4 0 false), (17, .row t_Simpl_Ratio (.sl (.pr (.int .i64) (.int .i64))) yo17 0 false)]

theorem spec_DirectionsOf_L0a_i1 (x18 : Int) (x19 : Int) (xo1 : (ByteArray × ByteArray)) (xo4 : (List Int)) (xo17 : (List (List (Int × Int)))) (dc1 : (List ByteArray)) (dc2 : (List ByteArray)) (dk1y7 : Int) (dk1y18 : Int) (dk1y19 : Int) (dk1yo1 : (ByteArray × ByteArray)) (dk1yo4 : (List Int)) (dk1yo17 : (List (List (Int × Int))))
    (h1 : x19 < x18)
    (h2 : 0 ≤ x19)
    (h3 : x19 < (List.length xo17 : Int))
    (h4 : (x19).toNat < List.length xo17)
    (h5 : SC cfg.P i_spec_trAddresses [.s (.v .str xo1.2), .s (.v .str (⟨#[]⟩ : ByteArray))] (.s (.own t_string .str dc1)) [])
    (h6 : SC cfg.P i_spec_trAddresses [.s (.v .str xo1.1), .s (.v .str (⟨#[]⟩ : ByteArray))] (.s (.own t_string .str dc2)) [])
    (h7 : LoopSC cfg.P 1 (lb P_spec_DirectionsOf 1) (spec_DirectionsOf_L1a (List.getD xo17 (x19).toNat ([] : List (Int × Int))) (-1 : Int) x18 x19 ((List.length dc2 : Nat) : Int) (0 : Int) xo1 xo4 xo17 dc1 dc2) (.exit 2) (spec_DirectionsOf_L1X1 dk1y7 dk1y18 dk1y19 dk1yo1 dk1yo4 dk1yo17))
    (h8 : sizeOK (List.length dk1yo4 + List.length ([dk1y7] : List Int)))
    {e : AEx} {st : St} (next : LoopSC cfg.P 1 (lb P_spec_DirectionsOf 0) (spec_DirectionsOf_L0a dk1y18 (IntKind.wrap .i64 (dk1y19 + (1 : Int))) dk1yo1 (dk1yo4 ++ ([dk1y7] : List Int)) dk1yo17) e st) :
    LoopSC cfg.P 1 (lb P_spec_DirectionsOf 0) (spec_DirectionsOf_L0a x18 x19 xo1 xo4 xo17) e st :=
  loop_iter cfgOK (f := i_spec_DirectionsOf) (its := [.bool true, .res (.s (.own t_string .str dc1)) [] [] [25], .res (.s (.own t_string .str dc2)) [] [] [28], .loop (fun _ => (.exit 2, spec_DirectionsOf_L1X1 dk1y7 dk1y18 dk1y19 dk1yo1 dk1yo4 dk1yo17))])
    (ps := [decide (x19 < x18) = true,
      0 ≤ x19,
      x19 < (List.length xo17 : Int),
      (x19).toNat < List.length xo17,
      SC cfg.P i_spec_trAddresses [.s (.v .str xo1.2), .s (.v .str (⟨#[]⟩ : ByteArray))] (.s (.own t_string .str dc1)) [],
      SC cfg.P i_spec_trAddresses [.s (.v .str xo1.1), .s (.v .str (⟨#[]⟩ : ByteArray))] (.s (.own t_string .str dc2)) [],
      LoopSC cfg.P 1 (lb P_spec_DirectionsOf 1) (spec_DirectionsOf_L1a (List.getD xo17 (x19).toNat ([] : List (Int × Int))) (-1 : Int) x18 x19 ((List.length dc2 : Nat) : Int) (0 : Int) xo1 xo4 xo17 dc1 dc2) (.exit 2) (spec_DirectionsOf_L1X1 dk1y7 dk1y18 dk1y19 dk1yo1 dk1yo4 dk1yo17),
      sizeOK (List.length dk1yo4 + List.length ([dk1y7] : List Int))]) (st1 := spec_DirectionsOf_L0a dk1y18 (IntKind.wrap .i64 (dk1y19 + (1 : Int))) dk1yo1 (dk1yo4 ++ ([dk1y7] : List Int)) dk1yo17) (by kernel_rfl) ⟨(decide_eq_true h1), h2, h3, h4, h5, h6, h7, h8, trivial⟩ next

theorem spec_DirectionsOf_L0a_i2 (x18 : Int) (x19 : Int) (xo1 : (ByteArray × ByteArray)) (xo4 : (List Int)) (xo17 : (List (List (Int × Int)))) (dc1 : (List ByteArray)) (dc2 : (List ByteArray)) (dk1y7 : Int) (dk1y18 : Int) (dk1y19 : Int) (dk1y63 : Bool) (dk1yo1 : (ByteArray × ByteArray)) (dk1yo4 : (List Int)) (dk1yo17 : (List (List (Int × Int))))
    (h1 : x19 < x18)
    (h2 : 0 ≤ x19)
    (h3 : x19 < (List.length xo17 : Int))
    (h4 : (x19).toNat < List.length xo17)
    (h5 : SC cfg.P i_spec_trAddresses [.s (.v .str xo1.2), .s (.v .str (⟨#[]⟩ : ByteArray))] (.s (.own t_string .str dc1)) [])
    (h6 : SC cfg.P i_spec_trAddresses [.s (.v .str xo1.1), .s (.v .str (⟨#[]⟩ : ByteArray))] (.s (.own t_string .str dc2)) [])
    (h7 : LoopSC cfg.P 1 (lb P_spec_DirectionsOf 1) (spec_DirectionsOf_L1a (List.getD xo17 (x19).toNat ([] : List (Int × Int))) (-1 : Int) x18 x19 ((List.length dc2 : Nat) : Int) (0 : Int) xo1 xo4 xo17 dc1 dc2) (.exit 2) (spec_DirectionsOf_L1X2 dk1y7 dk1y18 dk1y19 dk1y63 dk1yo1 dk1yo4 dk1yo17))
    (h8 : sizeOK (List.length dk1yo4 + List.length ([dk1y7] : List Int)))
    {e : AEx} {st : St} (next : LoopSC cfg.P 1 (lb P_spec_DirectionsOf 0) (spec_DirectionsOf_L0a dk1y18 (IntKind.wrap .i64 (dk1y19 + (1 : Int))) dk1yo1 (dk1yo4 ++ ([dk1y7] : List Int)) dk1yo17) e st) :
    LoopSC cfg.P 1 (lb P_spec_DirectionsOf 0) (spec_DirectionsOf_L0a x18 x19 xo1 xo4 xo17) e st :=
  loop_iter cfgOK (f := i_spec_DirectionsOf) (its := [.bool true, .res (.s (.own t_string .str dc1)) [] [] [25], .res (.s (.own t_string .str dc2)) [] [] [28], .loop (fun _ => (.exit 2, spec_DirectionsOf_L1X2 dk1y7 dk1y18 dk1y19 dk1y63 dk1yo1 dk1yo4 dk1yo17))])
    (ps := [decide (x19 < x18) = true,
      0 ≤ x19,
      x19 < (List.length xo17 : Int),
      (x19).toNat < List.length xo17,
      SC cfg.P i_spec_trAddresses [.s (.v .str xo1.2), .s (.v .str (⟨#[]⟩ : ByteArray))] (.s (.own t_string .str dc1)) [],
      SC cfg.P i_spec_trAddresses [.s (.v .str xo1.1), .s (.v .str (⟨#[]⟩ : ByteArray))] (.s (.own t_string .str dc2)) [],
      LoopSC cfg.P 1 (lb P_spec_DirectionsOf 1) (spec_DirectionsOf_L1a (List.getD xo17 (x19).toNat ([] : List (Int × Int))) (-1 : Int) x18 x19 ((List.length dc2 : Nat) : Int) (0 : Int) xo1 xo4 xo17 dc1 dc2) (.exit 2) (spec_DirectionsOf_L1X2 dk1y7 dk1y18 dk1y19 dk1y63 dk1yo1 dk1yo4 dk1yo17),
      sizeOK (List.length dk1yo4 + List.length ([dk1y7] : List Int))]) (st1 := spec_DirectionsOf_L0a dk1y18 (IntKind.wrap .i64 (dk1y19 + (1 : Int))) dk1yo1 (dk1yo4 ++ ([dk1y7] : List Int)) dk1yo17) (by kernel_rfl) ⟨(decide_eq_true h1), h2, h3, h4, h5, h6, h7, h8, trivial⟩ next

theorem spec_DirectionsOf_L0a_i3 (x18 : Int) (x19 : Int) (xo1 : (ByteArray × ByteArray)) (xo4 : (List Int)) (xo17 : (List (List (Int × Int)))) (dc1 : (List ByteArray)) (dc2 : (List ByteArray)) (dk1y6 : (List (Int × Int))) (dk1y7 : Int) (dk1y18 : Int) (dk1y19 : Int) (dk1y29 : Int) (dk1y30 : Int) (dk1y31 : Bool) (dk1yo1 : (ByteArray × ByteArray)) (dk1yo4 : (List Int)) (dk1yo17 : (List (List (Int × Int)))) (dk1yo25 : (List ByteArray)) (dk1yo28 : (List ByteArray))
    (h1 : x19 < x18)
    (h2 : 0 ≤ x19)
    (h3 : x19 < (List.length xo17 : Int))
    (h4 : (x19).toNat < List.length xo17)
    (h5 : SC cfg.P i_spec_trAddresses [.s (.v .str xo1.2), .s (.v .str (⟨#[]⟩ : ByteArray))] (.s (.own t_string .str dc1)) [])
    (h6 : SC cfg.P i_spec_trAddresses [.s (.v .str xo1.1), .s (.v .str (⟨#[]⟩ : ByteArray))] (.s (.own t_string .str dc2)) [])
    (h7 : LoopSC cfg.P 1 (lb P_spec_DirectionsOf 1) (spec_DirectionsOf_L1a (List.getD xo17 (x19).toNat ([] : List (Int × Int))) (-1 : Int) x18 x19 ((List.length dc2 : Nat) : Int) (0 : Int) xo1 xo4 xo17 dc1 dc2) (.exit 2) (spec_DirectionsOf_L1X3 dk1y6 dk1y7 dk1y18 dk1y19 dk1y29 dk1y30 dk1y31 dk1yo1 dk1yo4 dk1yo17 dk1yo25 dk1yo28))
    (h8 : sizeOK (List.length dk1yo4 + List.length ([dk1y7] : List Int)))
    {e : AEx} {st : St} (next : LoopSC cfg.P 1 (lb P_spec_DirectionsOf 0) (spec_DirectionsOf_L0a dk1y18 (IntKind.wrap .i64 (dk1y19 + (1 : Int))) dk1yo1 (dk1yo4 ++ ([dk1y7] : List Int)) dk1yo17) e st) :
    LoopSC cfg.P 1 (lb P_spec_DirectionsOf 0) (spec_DirectionsOf_L0a x18 x19 xo1 xo4 xo17) e st :=
  loop_iter cfgOK (f := i_spec_DirectionsOf) (its := [.bool true, .res (.s (.own t_string .str dc1)) [] [] [25], .res (.s (.own t_string .str dc2)) [] [] [28], .loop (fun _ => (.exit 2, spec_DirectionsOf_L1X3 dk1y6 dk1y7 dk1y18 dk1y19 dk1y29 dk1y30 dk1y31 dk1yo1 dk1yo4 dk1yo17 dk1yo25 dk1yo28))])
    (ps := [decide (x19 < x18) = true,
      0 ≤ x19,
      x19 < (List.length xo17 : Int),
      (x19).toNat < List.length xo17,
      SC cfg.P i_spec_trAddresses [.s (.v .str xo1.2), .s (.v .str (⟨#[]⟩ : ByteArray))] (.s (.own t_string .str dc1)) [],
      SC cfg.P i_spec_trAddresses [.s (.v .str xo1.1), .s (.v .str (⟨#[]⟩ : ByteArray))] (.s (.own t_string .str dc2)) [],
      LoopSC cfg.P 1 (lb P_spec_DirectionsOf 1) (spec_DirectionsOf_L1a (List.getD xo17 (x19).toNat ([] : List (Int × Int))) (-1 : Int) x18 x19 ((List.length dc2 : Nat) : Int) (0 : Int) xo1 xo4 xo17 dc1 dc2) (.exit 2) (spec_DirectionsOf_L1X3 dk1y6 dk1y7 dk1y18 dk1y19 dk1y29 dk1y30 dk1y31 dk1yo1 dk1yo4 dk1yo17 dk1yo25 dk1yo28),
      sizeOK (List.length dk1yo4 + List.length ([dk1y7] : List Int))]) (st1 := spec_DirectionsOf_L0a dk1y18 (IntKind.wrap .i64 (dk1y19 + (1 : Int))) dk1yo1 (dk1yo4 ++ ([dk1y7] : List Int)) dk1yo17) (by kernel_rfl) ⟨(decide_eq_true h1), h2, h3, h4, h5, h6, h7, h8, trivial⟩ next

theorem spec_DirectionsOf_L0a_x4 (x18 : Int) (x19 : Int) (xo1 : (ByteArray × ByteArray)) (xo4 : (List Int)) (xo17 : (List (List (Int × Int))))
    (h1 : ¬ (x19 < x18)) :
    LoopSC cfg.P 1 (lb P_spec_DirectionsOf 0) (spec_DirectionsOf_L0a x18 x19 xo1 xo4 xo17) (.exit 0) (spec_DirectionsOf_L0X1 x18 x19 false xo1 xo4 xo17) :=
  loop_out cfgOK (f := i_spec_DirectionsOf) (its := [.bool false])
    (ps := [decide (x19 < x18) = false]) (by kernel_rfl) ⟨(decide_eq_false h1), trivial⟩ (fun h => by cases h)

theorem spec_DirectionsOf_L1a_x1 (x6 : (List (Int × Int))) (x7 : Int) (x18 : Int) (x19 : Int) (x29 : Int) (x30 : Int) (xo1 : (ByteArray × ByteArray)) (xo4 : (List Int)) (xo17 : (List (List (Int × Int)))) (xo25 : (List ByteArray)) (xo28 : (List ByteArray)) (dc1 : (Int × Int)) (dc2 : (Int × Int))
    (h1 : x30 < x29)
    (h2 : 0 ≤ x30)
    (h3 : x30 < (List.length xo28 : Int))
    (h4 : (x30).toNat < List.length xo28)
    (h5 : SC cfg.P i_spec_mpOf [.s (.v .str (List.getD xo28 (x30).toNat (⟨#[]⟩ : ByteArray)))] (.s (.v (.pr (.int .i64) (.int .i64)) dc1)) [])
    (h6 : 0 ≤ (((List.getD xo28 (x30).toNat (⟨#[]⟩ : ByteArray))).size : Int))
    (h7 : dc1.2 ≠ 0)
    (h8 : SC cfg.P i_spec_obRatio [.s (.v (.int .i64) (IntKind.wrap .i64 ((IntKind.wrap .i64 (dc1.1 * (IntKind.wrap .i64 (Int.tdiv (IntKind.wrap .i64 ((1 : Int) * 2 ^ (min ((((List.getD xo28 (x30).toNat (⟨#[]⟩ : ByteArray))).size : Int)).toNat (IntKind.bits .i64)))) dc1.2)))) + (1 : Int)))), .s (.v (.int .i64) (IntKind.wrap .i64 ((1 : Int) * 2 ^ (min ((((List.getD xo28 (x30).toNat (⟨#[]⟩ : ByteArray))).size : Int)).toNat (IntKind.bits .i64)))))] (.s (.v (.pr (.int .i64) (.int .i64)) dc2)) [])
    (h9 : (0 : Int) < (List.length x6 : Int))
    (h10 : SC cfg.P i_spec_obLess [.s (.v (.pr (.int .i64) (.int .i64)) (List.getD x6 ((0 : Int)).toNat ((0 : Int), (0 : Int)))), .s (.v (.pr (.int .i64) (.int .i64)) dc2)] (.s (.v .bool true)) [])
    (h11 : x30 < (List.length xo25 : Int))
    (h12 : (x30).toNat < List.length xo25)
    (h13 : (((List.getD xo28 (x30).toNat (⟨#[]⟩ : ByteArray))).size : Int) > (((List.getD xo25 (x30).toNat (⟨#[]⟩ : ByteArray))).size : Int)) :
    LoopSC cfg.P 1 (lb P_spec_DirectionsOf 1) (spec_DirectionsOf_L1a x6 x7 x18 x19 x29 x30 xo1 xo4 xo17 xo25 xo28) (.exit 2) (spec_DirectionsOf_L1X1 (1 : Int) x18 x19 xo1 xo4 xo17) :=
  loop_out cfgOK (f := i_spec_DirectionsOf) (its := [.bool true, .res (.s (.v (.pr (.int .i64) (.int .i64)) dc1)) [] [] [], .res (.s (.v (.pr (.int .i64) (.int .i64)) dc2)) [] [] [], .res (.s (.v .bool true)) [] [] [], .bool true])
    (ps := [decide (x30 < x29) = true,
      0 ≤ x30,
      x30 < (List.length xo28 : Int),
      (x30).toNat < List.length xo28,
      SC cfg.P i_spec_mpOf [.s (.v .str (List.getD xo28 (x30).toNat (⟨#[]⟩ : ByteArray)))] (.s (.v (.pr (.int .i64) (.int .i64)) dc1)) [],
      0 ≤ (((List.getD xo28 (x30).toNat (⟨#[]⟩ : ByteArray))).size : Int),
      dc1.2 ≠ 0,
      0 ≤ (((List.getD xo28 (x30).toNat (⟨#[]⟩ : ByteArray))).size : Int),
      SC cfg.P i_spec_obRatio [.s (.v (.int .i64) (IntKind.wrap .i64 ((IntKind.wrap .i64 (dc1.1 * (IntKind.wrap .i64 (Int.tdiv (IntKind.wrap .i64 ((1 : Int) * 2 ^ (min ((((List.getD xo28 (x30).toNat (⟨#[]⟩ : ByteArray))).size : Int)).toNat (IntKind.bits .i64)))) dc1.2)))) + (1 : Int)))), .s (.v (.int .i64) (IntKind.wrap .i64 ((1 : Int) * 2 ^ (min ((((List.getD xo28 (x30).toNat (⟨#[]⟩ : ByteArray))).size : Int)).toNat (IntKind.bits .i64)))))] (.s (.v (.pr (.int .i64) (.int .i64)) dc2)) [],
      0 ≤ (0 : Int),
      (0 : Int) < (List.length x6 : Int),
      SC cfg.P i_spec_obLess [.s (.v (.pr (.int .i64) (.int .i64)) (List.getD x6 ((0 : Int)).toNat ((0 : Int), (0 : Int)))), .s (.v (.pr (.int .i64) (.int .i64)) dc2)] (.s (.v .bool true)) [],
      0 ≤ x30,
      x30 < (List.length xo25 : Int),
      (x30).toNat < List.length xo25,
      decide ((((List.getD xo28 (x30).toNat (⟨#[]⟩ : ByteArray))).size : Int) > (((List.getD xo25 (x30).toNat (⟨#[]⟩ : ByteArray))).size : Int)) = true]) (by kernel_rfl) ⟨(decide_eq_true h1), h2, h3, h4, h5, h6, h7, h6, h8, (by decide), h9, h10, h2, h11, h12, (decide_eq_true h13), trivial⟩ (fun h => by cases h)

theorem spec_DirectionsOf_L1a_x2 (x6 : (List (Int × Int))) (x7 : Int) (x18 : Int) (x19 : Int) (x29 : Int) (x30 : Int) (xo1 : (ByteArray × ByteArray)) (xo4 : (List Int)) (xo17 : (List (List (Int × Int)))) (xo25 : (List ByteArray)) (xo28 : (List ByteArray)) (dc1 : (Int × Int)) (dc2 : (Int × Int))
    (h1 : x30 < x29)
    (h2 : 0 ≤ x30)
    (h3 : x30 < (List.length xo28 : Int))
    (h4 : (x30).toNat < List.length xo28)
    (h5 : SC cfg.P i_spec_mpOf [.s (.v .str (List.getD xo28 (x30).toNat (⟨#[]⟩ : ByteArray)))] (.s (.v (.pr (.int .i64) (.int .i64)) dc1)) [])
    (h6 : 0 ≤ (((List.getD xo28 (x30).toNat (⟨#[]⟩ : ByteArray))).size : Int))
    (h7 : dc1.2 ≠ 0)
    (h8 : SC cfg.P i_spec_obRatio [.s (.v (.int .i64) (IntKind.wrap .i64 ((IntKind.wrap .i64 (dc1.1 * (IntKind.wrap .i64 (Int.tdiv (IntKind.wrap .i64 ((1 : Int) * 2 ^ (min ((((List.getD xo28 (x30).toNat (⟨#[]⟩ : ByteArray))).size : Int)).toNat (IntKind.bits .i64)))) dc1.2)))) + (1 : Int)))), .s (.v (.int .i64) (IntKind.wrap .i64 ((1 : Int) * 2 ^ (min ((((List.getD xo28 (x30).toNat (⟨#[]⟩ : ByteArray))).size : Int)).toNat (IntKind.bits .i64)))))] (.s (.v (.pr (.int .i64) (.int .i64)) dc2)) [])
    (h9 : (0 : Int) < (List.length x6 : Int))
    (h10 : SC cfg.P i_spec_obLess [.s (.v (.pr (.int .i64) (.int .i64)) (List.getD x6 ((0 : Int)).toNat ((0 : Int), (0 : Int)))), .s (.v (.pr (.int .i64) (.int .i64)) dc2)] (.s (.v .bool true)) [])
    (h11 : x30 < (List.length xo25 : Int))
    (h12 : (x30).toNat < List.length xo25)
    (h13 : ¬ ((((List.getD xo28 (x30).toNat (⟨#[]⟩ : ByteArray))).size : Int) > (((List.getD xo25 (x30).toNat (⟨#[]⟩ : ByteArray))).size : Int))) :
    LoopSC cfg.P 1 (lb P_spec_DirectionsOf 1) (spec_DirectionsOf_L1a x6 x7 x18 x19 x29 x30 xo1 xo4 xo17 xo25 xo28) (.exit 2) (spec_DirectionsOf_L1X2 x7 x18 x19 false xo1 xo4 xo17) :=
  loop_out cfgOK (f := i_spec_DirectionsOf) (its := [.bool true, .res (.s (.v (.pr (.int .i64) (.int .i64)) dc1)) [] [] [], .res (.s (.v (.pr (.int .i64) (.int .i64)) dc2)) [] [] [], .res (.s (.v .bool true)) [] [] [], .bool false])
    (ps := [decide (x30 < x29) = true,
      0 ≤ x30,
      x30 < (List.length xo28 : Int),
      (x30).toNat < List.length xo28,
      SC cfg.P i_spec_mpOf [.s (.v .str (List.getD xo28 (x30).toNat (⟨#[]⟩ : ByteArray)))] (.s (.v (.pr (.int .i64) (.int .i64)) dc1)) [],
      0 ≤ (((List.getD xo28 (x30).toNat (⟨#[]⟩ : ByteArray))).size : Int),
      dc1.2 ≠ 0,
      0 ≤ (((List.getD xo28 (x30).toNat (⟨#[]⟩ : ByteArray))).size : Int),
      SC cfg.P i_spec_obRatio [.s (.v (.int .i64) (IntKind.wrap .i64 ((IntKind.wrap .i64 (dc1.1 * (IntKind.wrap .i64 (Int.tdiv (IntKind.wrap .i64 ((1 : Int) * 2 ^ (min ((((List.getD xo28 (x30).toNat (⟨#[]⟩ : ByteArray))).size : Int)).toNat (IntKind.bits .i64)))) dc1.2)))) + (1 : Int)))), .s (.v (.int .i64) (IntKind.wrap .i64 ((1 : Int) * 2 ^ (min ((((List.getD xo28 (x30).toNat (⟨#[]⟩ : ByteArray))).size : Int)).toNat (IntKind.bits .i64)))))] (.s (.v (.pr (.int .i64) (.int .i64)) dc2)) [],
      0 ≤ (0 : Int),
      (0 : Int) < (List.length x6 : Int),
      SC cfg.P i_spec_obLess [.s (.v (.pr (.int .i64) (.int .i64)) (List.getD x6 ((0 : Int)).toNat ((0 : Int), (0 : Int)))), .s (.v (.pr (.int .i64) (.int .i64)) dc2)] (.s (.v .bool true)) [],
      0 ≤ x30,
      x30 < (List.length xo25 : Int),
      (x30).toNat < List.length xo25,
      decide ((((List.getD xo28 (x30).toNat (⟨#[]⟩ : ByteArray))).size : Int) > (((List.getD xo25 (x30).toNat (⟨#[]⟩ : ByteArray))).size : Int)) = false]) (by kernel_rfl) ⟨(decide_eq_true h1), h2, h3, h4, h5, h6, h7, h6, h8, (by decide), h9, h10, h2, h11, h12, (decide_eq_false h13), trivial⟩ (fun h => by cases h)

theorem spec_DirectionsOf_L1a_i3 (x6 : (List (Int × Int))) (x7 : Int) (x18 : Int) (x19 : Int) (x29 : Int) (x30 : Int) (xo1 : (ByteArray × ByteArray)) (xo4 : (List Int)) (xo17 : (List (List (Int × Int)))) (xo25 : (List ByteArray)) (xo28 : (List ByteArray)) (dc1 : (Int × Int)) (dc2 : (Int × Int))
    (h1 : x30 < x29)
    (h2 : 0 ≤ x30)
    (h3 : x30 < (List.length xo28 : Int))
    (h4 : (x30).toNat < List.length xo28)
    (h5 : SC cfg.P i_spec_mpOf [.s (.v .str (List.getD xo28 (x30).toNat (⟨#[]⟩ : ByteArray)))] (.s (.v (.pr (.int .i64) (.int .i64)) dc1)) [])
    (h6 : 0 ≤ (((List.getD xo28 (x30).toNat (⟨#[]⟩ : ByteArray))).size : Int))
    (h7 : dc1.2 ≠ 0)
    (h8 : SC cfg.P i_spec_obRatio [.s (.v (.int .i64) (IntKind.wrap .i64 ((IntKind.wrap .i64 (dc1.1 * (IntKind.wrap .i64 (Int.tdiv (IntKind.wrap .i64 ((1 : Int) * 2 ^ (min ((((List.getD xo28 (x30).toNat (⟨#[]⟩ : ByteArray))).size : Int)).toNat (IntKind.bits .i64)))) dc1.2)))) + (1 : Int)))), .s (.v (.int .i64) (IntKind.wrap .i64 ((1 : Int) * 2 ^ (min ((((List.getD xo28 (x30).toNat (⟨#[]⟩ : ByteArray))).size : Int)).toNat (IntKind.bits .i64)))))] (.s (.v (.pr (.int .i64) (.int .i64)) dc2)) [])
    (h9 : (0 : Int) < (List.length x6 : Int))
    (h10 : SC cfg.P i_spec_obLess [.s (.v (.pr (.int .i64) (.int .i64)) (List.getD x6 ((0 : Int)).toNat ((0 : Int), (0 : Int)))), .s (.v (.pr (.int .i64) (.int .i64)) dc2)] (.s (.v .bool false)) [])
    {e : AEx} {st : St} (next : LoopSC cfg.P 1 (lb P_spec_DirectionsOf 1) (spec_DirectionsOf_L1a x6 x7 x18 x19 x29 (IntKind.wrap .i64 (x30 + (1 : Int))) xo1 xo4 xo17 xo25 xo28) e st) :
    LoopSC cfg.P 1 (lb P_spec_DirectionsOf 1) (spec_DirectionsOf_L1a x6 x7 x18 x19 x29 x30 xo1 xo4 xo17 xo25 xo28) e st :=
  loop_iter cfgOK (f := i_spec_DirectionsOf) (its := [.bool true, .res (.s (.v (.pr (.int .i64) (.int .i64)) dc1)) [] [] [], .res (.s (.v (.pr (.int .i64) (.int .i64)) dc2)) [] [] [], .res (.s (.v .bool false)) [] [] []])
    (ps := [decide (x30 < x29) = true,
      0 ≤ x30,
      x30 < (List.length xo28 : Int),
      (x30).toNat < List.length xo28,
      SC cfg.P i_spec_mpOf [.s (.v .str (List.getD xo28 (x30).toNat (⟨#[]⟩ : ByteArray)))] (.s (.v (.pr (.int .i64) (.int .i64)) dc1)) [],
      0 ≤ (((List.getD xo28 (x30).toNat (⟨#[]⟩ : ByteArray))).size : Int),
      dc1.2 ≠ 0,
      0 ≤ (((List.getD xo28 (x30).toNat (⟨#[]⟩ : ByteArray))).size : Int),
      SC cfg.P i_spec_obRatio [.s (.v (.int .i64) (IntKind.wrap .i64 ((IntKind.wrap .i64 (dc1.1 * (IntKind.wrap .i64 (Int.tdiv (IntKind.wrap .i64 ((1 : Int) * 2 ^ (min ((((List.getD xo28 (x30).toNat (⟨#[]⟩ : ByteArray))).size : Int)).toNat (IntKind.bits .i64)))) dc1.2)))) + (1 : Int)))), .s (.v (.int .i64) (IntKind.wrap .i64 ((1 : Int) * 2 ^ (min ((((List.getD xo28 (x30).toNat (⟨#[]⟩ : ByteArray))).size : Int)).toNat (IntKind.bits .i64)))))] (.s (.v (.pr (.int .i64) (.int .i64)) dc2)) [],
      0 ≤ (0 : Int),
      (0 : Int) < (List.length x6 : Int),
      SC cfg.P i_spec_obLess [.s (.v (.pr (.int .i64) (.int .i64)) (List.getD x6 ((0 : Int)).toNat ((0 : Int), (0 : Int)))), .s (.v (.pr (.int .i64) (.int .i64)) dc2)] (.s (.v .bool false)) []]) (st1 := spec_DirectionsOf_L1a x6 x7 x18 x19 x29 (IntKind.wrap .i64 (x30 + (1 : Int))) xo1 xo4 xo17 xo25 xo28) (by kernel_rfl) ⟨(decide_eq_true h1), h2, h3, h4, h5, h6, h7, h6, h8, (by decide), h9, h10, trivial⟩ next

theorem spec_DirectionsOf_L1a_x4 (x6 : (List (Int × Int))) (x7 : Int) (x18 : Int) (x19 : Int) (x29 : Int) (x30 : Int) (xo1 : (ByteArray × ByteArray)) (xo4 : (List Int)) (xo17 : (List (List (Int × Int)))) (xo25 : (List ByteArray)) (xo28 : (List ByteArray))
    (h1 : ¬ (x30 < x29)) :
    LoopSC cfg.P 1 (lb P_spec_DirectionsOf 1) (spec_DirectionsOf_L1a x6 x7 x18 x19 x29 x30 xo1 xo4 xo17 xo25 xo28) (.exit 2) (spec_DirectionsOf_L1X3 x6 x7 x18 x19 x29 x30 false xo1 xo4 xo17 xo25 xo28) :=
  loop_out cfgOK (f := i_spec_DirectionsOf) (its := [.bool false])
    (ps := [decide (x30 < x29) = false]) (by kernel_rfl) ⟨(decide_eq_false h1), trivial⟩ (fun h => by cases h)

theorem spec_DirectionsOf_p1 (a0 : (ByteArray × ByteArray)) (c2 : (List (List (Int × Int)))) (k1y18 : Int) (k1y19 : Int) (k1y20 : Bool) (k1yo1 : (ByteArray × ByteArray)) (k1yo4 : (List Int)) (k1yo17 : (List (List (Int × Int))))
    (h1 : SC cfg.P i_spec_prGood [.s (.v (.pr .str .str) a0)] (.s (.v .bool true)) [])
    (h2 : SC cfg.P i_spec_obMoved [.s (.v (.pr .str .str) a0)] (.s (.own t_Simpl_Ratio (.sl (.pr (.int .i64) (.int .i64))) c2)) [])
    (h3 : LoopSC cfg.P 1 (lb P_spec_DirectionsOf 0) (spec_DirectionsOf_L0a ((List.length c2 : Nat) : Int) (0 : Int) a0 ([] : List Int) c2) (.exit 0) (spec_DirectionsOf_L0X1 k1y18 k1y19 k1y20 k1yo1 k1yo4 k1yo17)) :
    SC cfg.P i_spec_DirectionsOf [.s (.v (.pr .str .str) a0)] (.tup [.own t_int (.int .i64) k1yo4, .v .bool true]) [] :=
  SC_of_run cfgOK (its := [.res (.s (.v .bool true)) [] [] [], .res (.s (.own t_Simpl_Ratio (.sl (.pr (.int .i64) (.int .i64))) c2)) [] [] [17], .loop (fun _ => (.exit 0, spec_DirectionsOf_L0X1 k1y18 k1y19 k1y20 k1yo1 k1yo4 k1yo17))])
    (ps := [SC cfg.P i_spec_prGood [.s (.v (.pr .str .str) a0)] (.s (.v .bool true)) [],
      SC cfg.P i_spec_obMoved [.s (.v (.pr .str .str) a0)] (.s (.own t_Simpl_Ratio (.sl (.pr (.int .i64) (.int .i64))) c2)) [],
      LoopSC cfg.P 1 (lb P_spec_DirectionsOf 0) (spec_DirectionsOf_L0a ((List.length c2 : Nat) : Int) (0 : Int) a0 ([] : List Int) c2) (.exit 0) (spec_DirectionsOf_L0X1 k1y18 k1y19 k1y20 k1yo1 k1yo4 k1yo17)]) (by kernel_rfl) ⟨h1, h2, h3, trivial⟩ get_spec_DirectionsOf (by decide)

theorem spec_DirectionsOf_p2 (a0 : (ByteArray × ByteArray))
    (h1 : SC cfg.P i_spec_prGood [.s (.v (.pr .str .str) a0)] (.s (.v .bool false)) []) :
    SC cfg.P i_spec_DirectionsOf [.s (.v (.pr .str .str) a0)] (.tup [.own t_int (.int .i64) ([] : List Int), .v .bool false]) [] :=
  SC_of_run cfgOK (its := [.res (.s (.v .bool false)) [] [] []])
    (ps := [SC cfg.P i_spec_prGood [.s (.v (.pr .str .str) a0)] (.s (.v .bool false)) []]) (by kernel_rfl) ⟨h1, trivial⟩ get_spec_DirectionsOf (by decide)

/-! ### impl_DirectionsOf -/


def impl_DirectionsOf_L0a (x19 : Int) (x20 : Int) (xo4 : (Tr × Tr)) (xo6 : (List Int)) (xo18 : (List (List (Int × Int)))) : St := mkSt 65 [(4, .s (.adr 4 none)), (6, .s (.osl 6 0)), (18, .s (.osl 18 0)), (19, .s (.v (.int .i64) x19)), (20, .s (.v (.int .i64) x20))] [(4, .box (.pr .tree .tree) xo4 false), (6, .row t_int (.int .i64) xo6 0 false), (18, .row t_Simpl_Ratio (.sl (.pr (.int .i64) (.int .i64))) xo18 0 false)]

def impl_DirectionsOf_L0X1 (y19 : Int) (y20 : Int) (y21 : Bool) (yo4 : (Tr × Tr)) (yo6 : (List Int)) (yo18 : (List (List (Int × Int)))) : St := mkSt 65 [(4, .s (.adr 4 none)), (6, .s (.osl 6 0)), (18, .s (.osl 18 0)), (19, .s (.v (.int .i64) y19)), (20, .s (.v (.int .i64) y20)), (21, .s (.v .bool y21))] [(4, .box (.pr .tree .tree) yo4 false), (6, .row t_int (.int .i64) yo6 0 false), (18, .row t_Simpl_Ratio (.sl (.pr (.int .i64) (.int .i64))) yo18 0 false)]

theorem impl_DirectionsOf_L0a_i1 (x19 : Int) (x20 : Int) (xo4 : (Tr × Tr)) (xo6 : (List Int)) (xo18 : (List (List (Int × Int)))) (dc1 : (Int × Int))
    (h1 : x20 < x19)
    (h2 : 0 ≤ x20)
    (h3 : x20 < (List.length xo18 : Int))
    (h4 : (x20).toNat < List.length xo18)
    (h5 : (0 : Int) < (List.length (List.getD xo18 (x20).toNat ([] : List (Int × Int))) : Int))
    (h6 : (1 : Int) < (List.length (List.getD xo18 (x20).toNat ([] : List (Int × Int))) : Int))
    (h7 : SC cfg.P i_impl_ratio [.s (.v (.int .i64) (IntKind.wrap .i64 ((IntKind.wrap .i64 ((List.getD (List.getD xo18 (x20).toNat ([] : List (Int × Int))) ((0 : Int)).toNat ((0 : Int), (0 : Int))).1 * (List.getD (List.getD xo18 (x20).toNat ([] : List (Int × Int))) ((1 : Int)).toNat ((0 : Int), (0 : Int))).2)) + (IntKind.wrap .i64 ((List.getD (List.getD xo18 (x20).toNat ([] : List (Int × Int))) ((1 : Int)).toNat ((0 : Int), (0 : Int))).1 * (List.getD (List.getD xo18 (x20).toNat ([] : List (Int × Int))) ((0 : Int)).toNat ((0 : Int), (0 : Int))).2))))), .s (.v (.int .i64) (IntKind.wrap .i64 ((IntKind.wrap .i64 ((2 : Int) * (List.getD (List.getD xo18 (x20).toNat ([] : List (Int × Int))) ((0 : Int)).toNat ((0 : Int), (0 : Int))).2)) * (List.getD (List.getD xo18 (x20).toNat ([] : List (Int × Int))) ((1 : Int)).toNat ((0 : Int), (0 : Int))).2)))] (.s (.v (.pr (.int .i64) (.int .i64)) dc1)) [])
    (h8 : SC cfg.P i_impl_pair_goesUp [.s (.v (.pr .tree .tree) xo4), .s (.v (.pr (.int .i64) (.int .i64)) dc1)] (.s (.v .bool true)) [])
    (h9 : sizeOK (List.length xo6 + List.length ([(1 : Int)] : List Int)))
    {e : AEx} {st : St} (next : LoopSC cfg.P 1 (lb P_impl_DirectionsOf 0) (impl_DirectionsOf_L0a x19 (IntKind.wrap .i64 (x20 + (1 : Int))) xo4 (xo6 ++ ([(1 : Int)] : List Int)) xo18) e st) :
    LoopSC cfg.P 1 (lb P_impl_DirectionsOf 0) (impl_DirectionsOf_L0a x19 x20 xo4 xo6 xo18) e st :=
  loop_iter cfgOK (f := i_impl_DirectionsOf) (its := [.bool true, .res (.s (.v (.pr (.int .i64) (.int .i64)) dc1)) [] [] [], .res (.s (.v .bool true)) [] [] []])
    (ps := [decide (x20 < x19) = true,
      0 ≤ x20,
      x20 < (List.length xo18 : Int),
      (x20).toNat < List.length xo18,
      0 ≤ (0 : Int),
      (0 : Int) < (List.length (List.getD xo18 (x20).toNat ([] : List (Int × Int))) : Int),
      0 ≤ (1 : Int),
      (1 : Int) < (List.length (List.getD xo18 (x20).toNat ([] : List (Int × Int))) : Int),
      0 ≤ (1 : Int),
      (1 : Int) < (List.length (List.getD xo18 (x20).toNat ([] : List (Int × Int))) : Int),
      0 ≤ (0 : Int),
      (0 : Int) < (List.length (List.getD xo18 (x20).toNat ([] : List (Int × Int))) : Int),
      0 ≤ (0 : Int),
      (0 : Int) < (List.length (List.getD xo18 (x20).toNat ([] : List (Int × Int))) : Int),
      0 ≤ (1 : Int),
      (1 : Int) < (List.length (List.getD xo18 (x20).toNat ([] : List (Int × Int))) : Int),
      SC cfg.P i_impl_ratio [.s (.v (.int .i64) (IntKind.wrap .i64 ((IntKind.wrap .i64 ((List.getD (List.getD xo18 (x20).toNat ([] : List (Int × Int))) ((0 : Int)).toNat ((0 : Int), (0 : Int))).1 * (List.getD (List.getD xo18 (x20).toNat ([] : List (Int × Int))) ((1 : Int)).toNat ((0 : Int), (0 : Int))).2)) + (IntKind.wrap .i64 ((List.getD (List.getD xo18 (x20).toNat ([] : List (Int × Int))) ((1 : Int)).toNat ((0 : Int), (0 : Int))).1 * (List.getD (List.getD xo18 (x20).toNat ([] : List (Int × Int))) ((0 : Int)).toNat ((0 : Int), (0 : Int))).2))))), .s (.v (.int .i64) (IntKind.wrap .i64 ((IntKind.wrap .i64 ((2 : Int) * (List.getD (List.getD xo18 (x20).toNat ([] : List (Int × Int))) ((0 : Int)).toNat ((0 : Int), (0 : Int))).2)) * (List.getD (List.getD xo18 (x20).toNat ([] : List (Int × Int))) ((1 : Int)).toNat ((0 : Int), (0 : Int))).2)))] (.s (.v (.pr (.int .i64) (.int .i64)) dc1)) [],
      SC cfg.P i_impl_pair_goesUp [.s (.v (.pr .tree .tree) xo4), .s (.v (.pr (.int .i64) (.int .i64)) dc1)] (.s (.v .bool true)) [],
      sizeOK (List.length xo6 + List.length ([(1 : Int)] : List Int))]) (st1 := impl_DirectionsOf_L0a x19 (IntKind.wrap .i64 (x20 + (1 : Int))) xo4 (xo6 ++ ([(1 : Int)] : List Int)) xo18) (by kernel_rfl) ⟨(decide_eq_true h1), h2, h3, h4, (by decide), h5, (by decide), h6, (by decide), h6, (by decide), h5, (by decide), h5, (by decide), h6, h7, h8, h9, trivial⟩ next

theorem impl_DirectionsOf_L0a_i2 (x19 : Int) (x20 : Int) (xo4 : (Tr × Tr)) (xo6 : (List Int)) (xo18 : (List (List (Int × Int)))) (dc1 : (Int × Int))
    (h1 : x20 < x19)
    (h2 : 0 ≤ x20)
    (h3 : x20 < (List.length xo18 : Int))
    (h4 : (x20).toNat < List.length xo18)
    (h5 : (0 : Int) < (List.length (List.getD xo18 (x20).toNat ([] : List (Int × Int))) : Int))
    (h6 : (1 : Int) < (List.length (List.getD xo18 (x20).toNat ([] : List (Int × Int))) : Int))
    (h7 : SC cfg.P i_impl_ratio [.s (.v (.int .i64) (IntKind.wrap .i64 ((IntKind.wrap .i64 ((List.getD (List.getD xo18 (x20).toNat ([] : List (Int × Int))) ((0 : Int)).toNat ((0 : Int), (0 : Int))).1 * (List.getD (List.getD xo18 (x20).toNat ([] : List (Int × Int))) ((1 : Int)).toNat ((0 : Int), (0 : Int))).2)) + (IntKind.wrap .i64 ((List.getD (List.getD xo18 (x20).toNat ([] : List (Int × Int))) ((1 : Int)).toNat ((0 : Int), (0 : Int))).1 * (List.getD (List.getD xo18 (x20).toNat ([] : List (Int × Int))) ((0 : Int)).toNat ((0 : Int), (0 : Int))).2))))), .s (.v (.int .i64) (IntKind.wrap .i64 ((IntKind.wrap .i64 ((2 : Int) * (List.getD (List.getD xo18 (x20).toNat ([] : List (Int × Int))) ((0 : Int)).toNat ((0 : Int), (0 : Int))).2)) * (List.getD (List.getD xo18 (x20).toNat ([] : List (Int × Int))) ((1 : Int)).toNat ((0 : Int), (0 : Int))).2)))] (.s (.v (.pr (.int .i64) (.int .i64)) dc1)) [])
    (h8 : SC cfg.P i_impl_pair_goesUp [.s (.v (.pr .tree .tree) xo4), .s (.v (.pr (.int .i64) (.int .i64)) dc1)] (.s (.v .bool false)) [])
    (h9 : sizeOK (List.length xo6 + List.length ([(-1 : Int)] : List Int)))
    {e : AEx} {st : St} (next : LoopSC cfg.P 1 (lb P_impl_DirectionsOf 0) (impl_DirectionsOf_L0a x19 (IntKind.wrap .i64 (x20 + (1 : Int))) xo4 (xo6 ++ ([(-1 : Int)] : List Int)) xo18) e st) :
    LoopSC cfg.P 1 (lb P_impl_DirectionsOf 0) (impl_DirectionsOf_L0a x19 x20 xo4 xo6 xo18) e st :=
  loop_iter cfgOK (f := i_impl_DirectionsOf) (its := [.bool true, .res (.s (.v (.pr (.int .i64) (.int .i64)) dc1)) [] [] [], .res (.s (.v .bool false)) [] [] []])
    (ps := [decide (x20 < x19) = true,
      0 ≤ x20,
      x20 < (List.length xo18 : Int),
      (x20).toNat < List.length xo18,
      0 ≤ (0 : Int),
      (0 : Int) < (List.length (List.getD xo18 (x20).toNat ([] : List (Int × Int))) : Int),
      0 ≤ (1 : Int),
      (1 : Int) < (List.length (List.getD xo18 (x20).toNat ([] : List (Int × Int))) : Int),
      0 ≤ (1 : Int),
      (1 : Int) < (List.length (List.getD xo18 (x20).toNat ([] : List (Int × Int))) : Int),
      0 ≤ (0 : Int),
      (0 : Int) < (List.length (List.getD xo18 (x20).toNat ([] : List (Int × Int))) : Int),
      0 ≤ (0 : Int),
      (0 : Int) < (List.length (List.getD xo18 (x20).toNat ([] : List (Int × Int))) : Int),
      0 ≤ (1 : Int),
      (1 : Int) < (List.length (List.getD xo18 (x20).toNat ([] : List (Int × Int))) : Int),
      SC cfg.P i_impl_ratio [.s (.v (.int .i64) (IntKind.wrap .i64 ((IntKind.wrap .i64 ((List.getD (List.getD xo18 (x20).toNat ([] : List (Int × Int))) ((0 : Int)).toNat ((0 : Int), (0 : Int))).1 * (List.getD (List.getD xo18 (x20).toNat ([] : List (Int × Int))) ((1 : Int)).toNat ((0 : Int), (0 : Int))).2)) + (IntKind.wrap .i64 ((List.getD (List.getD xo18 (x20).toNat ([] : List (Int × Int))) ((1 : Int)).toNat ((0 : Int), (0 : Int))).1 * (List.getD (List.getD xo18 (x20).toNat ([] : List (Int × Int))) ((0 : Int)).toNat ((0 : Int), (0 : Int))).2))))), .s (.v (.int .i64) (IntKind.wrap .i64 ((IntKind.wrap .i64 ((2 : Int) * (List.getD (List.getD xo18 (x20).toNat ([] : List (Int × Int))) ((0 : Int)).toNat ((0 : Int), (0 : Int))).2)) * (List.getD (List.getD xo18 (x20).toNat ([] : List (Int × Int))) ((1 : Int)).toNat ((0 : Int), (0 : Int))).2)))] (.s (.v (.pr (.int .i64) (.int .i64)) dc1)) [],
      SC cfg.P i_impl_pair_goesUp [.s (.v (.pr .tree .tree) xo4), .s (.v (.pr (.int .i64) (.int .i64)) dc1)] (.s (.v .bool false)) [],
      sizeOK (List.length xo6 + List.length ([(-1 : Int)] : List Int))]) (st1 := impl_DirectionsOf_L0a x19 (IntKind.wrap .i64 (x20 + (1 : Int))) xo4 (xo6 ++ ([(-1 : Int)] : List Int)) xo18) (by kernel_rfl) ⟨(decide_eq_true h1), h2, h3, h4, (by decide), h5, (by decide), h6, (by decide), h6, (by decide), h5, (by decide), h5, (by decide), h6, h7, h8, h9, trivial⟩ next

theorem impl_DirectionsOf_L0a_x3 (x19 : Int) (x20 : Int) (xo4 : (Tr × Tr)) (xo6 : (List Int)) (xo18 : (List (List (Int × Int))))
    (h1 : ¬ (x20 < x19)) :
    LoopSC cfg.P 1 (lb P_impl_DirectionsOf 0) (impl_DirectionsOf_L0a x19 x20 xo4 xo6 xo18) (.exit 0) (impl_DirectionsOf_L0X1 x19 x20 false xo4 xo6 xo18) :=
  loop_out cfgOK (f := i_impl_DirectionsOf) (its := [.bool false])
    (ps := [decide (x20 < x19) = false]) (by kernel_rfl) ⟨(decide_eq_false h1), trivial⟩ (fun h => by cases h)

theorem impl_DirectionsOf_p1 (a0 : (ByteArray × ByteArray)) (c1a : (Tr × Tr)) (c2 : (List (List (Int × Int)))) (k1y19 : Int) (k1y20 : Int) (k1y21 : Bool) (k1yo4 : (Tr × Tr)) (k1yo6 : (List Int)) (k1yo18 : (List (List (Int × Int))))
    (h1 : SC cfg.P i_impl_pairOf [.s (.v (.pr .str .str) a0)] (.tup [.v (.pr .tree .tree) c1a, .v .bool true]) [])
    (h2 : SC cfg.P i_impl_pair_moved [.s (.v (.pr .tree .tree) c1a)] (.s (.own t_Simpl_Ratio (.sl (.pr (.int .i64) (.int .i64))) c2)) [])
    (h3 : LoopSC cfg.P 1 (lb P_impl_DirectionsOf 0) (impl_DirectionsOf_L0a ((List.length c2 : Nat) : Int) (0 : Int) c1a ([] : List Int) c2) (.exit 0) (impl_DirectionsOf_L0X1 k1y19 k1y20 k1y21 k1yo4 k1yo6 k1yo18)) :
    SC cfg.P i_impl_DirectionsOf [.s (.v (.pr .str .str) a0)] (.tup [.own t_int (.int .i64) k1yo6, .v .bool true]) [] :=
  SC_of_run cfgOK (its := [.res (.tup [.v (.pr .tree .tree) c1a, .v .bool true]) [] [] [], .res (.s (.own t_Simpl_Ratio (.sl (.pr (.int .i64) (.int .i64))) c2)) [] [] [18], .loop (fun _ => (.exit 0, impl_DirectionsOf_L0X1 k1y19 k1y20 k1y21 k1yo4 k1yo6 k1yo18))])
    (ps := [SC cfg.P i_impl_pairOf [.s (.v (.pr .str .str) a0)] (.tup [.v (.pr .tree .tree) c1a, .v .bool true]) [],
      SC cfg.P i_impl_pair_moved [.s (.v (.pr .tree .tree) c1a)] (.s (.own t_Simpl_Ratio (.sl (.pr (.int .i64) (.int .i64))) c2)) [],
      LoopSC cfg.P 1 (lb P_impl_DirectionsOf 0) (impl_DirectionsOf_L0a ((List.length c2 : Nat) : Int) (0 : Int) c1a ([] : List Int) c2) (.exit 0) (impl_DirectionsOf_L0X1 k1y19 k1y20 k1y21 k1yo4 k1yo6 k1yo18)]) (by kernel_rfl) ⟨h1, h2, h3, trivial⟩ get_impl_DirectionsOf (by decide)

theorem impl_DirectionsOf_p2 (a0 : (ByteArray × ByteArray)) (c1a : (Tr × Tr))
    (h1 : SC cfg.P i_impl_pairOf [.s (.v (.pr .str .str) a0)] (.tup [.v (.pr .tree .tree) c1a, .v .bool false]) []) :
    SC cfg.P i_impl_DirectionsOf [.s (.v (.pr .str .str) a0)] (.tup [.own t_int (.int .i64) ([] : List Int), .v .bool false]) [] :=
  SC_of_run cfgOK (its := [.res (.tup [.v (.pr .tree .tree) c1a, .v .bool false]) [] [] []])
    (ps := [SC cfg.P i_impl_pairOf [.s (.v (.pr .str .str) a0)] (.tup [.v (.pr .tree .tree) c1a, .v .bool false]) []]) (by kernel_rfl) ⟨h1, trivial⟩ get_impl_DirectionsOf (by decide)

/-! ### impl_pair_goesUp -/


def impl_pair_goesUp_L0a (x11 : Int) (x12 : Int) (xo3 : (Int × Int)) (xo10 : (List (Int × (Int × (Int × Int))))) : St := mkSt 70 [(3, .s (.adr 3 none)), (10, .s (.osl 10 0)), (11, .s (.v (.int .i64) x11)), (12, .s (.v (.int .i64) x12))] [(3, .box (.pr (.int .i64) (.int .i64)) xo3 false), (10, .row t_impl_piece (.pr (.int .i64) (.pr (.int .i64) (.pr (.int .i64) (.int .i64)))) xo10 0 false)]

def impl_pair_goesUp_L0X1 (y4 : Bool) : St := mkSt 70 [(4, .s (.v .bool y4))] []

def impl_pair_goesUp_L0X2 (y11 : Int) (y12 : Int) (y13 : Bool) (yo3 : (Int × Int)) (yo10 : (List (Int × (Int × (Int × Int))))) : St := mkSt 70 [(3, .s (.adr 3 none)), (10, .s (.osl 10 0)), (11, .s (.v (.int .i64) y11)), (12, .s (.v (.int .i64) y12)), (13, .s (.v .bool y13))] [(3, .box (.pr (.int .i64) (.int .i64)) yo3 false), (10, .row t_impl_piece (.pr (.int .i64) (.pr (.int .i64) (.pr (.int .i64) (.int .i64)))) yo10 0 false)]

theorem impl_pair_goesUp_L0a_x1 (x11 : Int) (x12 : Int) (xo3 : (Int × Int)) (xo10 : (List (Int × (Int × (Int × Int))))) (dc1 : Int) (dc2 : Int) (dc3 : (Int × Int)) (dc5 : Int) (dc6 : Int) (dc7 : Int)
    (h1 : x12 < x11)
    (h2 : 0 ≤ x12)
    (h3 : x12 < (List.length xo10 : Int))
    (h4 : (x12).toNat < List.length xo10)
    (h5 : SC cfg.P i_impl_piece_end [.s (.v (.pr (.int .i64) (.pr (.int .i64) (.pr (.int .i64) (.int .i64)))) (List.getD xo10 (x12).toNat ((0 : Int), ((0 : Int), ((0 : Int), (0 : Int))))))] (.s (.v (.int .i64) dc1)) [])
    (h6 : SC cfg.P i_impl_short [.s (.v (.int .i64) dc1)] (.s (.v (.int .i64) dc2)) [])
    (h7 : SC cfg.P i_impl_ratio [.s (.v (.int .i64) dc2), .s (.v (.int .i64) (256 : Int))] (.s (.v (.pr (.int .i64) (.int .i64)) dc3)) [])
    (h8 : SC cfg.P i_impl_Ratio_less [.s (.v (.pr (.int .i64) (.int .i64)) xo3), .s (.v (.pr (.int .i64) (.int .i64)) dc3)] (.s (.v .bool true)) [])
    (h9 : SC cfg.P i_impl_short [.s (.v (.int .i64) (List.getD xo10 (x12).toNat ((0 : Int), ((0 : Int), ((0 : Int), (0 : Int))))).1)] (.s (.v (.int .i64) dc5)) [])
    (h10 : SC cfg.P i_impl_piece_slope [.s (.v (.pr (.int .i64) (.pr (.int .i64) (.pr (.int .i64) (.int .i64)))) (List.getD xo10 (x12).toNat ((0 : Int), ((0 : Int), ((0 : Int), (0 : Int))))))] (.s (.v (.int .i64) dc6)) [])
    (h11 : dc6 ≥ (0 : Int))
    (h12 : SC cfg.P i_impl_short [.s (.v (.int .i64) (List.getD xo10 (x12).toNat ((0 : Int), ((0 : Int), ((0 : Int), (0 : Int))))).2.1)] (.s (.v (.int .i64) dc7)) [])
    (h13 : 0 ≤ dc6)
    (h14 : (IntKind.wrap .i64 ((IntKind.wrap .i64 (dc7 * xo3.2)) + (IntKind.wrap .i64 ((IntKind.wrap .i64 ((IntKind.wrap .i64 (xo3.1 * (256 : Int))) - (IntKind.wrap .i64 (dc5 * xo3.2)))) * 2 ^ (min (dc6).toNat (IntKind.bits .i64)))))) > (IntKind.wrap .i64 (xo3.1 * (256 : Int)))) :
    LoopSC cfg.P 2 (lb P_impl_pair_goesUp 0) (impl_pair_goesUp_L0a x11 x12 xo3 xo10) (.ret) (impl_pair_goesUp_L0X1 true) :=
  loop_out cfgOK (f := i_impl_pair_goesUp) (its := [.bool true, .res (.s (.v (.int .i64) dc1)) [] [] [], .res (.s (.v (.int .i64) dc2)) [] [] [], .res (.s (.v (.pr (.int .i64) (.int .i64)) dc3)) [] [] [], .res (.s (.v .bool true)) [] [] [], .res (.s (.v (.int .i64) dc5)) [] [] [], .res (.s (.v (.int .i64) dc6)) [] [] [], .bool true, .res (.s (.v (.int .i64) dc7)) [] [] [], .bool true])
    (ps := [decide (x12 < x11) = true,
      0 ≤ x12,
      x12 < (List.length xo10 : Int),
      (x12).toNat < List.length xo10,
      SC cfg.P i_impl_piece_end [.s (.v (.pr (.int .i64) (.pr (.int .i64) (.pr (.int .i64) (.int .i64)))) (List.getD xo10 (x12).toNat ((0 : Int), ((0 : Int), ((0 : Int), (0 : Int))))))] (.s (.v (.int .i64) dc1)) [],
      SC cfg.P i_impl_short [.s (.v (.int .i64) dc1)] (.s (.v (.int .i64) dc2)) [],
      SC cfg.P i_impl_ratio [.s (.v (.int .i64) dc2), .s (.v (.int .i64) (256 : Int))] (.s (.v (.pr (.int .i64) (.int .i64)) dc3)) [],
      SC cfg.P i_impl_Ratio_less [.s (.v (.pr (.int .i64) (.int .i64)) xo3), .s (.v (.pr (.int .i64) (.int .i64)) dc3)] (.s (.v .bool true)) [],
      SC cfg.P i_impl_short [.s (.v (.int .i64) (List.getD xo10 (x12).toNat ((0 : Int), ((0 : Int), ((0 : Int), (0 : Int))))).1)] (.s (.v (.int .i64) dc5)) [],
      SC cfg.P i_impl_piece_slope [.s (.v (.pr (.int .i64) (.pr (.int .i64) (.pr (.int .i64) (.int .i64)))) (List.getD xo10 (x12).toNat ((0 : Int), ((0 : Int), ((0 : Int), (0 : Int))))))] (.s (.v (.int .i64) dc6)) [],
      decide (dc6 ≥ (0 : Int)) = true,
      SC cfg.P i_impl_short [.s (.v (.int .i64) (List.getD xo10 (x12).toNat ((0 : Int), ((0 : Int), ((0 : Int), (0 : Int))))).2.1)] (.s (.v (.int .i64) dc7)) [],
      0 ≤ dc6,
      decide ((IntKind.wrap .i64 ((IntKind.wrap .i64 (dc7 * xo3.2)) + (IntKind.wrap .i64 ((IntKind.wrap .i64 ((IntKind.wrap .i64 (xo3.1 * (256 : Int))) - (IntKind.wrap .i64 (dc5 * xo3.2)))) * 2 ^ (min (dc6).toNat (IntKind.bits .i64)))))) > (IntKind.wrap .i64 (xo3.1 * (256 : Int)))) = true]) (by kernel_rfl) ⟨(decide_eq_true h1), h2, h3, h4, h5, h6, h7, h8, h9, h10, (decide_eq_true h11), h12, h13, (decide_eq_true h14), trivial⟩ (fun h => by cases h)

theorem impl_pair_goesUp_L0a_x2 (x11 : Int) (x12 : Int) (xo3 : (Int × Int)) (xo10 : (List (Int × (Int × (Int × Int))))) (dc1 : Int) (dc2 : Int) (dc3 : (Int × Int)) (dc5 : Int) (dc6 : Int) (dc7 : Int)
    (h1 : x12 < x11)
    (h2 : 0 ≤ x12)
    (h3 : x12 < (List.length xo10 : Int))
    (h4 : (x12).toNat < List.length xo10)
    (h5 : SC cfg.P i_impl_piece_end [.s (.v (.pr (.int .i64) (.pr (.int .i64) (.pr (.int .i64) (.int .i64)))) (List.getD xo10 (x12).toNat ((0 : Int), ((0 : Int), ((0 : Int), (0 : Int))))))] (.s (.v (.int .i64) dc1)) [])
    (h6 : SC cfg.P i_impl_short [.s (.v (.int .i64) dc1)] (.s (.v (.int .i64) dc2)) [])
    (h7 : SC cfg.P i_impl_ratio [.s (.v (.int .i64) dc2), .s (.v (.int .i64) (256 : Int))] (.s (.v (.pr (.int .i64) (.int .i64)) dc3)) [])
    (h8 : SC cfg.P i_impl_Ratio_less [.s (.v (.pr (.int .i64) (.int .i64)) xo3), .s (.v (.pr (.int .i64) (.int .i64)) dc3)] (.s (.v .bool true)) [])
    (h9 : SC cfg.P i_impl_short [.s (.v (.int .i64) (List.getD xo10 (x12).toNat ((0 : Int), ((0 : Int), ((0 : Int), (0 : Int))))).1)] (.s (.v (.int .i64) dc5)) [])
    (h10 : SC cfg.P i_impl_piece_slope [.s (.v (.pr (.int .i64) (.pr (.int .i64) (.pr (.int .i64) (.int .i64)))) (List.getD xo10 (x12).toNat ((0 : Int), ((0 : Int), ((0 : Int), (0 : Int))))))] (.s (.v (.int .i64) dc6)) [])
    (h11 : dc6 ≥ (0 : Int))
    (h12 : SC cfg.P i_impl_short [.s (.v (.int .i64) (List.getD xo10 (x12).toNat ((0 : Int), ((0 : Int), ((0 : Int), (0 : Int))))).2.1)] (.s (.v (.int .i64) dc7)) [])
    (h13 : 0 ≤ dc6)
    (h14 : ¬ ((IntKind.wrap .i64 ((IntKind.wrap .i64 (dc7 * xo3.2)) + (IntKind.wrap .i64 ((IntKind.wrap .i64 ((IntKind.wrap .i64 (xo3.1 * (256 : Int))) - (IntKind.wrap .i64 (dc5 * xo3.2)))) * 2 ^ (min (dc6).toNat (IntKind.bits .i64)))))) > (IntKind.wrap .i64 (xo3.1 * (256 : Int))))) :
    LoopSC cfg.P 2 (lb P_impl_pair_goesUp 0) (impl_pair_goesUp_L0a x11 x12 xo3 xo10) (.ret) (impl_pair_goesUp_L0X1 false) :=
  loop_out cfgOK (f := i_impl_pair_goesUp) (its := [.bool true, .res (.s (.v (.int .i64) dc1)) [] [] [], .res (.s (.v (.int .i64) dc2)) [] [] [], .res (.s (.v (.pr (.int .i64) (.int .i64)) dc3)) [] [] [], .res (.s (.v .bool true)) [] [] [], .res (.s (.v (.int .i64) dc5)) [] [] [], .res (.s (.v (.int .i64) dc6)) [] [] [], .bool true, .res (.s (.v (.int .i64) dc7)) [] [] [], .bool false])
    (ps := [decide (x12 < x11) = true,
      0 ≤ x12,
      x12 < (List.length xo10 : Int),
      (x12).toNat < List.length xo10,
      SC cfg.P i_impl_piece_end [.s (.v (.pr (.int .i64) (.pr (.int .i64) (.pr (.int .i64) (.int .i64)))) (List.getD xo10 (x12).toNat ((0 : Int), ((0 : Int), ((0 : Int), (0 : Int))))))] (.s (.v (.int .i64) dc1)) [],
      SC cfg.P i_impl_short [.s (.v (.int .i64) dc1)] (.s (.v (.int .i64) dc2)) [],
      SC cfg.P i_impl_ratio [.s (.v (.int .i64) dc2), .s (.v (.int .i64) (256 : Int))] (.s (.v (.pr (.int .i64) (.int .i64)) dc3)) [],
      SC cfg.P i_impl_Ratio_less [.s (.v (.pr (.int .i64) (.int .i64)) xo3), .s (.v (.pr (.int .i64) (.int .i64)) dc3)] (.s (.v .bool true)) [],
      SC cfg.P i_impl_short [.s (.v (.int .i64) (List.getD xo10 (x12).toNat ((0 : Int), ((0 : Int), ((0 : Int), (0 : Int))))).1)] (.s (.v (.int .i64) dc5)) [],
      SC cfg.P i_impl_piece_slope [.s (.v (.pr (.int .i64) (.pr (.int .i64) (.pr (.int .i64) (.int .i64)))) (List.getD xo10 (x12).toNat ((0 : Int), ((0 : Int), ((0 : Int), (0 : Int))))))] (.s (.v (.int .i64) dc6)) [],
      decide (dc6 ≥ (0 : Int)) = true,
      SC cfg.P i_impl_short [.s (.v (.int .i64) (List.getD xo10 (x12).toNat ((0 : Int), ((0 : Int), ((0 : Int), (0 : Int))))).2.1)] (.s (.v (.int .i64) dc7)) [],
      0 ≤ dc6,
      decide ((IntKind.wrap .i64 ((IntKind.wrap .i64 (dc7 * xo3.2)) + (IntKind.wrap .i64 ((IntKind.wrap .i64 ((IntKind.wrap .i64 (xo3.1 * (256 : Int))) - (IntKind.wrap .i64 (dc5 * xo3.2)))) * 2 ^ (min (dc6).toNat (IntKind.bits .i64)))))) > (IntKind.wrap .i64 (xo3.1 * (256 : Int)))) = false]) (by kernel_rfl) ⟨(decide_eq_true h1), h2, h3, h4, h5, h6, h7, h8, h9, h10, (decide_eq_true h11), h12, h13, (decide_eq_false h14), trivial⟩ (fun h => by cases h)

theorem impl_pair_goesUp_L0a_x3 (x11 : Int) (x12 : Int) (xo3 : (Int × Int)) (xo10 : (List (Int × (Int × (Int × Int))))) (dc1 : Int) (dc2 : Int) (dc3 : (Int × Int)) (dc5 : Int) (dc6 : Int) (dc7 : Int)
    (h1 : x12 < x11)
    (h2 : 0 ≤ x12)
    (h3 : x12 < (List.length xo10 : Int))
    (h4 : (x12).toNat < List.length xo10)
    (h5 : SC cfg.P i_impl_piece_end [.s (.v (.pr (.int .i64) (.pr (.int .i64) (.pr (.int .i64) (.int .i64)))) (List.getD xo10 (x12).toNat ((0 : Int), ((0 : Int), ((0 : Int), (0 : Int))))))] (.s (.v (.int .i64) dc1)) [])
    (h6 : SC cfg.P i_impl_short [.s (.v (.int .i64) dc1)] (.s (.v (.int .i64) dc2)) [])
    (h7 : SC cfg.P i_impl_ratio [.s (.v (.int .i64) dc2), .s (.v (.int .i64) (256 : Int))] (.s (.v (.pr (.int .i64) (.int .i64)) dc3)) [])
    (h8 : SC cfg.P i_impl_Ratio_less [.s (.v (.pr (.int .i64) (.int .i64)) xo3), .s (.v (.pr (.int .i64) (.int .i64)) dc3)] (.s (.v .bool true)) [])
    (h9 : SC cfg.P i_impl_short [.s (.v (.int .i64) (List.getD xo10 (x12).toNat ((0 : Int), ((0 : Int), ((0 : Int), (0 : Int))))).1)] (.s (.v (.int .i64) dc5)) [])
    (h10 : SC cfg.P i_impl_piece_slope [.s (.v (.pr (.int .i64) (.pr (.int .i64) (.pr (.int .i64) (.int .i64)))) (List.getD xo10 (x12).toNat ((0 : Int), ((0 : Int), ((0 : Int), (0 : Int))))))] (.s (.v (.int .i64) dc6)) [])
    (h11 : ¬ (dc6 ≥ (0 : Int)))
    (h12 : SC cfg.P i_impl_short [.s (.v (.int .i64) (List.getD xo10 (x12).toNat ((0 : Int), ((0 : Int), ((0 : Int), (0 : Int))))).2.1)] (.s (.v (.int .i64) dc7)) [])
    (h13 : 0 ≤ (IntKind.wrap .i64 (0 - dc6)))
    (h14 : (IntKind.wrap .i64 ((IntKind.wrap .i64 ((IntKind.wrap .i64 (dc7 * xo3.2)) * 2 ^ (min ((IntKind.wrap .i64 (0 - dc6))).toNat (IntKind.bits .i64)))) + (IntKind.wrap .i64 ((IntKind.wrap .i64 (xo3.1 * (256 : Int))) - (IntKind.wrap .i64 (dc5 * xo3.2)))))) > (IntKind.wrap .i64 ((IntKind.wrap .i64 (xo3.1 * (256 : Int))) * 2 ^ (min ((IntKind.wrap .i64 (0 - dc6))).toNat (IntKind.bits .i64))))) :
    LoopSC cfg.P 2 (lb P_impl_pair_goesUp 0) (impl_pair_goesUp_L0a x11 x12 xo3 xo10) (.ret) (impl_pair_goesUp_L0X1 true) :=
  loop_out cfgOK (f := i_impl_pair_goesUp) (its := [.bool true, .res (.s (.v (.int .i64) dc1)) [] [] [], .res (.s (.v (.int .i64) dc2)) [] [] [], .res (.s (.v (.pr (.int .i64) (.int .i64)) dc3)) [] [] [], .res (.s (.v .bool true)) [] [] [], .res (.s (.v (.int .i64) dc5)) [] [] [], .res (.s (.v (.int .i64) dc6)) [] [] [], .bool false, .res (.s (.v (.int .i64) dc7)) [] [] [], .bool true])
    (ps := [decide (x12 < x11) = true,
      0 ≤ x12,
      x12 < (List.length xo10 : Int),
      (x12).toNat < List.length xo10,
      SC cfg.P i_impl_piece_end [.s (.v (.pr (.int .i64) (.pr (.int .i64) (.pr (.int .i64) (.int .i64)))) (List.getD xo10 (x12).toNat ((0 : Int), ((0 : Int), ((0 : Int), (0 : Int))))))] (.s (.v (.int .i64) dc1)) [],
      SC cfg.P i_impl_short [.s (.v (.int .i64) dc1)] (.s (.v (.int .i64) dc2)) [],
      SC cfg.P i_impl_ratio [.s (.v (.int .i64) dc2), .s (.v (.int .i64) (256 : Int))] (.s (.v (.pr (.int .i64) (.int .i64)) dc3)) [],
      SC cfg.P i_impl_Ratio_less [.s (.v (.pr (.int .i64) (.int .i64)) xo3), .s (.v (.pr (.int .i64) (.int .i64)) dc3)] (.s (.v .bool true)) [],
      SC cfg.P i_impl_short [.s (.v (.int .i64) (List.getD xo10 (x12).toNat ((0 : Int), ((0 : Int), ((0 : Int), (0 : Int))))).1)] (.s (.v (.int .i64) dc5)) [],
      SC cfg.P i_impl_piece_slope [.s (.v (.pr (.int .i64) (.pr (.int .i64) (.pr (.int .i64) (.int .i64)))) (List.getD xo10 (x12).toNat ((0 : Int), ((0 : Int), ((0 : Int), (0 : Int))))))] (.s (.v (.int .i64) dc6)) [],
      decide (dc6 ≥ (0 : Int)) = false,
      SC cfg.P i_impl_short [.s (.v (.int .i64) (List.getD xo10 (x12).toNat ((0 : Int), ((0 : Int), ((0 : Int), (0 : Int))))).2.1)] (.s (.v (.int .i64) dc7)) [],
      0 ≤ (IntKind.wrap .i64 (0 - dc6)),
      0 ≤ (IntKind.wrap .i64 (0 - dc6)),
      decide ((IntKind.wrap .i64 ((IntKind.wrap .i64 ((IntKind.wrap .i64 (dc7 * xo3.2)) * 2 ^ (min ((IntKind.wrap .i64 (0 - dc6))).toNat (IntKind.bits .i64)))) + (IntKind.wrap .i64 ((IntKind.wrap .i64 (xo3.1 * (256 : Int))) - (IntKind.wrap .i64 (dc5 * xo3.2)))))) > (IntKind.wrap .i64 ((IntKind.wrap .i64 (xo3.1 * (256 : Int))) * 2 ^ (min ((IntKind.wrap .i64 (0 - dc6))).toNat (IntKind.bits .i64))))) = true]) (by kernel_rfl) ⟨(decide_eq_true h1), h2, h3, h4, h5, h6, h7, h8, h9, h10, (decide_eq_false h11), h12, h13, h13, (decide_eq_true h14), trivial⟩ (fun h => by cases h)

theorem impl_pair_goesUp_L0a_x4 (x11 : Int) (x12 : Int) (xo3 : (Int × Int)) (xo10 : (List (Int × (Int × (Int × Int))))) (dc1 : Int) (dc2 : Int) (dc3 : (Int × Int)) (dc5 : Int) (dc6 : Int) (dc7 : Int)
    (h1 : x12 < x11)
    (h2 : 0 ≤ x12)
    (h3 : x12 < (List.length xo10 : Int))
    (h4 : (x12).toNat < List.length xo10)
    (h5 : SC cfg.P i_impl_piece_end [.s (.v (.pr (.int .i64) (.pr (.int .i64) (.pr (.int .i64) (.int .i64)))) (List.getD xo10 (x12).toNat ((0 : Int), ((0 : Int), ((0 : Int), (0 : Int))))))] (.s (.v (.int .i64) dc1)) [])
    (h6 : SC cfg.P i_impl_short [.s (.v (.int .i64) dc1)] (.s (.v (.int .i64) dc2)) [])
    (h7 : SC cfg.P i_impl_ratio [.s (.v (.int .i64) dc2), .s (.v (.int .i64) (256 : Int))] (.s (.v (.pr (.int .i64) (.int .i64)) dc3)) [])
    (h8 : SC cfg.P i_impl_Ratio_less [.s (.v (.pr (.int .i64) (.int .i64)) xo3), .s (.v (.pr (.int .i64) (.int .i64)) dc3)] (.s (.v .bool true)) [])
    (h9 : SC cfg.P i_impl_short [.s (.v (.int .i64) (List.getD xo10 (x12).toNat ((0 : Int), ((0 : Int), ((0 : Int), (0 : Int))))).1)] (.s (.v (.int .i64) dc5)) [])
    (h10 : SC cfg.P i_impl_piece_slope [.s (.v (.pr (.int .i64) (.pr (.int .i64) (.pr (.int .i64) (.int .i64)))) (List.getD xo10 (x12).toNat ((0 : Int), ((0 : Int), ((0 : Int), (0 : Int))))))] (.s (.v (.int .i64) dc6)) [])
    (h11 : ¬ (dc6 ≥ (0 : Int)))
    (h12 : SC cfg.P i_impl_short [.s (.v (.int .i64) (List.getD xo10 (x12).toNat ((0 : Int), ((0 : Int), ((0 : Int), (0 : Int))))).2.1)] (.s (.v (.int .i64) dc7)) [])
    (h13 : 0 ≤ (IntKind.wrap .i64 (0 - dc6)))
    (h14 : ¬ ((IntKind.wrap .i64 ((IntKind.wrap .i64 ((IntKind.wrap .i64 (dc7 * xo3.2)) * 2 ^ (min ((IntKind.wrap .i64 (0 - dc6))).toNat (IntKind.bits .i64)))) + (IntKind.wrap .i64 ((IntKind.wrap .i64 (xo3.1 * (256 : Int))) - (IntKind.wrap .i64 (dc5 * xo3.2)))))) > (IntKind.wrap .i64 ((IntKind.wrap .i64 (xo3.1 * (256 : Int))) * 2 ^ (min ((IntKind.wrap .i64 (0 - dc6))).toNat (IntKind.bits .i64)))))) :
    LoopSC cfg.P 2 (lb P_impl_pair_goesUp 0) (impl_pair_goesUp_L0a x11 x12 xo3 xo10) (.ret) (impl_pair_goesUp_L0X1 false) :=
  loop_out cfgOK (f := i_impl_pair_goesUp) (its := [.bool true, .res (.s (.v (.int .i64) dc1)) [] [] [], .res (.s (.v (.int .i64) dc2)) [] [] [], .res (.s (.v (.pr (.int .i64) (.int .i64)) dc3)) [] [] [], .res (.s (.v .bool true)) [] [] [], .res (.s (.v (.int .i64) dc5)) [] [] [], .res (.s (.v (.int .i64) dc6)) [] [] [], .bool false, .res (.s (.v (.int .i64) dc7)) [] [] [], .bool false])
    (ps := [decide (x12 < x11) = true,
      0 ≤ x12,
      x12 < (List.length xo10 : Int),
      (x12).toNat < List.length xo10,
      SC cfg.P i_impl_piece_end [.s (.v (.pr (.int .i64) (.pr (.int .i64) (.pr (.int .i64) (.int .i64)))) (List.getD xo10 (x12).toNat ((0 : Int), ((0 : Int), ((0 : Int), (0 : Int))))))] (.s (.v (.int .i64) dc1)) [],
      SC cfg.P i_impl_short [.s (.v (.int .i64) dc1)] (.s (.v (.int .i64) dc2)) [],
      SC cfg.P i_impl_ratio [.s (.v (.int .i64) dc2), .s (.v (.int .i64) (256 : Int))] (.s (.v (.pr (.int .i64) (.int .i64)) dc3)) [],
      SC cfg.P i_impl_Ratio_less [.s (.v (.pr (.int .i64) (.int .i64)) xo3), .s (.v (.pr (.int .i64) (.int .i64)) dc3)] (.s (.v .bool true)) [],
      SC cfg.P i_impl_short [.s (.v (.int .i64) (List.getD xo10 (x12).toNat ((0 : Int), ((0 : Int), ((0 : Int), (0 : Int))))).1)] (.s (.v (.int .i64) dc5)) [],
      SC cfg.P i_impl_piece_slope [.s (.v (.pr (.int .i64) (.pr (.int .i64) (.pr (.int .i64) (.int .i64)))) (List.getD xo10 (x12).toNat ((0 : Int), ((0 : Int), ((0 : Int), (0 : Int))))))] (.s (.v (.int .i64) dc6)) [],
      decide (dc6 ≥ (0 : Int)) = false,
      SC cfg.P i_impl_short [.s (.v (.int .i64) (List.getD xo10 (x12).toNat ((0 : Int), ((0 : Int), ((0 : Int), (0 : Int))))).2.1)] (.s (.v (.int .i64) dc7)) [],
      0 ≤ (IntKind.wrap .i64 (0 - dc6)),
      0 ≤ (IntKind.wrap .i64 (0 - dc6)),
      decide ((IntKind.wrap .i64 ((IntKind.wrap .i64 ((IntKind.wrap .i64 (dc7 * xo3.2)) * 2 ^ (min ((IntKind.wrap .i64 (0 - dc6))).toNat (IntKind.bits .i64)))) + (IntKind.wrap .i64 ((IntKind.wrap .i64 (xo3.1 * (256 : Int))) - (IntKind.wrap .i64 (dc5 * xo3.2)))))) > (IntKind.wrap .i64 ((IntKind.wrap .i64 (xo3.1 * (256 : Int))) * 2 ^ (min ((IntKind.wrap .i64 (0 - dc6))).toNat (IntKind.bits .i64))))) = false]) (by kernel_rfl) ⟨(decide_eq_true h1), h2, h3, h4, h5, h6, h7, h8, h9, h10, (decide_eq_false h11), h12, h13, h13, (decide_eq_false h14), trivial⟩ (fun h => by cases h)

theorem impl_pair_goesUp_L0a_i5 (x11 : Int) (x12 : Int) (xo3 : (Int × Int)) (xo10 : (List (Int × (Int × (Int × Int))))) (dc1 : Int) (dc2 : Int) (dc3 : (Int × Int))
    (h1 : x12 < x11)
    (h2 : 0 ≤ x12)
    (h3 : x12 < (List.length xo10 : Int))
    (h4 : (x12).toNat < List.length xo10)
    (h5 : SC cfg.P i_impl_piece_end [.s (.v (.pr (.int .i64) (.pr (.int .i64) (.pr (.int .i64) (.int .i64)))) (List.getD xo10 (x12).toNat ((0 : Int), ((0 : Int), ((0 : Int), (0 : Int))))))] (.s (.v (.int .i64) dc1)) [])
    (h6 : SC cfg.P i_impl_short [.s (.v (.int .i64) dc1)] (.s (.v (.int .i64) dc2)) [])
    (h7 : SC cfg.P i_impl_ratio [.s (.v (.int .i64) dc2), .s (.v (.int .i64) (256 : Int))] (.s (.v (.pr (.int .i64) (.int .i64)) dc3)) [])
    (h8 : SC cfg.P i_impl_Ratio_less [.s (.v (.pr (.int .i64) (.int .i64)) xo3), .s (.v (.pr (.int .i64) (.int .i64)) dc3)] (.s (.v .bool false)) [])
    {e : AEx} {st : St} (next : LoopSC cfg.P 2 (lb P_impl_pair_goesUp 0) (impl_pair_goesUp_L0a x11 (IntKind.wrap .i64 (x12 + (1 : Int))) xo3 xo10) e st) :
    LoopSC cfg.P 2 (lb P_impl_pair_goesUp 0) (impl_pair_goesUp_L0a x11 x12 xo3 xo10) e st :=
  loop_iter cfgOK (f := i_impl_pair_goesUp) (its := [.bool true, .res (.s (.v (.int .i64) dc1)) [] [] [], .res (.s (.v (.int .i64) dc2)) [] [] [], .res (.s (.v (.pr (.int .i64) (.int .i64)) dc3)) [] [] [], .res (.s (.v .bool false)) [] [] []])
    (ps := [decide (x12 < x11) = true,
      0 ≤ x12,
      x12 < (List.length xo10 : Int),
      (x12).toNat < List.length xo10,
      SC cfg.P i_impl_piece_end [.s (.v (.pr (.int .i64) (.pr (.int .i64) (.pr (.int .i64) (.int .i64)))) (List.getD xo10 (x12).toNat ((0 : Int), ((0 : Int), ((0 : Int), (0 : Int))))))] (.s (.v (.int .i64) dc1)) [],
      SC cfg.P i_impl_short [.s (.v (.int .i64) dc1)] (.s (.v (.int .i64) dc2)) [],
      SC cfg.P i_impl_ratio [.s (.v (.int .i64) dc2), .s (.v (.int .i64) (256 : Int))] (.s (.v (.pr (.int .i64) (.int .i64)) dc3)) [],
      SC cfg.P i_impl_Ratio_less [.s (.v (.pr (.int .i64) (.int .i64)) xo3), .s (.v (.pr (.int .i64) (.int .i64)) dc3)] (.s (.v .bool false)) []]) (st1 := impl_pair_goesUp_L0a x11 (IntKind.wrap .i64 (x12 + (1 : Int))) xo3 xo10) (by kernel_rfl) ⟨(decide_eq_true h1), h2, h3, h4, h5, h6, h7, h8, trivial⟩ next

theorem impl_pair_goesUp_L0a_x6 (x11 : Int) (x12 : Int) (xo3 : (Int × Int)) (xo10 : (List (Int × (Int × (Int × Int)))))
    (h1 : ¬ (x12 < x11)) :
    LoopSC cfg.P 2 (lb P_impl_pair_goesUp 0) (impl_pair_goesUp_L0a x11 x12 xo3 xo10) (.exit 0) (impl_pair_goesUp_L0X2 x11 x12 false xo3 xo10) :=
  loop_out cfgOK (f := i_impl_pair_goesUp) (its := [.bool false])
    (ps := [decide (x12 < x11) = false]) (by kernel_rfl) ⟨(decide_eq_false h1), trivial⟩ (fun h => by cases h)

theorem impl_pair_goesUp_p1 (a0 : (Tr × Tr)) (a1 : (Int × Int)) (c1 : (List (Int × (Int × (Int × Int))))) (k1y4 : Bool)
    (h1 : SC cfg.P i_impl_pair_pieces [.s (.v (.pr .tree .tree) a0)] (.s (.own t_impl_piece (.pr (.int .i64) (.pr (.int .i64) (.pr (.int .i64) (.int .i64)))) c1)) [])
    (h2 : LoopSC cfg.P 2 (lb P_impl_pair_goesUp 0) (impl_pair_goesUp_L0a ((List.length c1 : Nat) : Int) (0 : Int) a1 c1) (.ret) (impl_pair_goesUp_L0X1 k1y4)) :
    SC cfg.P i_impl_pair_goesUp [.s (.v (.pr .tree .tree) a0), .s (.v (.pr (.int .i64) (.int .i64)) a1)] (.s (.v .bool k1y4)) [] :=
  SC_of_run cfgOK (its := [.res (.s (.own t_impl_piece (.pr (.int .i64) (.pr (.int .i64) (.pr (.int .i64) (.int .i64)))) c1)) [] [] [10], .loop (fun _ => (.ret, impl_pair_goesUp_L0X1 k1y4))])
    (ps := [SC cfg.P i_impl_pair_pieces [.s (.v (.pr .tree .tree) a0)] (.s (.own t_impl_piece (.pr (.int .i64) (.pr (.int .i64) (.pr (.int .i64) (.int .i64)))) c1)) [],
      LoopSC cfg.P 2 (lb P_impl_pair_goesUp 0) (impl_pair_goesUp_L0a ((List.length c1 : Nat) : Int) (0 : Int) a1 c1) (.ret) (impl_pair_goesUp_L0X1 k1y4)]) (by kernel_rfl) ⟨h1, h2, trivial⟩ get_impl_pair_goesUp (by decide)

theorem impl_pair_goesUp_p2 (a0 : (Tr × Tr)) (a1 : (Int × Int)) (c1 : (List (Int × (Int × (Int × Int))))) (k1y11 : Int) (k1y12 : Int) (k1y13 : Bool) (k1yo3 : (Int × Int)) (k1yo10 : (List (Int × (Int × (Int × Int)))))
    (h1 : SC cfg.P i_impl_pair_pieces [.s (.v (.pr .tree .tree) a0)] (.s (.own t_impl_piece (.pr (.int .i64) (.pr (.int .i64) (.pr (.int .i64) (.int .i64)))) c1)) [])
    (h2 : LoopSC cfg.P 2 (lb P_impl_pair_goesUp 0) (impl_pair_goesUp_L0a ((List.length c1 : Nat) : Int) (0 : Int) a1 c1) (.exit 0) (impl_pair_goesUp_L0X2 k1y11 k1y12 k1y13 k1yo3 k1yo10)) :
    SC cfg.P i_impl_pair_goesUp [.s (.v (.pr .tree .tree) a0), .s (.v (.pr (.int .i64) (.int .i64)) a1)] (.s (.v .bool false)) [] :=
  SC_of_run cfgOK (its := [.res (.s (.own t_impl_piece (.pr (.int .i64) (.pr (.int .i64) (.pr (.int .i64) (.int .i64)))) c1)) [] [] [10], .loop (fun _ => (.exit 0, impl_pair_goesUp_L0X2 k1y11 k1y12 k1y13 k1yo3 k1yo10))])
    (ps := [SC cfg.P i_impl_pair_pieces [.s (.v (.pr .tree .tree) a0)] (.s (.own t_impl_piece (.pr (.int .i64) (.pr (.int .i64) (.pr (.int .i64) (.int .i64)))) c1)) [],
      LoopSC cfg.P 2 (lb P_impl_pair_goesUp 0) (impl_pair_goesUp_L0a ((List.length c1 : Nat) : Int) (0 : Int) a1 c1) (.exit 0) (impl_pair_goesUp_L0X2 k1y11 k1y12 k1y13 k1yo3 k1yo10)]) (by kernel_rfl) ⟨h1, h2, trivial⟩ get_impl_pair_goesUp (by decide)

end Go.AI
