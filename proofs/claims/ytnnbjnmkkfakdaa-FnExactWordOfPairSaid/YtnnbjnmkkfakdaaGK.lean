/- A part of the road: what it proves stands in its last texts. -/
import Derived.Test.YtnnbjnmkkfakdaaSIds
import Derived.Test.YtnnbjnmkkfakdaaProg
set_option autoImplicit false
set_option maxRecDepth 100000
set_option linter.unusedVariables false
namespace Go.AI
open Go.Proofs

/-! ### laws_FnExactWordOfPair -/


theorem laws_FnExactWordOfPair_p1 (a0 : (ByteArray × ByteArray)) (c1 : Int)
    (h1 : SC cfg.P i_laws_szPair [.s (.v (.pr .str .str) a0), .s (.v (.int .i64) (1048576 : Int))] (.s (.v (.int .i64) c1)) [])
    (h2 : c1 < (0 : Int)) :
    SC cfg.P i_laws_FnExactWordOfPair [.s (.v (.pr .str .str) a0)] (.s (.v .bool true)) [] :=
  SC_of_run cfgOK (its := [.res (.s (.v (.int .i64) c1)) [] [] [], .bool true])
    (ps := [SC cfg.P i_laws_szPair [.s (.v (.pr .str .str) a0), .s (.v (.int .i64) (1048576 : Int))] (.s (.v (.int .i64) c1)) [],
      decide (c1 < (0 : Int)) = true]) (by kernel_rfl) ⟨h1, (decide_eq_true h2), trivial⟩ get_laws_FnExactWordOfPair (by decide)

theorem laws_FnExactWordOfPair_p2 (a0 : (ByteArray × ByteArray)) (c1 : Int) (c2 : (ByteArray × ByteArray)) (c3a : (List Int)) (c3b : Bool) (c4 : (ByteArray × ByteArray)) (c5a : (List Int)) (c5b : Bool) (c7 : Int) (c7o0 : (List Int)) (c8 : Int) (c9 : (ByteArray × ByteArray)) (c10a : (List Int)) (c10b : Bool) (c12 : Int)
    (h1 : SC cfg.P i_laws_szPair [.s (.v (.pr .str .str) a0), .s (.v (.int .i64) (1048576 : Int))] (.s (.v (.int .i64) c1)) [])
    (h2 : ¬ (c1 < (0 : Int)))
    (h3 : SC cfg.P i_laws_toPair [.s (.v (.pr .str .str) a0)] (.s (.v (.pr .str .str) c2)) [])
    (h4 : SC cfg.P i_spec_WordOfPair [.s (.v (.pr .str .str) c2)] (.tup [.own t_int (.int .i64) c3a, .v .bool c3b]) [])
    (h5 : SC cfg.P i_laws_toPair [.s (.v (.pr .str .str) a0)] (.s (.v (.pr .str .str) c4)) [])
    (h6 : SC cfg.P i_impl_WordOfPair [.s (.v (.pr .str .str) c4)] (.tup [.own t_int (.int .i64) c5a, .v .bool c5b]) [])
    (h7 : SC cfg.P i_laws_eqIntS [.s (.v (.sl (.int .i64)) c5a), .s (.v (.sl (.int .i64)) c3a)] (.s (.v .bool true)) [])
    (h8 : (!(c5b == c3b)) = false)
    (h9 : SC cfg.P i_laws_markIntS [.s (.msl t_int (.int .i64) c5a), .s (.v (.int .i64) (1 : Int))] (.s (.v (.int .i64) c7)) [.row t_int (.int .i64) c7o0])
    (h10 : SC cfg.P i_laws_heldIntS [.s (.v (.sl (.int .i64)) c7o0), .s (.v (.int .i64) (1 : Int))] (.s (.v (.int .i64) c8)) [])
    (h11 : ¬ (c8 < (0 : Int)))
    (h12 : c8 = c7)
    (h13 : SC cfg.P i_laws_toPair [.s (.v (.pr .str .str) a0)] (.s (.v (.pr .str .str) c9)) [])
    (h14 : SC cfg.P i_impl_WordOfPair [.s (.v (.pr .str .str) c9)] (.tup [.own t_int (.int .i64) c10a, .v .bool c10b]) [])
    (h15 : SC cfg.P i_laws_eqIntS [.s (.v (.sl (.int .i64)) c10a), .s (.v (.sl (.int .i64)) c3a)] (.s (.v .bool true)) [])
    (h16 : (!(c10b == c3b)) = false)
    (h17 : SC cfg.P i_laws_heldIntS [.s (.v (.sl (.int .i64)) c7o0), .s (.v (.int .i64) (1 : Int))] (.s (.v (.int .i64) c12)) [])
    (h18 : ¬ (c12 < (0 : Int)))
    (h19 : c12 = c7) :
    SC cfg.P i_laws_FnExactWordOfPair [.s (.v (.pr .str .str) a0)] (.s (.v .bool true)) [] :=
  SC_of_run cfgOK (its := [.res (.s (.v (.int .i64) c1)) [] [] [], .bool false, .res (.s (.v (.pr .str .str) c2)) [] [] [], .res (.tup [.own t_int (.int .i64) c3a, .v .bool c3b]) [] [] [20], .res (.s (.v (.pr .str .str) c4)) [] [] [], .res (.tup [.own t_int (.int .i64) c5a, .v .bool c5b]) [] [] [26], .res (.s (.v .bool true)) [] [] [], .bool false, .res (.s (.v (.int .i64) c7)) [.row t_int (.int .i64) c7o0] [0] [], .res (.s (.v (.int .i64) c8)) [] [] [], .bool false, .bool false, .res (.s (.v (.pr .str .str) c9)) [] [] [], .res (.tup [.own t_int (.int .i64) c10a, .v .bool c10b]) [] [] [52], .res (.s (.v .bool true)) [] [] [], .bool false, .res (.s (.v (.int .i64) c12)) [] [] [], .bool false, .bool false])
    (ps := [SC cfg.P i_laws_szPair [.s (.v (.pr .str .str) a0), .s (.v (.int .i64) (1048576 : Int))] (.s (.v (.int .i64) c1)) [],
      decide (c1 < (0 : Int)) = false,
      SC cfg.P i_laws_toPair [.s (.v (.pr .str .str) a0)] (.s (.v (.pr .str .str) c2)) [],
      SC cfg.P i_spec_WordOfPair [.s (.v (.pr .str .str) c2)] (.tup [.own t_int (.int .i64) c3a, .v .bool c3b]) [],
      SC cfg.P i_laws_toPair [.s (.v (.pr .str .str) a0)] (.s (.v (.pr .str .str) c4)) [],
      SC cfg.P i_impl_WordOfPair [.s (.v (.pr .str .str) c4)] (.tup [.own t_int (.int .i64) c5a, .v .bool c5b]) [],
      SC cfg.P i_laws_eqIntS [.s (.v (.sl (.int .i64)) c5a), .s (.v (.sl (.int .i64)) c3a)] (.s (.v .bool true)) [],
      (!(c5b == c3b)) = false,
      SC cfg.P i_laws_markIntS [.s (.msl t_int (.int .i64) c5a), .s (.v (.int .i64) (1 : Int))] (.s (.v (.int .i64) c7)) [.row t_int (.int .i64) c7o0],
      SC cfg.P i_laws_heldIntS [.s (.v (.sl (.int .i64)) c7o0), .s (.v (.int .i64) (1 : Int))] (.s (.v (.int .i64) c8)) [],
      decide (c8 < (0 : Int)) = false,
      (c8 != c7) = false,
      SC cfg.P i_laws_toPair [.s (.v (.pr .str .str) a0)] (.s (.v (.pr .str .str) c9)) [],
      SC cfg.P i_impl_WordOfPair [.s (.v (.pr .str .str) c9)] (.tup [.own t_int (.int .i64) c10a, .v .bool c10b]) [],
      SC cfg.P i_laws_eqIntS [.s (.v (.sl (.int .i64)) c10a), .s (.v (.sl (.int .i64)) c3a)] (.s (.v .bool true)) [],
      (!(c10b == c3b)) = false,
      SC cfg.P i_laws_heldIntS [.s (.v (.sl (.int .i64)) c7o0), .s (.v (.int .i64) (1 : Int))] (.s (.v (.int .i64) c12)) [],
      decide (c12 < (0 : Int)) = false,
      (c12 != c7) = false]) (by kernel_rfl) ⟨h1, (decide_eq_false h2), h3, h4, h5, h6, h7, h8, h9, h10, (decide_eq_false h11), (bne_f h12), h13, h14, h15, h16, h17, (decide_eq_false h18), (bne_f h19), trivial⟩ get_laws_FnExactWordOfPair (by decide)

/-! ### spec_WordOfPair -/


theorem spec_WordOfPair_p1 (a0 : (ByteArray × ByteArray)) (c2 : (ByteArray × ByteArray)) (c3 : (List Int))
    (h1 : SC cfg.P i_spec_prGood [.s (.v (.pr .str .str) a0)] (.s (.v .bool true)) [])
    (h2 : SC cfg.P i_spec_prReduce [.s (.v (.pr .str .str) a0), .s (.v (.sl (.int .i64)) ([] : List Int))] (.s (.v (.pr .str .str) c2)) [])
    (h3 : SC cfg.P i_spec_wdOf [.s (.v (.pr .str .str) c2)] (.s (.own t_int (.int .i64) c3)) []) :
    SC cfg.P i_spec_WordOfPair [.s (.v (.pr .str .str) a0)] (.tup [.own t_int (.int .i64) c3, .v .bool true]) [] :=
  SC_of_run cfgOK (its := [.res (.s (.v .bool true)) [] [] [], .res (.s (.v (.pr .str .str) c2)) [] [] [], .res (.s (.own t_int (.int .i64) c3)) [] [] [9]])
    (ps := [SC cfg.P i_spec_prGood [.s (.v (.pr .str .str) a0)] (.s (.v .bool true)) [],
      SC cfg.P i_spec_prReduce [.s (.v (.pr .str .str) a0), .s (.v (.sl (.int .i64)) ([] : List Int))] (.s (.v (.pr .str .str) c2)) [],
      SC cfg.P i_spec_wdOf [.s (.v (.pr .str .str) c2)] (.s (.own t_int (.int .i64) c3)) []]) (by kernel_rfl) ⟨h1, h2, h3, trivial⟩ get_spec_WordOfPair (by decide)

theorem spec_WordOfPair_p2 (a0 : (ByteArray × ByteArray))
    (h1 : SC cfg.P i_spec_prGood [.s (.v (.pr .str .str) a0)] (.s (.v .bool false)) []) :
    SC cfg.P i_spec_WordOfPair [.s (.v (.pr .str .str) a0)] (.tup [.own t_int (.int .i64) ([] : List Int), .v .bool false]) [] :=
  SC_of_run cfgOK (its := [.res (.s (.v .bool false)) [] [] []])
    (ps := [SC cfg.P i_spec_prGood [.s (.v (.pr .str .str) a0)] (.s (.v .bool false)) []]) (by kernel_rfl) ⟨h1, trivial⟩ get_spec_WordOfPair (by decide)

/-! ### impl_WordOfPair -/


theorem impl_WordOfPair_p1 (a0 : (ByteArray × ByteArray)) (c1a : (Tr × Tr)) (c2 : (Tr × Tr)) (c3 : (List Int)) (c4b : Bool)
    (h1 : SC cfg.P i_impl_pairOf [.s (.v (.pr .str .str) a0)] (.tup [.v (.pr .tree .tree) c1a, .v .bool true]) [])
    (h2 : SC cfg.P i_impl_pair_reduced [.s (.v (.pr .tree .tree) c1a)] (.s (.v (.pr .tree .tree) c2)) [])
    (h3 : SC cfg.P i_impl_wordOfPair [.s (.v (.pr .tree .tree) c2)] (.s (.own t_int (.int .i64) c3)) [])
    (h4 : SCS cfg.P i_impl_madeWord [.s (.v (.sl (.int .i64)) c3)] (.v .bool c4b)) :
    SC cfg.P i_impl_WordOfPair [.s (.v (.pr .str .str) a0)] (.tup [.own t_int (.int .i64) c3, .v .bool c4b]) [] :=
  SC_of_run cfgOK (its := [.res (.tup [.v (.pr .tree .tree) c1a, .v .bool true]) [] [] [], .res (.s (.v (.pr .tree .tree) c2)) [] [] [], .res (.s (.own t_int (.int .i64) c3)) [] [] [15], .same (.v .bool c4b)])
    (ps := [SC cfg.P i_impl_pairOf [.s (.v (.pr .str .str) a0)] (.tup [.v (.pr .tree .tree) c1a, .v .bool true]) [],
      SC cfg.P i_impl_pair_reduced [.s (.v (.pr .tree .tree) c1a)] (.s (.v (.pr .tree .tree) c2)) [],
      SC cfg.P i_impl_wordOfPair [.s (.v (.pr .tree .tree) c2)] (.s (.own t_int (.int .i64) c3)) [],
      SCS cfg.P i_impl_madeWord [.s (.v (.sl (.int .i64)) c3)] (.v .bool c4b)]) (by kernel_rfl) ⟨h1, h2, h3, h4, trivial⟩ get_impl_WordOfPair (by decide)

theorem impl_WordOfPair_p2 (a0 : (ByteArray × ByteArray)) (c1a : (Tr × Tr)) (c2 : (Tr × Tr)) (c3 : (List Int)) (c4a : (List Int)) (c4b : Bool)
    (h1 : SC cfg.P i_impl_pairOf [.s (.v (.pr .str .str) a0)] (.tup [.v (.pr .tree .tree) c1a, .v .bool true]) [])
    (h2 : SC cfg.P i_impl_pair_reduced [.s (.v (.pr .tree .tree) c1a)] (.s (.v (.pr .tree .tree) c2)) [])
    (h3 : SC cfg.P i_impl_wordOfPair [.s (.v (.pr .tree .tree) c2)] (.s (.own t_int (.int .i64) c3)) [])
    (h4 : SC cfg.P i_impl_madeWord [.s (.v (.sl (.int .i64)) c3)] (.tup [.own t_int (.int .i64) c4a, .v .bool c4b]) []) :
    SC cfg.P i_impl_WordOfPair [.s (.v (.pr .str .str) a0)] (.tup [.own t_int (.int .i64) c4a, .v .bool c4b]) [] :=
  SC_of_run cfgOK (its := [.res (.tup [.v (.pr .tree .tree) c1a, .v .bool true]) [] [] [], .res (.s (.v (.pr .tree .tree) c2)) [] [] [], .res (.s (.own t_int (.int .i64) c3)) [] [] [15], .res (.tup [.own t_int (.int .i64) c4a, .v .bool c4b]) [] [] [17]])
    (ps := [SC cfg.P i_impl_pairOf [.s (.v (.pr .str .str) a0)] (.tup [.v (.pr .tree .tree) c1a, .v .bool true]) [],
      SC cfg.P i_impl_pair_reduced [.s (.v (.pr .tree .tree) c1a)] (.s (.v (.pr .tree .tree) c2)) [],
      SC cfg.P i_impl_wordOfPair [.s (.v (.pr .tree .tree) c2)] (.s (.own t_int (.int .i64) c3)) [],
      SC cfg.P i_impl_madeWord [.s (.v (.sl (.int .i64)) c3)] (.tup [.own t_int (.int .i64) c4a, .v .bool c4b]) []]) (by kernel_rfl) ⟨h1, h2, h3, h4, trivial⟩ get_impl_WordOfPair (by decide)

theorem impl_WordOfPair_p3 (a0 : (ByteArray × ByteArray)) (c1a : (Tr × Tr))
    (h1 : SC cfg.P i_impl_pairOf [.s (.v (.pr .str .str) a0)] (.tup [.v (.pr .tree .tree) c1a, .v .bool false]) []) :
    SC cfg.P i_impl_WordOfPair [.s (.v (.pr .str .str) a0)] (.tup [.own t_int (.int .i64) ([] : List Int), .v .bool false]) [] :=
  SC_of_run cfgOK (its := [.res (.tup [.v (.pr .tree .tree) c1a, .v .bool false]) [] [] []])
    (ps := [SC cfg.P i_impl_pairOf [.s (.v (.pr .str .str) a0)] (.tup [.v (.pr .tree .tree) c1a, .v .bool false]) []]) (by kernel_rfl) ⟨h1, trivial⟩ get_impl_WordOfPair (by decide)

/-! ### laws_markIntS -/


def laws_markIntS_L0a (x1 : Int) (x5 : Int) (xo0 : (List Int)) : St := mkSt 19 [(0, .s (.osl 0 0)), (1, .s (.v (.int .i64) x1)), (5, .s (.v (.int .i64) x5))] [(0, .row t_int (.int .i64) xo0 0 false)]

def laws_markIntS_L0X1 (y1 : Int) (y5 : Int) (y9 : Bool) (yo0 : (List Int)) : St := mkSt 19 [(0, .s (.osl 0 0)), (1, .s (.v (.int .i64) y1)), (5, .s (.v (.int .i64) y5)), (9, .s (.v .bool y9))] [(0, .row t_int (.int .i64) yo0 0 false)]

theorem laws_markIntS_L0a_i1 (x1 : Int) (x5 : Int) (xo0 : (List Int))
    (h1 : x5 < ((List.length xo0 : Nat) : Int))
    (h2 : 0 ≤ x5)
    (h3 : x5 < (List.length xo0 : Int))
    (h4 : (x5).toNat < List.length xo0)
    {e : AEx} {st : St} (next : LoopSC cfg.P 2 (lb P_laws_markIntS 0) (laws_markIntS_L0a (IntKind.wrap .i64 (x1 + (1 : Int))) (IntKind.wrap .i64 (x5 + (1 : Int))) (List.set xo0 (x5).toNat x1)) e st) :
    LoopSC cfg.P 2 (lb P_laws_markIntS 0) (laws_markIntS_L0a x1 x5 xo0) e st :=
  loop_iter cfgOK (f := i_laws_markIntS) (its := [.bool true])
    (ps := [decide (x5 < ((List.length xo0 : Nat) : Int)) = true,
      0 ≤ x5,
      x5 < (List.length xo0 : Int),
      (x5).toNat < List.length xo0]) (st1 := laws_markIntS_L0a (IntKind.wrap .i64 (x1 + (1 : Int))) (IntKind.wrap .i64 (x5 + (1 : Int))) (List.set xo0 (x5).toNat x1)) (by kernel_rfl) ⟨(decide_eq_true h1), h2, h3, h4, trivial⟩ next

theorem laws_markIntS_L0a_x2 (x1 : Int) (x5 : Int) (xo0 : (List Int))
    (h1 : ¬ (x5 < ((List.length xo0 : Nat) : Int))) :
    LoopSC cfg.P 2 (lb P_laws_markIntS 0) (laws_markIntS_L0a x1 x5 xo0) (.exit 0) (laws_markIntS_L0X1 x1 x5 false xo0) :=
  loop_out cfgOK (f := i_laws_markIntS) (its := [.bool false])
    (ps := [decide (x5 < ((List.length xo0 : Nat) : Int)) = false]) (by kernel_rfl) ⟨(decide_eq_false h1), trivial⟩ (fun h => by cases h)

theorem laws_markIntS_p1 (a0 : (List Int)) (a1 : Int) (k1y1 : Int) (k1y5 : Int) (k1y9 : Bool) (k1yo0 : (List Int))
    (h1 : LoopSC cfg.P 2 (lb P_laws_markIntS 0) (laws_markIntS_L0a a1 (0 : Int) a0) (.exit 0) (laws_markIntS_L0X1 k1y1 k1y5 k1y9 k1yo0)) :
    SC cfg.P i_laws_markIntS [.s (.msl t_int (.int .i64) a0), .s (.v (.int .i64) a1)] (.s (.v (.int .i64) k1y1)) [.row t_int (.int .i64) k1yo0] :=
  SC_of_run cfgOK (its := [.loop (fun _ => (.exit 0, laws_markIntS_L0X1 k1y1 k1y5 k1y9 k1yo0))])
    (ps := [LoopSC cfg.P 2 (lb P_laws_markIntS 0) (laws_markIntS_L0a a1 (0 : Int) a0) (.exit 0) (laws_markIntS_L0X1 k1y1 k1y5 k1y9 k1yo0)]) (by kernel_rfl) ⟨h1, trivial⟩ get_laws_markIntS (by decide)

/-! ### laws_heldIntS -/


def laws_heldIntS_L0a (x0 : (List Int)) (x1 : Int) (x5 : Int) : St := mkSt 21 [(0, .s (.v (.sl (.int .i64)) x0)), (1, .s (.v (.int .i64) x1)), (5, .s (.v (.int .i64) x5))] []

def laws_heldIntS_L0X1 (y4 : Int) : St := mkSt 21 [(4, .s (.v (.int .i64) y4))] []

def laws_heldIntS_L0X2 (y0 : (List Int)) (y1 : Int) (y5 : Int) (y9 : Bool) : St := mkSt 21 [(0, .s (.v (.sl (.int .i64)) y0)), (1, .s (.v (.int .i64) y1)), (5, .s (.v (.int .i64) y5)), (9, .s (.v .bool y9))] []

theorem laws_heldIntS_L0a_x1 (x0 : (List Int)) (x1 : Int) (x5 : Int)
    (h1 : x5 < ((List.length x0 : Nat) : Int))
    (h2 : 0 ≤ x5)
    (h3 : x5 < (List.length x0 : Int))
    (h4 : (List.getD x0 (x5).toNat (0 : Int)) ≠ x1) :
    LoopSC cfg.P 2 (lb P_laws_heldIntS 0) (laws_heldIntS_L0a x0 x1 x5) (.ret) (laws_heldIntS_L0X1 (-1 : Int)) :=
  loop_out cfgOK (f := i_laws_heldIntS) (its := [.bool true, .bool true])
    (ps := [decide (x5 < ((List.length x0 : Nat) : Int)) = true,
      0 ≤ x5,
      x5 < (List.length x0 : Int),
      ((List.getD x0 (x5).toNat (0 : Int)) != x1) = true]) (by kernel_rfl) ⟨(decide_eq_true h1), h2, h3, (bne_t h4), trivial⟩ (fun h => by cases h)

theorem laws_heldIntS_L0a_i2 (x0 : (List Int)) (x1 : Int) (x5 : Int)
    (h1 : x5 < ((List.length x0 : Nat) : Int))
    (h2 : 0 ≤ x5)
    (h3 : x5 < (List.length x0 : Int))
    (h4 : (List.getD x0 (x5).toNat (0 : Int)) = x1)
    {e : AEx} {st : St} (next : LoopSC cfg.P 2 (lb P_laws_heldIntS 0) (laws_heldIntS_L0a x0 (IntKind.wrap .i64 (x1 + (1 : Int))) (IntKind.wrap .i64 (x5 + (1 : Int)))) e st) :
    LoopSC cfg.P 2 (lb P_laws_heldIntS 0) (laws_heldIntS_L0a x0 x1 x5) e st :=
  loop_iter cfgOK (f := i_laws_heldIntS) (its := [.bool true, .bool false])
    (ps := [decide (x5 < ((List.length x0 : Nat) : Int)) = true,
      0 ≤ x5,
      x5 < (List.length x0 : Int),
      ((List.getD x0 (x5).toNat (0 : Int)) != x1) = false]) (st1 := laws_heldIntS_L0a x0 (IntKind.wrap .i64 (x1 + (1 : Int))) (IntKind.wrap .i64 (x5 + (1 : Int)))) (by kernel_rfl) ⟨(decide_eq_true h1), h2, h3, (bne_f h4), trivial⟩ next

theorem laws_heldIntS_L0a_x3 (x0 : (List Int)) (x1 : Int) (x5 : Int)
    (h1 : ¬ (x5 < ((List.length x0 : Nat) : Int))) :
    LoopSC cfg.P 2 (lb P_laws_heldIntS 0) (laws_heldIntS_L0a x0 x1 x5) (.exit 0) (laws_heldIntS_L0X2 x0 x1 x5 false) :=
  loop_out cfgOK (f := i_laws_heldIntS) (its := [.bool false])
    (ps := [decide (x5 < ((List.length x0 : Nat) : Int)) = false]) (by kernel_rfl) ⟨(decide_eq_false h1), trivial⟩ (fun h => by cases h)

theorem laws_heldIntS_p1 (a0 : (List Int)) (a1 : Int) (k1y4 : Int)
    (h1 : LoopSC cfg.P 2 (lb P_laws_heldIntS 0) (laws_heldIntS_L0a a0 a1 (0 : Int)) (.ret) (laws_heldIntS_L0X1 k1y4)) :
    SC cfg.P i_laws_heldIntS [.s (.v (.sl (.int .i64)) a0), .s (.v (.int .i64) a1)] (.s (.v (.int .i64) k1y4)) [] :=
  SC_of_run cfgOK (its := [.loop (fun _ => (.ret, laws_heldIntS_L0X1 k1y4))])
    (ps := [LoopSC cfg.P 2 (lb P_laws_heldIntS 0) (laws_heldIntS_L0a a0 a1 (0 : Int)) (.ret) (laws_heldIntS_L0X1 k1y4)]) (by kernel_rfl) ⟨h1, trivial⟩ get_laws_heldIntS (by decide)

theorem laws_heldIntS_p2 (a0 : (List Int)) (a1 : Int) (k1y0 : (List Int)) (k1y1 : Int) (k1y5 : Int) (k1y9 : Bool)
    (h1 : LoopSC cfg.P 2 (lb P_laws_heldIntS 0) (laws_heldIntS_L0a a0 a1 (0 : Int)) (.exit 0) (laws_heldIntS_L0X2 k1y0 k1y1 k1y5 k1y9)) :
    SC cfg.P i_laws_heldIntS [.s (.v (.sl (.int .i64)) a0), .s (.v (.int .i64) a1)] (.s (.v (.int .i64) k1y1)) [] :=
  SC_of_run cfgOK (its := [.loop (fun _ => (.exit 0, laws_heldIntS_L0X2 k1y0 k1y1 k1y5 k1y9))])
    (ps := [LoopSC cfg.P 2 (lb P_laws_heldIntS 0) (laws_heldIntS_L0a a0 a1 (0 : Int)) (.exit 0) (laws_heldIntS_L0X2 k1y0 k1y1 k1y5 k1y9)]) (by kernel_rfl) ⟨h1, trivial⟩ get_laws_heldIntS (by decide)

/-! ### spec_wdOf -/


def spec_wdOf_L0a (x12 : Int) (x13 : Int) (xo1 : (ByteArray × ByteArray)) (xo3 : (List Int)) (xo4 : (List Int)) (xo11 : (List Int)) : St := mkSt 51 [(1, .s (.adr 1 none)), (3, .s (.osl 3 0)), (4, .s (.osl 4 0)), (11, .s (.osl 11 0)), (12, .s (.v (.int .i64) x12)), (13, .s (.v (.int .i64) x13))] [(1, .box (.pr .str .str) xo1 false), (3, .row t_int (.int .i64) xo3 0 false), (4, .row t_int (.int .i64) xo4 0 false), (11, .row t_int (.int .i64) xo11 0 false)]

def spec_wdOf_L1a (x5 : Int) (x6 : Int) (x12 : Int) (x13 : Int) (xo1 : (ByteArray × ByteArray)) (xo3 : (List Int)) (xo4 : (List Int)) (xo11 : (List Int)) : St := mkSt 51 [(1, .s (.adr 1 none)), (3, .s (.osl 3 0)), (4, .s (.osl 4 0)), (5, .s (.v (.int .i64) x5)), (6, .s (.v (.int .i64) x6)), (11, .s (.osl 11 0)), (12, .s (.v (.int .i64) x12)), (13, .s (.v (.int .i64) x13))] [(1, .box (.pr .str .str) xo1 false), (3, .row t_int (.int .i64) xo3 0 false), (4, .row t_int (.int .i64) xo4 0 false), (11, .row t_int (.int .i64) xo11 0 false)]

def spec_wdOf_L1X1 (y5 : Int) (y6 : Int) (y12 : Int) (y13 : Int) (y19 : Bool) (yo1 : (ByteArray × ByteArray)) (yo3 : (List Int)) (yo4 : (List Int)) (yo11 : (List Int)) : St := mkSt 51 [(1, .s (.adr 1 none)), (3, .s (.osl 3 0)), (4, .s (.osl 4 0)), (5, .s (.v (.int .i64) y5)), (6, .s (.v (.int .i64) y6)), (11, .s (.osl 11 0)), (12, .s (.v (.int .i64) y12)), (13, .s (.v (.int .i64) y13)), (19, .s (.v .bool y19))] [(1, .box (.pr .str .str) yo1 false), (3, .row t_int (.int .i64) yo3 0 false), (4, .row t_int (.int .i64) yo4 0 false), (11, .row t_int (.int .i64) yo11 0 false)]

def spec_wdOf_L0X1 (y12 : Int) (y13 : Int) (y14 : Bool) (yo1 : (ByteArray × ByteArray)) (yo3 : (List Int)) (yo4 : (List Int)) (yo11 : (List Int)) : St := mkSt 51 [(1, .s (.adr 1 none)), (3, .s (.osl 3 0)), (4, .s (.osl 4 0)), (11, .s (.osl 11 0)), (12, .s (.v (.int .i64) y12)), (13, .s (.v (.int .i64) y13)), (14, .s (.v .bool y14))] [(1, .box (.pr .str .str) yo1 false), (3, .row t_int (.int .i64) yo3 0 false), (4, .row t_int (.int .i64) yo4 0 false), (11, .row t_int (.int .i64) yo11 0 false)]

def spec_wdOf_L2a (x31 : Int) (x32 : Int) (xo3 : (List Int)) (xo4 : (List Int)) (xo30 : (List Int)) : St := mkSt 51 [(3, .s (.osl 3 0)), (4, .s (.osl 4 0)), (30, .s (.osl 30 0)), (31, .s (.v (.int .i64) x31)), (32, .s (.v (.int .i64) x32))] [(3, .row t_int (.int .i64) xo3 0 false), (4, .row t_int (.int .i64) xo4 0 false), (30, .row t_int (.int .i64) xo30 0 false)]

def spec_wdOf_L3a (x7 : Int) (x8 : Int) (x31 : Int) (x32 : Int) (xo3 : (List Int)) (xo4 : (List Int)) (xo30 : (List Int)) : St := mkSt 51 [(3, .s (.osl 3 0)), (4, .s (.osl 4 0)), (7, .s (.v (.int .i64) x7)), (8, .s (.v (.int .i64) x8)), (30, .s (.osl 30 0)), (31, .s (.v (.int .i64) x31)), (32, .s (.v (.int .i64) x32))] [(3, .row t_int (.int .i64) xo3 0 false), (4, .row t_int (.int .i64) xo4 0 false), (30, .row t_int (.int .i64) xo30 0 false)]

def spec_wdOf_L3X1 (y7 : Int) (y8 : Int) (y31 : Int) (y32 : Int) (y38 : Bool) (yo3 : (List Int)) (yo4 : (List Int)) (yo30 : (List Int)) : St := mkSt 51 [(3, .s (.osl 3 0)), (4, .s (.osl 4 0)), (7, .s (.v (.int .i64) y7)), (8, .s (.v (.int .i64) y8)), (30, .s (.osl 30 0)), (31, .s (.v (.int .i64) y31)), (32, .s (.v (.int .i64) y32)), (38, .s (.v .bool y38))] [(3, .row t_int (.int .i64) yo3 0 false), (4, .row t_int (.int .i64) yo4 0 false), (30, .row t_int (.int .i64) yo30 0 false)]

def spec_wdOf_L2X1 (y31 : Int) (y32 : Int) (y33 : Bool) (yo3 : (List Int)) (yo4 : (List Int)) (yo30 : (List Int)) : St := mkSt 51 [(3, .s (.osl 3 0)), (4, .s (.osl 4 0)), (30, .s (.osl 30 0)), (31, .s (.v (.int .i64) y31)), (32, .s (.v (.int .i64) y32)), (33, .s (.v .bool y33))] [(3, .row t_int (.int .i64) yo3 0 false), (4, .row t_int (.int .i64) yo4 0 false), (30, .row t_int (.int .i64) yo30 0 false)]

theorem spec_wdOf_L0a_i1 (x12 : Int) (x13 : Int) (xo1 : (ByteArray × ByteArray)) (xo3 : (List Int)) (xo4 : (List Int)) (xo11 : (List Int)) (dk1y5 : Int) (dk1y6 : Int) (dk1y12 : Int) (dk1y13 : Int) (dk1y19 : Bool) (dk1yo1 : (ByteArray × ByteArray)) (dk1yo3 : (List Int)) (dk1yo4 : (List Int)) (dk1yo11 : (List Int))
    (h1 : x13 < x12)
    (h2 : 0 ≤ x13)
    (h3 : x13 < (List.length xo11 : Int))
    (h4 : (x13).toNat < List.length xo11)
    (h5 : LoopSC cfg.P 1 (lb P_spec_wdOf 1) (spec_wdOf_L1a x13 (List.getD xo11 (x13).toNat (0 : Int)) x12 x13 xo1 xo3 xo4 xo11) (.exit 2) (spec_wdOf_L1X1 dk1y5 dk1y6 dk1y12 dk1y13 dk1y19 dk1yo1 dk1yo3 dk1yo4 dk1yo11))
    {e : AEx} {st : St} (next : LoopSC cfg.P 1 (lb P_spec_wdOf 0) (spec_wdOf_L0a dk1y12 (IntKind.wrap .i64 (dk1y13 + (1 : Int))) dk1yo1 dk1yo3 dk1yo4 dk1yo11) e st) :
    LoopSC cfg.P 1 (lb P_spec_wdOf 0) (spec_wdOf_L0a x12 x13 xo1 xo3 xo4 xo11) e st :=
  loop_iter cfgOK (f := i_spec_wdOf) (its := [.bool true, .loop (fun _ => (.exit 2, spec_wdOf_L1X1 dk1y5 dk1y6 dk1y12 dk1y13 dk1y19 dk1yo1 dk1yo3 dk1yo4 dk1yo11))])
    (ps := [decide (x13 < x12) = true,
      0 ≤ x13,
      x13 < (List.length xo11 : Int),
      (x13).toNat < List.length xo11,
      LoopSC cfg.P 1 (lb P_spec_wdOf 1) (spec_wdOf_L1a x13 (List.getD xo11 (x13).toNat (0 : Int)) x12 x13 xo1 xo3 xo4 xo11) (.exit 2) (spec_wdOf_L1X1 dk1y5 dk1y6 dk1y12 dk1y13 dk1y19 dk1yo1 dk1yo3 dk1yo4 dk1yo11)]) (st1 := spec_wdOf_L0a dk1y12 (IntKind.wrap .i64 (dk1y13 + (1 : Int))) dk1yo1 dk1yo3 dk1yo4 dk1yo11) (by kernel_rfl) ⟨(decide_eq_true h1), h2, h3, h4, h5, trivial⟩ next

theorem spec_wdOf_L0a_x2 (x12 : Int) (x13 : Int) (xo1 : (ByteArray × ByteArray)) (xo3 : (List Int)) (xo4 : (List Int)) (xo11 : (List Int))
    (h1 : ¬ (x13 < x12)) :
    LoopSC cfg.P 1 (lb P_spec_wdOf 0) (spec_wdOf_L0a x12 x13 xo1 xo3 xo4 xo11) (.exit 0) (spec_wdOf_L0X1 x12 x13 false xo1 xo3 xo4 xo11) :=
  loop_out cfgOK (f := i_spec_wdOf) (its := [.bool false])
    (ps := [decide (x13 < x12) = false]) (by kernel_rfl) ⟨(decide_eq_false h1), trivial⟩ (fun h => by cases h)

theorem spec_wdOf_L1a_i1 (x5 : Int) (x6 : Int) (x12 : Int) (x13 : Int) (xo1 : (ByteArray × ByteArray)) (xo3 : (List Int)) (xo4 : (List Int)) (xo11 : (List Int))
    (h1 : x6 > (0 : Int))
    (h2 : sizeOK (List.length xo3 + List.length ([(IntKind.wrap .i64 (x5 + (1 : Int)))] : List Int)))
    {e : AEx} {st : St} (next : LoopSC cfg.P 1 (lb P_spec_wdOf 1) (spec_wdOf_L1a x5 (IntKind.wrap .i64 (x6 - (1 : Int))) x12 x13 xo1 (xo3 ++ ([(IntKind.wrap .i64 (x5 + (1 : Int)))] : List Int)) xo4 xo11) e st) :
    LoopSC cfg.P 1 (lb P_spec_wdOf 1) (spec_wdOf_L1a x5 x6 x12 x13 xo1 xo3 xo4 xo11) e st :=
  loop_iter cfgOK (f := i_spec_wdOf) (its := [.bool true])
    (ps := [decide (x6 > (0 : Int)) = true,
      sizeOK (List.length xo3 + List.length ([(IntKind.wrap .i64 (x5 + (1 : Int)))] : List Int))]) (st1 := spec_wdOf_L1a x5 (IntKind.wrap .i64 (x6 - (1 : Int))) x12 x13 xo1 (xo3 ++ ([(IntKind.wrap .i64 (x5 + (1 : Int)))] : List Int)) xo4 xo11) (by kernel_rfl) ⟨(decide_eq_true h1), h2, trivial⟩ next

theorem spec_wdOf_L1a_x2 (x5 : Int) (x6 : Int) (x12 : Int) (x13 : Int) (xo1 : (ByteArray × ByteArray)) (xo3 : (List Int)) (xo4 : (List Int)) (xo11 : (List Int))
    (h1 : ¬ (x6 > (0 : Int))) :
    LoopSC cfg.P 1 (lb P_spec_wdOf 1) (spec_wdOf_L1a x5 x6 x12 x13 xo1 xo3 xo4 xo11) (.exit 2) (spec_wdOf_L1X1 x5 x6 x12 x13 false xo1 xo3 xo4 xo11) :=
  loop_out cfgOK (f := i_spec_wdOf) (its := [.bool false])
    (ps := [decide (x6 > (0 : Int)) = false]) (by kernel_rfl) ⟨(decide_eq_false h1), trivial⟩ (fun h => by cases h)

theorem spec_wdOf_L2a_i1 (x31 : Int) (x32 : Int) (xo3 : (List Int)) (xo4 : (List Int)) (xo30 : (List Int)) (dk1y7 : Int) (dk1y8 : Int) (dk1y31 : Int) (dk1y32 : Int) (dk1y38 : Bool) (dk1yo3 : (List Int)) (dk1yo4 : (List Int)) (dk1yo30 : (List Int))
    (h1 : x32 < x31)
    (h2 : 0 ≤ x32)
    (h3 : x32 < (List.length xo30 : Int))
    (h4 : (x32).toNat < List.length xo30)
    (h5 : LoopSC cfg.P 1 (lb P_spec_wdOf 3) (spec_wdOf_L3a x32 (List.getD xo30 (x32).toNat (0 : Int)) x31 x32 xo3 xo4 xo30) (.exit 6) (spec_wdOf_L3X1 dk1y7 dk1y8 dk1y31 dk1y32 dk1y38 dk1yo3 dk1yo4 dk1yo30))
    {e : AEx} {st : St} (next : LoopSC cfg.P 1 (lb P_spec_wdOf 2) (spec_wdOf_L2a dk1y31 (IntKind.wrap .i64 (dk1y32 + (1 : Int))) dk1yo3 dk1yo4 dk1yo30) e st) :
    LoopSC cfg.P 1 (lb P_spec_wdOf 2) (spec_wdOf_L2a x31 x32 xo3 xo4 xo30) e st :=
  loop_iter cfgOK (f := i_spec_wdOf) (its := [.bool true, .loop (fun _ => (.exit 6, spec_wdOf_L3X1 dk1y7 dk1y8 dk1y31 dk1y32 dk1y38 dk1yo3 dk1yo4 dk1yo30))])
    (ps := [decide (x32 < x31) = true,
      0 ≤ x32,
      x32 < (List.length xo30 : Int),
      (x32).toNat < List.length xo30,
      LoopSC cfg.P 1 (lb P_spec_wdOf 3) (spec_wdOf_L3a x32 (List.getD xo30 (x32).toNat (0 : Int)) x31 x32 xo3 xo4 xo30) (.exit 6) (spec_wdOf_L3X1 dk1y7 dk1y8 dk1y31 dk1y32 dk1y38 dk1yo3 dk1yo4 dk1yo30)]) (st1 := spec_wdOf_L2a dk1y31 (IntKind.wrap .i64 (dk1y32 + (1 : Int))) dk1yo3 dk1yo4 dk1yo30) (by kernel_rfl) ⟨(decide_eq_true h1), h2, h3, h4, h5, trivial⟩ next

theorem spec_wdOf_L2a_x2 (x31 : Int) (x32 : Int) (xo3 : (List Int)) (xo4 : (List Int)) (xo30 : (List Int))
    (h1 : ¬ (x32 < x31)) :
    LoopSC cfg.P 1 (lb P_spec_wdOf 2) (spec_wdOf_L2a x31 x32 xo3 xo4 xo30) (.exit 4) (spec_wdOf_L2X1 x31 x32 false xo3 xo4 xo30) :=
  loop_out cfgOK (f := i_spec_wdOf) (its := [.bool false])
    (ps := [decide (x32 < x31) = false]) (by kernel_rfl) ⟨(decide_eq_false h1), trivial⟩ (fun h => by cases h)

theorem spec_wdOf_L3a_i1 (x7 : Int) (x8 : Int) (x31 : Int) (x32 : Int) (xo3 : (List Int)) (xo4 : (List Int)) (xo30 : (List Int))
    (h1 : x8 > (0 : Int))
    (h2 : sizeOK (List.length xo4 + List.length ([(IntKind.wrap .i64 (x7 + (1 : Int)))] : List Int)))
    {e : AEx} {st : St} (next : LoopSC cfg.P 1 (lb P_spec_wdOf 3) (spec_wdOf_L3a x7 (IntKind.wrap .i64 (x8 - (1 : Int))) x31 x32 xo3 (xo4 ++ ([(IntKind.wrap .i64 (x7 + (1 : Int)))] : List Int)) xo30) e st) :
    LoopSC cfg.P 1 (lb P_spec_wdOf 3) (spec_wdOf_L3a x7 x8 x31 x32 xo3 xo4 xo30) e st :=
  loop_iter cfgOK (f := i_spec_wdOf) (its := [.bool true])
    (ps := [decide (x8 > (0 : Int)) = true,
      sizeOK (List.length xo4 + List.length ([(IntKind.wrap .i64 (x7 + (1 : Int)))] : List Int))]) (st1 := spec_wdOf_L3a x7 (IntKind.wrap .i64 (x8 - (1 : Int))) x31 x32 xo3 (xo4 ++ ([(IntKind.wrap .i64 (x7 + (1 : Int)))] : List Int)) xo30) (by kernel_rfl) ⟨(decide_eq_true h1), h2, trivial⟩ next

theorem spec_wdOf_L3a_x2 (x7 : Int) (x8 : Int) (x31 : Int) (x32 : Int) (xo3 : (List Int)) (xo4 : (List Int)) (xo30 : (List Int))
    (h1 : ¬ (x8 > (0 : Int))) :
    LoopSC cfg.P 1 (lb P_spec_wdOf 3) (spec_wdOf_L3a x7 x8 x31 x32 xo3 xo4 xo30) (.exit 6) (spec_wdOf_L3X1 x7 x8 x31 x32 false xo3 xo4 xo30) :=
  loop_out cfgOK (f := i_spec_wdOf) (its := [.bool false])
    (ps := [decide (x8 > (0 : Int)) = false]) (by kernel_rfl) ⟨(decide_eq_false h1), trivial⟩ (fun h => by cases h)

theorem spec_wdOf_p1 (a0 : (ByteArray × ByteArray)) (c1 : (List Int)) (k1y12 : Int) (k1y13 : Int) (k1y14 : Bool) (k1yo1 : (ByteArray × ByteArray)) (k1yo3 : (List Int)) (k1yo4 : (List Int)) (k1yo11 : (List Int)) (c2 : (List Int)) (k2y31 : Int) (k2y32 : Int) (k2y33 : Bool) (k2yo3 : (List Int)) (k2yo4 : (List Int)) (k2yo30 : (List Int)) (c3 : (List Int))
    (h1 : SC cfg.P i_spec_wdRight [.s (.v .str a0.1)] (.s (.own t_int (.int .i64) c1)) [])
    (h2 : LoopSC cfg.P 1 (lb P_spec_wdOf 0) (spec_wdOf_L0a ((List.length c1 : Nat) : Int) (0 : Int) a0 ([] : List Int) ([] : List Int) c1) (.exit 0) (spec_wdOf_L0X1 k1y12 k1y13 k1y14 k1yo1 k1yo3 k1yo4 k1yo11))
    (h3 : SC cfg.P i_spec_wdRight [.s (.v .str k1yo1.2)] (.s (.own t_int (.int .i64) c2)) [])
    (h4 : LoopSC cfg.P 1 (lb P_spec_wdOf 2) (spec_wdOf_L2a ((List.length c2 : Nat) : Int) (0 : Int) k1yo3 k1yo4 c2) (.exit 4) (spec_wdOf_L2X1 k2y31 k2y32 k2y33 k2yo3 k2yo4 k2yo30))
    (h5 : SC cfg.P i_spec_wdInverse [.s (.v (.sl (.int .i64)) k2yo4)] (.s (.own t_int (.int .i64) c3)) [])
    (h6 : sizeOK (List.length k2yo3 + List.length c3)) :
    SC cfg.P i_spec_wdOf [.s (.v (.pr .str .str) a0)] (.s (.own t_int (.int .i64) (k2yo3 ++ c3))) [] :=
  SC_of_run cfgOK (its := [.res (.s (.own t_int (.int .i64) c1)) [] [] [11], .loop (fun _ => (.exit 0, spec_wdOf_L0X1 k1y12 k1y13 k1y14 k1yo1 k1yo3 k1yo4 k1yo11)), .res (.s (.own t_int (.int .i64) c2)) [] [] [30], .loop (fun _ => (.exit 4, spec_wdOf_L2X1 k2y31 k2y32 k2y33 k2yo3 k2yo4 k2yo30)), .res (.s (.own t_int (.int .i64) c3)) [] [] [49]])
    (ps := [SC cfg.P i_spec_wdRight [.s (.v .str a0.1)] (.s (.own t_int (.int .i64) c1)) [],
      LoopSC cfg.P 1 (lb P_spec_wdOf 0) (spec_wdOf_L0a ((List.length c1 : Nat) : Int) (0 : Int) a0 ([] : List Int) ([] : List Int) c1) (.exit 0) (spec_wdOf_L0X1 k1y12 k1y13 k1y14 k1yo1 k1yo3 k1yo4 k1yo11),
      SC cfg.P i_spec_wdRight [.s (.v .str k1yo1.2)] (.s (.own t_int (.int .i64) c2)) [],
      LoopSC cfg.P 1 (lb P_spec_wdOf 2) (spec_wdOf_L2a ((List.length c2 : Nat) : Int) (0 : Int) k1yo3 k1yo4 c2) (.exit 4) (spec_wdOf_L2X1 k2y31 k2y32 k2y33 k2yo3 k2yo4 k2yo30),
      SC cfg.P i_spec_wdInverse [.s (.v (.sl (.int .i64)) k2yo4)] (.s (.own t_int (.int .i64) c3)) [],
      sizeOK (List.length k2yo3 + List.length c3)]) (by kernel_rfl) ⟨h1, h2, h3, h4, h5, h6, trivial⟩ get_spec_wdOf (by decide)

/-! ### impl_madeWord -/


theorem impl_madeWord_p1 (a0 : (List Int))
    (h1 : SC cfg.P i_impl_IsWord [.s (.v (.sl (.int .i64)) a0)] (.s (.v .bool true)) []) :
    SC cfg.P i_impl_madeWord [.s (.v (.sl (.int .i64)) a0)] (.tup [.v (.sl (.int .i64)) a0, .v .bool true]) [] :=
  SC_of_run cfgOK (its := [.res (.s (.v .bool true)) [] [] []])
    (ps := [SC cfg.P i_impl_IsWord [.s (.v (.sl (.int .i64)) a0)] (.s (.v .bool true)) []]) (by kernel_rfl) ⟨h1, trivial⟩ get_impl_madeWord (by decide)

theorem impl_madeWord_p2 (a0 : (List Int))
    (h1 : SC cfg.P i_impl_IsWord [.s (.v (.sl (.int .i64)) a0)] (.s (.v .bool false)) []) :
    SC cfg.P i_impl_madeWord [.s (.v (.sl (.int .i64)) a0)] (.tup [.own t_int (.int .i64) ([] : List Int), .v .bool false]) [] :=
  SC_of_run cfgOK (its := [.res (.s (.v .bool false)) [] [] []])
    (ps := [SC cfg.P i_impl_IsWord [.s (.v (.sl (.int .i64)) a0)] (.s (.v .bool false)) []]) (by kernel_rfl) ⟨h1, trivial⟩ get_impl_madeWord (by decide)

/-! ### impl_wordOfPair -/


theorem impl_wordOfPair_p1 (a0 : (Tr × Tr)) (c1 : (List Int)) (c2 : (List Int)) (c3 : (List Int)) (c4 : (List Int)) (c5 : (List Int))
    (h1 : SC cfg.P i_impl_node_exponents [.s (.v .tree a0.1)] (.s (.v (.sl (.int .i64)) c1)) [])
    (h2 : SC cfg.P i_impl_wordOf [.s (.v (.sl (.int .i64)) c1)] (.s (.own t_int (.int .i64) c2)) [])
    (h3 : SC cfg.P i_impl_node_exponents [.s (.v .tree a0.2)] (.s (.v (.sl (.int .i64)) c3)) [])
    (h4 : SC cfg.P i_impl_wordOf [.s (.v (.sl (.int .i64)) c3)] (.s (.own t_int (.int .i64) c4)) [])
    (h5 : SC cfg.P i_impl_inverseOf [.s (.v (.sl (.int .i64)) c4)] (.s (.v (.sl (.int .i64)) c5)) [])
    (h6 : sizeOK (List.length c2 + List.length c5)) :
    SC cfg.P i_impl_wordOfPair [.s (.v (.pr .tree .tree) a0)] (.s (.own t_int (.int .i64) (c2 ++ c5))) [] :=
  SC_of_run cfgOK (its := [.res (.s (.v (.sl (.int .i64)) c1)) [] [] [], .res (.s (.own t_int (.int .i64) c2)) [] [] [6], .res (.s (.v (.sl (.int .i64)) c3)) [] [] [], .res (.s (.own t_int (.int .i64) c4)) [] [] [10], .res (.s (.v (.sl (.int .i64)) c5)) [] [] []])
    (ps := [SC cfg.P i_impl_node_exponents [.s (.v .tree a0.1)] (.s (.v (.sl (.int .i64)) c1)) [],
      SC cfg.P i_impl_wordOf [.s (.v (.sl (.int .i64)) c1)] (.s (.own t_int (.int .i64) c2)) [],
      SC cfg.P i_impl_node_exponents [.s (.v .tree a0.2)] (.s (.v (.sl (.int .i64)) c3)) [],
      SC cfg.P i_impl_wordOf [.s (.v (.sl (.int .i64)) c3)] (.s (.own t_int (.int .i64) c4)) [],
      SC cfg.P i_impl_inverseOf [.s (.v (.sl (.int .i64)) c4)] (.s (.v (.sl (.int .i64)) c5)) [],
      sizeOK (List.length c2 + List.length c5)]) (by kernel_rfl) ⟨h1, h2, h3, h4, h5, h6, trivial⟩ get_impl_wordOfPair (by decide)

/-! ### spec_wdRight -/


theorem spec_wdRight_p1 (a0 : ByteArray)
    (h1 : SC cfg.P i_spec_trLeaf [.s (.v .str a0)] (.s (.v .bool true)) []) :
    SC cfg.P i_spec_wdRight [.s (.v .str a0)] (.s (.own t_int (.int .i64) ([(0 : Int)] : List Int))) [] :=
  SC_of_run cfgOK (its := [.res (.s (.v .bool true)) [] [] []])
    (ps := [SC cfg.P i_spec_trLeaf [.s (.v .str a0)] (.s (.v .bool true)) []]) (by kernel_rfl) ⟨h1, trivial⟩ get_spec_wdRight (by decide)

theorem spec_wdRight_p2 (a0 : ByteArray) (c2a : ByteArray) (c2b : ByteArray) (c3 : (List Int)) (c4 : (List Int))
    (h1 : SC cfg.P i_spec_trLeaf [.s (.v .str a0)] (.s (.v .bool false)) [])
    (h2 : SC cfg.P i_spec_trSides [.s (.v .str a0)] (.tup [.v .str c2a, .v .str c2b]) [])
    (h3 : SC cfg.P i_spec_wdExponents [.s (.v .str c2a), .s (.v (.int .i64) (0 : Int))] (.s (.own t_int (.int .i64) c3)) [])
    (h4 : SC cfg.P i_spec_wdRight [.s (.v .str c2b)] (.s (.own t_int (.int .i64) c4)) [])
    (h5 : sizeOK (List.length c3 + List.length c4)) :
    SC cfg.P i_spec_wdRight [.s (.v .str a0)] (.s (.own t_int (.int .i64) (c3 ++ c4))) [] :=
  SC_of_run cfgOK (its := [.res (.s (.v .bool false)) [] [] [], .res (.tup [.v .str c2a, .v .str c2b]) [] [] [], .res (.s (.own t_int (.int .i64) c3)) [] [] [14], .res (.s (.own t_int (.int .i64) c4)) [] [] [16]])
    (ps := [SC cfg.P i_spec_trLeaf [.s (.v .str a0)] (.s (.v .bool false)) [],
      SC cfg.P i_spec_trSides [.s (.v .str a0)] (.tup [.v .str c2a, .v .str c2b]) [],
      SC cfg.P i_spec_wdExponents [.s (.v .str c2a), .s (.v (.int .i64) (0 : Int))] (.s (.own t_int (.int .i64) c3)) [],
      SC cfg.P i_spec_wdRight [.s (.v .str c2b)] (.s (.own t_int (.int .i64) c4)) [],
      sizeOK (List.length c3 + List.length c4)]) (by kernel_rfl) ⟨h1, h2, h3, h4, h5, trivial⟩ get_spec_wdRight (by decide)

/-! ### spec_wdInverse -/


def spec_wdInverse_L0a (x0 : (List Int)) (x4 : Int) (xo3 : (List Int)) : St := mkSt 21 [(0, .s (.v (.sl (.int .i64)) x0)), (3, .s (.osl 3 0)), (4, .s (.v (.int .i64) x4))] [(3, .row t_int (.int .i64) xo3 0 false)]

def spec_wdInverse_L0X1 (y0 : (List Int)) (y4 : Int) (y9 : Bool) (yo3 : (List Int)) : St := mkSt 21 [(0, .s (.v (.sl (.int .i64)) y0)), (3, .s (.osl 3 0)), (4, .s (.v (.int .i64) y4)), (9, .s (.v .bool y9))] [(3, .row t_int (.int .i64) yo3 0 false)]

theorem spec_wdInverse_L0a_i1 (x0 : (List Int)) (x4 : Int) (xo3 : (List Int))
    (h1 : x4 ≥ (0 : Int))
    (h2 : 0 ≤ x4)
    (h3 : x4 < (List.length x0 : Int))
    (h4 : sizeOK (List.length xo3 + List.length ([(IntKind.wrap .i64 (0 - (List.getD x0 (x4).toNat (0 : Int))))] : List Int)))
    {e : AEx} {st : St} (next : LoopSC cfg.P 1 (lb P_spec_wdInverse 0) (spec_wdInverse_L0a x0 (IntKind.wrap .i64 (x4 - (1 : Int))) (xo3 ++ ([(IntKind.wrap .i64 (0 - (List.getD x0 (x4).toNat (0 : Int))))] : List Int))) e st) :
    LoopSC cfg.P 1 (lb P_spec_wdInverse 0) (spec_wdInverse_L0a x0 x4 xo3) e st :=
  loop_iter cfgOK (f := i_spec_wdInverse) (its := [.bool true])
    (ps := [decide (x4 ≥ (0 : Int)) = true,
      0 ≤ x4,
      x4 < (List.length x0 : Int),
      sizeOK (List.length xo3 + List.length ([(IntKind.wrap .i64 (0 - (List.getD x0 (x4).toNat (0 : Int))))] : List Int))]) (st1 := spec_wdInverse_L0a x0 (IntKind.wrap .i64 (x4 - (1 : Int))) (xo3 ++ ([(IntKind.wrap .i64 (0 - (List.getD x0 (x4).toNat (0 : Int))))] : List Int))) (by kernel_rfl) ⟨(decide_eq_true h1), h2, h3, h4, trivial⟩ next

theorem spec_wdInverse_L0a_x2 (x0 : (List Int)) (x4 : Int) (xo3 : (List Int))
    (h1 : ¬ (x4 ≥ (0 : Int))) :
    LoopSC cfg.P 1 (lb P_spec_wdInverse 0) (spec_wdInverse_L0a x0 x4 xo3) (.exit 0) (spec_wdInverse_L0X1 x0 x4 false xo3) :=
  loop_out cfgOK (f := i_spec_wdInverse) (its := [.bool false])
    (ps := [decide (x4 ≥ (0 : Int)) = false]) (by kernel_rfl) ⟨(decide_eq_false h1), trivial⟩ (fun h => by cases h)

theorem spec_wdInverse_p1 (a0 : (List Int)) (k1y0 : (List Int)) (k1y4 : Int) (k1y9 : Bool) (k1yo3 : (List Int))
    (h1 : LoopSC cfg.P 1 (lb P_spec_wdInverse 0) (spec_wdInverse_L0a a0 (IntKind.wrap .i64 (((List.length a0 : Nat) : Int) - (1 : Int))) ([] : List Int)) (.exit 0) (spec_wdInverse_L0X1 k1y0 k1y4 k1y9 k1yo3)) :
    SC cfg.P i_spec_wdInverse [.s (.v (.sl (.int .i64)) a0)] (.s (.own t_int (.int .i64) k1yo3)) [] :=
  SC_of_run cfgOK (its := [.loop (fun _ => (.exit 0, spec_wdInverse_L0X1 k1y0 k1y4 k1y9 k1yo3))])
    (ps := [LoopSC cfg.P 1 (lb P_spec_wdInverse 0) (spec_wdInverse_L0a a0 (IntKind.wrap .i64 (((List.length a0 : Nat) : Int) - (1 : Int))) ([] : List Int)) (.exit 0) (spec_wdInverse_L0X1 k1y0 k1y4 k1y9 k1yo3)]) (by kernel_rfl) ⟨h1, trivial⟩ get_spec_wdInverse (by decide)

/-! ### impl_wordOf -/


def impl_wordOf_L0a (x6 : (List Int)) (x7 : Int) (x8 : Int) (xo3 : (List Int)) : St := mkSt 24 [(3, .s (.osl 3 0)), (6, .s (.v (.sl (.int .i64)) x6)), (7, .s (.v (.int .i64) x7)), (8, .s (.v (.int .i64) x8))] [(3, .row t_int (.int .i64) xo3 0 false)]

def impl_wordOf_L1a (x4 : Int) (x6 : (List Int)) (x7 : Int) (x8 : Int) (x13 : Int) (x14 : Int) (xo3 : (List Int)) : St := mkSt 24 [(3, .s (.osl 3 0)), (4, .s (.v (.int .i64) x4)), (6, .s (.v (.sl (.int .i64)) x6)), (7, .s (.v (.int .i64) x7)), (8, .s (.v (.int .i64) x8)), (13, .s (.v (.int .i64) x13)), (14, .s (.v (.int .i64) x14))] [(3, .row t_int (.int .i64) xo3 0 false)]

def impl_wordOf_L1X1 (y4 : Int) (y6 : (List Int)) (y7 : Int) (y8 : Int) (y13 : Int) (y14 : Int) (y15 : Bool) (yo3 : (List Int)) : St := mkSt 24 [(3, .s (.osl 3 0)), (4, .s (.v (.int .i64) y4)), (6, .s (.v (.sl (.int .i64)) y6)), (7, .s (.v (.int .i64) y7)), (8, .s (.v (.int .i64) y8)), (13, .s (.v (.int .i64) y13)), (14, .s (.v (.int .i64) y14)), (15, .s (.v .bool y15))] [(3, .row t_int (.int .i64) yo3 0 false)]

def impl_wordOf_L0X1 (y6 : (List Int)) (y7 : Int) (y8 : Int) (y9 : Bool) (yo3 : (List Int)) : St := mkSt 24 [(3, .s (.osl 3 0)), (6, .s (.v (.sl (.int .i64)) y6)), (7, .s (.v (.int .i64) y7)), (8, .s (.v (.int .i64) y8)), (9, .s (.v .bool y9))] [(3, .row t_int (.int .i64) yo3 0 false)]

theorem impl_wordOf_L0a_i1 (x6 : (List Int)) (x7 : Int) (x8 : Int) (xo3 : (List Int)) (dk1y4 : Int) (dk1y6 : (List Int)) (dk1y7 : Int) (dk1y8 : Int) (dk1y13 : Int) (dk1y14 : Int) (dk1y15 : Bool) (dk1yo3 : (List Int))
    (h1 : x8 < x7)
    (h2 : 0 ≤ x8)
    (h3 : x8 < (List.length x6 : Int))
    (h4 : LoopSC cfg.P 1 (lb P_impl_wordOf 1) (impl_wordOf_L1a x8 x6 x7 x8 (List.getD x6 (x8).toNat (0 : Int)) (0 : Int) xo3) (.exit 2) (impl_wordOf_L1X1 dk1y4 dk1y6 dk1y7 dk1y8 dk1y13 dk1y14 dk1y15 dk1yo3))
    {e : AEx} {st : St} (next : LoopSC cfg.P 1 (lb P_impl_wordOf 0) (impl_wordOf_L0a dk1y6 dk1y7 (IntKind.wrap .i64 (dk1y8 + (1 : Int))) dk1yo3) e st) :
    LoopSC cfg.P 1 (lb P_impl_wordOf 0) (impl_wordOf_L0a x6 x7 x8 xo3) e st :=
  loop_iter cfgOK (f := i_impl_wordOf) (its := [.bool true, .loop (fun _ => (.exit 2, impl_wordOf_L1X1 dk1y4 dk1y6 dk1y7 dk1y8 dk1y13 dk1y14 dk1y15 dk1yo3))])
    (ps := [decide (x8 < x7) = true,
      0 ≤ x8,
      x8 < (List.length x6 : Int),
      LoopSC cfg.P 1 (lb P_impl_wordOf 1) (impl_wordOf_L1a x8 x6 x7 x8 (List.getD x6 (x8).toNat (0 : Int)) (0 : Int) xo3) (.exit 2) (impl_wordOf_L1X1 dk1y4 dk1y6 dk1y7 dk1y8 dk1y13 dk1y14 dk1y15 dk1yo3)]) (st1 := impl_wordOf_L0a dk1y6 dk1y7 (IntKind.wrap .i64 (dk1y8 + (1 : Int))) dk1yo3) (by kernel_rfl) ⟨(decide_eq_true h1), h2, h3, h4, trivial⟩ next

theorem impl_wordOf_L0a_x2 (x6 : (List Int)) (x7 : Int) (x8 : Int) (xo3 : (List Int))
    (h1 : ¬ (x8 < x7)) :
    LoopSC cfg.P 1 (lb P_impl_wordOf 0) (impl_wordOf_L0a x6 x7 x8 xo3) (.exit 0) (impl_wordOf_L0X1 x6 x7 x8 false xo3) :=
  loop_out cfgOK (f := i_impl_wordOf) (its := [.bool false])
    (ps := [decide (x8 < x7) = false]) (by kernel_rfl) ⟨(decide_eq_false h1), trivial⟩ (fun h => by cases h)

theorem impl_wordOf_L1a_i1 (x4 : Int) (x6 : (List Int)) (x7 : Int) (x8 : Int) (x13 : Int) (x14 : Int) (xo3 : (List Int))
    (h1 : x14 < x13)
    (h2 : sizeOK (List.length xo3 + List.length ([(IntKind.wrap .i64 (x4 + (1 : Int)))] : List Int)))
    {e : AEx} {st : St} (next : LoopSC cfg.P 1 (lb P_impl_wordOf 1) (impl_wordOf_L1a x4 x6 x7 x8 x13 (IntKind.wrap .i64 (x14 + (1 : Int))) (xo3 ++ ([(IntKind.wrap .i64 (x4 + (1 : Int)))] : List Int))) e st) :
    LoopSC cfg.P 1 (lb P_impl_wordOf 1) (impl_wordOf_L1a x4 x6 x7 x8 x13 x14 xo3) e st :=
  loop_iter cfgOK (f := i_impl_wordOf) (its := [.bool true])
    (ps := [decide (x14 < x13) = true,
      sizeOK (List.length xo3 + List.length ([(IntKind.wrap .i64 (x4 + (1 : Int)))] : List Int))]) (st1 := impl_wordOf_L1a x4 x6 x7 x8 x13 (IntKind.wrap .i64 (x14 + (1 : Int))) (xo3 ++ ([(IntKind.wrap .i64 (x4 + (1 : Int)))] : List Int))) (by kernel_rfl) ⟨(decide_eq_true h1), h2, trivial⟩ next

theorem impl_wordOf_L1a_x2 (x4 : Int) (x6 : (List Int)) (x7 : Int) (x8 : Int) (x13 : Int) (x14 : Int) (xo3 : (List Int))
    (h1 : ¬ (x14 < x13)) :
    LoopSC cfg.P 1 (lb P_impl_wordOf 1) (impl_wordOf_L1a x4 x6 x7 x8 x13 x14 xo3) (.exit 2) (impl_wordOf_L1X1 x4 x6 x7 x8 x13 x14 false xo3) :=
  loop_out cfgOK (f := i_impl_wordOf) (its := [.bool false])
    (ps := [decide (x14 < x13) = false]) (by kernel_rfl) ⟨(decide_eq_false h1), trivial⟩ (fun h => by cases h)

theorem impl_wordOf_p1 (a0 : (List Int)) (k1y6 : (List Int)) (k1y7 : Int) (k1y8 : Int) (k1y9 : Bool) (k1yo3 : (List Int))
    (h1 : LoopSC cfg.P 1 (lb P_impl_wordOf 0) (impl_wordOf_L0a a0 ((List.length a0 : Nat) : Int) (0 : Int) ([] : List Int)) (.exit 0) (impl_wordOf_L0X1 k1y6 k1y7 k1y8 k1y9 k1yo3)) :
    SC cfg.P i_impl_wordOf [.s (.v (.sl (.int .i64)) a0)] (.s (.own t_int (.int .i64) k1yo3)) [] :=
  SC_of_run cfgOK (its := [.loop (fun _ => (.exit 0, impl_wordOf_L0X1 k1y6 k1y7 k1y8 k1y9 k1yo3))])
    (ps := [LoopSC cfg.P 1 (lb P_impl_wordOf 0) (impl_wordOf_L0a a0 ((List.length a0 : Nat) : Int) (0 : Int) ([] : List Int)) (.exit 0) (impl_wordOf_L0X1 k1y6 k1y7 k1y8 k1y9 k1yo3)]) (by kernel_rfl) ⟨h1, trivial⟩ get_impl_wordOf (by decide)

/-! ### impl_node_exponents -/


def impl_node_exponents_L0a (x0 : Tr) (xo3 : (List Int)) : St := mkSt 20 [(0, .s (.v .tree x0)), (3, .s (.osl 3 0))] [(3, .row t_int (.int .i64) xo3 0 false)]

def impl_node_exponents_L0X1 (y0 : Tr) (y5 : Bool) (yo3 : (List Int)) : St := mkSt 20 [(0, .s (.v .tree y0)), (3, .s (.osl 3 0)), (5, .s (.v .bool y5))] [(3, .row t_int (.int .i64) yo3 0 false)]

theorem impl_node_exponents_L0a_x1 (xo3 : (List Int))
     :
    LoopSC cfg.P 1 (lb P_impl_node_exponents 0) (impl_node_exponents_L0a Tr.leaf xo3) (.exit 0) (impl_node_exponents_L0X1 Tr.leaf false xo3) :=
  loop_out cfgOK (f := i_impl_node_exponents) (its := [.bool false])
    (ps := [(!Tr.leaf.isLeaf) = false]) (by kernel_rfl) ⟨rfl, trivial⟩ (fun h => by cases h)

theorem impl_node_exponents_L0a_i2 (x0l : Tr) (x0r : Tr) (xo3 : (List Int)) (dc1 : (List Int))
    (h1 : SC cfg.P i_impl_node_climbs [.s (.v .tree x0l), .s (.v (.int .i64) (0 : Int))] (.s (.own t_int (.int .i64) dc1)) [])
    (h2 : sizeOK (List.length xo3 + List.length dc1))
    {e : AEx} {st : St} (next : LoopSC cfg.P 1 (lb P_impl_node_exponents 0) (impl_node_exponents_L0a x0r (xo3 ++ dc1)) e st) :
    LoopSC cfg.P 1 (lb P_impl_node_exponents 0) (impl_node_exponents_L0a (Tr.node x0l x0r) xo3) e st :=
  loop_iter cfgOK (f := i_impl_node_exponents) (its := [.bool true, .res (.s (.own t_int (.int .i64) dc1)) [] [] [15]])
    (ps := [(!(Tr.node x0l x0r).isLeaf) = true,
      SC cfg.P i_impl_node_climbs [.s (.v .tree x0l), .s (.v (.int .i64) (0 : Int))] (.s (.own t_int (.int .i64) dc1)) [],
      sizeOK (List.length xo3 + List.length dc1)]) (st1 := impl_node_exponents_L0a x0r (xo3 ++ dc1)) (by kernel_rfl) ⟨rfl, h1, h2, trivial⟩ next

theorem impl_node_exponents_p1 (a0 : Tr) (k1y0 : Tr) (k1y5 : Bool) (k1yo3 : (List Int))
    (h1 : LoopSC cfg.P 1 (lb P_impl_node_exponents 0) (impl_node_exponents_L0a a0 ([] : List Int)) (.exit 0) (impl_node_exponents_L0X1 k1y0 k1y5 k1yo3))
    (h2 : sizeOK (List.length k1yo3 + List.length ([(0 : Int)] : List Int))) :
    SC cfg.P i_impl_node_exponents [.s (.v .tree a0)] (.s (.own t_int (.int .i64) (k1yo3 ++ ([(0 : Int)] : List Int)))) [] :=
  SC_of_run cfgOK (its := [.loop (fun _ => (.exit 0, impl_node_exponents_L0X1 k1y0 k1y5 k1yo3))])
    (ps := [LoopSC cfg.P 1 (lb P_impl_node_exponents 0) (impl_node_exponents_L0a a0 ([] : List Int)) (.exit 0) (impl_node_exponents_L0X1 k1y0 k1y5 k1yo3),
      sizeOK (List.length k1yo3 + List.length ([(0 : Int)] : List Int))]) (by kernel_rfl) ⟨h1, h2, trivial⟩ get_impl_node_exponents (by decide)

/-! ### impl_inverseOf -/


def impl_inverseOf_L0a (x0 : (List Int)) (x4 : Int) (xo3 : (List Int)) : St := mkSt 21 [(0, .s (.v (.sl (.int .i64)) x0)), (3, .s (.osl 3 0)), (4, .s (.v (.int .i64) x4))] [(3, .row t_int (.int .i64) xo3 0 false)]

def impl_inverseOf_L0X1 (y0 : (List Int)) (y4 : Int) (y9 : Bool) (yo3 : (List Int)) : St := mkSt 21 [(0, .s (.v (.sl (.int .i64)) y0)), (3, .s (.osl 3 0)), (4, .s (.v (.int .i64) y4)), (9, .s (.v .bool y9))] [(3, .row t_int (.int .i64) yo3 0 false)]

theorem impl_inverseOf_L0a_i1 (x0 : (List Int)) (x4 : Int) (xo3 : (List Int))
    (h1 : x4 ≥ (0 : Int))
    (h2 : 0 ≤ x4)
    (h3 : x4 < (List.length x0 : Int))
    (h4 : sizeOK (List.length xo3 + List.length ([(IntKind.wrap .i64 (0 - (List.getD x0 (x4).toNat (0 : Int))))] : List Int)))
    {e : AEx} {st : St} (next : LoopSC cfg.P 1 (lb P_impl_inverseOf 0) (impl_inverseOf_L0a x0 (IntKind.wrap .i64 (x4 - (1 : Int))) (xo3 ++ ([(IntKind.wrap .i64 (0 - (List.getD x0 (x4).toNat (0 : Int))))] : List Int))) e st) :
    LoopSC cfg.P 1 (lb P_impl_inverseOf 0) (impl_inverseOf_L0a x0 x4 xo3) e st :=
  loop_iter cfgOK (f := i_impl_inverseOf) (its := [.bool true])
    (ps := [decide (x4 ≥ (0 : Int)) = true,
      0 ≤ x4,
      x4 < (List.length x0 : Int),
      sizeOK (List.length xo3 + List.length ([(IntKind.wrap .i64 (0 - (List.getD x0 (x4).toNat (0 : Int))))] : List Int))]) (st1 := impl_inverseOf_L0a x0 (IntKind.wrap .i64 (x4 - (1 : Int))) (xo3 ++ ([(IntKind.wrap .i64 (0 - (List.getD x0 (x4).toNat (0 : Int))))] : List Int))) (by kernel_rfl) ⟨(decide_eq_true h1), h2, h3, h4, trivial⟩ next

theorem impl_inverseOf_L0a_x2 (x0 : (List Int)) (x4 : Int) (xo3 : (List Int))
    (h1 : ¬ (x4 ≥ (0 : Int))) :
    LoopSC cfg.P 1 (lb P_impl_inverseOf 0) (impl_inverseOf_L0a x0 x4 xo3) (.exit 0) (impl_inverseOf_L0X1 x0 x4 false xo3) :=
  loop_out cfgOK (f := i_impl_inverseOf) (its := [.bool false])
    (ps := [decide (x4 ≥ (0 : Int)) = false]) (by kernel_rfl) ⟨(decide_eq_false h1), trivial⟩ (fun h => by cases h)

theorem impl_inverseOf_p1 (a0 : (List Int)) (k1y0 : (List Int)) (k1y4 : Int) (k1y9 : Bool) (k1yo3 : (List Int))
    (h1 : LoopSC cfg.P 1 (lb P_impl_inverseOf 0) (impl_inverseOf_L0a a0 (IntKind.wrap .i64 (((List.length a0 : Nat) : Int) - (1 : Int))) ([] : List Int)) (.exit 0) (impl_inverseOf_L0X1 k1y0 k1y4 k1y9 k1yo3)) :
    SC cfg.P i_impl_inverseOf [.s (.v (.sl (.int .i64)) a0)] (.s (.own t_int (.int .i64) k1yo3)) [] :=
  SC_of_run cfgOK (its := [.loop (fun _ => (.exit 0, impl_inverseOf_L0X1 k1y0 k1y4 k1y9 k1yo3))])
    (ps := [LoopSC cfg.P 1 (lb P_impl_inverseOf 0) (impl_inverseOf_L0a a0 (IntKind.wrap .i64 (((List.length a0 : Nat) : Int) - (1 : Int))) ([] : List Int)) (.exit 0) (impl_inverseOf_L0X1 k1y0 k1y4 k1y9 k1yo3)]) (by kernel_rfl) ⟨h1, trivial⟩ get_impl_inverseOf (by decide)

/-! ### spec_wdExponents -/


theorem spec_wdExponents_p1 (a0 : ByteArray) (a1 : Int)
    (h1 : SC cfg.P i_spec_trLeaf [.s (.v .str a0)] (.s (.v .bool true)) []) :
    SC cfg.P i_spec_wdExponents [.s (.v .str a0), .s (.v (.int .i64) a1)] (.s (.own t_int (.int .i64) ([a1] : List Int))) [] :=
  SC_of_run cfgOK (its := [.res (.s (.v .bool true)) [] [] []])
    (ps := [SC cfg.P i_spec_trLeaf [.s (.v .str a0)] (.s (.v .bool true)) []]) (by kernel_rfl) ⟨h1, trivial⟩ get_spec_wdExponents (by decide)

theorem spec_wdExponents_p2 (a0 : ByteArray) (a1 : Int) (c2a : ByteArray) (c2b : ByteArray) (c3 : (List Int)) (c4 : (List Int))
    (h1 : SC cfg.P i_spec_trLeaf [.s (.v .str a0)] (.s (.v .bool false)) [])
    (h2 : SC cfg.P i_spec_trSides [.s (.v .str a0)] (.tup [.v .str c2a, .v .str c2b]) [])
    (h3 : SC cfg.P i_spec_wdExponents [.s (.v .str c2a), .s (.v (.int .i64) (IntKind.wrap .i64 (a1 + (1 : Int))))] (.s (.own t_int (.int .i64) c3)) [])
    (h4 : SC cfg.P i_spec_wdExponents [.s (.v .str c2b), .s (.v (.int .i64) (0 : Int))] (.s (.own t_int (.int .i64) c4)) [])
    (h5 : sizeOK (List.length c3 + List.length c4)) :
    SC cfg.P i_spec_wdExponents [.s (.v .str a0), .s (.v (.int .i64) a1)] (.s (.own t_int (.int .i64) (c3 ++ c4))) [] :=
  SC_of_run cfgOK (its := [.res (.s (.v .bool false)) [] [] [], .res (.tup [.v .str c2a, .v .str c2b]) [] [] [], .res (.s (.own t_int (.int .i64) c3)) [] [] [19], .res (.s (.own t_int (.int .i64) c4)) [] [] [21]])
    (ps := [SC cfg.P i_spec_trLeaf [.s (.v .str a0)] (.s (.v .bool false)) [],
      SC cfg.P i_spec_trSides [.s (.v .str a0)] (.tup [.v .str c2a, .v .str c2b]) [],
      SC cfg.P i_spec_wdExponents [.s (.v .str c2a), .s (.v (.int .i64) (IntKind.wrap .i64 (a1 + (1 : Int))))] (.s (.own t_int (.int .i64) c3)) [],
      SC cfg.P i_spec_wdExponents [.s (.v .str c2b), .s (.v (.int .i64) (0 : Int))] (.s (.own t_int (.int .i64) c4)) [],
      sizeOK (List.length c3 + List.length c4)]) (by kernel_rfl) ⟨h1, h2, h3, h4, h5, trivial⟩ get_spec_wdExponents (by decide)

/-! ### impl_node_climbs -/


theorem impl_node_climbs_p1 (a1 : Int)
     :
    SC cfg.P i_impl_node_climbs [.s (.v .tree Tr.leaf), .s (.v (.int .i64) a1)] (.s (.own t_int (.int .i64) ([a1] : List Int))) [] :=
  SC_of_run cfgOK (its := [.bool true])
    (ps := [Tr.leaf.isLeaf = true]) (by kernel_rfl) ⟨rfl, trivial⟩ get_impl_node_climbs (by decide)

theorem impl_node_climbs_p2 (a0l : Tr) (a0r : Tr) (a1 : Int) (c1 : (List Int)) (c2 : (List Int))
    (h1 : SC cfg.P i_impl_node_climbs [.s (.v .tree a0l), .s (.v (.int .i64) (IntKind.wrap .i64 (a1 + (1 : Int))))] (.s (.own t_int (.int .i64) c1)) [])
    (h2 : SC cfg.P i_impl_node_climbs [.s (.v .tree a0r), .s (.v (.int .i64) (0 : Int))] (.s (.own t_int (.int .i64) c2)) [])
    (h3 : sizeOK (List.length c1 + List.length c2)) :
    SC cfg.P i_impl_node_climbs [.s (.v .tree (Tr.node a0l a0r)), .s (.v (.int .i64) a1)] (.s (.own t_int (.int .i64) (c1 ++ c2))) [] :=
  SC_of_run cfgOK (its := [.bool false, .res (.s (.own t_int (.int .i64) c1)) [] [] [15], .res (.s (.own t_int (.int .i64) c2)) [] [] [20]])
    (ps := [(Tr.node a0l a0r).isLeaf = false,
      SC cfg.P i_impl_node_climbs [.s (.v .tree a0l), .s (.v (.int .i64) (IntKind.wrap .i64 (a1 + (1 : Int))))] (.s (.own t_int (.int .i64) c1)) [],
      SC cfg.P i_impl_node_climbs [.s (.v .tree a0r), .s (.v (.int .i64) (0 : Int))] (.s (.own t_int (.int .i64) c2)) [],
      sizeOK (List.length c1 + List.length c2)]) (by kernel_rfl) ⟨rfl, h1, h2, h3, trivial⟩ get_impl_node_climbs (by decide)

end Go.AI
