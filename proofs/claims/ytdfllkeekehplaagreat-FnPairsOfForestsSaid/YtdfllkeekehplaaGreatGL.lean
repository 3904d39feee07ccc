/- A part of the road: what it proves stands in its last texts. -/
import Derived.Test.YtdfllkeekehplaaGreatSIds
import Derived.Test.YtdfllkeekehplaaGreatAiI
import Derived.Test.YtdfllkeekehplaaGreatProg
set_option autoImplicit false
set_option maxRecDepth 100000
set_option linter.unusedVariables false
namespace Go.AI
open Go.Proofs

/-! ### laws_FnPairsOfForests -/


def laws_FnPairsOfForests_C0a (x0 : (List Int)) (x1 : (List Int)) : St := mkSt 251 [(0, .s (.v (.sl (.int .u8)) x0)), (1, .s (.v (.sl (.int .u8)) x1))] []

def laws_FnPairsOfForests_R1 (y4 : Bool) : St := mkSt 251 [(4, .s (.v .bool y4))] []

def laws_FnPairsOfForests_C3a (x0 : (List Int)) (x1 : (List Int)) (x48 : Bool) : St := mkSt 251 [(0, .s (.v (.sl (.int .u8)) x0)), (1, .s (.v (.sl (.int .u8)) x1)), (48, .s (.v .bool x48))] []

def laws_FnPairsOfForests_C8a (x1 : (List Int)) (x8 : Bool) (x83 : Bool) (xo5 : (ByteArray × ByteArray)) (xo53 : (List ByteArray)) (xo250 : (List ByteArray)) : St := mkSt 251 [(1, .s (.v (.sl (.int .u8)) x1)), (5, .s (.adr 5 none)), (6, .s (.osl 53 0)), (7, .s (.osl 250 0)), (8, .s (.v .bool x8)), (83, .s (.v .bool x83))] [(5, .box (.pr .str .str) xo5 false), (53, .row t_string .str xo53 0 false), (250, .row t_string .str xo250 0 false)]

def laws_FnPairsOfForests_C10a (x1 : (List Int)) (x140 : Bool) : St := mkSt 251 [(1, .s (.v (.sl (.int .u8)) x1)), (140, .s (.v .bool x140))] []

def laws_FnPairsOfForests_C10b (x1 : (List Int)) (x84 : Bool) (xo5 : (ByteArray × ByteArray)) (xo53 : (List ByteArray)) (xo250 : (List ByteArray)) : St := mkSt 251 [(1, .s (.v (.sl (.int .u8)) x1)), (5, .s (.adr 5 none)), (6, .s (.osl 53 0)), (7, .s (.osl 250 0)), (84, .s (.v .bool x84))] [(5, .box (.pr .str .str) xo5 false), (53, .row t_string .str xo53 0 false), (250, .row t_string .str xo250 0 false)]

def laws_FnPairsOfForests_C15a (x1 : (List Int)) (x25 : Bool) (x165 : Bool) (xo24 : (ByteArray × ByteArray)) (xo143 : (List ByteArray)) (xo250 : (List ByteArray)) : St := mkSt 251 [(1, .s (.v (.sl (.int .u8)) x1)), (22, .s (.osl 143 0)), (23, .s (.osl 250 0)), (24, .s (.adr 24 none)), (25, .s (.v .bool x25)), (165, .s (.v .bool x165))] [(24, .box (.pr .str .str) xo24 false), (143, .row t_string .str xo143 0 false), (250, .row t_string .str xo250 0 false)]

def laws_FnPairsOfForests_C15b (x1 : (List Int)) (x25 : Bool) (x165 : Bool) (xo24 : (ByteArray × ByteArray)) (xo143 : (List ByteArray)) (xo249 : (List ByteArray)) : St := mkSt 251 [(1, .s (.v (.sl (.int .u8)) x1)), (22, .s (.osl 143 0)), (23, .s (.osl 249 0)), (24, .s (.adr 24 none)), (25, .s (.v .bool x25)), (165, .s (.v .bool x165))] [(24, .box (.pr .str .str) xo24 false), (143, .row t_string .str xo143 0 false), (249, .row t_string .str xo249 0 false)]

def laws_FnPairsOfForests_C17a (x1 : (List Int)) (x218 : Bool) : St := mkSt 251 [(1, .s (.v (.sl (.int .u8)) x1)), (218, .s (.v .bool x218))] []

def laws_FnPairsOfForests_C17b (x1 : (List Int)) (x205 : Bool) (xo24 : (ByteArray × ByteArray)) (xo193 : (List ByteArray)) (xo199 : (List ByteArray)) : St := mkSt 251 [(1, .s (.v (.sl (.int .u8)) x1)), (24, .s (.adr 24 none)), (33, .s (.osl 193 0)), (35, .s (.osl 199 0)), (205, .s (.v .bool x205))] [(24, .box (.pr .str .str) xo24 false), (193, .row t_string .str xo193 0 false), (199, .row t_string .str xo199 0 false)]

def laws_FnPairsOfForests_C17c (x1 : (List Int)) (x166 : Bool) (xo24 : (ByteArray × ByteArray)) (xo143 : (List ByteArray)) (xo250 : (List ByteArray)) : St := mkSt 251 [(1, .s (.v (.sl (.int .u8)) x1)), (22, .s (.osl 143 0)), (23, .s (.osl 250 0)), (24, .s (.adr 24 none)), (166, .s (.v .bool x166))] [(24, .box (.pr .str .str) xo24 false), (143, .row t_string .str xo143 0 false), (250, .row t_string .str xo250 0 false)]

def laws_FnPairsOfForests_C17d (x1 : (List Int)) (x166 : Bool) (xo24 : (ByteArray × ByteArray)) (xo143 : (List ByteArray)) (xo249 : (List ByteArray)) : St := mkSt 251 [(1, .s (.v (.sl (.int .u8)) x1)), (22, .s (.osl 143 0)), (23, .s (.osl 249 0)), (24, .s (.adr 24 none)), (166, .s (.v .bool x166))] [(24, .box (.pr .str .str) xo24 false), (143, .row t_string .str xo143 0 false), (249, .row t_string .str xo249 0 false)]

def laws_FnPairsOfForests_C22a (x41 : Bool) (x238 : Bool) (xo40 : (ByteArray × ByteArray)) (xo220 : (List ByteArray)) : St := mkSt 251 [(39, .s (.osl 220 0)), (40, .s (.adr 40 none)), (41, .s (.v .bool x41)), (238, .s (.v .bool x238))] [(40, .box (.pr .str .str) xo40 false), (220, .row t_string .str xo220 0 false)]

def laws_FnPairsOfForests_C24a (x239 : Bool) (xo40 : (ByteArray × ByteArray)) (xo220 : (List ByteArray)) : St := mkSt 251 [(39, .s (.osl 220 0)), (40, .s (.adr 40 none)), (239, .s (.v .bool x239))] [(40, .box (.pr .str .str) xo40 false), (220, .row t_string .str xo220 0 false)]

theorem laws_FnPairsOfForests_C0a_x1 (x0 : (List Int)) (x1 : (List Int))
    (h1 : SC cfg.P i_laws_big [.s (.v (.sl (.int .u8)) x0), .s (.v (.sl (.int .u8)) x1)] (.s (.v .bool true)) []) :
    RestSC cfg.P 2 (rest P_laws_FnPairsOfForests 0) (laws_FnPairsOfForests_C0a x0 x1) .ret (laws_FnPairsOfForests_R1 true) :=
  rest_ret cfgOK (f := i_laws_FnPairsOfForests) (k := 0) (m := 3) (its := [.res (.s (.v .bool true)) [] [] []])
    (ps := [SC cfg.P i_laws_big [.s (.v (.sl (.int .u8)) x0), .s (.v (.sl (.int .u8)) x1)] (.s (.v .bool true)) []]) (by kernel_rfl) ⟨h1, trivial⟩

theorem laws_FnPairsOfForests_C0a_i2 (x0 : (List Int)) (x1 : (List Int))
    (h1 : SC cfg.P i_laws_big [.s (.v (.sl (.int .u8)) x0), .s (.v (.sl (.int .u8)) x1)] (.s (.v .bool false)) [])
    {e : AEx} {st : St} (next : RestSC cfg.P 2 (rest P_laws_FnPairsOfForests 3) (laws_FnPairsOfForests_C3a x0 x1 false) e st) :
    RestSC cfg.P 2 (rest P_laws_FnPairsOfForests 0) (laws_FnPairsOfForests_C0a x0 x1) e st :=
  rest_next cfgOK (f := i_laws_FnPairsOfForests) (k := 0) (m := 3) (its := [.res (.s (.v .bool false)) [] [] []])
    (ps := [SC cfg.P i_laws_big [.s (.v (.sl (.int .u8)) x0), .s (.v (.sl (.int .u8)) x1)] (.s (.v .bool false)) []]) (st1 := laws_FnPairsOfForests_C3a x0 x1 false) (by kernel_rfl) ⟨h1, trivial⟩ next

theorem laws_FnPairsOfForests_C3a_i1 (x0 : (List Int)) (x1 : (List Int)) (x48 : Bool) (dc1 : (ByteArray × ByteArray)) (dc2a : (List ByteArray)) (dc2b : (List ByteArray)) (dc2c : Bool) (dc3a : (List ByteArray)) (dc3b : (List ByteArray)) (dc3c : Bool) (dc6 : Bool)
    (h1 : SC cfg.P i_spec_DrawForestsOfPair [.s (.v (.sl (.int .u8)) x0)] (.s (.v (.pr .str .str) dc1)) [])
    (h2 : SC cfg.P i_impl_ForestsOfPair [.s (.v (.pr .str .str) dc1)] (.tup [.own t_string .str dc2a, .own t_string .str dc2b, .v .bool dc2c]) [])
    (h3 : SC cfg.P i_spec_ForestsOfPair [.s (.v (.pr .str .str) dc1)] (.tup [.own t_string .str dc3a, .own t_string .str dc3b, .v .bool dc3c]) [])
    (h4 : (!(dc2c == dc3c)) = false)
    (h5 : SC cfg.P i_laws_nTexts [.s (.v (.sl .str) dc2a), .s (.v (.sl .str) dc3a)] (.s (.v .bool true)) [])
    (h6 : SC cfg.P i_laws_nTexts [.s (.v (.sl .str) dc2b), .s (.v (.sl .str) dc3b)] (.s (.v .bool true)) [])
    (h7 : SC cfg.P i_impl_IsPair [.s (.v (.pr .str .str) dc1)] (.s (.v .bool dc6)) [])
    (h8 : (!(dc2c == dc6)) = false)
    {e : AEx} {st : St} (next : RestSC cfg.P 2 (rest P_laws_FnPairsOfForests 8) (laws_FnPairsOfForests_C8a x1 dc2c false dc1 dc2a dc2b) e st) :
    RestSC cfg.P 2 (rest P_laws_FnPairsOfForests 3) (laws_FnPairsOfForests_C3a x0 x1 x48) e st :=
  rest_next cfgOK (f := i_laws_FnPairsOfForests) (k := 3) (m := 5) (its := [.res (.s (.v (.pr .str .str) dc1)) [] [] [], .res (.tup [.own t_string .str dc2a, .own t_string .str dc2b, .v .bool dc2c]) [] [] [53, 250], .res (.tup [.own t_string .str dc3a, .own t_string .str dc3b, .v .bool dc3c]) [] [] [59, 249], .bool false, .res (.s (.v .bool true)) [] [] [], .res (.s (.v .bool true)) [] [] [], .res (.s (.v .bool dc6)) [] [] [], .bool false])
    (ps := [SC cfg.P i_spec_DrawForestsOfPair [.s (.v (.sl (.int .u8)) x0)] (.s (.v (.pr .str .str) dc1)) [],
      SC cfg.P i_impl_ForestsOfPair [.s (.v (.pr .str .str) dc1)] (.tup [.own t_string .str dc2a, .own t_string .str dc2b, .v .bool dc2c]) [],
      SC cfg.P i_spec_ForestsOfPair [.s (.v (.pr .str .str) dc1)] (.tup [.own t_string .str dc3a, .own t_string .str dc3b, .v .bool dc3c]) [],
      (!(dc2c == dc3c)) = false,
      SC cfg.P i_laws_nTexts [.s (.v (.sl .str) dc2a), .s (.v (.sl .str) dc3a)] (.s (.v .bool true)) [],
      SC cfg.P i_laws_nTexts [.s (.v (.sl .str) dc2b), .s (.v (.sl .str) dc3b)] (.s (.v .bool true)) [],
      SC cfg.P i_impl_IsPair [.s (.v (.pr .str .str) dc1)] (.s (.v .bool dc6)) [],
      (!(dc2c == dc6)) = false]) (st1 := laws_FnPairsOfForests_C8a x1 dc2c false dc1 dc2a dc2b) (by kernel_rfl) ⟨h1, h2, h3, h4, h5, h6, h7, h8, trivial⟩ next

theorem laws_FnPairsOfForests_C8a_i1 (x1 : (List Int)) (x83 : Bool) (xo5 : (ByteArray × ByteArray)) (xo53 : (List ByteArray)) (xo250 : (List ByteArray)) (dc1a : (ByteArray × ByteArray)) (dc2a : (List Int)) (dc3a : (List Int)) (dc4a : (List Int)) (dc5a : (List Int)) (dc6 : (ByteArray × ByteArray))
    (h1 : SC cfg.P i_impl_PairOfForests [.s (.v (.sl .str) xo53), .s (.v (.sl .str) xo250)] (.tup [.v (.pr .str .str) dc1a, .v .bool true]) [])
    (h2 : SC cfg.P i_impl_WordOfPair [.s (.v (.pr .str .str) xo5)] (.tup [.own t_int (.int .i64) dc2a, .v .bool true]) [])
    (h3 : SC cfg.P i_impl_WordOfForest [.s (.v (.sl .str) xo53)] (.tup [.own t_int (.int .i64) dc3a, .v .bool true]) [])
    (h4 : SC cfg.P i_impl_WordOfForest [.s (.v (.sl .str) xo250)] (.tup [.own t_int (.int .i64) dc4a, .v .bool true]) [])
    (h5 : SC cfg.P i_impl_InverseWord [.s (.v (.sl (.int .i64)) dc4a)] (.tup [.own t_int (.int .i64) dc5a, .v .bool true]) [])
    (h6 : SC cfg.P i_laws_nReduced [.s (.v (.pr .str .str) xo5)] (.s (.v (.pr .str .str) dc6)) [])
    (h7 : (!(((dc1a.1).toList == (dc6.1).toList) && ((dc1a.2).toList == (dc6.2).toList))) = false)
    (h8 : sizeOK (List.length ([] : List Int) + List.length dc3a))
    (h9 : sizeOK (List.length (([] : List Int) ++ dc3a) + List.length dc5a))
    (h10 : SC cfg.P i_laws_nSame [.s (.v (.sl (.int .i64)) dc2a), .s (.v (.sl (.int .i64)) ((([] : List Int) ++ dc3a) ++ dc5a))] (.s (.v .bool true)) [])
    {e : AEx} {st : St} (next : RestSC cfg.P 2 (rest P_laws_FnPairsOfForests 10) (laws_FnPairsOfForests_C10a x1 false) e st) :
    RestSC cfg.P 2 (rest P_laws_FnPairsOfForests 8) (laws_FnPairsOfForests_C8a x1 true x83 xo5 xo53 xo250) e st :=
  rest_next cfgOK (f := i_laws_FnPairsOfForests) (k := 8) (m := 2) (its := [.res (.tup [.v (.pr .str .str) dc1a, .v .bool true]) [] [] [], .res (.tup [.own t_int (.int .i64) dc2a, .v .bool true]) [] [] [93], .res (.tup [.own t_int (.int .i64) dc3a, .v .bool true]) [] [] [98], .res (.tup [.own t_int (.int .i64) dc4a, .v .bool true]) [] [] [103], .res (.tup [.own t_int (.int .i64) dc5a, .v .bool true]) [] [] [108], .res (.s (.v (.pr .str .str) dc6)) [] [] [], .bool false, .res (.s (.v .bool true)) [] [] []])
    (ps := [SC cfg.P i_impl_PairOfForests [.s (.v (.sl .str) xo53), .s (.v (.sl .str) xo250)] (.tup [.v (.pr .str .str) dc1a, .v .bool true]) [],
      SC cfg.P i_impl_WordOfPair [.s (.v (.pr .str .str) xo5)] (.tup [.own t_int (.int .i64) dc2a, .v .bool true]) [],
      SC cfg.P i_impl_WordOfForest [.s (.v (.sl .str) xo53)] (.tup [.own t_int (.int .i64) dc3a, .v .bool true]) [],
      SC cfg.P i_impl_WordOfForest [.s (.v (.sl .str) xo250)] (.tup [.own t_int (.int .i64) dc4a, .v .bool true]) [],
      SC cfg.P i_impl_InverseWord [.s (.v (.sl (.int .i64)) dc4a)] (.tup [.own t_int (.int .i64) dc5a, .v .bool true]) [],
      SC cfg.P i_laws_nReduced [.s (.v (.pr .str .str) xo5)] (.s (.v (.pr .str .str) dc6)) [],
      (!(((dc1a.1).toList == (dc6.1).toList) && ((dc1a.2).toList == (dc6.2).toList))) = false,
      sizeOK (List.length ([] : List Int) + List.length dc3a),
      sizeOK (List.length (([] : List Int) ++ dc3a) + List.length dc5a),
      SC cfg.P i_laws_nSame [.s (.v (.sl (.int .i64)) dc2a), .s (.v (.sl (.int .i64)) ((([] : List Int) ++ dc3a) ++ dc5a))] (.s (.v .bool true)) []]) (st1 := laws_FnPairsOfForests_C10a x1 false) (by kernel_rfl) ⟨h1, h2, h3, h4, h5, h6, h7, h8, h9, h10, trivial⟩ next

theorem laws_FnPairsOfForests_C8a_i3 (x1 : (List Int)) (x83 : Bool) (xo5 : (ByteArray × ByteArray)) (xo53 : (List ByteArray)) (xo250 : (List ByteArray)) (dc1a : (ByteArray × ByteArray)) (dc2a : (List Int)) (dc3a : (List Int)) (dc4a : (List Int)) (dc5a : (List Int)) (dc5b : Bool) (dc6 : (ByteArray × ByteArray))
    (h1 : SC cfg.P i_impl_PairOfForests [.s (.v (.sl .str) xo53), .s (.v (.sl .str) xo250)] (.tup [.v (.pr .str .str) dc1a, .v .bool true]) [])
    (h2 : SC cfg.P i_impl_WordOfPair [.s (.v (.pr .str .str) xo5)] (.tup [.own t_int (.int .i64) dc2a, .v .bool true]) [])
    (h3 : SC cfg.P i_impl_WordOfForest [.s (.v (.sl .str) xo53)] (.tup [.own t_int (.int .i64) dc3a, .v .bool true]) [])
    (h4 : SC cfg.P i_impl_WordOfForest [.s (.v (.sl .str) xo250)] (.tup [.own t_int (.int .i64) dc4a, .v .bool false]) [])
    (h5 : SC cfg.P i_impl_InverseWord [.s (.v (.sl (.int .i64)) dc4a)] (.tup [.own t_int (.int .i64) dc5a, .v .bool dc5b]) [])
    (h6 : SC cfg.P i_laws_nReduced [.s (.v (.pr .str .str) xo5)] (.s (.v (.pr .str .str) dc6)) [])
    (h7 : (!(((dc1a.1).toList == (dc6.1).toList) && ((dc1a.2).toList == (dc6.2).toList))) = false)
    {e : AEx} {st : St} (next : RestSC cfg.P 2 (rest P_laws_FnPairsOfForests 10) (laws_FnPairsOfForests_C10a x1 false) e st) :
    RestSC cfg.P 2 (rest P_laws_FnPairsOfForests 8) (laws_FnPairsOfForests_C8a x1 true x83 xo5 xo53 xo250) e st :=
  rest_next cfgOK (f := i_laws_FnPairsOfForests) (k := 8) (m := 2) (its := [.res (.tup [.v (.pr .str .str) dc1a, .v .bool true]) [] [] [], .res (.tup [.own t_int (.int .i64) dc2a, .v .bool true]) [] [] [93], .res (.tup [.own t_int (.int .i64) dc3a, .v .bool true]) [] [] [98], .res (.tup [.own t_int (.int .i64) dc4a, .v .bool false]) [] [] [103], .res (.tup [.own t_int (.int .i64) dc5a, .v .bool dc5b]) [] [] [108], .res (.s (.v (.pr .str .str) dc6)) [] [] [], .bool false])
    (ps := [SC cfg.P i_impl_PairOfForests [.s (.v (.sl .str) xo53), .s (.v (.sl .str) xo250)] (.tup [.v (.pr .str .str) dc1a, .v .bool true]) [],
      SC cfg.P i_impl_WordOfPair [.s (.v (.pr .str .str) xo5)] (.tup [.own t_int (.int .i64) dc2a, .v .bool true]) [],
      SC cfg.P i_impl_WordOfForest [.s (.v (.sl .str) xo53)] (.tup [.own t_int (.int .i64) dc3a, .v .bool true]) [],
      SC cfg.P i_impl_WordOfForest [.s (.v (.sl .str) xo250)] (.tup [.own t_int (.int .i64) dc4a, .v .bool false]) [],
      SC cfg.P i_impl_InverseWord [.s (.v (.sl (.int .i64)) dc4a)] (.tup [.own t_int (.int .i64) dc5a, .v .bool dc5b]) [],
      SC cfg.P i_laws_nReduced [.s (.v (.pr .str .str) xo5)] (.s (.v (.pr .str .str) dc6)) [],
      (!(((dc1a.1).toList == (dc6.1).toList) && ((dc1a.2).toList == (dc6.2).toList))) = false]) (st1 := laws_FnPairsOfForests_C10a x1 false) (by kernel_rfl) ⟨h1, h2, h3, h4, h5, h6, h7, trivial⟩ next

theorem laws_FnPairsOfForests_C8a_i4 (x1 : (List Int)) (x83 : Bool) (xo5 : (ByteArray × ByteArray)) (xo53 : (List ByteArray)) (xo250 : (List ByteArray)) (dc1a : (ByteArray × ByteArray)) (dc2a : (List Int)) (dc3a : (List Int)) (dc4a : (List Int)) (dc4b : Bool) (dc5a : (List Int)) (dc5b : Bool) (dc6 : (ByteArray × ByteArray))
    (h1 : SC cfg.P i_impl_PairOfForests [.s (.v (.sl .str) xo53), .s (.v (.sl .str) xo250)] (.tup [.v (.pr .str .str) dc1a, .v .bool true]) [])
    (h2 : SC cfg.P i_impl_WordOfPair [.s (.v (.pr .str .str) xo5)] (.tup [.own t_int (.int .i64) dc2a, .v .bool true]) [])
    (h3 : SC cfg.P i_impl_WordOfForest [.s (.v (.sl .str) xo53)] (.tup [.own t_int (.int .i64) dc3a, .v .bool false]) [])
    (h4 : SC cfg.P i_impl_WordOfForest [.s (.v (.sl .str) xo250)] (.tup [.own t_int (.int .i64) dc4a, .v .bool dc4b]) [])
    (h5 : SC cfg.P i_impl_InverseWord [.s (.v (.sl (.int .i64)) dc4a)] (.tup [.own t_int (.int .i64) dc5a, .v .bool dc5b]) [])
    (h6 : SC cfg.P i_laws_nReduced [.s (.v (.pr .str .str) xo5)] (.s (.v (.pr .str .str) dc6)) [])
    (h7 : (!(((dc1a.1).toList == (dc6.1).toList) && ((dc1a.2).toList == (dc6.2).toList))) = false)
    {e : AEx} {st : St} (next : RestSC cfg.P 2 (rest P_laws_FnPairsOfForests 10) (laws_FnPairsOfForests_C10a x1 false) e st) :
    RestSC cfg.P 2 (rest P_laws_FnPairsOfForests 8) (laws_FnPairsOfForests_C8a x1 true x83 xo5 xo53 xo250) e st :=
  rest_next cfgOK (f := i_laws_FnPairsOfForests) (k := 8) (m := 2) (its := [.res (.tup [.v (.pr .str .str) dc1a, .v .bool true]) [] [] [], .res (.tup [.own t_int (.int .i64) dc2a, .v .bool true]) [] [] [93], .res (.tup [.own t_int (.int .i64) dc3a, .v .bool false]) [] [] [98], .res (.tup [.own t_int (.int .i64) dc4a, .v .bool dc4b]) [] [] [103], .res (.tup [.own t_int (.int .i64) dc5a, .v .bool dc5b]) [] [] [108], .res (.s (.v (.pr .str .str) dc6)) [] [] [], .bool false])
    (ps := [SC cfg.P i_impl_PairOfForests [.s (.v (.sl .str) xo53), .s (.v (.sl .str) xo250)] (.tup [.v (.pr .str .str) dc1a, .v .bool true]) [],
      SC cfg.P i_impl_WordOfPair [.s (.v (.pr .str .str) xo5)] (.tup [.own t_int (.int .i64) dc2a, .v .bool true]) [],
      SC cfg.P i_impl_WordOfForest [.s (.v (.sl .str) xo53)] (.tup [.own t_int (.int .i64) dc3a, .v .bool false]) [],
      SC cfg.P i_impl_WordOfForest [.s (.v (.sl .str) xo250)] (.tup [.own t_int (.int .i64) dc4a, .v .bool dc4b]) [],
      SC cfg.P i_impl_InverseWord [.s (.v (.sl (.int .i64)) dc4a)] (.tup [.own t_int (.int .i64) dc5a, .v .bool dc5b]) [],
      SC cfg.P i_laws_nReduced [.s (.v (.pr .str .str) xo5)] (.s (.v (.pr .str .str) dc6)) [],
      (!(((dc1a.1).toList == (dc6.1).toList) && ((dc1a.2).toList == (dc6.2).toList))) = false]) (st1 := laws_FnPairsOfForests_C10a x1 false) (by kernel_rfl) ⟨h1, h2, h3, h4, h5, h6, h7, trivial⟩ next

theorem laws_FnPairsOfForests_C8a_i9 (x1 : (List Int)) (x83 : Bool) (xo5 : (ByteArray × ByteArray)) (xo53 : (List ByteArray)) (xo250 : (List ByteArray))
    {e : AEx} {st : St} (next : RestSC cfg.P 2 (rest P_laws_FnPairsOfForests 10) (laws_FnPairsOfForests_C10b x1 false xo5 xo53 xo250) e st) :
    RestSC cfg.P 2 (rest P_laws_FnPairsOfForests 8) (laws_FnPairsOfForests_C8a x1 false x83 xo5 xo53 xo250) e st :=
  rest_next cfgOK (f := i_laws_FnPairsOfForests) (k := 8) (m := 2) (its := [])
    (ps := []) (st1 := laws_FnPairsOfForests_C10b x1 false xo5 xo53 xo250) (by kernel_rfl) trivial next

theorem laws_FnPairsOfForests_C10a_i1 (x1 : (List Int)) (x140 : Bool) (dc1a : (List ByteArray)) (dc1b : (List ByteArray)) (dc2a : (ByteArray × ByteArray)) (dc2b : Bool) (dc3a : (ByteArray × ByteArray)) (dc3b : Bool)
    (h1 : SC cfg.P i_spec_DrawPairOfForests [.s (.v (.sl (.int .u8)) x1)] (.tup [.own t_string .str dc1a, .own t_string .str dc1b]) [])
    (h2 : SC cfg.P i_impl_PairOfForests [.s (.v (.sl .str) dc1a), .s (.v (.sl .str) dc1b)] (.tup [.v (.pr .str .str) dc2a, .v .bool dc2b]) [])
    (h3 : SC cfg.P i_spec_PairOfForests [.s (.v (.sl .str) dc1a), .s (.v (.sl .str) dc1b)] (.tup [.v (.pr .str .str) dc3a, .v .bool dc3b]) [])
    (h4 : (!(dc2b == dc3b)) = false)
    (h5 : (!(((dc2a.1).toList == (dc3a.1).toList) && ((dc2a.2).toList == (dc3a.2).toList))) = false)
    {e : AEx} {st : St} (next : RestSC cfg.P 2 (rest P_laws_FnPairsOfForests 15) (laws_FnPairsOfForests_C15a x1 dc2b false dc2a dc1a dc1b) e st) :
    RestSC cfg.P 2 (rest P_laws_FnPairsOfForests 10) (laws_FnPairsOfForests_C10a x1 x140) e st :=
  rest_next cfgOK (f := i_laws_FnPairsOfForests) (k := 10) (m := 5) (its := [.res (.tup [.own t_string .str dc1a, .own t_string .str dc1b]) [] [] [143, 250], .res (.tup [.v (.pr .str .str) dc2a, .v .bool dc2b]) [] [] [], .res (.tup [.v (.pr .str .str) dc3a, .v .bool dc3b]) [] [] [], .bool false, .bool false])
    (ps := [SC cfg.P i_spec_DrawPairOfForests [.s (.v (.sl (.int .u8)) x1)] (.tup [.own t_string .str dc1a, .own t_string .str dc1b]) [],
      SC cfg.P i_impl_PairOfForests [.s (.v (.sl .str) dc1a), .s (.v (.sl .str) dc1b)] (.tup [.v (.pr .str .str) dc2a, .v .bool dc2b]) [],
      SC cfg.P i_spec_PairOfForests [.s (.v (.sl .str) dc1a), .s (.v (.sl .str) dc1b)] (.tup [.v (.pr .str .str) dc3a, .v .bool dc3b]) [],
      (!(dc2b == dc3b)) = false,
      (!(((dc2a.1).toList == (dc3a.1).toList) && ((dc2a.2).toList == (dc3a.2).toList))) = false]) (st1 := laws_FnPairsOfForests_C15a x1 dc2b false dc2a dc1a dc1b) (by kernel_rfl) ⟨h1, h2, h3, h4, h5, trivial⟩ next

theorem laws_FnPairsOfForests_C10b_i1 (x1 : (List Int)) (x84 : Bool) (xo5 : (ByteArray × ByteArray)) (xo53 : (List ByteArray)) (xo250 : (List ByteArray)) (dc1a : (List ByteArray)) (dc1b : (List ByteArray)) (dc2a : (ByteArray × ByteArray)) (dc2b : Bool) (dc3a : (ByteArray × ByteArray)) (dc3b : Bool)
    (h1 : SC cfg.P i_spec_DrawPairOfForests [.s (.v (.sl (.int .u8)) x1)] (.tup [.own t_string .str dc1a, .own t_string .str dc1b]) [])
    (h2 : SC cfg.P i_impl_PairOfForests [.s (.v (.sl .str) dc1a), .s (.v (.sl .str) dc1b)] (.tup [.v (.pr .str .str) dc2a, .v .bool dc2b]) [])
    (h3 : SC cfg.P i_spec_PairOfForests [.s (.v (.sl .str) dc1a), .s (.v (.sl .str) dc1b)] (.tup [.v (.pr .str .str) dc3a, .v .bool dc3b]) [])
    (h4 : (!(dc2b == dc3b)) = false)
    (h5 : (!(((dc2a.1).toList == (dc3a.1).toList) && ((dc2a.2).toList == (dc3a.2).toList))) = false)
    {e : AEx} {st : St} (next : RestSC cfg.P 2 (rest P_laws_FnPairsOfForests 15) (laws_FnPairsOfForests_C15b x1 dc2b false dc2a dc1a dc1b) e st) :
    RestSC cfg.P 2 (rest P_laws_FnPairsOfForests 10) (laws_FnPairsOfForests_C10b x1 x84 xo5 xo53 xo250) e st :=
  rest_next cfgOK (f := i_laws_FnPairsOfForests) (k := 10) (m := 5) (its := [.res (.tup [.own t_string .str dc1a, .own t_string .str dc1b]) [] [] [143, 249], .res (.tup [.v (.pr .str .str) dc2a, .v .bool dc2b]) [] [] [], .res (.tup [.v (.pr .str .str) dc3a, .v .bool dc3b]) [] [] [], .bool false, .bool false])
    (ps := [SC cfg.P i_spec_DrawPairOfForests [.s (.v (.sl (.int .u8)) x1)] (.tup [.own t_string .str dc1a, .own t_string .str dc1b]) [],
      SC cfg.P i_impl_PairOfForests [.s (.v (.sl .str) dc1a), .s (.v (.sl .str) dc1b)] (.tup [.v (.pr .str .str) dc2a, .v .bool dc2b]) [],
      SC cfg.P i_spec_PairOfForests [.s (.v (.sl .str) dc1a), .s (.v (.sl .str) dc1b)] (.tup [.v (.pr .str .str) dc3a, .v .bool dc3b]) [],
      (!(dc2b == dc3b)) = false,
      (!(((dc2a.1).toList == (dc3a.1).toList) && ((dc2a.2).toList == (dc3a.2).toList))) = false]) (st1 := laws_FnPairsOfForests_C15b x1 dc2b false dc2a dc1a dc1b) (by kernel_rfl) ⟨h1, h2, h3, h4, h5, trivial⟩ next

theorem laws_FnPairsOfForests_C15a_i1 (x1 : (List Int)) (x165 : Bool) (xo24 : (ByteArray × ByteArray)) (xo143 : (List ByteArray)) (xo250 : (List ByteArray)) (dc1a : (ByteArray × ByteArray)) (dc2a : (ByteArray × ByteArray)) (dc3a : (List ByteArray)) (dc4a : (List ByteArray)) (dc5a : (ByteArray × ByteArray))
    (h1 : SC cfg.P i_impl_PairOfForests [.s (.v (.sl .str) xo250), .s (.v (.sl .str) xo143)] (.tup [.v (.pr .str .str) dc1a, .v .bool true]) [])
    (h2 : SC cfg.P i_impl_InversePair [.s (.v (.pr .str .str) xo24)] (.tup [.v (.pr .str .str) dc2a, .v .bool true]) [])
    (h3 : (!(((dc1a.1).toList == (dc2a.1).toList) && ((dc1a.2).toList == (dc2a.2).toList))) = false)
    (h4 : SC cfg.P i_impl_StackForests [.s (.v (.sl .str) xo143), .s (.v (.sl .str) ([(⟨#[40, 46, 46, 41]⟩ : ByteArray)] : List ByteArray))] (.tup [.own t_string .str dc3a, .v .bool true]) [])
    (h5 : SC cfg.P i_impl_StackForests [.s (.v (.sl .str) xo250), .s (.v (.sl .str) ([(⟨#[40, 46, 46, 41]⟩ : ByteArray)] : List ByteArray))] (.tup [.own t_string .str dc4a, .v .bool true]) [])
    (h6 : SC cfg.P i_impl_PairOfForests [.s (.v (.sl .str) dc3a), .s (.v (.sl .str) dc4a)] (.tup [.v (.pr .str .str) dc5a, .v .bool true]) [])
    (h7 : (!(((dc5a.1).toList == (xo24.1).toList) && ((dc5a.2).toList == (xo24.2).toList))) = false)
    {e : AEx} {st : St} (next : RestSC cfg.P 2 (rest P_laws_FnPairsOfForests 17) (laws_FnPairsOfForests_C17a x1 false) e st) :
    RestSC cfg.P 2 (rest P_laws_FnPairsOfForests 15) (laws_FnPairsOfForests_C15a x1 true x165 xo24 xo143 xo250) e st :=
  rest_next cfgOK (f := i_laws_FnPairsOfForests) (k := 15) (m := 2) (its := [.res (.tup [.v (.pr .str .str) dc1a, .v .bool true]) [] [] [], .res (.tup [.v (.pr .str .str) dc2a, .v .bool true]) [] [] [], .bool false, .res (.tup [.own t_string .str dc3a, .v .bool true]) [] [] [193], .res (.tup [.own t_string .str dc4a, .v .bool true]) [] [] [199], .res (.tup [.v (.pr .str .str) dc5a, .v .bool true]) [] [] [], .bool false])
    (ps := [SC cfg.P i_impl_PairOfForests [.s (.v (.sl .str) xo250), .s (.v (.sl .str) xo143)] (.tup [.v (.pr .str .str) dc1a, .v .bool true]) [],
      SC cfg.P i_impl_InversePair [.s (.v (.pr .str .str) xo24)] (.tup [.v (.pr .str .str) dc2a, .v .bool true]) [],
      (!(((dc1a.1).toList == (dc2a.1).toList) && ((dc1a.2).toList == (dc2a.2).toList))) = false,
      SC cfg.P i_impl_StackForests [.s (.v (.sl .str) xo143), .s (.v (.sl .str) ([(⟨#[40, 46, 46, 41]⟩ : ByteArray)] : List ByteArray))] (.tup [.own t_string .str dc3a, .v .bool true]) [],
      SC cfg.P i_impl_StackForests [.s (.v (.sl .str) xo250), .s (.v (.sl .str) ([(⟨#[40, 46, 46, 41]⟩ : ByteArray)] : List ByteArray))] (.tup [.own t_string .str dc4a, .v .bool true]) [],
      SC cfg.P i_impl_PairOfForests [.s (.v (.sl .str) dc3a), .s (.v (.sl .str) dc4a)] (.tup [.v (.pr .str .str) dc5a, .v .bool true]) [],
      (!(((dc5a.1).toList == (xo24.1).toList) && ((dc5a.2).toList == (xo24.2).toList))) = false]) (st1 := laws_FnPairsOfForests_C17a x1 false) (by kernel_rfl) ⟨h1, h2, h3, h4, h5, h6, h7, trivial⟩ next

theorem laws_FnPairsOfForests_C15a_i2 (x1 : (List Int)) (x165 : Bool) (xo24 : (ByteArray × ByteArray)) (xo143 : (List ByteArray)) (xo250 : (List ByteArray)) (dc1a : (ByteArray × ByteArray)) (dc2a : (ByteArray × ByteArray)) (dc3a : (List ByteArray)) (dc4a : (List ByteArray))
    (h1 : SC cfg.P i_impl_PairOfForests [.s (.v (.sl .str) xo250), .s (.v (.sl .str) xo143)] (.tup [.v (.pr .str .str) dc1a, .v .bool true]) [])
    (h2 : SC cfg.P i_impl_InversePair [.s (.v (.pr .str .str) xo24)] (.tup [.v (.pr .str .str) dc2a, .v .bool true]) [])
    (h3 : (!(((dc1a.1).toList == (dc2a.1).toList) && ((dc1a.2).toList == (dc2a.2).toList))) = false)
    (h4 : SC cfg.P i_impl_StackForests [.s (.v (.sl .str) xo143), .s (.v (.sl .str) ([(⟨#[40, 46, 46, 41]⟩ : ByteArray)] : List ByteArray))] (.tup [.own t_string .str dc3a, .v .bool true]) [])
    (h5 : SC cfg.P i_impl_StackForests [.s (.v (.sl .str) xo250), .s (.v (.sl .str) ([(⟨#[40, 46, 46, 41]⟩ : ByteArray)] : List ByteArray))] (.tup [.own t_string .str dc4a, .v .bool false]) [])
    {e : AEx} {st : St} (next : RestSC cfg.P 2 (rest P_laws_FnPairsOfForests 17) (laws_FnPairsOfForests_C17b x1 false xo24 dc3a dc4a) e st) :
    RestSC cfg.P 2 (rest P_laws_FnPairsOfForests 15) (laws_FnPairsOfForests_C15a x1 true x165 xo24 xo143 xo250) e st :=
  rest_next cfgOK (f := i_laws_FnPairsOfForests) (k := 15) (m := 2) (its := [.res (.tup [.v (.pr .str .str) dc1a, .v .bool true]) [] [] [], .res (.tup [.v (.pr .str .str) dc2a, .v .bool true]) [] [] [], .bool false, .res (.tup [.own t_string .str dc3a, .v .bool true]) [] [] [193], .res (.tup [.own t_string .str dc4a, .v .bool false]) [] [] [199]])
    (ps := [SC cfg.P i_impl_PairOfForests [.s (.v (.sl .str) xo250), .s (.v (.sl .str) xo143)] (.tup [.v (.pr .str .str) dc1a, .v .bool true]) [],
      SC cfg.P i_impl_InversePair [.s (.v (.pr .str .str) xo24)] (.tup [.v (.pr .str .str) dc2a, .v .bool true]) [],
      (!(((dc1a.1).toList == (dc2a.1).toList) && ((dc1a.2).toList == (dc2a.2).toList))) = false,
      SC cfg.P i_impl_StackForests [.s (.v (.sl .str) xo143), .s (.v (.sl .str) ([(⟨#[40, 46, 46, 41]⟩ : ByteArray)] : List ByteArray))] (.tup [.own t_string .str dc3a, .v .bool true]) [],
      SC cfg.P i_impl_StackForests [.s (.v (.sl .str) xo250), .s (.v (.sl .str) ([(⟨#[40, 46, 46, 41]⟩ : ByteArray)] : List ByteArray))] (.tup [.own t_string .str dc4a, .v .bool false]) []]) (st1 := laws_FnPairsOfForests_C17b x1 false xo24 dc3a dc4a) (by kernel_rfl) ⟨h1, h2, h3, h4, h5, trivial⟩ next

theorem laws_FnPairsOfForests_C15a_i3 (x1 : (List Int)) (x165 : Bool) (xo24 : (ByteArray × ByteArray)) (xo143 : (List ByteArray)) (xo250 : (List ByteArray)) (dc1a : (ByteArray × ByteArray)) (dc2a : (ByteArray × ByteArray)) (dc3a : (List ByteArray)) (dc4a : (List ByteArray)) (dc4b : Bool)
    (h1 : SC cfg.P i_impl_PairOfForests [.s (.v (.sl .str) xo250), .s (.v (.sl .str) xo143)] (.tup [.v (.pr .str .str) dc1a, .v .bool true]) [])
    (h2 : SC cfg.P i_impl_InversePair [.s (.v (.pr .str .str) xo24)] (.tup [.v (.pr .str .str) dc2a, .v .bool true]) [])
    (h3 : (!(((dc1a.1).toList == (dc2a.1).toList) && ((dc1a.2).toList == (dc2a.2).toList))) = false)
    (h4 : SC cfg.P i_impl_StackForests [.s (.v (.sl .str) xo143), .s (.v (.sl .str) ([(⟨#[40, 46, 46, 41]⟩ : ByteArray)] : List ByteArray))] (.tup [.own t_string .str dc3a, .v .bool false]) [])
    (h5 : SC cfg.P i_impl_StackForests [.s (.v (.sl .str) xo250), .s (.v (.sl .str) ([(⟨#[40, 46, 46, 41]⟩ : ByteArray)] : List ByteArray))] (.tup [.own t_string .str dc4a, .v .bool dc4b]) [])
    {e : AEx} {st : St} (next : RestSC cfg.P 2 (rest P_laws_FnPairsOfForests 17) (laws_FnPairsOfForests_C17b x1 false xo24 dc3a dc4a) e st) :
    RestSC cfg.P 2 (rest P_laws_FnPairsOfForests 15) (laws_FnPairsOfForests_C15a x1 true x165 xo24 xo143 xo250) e st :=
  rest_next cfgOK (f := i_laws_FnPairsOfForests) (k := 15) (m := 2) (its := [.res (.tup [.v (.pr .str .str) dc1a, .v .bool true]) [] [] [], .res (.tup [.v (.pr .str .str) dc2a, .v .bool true]) [] [] [], .bool false, .res (.tup [.own t_string .str dc3a, .v .bool false]) [] [] [193], .res (.tup [.own t_string .str dc4a, .v .bool dc4b]) [] [] [199]])
    (ps := [SC cfg.P i_impl_PairOfForests [.s (.v (.sl .str) xo250), .s (.v (.sl .str) xo143)] (.tup [.v (.pr .str .str) dc1a, .v .bool true]) [],
      SC cfg.P i_impl_InversePair [.s (.v (.pr .str .str) xo24)] (.tup [.v (.pr .str .str) dc2a, .v .bool true]) [],
      (!(((dc1a.1).toList == (dc2a.1).toList) && ((dc1a.2).toList == (dc2a.2).toList))) = false,
      SC cfg.P i_impl_StackForests [.s (.v (.sl .str) xo143), .s (.v (.sl .str) ([(⟨#[40, 46, 46, 41]⟩ : ByteArray)] : List ByteArray))] (.tup [.own t_string .str dc3a, .v .bool false]) [],
      SC cfg.P i_impl_StackForests [.s (.v (.sl .str) xo250), .s (.v (.sl .str) ([(⟨#[40, 46, 46, 41]⟩ : ByteArray)] : List ByteArray))] (.tup [.own t_string .str dc4a, .v .bool dc4b]) []]) (st1 := laws_FnPairsOfForests_C17b x1 false xo24 dc3a dc4a) (by kernel_rfl) ⟨h1, h2, h3, h4, h5, trivial⟩ next

theorem laws_FnPairsOfForests_C15a_i4 (x1 : (List Int)) (x165 : Bool) (xo24 : (ByteArray × ByteArray)) (xo143 : (List ByteArray)) (xo250 : (List ByteArray))
    {e : AEx} {st : St} (next : RestSC cfg.P 2 (rest P_laws_FnPairsOfForests 17) (laws_FnPairsOfForests_C17c x1 false xo24 xo143 xo250) e st) :
    RestSC cfg.P 2 (rest P_laws_FnPairsOfForests 15) (laws_FnPairsOfForests_C15a x1 false x165 xo24 xo143 xo250) e st :=
  rest_next cfgOK (f := i_laws_FnPairsOfForests) (k := 15) (m := 2) (its := [])
    (ps := []) (st1 := laws_FnPairsOfForests_C17c x1 false xo24 xo143 xo250) (by kernel_rfl) trivial next

theorem laws_FnPairsOfForests_C15b_i1 (x1 : (List Int)) (x165 : Bool) (xo24 : (ByteArray × ByteArray)) (xo143 : (List ByteArray)) (xo249 : (List ByteArray)) (dc1a : (ByteArray × ByteArray)) (dc2a : (ByteArray × ByteArray)) (dc3a : (List ByteArray)) (dc4a : (List ByteArray)) (dc5a : (ByteArray × ByteArray))
    (h1 : SC cfg.P i_impl_PairOfForests [.s (.v (.sl .str) xo249), .s (.v (.sl .str) xo143)] (.tup [.v (.pr .str .str) dc1a, .v .bool true]) [])
    (h2 : SC cfg.P i_impl_InversePair [.s (.v (.pr .str .str) xo24)] (.tup [.v (.pr .str .str) dc2a, .v .bool true]) [])
    (h3 : (!(((dc1a.1).toList == (dc2a.1).toList) && ((dc1a.2).toList == (dc2a.2).toList))) = false)
    (h4 : SC cfg.P i_impl_StackForests [.s (.v (.sl .str) xo143), .s (.v (.sl .str) ([(⟨#[40, 46, 46, 41]⟩ : ByteArray)] : List ByteArray))] (.tup [.own t_string .str dc3a, .v .bool true]) [])
    (h5 : SC cfg.P i_impl_StackForests [.s (.v (.sl .str) xo249), .s (.v (.sl .str) ([(⟨#[40, 46, 46, 41]⟩ : ByteArray)] : List ByteArray))] (.tup [.own t_string .str dc4a, .v .bool true]) [])
    (h6 : SC cfg.P i_impl_PairOfForests [.s (.v (.sl .str) dc3a), .s (.v (.sl .str) dc4a)] (.tup [.v (.pr .str .str) dc5a, .v .bool true]) [])
    (h7 : (!(((dc5a.1).toList == (xo24.1).toList) && ((dc5a.2).toList == (xo24.2).toList))) = false)
    {e : AEx} {st : St} (next : RestSC cfg.P 2 (rest P_laws_FnPairsOfForests 17) (laws_FnPairsOfForests_C17a x1 false) e st) :
    RestSC cfg.P 2 (rest P_laws_FnPairsOfForests 15) (laws_FnPairsOfForests_C15b x1 true x165 xo24 xo143 xo249) e st :=
  rest_next cfgOK (f := i_laws_FnPairsOfForests) (k := 15) (m := 2) (its := [.res (.tup [.v (.pr .str .str) dc1a, .v .bool true]) [] [] [], .res (.tup [.v (.pr .str .str) dc2a, .v .bool true]) [] [] [], .bool false, .res (.tup [.own t_string .str dc3a, .v .bool true]) [] [] [193], .res (.tup [.own t_string .str dc4a, .v .bool true]) [] [] [199], .res (.tup [.v (.pr .str .str) dc5a, .v .bool true]) [] [] [], .bool false])
    (ps := [SC cfg.P i_impl_PairOfForests [.s (.v (.sl .str) xo249), .s (.v (.sl .str) xo143)] (.tup [.v (.pr .str .str) dc1a, .v .bool true]) [],
      SC cfg.P i_impl_InversePair [.s (.v (.pr .str .str) xo24)] (.tup [.v (.pr .str .str) dc2a, .v .bool true]) [],
      (!(((dc1a.1).toList == (dc2a.1).toList) && ((dc1a.2).toList == (dc2a.2).toList))) = false,
      SC cfg.P i_impl_StackForests [.s (.v (.sl .str) xo143), .s (.v (.sl .str) ([(⟨#[40, 46, 46, 41]⟩ : ByteArray)] : List ByteArray))] (.tup [.own t_string .str dc3a, .v .bool true]) [],
      SC cfg.P i_impl_StackForests [.s (.v (.sl .str) xo249), .s (.v (.sl .str) ([(⟨#[40, 46, 46, 41]⟩ : ByteArray)] : List ByteArray))] (.tup [.own t_string .str dc4a, .v .bool true]) [],
      SC cfg.P i_impl_PairOfForests [.s (.v (.sl .str) dc3a), .s (.v (.sl .str) dc4a)] (.tup [.v (.pr .str .str) dc5a, .v .bool true]) [],
      (!(((dc5a.1).toList == (xo24.1).toList) && ((dc5a.2).toList == (xo24.2).toList))) = false]) (st1 := laws_FnPairsOfForests_C17a x1 false) (by kernel_rfl) ⟨h1, h2, h3, h4, h5, h6, h7, trivial⟩ next

theorem laws_FnPairsOfForests_C15b_i2 (x1 : (List Int)) (x165 : Bool) (xo24 : (ByteArray × ByteArray)) (xo143 : (List ByteArray)) (xo249 : (List ByteArray)) (dc1a : (ByteArray × ByteArray)) (dc2a : (ByteArray × ByteArray)) (dc3a : (List ByteArray)) (dc4a : (List ByteArray))
    (h1 : SC cfg.P i_impl_PairOfForests [.s (.v (.sl .str) xo249), .s (.v (.sl .str) xo143)] (.tup [.v (.pr .str .str) dc1a, .v .bool true]) [])
    (h2 : SC cfg.P i_impl_InversePair [.s (.v (.pr .str .str) xo24)] (.tup [.v (.pr .str .str) dc2a, .v .bool true]) [])
    (h3 : (!(((dc1a.1).toList == (dc2a.1).toList) && ((dc1a.2).toList == (dc2a.2).toList))) = false)
    (h4 : SC cfg.P i_impl_StackForests [.s (.v (.sl .str) xo143), .s (.v (.sl .str) ([(⟨#[40, 46, 46, 41]⟩ : ByteArray)] : List ByteArray))] (.tup [.own t_string .str dc3a, .v .bool true]) [])
    (h5 : SC cfg.P i_impl_StackForests [.s (.v (.sl .str) xo249), .s (.v (.sl .str) ([(⟨#[40, 46, 46, 41]⟩ : ByteArray)] : List ByteArray))] (.tup [.own t_string .str dc4a, .v .bool false]) [])
    {e : AEx} {st : St} (next : RestSC cfg.P 2 (rest P_laws_FnPairsOfForests 17) (laws_FnPairsOfForests_C17b x1 false xo24 dc3a dc4a) e st) :
    RestSC cfg.P 2 (rest P_laws_FnPairsOfForests 15) (laws_FnPairsOfForests_C15b x1 true x165 xo24 xo143 xo249) e st :=
  rest_next cfgOK (f := i_laws_FnPairsOfForests) (k := 15) (m := 2) (its := [.res (.tup [.v (.pr .str .str) dc1a, .v .bool true]) [] [] [], .res (.tup [.v (.pr .str .str) dc2a, .v .bool true]) [] [] [], .bool false, .res (.tup [.own t_string .str dc3a, .v .bool true]) [] [] [193], .res (.tup [.own t_string .str dc4a, .v .bool false]) [] [] [199]])
    (ps := [SC cfg.P i_impl_PairOfForests [.s (.v (.sl .str) xo249), .s (.v (.sl .str) xo143)] (.tup [.v (.pr .str .str) dc1a, .v .bool true]) [],
      SC cfg.P i_impl_InversePair [.s (.v (.pr .str .str) xo24)] (.tup [.v (.pr .str .str) dc2a, .v .bool true]) [],
      (!(((dc1a.1).toList == (dc2a.1).toList) && ((dc1a.2).toList == (dc2a.2).toList))) = false,
      SC cfg.P i_impl_StackForests [.s (.v (.sl .str) xo143), .s (.v (.sl .str) ([(⟨#[40, 46, 46, 41]⟩ : ByteArray)] : List ByteArray))] (.tup [.own t_string .str dc3a, .v .bool true]) [],
      SC cfg.P i_impl_StackForests [.s (.v (.sl .str) xo249), .s (.v (.sl .str) ([(⟨#[40, 46, 46, 41]⟩ : ByteArray)] : List ByteArray))] (.tup [.own t_string .str dc4a, .v .bool false]) []]) (st1 := laws_FnPairsOfForests_C17b x1 false xo24 dc3a dc4a) (by kernel_rfl) ⟨h1, h2, h3, h4, h5, trivial⟩ next

theorem laws_FnPairsOfForests_C15b_i3 (x1 : (List Int)) (x165 : Bool) (xo24 : (ByteArray × ByteArray)) (xo143 : (List ByteArray)) (xo249 : (List ByteArray)) (dc1a : (ByteArray × ByteArray)) (dc2a : (ByteArray × ByteArray)) (dc3a : (List ByteArray)) (dc4a : (List ByteArray)) (dc4b : Bool)
    (h1 : SC cfg.P i_impl_PairOfForests [.s (.v (.sl .str) xo249), .s (.v (.sl .str) xo143)] (.tup [.v (.pr .str .str) dc1a, .v .bool true]) [])
    (h2 : SC cfg.P i_impl_InversePair [.s (.v (.pr .str .str) xo24)] (.tup [.v (.pr .str .str) dc2a, .v .bool true]) [])
    (h3 : (!(((dc1a.1).toList == (dc2a.1).toList) && ((dc1a.2).toList == (dc2a.2).toList))) = false)
    (h4 : SC cfg.P i_impl_StackForests [.s (.v (.sl .str) xo143), .s (.v (.sl .str) ([(⟨#[40, 46, 46, 41]⟩ : ByteArray)] : List ByteArray))] (.tup [.own t_string .str dc3a, .v .bool false]) [])
    (h5 : SC cfg.P i_impl_StackForests [.s (.v (.sl .str) xo249), .s (.v (.sl .str) ([(⟨#[40, 46, 46, 41]⟩ : ByteArray)] : List ByteArray))] (.tup [.own t_string .str dc4a, .v .bool dc4b]) [])
    {e : AEx} {st : St} (next : RestSC cfg.P 2 (rest P_laws_FnPairsOfForests 17) (laws_FnPairsOfForests_C17b x1 false xo24 dc3a dc4a) e st) :
    RestSC cfg.P 2 (rest P_laws_FnPairsOfForests 15) (laws_FnPairsOfForests_C15b x1 true x165 xo24 xo143 xo249) e st :=
  rest_next cfgOK (f := i_laws_FnPairsOfForests) (k := 15) (m := 2) (its := [.res (.tup [.v (.pr .str .str) dc1a, .v .bool true]) [] [] [], .res (.tup [.v (.pr .str .str) dc2a, .v .bool true]) [] [] [], .bool false, .res (.tup [.own t_string .str dc3a, .v .bool false]) [] [] [193], .res (.tup [.own t_string .str dc4a, .v .bool dc4b]) [] [] [199]])
    (ps := [SC cfg.P i_impl_PairOfForests [.s (.v (.sl .str) xo249), .s (.v (.sl .str) xo143)] (.tup [.v (.pr .str .str) dc1a, .v .bool true]) [],
      SC cfg.P i_impl_InversePair [.s (.v (.pr .str .str) xo24)] (.tup [.v (.pr .str .str) dc2a, .v .bool true]) [],
      (!(((dc1a.1).toList == (dc2a.1).toList) && ((dc1a.2).toList == (dc2a.2).toList))) = false,
      SC cfg.P i_impl_StackForests [.s (.v (.sl .str) xo143), .s (.v (.sl .str) ([(⟨#[40, 46, 46, 41]⟩ : ByteArray)] : List ByteArray))] (.tup [.own t_string .str dc3a, .v .bool false]) [],
      SC cfg.P i_impl_StackForests [.s (.v (.sl .str) xo249), .s (.v (.sl .str) ([(⟨#[40, 46, 46, 41]⟩ : ByteArray)] : List ByteArray))] (.tup [.own t_string .str dc4a, .v .bool dc4b]) []]) (st1 := laws_FnPairsOfForests_C17b x1 false xo24 dc3a dc4a) (by kernel_rfl) ⟨h1, h2, h3, h4, h5, trivial⟩ next

theorem laws_FnPairsOfForests_C15b_i4 (x1 : (List Int)) (x165 : Bool) (xo24 : (ByteArray × ByteArray)) (xo143 : (List ByteArray)) (xo249 : (List ByteArray))
    {e : AEx} {st : St} (next : RestSC cfg.P 2 (rest P_laws_FnPairsOfForests 17) (laws_FnPairsOfForests_C17d x1 false xo24 xo143 xo249) e st) :
    RestSC cfg.P 2 (rest P_laws_FnPairsOfForests 15) (laws_FnPairsOfForests_C15b x1 false x165 xo24 xo143 xo249) e st :=
  rest_next cfgOK (f := i_laws_FnPairsOfForests) (k := 15) (m := 2) (its := [])
    (ps := []) (st1 := laws_FnPairsOfForests_C17d x1 false xo24 xo143 xo249) (by kernel_rfl) trivial next

theorem laws_FnPairsOfForests_C17a_i1 (x1 : (List Int)) (x218 : Bool) (dc1 : (List ByteArray)) (dc2a : (ByteArray × ByteArray)) (dc2b : Bool) (dc3a : (ByteArray × ByteArray)) (dc3b : Bool)
    (h1 : SC cfg.P i_spec_DrawPairOfForest [.s (.v (.sl (.int .u8)) x1)] (.s (.own t_string .str dc1)) [])
    (h2 : SC cfg.P i_impl_PairOfForest [.s (.v (.sl .str) dc1)] (.tup [.v (.pr .str .str) dc2a, .v .bool dc2b]) [])
    (h3 : SC cfg.P i_spec_PairOfForest [.s (.v (.sl .str) dc1)] (.tup [.v (.pr .str .str) dc3a, .v .bool dc3b]) [])
    (h4 : (!(dc2b == dc3b)) = false)
    (h5 : (!(((dc2a.1).toList == (dc3a.1).toList) && ((dc2a.2).toList == (dc3a.2).toList))) = false)
    {e : AEx} {st : St} (next : RestSC cfg.P 2 (rest P_laws_FnPairsOfForests 22) (laws_FnPairsOfForests_C22a dc2b false dc2a dc1) e st) :
    RestSC cfg.P 2 (rest P_laws_FnPairsOfForests 17) (laws_FnPairsOfForests_C17a x1 x218) e st :=
  rest_next cfgOK (f := i_laws_FnPairsOfForests) (k := 17) (m := 5) (its := [.res (.s (.own t_string .str dc1)) [] [] [220], .res (.tup [.v (.pr .str .str) dc2a, .v .bool dc2b]) [] [] [], .res (.tup [.v (.pr .str .str) dc3a, .v .bool dc3b]) [] [] [], .bool false, .bool false])
    (ps := [SC cfg.P i_spec_DrawPairOfForest [.s (.v (.sl (.int .u8)) x1)] (.s (.own t_string .str dc1)) [],
      SC cfg.P i_impl_PairOfForest [.s (.v (.sl .str) dc1)] (.tup [.v (.pr .str .str) dc2a, .v .bool dc2b]) [],
      SC cfg.P i_spec_PairOfForest [.s (.v (.sl .str) dc1)] (.tup [.v (.pr .str .str) dc3a, .v .bool dc3b]) [],
      (!(dc2b == dc3b)) = false,
      (!(((dc2a.1).toList == (dc3a.1).toList) && ((dc2a.2).toList == (dc3a.2).toList))) = false]) (st1 := laws_FnPairsOfForests_C22a dc2b false dc2a dc1) (by kernel_rfl) ⟨h1, h2, h3, h4, h5, trivial⟩ next

theorem laws_FnPairsOfForests_C17b_i1 (x1 : (List Int)) (x205 : Bool) (xo24 : (ByteArray × ByteArray)) (xo193 : (List ByteArray)) (xo199 : (List ByteArray)) (dc1 : (List ByteArray)) (dc2a : (ByteArray × ByteArray)) (dc2b : Bool) (dc3a : (ByteArray × ByteArray)) (dc3b : Bool)
    (h1 : SC cfg.P i_spec_DrawPairOfForest [.s (.v (.sl (.int .u8)) x1)] (.s (.own t_string .str dc1)) [])
    (h2 : SC cfg.P i_impl_PairOfForest [.s (.v (.sl .str) dc1)] (.tup [.v (.pr .str .str) dc2a, .v .bool dc2b]) [])
    (h3 : SC cfg.P i_spec_PairOfForest [.s (.v (.sl .str) dc1)] (.tup [.v (.pr .str .str) dc3a, .v .bool dc3b]) [])
    (h4 : (!(dc2b == dc3b)) = false)
    (h5 : (!(((dc2a.1).toList == (dc3a.1).toList) && ((dc2a.2).toList == (dc3a.2).toList))) = false)
    {e : AEx} {st : St} (next : RestSC cfg.P 2 (rest P_laws_FnPairsOfForests 22) (laws_FnPairsOfForests_C22a dc2b false dc2a dc1) e st) :
    RestSC cfg.P 2 (rest P_laws_FnPairsOfForests 17) (laws_FnPairsOfForests_C17b x1 x205 xo24 xo193 xo199) e st :=
  rest_next cfgOK (f := i_laws_FnPairsOfForests) (k := 17) (m := 5) (its := [.res (.s (.own t_string .str dc1)) [] [] [220], .res (.tup [.v (.pr .str .str) dc2a, .v .bool dc2b]) [] [] [], .res (.tup [.v (.pr .str .str) dc3a, .v .bool dc3b]) [] [] [], .bool false, .bool false])
    (ps := [SC cfg.P i_spec_DrawPairOfForest [.s (.v (.sl (.int .u8)) x1)] (.s (.own t_string .str dc1)) [],
      SC cfg.P i_impl_PairOfForest [.s (.v (.sl .str) dc1)] (.tup [.v (.pr .str .str) dc2a, .v .bool dc2b]) [],
      SC cfg.P i_spec_PairOfForest [.s (.v (.sl .str) dc1)] (.tup [.v (.pr .str .str) dc3a, .v .bool dc3b]) [],
      (!(dc2b == dc3b)) = false,
      (!(((dc2a.1).toList == (dc3a.1).toList) && ((dc2a.2).toList == (dc3a.2).toList))) = false]) (st1 := laws_FnPairsOfForests_C22a dc2b false dc2a dc1) (by kernel_rfl) ⟨h1, h2, h3, h4, h5, trivial⟩ next

theorem laws_FnPairsOfForests_C17c_i1 (x1 : (List Int)) (x166 : Bool) (xo24 : (ByteArray × ByteArray)) (xo143 : (List ByteArray)) (xo250 : (List ByteArray)) (dc1 : (List ByteArray)) (dc2a : (ByteArray × ByteArray)) (dc2b : Bool) (dc3a : (ByteArray × ByteArray)) (dc3b : Bool)
    (h1 : SC cfg.P i_spec_DrawPairOfForest [.s (.v (.sl (.int .u8)) x1)] (.s (.own t_string .str dc1)) [])
    (h2 : SC cfg.P i_impl_PairOfForest [.s (.v (.sl .str) dc1)] (.tup [.v (.pr .str .str) dc2a, .v .bool dc2b]) [])
    (h3 : SC cfg.P i_spec_PairOfForest [.s (.v (.sl .str) dc1)] (.tup [.v (.pr .str .str) dc3a, .v .bool dc3b]) [])
    (h4 : (!(dc2b == dc3b)) = false)
    (h5 : (!(((dc2a.1).toList == (dc3a.1).toList) && ((dc2a.2).toList == (dc3a.2).toList))) = false)
    {e : AEx} {st : St} (next : RestSC cfg.P 2 (rest P_laws_FnPairsOfForests 22) (laws_FnPairsOfForests_C22a dc2b false dc2a dc1) e st) :
    RestSC cfg.P 2 (rest P_laws_FnPairsOfForests 17) (laws_FnPairsOfForests_C17c x1 x166 xo24 xo143 xo250) e st :=
  rest_next cfgOK (f := i_laws_FnPairsOfForests) (k := 17) (m := 5) (its := [.res (.s (.own t_string .str dc1)) [] [] [220], .res (.tup [.v (.pr .str .str) dc2a, .v .bool dc2b]) [] [] [], .res (.tup [.v (.pr .str .str) dc3a, .v .bool dc3b]) [] [] [], .bool false, .bool false])
    (ps := [SC cfg.P i_spec_DrawPairOfForest [.s (.v (.sl (.int .u8)) x1)] (.s (.own t_string .str dc1)) [],
      SC cfg.P i_impl_PairOfForest [.s (.v (.sl .str) dc1)] (.tup [.v (.pr .str .str) dc2a, .v .bool dc2b]) [],
      SC cfg.P i_spec_PairOfForest [.s (.v (.sl .str) dc1)] (.tup [.v (.pr .str .str) dc3a, .v .bool dc3b]) [],
      (!(dc2b == dc3b)) = false,
      (!(((dc2a.1).toList == (dc3a.1).toList) && ((dc2a.2).toList == (dc3a.2).toList))) = false]) (st1 := laws_FnPairsOfForests_C22a dc2b false dc2a dc1) (by kernel_rfl) ⟨h1, h2, h3, h4, h5, trivial⟩ next

theorem laws_FnPairsOfForests_C17d_i1 (x1 : (List Int)) (x166 : Bool) (xo24 : (ByteArray × ByteArray)) (xo143 : (List ByteArray)) (xo249 : (List ByteArray)) (dc1 : (List ByteArray)) (dc2a : (ByteArray × ByteArray)) (dc2b : Bool) (dc3a : (ByteArray × ByteArray)) (dc3b : Bool)
    (h1 : SC cfg.P i_spec_DrawPairOfForest [.s (.v (.sl (.int .u8)) x1)] (.s (.own t_string .str dc1)) [])
    (h2 : SC cfg.P i_impl_PairOfForest [.s (.v (.sl .str) dc1)] (.tup [.v (.pr .str .str) dc2a, .v .bool dc2b]) [])
    (h3 : SC cfg.P i_spec_PairOfForest [.s (.v (.sl .str) dc1)] (.tup [.v (.pr .str .str) dc3a, .v .bool dc3b]) [])
    (h4 : (!(dc2b == dc3b)) = false)
    (h5 : (!(((dc2a.1).toList == (dc3a.1).toList) && ((dc2a.2).toList == (dc3a.2).toList))) = false)
    {e : AEx} {st : St} (next : RestSC cfg.P 2 (rest P_laws_FnPairsOfForests 22) (laws_FnPairsOfForests_C22a dc2b false dc2a dc1) e st) :
    RestSC cfg.P 2 (rest P_laws_FnPairsOfForests 17) (laws_FnPairsOfForests_C17d x1 x166 xo24 xo143 xo249) e st :=
  rest_next cfgOK (f := i_laws_FnPairsOfForests) (k := 17) (m := 5) (its := [.res (.s (.own t_string .str dc1)) [] [] [220], .res (.tup [.v (.pr .str .str) dc2a, .v .bool dc2b]) [] [] [], .res (.tup [.v (.pr .str .str) dc3a, .v .bool dc3b]) [] [] [], .bool false, .bool false])
    (ps := [SC cfg.P i_spec_DrawPairOfForest [.s (.v (.sl (.int .u8)) x1)] (.s (.own t_string .str dc1)) [],
      SC cfg.P i_impl_PairOfForest [.s (.v (.sl .str) dc1)] (.tup [.v (.pr .str .str) dc2a, .v .bool dc2b]) [],
      SC cfg.P i_spec_PairOfForest [.s (.v (.sl .str) dc1)] (.tup [.v (.pr .str .str) dc3a, .v .bool dc3b]) [],
      (!(dc2b == dc3b)) = false,
      (!(((dc2a.1).toList == (dc3a.1).toList) && ((dc2a.2).toList == (dc3a.2).toList))) = false]) (st1 := laws_FnPairsOfForests_C22a dc2b false dc2a dc1) (by kernel_rfl) ⟨h1, h2, h3, h4, h5, trivial⟩ next

theorem laws_FnPairsOfForests_C22a_x1 (x238 : Bool) (xo40 : (ByteArray × ByteArray)) (xo220 : (List ByteArray)) (dc1a : (ByteArray × ByteArray))
    (h1 : SC cfg.P i_impl_PairOfForests [.s (.v (.sl .str) xo220), .s (.v (.sl .str) ([] : List ByteArray))] (.tup [.v (.pr .str .str) dc1a, .v .bool true]) [])
    (h2 : (((dc1a.1).toList == (xo40.1).toList) && ((dc1a.2).toList == (xo40.2).toList)) = true) :
    RestSC cfg.P 2 (rest P_laws_FnPairsOfForests 22) (laws_FnPairsOfForests_C22a true x238 xo40 xo220) .ret (laws_FnPairsOfForests_R1 true) :=
  rest_ret cfgOK (f := i_laws_FnPairsOfForests) (k := 22) (m := 2) (its := [.res (.tup [.v (.pr .str .str) dc1a, .v .bool true]) [] [] [], .bool true])
    (ps := [SC cfg.P i_impl_PairOfForests [.s (.v (.sl .str) xo220), .s (.v (.sl .str) ([] : List ByteArray))] (.tup [.v (.pr .str .str) dc1a, .v .bool true]) [],
      (((dc1a.1).toList == (xo40.1).toList) && ((dc1a.2).toList == (xo40.2).toList)) = true]) (by kernel_rfl) ⟨h1, h2, trivial⟩

theorem laws_FnPairsOfForests_C22a_i2 (x238 : Bool) (xo40 : (ByteArray × ByteArray)) (xo220 : (List ByteArray))
    {e : AEx} {st : St} (next : RestSC cfg.P 2 (rest P_laws_FnPairsOfForests 24) (laws_FnPairsOfForests_C24a false xo40 xo220) e st) :
    RestSC cfg.P 2 (rest P_laws_FnPairsOfForests 22) (laws_FnPairsOfForests_C22a false x238 xo40 xo220) e st :=
  rest_next cfgOK (f := i_laws_FnPairsOfForests) (k := 22) (m := 2) (its := [])
    (ps := []) (st1 := laws_FnPairsOfForests_C24a false xo40 xo220) (by kernel_rfl) trivial next

theorem laws_FnPairsOfForests_C24a_x1 (x239 : Bool) (xo40 : (ByteArray × ByteArray)) (xo220 : (List ByteArray))
     :
    RestSC cfg.P 2 (rest P_laws_FnPairsOfForests 24) (laws_FnPairsOfForests_C24a x239 xo40 xo220) .ret (laws_FnPairsOfForests_R1 true) :=
  rest_ret cfgOK (f := i_laws_FnPairsOfForests) (k := 24) (m := 2) (its := [])
    (ps := []) (by kernel_rfl) trivial

theorem laws_FnPairsOfForests_R1_of (a0 : (List Int)) (a1 : (List Int)) (y4 : Bool)
    (h : RestSC cfg.P 2 (rest P_laws_FnPairsOfForests 0) (laws_FnPairsOfForests_C0a a0 a1) .ret (laws_FnPairsOfForests_R1 y4)) :
    SC cfg.P i_laws_FnPairsOfForests [.s (.v (.sl (.int .u8)) a0), .s (.v (.sl (.int .u8)) a1)] (.s (.v .bool y4)) [] :=
  SC_of_rest cfgOK (f := i_laws_FnPairsOfForests) h (by kernel_rfl) (by kernel_rfl) (by kernel_rfl) get_laws_FnPairsOfForests (by decide)

/-! ### laws_big -/


theorem laws_big_p1 (a0 : (List Int)) (a1 : (List Int))
    (h1 : ((List.length a0 : Nat) : Int) > (1048576 : Int)) :
    SC cfg.P i_laws_big [.s (.v (.sl (.int .u8)) a0), .s (.v (.sl (.int .u8)) a1)] (.s (.v .bool true)) [] :=
  SC_of_run cfgOK (its := [.bool true])
    (ps := [decide (((List.length a0 : Nat) : Int) > (1048576 : Int)) = true]) (by kernel_rfl) ⟨(decide_eq_true h1), trivial⟩ get_laws_big (by decide)

theorem laws_big_p2 (a0 : (List Int)) (a1 : (List Int))
    (h1 : ¬ (((List.length a0 : Nat) : Int) > (1048576 : Int)))
    (h2 : ((List.length a1 : Nat) : Int) > (IntKind.wrap .i64 ((1048576 : Int) - ((List.length a0 : Nat) : Int)))) :
    SC cfg.P i_laws_big [.s (.v (.sl (.int .u8)) a0), .s (.v (.sl (.int .u8)) a1)] (.s (.v .bool true)) [] :=
  SC_of_run cfgOK (its := [.bool false, .bool true])
    (ps := [decide (((List.length a0 : Nat) : Int) > (1048576 : Int)) = false,
      decide (((List.length a1 : Nat) : Int) > (IntKind.wrap .i64 ((1048576 : Int) - ((List.length a0 : Nat) : Int)))) = true]) (by kernel_rfl) ⟨(decide_eq_false h1), (decide_eq_true h2), trivial⟩ get_laws_big (by decide)

theorem laws_big_p3 (a0 : (List Int)) (a1 : (List Int))
    (h1 : ¬ (((List.length a0 : Nat) : Int) > (1048576 : Int)))
    (h2 : ¬ (((List.length a1 : Nat) : Int) > (IntKind.wrap .i64 ((1048576 : Int) - ((List.length a0 : Nat) : Int))))) :
    SC cfg.P i_laws_big [.s (.v (.sl (.int .u8)) a0), .s (.v (.sl (.int .u8)) a1)] (.s (.v .bool false)) [] :=
  SC_of_run cfgOK (its := [.bool false, .bool false])
    (ps := [decide (((List.length a0 : Nat) : Int) > (1048576 : Int)) = false,
      decide (((List.length a1 : Nat) : Int) > (IntKind.wrap .i64 ((1048576 : Int) - ((List.length a0 : Nat) : Int)))) = false]) (by kernel_rfl) ⟨(decide_eq_false h1), (decide_eq_false h2), trivial⟩ get_laws_big (by decide)

/-! ### spec_DrawForestsOfPair -/


theorem spec_DrawForestsOfPair_p1 (a0 : (List Int)) (c1 : (ByteArray × ByteArray)) (c1o0 : ((List Int) × (Int × Int)))
    (h1 : SC cfg.P i_spec_l1Cur_pair [.s (.mbx (.pr (.sl (.int .u8)) (.pr (.int .i64) (.int .u64))) (a0, ((0 : Int), (0 : Int)))), .s (.v (.int .i64) (7 : Int))] (.s (.v (.pr .str .str) c1)) [.box (.pr (.sl (.int .u8)) (.pr (.int .i64) (.int .u64))) c1o0]) :
    SC cfg.P i_spec_DrawForestsOfPair [.s (.v (.sl (.int .u8)) a0)] (.s (.v (.pr .str .str) c1)) [] :=
  SC_of_run cfgOK (its := [.res (.s (.v (.pr .str .str) c1)) [.box (.pr (.sl (.int .u8)) (.pr (.int .i64) (.int .u64))) c1o0] [] []])
    (ps := [SC cfg.P i_spec_l1Cur_pair [.s (.mbx (.pr (.sl (.int .u8)) (.pr (.int .i64) (.int .u64))) (a0, ((0 : Int), (0 : Int)))), .s (.v (.int .i64) (7 : Int))] (.s (.v (.pr .str .str) c1)) [.box (.pr (.sl (.int .u8)) (.pr (.int .i64) (.int .u64))) c1o0]]) (by kernel_rfl) ⟨h1, trivial⟩ get_spec_DrawForestsOfPair (by decide)

/-! ### impl_ForestsOfPair -/


theorem impl_ForestsOfPair_p1 (a0 : (ByteArray × ByteArray)) (c1a : (Tr × Tr)) (c2 : (Tr × Tr)) (c3 : (List Tr)) (c4a : (List ByteArray)) (c5 : (List Tr)) (c6a : (List ByteArray))
    (h1 : SC cfg.P i_impl_pairOf [.s (.v (.pr .str .str) a0)] (.tup [.v (.pr .tree .tree) c1a, .v .bool true]) [])
    (h2 : SC cfg.P i_impl_pair_reduced [.s (.v (.pr .tree .tree) c1a)] (.s (.v (.pr .tree .tree) c2)) [])
    (h3 : SC cfg.P i_impl_hanging [.s (.v .tree c2.1)] (.s (.v (.sl .tree) c3)) [])
    (h4 : SC cfg.P i_impl_forest_texts [.s (.v (.sl .tree) c3)] (.tup [.own t_string .str c4a, .v .bool true]) [])
    (h5 : SC cfg.P i_impl_hanging [.s (.v .tree c2.2)] (.s (.v (.sl .tree) c5)) [])
    (h6 : SC cfg.P i_impl_forest_texts [.s (.v (.sl .tree) c5)] (.tup [.own t_string .str c6a, .v .bool true]) []) :
    SC cfg.P i_impl_ForestsOfPair [.s (.v (.pr .str .str) a0)] (.tup [.own t_string .str c4a, .own t_string .str c6a, .v .bool true]) [] :=
  SC_of_run cfgOK (its := [.res (.tup [.v (.pr .tree .tree) c1a, .v .bool true]) [] [] [], .res (.s (.v (.pr .tree .tree) c2)) [] [] [], .res (.s (.v (.sl .tree) c3)) [] [] [], .res (.tup [.own t_string .str c4a, .v .bool true]) [] [] [24], .res (.s (.v (.sl .tree) c5)) [] [] [], .res (.tup [.own t_string .str c6a, .v .bool true]) [] [] [31]])
    (ps := [SC cfg.P i_impl_pairOf [.s (.v (.pr .str .str) a0)] (.tup [.v (.pr .tree .tree) c1a, .v .bool true]) [],
      SC cfg.P i_impl_pair_reduced [.s (.v (.pr .tree .tree) c1a)] (.s (.v (.pr .tree .tree) c2)) [],
      SC cfg.P i_impl_hanging [.s (.v .tree c2.1)] (.s (.v (.sl .tree) c3)) [],
      SC cfg.P i_impl_forest_texts [.s (.v (.sl .tree) c3)] (.tup [.own t_string .str c4a, .v .bool true]) [],
      SC cfg.P i_impl_hanging [.s (.v .tree c2.2)] (.s (.v (.sl .tree) c5)) [],
      SC cfg.P i_impl_forest_texts [.s (.v (.sl .tree) c5)] (.tup [.own t_string .str c6a, .v .bool true]) []]) (by kernel_rfl) ⟨h1, h2, h3, h4, h5, h6, trivial⟩ get_impl_ForestsOfPair (by decide)

theorem impl_ForestsOfPair_p2 (a0 : (ByteArray × ByteArray)) (c1a : (Tr × Tr)) (c2 : (Tr × Tr)) (c3 : (List Tr)) (c4a : (List ByteArray)) (c5 : (List Tr)) (c6a : (List ByteArray))
    (h1 : SC cfg.P i_impl_pairOf [.s (.v (.pr .str .str) a0)] (.tup [.v (.pr .tree .tree) c1a, .v .bool true]) [])
    (h2 : SC cfg.P i_impl_pair_reduced [.s (.v (.pr .tree .tree) c1a)] (.s (.v (.pr .tree .tree) c2)) [])
    (h3 : SC cfg.P i_impl_hanging [.s (.v .tree c2.1)] (.s (.v (.sl .tree) c3)) [])
    (h4 : SC cfg.P i_impl_forest_texts [.s (.v (.sl .tree) c3)] (.tup [.own t_string .str c4a, .v .bool true]) [])
    (h5 : SC cfg.P i_impl_hanging [.s (.v .tree c2.2)] (.s (.v (.sl .tree) c5)) [])
    (h6 : SC cfg.P i_impl_forest_texts [.s (.v (.sl .tree) c5)] (.tup [.own t_string .str c6a, .v .bool false]) []) :
    SC cfg.P i_impl_ForestsOfPair [.s (.v (.pr .str .str) a0)] (.tup [.own t_string .str ([] : List ByteArray), .own t_string .str ([] : List ByteArray), .v .bool false]) [] :=
  SC_of_run cfgOK (its := [.res (.tup [.v (.pr .tree .tree) c1a, .v .bool true]) [] [] [], .res (.s (.v (.pr .tree .tree) c2)) [] [] [], .res (.s (.v (.sl .tree) c3)) [] [] [], .res (.tup [.own t_string .str c4a, .v .bool true]) [] [] [24], .res (.s (.v (.sl .tree) c5)) [] [] [], .res (.tup [.own t_string .str c6a, .v .bool false]) [] [] [31]])
    (ps := [SC cfg.P i_impl_pairOf [.s (.v (.pr .str .str) a0)] (.tup [.v (.pr .tree .tree) c1a, .v .bool true]) [],
      SC cfg.P i_impl_pair_reduced [.s (.v (.pr .tree .tree) c1a)] (.s (.v (.pr .tree .tree) c2)) [],
      SC cfg.P i_impl_hanging [.s (.v .tree c2.1)] (.s (.v (.sl .tree) c3)) [],
      SC cfg.P i_impl_forest_texts [.s (.v (.sl .tree) c3)] (.tup [.own t_string .str c4a, .v .bool true]) [],
      SC cfg.P i_impl_hanging [.s (.v .tree c2.2)] (.s (.v (.sl .tree) c5)) [],
      SC cfg.P i_impl_forest_texts [.s (.v (.sl .tree) c5)] (.tup [.own t_string .str c6a, .v .bool false]) []]) (by kernel_rfl) ⟨h1, h2, h3, h4, h5, h6, trivial⟩ get_impl_ForestsOfPair (by decide)

theorem impl_ForestsOfPair_p3 (a0 : (ByteArray × ByteArray)) (c1a : (Tr × Tr)) (c2 : (Tr × Tr)) (c3 : (List Tr)) (c4a : (List ByteArray)) (c5 : (List Tr)) (c6a : (List ByteArray)) (c6b : Bool)
    (h1 : SC cfg.P i_impl_pairOf [.s (.v (.pr .str .str) a0)] (.tup [.v (.pr .tree .tree) c1a, .v .bool true]) [])
    (h2 : SC cfg.P i_impl_pair_reduced [.s (.v (.pr .tree .tree) c1a)] (.s (.v (.pr .tree .tree) c2)) [])
    (h3 : SC cfg.P i_impl_hanging [.s (.v .tree c2.1)] (.s (.v (.sl .tree) c3)) [])
    (h4 : SC cfg.P i_impl_forest_texts [.s (.v (.sl .tree) c3)] (.tup [.own t_string .str c4a, .v .bool false]) [])
    (h5 : SC cfg.P i_impl_hanging [.s (.v .tree c2.2)] (.s (.v (.sl .tree) c5)) [])
    (h6 : SC cfg.P i_impl_forest_texts [.s (.v (.sl .tree) c5)] (.tup [.own t_string .str c6a, .v .bool c6b]) []) :
    SC cfg.P i_impl_ForestsOfPair [.s (.v (.pr .str .str) a0)] (.tup [.own t_string .str ([] : List ByteArray), .own t_string .str ([] : List ByteArray), .v .bool false]) [] :=
  SC_of_run cfgOK (its := [.res (.tup [.v (.pr .tree .tree) c1a, .v .bool true]) [] [] [], .res (.s (.v (.pr .tree .tree) c2)) [] [] [], .res (.s (.v (.sl .tree) c3)) [] [] [], .res (.tup [.own t_string .str c4a, .v .bool false]) [] [] [24], .res (.s (.v (.sl .tree) c5)) [] [] [], .res (.tup [.own t_string .str c6a, .v .bool c6b]) [] [] [31]])
    (ps := [SC cfg.P i_impl_pairOf [.s (.v (.pr .str .str) a0)] (.tup [.v (.pr .tree .tree) c1a, .v .bool true]) [],
      SC cfg.P i_impl_pair_reduced [.s (.v (.pr .tree .tree) c1a)] (.s (.v (.pr .tree .tree) c2)) [],
      SC cfg.P i_impl_hanging [.s (.v .tree c2.1)] (.s (.v (.sl .tree) c3)) [],
      SC cfg.P i_impl_forest_texts [.s (.v (.sl .tree) c3)] (.tup [.own t_string .str c4a, .v .bool false]) [],
      SC cfg.P i_impl_hanging [.s (.v .tree c2.2)] (.s (.v (.sl .tree) c5)) [],
      SC cfg.P i_impl_forest_texts [.s (.v (.sl .tree) c5)] (.tup [.own t_string .str c6a, .v .bool c6b]) []]) (by kernel_rfl) ⟨h1, h2, h3, h4, h5, h6, trivial⟩ get_impl_ForestsOfPair (by decide)

theorem impl_ForestsOfPair_p4 (a0 : (ByteArray × ByteArray)) (c1a : (Tr × Tr))
    (h1 : SC cfg.P i_impl_pairOf [.s (.v (.pr .str .str) a0)] (.tup [.v (.pr .tree .tree) c1a, .v .bool false]) []) :
    SC cfg.P i_impl_ForestsOfPair [.s (.v (.pr .str .str) a0)] (.tup [.own t_string .str ([] : List ByteArray), .own t_string .str ([] : List ByteArray), .v .bool false]) [] :=
  SC_of_run cfgOK (its := [.res (.tup [.v (.pr .tree .tree) c1a, .v .bool false]) [] [] []])
    (ps := [SC cfg.P i_impl_pairOf [.s (.v (.pr .str .str) a0)] (.tup [.v (.pr .tree .tree) c1a, .v .bool false]) []]) (by kernel_rfl) ⟨h1, trivial⟩ get_impl_ForestsOfPair (by decide)

/-! ### spec_ForestsOfPair -/


theorem spec_ForestsOfPair_p1 (a0 : (ByteArray × ByteArray)) (c2 : (ByteArray × ByteArray)) (c3 : (List ByteArray)) (c4a : (List ByteArray)) (c5 : (List ByteArray)) (c6a : (List ByteArray))
    (h1 : SC cfg.P i_spec_prGood [.s (.v (.pr .str .str) a0)] (.s (.v .bool true)) [])
    (h2 : SC cfg.P i_spec_prReduce [.s (.v (.pr .str .str) a0), .s (.v (.sl (.int .i64)) ([] : List Int))] (.s (.v (.pr .str .str) c2)) [])
    (h3 : SC cfg.P i_spec_foHanging [.s (.v .str c2.1)] (.s (.own t_string .str c3)) [])
    (h4 : SC cfg.P i_spec_foIf [.s (.v (.sl .str) c3)] (.tup [.own t_string .str c4a, .v .bool true]) [])
    (h5 : SC cfg.P i_spec_foHanging [.s (.v .str c2.2)] (.s (.own t_string .str c5)) [])
    (h6 : SC cfg.P i_spec_foIf [.s (.v (.sl .str) c5)] (.tup [.own t_string .str c6a, .v .bool true]) []) :
    SC cfg.P i_spec_ForestsOfPair [.s (.v (.pr .str .str) a0)] (.tup [.own t_string .str c4a, .own t_string .str c6a, .v .bool true]) [] :=
  SC_of_run cfgOK (its := [.res (.s (.v .bool true)) [] [] [], .res (.s (.v (.pr .str .str) c2)) [] [] [], .res (.s (.own t_string .str c3)) [] [] [17], .res (.tup [.own t_string .str c4a, .v .bool true]) [] [] [18], .res (.s (.own t_string .str c5)) [] [] [24], .res (.tup [.own t_string .str c6a, .v .bool true]) [] [] [25]])
    (ps := [SC cfg.P i_spec_prGood [.s (.v (.pr .str .str) a0)] (.s (.v .bool true)) [],
      SC cfg.P i_spec_prReduce [.s (.v (.pr .str .str) a0), .s (.v (.sl (.int .i64)) ([] : List Int))] (.s (.v (.pr .str .str) c2)) [],
      SC cfg.P i_spec_foHanging [.s (.v .str c2.1)] (.s (.own t_string .str c3)) [],
      SC cfg.P i_spec_foIf [.s (.v (.sl .str) c3)] (.tup [.own t_string .str c4a, .v .bool true]) [],
      SC cfg.P i_spec_foHanging [.s (.v .str c2.2)] (.s (.own t_string .str c5)) [],
      SC cfg.P i_spec_foIf [.s (.v (.sl .str) c5)] (.tup [.own t_string .str c6a, .v .bool true]) []]) (by kernel_rfl) ⟨h1, h2, h3, h4, h5, h6, trivial⟩ get_spec_ForestsOfPair (by decide)

theorem spec_ForestsOfPair_p2 (a0 : (ByteArray × ByteArray)) (c2 : (ByteArray × ByteArray)) (c3 : (List ByteArray)) (c4a : (List ByteArray)) (c5 : (List ByteArray)) (c6a : (List ByteArray))
    (h1 : SC cfg.P i_spec_prGood [.s (.v (.pr .str .str) a0)] (.s (.v .bool true)) [])
    (h2 : SC cfg.P i_spec_prReduce [.s (.v (.pr .str .str) a0), .s (.v (.sl (.int .i64)) ([] : List Int))] (.s (.v (.pr .str .str) c2)) [])
    (h3 : SC cfg.P i_spec_foHanging [.s (.v .str c2.1)] (.s (.own t_string .str c3)) [])
    (h4 : SC cfg.P i_spec_foIf [.s (.v (.sl .str) c3)] (.tup [.own t_string .str c4a, .v .bool true]) [])
    (h5 : SC cfg.P i_spec_foHanging [.s (.v .str c2.2)] (.s (.own t_string .str c5)) [])
    (h6 : SC cfg.P i_spec_foIf [.s (.v (.sl .str) c5)] (.tup [.own t_string .str c6a, .v .bool false]) []) :
    SC cfg.P i_spec_ForestsOfPair [.s (.v (.pr .str .str) a0)] (.tup [.own t_string .str ([] : List ByteArray), .own t_string .str ([] : List ByteArray), .v .bool false]) [] :=
  SC_of_run cfgOK (its := [.res (.s (.v .bool true)) [] [] [], .res (.s (.v (.pr .str .str) c2)) [] [] [], .res (.s (.own t_string .str c3)) [] [] [17], .res (.tup [.own t_string .str c4a, .v .bool true]) [] [] [18], .res (.s (.own t_string .str c5)) [] [] [24], .res (.tup [.own t_string .str c6a, .v .bool false]) [] [] [25]])
    (ps := [SC cfg.P i_spec_prGood [.s (.v (.pr .str .str) a0)] (.s (.v .bool true)) [],
      SC cfg.P i_spec_prReduce [.s (.v (.pr .str .str) a0), .s (.v (.sl (.int .i64)) ([] : List Int))] (.s (.v (.pr .str .str) c2)) [],
      SC cfg.P i_spec_foHanging [.s (.v .str c2.1)] (.s (.own t_string .str c3)) [],
      SC cfg.P i_spec_foIf [.s (.v (.sl .str) c3)] (.tup [.own t_string .str c4a, .v .bool true]) [],
      SC cfg.P i_spec_foHanging [.s (.v .str c2.2)] (.s (.own t_string .str c5)) [],
      SC cfg.P i_spec_foIf [.s (.v (.sl .str) c5)] (.tup [.own t_string .str c6a, .v .bool false]) []]) (by kernel_rfl) ⟨h1, h2, h3, h4, h5, h6, trivial⟩ get_spec_ForestsOfPair (by decide)

theorem spec_ForestsOfPair_p3 (a0 : (ByteArray × ByteArray)) (c2 : (ByteArray × ByteArray)) (c3 : (List ByteArray)) (c4a : (List ByteArray)) (c5 : (List ByteArray)) (c6a : (List ByteArray)) (c6b : Bool)
    (h1 : SC cfg.P i_spec_prGood [.s (.v (.pr .str .str) a0)] (.s (.v .bool true)) [])
    (h2 : SC cfg.P i_spec_prReduce [.s (.v (.pr .str .str) a0), .s (.v (.sl (.int .i64)) ([] : List Int))] (.s (.v (.pr .str .str) c2)) [])
    (h3 : SC cfg.P i_spec_foHanging [.s (.v .str c2.1)] (.s (.own t_string .str c3)) [])
    (h4 : SC cfg.P i_spec_foIf [.s (.v (.sl .str) c3)] (.tup [.own t_string .str c4a, .v .bool false]) [])
    (h5 : SC cfg.P i_spec_foHanging [.s (.v .str c2.2)] (.s (.own t_string .str c5)) [])
    (h6 : SC cfg.P i_spec_foIf [.s (.v (.sl .str) c5)] (.tup [.own t_string .str c6a, .v .bool c6b]) []) :
    SC cfg.P i_spec_ForestsOfPair [.s (.v (.pr .str .str) a0)] (.tup [.own t_string .str ([] : List ByteArray), .own t_string .str ([] : List ByteArray), .v .bool false]) [] :=
  SC_of_run cfgOK (its := [.res (.s (.v .bool true)) [] [] [], .res (.s (.v (.pr .str .str) c2)) [] [] [], .res (.s (.own t_string .str c3)) [] [] [17], .res (.tup [.own t_string .str c4a, .v .bool false]) [] [] [18], .res (.s (.own t_string .str c5)) [] [] [24], .res (.tup [.own t_string .str c6a, .v .bool c6b]) [] [] [25]])
    (ps := [SC cfg.P i_spec_prGood [.s (.v (.pr .str .str) a0)] (.s (.v .bool true)) [],
      SC cfg.P i_spec_prReduce [.s (.v (.pr .str .str) a0), .s (.v (.sl (.int .i64)) ([] : List Int))] (.s (.v (.pr .str .str) c2)) [],
      SC cfg.P i_spec_foHanging [.s (.v .str c2.1)] (.s (.own t_string .str c3)) [],
      SC cfg.P i_spec_foIf [.s (.v (.sl .str) c3)] (.tup [.own t_string .str c4a, .v .bool false]) [],
      SC cfg.P i_spec_foHanging [.s (.v .str c2.2)] (.s (.own t_string .str c5)) [],
      SC cfg.P i_spec_foIf [.s (.v (.sl .str) c5)] (.tup [.own t_string .str c6a, .v .bool c6b]) []]) (by kernel_rfl) ⟨h1, h2, h3, h4, h5, h6, trivial⟩ get_spec_ForestsOfPair (by decide)

theorem spec_ForestsOfPair_p4 (a0 : (ByteArray × ByteArray))
    (h1 : SC cfg.P i_spec_prGood [.s (.v (.pr .str .str) a0)] (.s (.v .bool false)) []) :
    SC cfg.P i_spec_ForestsOfPair [.s (.v (.pr .str .str) a0)] (.tup [.own t_string .str ([] : List ByteArray), .own t_string .str ([] : List ByteArray), .v .bool false]) [] :=
  SC_of_run cfgOK (its := [.res (.s (.v .bool false)) [] [] []])
    (ps := [SC cfg.P i_spec_prGood [.s (.v (.pr .str .str) a0)] (.s (.v .bool false)) []]) (by kernel_rfl) ⟨h1, trivial⟩ get_spec_ForestsOfPair (by decide)

/-! ### laws_nTexts -/


def laws_nTexts_L0a (x0 : (List ByteArray)) (x1 : (List ByteArray)) (x12 : Int) (x13 : Int) : St := mkSt 26 [(0, .s (.v (.sl .str) x0)), (1, .s (.v (.sl .str) x1)), (12, .s (.v (.int .i64) x12)), (13, .s (.v (.int .i64) x13))] []

def laws_nTexts_L0X1 (y4 : Bool) : St := mkSt 26 [(4, .s (.v .bool y4))] []

def laws_nTexts_L0X2 (y0 : (List ByteArray)) (y1 : (List ByteArray)) (y12 : Int) (y13 : Int) (y14 : Bool) : St := mkSt 26 [(0, .s (.v (.sl .str) y0)), (1, .s (.v (.sl .str) y1)), (12, .s (.v (.int .i64) y12)), (13, .s (.v (.int .i64) y13)), (14, .s (.v .bool y14))] []

theorem laws_nTexts_L0a_x1 (x0 : (List ByteArray)) (x1 : (List ByteArray)) (x12 : Int) (x13 : Int)
    (h1 : x13 < x12)
    (h2 : 0 ≤ x13)
    (h3 : x13 < (List.length x0 : Int))
    (h4 : x13 < (List.length x1 : Int))
    (h5 : (List.getD x0 (x13).toNat (⟨#[]⟩ : ByteArray)) ≠ (List.getD x1 (x13).toNat (⟨#[]⟩ : ByteArray))) :
    LoopSC cfg.P 2 (lb P_laws_nTexts 0) (laws_nTexts_L0a x0 x1 x12 x13) (.ret) (laws_nTexts_L0X1 false) :=
  loop_out cfgOK (f := i_laws_nTexts) (its := [.bool true, .bool true])
    (ps := [decide (x13 < x12) = true,
      0 ≤ x13,
      x13 < (List.length x0 : Int),
      0 ≤ x13,
      x13 < (List.length x1 : Int),
      (!(((List.getD x0 (x13).toNat (⟨#[]⟩ : ByteArray))).toList == ((List.getD x1 (x13).toNat (⟨#[]⟩ : ByteArray))).toList)) = true]) (by kernel_rfl) ⟨(decide_eq_true h1), h2, h3, h2, h4, (nseq_t h5), trivial⟩ (fun h => by cases h)

theorem laws_nTexts_L0a_i2 (x0 : (List ByteArray)) (x1 : (List ByteArray)) (x12 : Int) (x13 : Int)
    (h1 : x13 < x12)
    (h2 : 0 ≤ x13)
    (h3 : x13 < (List.length x0 : Int))
    (h4 : x13 < (List.length x1 : Int))
    (h5 : (List.getD x0 (x13).toNat (⟨#[]⟩ : ByteArray)) = (List.getD x1 (x13).toNat (⟨#[]⟩ : ByteArray)))
    {e : AEx} {st : St} (next : LoopSC cfg.P 2 (lb P_laws_nTexts 0) (laws_nTexts_L0a x0 x1 x12 (IntKind.wrap .i64 (x13 + (1 : Int)))) e st) :
    LoopSC cfg.P 2 (lb P_laws_nTexts 0) (laws_nTexts_L0a x0 x1 x12 x13) e st :=
  loop_iter cfgOK (f := i_laws_nTexts) (its := [.bool true, .bool false])
    (ps := [decide (x13 < x12) = true,
      0 ≤ x13,
      x13 < (List.length x0 : Int),
      0 ≤ x13,
      x13 < (List.length x1 : Int),
      (!(((List.getD x0 (x13).toNat (⟨#[]⟩ : ByteArray))).toList == ((List.getD x1 (x13).toNat (⟨#[]⟩ : ByteArray))).toList)) = false]) (st1 := laws_nTexts_L0a x0 x1 x12 (IntKind.wrap .i64 (x13 + (1 : Int)))) (by kernel_rfl) ⟨(decide_eq_true h1), h2, h3, h2, h4, (nseq_f h5), trivial⟩ next

theorem laws_nTexts_L0a_x3 (x0 : (List ByteArray)) (x1 : (List ByteArray)) (x12 : Int) (x13 : Int)
    (h1 : ¬ (x13 < x12)) :
    LoopSC cfg.P 2 (lb P_laws_nTexts 0) (laws_nTexts_L0a x0 x1 x12 x13) (.exit 0) (laws_nTexts_L0X2 x0 x1 x12 x13 false) :=
  loop_out cfgOK (f := i_laws_nTexts) (its := [.bool false])
    (ps := [decide (x13 < x12) = false]) (by kernel_rfl) ⟨(decide_eq_false h1), trivial⟩ (fun h => by cases h)

theorem laws_nTexts_p1 (a0 : (List ByteArray)) (a1 : (List ByteArray))
    (h1 : ((List.length a0 : Nat) : Int) ≠ ((List.length a1 : Nat) : Int)) :
    SC cfg.P i_laws_nTexts [.s (.v (.sl .str) a0), .s (.v (.sl .str) a1)] (.s (.v .bool false)) [] :=
  SC_of_run cfgOK (its := [.bool true])
    (ps := [(((List.length a0 : Nat) : Int) != ((List.length a1 : Nat) : Int)) = true]) (by kernel_rfl) ⟨(bne_iff_ne.mpr h1), trivial⟩ get_laws_nTexts (by decide)

theorem laws_nTexts_p2 (a0 : (List ByteArray)) (a1 : (List ByteArray)) (k1y4 : Bool)
    (h1 : ((List.length a0 : Nat) : Int) = ((List.length a1 : Nat) : Int))
    (h2 : LoopSC cfg.P 2 (lb P_laws_nTexts 0) (laws_nTexts_L0a a0 a1 ((List.length a0 : Nat) : Int) (0 : Int)) (.ret) (laws_nTexts_L0X1 k1y4)) :
    SC cfg.P i_laws_nTexts [.s (.v (.sl .str) a0), .s (.v (.sl .str) a1)] (.s (.v .bool k1y4)) [] :=
  SC_of_run cfgOK (its := [.bool false, .loop (fun _ => (.ret, laws_nTexts_L0X1 k1y4))])
    (ps := [(((List.length a0 : Nat) : Int) != ((List.length a1 : Nat) : Int)) = false,
      LoopSC cfg.P 2 (lb P_laws_nTexts 0) (laws_nTexts_L0a a0 a1 ((List.length a0 : Nat) : Int) (0 : Int)) (.ret) (laws_nTexts_L0X1 k1y4)]) (by kernel_rfl) ⟨(bne_eq_false_iff_eq.mpr h1), h2, trivial⟩ get_laws_nTexts (by decide)

theorem laws_nTexts_p3 (a0 : (List ByteArray)) (a1 : (List ByteArray)) (k1y0 : (List ByteArray)) (k1y1 : (List ByteArray)) (k1y12 : Int) (k1y13 : Int) (k1y14 : Bool)
    (h1 : ((List.length a0 : Nat) : Int) = ((List.length a1 : Nat) : Int))
    (h2 : LoopSC cfg.P 2 (lb P_laws_nTexts 0) (laws_nTexts_L0a a0 a1 ((List.length a0 : Nat) : Int) (0 : Int)) (.exit 0) (laws_nTexts_L0X2 k1y0 k1y1 k1y12 k1y13 k1y14)) :
    SC cfg.P i_laws_nTexts [.s (.v (.sl .str) a0), .s (.v (.sl .str) a1)] (.s (.v .bool true)) [] :=
  SC_of_run cfgOK (its := [.bool false, .loop (fun _ => (.exit 0, laws_nTexts_L0X2 k1y0 k1y1 k1y12 k1y13 k1y14))])
    (ps := [(((List.length a0 : Nat) : Int) != ((List.length a1 : Nat) : Int)) = false,
      LoopSC cfg.P 2 (lb P_laws_nTexts 0) (laws_nTexts_L0a a0 a1 ((List.length a0 : Nat) : Int) (0 : Int)) (.exit 0) (laws_nTexts_L0X2 k1y0 k1y1 k1y12 k1y13 k1y14)]) (by kernel_rfl) ⟨(bne_eq_false_iff_eq.mpr h1), h2, trivial⟩ get_laws_nTexts (by decide)

/-! ### impl_IsPair -/


theorem impl_IsPair_p1 (a0 : (ByteArray × ByteArray)) (c1a : (Tr × Tr)) (c1b : Bool)
    (h1 : SC cfg.P i_impl_pairOf [.s (.v (.pr .str .str) a0)] (.tup [.v (.pr .tree .tree) c1a, .v .bool c1b]) []) :
    SC cfg.P i_impl_IsPair [.s (.v (.pr .str .str) a0)] (.s (.v .bool c1b)) [] :=
  SC_of_run cfgOK (its := [.res (.tup [.v (.pr .tree .tree) c1a, .v .bool c1b]) [] [] []])
    (ps := [SC cfg.P i_impl_pairOf [.s (.v (.pr .str .str) a0)] (.tup [.v (.pr .tree .tree) c1a, .v .bool c1b]) []]) (by kernel_rfl) ⟨h1, trivial⟩ get_impl_IsPair (by decide)

/-! ### impl_PairOfForests -/


theorem impl_PairOfForests_p1 (a0 : (List ByteArray)) (a1 : (List ByteArray)) (c1a : (List Tr)) (c1b : (List Tr)) (c2 : (Tr × Tr)) (c3 : (Tr × Tr)) (c4 : (Tr × Tr)) (c5 : (Tr × Tr)) (c6a : (ByteArray × ByteArray)) (c6b : Bool)
    (h1 : SC cfg.P i_impl_twoForests [.s (.v (.sl .str) a0), .s (.v (.sl .str) a1)] (.tup [.v (.sl .tree) c1a, .v (.sl .tree) c1b, .v .bool true]) [])
    (h2 : SC cfg.P i_impl_forest_pair [.s (.v (.sl .tree) c1a)] (.s (.v (.pr .tree .tree) c2)) [])
    (h3 : SC cfg.P i_impl_forest_pair [.s (.v (.sl .tree) c1b)] (.s (.v (.pr .tree .tree) c3)) [])
    (h4 : SC cfg.P i_impl_pair_inverse [.s (.v (.pr .tree .tree) c3)] (.s (.v (.pr .tree .tree) c4)) [])
    (h5 : SC cfg.P i_impl_pair_times [.s (.v (.pr .tree .tree) c2), .s (.v (.pr .tree .tree) c4)] (.s (.v (.pr .tree .tree) c5)) [])
    (h6 : SC cfg.P i_impl_pair_fits [.s (.v (.pr .tree .tree) c5)] (.tup [.v (.pr .str .str) c6a, .v .bool c6b]) []) :
    SC cfg.P i_impl_PairOfForests [.s (.v (.sl .str) a0), .s (.v (.sl .str) a1)] (.tup [.v (.pr .str .str) c6a, .v .bool c6b]) [] :=
  SC_of_run cfgOK (its := [.res (.tup [.v (.sl .tree) c1a, .v (.sl .tree) c1b, .v .bool true]) [] [] [], .res (.s (.v (.pr .tree .tree) c2)) [] [] [], .res (.s (.v (.pr .tree .tree) c3)) [] [] [], .res (.s (.v (.pr .tree .tree) c4)) [] [] [], .res (.s (.v (.pr .tree .tree) c5)) [] [] [], .res (.tup [.v (.pr .str .str) c6a, .v .bool c6b]) [] [] []])
    (ps := [SC cfg.P i_impl_twoForests [.s (.v (.sl .str) a0), .s (.v (.sl .str) a1)] (.tup [.v (.sl .tree) c1a, .v (.sl .tree) c1b, .v .bool true]) [],
      SC cfg.P i_impl_forest_pair [.s (.v (.sl .tree) c1a)] (.s (.v (.pr .tree .tree) c2)) [],
      SC cfg.P i_impl_forest_pair [.s (.v (.sl .tree) c1b)] (.s (.v (.pr .tree .tree) c3)) [],
      SC cfg.P i_impl_pair_inverse [.s (.v (.pr .tree .tree) c3)] (.s (.v (.pr .tree .tree) c4)) [],
      SC cfg.P i_impl_pair_times [.s (.v (.pr .tree .tree) c2), .s (.v (.pr .tree .tree) c4)] (.s (.v (.pr .tree .tree) c5)) [],
      SC cfg.P i_impl_pair_fits [.s (.v (.pr .tree .tree) c5)] (.tup [.v (.pr .str .str) c6a, .v .bool c6b]) []]) (by kernel_rfl) ⟨h1, h2, h3, h4, h5, h6, trivial⟩ get_impl_PairOfForests (by decide)

theorem impl_PairOfForests_p2 (a0 : (List ByteArray)) (a1 : (List ByteArray)) (c1a : (List Tr)) (c1b : (List Tr))
    (h1 : SC cfg.P i_impl_twoForests [.s (.v (.sl .str) a0), .s (.v (.sl .str) a1)] (.tup [.v (.sl .tree) c1a, .v (.sl .tree) c1b, .v .bool false]) []) :
    SC cfg.P i_impl_PairOfForests [.s (.v (.sl .str) a0), .s (.v (.sl .str) a1)] (.tup [.v (.pr .str .str) ((⟨#[]⟩ : ByteArray), (⟨#[]⟩ : ByteArray)), .v .bool false]) [] :=
  SC_of_run cfgOK (its := [.res (.tup [.v (.sl .tree) c1a, .v (.sl .tree) c1b, .v .bool false]) [] [] []])
    (ps := [SC cfg.P i_impl_twoForests [.s (.v (.sl .str) a0), .s (.v (.sl .str) a1)] (.tup [.v (.sl .tree) c1a, .v (.sl .tree) c1b, .v .bool false]) []]) (by kernel_rfl) ⟨h1, trivial⟩ get_impl_PairOfForests (by decide)

/-! ### impl_WordOfPair -/


theorem impl_WordOfPair_p1 (a0 : (ByteArray × ByteArray)) (c1a : (Tr × Tr)) (c2 : (Tr × Tr)) (c3 : (List Int)) (c4b : Bool)
    (h1 : SC cfg.P i_impl_pairOf [.s (.v (.pr .str .str) a0)] (.tup [.v (.pr .tree .tree) c1a, .v .bool true]) [])
    (h2 : SC cfg.P i_impl_pair_reduced [.s (.v (.pr .tree .tree) c1a)] (.s (.v (.pr .tree .tree) c2)) [])
    (h3 : SC cfg.P i_impl_wordOfPair [.s (.v (.pr .tree .tree) c2)] (.s (.own t_int (.int .i64) c3)) [])
    (h4 : SCS cfg.P i_impl_madeWord [.s (.v (.sl (.int .i64)) c3)] (.v .bool c4b)) :
    SC cfg.P i_impl_WordOfPair [.s (.v (.pr .str .str) a0)] (.tup [.own t_int (.int .i64) c3, .v .bool c4b]) [] :=
  SC_of_run cfgOK (its := [.res (.tup [.v (.pr .tree .tree) c1a, .v .bool true]) [] [] [], .res (.s (.v (.pr .tree .tree) c2)) [] [] [], .res (.s (.own t_int (.int .i64) c3)) [] [] [15], .same (.v .bool c4b)])
    (ps := [SC cfg.P i_impl_pairOf [.s (.v (.pr .str .str) a0)] (.tup [.v (.pr .tree .tree) c1a, .v .bool true]) [],
      SC cfg.P i_impl_pair_reduced [.s (.v (.pr .tree .tree) c1a)] (.s (.v (.pr .tree .tree) c2)) [],
      SC cfg.P i_impl_wordOfPair [.s (.v (.pr .tree .tree) c2)] (.s (.own t_int (.int .i64) c3)) [],
      SCS cfg.P i_impl_madeWord [.s (.v (.sl (.int .i64)) c3)] (.v .bool c4b)]) (by kernel_rfl) ⟨h1, h2, h3, h4, trivial⟩ get_impl_WordOfPair (by decide)

theorem impl_WordOfPair_p3 (a0 : (ByteArray × ByteArray)) (c1a : (Tr × Tr))
    (h1 : SC cfg.P i_impl_pairOf [.s (.v (.pr .str .str) a0)] (.tup [.v (.pr .tree .tree) c1a, .v .bool false]) []) :
    SC cfg.P i_impl_WordOfPair [.s (.v (.pr .str .str) a0)] (.tup [.own t_int (.int .i64) ([] : List Int), .v .bool false]) [] :=
  SC_of_run cfgOK (its := [.res (.tup [.v (.pr .tree .tree) c1a, .v .bool false]) [] [] []])
    (ps := [SC cfg.P i_impl_pairOf [.s (.v (.pr .str .str) a0)] (.tup [.v (.pr .tree .tree) c1a, .v .bool false]) []]) (by kernel_rfl) ⟨h1, trivial⟩ get_impl_WordOfPair (by decide)

/-! ### impl_WordOfForest -/


def impl_WordOfForest_L0a (x16 : (List Tr)) (x17 : Int) (x18 : Int) (xo6 : (List Int)) : St := mkSt 32 [(6, .s (.osl 6 0)), (16, .s (.v (.sl .tree) x16)), (17, .s (.v (.int .i64) x17)), (18, .s (.v (.int .i64) x18))] [(6, .row t_int (.int .i64) xo6 0 false)]

def impl_WordOfForest_L0X1 (y16 : (List Tr)) (y17 : Int) (y18 : Int) (y19 : Bool) (yo6 : (List Int)) : St := mkSt 32 [(6, .s (.osl 6 0)), (16, .s (.v (.sl .tree) y16)), (17, .s (.v (.int .i64) y17)), (18, .s (.v (.int .i64) y18)), (19, .s (.v .bool y19))] [(6, .row t_int (.int .i64) yo6 0 false)]

theorem impl_WordOfForest_L0a_i1 (x16 : (List Tr)) (x17 : Int) (x18 : Int) (xo6 : (List Int)) (dc1 : (List Int))
    (h1 : x18 < x17)
    (h2 : 0 ≤ x18)
    (h3 : x18 < (List.length x16 : Int))
    (h4 : SC cfg.P i_impl_node_climbs [.s (.v .tree (List.getD x16 (x18).toNat Tr.leaf)), .s (.v (.int .i64) (0 : Int))] (.s (.own t_int (.int .i64) dc1)) [])
    (h5 : sizeOK (List.length xo6 + List.length dc1))
    {e : AEx} {st : St} (next : LoopSC cfg.P 1 (lb P_impl_WordOfForest 0) (impl_WordOfForest_L0a x16 x17 (IntKind.wrap .i64 (x18 + (1 : Int))) (xo6 ++ dc1)) e st) :
    LoopSC cfg.P 1 (lb P_impl_WordOfForest 0) (impl_WordOfForest_L0a x16 x17 x18 xo6) e st :=
  loop_iter cfgOK (f := i_impl_WordOfForest) (its := [.bool true, .res (.s (.own t_int (.int .i64) dc1)) [] [] [24]])
    (ps := [decide (x18 < x17) = true,
      0 ≤ x18,
      x18 < (List.length x16 : Int),
      SC cfg.P i_impl_node_climbs [.s (.v .tree (List.getD x16 (x18).toNat Tr.leaf)), .s (.v (.int .i64) (0 : Int))] (.s (.own t_int (.int .i64) dc1)) [],
      sizeOK (List.length xo6 + List.length dc1)]) (st1 := impl_WordOfForest_L0a x16 x17 (IntKind.wrap .i64 (x18 + (1 : Int))) (xo6 ++ dc1)) (by kernel_rfl) ⟨(decide_eq_true h1), h2, h3, h4, h5, trivial⟩ next

theorem impl_WordOfForest_L0a_x2 (x16 : (List Tr)) (x17 : Int) (x18 : Int) (xo6 : (List Int))
    (h1 : ¬ (x18 < x17)) :
    LoopSC cfg.P 1 (lb P_impl_WordOfForest 0) (impl_WordOfForest_L0a x16 x17 x18 xo6) (.exit 0) (impl_WordOfForest_L0X1 x16 x17 x18 false xo6) :=
  loop_out cfgOK (f := i_impl_WordOfForest) (its := [.bool false])
    (ps := [decide (x18 < x17) = false]) (by kernel_rfl) ⟨(decide_eq_false h1), trivial⟩ (fun h => by cases h)

theorem impl_WordOfForest_p1 (a0 : (List ByteArray)) (c1a : (List Tr)) (k1y16 : (List Tr)) (k1y17 : Int) (k1y18 : Int) (k1y19 : Bool) (k1yo6 : (List Int)) (c2 : (List Int)) (c3b : Bool)
    (h1 : SC cfg.P i_impl_forestOf [.s (.v (.sl .str) a0)] (.tup [.v (.sl .tree) c1a, .v .bool true]) [])
    (h2 : LoopSC cfg.P 1 (lb P_impl_WordOfForest 0) (impl_WordOfForest_L0a c1a ((List.length c1a : Nat) : Int) (0 : Int) ([] : List Int)) (.exit 0) (impl_WordOfForest_L0X1 k1y16 k1y17 k1y18 k1y19 k1yo6))
    (h3 : SC cfg.P i_impl_wordOf [.s (.v (.sl (.int .i64)) k1yo6)] (.s (.own t_int (.int .i64) c2)) [])
    (h4 : SCS cfg.P i_impl_madeWord [.s (.v (.sl (.int .i64)) c2)] (.v .bool c3b)) :
    SC cfg.P i_impl_WordOfForest [.s (.v (.sl .str) a0)] (.tup [.own t_int (.int .i64) c2, .v .bool c3b]) [] :=
  SC_of_run cfgOK (its := [.res (.tup [.v (.sl .tree) c1a, .v .bool true]) [] [] [], .loop (fun _ => (.exit 0, impl_WordOfForest_L0X1 k1y16 k1y17 k1y18 k1y19 k1yo6)), .res (.s (.own t_int (.int .i64) c2)) [] [] [28], .same (.v .bool c3b)])
    (ps := [SC cfg.P i_impl_forestOf [.s (.v (.sl .str) a0)] (.tup [.v (.sl .tree) c1a, .v .bool true]) [],
      LoopSC cfg.P 1 (lb P_impl_WordOfForest 0) (impl_WordOfForest_L0a c1a ((List.length c1a : Nat) : Int) (0 : Int) ([] : List Int)) (.exit 0) (impl_WordOfForest_L0X1 k1y16 k1y17 k1y18 k1y19 k1yo6),
      SC cfg.P i_impl_wordOf [.s (.v (.sl (.int .i64)) k1yo6)] (.s (.own t_int (.int .i64) c2)) [],
      SCS cfg.P i_impl_madeWord [.s (.v (.sl (.int .i64)) c2)] (.v .bool c3b)]) (by kernel_rfl) ⟨h1, h2, h3, h4, trivial⟩ get_impl_WordOfForest (by decide)

theorem impl_WordOfForest_p2 (a0 : (List ByteArray)) (c1a : (List Tr)) (k1y16 : (List Tr)) (k1y17 : Int) (k1y18 : Int) (k1y19 : Bool) (k1yo6 : (List Int)) (c2 : (List Int)) (c3a : (List Int)) (c3b : Bool)
    (h1 : SC cfg.P i_impl_forestOf [.s (.v (.sl .str) a0)] (.tup [.v (.sl .tree) c1a, .v .bool true]) [])
    (h2 : LoopSC cfg.P 1 (lb P_impl_WordOfForest 0) (impl_WordOfForest_L0a c1a ((List.length c1a : Nat) : Int) (0 : Int) ([] : List Int)) (.exit 0) (impl_WordOfForest_L0X1 k1y16 k1y17 k1y18 k1y19 k1yo6))
    (h3 : SC cfg.P i_impl_wordOf [.s (.v (.sl (.int .i64)) k1yo6)] (.s (.own t_int (.int .i64) c2)) [])
    (h4 : SC cfg.P i_impl_madeWord [.s (.v (.sl (.int .i64)) c2)] (.tup [.own t_int (.int .i64) c3a, .v .bool c3b]) []) :
    SC cfg.P i_impl_WordOfForest [.s (.v (.sl .str) a0)] (.tup [.own t_int (.int .i64) c3a, .v .bool c3b]) [] :=
  SC_of_run cfgOK (its := [.res (.tup [.v (.sl .tree) c1a, .v .bool true]) [] [] [], .loop (fun _ => (.exit 0, impl_WordOfForest_L0X1 k1y16 k1y17 k1y18 k1y19 k1yo6)), .res (.s (.own t_int (.int .i64) c2)) [] [] [28], .res (.tup [.own t_int (.int .i64) c3a, .v .bool c3b]) [] [] [30]])
    (ps := [SC cfg.P i_impl_forestOf [.s (.v (.sl .str) a0)] (.tup [.v (.sl .tree) c1a, .v .bool true]) [],
      LoopSC cfg.P 1 (lb P_impl_WordOfForest 0) (impl_WordOfForest_L0a c1a ((List.length c1a : Nat) : Int) (0 : Int) ([] : List Int)) (.exit 0) (impl_WordOfForest_L0X1 k1y16 k1y17 k1y18 k1y19 k1yo6),
      SC cfg.P i_impl_wordOf [.s (.v (.sl (.int .i64)) k1yo6)] (.s (.own t_int (.int .i64) c2)) [],
      SC cfg.P i_impl_madeWord [.s (.v (.sl (.int .i64)) c2)] (.tup [.own t_int (.int .i64) c3a, .v .bool c3b]) []]) (by kernel_rfl) ⟨h1, h2, h3, h4, trivial⟩ get_impl_WordOfForest (by decide)

theorem impl_WordOfForest_p3 (a0 : (List ByteArray)) (c1a : (List Tr))
    (h1 : SC cfg.P i_impl_forestOf [.s (.v (.sl .str) a0)] (.tup [.v (.sl .tree) c1a, .v .bool false]) []) :
    SC cfg.P i_impl_WordOfForest [.s (.v (.sl .str) a0)] (.tup [.own t_int (.int .i64) ([] : List Int), .v .bool false]) [] :=
  SC_of_run cfgOK (its := [.res (.tup [.v (.sl .tree) c1a, .v .bool false]) [] [] []])
    (ps := [SC cfg.P i_impl_forestOf [.s (.v (.sl .str) a0)] (.tup [.v (.sl .tree) c1a, .v .bool false]) []]) (by kernel_rfl) ⟨h1, trivial⟩ get_impl_WordOfForest (by decide)

/-! ### impl_InverseWord -/


theorem impl_InverseWord_p1 (a0 : (List Int)) (c2 : (List Int))
    (h1 : SC cfg.P i_impl_IsWord [.s (.v (.sl (.int .i64)) a0)] (.s (.v .bool true)) [])
    (h2 : SC cfg.P i_impl_inverseOf [.s (.v (.sl (.int .i64)) a0)] (.s (.own t_int (.int .i64) c2)) []) :
    SC cfg.P i_impl_InverseWord [.s (.v (.sl (.int .i64)) a0)] (.tup [.own t_int (.int .i64) c2, .v .bool true]) [] :=
  SC_of_run cfgOK (its := [.res (.s (.v .bool true)) [] [] [], .res (.s (.own t_int (.int .i64) c2)) [] [] [8]])
    (ps := [SC cfg.P i_impl_IsWord [.s (.v (.sl (.int .i64)) a0)] (.s (.v .bool true)) [],
      SC cfg.P i_impl_inverseOf [.s (.v (.sl (.int .i64)) a0)] (.s (.own t_int (.int .i64) c2)) []]) (by kernel_rfl) ⟨h1, h2, trivial⟩ get_impl_InverseWord (by decide)

theorem impl_InverseWord_p2 (a0 : (List Int))
    (h1 : SC cfg.P i_impl_IsWord [.s (.v (.sl (.int .i64)) a0)] (.s (.v .bool false)) []) :
    SC cfg.P i_impl_InverseWord [.s (.v (.sl (.int .i64)) a0)] (.tup [.own t_int (.int .i64) ([] : List Int), .v .bool false]) [] :=
  SC_of_run cfgOK (its := [.res (.s (.v .bool false)) [] [] []])
    (ps := [SC cfg.P i_impl_IsWord [.s (.v (.sl (.int .i64)) a0)] (.s (.v .bool false)) []]) (by kernel_rfl) ⟨h1, trivial⟩ get_impl_InverseWord (by decide)

/-! ### laws_nReduced -/


theorem laws_nReduced_p1 (a0 : (ByteArray × ByteArray)) (c1a : (ByteArray × ByteArray)) (c1b : Bool)
    (h1 : SC cfg.P i_impl_ReducePair [.s (.v (.pr .str .str) a0)] (.tup [.v (.pr .str .str) c1a, .v .bool c1b]) []) :
    SC cfg.P i_laws_nReduced [.s (.v (.pr .str .str) a0)] (.s (.v (.pr .str .str) c1a)) [] :=
  SC_of_run cfgOK (its := [.res (.tup [.v (.pr .str .str) c1a, .v .bool c1b]) [] [] []])
    (ps := [SC cfg.P i_impl_ReducePair [.s (.v (.pr .str .str) a0)] (.tup [.v (.pr .str .str) c1a, .v .bool c1b]) []]) (by kernel_rfl) ⟨h1, trivial⟩ get_laws_nReduced (by decide)

/-! ### laws_nSame -/


def laws_nSame_L0a (x0 : (List Int)) (x1 : (List Int)) (x12 : Int) (x13 : Int) : St := mkSt 26 [(0, .s (.v (.sl (.int .i64)) x0)), (1, .s (.v (.sl (.int .i64)) x1)), (12, .s (.v (.int .i64) x12)), (13, .s (.v (.int .i64) x13))] []

def laws_nSame_L0X2 (y0 : (List Int)) (y1 : (List Int)) (y12 : Int) (y13 : Int) (y14 : Bool) : St := mkSt 26 [(0, .s (.v (.sl (.int .i64)) y0)), (1, .s (.v (.sl (.int .i64)) y1)), (12, .s (.v (.int .i64) y12)), (13, .s (.v (.int .i64) y13)), (14, .s (.v .bool y14))] []

theorem laws_nSame_L0a_i2 (x0 : (List Int)) (x1 : (List Int)) (x12 : Int) (x13 : Int)
    (h1 : x13 < x12)
    (h2 : 0 ≤ x13)
    (h3 : x13 < (List.length x0 : Int))
    (h4 : x13 < (List.length x1 : Int))
    (h5 : (List.getD x0 (x13).toNat (0 : Int)) = (List.getD x1 (x13).toNat (0 : Int)))
    {e : AEx} {st : St} (next : LoopSC cfg.P 2 (lb P_laws_nSame 0) (laws_nSame_L0a x0 x1 x12 (IntKind.wrap .i64 (x13 + (1 : Int)))) e st) :
    LoopSC cfg.P 2 (lb P_laws_nSame 0) (laws_nSame_L0a x0 x1 x12 x13) e st :=
  loop_iter cfgOK (f := i_laws_nSame) (its := [.bool true, .bool false])
    (ps := [decide (x13 < x12) = true,
      0 ≤ x13,
      x13 < (List.length x0 : Int),
      0 ≤ x13,
      x13 < (List.length x1 : Int),
      ((List.getD x0 (x13).toNat (0 : Int)) != (List.getD x1 (x13).toNat (0 : Int))) = false]) (st1 := laws_nSame_L0a x0 x1 x12 (IntKind.wrap .i64 (x13 + (1 : Int)))) (by kernel_rfl) ⟨(decide_eq_true h1), h2, h3, h2, h4, (bne_eq_false_iff_eq.mpr h5), trivial⟩ next

theorem laws_nSame_L0a_x3 (x0 : (List Int)) (x1 : (List Int)) (x12 : Int) (x13 : Int)
    (h1 : ¬ (x13 < x12)) :
    LoopSC cfg.P 2 (lb P_laws_nSame 0) (laws_nSame_L0a x0 x1 x12 x13) (.exit 0) (laws_nSame_L0X2 x0 x1 x12 x13 false) :=
  loop_out cfgOK (f := i_laws_nSame) (its := [.bool false])
    (ps := [decide (x13 < x12) = false]) (by kernel_rfl) ⟨(decide_eq_false h1), trivial⟩ (fun h => by cases h)

theorem laws_nSame_p3 (a0 : (List Int)) (a1 : (List Int)) (k1y0 : (List Int)) (k1y1 : (List Int)) (k1y12 : Int) (k1y13 : Int) (k1y14 : Bool)
    (h1 : ((List.length a0 : Nat) : Int) = ((List.length a1 : Nat) : Int))
    (h2 : LoopSC cfg.P 2 (lb P_laws_nSame 0) (laws_nSame_L0a a0 a1 ((List.length a0 : Nat) : Int) (0 : Int)) (.exit 0) (laws_nSame_L0X2 k1y0 k1y1 k1y12 k1y13 k1y14)) :
    SC cfg.P i_laws_nSame [.s (.v (.sl (.int .i64)) a0), .s (.v (.sl (.int .i64)) a1)] (.s (.v .bool true)) [] :=
  SC_of_run cfgOK (its := [.bool false, .loop (fun _ => (.exit 0, laws_nSame_L0X2 k1y0 k1y1 k1y12 k1y13 k1y14))])
    (ps := [(((List.length a0 : Nat) : Int) != ((List.length a1 : Nat) : Int)) = false,
      LoopSC cfg.P 2 (lb P_laws_nSame 0) (laws_nSame_L0a a0 a1 ((List.length a0 : Nat) : Int) (0 : Int)) (.exit 0) (laws_nSame_L0X2 k1y0 k1y1 k1y12 k1y13 k1y14)]) (by kernel_rfl) ⟨(bne_eq_false_iff_eq.mpr h1), h2, trivial⟩ get_laws_nSame (by decide)

/-! ### spec_DrawPairOfForests -/


theorem spec_DrawPairOfForests_p1 (a0 : (List Int)) (c1 : (List ByteArray)) (c1o0 : ((List Int) × (Int × Int))) (c2 : (List ByteArray)) (c2o0 : ((List Int) × (Int × Int)))
    (h1 : SC cfg.P i_spec_l1Cur_forest [.s (.mbx (.pr (.sl (.int .u8)) (.pr (.int .i64) (.int .u64))) (a0, ((0 : Int), (0 : Int)))), .s (.v (.int .i64) (4 : Int))] (.s (.own t_string .str c1)) [.box (.pr (.sl (.int .u8)) (.pr (.int .i64) (.int .u64))) c1o0])
    (h2 : SC cfg.P i_spec_l1Cur_forest [.s (.mbx (.pr (.sl (.int .u8)) (.pr (.int .i64) (.int .u64))) c1o0), .s (.v (.int .i64) (3 : Int))] (.s (.own t_string .str c2)) [.box (.pr (.sl (.int .u8)) (.pr (.int .i64) (.int .u64))) c2o0]) :
    SC cfg.P i_spec_DrawPairOfForests [.s (.v (.sl (.int .u8)) a0)] (.tup [.own t_string .str c1, .own t_string .str c2]) [] :=
  SC_of_run cfgOK (its := [.res (.s (.own t_string .str c1)) [.box (.pr (.sl (.int .u8)) (.pr (.int .i64) (.int .u64))) c1o0] [] [9], .res (.s (.own t_string .str c2)) [.box (.pr (.sl (.int .u8)) (.pr (.int .i64) (.int .u64))) c2o0] [] [11]])
    (ps := [SC cfg.P i_spec_l1Cur_forest [.s (.mbx (.pr (.sl (.int .u8)) (.pr (.int .i64) (.int .u64))) (a0, ((0 : Int), (0 : Int)))), .s (.v (.int .i64) (4 : Int))] (.s (.own t_string .str c1)) [.box (.pr (.sl (.int .u8)) (.pr (.int .i64) (.int .u64))) c1o0],
      SC cfg.P i_spec_l1Cur_forest [.s (.mbx (.pr (.sl (.int .u8)) (.pr (.int .i64) (.int .u64))) c1o0), .s (.v (.int .i64) (3 : Int))] (.s (.own t_string .str c2)) [.box (.pr (.sl (.int .u8)) (.pr (.int .i64) (.int .u64))) c2o0]]) (by kernel_rfl) ⟨h1, h2, trivial⟩ get_spec_DrawPairOfForests (by decide)

/-! ### spec_PairOfForests -/


theorem spec_PairOfForests_p1 (a0 : (List ByteArray)) (a1 : (List ByteArray)) (c3 : (ByteArray × ByteArray)) (c4 : (ByteArray × ByteArray)) (c5 : (ByteArray × ByteArray)) (c6 : (ByteArray × ByteArray)) (c7a : (ByteArray × ByteArray)) (c7b : Bool)
    (h1 : SC cfg.P i_spec_foGood [.s (.v (.sl .str) a0)] (.s (.v .bool true)) [])
    (h2 : SC cfg.P i_spec_foGood [.s (.v (.sl .str) a1)] (.s (.v .bool true)) [])
    (h3 : SC cfg.P i_spec_foPair [.s (.v (.sl .str) a0)] (.s (.v (.pr .str .str) c3)) [])
    (h4 : SC cfg.P i_spec_foPair [.s (.v (.sl .str) a1)] (.s (.v (.pr .str .str) c4)) [])
    (h5 : SC cfg.P i_spec_prInverse [.s (.v (.pr .str .str) c4)] (.s (.v (.pr .str .str) c5)) [])
    (h6 : SC cfg.P i_spec_prTimes [.s (.v (.pr .str .str) c3), .s (.v (.pr .str .str) c5)] (.s (.v (.pr .str .str) c6)) [])
    (h7 : SC cfg.P i_spec_prIf [.s (.v (.pr .str .str) c6)] (.tup [.v (.pr .str .str) c7a, .v .bool c7b]) []) :
    SC cfg.P i_spec_PairOfForests [.s (.v (.sl .str) a0), .s (.v (.sl .str) a1)] (.tup [.v (.pr .str .str) c7a, .v .bool c7b]) [] :=
  SC_of_run cfgOK (its := [.res (.s (.v .bool true)) [] [] [], .res (.s (.v .bool true)) [] [] [], .res (.s (.v (.pr .str .str) c3)) [] [] [], .res (.s (.v (.pr .str .str) c4)) [] [] [], .res (.s (.v (.pr .str .str) c5)) [] [] [], .res (.s (.v (.pr .str .str) c6)) [] [] [], .res (.tup [.v (.pr .str .str) c7a, .v .bool c7b]) [] [] []])
    (ps := [SC cfg.P i_spec_foGood [.s (.v (.sl .str) a0)] (.s (.v .bool true)) [],
      SC cfg.P i_spec_foGood [.s (.v (.sl .str) a1)] (.s (.v .bool true)) [],
      SC cfg.P i_spec_foPair [.s (.v (.sl .str) a0)] (.s (.v (.pr .str .str) c3)) [],
      SC cfg.P i_spec_foPair [.s (.v (.sl .str) a1)] (.s (.v (.pr .str .str) c4)) [],
      SC cfg.P i_spec_prInverse [.s (.v (.pr .str .str) c4)] (.s (.v (.pr .str .str) c5)) [],
      SC cfg.P i_spec_prTimes [.s (.v (.pr .str .str) c3), .s (.v (.pr .str .str) c5)] (.s (.v (.pr .str .str) c6)) [],
      SC cfg.P i_spec_prIf [.s (.v (.pr .str .str) c6)] (.tup [.v (.pr .str .str) c7a, .v .bool c7b]) []]) (by kernel_rfl) ⟨h1, h2, h3, h4, h5, h6, h7, trivial⟩ get_spec_PairOfForests (by decide)

theorem spec_PairOfForests_p2 (a0 : (List ByteArray)) (a1 : (List ByteArray))
    (h1 : SC cfg.P i_spec_foGood [.s (.v (.sl .str) a0)] (.s (.v .bool true)) [])
    (h2 : SC cfg.P i_spec_foGood [.s (.v (.sl .str) a1)] (.s (.v .bool false)) []) :
    SC cfg.P i_spec_PairOfForests [.s (.v (.sl .str) a0), .s (.v (.sl .str) a1)] (.tup [.v (.pr .str .str) ((⟨#[]⟩ : ByteArray), (⟨#[]⟩ : ByteArray)), .v .bool false]) [] :=
  SC_of_run cfgOK (its := [.res (.s (.v .bool true)) [] [] [], .res (.s (.v .bool false)) [] [] []])
    (ps := [SC cfg.P i_spec_foGood [.s (.v (.sl .str) a0)] (.s (.v .bool true)) [],
      SC cfg.P i_spec_foGood [.s (.v (.sl .str) a1)] (.s (.v .bool false)) []]) (by kernel_rfl) ⟨h1, h2, trivial⟩ get_spec_PairOfForests (by decide)

theorem spec_PairOfForests_p3 (a0 : (List ByteArray)) (a1 : (List ByteArray))
    (h1 : SC cfg.P i_spec_foGood [.s (.v (.sl .str) a0)] (.s (.v .bool false)) []) :
    SC cfg.P i_spec_PairOfForests [.s (.v (.sl .str) a0), .s (.v (.sl .str) a1)] (.tup [.v (.pr .str .str) ((⟨#[]⟩ : ByteArray), (⟨#[]⟩ : ByteArray)), .v .bool false]) [] :=
  SC_of_run cfgOK (its := [.res (.s (.v .bool false)) [] [] []])
    (ps := [SC cfg.P i_spec_foGood [.s (.v (.sl .str) a0)] (.s (.v .bool false)) []]) (by kernel_rfl) ⟨h1, trivial⟩ get_spec_PairOfForests (by decide)

/-! ### impl_InversePair -/


theorem impl_InversePair_p1 (a0 : (ByteArray × ByteArray)) (c1a : (Tr × Tr)) (c2 : (Tr × Tr)) (c3 : (ByteArray × ByteArray))
    (h1 : SC cfg.P i_impl_pairOf [.s (.v (.pr .str .str) a0)] (.tup [.v (.pr .tree .tree) c1a, .v .bool true]) [])
    (h2 : SC cfg.P i_impl_pair_inverse [.s (.v (.pr .tree .tree) c1a)] (.s (.v (.pr .tree .tree) c2)) [])
    (h3 : SC cfg.P i_impl_pair_plain [.s (.v (.pr .tree .tree) c2)] (.s (.v (.pr .str .str) c3)) []) :
    SC cfg.P i_impl_InversePair [.s (.v (.pr .str .str) a0)] (.tup [.v (.pr .str .str) c3, .v .bool true]) [] :=
  SC_of_run cfgOK (its := [.res (.tup [.v (.pr .tree .tree) c1a, .v .bool true]) [] [] [], .res (.s (.v (.pr .tree .tree) c2)) [] [] [], .res (.s (.v (.pr .str .str) c3)) [] [] []])
    (ps := [SC cfg.P i_impl_pairOf [.s (.v (.pr .str .str) a0)] (.tup [.v (.pr .tree .tree) c1a, .v .bool true]) [],
      SC cfg.P i_impl_pair_inverse [.s (.v (.pr .tree .tree) c1a)] (.s (.v (.pr .tree .tree) c2)) [],
      SC cfg.P i_impl_pair_plain [.s (.v (.pr .tree .tree) c2)] (.s (.v (.pr .str .str) c3)) []]) (by kernel_rfl) ⟨h1, h2, h3, trivial⟩ get_impl_InversePair (by decide)

/-! ### impl_StackForests -/


theorem impl_StackForests_p1 (a0 : (List ByteArray)) (a1 : (List ByteArray)) (c1a : (List Tr)) (c1b : (List Tr)) (c2 : (List Tr)) (c3a : (List ByteArray)) (c3b : Bool)
    (h1 : SC cfg.P i_impl_twoForests [.s (.v (.sl .str) a0), .s (.v (.sl .str) a1)] (.tup [.v (.sl .tree) c1a, .v (.sl .tree) c1b, .v .bool true]) [])
    (h2 : SC cfg.P i_impl_forest_stack [.s (.v (.sl .tree) c1a), .s (.v (.sl .tree) c1b)] (.s (.own t_pimpl_node .tree c2)) [])
    (h3 : SC cfg.P i_impl_forest_texts [.s (.v (.sl .tree) c2)] (.tup [.own t_string .str c3a, .v .bool c3b]) []) :
    SC cfg.P i_impl_StackForests [.s (.v (.sl .str) a0), .s (.v (.sl .str) a1)] (.tup [.own t_string .str c3a, .v .bool c3b]) [] :=
  SC_of_run cfgOK (its := [.res (.tup [.v (.sl .tree) c1a, .v (.sl .tree) c1b, .v .bool true]) [] [] [], .res (.s (.own t_pimpl_node .tree c2)) [] [] [20], .res (.tup [.own t_string .str c3a, .v .bool c3b]) [] [] [22]])
    (ps := [SC cfg.P i_impl_twoForests [.s (.v (.sl .str) a0), .s (.v (.sl .str) a1)] (.tup [.v (.sl .tree) c1a, .v (.sl .tree) c1b, .v .bool true]) [],
      SC cfg.P i_impl_forest_stack [.s (.v (.sl .tree) c1a), .s (.v (.sl .tree) c1b)] (.s (.own t_pimpl_node .tree c2)) [],
      SC cfg.P i_impl_forest_texts [.s (.v (.sl .tree) c2)] (.tup [.own t_string .str c3a, .v .bool c3b]) []]) (by kernel_rfl) ⟨h1, h2, h3, trivial⟩ get_impl_StackForests (by decide)

theorem impl_StackForests_p2 (a0 : (List ByteArray)) (a1 : (List ByteArray)) (c1a : (List Tr)) (c1b : (List Tr))
    (h1 : SC cfg.P i_impl_twoForests [.s (.v (.sl .str) a0), .s (.v (.sl .str) a1)] (.tup [.v (.sl .tree) c1a, .v (.sl .tree) c1b, .v .bool false]) []) :
    SC cfg.P i_impl_StackForests [.s (.v (.sl .str) a0), .s (.v (.sl .str) a1)] (.tup [.own t_string .str ([] : List ByteArray), .v .bool false]) [] :=
  SC_of_run cfgOK (its := [.res (.tup [.v (.sl .tree) c1a, .v (.sl .tree) c1b, .v .bool false]) [] [] []])
    (ps := [SC cfg.P i_impl_twoForests [.s (.v (.sl .str) a0), .s (.v (.sl .str) a1)] (.tup [.v (.sl .tree) c1a, .v (.sl .tree) c1b, .v .bool false]) []]) (by kernel_rfl) ⟨h1, trivial⟩ get_impl_StackForests (by decide)

/-! ### spec_DrawPairOfForest -/


theorem spec_DrawPairOfForest_p1 (a0 : (List Int)) (c1 : (List ByteArray)) (c1o0 : ((List Int) × (Int × Int)))
    (h1 : SC cfg.P i_spec_l1Cur_forest [.s (.mbx (.pr (.sl (.int .u8)) (.pr (.int .i64) (.int .u64))) (a0, ((0 : Int), (0 : Int)))), .s (.v (.int .i64) (5 : Int))] (.s (.own t_string .str c1)) [.box (.pr (.sl (.int .u8)) (.pr (.int .i64) (.int .u64))) c1o0]) :
    SC cfg.P i_spec_DrawPairOfForest [.s (.v (.sl (.int .u8)) a0)] (.s (.own t_string .str c1)) [] :=
  SC_of_run cfgOK (its := [.res (.s (.own t_string .str c1)) [.box (.pr (.sl (.int .u8)) (.pr (.int .i64) (.int .u64))) c1o0] [] [8]])
    (ps := [SC cfg.P i_spec_l1Cur_forest [.s (.mbx (.pr (.sl (.int .u8)) (.pr (.int .i64) (.int .u64))) (a0, ((0 : Int), (0 : Int)))), .s (.v (.int .i64) (5 : Int))] (.s (.own t_string .str c1)) [.box (.pr (.sl (.int .u8)) (.pr (.int .i64) (.int .u64))) c1o0]]) (by kernel_rfl) ⟨h1, trivial⟩ get_spec_DrawPairOfForest (by decide)

/-! ### impl_PairOfForest -/


theorem impl_PairOfForest_p1 (a0 : (List ByteArray)) (c1a : (List Tr)) (c2 : (Tr × Tr)) (c3a : (ByteArray × ByteArray)) (c3b : Bool)
    (h1 : SC cfg.P i_impl_forestOf [.s (.v (.sl .str) a0)] (.tup [.v (.sl .tree) c1a, .v .bool true]) [])
    (h2 : SC cfg.P i_impl_forest_pair [.s (.v (.sl .tree) c1a)] (.s (.v (.pr .tree .tree) c2)) [])
    (h3 : SC cfg.P i_impl_pair_fits [.s (.v (.pr .tree .tree) c2)] (.tup [.v (.pr .str .str) c3a, .v .bool c3b]) []) :
    SC cfg.P i_impl_PairOfForest [.s (.v (.sl .str) a0)] (.tup [.v (.pr .str .str) c3a, .v .bool c3b]) [] :=
  SC_of_run cfgOK (its := [.res (.tup [.v (.sl .tree) c1a, .v .bool true]) [] [] [], .res (.s (.v (.pr .tree .tree) c2)) [] [] [], .res (.tup [.v (.pr .str .str) c3a, .v .bool c3b]) [] [] []])
    (ps := [SC cfg.P i_impl_forestOf [.s (.v (.sl .str) a0)] (.tup [.v (.sl .tree) c1a, .v .bool true]) [],
      SC cfg.P i_impl_forest_pair [.s (.v (.sl .tree) c1a)] (.s (.v (.pr .tree .tree) c2)) [],
      SC cfg.P i_impl_pair_fits [.s (.v (.pr .tree .tree) c2)] (.tup [.v (.pr .str .str) c3a, .v .bool c3b]) []]) (by kernel_rfl) ⟨h1, h2, h3, trivial⟩ get_impl_PairOfForest (by decide)

theorem impl_PairOfForest_p2 (a0 : (List ByteArray)) (c1a : (List Tr))
    (h1 : SC cfg.P i_impl_forestOf [.s (.v (.sl .str) a0)] (.tup [.v (.sl .tree) c1a, .v .bool false]) []) :
    SC cfg.P i_impl_PairOfForest [.s (.v (.sl .str) a0)] (.tup [.v (.pr .str .str) ((⟨#[]⟩ : ByteArray), (⟨#[]⟩ : ByteArray)), .v .bool false]) [] :=
  SC_of_run cfgOK (its := [.res (.tup [.v (.sl .tree) c1a, .v .bool false]) [] [] []])
    (ps := [SC cfg.P i_impl_forestOf [.s (.v (.sl .str) a0)] (.tup [.v (.sl .tree) c1a, .v .bool false]) []]) (by kernel_rfl) ⟨h1, trivial⟩ get_impl_PairOfForest (by decide)

/-! ### spec_PairOfForest -/


theorem spec_PairOfForest_p1 (a0 : (List ByteArray)) (c2 : (ByteArray × ByteArray)) (c3a : (ByteArray × ByteArray)) (c3b : Bool)
    (h1 : SC cfg.P i_spec_foGood [.s (.v (.sl .str) a0)] (.s (.v .bool true)) [])
    (h2 : SC cfg.P i_spec_foPair [.s (.v (.sl .str) a0)] (.s (.v (.pr .str .str) c2)) [])
    (h3 : SC cfg.P i_spec_prIf [.s (.v (.pr .str .str) c2)] (.tup [.v (.pr .str .str) c3a, .v .bool c3b]) []) :
    SC cfg.P i_spec_PairOfForest [.s (.v (.sl .str) a0)] (.tup [.v (.pr .str .str) c3a, .v .bool c3b]) [] :=
  SC_of_run cfgOK (its := [.res (.s (.v .bool true)) [] [] [], .res (.s (.v (.pr .str .str) c2)) [] [] [], .res (.tup [.v (.pr .str .str) c3a, .v .bool c3b]) [] [] []])
    (ps := [SC cfg.P i_spec_foGood [.s (.v (.sl .str) a0)] (.s (.v .bool true)) [],
      SC cfg.P i_spec_foPair [.s (.v (.sl .str) a0)] (.s (.v (.pr .str .str) c2)) [],
      SC cfg.P i_spec_prIf [.s (.v (.pr .str .str) c2)] (.tup [.v (.pr .str .str) c3a, .v .bool c3b]) []]) (by kernel_rfl) ⟨h1, h2, h3, trivial⟩ get_spec_PairOfForest (by decide)

theorem spec_PairOfForest_p2 (a0 : (List ByteArray))
    (h1 : SC cfg.P i_spec_foGood [.s (.v (.sl .str) a0)] (.s (.v .bool false)) []) :
    SC cfg.P i_spec_PairOfForest [.s (.v (.sl .str) a0)] (.tup [.v (.pr .str .str) ((⟨#[]⟩ : ByteArray), (⟨#[]⟩ : ByteArray)), .v .bool false]) [] :=
  SC_of_run cfgOK (its := [.res (.s (.v .bool false)) [] [] []])
    (ps := [SC cfg.P i_spec_foGood [.s (.v (.sl .str) a0)] (.s (.v .bool false)) []]) (by kernel_rfl) ⟨h1, trivial⟩ get_spec_PairOfForest (by decide)

/-! ### impl_hanging -/


def impl_hanging_L0a (x0 : Tr) (xo3 : (List Tr)) : St := mkSt 19 [(0, .s (.v .tree x0)), (3, .s (.osl 3 0))] [(3, .row t_pimpl_node .tree xo3 0 false)]

def impl_hanging_L0X1 (y0 : Tr) (y5 : Bool) (yo3 : (List Tr)) : St := mkSt 19 [(0, .s (.v .tree y0)), (3, .s (.osl 3 0)), (5, .s (.v .bool y5))] [(3, .row t_pimpl_node .tree yo3 0 false)]

theorem impl_hanging_L0a_x1 (xo3 : (List Tr))
     :
    LoopSC cfg.P 1 (lb P_impl_hanging 0) (impl_hanging_L0a Tr.leaf xo3) (.exit 0) (impl_hanging_L0X1 Tr.leaf false xo3) :=
  loop_out cfgOK (f := i_impl_hanging) (its := [.bool false])
    (ps := [(!Tr.leaf.isLeaf) = false]) (by kernel_rfl) ⟨rfl, trivial⟩ (fun h => by cases h)

theorem impl_hanging_L0a_i2 (x0l : Tr) (x0r : Tr) (xo3 : (List Tr))
    (h1 : sizeOK (List.length xo3 + List.length ([x0l] : List Tr)))
    {e : AEx} {st : St} (next : LoopSC cfg.P 1 (lb P_impl_hanging 0) (impl_hanging_L0a x0r (xo3 ++ ([x0l] : List Tr))) e st) :
    LoopSC cfg.P 1 (lb P_impl_hanging 0) (impl_hanging_L0a (Tr.node x0l x0r) xo3) e st :=
  loop_iter cfgOK (f := i_impl_hanging) (its := [.bool true])
    (ps := [(!(Tr.node x0l x0r).isLeaf) = true,
      sizeOK (List.length xo3 + List.length ([x0l] : List Tr))]) (st1 := impl_hanging_L0a x0r (xo3 ++ ([x0l] : List Tr))) (by kernel_rfl) ⟨rfl, h1, trivial⟩ next

theorem impl_hanging_p1 (a0 : Tr) (k1y0 : Tr) (k1y5 : Bool) (k1yo3 : (List Tr)) (c1 : (List Tr))
    (h1 : LoopSC cfg.P 1 (lb P_impl_hanging 0) (impl_hanging_L0a a0 ([] : List Tr)) (.exit 0) (impl_hanging_L0X1 k1y0 k1y5 k1yo3))
    (h2 : SC cfg.P i_impl_forest_trimmed [.s (.v (.sl .tree) k1yo3)] (.s (.v (.sl .tree) c1)) []) :
    SC cfg.P i_impl_hanging [.s (.v .tree a0)] (.s (.v (.sl .tree) c1)) [] :=
  SC_of_run cfgOK (its := [.loop (fun _ => (.exit 0, impl_hanging_L0X1 k1y0 k1y5 k1yo3)), .res (.s (.v (.sl .tree) c1)) [] [] []])
    (ps := [LoopSC cfg.P 1 (lb P_impl_hanging 0) (impl_hanging_L0a a0 ([] : List Tr)) (.exit 0) (impl_hanging_L0X1 k1y0 k1y5 k1yo3),
      SC cfg.P i_impl_forest_trimmed [.s (.v (.sl .tree) k1yo3)] (.s (.v (.sl .tree) c1)) []]) (by kernel_rfl) ⟨h1, h2, trivial⟩ get_impl_hanging (by decide)

/-! ### impl_forest_texts -/


def impl_forest_texts_L0a (x17 : (List Tr)) (x18 : Int) (x19 : Int) (xo4 : (List ByteArray)) : St := mkSt 30 [(4, .s (.osl 4 0)), (17, .s (.v (.sl .tree) x17)), (18, .s (.v (.int .i64) x18)), (19, .s (.v (.int .i64) x19))] [(4, .row t_string .str xo4 0 false)]

def impl_forest_texts_L0X1 (y17 : (List Tr)) (y18 : Int) (y19 : Int) (y20 : Bool) (yo4 : (List ByteArray)) : St := mkSt 30 [(4, .s (.osl 4 0)), (17, .s (.v (.sl .tree) y17)), (18, .s (.v (.int .i64) y18)), (19, .s (.v (.int .i64) y19)), (20, .s (.v .bool y20))] [(4, .row t_string .str yo4 0 false)]

theorem impl_forest_texts_L0a_i1 (x17 : (List Tr)) (x18 : Int) (x19 : Int) (xo4 : (List ByteArray)) (dc1 : ByteArray)
    (h1 : x19 < x18)
    (h2 : 0 ≤ x19)
    (h3 : x19 < (List.length x17 : Int))
    (h4 : SC cfg.P i_impl_node_text [.s (.v .tree (List.getD x17 (x19).toNat Tr.leaf))] (.s (.v .str dc1)) [])
    (h5 : sizeOK (List.length xo4 + List.length ([dc1] : List ByteArray)))
    {e : AEx} {st : St} (next : LoopSC cfg.P 1 (lb P_impl_forest_texts 0) (impl_forest_texts_L0a x17 x18 (IntKind.wrap .i64 (x19 + (1 : Int))) (xo4 ++ ([dc1] : List ByteArray))) e st) :
    LoopSC cfg.P 1 (lb P_impl_forest_texts 0) (impl_forest_texts_L0a x17 x18 x19 xo4) e st :=
  loop_iter cfgOK (f := i_impl_forest_texts) (its := [.bool true, .res (.s (.v .str dc1)) [] [] []])
    (ps := [decide (x19 < x18) = true,
      0 ≤ x19,
      x19 < (List.length x17 : Int),
      SC cfg.P i_impl_node_text [.s (.v .tree (List.getD x17 (x19).toNat Tr.leaf))] (.s (.v .str dc1)) [],
      sizeOK (List.length xo4 + List.length ([dc1] : List ByteArray))]) (st1 := impl_forest_texts_L0a x17 x18 (IntKind.wrap .i64 (x19 + (1 : Int))) (xo4 ++ ([dc1] : List ByteArray))) (by kernel_rfl) ⟨(decide_eq_true h1), h2, h3, h4, h5, trivial⟩ next

theorem impl_forest_texts_L0a_x2 (x17 : (List Tr)) (x18 : Int) (x19 : Int) (xo4 : (List ByteArray))
    (h1 : ¬ (x19 < x18)) :
    LoopSC cfg.P 1 (lb P_impl_forest_texts 0) (impl_forest_texts_L0a x17 x18 x19 xo4) (.exit 0) (impl_forest_texts_L0X1 x17 x18 x19 false xo4) :=
  loop_out cfgOK (f := i_impl_forest_texts) (its := [.bool false])
    (ps := [decide (x19 < x18) = false]) (by kernel_rfl) ⟨(decide_eq_false h1), trivial⟩ (fun h => by cases h)

theorem impl_forest_texts_p1 (a0 : (List Tr)) (c1 : (List Tr))
    (h1 : SC cfg.P i_impl_forest_trimmed [.s (.v (.sl .tree) a0)] (.s (.v (.sl .tree) c1)) [])
    (h2 : ((List.length c1 : Nat) : Int) > (8 : Int)) :
    SC cfg.P i_impl_forest_texts [.s (.v (.sl .tree) a0)] (.tup [.own t_string .str ([] : List ByteArray), .v .bool false]) [] :=
  SC_of_run cfgOK (its := [.res (.s (.v (.sl .tree) c1)) [] [] [], .bool true])
    (ps := [SC cfg.P i_impl_forest_trimmed [.s (.v (.sl .tree) a0)] (.s (.v (.sl .tree) c1)) [],
      decide (((List.length c1 : Nat) : Int) > (8 : Int)) = true]) (by kernel_rfl) ⟨h1, (decide_eq_true h2), trivial⟩ get_impl_forest_texts (by decide)

theorem impl_forest_texts_p2 (a0 : (List Tr)) (c1 : (List Tr)) (c2 : Int)
    (h1 : SC cfg.P i_impl_forest_trimmed [.s (.v (.sl .tree) a0)] (.s (.v (.sl .tree) c1)) [])
    (h2 : ¬ (((List.length c1 : Nat) : Int) > (8 : Int)))
    (h3 : SC cfg.P i_impl_forest_carets [.s (.v (.sl .tree) c1)] (.s (.v (.int .i64) c2)) [])
    (h4 : c2 > (8 : Int)) :
    SC cfg.P i_impl_forest_texts [.s (.v (.sl .tree) a0)] (.tup [.own t_string .str ([] : List ByteArray), .v .bool false]) [] :=
  SC_of_run cfgOK (its := [.res (.s (.v (.sl .tree) c1)) [] [] [], .bool false, .res (.s (.v (.int .i64) c2)) [] [] [], .bool true])
    (ps := [SC cfg.P i_impl_forest_trimmed [.s (.v (.sl .tree) a0)] (.s (.v (.sl .tree) c1)) [],
      decide (((List.length c1 : Nat) : Int) > (8 : Int)) = false,
      SC cfg.P i_impl_forest_carets [.s (.v (.sl .tree) c1)] (.s (.v (.int .i64) c2)) [],
      decide (c2 > (8 : Int)) = true]) (by kernel_rfl) ⟨h1, (decide_eq_false h2), h3, (decide_eq_true h4), trivial⟩ get_impl_forest_texts (by decide)

theorem impl_forest_texts_p3 (a0 : (List Tr)) (c1 : (List Tr)) (c2 : Int) (k1y17 : (List Tr)) (k1y18 : Int) (k1y19 : Int) (k1y20 : Bool) (k1yo4 : (List ByteArray))
    (h1 : SC cfg.P i_impl_forest_trimmed [.s (.v (.sl .tree) a0)] (.s (.v (.sl .tree) c1)) [])
    (h2 : ¬ (((List.length c1 : Nat) : Int) > (8 : Int)))
    (h3 : SC cfg.P i_impl_forest_carets [.s (.v (.sl .tree) c1)] (.s (.v (.int .i64) c2)) [])
    (h4 : ¬ (c2 > (8 : Int)))
    (h5 : LoopSC cfg.P 1 (lb P_impl_forest_texts 0) (impl_forest_texts_L0a c1 ((List.length c1 : Nat) : Int) (0 : Int) ([] : List ByteArray)) (.exit 0) (impl_forest_texts_L0X1 k1y17 k1y18 k1y19 k1y20 k1yo4)) :
    SC cfg.P i_impl_forest_texts [.s (.v (.sl .tree) a0)] (.tup [.own t_string .str k1yo4, .v .bool true]) [] :=
  SC_of_run cfgOK (its := [.res (.s (.v (.sl .tree) c1)) [] [] [], .bool false, .res (.s (.v (.int .i64) c2)) [] [] [], .bool false, .loop (fun _ => (.exit 0, impl_forest_texts_L0X1 k1y17 k1y18 k1y19 k1y20 k1yo4))])
    (ps := [SC cfg.P i_impl_forest_trimmed [.s (.v (.sl .tree) a0)] (.s (.v (.sl .tree) c1)) [],
      decide (((List.length c1 : Nat) : Int) > (8 : Int)) = false,
      SC cfg.P i_impl_forest_carets [.s (.v (.sl .tree) c1)] (.s (.v (.int .i64) c2)) [],
      decide (c2 > (8 : Int)) = false,
      LoopSC cfg.P 1 (lb P_impl_forest_texts 0) (impl_forest_texts_L0a c1 ((List.length c1 : Nat) : Int) (0 : Int) ([] : List ByteArray)) (.exit 0) (impl_forest_texts_L0X1 k1y17 k1y18 k1y19 k1y20 k1yo4)]) (by kernel_rfl) ⟨h1, (decide_eq_false h2), h3, (decide_eq_false h4), h5, trivial⟩ get_impl_forest_texts (by decide)

/-! ### spec_foIf -/


theorem spec_foIf_p1 (a0 : (List ByteArray)) (c1 : (List ByteArray))
    (h1 : SC cfg.P i_spec_wdShort [.s (.v (.sl .str) a0)] (.s (.own t_string .str c1)) [])
    (h2 : SC cfg.P i_spec_foGood [.s (.v (.sl .str) c1)] (.s (.v .bool true)) []) :
    SC cfg.P i_spec_foIf [.s (.v (.sl .str) a0)] (.tup [.own t_string .str c1, .v .bool true]) [] :=
  SC_of_run cfgOK (its := [.res (.s (.own t_string .str c1)) [] [] [6], .res (.s (.v .bool true)) [] [] []])
    (ps := [SC cfg.P i_spec_wdShort [.s (.v (.sl .str) a0)] (.s (.own t_string .str c1)) [],
      SC cfg.P i_spec_foGood [.s (.v (.sl .str) c1)] (.s (.v .bool true)) []]) (by kernel_rfl) ⟨h1, h2, trivial⟩ get_spec_foIf (by decide)

theorem spec_foIf_p2 (a0 : (List ByteArray)) (c1 : (List ByteArray))
    (h1 : SC cfg.P i_spec_wdShort [.s (.v (.sl .str) a0)] (.s (.own t_string .str c1)) [])
    (h2 : SC cfg.P i_spec_foGood [.s (.v (.sl .str) c1)] (.s (.v .bool false)) []) :
    SC cfg.P i_spec_foIf [.s (.v (.sl .str) a0)] (.tup [.own t_string .str ([] : List ByteArray), .v .bool false]) [] :=
  SC_of_run cfgOK (its := [.res (.s (.own t_string .str c1)) [] [] [6], .res (.s (.v .bool false)) [] [] []])
    (ps := [SC cfg.P i_spec_wdShort [.s (.v (.sl .str) a0)] (.s (.own t_string .str c1)) [],
      SC cfg.P i_spec_foGood [.s (.v (.sl .str) c1)] (.s (.v .bool false)) []]) (by kernel_rfl) ⟨h1, h2, trivial⟩ get_spec_foIf (by decide)

/-! ### spec_foHanging -/


def spec_foHanging_L0a (x0 : ByteArray) (xo3 : (List ByteArray)) : St := mkSt 21 [(0, .s (.v .str x0)), (3, .s (.osl 3 0))] [(3, .row t_string .str xo3 0 false)]

def spec_foHanging_L0X1 (y0 : ByteArray) (y8 : Bool) (yo3 : (List ByteArray)) : St := mkSt 21 [(0, .s (.v .str y0)), (3, .s (.osl 3 0)), (8, .s (.v .bool y8))] [(3, .row t_string .str yo3 0 false)]

theorem spec_foHanging_L0a_x1 (x0 : ByteArray) (xo3 : (List ByteArray))
    (h1 : SC cfg.P i_spec_trLeaf [.s (.v .str x0)] (.s (.v .bool true)) []) :
    LoopSC cfg.P 1 (lb P_spec_foHanging 0) (spec_foHanging_L0a x0 xo3) (.exit 0) (spec_foHanging_L0X1 x0 false xo3) :=
  loop_out cfgOK (f := i_spec_foHanging) (its := [.res (.s (.v .bool true)) [] [] []])
    (ps := [SC cfg.P i_spec_trLeaf [.s (.v .str x0)] (.s (.v .bool true)) []]) (by kernel_rfl) ⟨h1, trivial⟩ (fun h => by cases h)

theorem spec_foHanging_L0a_i2 (x0 : ByteArray) (xo3 : (List ByteArray)) (dc2a : ByteArray) (dc2b : ByteArray)
    (h1 : SC cfg.P i_spec_trLeaf [.s (.v .str x0)] (.s (.v .bool false)) [])
    (h2 : SC cfg.P i_spec_trSides [.s (.v .str x0)] (.tup [.v .str dc2a, .v .str dc2b]) [])
    (h3 : sizeOK (List.length xo3 + List.length ([dc2a] : List ByteArray)))
    {e : AEx} {st : St} (next : LoopSC cfg.P 1 (lb P_spec_foHanging 0) (spec_foHanging_L0a dc2b (xo3 ++ ([dc2a] : List ByteArray))) e st) :
    LoopSC cfg.P 1 (lb P_spec_foHanging 0) (spec_foHanging_L0a x0 xo3) e st :=
  loop_iter cfgOK (f := i_spec_foHanging) (its := [.res (.s (.v .bool false)) [] [] [], .res (.tup [.v .str dc2a, .v .str dc2b]) [] [] []])
    (ps := [SC cfg.P i_spec_trLeaf [.s (.v .str x0)] (.s (.v .bool false)) [],
      SC cfg.P i_spec_trSides [.s (.v .str x0)] (.tup [.v .str dc2a, .v .str dc2b]) [],
      sizeOK (List.length xo3 + List.length ([dc2a] : List ByteArray))]) (st1 := spec_foHanging_L0a dc2b (xo3 ++ ([dc2a] : List ByteArray))) (by kernel_rfl) ⟨h1, h2, h3, trivial⟩ next

theorem spec_foHanging_p1 (a0 : ByteArray) (k1y0 : ByteArray) (k1y8 : Bool) (k1yo3 : (List ByteArray)) (c1 : (List ByteArray))
    (h1 : LoopSC cfg.P 1 (lb P_spec_foHanging 0) (spec_foHanging_L0a a0 ([] : List ByteArray)) (.exit 0) (spec_foHanging_L0X1 k1y0 k1y8 k1yo3))
    (h2 : SC cfg.P i_spec_wdShort [.s (.v (.sl .str) k1yo3)] (.s (.own t_string .str c1)) []) :
    SC cfg.P i_spec_foHanging [.s (.v .str a0)] (.s (.own t_string .str c1)) [] :=
  SC_of_run cfgOK (its := [.loop (fun _ => (.exit 0, spec_foHanging_L0X1 k1y0 k1y8 k1yo3)), .res (.s (.own t_string .str c1)) [] [] [20]])
    (ps := [LoopSC cfg.P 1 (lb P_spec_foHanging 0) (spec_foHanging_L0a a0 ([] : List ByteArray)) (.exit 0) (spec_foHanging_L0X1 k1y0 k1y8 k1yo3),
      SC cfg.P i_spec_wdShort [.s (.v (.sl .str) k1yo3)] (.s (.own t_string .str c1)) []]) (by kernel_rfl) ⟨h1, h2, trivial⟩ get_spec_foHanging (by decide)

/-! ### impl_twoForests -/


theorem impl_twoForests_p1 (a0 : (List ByteArray)) (a1 : (List ByteArray)) (c1a : (List Tr)) (c2a : (List Tr)) (c2b : Bool)
    (h1 : SC cfg.P i_impl_forestOf [.s (.v (.sl .str) a0)] (.tup [.v (.sl .tree) c1a, .v .bool true]) [])
    (h2 : SC cfg.P i_impl_forestOf [.s (.v (.sl .str) a1)] (.tup [.v (.sl .tree) c2a, .v .bool c2b]) []) :
    SC cfg.P i_impl_twoForests [.s (.v (.sl .str) a0), .s (.v (.sl .str) a1)] (.tup [.v (.sl .tree) c1a, .v (.sl .tree) c2a, .v .bool c2b]) [] :=
  SC_of_run cfgOK (its := [.res (.tup [.v (.sl .tree) c1a, .v .bool true]) [] [] [], .res (.tup [.v (.sl .tree) c2a, .v .bool c2b]) [] [] []])
    (ps := [SC cfg.P i_impl_forestOf [.s (.v (.sl .str) a0)] (.tup [.v (.sl .tree) c1a, .v .bool true]) [],
      SC cfg.P i_impl_forestOf [.s (.v (.sl .str) a1)] (.tup [.v (.sl .tree) c2a, .v .bool c2b]) []]) (by kernel_rfl) ⟨h1, h2, trivial⟩ get_impl_twoForests (by decide)

theorem impl_twoForests_p2 (a0 : (List ByteArray)) (a1 : (List ByteArray)) (c1a : (List Tr)) (c2a : (List Tr)) (c2b : Bool)
    (h1 : SC cfg.P i_impl_forestOf [.s (.v (.sl .str) a0)] (.tup [.v (.sl .tree) c1a, .v .bool false]) [])
    (h2 : SC cfg.P i_impl_forestOf [.s (.v (.sl .str) a1)] (.tup [.v (.sl .tree) c2a, .v .bool c2b]) []) :
    SC cfg.P i_impl_twoForests [.s (.v (.sl .str) a0), .s (.v (.sl .str) a1)] (.tup [.v (.sl .tree) c1a, .v (.sl .tree) c2a, .v .bool false]) [] :=
  SC_of_run cfgOK (its := [.res (.tup [.v (.sl .tree) c1a, .v .bool false]) [] [] [], .res (.tup [.v (.sl .tree) c2a, .v .bool c2b]) [] [] []])
    (ps := [SC cfg.P i_impl_forestOf [.s (.v (.sl .str) a0)] (.tup [.v (.sl .tree) c1a, .v .bool false]) [],
      SC cfg.P i_impl_forestOf [.s (.v (.sl .str) a1)] (.tup [.v (.sl .tree) c2a, .v .bool c2b]) []]) (by kernel_rfl) ⟨h1, h2, trivial⟩ get_impl_twoForests (by decide)

/-! ### impl_forest_pair -/


theorem impl_forest_pair_p1 (a0 : (List Tr)) (c1 : Tr) (c2 : Int) (c3 : Tr) (c4 : (Tr × Tr))
    (h1 : SC cfg.P i_impl_forest_hung [.s (.v (.sl .tree) a0)] (.s (.v .tree c1)) [])
    (h2 : SC cfg.P i_impl_node_carets [.s (.v .tree c1)] (.s (.v (.int .i64) c2)) [])
    (h3 : SC cfg.P i_impl_rightComb [.s (.v (.int .i64) c2)] (.s (.v .tree c3)) [])
    (h4 : SC cfg.P i_impl_pair_reduced [.s (.v (.pr .tree .tree) (c1, c3))] (.s (.v (.pr .tree .tree) c4)) []) :
    SC cfg.P i_impl_forest_pair [.s (.v (.sl .tree) a0)] (.s (.v (.pr .tree .tree) c4)) [] :=
  SC_of_run cfgOK (its := [.res (.s (.v .tree c1)) [] [] [], .res (.s (.v (.int .i64) c2)) [] [] [], .res (.s (.v .tree c3)) [] [] [], .res (.s (.v (.pr .tree .tree) c4)) [] [] []])
    (ps := [SC cfg.P i_impl_forest_hung [.s (.v (.sl .tree) a0)] (.s (.v .tree c1)) [],
      SC cfg.P i_impl_node_carets [.s (.v .tree c1)] (.s (.v (.int .i64) c2)) [],
      SC cfg.P i_impl_rightComb [.s (.v (.int .i64) c2)] (.s (.v .tree c3)) [],
      SC cfg.P i_impl_pair_reduced [.s (.v (.pr .tree .tree) (c1, c3))] (.s (.v (.pr .tree .tree) c4)) []]) (by kernel_rfl) ⟨h1, h2, h3, h4, trivial⟩ get_impl_forest_pair (by decide)

/-! ### impl_madeWord -/


theorem impl_madeWord_p2 (a0 : (List Int))
    (h1 : SC cfg.P i_impl_IsWord [.s (.v (.sl (.int .i64)) a0)] (.s (.v .bool false)) []) :
    SC cfg.P i_impl_madeWord [.s (.v (.sl (.int .i64)) a0)] (.tup [.own t_int (.int .i64) ([] : List Int), .v .bool false]) [] :=
  SC_of_run cfgOK (its := [.res (.s (.v .bool false)) [] [] []])
    (ps := [SC cfg.P i_impl_IsWord [.s (.v (.sl (.int .i64)) a0)] (.s (.v .bool false)) []]) (by kernel_rfl) ⟨h1, trivial⟩ get_impl_madeWord (by decide)

/-! ### impl_wordOfPair -/


theorem impl_wordOfPair_p1 (a0 : (Tr × Tr)) (c1 : (List Int)) (c2 : (List Int)) (c3 : (List Int)) (c4 : (List Int)) (c5 : (List Int))
    (h1 : SC cfg.P i_impl_node_exponents [.s (.v .tree a0.1)] (.s (.v (.sl (.int .i64)) c1)) [])
    (h2 : SC cfg.P i_impl_wordOf [.s (.v (.sl (.int .i64)) c1)] (.s (.own t_int (.int .i64) c2)) [])
    (h3 : SC cfg.P i_impl_node_exponents [.s (.v .tree a0.2)] (.s (.v (.sl (.int .i64)) c3)) [])
    (h4 : SC cfg.P i_impl_wordOf [.s (.v (.sl (.int .i64)) c3)] (.s (.own t_int (.int .i64) c4)) [])
    (h5 : SC cfg.P i_impl_inverseOf [.s (.v (.sl (.int .i64)) c4)] (.s (.v (.sl (.int .i64)) c5)) [])
    (h6 : sizeOK (List.length c2 + List.length c5)) :
    SC cfg.P i_impl_wordOfPair [.s (.v (.pr .tree .tree) a0)] (.s (.own t_int (.int .i64) (c2 ++ c5))) [] :=
  SC_of_run cfgOK (its := [.res (.s (.v (.sl (.int .i64)) c1)) [] [] [], .res (.s (.own t_int (.int .i64) c2)) [] [] [6], .res (.s (.v (.sl (.int .i64)) c3)) [] [] [], .res (.s (.own t_int (.int .i64) c4)) [] [] [10], .res (.s (.v (.sl (.int .i64)) c5)) [] [] []])
    (ps := [SC cfg.P i_impl_node_exponents [.s (.v .tree a0.1)] (.s (.v (.sl (.int .i64)) c1)) [],
      SC cfg.P i_impl_wordOf [.s (.v (.sl (.int .i64)) c1)] (.s (.own t_int (.int .i64) c2)) [],
      SC cfg.P i_impl_node_exponents [.s (.v .tree a0.2)] (.s (.v (.sl (.int .i64)) c3)) [],
      SC cfg.P i_impl_wordOf [.s (.v (.sl (.int .i64)) c3)] (.s (.own t_int (.int .i64) c4)) [],
      SC cfg.P i_impl_inverseOf [.s (.v (.sl (.int .i64)) c4)] (.s (.v (.sl (.int .i64)) c5)) [],
      sizeOK (List.length c2 + List.length c5)]) (by kernel_rfl) ⟨h1, h2, h3, h4, h5, h6, trivial⟩ get_impl_wordOfPair (by decide)

/-! ### impl_forestOf -/


def impl_forestOf_L0a (x12 : (List ByteArray)) (x13 : Int) (x14 : Int) (xo4 : (List Tr)) : St := mkSt 42 [(4, .s (.osl 4 0)), (12, .s (.v (.sl .str) x12)), (13, .s (.v (.int .i64) x13)), (14, .s (.v (.int .i64) x14))] [(4, .row t_pimpl_node .tree xo4 0 false)]

def impl_forestOf_L0X1 (y3 : Bool) (yo2 : (List Tr)) : St := mkSt 42 [(2, .s (.osl 2 0)), (3, .s (.v .bool y3))] [(2, .row t_pimpl_node .tree yo2 0 false)]

def impl_forestOf_L0X2 (y12 : (List ByteArray)) (y13 : Int) (y14 : Int) (y15 : Bool) (yo4 : (List Tr)) : St := mkSt 42 [(4, .s (.osl 4 0)), (12, .s (.v (.sl .str) y12)), (13, .s (.v (.int .i64) y13)), (14, .s (.v (.int .i64) y14)), (15, .s (.v .bool y15))] [(4, .row t_pimpl_node .tree yo4 0 false)]

theorem impl_forestOf_L0a_i1 (x12 : (List ByteArray)) (x13 : Int) (x14 : Int) (xo4 : (List Tr)) (dc1a : Tr)
    (h1 : x14 < x13)
    (h2 : 0 ≤ x14)
    (h3 : x14 < (List.length x12 : Int))
    (h4 : SC cfg.P i_impl_parse [.s (.v .str (List.getD x12 (x14).toNat (⟨#[]⟩ : ByteArray)))] (.tup [.v .tree dc1a, .v .bool true]) [])
    (h5 : sizeOK (List.length xo4 + List.length ([dc1a] : List Tr)))
    {e : AEx} {st : St} (next : LoopSC cfg.P 1 (lb P_impl_forestOf 0) (impl_forestOf_L0a x12 x13 (IntKind.wrap .i64 (x14 + (1 : Int))) (xo4 ++ ([dc1a] : List Tr))) e st) :
    LoopSC cfg.P 1 (lb P_impl_forestOf 0) (impl_forestOf_L0a x12 x13 x14 xo4) e st :=
  loop_iter cfgOK (f := i_impl_forestOf) (its := [.bool true, .res (.tup [.v .tree dc1a, .v .bool true]) [] [] []])
    (ps := [decide (x14 < x13) = true,
      0 ≤ x14,
      x14 < (List.length x12 : Int),
      SC cfg.P i_impl_parse [.s (.v .str (List.getD x12 (x14).toNat (⟨#[]⟩ : ByteArray)))] (.tup [.v .tree dc1a, .v .bool true]) [],
      sizeOK (List.length xo4 + List.length ([dc1a] : List Tr))]) (st1 := impl_forestOf_L0a x12 x13 (IntKind.wrap .i64 (x14 + (1 : Int))) (xo4 ++ ([dc1a] : List Tr))) (by kernel_rfl) ⟨(decide_eq_true h1), h2, h3, h4, h5, trivial⟩ next

theorem impl_forestOf_L0a_x2 (x12 : (List ByteArray)) (x13 : Int) (x14 : Int) (xo4 : (List Tr)) (dc1a : Tr)
    (h1 : x14 < x13)
    (h2 : 0 ≤ x14)
    (h3 : x14 < (List.length x12 : Int))
    (h4 : SC cfg.P i_impl_parse [.s (.v .str (List.getD x12 (x14).toNat (⟨#[]⟩ : ByteArray)))] (.tup [.v .tree dc1a, .v .bool false]) []) :
    LoopSC cfg.P 1 (lb P_impl_forestOf 0) (impl_forestOf_L0a x12 x13 x14 xo4) (.ret) (impl_forestOf_L0X1 false ([] : List Tr)) :=
  loop_out cfgOK (f := i_impl_forestOf) (its := [.bool true, .res (.tup [.v .tree dc1a, .v .bool false]) [] [] []])
    (ps := [decide (x14 < x13) = true,
      0 ≤ x14,
      x14 < (List.length x12 : Int),
      SC cfg.P i_impl_parse [.s (.v .str (List.getD x12 (x14).toNat (⟨#[]⟩ : ByteArray)))] (.tup [.v .tree dc1a, .v .bool false]) []]) (by kernel_rfl) ⟨(decide_eq_true h1), h2, h3, h4, trivial⟩ (fun h => by cases h)

theorem impl_forestOf_L0a_x3 (x12 : (List ByteArray)) (x13 : Int) (x14 : Int) (xo4 : (List Tr))
    (h1 : ¬ (x14 < x13)) :
    LoopSC cfg.P 1 (lb P_impl_forestOf 0) (impl_forestOf_L0a x12 x13 x14 xo4) (.exit 0) (impl_forestOf_L0X2 x12 x13 x14 false xo4) :=
  loop_out cfgOK (f := i_impl_forestOf) (its := [.bool false])
    (ps := [decide (x14 < x13) = false]) (by kernel_rfl) ⟨(decide_eq_false h1), trivial⟩ (fun h => by cases h)

theorem impl_forestOf_p1 (a0 : (List ByteArray))
    (h1 : ((List.length a0 : Nat) : Int) > (8 : Int)) :
    SC cfg.P i_impl_forestOf [.s (.v (.sl .str) a0)] (.tup [.own t_pimpl_node .tree ([] : List Tr), .v .bool false]) [] :=
  SC_of_run cfgOK (its := [.bool true])
    (ps := [decide (((List.length a0 : Nat) : Int) > (8 : Int)) = true]) (by kernel_rfl) ⟨(decide_eq_true h1), trivial⟩ get_impl_forestOf (by decide)

theorem impl_forestOf_p2 (a0 : (List ByteArray)) (k1y3 : Bool) (k1yo2 : (List Tr))
    (h1 : ¬ (((List.length a0 : Nat) : Int) > (8 : Int)))
    (h2 : LoopSC cfg.P 1 (lb P_impl_forestOf 0) (impl_forestOf_L0a a0 ((List.length a0 : Nat) : Int) (0 : Int) ([] : List Tr)) (.ret) (impl_forestOf_L0X1 k1y3 k1yo2)) :
    SC cfg.P i_impl_forestOf [.s (.v (.sl .str) a0)] (.tup [.own t_pimpl_node .tree k1yo2, .v .bool k1y3]) [] :=
  SC_of_run cfgOK (its := [.bool false, .loop (fun _ => (.ret, impl_forestOf_L0X1 k1y3 k1yo2))])
    (ps := [decide (((List.length a0 : Nat) : Int) > (8 : Int)) = false,
      LoopSC cfg.P 1 (lb P_impl_forestOf 0) (impl_forestOf_L0a a0 ((List.length a0 : Nat) : Int) (0 : Int) ([] : List Tr)) (.ret) (impl_forestOf_L0X1 k1y3 k1yo2)]) (by kernel_rfl) ⟨(decide_eq_false h1), h2, trivial⟩ get_impl_forestOf (by decide)

theorem impl_forestOf_p3 (a0 : (List ByteArray)) (k1y12 : (List ByteArray)) (k1y13 : Int) (k1y14 : Int) (k1y15 : Bool) (k1yo4 : (List Tr)) (c1 : Int) (c2 : (List Tr))
    (h1 : ¬ (((List.length a0 : Nat) : Int) > (8 : Int)))
    (h2 : LoopSC cfg.P 1 (lb P_impl_forestOf 0) (impl_forestOf_L0a a0 ((List.length a0 : Nat) : Int) (0 : Int) ([] : List Tr)) (.exit 0) (impl_forestOf_L0X2 k1y12 k1y13 k1y14 k1y15 k1yo4))
    (h3 : SC cfg.P i_impl_forest_carets [.s (.v (.sl .tree) k1yo4)] (.s (.v (.int .i64) c1)) [])
    (h4 : c1 ≤ (8 : Int))
    (h5 : SC cfg.P i_impl_forest_trimmed [.s (.v (.sl .tree) k1yo4)] (.s (.v (.sl .tree) c2)) [])
    (h6 : ((List.length c2 : Nat) : Int) = ((List.length k1yo4 : Nat) : Int)) :
    SC cfg.P i_impl_forestOf [.s (.v (.sl .str) a0)] (.tup [.v (.sl .tree) k1yo4, .v .bool true]) [] :=
  SC_of_run cfgOK (its := [.bool false, .loop (fun _ => (.exit 0, impl_forestOf_L0X2 k1y12 k1y13 k1y14 k1y15 k1yo4)), .res (.s (.v (.int .i64) c1)) [] [] [], .bool true, .res (.s (.v (.sl .tree) c2)) [] [] [], .bool true])
    (ps := [decide (((List.length a0 : Nat) : Int) > (8 : Int)) = false,
      LoopSC cfg.P 1 (lb P_impl_forestOf 0) (impl_forestOf_L0a a0 ((List.length a0 : Nat) : Int) (0 : Int) ([] : List Tr)) (.exit 0) (impl_forestOf_L0X2 k1y12 k1y13 k1y14 k1y15 k1yo4),
      SC cfg.P i_impl_forest_carets [.s (.v (.sl .tree) k1yo4)] (.s (.v (.int .i64) c1)) [],
      decide (c1 ≤ (8 : Int)) = true,
      SC cfg.P i_impl_forest_trimmed [.s (.v (.sl .tree) k1yo4)] (.s (.v (.sl .tree) c2)) [],
      (((List.length c2 : Nat) : Int) == ((List.length k1yo4 : Nat) : Int)) = true]) (by kernel_rfl) ⟨(decide_eq_false h1), h2, h3, (decide_eq_true h4), h5, (beq_iff_eq.mpr h6), trivial⟩ get_impl_forestOf (by decide)

theorem impl_forestOf_p4 (a0 : (List ByteArray)) (k1y12 : (List ByteArray)) (k1y13 : Int) (k1y14 : Int) (k1y15 : Bool) (k1yo4 : (List Tr)) (c1 : Int) (c2 : (List Tr))
    (h1 : ¬ (((List.length a0 : Nat) : Int) > (8 : Int)))
    (h2 : LoopSC cfg.P 1 (lb P_impl_forestOf 0) (impl_forestOf_L0a a0 ((List.length a0 : Nat) : Int) (0 : Int) ([] : List Tr)) (.exit 0) (impl_forestOf_L0X2 k1y12 k1y13 k1y14 k1y15 k1yo4))
    (h3 : SC cfg.P i_impl_forest_carets [.s (.v (.sl .tree) k1yo4)] (.s (.v (.int .i64) c1)) [])
    (h4 : c1 ≤ (8 : Int))
    (h5 : SC cfg.P i_impl_forest_trimmed [.s (.v (.sl .tree) k1yo4)] (.s (.v (.sl .tree) c2)) [])
    (h6 : ((List.length c2 : Nat) : Int) ≠ ((List.length k1yo4 : Nat) : Int)) :
    SC cfg.P i_impl_forestOf [.s (.v (.sl .str) a0)] (.tup [.v (.sl .tree) k1yo4, .v .bool false]) [] :=
  SC_of_run cfgOK (its := [.bool false, .loop (fun _ => (.exit 0, impl_forestOf_L0X2 k1y12 k1y13 k1y14 k1y15 k1yo4)), .res (.s (.v (.int .i64) c1)) [] [] [], .bool true, .res (.s (.v (.sl .tree) c2)) [] [] [], .bool false])
    (ps := [decide (((List.length a0 : Nat) : Int) > (8 : Int)) = false,
      LoopSC cfg.P 1 (lb P_impl_forestOf 0) (impl_forestOf_L0a a0 ((List.length a0 : Nat) : Int) (0 : Int) ([] : List Tr)) (.exit 0) (impl_forestOf_L0X2 k1y12 k1y13 k1y14 k1y15 k1yo4),
      SC cfg.P i_impl_forest_carets [.s (.v (.sl .tree) k1yo4)] (.s (.v (.int .i64) c1)) [],
      decide (c1 ≤ (8 : Int)) = true,
      SC cfg.P i_impl_forest_trimmed [.s (.v (.sl .tree) k1yo4)] (.s (.v (.sl .tree) c2)) [],
      (((List.length c2 : Nat) : Int) == ((List.length k1yo4 : Nat) : Int)) = false]) (by kernel_rfl) ⟨(decide_eq_false h1), h2, h3, (decide_eq_true h4), h5, (beq_eq_false_iff_ne.mpr h6), trivial⟩ get_impl_forestOf (by decide)

theorem impl_forestOf_p5 (a0 : (List ByteArray)) (k1y12 : (List ByteArray)) (k1y13 : Int) (k1y14 : Int) (k1y15 : Bool) (k1yo4 : (List Tr)) (c1 : Int)
    (h1 : ¬ (((List.length a0 : Nat) : Int) > (8 : Int)))
    (h2 : LoopSC cfg.P 1 (lb P_impl_forestOf 0) (impl_forestOf_L0a a0 ((List.length a0 : Nat) : Int) (0 : Int) ([] : List Tr)) (.exit 0) (impl_forestOf_L0X2 k1y12 k1y13 k1y14 k1y15 k1yo4))
    (h3 : SC cfg.P i_impl_forest_carets [.s (.v (.sl .tree) k1yo4)] (.s (.v (.int .i64) c1)) [])
    (h4 : ¬ (c1 ≤ (8 : Int))) :
    SC cfg.P i_impl_forestOf [.s (.v (.sl .str) a0)] (.tup [.own t_pimpl_node .tree k1yo4, .v .bool false]) [] :=
  SC_of_run cfgOK (its := [.bool false, .loop (fun _ => (.exit 0, impl_forestOf_L0X2 k1y12 k1y13 k1y14 k1y15 k1yo4)), .res (.s (.v (.int .i64) c1)) [] [] [], .bool false])
    (ps := [decide (((List.length a0 : Nat) : Int) > (8 : Int)) = false,
      LoopSC cfg.P 1 (lb P_impl_forestOf 0) (impl_forestOf_L0a a0 ((List.length a0 : Nat) : Int) (0 : Int) ([] : List Tr)) (.exit 0) (impl_forestOf_L0X2 k1y12 k1y13 k1y14 k1y15 k1yo4),
      SC cfg.P i_impl_forest_carets [.s (.v (.sl .tree) k1yo4)] (.s (.v (.int .i64) c1)) [],
      decide (c1 ≤ (8 : Int)) = false]) (by kernel_rfl) ⟨(decide_eq_false h1), h2, h3, (decide_eq_false h4), trivial⟩ get_impl_forestOf (by decide)

/-! ### impl_node_climbs -/


theorem impl_node_climbs_p1 (a1 : Int)
     :
    SC cfg.P i_impl_node_climbs [.s (.v .tree Tr.leaf), .s (.v (.int .i64) a1)] (.s (.own t_int (.int .i64) ([a1] : List Int))) [] :=
  SC_of_run cfgOK (its := [.bool true])
    (ps := [Tr.leaf.isLeaf = true]) (by kernel_rfl) ⟨rfl, trivial⟩ get_impl_node_climbs (by decide)

theorem impl_node_climbs_p2 (a0l : Tr) (a0r : Tr) (a1 : Int) (c1 : (List Int)) (c2 : (List Int))
    (h1 : SC cfg.P i_impl_node_climbs [.s (.v .tree a0l), .s (.v (.int .i64) (IntKind.wrap .i64 (a1 + (1 : Int))))] (.s (.own t_int (.int .i64) c1)) [])
    (h2 : SC cfg.P i_impl_node_climbs [.s (.v .tree a0r), .s (.v (.int .i64) (0 : Int))] (.s (.own t_int (.int .i64) c2)) [])
    (h3 : sizeOK (List.length c1 + List.length c2)) :
    SC cfg.P i_impl_node_climbs [.s (.v .tree (Tr.node a0l a0r)), .s (.v (.int .i64) a1)] (.s (.own t_int (.int .i64) (c1 ++ c2))) [] :=
  SC_of_run cfgOK (its := [.bool false, .res (.s (.own t_int (.int .i64) c1)) [] [] [15], .res (.s (.own t_int (.int .i64) c2)) [] [] [20]])
    (ps := [(Tr.node a0l a0r).isLeaf = false,
      SC cfg.P i_impl_node_climbs [.s (.v .tree a0l), .s (.v (.int .i64) (IntKind.wrap .i64 (a1 + (1 : Int))))] (.s (.own t_int (.int .i64) c1)) [],
      SC cfg.P i_impl_node_climbs [.s (.v .tree a0r), .s (.v (.int .i64) (0 : Int))] (.s (.own t_int (.int .i64) c2)) [],
      sizeOK (List.length c1 + List.length c2)]) (by kernel_rfl) ⟨rfl, h1, h2, h3, trivial⟩ get_impl_node_climbs (by decide)

/-! ### impl_wordOf -/


def impl_wordOf_L0a (x6 : (List Int)) (x7 : Int) (x8 : Int) (xo3 : (List Int)) : St := mkSt 24 [(3, .s (.osl 3 0)), (6, .s (.v (.sl (.int .i64)) x6)), (7, .s (.v (.int .i64) x7)), (8, .s (.v (.int .i64) x8))] [(3, .row t_int (.int .i64) xo3 0 false)]

def impl_wordOf_L1a (x4 : Int) (x6 : (List Int)) (x7 : Int) (x8 : Int) (x13 : Int) (x14 : Int) (xo3 : (List Int)) : St := mkSt 24 [(3, .s (.osl 3 0)), (4, .s (.v (.int .i64) x4)), (6, .s (.v (.sl (.int .i64)) x6)), (7, .s (.v (.int .i64) x7)), (8, .s (.v (.int .i64) x8)), (13, .s (.v (.int .i64) x13)), (14, .s (.v (.int .i64) x14))] [(3, .row t_int (.int .i64) xo3 0 false)]

def impl_wordOf_L1X1 (y4 : Int) (y6 : (List Int)) (y7 : Int) (y8 : Int) (y13 : Int) (y14 : Int) (y15 : Bool) (yo3 : (List Int)) : St := mkSt 24 [(3, .s (.osl 3 0)), (4, .s (.v (.int .i64) y4)), (6, .s (.v (.sl (.int .i64)) y6)), (7, .s (.v (.int .i64) y7)), (8, .s (.v (.int .i64) y8)), (13, .s (.v (.int .i64) y13)), (14, .s (.v (.int .i64) y14)), (15, .s (.v .bool y15))] [(3, .row t_int (.int .i64) yo3 0 false)]

def impl_wordOf_L0X1 (y6 : (List Int)) (y7 : Int) (y8 : Int) (y9 : Bool) (yo3 : (List Int)) : St := mkSt 24 [(3, .s (.osl 3 0)), (6, .s (.v (.sl (.int .i64)) y6)), (7, .s (.v (.int .i64) y7)), (8, .s (.v (.int .i64) y8)), (9, .s (.v .bool y9))] [(3, .row t_int (.int .i64) yo3 0 false)]

theorem impl_wordOf_L0a_i1 (x6 : (List Int)) (x7 : Int) (x8 : Int) (xo3 : (List Int)) (dk1y4 : Int) (dk1y6 : (List Int)) (dk1y7 : Int) (dk1y8 : Int) (dk1y13 : Int) (dk1y14 : Int) (dk1y15 : Bool) (dk1yo3 : (List Int))
    (h1 : x8 < x7)
    (h2 : 0 ≤ x8)
    (h3 : x8 < (List.length x6 : Int))
    (h4 : LoopSC cfg.P 1 (lb P_impl_wordOf 1) (impl_wordOf_L1a x8 x6 x7 x8 (List.getD x6 (x8).toNat (0 : Int)) (0 : Int) xo3) (.exit 2) (impl_wordOf_L1X1 dk1y4 dk1y6 dk1y7 dk1y8 dk1y13 dk1y14 dk1y15 dk1yo3))
    {e : AEx} {st : St} (next : LoopSC cfg.P 1 (lb P_impl_wordOf 0) (impl_wordOf_L0a dk1y6 dk1y7 (IntKind.wrap .i64 (dk1y8 + (1 : Int))) dk1yo3) e st) :
    LoopSC cfg.P 1 (lb P_impl_wordOf 0) (impl_wordOf_L0a x6 x7 x8 xo3) e st :=
  loop_iter cfgOK (f := i_impl_wordOf) (its := [.bool true, .loop (fun _ => (.exit 2, impl_wordOf_L1X1 dk1y4 dk1y6 dk1y7 dk1y8 dk1y13 dk1y14 dk1y15 dk1yo3))])
    (ps := [decide (x8 < x7) = true,
      0 ≤ x8,
      x8 < (List.length x6 : Int),
      LoopSC cfg.P 1 (lb P_impl_wordOf 1) (impl_wordOf_L1a x8 x6 x7 x8 (List.getD x6 (x8).toNat (0 : Int)) (0 : Int) xo3) (.exit 2) (impl_wordOf_L1X1 dk1y4 dk1y6 dk1y7 dk1y8 dk1y13 dk1y14 dk1y15 dk1yo3)]) (st1 := impl_wordOf_L0a dk1y6 dk1y7 (IntKind.wrap .i64 (dk1y8 + (1 : Int))) dk1yo3) (by kernel_rfl) ⟨(decide_eq_true h1), h2, h3, h4, trivial⟩ next

theorem impl_wordOf_L0a_x2 (x6 : (List Int)) (x7 : Int) (x8 : Int) (xo3 : (List Int))
    (h1 : ¬ (x8 < x7)) :
    LoopSC cfg.P 1 (lb P_impl_wordOf 0) (impl_wordOf_L0a x6 x7 x8 xo3) (.exit 0) (impl_wordOf_L0X1 x6 x7 x8 false xo3) :=
  loop_out cfgOK (f := i_impl_wordOf) (its := [.bool false])
    (ps := [decide (x8 < x7) = false]) (by kernel_rfl) ⟨(decide_eq_false h1), trivial⟩ (fun h => by cases h)

theorem impl_wordOf_L1a_i1 (x4 : Int) (x6 : (List Int)) (x7 : Int) (x8 : Int) (x13 : Int) (x14 : Int) (xo3 : (List Int))
    (h1 : x14 < x13)
    (h2 : sizeOK (List.length xo3 + List.length ([(IntKind.wrap .i64 (x4 + (1 : Int)))] : List Int)))
    {e : AEx} {st : St} (next : LoopSC cfg.P 1 (lb P_impl_wordOf 1) (impl_wordOf_L1a x4 x6 x7 x8 x13 (IntKind.wrap .i64 (x14 + (1 : Int))) (xo3 ++ ([(IntKind.wrap .i64 (x4 + (1 : Int)))] : List Int))) e st) :
    LoopSC cfg.P 1 (lb P_impl_wordOf 1) (impl_wordOf_L1a x4 x6 x7 x8 x13 x14 xo3) e st :=
  loop_iter cfgOK (f := i_impl_wordOf) (its := [.bool true])
    (ps := [decide (x14 < x13) = true,
      sizeOK (List.length xo3 + List.length ([(IntKind.wrap .i64 (x4 + (1 : Int)))] : List Int))]) (st1 := impl_wordOf_L1a x4 x6 x7 x8 x13 (IntKind.wrap .i64 (x14 + (1 : Int))) (xo3 ++ ([(IntKind.wrap .i64 (x4 + (1 : Int)))] : List Int))) (by kernel_rfl) ⟨(decide_eq_true h1), h2, trivial⟩ next

theorem impl_wordOf_L1a_x2 (x4 : Int) (x6 : (List Int)) (x7 : Int) (x8 : Int) (x13 : Int) (x14 : Int) (xo3 : (List Int))
    (h1 : ¬ (x14 < x13)) :
    LoopSC cfg.P 1 (lb P_impl_wordOf 1) (impl_wordOf_L1a x4 x6 x7 x8 x13 x14 xo3) (.exit 2) (impl_wordOf_L1X1 x4 x6 x7 x8 x13 x14 false xo3) :=
  loop_out cfgOK (f := i_impl_wordOf) (its := [.bool false])
    (ps := [decide (x14 < x13) = false]) (by kernel_rfl) ⟨(decide_eq_false h1), trivial⟩ (fun h => by cases h)

theorem impl_wordOf_p1 (a0 : (List Int)) (k1y6 : (List Int)) (k1y7 : Int) (k1y8 : Int) (k1y9 : Bool) (k1yo3 : (List Int))
    (h1 : LoopSC cfg.P 1 (lb P_impl_wordOf 0) (impl_wordOf_L0a a0 ((List.length a0 : Nat) : Int) (0 : Int) ([] : List Int)) (.exit 0) (impl_wordOf_L0X1 k1y6 k1y7 k1y8 k1y9 k1yo3)) :
    SC cfg.P i_impl_wordOf [.s (.v (.sl (.int .i64)) a0)] (.s (.own t_int (.int .i64) k1yo3)) [] :=
  SC_of_run cfgOK (its := [.loop (fun _ => (.exit 0, impl_wordOf_L0X1 k1y6 k1y7 k1y8 k1y9 k1yo3))])
    (ps := [LoopSC cfg.P 1 (lb P_impl_wordOf 0) (impl_wordOf_L0a a0 ((List.length a0 : Nat) : Int) (0 : Int) ([] : List Int)) (.exit 0) (impl_wordOf_L0X1 k1y6 k1y7 k1y8 k1y9 k1yo3)]) (by kernel_rfl) ⟨h1, trivial⟩ get_impl_wordOf (by decide)

/-! ### impl_IsWord -/


def impl_IsWord_L0a (x0 : (List Int)) (x5 : (List Int)) (x6 : Int) (x7 : Int) : St := mkSt 18 [(0, .s (.v (.sl (.int .i64)) x0)), (5, .s (.v (.sl (.int .i64)) x5)), (6, .s (.v (.int .i64) x6)), (7, .s (.v (.int .i64) x7))] []

def impl_IsWord_L0X1 (y2 : Bool) : St := mkSt 18 [(2, .s (.v .bool y2))] []

def impl_IsWord_L0X2 (y0 : (List Int)) (y5 : (List Int)) (y6 : Int) (y7 : Int) (y8 : Bool) : St := mkSt 18 [(0, .s (.v (.sl (.int .i64)) y0)), (5, .s (.v (.sl (.int .i64)) y5)), (6, .s (.v (.int .i64) y6)), (7, .s (.v (.int .i64) y7)), (8, .s (.v .bool y8))] []

theorem impl_IsWord_L0a_i1 (x0 : (List Int)) (x5 : (List Int)) (x6 : Int) (x7 : Int)
    (h1 : x7 < x6)
    (h2 : 0 ≤ x7)
    (h3 : x7 < (List.length x5 : Int))
    (h4 : SC cfg.P i_impl_isLetter [.s (.v (.int .i64) (List.getD x5 (x7).toNat (0 : Int)))] (.s (.v .bool true)) [])
    {e : AEx} {st : St} (next : LoopSC cfg.P 1 (lb P_impl_IsWord 0) (impl_IsWord_L0a x0 x5 x6 (IntKind.wrap .i64 (x7 + (1 : Int)))) e st) :
    LoopSC cfg.P 1 (lb P_impl_IsWord 0) (impl_IsWord_L0a x0 x5 x6 x7) e st :=
  loop_iter cfgOK (f := i_impl_IsWord) (its := [.bool true, .res (.s (.v .bool true)) [] [] []])
    (ps := [decide (x7 < x6) = true,
      0 ≤ x7,
      x7 < (List.length x5 : Int),
      SC cfg.P i_impl_isLetter [.s (.v (.int .i64) (List.getD x5 (x7).toNat (0 : Int)))] (.s (.v .bool true)) []]) (st1 := impl_IsWord_L0a x0 x5 x6 (IntKind.wrap .i64 (x7 + (1 : Int)))) (by kernel_rfl) ⟨(decide_eq_true h1), h2, h3, h4, trivial⟩ next

theorem impl_IsWord_L0a_x2 (x0 : (List Int)) (x5 : (List Int)) (x6 : Int) (x7 : Int)
    (h1 : x7 < x6)
    (h2 : 0 ≤ x7)
    (h3 : x7 < (List.length x5 : Int))
    (h4 : SC cfg.P i_impl_isLetter [.s (.v (.int .i64) (List.getD x5 (x7).toNat (0 : Int)))] (.s (.v .bool false)) []) :
    LoopSC cfg.P 1 (lb P_impl_IsWord 0) (impl_IsWord_L0a x0 x5 x6 x7) (.ret) (impl_IsWord_L0X1 false) :=
  loop_out cfgOK (f := i_impl_IsWord) (its := [.bool true, .res (.s (.v .bool false)) [] [] []])
    (ps := [decide (x7 < x6) = true,
      0 ≤ x7,
      x7 < (List.length x5 : Int),
      SC cfg.P i_impl_isLetter [.s (.v (.int .i64) (List.getD x5 (x7).toNat (0 : Int)))] (.s (.v .bool false)) []]) (by kernel_rfl) ⟨(decide_eq_true h1), h2, h3, h4, trivial⟩ (fun h => by cases h)

theorem impl_IsWord_L0a_x3 (x0 : (List Int)) (x5 : (List Int)) (x6 : Int) (x7 : Int)
    (h1 : ¬ (x7 < x6)) :
    LoopSC cfg.P 1 (lb P_impl_IsWord 0) (impl_IsWord_L0a x0 x5 x6 x7) (.exit 0) (impl_IsWord_L0X2 x0 x5 x6 x7 false) :=
  loop_out cfgOK (f := i_impl_IsWord) (its := [.bool false])
    (ps := [decide (x7 < x6) = false]) (by kernel_rfl) ⟨(decide_eq_false h1), trivial⟩ (fun h => by cases h)

theorem impl_IsWord_p1 (a0 : (List Int)) (k1y2 : Bool)
    (h1 : LoopSC cfg.P 1 (lb P_impl_IsWord 0) (impl_IsWord_L0a a0 a0 ((List.length a0 : Nat) : Int) (0 : Int)) (.ret) (impl_IsWord_L0X1 k1y2)) :
    SC cfg.P i_impl_IsWord [.s (.v (.sl (.int .i64)) a0)] (.s (.v .bool k1y2)) [] :=
  SC_of_run cfgOK (its := [.loop (fun _ => (.ret, impl_IsWord_L0X1 k1y2))])
    (ps := [LoopSC cfg.P 1 (lb P_impl_IsWord 0) (impl_IsWord_L0a a0 a0 ((List.length a0 : Nat) : Int) (0 : Int)) (.ret) (impl_IsWord_L0X1 k1y2)]) (by kernel_rfl) ⟨h1, trivial⟩ get_impl_IsWord (by decide)

theorem impl_IsWord_p2 (a0 : (List Int)) (k1y0 : (List Int)) (k1y5 : (List Int)) (k1y6 : Int) (k1y7 : Int) (k1y8 : Bool)
    (h1 : LoopSC cfg.P 1 (lb P_impl_IsWord 0) (impl_IsWord_L0a a0 a0 ((List.length a0 : Nat) : Int) (0 : Int)) (.exit 0) (impl_IsWord_L0X2 k1y0 k1y5 k1y6 k1y7 k1y8))
    (h2 : ((List.length k1y0 : Nat) : Int) ≤ (20 : Int)) :
    SC cfg.P i_impl_IsWord [.s (.v (.sl (.int .i64)) a0)] (.s (.v .bool true)) [] :=
  SC_of_run cfgOK (its := [.loop (fun _ => (.exit 0, impl_IsWord_L0X2 k1y0 k1y5 k1y6 k1y7 k1y8)), .bool true])
    (ps := [LoopSC cfg.P 1 (lb P_impl_IsWord 0) (impl_IsWord_L0a a0 a0 ((List.length a0 : Nat) : Int) (0 : Int)) (.exit 0) (impl_IsWord_L0X2 k1y0 k1y5 k1y6 k1y7 k1y8),
      decide (((List.length k1y0 : Nat) : Int) ≤ (20 : Int)) = true]) (by kernel_rfl) ⟨h1, (decide_eq_true h2), trivial⟩ get_impl_IsWord (by decide)

theorem impl_IsWord_p3 (a0 : (List Int)) (k1y0 : (List Int)) (k1y5 : (List Int)) (k1y6 : Int) (k1y7 : Int) (k1y8 : Bool)
    (h1 : LoopSC cfg.P 1 (lb P_impl_IsWord 0) (impl_IsWord_L0a a0 a0 ((List.length a0 : Nat) : Int) (0 : Int)) (.exit 0) (impl_IsWord_L0X2 k1y0 k1y5 k1y6 k1y7 k1y8))
    (h2 : ¬ (((List.length k1y0 : Nat) : Int) ≤ (20 : Int))) :
    SC cfg.P i_impl_IsWord [.s (.v (.sl (.int .i64)) a0)] (.s (.v .bool false)) [] :=
  SC_of_run cfgOK (its := [.loop (fun _ => (.exit 0, impl_IsWord_L0X2 k1y0 k1y5 k1y6 k1y7 k1y8)), .bool false])
    (ps := [LoopSC cfg.P 1 (lb P_impl_IsWord 0) (impl_IsWord_L0a a0 a0 ((List.length a0 : Nat) : Int) (0 : Int)) (.exit 0) (impl_IsWord_L0X2 k1y0 k1y5 k1y6 k1y7 k1y8),
      decide (((List.length k1y0 : Nat) : Int) ≤ (20 : Int)) = false]) (by kernel_rfl) ⟨h1, (decide_eq_false h2), trivial⟩ get_impl_IsWord (by decide)

/-! ### impl_inverseOf -/


def impl_inverseOf_L0a (x0 : (List Int)) (x4 : Int) (xo3 : (List Int)) : St := mkSt 21 [(0, .s (.v (.sl (.int .i64)) x0)), (3, .s (.osl 3 0)), (4, .s (.v (.int .i64) x4))] [(3, .row t_int (.int .i64) xo3 0 false)]

def impl_inverseOf_L0X1 (y0 : (List Int)) (y4 : Int) (y9 : Bool) (yo3 : (List Int)) : St := mkSt 21 [(0, .s (.v (.sl (.int .i64)) y0)), (3, .s (.osl 3 0)), (4, .s (.v (.int .i64) y4)), (9, .s (.v .bool y9))] [(3, .row t_int (.int .i64) yo3 0 false)]

theorem impl_inverseOf_L0a_i1 (x0 : (List Int)) (x4 : Int) (xo3 : (List Int))
    (h1 : x4 ≥ (0 : Int))
    (h2 : 0 ≤ x4)
    (h3 : x4 < (List.length x0 : Int))
    (h4 : sizeOK (List.length xo3 + List.length ([(IntKind.wrap .i64 (0 - (List.getD x0 (x4).toNat (0 : Int))))] : List Int)))
    {e : AEx} {st : St} (next : LoopSC cfg.P 1 (lb P_impl_inverseOf 0) (impl_inverseOf_L0a x0 (IntKind.wrap .i64 (x4 - (1 : Int))) (xo3 ++ ([(IntKind.wrap .i64 (0 - (List.getD x0 (x4).toNat (0 : Int))))] : List Int))) e st) :
    LoopSC cfg.P 1 (lb P_impl_inverseOf 0) (impl_inverseOf_L0a x0 x4 xo3) e st :=
  loop_iter cfgOK (f := i_impl_inverseOf) (its := [.bool true])
    (ps := [decide (x4 ≥ (0 : Int)) = true,
      0 ≤ x4,
      x4 < (List.length x0 : Int),
      sizeOK (List.length xo3 + List.length ([(IntKind.wrap .i64 (0 - (List.getD x0 (x4).toNat (0 : Int))))] : List Int))]) (st1 := impl_inverseOf_L0a x0 (IntKind.wrap .i64 (x4 - (1 : Int))) (xo3 ++ ([(IntKind.wrap .i64 (0 - (List.getD x0 (x4).toNat (0 : Int))))] : List Int))) (by kernel_rfl) ⟨(decide_eq_true h1), h2, h3, h4, trivial⟩ next

theorem impl_inverseOf_L0a_x2 (x0 : (List Int)) (x4 : Int) (xo3 : (List Int))
    (h1 : ¬ (x4 ≥ (0 : Int))) :
    LoopSC cfg.P 1 (lb P_impl_inverseOf 0) (impl_inverseOf_L0a x0 x4 xo3) (.exit 0) (impl_inverseOf_L0X1 x0 x4 false xo3) :=
  loop_out cfgOK (f := i_impl_inverseOf) (its := [.bool false])
    (ps := [decide (x4 ≥ (0 : Int)) = false]) (by kernel_rfl) ⟨(decide_eq_false h1), trivial⟩ (fun h => by cases h)

theorem impl_inverseOf_p1 (a0 : (List Int)) (k1y0 : (List Int)) (k1y4 : Int) (k1y9 : Bool) (k1yo3 : (List Int))
    (h1 : LoopSC cfg.P 1 (lb P_impl_inverseOf 0) (impl_inverseOf_L0a a0 (IntKind.wrap .i64 (((List.length a0 : Nat) : Int) - (1 : Int))) ([] : List Int)) (.exit 0) (impl_inverseOf_L0X1 k1y0 k1y4 k1y9 k1yo3)) :
    SC cfg.P i_impl_inverseOf [.s (.v (.sl (.int .i64)) a0)] (.s (.own t_int (.int .i64) k1yo3)) [] :=
  SC_of_run cfgOK (its := [.loop (fun _ => (.exit 0, impl_inverseOf_L0X1 k1y0 k1y4 k1y9 k1yo3))])
    (ps := [LoopSC cfg.P 1 (lb P_impl_inverseOf 0) (impl_inverseOf_L0a a0 (IntKind.wrap .i64 (((List.length a0 : Nat) : Int) - (1 : Int))) ([] : List Int)) (.exit 0) (impl_inverseOf_L0X1 k1y0 k1y4 k1y9 k1yo3)]) (by kernel_rfl) ⟨h1, trivial⟩ get_impl_inverseOf (by decide)

/-! ### impl_ReducePair -/


theorem impl_ReducePair_p1 (a0 : (ByteArray × ByteArray)) (c1a : (Tr × Tr)) (c2 : (Tr × Tr)) (c3 : (ByteArray × ByteArray))
    (h1 : SC cfg.P i_impl_pairOf [.s (.v (.pr .str .str) a0)] (.tup [.v (.pr .tree .tree) c1a, .v .bool true]) [])
    (h2 : SC cfg.P i_impl_pair_reduced [.s (.v (.pr .tree .tree) c1a)] (.s (.v (.pr .tree .tree) c2)) [])
    (h3 : SC cfg.P i_impl_pair_plain [.s (.v (.pr .tree .tree) c2)] (.s (.v (.pr .str .str) c3)) []) :
    SC cfg.P i_impl_ReducePair [.s (.v (.pr .str .str) a0)] (.tup [.v (.pr .str .str) c3, .v .bool true]) [] :=
  SC_of_run cfgOK (its := [.res (.tup [.v (.pr .tree .tree) c1a, .v .bool true]) [] [] [], .res (.s (.v (.pr .tree .tree) c2)) [] [] [], .res (.s (.v (.pr .str .str) c3)) [] [] []])
    (ps := [SC cfg.P i_impl_pairOf [.s (.v (.pr .str .str) a0)] (.tup [.v (.pr .tree .tree) c1a, .v .bool true]) [],
      SC cfg.P i_impl_pair_reduced [.s (.v (.pr .tree .tree) c1a)] (.s (.v (.pr .tree .tree) c2)) [],
      SC cfg.P i_impl_pair_plain [.s (.v (.pr .tree .tree) c2)] (.s (.v (.pr .str .str) c3)) []]) (by kernel_rfl) ⟨h1, h2, h3, trivial⟩ get_impl_ReducePair (by decide)

/-! ### spec_l1Cur_forest -/


def spec_l1Cur_forest_L0a (x19 : Bool) (xo0 : ((List Int) × (Int × Int))) (xo8 : (List ByteArray)) : St := mkSt 34 [(0, .s (.adr 0 none)), (5, .s (.osl 8 0)), (19, .s (.v .bool x19))] [(0, .box (.pr (.sl (.int .u8)) (.pr (.int .i64) (.int .u64))) xo0 false), (8, .row t_string .str xo8 0 false)]

def spec_l1Cur_forest_L0b (xo0 : ((List Int) × (Int × Int))) (xo8 : (List ByteArray)) : St := mkSt 34 [(0, .s (.adr 0 none)), (5, .s (.osl 8 0))] [(0, .box (.pr (.sl (.int .u8)) (.pr (.int .i64) (.int .u64))) xo0 false), (8, .row t_string .str xo8 0 false)]

def spec_l1Cur_forest_L0X1 (y26 : Bool) (yo0 : ((List Int) × (Int × Int))) (yo8 : (List ByteArray)) : St := mkSt 34 [(0, .s (.adr 0 none)), (5, .s (.osl 8 0)), (26, .s (.v .bool y26))] [(0, .box (.pr (.sl (.int .u8)) (.pr (.int .i64) (.int .u64))) yo0 false), (8, .row t_string .str yo8 0 false)]

theorem spec_l1Cur_forest_L0a_i1 (x19 : Bool) (xo0 : ((List Int) × (Int × Int))) (xo8 : (List ByteArray)) (dc1 : Int) (dc1o0 : ((List Int) × (Int × Int)))
    (h1 : SC cfg.P i_spec_l1Cur_pick [.s (.mbx (.pr (.sl (.int .u8)) (.pr (.int .i64) (.int .u64))) xo0), .s (.v (.int .i64) (2 : Int))] (.s (.v (.int .i64) dc1)) [.box (.pr (.sl (.int .u8)) (.pr (.int .i64) (.int .u64))) dc1o0])
    (h2 : ((List.length xo8 : Nat) : Int) < (IntKind.wrap .i64 ((7 : Int) + dc1)))
    (h3 : sizeOK (List.length xo8 + List.length ([(⟨#[46]⟩ : ByteArray)] : List ByteArray)))
    {e : AEx} {st : St} (next : LoopSC cfg.P 2 (lb P_spec_l1Cur_forest 0) (spec_l1Cur_forest_L0b dc1o0 (xo8 ++ ([(⟨#[46]⟩ : ByteArray)] : List ByteArray))) e st) :
    LoopSC cfg.P 2 (lb P_spec_l1Cur_forest 0) (spec_l1Cur_forest_L0a x19 xo0 xo8) e st :=
  loop_iter cfgOK (f := i_spec_l1Cur_forest) (its := [.res (.s (.v (.int .i64) dc1)) [.box (.pr (.sl (.int .u8)) (.pr (.int .i64) (.int .u64))) dc1o0] [] [], .bool true])
    (ps := [SC cfg.P i_spec_l1Cur_pick [.s (.mbx (.pr (.sl (.int .u8)) (.pr (.int .i64) (.int .u64))) xo0), .s (.v (.int .i64) (2 : Int))] (.s (.v (.int .i64) dc1)) [.box (.pr (.sl (.int .u8)) (.pr (.int .i64) (.int .u64))) dc1o0],
      decide (((List.length xo8 : Nat) : Int) < (IntKind.wrap .i64 ((7 : Int) + dc1))) = true,
      sizeOK (List.length xo8 + List.length ([(⟨#[46]⟩ : ByteArray)] : List ByteArray))]) (st1 := spec_l1Cur_forest_L0b dc1o0 (xo8 ++ ([(⟨#[46]⟩ : ByteArray)] : List ByteArray))) (by kernel_rfl) ⟨h1, (decide_eq_true h2), h3, trivial⟩ next

theorem spec_l1Cur_forest_L0a_x2 (x19 : Bool) (xo0 : ((List Int) × (Int × Int))) (xo8 : (List ByteArray)) (dc1 : Int) (dc1o0 : ((List Int) × (Int × Int)))
    (h1 : SC cfg.P i_spec_l1Cur_pick [.s (.mbx (.pr (.sl (.int .u8)) (.pr (.int .i64) (.int .u64))) xo0), .s (.v (.int .i64) (2 : Int))] (.s (.v (.int .i64) dc1)) [.box (.pr (.sl (.int .u8)) (.pr (.int .i64) (.int .u64))) dc1o0])
    (h2 : ¬ (((List.length xo8 : Nat) : Int) < (IntKind.wrap .i64 ((7 : Int) + dc1)))) :
    LoopSC cfg.P 2 (lb P_spec_l1Cur_forest 0) (spec_l1Cur_forest_L0a x19 xo0 xo8) (.exit 1) (spec_l1Cur_forest_L0X1 false dc1o0 xo8) :=
  loop_out cfgOK (f := i_spec_l1Cur_forest) (its := [.res (.s (.v (.int .i64) dc1)) [.box (.pr (.sl (.int .u8)) (.pr (.int .i64) (.int .u64))) dc1o0] [] [], .bool false])
    (ps := [SC cfg.P i_spec_l1Cur_pick [.s (.mbx (.pr (.sl (.int .u8)) (.pr (.int .i64) (.int .u64))) xo0), .s (.v (.int .i64) (2 : Int))] (.s (.v (.int .i64) dc1)) [.box (.pr (.sl (.int .u8)) (.pr (.int .i64) (.int .u64))) dc1o0],
      decide (((List.length xo8 : Nat) : Int) < (IntKind.wrap .i64 ((7 : Int) + dc1))) = false]) (by kernel_rfl) ⟨h1, (decide_eq_false h2), trivial⟩ (fun h => by cases h)

theorem spec_l1Cur_forest_L0b_i1 (xo0 : ((List Int) × (Int × Int))) (xo8 : (List ByteArray)) (dc1 : Int) (dc1o0 : ((List Int) × (Int × Int)))
    (h1 : SC cfg.P i_spec_l1Cur_pick [.s (.mbx (.pr (.sl (.int .u8)) (.pr (.int .i64) (.int .u64))) xo0), .s (.v (.int .i64) (2 : Int))] (.s (.v (.int .i64) dc1)) [.box (.pr (.sl (.int .u8)) (.pr (.int .i64) (.int .u64))) dc1o0])
    (h2 : ((List.length xo8 : Nat) : Int) < (IntKind.wrap .i64 ((7 : Int) + dc1)))
    (h3 : sizeOK (List.length xo8 + List.length ([(⟨#[46]⟩ : ByteArray)] : List ByteArray)))
    {e : AEx} {st : St} (next : LoopSC cfg.P 2 (lb P_spec_l1Cur_forest 0) (spec_l1Cur_forest_L0b dc1o0 (xo8 ++ ([(⟨#[46]⟩ : ByteArray)] : List ByteArray))) e st) :
    LoopSC cfg.P 2 (lb P_spec_l1Cur_forest 0) (spec_l1Cur_forest_L0b xo0 xo8) e st :=
  loop_iter cfgOK (f := i_spec_l1Cur_forest) (its := [.res (.s (.v (.int .i64) dc1)) [.box (.pr (.sl (.int .u8)) (.pr (.int .i64) (.int .u64))) dc1o0] [] [], .bool true])
    (ps := [SC cfg.P i_spec_l1Cur_pick [.s (.mbx (.pr (.sl (.int .u8)) (.pr (.int .i64) (.int .u64))) xo0), .s (.v (.int .i64) (2 : Int))] (.s (.v (.int .i64) dc1)) [.box (.pr (.sl (.int .u8)) (.pr (.int .i64) (.int .u64))) dc1o0],
      decide (((List.length xo8 : Nat) : Int) < (IntKind.wrap .i64 ((7 : Int) + dc1))) = true,
      sizeOK (List.length xo8 + List.length ([(⟨#[46]⟩ : ByteArray)] : List ByteArray))]) (st1 := spec_l1Cur_forest_L0b dc1o0 (xo8 ++ ([(⟨#[46]⟩ : ByteArray)] : List ByteArray))) (by kernel_rfl) ⟨h1, (decide_eq_true h2), h3, trivial⟩ next

theorem spec_l1Cur_forest_L0b_x2 (xo0 : ((List Int) × (Int × Int))) (xo8 : (List ByteArray)) (dc1 : Int) (dc1o0 : ((List Int) × (Int × Int)))
    (h1 : SC cfg.P i_spec_l1Cur_pick [.s (.mbx (.pr (.sl (.int .u8)) (.pr (.int .i64) (.int .u64))) xo0), .s (.v (.int .i64) (2 : Int))] (.s (.v (.int .i64) dc1)) [.box (.pr (.sl (.int .u8)) (.pr (.int .i64) (.int .u64))) dc1o0])
    (h2 : ¬ (((List.length xo8 : Nat) : Int) < (IntKind.wrap .i64 ((7 : Int) + dc1)))) :
    LoopSC cfg.P 2 (lb P_spec_l1Cur_forest 0) (spec_l1Cur_forest_L0b xo0 xo8) (.exit 1) (spec_l1Cur_forest_L0X1 false dc1o0 xo8) :=
  loop_out cfgOK (f := i_spec_l1Cur_forest) (its := [.res (.s (.v (.int .i64) dc1)) [.box (.pr (.sl (.int .u8)) (.pr (.int .i64) (.int .u64))) dc1o0] [] [], .bool false])
    (ps := [SC cfg.P i_spec_l1Cur_pick [.s (.mbx (.pr (.sl (.int .u8)) (.pr (.int .i64) (.int .u64))) xo0), .s (.v (.int .i64) (2 : Int))] (.s (.v (.int .i64) dc1)) [.box (.pr (.sl (.int .u8)) (.pr (.int .i64) (.int .u64))) dc1o0],
      decide (((List.length xo8 : Nat) : Int) < (IntKind.wrap .i64 ((7 : Int) + dc1))) = false]) (by kernel_rfl) ⟨h1, (decide_eq_false h2), trivial⟩ (fun h => by cases h)

theorem spec_l1Cur_forest_p1 (a0 : ((List Int) × (Int × Int))) (a1 : Int) (c1 : (List ByteArray)) (c1o0 : ((List Int) × (Int × Int))) (c2 : Int) (c2o0 : ((List Int) × (Int × Int))) (c3 : ByteArray) (c3o0 : ((List Int) × (Int × Int)))
    (h1 : SC cfg.P i_spec_l1Cur_sureForest [.s (.mbx (.pr (.sl (.int .u8)) (.pr (.int .i64) (.int .u64))) a0), .s (.v (.int .i64) a1)] (.s (.own t_string .str c1)) [.box (.pr (.sl (.int .u8)) (.pr (.int .i64) (.int .u64))) c1o0])
    (h2 : SC cfg.P i_spec_l1Cur_pick [.s (.mbx (.pr (.sl (.int .u8)) (.pr (.int .i64) (.int .u64))) c1o0), .s (.v (.int .i64) (18 : Int))] (.s (.v (.int .i64) c2)) [.box (.pr (.sl (.int .u8)) (.pr (.int .i64) (.int .u64))) c2o0])
    (h3 : c2 = (0 : Int))
    (h4 : SC cfg.P i_spec_l1Cur_of [.s (.mbx (.pr (.sl (.int .u8)) (.pr (.int .i64) (.int .u64))) c2o0), .s (.v (.sl .str) ([(⟨#[46]⟩ : ByteArray), (⟨#[]⟩ : ByteArray), (⟨#[40, 46, 41]⟩ : ByteArray), (⟨#[40, 40, 40, 40, 40, 40, 40, 40, 46, 46, 41, 46, 41, 46, 41, 46, 41, 46, 41, 46, 41, 46, 41, 46, 41]⟩ : ByteArray)] : List ByteArray))] (.s (.v .str c3)) [.box (.pr (.sl (.int .u8)) (.pr (.int .i64) (.int .u64))) c3o0])
    (h5 : sizeOK (List.length c1 + List.length ([c3] : List ByteArray))) :
    SC cfg.P i_spec_l1Cur_forest [.s (.mbx (.pr (.sl (.int .u8)) (.pr (.int .i64) (.int .u64))) a0), .s (.v (.int .i64) a1)] (.s (.own t_string .str (c1 ++ ([c3] : List ByteArray)))) [.box (.pr (.sl (.int .u8)) (.pr (.int .i64) (.int .u64))) c3o0] :=
  SC_of_run cfgOK (its := [.res (.s (.own t_string .str c1)) [.box (.pr (.sl (.int .u8)) (.pr (.int .i64) (.int .u64))) c1o0] [] [8], .res (.s (.v (.int .i64) c2)) [.box (.pr (.sl (.int .u8)) (.pr (.int .i64) (.int .u64))) c2o0] [] [], .bool true, .res (.s (.v .str c3)) [.box (.pr (.sl (.int .u8)) (.pr (.int .i64) (.int .u64))) c3o0] [] []])
    (ps := [SC cfg.P i_spec_l1Cur_sureForest [.s (.mbx (.pr (.sl (.int .u8)) (.pr (.int .i64) (.int .u64))) a0), .s (.v (.int .i64) a1)] (.s (.own t_string .str c1)) [.box (.pr (.sl (.int .u8)) (.pr (.int .i64) (.int .u64))) c1o0],
      SC cfg.P i_spec_l1Cur_pick [.s (.mbx (.pr (.sl (.int .u8)) (.pr (.int .i64) (.int .u64))) c1o0), .s (.v (.int .i64) (18 : Int))] (.s (.v (.int .i64) c2)) [.box (.pr (.sl (.int .u8)) (.pr (.int .i64) (.int .u64))) c2o0],
      (c2 == (0 : Int)) = true,
      SC cfg.P i_spec_l1Cur_of [.s (.mbx (.pr (.sl (.int .u8)) (.pr (.int .i64) (.int .u64))) c2o0), .s (.v (.sl .str) ([(⟨#[46]⟩ : ByteArray), (⟨#[]⟩ : ByteArray), (⟨#[40, 46, 41]⟩ : ByteArray), (⟨#[40, 40, 40, 40, 40, 40, 40, 40, 46, 46, 41, 46, 41, 46, 41, 46, 41, 46, 41, 46, 41, 46, 41, 46, 41]⟩ : ByteArray)] : List ByteArray))] (.s (.v .str c3)) [.box (.pr (.sl (.int .u8)) (.pr (.int .i64) (.int .u64))) c3o0],
      sizeOK (List.length c1 + List.length ([c3] : List ByteArray))]) (by kernel_rfl) ⟨h1, h2, (beq_iff_eq.mpr h3), h4, h5, trivial⟩ get_spec_l1Cur_forest (by decide)

theorem spec_l1Cur_forest_p2 (a0 : ((List Int) × (Int × Int))) (a1 : Int) (c1 : (List ByteArray)) (c1o0 : ((List Int) × (Int × Int))) (c2 : Int) (c2o0 : ((List Int) × (Int × Int))) (k1y26 : Bool) (k1yo0 : ((List Int) × (Int × Int))) (k1yo8 : (List ByteArray))
    (h1 : SC cfg.P i_spec_l1Cur_sureForest [.s (.mbx (.pr (.sl (.int .u8)) (.pr (.int .i64) (.int .u64))) a0), .s (.v (.int .i64) a1)] (.s (.own t_string .str c1)) [.box (.pr (.sl (.int .u8)) (.pr (.int .i64) (.int .u64))) c1o0])
    (h2 : SC cfg.P i_spec_l1Cur_pick [.s (.mbx (.pr (.sl (.int .u8)) (.pr (.int .i64) (.int .u64))) c1o0), .s (.v (.int .i64) (18 : Int))] (.s (.v (.int .i64) c2)) [.box (.pr (.sl (.int .u8)) (.pr (.int .i64) (.int .u64))) c2o0])
    (h3 : c2 ≠ (0 : Int))
    (h4 : c2 = (1 : Int))
    (h5 : LoopSC cfg.P 2 (lb P_spec_l1Cur_forest 0) (spec_l1Cur_forest_L0a true c2o0 c1) (.exit 1) (spec_l1Cur_forest_L0X1 k1y26 k1yo0 k1yo8))
    (h6 : sizeOK (List.length k1yo8 + List.length ([(⟨#[40, 46, 46, 41]⟩ : ByteArray)] : List ByteArray))) :
    SC cfg.P i_spec_l1Cur_forest [.s (.mbx (.pr (.sl (.int .u8)) (.pr (.int .i64) (.int .u64))) a0), .s (.v (.int .i64) a1)] (.s (.own t_string .str (k1yo8 ++ ([(⟨#[40, 46, 46, 41]⟩ : ByteArray)] : List ByteArray)))) [.box (.pr (.sl (.int .u8)) (.pr (.int .i64) (.int .u64))) k1yo0] :=
  SC_of_run cfgOK (its := [.res (.s (.own t_string .str c1)) [.box (.pr (.sl (.int .u8)) (.pr (.int .i64) (.int .u64))) c1o0] [] [8], .res (.s (.v (.int .i64) c2)) [.box (.pr (.sl (.int .u8)) (.pr (.int .i64) (.int .u64))) c2o0] [] [], .bool false, .bool true, .loop (fun _ => (.exit 1, spec_l1Cur_forest_L0X1 k1y26 k1yo0 k1yo8))])
    (ps := [SC cfg.P i_spec_l1Cur_sureForest [.s (.mbx (.pr (.sl (.int .u8)) (.pr (.int .i64) (.int .u64))) a0), .s (.v (.int .i64) a1)] (.s (.own t_string .str c1)) [.box (.pr (.sl (.int .u8)) (.pr (.int .i64) (.int .u64))) c1o0],
      SC cfg.P i_spec_l1Cur_pick [.s (.mbx (.pr (.sl (.int .u8)) (.pr (.int .i64) (.int .u64))) c1o0), .s (.v (.int .i64) (18 : Int))] (.s (.v (.int .i64) c2)) [.box (.pr (.sl (.int .u8)) (.pr (.int .i64) (.int .u64))) c2o0],
      (c2 == (0 : Int)) = false,
      (c2 == (1 : Int)) = true,
      LoopSC cfg.P 2 (lb P_spec_l1Cur_forest 0) (spec_l1Cur_forest_L0a true c2o0 c1) (.exit 1) (spec_l1Cur_forest_L0X1 k1y26 k1yo0 k1yo8),
      sizeOK (List.length k1yo8 + List.length ([(⟨#[40, 46, 46, 41]⟩ : ByteArray)] : List ByteArray))]) (by kernel_rfl) ⟨h1, h2, (beq_eq_false_iff_ne.mpr h3), (beq_iff_eq.mpr h4), h5, h6, trivial⟩ get_spec_l1Cur_forest (by decide)

theorem spec_l1Cur_forest_p3 (a0 : ((List Int) × (Int × Int))) (a1 : Int) (c1 : (List ByteArray)) (c1o0 : ((List Int) × (Int × Int))) (c2 : Int) (c2o0 : ((List Int) × (Int × Int)))
    (h1 : SC cfg.P i_spec_l1Cur_sureForest [.s (.mbx (.pr (.sl (.int .u8)) (.pr (.int .i64) (.int .u64))) a0), .s (.v (.int .i64) a1)] (.s (.own t_string .str c1)) [.box (.pr (.sl (.int .u8)) (.pr (.int .i64) (.int .u64))) c1o0])
    (h2 : SC cfg.P i_spec_l1Cur_pick [.s (.mbx (.pr (.sl (.int .u8)) (.pr (.int .i64) (.int .u64))) c1o0), .s (.v (.int .i64) (18 : Int))] (.s (.v (.int .i64) c2)) [.box (.pr (.sl (.int .u8)) (.pr (.int .i64) (.int .u64))) c2o0])
    (h3 : c2 ≠ (0 : Int))
    (h4 : c2 ≠ (1 : Int)) :
    SC cfg.P i_spec_l1Cur_forest [.s (.mbx (.pr (.sl (.int .u8)) (.pr (.int .i64) (.int .u64))) a0), .s (.v (.int .i64) a1)] (.s (.own t_string .str c1)) [.box (.pr (.sl (.int .u8)) (.pr (.int .i64) (.int .u64))) c2o0] :=
  SC_of_run cfgOK (its := [.res (.s (.own t_string .str c1)) [.box (.pr (.sl (.int .u8)) (.pr (.int .i64) (.int .u64))) c1o0] [] [8], .res (.s (.v (.int .i64) c2)) [.box (.pr (.sl (.int .u8)) (.pr (.int .i64) (.int .u64))) c2o0] [] [], .bool false, .bool false])
    (ps := [SC cfg.P i_spec_l1Cur_sureForest [.s (.mbx (.pr (.sl (.int .u8)) (.pr (.int .i64) (.int .u64))) a0), .s (.v (.int .i64) a1)] (.s (.own t_string .str c1)) [.box (.pr (.sl (.int .u8)) (.pr (.int .i64) (.int .u64))) c1o0],
      SC cfg.P i_spec_l1Cur_pick [.s (.mbx (.pr (.sl (.int .u8)) (.pr (.int .i64) (.int .u64))) c1o0), .s (.v (.int .i64) (18 : Int))] (.s (.v (.int .i64) c2)) [.box (.pr (.sl (.int .u8)) (.pr (.int .i64) (.int .u64))) c2o0],
      (c2 == (0 : Int)) = false,
      (c2 == (1 : Int)) = false]) (by kernel_rfl) ⟨h1, h2, (beq_eq_false_iff_ne.mpr h3), (beq_eq_false_iff_ne.mpr h4), trivial⟩ get_spec_l1Cur_forest (by decide)

/-! ### spec_foGood -/


def spec_foGood_L0a (x3 : Int) (x23 : (List ByteArray)) (x24 : Int) (x25 : Int) : St := mkSt 39 [(3, .s (.v (.int .i64) x3)), (23, .s (.v (.sl .str) x23)), (24, .s (.v (.int .i64) x24)), (25, .s (.v (.int .i64) x25))] []

def spec_foGood_L0X1 (y2 : Bool) : St := mkSt 39 [(2, .s (.v .bool y2))] []

def spec_foGood_L0X2 (y3 : Int) (y23 : (List ByteArray)) (y24 : Int) (y25 : Int) (y26 : Bool) : St := mkSt 39 [(3, .s (.v (.int .i64) y3)), (23, .s (.v (.sl .str) y23)), (24, .s (.v (.int .i64) y24)), (25, .s (.v (.int .i64) y25)), (26, .s (.v .bool y26))] []

theorem spec_foGood_L0a_i1 (x3 : Int) (x23 : (List ByteArray)) (x24 : Int) (x25 : Int) (dc2 : Int)
    (h1 : x25 < x24)
    (h2 : 0 ≤ x25)
    (h3 : x25 < (List.length x23 : Int))
    (h4 : SC cfg.P i_spec_trIs [.s (.v .str (List.getD x23 (x25).toNat (⟨#[]⟩ : ByteArray)))] (.s (.v .bool true)) [])
    (h5 : SC cfg.P i_spec_trCarets [.s (.v .str (List.getD x23 (x25).toNat (⟨#[]⟩ : ByteArray)))] (.s (.v (.int .i64) dc2)) [])
    {e : AEx} {st : St} (next : LoopSC cfg.P 1 (lb P_spec_foGood 0) (spec_foGood_L0a (IntKind.wrap .i64 (x3 + dc2)) x23 x24 (IntKind.wrap .i64 (x25 + (1 : Int)))) e st) :
    LoopSC cfg.P 1 (lb P_spec_foGood 0) (spec_foGood_L0a x3 x23 x24 x25) e st :=
  loop_iter cfgOK (f := i_spec_foGood) (its := [.bool true, .res (.s (.v .bool true)) [] [] [], .res (.s (.v (.int .i64) dc2)) [] [] []])
    (ps := [decide (x25 < x24) = true,
      0 ≤ x25,
      x25 < (List.length x23 : Int),
      SC cfg.P i_spec_trIs [.s (.v .str (List.getD x23 (x25).toNat (⟨#[]⟩ : ByteArray)))] (.s (.v .bool true)) [],
      SC cfg.P i_spec_trCarets [.s (.v .str (List.getD x23 (x25).toNat (⟨#[]⟩ : ByteArray)))] (.s (.v (.int .i64) dc2)) []]) (st1 := spec_foGood_L0a (IntKind.wrap .i64 (x3 + dc2)) x23 x24 (IntKind.wrap .i64 (x25 + (1 : Int)))) (by kernel_rfl) ⟨(decide_eq_true h1), h2, h3, h4, h5, trivial⟩ next

theorem spec_foGood_L0a_x2 (x3 : Int) (x23 : (List ByteArray)) (x24 : Int) (x25 : Int)
    (h1 : x25 < x24)
    (h2 : 0 ≤ x25)
    (h3 : x25 < (List.length x23 : Int))
    (h4 : SC cfg.P i_spec_trIs [.s (.v .str (List.getD x23 (x25).toNat (⟨#[]⟩ : ByteArray)))] (.s (.v .bool false)) []) :
    LoopSC cfg.P 1 (lb P_spec_foGood 0) (spec_foGood_L0a x3 x23 x24 x25) (.ret) (spec_foGood_L0X1 false) :=
  loop_out cfgOK (f := i_spec_foGood) (its := [.bool true, .res (.s (.v .bool false)) [] [] []])
    (ps := [decide (x25 < x24) = true,
      0 ≤ x25,
      x25 < (List.length x23 : Int),
      SC cfg.P i_spec_trIs [.s (.v .str (List.getD x23 (x25).toNat (⟨#[]⟩ : ByteArray)))] (.s (.v .bool false)) []]) (by kernel_rfl) ⟨(decide_eq_true h1), h2, h3, h4, trivial⟩ (fun h => by cases h)

theorem spec_foGood_L0a_x3 (x3 : Int) (x23 : (List ByteArray)) (x24 : Int) (x25 : Int)
    (h1 : ¬ (x25 < x24)) :
    LoopSC cfg.P 1 (lb P_spec_foGood 0) (spec_foGood_L0a x3 x23 x24 x25) (.exit 0) (spec_foGood_L0X2 x3 x23 x24 x25 false) :=
  loop_out cfgOK (f := i_spec_foGood) (its := [.bool false])
    (ps := [decide (x25 < x24) = false]) (by kernel_rfl) ⟨(decide_eq_false h1), trivial⟩ (fun h => by cases h)

theorem spec_foGood_p1 (a0 : (List ByteArray))
    (h1 : ((List.length a0 : Nat) : Int) > (8 : Int)) :
    SC cfg.P i_spec_foGood [.s (.v (.sl .str) a0)] (.s (.v .bool false)) [] :=
  SC_of_run cfgOK (its := [.bool true])
    (ps := [decide (((List.length a0 : Nat) : Int) > (8 : Int)) = true]) (by kernel_rfl) ⟨(decide_eq_true h1), trivial⟩ get_spec_foGood (by decide)

theorem spec_foGood_p2 (a0 : (List ByteArray))
    (h1 : ¬ (((List.length a0 : Nat) : Int) > (8 : Int)))
    (h2 : ((List.length a0 : Nat) : Int) > (0 : Int))
    (h3 : 0 ≤ (IntKind.wrap .i64 (((List.length a0 : Nat) : Int) - (1 : Int))))
    (h4 : (IntKind.wrap .i64 (((List.length a0 : Nat) : Int) - (1 : Int))) < (List.length a0 : Int))
    (h5 : SC cfg.P i_spec_trLeaf [.s (.v .str (List.getD a0 ((IntKind.wrap .i64 (((List.length a0 : Nat) : Int) - (1 : Int)))).toNat (⟨#[]⟩ : ByteArray)))] (.s (.v .bool true)) []) :
    SC cfg.P i_spec_foGood [.s (.v (.sl .str) a0)] (.s (.v .bool false)) [] :=
  SC_of_run cfgOK (its := [.bool false, .bool true, .res (.s (.v .bool true)) [] [] []])
    (ps := [decide (((List.length a0 : Nat) : Int) > (8 : Int)) = false,
      decide (((List.length a0 : Nat) : Int) > (0 : Int)) = true,
      0 ≤ (IntKind.wrap .i64 (((List.length a0 : Nat) : Int) - (1 : Int))),
      (IntKind.wrap .i64 (((List.length a0 : Nat) : Int) - (1 : Int))) < (List.length a0 : Int),
      SC cfg.P i_spec_trLeaf [.s (.v .str (List.getD a0 ((IntKind.wrap .i64 (((List.length a0 : Nat) : Int) - (1 : Int)))).toNat (⟨#[]⟩ : ByteArray)))] (.s (.v .bool true)) []]) (by kernel_rfl) ⟨(decide_eq_false h1), (decide_eq_true h2), h3, h4, h5, trivial⟩ get_spec_foGood (by decide)

theorem spec_foGood_p3 (a0 : (List ByteArray)) (k1y2 : Bool)
    (h1 : ¬ (((List.length a0 : Nat) : Int) > (8 : Int)))
    (h2 : ((List.length a0 : Nat) : Int) > (0 : Int))
    (h3 : 0 ≤ (IntKind.wrap .i64 (((List.length a0 : Nat) : Int) - (1 : Int))))
    (h4 : (IntKind.wrap .i64 (((List.length a0 : Nat) : Int) - (1 : Int))) < (List.length a0 : Int))
    (h5 : SC cfg.P i_spec_trLeaf [.s (.v .str (List.getD a0 ((IntKind.wrap .i64 (((List.length a0 : Nat) : Int) - (1 : Int)))).toNat (⟨#[]⟩ : ByteArray)))] (.s (.v .bool false)) [])
    (h6 : LoopSC cfg.P 1 (lb P_spec_foGood 0) (spec_foGood_L0a (0 : Int) a0 ((List.length a0 : Nat) : Int) (0 : Int)) (.ret) (spec_foGood_L0X1 k1y2)) :
    SC cfg.P i_spec_foGood [.s (.v (.sl .str) a0)] (.s (.v .bool k1y2)) [] :=
  SC_of_run cfgOK (its := [.bool false, .bool true, .res (.s (.v .bool false)) [] [] [], .loop (fun _ => (.ret, spec_foGood_L0X1 k1y2))])
    (ps := [decide (((List.length a0 : Nat) : Int) > (8 : Int)) = false,
      decide (((List.length a0 : Nat) : Int) > (0 : Int)) = true,
      0 ≤ (IntKind.wrap .i64 (((List.length a0 : Nat) : Int) - (1 : Int))),
      (IntKind.wrap .i64 (((List.length a0 : Nat) : Int) - (1 : Int))) < (List.length a0 : Int),
      SC cfg.P i_spec_trLeaf [.s (.v .str (List.getD a0 ((IntKind.wrap .i64 (((List.length a0 : Nat) : Int) - (1 : Int)))).toNat (⟨#[]⟩ : ByteArray)))] (.s (.v .bool false)) [],
      LoopSC cfg.P 1 (lb P_spec_foGood 0) (spec_foGood_L0a (0 : Int) a0 ((List.length a0 : Nat) : Int) (0 : Int)) (.ret) (spec_foGood_L0X1 k1y2)]) (by kernel_rfl) ⟨(decide_eq_false h1), (decide_eq_true h2), h3, h4, h5, h6, trivial⟩ get_spec_foGood (by decide)

theorem spec_foGood_p4 (a0 : (List ByteArray)) (k1y3 : Int) (k1y23 : (List ByteArray)) (k1y24 : Int) (k1y25 : Int) (k1y26 : Bool)
    (h1 : ¬ (((List.length a0 : Nat) : Int) > (8 : Int)))
    (h2 : ((List.length a0 : Nat) : Int) > (0 : Int))
    (h3 : 0 ≤ (IntKind.wrap .i64 (((List.length a0 : Nat) : Int) - (1 : Int))))
    (h4 : (IntKind.wrap .i64 (((List.length a0 : Nat) : Int) - (1 : Int))) < (List.length a0 : Int))
    (h5 : SC cfg.P i_spec_trLeaf [.s (.v .str (List.getD a0 ((IntKind.wrap .i64 (((List.length a0 : Nat) : Int) - (1 : Int)))).toNat (⟨#[]⟩ : ByteArray)))] (.s (.v .bool false)) [])
    (h6 : LoopSC cfg.P 1 (lb P_spec_foGood 0) (spec_foGood_L0a (0 : Int) a0 ((List.length a0 : Nat) : Int) (0 : Int)) (.exit 0) (spec_foGood_L0X2 k1y3 k1y23 k1y24 k1y25 k1y26))
    (h7 : k1y3 ≤ (8 : Int)) :
    SC cfg.P i_spec_foGood [.s (.v (.sl .str) a0)] (.s (.v .bool true)) [] :=
  SC_of_run cfgOK (its := [.bool false, .bool true, .res (.s (.v .bool false)) [] [] [], .loop (fun _ => (.exit 0, spec_foGood_L0X2 k1y3 k1y23 k1y24 k1y25 k1y26)), .bool true])
    (ps := [decide (((List.length a0 : Nat) : Int) > (8 : Int)) = false,
      decide (((List.length a0 : Nat) : Int) > (0 : Int)) = true,
      0 ≤ (IntKind.wrap .i64 (((List.length a0 : Nat) : Int) - (1 : Int))),
      (IntKind.wrap .i64 (((List.length a0 : Nat) : Int) - (1 : Int))) < (List.length a0 : Int),
      SC cfg.P i_spec_trLeaf [.s (.v .str (List.getD a0 ((IntKind.wrap .i64 (((List.length a0 : Nat) : Int) - (1 : Int)))).toNat (⟨#[]⟩ : ByteArray)))] (.s (.v .bool false)) [],
      LoopSC cfg.P 1 (lb P_spec_foGood 0) (spec_foGood_L0a (0 : Int) a0 ((List.length a0 : Nat) : Int) (0 : Int)) (.exit 0) (spec_foGood_L0X2 k1y3 k1y23 k1y24 k1y25 k1y26),
      decide (k1y3 ≤ (8 : Int)) = true]) (by kernel_rfl) ⟨(decide_eq_false h1), (decide_eq_true h2), h3, h4, h5, h6, (decide_eq_true h7), trivial⟩ get_spec_foGood (by decide)

theorem spec_foGood_p5 (a0 : (List ByteArray)) (k1y3 : Int) (k1y23 : (List ByteArray)) (k1y24 : Int) (k1y25 : Int) (k1y26 : Bool)
    (h1 : ¬ (((List.length a0 : Nat) : Int) > (8 : Int)))
    (h2 : ((List.length a0 : Nat) : Int) > (0 : Int))
    (h3 : 0 ≤ (IntKind.wrap .i64 (((List.length a0 : Nat) : Int) - (1 : Int))))
    (h4 : (IntKind.wrap .i64 (((List.length a0 : Nat) : Int) - (1 : Int))) < (List.length a0 : Int))
    (h5 : SC cfg.P i_spec_trLeaf [.s (.v .str (List.getD a0 ((IntKind.wrap .i64 (((List.length a0 : Nat) : Int) - (1 : Int)))).toNat (⟨#[]⟩ : ByteArray)))] (.s (.v .bool false)) [])
    (h6 : LoopSC cfg.P 1 (lb P_spec_foGood 0) (spec_foGood_L0a (0 : Int) a0 ((List.length a0 : Nat) : Int) (0 : Int)) (.exit 0) (spec_foGood_L0X2 k1y3 k1y23 k1y24 k1y25 k1y26))
    (h7 : ¬ (k1y3 ≤ (8 : Int))) :
    SC cfg.P i_spec_foGood [.s (.v (.sl .str) a0)] (.s (.v .bool false)) [] :=
  SC_of_run cfgOK (its := [.bool false, .bool true, .res (.s (.v .bool false)) [] [] [], .loop (fun _ => (.exit 0, spec_foGood_L0X2 k1y3 k1y23 k1y24 k1y25 k1y26)), .bool false])
    (ps := [decide (((List.length a0 : Nat) : Int) > (8 : Int)) = false,
      decide (((List.length a0 : Nat) : Int) > (0 : Int)) = true,
      0 ≤ (IntKind.wrap .i64 (((List.length a0 : Nat) : Int) - (1 : Int))),
      (IntKind.wrap .i64 (((List.length a0 : Nat) : Int) - (1 : Int))) < (List.length a0 : Int),
      SC cfg.P i_spec_trLeaf [.s (.v .str (List.getD a0 ((IntKind.wrap .i64 (((List.length a0 : Nat) : Int) - (1 : Int)))).toNat (⟨#[]⟩ : ByteArray)))] (.s (.v .bool false)) [],
      LoopSC cfg.P 1 (lb P_spec_foGood 0) (spec_foGood_L0a (0 : Int) a0 ((List.length a0 : Nat) : Int) (0 : Int)) (.exit 0) (spec_foGood_L0X2 k1y3 k1y23 k1y24 k1y25 k1y26),
      decide (k1y3 ≤ (8 : Int)) = false]) (by kernel_rfl) ⟨(decide_eq_false h1), (decide_eq_true h2), h3, h4, h5, h6, (decide_eq_false h7), trivial⟩ get_spec_foGood (by decide)

theorem spec_foGood_p7 (a0 : (List ByteArray)) (k1y3 : Int) (k1y23 : (List ByteArray)) (k1y24 : Int) (k1y25 : Int) (k1y26 : Bool)
    (h1 : ¬ (((List.length a0 : Nat) : Int) > (8 : Int)))
    (h2 : ¬ (((List.length a0 : Nat) : Int) > (0 : Int)))
    (h3 : LoopSC cfg.P 1 (lb P_spec_foGood 0) (spec_foGood_L0a (0 : Int) a0 ((List.length a0 : Nat) : Int) (0 : Int)) (.exit 0) (spec_foGood_L0X2 k1y3 k1y23 k1y24 k1y25 k1y26))
    (h4 : k1y3 ≤ (8 : Int)) :
    SC cfg.P i_spec_foGood [.s (.v (.sl .str) a0)] (.s (.v .bool true)) [] :=
  SC_of_run cfgOK (its := [.bool false, .bool false, .loop (fun _ => (.exit 0, spec_foGood_L0X2 k1y3 k1y23 k1y24 k1y25 k1y26)), .bool true])
    (ps := [decide (((List.length a0 : Nat) : Int) > (8 : Int)) = false,
      decide (((List.length a0 : Nat) : Int) > (0 : Int)) = false,
      LoopSC cfg.P 1 (lb P_spec_foGood 0) (spec_foGood_L0a (0 : Int) a0 ((List.length a0 : Nat) : Int) (0 : Int)) (.exit 0) (spec_foGood_L0X2 k1y3 k1y23 k1y24 k1y25 k1y26),
      decide (k1y3 ≤ (8 : Int)) = true]) (by kernel_rfl) ⟨(decide_eq_false h1), (decide_eq_false h2), h3, (decide_eq_true h4), trivial⟩ get_spec_foGood (by decide)

/-! ### spec_foPair -/


theorem spec_foPair_p1 (a0 : (List ByteArray)) (c1 : ByteArray) (c2 : Int) (c3 : ByteArray) (c4 : (ByteArray × ByteArray))
    (h1 : SC cfg.P i_spec_wdComb [.s (.v (.sl .str) a0)] (.s (.v .str c1)) [])
    (h2 : SC cfg.P i_spec_trCarets [.s (.v .str c1)] (.s (.v (.int .i64) c2)) [])
    (h3 : SC cfg.P i_spec_trRight [.s (.v (.int .i64) c2)] (.s (.v .str c3)) [])
    (h4 : SC cfg.P i_spec_prReduce [.s (.v (.pr .str .str) (c1, c3)), .s (.v (.sl (.int .i64)) ([] : List Int))] (.s (.v (.pr .str .str) c4)) []) :
    SC cfg.P i_spec_foPair [.s (.v (.sl .str) a0)] (.s (.v (.pr .str .str) c4)) [] :=
  SC_of_run cfgOK (its := [.res (.s (.v .str c1)) [] [] [], .res (.s (.v (.int .i64) c2)) [] [] [], .res (.s (.v .str c3)) [] [] [], .res (.s (.v (.pr .str .str) c4)) [] [] []])
    (ps := [SC cfg.P i_spec_wdComb [.s (.v (.sl .str) a0)] (.s (.v .str c1)) [],
      SC cfg.P i_spec_trCarets [.s (.v .str c1)] (.s (.v (.int .i64) c2)) [],
      SC cfg.P i_spec_trRight [.s (.v (.int .i64) c2)] (.s (.v .str c3)) [],
      SC cfg.P i_spec_prReduce [.s (.v (.pr .str .str) (c1, c3)), .s (.v (.sl (.int .i64)) ([] : List Int))] (.s (.v (.pr .str .str) c4)) []]) (by kernel_rfl) ⟨h1, h2, h3, h4, trivial⟩ get_spec_foPair (by decide)

/-! ### impl_forest_stack -/


def impl_forest_stack_L0a (x0 : (List Tr)) (x1 : (List Tr)) (x6 : Int) (x7 : Int) (xo5 : (List Tr)) : St := mkSt 37 [(0, .s (.v (.sl .tree) x0)), (1, .s (.v (.sl .tree) x1)), (5, .s (.osl 5 0)), (6, .s (.v (.int .i64) x6)), (7, .s (.v (.int .i64) x7))] [(5, .row t_pimpl_node .tree xo5 0 false)]

def impl_forest_stack_L0X1 (y0 : (List Tr)) (y1 : (List Tr)) (y6 : Int) (y7 : Int) (y18 : Bool) (yo5 : (List Tr)) : St := mkSt 37 [(0, .s (.v (.sl .tree) y0)), (1, .s (.v (.sl .tree) y1)), (5, .s (.osl 5 0)), (6, .s (.v (.int .i64) y6)), (7, .s (.v (.int .i64) y7)), (18, .s (.v .bool y18))] [(5, .row t_pimpl_node .tree yo5 0 false)]

theorem impl_forest_stack_L0a_i1 (x0 : (List Tr)) (x1 : (List Tr)) (x6 : Int) (x7 : Int) (xo5 : (List Tr)) (dc1 : Tr) (dc2 : Tr) (dc3 : Int)
    (h1 : x7 < ((List.length x0 : Nat) : Int))
    (h2 : SC cfg.P i_impl_forest_tree [.s (.v (.sl .tree) x0), .s (.v (.int .i64) x7)] (.s (.v .tree dc1)) [])
    (h3 : SC cfg.P i_impl_node_grown [.s (.v .tree dc1), .s (.v (.int .i64) x6), .fn i_impl_forest_tree [.v (.sl .tree) x1] []] (.s (.v .tree dc2)) [])
    (h4 : sizeOK (List.length xo5 + List.length ([dc2] : List Tr)))
    (h5 : SC cfg.P i_impl_node_leaves [.s (.v .tree dc1)] (.s (.v (.int .i64) dc3)) [])
    {e : AEx} {st : St} (next : LoopSC cfg.P 2 (lb P_impl_forest_stack 0) (impl_forest_stack_L0a x0 x1 (IntKind.wrap .i64 (x6 + dc3)) (IntKind.wrap .i64 (x7 + (1 : Int))) (xo5 ++ ([dc2] : List Tr))) e st) :
    LoopSC cfg.P 2 (lb P_impl_forest_stack 0) (impl_forest_stack_L0a x0 x1 x6 x7 xo5) e st :=
  loop_iter cfgOK (f := i_impl_forest_stack) (its := [.bool true, .res (.s (.v .tree dc1)) [] [] [], .res (.s (.v .tree dc2)) [] [] [], .res (.s (.v (.int .i64) dc3)) [] [] []])
    (ps := [decide (x7 < ((List.length x0 : Nat) : Int)) = true,
      SC cfg.P i_impl_forest_tree [.s (.v (.sl .tree) x0), .s (.v (.int .i64) x7)] (.s (.v .tree dc1)) [],
      SC cfg.P i_impl_node_grown [.s (.v .tree dc1), .s (.v (.int .i64) x6), .fn i_impl_forest_tree [.v (.sl .tree) x1] []] (.s (.v .tree dc2)) [],
      sizeOK (List.length xo5 + List.length ([dc2] : List Tr)),
      SC cfg.P i_impl_node_leaves [.s (.v .tree dc1)] (.s (.v (.int .i64) dc3)) []]) (st1 := impl_forest_stack_L0a x0 x1 (IntKind.wrap .i64 (x6 + dc3)) (IntKind.wrap .i64 (x7 + (1 : Int))) (xo5 ++ ([dc2] : List Tr))) (by kernel_rfl) ⟨(decide_eq_true h1), h2, h3, h4, h5, trivial⟩ next

theorem impl_forest_stack_L0a_i2 (x0 : (List Tr)) (x1 : (List Tr)) (x6 : Int) (x7 : Int) (xo5 : (List Tr)) (dc1 : Tr) (dc2 : Tr) (dc3 : Int)
    (h1 : ¬ (x7 < ((List.length x0 : Nat) : Int)))
    (h2 : x6 < ((List.length x1 : Nat) : Int))
    (h3 : SC cfg.P i_impl_forest_tree [.s (.v (.sl .tree) x0), .s (.v (.int .i64) x7)] (.s (.v .tree dc1)) [])
    (h4 : SC cfg.P i_impl_node_grown [.s (.v .tree dc1), .s (.v (.int .i64) x6), .fn i_impl_forest_tree [.v (.sl .tree) x1] []] (.s (.v .tree dc2)) [])
    (h5 : sizeOK (List.length xo5 + List.length ([dc2] : List Tr)))
    (h6 : SC cfg.P i_impl_node_leaves [.s (.v .tree dc1)] (.s (.v (.int .i64) dc3)) [])
    {e : AEx} {st : St} (next : LoopSC cfg.P 2 (lb P_impl_forest_stack 0) (impl_forest_stack_L0a x0 x1 (IntKind.wrap .i64 (x6 + dc3)) (IntKind.wrap .i64 (x7 + (1 : Int))) (xo5 ++ ([dc2] : List Tr))) e st) :
    LoopSC cfg.P 2 (lb P_impl_forest_stack 0) (impl_forest_stack_L0a x0 x1 x6 x7 xo5) e st :=
  loop_iter cfgOK (f := i_impl_forest_stack) (its := [.bool false, .bool true, .res (.s (.v .tree dc1)) [] [] [], .res (.s (.v .tree dc2)) [] [] [], .res (.s (.v (.int .i64) dc3)) [] [] []])
    (ps := [decide (x7 < ((List.length x0 : Nat) : Int)) = false,
      decide (x6 < ((List.length x1 : Nat) : Int)) = true,
      SC cfg.P i_impl_forest_tree [.s (.v (.sl .tree) x0), .s (.v (.int .i64) x7)] (.s (.v .tree dc1)) [],
      SC cfg.P i_impl_node_grown [.s (.v .tree dc1), .s (.v (.int .i64) x6), .fn i_impl_forest_tree [.v (.sl .tree) x1] []] (.s (.v .tree dc2)) [],
      sizeOK (List.length xo5 + List.length ([dc2] : List Tr)),
      SC cfg.P i_impl_node_leaves [.s (.v .tree dc1)] (.s (.v (.int .i64) dc3)) []]) (st1 := impl_forest_stack_L0a x0 x1 (IntKind.wrap .i64 (x6 + dc3)) (IntKind.wrap .i64 (x7 + (1 : Int))) (xo5 ++ ([dc2] : List Tr))) (by kernel_rfl) ⟨(decide_eq_false h1), (decide_eq_true h2), h3, h4, h5, h6, trivial⟩ next

theorem impl_forest_stack_L0a_x3 (x0 : (List Tr)) (x1 : (List Tr)) (x6 : Int) (x7 : Int) (xo5 : (List Tr))
    (h1 : ¬ (x7 < ((List.length x0 : Nat) : Int)))
    (h2 : ¬ (x6 < ((List.length x1 : Nat) : Int))) :
    LoopSC cfg.P 2 (lb P_impl_forest_stack 0) (impl_forest_stack_L0a x0 x1 x6 x7 xo5) (.exit 0) (impl_forest_stack_L0X1 x0 x1 x6 x7 false xo5) :=
  loop_out cfgOK (f := i_impl_forest_stack) (its := [.bool false, .bool false])
    (ps := [decide (x7 < ((List.length x0 : Nat) : Int)) = false,
      decide (x6 < ((List.length x1 : Nat) : Int)) = false]) (by kernel_rfl) ⟨(decide_eq_false h1), (decide_eq_false h2), trivial⟩ (fun h => by cases h)

theorem impl_forest_stack_p1 (a0 : (List Tr)) (a1 : (List Tr)) (k1y0 : (List Tr)) (k1y1 : (List Tr)) (k1y6 : Int) (k1y7 : Int) (k1y18 : Bool) (k1yo5 : (List Tr))
    (h1 : LoopSC cfg.P 2 (lb P_impl_forest_stack 0) (impl_forest_stack_L0a a0 a1 (0 : Int) (0 : Int) ([] : List Tr)) (.exit 0) (impl_forest_stack_L0X1 k1y0 k1y1 k1y6 k1y7 k1y18 k1yo5)) :
    SC cfg.P i_impl_forest_stack [.s (.v (.sl .tree) a0), .s (.v (.sl .tree) a1)] (.s (.own t_pimpl_node .tree k1yo5)) [] :=
  SC_of_run cfgOK (its := [.loop (fun _ => (.exit 0, impl_forest_stack_L0X1 k1y0 k1y1 k1y6 k1y7 k1y18 k1yo5))])
    (ps := [LoopSC cfg.P 2 (lb P_impl_forest_stack 0) (impl_forest_stack_L0a a0 a1 (0 : Int) (0 : Int) ([] : List Tr)) (.exit 0) (impl_forest_stack_L0X1 k1y0 k1y1 k1y6 k1y7 k1y18 k1yo5)]) (by kernel_rfl) ⟨h1, trivial⟩ get_impl_forest_stack (by decide)

/-! ### impl_forest_trimmed -/


def impl_forest_trimmed_L0a (x0 : (List Tr)) : St := mkSt 21 [(0, .s (.v (.sl .tree) x0))] []

def impl_forest_trimmed_L0X1 (y0 : (List Tr)) (y14 : Bool) : St := mkSt 21 [(0, .s (.v (.sl .tree) y0)), (14, .s (.v .bool y14))] []

theorem impl_forest_trimmed_L0a_i1 (x0 : (List Tr))
    (h1 : ((List.length x0 : Nat) : Int) > (0 : Int))
    (h2 : 0 ≤ (IntKind.wrap .i64 (((List.length x0 : Nat) : Int) - (1 : Int))))
    (h3 : (IntKind.wrap .i64 (((List.length x0 : Nat) : Int) - (1 : Int))) < (List.length x0 : Int))
    (h4 : ((List.getD x0 ((IntKind.wrap .i64 (((List.length x0 : Nat) : Int) - (1 : Int)))).toNat Tr.leaf)).isLeaf = true)
    (h5 : (IntKind.wrap .i64 (((List.length x0 : Nat) : Int) - (1 : Int))) ≤ (List.length x0 : Int))
    {e : AEx} {st : St} (next : LoopSC cfg.P 1 (lb P_impl_forest_trimmed 0) (impl_forest_trimmed_L0a (cutL x0 (0 : Int) (IntKind.wrap .i64 (((List.length x0 : Nat) : Int) - (1 : Int))))) e st) :
    LoopSC cfg.P 1 (lb P_impl_forest_trimmed 0) (impl_forest_trimmed_L0a x0) e st :=
  loop_iter cfgOK (f := i_impl_forest_trimmed) (its := [.bool true, .bool true])
    (ps := [decide (((List.length x0 : Nat) : Int) > (0 : Int)) = true,
      0 ≤ (IntKind.wrap .i64 (((List.length x0 : Nat) : Int) - (1 : Int))),
      (IntKind.wrap .i64 (((List.length x0 : Nat) : Int) - (1 : Int))) < (List.length x0 : Int),
      ((List.getD x0 ((IntKind.wrap .i64 (((List.length x0 : Nat) : Int) - (1 : Int)))).toNat Tr.leaf)).isLeaf = true,
      0 ≤ (IntKind.wrap .i64 (((List.length x0 : Nat) : Int) - (1 : Int))),
      (IntKind.wrap .i64 (((List.length x0 : Nat) : Int) - (1 : Int))) ≤ (List.length x0 : Int)]) (st1 := impl_forest_trimmed_L0a (cutL x0 (0 : Int) (IntKind.wrap .i64 (((List.length x0 : Nat) : Int) - (1 : Int))))) (by kernel_rfl) ⟨(decide_eq_true h1), h2, h3, h4, h2, h5, trivial⟩ next

theorem impl_forest_trimmed_L0a_x2 (x0 : (List Tr))
    (h1 : ((List.length x0 : Nat) : Int) > (0 : Int))
    (h2 : 0 ≤ (IntKind.wrap .i64 (((List.length x0 : Nat) : Int) - (1 : Int))))
    (h3 : (IntKind.wrap .i64 (((List.length x0 : Nat) : Int) - (1 : Int))) < (List.length x0 : Int))
    (h4 : ((List.getD x0 ((IntKind.wrap .i64 (((List.length x0 : Nat) : Int) - (1 : Int)))).toNat Tr.leaf)).isLeaf = false) :
    LoopSC cfg.P 1 (lb P_impl_forest_trimmed 0) (impl_forest_trimmed_L0a x0) (.exit 0) (impl_forest_trimmed_L0X1 x0 false) :=
  loop_out cfgOK (f := i_impl_forest_trimmed) (its := [.bool true, .bool false])
    (ps := [decide (((List.length x0 : Nat) : Int) > (0 : Int)) = true,
      0 ≤ (IntKind.wrap .i64 (((List.length x0 : Nat) : Int) - (1 : Int))),
      (IntKind.wrap .i64 (((List.length x0 : Nat) : Int) - (1 : Int))) < (List.length x0 : Int),
      ((List.getD x0 ((IntKind.wrap .i64 (((List.length x0 : Nat) : Int) - (1 : Int)))).toNat Tr.leaf)).isLeaf = false]) (by kernel_rfl) ⟨(decide_eq_true h1), h2, h3, h4, trivial⟩ (fun h => by cases h)

theorem impl_forest_trimmed_L0a_x3 (x0 : (List Tr))
    (h1 : ¬ (((List.length x0 : Nat) : Int) > (0 : Int))) :
    LoopSC cfg.P 1 (lb P_impl_forest_trimmed 0) (impl_forest_trimmed_L0a x0) (.exit 0) (impl_forest_trimmed_L0X1 x0 false) :=
  loop_out cfgOK (f := i_impl_forest_trimmed) (its := [.bool false])
    (ps := [decide (((List.length x0 : Nat) : Int) > (0 : Int)) = false]) (by kernel_rfl) ⟨(decide_eq_false h1), trivial⟩ (fun h => by cases h)

theorem impl_forest_trimmed_p1 (a0 : (List Tr)) (k1y0 : (List Tr)) (k1y14 : Bool)
    (h1 : LoopSC cfg.P 1 (lb P_impl_forest_trimmed 0) (impl_forest_trimmed_L0a a0) (.exit 0) (impl_forest_trimmed_L0X1 k1y0 k1y14)) :
    SC cfg.P i_impl_forest_trimmed [.s (.v (.sl .tree) a0)] (.s (.v (.sl .tree) k1y0)) [] :=
  SC_of_run cfgOK (its := [.loop (fun _ => (.exit 0, impl_forest_trimmed_L0X1 k1y0 k1y14))])
    (ps := [LoopSC cfg.P 1 (lb P_impl_forest_trimmed 0) (impl_forest_trimmed_L0a a0) (.exit 0) (impl_forest_trimmed_L0X1 k1y0 k1y14)]) (by kernel_rfl) ⟨h1, trivial⟩ get_impl_forest_trimmed (by decide)

/-! ### impl_forest_carets -/


def impl_forest_carets_L0a (x3 : Int) (x6 : (List Tr)) (x7 : Int) (x8 : Int) : St := mkSt 18 [(3, .s (.v (.int .i64) x3)), (6, .s (.v (.sl .tree) x6)), (7, .s (.v (.int .i64) x7)), (8, .s (.v (.int .i64) x8))] []

def impl_forest_carets_L0X1 (y3 : Int) (y6 : (List Tr)) (y7 : Int) (y8 : Int) (y9 : Bool) : St := mkSt 18 [(3, .s (.v (.int .i64) y3)), (6, .s (.v (.sl .tree) y6)), (7, .s (.v (.int .i64) y7)), (8, .s (.v (.int .i64) y8)), (9, .s (.v .bool y9))] []

theorem impl_forest_carets_L0a_i1 (x3 : Int) (x6 : (List Tr)) (x7 : Int) (x8 : Int) (dc1 : Int)
    (h1 : x8 < x7)
    (h2 : 0 ≤ x8)
    (h3 : x8 < (List.length x6 : Int))
    (h4 : SC cfg.P i_impl_node_carets [.s (.v .tree (List.getD x6 (x8).toNat Tr.leaf))] (.s (.v (.int .i64) dc1)) [])
    {e : AEx} {st : St} (next : LoopSC cfg.P 1 (lb P_impl_forest_carets 0) (impl_forest_carets_L0a (IntKind.wrap .i64 (x3 + dc1)) x6 x7 (IntKind.wrap .i64 (x8 + (1 : Int)))) e st) :
    LoopSC cfg.P 1 (lb P_impl_forest_carets 0) (impl_forest_carets_L0a x3 x6 x7 x8) e st :=
  loop_iter cfgOK (f := i_impl_forest_carets) (its := [.bool true, .res (.s (.v (.int .i64) dc1)) [] [] []])
    (ps := [decide (x8 < x7) = true,
      0 ≤ x8,
      x8 < (List.length x6 : Int),
      SC cfg.P i_impl_node_carets [.s (.v .tree (List.getD x6 (x8).toNat Tr.leaf))] (.s (.v (.int .i64) dc1)) []]) (st1 := impl_forest_carets_L0a (IntKind.wrap .i64 (x3 + dc1)) x6 x7 (IntKind.wrap .i64 (x8 + (1 : Int)))) (by kernel_rfl) ⟨(decide_eq_true h1), h2, h3, h4, trivial⟩ next

theorem impl_forest_carets_L0a_x2 (x3 : Int) (x6 : (List Tr)) (x7 : Int) (x8 : Int)
    (h1 : ¬ (x8 < x7)) :
    LoopSC cfg.P 1 (lb P_impl_forest_carets 0) (impl_forest_carets_L0a x3 x6 x7 x8) (.exit 0) (impl_forest_carets_L0X1 x3 x6 x7 x8 false) :=
  loop_out cfgOK (f := i_impl_forest_carets) (its := [.bool false])
    (ps := [decide (x8 < x7) = false]) (by kernel_rfl) ⟨(decide_eq_false h1), trivial⟩ (fun h => by cases h)

theorem impl_forest_carets_p1 (a0 : (List Tr)) (k1y3 : Int) (k1y6 : (List Tr)) (k1y7 : Int) (k1y8 : Int) (k1y9 : Bool)
    (h1 : LoopSC cfg.P 1 (lb P_impl_forest_carets 0) (impl_forest_carets_L0a (0 : Int) a0 ((List.length a0 : Nat) : Int) (0 : Int)) (.exit 0) (impl_forest_carets_L0X1 k1y3 k1y6 k1y7 k1y8 k1y9)) :
    SC cfg.P i_impl_forest_carets [.s (.v (.sl .tree) a0)] (.s (.v (.int .i64) k1y3)) [] :=
  SC_of_run cfgOK (its := [.loop (fun _ => (.exit 0, impl_forest_carets_L0X1 k1y3 k1y6 k1y7 k1y8 k1y9))])
    (ps := [LoopSC cfg.P 1 (lb P_impl_forest_carets 0) (impl_forest_carets_L0a (0 : Int) a0 ((List.length a0 : Nat) : Int) (0 : Int)) (.exit 0) (impl_forest_carets_L0X1 k1y3 k1y6 k1y7 k1y8 k1y9)]) (by kernel_rfl) ⟨h1, trivial⟩ get_impl_forest_carets (by decide)

/-! ### spec_wdShort -/


def spec_wdShort_L0a (x0 : (List ByteArray)) (x3 : Int) : St := mkSt 23 [(0, .s (.v (.sl .str) x0)), (3, .s (.v (.int .i64) x3))] []

def spec_wdShort_L0X1 (y0 : (List ByteArray)) (y3 : Int) (y15 : Bool) : St := mkSt 23 [(0, .s (.v (.sl .str) y0)), (3, .s (.v (.int .i64) y3)), (15, .s (.v .bool y15))] []

theorem spec_wdShort_L0a_i1 (x0 : (List ByteArray)) (x3 : Int)
    (h1 : x3 > (0 : Int))
    (h2 : 0 ≤ (IntKind.wrap .i64 (x3 - (1 : Int))))
    (h3 : (IntKind.wrap .i64 (x3 - (1 : Int))) < (List.length x0 : Int))
    (h4 : SC cfg.P i_spec_trLeaf [.s (.v .str (List.getD x0 ((IntKind.wrap .i64 (x3 - (1 : Int)))).toNat (⟨#[]⟩ : ByteArray)))] (.s (.v .bool true)) [])
    {e : AEx} {st : St} (next : LoopSC cfg.P 1 (lb P_spec_wdShort 0) (spec_wdShort_L0a x0 (IntKind.wrap .i64 (x3 - (1 : Int)))) e st) :
    LoopSC cfg.P 1 (lb P_spec_wdShort 0) (spec_wdShort_L0a x0 x3) e st :=
  loop_iter cfgOK (f := i_spec_wdShort) (its := [.bool true, .res (.s (.v .bool true)) [] [] []])
    (ps := [decide (x3 > (0 : Int)) = true,
      0 ≤ (IntKind.wrap .i64 (x3 - (1 : Int))),
      (IntKind.wrap .i64 (x3 - (1 : Int))) < (List.length x0 : Int),
      SC cfg.P i_spec_trLeaf [.s (.v .str (List.getD x0 ((IntKind.wrap .i64 (x3 - (1 : Int)))).toNat (⟨#[]⟩ : ByteArray)))] (.s (.v .bool true)) []]) (st1 := spec_wdShort_L0a x0 (IntKind.wrap .i64 (x3 - (1 : Int)))) (by kernel_rfl) ⟨(decide_eq_true h1), h2, h3, h4, trivial⟩ next

theorem spec_wdShort_L0a_x2 (x0 : (List ByteArray)) (x3 : Int)
    (h1 : x3 > (0 : Int))
    (h2 : 0 ≤ (IntKind.wrap .i64 (x3 - (1 : Int))))
    (h3 : (IntKind.wrap .i64 (x3 - (1 : Int))) < (List.length x0 : Int))
    (h4 : SC cfg.P i_spec_trLeaf [.s (.v .str (List.getD x0 ((IntKind.wrap .i64 (x3 - (1 : Int)))).toNat (⟨#[]⟩ : ByteArray)))] (.s (.v .bool false)) []) :
    LoopSC cfg.P 1 (lb P_spec_wdShort 0) (spec_wdShort_L0a x0 x3) (.exit 0) (spec_wdShort_L0X1 x0 x3 false) :=
  loop_out cfgOK (f := i_spec_wdShort) (its := [.bool true, .res (.s (.v .bool false)) [] [] []])
    (ps := [decide (x3 > (0 : Int)) = true,
      0 ≤ (IntKind.wrap .i64 (x3 - (1 : Int))),
      (IntKind.wrap .i64 (x3 - (1 : Int))) < (List.length x0 : Int),
      SC cfg.P i_spec_trLeaf [.s (.v .str (List.getD x0 ((IntKind.wrap .i64 (x3 - (1 : Int)))).toNat (⟨#[]⟩ : ByteArray)))] (.s (.v .bool false)) []]) (by kernel_rfl) ⟨(decide_eq_true h1), h2, h3, h4, trivial⟩ (fun h => by cases h)

theorem spec_wdShort_L0a_x3 (x0 : (List ByteArray)) (x3 : Int)
    (h1 : ¬ (x3 > (0 : Int))) :
    LoopSC cfg.P 1 (lb P_spec_wdShort 0) (spec_wdShort_L0a x0 x3) (.exit 0) (spec_wdShort_L0X1 x0 x3 false) :=
  loop_out cfgOK (f := i_spec_wdShort) (its := [.bool false])
    (ps := [decide (x3 > (0 : Int)) = false]) (by kernel_rfl) ⟨(decide_eq_false h1), trivial⟩ (fun h => by cases h)

theorem spec_wdShort_p1 (a0 : (List ByteArray)) (k1y0 : (List ByteArray)) (k1y3 : Int) (k1y15 : Bool)
    (h1 : LoopSC cfg.P 1 (lb P_spec_wdShort 0) (spec_wdShort_L0a a0 ((List.length a0 : Nat) : Int)) (.exit 0) (spec_wdShort_L0X1 k1y0 k1y3 k1y15))
    (h2 : 0 ≤ k1y3)
    (h3 : k1y3 ≤ (List.length k1y0 : Int))
    (h4 : sizeOK (List.length ([] : List ByteArray) + List.length (cutL k1y0 (0 : Int) k1y3))) :
    SC cfg.P i_spec_wdShort [.s (.v (.sl .str) a0)] (.s (.own t_string .str (([] : List ByteArray) ++ (cutL k1y0 (0 : Int) k1y3)))) [] :=
  SC_of_run cfgOK (its := [.loop (fun _ => (.exit 0, spec_wdShort_L0X1 k1y0 k1y3 k1y15))])
    (ps := [LoopSC cfg.P 1 (lb P_spec_wdShort 0) (spec_wdShort_L0a a0 ((List.length a0 : Nat) : Int)) (.exit 0) (spec_wdShort_L0X1 k1y0 k1y3 k1y15),
      0 ≤ k1y3,
      k1y3 ≤ (List.length k1y0 : Int),
      sizeOK (List.length ([] : List ByteArray) + List.length (cutL k1y0 (0 : Int) k1y3))]) (by kernel_rfl) ⟨h1, h2, h3, h4, trivial⟩ get_spec_wdShort (by decide)

/-! ### impl_forest_hung -/


theorem impl_forest_hung_p1 (a0 : (List Tr)) (c1 : (List Tr)) (c2 : Tr) (c3 : Tr)
    (h1 : SC cfg.P i_impl_forest_trimmed [.s (.v (.sl .tree) a0)] (.s (.v (.sl .tree) c1)) [])
    (h2 : SC cfg.P i_impl_rightComb [.s (.v (.int .i64) ((List.length c1 : Nat) : Int))] (.s (.v .tree c2)) [])
    (h3 : SC cfg.P i_impl_node_grown [.s (.v .tree c2), .s (.v (.int .i64) (0 : Int)), .fn i_impl_forest_tree [.v (.sl .tree) c1] []] (.s (.v .tree c3)) []) :
    SC cfg.P i_impl_forest_hung [.s (.v (.sl .tree) a0)] (.s (.v .tree c3)) [] :=
  SC_of_run cfgOK (its := [.res (.s (.v (.sl .tree) c1)) [] [] [], .res (.s (.v .tree c2)) [] [] [], .res (.s (.v .tree c3)) [] [] []])
    (ps := [SC cfg.P i_impl_forest_trimmed [.s (.v (.sl .tree) a0)] (.s (.v (.sl .tree) c1)) [],
      SC cfg.P i_impl_rightComb [.s (.v (.int .i64) ((List.length c1 : Nat) : Int))] (.s (.v .tree c2)) [],
      SC cfg.P i_impl_node_grown [.s (.v .tree c2), .s (.v (.int .i64) (0 : Int)), .fn i_impl_forest_tree [.v (.sl .tree) c1] []] (.s (.v .tree c3)) []]) (by kernel_rfl) ⟨h1, h2, h3, trivial⟩ get_impl_forest_hung (by decide)

/-! ### impl_rightComb -/


def impl_rightComb_L0a (x3 : Tr) (x4 : Int) (x5 : Int) : St := mkSt 12 [(3, .s (.v .tree x3)), (4, .s (.v (.int .i64) x4)), (5, .s (.v (.int .i64) x5))] []

def impl_rightComb_L0X1 (y3 : Tr) (y4 : Int) (y5 : Int) (y6 : Bool) : St := mkSt 12 [(3, .s (.v .tree y3)), (4, .s (.v (.int .i64) y4)), (5, .s (.v (.int .i64) y5)), (6, .s (.v .bool y6))] []

theorem impl_rightComb_L0a_i1 (x3 : Tr) (x4 : Int) (x5 : Int)
    (h1 : x5 < x4)
    {e : AEx} {st : St} (next : LoopSC cfg.P 1 (lb P_impl_rightComb 0) (impl_rightComb_L0a (Tr.node Tr.leaf x3) x4 (IntKind.wrap .i64 (x5 + (1 : Int)))) e st) :
    LoopSC cfg.P 1 (lb P_impl_rightComb 0) (impl_rightComb_L0a x3 x4 x5) e st :=
  loop_iter cfgOK (f := i_impl_rightComb) (its := [.bool true])
    (ps := [decide (x5 < x4) = true]) (st1 := impl_rightComb_L0a (Tr.node Tr.leaf x3) x4 (IntKind.wrap .i64 (x5 + (1 : Int)))) (by kernel_rfl) ⟨(decide_eq_true h1), trivial⟩ next

theorem impl_rightComb_L0a_x2 (x3 : Tr) (x4 : Int) (x5 : Int)
    (h1 : ¬ (x5 < x4)) :
    LoopSC cfg.P 1 (lb P_impl_rightComb 0) (impl_rightComb_L0a x3 x4 x5) (.exit 0) (impl_rightComb_L0X1 x3 x4 x5 false) :=
  loop_out cfgOK (f := i_impl_rightComb) (its := [.bool false])
    (ps := [decide (x5 < x4) = false]) (by kernel_rfl) ⟨(decide_eq_false h1), trivial⟩ (fun h => by cases h)

theorem impl_rightComb_p1 (a0 : Int) (k1y3 : Tr) (k1y4 : Int) (k1y5 : Int) (k1y6 : Bool)
    (h1 : LoopSC cfg.P 1 (lb P_impl_rightComb 0) (impl_rightComb_L0a Tr.leaf a0 (0 : Int)) (.exit 0) (impl_rightComb_L0X1 k1y3 k1y4 k1y5 k1y6)) :
    SC cfg.P i_impl_rightComb [.s (.v (.int .i64) a0)] (.s (.v .tree k1y3)) [] :=
  SC_of_run cfgOK (its := [.loop (fun _ => (.exit 0, impl_rightComb_L0X1 k1y3 k1y4 k1y5 k1y6))])
    (ps := [LoopSC cfg.P 1 (lb P_impl_rightComb 0) (impl_rightComb_L0a Tr.leaf a0 (0 : Int)) (.exit 0) (impl_rightComb_L0X1 k1y3 k1y4 k1y5 k1y6)]) (by kernel_rfl) ⟨h1, trivial⟩ get_impl_rightComb (by decide)

/-! ### impl_node_exponents -/


def impl_node_exponents_L0a (x0 : Tr) (xo3 : (List Int)) : St := mkSt 20 [(0, .s (.v .tree x0)), (3, .s (.osl 3 0))] [(3, .row t_int (.int .i64) xo3 0 false)]

def impl_node_exponents_L0X1 (y0 : Tr) (y5 : Bool) (yo3 : (List Int)) : St := mkSt 20 [(0, .s (.v .tree y0)), (3, .s (.osl 3 0)), (5, .s (.v .bool y5))] [(3, .row t_int (.int .i64) yo3 0 false)]

theorem impl_node_exponents_L0a_x1 (xo3 : (List Int))
     :
    LoopSC cfg.P 1 (lb P_impl_node_exponents 0) (impl_node_exponents_L0a Tr.leaf xo3) (.exit 0) (impl_node_exponents_L0X1 Tr.leaf false xo3) :=
  loop_out cfgOK (f := i_impl_node_exponents) (its := [.bool false])
    (ps := [(!Tr.leaf.isLeaf) = false]) (by kernel_rfl) ⟨rfl, trivial⟩ (fun h => by cases h)

theorem impl_node_exponents_L0a_i2 (x0l : Tr) (x0r : Tr) (xo3 : (List Int)) (dc1 : (List Int))
    (h1 : SC cfg.P i_impl_node_climbs [.s (.v .tree x0l), .s (.v (.int .i64) (0 : Int))] (.s (.own t_int (.int .i64) dc1)) [])
    (h2 : sizeOK (List.length xo3 + List.length dc1))
    {e : AEx} {st : St} (next : LoopSC cfg.P 1 (lb P_impl_node_exponents 0) (impl_node_exponents_L0a x0r (xo3 ++ dc1)) e st) :
    LoopSC cfg.P 1 (lb P_impl_node_exponents 0) (impl_node_exponents_L0a (Tr.node x0l x0r) xo3) e st :=
  loop_iter cfgOK (f := i_impl_node_exponents) (its := [.bool true, .res (.s (.own t_int (.int .i64) dc1)) [] [] [15]])
    (ps := [(!(Tr.node x0l x0r).isLeaf) = true,
      SC cfg.P i_impl_node_climbs [.s (.v .tree x0l), .s (.v (.int .i64) (0 : Int))] (.s (.own t_int (.int .i64) dc1)) [],
      sizeOK (List.length xo3 + List.length dc1)]) (st1 := impl_node_exponents_L0a x0r (xo3 ++ dc1)) (by kernel_rfl) ⟨rfl, h1, h2, trivial⟩ next

theorem impl_node_exponents_p1 (a0 : Tr) (k1y0 : Tr) (k1y5 : Bool) (k1yo3 : (List Int))
    (h1 : LoopSC cfg.P 1 (lb P_impl_node_exponents 0) (impl_node_exponents_L0a a0 ([] : List Int)) (.exit 0) (impl_node_exponents_L0X1 k1y0 k1y5 k1yo3))
    (h2 : sizeOK (List.length k1yo3 + List.length ([(0 : Int)] : List Int))) :
    SC cfg.P i_impl_node_exponents [.s (.v .tree a0)] (.s (.own t_int (.int .i64) (k1yo3 ++ ([(0 : Int)] : List Int)))) [] :=
  SC_of_run cfgOK (its := [.loop (fun _ => (.exit 0, impl_node_exponents_L0X1 k1y0 k1y5 k1yo3))])
    (ps := [LoopSC cfg.P 1 (lb P_impl_node_exponents 0) (impl_node_exponents_L0a a0 ([] : List Int)) (.exit 0) (impl_node_exponents_L0X1 k1y0 k1y5 k1yo3),
      sizeOK (List.length k1yo3 + List.length ([(0 : Int)] : List Int))]) (by kernel_rfl) ⟨h1, h2, trivial⟩ get_impl_node_exponents (by decide)

/-! ### impl_isLetter -/


theorem impl_isLetter_p1 (a0 : Int)
    (h1 : a0 ≠ (0 : Int))
    (h2 : a0 ≥ (-21 : Int))
    (h3 : a0 ≤ (21 : Int)) :
    SC cfg.P i_impl_isLetter [.s (.v (.int .i64) a0)] (.s (.v .bool true)) [] :=
  SC_of_run cfgOK (its := [.bool true, .bool true, .bool true])
    (ps := [(a0 != (0 : Int)) = true,
      decide (a0 ≥ (-21 : Int)) = true,
      decide (a0 ≤ (21 : Int)) = true]) (by kernel_rfl) ⟨(bne_iff_ne.mpr h1), (decide_eq_true h2), (decide_eq_true h3), trivial⟩ get_impl_isLetter (by decide)

theorem impl_isLetter_p2 (a0 : Int)
    (h1 : a0 ≠ (0 : Int))
    (h2 : a0 ≥ (-21 : Int))
    (h3 : ¬ (a0 ≤ (21 : Int))) :
    SC cfg.P i_impl_isLetter [.s (.v (.int .i64) a0)] (.s (.v .bool false)) [] :=
  SC_of_run cfgOK (its := [.bool true, .bool true, .bool false])
    (ps := [(a0 != (0 : Int)) = true,
      decide (a0 ≥ (-21 : Int)) = true,
      decide (a0 ≤ (21 : Int)) = false]) (by kernel_rfl) ⟨(bne_iff_ne.mpr h1), (decide_eq_true h2), (decide_eq_false h3), trivial⟩ get_impl_isLetter (by decide)

theorem impl_isLetter_p3 (a0 : Int)
    (h1 : a0 ≠ (0 : Int))
    (h2 : ¬ (a0 ≥ (-21 : Int))) :
    SC cfg.P i_impl_isLetter [.s (.v (.int .i64) a0)] (.s (.v .bool false)) [] :=
  SC_of_run cfgOK (its := [.bool true, .bool false])
    (ps := [(a0 != (0 : Int)) = true,
      decide (a0 ≥ (-21 : Int)) = false]) (by kernel_rfl) ⟨(bne_iff_ne.mpr h1), (decide_eq_false h2), trivial⟩ get_impl_isLetter (by decide)

theorem impl_isLetter_p4 (a0 : Int)
    (h1 : a0 = (0 : Int)) :
    SC cfg.P i_impl_isLetter [.s (.v (.int .i64) a0)] (.s (.v .bool false)) [] :=
  SC_of_run cfgOK (its := [.bool false])
    (ps := [(a0 != (0 : Int)) = false]) (by kernel_rfl) ⟨(bne_eq_false_iff_eq.mpr h1), trivial⟩ get_impl_isLetter (by decide)

/-! ### spec_l1Cur_sureForest -/


def spec_l1Cur_sureForest_L0a (x6 : Int) (x7 : Int) (xo0 : ((List Int) × (Int × Int))) (xo5 : (List ByteArray)) : St := mkSt 32 [(0, .s (.adr 0 none)), (5, .s (.osl 5 0)), (6, .s (.v (.int .i64) x6)), (7, .s (.v (.int .i64) x7))] [(0, .box (.pr (.sl (.int .u8)) (.pr (.int .i64) (.int .u64))) xo0 false), (5, .row t_string .str xo5 0 false)]

def spec_l1Cur_sureForest_L0X1 (y6 : Int) (y7 : Int) (y13 : Bool) (yo0 : ((List Int) × (Int × Int))) (yo5 : (List ByteArray)) : St := mkSt 32 [(0, .s (.adr 0 none)), (5, .s (.osl 5 0)), (6, .s (.v (.int .i64) y6)), (7, .s (.v (.int .i64) y7)), (13, .s (.v .bool y13))] [(0, .box (.pr (.sl (.int .u8)) (.pr (.int .i64) (.int .u64))) yo0 false), (5, .row t_string .str yo5 0 false)]

theorem spec_l1Cur_sureForest_L0a_i1 (x6 : Int) (x7 : Int) (xo0 : ((List Int) × (Int × Int))) (xo5 : (List ByteArray)) (dc1 : Int) (dc2 : Int) (dc2o0 : ((List Int) × (Int × Int))) (dc3 : ByteArray) (dc3o0 : ((List Int) × (Int × Int)))
    (h1 : x7 > (0 : Int))
    (h2 : SC cfg.P i_spec_l1Least [.s (.v (.int .i64) x6), .s (.v (.int .i64) (3 : Int))] (.s (.v (.int .i64) dc1)) [])
    (h3 : SC cfg.P i_spec_l1Cur_pick [.s (.mbx (.pr (.sl (.int .u8)) (.pr (.int .i64) (.int .u64))) xo0), .s (.v (.int .i64) (IntKind.wrap .i64 (dc1 + (1 : Int))))] (.s (.v (.int .i64) dc2)) [.box (.pr (.sl (.int .u8)) (.pr (.int .i64) (.int .u64))) dc2o0])
    (h4 : SC cfg.P i_spec_l1Cur_sureTree [.s (.mbx (.pr (.sl (.int .u8)) (.pr (.int .i64) (.int .u64))) dc2o0), .s (.v (.int .i64) dc2)] (.s (.v .str dc3)) [.box (.pr (.sl (.int .u8)) (.pr (.int .i64) (.int .u64))) dc3o0])
    (h5 : sizeOK (List.length xo5 + List.length ([dc3] : List ByteArray)))
    {e : AEx} {st : St} (next : LoopSC cfg.P 2 (lb P_spec_l1Cur_sureForest 0) (spec_l1Cur_sureForest_L0a (IntKind.wrap .i64 (x6 - dc2)) (IntKind.wrap .i64 (x7 - (1 : Int))) dc3o0 (xo5 ++ ([dc3] : List ByteArray))) e st) :
    LoopSC cfg.P 2 (lb P_spec_l1Cur_sureForest 0) (spec_l1Cur_sureForest_L0a x6 x7 xo0 xo5) e st :=
  loop_iter cfgOK (f := i_spec_l1Cur_sureForest) (its := [.bool true, .res (.s (.v (.int .i64) dc1)) [] [] [], .res (.s (.v (.int .i64) dc2)) [.box (.pr (.sl (.int .u8)) (.pr (.int .i64) (.int .u64))) dc2o0] [] [], .res (.s (.v .str dc3)) [.box (.pr (.sl (.int .u8)) (.pr (.int .i64) (.int .u64))) dc3o0] [] []])
    (ps := [decide (x7 > (0 : Int)) = true,
      SC cfg.P i_spec_l1Least [.s (.v (.int .i64) x6), .s (.v (.int .i64) (3 : Int))] (.s (.v (.int .i64) dc1)) [],
      SC cfg.P i_spec_l1Cur_pick [.s (.mbx (.pr (.sl (.int .u8)) (.pr (.int .i64) (.int .u64))) xo0), .s (.v (.int .i64) (IntKind.wrap .i64 (dc1 + (1 : Int))))] (.s (.v (.int .i64) dc2)) [.box (.pr (.sl (.int .u8)) (.pr (.int .i64) (.int .u64))) dc2o0],
      SC cfg.P i_spec_l1Cur_sureTree [.s (.mbx (.pr (.sl (.int .u8)) (.pr (.int .i64) (.int .u64))) dc2o0), .s (.v (.int .i64) dc2)] (.s (.v .str dc3)) [.box (.pr (.sl (.int .u8)) (.pr (.int .i64) (.int .u64))) dc3o0],
      sizeOK (List.length xo5 + List.length ([dc3] : List ByteArray))]) (st1 := spec_l1Cur_sureForest_L0a (IntKind.wrap .i64 (x6 - dc2)) (IntKind.wrap .i64 (x7 - (1 : Int))) dc3o0 (xo5 ++ ([dc3] : List ByteArray))) (by kernel_rfl) ⟨(decide_eq_true h1), h2, h3, h4, h5, trivial⟩ next

theorem spec_l1Cur_sureForest_L0a_x2 (x6 : Int) (x7 : Int) (xo0 : ((List Int) × (Int × Int))) (xo5 : (List ByteArray))
    (h1 : ¬ (x7 > (0 : Int))) :
    LoopSC cfg.P 2 (lb P_spec_l1Cur_sureForest 0) (spec_l1Cur_sureForest_L0a x6 x7 xo0 xo5) (.exit 0) (spec_l1Cur_sureForest_L0X1 x6 x7 false xo0 xo5) :=
  loop_out cfgOK (f := i_spec_l1Cur_sureForest) (its := [.bool false])
    (ps := [decide (x7 > (0 : Int)) = false]) (by kernel_rfl) ⟨(decide_eq_false h1), trivial⟩ (fun h => by cases h)

theorem spec_l1Cur_sureForest_p1 (a0 : ((List Int) × (Int × Int))) (a1 : Int) (c1 : Int) (c1o0 : ((List Int) × (Int × Int))) (k1y6 : Int) (k1y7 : Int) (k1y13 : Bool) (k1yo0 : ((List Int) × (Int × Int))) (k1yo5 : (List ByteArray)) (c2 : (List ByteArray))
    (h1 : SC cfg.P i_spec_l1Cur_pick [.s (.mbx (.pr (.sl (.int .u8)) (.pr (.int .i64) (.int .u64))) a0), .s (.v (.int .i64) (5 : Int))] (.s (.v (.int .i64) c1)) [.box (.pr (.sl (.int .u8)) (.pr (.int .i64) (.int .u64))) c1o0])
    (h2 : LoopSC cfg.P 2 (lb P_spec_l1Cur_sureForest 0) (spec_l1Cur_sureForest_L0a a1 c1 c1o0 ([] : List ByteArray)) (.exit 0) (spec_l1Cur_sureForest_L0X1 k1y6 k1y7 k1y13 k1yo0 k1yo5))
    (h3 : SC cfg.P i_spec_wdShort [.s (.v (.sl .str) k1yo5)] (.s (.own t_string .str c2)) []) :
    SC cfg.P i_spec_l1Cur_sureForest [.s (.mbx (.pr (.sl (.int .u8)) (.pr (.int .i64) (.int .u64))) a0), .s (.v (.int .i64) a1)] (.s (.own t_string .str c2)) [.box (.pr (.sl (.int .u8)) (.pr (.int .i64) (.int .u64))) k1yo0] :=
  SC_of_run cfgOK (its := [.res (.s (.v (.int .i64) c1)) [.box (.pr (.sl (.int .u8)) (.pr (.int .i64) (.int .u64))) c1o0] [] [], .loop (fun _ => (.exit 0, spec_l1Cur_sureForest_L0X1 k1y6 k1y7 k1y13 k1yo0 k1yo5)), .res (.s (.own t_string .str c2)) [] [] [31]])
    (ps := [SC cfg.P i_spec_l1Cur_pick [.s (.mbx (.pr (.sl (.int .u8)) (.pr (.int .i64) (.int .u64))) a0), .s (.v (.int .i64) (5 : Int))] (.s (.v (.int .i64) c1)) [.box (.pr (.sl (.int .u8)) (.pr (.int .i64) (.int .u64))) c1o0],
      LoopSC cfg.P 2 (lb P_spec_l1Cur_sureForest 0) (spec_l1Cur_sureForest_L0a a1 c1 c1o0 ([] : List ByteArray)) (.exit 0) (spec_l1Cur_sureForest_L0X1 k1y6 k1y7 k1y13 k1yo0 k1yo5),
      SC cfg.P i_spec_wdShort [.s (.v (.sl .str) k1yo5)] (.s (.own t_string .str c2)) []]) (by kernel_rfl) ⟨h1, h2, h3, trivial⟩ get_spec_l1Cur_sureForest (by decide)

/-! ### spec_wdComb -/


def spec_wdComb_L0a (x0 : (List ByteArray)) (x3 : ByteArray) (x4 : Int) : St := mkSt 19 [(0, .s (.v (.sl .str) x0)), (3, .s (.v .str x3)), (4, .s (.v (.int .i64) x4))] []

def spec_wdComb_L0X1 (y0 : (List ByteArray)) (y3 : ByteArray) (y4 : Int) (y9 : Bool) : St := mkSt 19 [(0, .s (.v (.sl .str) y0)), (3, .s (.v .str y3)), (4, .s (.v (.int .i64) y4)), (9, .s (.v .bool y9))] []

theorem spec_wdComb_L0a_i1 (x0 : (List ByteArray)) (x3 : ByteArray) (x4 : Int) (dc1 : ByteArray)
    (h1 : x4 ≥ (0 : Int))
    (h2 : 0 ≤ x4)
    (h3 : x4 < (List.length x0 : Int))
    (h4 : SC cfg.P i_spec_trOf [.s (.v .str (List.getD x0 (x4).toNat (⟨#[]⟩ : ByteArray))), .s (.v .str x3)] (.s (.v .str dc1)) [])
    {e : AEx} {st : St} (next : LoopSC cfg.P 1 (lb P_spec_wdComb 0) (spec_wdComb_L0a x0 dc1 (IntKind.wrap .i64 (x4 - (1 : Int)))) e st) :
    LoopSC cfg.P 1 (lb P_spec_wdComb 0) (spec_wdComb_L0a x0 x3 x4) e st :=
  loop_iter cfgOK (f := i_spec_wdComb) (its := [.bool true, .res (.s (.v .str dc1)) [] [] []])
    (ps := [decide (x4 ≥ (0 : Int)) = true,
      0 ≤ x4,
      x4 < (List.length x0 : Int),
      SC cfg.P i_spec_trOf [.s (.v .str (List.getD x0 (x4).toNat (⟨#[]⟩ : ByteArray))), .s (.v .str x3)] (.s (.v .str dc1)) []]) (st1 := spec_wdComb_L0a x0 dc1 (IntKind.wrap .i64 (x4 - (1 : Int)))) (by kernel_rfl) ⟨(decide_eq_true h1), h2, h3, h4, trivial⟩ next

theorem spec_wdComb_L0a_x2 (x0 : (List ByteArray)) (x3 : ByteArray) (x4 : Int)
    (h1 : ¬ (x4 ≥ (0 : Int))) :
    LoopSC cfg.P 1 (lb P_spec_wdComb 0) (spec_wdComb_L0a x0 x3 x4) (.exit 0) (spec_wdComb_L0X1 x0 x3 x4 false) :=
  loop_out cfgOK (f := i_spec_wdComb) (its := [.bool false])
    (ps := [decide (x4 ≥ (0 : Int)) = false]) (by kernel_rfl) ⟨(decide_eq_false h1), trivial⟩ (fun h => by cases h)

theorem spec_wdComb_p1 (a0 : (List ByteArray)) (k1y0 : (List ByteArray)) (k1y3 : ByteArray) (k1y4 : Int) (k1y9 : Bool)
    (h1 : LoopSC cfg.P 1 (lb P_spec_wdComb 0) (spec_wdComb_L0a a0 (⟨#[46]⟩ : ByteArray) (IntKind.wrap .i64 (((List.length a0 : Nat) : Int) - (1 : Int)))) (.exit 0) (spec_wdComb_L0X1 k1y0 k1y3 k1y4 k1y9)) :
    SC cfg.P i_spec_wdComb [.s (.v (.sl .str) a0)] (.s (.v .str k1y3)) [] :=
  SC_of_run cfgOK (its := [.loop (fun _ => (.exit 0, spec_wdComb_L0X1 k1y0 k1y3 k1y4 k1y9))])
    (ps := [LoopSC cfg.P 1 (lb P_spec_wdComb 0) (spec_wdComb_L0a a0 (⟨#[46]⟩ : ByteArray) (IntKind.wrap .i64 (((List.length a0 : Nat) : Int) - (1 : Int)))) (.exit 0) (spec_wdComb_L0X1 k1y0 k1y3 k1y4 k1y9)]) (by kernel_rfl) ⟨h1, trivial⟩ get_spec_wdComb (by decide)

/-! ### impl_forest_tree -/


theorem impl_forest_tree_p1 (a0 : (List Tr)) (a1 : Int)
    (h1 : a1 < ((List.length a0 : Nat) : Int))
    (h2 : 0 ≤ a1)
    (h3 : a1 < (List.length a0 : Int)) :
    SC cfg.P i_impl_forest_tree [.s (.v (.sl .tree) a0), .s (.v (.int .i64) a1)] (.s (.v .tree (List.getD a0 (a1).toNat Tr.leaf))) [] :=
  SC_of_run cfgOK (its := [.bool true])
    (ps := [decide (a1 < ((List.length a0 : Nat) : Int)) = true,
      0 ≤ a1,
      a1 < (List.length a0 : Int)]) (by kernel_rfl) ⟨(decide_eq_true h1), h2, h3, trivial⟩ get_impl_forest_tree (by decide)

theorem impl_forest_tree_p2 (a0 : (List Tr)) (a1 : Int)
    (h1 : ¬ (a1 < ((List.length a0 : Nat) : Int))) :
    SC cfg.P i_impl_forest_tree [.s (.v (.sl .tree) a0), .s (.v (.int .i64) a1)] (.s (.v .tree Tr.leaf)) [] :=
  SC_of_run cfgOK (its := [.bool false])
    (ps := [decide (a1 < ((List.length a0 : Nat) : Int)) = false]) (by kernel_rfl) ⟨(decide_eq_false h1), trivial⟩ get_impl_forest_tree (by decide)

/-! ### spec_l1Least -/


theorem spec_l1Least_p1 (a0 : Int) (a1 : Int)
    (h1 : a0 < a1) :
    SC cfg.P i_spec_l1Least [.s (.v (.int .i64) a0), .s (.v (.int .i64) a1)] (.s (.v (.int .i64) a0)) [] :=
  SC_of_run cfgOK (its := [.bool true])
    (ps := [decide (a0 < a1) = true]) (by kernel_rfl) ⟨(decide_eq_true h1), trivial⟩ get_spec_l1Least (by decide)

theorem spec_l1Least_p2 (a0 : Int) (a1 : Int)
    (h1 : ¬ (a0 < a1)) :
    SC cfg.P i_spec_l1Least [.s (.v (.int .i64) a0), .s (.v (.int .i64) a1)] (.s (.v (.int .i64) a1)) [] :=
  SC_of_run cfgOK (its := [.bool false])
    (ps := [decide (a0 < a1) = false]) (by kernel_rfl) ⟨(decide_eq_false h1), trivial⟩ get_spec_l1Least (by decide)

end Go.AI
