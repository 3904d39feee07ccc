/- A part of the road: what it proves stands in its last texts. -/
import Derived.Test.YtdfllkeekehplaaSIds
import Derived.Test.YtdfllkeekehplaaAiI
import Derived.Test.YtdfllkeekehplaaProg
set_option autoImplicit false
set_option maxRecDepth 100000
set_option linter.unusedVariables false
namespace Go.AI
open Go.Proofs

/-! ### laws_FnTreesJoined -/


def laws_FnTreesJoined_C0a (x0 : (List Int)) (x1 : (List Int)) : St := mkSt 348 [(0, .s (.v (.sl (.int .u8)) x0)), (1, .s (.v (.sl (.int .u8)) x1))] []

def laws_FnTreesJoined_R1 (y4 : Bool) : St := mkSt 348 [(4, .s (.v .bool y4))] []

def laws_FnTreesJoined_C3a (x0 : (List Int)) (x1 : (List Int)) (x60 : Bool) : St := mkSt 348 [(0, .s (.v (.sl (.int .u8)) x0)), (1, .s (.v (.sl (.int .u8)) x1)), (60, .s (.v .bool x60))] []

def laws_FnTreesJoined_C10a (x0 : (List Int)) (x1 : (List Int)) (x5 : ByteArray) (x6 : ByteArray) (x7 : ByteArray) (x8 : Bool) (x11 : ByteArray) (x12 : Bool) (x114 : Bool) : St := mkSt 348 [(0, .s (.v (.sl (.int .u8)) x0)), (1, .s (.v (.sl (.int .u8)) x1)), (5, .s (.v .str x5)), (6, .s (.v .str x6)), (7, .s (.v .str x7)), (8, .s (.v .bool x8)), (11, .s (.v .str x11)), (12, .s (.v .bool x12)), (114, .s (.v .bool x114))] []

def laws_FnTreesJoined_C12a (x0 : (List Int)) (x1 : (List Int)) (x5 : ByteArray) (x6 : ByteArray) (x7 : ByteArray) (x8 : Bool) (x11 : ByteArray) (x141 : Bool) : St := mkSt 348 [(0, .s (.v (.sl (.int .u8)) x0)), (1, .s (.v (.sl (.int .u8)) x1)), (5, .s (.v .str x5)), (6, .s (.v .str x6)), (7, .s (.v .str x7)), (8, .s (.v .bool x8)), (11, .s (.v .str x11)), (141, .s (.v .bool x141))] []

def laws_FnTreesJoined_C12b (x0 : (List Int)) (x1 : (List Int)) (x5 : ByteArray) (x6 : ByteArray) (x7 : ByteArray) (x8 : Bool) (x11 : ByteArray) (x115 : Bool) : St := mkSt 348 [(0, .s (.v (.sl (.int .u8)) x0)), (1, .s (.v (.sl (.int .u8)) x1)), (5, .s (.v .str x5)), (6, .s (.v .str x6)), (7, .s (.v .str x7)), (8, .s (.v .bool x8)), (11, .s (.v .str x11)), (115, .s (.v .bool x115))] []

def laws_FnTreesJoined_C14a (x0 : (List Int)) (x1 : (List Int)) (x228 : Bool) : St := mkSt 348 [(0, .s (.v (.sl (.int .u8)) x0)), (1, .s (.v (.sl (.int .u8)) x1)), (228, .s (.v .bool x228))] []

def laws_FnTreesJoined_C14b (x0 : (List Int)) (x1 : (List Int)) (x5 : ByteArray) (x6 : ByteArray) (x7 : ByteArray) (x11 : ByteArray) (x142 : Bool) : St := mkSt 348 [(0, .s (.v (.sl (.int .u8)) x0)), (1, .s (.v (.sl (.int .u8)) x1)), (5, .s (.v .str x5)), (6, .s (.v .str x6)), (7, .s (.v .str x7)), (11, .s (.v .str x11)), (142, .s (.v .bool x142))] []

def laws_FnTreesJoined_C19a (x0 : (List Int)) (x1 : (List Int)) (x33 : ByteArray) (x34 : ByteArray) (x35 : Bool) (x36 : Bool) (x253 : Bool) : St := mkSt 348 [(0, .s (.v (.sl (.int .u8)) x0)), (1, .s (.v (.sl (.int .u8)) x1)), (33, .s (.v .str x33)), (34, .s (.v .str x34)), (35, .s (.v .bool x35)), (36, .s (.v .bool x36)), (253, .s (.v .bool x253))] []

def laws_FnTreesJoined_C21a (x0 : (List Int)) (x1 : (List Int)) (x268 : Bool) : St := mkSt 348 [(0, .s (.v (.sl (.int .u8)) x0)), (1, .s (.v (.sl (.int .u8)) x1)), (268, .s (.v .bool x268))] []

def laws_FnTreesJoined_C21b (x0 : (List Int)) (x1 : (List Int)) (x33 : ByteArray) (x34 : ByteArray) (x35 : Bool) (x254 : Bool) : St := mkSt 348 [(0, .s (.v (.sl (.int .u8)) x0)), (1, .s (.v (.sl (.int .u8)) x1)), (33, .s (.v .str x33)), (34, .s (.v .str x34)), (35, .s (.v .bool x35)), (254, .s (.v .bool x254))] []

def laws_FnTreesJoined_C29a (x47 : ByteArray) (x48 : Int) (x49 : ByteArray) (x50 : ByteArray) (x51 : Bool) (x323 : Bool) : St := mkSt 348 [(47, .s (.v .str x47)), (48, .s (.v (.int .i64) x48)), (49, .s (.v .str x49)), (50, .s (.v .str x50)), (51, .s (.v .bool x51)), (323, .s (.v .bool x323))] []

def laws_FnTreesJoined_C31a (x47 : ByteArray) (x48 : Int) (x49 : ByteArray) (x50 : ByteArray) (x324 : Bool) : St := mkSt 348 [(47, .s (.v .str x47)), (48, .s (.v (.int .i64) x48)), (49, .s (.v .str x49)), (50, .s (.v .str x50)), (324, .s (.v .bool x324))] []

theorem laws_FnTreesJoined_C0a_x1 (x0 : (List Int)) (x1 : (List Int))
    (h1 : SC cfg.P i_laws_big [.s (.v (.sl (.int .u8)) x0), .s (.v (.sl (.int .u8)) x1)] (.s (.v .bool true)) []) :
    RestSC cfg.P 2 (rest P_laws_FnTreesJoined 0) (laws_FnTreesJoined_C0a x0 x1) .ret (laws_FnTreesJoined_R1 true) :=
  rest_ret cfgOK (f := i_laws_FnTreesJoined) (k := 0) (m := 3) (its := [.res (.s (.v .bool true)) [] [] []])
    (ps := [SC cfg.P i_laws_big [.s (.v (.sl (.int .u8)) x0), .s (.v (.sl (.int .u8)) x1)] (.s (.v .bool true)) []]) (by kernel_rfl) ⟨h1, trivial⟩

theorem laws_FnTreesJoined_C0a_i2 (x0 : (List Int)) (x1 : (List Int))
    (h1 : SC cfg.P i_laws_big [.s (.v (.sl (.int .u8)) x0), .s (.v (.sl (.int .u8)) x1)] (.s (.v .bool false)) [])
    {e : AEx} {st : St} (next : RestSC cfg.P 2 (rest P_laws_FnTreesJoined 3) (laws_FnTreesJoined_C3a x0 x1 false) e st) :
    RestSC cfg.P 2 (rest P_laws_FnTreesJoined 0) (laws_FnTreesJoined_C0a x0 x1) e st :=
  rest_next cfgOK (f := i_laws_FnTreesJoined) (k := 0) (m := 3) (its := [.res (.s (.v .bool false)) [] [] []])
    (ps := [SC cfg.P i_laws_big [.s (.v (.sl (.int .u8)) x0), .s (.v (.sl (.int .u8)) x1)] (.s (.v .bool false)) []]) (st1 := laws_FnTreesJoined_C3a x0 x1 false) (by kernel_rfl) ⟨h1, trivial⟩ next

theorem laws_FnTreesJoined_C3a_i1 (x0 : (List Int)) (x1 : (List Int)) (x60 : Bool) (dc1a : ByteArray) (dc1b : ByteArray) (dc2a : ByteArray) (dc3a : ByteArray) (dc3b : Bool) (dc4a : ByteArray) (dc5a : ByteArray) (dc5b : Bool)
    (h1 : SC cfg.P i_spec_DrawJoinTrees [.s (.v (.sl (.int .u8)) x0)] (.tup [.v .str dc1a, .v .str dc1b]) [])
    (h2 : SC cfg.P i_impl_JoinTrees [.s (.v .str dc1a), .s (.v .str dc1b)] (.tup [.v .str dc2a, .v .bool true]) [])
    (h3 : SC cfg.P i_spec_JoinTrees [.s (.v .str dc1a), .s (.v .str dc1b)] (.tup [.v .str dc3a, .v .bool dc3b]) [])
    (h4 : SC cfg.P i_impl_CommonTree [.s (.v .str dc1a), .s (.v .str dc1b)] (.tup [.v .str dc4a, .v .bool true]) [])
    (h5 : SC cfg.P i_spec_CommonTree [.s (.v .str dc1a), .s (.v .str dc1b)] (.tup [.v .str dc5a, .v .bool dc5b]) [])
    (h6 : (!(true == dc3b)) = false)
    (h7 : dc2a = dc3a)
    (h8 : (!(true == dc5b)) = false)
    (h9 : dc4a = dc5a)
    {e : AEx} {st : St} (next : RestSC cfg.P 2 (rest P_laws_FnTreesJoined 10) (laws_FnTreesJoined_C10a x0 x1 dc1a dc1b dc2a true dc4a true false) e st) :
    RestSC cfg.P 2 (rest P_laws_FnTreesJoined 3) (laws_FnTreesJoined_C3a x0 x1 x60) e st :=
  rest_next cfgOK (f := i_laws_FnTreesJoined) (k := 3) (m := 7) (its := [.res (.tup [.v .str dc1a, .v .str dc1b]) [] [] [], .res (.tup [.v .str dc2a, .v .bool true]) [] [] [], .res (.tup [.v .str dc3a, .v .bool dc3b]) [] [] [], .res (.tup [.v .str dc4a, .v .bool true]) [] [] [], .res (.tup [.v .str dc5a, .v .bool dc5b]) [] [] [], .bool false, .bool false, .bool false, .bool false])
    (ps := [SC cfg.P i_spec_DrawJoinTrees [.s (.v (.sl (.int .u8)) x0)] (.tup [.v .str dc1a, .v .str dc1b]) [],
      SC cfg.P i_impl_JoinTrees [.s (.v .str dc1a), .s (.v .str dc1b)] (.tup [.v .str dc2a, .v .bool true]) [],
      SC cfg.P i_spec_JoinTrees [.s (.v .str dc1a), .s (.v .str dc1b)] (.tup [.v .str dc3a, .v .bool dc3b]) [],
      SC cfg.P i_impl_CommonTree [.s (.v .str dc1a), .s (.v .str dc1b)] (.tup [.v .str dc4a, .v .bool true]) [],
      SC cfg.P i_spec_CommonTree [.s (.v .str dc1a), .s (.v .str dc1b)] (.tup [.v .str dc5a, .v .bool dc5b]) [],
      (!(true == dc3b)) = false,
      (!((dc2a).toList == (dc3a).toList)) = false,
      (!(true == dc5b)) = false,
      (!((dc4a).toList == (dc5a).toList)) = false]) (st1 := laws_FnTreesJoined_C10a x0 x1 dc1a dc1b dc2a true dc4a true false) (by kernel_rfl) ⟨h1, h2, h3, h4, h5, h6, (nseq_f h7), h8, (nseq_f h9), trivial⟩ next

theorem laws_FnTreesJoined_C3a_i2 (x0 : (List Int)) (x1 : (List Int)) (x60 : Bool) (dc1a : ByteArray) (dc1b : ByteArray) (dc2a : ByteArray) (dc3a : ByteArray) (dc3b : Bool) (dc4a : ByteArray) (dc4b : Bool) (dc5a : ByteArray) (dc5b : Bool)
    (h1 : SC cfg.P i_spec_DrawJoinTrees [.s (.v (.sl (.int .u8)) x0)] (.tup [.v .str dc1a, .v .str dc1b]) [])
    (h2 : SC cfg.P i_impl_JoinTrees [.s (.v .str dc1a), .s (.v .str dc1b)] (.tup [.v .str dc2a, .v .bool false]) [])
    (h3 : SC cfg.P i_spec_JoinTrees [.s (.v .str dc1a), .s (.v .str dc1b)] (.tup [.v .str dc3a, .v .bool dc3b]) [])
    (h4 : SC cfg.P i_impl_CommonTree [.s (.v .str dc1a), .s (.v .str dc1b)] (.tup [.v .str dc4a, .v .bool dc4b]) [])
    (h5 : SC cfg.P i_spec_CommonTree [.s (.v .str dc1a), .s (.v .str dc1b)] (.tup [.v .str dc5a, .v .bool dc5b]) [])
    (h6 : (!(false == dc3b)) = false)
    (h7 : dc2a = dc3a)
    (h8 : (!(dc4b == dc5b)) = false)
    (h9 : dc4a = dc5a)
    {e : AEx} {st : St} (next : RestSC cfg.P 2 (rest P_laws_FnTreesJoined 10) (laws_FnTreesJoined_C10a x0 x1 dc1a dc1b dc2a false dc4a dc4b false) e st) :
    RestSC cfg.P 2 (rest P_laws_FnTreesJoined 3) (laws_FnTreesJoined_C3a x0 x1 x60) e st :=
  rest_next cfgOK (f := i_laws_FnTreesJoined) (k := 3) (m := 7) (its := [.res (.tup [.v .str dc1a, .v .str dc1b]) [] [] [], .res (.tup [.v .str dc2a, .v .bool false]) [] [] [], .res (.tup [.v .str dc3a, .v .bool dc3b]) [] [] [], .res (.tup [.v .str dc4a, .v .bool dc4b]) [] [] [], .res (.tup [.v .str dc5a, .v .bool dc5b]) [] [] [], .bool false, .bool false, .bool false, .bool false])
    (ps := [SC cfg.P i_spec_DrawJoinTrees [.s (.v (.sl (.int .u8)) x0)] (.tup [.v .str dc1a, .v .str dc1b]) [],
      SC cfg.P i_impl_JoinTrees [.s (.v .str dc1a), .s (.v .str dc1b)] (.tup [.v .str dc2a, .v .bool false]) [],
      SC cfg.P i_spec_JoinTrees [.s (.v .str dc1a), .s (.v .str dc1b)] (.tup [.v .str dc3a, .v .bool dc3b]) [],
      SC cfg.P i_impl_CommonTree [.s (.v .str dc1a), .s (.v .str dc1b)] (.tup [.v .str dc4a, .v .bool dc4b]) [],
      SC cfg.P i_spec_CommonTree [.s (.v .str dc1a), .s (.v .str dc1b)] (.tup [.v .str dc5a, .v .bool dc5b]) [],
      (!(false == dc3b)) = false,
      (!((dc2a).toList == (dc3a).toList)) = false,
      (!(dc4b == dc5b)) = false,
      (!((dc4a).toList == (dc5a).toList)) = false]) (st1 := laws_FnTreesJoined_C10a x0 x1 dc1a dc1b dc2a false dc4a dc4b false) (by kernel_rfl) ⟨h1, h2, h3, h4, h5, h6, (nseq_f h7), h8, (nseq_f h9), trivial⟩ next

theorem laws_FnTreesJoined_C10a_i1 (x0 : (List Int)) (x1 : (List Int)) (x5 : ByteArray) (x6 : ByteArray) (x7 : ByteArray) (x8 : Bool) (x11 : ByteArray) (x114 : Bool)
    (h1 : SC cfg.P i_impl_IsPartOf [.s (.v .str x11), .s (.v .str x5)] (.tup [.v .bool true, .v .bool true]) [])
    (h2 : SC cfg.P i_impl_IsPartOf [.s (.v .str x11), .s (.v .str x6)] (.tup [.v .bool true, .v .bool true]) [])
    {e : AEx} {st : St} (next : RestSC cfg.P 2 (rest P_laws_FnTreesJoined 12) (laws_FnTreesJoined_C12a x0 x1 x5 x6 x7 x8 x11 false) e st) :
    RestSC cfg.P 2 (rest P_laws_FnTreesJoined 10) (laws_FnTreesJoined_C10a x0 x1 x5 x6 x7 x8 x11 true x114) e st :=
  rest_next cfgOK (f := i_laws_FnTreesJoined) (k := 10) (m := 2) (its := [.res (.tup [.v .bool true, .v .bool true]) [] [] [], .res (.tup [.v .bool true, .v .bool true]) [] [] []])
    (ps := [SC cfg.P i_impl_IsPartOf [.s (.v .str x11), .s (.v .str x5)] (.tup [.v .bool true, .v .bool true]) [],
      SC cfg.P i_impl_IsPartOf [.s (.v .str x11), .s (.v .str x6)] (.tup [.v .bool true, .v .bool true]) []]) (st1 := laws_FnTreesJoined_C12a x0 x1 x5 x6 x7 x8 x11 false) (by kernel_rfl) ⟨h1, h2, trivial⟩ next

theorem laws_FnTreesJoined_C10a_i2 (x0 : (List Int)) (x1 : (List Int)) (x5 : ByteArray) (x6 : ByteArray) (x7 : ByteArray) (x8 : Bool) (x11 : ByteArray) (x114 : Bool)
    {e : AEx} {st : St} (next : RestSC cfg.P 2 (rest P_laws_FnTreesJoined 12) (laws_FnTreesJoined_C12b x0 x1 x5 x6 x7 x8 x11 false) e st) :
    RestSC cfg.P 2 (rest P_laws_FnTreesJoined 10) (laws_FnTreesJoined_C10a x0 x1 x5 x6 x7 x8 x11 false x114) e st :=
  rest_next cfgOK (f := i_laws_FnTreesJoined) (k := 10) (m := 2) (its := [])
    (ps := []) (st1 := laws_FnTreesJoined_C12b x0 x1 x5 x6 x7 x8 x11 false) (by kernel_rfl) trivial next

theorem laws_FnTreesJoined_C12a_i1 (x0 : (List Int)) (x1 : (List Int)) (x5 : ByteArray) (x6 : ByteArray) (x7 : ByteArray) (x11 : ByteArray) (x141 : Bool) (dc3a : ByteArray) (dc4a : Int) (dc5a : Int) (dc6a : Int) (dc7a : Int)
    (h1 : SC cfg.P i_impl_IsPartOf [.s (.v .str x5), .s (.v .str x7)] (.tup [.v .bool true, .v .bool true]) [])
    (h2 : SC cfg.P i_impl_IsPartOf [.s (.v .str x6), .s (.v .str x7)] (.tup [.v .bool true, .v .bool true]) [])
    (h3 : SC cfg.P i_impl_JoinTrees [.s (.v .str x6), .s (.v .str x5)] (.tup [.v .str dc3a, .v .bool true]) [])
    (h4 : SC cfg.P i_impl_CaretsOf [.s (.v .str x5)] (.tup [.v (.int .i64) dc4a, .v .bool true]) [])
    (h5 : SC cfg.P i_impl_CaretsOf [.s (.v .str x6)] (.tup [.v (.int .i64) dc5a, .v .bool true]) [])
    (h6 : SC cfg.P i_impl_CaretsOf [.s (.v .str x7)] (.tup [.v (.int .i64) dc6a, .v .bool true]) [])
    (h7 : SC cfg.P i_impl_CaretsOf [.s (.v .str x11)] (.tup [.v (.int .i64) dc7a, .v .bool true]) [])
    (h8 : dc3a = x7)
    (h9 : (IntKind.wrap .i64 (dc4a + dc5a)) = (IntKind.wrap .i64 (dc6a + dc7a)))
    {e : AEx} {st : St} (next : RestSC cfg.P 2 (rest P_laws_FnTreesJoined 14) (laws_FnTreesJoined_C14a x0 x1 false) e st) :
    RestSC cfg.P 2 (rest P_laws_FnTreesJoined 12) (laws_FnTreesJoined_C12a x0 x1 x5 x6 x7 true x11 x141) e st :=
  rest_next cfgOK (f := i_laws_FnTreesJoined) (k := 12) (m := 2) (its := [.res (.tup [.v .bool true, .v .bool true]) [] [] [], .res (.tup [.v .bool true, .v .bool true]) [] [] [], .res (.tup [.v .str dc3a, .v .bool true]) [] [] [], .res (.tup [.v (.int .i64) dc4a, .v .bool true]) [] [] [], .res (.tup [.v (.int .i64) dc5a, .v .bool true]) [] [] [], .res (.tup [.v (.int .i64) dc6a, .v .bool true]) [] [] [], .res (.tup [.v (.int .i64) dc7a, .v .bool true]) [] [] [], .bool false, .bool false])
    (ps := [SC cfg.P i_impl_IsPartOf [.s (.v .str x5), .s (.v .str x7)] (.tup [.v .bool true, .v .bool true]) [],
      SC cfg.P i_impl_IsPartOf [.s (.v .str x6), .s (.v .str x7)] (.tup [.v .bool true, .v .bool true]) [],
      SC cfg.P i_impl_JoinTrees [.s (.v .str x6), .s (.v .str x5)] (.tup [.v .str dc3a, .v .bool true]) [],
      SC cfg.P i_impl_CaretsOf [.s (.v .str x5)] (.tup [.v (.int .i64) dc4a, .v .bool true]) [],
      SC cfg.P i_impl_CaretsOf [.s (.v .str x6)] (.tup [.v (.int .i64) dc5a, .v .bool true]) [],
      SC cfg.P i_impl_CaretsOf [.s (.v .str x7)] (.tup [.v (.int .i64) dc6a, .v .bool true]) [],
      SC cfg.P i_impl_CaretsOf [.s (.v .str x11)] (.tup [.v (.int .i64) dc7a, .v .bool true]) [],
      (!((dc3a).toList == (x7).toList)) = false,
      ((IntKind.wrap .i64 (dc4a + dc5a)) != (IntKind.wrap .i64 (dc6a + dc7a))) = false]) (st1 := laws_FnTreesJoined_C14a x0 x1 false) (by kernel_rfl) ⟨h1, h2, h3, h4, h5, h6, h7, (nseq_f h8), (bne_eq_false_iff_eq.mpr h9), trivial⟩ next

theorem laws_FnTreesJoined_C12a_i2 (x0 : (List Int)) (x1 : (List Int)) (x5 : ByteArray) (x6 : ByteArray) (x7 : ByteArray) (x11 : ByteArray) (x141 : Bool)
    {e : AEx} {st : St} (next : RestSC cfg.P 2 (rest P_laws_FnTreesJoined 14) (laws_FnTreesJoined_C14b x0 x1 x5 x6 x7 x11 false) e st) :
    RestSC cfg.P 2 (rest P_laws_FnTreesJoined 12) (laws_FnTreesJoined_C12a x0 x1 x5 x6 x7 false x11 x141) e st :=
  rest_next cfgOK (f := i_laws_FnTreesJoined) (k := 12) (m := 2) (its := [])
    (ps := []) (st1 := laws_FnTreesJoined_C14b x0 x1 x5 x6 x7 x11 false) (by kernel_rfl) trivial next

theorem laws_FnTreesJoined_C12b_i1 (x0 : (List Int)) (x1 : (List Int)) (x5 : ByteArray) (x6 : ByteArray) (x7 : ByteArray) (x11 : ByteArray) (x115 : Bool) (dc3a : ByteArray) (dc4a : Int) (dc5a : Int) (dc6a : Int) (dc7a : Int)
    (h1 : SC cfg.P i_impl_IsPartOf [.s (.v .str x5), .s (.v .str x7)] (.tup [.v .bool true, .v .bool true]) [])
    (h2 : SC cfg.P i_impl_IsPartOf [.s (.v .str x6), .s (.v .str x7)] (.tup [.v .bool true, .v .bool true]) [])
    (h3 : SC cfg.P i_impl_JoinTrees [.s (.v .str x6), .s (.v .str x5)] (.tup [.v .str dc3a, .v .bool true]) [])
    (h4 : SC cfg.P i_impl_CaretsOf [.s (.v .str x5)] (.tup [.v (.int .i64) dc4a, .v .bool true]) [])
    (h5 : SC cfg.P i_impl_CaretsOf [.s (.v .str x6)] (.tup [.v (.int .i64) dc5a, .v .bool true]) [])
    (h6 : SC cfg.P i_impl_CaretsOf [.s (.v .str x7)] (.tup [.v (.int .i64) dc6a, .v .bool true]) [])
    (h7 : SC cfg.P i_impl_CaretsOf [.s (.v .str x11)] (.tup [.v (.int .i64) dc7a, .v .bool true]) [])
    (h8 : dc3a = x7)
    (h9 : (IntKind.wrap .i64 (dc4a + dc5a)) = (IntKind.wrap .i64 (dc6a + dc7a)))
    {e : AEx} {st : St} (next : RestSC cfg.P 2 (rest P_laws_FnTreesJoined 14) (laws_FnTreesJoined_C14a x0 x1 false) e st) :
    RestSC cfg.P 2 (rest P_laws_FnTreesJoined 12) (laws_FnTreesJoined_C12b x0 x1 x5 x6 x7 true x11 x115) e st :=
  rest_next cfgOK (f := i_laws_FnTreesJoined) (k := 12) (m := 2) (its := [.res (.tup [.v .bool true, .v .bool true]) [] [] [], .res (.tup [.v .bool true, .v .bool true]) [] [] [], .res (.tup [.v .str dc3a, .v .bool true]) [] [] [], .res (.tup [.v (.int .i64) dc4a, .v .bool true]) [] [] [], .res (.tup [.v (.int .i64) dc5a, .v .bool true]) [] [] [], .res (.tup [.v (.int .i64) dc6a, .v .bool true]) [] [] [], .res (.tup [.v (.int .i64) dc7a, .v .bool true]) [] [] [], .bool false, .bool false])
    (ps := [SC cfg.P i_impl_IsPartOf [.s (.v .str x5), .s (.v .str x7)] (.tup [.v .bool true, .v .bool true]) [],
      SC cfg.P i_impl_IsPartOf [.s (.v .str x6), .s (.v .str x7)] (.tup [.v .bool true, .v .bool true]) [],
      SC cfg.P i_impl_JoinTrees [.s (.v .str x6), .s (.v .str x5)] (.tup [.v .str dc3a, .v .bool true]) [],
      SC cfg.P i_impl_CaretsOf [.s (.v .str x5)] (.tup [.v (.int .i64) dc4a, .v .bool true]) [],
      SC cfg.P i_impl_CaretsOf [.s (.v .str x6)] (.tup [.v (.int .i64) dc5a, .v .bool true]) [],
      SC cfg.P i_impl_CaretsOf [.s (.v .str x7)] (.tup [.v (.int .i64) dc6a, .v .bool true]) [],
      SC cfg.P i_impl_CaretsOf [.s (.v .str x11)] (.tup [.v (.int .i64) dc7a, .v .bool true]) [],
      (!((dc3a).toList == (x7).toList)) = false,
      ((IntKind.wrap .i64 (dc4a + dc5a)) != (IntKind.wrap .i64 (dc6a + dc7a))) = false]) (st1 := laws_FnTreesJoined_C14a x0 x1 false) (by kernel_rfl) ⟨h1, h2, h3, h4, h5, h6, h7, (nseq_f h8), (bne_eq_false_iff_eq.mpr h9), trivial⟩ next

theorem laws_FnTreesJoined_C12b_i2 (x0 : (List Int)) (x1 : (List Int)) (x5 : ByteArray) (x6 : ByteArray) (x7 : ByteArray) (x11 : ByteArray) (x115 : Bool)
    {e : AEx} {st : St} (next : RestSC cfg.P 2 (rest P_laws_FnTreesJoined 14) (laws_FnTreesJoined_C14b x0 x1 x5 x6 x7 x11 false) e st) :
    RestSC cfg.P 2 (rest P_laws_FnTreesJoined 12) (laws_FnTreesJoined_C12b x0 x1 x5 x6 x7 false x11 x115) e st :=
  rest_next cfgOK (f := i_laws_FnTreesJoined) (k := 12) (m := 2) (its := [])
    (ps := []) (st1 := laws_FnTreesJoined_C14b x0 x1 x5 x6 x7 x11 false) (by kernel_rfl) trivial next

theorem laws_FnTreesJoined_C14a_i1 (x0 : (List Int)) (x1 : (List Int)) (x228 : Bool) (dc1a : ByteArray) (dc1b : ByteArray) (dc2a : Bool) (dc2b : Bool) (dc3a : Bool) (dc3b : Bool)
    (h1 : SC cfg.P i_spec_DrawIsPartOf [.s (.v (.sl (.int .u8)) x1)] (.tup [.v .str dc1a, .v .str dc1b]) [])
    (h2 : SC cfg.P i_impl_IsPartOf [.s (.v .str dc1a), .s (.v .str dc1b)] (.tup [.v .bool dc2a, .v .bool dc2b]) [])
    (h3 : SC cfg.P i_spec_IsPartOf [.s (.v .str dc1a), .s (.v .str dc1b)] (.tup [.v .bool dc3a, .v .bool dc3b]) [])
    (h4 : (!(dc2b == dc3b)) = false)
    (h5 : (!(dc2a == dc3a)) = false)
    {e : AEx} {st : St} (next : RestSC cfg.P 2 (rest P_laws_FnTreesJoined 19) (laws_FnTreesJoined_C19a x0 x1 dc1a dc1b dc2a dc2b false) e st) :
    RestSC cfg.P 2 (rest P_laws_FnTreesJoined 14) (laws_FnTreesJoined_C14a x0 x1 x228) e st :=
  rest_next cfgOK (f := i_laws_FnTreesJoined) (k := 14) (m := 5) (its := [.res (.tup [.v .str dc1a, .v .str dc1b]) [] [] [], .res (.tup [.v .bool dc2a, .v .bool dc2b]) [] [] [], .res (.tup [.v .bool dc3a, .v .bool dc3b]) [] [] [], .bool false, .bool false])
    (ps := [SC cfg.P i_spec_DrawIsPartOf [.s (.v (.sl (.int .u8)) x1)] (.tup [.v .str dc1a, .v .str dc1b]) [],
      SC cfg.P i_impl_IsPartOf [.s (.v .str dc1a), .s (.v .str dc1b)] (.tup [.v .bool dc2a, .v .bool dc2b]) [],
      SC cfg.P i_spec_IsPartOf [.s (.v .str dc1a), .s (.v .str dc1b)] (.tup [.v .bool dc3a, .v .bool dc3b]) [],
      (!(dc2b == dc3b)) = false,
      (!(dc2a == dc3a)) = false]) (st1 := laws_FnTreesJoined_C19a x0 x1 dc1a dc1b dc2a dc2b false) (by kernel_rfl) ⟨h1, h2, h3, h4, h5, trivial⟩ next

theorem laws_FnTreesJoined_C14b_i1 (x0 : (List Int)) (x1 : (List Int)) (x5 : ByteArray) (x6 : ByteArray) (x7 : ByteArray) (x11 : ByteArray) (x142 : Bool) (dc1a : ByteArray) (dc1b : ByteArray) (dc2a : Bool) (dc2b : Bool) (dc3a : Bool) (dc3b : Bool)
    (h1 : SC cfg.P i_spec_DrawIsPartOf [.s (.v (.sl (.int .u8)) x1)] (.tup [.v .str dc1a, .v .str dc1b]) [])
    (h2 : SC cfg.P i_impl_IsPartOf [.s (.v .str dc1a), .s (.v .str dc1b)] (.tup [.v .bool dc2a, .v .bool dc2b]) [])
    (h3 : SC cfg.P i_spec_IsPartOf [.s (.v .str dc1a), .s (.v .str dc1b)] (.tup [.v .bool dc3a, .v .bool dc3b]) [])
    (h4 : (!(dc2b == dc3b)) = false)
    (h5 : (!(dc2a == dc3a)) = false)
    {e : AEx} {st : St} (next : RestSC cfg.P 2 (rest P_laws_FnTreesJoined 19) (laws_FnTreesJoined_C19a x0 x1 dc1a dc1b dc2a dc2b false) e st) :
    RestSC cfg.P 2 (rest P_laws_FnTreesJoined 14) (laws_FnTreesJoined_C14b x0 x1 x5 x6 x7 x11 x142) e st :=
  rest_next cfgOK (f := i_laws_FnTreesJoined) (k := 14) (m := 5) (its := [.res (.tup [.v .str dc1a, .v .str dc1b]) [] [] [], .res (.tup [.v .bool dc2a, .v .bool dc2b]) [] [] [], .res (.tup [.v .bool dc3a, .v .bool dc3b]) [] [] [], .bool false, .bool false])
    (ps := [SC cfg.P i_spec_DrawIsPartOf [.s (.v (.sl (.int .u8)) x1)] (.tup [.v .str dc1a, .v .str dc1b]) [],
      SC cfg.P i_impl_IsPartOf [.s (.v .str dc1a), .s (.v .str dc1b)] (.tup [.v .bool dc2a, .v .bool dc2b]) [],
      SC cfg.P i_spec_IsPartOf [.s (.v .str dc1a), .s (.v .str dc1b)] (.tup [.v .bool dc3a, .v .bool dc3b]) [],
      (!(dc2b == dc3b)) = false,
      (!(dc2a == dc3a)) = false]) (st1 := laws_FnTreesJoined_C19a x0 x1 dc1a dc1b dc2a dc2b false) (by kernel_rfl) ⟨h1, h2, h3, h4, h5, trivial⟩ next

theorem laws_FnTreesJoined_C19a_i1 (x0 : (List Int)) (x1 : (List Int)) (x33 : ByteArray) (x34 : ByteArray) (x35 : Bool) (x253 : Bool) (dc1a : ByteArray)
    (h1 : SC cfg.P i_impl_JoinTrees [.s (.v .str x33), .s (.v .str x34)] (.tup [.v .str dc1a, .v .bool true]) [])
    (h2 : dc1a = x34)
    (h3 : (!(x35 == true)) = false)
    {e : AEx} {st : St} (next : RestSC cfg.P 2 (rest P_laws_FnTreesJoined 21) (laws_FnTreesJoined_C21a x0 x1 false) e st) :
    RestSC cfg.P 2 (rest P_laws_FnTreesJoined 19) (laws_FnTreesJoined_C19a x0 x1 x33 x34 x35 true x253) e st :=
  rest_next cfgOK (f := i_laws_FnTreesJoined) (k := 19) (m := 2) (its := [.res (.tup [.v .str dc1a, .v .bool true]) [] [] [], .bool true, .bool false])
    (ps := [SC cfg.P i_impl_JoinTrees [.s (.v .str x33), .s (.v .str x34)] (.tup [.v .str dc1a, .v .bool true]) [],
      ((dc1a).toList == (x34).toList) = true,
      (!(x35 == true)) = false]) (st1 := laws_FnTreesJoined_C21a x0 x1 false) (by kernel_rfl) ⟨h1, (seq_t h2), h3, trivial⟩ next

theorem laws_FnTreesJoined_C19a_i2 (x0 : (List Int)) (x1 : (List Int)) (x33 : ByteArray) (x34 : ByteArray) (x35 : Bool) (x253 : Bool) (dc1a : ByteArray)
    (h1 : SC cfg.P i_impl_JoinTrees [.s (.v .str x33), .s (.v .str x34)] (.tup [.v .str dc1a, .v .bool true]) [])
    (h2 : dc1a ≠ x34)
    (h3 : (!(x35 == false)) = false)
    {e : AEx} {st : St} (next : RestSC cfg.P 2 (rest P_laws_FnTreesJoined 21) (laws_FnTreesJoined_C21a x0 x1 false) e st) :
    RestSC cfg.P 2 (rest P_laws_FnTreesJoined 19) (laws_FnTreesJoined_C19a x0 x1 x33 x34 x35 true x253) e st :=
  rest_next cfgOK (f := i_laws_FnTreesJoined) (k := 19) (m := 2) (its := [.res (.tup [.v .str dc1a, .v .bool true]) [] [] [], .bool false, .bool false])
    (ps := [SC cfg.P i_impl_JoinTrees [.s (.v .str x33), .s (.v .str x34)] (.tup [.v .str dc1a, .v .bool true]) [],
      ((dc1a).toList == (x34).toList) = false,
      (!(x35 == false)) = false]) (st1 := laws_FnTreesJoined_C21a x0 x1 false) (by kernel_rfl) ⟨h1, (seq_f h2), h3, trivial⟩ next

theorem laws_FnTreesJoined_C19a_i3 (x0 : (List Int)) (x1 : (List Int)) (x33 : ByteArray) (x34 : ByteArray) (x35 : Bool) (x253 : Bool) (dc1a : ByteArray)
    (h1 : SC cfg.P i_impl_JoinTrees [.s (.v .str x33), .s (.v .str x34)] (.tup [.v .str dc1a, .v .bool false]) [])
    {e : AEx} {st : St} (next : RestSC cfg.P 2 (rest P_laws_FnTreesJoined 21) (laws_FnTreesJoined_C21a x0 x1 false) e st) :
    RestSC cfg.P 2 (rest P_laws_FnTreesJoined 19) (laws_FnTreesJoined_C19a x0 x1 x33 x34 x35 true x253) e st :=
  rest_next cfgOK (f := i_laws_FnTreesJoined) (k := 19) (m := 2) (its := [.res (.tup [.v .str dc1a, .v .bool false]) [] [] []])
    (ps := [SC cfg.P i_impl_JoinTrees [.s (.v .str x33), .s (.v .str x34)] (.tup [.v .str dc1a, .v .bool false]) []]) (st1 := laws_FnTreesJoined_C21a x0 x1 false) (by kernel_rfl) ⟨h1, trivial⟩ next

theorem laws_FnTreesJoined_C19a_i4 (x0 : (List Int)) (x1 : (List Int)) (x33 : ByteArray) (x34 : ByteArray) (x35 : Bool) (x253 : Bool)
    {e : AEx} {st : St} (next : RestSC cfg.P 2 (rest P_laws_FnTreesJoined 21) (laws_FnTreesJoined_C21b x0 x1 x33 x34 x35 false) e st) :
    RestSC cfg.P 2 (rest P_laws_FnTreesJoined 19) (laws_FnTreesJoined_C19a x0 x1 x33 x34 x35 false x253) e st :=
  rest_next cfgOK (f := i_laws_FnTreesJoined) (k := 19) (m := 2) (its := [])
    (ps := []) (st1 := laws_FnTreesJoined_C21b x0 x1 x33 x34 x35 false) (by kernel_rfl) trivial next

theorem laws_FnTreesJoined_C21a_i1 (x0 : (List Int)) (x1 : (List Int)) (x268 : Bool) (dc1a : ByteArray) (dc1b : ByteArray) (dc2a : ByteArray) (dc2b : Bool) (dc3a : ByteArray) (dc3b : Bool) (dc4a : ByteArray) (dc4b : Int) (dc4c : ByteArray) (dc5a : ByteArray) (dc5b : Bool) (dc6a : ByteArray) (dc6b : Bool)
    (h1 : SC cfg.P i_spec_DrawSubtreeAt [.s (.v (.sl (.int .u8)) x1)] (.tup [.v .str dc1a, .v .str dc1b]) [])
    (h2 : SC cfg.P i_impl_SubtreeAt [.s (.v .str dc1a), .s (.v .str dc1b)] (.tup [.v .str dc2a, .v .bool dc2b]) [])
    (h3 : SC cfg.P i_spec_SubtreeAt [.s (.v .str dc1a), .s (.v .str dc1b)] (.tup [.v .str dc3a, .v .bool dc3b]) [])
    (h4 : SC cfg.P i_spec_DrawGraftAt [.s (.v (.sl (.int .u8)) x0)] (.tup [.v .str dc4a, .v (.int .i64) dc4b, .v .str dc4c]) [])
    (h5 : SC cfg.P i_impl_GraftAt [.s (.v .str dc4a), .s (.v (.int .i64) dc4b), .s (.v .str dc4c)] (.tup [.v .str dc5a, .v .bool dc5b]) [])
    (h6 : SC cfg.P i_spec_GraftAt [.s (.v .str dc4a), .s (.v (.int .i64) dc4b), .s (.v .str dc4c)] (.tup [.v .str dc6a, .v .bool dc6b]) [])
    (h7 : (!(dc2b == dc3b)) = false)
    (h8 : dc2a = dc3a)
    (h9 : (!(dc5b == dc6b)) = false)
    (h10 : dc5a = dc6a)
    {e : AEx} {st : St} (next : RestSC cfg.P 2 (rest P_laws_FnTreesJoined 29) (laws_FnTreesJoined_C29a dc4a dc4b dc4c dc5a dc5b false) e st) :
    RestSC cfg.P 2 (rest P_laws_FnTreesJoined 21) (laws_FnTreesJoined_C21a x0 x1 x268) e st :=
  rest_next cfgOK (f := i_laws_FnTreesJoined) (k := 21) (m := 8) (its := [.res (.tup [.v .str dc1a, .v .str dc1b]) [] [] [], .res (.tup [.v .str dc2a, .v .bool dc2b]) [] [] [], .res (.tup [.v .str dc3a, .v .bool dc3b]) [] [] [], .res (.tup [.v .str dc4a, .v (.int .i64) dc4b, .v .str dc4c]) [] [] [], .res (.tup [.v .str dc5a, .v .bool dc5b]) [] [] [], .res (.tup [.v .str dc6a, .v .bool dc6b]) [] [] [], .bool false, .bool false, .bool false, .bool false])
    (ps := [SC cfg.P i_spec_DrawSubtreeAt [.s (.v (.sl (.int .u8)) x1)] (.tup [.v .str dc1a, .v .str dc1b]) [],
      SC cfg.P i_impl_SubtreeAt [.s (.v .str dc1a), .s (.v .str dc1b)] (.tup [.v .str dc2a, .v .bool dc2b]) [],
      SC cfg.P i_spec_SubtreeAt [.s (.v .str dc1a), .s (.v .str dc1b)] (.tup [.v .str dc3a, .v .bool dc3b]) [],
      SC cfg.P i_spec_DrawGraftAt [.s (.v (.sl (.int .u8)) x0)] (.tup [.v .str dc4a, .v (.int .i64) dc4b, .v .str dc4c]) [],
      SC cfg.P i_impl_GraftAt [.s (.v .str dc4a), .s (.v (.int .i64) dc4b), .s (.v .str dc4c)] (.tup [.v .str dc5a, .v .bool dc5b]) [],
      SC cfg.P i_spec_GraftAt [.s (.v .str dc4a), .s (.v (.int .i64) dc4b), .s (.v .str dc4c)] (.tup [.v .str dc6a, .v .bool dc6b]) [],
      (!(dc2b == dc3b)) = false,
      (!((dc2a).toList == (dc3a).toList)) = false,
      (!(dc5b == dc6b)) = false,
      (!((dc5a).toList == (dc6a).toList)) = false]) (st1 := laws_FnTreesJoined_C29a dc4a dc4b dc4c dc5a dc5b false) (by kernel_rfl) ⟨h1, h2, h3, h4, h5, h6, h7, (nseq_f h8), h9, (nseq_f h10), trivial⟩ next

theorem laws_FnTreesJoined_C21b_i1 (x0 : (List Int)) (x1 : (List Int)) (x33 : ByteArray) (x34 : ByteArray) (x35 : Bool) (x254 : Bool) (dc1a : ByteArray) (dc1b : ByteArray) (dc2a : ByteArray) (dc2b : Bool) (dc3a : ByteArray) (dc3b : Bool) (dc4a : ByteArray) (dc4b : Int) (dc4c : ByteArray) (dc5a : ByteArray) (dc5b : Bool) (dc6a : ByteArray) (dc6b : Bool)
    (h1 : SC cfg.P i_spec_DrawSubtreeAt [.s (.v (.sl (.int .u8)) x1)] (.tup [.v .str dc1a, .v .str dc1b]) [])
    (h2 : SC cfg.P i_impl_SubtreeAt [.s (.v .str dc1a), .s (.v .str dc1b)] (.tup [.v .str dc2a, .v .bool dc2b]) [])
    (h3 : SC cfg.P i_spec_SubtreeAt [.s (.v .str dc1a), .s (.v .str dc1b)] (.tup [.v .str dc3a, .v .bool dc3b]) [])
    (h4 : SC cfg.P i_spec_DrawGraftAt [.s (.v (.sl (.int .u8)) x0)] (.tup [.v .str dc4a, .v (.int .i64) dc4b, .v .str dc4c]) [])
    (h5 : SC cfg.P i_impl_GraftAt [.s (.v .str dc4a), .s (.v (.int .i64) dc4b), .s (.v .str dc4c)] (.tup [.v .str dc5a, .v .bool dc5b]) [])
    (h6 : SC cfg.P i_spec_GraftAt [.s (.v .str dc4a), .s (.v (.int .i64) dc4b), .s (.v .str dc4c)] (.tup [.v .str dc6a, .v .bool dc6b]) [])
    (h7 : (!(dc2b == dc3b)) = false)
    (h8 : dc2a = dc3a)
    (h9 : (!(dc5b == dc6b)) = false)
    (h10 : dc5a = dc6a)
    {e : AEx} {st : St} (next : RestSC cfg.P 2 (rest P_laws_FnTreesJoined 29) (laws_FnTreesJoined_C29a dc4a dc4b dc4c dc5a dc5b false) e st) :
    RestSC cfg.P 2 (rest P_laws_FnTreesJoined 21) (laws_FnTreesJoined_C21b x0 x1 x33 x34 x35 x254) e st :=
  rest_next cfgOK (f := i_laws_FnTreesJoined) (k := 21) (m := 8) (its := [.res (.tup [.v .str dc1a, .v .str dc1b]) [] [] [], .res (.tup [.v .str dc2a, .v .bool dc2b]) [] [] [], .res (.tup [.v .str dc3a, .v .bool dc3b]) [] [] [], .res (.tup [.v .str dc4a, .v (.int .i64) dc4b, .v .str dc4c]) [] [] [], .res (.tup [.v .str dc5a, .v .bool dc5b]) [] [] [], .res (.tup [.v .str dc6a, .v .bool dc6b]) [] [] [], .bool false, .bool false, .bool false, .bool false])
    (ps := [SC cfg.P i_spec_DrawSubtreeAt [.s (.v (.sl (.int .u8)) x1)] (.tup [.v .str dc1a, .v .str dc1b]) [],
      SC cfg.P i_impl_SubtreeAt [.s (.v .str dc1a), .s (.v .str dc1b)] (.tup [.v .str dc2a, .v .bool dc2b]) [],
      SC cfg.P i_spec_SubtreeAt [.s (.v .str dc1a), .s (.v .str dc1b)] (.tup [.v .str dc3a, .v .bool dc3b]) [],
      SC cfg.P i_spec_DrawGraftAt [.s (.v (.sl (.int .u8)) x0)] (.tup [.v .str dc4a, .v (.int .i64) dc4b, .v .str dc4c]) [],
      SC cfg.P i_impl_GraftAt [.s (.v .str dc4a), .s (.v (.int .i64) dc4b), .s (.v .str dc4c)] (.tup [.v .str dc5a, .v .bool dc5b]) [],
      SC cfg.P i_spec_GraftAt [.s (.v .str dc4a), .s (.v (.int .i64) dc4b), .s (.v .str dc4c)] (.tup [.v .str dc6a, .v .bool dc6b]) [],
      (!(dc2b == dc3b)) = false,
      (!((dc2a).toList == (dc3a).toList)) = false,
      (!(dc5b == dc6b)) = false,
      (!((dc5a).toList == (dc6a).toList)) = false]) (st1 := laws_FnTreesJoined_C29a dc4a dc4b dc4c dc5a dc5b false) (by kernel_rfl) ⟨h1, h2, h3, h4, h5, h6, h7, (nseq_f h8), h9, (nseq_f h10), trivial⟩ next

theorem laws_FnTreesJoined_C29a_x1 (x47 : ByteArray) (x48 : Int) (x49 : ByteArray) (x50 : ByteArray) (x323 : Bool) (dc1a : (List ByteArray)) (dc2a : ByteArray)
    (h1 : SC cfg.P i_impl_AddressesOf [.s (.v .str x47)] (.tup [.own t_string .str dc1a, .v .bool true]) [])
    (h2 : 0 ≤ x48)
    (h3 : x48 < (List.length dc1a : Int))
    (h4 : (x48).toNat < List.length dc1a)
    (h5 : SC cfg.P i_impl_SubtreeAt [.s (.v .str x50), .s (.v .str (List.getD dc1a (x48).toNat (⟨#[]⟩ : ByteArray)))] (.tup [.v .str dc2a, .v .bool true]) [])
    (h6 : dc2a = x49) :
    RestSC cfg.P 2 (rest P_laws_FnTreesJoined 29) (laws_FnTreesJoined_C29a x47 x48 x49 x50 true x323) .ret (laws_FnTreesJoined_R1 true) :=
  rest_ret cfgOK (f := i_laws_FnTreesJoined) (k := 29) (m := 2) (its := [.res (.tup [.own t_string .str dc1a, .v .bool true]) [] [] [327], .res (.tup [.v .str dc2a, .v .bool true]) [] [] [], .bool true])
    (ps := [SC cfg.P i_impl_AddressesOf [.s (.v .str x47)] (.tup [.own t_string .str dc1a, .v .bool true]) [],
      0 ≤ x48,
      x48 < (List.length dc1a : Int),
      (x48).toNat < List.length dc1a,
      SC cfg.P i_impl_SubtreeAt [.s (.v .str x50), .s (.v .str (List.getD dc1a (x48).toNat (⟨#[]⟩ : ByteArray)))] (.tup [.v .str dc2a, .v .bool true]) [],
      ((dc2a).toList == (x49).toList) = true]) (by kernel_rfl) ⟨h1, h2, h3, h4, h5, (seq_t h6), trivial⟩

theorem laws_FnTreesJoined_C29a_i2 (x47 : ByteArray) (x48 : Int) (x49 : ByteArray) (x50 : ByteArray) (x323 : Bool)
    {e : AEx} {st : St} (next : RestSC cfg.P 2 (rest P_laws_FnTreesJoined 31) (laws_FnTreesJoined_C31a x47 x48 x49 x50 false) e st) :
    RestSC cfg.P 2 (rest P_laws_FnTreesJoined 29) (laws_FnTreesJoined_C29a x47 x48 x49 x50 false x323) e st :=
  rest_next cfgOK (f := i_laws_FnTreesJoined) (k := 29) (m := 2) (its := [])
    (ps := []) (st1 := laws_FnTreesJoined_C31a x47 x48 x49 x50 false) (by kernel_rfl) trivial next

theorem laws_FnTreesJoined_C31a_x1 (x47 : ByteArray) (x48 : Int) (x49 : ByteArray) (x50 : ByteArray) (x324 : Bool)
     :
    RestSC cfg.P 2 (rest P_laws_FnTreesJoined 31) (laws_FnTreesJoined_C31a x47 x48 x49 x50 x324) .ret (laws_FnTreesJoined_R1 true) :=
  rest_ret cfgOK (f := i_laws_FnTreesJoined) (k := 31) (m := 2) (its := [])
    (ps := []) (by kernel_rfl) trivial

theorem laws_FnTreesJoined_R1_of (a0 : (List Int)) (a1 : (List Int)) (y4 : Bool)
    (h : RestSC cfg.P 2 (rest P_laws_FnTreesJoined 0) (laws_FnTreesJoined_C0a a0 a1) .ret (laws_FnTreesJoined_R1 y4)) :
    SC cfg.P i_laws_FnTreesJoined [.s (.v (.sl (.int .u8)) a0), .s (.v (.sl (.int .u8)) a1)] (.s (.v .bool y4)) [] :=
  SC_of_rest cfgOK (f := i_laws_FnTreesJoined) h (by kernel_rfl) (by kernel_rfl) (by kernel_rfl) get_laws_FnTreesJoined (by decide)

end Go.AI
