/- A part of the road: what it proves stands in its last texts. -/
import Derived.Test.YtdfllkeekehplaaSIds
import Derived.Test.YtdfllkeekehplaaAiI
import Derived.Test.YtdfllkeekehplaaProg
set_option autoImplicit false
set_option maxRecDepth 100000
set_option linter.unusedVariables false
namespace Go.AI
open Go.Proofs

/-! ### laws_FnReducedAreUnique -/


def laws_FnReducedAreUnique_C0a (x0 : (List Int)) (x1 : (List Int)) : St := mkSt 268 [(0, .s (.v (.sl (.int .u8)) x0)), (1, .s (.v (.sl (.int .u8)) x1))] []

def laws_FnReducedAreUnique_R1 (y4 : Bool) : St := mkSt 268 [(4, .s (.v .bool y4))] []

def laws_FnReducedAreUnique_C3a (x0 : (List Int)) (x1 : (List Int)) (x47 : Bool) : St := mkSt 268 [(0, .s (.v (.sl (.int .u8)) x0)), (1, .s (.v (.sl (.int .u8)) x1)), (47, .s (.v .bool x47))] []

def laws_FnReducedAreUnique_C10a (x0 : (List Int)) (x1 : (List Int)) (x12 : Bool) (x110 : Bool) (xo5 : (ByteArray × ByteArray)) (xo11 : (ByteArray × ByteArray)) : St := mkSt 268 [(0, .s (.v (.sl (.int .u8)) x0)), (1, .s (.v (.sl (.int .u8)) x1)), (5, .s (.adr 5 none)), (11, .s (.adr 11 none)), (12, .s (.v .bool x12)), (110, .s (.v .bool x110))] [(5, .box (.pr .str .str) xo5 false), (11, .box (.pr .str .str) xo11 false)]

def laws_FnReducedAreUnique_C12a (x0 : (List Int)) (x1 : (List Int)) (x144 : Bool) : St := mkSt 268 [(0, .s (.v (.sl (.int .u8)) x0)), (1, .s (.v (.sl (.int .u8)) x1)), (144, .s (.v .bool x144))] []

def laws_FnReducedAreUnique_C12b (x0 : (List Int)) (x1 : (List Int)) (x111 : Bool) (xo5 : (ByteArray × ByteArray)) (xo11 : (ByteArray × ByteArray)) : St := mkSt 268 [(0, .s (.v (.sl (.int .u8)) x0)), (1, .s (.v (.sl (.int .u8)) x1)), (5, .s (.adr 5 none)), (11, .s (.adr 11 none)), (111, .s (.v .bool x111))] [(5, .box (.pr .str .str) xo5 false), (11, .box (.pr .str .str) xo11 false)]

def laws_FnReducedAreUnique_C17a (x0 : (List Int)) (x1 : (List Int)) (x22 : Bool) (x169 : Bool) (xo19 : (ByteArray × ByteArray)) (xo21 : (ByteArray × ByteArray)) : St := mkSt 268 [(0, .s (.v (.sl (.int .u8)) x0)), (1, .s (.v (.sl (.int .u8)) x1)), (19, .s (.adr 19 none)), (21, .s (.adr 21 none)), (22, .s (.v .bool x22)), (169, .s (.v .bool x169))] [(19, .box (.pr .str .str) xo19 false), (21, .box (.pr .str .str) xo21 false)]

def laws_FnReducedAreUnique_C19a (x0 : (List Int)) (x1 : (List Int)) (x186 : Bool) : St := mkSt 268 [(0, .s (.v (.sl (.int .u8)) x0)), (1, .s (.v (.sl (.int .u8)) x1)), (186, .s (.v .bool x186))] []

def laws_FnReducedAreUnique_C19b (x0 : (List Int)) (x1 : (List Int)) (x170 : Bool) (xo19 : (ByteArray × ByteArray)) (xo21 : (ByteArray × ByteArray)) : St := mkSt 268 [(0, .s (.v (.sl (.int .u8)) x0)), (1, .s (.v (.sl (.int .u8)) x1)), (19, .s (.adr 19 none)), (21, .s (.adr 21 none)), (170, .s (.v .bool x170))] [(19, .box (.pr .str .str) xo19 false), (21, .box (.pr .str .str) xo21 false)]

def laws_FnReducedAreUnique_C30a (x38 : ByteArray) (x40 : Bool) (x255 : Bool) (xo39 : (ByteArray × ByteArray)) : St := mkSt 268 [(38, .s (.v .str x38)), (39, .s (.adr 39 none)), (40, .s (.v .bool x40)), (255, .s (.v .bool x255))] [(39, .box (.pr .str .str) xo39 false)]

def laws_FnReducedAreUnique_C32a (x38 : ByteArray) (x256 : Bool) (xo39 : (ByteArray × ByteArray)) : St := mkSt 268 [(38, .s (.v .str x38)), (39, .s (.adr 39 none)), (256, .s (.v .bool x256))] [(39, .box (.pr .str .str) xo39 false)]

theorem laws_FnReducedAreUnique_C0a_x1 (x0 : (List Int)) (x1 : (List Int))
    (h1 : SC cfg.P i_laws_big [.s (.v (.sl (.int .u8)) x0), .s (.v (.sl (.int .u8)) x1)] (.s (.v .bool true)) []) :
    RestSC cfg.P 2 (rest P_laws_FnReducedAreUnique 0) (laws_FnReducedAreUnique_C0a x0 x1) .ret (laws_FnReducedAreUnique_R1 true) :=
  rest_ret cfgOK (f := i_laws_FnReducedAreUnique) (k := 0) (m := 3) (its := [.res (.s (.v .bool true)) [] [] []])
    (ps := [SC cfg.P i_laws_big [.s (.v (.sl (.int .u8)) x0), .s (.v (.sl (.int .u8)) x1)] (.s (.v .bool true)) []]) (by kernel_rfl) ⟨h1, trivial⟩

theorem laws_FnReducedAreUnique_C0a_i2 (x0 : (List Int)) (x1 : (List Int))
    (h1 : SC cfg.P i_laws_big [.s (.v (.sl (.int .u8)) x0), .s (.v (.sl (.int .u8)) x1)] (.s (.v .bool false)) [])
    {e : AEx} {st : St} (next : RestSC cfg.P 2 (rest P_laws_FnReducedAreUnique 3) (laws_FnReducedAreUnique_C3a x0 x1 false) e st) :
    RestSC cfg.P 2 (rest P_laws_FnReducedAreUnique 0) (laws_FnReducedAreUnique_C0a x0 x1) e st :=
  rest_next cfgOK (f := i_laws_FnReducedAreUnique) (k := 0) (m := 3) (its := [.res (.s (.v .bool false)) [] [] []])
    (ps := [SC cfg.P i_laws_big [.s (.v (.sl (.int .u8)) x0), .s (.v (.sl (.int .u8)) x1)] (.s (.v .bool false)) []]) (st1 := laws_FnReducedAreUnique_C3a x0 x1 false) (by kernel_rfl) ⟨h1, trivial⟩ next

theorem laws_FnReducedAreUnique_C3a_i1 (x0 : (List Int)) (x1 : (List Int)) (x47 : Bool) (dc1a : (ByteArray × ByteArray)) (dc1b : (List Int)) (dc2a : (ByteArray × ByteArray)) (dc3a : (ByteArray × ByteArray)) (dc3b : Bool) (dc4a : (ByteArray × ByteArray)) (dc5a : (ByteArray × ByteArray)) (dc5b : Bool) (dc6 : Bool)
    (h1 : SC cfg.P i_spec_DrawReduceBy [.s (.v (.sl (.int .u8)) x0)] (.tup [.v (.pr .str .str) dc1a, .own t_int (.int .i64) dc1b]) [])
    (h2 : SC cfg.P i_impl_ReduceBy [.s (.v (.pr .str .str) dc1a), .s (.v (.sl (.int .i64)) dc1b)] (.tup [.v (.pr .str .str) dc2a, .v .bool true]) [])
    (h3 : SC cfg.P i_spec_ReduceBy [.s (.v (.pr .str .str) dc1a), .s (.v (.sl (.int .i64)) dc1b)] (.tup [.v (.pr .str .str) dc3a, .v .bool dc3b]) [])
    (h4 : SC cfg.P i_impl_ReducePair [.s (.v (.pr .str .str) dc1a)] (.tup [.v (.pr .str .str) dc4a, .v .bool true]) [])
    (h5 : SC cfg.P i_spec_ReducePair [.s (.v (.pr .str .str) dc1a)] (.tup [.v (.pr .str .str) dc5a, .v .bool dc5b]) [])
    (h6 : (!(true == dc3b)) = false)
    (h7 : (!(((dc2a.1).toList == (dc3a.1).toList) && ((dc2a.2).toList == (dc3a.2).toList))) = false)
    (h8 : (!(true == dc5b)) = false)
    (h9 : (!(((dc4a.1).toList == (dc5a.1).toList) && ((dc4a.2).toList == (dc5a.2).toList))) = false)
    (h10 : (!(((dc2a.1).toList == (dc4a.1).toList) && ((dc2a.2).toList == (dc4a.2).toList))) = false)
    (h11 : SC cfg.P i_impl_IsPair [.s (.v (.pr .str .str) dc1a)] (.s (.v .bool dc6)) [])
    (h12 : (!(true == dc6)) = false)
    {e : AEx} {st : St} (next : RestSC cfg.P 2 (rest P_laws_FnReducedAreUnique 10) (laws_FnReducedAreUnique_C10a x0 x1 true false dc1a dc4a) e st) :
    RestSC cfg.P 2 (rest P_laws_FnReducedAreUnique 3) (laws_FnReducedAreUnique_C3a x0 x1 x47) e st :=
  rest_next cfgOK (f := i_laws_FnReducedAreUnique) (k := 3) (m := 7) (its := [.res (.tup [.v (.pr .str .str) dc1a, .own t_int (.int .i64) dc1b]) [] [] [50], .res (.tup [.v (.pr .str .str) dc2a, .v .bool true]) [] [] [], .res (.tup [.v (.pr .str .str) dc3a, .v .bool dc3b]) [] [] [], .res (.tup [.v (.pr .str .str) dc4a, .v .bool true]) [] [] [], .res (.tup [.v (.pr .str .str) dc5a, .v .bool dc5b]) [] [] [], .bool false, .bool false, .bool false, .bool false, .bool false, .res (.s (.v .bool dc6)) [] [] [], .bool false])
    (ps := [SC cfg.P i_spec_DrawReduceBy [.s (.v (.sl (.int .u8)) x0)] (.tup [.v (.pr .str .str) dc1a, .own t_int (.int .i64) dc1b]) [],
      SC cfg.P i_impl_ReduceBy [.s (.v (.pr .str .str) dc1a), .s (.v (.sl (.int .i64)) dc1b)] (.tup [.v (.pr .str .str) dc2a, .v .bool true]) [],
      SC cfg.P i_spec_ReduceBy [.s (.v (.pr .str .str) dc1a), .s (.v (.sl (.int .i64)) dc1b)] (.tup [.v (.pr .str .str) dc3a, .v .bool dc3b]) [],
      SC cfg.P i_impl_ReducePair [.s (.v (.pr .str .str) dc1a)] (.tup [.v (.pr .str .str) dc4a, .v .bool true]) [],
      SC cfg.P i_spec_ReducePair [.s (.v (.pr .str .str) dc1a)] (.tup [.v (.pr .str .str) dc5a, .v .bool dc5b]) [],
      (!(true == dc3b)) = false,
      (!(((dc2a.1).toList == (dc3a.1).toList) && ((dc2a.2).toList == (dc3a.2).toList))) = false,
      (!(true == dc5b)) = false,
      (!(((dc4a.1).toList == (dc5a.1).toList) && ((dc4a.2).toList == (dc5a.2).toList))) = false,
      (!(((dc2a.1).toList == (dc4a.1).toList) && ((dc2a.2).toList == (dc4a.2).toList))) = false,
      SC cfg.P i_impl_IsPair [.s (.v (.pr .str .str) dc1a)] (.s (.v .bool dc6)) [],
      (!(true == dc6)) = false]) (st1 := laws_FnReducedAreUnique_C10a x0 x1 true false dc1a dc4a) (by kernel_rfl) ⟨h1, h2, h3, h4, h5, h6, h7, h8, h9, h10, h11, h12, trivial⟩ next

theorem laws_FnReducedAreUnique_C3a_i2 (x0 : (List Int)) (x1 : (List Int)) (x47 : Bool) (dc1a : (ByteArray × ByteArray)) (dc1b : (List Int)) (dc2a : (ByteArray × ByteArray)) (dc3a : (ByteArray × ByteArray)) (dc3b : Bool) (dc4a : (ByteArray × ByteArray)) (dc4b : Bool) (dc5a : (ByteArray × ByteArray)) (dc5b : Bool) (dc6 : Bool)
    (h1 : SC cfg.P i_spec_DrawReduceBy [.s (.v (.sl (.int .u8)) x0)] (.tup [.v (.pr .str .str) dc1a, .own t_int (.int .i64) dc1b]) [])
    (h2 : SC cfg.P i_impl_ReduceBy [.s (.v (.pr .str .str) dc1a), .s (.v (.sl (.int .i64)) dc1b)] (.tup [.v (.pr .str .str) dc2a, .v .bool false]) [])
    (h3 : SC cfg.P i_spec_ReduceBy [.s (.v (.pr .str .str) dc1a), .s (.v (.sl (.int .i64)) dc1b)] (.tup [.v (.pr .str .str) dc3a, .v .bool dc3b]) [])
    (h4 : SC cfg.P i_impl_ReducePair [.s (.v (.pr .str .str) dc1a)] (.tup [.v (.pr .str .str) dc4a, .v .bool dc4b]) [])
    (h5 : SC cfg.P i_spec_ReducePair [.s (.v (.pr .str .str) dc1a)] (.tup [.v (.pr .str .str) dc5a, .v .bool dc5b]) [])
    (h6 : (!(false == dc3b)) = false)
    (h7 : (!(((dc2a.1).toList == (dc3a.1).toList) && ((dc2a.2).toList == (dc3a.2).toList))) = false)
    (h8 : (!(dc4b == dc5b)) = false)
    (h9 : (!(((dc4a.1).toList == (dc5a.1).toList) && ((dc4a.2).toList == (dc5a.2).toList))) = false)
    (h10 : SC cfg.P i_impl_IsPair [.s (.v (.pr .str .str) dc1a)] (.s (.v .bool dc6)) [])
    (h11 : (!(dc4b == dc6)) = false)
    {e : AEx} {st : St} (next : RestSC cfg.P 2 (rest P_laws_FnReducedAreUnique 10) (laws_FnReducedAreUnique_C10a x0 x1 dc4b false dc1a dc4a) e st) :
    RestSC cfg.P 2 (rest P_laws_FnReducedAreUnique 3) (laws_FnReducedAreUnique_C3a x0 x1 x47) e st :=
  rest_next cfgOK (f := i_laws_FnReducedAreUnique) (k := 3) (m := 7) (its := [.res (.tup [.v (.pr .str .str) dc1a, .own t_int (.int .i64) dc1b]) [] [] [50], .res (.tup [.v (.pr .str .str) dc2a, .v .bool false]) [] [] [], .res (.tup [.v (.pr .str .str) dc3a, .v .bool dc3b]) [] [] [], .res (.tup [.v (.pr .str .str) dc4a, .v .bool dc4b]) [] [] [], .res (.tup [.v (.pr .str .str) dc5a, .v .bool dc5b]) [] [] [], .bool false, .bool false, .bool false, .bool false, .res (.s (.v .bool dc6)) [] [] [], .bool false])
    (ps := [SC cfg.P i_spec_DrawReduceBy [.s (.v (.sl (.int .u8)) x0)] (.tup [.v (.pr .str .str) dc1a, .own t_int (.int .i64) dc1b]) [],
      SC cfg.P i_impl_ReduceBy [.s (.v (.pr .str .str) dc1a), .s (.v (.sl (.int .i64)) dc1b)] (.tup [.v (.pr .str .str) dc2a, .v .bool false]) [],
      SC cfg.P i_spec_ReduceBy [.s (.v (.pr .str .str) dc1a), .s (.v (.sl (.int .i64)) dc1b)] (.tup [.v (.pr .str .str) dc3a, .v .bool dc3b]) [],
      SC cfg.P i_impl_ReducePair [.s (.v (.pr .str .str) dc1a)] (.tup [.v (.pr .str .str) dc4a, .v .bool dc4b]) [],
      SC cfg.P i_spec_ReducePair [.s (.v (.pr .str .str) dc1a)] (.tup [.v (.pr .str .str) dc5a, .v .bool dc5b]) [],
      (!(false == dc3b)) = false,
      (!(((dc2a.1).toList == (dc3a.1).toList) && ((dc2a.2).toList == (dc3a.2).toList))) = false,
      (!(dc4b == dc5b)) = false,
      (!(((dc4a.1).toList == (dc5a.1).toList) && ((dc4a.2).toList == (dc5a.2).toList))) = false,
      SC cfg.P i_impl_IsPair [.s (.v (.pr .str .str) dc1a)] (.s (.v .bool dc6)) [],
      (!(dc4b == dc6)) = false]) (st1 := laws_FnReducedAreUnique_C10a x0 x1 dc4b false dc1a dc4a) (by kernel_rfl) ⟨h1, h2, h3, h4, h5, h6, h7, h8, h9, h10, h11, trivial⟩ next

theorem laws_FnReducedAreUnique_C10a_i1 (x0 : (List Int)) (x1 : (List Int)) (x110 : Bool) (xo5 : (ByteArray × ByteArray)) (xo11 : (ByteArray × ByteArray)) (dc2a : Bool)
    (h1 : SC cfg.P i_impl_IsReduced [.s (.v (.pr .str .str) xo11)] (.tup [.v .bool true, .v .bool true]) [])
    (h2 : SC cfg.P i_impl_IsReduced [.s (.v (.pr .str .str) xo5)] (.tup [.v .bool dc2a, .v .bool true]) [])
    (h3 : (((xo11.1).toList == (xo5.1).toList) && ((xo11.2).toList == (xo5.2).toList)) = true)
    (h4 : (!(dc2a == true)) = false)
    (h5 : SC cfg.P i_laws_fSameMap [.s (.v (.pr .str .str) xo5), .s (.v (.pr .str .str) xo11)] (.s (.v .bool true)) [])
    {e : AEx} {st : St} (next : RestSC cfg.P 2 (rest P_laws_FnReducedAreUnique 12) (laws_FnReducedAreUnique_C12a x0 x1 false) e st) :
    RestSC cfg.P 2 (rest P_laws_FnReducedAreUnique 10) (laws_FnReducedAreUnique_C10a x0 x1 true x110 xo5 xo11) e st :=
  rest_next cfgOK (f := i_laws_FnReducedAreUnique) (k := 10) (m := 2) (its := [.res (.tup [.v .bool true, .v .bool true]) [] [] [], .res (.tup [.v .bool dc2a, .v .bool true]) [] [] [], .bool true, .bool false, .res (.s (.v .bool true)) [] [] []])
    (ps := [SC cfg.P i_impl_IsReduced [.s (.v (.pr .str .str) xo11)] (.tup [.v .bool true, .v .bool true]) [],
      SC cfg.P i_impl_IsReduced [.s (.v (.pr .str .str) xo5)] (.tup [.v .bool dc2a, .v .bool true]) [],
      (((xo11.1).toList == (xo5.1).toList) && ((xo11.2).toList == (xo5.2).toList)) = true,
      (!(dc2a == true)) = false,
      SC cfg.P i_laws_fSameMap [.s (.v (.pr .str .str) xo5), .s (.v (.pr .str .str) xo11)] (.s (.v .bool true)) []]) (st1 := laws_FnReducedAreUnique_C12a x0 x1 false) (by kernel_rfl) ⟨h1, h2, h3, h4, h5, trivial⟩ next

theorem laws_FnReducedAreUnique_C10a_i2 (x0 : (List Int)) (x1 : (List Int)) (x110 : Bool) (xo5 : (ByteArray × ByteArray)) (xo11 : (ByteArray × ByteArray)) (dc2a : Bool)
    (h1 : SC cfg.P i_impl_IsReduced [.s (.v (.pr .str .str) xo11)] (.tup [.v .bool true, .v .bool true]) [])
    (h2 : SC cfg.P i_impl_IsReduced [.s (.v (.pr .str .str) xo5)] (.tup [.v .bool dc2a, .v .bool true]) [])
    (h3 : (((xo11.1).toList == (xo5.1).toList) && ((xo11.2).toList == (xo5.2).toList)) = false)
    (h4 : (!(dc2a == false)) = false)
    (h5 : SC cfg.P i_laws_fSameMap [.s (.v (.pr .str .str) xo5), .s (.v (.pr .str .str) xo11)] (.s (.v .bool true)) [])
    {e : AEx} {st : St} (next : RestSC cfg.P 2 (rest P_laws_FnReducedAreUnique 12) (laws_FnReducedAreUnique_C12a x0 x1 false) e st) :
    RestSC cfg.P 2 (rest P_laws_FnReducedAreUnique 10) (laws_FnReducedAreUnique_C10a x0 x1 true x110 xo5 xo11) e st :=
  rest_next cfgOK (f := i_laws_FnReducedAreUnique) (k := 10) (m := 2) (its := [.res (.tup [.v .bool true, .v .bool true]) [] [] [], .res (.tup [.v .bool dc2a, .v .bool true]) [] [] [], .bool false, .bool false, .res (.s (.v .bool true)) [] [] []])
    (ps := [SC cfg.P i_impl_IsReduced [.s (.v (.pr .str .str) xo11)] (.tup [.v .bool true, .v .bool true]) [],
      SC cfg.P i_impl_IsReduced [.s (.v (.pr .str .str) xo5)] (.tup [.v .bool dc2a, .v .bool true]) [],
      (((xo11.1).toList == (xo5.1).toList) && ((xo11.2).toList == (xo5.2).toList)) = false,
      (!(dc2a == false)) = false,
      SC cfg.P i_laws_fSameMap [.s (.v (.pr .str .str) xo5), .s (.v (.pr .str .str) xo11)] (.s (.v .bool true)) []]) (st1 := laws_FnReducedAreUnique_C12a x0 x1 false) (by kernel_rfl) ⟨h1, h2, h3, h4, h5, trivial⟩ next

theorem laws_FnReducedAreUnique_C10a_i3 (x0 : (List Int)) (x1 : (List Int)) (x110 : Bool) (xo5 : (ByteArray × ByteArray)) (xo11 : (ByteArray × ByteArray))
    {e : AEx} {st : St} (next : RestSC cfg.P 2 (rest P_laws_FnReducedAreUnique 12) (laws_FnReducedAreUnique_C12b x0 x1 false xo5 xo11) e st) :
    RestSC cfg.P 2 (rest P_laws_FnReducedAreUnique 10) (laws_FnReducedAreUnique_C10a x0 x1 false x110 xo5 xo11) e st :=
  rest_next cfgOK (f := i_laws_FnReducedAreUnique) (k := 10) (m := 2) (its := [])
    (ps := []) (st1 := laws_FnReducedAreUnique_C12b x0 x1 false xo5 xo11) (by kernel_rfl) trivial next

theorem laws_FnReducedAreUnique_C12a_i1 (x0 : (List Int)) (x1 : (List Int)) (x144 : Bool) (dc1a : (ByteArray × ByteArray)) (dc1b : Int) (dc2a : (ByteArray × ByteArray)) (dc2b : Bool) (dc3a : (ByteArray × ByteArray)) (dc3b : Bool)
    (h1 : SC cfg.P i_spec_DrawExpandPair [.s (.v (.sl (.int .u8)) x1)] (.tup [.v (.pr .str .str) dc1a, .v (.int .i64) dc1b]) [])
    (h2 : SC cfg.P i_impl_ExpandPair [.s (.v (.pr .str .str) dc1a), .s (.v (.int .i64) dc1b)] (.tup [.v (.pr .str .str) dc2a, .v .bool dc2b]) [])
    (h3 : SC cfg.P i_spec_ExpandPair [.s (.v (.pr .str .str) dc1a), .s (.v (.int .i64) dc1b)] (.tup [.v (.pr .str .str) dc3a, .v .bool dc3b]) [])
    (h4 : (!(dc2b == dc3b)) = false)
    (h5 : (!(((dc2a.1).toList == (dc3a.1).toList) && ((dc2a.2).toList == (dc3a.2).toList))) = false)
    {e : AEx} {st : St} (next : RestSC cfg.P 2 (rest P_laws_FnReducedAreUnique 17) (laws_FnReducedAreUnique_C17a x0 x1 dc2b false dc1a dc2a) e st) :
    RestSC cfg.P 2 (rest P_laws_FnReducedAreUnique 12) (laws_FnReducedAreUnique_C12a x0 x1 x144) e st :=
  rest_next cfgOK (f := i_laws_FnReducedAreUnique) (k := 12) (m := 5) (its := [.res (.tup [.v (.pr .str .str) dc1a, .v (.int .i64) dc1b]) [] [] [], .res (.tup [.v (.pr .str .str) dc2a, .v .bool dc2b]) [] [] [], .res (.tup [.v (.pr .str .str) dc3a, .v .bool dc3b]) [] [] [], .bool false, .bool false])
    (ps := [SC cfg.P i_spec_DrawExpandPair [.s (.v (.sl (.int .u8)) x1)] (.tup [.v (.pr .str .str) dc1a, .v (.int .i64) dc1b]) [],
      SC cfg.P i_impl_ExpandPair [.s (.v (.pr .str .str) dc1a), .s (.v (.int .i64) dc1b)] (.tup [.v (.pr .str .str) dc2a, .v .bool dc2b]) [],
      SC cfg.P i_spec_ExpandPair [.s (.v (.pr .str .str) dc1a), .s (.v (.int .i64) dc1b)] (.tup [.v (.pr .str .str) dc3a, .v .bool dc3b]) [],
      (!(dc2b == dc3b)) = false,
      (!(((dc2a.1).toList == (dc3a.1).toList) && ((dc2a.2).toList == (dc3a.2).toList))) = false]) (st1 := laws_FnReducedAreUnique_C17a x0 x1 dc2b false dc1a dc2a) (by kernel_rfl) ⟨h1, h2, h3, h4, h5, trivial⟩ next

theorem laws_FnReducedAreUnique_C12b_i1 (x0 : (List Int)) (x1 : (List Int)) (x111 : Bool) (xo5 : (ByteArray × ByteArray)) (xo11 : (ByteArray × ByteArray)) (dc1a : (ByteArray × ByteArray)) (dc1b : Int) (dc2a : (ByteArray × ByteArray)) (dc2b : Bool) (dc3a : (ByteArray × ByteArray)) (dc3b : Bool)
    (h1 : SC cfg.P i_spec_DrawExpandPair [.s (.v (.sl (.int .u8)) x1)] (.tup [.v (.pr .str .str) dc1a, .v (.int .i64) dc1b]) [])
    (h2 : SC cfg.P i_impl_ExpandPair [.s (.v (.pr .str .str) dc1a), .s (.v (.int .i64) dc1b)] (.tup [.v (.pr .str .str) dc2a, .v .bool dc2b]) [])
    (h3 : SC cfg.P i_spec_ExpandPair [.s (.v (.pr .str .str) dc1a), .s (.v (.int .i64) dc1b)] (.tup [.v (.pr .str .str) dc3a, .v .bool dc3b]) [])
    (h4 : (!(dc2b == dc3b)) = false)
    (h5 : (!(((dc2a.1).toList == (dc3a.1).toList) && ((dc2a.2).toList == (dc3a.2).toList))) = false)
    {e : AEx} {st : St} (next : RestSC cfg.P 2 (rest P_laws_FnReducedAreUnique 17) (laws_FnReducedAreUnique_C17a x0 x1 dc2b false dc1a dc2a) e st) :
    RestSC cfg.P 2 (rest P_laws_FnReducedAreUnique 12) (laws_FnReducedAreUnique_C12b x0 x1 x111 xo5 xo11) e st :=
  rest_next cfgOK (f := i_laws_FnReducedAreUnique) (k := 12) (m := 5) (its := [.res (.tup [.v (.pr .str .str) dc1a, .v (.int .i64) dc1b]) [] [] [], .res (.tup [.v (.pr .str .str) dc2a, .v .bool dc2b]) [] [] [], .res (.tup [.v (.pr .str .str) dc3a, .v .bool dc3b]) [] [] [], .bool false, .bool false])
    (ps := [SC cfg.P i_spec_DrawExpandPair [.s (.v (.sl (.int .u8)) x1)] (.tup [.v (.pr .str .str) dc1a, .v (.int .i64) dc1b]) [],
      SC cfg.P i_impl_ExpandPair [.s (.v (.pr .str .str) dc1a), .s (.v (.int .i64) dc1b)] (.tup [.v (.pr .str .str) dc2a, .v .bool dc2b]) [],
      SC cfg.P i_spec_ExpandPair [.s (.v (.pr .str .str) dc1a), .s (.v (.int .i64) dc1b)] (.tup [.v (.pr .str .str) dc3a, .v .bool dc3b]) [],
      (!(dc2b == dc3b)) = false,
      (!(((dc2a.1).toList == (dc3a.1).toList) && ((dc2a.2).toList == (dc3a.2).toList))) = false]) (st1 := laws_FnReducedAreUnique_C17a x0 x1 dc2b false dc1a dc2a) (by kernel_rfl) ⟨h1, h2, h3, h4, h5, trivial⟩ next

theorem laws_FnReducedAreUnique_C17a_i1 (x0 : (List Int)) (x1 : (List Int)) (x169 : Bool) (xo19 : (ByteArray × ByteArray)) (xo21 : (ByteArray × ByteArray))
    (h1 : SC cfg.P i_impl_IsReduced [.s (.v (.pr .str .str) xo21)] (.tup [.v .bool false, .v .bool true]) [])
    (h2 : SC cfg.P i_laws_fSameMap [.s (.v (.pr .str .str) xo19), .s (.v (.pr .str .str) xo21)] (.s (.v .bool true)) [])
    {e : AEx} {st : St} (next : RestSC cfg.P 2 (rest P_laws_FnReducedAreUnique 19) (laws_FnReducedAreUnique_C19a x0 x1 false) e st) :
    RestSC cfg.P 2 (rest P_laws_FnReducedAreUnique 17) (laws_FnReducedAreUnique_C17a x0 x1 true x169 xo19 xo21) e st :=
  rest_next cfgOK (f := i_laws_FnReducedAreUnique) (k := 17) (m := 2) (its := [.res (.tup [.v .bool false, .v .bool true]) [] [] [], .res (.s (.v .bool true)) [] [] []])
    (ps := [SC cfg.P i_impl_IsReduced [.s (.v (.pr .str .str) xo21)] (.tup [.v .bool false, .v .bool true]) [],
      SC cfg.P i_laws_fSameMap [.s (.v (.pr .str .str) xo19), .s (.v (.pr .str .str) xo21)] (.s (.v .bool true)) []]) (st1 := laws_FnReducedAreUnique_C19a x0 x1 false) (by kernel_rfl) ⟨h1, h2, trivial⟩ next

theorem laws_FnReducedAreUnique_C17a_i2 (x0 : (List Int)) (x1 : (List Int)) (x169 : Bool) (xo19 : (ByteArray × ByteArray)) (xo21 : (ByteArray × ByteArray))
    {e : AEx} {st : St} (next : RestSC cfg.P 2 (rest P_laws_FnReducedAreUnique 19) (laws_FnReducedAreUnique_C19b x0 x1 false xo19 xo21) e st) :
    RestSC cfg.P 2 (rest P_laws_FnReducedAreUnique 17) (laws_FnReducedAreUnique_C17a x0 x1 false x169 xo19 xo21) e st :=
  rest_next cfgOK (f := i_laws_FnReducedAreUnique) (k := 17) (m := 2) (its := [])
    (ps := []) (st1 := laws_FnReducedAreUnique_C19b x0 x1 false xo19 xo21) (by kernel_rfl) trivial next

theorem laws_FnReducedAreUnique_C19a_i1 (x0 : (List Int)) (x1 : (List Int)) (x186 : Bool) (dc1a : (ByteArray × ByteArray)) (dc1b : (ByteArray × ByteArray)) (dc2a : Bool) (dc2b : Bool) (dc3a : Bool) (dc3b : Bool) (dc4 : (ByteArray × ByteArray)) (dc5a : Bool) (dc5b : Bool) (dc6a : Bool) (dc6b : Bool) (dc7 : ByteArray) (dc8a : (ByteArray × ByteArray)) (dc8b : Bool) (dc9a : (ByteArray × ByteArray)) (dc9b : Bool)
    (h1 : SC cfg.P i_spec_DrawAreSamePairs [.s (.v (.sl (.int .u8)) x1)] (.tup [.v (.pr .str .str) dc1a, .v (.pr .str .str) dc1b]) [])
    (h2 : SC cfg.P i_impl_AreSamePairs [.s (.v (.pr .str .str) dc1a), .s (.v (.pr .str .str) dc1b)] (.tup [.v .bool dc2a, .v .bool dc2b]) [])
    (h3 : SC cfg.P i_spec_AreSamePairs [.s (.v (.pr .str .str) dc1a), .s (.v (.pr .str .str) dc1b)] (.tup [.v .bool dc3a, .v .bool dc3b]) [])
    (h4 : SC cfg.P i_spec_DrawIsReduced [.s (.v (.sl (.int .u8)) x1)] (.s (.v (.pr .str .str) dc4)) [])
    (h5 : SC cfg.P i_impl_IsReduced [.s (.v (.pr .str .str) dc4)] (.tup [.v .bool dc5a, .v .bool dc5b]) [])
    (h6 : SC cfg.P i_spec_IsReduced [.s (.v (.pr .str .str) dc4)] (.tup [.v .bool dc6a, .v .bool dc6b]) [])
    (h7 : SC cfg.P i_spec_DrawParsePair [.s (.v (.sl (.int .u8)) x0)] (.s (.v .str dc7)) [])
    (h8 : SC cfg.P i_impl_ParsePair [.s (.v .str dc7)] (.tup [.v (.pr .str .str) dc8a, .v .bool dc8b]) [])
    (h9 : SC cfg.P i_spec_ParsePair [.s (.v .str dc7)] (.tup [.v (.pr .str .str) dc9a, .v .bool dc9b]) [])
    (h10 : (!(dc2b == dc3b)) = false)
    (h11 : (!(dc2a == dc3a)) = false)
    (h12 : (!(dc5b == dc6b)) = false)
    (h13 : (!(dc5a == dc6a)) = false)
    (h14 : (!(dc8b == dc9b)) = false)
    (h15 : (!(((dc8a.1).toList == (dc9a.1).toList) && ((dc8a.2).toList == (dc9a.2).toList))) = false)
    {e : AEx} {st : St} (next : RestSC cfg.P 2 (rest P_laws_FnReducedAreUnique 30) (laws_FnReducedAreUnique_C30a dc7 dc8b false dc8a) e st) :
    RestSC cfg.P 2 (rest P_laws_FnReducedAreUnique 19) (laws_FnReducedAreUnique_C19a x0 x1 x186) e st :=
  rest_next cfgOK (f := i_laws_FnReducedAreUnique) (k := 19) (m := 11) (its := [.res (.tup [.v (.pr .str .str) dc1a, .v (.pr .str .str) dc1b]) [] [] [], .res (.tup [.v .bool dc2a, .v .bool dc2b]) [] [] [], .res (.tup [.v .bool dc3a, .v .bool dc3b]) [] [] [], .res (.s (.v (.pr .str .str) dc4)) [] [] [], .res (.tup [.v .bool dc5a, .v .bool dc5b]) [] [] [], .res (.tup [.v .bool dc6a, .v .bool dc6b]) [] [] [], .res (.s (.v .str dc7)) [] [] [], .res (.tup [.v (.pr .str .str) dc8a, .v .bool dc8b]) [] [] [], .res (.tup [.v (.pr .str .str) dc9a, .v .bool dc9b]) [] [] [], .bool false, .bool false, .bool false, .bool false, .bool false, .bool false])
    (ps := [SC cfg.P i_spec_DrawAreSamePairs [.s (.v (.sl (.int .u8)) x1)] (.tup [.v (.pr .str .str) dc1a, .v (.pr .str .str) dc1b]) [],
      SC cfg.P i_impl_AreSamePairs [.s (.v (.pr .str .str) dc1a), .s (.v (.pr .str .str) dc1b)] (.tup [.v .bool dc2a, .v .bool dc2b]) [],
      SC cfg.P i_spec_AreSamePairs [.s (.v (.pr .str .str) dc1a), .s (.v (.pr .str .str) dc1b)] (.tup [.v .bool dc3a, .v .bool dc3b]) [],
      SC cfg.P i_spec_DrawIsReduced [.s (.v (.sl (.int .u8)) x1)] (.s (.v (.pr .str .str) dc4)) [],
      SC cfg.P i_impl_IsReduced [.s (.v (.pr .str .str) dc4)] (.tup [.v .bool dc5a, .v .bool dc5b]) [],
      SC cfg.P i_spec_IsReduced [.s (.v (.pr .str .str) dc4)] (.tup [.v .bool dc6a, .v .bool dc6b]) [],
      SC cfg.P i_spec_DrawParsePair [.s (.v (.sl (.int .u8)) x0)] (.s (.v .str dc7)) [],
      SC cfg.P i_impl_ParsePair [.s (.v .str dc7)] (.tup [.v (.pr .str .str) dc8a, .v .bool dc8b]) [],
      SC cfg.P i_spec_ParsePair [.s (.v .str dc7)] (.tup [.v (.pr .str .str) dc9a, .v .bool dc9b]) [],
      (!(dc2b == dc3b)) = false,
      (!(dc2a == dc3a)) = false,
      (!(dc5b == dc6b)) = false,
      (!(dc5a == dc6a)) = false,
      (!(dc8b == dc9b)) = false,
      (!(((dc8a.1).toList == (dc9a.1).toList) && ((dc8a.2).toList == (dc9a.2).toList))) = false]) (st1 := laws_FnReducedAreUnique_C30a dc7 dc8b false dc8a) (by kernel_rfl) ⟨h1, h2, h3, h4, h5, h6, h7, h8, h9, h10, h11, h12, h13, h14, h15, trivial⟩ next

theorem laws_FnReducedAreUnique_C19b_i1 (x0 : (List Int)) (x1 : (List Int)) (x170 : Bool) (xo19 : (ByteArray × ByteArray)) (xo21 : (ByteArray × ByteArray)) (dc1a : (ByteArray × ByteArray)) (dc1b : (ByteArray × ByteArray)) (dc2a : Bool) (dc2b : Bool) (dc3a : Bool) (dc3b : Bool) (dc4 : (ByteArray × ByteArray)) (dc5a : Bool) (dc5b : Bool) (dc6a : Bool) (dc6b : Bool) (dc7 : ByteArray) (dc8a : (ByteArray × ByteArray)) (dc8b : Bool) (dc9a : (ByteArray × ByteArray)) (dc9b : Bool)
    (h1 : SC cfg.P i_spec_DrawAreSamePairs [.s (.v (.sl (.int .u8)) x1)] (.tup [.v (.pr .str .str) dc1a, .v (.pr .str .str) dc1b]) [])
    (h2 : SC cfg.P i_impl_AreSamePairs [.s (.v (.pr .str .str) dc1a), .s (.v (.pr .str .str) dc1b)] (.tup [.v .bool dc2a, .v .bool dc2b]) [])
    (h3 : SC cfg.P i_spec_AreSamePairs [.s (.v (.pr .str .str) dc1a), .s (.v (.pr .str .str) dc1b)] (.tup [.v .bool dc3a, .v .bool dc3b]) [])
    (h4 : SC cfg.P i_spec_DrawIsReduced [.s (.v (.sl (.int .u8)) x1)] (.s (.v (.pr .str .str) dc4)) [])
    (h5 : SC cfg.P i_impl_IsReduced [.s (.v (.pr .str .str) dc4)] (.tup [.v .bool dc5a, .v .bool dc5b]) [])
    (h6 : SC cfg.P i_spec_IsReduced [.s (.v (.pr .str .str) dc4)] (.tup [.v .bool dc6a, .v .bool dc6b]) [])
    (h7 : SC cfg.P i_spec_DrawParsePair [.s (.v (.sl (.int .u8)) x0)] (.s (.v .str dc7)) [])
    (h8 : SC cfg.P i_impl_ParsePair [.s (.v .str dc7)] (.tup [.v (.pr .str .str) dc8a, .v .bool dc8b]) [])
    (h9 : SC cfg.P i_spec_ParsePair [.s (.v .str dc7)] (.tup [.v (.pr .str .str) dc9a, .v .bool dc9b]) [])
    (h10 : (!(dc2b == dc3b)) = false)
    (h11 : (!(dc2a == dc3a)) = false)
    (h12 : (!(dc5b == dc6b)) = false)
    (h13 : (!(dc5a == dc6a)) = false)
    (h14 : (!(dc8b == dc9b)) = false)
    (h15 : (!(((dc8a.1).toList == (dc9a.1).toList) && ((dc8a.2).toList == (dc9a.2).toList))) = false)
    {e : AEx} {st : St} (next : RestSC cfg.P 2 (rest P_laws_FnReducedAreUnique 30) (laws_FnReducedAreUnique_C30a dc7 dc8b false dc8a) e st) :
    RestSC cfg.P 2 (rest P_laws_FnReducedAreUnique 19) (laws_FnReducedAreUnique_C19b x0 x1 x170 xo19 xo21) e st :=
  rest_next cfgOK (f := i_laws_FnReducedAreUnique) (k := 19) (m := 11) (its := [.res (.tup [.v (.pr .str .str) dc1a, .v (.pr .str .str) dc1b]) [] [] [], .res (.tup [.v .bool dc2a, .v .bool dc2b]) [] [] [], .res (.tup [.v .bool dc3a, .v .bool dc3b]) [] [] [], .res (.s (.v (.pr .str .str) dc4)) [] [] [], .res (.tup [.v .bool dc5a, .v .bool dc5b]) [] [] [], .res (.tup [.v .bool dc6a, .v .bool dc6b]) [] [] [], .res (.s (.v .str dc7)) [] [] [], .res (.tup [.v (.pr .str .str) dc8a, .v .bool dc8b]) [] [] [], .res (.tup [.v (.pr .str .str) dc9a, .v .bool dc9b]) [] [] [], .bool false, .bool false, .bool false, .bool false, .bool false, .bool false])
    (ps := [SC cfg.P i_spec_DrawAreSamePairs [.s (.v (.sl (.int .u8)) x1)] (.tup [.v (.pr .str .str) dc1a, .v (.pr .str .str) dc1b]) [],
      SC cfg.P i_impl_AreSamePairs [.s (.v (.pr .str .str) dc1a), .s (.v (.pr .str .str) dc1b)] (.tup [.v .bool dc2a, .v .bool dc2b]) [],
      SC cfg.P i_spec_AreSamePairs [.s (.v (.pr .str .str) dc1a), .s (.v (.pr .str .str) dc1b)] (.tup [.v .bool dc3a, .v .bool dc3b]) [],
      SC cfg.P i_spec_DrawIsReduced [.s (.v (.sl (.int .u8)) x1)] (.s (.v (.pr .str .str) dc4)) [],
      SC cfg.P i_impl_IsReduced [.s (.v (.pr .str .str) dc4)] (.tup [.v .bool dc5a, .v .bool dc5b]) [],
      SC cfg.P i_spec_IsReduced [.s (.v (.pr .str .str) dc4)] (.tup [.v .bool dc6a, .v .bool dc6b]) [],
      SC cfg.P i_spec_DrawParsePair [.s (.v (.sl (.int .u8)) x0)] (.s (.v .str dc7)) [],
      SC cfg.P i_impl_ParsePair [.s (.v .str dc7)] (.tup [.v (.pr .str .str) dc8a, .v .bool dc8b]) [],
      SC cfg.P i_spec_ParsePair [.s (.v .str dc7)] (.tup [.v (.pr .str .str) dc9a, .v .bool dc9b]) [],
      (!(dc2b == dc3b)) = false,
      (!(dc2a == dc3a)) = false,
      (!(dc5b == dc6b)) = false,
      (!(dc5a == dc6a)) = false,
      (!(dc8b == dc9b)) = false,
      (!(((dc8a.1).toList == (dc9a.1).toList) && ((dc8a.2).toList == (dc9a.2).toList))) = false]) (st1 := laws_FnReducedAreUnique_C30a dc7 dc8b false dc8a) (by kernel_rfl) ⟨h1, h2, h3, h4, h5, h6, h7, h8, h9, h10, h11, h12, h13, h14, h15, trivial⟩ next

theorem laws_FnReducedAreUnique_C30a_x1 (x38 : ByteArray) (x255 : Bool) (xo39 : (ByteArray × ByteArray)) (dc1a : ByteArray)
    (h1 : SC cfg.P i_impl_PairText [.s (.v (.pr .str .str) xo39)] (.tup [.v .str dc1a, .v .bool true]) [])
    (h2 : dc1a = x38) :
    RestSC cfg.P 2 (rest P_laws_FnReducedAreUnique 30) (laws_FnReducedAreUnique_C30a x38 true x255 xo39) .ret (laws_FnReducedAreUnique_R1 true) :=
  rest_ret cfgOK (f := i_laws_FnReducedAreUnique) (k := 30) (m := 2) (its := [.res (.tup [.v .str dc1a, .v .bool true]) [] [] [], .bool true])
    (ps := [SC cfg.P i_impl_PairText [.s (.v (.pr .str .str) xo39)] (.tup [.v .str dc1a, .v .bool true]) [],
      ((dc1a).toList == (x38).toList) = true]) (by kernel_rfl) ⟨h1, (seq_t h2), trivial⟩

theorem laws_FnReducedAreUnique_C30a_i2 (x38 : ByteArray) (x255 : Bool) (xo39 : (ByteArray × ByteArray))
    {e : AEx} {st : St} (next : RestSC cfg.P 2 (rest P_laws_FnReducedAreUnique 32) (laws_FnReducedAreUnique_C32a x38 false xo39) e st) :
    RestSC cfg.P 2 (rest P_laws_FnReducedAreUnique 30) (laws_FnReducedAreUnique_C30a x38 false x255 xo39) e st :=
  rest_next cfgOK (f := i_laws_FnReducedAreUnique) (k := 30) (m := 2) (its := [])
    (ps := []) (st1 := laws_FnReducedAreUnique_C32a x38 false xo39) (by kernel_rfl) trivial next

theorem laws_FnReducedAreUnique_C32a_x1 (x38 : ByteArray) (x256 : Bool) (xo39 : (ByteArray × ByteArray))
     :
    RestSC cfg.P 2 (rest P_laws_FnReducedAreUnique 32) (laws_FnReducedAreUnique_C32a x38 x256 xo39) .ret (laws_FnReducedAreUnique_R1 true) :=
  rest_ret cfgOK (f := i_laws_FnReducedAreUnique) (k := 32) (m := 2) (its := [])
    (ps := []) (by kernel_rfl) trivial

theorem laws_FnReducedAreUnique_R1_of (a0 : (List Int)) (a1 : (List Int)) (y4 : Bool)
    (h : RestSC cfg.P 2 (rest P_laws_FnReducedAreUnique 0) (laws_FnReducedAreUnique_C0a a0 a1) .ret (laws_FnReducedAreUnique_R1 y4)) :
    SC cfg.P i_laws_FnReducedAreUnique [.s (.v (.sl (.int .u8)) a0), .s (.v (.sl (.int .u8)) a1)] (.s (.v .bool y4)) [] :=
  SC_of_rest cfgOK (f := i_laws_FnReducedAreUnique) h (by kernel_rfl) (by kernel_rfl) (by kernel_rfl) get_laws_FnReducedAreUnique (by decide)

/-! ### spec_DrawReduceBy -/


theorem spec_DrawReduceBy_p1 (a0 : (List Int)) (c1o0 : ((List Int) × (Int × Int))) (c2 : (ByteArray × ByteArray)) (c2o0 : ((List Int) × (Int × Int))) (c3 : (List Int)) (c3o0 : ((List Int) × (Int × Int)))
    (h1 : SC cfg.P i_spec_l1Cur_one [.s (.mbx (.pr (.sl (.int .u8)) (.pr (.int .i64) (.int .u64))) (a0, ((0 : Int), (0 : Int)))), .s (.v (.int .i64) (4 : Int))] (.s (.v .bool true)) [.box (.pr (.sl (.int .u8)) (.pr (.int .i64) (.int .u64))) c1o0])
    (h2 : SC cfg.P i_spec_l1Cur_pair [.s (.mbx (.pr (.sl (.int .u8)) (.pr (.int .i64) (.int .u64))) c1o0), .s (.v (.int .i64) (6 : Int))] (.s (.v (.pr .str .str) c2)) [.box (.pr (.sl (.int .u8)) (.pr (.int .i64) (.int .u64))) c2o0])
    (h3 : SC cfg.P i_spec_l1Cur_choices [.s (.mbx (.pr (.sl (.int .u8)) (.pr (.int .i64) (.int .u64))) c2o0)] (.s (.own t_int (.int .i64) c3)) [.box (.pr (.sl (.int .u8)) (.pr (.int .i64) (.int .u64))) c3o0]) :
    SC cfg.P i_spec_DrawReduceBy [.s (.v (.sl (.int .u8)) a0)] (.tup [.v (.pr .str .str) c2, .own t_int (.int .i64) c3]) [] :=
  SC_of_run cfgOK (its := [.res (.s (.v .bool true)) [.box (.pr (.sl (.int .u8)) (.pr (.int .i64) (.int .u64))) c1o0] [] [], .res (.s (.v (.pr .str .str) c2)) [.box (.pr (.sl (.int .u8)) (.pr (.int .i64) (.int .u64))) c2o0] [] [], .res (.s (.own t_int (.int .i64) c3)) [.box (.pr (.sl (.int .u8)) (.pr (.int .i64) (.int .u64))) c3o0] [] [13]])
    (ps := [SC cfg.P i_spec_l1Cur_one [.s (.mbx (.pr (.sl (.int .u8)) (.pr (.int .i64) (.int .u64))) (a0, ((0 : Int), (0 : Int)))), .s (.v (.int .i64) (4 : Int))] (.s (.v .bool true)) [.box (.pr (.sl (.int .u8)) (.pr (.int .i64) (.int .u64))) c1o0],
      SC cfg.P i_spec_l1Cur_pair [.s (.mbx (.pr (.sl (.int .u8)) (.pr (.int .i64) (.int .u64))) c1o0), .s (.v (.int .i64) (6 : Int))] (.s (.v (.pr .str .str) c2)) [.box (.pr (.sl (.int .u8)) (.pr (.int .i64) (.int .u64))) c2o0],
      SC cfg.P i_spec_l1Cur_choices [.s (.mbx (.pr (.sl (.int .u8)) (.pr (.int .i64) (.int .u64))) c2o0)] (.s (.own t_int (.int .i64) c3)) [.box (.pr (.sl (.int .u8)) (.pr (.int .i64) (.int .u64))) c3o0]]) (by kernel_rfl) ⟨h1, h2, h3, trivial⟩ get_spec_DrawReduceBy (by decide)

theorem spec_DrawReduceBy_p2 (a0 : (List Int)) (c1o0 : ((List Int) × (Int × Int))) (c2 : (ByteArray × ByteArray)) (c2o0 : ((List Int) × (Int × Int))) (c3 : (List Int)) (c3o0 : ((List Int) × (Int × Int)))
    (h1 : SC cfg.P i_spec_l1Cur_one [.s (.mbx (.pr (.sl (.int .u8)) (.pr (.int .i64) (.int .u64))) (a0, ((0 : Int), (0 : Int)))), .s (.v (.int .i64) (4 : Int))] (.s (.v .bool false)) [.box (.pr (.sl (.int .u8)) (.pr (.int .i64) (.int .u64))) c1o0])
    (h2 : SC cfg.P i_spec_l1Cur_loose [.s (.mbx (.pr (.sl (.int .u8)) (.pr (.int .i64) (.int .u64))) c1o0)] (.s (.v (.pr .str .str) c2)) [.box (.pr (.sl (.int .u8)) (.pr (.int .i64) (.int .u64))) c2o0])
    (h3 : SC cfg.P i_spec_l1Cur_choices [.s (.mbx (.pr (.sl (.int .u8)) (.pr (.int .i64) (.int .u64))) c2o0)] (.s (.own t_int (.int .i64) c3)) [.box (.pr (.sl (.int .u8)) (.pr (.int .i64) (.int .u64))) c3o0]) :
    SC cfg.P i_spec_DrawReduceBy [.s (.v (.sl (.int .u8)) a0)] (.tup [.v (.pr .str .str) c2, .own t_int (.int .i64) c3]) [] :=
  SC_of_run cfgOK (its := [.res (.s (.v .bool false)) [.box (.pr (.sl (.int .u8)) (.pr (.int .i64) (.int .u64))) c1o0] [] [], .res (.s (.v (.pr .str .str) c2)) [.box (.pr (.sl (.int .u8)) (.pr (.int .i64) (.int .u64))) c2o0] [] [], .res (.s (.own t_int (.int .i64) c3)) [.box (.pr (.sl (.int .u8)) (.pr (.int .i64) (.int .u64))) c3o0] [] [17]])
    (ps := [SC cfg.P i_spec_l1Cur_one [.s (.mbx (.pr (.sl (.int .u8)) (.pr (.int .i64) (.int .u64))) (a0, ((0 : Int), (0 : Int)))), .s (.v (.int .i64) (4 : Int))] (.s (.v .bool false)) [.box (.pr (.sl (.int .u8)) (.pr (.int .i64) (.int .u64))) c1o0],
      SC cfg.P i_spec_l1Cur_loose [.s (.mbx (.pr (.sl (.int .u8)) (.pr (.int .i64) (.int .u64))) c1o0)] (.s (.v (.pr .str .str) c2)) [.box (.pr (.sl (.int .u8)) (.pr (.int .i64) (.int .u64))) c2o0],
      SC cfg.P i_spec_l1Cur_choices [.s (.mbx (.pr (.sl (.int .u8)) (.pr (.int .i64) (.int .u64))) c2o0)] (.s (.own t_int (.int .i64) c3)) [.box (.pr (.sl (.int .u8)) (.pr (.int .i64) (.int .u64))) c3o0]]) (by kernel_rfl) ⟨h1, h2, h3, trivial⟩ get_spec_DrawReduceBy (by decide)

/-! ### impl_ReduceBy -/


def impl_ReduceBy_L0a (x1 : (List Int)) (x25 : (List Int)) (x26 : Int) (x27 : Int) (xo4 : (ByteArray × ByteArray)) (xo6 : (Tr × Tr)) : St := mkSt 59 [(1, .s (.v (.sl (.int .i64)) x1)), (4, .s (.adr 4 none)), (6, .s (.adr 6 none)), (25, .s (.v (.sl (.int .i64)) x25)), (26, .s (.v (.int .i64) x26)), (27, .s (.v (.int .i64) x27))] [(4, .box (.pr .str .str) xo4 false), (6, .box (.pr .tree .tree) xo6 false)]

def impl_ReduceBy_L0X1 (y5 : Bool) (yo4 : (ByteArray × ByteArray)) : St := mkSt 59 [(4, .s (.adr 4 none)), (5, .s (.v .bool y5))] [(4, .box (.pr .str .str) yo4 false)]

def impl_ReduceBy_L0X2 (y1 : (List Int)) (y25 : (List Int)) (y26 : Int) (y27 : Int) (y28 : Bool) (yo4 : (ByteArray × ByteArray)) (yo6 : (Tr × Tr)) : St := mkSt 59 [(1, .s (.v (.sl (.int .i64)) y1)), (4, .s (.adr 4 none)), (6, .s (.adr 6 none)), (25, .s (.v (.sl (.int .i64)) y25)), (26, .s (.v (.int .i64) y26)), (27, .s (.v (.int .i64) y27)), (28, .s (.v .bool y28))] [(4, .box (.pr .str .str) yo4 false), (6, .box (.pr .tree .tree) yo6 false)]

def impl_ReduceBy_L1a (x1 : (List Int)) (x25 : (List Int)) (x26 : Int) (x27 : Int) (x28 : Bool) (xo4 : (ByteArray × ByteArray)) (xo6 : (Tr × Tr)) : St := mkSt 59 [(1, .s (.v (.sl (.int .i64)) x1)), (4, .s (.adr 4 none)), (6, .s (.adr 6 none)), (25, .s (.v (.sl (.int .i64)) x25)), (26, .s (.v (.int .i64) x26)), (27, .s (.v (.int .i64) x27)), (28, .s (.v .bool x28))] [(4, .box (.pr .str .str) xo4 false), (6, .box (.pr .tree .tree) xo6 false)]

def impl_ReduceBy_L1X1 (y5 : Bool) (yo4 : (ByteArray × ByteArray)) : St := mkSt 59 [(4, .s (.adr 4 none)), (5, .s (.v .bool y5))] [(4, .box (.pr .str .str) yo4 false)]

def impl_ReduceBy_L1c (x1 : (List Int)) (xo4 : (ByteArray × ByteArray)) (xo6 : (Tr × Tr)) : St := mkSt 59 [(1, .s (.v (.sl (.int .i64)) x1)), (4, .s (.adr 4 none)), (6, .s (.adr 6 none))] [(4, .box (.pr .str .str) xo4 false), (6, .box (.pr .tree .tree) xo6 false)]

theorem impl_ReduceBy_L0a_x1 (x1 : (List Int)) (x25 : (List Int)) (x26 : Int) (x27 : Int) (xo4 : (ByteArray × ByteArray)) (xo6 : (Tr × Tr))
    (h1 : x27 < x26)
    (h2 : 0 ≤ x27)
    (h3 : x27 < (List.length x25 : Int))
    (h4 : (List.getD x25 (x27).toNat (0 : Int)) < (0 : Int)) :
    LoopSC cfg.P 2 (lb P_impl_ReduceBy 0) (impl_ReduceBy_L0a x1 x25 x26 x27 xo4 xo6) (.ret) (impl_ReduceBy_L0X1 false ((⟨#[]⟩ : ByteArray), (⟨#[]⟩ : ByteArray))) :=
  loop_out cfgOK (f := i_impl_ReduceBy) (its := [.bool true, .bool true])
    (ps := [decide (x27 < x26) = true,
      0 ≤ x27,
      x27 < (List.length x25 : Int),
      decide ((List.getD x25 (x27).toNat (0 : Int)) < (0 : Int)) = true]) (by kernel_rfl) ⟨(decide_eq_true h1), h2, h3, (decide_eq_true h4), trivial⟩ (fun h => by cases h)

theorem impl_ReduceBy_L0a_i2 (x1 : (List Int)) (x25 : (List Int)) (x26 : Int) (x27 : Int) (xo4 : (ByteArray × ByteArray)) (xo6 : (Tr × Tr))
    (h1 : x27 < x26)
    (h2 : 0 ≤ x27)
    (h3 : x27 < (List.length x25 : Int))
    (h4 : ¬ ((List.getD x25 (x27).toNat (0 : Int)) < (0 : Int)))
    {e : AEx} {st : St} (next : LoopSC cfg.P 2 (lb P_impl_ReduceBy 0) (impl_ReduceBy_L0a x1 x25 x26 (IntKind.wrap .i64 (x27 + (1 : Int))) xo4 xo6) e st) :
    LoopSC cfg.P 2 (lb P_impl_ReduceBy 0) (impl_ReduceBy_L0a x1 x25 x26 x27 xo4 xo6) e st :=
  loop_iter cfgOK (f := i_impl_ReduceBy) (its := [.bool true, .bool false])
    (ps := [decide (x27 < x26) = true,
      0 ≤ x27,
      x27 < (List.length x25 : Int),
      decide ((List.getD x25 (x27).toNat (0 : Int)) < (0 : Int)) = false]) (st1 := impl_ReduceBy_L0a x1 x25 x26 (IntKind.wrap .i64 (x27 + (1 : Int))) xo4 xo6) (by kernel_rfl) ⟨(decide_eq_true h1), h2, h3, (decide_eq_false h4), trivial⟩ next

theorem impl_ReduceBy_L0a_x3 (x1 : (List Int)) (x25 : (List Int)) (x26 : Int) (x27 : Int) (xo4 : (ByteArray × ByteArray)) (xo6 : (Tr × Tr))
    (h1 : ¬ (x27 < x26)) :
    LoopSC cfg.P 2 (lb P_impl_ReduceBy 0) (impl_ReduceBy_L0a x1 x25 x26 x27 xo4 xo6) (.exit 0) (impl_ReduceBy_L0X2 x1 x25 x26 x27 false xo4 xo6) :=
  loop_out cfgOK (f := i_impl_ReduceBy) (its := [.bool false])
    (ps := [decide (x27 < x26) = false]) (by kernel_rfl) ⟨(decide_eq_false h1), trivial⟩ (fun h => by cases h)

theorem impl_ReduceBy_L1a_x1 (x1 : (List Int)) (x25 : (List Int)) (x26 : Int) (x27 : Int) (x28 : Bool) (xo4 : (ByteArray × ByteArray)) (xo6 : (Tr × Tr)) (dc1 : (List Int)) (dc2 : (ByteArray × ByteArray))
    (h1 : SC cfg.P i_impl_pair_both [.s (.v (.pr .tree .tree) xo6)] (.s (.own t_int (.int .i64) dc1)) [])
    (h2 : ((List.length dc1 : Nat) : Int) = (0 : Int))
    (h3 : SC cfg.P i_impl_pair_plain [.s (.v (.pr .tree .tree) xo6)] (.s (.v (.pr .str .str) dc2)) []) :
    LoopSC cfg.P 2 (lb P_impl_ReduceBy 1) (impl_ReduceBy_L1a x1 x25 x26 x27 x28 xo4 xo6) (.ret) (impl_ReduceBy_L1X1 true dc2) :=
  loop_out cfgOK (f := i_impl_ReduceBy) (its := [.res (.s (.own t_int (.int .i64) dc1)) [] [] [36], .bool true, .res (.s (.v (.pr .str .str) dc2)) [] [] []])
    (ps := [SC cfg.P i_impl_pair_both [.s (.v (.pr .tree .tree) xo6)] (.s (.own t_int (.int .i64) dc1)) [],
      (((List.length dc1 : Nat) : Int) == (0 : Int)) = true,
      SC cfg.P i_impl_pair_plain [.s (.v (.pr .tree .tree) xo6)] (.s (.v (.pr .str .str) dc2)) []]) (by kernel_rfl) ⟨h1, (beq_iff_eq.mpr h2), h3, trivial⟩ (fun h => by cases h)

theorem impl_ReduceBy_L1a_i2 (x1 : (List Int)) (x25 : (List Int)) (x26 : Int) (x27 : Int) (x28 : Bool) (xo4 : (ByteArray × ByteArray)) (xo6 : (Tr × Tr)) (dc1 : (List Int)) (dc2 : (Tr × Tr))
    (h1 : SC cfg.P i_impl_pair_both [.s (.v (.pr .tree .tree) xo6)] (.s (.own t_int (.int .i64) dc1)) [])
    (h2 : ((List.length dc1 : Nat) : Int) ≠ (0 : Int))
    (h3 : ((List.length x1 : Nat) : Int) > (0 : Int))
    (h4 : (0 : Int) < (List.length x1 : Int))
    (h5 : ((List.length dc1 : Nat) : Int) ≠ 0)
    (h6 : (1 : Int) ≤ (List.length x1 : Int))
    (h7 : 0 ≤ (Int.tmod (List.getD x1 ((0 : Int)).toNat (0 : Int)) ((List.length dc1 : Nat) : Int)))
    (h8 : (Int.tmod (List.getD x1 ((0 : Int)).toNat (0 : Int)) ((List.length dc1 : Nat) : Int)) < (List.length dc1 : Int))
    (h9 : ((Int.tmod (List.getD x1 ((0 : Int)).toNat (0 : Int)) ((List.length dc1 : Nat) : Int))).toNat < List.length dc1)
    (h10 : SC cfg.P i_impl_pair_drop [.s (.v (.pr .tree .tree) xo6), .s (.v (.int .i64) (List.getD dc1 ((Int.tmod (List.getD x1 ((0 : Int)).toNat (0 : Int)) ((List.length dc1 : Nat) : Int))).toNat (0 : Int)))] (.s (.v (.pr .tree .tree) dc2)) [])
    {e : AEx} {st : St} (next : LoopSC cfg.P 2 (lb P_impl_ReduceBy 1) (impl_ReduceBy_L1c (cutL x1 (1 : Int) ((List.length x1 : Nat) : Int)) xo4 dc2) e st) :
    LoopSC cfg.P 2 (lb P_impl_ReduceBy 1) (impl_ReduceBy_L1a x1 x25 x26 x27 x28 xo4 xo6) e st :=
  loop_iter cfgOK (f := i_impl_ReduceBy) (its := [.res (.s (.own t_int (.int .i64) dc1)) [] [] [36], .bool false, .bool true, .res (.s (.v (.pr .tree .tree) dc2)) [] [] []])
    (ps := [SC cfg.P i_impl_pair_both [.s (.v (.pr .tree .tree) xo6)] (.s (.own t_int (.int .i64) dc1)) [],
      (((List.length dc1 : Nat) : Int) == (0 : Int)) = false,
      decide (((List.length x1 : Nat) : Int) > (0 : Int)) = true,
      0 ≤ (0 : Int),
      (0 : Int) < (List.length x1 : Int),
      ((List.length dc1 : Nat) : Int) ≠ 0,
      0 ≤ (1 : Int),
      (1 : Int) ≤ (List.length x1 : Int),
      0 ≤ (Int.tmod (List.getD x1 ((0 : Int)).toNat (0 : Int)) ((List.length dc1 : Nat) : Int)),
      (Int.tmod (List.getD x1 ((0 : Int)).toNat (0 : Int)) ((List.length dc1 : Nat) : Int)) < (List.length dc1 : Int),
      ((Int.tmod (List.getD x1 ((0 : Int)).toNat (0 : Int)) ((List.length dc1 : Nat) : Int))).toNat < List.length dc1,
      SC cfg.P i_impl_pair_drop [.s (.v (.pr .tree .tree) xo6), .s (.v (.int .i64) (List.getD dc1 ((Int.tmod (List.getD x1 ((0 : Int)).toNat (0 : Int)) ((List.length dc1 : Nat) : Int))).toNat (0 : Int)))] (.s (.v (.pr .tree .tree) dc2)) []]) (st1 := impl_ReduceBy_L1c (cutL x1 (1 : Int) ((List.length x1 : Nat) : Int)) xo4 dc2) (by kernel_rfl) ⟨h1, (beq_eq_false_iff_ne.mpr h2), (decide_eq_true h3), (by decide), h4, h5, (by decide), h6, h7, h8, h9, h10, trivial⟩ next

theorem impl_ReduceBy_L1a_i3 (x1 : (List Int)) (x25 : (List Int)) (x26 : Int) (x27 : Int) (x28 : Bool) (xo4 : (ByteArray × ByteArray)) (xo6 : (Tr × Tr)) (dc1 : (List Int)) (dc2 : (Tr × Tr))
    (h1 : SC cfg.P i_impl_pair_both [.s (.v (.pr .tree .tree) xo6)] (.s (.own t_int (.int .i64) dc1)) [])
    (h2 : ((List.length dc1 : Nat) : Int) ≠ (0 : Int))
    (h3 : ¬ (((List.length x1 : Nat) : Int) > (0 : Int)))
    (h4 : (0 : Int) < (List.length dc1 : Int))
    (h5 : ((0 : Int)).toNat < List.length dc1)
    (h6 : SC cfg.P i_impl_pair_drop [.s (.v (.pr .tree .tree) xo6), .s (.v (.int .i64) (List.getD dc1 ((0 : Int)).toNat (0 : Int)))] (.s (.v (.pr .tree .tree) dc2)) [])
    {e : AEx} {st : St} (next : LoopSC cfg.P 2 (lb P_impl_ReduceBy 1) (impl_ReduceBy_L1c x1 xo4 dc2) e st) :
    LoopSC cfg.P 2 (lb P_impl_ReduceBy 1) (impl_ReduceBy_L1a x1 x25 x26 x27 x28 xo4 xo6) e st :=
  loop_iter cfgOK (f := i_impl_ReduceBy) (its := [.res (.s (.own t_int (.int .i64) dc1)) [] [] [36], .bool false, .bool false, .res (.s (.v (.pr .tree .tree) dc2)) [] [] []])
    (ps := [SC cfg.P i_impl_pair_both [.s (.v (.pr .tree .tree) xo6)] (.s (.own t_int (.int .i64) dc1)) [],
      (((List.length dc1 : Nat) : Int) == (0 : Int)) = false,
      decide (((List.length x1 : Nat) : Int) > (0 : Int)) = false,
      0 ≤ (0 : Int),
      (0 : Int) < (List.length dc1 : Int),
      ((0 : Int)).toNat < List.length dc1,
      SC cfg.P i_impl_pair_drop [.s (.v (.pr .tree .tree) xo6), .s (.v (.int .i64) (List.getD dc1 ((0 : Int)).toNat (0 : Int)))] (.s (.v (.pr .tree .tree) dc2)) []]) (st1 := impl_ReduceBy_L1c x1 xo4 dc2) (by kernel_rfl) ⟨h1, (beq_eq_false_iff_ne.mpr h2), (decide_eq_false h3), (by decide), h4, h5, h6, trivial⟩ next

theorem impl_ReduceBy_L1c_x1 (x1 : (List Int)) (xo4 : (ByteArray × ByteArray)) (xo6 : (Tr × Tr)) (dc1 : (List Int)) (dc2 : (ByteArray × ByteArray))
    (h1 : SC cfg.P i_impl_pair_both [.s (.v (.pr .tree .tree) xo6)] (.s (.own t_int (.int .i64) dc1)) [])
    (h2 : ((List.length dc1 : Nat) : Int) = (0 : Int))
    (h3 : SC cfg.P i_impl_pair_plain [.s (.v (.pr .tree .tree) xo6)] (.s (.v (.pr .str .str) dc2)) []) :
    LoopSC cfg.P 2 (lb P_impl_ReduceBy 1) (impl_ReduceBy_L1c x1 xo4 xo6) (.ret) (impl_ReduceBy_L1X1 true dc2) :=
  loop_out cfgOK (f := i_impl_ReduceBy) (its := [.res (.s (.own t_int (.int .i64) dc1)) [] [] [36], .bool true, .res (.s (.v (.pr .str .str) dc2)) [] [] []])
    (ps := [SC cfg.P i_impl_pair_both [.s (.v (.pr .tree .tree) xo6)] (.s (.own t_int (.int .i64) dc1)) [],
      (((List.length dc1 : Nat) : Int) == (0 : Int)) = true,
      SC cfg.P i_impl_pair_plain [.s (.v (.pr .tree .tree) xo6)] (.s (.v (.pr .str .str) dc2)) []]) (by kernel_rfl) ⟨h1, (beq_iff_eq.mpr h2), h3, trivial⟩ (fun h => by cases h)

theorem impl_ReduceBy_L1c_i2 (x1 : (List Int)) (xo4 : (ByteArray × ByteArray)) (xo6 : (Tr × Tr)) (dc1 : (List Int)) (dc2 : (Tr × Tr))
    (h1 : SC cfg.P i_impl_pair_both [.s (.v (.pr .tree .tree) xo6)] (.s (.own t_int (.int .i64) dc1)) [])
    (h2 : ((List.length dc1 : Nat) : Int) ≠ (0 : Int))
    (h3 : ((List.length x1 : Nat) : Int) > (0 : Int))
    (h4 : (0 : Int) < (List.length x1 : Int))
    (h5 : ((List.length dc1 : Nat) : Int) ≠ 0)
    (h6 : (1 : Int) ≤ (List.length x1 : Int))
    (h7 : 0 ≤ (Int.tmod (List.getD x1 ((0 : Int)).toNat (0 : Int)) ((List.length dc1 : Nat) : Int)))
    (h8 : (Int.tmod (List.getD x1 ((0 : Int)).toNat (0 : Int)) ((List.length dc1 : Nat) : Int)) < (List.length dc1 : Int))
    (h9 : ((Int.tmod (List.getD x1 ((0 : Int)).toNat (0 : Int)) ((List.length dc1 : Nat) : Int))).toNat < List.length dc1)
    (h10 : SC cfg.P i_impl_pair_drop [.s (.v (.pr .tree .tree) xo6), .s (.v (.int .i64) (List.getD dc1 ((Int.tmod (List.getD x1 ((0 : Int)).toNat (0 : Int)) ((List.length dc1 : Nat) : Int))).toNat (0 : Int)))] (.s (.v (.pr .tree .tree) dc2)) [])
    {e : AEx} {st : St} (next : LoopSC cfg.P 2 (lb P_impl_ReduceBy 1) (impl_ReduceBy_L1c (cutL x1 (1 : Int) ((List.length x1 : Nat) : Int)) xo4 dc2) e st) :
    LoopSC cfg.P 2 (lb P_impl_ReduceBy 1) (impl_ReduceBy_L1c x1 xo4 xo6) e st :=
  loop_iter cfgOK (f := i_impl_ReduceBy) (its := [.res (.s (.own t_int (.int .i64) dc1)) [] [] [36], .bool false, .bool true, .res (.s (.v (.pr .tree .tree) dc2)) [] [] []])
    (ps := [SC cfg.P i_impl_pair_both [.s (.v (.pr .tree .tree) xo6)] (.s (.own t_int (.int .i64) dc1)) [],
      (((List.length dc1 : Nat) : Int) == (0 : Int)) = false,
      decide (((List.length x1 : Nat) : Int) > (0 : Int)) = true,
      0 ≤ (0 : Int),
      (0 : Int) < (List.length x1 : Int),
      ((List.length dc1 : Nat) : Int) ≠ 0,
      0 ≤ (1 : Int),
      (1 : Int) ≤ (List.length x1 : Int),
      0 ≤ (Int.tmod (List.getD x1 ((0 : Int)).toNat (0 : Int)) ((List.length dc1 : Nat) : Int)),
      (Int.tmod (List.getD x1 ((0 : Int)).toNat (0 : Int)) ((List.length dc1 : Nat) : Int)) < (List.length dc1 : Int),
      ((Int.tmod (List.getD x1 ((0 : Int)).toNat (0 : Int)) ((List.length dc1 : Nat) : Int))).toNat < List.length dc1,
      SC cfg.P i_impl_pair_drop [.s (.v (.pr .tree .tree) xo6), .s (.v (.int .i64) (List.getD dc1 ((Int.tmod (List.getD x1 ((0 : Int)).toNat (0 : Int)) ((List.length dc1 : Nat) : Int))).toNat (0 : Int)))] (.s (.v (.pr .tree .tree) dc2)) []]) (st1 := impl_ReduceBy_L1c (cutL x1 (1 : Int) ((List.length x1 : Nat) : Int)) xo4 dc2) (by kernel_rfl) ⟨h1, (beq_eq_false_iff_ne.mpr h2), (decide_eq_true h3), (by decide), h4, h5, (by decide), h6, h7, h8, h9, h10, trivial⟩ next

theorem impl_ReduceBy_L1c_i3 (x1 : (List Int)) (xo4 : (ByteArray × ByteArray)) (xo6 : (Tr × Tr)) (dc1 : (List Int)) (dc2 : (Tr × Tr))
    (h1 : SC cfg.P i_impl_pair_both [.s (.v (.pr .tree .tree) xo6)] (.s (.own t_int (.int .i64) dc1)) [])
    (h2 : ((List.length dc1 : Nat) : Int) ≠ (0 : Int))
    (h3 : ¬ (((List.length x1 : Nat) : Int) > (0 : Int)))
    (h4 : (0 : Int) < (List.length dc1 : Int))
    (h5 : ((0 : Int)).toNat < List.length dc1)
    (h6 : SC cfg.P i_impl_pair_drop [.s (.v (.pr .tree .tree) xo6), .s (.v (.int .i64) (List.getD dc1 ((0 : Int)).toNat (0 : Int)))] (.s (.v (.pr .tree .tree) dc2)) [])
    {e : AEx} {st : St} (next : LoopSC cfg.P 2 (lb P_impl_ReduceBy 1) (impl_ReduceBy_L1c x1 xo4 dc2) e st) :
    LoopSC cfg.P 2 (lb P_impl_ReduceBy 1) (impl_ReduceBy_L1c x1 xo4 xo6) e st :=
  loop_iter cfgOK (f := i_impl_ReduceBy) (its := [.res (.s (.own t_int (.int .i64) dc1)) [] [] [36], .bool false, .bool false, .res (.s (.v (.pr .tree .tree) dc2)) [] [] []])
    (ps := [SC cfg.P i_impl_pair_both [.s (.v (.pr .tree .tree) xo6)] (.s (.own t_int (.int .i64) dc1)) [],
      (((List.length dc1 : Nat) : Int) == (0 : Int)) = false,
      decide (((List.length x1 : Nat) : Int) > (0 : Int)) = false,
      0 ≤ (0 : Int),
      (0 : Int) < (List.length dc1 : Int),
      ((0 : Int)).toNat < List.length dc1,
      SC cfg.P i_impl_pair_drop [.s (.v (.pr .tree .tree) xo6), .s (.v (.int .i64) (List.getD dc1 ((0 : Int)).toNat (0 : Int)))] (.s (.v (.pr .tree .tree) dc2)) []]) (st1 := impl_ReduceBy_L1c x1 xo4 dc2) (by kernel_rfl) ⟨h1, (beq_eq_false_iff_ne.mpr h2), (decide_eq_false h3), (by decide), h4, h5, h6, trivial⟩ next

theorem impl_ReduceBy_p1 (a0 : (ByteArray × ByteArray)) (a1 : (List Int)) (c1a : (Tr × Tr))
    (h1 : SC cfg.P i_impl_pairOf [.s (.v (.pr .str .str) a0)] (.tup [.v (.pr .tree .tree) c1a, .v .bool true]) [])
    (h2 : ((List.length a1 : Nat) : Int) > (20 : Int)) :
    SC cfg.P i_impl_ReduceBy [.s (.v (.pr .str .str) a0), .s (.v (.sl (.int .i64)) a1)] (.tup [.v (.pr .str .str) ((⟨#[]⟩ : ByteArray), (⟨#[]⟩ : ByteArray)), .v .bool false]) [] :=
  SC_of_run cfgOK (its := [.res (.tup [.v (.pr .tree .tree) c1a, .v .bool true]) [] [] [], .bool true])
    (ps := [SC cfg.P i_impl_pairOf [.s (.v (.pr .str .str) a0)] (.tup [.v (.pr .tree .tree) c1a, .v .bool true]) [],
      decide (((List.length a1 : Nat) : Int) > (20 : Int)) = true]) (by kernel_rfl) ⟨h1, (decide_eq_true h2), trivial⟩ get_impl_ReduceBy (by decide)

theorem impl_ReduceBy_p2 (a0 : (ByteArray × ByteArray)) (a1 : (List Int)) (c1a : (Tr × Tr)) (k1y5 : Bool) (k1yo4 : (ByteArray × ByteArray))
    (h1 : SC cfg.P i_impl_pairOf [.s (.v (.pr .str .str) a0)] (.tup [.v (.pr .tree .tree) c1a, .v .bool true]) [])
    (h2 : ¬ (((List.length a1 : Nat) : Int) > (20 : Int)))
    (h3 : LoopSC cfg.P 2 (lb P_impl_ReduceBy 0) (impl_ReduceBy_L0a a1 a1 ((List.length a1 : Nat) : Int) (0 : Int) ((⟨#[]⟩ : ByteArray), (⟨#[]⟩ : ByteArray)) c1a) (.ret) (impl_ReduceBy_L0X1 k1y5 k1yo4)) :
    SC cfg.P i_impl_ReduceBy [.s (.v (.pr .str .str) a0), .s (.v (.sl (.int .i64)) a1)] (.tup [.v (.pr .str .str) k1yo4, .v .bool k1y5]) [] :=
  SC_of_run cfgOK (its := [.res (.tup [.v (.pr .tree .tree) c1a, .v .bool true]) [] [] [], .bool false, .loop (fun _ => (.ret, impl_ReduceBy_L0X1 k1y5 k1yo4))])
    (ps := [SC cfg.P i_impl_pairOf [.s (.v (.pr .str .str) a0)] (.tup [.v (.pr .tree .tree) c1a, .v .bool true]) [],
      decide (((List.length a1 : Nat) : Int) > (20 : Int)) = false,
      LoopSC cfg.P 2 (lb P_impl_ReduceBy 0) (impl_ReduceBy_L0a a1 a1 ((List.length a1 : Nat) : Int) (0 : Int) ((⟨#[]⟩ : ByteArray), (⟨#[]⟩ : ByteArray)) c1a) (.ret) (impl_ReduceBy_L0X1 k1y5 k1yo4)]) (by kernel_rfl) ⟨h1, (decide_eq_false h2), h3, trivial⟩ get_impl_ReduceBy (by decide)

theorem impl_ReduceBy_p3 (a0 : (ByteArray × ByteArray)) (a1 : (List Int)) (c1a : (Tr × Tr)) (k1y1 : (List Int)) (k1y25 : (List Int)) (k1y26 : Int) (k1y27 : Int) (k1y28 : Bool) (k1yo4 : (ByteArray × ByteArray)) (k1yo6 : (Tr × Tr)) (k2y5 : Bool) (k2yo4 : (ByteArray × ByteArray))
    (h1 : SC cfg.P i_impl_pairOf [.s (.v (.pr .str .str) a0)] (.tup [.v (.pr .tree .tree) c1a, .v .bool true]) [])
    (h2 : ¬ (((List.length a1 : Nat) : Int) > (20 : Int)))
    (h3 : LoopSC cfg.P 2 (lb P_impl_ReduceBy 0) (impl_ReduceBy_L0a a1 a1 ((List.length a1 : Nat) : Int) (0 : Int) ((⟨#[]⟩ : ByteArray), (⟨#[]⟩ : ByteArray)) c1a) (.exit 0) (impl_ReduceBy_L0X2 k1y1 k1y25 k1y26 k1y27 k1y28 k1yo4 k1yo6))
    (h4 : LoopSC cfg.P 2 (lb P_impl_ReduceBy 1) (impl_ReduceBy_L1a k1y1 k1y25 k1y26 k1y27 k1y28 k1yo4 k1yo6) (.ret) (impl_ReduceBy_L1X1 k2y5 k2yo4)) :
    SC cfg.P i_impl_ReduceBy [.s (.v (.pr .str .str) a0), .s (.v (.sl (.int .i64)) a1)] (.tup [.v (.pr .str .str) k2yo4, .v .bool k2y5]) [] :=
  SC_of_run cfgOK (its := [.res (.tup [.v (.pr .tree .tree) c1a, .v .bool true]) [] [] [], .bool false, .loop (fun _ => (.exit 0, impl_ReduceBy_L0X2 k1y1 k1y25 k1y26 k1y27 k1y28 k1yo4 k1yo6)), .loop (fun _ => (.ret, impl_ReduceBy_L1X1 k2y5 k2yo4))])
    (ps := [SC cfg.P i_impl_pairOf [.s (.v (.pr .str .str) a0)] (.tup [.v (.pr .tree .tree) c1a, .v .bool true]) [],
      decide (((List.length a1 : Nat) : Int) > (20 : Int)) = false,
      LoopSC cfg.P 2 (lb P_impl_ReduceBy 0) (impl_ReduceBy_L0a a1 a1 ((List.length a1 : Nat) : Int) (0 : Int) ((⟨#[]⟩ : ByteArray), (⟨#[]⟩ : ByteArray)) c1a) (.exit 0) (impl_ReduceBy_L0X2 k1y1 k1y25 k1y26 k1y27 k1y28 k1yo4 k1yo6),
      LoopSC cfg.P 2 (lb P_impl_ReduceBy 1) (impl_ReduceBy_L1a k1y1 k1y25 k1y26 k1y27 k1y28 k1yo4 k1yo6) (.ret) (impl_ReduceBy_L1X1 k2y5 k2yo4)]) (by kernel_rfl) ⟨h1, (decide_eq_false h2), h3, h4, trivial⟩ get_impl_ReduceBy (by decide)

theorem impl_ReduceBy_p4 (a0 : (ByteArray × ByteArray)) (a1 : (List Int)) (c1a : (Tr × Tr))
    (h1 : SC cfg.P i_impl_pairOf [.s (.v (.pr .str .str) a0)] (.tup [.v (.pr .tree .tree) c1a, .v .bool false]) []) :
    SC cfg.P i_impl_ReduceBy [.s (.v (.pr .str .str) a0), .s (.v (.sl (.int .i64)) a1)] (.tup [.v (.pr .str .str) ((⟨#[]⟩ : ByteArray), (⟨#[]⟩ : ByteArray)), .v .bool false]) [] :=
  SC_of_run cfgOK (its := [.res (.tup [.v (.pr .tree .tree) c1a, .v .bool false]) [] [] []])
    (ps := [SC cfg.P i_impl_pairOf [.s (.v (.pr .str .str) a0)] (.tup [.v (.pr .tree .tree) c1a, .v .bool false]) []]) (by kernel_rfl) ⟨h1, trivial⟩ get_impl_ReduceBy (by decide)

/-! ### spec_ReduceBy -/


theorem spec_ReduceBy_p1 (a0 : (ByteArray × ByteArray)) (a1 : (List Int)) (c3 : (ByteArray × ByteArray))
    (h1 : SC cfg.P i_spec_prGood [.s (.v (.pr .str .str) a0)] (.s (.v .bool true)) [])
    (h2 : SC cfg.P i_spec_prChoices [.s (.v (.sl (.int .i64)) a1)] (.s (.v .bool true)) [])
    (h3 : SC cfg.P i_spec_prReduce [.s (.v (.pr .str .str) a0), .s (.v (.sl (.int .i64)) a1)] (.s (.v (.pr .str .str) c3)) []) :
    SC cfg.P i_spec_ReduceBy [.s (.v (.pr .str .str) a0), .s (.v (.sl (.int .i64)) a1)] (.tup [.v (.pr .str .str) c3, .v .bool true]) [] :=
  SC_of_run cfgOK (its := [.res (.s (.v .bool true)) [] [] [], .res (.s (.v .bool true)) [] [] [], .res (.s (.v (.pr .str .str) c3)) [] [] []])
    (ps := [SC cfg.P i_spec_prGood [.s (.v (.pr .str .str) a0)] (.s (.v .bool true)) [],
      SC cfg.P i_spec_prChoices [.s (.v (.sl (.int .i64)) a1)] (.s (.v .bool true)) [],
      SC cfg.P i_spec_prReduce [.s (.v (.pr .str .str) a0), .s (.v (.sl (.int .i64)) a1)] (.s (.v (.pr .str .str) c3)) []]) (by kernel_rfl) ⟨h1, h2, h3, trivial⟩ get_spec_ReduceBy (by decide)

theorem spec_ReduceBy_p2 (a0 : (ByteArray × ByteArray)) (a1 : (List Int))
    (h1 : SC cfg.P i_spec_prGood [.s (.v (.pr .str .str) a0)] (.s (.v .bool true)) [])
    (h2 : SC cfg.P i_spec_prChoices [.s (.v (.sl (.int .i64)) a1)] (.s (.v .bool false)) []) :
    SC cfg.P i_spec_ReduceBy [.s (.v (.pr .str .str) a0), .s (.v (.sl (.int .i64)) a1)] (.tup [.v (.pr .str .str) ((⟨#[]⟩ : ByteArray), (⟨#[]⟩ : ByteArray)), .v .bool false]) [] :=
  SC_of_run cfgOK (its := [.res (.s (.v .bool true)) [] [] [], .res (.s (.v .bool false)) [] [] []])
    (ps := [SC cfg.P i_spec_prGood [.s (.v (.pr .str .str) a0)] (.s (.v .bool true)) [],
      SC cfg.P i_spec_prChoices [.s (.v (.sl (.int .i64)) a1)] (.s (.v .bool false)) []]) (by kernel_rfl) ⟨h1, h2, trivial⟩ get_spec_ReduceBy (by decide)

theorem spec_ReduceBy_p3 (a0 : (ByteArray × ByteArray)) (a1 : (List Int))
    (h1 : SC cfg.P i_spec_prGood [.s (.v (.pr .str .str) a0)] (.s (.v .bool false)) []) :
    SC cfg.P i_spec_ReduceBy [.s (.v (.pr .str .str) a0), .s (.v (.sl (.int .i64)) a1)] (.tup [.v (.pr .str .str) ((⟨#[]⟩ : ByteArray), (⟨#[]⟩ : ByteArray)), .v .bool false]) [] :=
  SC_of_run cfgOK (its := [.res (.s (.v .bool false)) [] [] []])
    (ps := [SC cfg.P i_spec_prGood [.s (.v (.pr .str .str) a0)] (.s (.v .bool false)) []]) (by kernel_rfl) ⟨h1, trivial⟩ get_spec_ReduceBy (by decide)

/-! ### impl_ReducePair -/


theorem impl_ReducePair_p1 (a0 : (ByteArray × ByteArray)) (c1a : (Tr × Tr)) (c2 : (Tr × Tr)) (c3 : (ByteArray × ByteArray))
    (h1 : SC cfg.P i_impl_pairOf [.s (.v (.pr .str .str) a0)] (.tup [.v (.pr .tree .tree) c1a, .v .bool true]) [])
    (h2 : SC cfg.P i_impl_pair_reduced [.s (.v (.pr .tree .tree) c1a)] (.s (.v (.pr .tree .tree) c2)) [])
    (h3 : SC cfg.P i_impl_pair_plain [.s (.v (.pr .tree .tree) c2)] (.s (.v (.pr .str .str) c3)) []) :
    SC cfg.P i_impl_ReducePair [.s (.v (.pr .str .str) a0)] (.tup [.v (.pr .str .str) c3, .v .bool true]) [] :=
  SC_of_run cfgOK (its := [.res (.tup [.v (.pr .tree .tree) c1a, .v .bool true]) [] [] [], .res (.s (.v (.pr .tree .tree) c2)) [] [] [], .res (.s (.v (.pr .str .str) c3)) [] [] []])
    (ps := [SC cfg.P i_impl_pairOf [.s (.v (.pr .str .str) a0)] (.tup [.v (.pr .tree .tree) c1a, .v .bool true]) [],
      SC cfg.P i_impl_pair_reduced [.s (.v (.pr .tree .tree) c1a)] (.s (.v (.pr .tree .tree) c2)) [],
      SC cfg.P i_impl_pair_plain [.s (.v (.pr .tree .tree) c2)] (.s (.v (.pr .str .str) c3)) []]) (by kernel_rfl) ⟨h1, h2, h3, trivial⟩ get_impl_ReducePair (by decide)

theorem impl_ReducePair_p2 (a0 : (ByteArray × ByteArray)) (c1a : (Tr × Tr))
    (h1 : SC cfg.P i_impl_pairOf [.s (.v (.pr .str .str) a0)] (.tup [.v (.pr .tree .tree) c1a, .v .bool false]) []) :
    SC cfg.P i_impl_ReducePair [.s (.v (.pr .str .str) a0)] (.tup [.v (.pr .str .str) ((⟨#[]⟩ : ByteArray), (⟨#[]⟩ : ByteArray)), .v .bool false]) [] :=
  SC_of_run cfgOK (its := [.res (.tup [.v (.pr .tree .tree) c1a, .v .bool false]) [] [] []])
    (ps := [SC cfg.P i_impl_pairOf [.s (.v (.pr .str .str) a0)] (.tup [.v (.pr .tree .tree) c1a, .v .bool false]) []]) (by kernel_rfl) ⟨h1, trivial⟩ get_impl_ReducePair (by decide)

/-! ### spec_ReducePair -/


theorem spec_ReducePair_p1 (a0 : (ByteArray × ByteArray)) (c2 : (ByteArray × ByteArray))
    (h1 : SC cfg.P i_spec_prGood [.s (.v (.pr .str .str) a0)] (.s (.v .bool true)) [])
    (h2 : SC cfg.P i_spec_prReduce [.s (.v (.pr .str .str) a0), .s (.v (.sl (.int .i64)) ([] : List Int))] (.s (.v (.pr .str .str) c2)) []) :
    SC cfg.P i_spec_ReducePair [.s (.v (.pr .str .str) a0)] (.tup [.v (.pr .str .str) c2, .v .bool true]) [] :=
  SC_of_run cfgOK (its := [.res (.s (.v .bool true)) [] [] [], .res (.s (.v (.pr .str .str) c2)) [] [] []])
    (ps := [SC cfg.P i_spec_prGood [.s (.v (.pr .str .str) a0)] (.s (.v .bool true)) [],
      SC cfg.P i_spec_prReduce [.s (.v (.pr .str .str) a0), .s (.v (.sl (.int .i64)) ([] : List Int))] (.s (.v (.pr .str .str) c2)) []]) (by kernel_rfl) ⟨h1, h2, trivial⟩ get_spec_ReducePair (by decide)

theorem spec_ReducePair_p2 (a0 : (ByteArray × ByteArray))
    (h1 : SC cfg.P i_spec_prGood [.s (.v (.pr .str .str) a0)] (.s (.v .bool false)) []) :
    SC cfg.P i_spec_ReducePair [.s (.v (.pr .str .str) a0)] (.tup [.v (.pr .str .str) ((⟨#[]⟩ : ByteArray), (⟨#[]⟩ : ByteArray)), .v .bool false]) [] :=
  SC_of_run cfgOK (its := [.res (.s (.v .bool false)) [] [] []])
    (ps := [SC cfg.P i_spec_prGood [.s (.v (.pr .str .str) a0)] (.s (.v .bool false)) []]) (by kernel_rfl) ⟨h1, trivial⟩ get_spec_ReducePair (by decide)

/-! ### impl_IsPair -/


theorem impl_IsPair_p1 (a0 : (ByteArray × ByteArray)) (c1a : (Tr × Tr)) (c1b : Bool)
    (h1 : SC cfg.P i_impl_pairOf [.s (.v (.pr .str .str) a0)] (.tup [.v (.pr .tree .tree) c1a, .v .bool c1b]) []) :
    SC cfg.P i_impl_IsPair [.s (.v (.pr .str .str) a0)] (.s (.v .bool c1b)) [] :=
  SC_of_run cfgOK (its := [.res (.tup [.v (.pr .tree .tree) c1a, .v .bool c1b]) [] [] []])
    (ps := [SC cfg.P i_impl_pairOf [.s (.v (.pr .str .str) a0)] (.tup [.v (.pr .tree .tree) c1a, .v .bool c1b]) []]) (by kernel_rfl) ⟨h1, trivial⟩ get_impl_IsPair (by decide)

/-! ### spec_DrawExpandPair -/


theorem spec_DrawExpandPair_p1 (a0 : (List Int)) (c1 : (ByteArray × ByteArray)) (c1o0 : ((List Int) × (Int × Int))) (c2 : Int) (c3 : Int) (c3o0 : ((List Int) × (Int × Int)))
    (h1 : SC cfg.P i_spec_l1Cur_pair [.s (.mbx (.pr (.sl (.int .u8)) (.pr (.int .i64) (.int .u64))) (a0, ((0 : Int), (0 : Int)))), .s (.v (.int .i64) (6 : Int))] (.s (.v (.pr .str .str) c1)) [.box (.pr (.sl (.int .u8)) (.pr (.int .i64) (.int .u64))) c1o0])
    (h2 : SC cfg.P i_spec_trCarets [.s (.v .str c1.1)] (.s (.v (.int .i64) c2)) [])
    (h3 : SC cfg.P i_spec_l1Cur_pick [.s (.mbx (.pr (.sl (.int .u8)) (.pr (.int .i64) (.int .u64))) c1o0), .s (.v (.int .i64) (IntKind.wrap .i64 (c2 + (3 : Int))))] (.s (.v (.int .i64) c3)) [.box (.pr (.sl (.int .u8)) (.pr (.int .i64) (.int .u64))) c3o0]) :
    SC cfg.P i_spec_DrawExpandPair [.s (.v (.sl (.int .u8)) a0)] (.tup [.v (.pr .str .str) c1, .v (.int .i64) (IntKind.wrap .i64 (c3 - (1 : Int)))]) [] :=
  SC_of_run cfgOK (its := [.res (.s (.v (.pr .str .str) c1)) [.box (.pr (.sl (.int .u8)) (.pr (.int .i64) (.int .u64))) c1o0] [] [], .res (.s (.v (.int .i64) c2)) [] [] [], .res (.s (.v (.int .i64) c3)) [.box (.pr (.sl (.int .u8)) (.pr (.int .i64) (.int .u64))) c3o0] [] []])
    (ps := [SC cfg.P i_spec_l1Cur_pair [.s (.mbx (.pr (.sl (.int .u8)) (.pr (.int .i64) (.int .u64))) (a0, ((0 : Int), (0 : Int)))), .s (.v (.int .i64) (6 : Int))] (.s (.v (.pr .str .str) c1)) [.box (.pr (.sl (.int .u8)) (.pr (.int .i64) (.int .u64))) c1o0],
      SC cfg.P i_spec_trCarets [.s (.v .str c1.1)] (.s (.v (.int .i64) c2)) [],
      SC cfg.P i_spec_l1Cur_pick [.s (.mbx (.pr (.sl (.int .u8)) (.pr (.int .i64) (.int .u64))) c1o0), .s (.v (.int .i64) (IntKind.wrap .i64 (c2 + (3 : Int))))] (.s (.v (.int .i64) c3)) [.box (.pr (.sl (.int .u8)) (.pr (.int .i64) (.int .u64))) c3o0]]) (by kernel_rfl) ⟨h1, h2, h3, trivial⟩ get_spec_DrawExpandPair (by decide)

/-! ### impl_ExpandPair -/


theorem impl_ExpandPair_p1 (a0 : (ByteArray × ByteArray)) (a1 : Int) (c1a : (Tr × Tr)) (c3 : Tr) (c4 : Tr) (c5a : (ByteArray × ByteArray)) (c5b : Bool)
    (h1 : SC cfg.P i_impl_pairOf [.s (.v (.pr .str .str) a0)] (.tup [.v (.pr .tree .tree) c1a, .v .bool true]) [])
    (h2 : SC cfg.P i_impl_hasLeaf [.s (.v .tree c1a.1), .s (.v (.int .i64) a1)] (.s (.v .bool true)) [])
    (h3 : SC cfg.P i_impl_node_graft [.s (.v .tree c1a.1), .s (.v (.int .i64) a1), .s (.v .tree (Tr.node Tr.leaf Tr.leaf))] (.s (.v .tree c3)) [])
    (h4 : SC cfg.P i_impl_node_graft [.s (.v .tree c1a.2), .s (.v (.int .i64) a1), .s (.v .tree (Tr.node Tr.leaf Tr.leaf))] (.s (.v .tree c4)) [])
    (h5 : SC cfg.P i_impl_pair_fits [.s (.v (.pr .tree .tree) (c3, c4))] (.tup [.v (.pr .str .str) c5a, .v .bool c5b]) []) :
    SC cfg.P i_impl_ExpandPair [.s (.v (.pr .str .str) a0), .s (.v (.int .i64) a1)] (.tup [.v (.pr .str .str) c5a, .v .bool c5b]) [] :=
  SC_of_run cfgOK (its := [.res (.tup [.v (.pr .tree .tree) c1a, .v .bool true]) [] [] [], .res (.s (.v .bool true)) [] [] [], .res (.s (.v .tree c3)) [] [] [], .res (.s (.v .tree c4)) [] [] [], .res (.tup [.v (.pr .str .str) c5a, .v .bool c5b]) [] [] []])
    (ps := [SC cfg.P i_impl_pairOf [.s (.v (.pr .str .str) a0)] (.tup [.v (.pr .tree .tree) c1a, .v .bool true]) [],
      SC cfg.P i_impl_hasLeaf [.s (.v .tree c1a.1), .s (.v (.int .i64) a1)] (.s (.v .bool true)) [],
      SC cfg.P i_impl_node_graft [.s (.v .tree c1a.1), .s (.v (.int .i64) a1), .s (.v .tree (Tr.node Tr.leaf Tr.leaf))] (.s (.v .tree c3)) [],
      SC cfg.P i_impl_node_graft [.s (.v .tree c1a.2), .s (.v (.int .i64) a1), .s (.v .tree (Tr.node Tr.leaf Tr.leaf))] (.s (.v .tree c4)) [],
      SC cfg.P i_impl_pair_fits [.s (.v (.pr .tree .tree) (c3, c4))] (.tup [.v (.pr .str .str) c5a, .v .bool c5b]) []]) (by kernel_rfl) ⟨h1, h2, h3, h4, h5, trivial⟩ get_impl_ExpandPair (by decide)

theorem impl_ExpandPair_p2 (a0 : (ByteArray × ByteArray)) (a1 : Int) (c1a : (Tr × Tr))
    (h1 : SC cfg.P i_impl_pairOf [.s (.v (.pr .str .str) a0)] (.tup [.v (.pr .tree .tree) c1a, .v .bool true]) [])
    (h2 : SC cfg.P i_impl_hasLeaf [.s (.v .tree c1a.1), .s (.v (.int .i64) a1)] (.s (.v .bool false)) []) :
    SC cfg.P i_impl_ExpandPair [.s (.v (.pr .str .str) a0), .s (.v (.int .i64) a1)] (.tup [.v (.pr .str .str) ((⟨#[]⟩ : ByteArray), (⟨#[]⟩ : ByteArray)), .v .bool false]) [] :=
  SC_of_run cfgOK (its := [.res (.tup [.v (.pr .tree .tree) c1a, .v .bool true]) [] [] [], .res (.s (.v .bool false)) [] [] []])
    (ps := [SC cfg.P i_impl_pairOf [.s (.v (.pr .str .str) a0)] (.tup [.v (.pr .tree .tree) c1a, .v .bool true]) [],
      SC cfg.P i_impl_hasLeaf [.s (.v .tree c1a.1), .s (.v (.int .i64) a1)] (.s (.v .bool false)) []]) (by kernel_rfl) ⟨h1, h2, trivial⟩ get_impl_ExpandPair (by decide)

theorem impl_ExpandPair_p3 (a0 : (ByteArray × ByteArray)) (a1 : Int) (c1a : (Tr × Tr))
    (h1 : SC cfg.P i_impl_pairOf [.s (.v (.pr .str .str) a0)] (.tup [.v (.pr .tree .tree) c1a, .v .bool false]) []) :
    SC cfg.P i_impl_ExpandPair [.s (.v (.pr .str .str) a0), .s (.v (.int .i64) a1)] (.tup [.v (.pr .str .str) ((⟨#[]⟩ : ByteArray), (⟨#[]⟩ : ByteArray)), .v .bool false]) [] :=
  SC_of_run cfgOK (its := [.res (.tup [.v (.pr .tree .tree) c1a, .v .bool false]) [] [] []])
    (ps := [SC cfg.P i_impl_pairOf [.s (.v (.pr .str .str) a0)] (.tup [.v (.pr .tree .tree) c1a, .v .bool false]) []]) (by kernel_rfl) ⟨h1, trivial⟩ get_impl_ExpandPair (by decide)

/-! ### spec_ExpandPair -/


theorem spec_ExpandPair_p1 (a0 : (ByteArray × ByteArray)) (a1 : Int) (c2 : Int)
    (h1 : SC cfg.P i_spec_prLeaf [.s (.v (.pr .str .str) a0), .s (.v (.int .i64) a1)] (.s (.v .bool true)) [])
    (h2 : SC cfg.P i_spec_trCarets [.s (.v .str a0.1)] (.s (.v (.int .i64) c2)) [])
    (h3 : c2 = (8 : Int)) :
    SC cfg.P i_spec_ExpandPair [.s (.v (.pr .str .str) a0), .s (.v (.int .i64) a1)] (.tup [.v (.pr .str .str) ((⟨#[]⟩ : ByteArray), (⟨#[]⟩ : ByteArray)), .v .bool false]) [] :=
  SC_of_run cfgOK (its := [.res (.s (.v .bool true)) [] [] [], .res (.s (.v (.int .i64) c2)) [] [] [], .bool true])
    (ps := [SC cfg.P i_spec_prLeaf [.s (.v (.pr .str .str) a0), .s (.v (.int .i64) a1)] (.s (.v .bool true)) [],
      SC cfg.P i_spec_trCarets [.s (.v .str a0.1)] (.s (.v (.int .i64) c2)) [],
      (c2 == (8 : Int)) = true]) (by kernel_rfl) ⟨h1, h2, (beq_iff_eq.mpr h3), trivial⟩ get_spec_ExpandPair (by decide)

theorem spec_ExpandPair_p2 (a0 : (ByteArray × ByteArray)) (a1 : Int) (c2 : Int) (c3 : ByteArray) (c4 : ByteArray)
    (h1 : SC cfg.P i_spec_prLeaf [.s (.v (.pr .str .str) a0), .s (.v (.int .i64) a1)] (.s (.v .bool true)) [])
    (h2 : SC cfg.P i_spec_trCarets [.s (.v .str a0.1)] (.s (.v (.int .i64) c2)) [])
    (h3 : c2 ≠ (8 : Int))
    (h4 : SC cfg.P i_spec_trGraft [.s (.v .str a0.1), .s (.v (.int .i64) a1), .s (.v .str (⟨#[40, 46, 46, 41]⟩ : ByteArray))] (.s (.v .str c3)) [])
    (h5 : SC cfg.P i_spec_trGraft [.s (.v .str a0.2), .s (.v (.int .i64) a1), .s (.v .str (⟨#[40, 46, 46, 41]⟩ : ByteArray))] (.s (.v .str c4)) []) :
    SC cfg.P i_spec_ExpandPair [.s (.v (.pr .str .str) a0), .s (.v (.int .i64) a1)] (.tup [.v (.pr .str .str) (c3, c4), .v .bool true]) [] :=
  SC_of_run cfgOK (its := [.res (.s (.v .bool true)) [] [] [], .res (.s (.v (.int .i64) c2)) [] [] [], .bool false, .res (.s (.v .str c3)) [] [] [], .res (.s (.v .str c4)) [] [] []])
    (ps := [SC cfg.P i_spec_prLeaf [.s (.v (.pr .str .str) a0), .s (.v (.int .i64) a1)] (.s (.v .bool true)) [],
      SC cfg.P i_spec_trCarets [.s (.v .str a0.1)] (.s (.v (.int .i64) c2)) [],
      (c2 == (8 : Int)) = false,
      SC cfg.P i_spec_trGraft [.s (.v .str a0.1), .s (.v (.int .i64) a1), .s (.v .str (⟨#[40, 46, 46, 41]⟩ : ByteArray))] (.s (.v .str c3)) [],
      SC cfg.P i_spec_trGraft [.s (.v .str a0.2), .s (.v (.int .i64) a1), .s (.v .str (⟨#[40, 46, 46, 41]⟩ : ByteArray))] (.s (.v .str c4)) []]) (by kernel_rfl) ⟨h1, h2, (beq_eq_false_iff_ne.mpr h3), h4, h5, trivial⟩ get_spec_ExpandPair (by decide)

theorem spec_ExpandPair_p3 (a0 : (ByteArray × ByteArray)) (a1 : Int)
    (h1 : SC cfg.P i_spec_prLeaf [.s (.v (.pr .str .str) a0), .s (.v (.int .i64) a1)] (.s (.v .bool false)) []) :
    SC cfg.P i_spec_ExpandPair [.s (.v (.pr .str .str) a0), .s (.v (.int .i64) a1)] (.tup [.v (.pr .str .str) ((⟨#[]⟩ : ByteArray), (⟨#[]⟩ : ByteArray)), .v .bool false]) [] :=
  SC_of_run cfgOK (its := [.res (.s (.v .bool false)) [] [] []])
    (ps := [SC cfg.P i_spec_prLeaf [.s (.v (.pr .str .str) a0), .s (.v (.int .i64) a1)] (.s (.v .bool false)) []]) (by kernel_rfl) ⟨h1, trivial⟩ get_spec_ExpandPair (by decide)

/-! ### spec_DrawAreSamePairs -/


theorem spec_DrawAreSamePairs_p1 (a0 : (List Int)) (c1 : (ByteArray × ByteArray)) (c1o0 : ((List Int) × (Int × Int))) (c2o0 : ((List Int) × (Int × Int))) (c3 : (ByteArray × ByteArray)) (c3o0 : ((List Int) × (Int × Int)))
    (h1 : SC cfg.P i_spec_l1Cur_loose [.s (.mbx (.pr (.sl (.int .u8)) (.pr (.int .i64) (.int .u64))) (a0, ((0 : Int), (0 : Int))))] (.s (.v (.pr .str .str) c1)) [.box (.pr (.sl (.int .u8)) (.pr (.int .i64) (.int .u64))) c1o0])
    (h2 : SC cfg.P i_spec_l1Cur_one [.s (.mbx (.pr (.sl (.int .u8)) (.pr (.int .i64) (.int .u64))) c1o0), .s (.v (.int .i64) (3 : Int))] (.s (.v .bool true)) [.box (.pr (.sl (.int .u8)) (.pr (.int .i64) (.int .u64))) c2o0])
    (h3 : SC cfg.P i_spec_l1Cur_pair [.s (.mbx (.pr (.sl (.int .u8)) (.pr (.int .i64) (.int .u64))) c2o0), .s (.v (.int .i64) (5 : Int))] (.s (.v (.pr .str .str) c3)) [.box (.pr (.sl (.int .u8)) (.pr (.int .i64) (.int .u64))) c3o0]) :
    SC cfg.P i_spec_DrawAreSamePairs [.s (.v (.sl (.int .u8)) a0)] (.tup [.v (.pr .str .str) c1, .v (.pr .str .str) c3]) [] :=
  SC_of_run cfgOK (its := [.res (.s (.v (.pr .str .str) c1)) [.box (.pr (.sl (.int .u8)) (.pr (.int .i64) (.int .u64))) c1o0] [] [], .res (.s (.v .bool true)) [.box (.pr (.sl (.int .u8)) (.pr (.int .i64) (.int .u64))) c2o0] [] [], .res (.s (.v (.pr .str .str) c3)) [.box (.pr (.sl (.int .u8)) (.pr (.int .i64) (.int .u64))) c3o0] [] []])
    (ps := [SC cfg.P i_spec_l1Cur_loose [.s (.mbx (.pr (.sl (.int .u8)) (.pr (.int .i64) (.int .u64))) (a0, ((0 : Int), (0 : Int))))] (.s (.v (.pr .str .str) c1)) [.box (.pr (.sl (.int .u8)) (.pr (.int .i64) (.int .u64))) c1o0],
      SC cfg.P i_spec_l1Cur_one [.s (.mbx (.pr (.sl (.int .u8)) (.pr (.int .i64) (.int .u64))) c1o0), .s (.v (.int .i64) (3 : Int))] (.s (.v .bool true)) [.box (.pr (.sl (.int .u8)) (.pr (.int .i64) (.int .u64))) c2o0],
      SC cfg.P i_spec_l1Cur_pair [.s (.mbx (.pr (.sl (.int .u8)) (.pr (.int .i64) (.int .u64))) c2o0), .s (.v (.int .i64) (5 : Int))] (.s (.v (.pr .str .str) c3)) [.box (.pr (.sl (.int .u8)) (.pr (.int .i64) (.int .u64))) c3o0]]) (by kernel_rfl) ⟨h1, h2, h3, trivial⟩ get_spec_DrawAreSamePairs (by decide)

theorem spec_DrawAreSamePairs_p2 (a0 : (List Int)) (c1 : (ByteArray × ByteArray)) (c1o0 : ((List Int) × (Int × Int))) (c2o0 : ((List Int) × (Int × Int))) (c3 : (List Int)) (c3o0 : ((List Int) × (Int × Int))) (c4 : (ByteArray × ByteArray))
    (h1 : SC cfg.P i_spec_l1Cur_loose [.s (.mbx (.pr (.sl (.int .u8)) (.pr (.int .i64) (.int .u64))) (a0, ((0 : Int), (0 : Int))))] (.s (.v (.pr .str .str) c1)) [.box (.pr (.sl (.int .u8)) (.pr (.int .i64) (.int .u64))) c1o0])
    (h2 : SC cfg.P i_spec_l1Cur_one [.s (.mbx (.pr (.sl (.int .u8)) (.pr (.int .i64) (.int .u64))) c1o0), .s (.v (.int .i64) (3 : Int))] (.s (.v .bool false)) [.box (.pr (.sl (.int .u8)) (.pr (.int .i64) (.int .u64))) c2o0])
    (h3 : SC cfg.P i_spec_l1Cur_choices0 [.s (.mbx (.pr (.sl (.int .u8)) (.pr (.int .i64) (.int .u64))) c2o0)] (.s (.v (.sl (.int .i64)) c3)) [.box (.pr (.sl (.int .u8)) (.pr (.int .i64) (.int .u64))) c3o0])
    (h4 : SC cfg.P i_spec_prReduce [.s (.v (.pr .str .str) c1), .s (.v (.sl (.int .i64)) c3)] (.s (.v (.pr .str .str) c4)) []) :
    SC cfg.P i_spec_DrawAreSamePairs [.s (.v (.sl (.int .u8)) a0)] (.tup [.v (.pr .str .str) c1, .v (.pr .str .str) c4]) [] :=
  SC_of_run cfgOK (its := [.res (.s (.v (.pr .str .str) c1)) [.box (.pr (.sl (.int .u8)) (.pr (.int .i64) (.int .u64))) c1o0] [] [], .res (.s (.v .bool false)) [.box (.pr (.sl (.int .u8)) (.pr (.int .i64) (.int .u64))) c2o0] [] [], .res (.s (.v (.sl (.int .i64)) c3)) [.box (.pr (.sl (.int .u8)) (.pr (.int .i64) (.int .u64))) c3o0] [] [], .res (.s (.v (.pr .str .str) c4)) [] [] []])
    (ps := [SC cfg.P i_spec_l1Cur_loose [.s (.mbx (.pr (.sl (.int .u8)) (.pr (.int .i64) (.int .u64))) (a0, ((0 : Int), (0 : Int))))] (.s (.v (.pr .str .str) c1)) [.box (.pr (.sl (.int .u8)) (.pr (.int .i64) (.int .u64))) c1o0],
      SC cfg.P i_spec_l1Cur_one [.s (.mbx (.pr (.sl (.int .u8)) (.pr (.int .i64) (.int .u64))) c1o0), .s (.v (.int .i64) (3 : Int))] (.s (.v .bool false)) [.box (.pr (.sl (.int .u8)) (.pr (.int .i64) (.int .u64))) c2o0],
      SC cfg.P i_spec_l1Cur_choices0 [.s (.mbx (.pr (.sl (.int .u8)) (.pr (.int .i64) (.int .u64))) c2o0)] (.s (.v (.sl (.int .i64)) c3)) [.box (.pr (.sl (.int .u8)) (.pr (.int .i64) (.int .u64))) c3o0],
      SC cfg.P i_spec_prReduce [.s (.v (.pr .str .str) c1), .s (.v (.sl (.int .i64)) c3)] (.s (.v (.pr .str .str) c4)) []]) (by kernel_rfl) ⟨h1, h2, h3, h4, trivial⟩ get_spec_DrawAreSamePairs (by decide)

/-! ### spec_AreSamePairs -/


theorem spec_AreSamePairs_p1 (a0 : (ByteArray × ByteArray)) (a1 : (ByteArray × ByteArray)) (c3 : (ByteArray × ByteArray)) (c4 : (ByteArray × ByteArray))
    (h1 : SC cfg.P i_spec_prGood [.s (.v (.pr .str .str) a0)] (.s (.v .bool true)) [])
    (h2 : SC cfg.P i_spec_prGood [.s (.v (.pr .str .str) a1)] (.s (.v .bool true)) [])
    (h3 : SC cfg.P i_spec_prReduce [.s (.v (.pr .str .str) a0), .s (.v (.sl (.int .i64)) ([] : List Int))] (.s (.v (.pr .str .str) c3)) [])
    (h4 : SC cfg.P i_spec_prReduce [.s (.v (.pr .str .str) a1), .s (.v (.sl (.int .i64)) ([] : List Int))] (.s (.v (.pr .str .str) c4)) [])
    (h5 : (((c3.1).toList == (c4.1).toList) && ((c3.2).toList == (c4.2).toList)) = true) :
    SC cfg.P i_spec_AreSamePairs [.s (.v (.pr .str .str) a0), .s (.v (.pr .str .str) a1)] (.tup [.v .bool true, .v .bool true]) [] :=
  SC_of_run cfgOK (its := [.res (.s (.v .bool true)) [] [] [], .res (.s (.v .bool true)) [] [] [], .res (.s (.v (.pr .str .str) c3)) [] [] [], .res (.s (.v (.pr .str .str) c4)) [] [] [], .bool true])
    (ps := [SC cfg.P i_spec_prGood [.s (.v (.pr .str .str) a0)] (.s (.v .bool true)) [],
      SC cfg.P i_spec_prGood [.s (.v (.pr .str .str) a1)] (.s (.v .bool true)) [],
      SC cfg.P i_spec_prReduce [.s (.v (.pr .str .str) a0), .s (.v (.sl (.int .i64)) ([] : List Int))] (.s (.v (.pr .str .str) c3)) [],
      SC cfg.P i_spec_prReduce [.s (.v (.pr .str .str) a1), .s (.v (.sl (.int .i64)) ([] : List Int))] (.s (.v (.pr .str .str) c4)) [],
      (((c3.1).toList == (c4.1).toList) && ((c3.2).toList == (c4.2).toList)) = true]) (by kernel_rfl) ⟨h1, h2, h3, h4, h5, trivial⟩ get_spec_AreSamePairs (by decide)

theorem spec_AreSamePairs_p2 (a0 : (ByteArray × ByteArray)) (a1 : (ByteArray × ByteArray)) (c3 : (ByteArray × ByteArray)) (c4 : (ByteArray × ByteArray))
    (h1 : SC cfg.P i_spec_prGood [.s (.v (.pr .str .str) a0)] (.s (.v .bool true)) [])
    (h2 : SC cfg.P i_spec_prGood [.s (.v (.pr .str .str) a1)] (.s (.v .bool true)) [])
    (h3 : SC cfg.P i_spec_prReduce [.s (.v (.pr .str .str) a0), .s (.v (.sl (.int .i64)) ([] : List Int))] (.s (.v (.pr .str .str) c3)) [])
    (h4 : SC cfg.P i_spec_prReduce [.s (.v (.pr .str .str) a1), .s (.v (.sl (.int .i64)) ([] : List Int))] (.s (.v (.pr .str .str) c4)) [])
    (h5 : (((c3.1).toList == (c4.1).toList) && ((c3.2).toList == (c4.2).toList)) = false) :
    SC cfg.P i_spec_AreSamePairs [.s (.v (.pr .str .str) a0), .s (.v (.pr .str .str) a1)] (.tup [.v .bool false, .v .bool true]) [] :=
  SC_of_run cfgOK (its := [.res (.s (.v .bool true)) [] [] [], .res (.s (.v .bool true)) [] [] [], .res (.s (.v (.pr .str .str) c3)) [] [] [], .res (.s (.v (.pr .str .str) c4)) [] [] [], .bool false])
    (ps := [SC cfg.P i_spec_prGood [.s (.v (.pr .str .str) a0)] (.s (.v .bool true)) [],
      SC cfg.P i_spec_prGood [.s (.v (.pr .str .str) a1)] (.s (.v .bool true)) [],
      SC cfg.P i_spec_prReduce [.s (.v (.pr .str .str) a0), .s (.v (.sl (.int .i64)) ([] : List Int))] (.s (.v (.pr .str .str) c3)) [],
      SC cfg.P i_spec_prReduce [.s (.v (.pr .str .str) a1), .s (.v (.sl (.int .i64)) ([] : List Int))] (.s (.v (.pr .str .str) c4)) [],
      (((c3.1).toList == (c4.1).toList) && ((c3.2).toList == (c4.2).toList)) = false]) (by kernel_rfl) ⟨h1, h2, h3, h4, h5, trivial⟩ get_spec_AreSamePairs (by decide)

theorem spec_AreSamePairs_p3 (a0 : (ByteArray × ByteArray)) (a1 : (ByteArray × ByteArray))
    (h1 : SC cfg.P i_spec_prGood [.s (.v (.pr .str .str) a0)] (.s (.v .bool true)) [])
    (h2 : SC cfg.P i_spec_prGood [.s (.v (.pr .str .str) a1)] (.s (.v .bool false)) []) :
    SC cfg.P i_spec_AreSamePairs [.s (.v (.pr .str .str) a0), .s (.v (.pr .str .str) a1)] (.tup [.v .bool false, .v .bool false]) [] :=
  SC_of_run cfgOK (its := [.res (.s (.v .bool true)) [] [] [], .res (.s (.v .bool false)) [] [] []])
    (ps := [SC cfg.P i_spec_prGood [.s (.v (.pr .str .str) a0)] (.s (.v .bool true)) [],
      SC cfg.P i_spec_prGood [.s (.v (.pr .str .str) a1)] (.s (.v .bool false)) []]) (by kernel_rfl) ⟨h1, h2, trivial⟩ get_spec_AreSamePairs (by decide)

theorem spec_AreSamePairs_p4 (a0 : (ByteArray × ByteArray)) (a1 : (ByteArray × ByteArray))
    (h1 : SC cfg.P i_spec_prGood [.s (.v (.pr .str .str) a0)] (.s (.v .bool false)) []) :
    SC cfg.P i_spec_AreSamePairs [.s (.v (.pr .str .str) a0), .s (.v (.pr .str .str) a1)] (.tup [.v .bool false, .v .bool false]) [] :=
  SC_of_run cfgOK (its := [.res (.s (.v .bool false)) [] [] []])
    (ps := [SC cfg.P i_spec_prGood [.s (.v (.pr .str .str) a0)] (.s (.v .bool false)) []]) (by kernel_rfl) ⟨h1, trivial⟩ get_spec_AreSamePairs (by decide)

/-! ### spec_DrawIsReduced -/


theorem spec_DrawIsReduced_p1 (a0 : (List Int)) (c1o0 : ((List Int) × (Int × Int))) (c2 : (ByteArray × ByteArray)) (c2o0 : ((List Int) × (Int × Int)))
    (h1 : SC cfg.P i_spec_l1Cur_one [.s (.mbx (.pr (.sl (.int .u8)) (.pr (.int .i64) (.int .u64))) (a0, ((0 : Int), (0 : Int)))), .s (.v (.int .i64) (2 : Int))] (.s (.v .bool true)) [.box (.pr (.sl (.int .u8)) (.pr (.int .i64) (.int .u64))) c1o0])
    (h2 : SC cfg.P i_spec_l1Cur_loose [.s (.mbx (.pr (.sl (.int .u8)) (.pr (.int .i64) (.int .u64))) c1o0)] (.s (.v (.pr .str .str) c2)) [.box (.pr (.sl (.int .u8)) (.pr (.int .i64) (.int .u64))) c2o0]) :
    SC cfg.P i_spec_DrawIsReduced [.s (.v (.sl (.int .u8)) a0)] (.s (.v (.pr .str .str) c2)) [] :=
  SC_of_run cfgOK (its := [.res (.s (.v .bool true)) [.box (.pr (.sl (.int .u8)) (.pr (.int .i64) (.int .u64))) c1o0] [] [], .res (.s (.v (.pr .str .str) c2)) [.box (.pr (.sl (.int .u8)) (.pr (.int .i64) (.int .u64))) c2o0] [] []])
    (ps := [SC cfg.P i_spec_l1Cur_one [.s (.mbx (.pr (.sl (.int .u8)) (.pr (.int .i64) (.int .u64))) (a0, ((0 : Int), (0 : Int)))), .s (.v (.int .i64) (2 : Int))] (.s (.v .bool true)) [.box (.pr (.sl (.int .u8)) (.pr (.int .i64) (.int .u64))) c1o0],
      SC cfg.P i_spec_l1Cur_loose [.s (.mbx (.pr (.sl (.int .u8)) (.pr (.int .i64) (.int .u64))) c1o0)] (.s (.v (.pr .str .str) c2)) [.box (.pr (.sl (.int .u8)) (.pr (.int .i64) (.int .u64))) c2o0]]) (by kernel_rfl) ⟨h1, h2, trivial⟩ get_spec_DrawIsReduced (by decide)

theorem spec_DrawIsReduced_p2 (a0 : (List Int)) (c1o0 : ((List Int) × (Int × Int))) (c2 : (ByteArray × ByteArray)) (c2o0 : ((List Int) × (Int × Int)))
    (h1 : SC cfg.P i_spec_l1Cur_one [.s (.mbx (.pr (.sl (.int .u8)) (.pr (.int .i64) (.int .u64))) (a0, ((0 : Int), (0 : Int)))), .s (.v (.int .i64) (2 : Int))] (.s (.v .bool false)) [.box (.pr (.sl (.int .u8)) (.pr (.int .i64) (.int .u64))) c1o0])
    (h2 : SC cfg.P i_spec_l1Cur_pair [.s (.mbx (.pr (.sl (.int .u8)) (.pr (.int .i64) (.int .u64))) c1o0), .s (.v (.int .i64) (6 : Int))] (.s (.v (.pr .str .str) c2)) [.box (.pr (.sl (.int .u8)) (.pr (.int .i64) (.int .u64))) c2o0]) :
    SC cfg.P i_spec_DrawIsReduced [.s (.v (.sl (.int .u8)) a0)] (.s (.v (.pr .str .str) c2)) [] :=
  SC_of_run cfgOK (its := [.res (.s (.v .bool false)) [.box (.pr (.sl (.int .u8)) (.pr (.int .i64) (.int .u64))) c1o0] [] [], .res (.s (.v (.pr .str .str) c2)) [.box (.pr (.sl (.int .u8)) (.pr (.int .i64) (.int .u64))) c2o0] [] []])
    (ps := [SC cfg.P i_spec_l1Cur_one [.s (.mbx (.pr (.sl (.int .u8)) (.pr (.int .i64) (.int .u64))) (a0, ((0 : Int), (0 : Int)))), .s (.v (.int .i64) (2 : Int))] (.s (.v .bool false)) [.box (.pr (.sl (.int .u8)) (.pr (.int .i64) (.int .u64))) c1o0],
      SC cfg.P i_spec_l1Cur_pair [.s (.mbx (.pr (.sl (.int .u8)) (.pr (.int .i64) (.int .u64))) c1o0), .s (.v (.int .i64) (6 : Int))] (.s (.v (.pr .str .str) c2)) [.box (.pr (.sl (.int .u8)) (.pr (.int .i64) (.int .u64))) c2o0]]) (by kernel_rfl) ⟨h1, h2, trivial⟩ get_spec_DrawIsReduced (by decide)

/-! ### spec_IsReduced -/


theorem spec_IsReduced_p1 (a0 : (ByteArray × ByteArray)) (c2 : (List Int))
    (h1 : SC cfg.P i_spec_prGood [.s (.v (.pr .str .str) a0)] (.s (.v .bool true)) [])
    (h2 : SC cfg.P i_spec_prBoth [.s (.v (.pr .str .str) a0)] (.s (.own t_int (.int .i64) c2)) [])
    (h3 : ((List.length c2 : Nat) : Int) = (0 : Int)) :
    SC cfg.P i_spec_IsReduced [.s (.v (.pr .str .str) a0)] (.tup [.v .bool true, .v .bool true]) [] :=
  SC_of_run cfgOK (its := [.res (.s (.v .bool true)) [] [] [], .res (.s (.own t_int (.int .i64) c2)) [] [] [8], .bool true])
    (ps := [SC cfg.P i_spec_prGood [.s (.v (.pr .str .str) a0)] (.s (.v .bool true)) [],
      SC cfg.P i_spec_prBoth [.s (.v (.pr .str .str) a0)] (.s (.own t_int (.int .i64) c2)) [],
      (((List.length c2 : Nat) : Int) == (0 : Int)) = true]) (by kernel_rfl) ⟨h1, h2, (beq_iff_eq.mpr h3), trivial⟩ get_spec_IsReduced (by decide)

theorem spec_IsReduced_p2 (a0 : (ByteArray × ByteArray)) (c2 : (List Int))
    (h1 : SC cfg.P i_spec_prGood [.s (.v (.pr .str .str) a0)] (.s (.v .bool true)) [])
    (h2 : SC cfg.P i_spec_prBoth [.s (.v (.pr .str .str) a0)] (.s (.own t_int (.int .i64) c2)) [])
    (h3 : ((List.length c2 : Nat) : Int) ≠ (0 : Int)) :
    SC cfg.P i_spec_IsReduced [.s (.v (.pr .str .str) a0)] (.tup [.v .bool false, .v .bool true]) [] :=
  SC_of_run cfgOK (its := [.res (.s (.v .bool true)) [] [] [], .res (.s (.own t_int (.int .i64) c2)) [] [] [8], .bool false])
    (ps := [SC cfg.P i_spec_prGood [.s (.v (.pr .str .str) a0)] (.s (.v .bool true)) [],
      SC cfg.P i_spec_prBoth [.s (.v (.pr .str .str) a0)] (.s (.own t_int (.int .i64) c2)) [],
      (((List.length c2 : Nat) : Int) == (0 : Int)) = false]) (by kernel_rfl) ⟨h1, h2, (beq_eq_false_iff_ne.mpr h3), trivial⟩ get_spec_IsReduced (by decide)

theorem spec_IsReduced_p3 (a0 : (ByteArray × ByteArray))
    (h1 : SC cfg.P i_spec_prGood [.s (.v (.pr .str .str) a0)] (.s (.v .bool false)) []) :
    SC cfg.P i_spec_IsReduced [.s (.v (.pr .str .str) a0)] (.tup [.v .bool false, .v .bool false]) [] :=
  SC_of_run cfgOK (its := [.res (.s (.v .bool false)) [] [] []])
    (ps := [SC cfg.P i_spec_prGood [.s (.v (.pr .str .str) a0)] (.s (.v .bool false)) []]) (by kernel_rfl) ⟨h1, trivial⟩ get_spec_IsReduced (by decide)

/-! ### spec_DrawParsePair -/


theorem spec_DrawParsePair_p1 (a0 : (List Int)) (c1 : Int) (c1o0 : ((List Int) × (Int × Int))) (c2 : (ByteArray × ByteArray)) (c2o0 : ((List Int) × (Int × Int))) (c3 : ByteArray) (c4o0 : ((List Int) × (Int × Int))) (c5 : ByteArray) (c5o0 : ((List Int) × (Int × Int)))
    (h1 : SC cfg.P i_spec_l1Cur_pick [.s (.mbx (.pr (.sl (.int .u8)) (.pr (.int .i64) (.int .u64))) (a0, ((0 : Int), (0 : Int)))), .s (.v (.int .i64) (6 : Int))] (.s (.v (.int .i64) c1)) [.box (.pr (.sl (.int .u8)) (.pr (.int .i64) (.int .u64))) c1o0])
    (h2 : SC cfg.P i_spec_l1Cur_surePair [.s (.mbx (.pr (.sl (.int .u8)) (.pr (.int .i64) (.int .u64))) c1o0), .s (.v (.int .i64) c1)] (.s (.v (.pr .str .str) c2)) [.box (.pr (.sl (.int .u8)) (.pr (.int .i64) (.int .u64))) c2o0])
    (h3 : SC cfg.P i_spec_prText [.s (.v (.pr .str .str) c2)] (.s (.v .str c3)) [])
    (h4 : SC cfg.P i_spec_l1Cur_one [.s (.mbx (.pr (.sl (.int .u8)) (.pr (.int .i64) (.int .u64))) c2o0), .s (.v (.int .i64) (3 : Int))] (.s (.v .bool true)) [.box (.pr (.sl (.int .u8)) (.pr (.int .i64) (.int .u64))) c4o0])
    (h5 : SC cfg.P i_spec_l1Cur_spoilt [.s (.mbx (.pr (.sl (.int .u8)) (.pr (.int .i64) (.int .u64))) c4o0), .s (.v .str c3), .s (.v .str (⟨#[40, 46, 41, 62]⟩ : ByteArray))] (.s (.v .str c5)) [.box (.pr (.sl (.int .u8)) (.pr (.int .i64) (.int .u64))) c5o0]) :
    SC cfg.P i_spec_DrawParsePair [.s (.v (.sl (.int .u8)) a0)] (.s (.v .str c5)) [] :=
  SC_of_run cfgOK (its := [.res (.s (.v (.int .i64) c1)) [.box (.pr (.sl (.int .u8)) (.pr (.int .i64) (.int .u64))) c1o0] [] [], .res (.s (.v (.pr .str .str) c2)) [.box (.pr (.sl (.int .u8)) (.pr (.int .i64) (.int .u64))) c2o0] [] [], .res (.s (.v .str c3)) [] [] [], .res (.s (.v .bool true)) [.box (.pr (.sl (.int .u8)) (.pr (.int .i64) (.int .u64))) c4o0] [] [], .res (.s (.v .str c5)) [.box (.pr (.sl (.int .u8)) (.pr (.int .i64) (.int .u64))) c5o0] [] []])
    (ps := [SC cfg.P i_spec_l1Cur_pick [.s (.mbx (.pr (.sl (.int .u8)) (.pr (.int .i64) (.int .u64))) (a0, ((0 : Int), (0 : Int)))), .s (.v (.int .i64) (6 : Int))] (.s (.v (.int .i64) c1)) [.box (.pr (.sl (.int .u8)) (.pr (.int .i64) (.int .u64))) c1o0],
      SC cfg.P i_spec_l1Cur_surePair [.s (.mbx (.pr (.sl (.int .u8)) (.pr (.int .i64) (.int .u64))) c1o0), .s (.v (.int .i64) c1)] (.s (.v (.pr .str .str) c2)) [.box (.pr (.sl (.int .u8)) (.pr (.int .i64) (.int .u64))) c2o0],
      SC cfg.P i_spec_prText [.s (.v (.pr .str .str) c2)] (.s (.v .str c3)) [],
      SC cfg.P i_spec_l1Cur_one [.s (.mbx (.pr (.sl (.int .u8)) (.pr (.int .i64) (.int .u64))) c2o0), .s (.v (.int .i64) (3 : Int))] (.s (.v .bool true)) [.box (.pr (.sl (.int .u8)) (.pr (.int .i64) (.int .u64))) c4o0],
      SC cfg.P i_spec_l1Cur_spoilt [.s (.mbx (.pr (.sl (.int .u8)) (.pr (.int .i64) (.int .u64))) c4o0), .s (.v .str c3), .s (.v .str (⟨#[40, 46, 41, 62]⟩ : ByteArray))] (.s (.v .str c5)) [.box (.pr (.sl (.int .u8)) (.pr (.int .i64) (.int .u64))) c5o0]]) (by kernel_rfl) ⟨h1, h2, h3, h4, h5, trivial⟩ get_spec_DrawParsePair (by decide)

theorem spec_DrawParsePair_p2 (a0 : (List Int)) (c1 : Int) (c1o0 : ((List Int) × (Int × Int))) (c2 : (ByteArray × ByteArray)) (c2o0 : ((List Int) × (Int × Int))) (c3 : ByteArray) (c4o0 : ((List Int) × (Int × Int)))
    (h1 : SC cfg.P i_spec_l1Cur_pick [.s (.mbx (.pr (.sl (.int .u8)) (.pr (.int .i64) (.int .u64))) (a0, ((0 : Int), (0 : Int)))), .s (.v (.int .i64) (6 : Int))] (.s (.v (.int .i64) c1)) [.box (.pr (.sl (.int .u8)) (.pr (.int .i64) (.int .u64))) c1o0])
    (h2 : SC cfg.P i_spec_l1Cur_surePair [.s (.mbx (.pr (.sl (.int .u8)) (.pr (.int .i64) (.int .u64))) c1o0), .s (.v (.int .i64) c1)] (.s (.v (.pr .str .str) c2)) [.box (.pr (.sl (.int .u8)) (.pr (.int .i64) (.int .u64))) c2o0])
    (h3 : SC cfg.P i_spec_prText [.s (.v (.pr .str .str) c2)] (.s (.v .str c3)) [])
    (h4 : SC cfg.P i_spec_l1Cur_one [.s (.mbx (.pr (.sl (.int .u8)) (.pr (.int .i64) (.int .u64))) c2o0), .s (.v (.int .i64) (3 : Int))] (.s (.v .bool false)) [.box (.pr (.sl (.int .u8)) (.pr (.int .i64) (.int .u64))) c4o0]) :
    SC cfg.P i_spec_DrawParsePair [.s (.v (.sl (.int .u8)) a0)] (.s (.v .str c3)) [] :=
  SC_of_run cfgOK (its := [.res (.s (.v (.int .i64) c1)) [.box (.pr (.sl (.int .u8)) (.pr (.int .i64) (.int .u64))) c1o0] [] [], .res (.s (.v (.pr .str .str) c2)) [.box (.pr (.sl (.int .u8)) (.pr (.int .i64) (.int .u64))) c2o0] [] [], .res (.s (.v .str c3)) [] [] [], .res (.s (.v .bool false)) [.box (.pr (.sl (.int .u8)) (.pr (.int .i64) (.int .u64))) c4o0] [] []])
    (ps := [SC cfg.P i_spec_l1Cur_pick [.s (.mbx (.pr (.sl (.int .u8)) (.pr (.int .i64) (.int .u64))) (a0, ((0 : Int), (0 : Int)))), .s (.v (.int .i64) (6 : Int))] (.s (.v (.int .i64) c1)) [.box (.pr (.sl (.int .u8)) (.pr (.int .i64) (.int .u64))) c1o0],
      SC cfg.P i_spec_l1Cur_surePair [.s (.mbx (.pr (.sl (.int .u8)) (.pr (.int .i64) (.int .u64))) c1o0), .s (.v (.int .i64) c1)] (.s (.v (.pr .str .str) c2)) [.box (.pr (.sl (.int .u8)) (.pr (.int .i64) (.int .u64))) c2o0],
      SC cfg.P i_spec_prText [.s (.v (.pr .str .str) c2)] (.s (.v .str c3)) [],
      SC cfg.P i_spec_l1Cur_one [.s (.mbx (.pr (.sl (.int .u8)) (.pr (.int .i64) (.int .u64))) c2o0), .s (.v (.int .i64) (3 : Int))] (.s (.v .bool false)) [.box (.pr (.sl (.int .u8)) (.pr (.int .i64) (.int .u64))) c4o0]]) (by kernel_rfl) ⟨h1, h2, h3, h4, trivial⟩ get_spec_DrawParsePair (by decide)

/-! ### impl_ParsePair -/


theorem impl_ParsePair_p1 (a0 : ByteArray) (c1a : ByteArray) (c1b : ByteArray)
    (h1 : SC cfg.P i_strings_Cut [.s (.v .str a0), .s (.v .str (⟨#[62]⟩ : ByteArray))] (.tup [.v .str c1a, .v .str c1b, .v .bool true]) [])
    (h2 : SC cfg.P i_impl_IsPair [.s (.v (.pr .str .str) (c1a, c1b))] (.s (.v .bool true)) []) :
    SC cfg.P i_impl_ParsePair [.s (.v .str a0)] (.tup [.v (.pr .str .str) (c1a, c1b), .v .bool true]) [] :=
  SC_of_run cfgOK (its := [.res (.tup [.v .str c1a, .v .str c1b, .v .bool true]) [] [] [], .res (.s (.v .bool true)) [] [] []])
    (ps := [SC cfg.P i_strings_Cut [.s (.v .str a0), .s (.v .str (⟨#[62]⟩ : ByteArray))] (.tup [.v .str c1a, .v .str c1b, .v .bool true]) [],
      SC cfg.P i_impl_IsPair [.s (.v (.pr .str .str) (c1a, c1b))] (.s (.v .bool true)) []]) (by kernel_rfl) ⟨h1, h2, trivial⟩ get_impl_ParsePair (by decide)

theorem impl_ParsePair_p2 (a0 : ByteArray) (c1a : ByteArray) (c1b : ByteArray)
    (h1 : SC cfg.P i_strings_Cut [.s (.v .str a0), .s (.v .str (⟨#[62]⟩ : ByteArray))] (.tup [.v .str c1a, .v .str c1b, .v .bool true]) [])
    (h2 : SC cfg.P i_impl_IsPair [.s (.v (.pr .str .str) (c1a, c1b))] (.s (.v .bool false)) []) :
    SC cfg.P i_impl_ParsePair [.s (.v .str a0)] (.tup [.v (.pr .str .str) ((⟨#[]⟩ : ByteArray), (⟨#[]⟩ : ByteArray)), .v .bool false]) [] :=
  SC_of_run cfgOK (its := [.res (.tup [.v .str c1a, .v .str c1b, .v .bool true]) [] [] [], .res (.s (.v .bool false)) [] [] []])
    (ps := [SC cfg.P i_strings_Cut [.s (.v .str a0), .s (.v .str (⟨#[62]⟩ : ByteArray))] (.tup [.v .str c1a, .v .str c1b, .v .bool true]) [],
      SC cfg.P i_impl_IsPair [.s (.v (.pr .str .str) (c1a, c1b))] (.s (.v .bool false)) []]) (by kernel_rfl) ⟨h1, h2, trivial⟩ get_impl_ParsePair (by decide)

theorem impl_ParsePair_p3 (a0 : ByteArray) (c1a : ByteArray) (c1b : ByteArray)
    (h1 : SC cfg.P i_strings_Cut [.s (.v .str a0), .s (.v .str (⟨#[62]⟩ : ByteArray))] (.tup [.v .str c1a, .v .str c1b, .v .bool false]) []) :
    SC cfg.P i_impl_ParsePair [.s (.v .str a0)] (.tup [.v (.pr .str .str) ((⟨#[]⟩ : ByteArray), (⟨#[]⟩ : ByteArray)), .v .bool false]) [] :=
  SC_of_run cfgOK (its := [.res (.tup [.v .str c1a, .v .str c1b, .v .bool false]) [] [] []])
    (ps := [SC cfg.P i_strings_Cut [.s (.v .str a0), .s (.v .str (⟨#[62]⟩ : ByteArray))] (.tup [.v .str c1a, .v .str c1b, .v .bool false]) []]) (by kernel_rfl) ⟨h1, trivial⟩ get_impl_ParsePair (by decide)

/-! ### spec_ParsePair -/


theorem spec_ParsePair_p1 (a0 : ByteArray) (c1a : (ByteArray × ByteArray)) (c1b : Bool)
    (h1 : SC cfg.P i_spec_prParse [.s (.v .str a0)] (.tup [.v (.pr .str .str) c1a, .v .bool c1b]) []) :
    SC cfg.P i_spec_ParsePair [.s (.v .str a0)] (.tup [.v (.pr .str .str) c1a, .v .bool c1b]) [] :=
  SC_of_run cfgOK (its := [.res (.tup [.v (.pr .str .str) c1a, .v .bool c1b]) [] [] []])
    (ps := [SC cfg.P i_spec_prParse [.s (.v .str a0)] (.tup [.v (.pr .str .str) c1a, .v .bool c1b]) []]) (by kernel_rfl) ⟨h1, trivial⟩ get_spec_ParsePair (by decide)

/-! ### impl_PairText -/


theorem impl_PairText_p1 (a0 : (ByteArray × ByteArray))
    (h1 : SC cfg.P i_impl_IsPair [.s (.v (.pr .str .str) a0)] (.s (.v .bool true)) [])
    (h2 : (a0.1).size + ((⟨#[62]⟩ : ByteArray)).size ≤ 2 ^ 62)
    (h3 : ((a0.1 ++ (⟨#[62]⟩ : ByteArray))).size + (a0.2).size ≤ 2 ^ 62) :
    SC cfg.P i_impl_PairText [.s (.v (.pr .str .str) a0)] (.tup [.v .str ((a0.1 ++ (⟨#[62]⟩ : ByteArray)) ++ a0.2), .v .bool true]) [] :=
  SC_of_run cfgOK (its := [.res (.s (.v .bool true)) [] [] []])
    (ps := [SC cfg.P i_impl_IsPair [.s (.v (.pr .str .str) a0)] (.s (.v .bool true)) [],
      (a0.1).size + ((⟨#[62]⟩ : ByteArray)).size ≤ 2 ^ 62,
      ((a0.1 ++ (⟨#[62]⟩ : ByteArray))).size + (a0.2).size ≤ 2 ^ 62]) (by kernel_rfl) ⟨h1, h2, h3, trivial⟩ get_impl_PairText (by decide)

theorem impl_PairText_p2 (a0 : (ByteArray × ByteArray))
    (h1 : SC cfg.P i_impl_IsPair [.s (.v (.pr .str .str) a0)] (.s (.v .bool false)) []) :
    SC cfg.P i_impl_PairText [.s (.v (.pr .str .str) a0)] (.tup [.v .str (⟨#[]⟩ : ByteArray), .v .bool false]) [] :=
  SC_of_run cfgOK (its := [.res (.s (.v .bool false)) [] [] []])
    (ps := [SC cfg.P i_impl_IsPair [.s (.v (.pr .str .str) a0)] (.s (.v .bool false)) []]) (by kernel_rfl) ⟨h1, trivial⟩ get_impl_PairText (by decide)

/-! ### spec_l1Cur_choices -/


def spec_l1Cur_choices_L0a (x4 : Int) (xo0 : ((List Int) × (Int × Int))) (xo3 : (List Int)) : St := mkSt 25 [(0, .s (.adr 0 none)), (3, .s (.osl 3 0)), (4, .s (.v (.int .i64) x4))] [(0, .box (.pr (.sl (.int .u8)) (.pr (.int .i64) (.int .u64))) xo0 false), (3, .row t_int (.int .i64) xo3 0 false)]

def spec_l1Cur_choices_L0X1 (y4 : Int) (y8 : Bool) (yo0 : ((List Int) × (Int × Int))) (yo3 : (List Int)) : St := mkSt 25 [(0, .s (.adr 0 none)), (3, .s (.osl 3 0)), (4, .s (.v (.int .i64) y4)), (8, .s (.v .bool y8))] [(0, .box (.pr (.sl (.int .u8)) (.pr (.int .i64) (.int .u64))) yo0 false), (3, .row t_int (.int .i64) yo3 0 false)]

theorem spec_l1Cur_choices_L0a_i1 (x4 : Int) (xo0 : ((List Int) × (Int × Int))) (xo3 : (List Int)) (dc1 : Int) (dc1o0 : ((List Int) × (Int × Int)))
    (h1 : x4 > (0 : Int))
    (h2 : SC cfg.P i_spec_l1Cur_pick [.s (.mbx (.pr (.sl (.int .u8)) (.pr (.int .i64) (.int .u64))) xo0), .s (.v (.int .i64) (5 : Int))] (.s (.v (.int .i64) dc1)) [.box (.pr (.sl (.int .u8)) (.pr (.int .i64) (.int .u64))) dc1o0])
    (h3 : sizeOK (List.length xo3 + List.length ([dc1] : List Int)))
    {e : AEx} {st : St} (next : LoopSC cfg.P 1 (lb P_spec_l1Cur_choices 0) (spec_l1Cur_choices_L0a (IntKind.wrap .i64 (x4 - (1 : Int))) dc1o0 (xo3 ++ ([dc1] : List Int))) e st) :
    LoopSC cfg.P 1 (lb P_spec_l1Cur_choices 0) (spec_l1Cur_choices_L0a x4 xo0 xo3) e st :=
  loop_iter cfgOK (f := i_spec_l1Cur_choices) (its := [.bool true, .res (.s (.v (.int .i64) dc1)) [.box (.pr (.sl (.int .u8)) (.pr (.int .i64) (.int .u64))) dc1o0] [] []])
    (ps := [decide (x4 > (0 : Int)) = true,
      SC cfg.P i_spec_l1Cur_pick [.s (.mbx (.pr (.sl (.int .u8)) (.pr (.int .i64) (.int .u64))) xo0), .s (.v (.int .i64) (5 : Int))] (.s (.v (.int .i64) dc1)) [.box (.pr (.sl (.int .u8)) (.pr (.int .i64) (.int .u64))) dc1o0],
      sizeOK (List.length xo3 + List.length ([dc1] : List Int))]) (st1 := spec_l1Cur_choices_L0a (IntKind.wrap .i64 (x4 - (1 : Int))) dc1o0 (xo3 ++ ([dc1] : List Int))) (by kernel_rfl) ⟨(decide_eq_true h1), h2, h3, trivial⟩ next

theorem spec_l1Cur_choices_L0a_x2 (x4 : Int) (xo0 : ((List Int) × (Int × Int))) (xo3 : (List Int))
    (h1 : ¬ (x4 > (0 : Int))) :
    LoopSC cfg.P 1 (lb P_spec_l1Cur_choices 0) (spec_l1Cur_choices_L0a x4 xo0 xo3) (.exit 0) (spec_l1Cur_choices_L0X1 x4 false xo0 xo3) :=
  loop_out cfgOK (f := i_spec_l1Cur_choices) (its := [.bool false])
    (ps := [decide (x4 > (0 : Int)) = false]) (by kernel_rfl) ⟨(decide_eq_false h1), trivial⟩ (fun h => by cases h)

theorem spec_l1Cur_choices_p1 (a0 : ((List Int) × (Int × Int))) (c1 : Int) (c1o0 : ((List Int) × (Int × Int))) (k1y4 : Int) (k1y8 : Bool) (k1yo0 : ((List Int) × (Int × Int))) (k1yo3 : (List Int)) (c2o0 : ((List Int) × (Int × Int))) (c3 : Int) (c3o0 : ((List Int) × (Int × Int)))
    (h1 : SC cfg.P i_spec_l1Cur_pick [.s (.mbx (.pr (.sl (.int .u8)) (.pr (.int .i64) (.int .u64))) a0), .s (.v (.int .i64) (7 : Int))] (.s (.v (.int .i64) c1)) [.box (.pr (.sl (.int .u8)) (.pr (.int .i64) (.int .u64))) c1o0])
    (h2 : LoopSC cfg.P 1 (lb P_spec_l1Cur_choices 0) (spec_l1Cur_choices_L0a c1 c1o0 ([] : List Int)) (.exit 0) (spec_l1Cur_choices_L0X1 k1y4 k1y8 k1yo0 k1yo3))
    (h3 : SC cfg.P i_spec_l1Cur_one [.s (.mbx (.pr (.sl (.int .u8)) (.pr (.int .i64) (.int .u64))) k1yo0), .s (.v (.int .i64) (14 : Int))] (.s (.v .bool true)) [.box (.pr (.sl (.int .u8)) (.pr (.int .i64) (.int .u64))) c2o0])
    (h4 : SC cfg.P i_spec_l1Cur_among [.s (.mbx (.pr (.sl (.int .u8)) (.pr (.int .i64) (.int .u64))) c2o0), .s (.v (.sl (.int .i64)) ([(-1 : Int), (4611686018427387904 : Int)] : List Int))] (.s (.v (.int .i64) c3)) [.box (.pr (.sl (.int .u8)) (.pr (.int .i64) (.int .u64))) c3o0])
    (h5 : sizeOK (List.length k1yo3 + List.length ([c3] : List Int))) :
    SC cfg.P i_spec_l1Cur_choices [.s (.mbx (.pr (.sl (.int .u8)) (.pr (.int .i64) (.int .u64))) a0)] (.s (.own t_int (.int .i64) (k1yo3 ++ ([c3] : List Int)))) [.box (.pr (.sl (.int .u8)) (.pr (.int .i64) (.int .u64))) c3o0] :=
  SC_of_run cfgOK (its := [.res (.s (.v (.int .i64) c1)) [.box (.pr (.sl (.int .u8)) (.pr (.int .i64) (.int .u64))) c1o0] [] [], .loop (fun _ => (.exit 0, spec_l1Cur_choices_L0X1 k1y4 k1y8 k1yo0 k1yo3)), .res (.s (.v .bool true)) [.box (.pr (.sl (.int .u8)) (.pr (.int .i64) (.int .u64))) c2o0] [] [], .res (.s (.v (.int .i64) c3)) [.box (.pr (.sl (.int .u8)) (.pr (.int .i64) (.int .u64))) c3o0] [] []])
    (ps := [SC cfg.P i_spec_l1Cur_pick [.s (.mbx (.pr (.sl (.int .u8)) (.pr (.int .i64) (.int .u64))) a0), .s (.v (.int .i64) (7 : Int))] (.s (.v (.int .i64) c1)) [.box (.pr (.sl (.int .u8)) (.pr (.int .i64) (.int .u64))) c1o0],
      LoopSC cfg.P 1 (lb P_spec_l1Cur_choices 0) (spec_l1Cur_choices_L0a c1 c1o0 ([] : List Int)) (.exit 0) (spec_l1Cur_choices_L0X1 k1y4 k1y8 k1yo0 k1yo3),
      SC cfg.P i_spec_l1Cur_one [.s (.mbx (.pr (.sl (.int .u8)) (.pr (.int .i64) (.int .u64))) k1yo0), .s (.v (.int .i64) (14 : Int))] (.s (.v .bool true)) [.box (.pr (.sl (.int .u8)) (.pr (.int .i64) (.int .u64))) c2o0],
      SC cfg.P i_spec_l1Cur_among [.s (.mbx (.pr (.sl (.int .u8)) (.pr (.int .i64) (.int .u64))) c2o0), .s (.v (.sl (.int .i64)) ([(-1 : Int), (4611686018427387904 : Int)] : List Int))] (.s (.v (.int .i64) c3)) [.box (.pr (.sl (.int .u8)) (.pr (.int .i64) (.int .u64))) c3o0],
      sizeOK (List.length k1yo3 + List.length ([c3] : List Int))]) (by kernel_rfl) ⟨h1, h2, h3, h4, h5, trivial⟩ get_spec_l1Cur_choices (by decide)

theorem spec_l1Cur_choices_p2 (a0 : ((List Int) × (Int × Int))) (c1 : Int) (c1o0 : ((List Int) × (Int × Int))) (k1y4 : Int) (k1y8 : Bool) (k1yo0 : ((List Int) × (Int × Int))) (k1yo3 : (List Int)) (c2o0 : ((List Int) × (Int × Int)))
    (h1 : SC cfg.P i_spec_l1Cur_pick [.s (.mbx (.pr (.sl (.int .u8)) (.pr (.int .i64) (.int .u64))) a0), .s (.v (.int .i64) (7 : Int))] (.s (.v (.int .i64) c1)) [.box (.pr (.sl (.int .u8)) (.pr (.int .i64) (.int .u64))) c1o0])
    (h2 : LoopSC cfg.P 1 (lb P_spec_l1Cur_choices 0) (spec_l1Cur_choices_L0a c1 c1o0 ([] : List Int)) (.exit 0) (spec_l1Cur_choices_L0X1 k1y4 k1y8 k1yo0 k1yo3))
    (h3 : SC cfg.P i_spec_l1Cur_one [.s (.mbx (.pr (.sl (.int .u8)) (.pr (.int .i64) (.int .u64))) k1yo0), .s (.v (.int .i64) (14 : Int))] (.s (.v .bool false)) [.box (.pr (.sl (.int .u8)) (.pr (.int .i64) (.int .u64))) c2o0]) :
    SC cfg.P i_spec_l1Cur_choices [.s (.mbx (.pr (.sl (.int .u8)) (.pr (.int .i64) (.int .u64))) a0)] (.s (.own t_int (.int .i64) k1yo3)) [.box (.pr (.sl (.int .u8)) (.pr (.int .i64) (.int .u64))) c2o0] :=
  SC_of_run cfgOK (its := [.res (.s (.v (.int .i64) c1)) [.box (.pr (.sl (.int .u8)) (.pr (.int .i64) (.int .u64))) c1o0] [] [], .loop (fun _ => (.exit 0, spec_l1Cur_choices_L0X1 k1y4 k1y8 k1yo0 k1yo3)), .res (.s (.v .bool false)) [.box (.pr (.sl (.int .u8)) (.pr (.int .i64) (.int .u64))) c2o0] [] []])
    (ps := [SC cfg.P i_spec_l1Cur_pick [.s (.mbx (.pr (.sl (.int .u8)) (.pr (.int .i64) (.int .u64))) a0), .s (.v (.int .i64) (7 : Int))] (.s (.v (.int .i64) c1)) [.box (.pr (.sl (.int .u8)) (.pr (.int .i64) (.int .u64))) c1o0],
      LoopSC cfg.P 1 (lb P_spec_l1Cur_choices 0) (spec_l1Cur_choices_L0a c1 c1o0 ([] : List Int)) (.exit 0) (spec_l1Cur_choices_L0X1 k1y4 k1y8 k1yo0 k1yo3),
      SC cfg.P i_spec_l1Cur_one [.s (.mbx (.pr (.sl (.int .u8)) (.pr (.int .i64) (.int .u64))) k1yo0), .s (.v (.int .i64) (14 : Int))] (.s (.v .bool false)) [.box (.pr (.sl (.int .u8)) (.pr (.int .i64) (.int .u64))) c2o0]]) (by kernel_rfl) ⟨h1, h2, h3, trivial⟩ get_spec_l1Cur_choices (by decide)

/-! ### spec_l1Cur_loose -/


def spec_l1Cur_loose_L0a (x4 : Int) (xo0 : ((List Int) × (Int × Int))) (xo2 : (ByteArray × ByteArray)) (xo3 : (ByteArray × ByteArray)) : St := mkSt 32 [(0, .s (.adr 0 none)), (2, .s (.adr 2 none)), (3, .s (.adr 3 none)), (4, .s (.v (.int .i64) x4))] [(0, .box (.pr (.sl (.int .u8)) (.pr (.int .i64) (.int .u64))) xo0 false), (2, .box (.pr .str .str) xo2 false), (3, .box (.pr .str .str) xo3 false)]

def spec_l1Cur_loose_L0X1 (y4 : Int) (y13 : Bool) (yo0 : ((List Int) × (Int × Int))) (yo2 : (ByteArray × ByteArray)) (yo3 : (ByteArray × ByteArray)) : St := mkSt 32 [(0, .s (.adr 0 none)), (2, .s (.adr 2 none)), (3, .s (.adr 3 none)), (4, .s (.v (.int .i64) y4)), (13, .s (.v .bool y13))] [(0, .box (.pr (.sl (.int .u8)) (.pr (.int .i64) (.int .u64))) yo0 false), (2, .box (.pr .str .str) yo2 false), (3, .box (.pr .str .str) yo3 false)]

theorem spec_l1Cur_loose_L0a_i1 (x4 : Int) (xo0 : ((List Int) × (Int × Int))) (xo2 : (ByteArray × ByteArray)) (xo3 : (ByteArray × ByteArray)) (dc1 : Int) (dc2 : Int) (dc2o0 : ((List Int) × (Int × Int))) (dc3 : ByteArray) (dc4 : ByteArray)
    (h1 : x4 > (0 : Int))
    (h2 : SC cfg.P i_spec_trCarets [.s (.v .str xo3.1)] (.s (.v (.int .i64) dc1)) [])
    (h3 : SC cfg.P i_spec_l1Cur_pick [.s (.mbx (.pr (.sl (.int .u8)) (.pr (.int .i64) (.int .u64))) xo0), .s (.v (.int .i64) (IntKind.wrap .i64 (dc1 + (1 : Int))))] (.s (.v (.int .i64) dc2)) [.box (.pr (.sl (.int .u8)) (.pr (.int .i64) (.int .u64))) dc2o0])
    (h4 : SC cfg.P i_spec_trGraft [.s (.v .str xo3.1), .s (.v (.int .i64) dc2), .s (.v .str (⟨#[40, 46, 46, 41]⟩ : ByteArray))] (.s (.v .str dc3)) [])
    (h5 : SC cfg.P i_spec_trGraft [.s (.v .str xo3.2), .s (.v (.int .i64) dc2), .s (.v .str (⟨#[40, 46, 46, 41]⟩ : ByteArray))] (.s (.v .str dc4)) [])
    {e : AEx} {st : St} (next : LoopSC cfg.P 1 (lb P_spec_l1Cur_loose 0) (spec_l1Cur_loose_L0a (IntKind.wrap .i64 (x4 - (1 : Int))) dc2o0 xo2 (dc3, dc4)) e st) :
    LoopSC cfg.P 1 (lb P_spec_l1Cur_loose 0) (spec_l1Cur_loose_L0a x4 xo0 xo2 xo3) e st :=
  loop_iter cfgOK (f := i_spec_l1Cur_loose) (its := [.bool true, .res (.s (.v (.int .i64) dc1)) [] [] [], .res (.s (.v (.int .i64) dc2)) [.box (.pr (.sl (.int .u8)) (.pr (.int .i64) (.int .u64))) dc2o0] [] [], .res (.s (.v .str dc3)) [] [] [], .res (.s (.v .str dc4)) [] [] []])
    (ps := [decide (x4 > (0 : Int)) = true,
      SC cfg.P i_spec_trCarets [.s (.v .str xo3.1)] (.s (.v (.int .i64) dc1)) [],
      SC cfg.P i_spec_l1Cur_pick [.s (.mbx (.pr (.sl (.int .u8)) (.pr (.int .i64) (.int .u64))) xo0), .s (.v (.int .i64) (IntKind.wrap .i64 (dc1 + (1 : Int))))] (.s (.v (.int .i64) dc2)) [.box (.pr (.sl (.int .u8)) (.pr (.int .i64) (.int .u64))) dc2o0],
      SC cfg.P i_spec_trGraft [.s (.v .str xo3.1), .s (.v (.int .i64) dc2), .s (.v .str (⟨#[40, 46, 46, 41]⟩ : ByteArray))] (.s (.v .str dc3)) [],
      SC cfg.P i_spec_trGraft [.s (.v .str xo3.2), .s (.v (.int .i64) dc2), .s (.v .str (⟨#[40, 46, 46, 41]⟩ : ByteArray))] (.s (.v .str dc4)) []]) (st1 := spec_l1Cur_loose_L0a (IntKind.wrap .i64 (x4 - (1 : Int))) dc2o0 xo2 (dc3, dc4)) (by kernel_rfl) ⟨(decide_eq_true h1), h2, h3, h4, h5, trivial⟩ next

theorem spec_l1Cur_loose_L0a_x2 (x4 : Int) (xo0 : ((List Int) × (Int × Int))) (xo2 : (ByteArray × ByteArray)) (xo3 : (ByteArray × ByteArray))
    (h1 : ¬ (x4 > (0 : Int))) :
    LoopSC cfg.P 1 (lb P_spec_l1Cur_loose 0) (spec_l1Cur_loose_L0a x4 xo0 xo2 xo3) (.exit 0) (spec_l1Cur_loose_L0X1 x4 false xo0 xo2 xo3) :=
  loop_out cfgOK (f := i_spec_l1Cur_loose) (its := [.bool false])
    (ps := [decide (x4 > (0 : Int)) = false]) (by kernel_rfl) ⟨(decide_eq_false h1), trivial⟩ (fun h => by cases h)

theorem spec_l1Cur_loose_p1 (a0 : ((List Int) × (Int × Int))) (c1 : Int) (c1o0 : ((List Int) × (Int × Int))) (c2 : (ByteArray × ByteArray)) (c2o0 : ((List Int) × (Int × Int))) (c3 : Int) (c3o0 : ((List Int) × (Int × Int))) (k1y4 : Int) (k1y13 : Bool) (k1yo0 : ((List Int) × (Int × Int))) (k1yo2 : (ByteArray × ByteArray)) (k1yo3 : (ByteArray × ByteArray))
    (h1 : SC cfg.P i_spec_l1Cur_pick [.s (.mbx (.pr (.sl (.int .u8)) (.pr (.int .i64) (.int .u64))) a0), .s (.v (.int .i64) (4 : Int))] (.s (.v (.int .i64) c1)) [.box (.pr (.sl (.int .u8)) (.pr (.int .i64) (.int .u64))) c1o0])
    (h2 : SC cfg.P i_spec_l1Cur_surePair [.s (.mbx (.pr (.sl (.int .u8)) (.pr (.int .i64) (.int .u64))) c1o0), .s (.v (.int .i64) c1)] (.s (.v (.pr .str .str) c2)) [.box (.pr (.sl (.int .u8)) (.pr (.int .i64) (.int .u64))) c2o0])
    (h3 : SC cfg.P i_spec_l1Cur_pick [.s (.mbx (.pr (.sl (.int .u8)) (.pr (.int .i64) (.int .u64))) c2o0), .s (.v (.int .i64) (5 : Int))] (.s (.v (.int .i64) c3)) [.box (.pr (.sl (.int .u8)) (.pr (.int .i64) (.int .u64))) c3o0])
    (h4 : LoopSC cfg.P 1 (lb P_spec_l1Cur_loose 0) (spec_l1Cur_loose_L0a c3 c3o0 ((⟨#[]⟩ : ByteArray), (⟨#[]⟩ : ByteArray)) c2) (.exit 0) (spec_l1Cur_loose_L0X1 k1y4 k1y13 k1yo0 k1yo2 k1yo3)) :
    SC cfg.P i_spec_l1Cur_loose [.s (.mbx (.pr (.sl (.int .u8)) (.pr (.int .i64) (.int .u64))) a0)] (.s (.v (.pr .str .str) k1yo3)) [.box (.pr (.sl (.int .u8)) (.pr (.int .i64) (.int .u64))) k1yo0] :=
  SC_of_run cfgOK (its := [.res (.s (.v (.int .i64) c1)) [.box (.pr (.sl (.int .u8)) (.pr (.int .i64) (.int .u64))) c1o0] [] [], .res (.s (.v (.pr .str .str) c2)) [.box (.pr (.sl (.int .u8)) (.pr (.int .i64) (.int .u64))) c2o0] [] [], .res (.s (.v (.int .i64) c3)) [.box (.pr (.sl (.int .u8)) (.pr (.int .i64) (.int .u64))) c3o0] [] [], .loop (fun _ => (.exit 0, spec_l1Cur_loose_L0X1 k1y4 k1y13 k1yo0 k1yo2 k1yo3))])
    (ps := [SC cfg.P i_spec_l1Cur_pick [.s (.mbx (.pr (.sl (.int .u8)) (.pr (.int .i64) (.int .u64))) a0), .s (.v (.int .i64) (4 : Int))] (.s (.v (.int .i64) c1)) [.box (.pr (.sl (.int .u8)) (.pr (.int .i64) (.int .u64))) c1o0],
      SC cfg.P i_spec_l1Cur_surePair [.s (.mbx (.pr (.sl (.int .u8)) (.pr (.int .i64) (.int .u64))) c1o0), .s (.v (.int .i64) c1)] (.s (.v (.pr .str .str) c2)) [.box (.pr (.sl (.int .u8)) (.pr (.int .i64) (.int .u64))) c2o0],
      SC cfg.P i_spec_l1Cur_pick [.s (.mbx (.pr (.sl (.int .u8)) (.pr (.int .i64) (.int .u64))) c2o0), .s (.v (.int .i64) (5 : Int))] (.s (.v (.int .i64) c3)) [.box (.pr (.sl (.int .u8)) (.pr (.int .i64) (.int .u64))) c3o0],
      LoopSC cfg.P 1 (lb P_spec_l1Cur_loose 0) (spec_l1Cur_loose_L0a c3 c3o0 ((⟨#[]⟩ : ByteArray), (⟨#[]⟩ : ByteArray)) c2) (.exit 0) (spec_l1Cur_loose_L0X1 k1y4 k1y13 k1yo0 k1yo2 k1yo3)]) (by kernel_rfl) ⟨h1, h2, h3, h4, trivial⟩ get_spec_l1Cur_loose (by decide)

/-! ### spec_prChoices -/


def spec_prChoices_L0a (x8 : (List Int)) (x9 : Int) (x10 : Int) : St := mkSt 17 [(8, .s (.v (.sl (.int .i64)) x8)), (9, .s (.v (.int .i64) x9)), (10, .s (.v (.int .i64) x10))] []

def spec_prChoices_L0X1 (y2 : Bool) : St := mkSt 17 [(2, .s (.v .bool y2))] []

def spec_prChoices_L0X2 (y8 : (List Int)) (y9 : Int) (y10 : Int) (y11 : Bool) : St := mkSt 17 [(8, .s (.v (.sl (.int .i64)) y8)), (9, .s (.v (.int .i64) y9)), (10, .s (.v (.int .i64) y10)), (11, .s (.v .bool y11))] []

theorem spec_prChoices_L0a_x1 (x8 : (List Int)) (x9 : Int) (x10 : Int)
    (h1 : x10 < x9)
    (h2 : 0 ≤ x10)
    (h3 : x10 < (List.length x8 : Int))
    (h4 : (List.getD x8 (x10).toNat (0 : Int)) < (0 : Int)) :
    LoopSC cfg.P 1 (lb P_spec_prChoices 0) (spec_prChoices_L0a x8 x9 x10) (.ret) (spec_prChoices_L0X1 false) :=
  loop_out cfgOK (f := i_spec_prChoices) (its := [.bool true, .bool true])
    (ps := [decide (x10 < x9) = true,
      0 ≤ x10,
      x10 < (List.length x8 : Int),
      decide ((List.getD x8 (x10).toNat (0 : Int)) < (0 : Int)) = true]) (by kernel_rfl) ⟨(decide_eq_true h1), h2, h3, (decide_eq_true h4), trivial⟩ (fun h => by cases h)

theorem spec_prChoices_L0a_i2 (x8 : (List Int)) (x9 : Int) (x10 : Int)
    (h1 : x10 < x9)
    (h2 : 0 ≤ x10)
    (h3 : x10 < (List.length x8 : Int))
    (h4 : ¬ ((List.getD x8 (x10).toNat (0 : Int)) < (0 : Int)))
    {e : AEx} {st : St} (next : LoopSC cfg.P 1 (lb P_spec_prChoices 0) (spec_prChoices_L0a x8 x9 (IntKind.wrap .i64 (x10 + (1 : Int)))) e st) :
    LoopSC cfg.P 1 (lb P_spec_prChoices 0) (spec_prChoices_L0a x8 x9 x10) e st :=
  loop_iter cfgOK (f := i_spec_prChoices) (its := [.bool true, .bool false])
    (ps := [decide (x10 < x9) = true,
      0 ≤ x10,
      x10 < (List.length x8 : Int),
      decide ((List.getD x8 (x10).toNat (0 : Int)) < (0 : Int)) = false]) (st1 := spec_prChoices_L0a x8 x9 (IntKind.wrap .i64 (x10 + (1 : Int)))) (by kernel_rfl) ⟨(decide_eq_true h1), h2, h3, (decide_eq_false h4), trivial⟩ next

theorem spec_prChoices_L0a_x3 (x8 : (List Int)) (x9 : Int) (x10 : Int)
    (h1 : ¬ (x10 < x9)) :
    LoopSC cfg.P 1 (lb P_spec_prChoices 0) (spec_prChoices_L0a x8 x9 x10) (.exit 0) (spec_prChoices_L0X2 x8 x9 x10 false) :=
  loop_out cfgOK (f := i_spec_prChoices) (its := [.bool false])
    (ps := [decide (x10 < x9) = false]) (by kernel_rfl) ⟨(decide_eq_false h1), trivial⟩ (fun h => by cases h)

theorem spec_prChoices_p1 (a0 : (List Int))
    (h1 : ((List.length a0 : Nat) : Int) > (20 : Int)) :
    SC cfg.P i_spec_prChoices [.s (.v (.sl (.int .i64)) a0)] (.s (.v .bool false)) [] :=
  SC_of_run cfgOK (its := [.bool true])
    (ps := [decide (((List.length a0 : Nat) : Int) > (20 : Int)) = true]) (by kernel_rfl) ⟨(decide_eq_true h1), trivial⟩ get_spec_prChoices (by decide)

theorem spec_prChoices_p2 (a0 : (List Int)) (k1y2 : Bool)
    (h1 : ¬ (((List.length a0 : Nat) : Int) > (20 : Int)))
    (h2 : LoopSC cfg.P 1 (lb P_spec_prChoices 0) (spec_prChoices_L0a a0 ((List.length a0 : Nat) : Int) (0 : Int)) (.ret) (spec_prChoices_L0X1 k1y2)) :
    SC cfg.P i_spec_prChoices [.s (.v (.sl (.int .i64)) a0)] (.s (.v .bool k1y2)) [] :=
  SC_of_run cfgOK (its := [.bool false, .loop (fun _ => (.ret, spec_prChoices_L0X1 k1y2))])
    (ps := [decide (((List.length a0 : Nat) : Int) > (20 : Int)) = false,
      LoopSC cfg.P 1 (lb P_spec_prChoices 0) (spec_prChoices_L0a a0 ((List.length a0 : Nat) : Int) (0 : Int)) (.ret) (spec_prChoices_L0X1 k1y2)]) (by kernel_rfl) ⟨(decide_eq_false h1), h2, trivial⟩ get_spec_prChoices (by decide)

theorem spec_prChoices_p3 (a0 : (List Int)) (k1y8 : (List Int)) (k1y9 : Int) (k1y10 : Int) (k1y11 : Bool)
    (h1 : ¬ (((List.length a0 : Nat) : Int) > (20 : Int)))
    (h2 : LoopSC cfg.P 1 (lb P_spec_prChoices 0) (spec_prChoices_L0a a0 ((List.length a0 : Nat) : Int) (0 : Int)) (.exit 0) (spec_prChoices_L0X2 k1y8 k1y9 k1y10 k1y11)) :
    SC cfg.P i_spec_prChoices [.s (.v (.sl (.int .i64)) a0)] (.s (.v .bool true)) [] :=
  SC_of_run cfgOK (its := [.bool false, .loop (fun _ => (.exit 0, spec_prChoices_L0X2 k1y8 k1y9 k1y10 k1y11))])
    (ps := [decide (((List.length a0 : Nat) : Int) > (20 : Int)) = false,
      LoopSC cfg.P 1 (lb P_spec_prChoices 0) (spec_prChoices_L0a a0 ((List.length a0 : Nat) : Int) (0 : Int)) (.exit 0) (spec_prChoices_L0X2 k1y8 k1y9 k1y10 k1y11)]) (by kernel_rfl) ⟨(decide_eq_false h1), h2, trivial⟩ get_spec_prChoices (by decide)

/-! ### spec_prLeaf -/


theorem spec_prLeaf_p1 (a0 : (ByteArray × ByteArray)) (a1 : Int) (c2 : Int) (c3 : Bool)
    (h1 : SC cfg.P i_spec_prGood [.s (.v (.pr .str .str) a0)] (.s (.v .bool true)) [])
    (h2 : SC cfg.P i_spec_trCarets [.s (.v .str a0.1)] (.s (.v (.int .i64) c2)) [])
    (h3 : SC cfg.P i_spec_l1In [.s (.v (.int .i64) a1), .s (.v (.int .i64) (0 : Int)), .s (.v (.int .i64) c2)] (.s (.v .bool c3)) []) :
    SC cfg.P i_spec_prLeaf [.s (.v (.pr .str .str) a0), .s (.v (.int .i64) a1)] (.s (.v .bool c3)) [] :=
  SC_of_run cfgOK (its := [.res (.s (.v .bool true)) [] [] [], .res (.s (.v (.int .i64) c2)) [] [] [], .res (.s (.v .bool c3)) [] [] []])
    (ps := [SC cfg.P i_spec_prGood [.s (.v (.pr .str .str) a0)] (.s (.v .bool true)) [],
      SC cfg.P i_spec_trCarets [.s (.v .str a0.1)] (.s (.v (.int .i64) c2)) [],
      SC cfg.P i_spec_l1In [.s (.v (.int .i64) a1), .s (.v (.int .i64) (0 : Int)), .s (.v (.int .i64) c2)] (.s (.v .bool c3)) []]) (by kernel_rfl) ⟨h1, h2, h3, trivial⟩ get_spec_prLeaf (by decide)

theorem spec_prLeaf_p2 (a0 : (ByteArray × ByteArray)) (a1 : Int)
    (h1 : SC cfg.P i_spec_prGood [.s (.v (.pr .str .str) a0)] (.s (.v .bool false)) []) :
    SC cfg.P i_spec_prLeaf [.s (.v (.pr .str .str) a0), .s (.v (.int .i64) a1)] (.s (.v .bool false)) [] :=
  SC_of_run cfgOK (its := [.res (.s (.v .bool false)) [] [] []])
    (ps := [SC cfg.P i_spec_prGood [.s (.v (.pr .str .str) a0)] (.s (.v .bool false)) []]) (by kernel_rfl) ⟨h1, trivial⟩ get_spec_prLeaf (by decide)

/-! ### spec_l1Cur_choices0 -/


def spec_l1Cur_choices0_L0a (x4 : Int) (xo0 : ((List Int) × (Int × Int))) (xo3 : (List Int)) : St := mkSt 17 [(0, .s (.adr 0 none)), (3, .s (.osl 3 0)), (4, .s (.v (.int .i64) x4))] [(0, .box (.pr (.sl (.int .u8)) (.pr (.int .i64) (.int .u64))) xo0 false), (3, .row t_int (.int .i64) xo3 0 false)]

def spec_l1Cur_choices0_L0X1 (y4 : Int) (y8 : Bool) (yo0 : ((List Int) × (Int × Int))) (yo3 : (List Int)) : St := mkSt 17 [(0, .s (.adr 0 none)), (3, .s (.osl 3 0)), (4, .s (.v (.int .i64) y4)), (8, .s (.v .bool y8))] [(0, .box (.pr (.sl (.int .u8)) (.pr (.int .i64) (.int .u64))) yo0 false), (3, .row t_int (.int .i64) yo3 0 false)]

theorem spec_l1Cur_choices0_L0a_i1 (x4 : Int) (xo0 : ((List Int) × (Int × Int))) (xo3 : (List Int)) (dc1 : Int) (dc1o0 : ((List Int) × (Int × Int)))
    (h1 : x4 > (0 : Int))
    (h2 : SC cfg.P i_spec_l1Cur_pick [.s (.mbx (.pr (.sl (.int .u8)) (.pr (.int .i64) (.int .u64))) xo0), .s (.v (.int .i64) (5 : Int))] (.s (.v (.int .i64) dc1)) [.box (.pr (.sl (.int .u8)) (.pr (.int .i64) (.int .u64))) dc1o0])
    (h3 : sizeOK (List.length xo3 + List.length ([dc1] : List Int)))
    {e : AEx} {st : St} (next : LoopSC cfg.P 1 (lb P_spec_l1Cur_choices0 0) (spec_l1Cur_choices0_L0a (IntKind.wrap .i64 (x4 - (1 : Int))) dc1o0 (xo3 ++ ([dc1] : List Int))) e st) :
    LoopSC cfg.P 1 (lb P_spec_l1Cur_choices0 0) (spec_l1Cur_choices0_L0a x4 xo0 xo3) e st :=
  loop_iter cfgOK (f := i_spec_l1Cur_choices0) (its := [.bool true, .res (.s (.v (.int .i64) dc1)) [.box (.pr (.sl (.int .u8)) (.pr (.int .i64) (.int .u64))) dc1o0] [] []])
    (ps := [decide (x4 > (0 : Int)) = true,
      SC cfg.P i_spec_l1Cur_pick [.s (.mbx (.pr (.sl (.int .u8)) (.pr (.int .i64) (.int .u64))) xo0), .s (.v (.int .i64) (5 : Int))] (.s (.v (.int .i64) dc1)) [.box (.pr (.sl (.int .u8)) (.pr (.int .i64) (.int .u64))) dc1o0],
      sizeOK (List.length xo3 + List.length ([dc1] : List Int))]) (st1 := spec_l1Cur_choices0_L0a (IntKind.wrap .i64 (x4 - (1 : Int))) dc1o0 (xo3 ++ ([dc1] : List Int))) (by kernel_rfl) ⟨(decide_eq_true h1), h2, h3, trivial⟩ next

theorem spec_l1Cur_choices0_L0a_x2 (x4 : Int) (xo0 : ((List Int) × (Int × Int))) (xo3 : (List Int))
    (h1 : ¬ (x4 > (0 : Int))) :
    LoopSC cfg.P 1 (lb P_spec_l1Cur_choices0 0) (spec_l1Cur_choices0_L0a x4 xo0 xo3) (.exit 0) (spec_l1Cur_choices0_L0X1 x4 false xo0 xo3) :=
  loop_out cfgOK (f := i_spec_l1Cur_choices0) (its := [.bool false])
    (ps := [decide (x4 > (0 : Int)) = false]) (by kernel_rfl) ⟨(decide_eq_false h1), trivial⟩ (fun h => by cases h)

theorem spec_l1Cur_choices0_p1 (a0 : ((List Int) × (Int × Int))) (c1 : Int) (c1o0 : ((List Int) × (Int × Int))) (k1y4 : Int) (k1y8 : Bool) (k1yo0 : ((List Int) × (Int × Int))) (k1yo3 : (List Int))
    (h1 : SC cfg.P i_spec_l1Cur_pick [.s (.mbx (.pr (.sl (.int .u8)) (.pr (.int .i64) (.int .u64))) a0), .s (.v (.int .i64) (4 : Int))] (.s (.v (.int .i64) c1)) [.box (.pr (.sl (.int .u8)) (.pr (.int .i64) (.int .u64))) c1o0])
    (h2 : LoopSC cfg.P 1 (lb P_spec_l1Cur_choices0 0) (spec_l1Cur_choices0_L0a c1 c1o0 ([] : List Int)) (.exit 0) (spec_l1Cur_choices0_L0X1 k1y4 k1y8 k1yo0 k1yo3)) :
    SC cfg.P i_spec_l1Cur_choices0 [.s (.mbx (.pr (.sl (.int .u8)) (.pr (.int .i64) (.int .u64))) a0)] (.s (.own t_int (.int .i64) k1yo3)) [.box (.pr (.sl (.int .u8)) (.pr (.int .i64) (.int .u64))) k1yo0] :=
  SC_of_run cfgOK (its := [.res (.s (.v (.int .i64) c1)) [.box (.pr (.sl (.int .u8)) (.pr (.int .i64) (.int .u64))) c1o0] [] [], .loop (fun _ => (.exit 0, spec_l1Cur_choices0_L0X1 k1y4 k1y8 k1yo0 k1yo3))])
    (ps := [SC cfg.P i_spec_l1Cur_pick [.s (.mbx (.pr (.sl (.int .u8)) (.pr (.int .i64) (.int .u64))) a0), .s (.v (.int .i64) (4 : Int))] (.s (.v (.int .i64) c1)) [.box (.pr (.sl (.int .u8)) (.pr (.int .i64) (.int .u64))) c1o0],
      LoopSC cfg.P 1 (lb P_spec_l1Cur_choices0 0) (spec_l1Cur_choices0_L0a c1 c1o0 ([] : List Int)) (.exit 0) (spec_l1Cur_choices0_L0X1 k1y4 k1y8 k1yo0 k1yo3)]) (by kernel_rfl) ⟨h1, h2, trivial⟩ get_spec_l1Cur_choices0 (by decide)

/-! ### strings_Cut -/


theorem strings_Cut_p1 (a0 : ByteArray) (a1 : ByteArray) (c1a : ByteArray) (c1b : ByteArray) (c1c : Bool)
    (h1 : SC cfg.P i_internal_stringslite_Cut [.s (.v .str a0), .s (.v .str a1)] (.tup [.v .str c1a, .v .str c1b, .v .bool c1c]) []) :
    SC cfg.P i_strings_Cut [.s (.v .str a0), .s (.v .str a1)] (.tup [.v .str c1a, .v .str c1b, .v .bool c1c]) [] :=
  SC_of_run cfgOK (its := [.res (.tup [.v .str c1a, .v .str c1b, .v .bool c1c]) [] [] []])
    (ps := [SC cfg.P i_internal_stringslite_Cut [.s (.v .str a0), .s (.v .str a1)] (.tup [.v .str c1a, .v .str c1b, .v .bool c1c]) []]) (by kernel_rfl) ⟨h1, trivial⟩ get_strings_Cut (by decide)

/-! ### spec_prParse -/


theorem spec_prParse_p1 (a0 : ByteArray) (c1 : (List ByteArray))
    (h1 : SC cfg.P i_spec_l1Split [.s (.v .str a0), .s (.v (.int .u8) (62 : Int))] (.s (.own t_string .str c1)) [])
    (h2 : ((a0).size : Int) > (200 : Int)) :
    SC cfg.P i_spec_prParse [.s (.v .str a0)] (.tup [.v (.pr .str .str) ((⟨#[]⟩ : ByteArray), (⟨#[]⟩ : ByteArray)), .v .bool false]) [] :=
  SC_of_run cfgOK (its := [.res (.s (.own t_string .str c1)) [] [] [6], .bool true])
    (ps := [SC cfg.P i_spec_l1Split [.s (.v .str a0), .s (.v (.int .u8) (62 : Int))] (.s (.own t_string .str c1)) [],
      decide (((a0).size : Int) > (200 : Int)) = true]) (by kernel_rfl) ⟨h1, (decide_eq_true h2), trivial⟩ get_spec_prParse (by decide)

theorem spec_prParse_p2 (a0 : ByteArray) (c1 : (List ByteArray))
    (h1 : SC cfg.P i_spec_l1Split [.s (.v .str a0), .s (.v (.int .u8) (62 : Int))] (.s (.own t_string .str c1)) [])
    (h2 : ¬ (((a0).size : Int) > (200 : Int)))
    (h3 : ((List.length c1 : Nat) : Int) ≠ (2 : Int)) :
    SC cfg.P i_spec_prParse [.s (.v .str a0)] (.tup [.v (.pr .str .str) ((⟨#[]⟩ : ByteArray), (⟨#[]⟩ : ByteArray)), .v .bool false]) [] :=
  SC_of_run cfgOK (its := [.res (.s (.own t_string .str c1)) [] [] [6], .bool false, .bool true])
    (ps := [SC cfg.P i_spec_l1Split [.s (.v .str a0), .s (.v (.int .u8) (62 : Int))] (.s (.own t_string .str c1)) [],
      decide (((a0).size : Int) > (200 : Int)) = false,
      (((List.length c1 : Nat) : Int) != (2 : Int)) = true]) (by kernel_rfl) ⟨h1, (decide_eq_false h2), (bne_iff_ne.mpr h3), trivial⟩ get_spec_prParse (by decide)

theorem spec_prParse_p3 (a0 : ByteArray) (c1 : (List ByteArray)) (c2a : (ByteArray × ByteArray)) (c2b : Bool)
    (h1 : SC cfg.P i_spec_l1Split [.s (.v .str a0), .s (.v (.int .u8) (62 : Int))] (.s (.own t_string .str c1)) [])
    (h2 : ¬ (((a0).size : Int) > (200 : Int)))
    (h3 : ((List.length c1 : Nat) : Int) = (2 : Int))
    (h4 : (0 : Int) < (List.length c1 : Int))
    (h5 : ((0 : Int)).toNat < List.length c1)
    (h6 : (1 : Int) < (List.length c1 : Int))
    (h7 : ((1 : Int)).toNat < List.length c1)
    (h8 : SC cfg.P i_spec_prIf [.s (.v (.pr .str .str) ((List.getD c1 ((0 : Int)).toNat (⟨#[]⟩ : ByteArray)), (List.getD c1 ((1 : Int)).toNat (⟨#[]⟩ : ByteArray))))] (.tup [.v (.pr .str .str) c2a, .v .bool c2b]) []) :
    SC cfg.P i_spec_prParse [.s (.v .str a0)] (.tup [.v (.pr .str .str) c2a, .v .bool c2b]) [] :=
  SC_of_run cfgOK (its := [.res (.s (.own t_string .str c1)) [] [] [6], .bool false, .bool false, .res (.tup [.v (.pr .str .str) c2a, .v .bool c2b]) [] [] []])
    (ps := [SC cfg.P i_spec_l1Split [.s (.v .str a0), .s (.v (.int .u8) (62 : Int))] (.s (.own t_string .str c1)) [],
      decide (((a0).size : Int) > (200 : Int)) = false,
      (((List.length c1 : Nat) : Int) != (2 : Int)) = false,
      0 ≤ (0 : Int),
      (0 : Int) < (List.length c1 : Int),
      ((0 : Int)).toNat < List.length c1,
      0 ≤ (1 : Int),
      (1 : Int) < (List.length c1 : Int),
      ((1 : Int)).toNat < List.length c1,
      SC cfg.P i_spec_prIf [.s (.v (.pr .str .str) ((List.getD c1 ((0 : Int)).toNat (⟨#[]⟩ : ByteArray)), (List.getD c1 ((1 : Int)).toNat (⟨#[]⟩ : ByteArray))))] (.tup [.v (.pr .str .str) c2a, .v .bool c2b]) []]) (by kernel_rfl) ⟨h1, (decide_eq_false h2), (bne_eq_false_iff_eq.mpr h3), (by decide), h4, h5, (by decide), h6, h7, h8, trivial⟩ get_spec_prParse (by decide)

/-! ### internal_stringslite_Cut -/


theorem internal_stringslite_Cut_p1 (a0 : ByteArray) (a1 : ByteArray) (c1 : Int)
    (h1 : SC cfg.P i_internal_stringslite_Index [.s (.v .str a0), .s (.v .str a1)] (.s (.v (.int .i64) c1)) [])
    (h2 : c1 ≥ (0 : Int))
    (h3 : 0 ≤ c1)
    (h4 : c1 ≤ ((a0).size : Int))
    (h5 : 0 ≤ (IntKind.wrap .i64 (c1 + ((a1).size : Int))))
    (h6 : (IntKind.wrap .i64 (c1 + ((a1).size : Int))) ≤ ((a0).size : Int)) :
    SC cfg.P i_internal_stringslite_Cut [.s (.v .str a0), .s (.v .str a1)] (.tup [.v .str (ByteArray.extract a0 ((0 : Int)).toNat (c1).toNat), .v .str (ByteArray.extract a0 ((IntKind.wrap .i64 (c1 + ((a1).size : Int)))).toNat (((a0).size : Int)).toNat), .v .bool true]) [] :=
  SC_of_run cfgOK (its := [.res (.s (.v (.int .i64) c1)) [] [] [], .bool true])
    (ps := [SC cfg.P i_internal_stringslite_Index [.s (.v .str a0), .s (.v .str a1)] (.s (.v (.int .i64) c1)) [],
      decide (c1 ≥ (0 : Int)) = true,
      0 ≤ c1,
      c1 ≤ ((a0).size : Int),
      0 ≤ (IntKind.wrap .i64 (c1 + ((a1).size : Int))),
      (IntKind.wrap .i64 (c1 + ((a1).size : Int))) ≤ ((a0).size : Int)]) (by kernel_rfl) ⟨h1, (decide_eq_true h2), h3, h4, h5, h6, trivial⟩ get_internal_stringslite_Cut (by decide)

theorem internal_stringslite_Cut_p2 (a0 : ByteArray) (a1 : ByteArray) (c1 : Int)
    (h1 : SC cfg.P i_internal_stringslite_Index [.s (.v .str a0), .s (.v .str a1)] (.s (.v (.int .i64) c1)) [])
    (h2 : ¬ (c1 ≥ (0 : Int))) :
    SC cfg.P i_internal_stringslite_Cut [.s (.v .str a0), .s (.v .str a1)] (.tup [.v .str a0, .v .str (⟨#[]⟩ : ByteArray), .v .bool false]) [] :=
  SC_of_run cfgOK (its := [.res (.s (.v (.int .i64) c1)) [] [] [], .bool false])
    (ps := [SC cfg.P i_internal_stringslite_Index [.s (.v .str a0), .s (.v .str a1)] (.s (.v (.int .i64) c1)) [],
      decide (c1 ≥ (0 : Int)) = false]) (by kernel_rfl) ⟨h1, (decide_eq_false h2), trivial⟩ get_internal_stringslite_Cut (by decide)

/-! ### spec_l1Split -/


def spec_l1Split_L0a (x0 : ByteArray) (x1 : Int) (x6 : Int) (x7 : Int) (xo5 : (List ByteArray)) : St := mkSt 34 [(0, .s (.v .str x0)), (1, .s (.v (.int .u8) x1)), (5, .s (.osl 5 0)), (6, .s (.v (.int .i64) x6)), (7, .s (.v (.int .i64) x7))] [(5, .row t_string .str xo5 0 false)]

def spec_l1Split_L0X1 (y0 : ByteArray) (y1 : Int) (y6 : Int) (y7 : Int) (y11 : Bool) (yo5 : (List ByteArray)) : St := mkSt 34 [(0, .s (.v .str y0)), (1, .s (.v (.int .u8) y1)), (5, .s (.osl 5 0)), (6, .s (.v (.int .i64) y6)), (7, .s (.v (.int .i64) y7)), (11, .s (.v .bool y11))] [(5, .row t_string .str yo5 0 false)]

theorem spec_l1Split_L0a_i1 (x0 : ByteArray) (x1 : Int) (x6 : Int) (x7 : Int) (xo5 : (List ByteArray))
    (h1 : x7 < ((x0).size : Int))
    (h2 : 0 ≤ x7)
    (h3 : (bt x0 x7) = x1)
    (h4 : 0 ≤ x6)
    (h5 : x6 ≤ x7)
    (h6 : x7 ≤ ((x0).size : Int))
    (h7 : sizeOK (List.length xo5 + List.length ([(ByteArray.extract x0 (x6).toNat (x7).toNat)] : List ByteArray)))
    {e : AEx} {st : St} (next : LoopSC cfg.P 2 (lb P_spec_l1Split 0) (spec_l1Split_L0a x0 x1 (IntKind.wrap .i64 (x7 + (1 : Int))) (IntKind.wrap .i64 (x7 + (1 : Int))) (xo5 ++ ([(ByteArray.extract x0 (x6).toNat (x7).toNat)] : List ByteArray))) e st) :
    LoopSC cfg.P 2 (lb P_spec_l1Split 0) (spec_l1Split_L0a x0 x1 x6 x7 xo5) e st :=
  loop_iter cfgOK (f := i_spec_l1Split) (its := [.bool true, .bool true])
    (ps := [decide (x7 < ((x0).size : Int)) = true,
      0 ≤ x7,
      x7 < ((x0).size : Int),
      ((bt x0 x7) == x1) = true,
      0 ≤ x6,
      x6 ≤ x7,
      x7 ≤ ((x0).size : Int),
      sizeOK (List.length xo5 + List.length ([(ByteArray.extract x0 (x6).toNat (x7).toNat)] : List ByteArray))]) (st1 := spec_l1Split_L0a x0 x1 (IntKind.wrap .i64 (x7 + (1 : Int))) (IntKind.wrap .i64 (x7 + (1 : Int))) (xo5 ++ ([(ByteArray.extract x0 (x6).toNat (x7).toNat)] : List ByteArray))) (by kernel_rfl) ⟨(decide_eq_true h1), h2, h1, (beq_iff_eq.mpr h3), h4, h5, h6, h7, trivial⟩ next

theorem spec_l1Split_L0a_i2 (x0 : ByteArray) (x1 : Int) (x6 : Int) (x7 : Int) (xo5 : (List ByteArray))
    (h1 : x7 < ((x0).size : Int))
    (h2 : 0 ≤ x7)
    (h3 : (bt x0 x7) ≠ x1)
    {e : AEx} {st : St} (next : LoopSC cfg.P 2 (lb P_spec_l1Split 0) (spec_l1Split_L0a x0 x1 x6 (IntKind.wrap .i64 (x7 + (1 : Int))) xo5) e st) :
    LoopSC cfg.P 2 (lb P_spec_l1Split 0) (spec_l1Split_L0a x0 x1 x6 x7 xo5) e st :=
  loop_iter cfgOK (f := i_spec_l1Split) (its := [.bool true, .bool false])
    (ps := [decide (x7 < ((x0).size : Int)) = true,
      0 ≤ x7,
      x7 < ((x0).size : Int),
      ((bt x0 x7) == x1) = false]) (st1 := spec_l1Split_L0a x0 x1 x6 (IntKind.wrap .i64 (x7 + (1 : Int))) xo5) (by kernel_rfl) ⟨(decide_eq_true h1), h2, h1, (beq_eq_false_iff_ne.mpr h3), trivial⟩ next

theorem spec_l1Split_L0a_x3 (x0 : ByteArray) (x1 : Int) (x6 : Int) (x7 : Int) (xo5 : (List ByteArray))
    (h1 : ¬ (x7 < ((x0).size : Int))) :
    LoopSC cfg.P 2 (lb P_spec_l1Split 0) (spec_l1Split_L0a x0 x1 x6 x7 xo5) (.exit 0) (spec_l1Split_L0X1 x0 x1 x6 x7 false xo5) :=
  loop_out cfgOK (f := i_spec_l1Split) (its := [.bool false])
    (ps := [decide (x7 < ((x0).size : Int)) = false]) (by kernel_rfl) ⟨(decide_eq_false h1), trivial⟩ (fun h => by cases h)

theorem spec_l1Split_p1 (a0 : ByteArray) (a1 : Int) (k1y0 : ByteArray) (k1y1 : Int) (k1y6 : Int) (k1y7 : Int) (k1y11 : Bool) (k1yo5 : (List ByteArray))
    (h1 : LoopSC cfg.P 2 (lb P_spec_l1Split 0) (spec_l1Split_L0a a0 a1 (0 : Int) (0 : Int) ([] : List ByteArray)) (.exit 0) (spec_l1Split_L0X1 k1y0 k1y1 k1y6 k1y7 k1y11 k1yo5))
    (h2 : 0 ≤ k1y6)
    (h3 : k1y6 ≤ ((k1y0).size : Int))
    (h4 : sizeOK (List.length k1yo5 + List.length ([(ByteArray.extract k1y0 (k1y6).toNat (((k1y0).size : Int)).toNat)] : List ByteArray))) :
    SC cfg.P i_spec_l1Split [.s (.v .str a0), .s (.v (.int .u8) a1)] (.s (.own t_string .str (k1yo5 ++ ([(ByteArray.extract k1y0 (k1y6).toNat (((k1y0).size : Int)).toNat)] : List ByteArray)))) [] :=
  SC_of_run cfgOK (its := [.loop (fun _ => (.exit 0, spec_l1Split_L0X1 k1y0 k1y1 k1y6 k1y7 k1y11 k1yo5))])
    (ps := [LoopSC cfg.P 2 (lb P_spec_l1Split 0) (spec_l1Split_L0a a0 a1 (0 : Int) (0 : Int) ([] : List ByteArray)) (.exit 0) (spec_l1Split_L0X1 k1y0 k1y1 k1y6 k1y7 k1y11 k1yo5),
      0 ≤ k1y6,
      k1y6 ≤ ((k1y0).size : Int),
      sizeOK (List.length k1yo5 + List.length ([(ByteArray.extract k1y0 (k1y6).toNat (((k1y0).size : Int)).toNat)] : List ByteArray))]) (by kernel_rfl) ⟨h1, h2, h3, h4, trivial⟩ get_spec_l1Split (by decide)

/-! ### internal_stringslite_Index -/


theorem internal_stringslite_Index_p1 (a0 : ByteArray) (a1 : ByteArray)
    (h1 : ((a1).size : Int) = (0 : Int)) :
    SC cfg.P i_internal_stringslite_Index [.s (.v .str a0), .s (.v .str a1)] (.s (.v (.int .i64) (0 : Int))) [] :=
  SC_of_run cfgOK (its := [.bool true])
    (ps := [(((a1).size : Int) == (0 : Int)) = true]) (by kernel_rfl) ⟨(beq_iff_eq.mpr h1), trivial⟩ get_internal_stringslite_Index (by decide)

theorem internal_stringslite_Index_p2 (a0 : ByteArray) (a1 : ByteArray)
    (h1 : ((a1).size : Int) ≠ (0 : Int))
    (h2 : a1 = a0) :
    SC cfg.P i_internal_stringslite_Index [.s (.v .str a0), .s (.v .str a1)] (.s (.v (.int .i64) (0 : Int))) [] :=
  SC_of_run cfgOK (its := [.bool false, .bool true])
    (ps := [(((a1).size : Int) == (0 : Int)) = false,
      ((a1).toList == (a0).toList) = true]) (by kernel_rfl) ⟨(beq_eq_false_iff_ne.mpr h1), (seq_t h2), trivial⟩ get_internal_stringslite_Index (by decide)

theorem internal_stringslite_Index_p3 (a0 : ByteArray) (a1 : ByteArray) (c1 : Int)
    (h1 : ((a1).size : Int) ≠ (0 : Int))
    (h2 : a1 ≠ a0)
    (h3 : ((a1).size : Int) = (1 : Int))
    (h4 : (0 : Int) < ((a1).size : Int))
    (h5 : SC cfg.P i_internal_stringslite_IndexByte [.s (.v .str a0), .s (.v (.int .u8) (bt a1 (0 : Int)))] (.s (.v (.int .i64) c1)) []) :
    SC cfg.P i_internal_stringslite_Index [.s (.v .str a0), .s (.v .str a1)] (.s (.v (.int .i64) c1)) [] :=
  SC_of_run cfgOK (its := [.bool false, .bool false, .bool true, .res (.s (.v (.int .i64) c1)) [] [] []])
    (ps := [(((a1).size : Int) == (0 : Int)) = false,
      ((a1).toList == (a0).toList) = false,
      (((a1).size : Int) == (1 : Int)) = true,
      0 ≤ (0 : Int),
      (0 : Int) < ((a1).size : Int),
      SC cfg.P i_internal_stringslite_IndexByte [.s (.v .str a0), .s (.v (.int .u8) (bt a1 (0 : Int)))] (.s (.v (.int .i64) c1)) []]) (by kernel_rfl) ⟨(beq_eq_false_iff_ne.mpr h1), (seq_f h2), (beq_iff_eq.mpr h3), (by decide), h4, h5, trivial⟩ get_internal_stringslite_Index (by decide)

theorem internal_stringslite_Index_p4 (a0 : ByteArray) (a1 : ByteArray)
    (h1 : ((a1).size : Int) ≠ (0 : Int))
    (h2 : a1 ≠ a0)
    (h3 : ((a1).size : Int) ≠ (1 : Int))
    (h4 : ((a1).size : Int) ≥ ((a0).size : Int)) :
    SC cfg.P i_internal_stringslite_Index [.s (.v .str a0), .s (.v .str a1)] (.s (.v (.int .i64) (-1 : Int))) [] :=
  SC_of_run cfgOK (its := [.bool false, .bool false, .bool false, .bool true])
    (ps := [(((a1).size : Int) == (0 : Int)) = false,
      ((a1).toList == (a0).toList) = false,
      (((a1).size : Int) == (1 : Int)) = false,
      decide (((a1).size : Int) ≥ ((a0).size : Int)) = true]) (by kernel_rfl) ⟨(beq_eq_false_iff_ne.mpr h1), (seq_f h2), (beq_eq_false_iff_ne.mpr h3), (decide_eq_true h4), trivial⟩ get_internal_stringslite_Index (by decide)

-- internal_stringslite_Index: global at "strings.go:37" load   [(((a1).size : Int) == (0 : Int))=False; ((a1).toList == (a0).toList)=False; (((a1).size : Int) == (1 : Int))=False; decide (((a1).size : Int) ≥ ((a0).size : Int))=False]

/-! ### internal_stringslite_IndexByte -/


theorem internal_stringslite_IndexByte_p1 (a0 : ByteArray) (a1 : Int) (c1 : Int)
    (h1 : SC cfg.P i_internal_bytealg_IndexByteString [.s (.v .str a0), .s (.v (.int .u8) a1)] (.s (.v (.int .i64) c1)) []) :
    SC cfg.P i_internal_stringslite_IndexByte [.s (.v .str a0), .s (.v (.int .u8) a1)] (.s (.v (.int .i64) c1)) [] :=
  SC_of_run cfgOK (its := [.res (.s (.v (.int .i64) c1)) [] [] []])
    (ps := [SC cfg.P i_internal_bytealg_IndexByteString [.s (.v .str a0), .s (.v (.int .u8) a1)] (.s (.v (.int .i64) c1)) []]) (by kernel_rfl) ⟨h1, trivial⟩ get_internal_stringslite_IndexByte (by decide)

/-! ### internal_bytealg_Cutover -/


theorem internal_bytealg_Cutover_p1 (a0 : Int)
    (h1 : (8 : Int) ≠ 0) :
    SC cfg.P i_internal_bytealg_Cutover [.s (.v (.int .i64) a0)] (.s (.v (.int .i64) (IntKind.wrap .i64 (Int.tdiv (IntKind.wrap .i64 (a0 + (16 : Int))) (8 : Int))))) [] :=
  SC_of_run cfgOK (its := [])
    (ps := [(8 : Int) ≠ 0]) (by kernel_rfl) ⟨h1, trivial⟩ get_internal_bytealg_Cutover (by decide)

/-! ### internal_bytealg_IndexRabinKarp -/


def internal_bytealg_IndexRabinKarp_L0a (x0 : ByteArray) (x1 : ByteArray) (x5 : Int) (x6 : Int) (x7 : Int) (x8 : Int) (x9 : Int) : St := mkSt 81 [(0, .s (.v .str x0)), (1, .s (.v .str x1)), (5, .s (.v (.int .u32) x5)), (6, .s (.v (.int .u32) x6)), (7, .s (.v (.int .i64) x7)), (8, .s (.v (.int .u32) x8)), (9, .s (.v (.int .i64) x9))] []

def internal_bytealg_IndexRabinKarp_L0X1 (y0 : ByteArray) (y1 : ByteArray) (y5 : Int) (y6 : Int) (y7 : Int) (y8 : Int) (y9 : Int) (y20 : Bool) : St := mkSt 81 [(0, .s (.v .str y0)), (1, .s (.v .str y1)), (5, .s (.v (.int .u32) y5)), (6, .s (.v (.int .u32) y6)), (7, .s (.v (.int .i64) y7)), (8, .s (.v (.int .u32) y8)), (9, .s (.v (.int .i64) y9)), (20, .s (.v .bool y20))] []

def internal_bytealg_IndexRabinKarp_L1a (x0 : ByteArray) (x1 : ByteArray) (x5 : Int) (x6 : Int) (x7 : Int) (x8 : Int) (x10 : Int) : St := mkSt 81 [(0, .s (.v .str x0)), (1, .s (.v .str x1)), (5, .s (.v (.int .u32) x5)), (6, .s (.v (.int .u32) x6)), (7, .s (.v (.int .i64) x7)), (8, .s (.v (.int .u32) x8)), (10, .s (.v (.int .i64) x10))] []

def internal_bytealg_IndexRabinKarp_L1X1 (y4 : Int) : St := mkSt 81 [(4, .s (.v (.int .i64) y4))] []

def internal_bytealg_IndexRabinKarp_L1c (x0 : ByteArray) (x1 : ByteArray) (x5 : Int) (x6 : Int) (x7 : Int) (x8 : Int) (x10 : Int) (x77 : Bool) : St := mkSt 81 [(0, .s (.v .str x0)), (1, .s (.v .str x1)), (5, .s (.v (.int .u32) x5)), (6, .s (.v (.int .u32) x6)), (7, .s (.v (.int .i64) x7)), (8, .s (.v (.int .u32) x8)), (10, .s (.v (.int .i64) x10)), (77, .s (.v .bool x77))] []

def internal_bytealg_IndexRabinKarp_L1X2 (y0 : ByteArray) (y1 : ByteArray) (y5 : Int) (y6 : Int) (y7 : Int) (y8 : Int) (y10 : Int) (y44 : Bool) : St := mkSt 81 [(0, .s (.v .str y0)), (1, .s (.v .str y1)), (5, .s (.v (.int .u32) y5)), (6, .s (.v (.int .u32) y6)), (7, .s (.v (.int .i64) y7)), (8, .s (.v (.int .u32) y8)), (10, .s (.v (.int .i64) y10)), (44, .s (.v .bool y44))] []

theorem internal_bytealg_IndexRabinKarp_L0a_i1 (x0 : ByteArray) (x1 : ByteArray) (x5 : Int) (x6 : Int) (x7 : Int) (x8 : Int) (x9 : Int)
    (h1 : x9 < x7)
    (h2 : 0 ≤ x9)
    (h3 : x9 < ((x0).size : Int))
    {e : AEx} {st : St} (next : LoopSC cfg.P 2 (lb P_internal_bytealg_IndexRabinKarp 0) (internal_bytealg_IndexRabinKarp_L0a x0 x1 x5 x6 x7 (IntKind.wrap .u32 ((IntKind.wrap .u32 (x8 * (16777619 : Int))) + (IntKind.wrap .u32 (bt x0 x9)))) (IntKind.wrap .i64 (x9 + (1 : Int)))) e st) :
    LoopSC cfg.P 2 (lb P_internal_bytealg_IndexRabinKarp 0) (internal_bytealg_IndexRabinKarp_L0a x0 x1 x5 x6 x7 x8 x9) e st :=
  loop_iter cfgOK (f := i_internal_bytealg_IndexRabinKarp) (its := [.bool true])
    (ps := [decide (x9 < x7) = true,
      0 ≤ x9,
      x9 < ((x0).size : Int)]) (st1 := internal_bytealg_IndexRabinKarp_L0a x0 x1 x5 x6 x7 (IntKind.wrap .u32 ((IntKind.wrap .u32 (x8 * (16777619 : Int))) + (IntKind.wrap .u32 (bt x0 x9)))) (IntKind.wrap .i64 (x9 + (1 : Int)))) (by kernel_rfl) ⟨(decide_eq_true h1), h2, h3, trivial⟩ next

theorem internal_bytealg_IndexRabinKarp_L0a_x2 (x0 : ByteArray) (x1 : ByteArray) (x5 : Int) (x6 : Int) (x7 : Int) (x8 : Int) (x9 : Int)
    (h1 : ¬ (x9 < x7)) :
    LoopSC cfg.P 2 (lb P_internal_bytealg_IndexRabinKarp 0) (internal_bytealg_IndexRabinKarp_L0a x0 x1 x5 x6 x7 x8 x9) (.exit 0) (internal_bytealg_IndexRabinKarp_L0X1 x0 x1 x5 x6 x7 x8 x9 false) :=
  loop_out cfgOK (f := i_internal_bytealg_IndexRabinKarp) (its := [.bool false])
    (ps := [decide (x9 < x7) = false]) (by kernel_rfl) ⟨(decide_eq_false h1), trivial⟩ (fun h => by cases h)

theorem internal_bytealg_IndexRabinKarp_L1a_x1 (x0 : ByteArray) (x1 : ByteArray) (x5 : Int) (x6 : Int) (x7 : Int) (x8 : Int) (x10 : Int)
    (h1 : x10 < ((x0).size : Int))
    (h2 : 0 ≤ x10)
    (h3 : 0 ≤ (IntKind.wrap .i64 (x10 - x7)))
    (h4 : (IntKind.wrap .i64 (x10 - x7)) < ((x0).size : Int))
    (h5 : (IntKind.wrap .u32 ((IntKind.wrap .u32 ((IntKind.wrap .u32 (x8 * (16777619 : Int))) + (IntKind.wrap .u32 (bt x0 x10)))) - (IntKind.wrap .u32 (x6 * (IntKind.wrap .u32 (bt x0 (IntKind.wrap .i64 (x10 - x7)))))))) = x5)
    (h6 : 0 ≤ (IntKind.wrap .i64 ((IntKind.wrap .i64 (x10 + (1 : Int))) - x7)))
    (h7 : (IntKind.wrap .i64 ((IntKind.wrap .i64 (x10 + (1 : Int))) - x7)) ≤ (IntKind.wrap .i64 (x10 + (1 : Int))))
    (h8 : (IntKind.wrap .i64 (x10 + (1 : Int))) ≤ ((x0).size : Int))
    (h9 : (ByteArray.extract x0 ((IntKind.wrap .i64 ((IntKind.wrap .i64 (x10 + (1 : Int))) - x7))).toNat ((IntKind.wrap .i64 (x10 + (1 : Int)))).toNat) = x1) :
    LoopSC cfg.P 2 (lb P_internal_bytealg_IndexRabinKarp 1) (internal_bytealg_IndexRabinKarp_L1a x0 x1 x5 x6 x7 x8 x10) (.ret) (internal_bytealg_IndexRabinKarp_L1X1 (IntKind.wrap .i64 ((IntKind.wrap .i64 (x10 + (1 : Int))) - x7))) :=
  loop_out cfgOK (f := i_internal_bytealg_IndexRabinKarp) (its := [.bool true, .bool true, .bool true])
    (ps := [decide (x10 < ((x0).size : Int)) = true,
      0 ≤ x10,
      x10 < ((x0).size : Int),
      0 ≤ (IntKind.wrap .i64 (x10 - x7)),
      (IntKind.wrap .i64 (x10 - x7)) < ((x0).size : Int),
      ((IntKind.wrap .u32 ((IntKind.wrap .u32 ((IntKind.wrap .u32 (x8 * (16777619 : Int))) + (IntKind.wrap .u32 (bt x0 x10)))) - (IntKind.wrap .u32 (x6 * (IntKind.wrap .u32 (bt x0 (IntKind.wrap .i64 (x10 - x7)))))))) == x5) = true,
      0 ≤ (IntKind.wrap .i64 ((IntKind.wrap .i64 (x10 + (1 : Int))) - x7)),
      (IntKind.wrap .i64 ((IntKind.wrap .i64 (x10 + (1 : Int))) - x7)) ≤ (IntKind.wrap .i64 (x10 + (1 : Int))),
      (IntKind.wrap .i64 (x10 + (1 : Int))) ≤ ((x0).size : Int),
      (((ByteArray.extract x0 ((IntKind.wrap .i64 ((IntKind.wrap .i64 (x10 + (1 : Int))) - x7))).toNat ((IntKind.wrap .i64 (x10 + (1 : Int)))).toNat)).toList == (x1).toList) = true]) (by kernel_rfl) ⟨(decide_eq_true h1), h2, h1, h3, h4, (beq_iff_eq.mpr h5), h6, h7, h8, (seq_t h9), trivial⟩ (fun h => by cases h)

theorem internal_bytealg_IndexRabinKarp_L1a_i2 (x0 : ByteArray) (x1 : ByteArray) (x5 : Int) (x6 : Int) (x7 : Int) (x8 : Int) (x10 : Int)
    (h1 : x10 < ((x0).size : Int))
    (h2 : 0 ≤ x10)
    (h3 : 0 ≤ (IntKind.wrap .i64 (x10 - x7)))
    (h4 : (IntKind.wrap .i64 (x10 - x7)) < ((x0).size : Int))
    (h5 : (IntKind.wrap .u32 ((IntKind.wrap .u32 ((IntKind.wrap .u32 (x8 * (16777619 : Int))) + (IntKind.wrap .u32 (bt x0 x10)))) - (IntKind.wrap .u32 (x6 * (IntKind.wrap .u32 (bt x0 (IntKind.wrap .i64 (x10 - x7)))))))) = x5)
    (h6 : 0 ≤ (IntKind.wrap .i64 ((IntKind.wrap .i64 (x10 + (1 : Int))) - x7)))
    (h7 : (IntKind.wrap .i64 ((IntKind.wrap .i64 (x10 + (1 : Int))) - x7)) ≤ (IntKind.wrap .i64 (x10 + (1 : Int))))
    (h8 : (IntKind.wrap .i64 (x10 + (1 : Int))) ≤ ((x0).size : Int))
    (h9 : (ByteArray.extract x0 ((IntKind.wrap .i64 ((IntKind.wrap .i64 (x10 + (1 : Int))) - x7))).toNat ((IntKind.wrap .i64 (x10 + (1 : Int)))).toNat) ≠ x1)
    {e : AEx} {st : St} (next : LoopSC cfg.P 2 (lb P_internal_bytealg_IndexRabinKarp 1) (internal_bytealg_IndexRabinKarp_L1c x0 x1 x5 x6 x7 (IntKind.wrap .u32 ((IntKind.wrap .u32 ((IntKind.wrap .u32 (x8 * (16777619 : Int))) + (IntKind.wrap .u32 (bt x0 x10)))) - (IntKind.wrap .u32 (x6 * (IntKind.wrap .u32 (bt x0 (IntKind.wrap .i64 (x10 - x7)))))))) (IntKind.wrap .i64 (x10 + (1 : Int))) false) e st) :
    LoopSC cfg.P 2 (lb P_internal_bytealg_IndexRabinKarp 1) (internal_bytealg_IndexRabinKarp_L1a x0 x1 x5 x6 x7 x8 x10) e st :=
  loop_iter cfgOK (f := i_internal_bytealg_IndexRabinKarp) (its := [.bool true, .bool true, .bool false])
    (ps := [decide (x10 < ((x0).size : Int)) = true,
      0 ≤ x10,
      x10 < ((x0).size : Int),
      0 ≤ (IntKind.wrap .i64 (x10 - x7)),
      (IntKind.wrap .i64 (x10 - x7)) < ((x0).size : Int),
      ((IntKind.wrap .u32 ((IntKind.wrap .u32 ((IntKind.wrap .u32 (x8 * (16777619 : Int))) + (IntKind.wrap .u32 (bt x0 x10)))) - (IntKind.wrap .u32 (x6 * (IntKind.wrap .u32 (bt x0 (IntKind.wrap .i64 (x10 - x7)))))))) == x5) = true,
      0 ≤ (IntKind.wrap .i64 ((IntKind.wrap .i64 (x10 + (1 : Int))) - x7)),
      (IntKind.wrap .i64 ((IntKind.wrap .i64 (x10 + (1 : Int))) - x7)) ≤ (IntKind.wrap .i64 (x10 + (1 : Int))),
      (IntKind.wrap .i64 (x10 + (1 : Int))) ≤ ((x0).size : Int),
      (((ByteArray.extract x0 ((IntKind.wrap .i64 ((IntKind.wrap .i64 (x10 + (1 : Int))) - x7))).toNat ((IntKind.wrap .i64 (x10 + (1 : Int)))).toNat)).toList == (x1).toList) = false]) (st1 := internal_bytealg_IndexRabinKarp_L1c x0 x1 x5 x6 x7 (IntKind.wrap .u32 ((IntKind.wrap .u32 ((IntKind.wrap .u32 (x8 * (16777619 : Int))) + (IntKind.wrap .u32 (bt x0 x10)))) - (IntKind.wrap .u32 (x6 * (IntKind.wrap .u32 (bt x0 (IntKind.wrap .i64 (x10 - x7)))))))) (IntKind.wrap .i64 (x10 + (1 : Int))) false) (by kernel_rfl) ⟨(decide_eq_true h1), h2, h1, h3, h4, (beq_iff_eq.mpr h5), h6, h7, h8, (seq_f h9), trivial⟩ next

theorem internal_bytealg_IndexRabinKarp_L1a_i3 (x0 : ByteArray) (x1 : ByteArray) (x5 : Int) (x6 : Int) (x7 : Int) (x8 : Int) (x10 : Int)
    (h1 : x10 < ((x0).size : Int))
    (h2 : 0 ≤ x10)
    (h3 : 0 ≤ (IntKind.wrap .i64 (x10 - x7)))
    (h4 : (IntKind.wrap .i64 (x10 - x7)) < ((x0).size : Int))
    (h5 : (IntKind.wrap .u32 ((IntKind.wrap .u32 ((IntKind.wrap .u32 (x8 * (16777619 : Int))) + (IntKind.wrap .u32 (bt x0 x10)))) - (IntKind.wrap .u32 (x6 * (IntKind.wrap .u32 (bt x0 (IntKind.wrap .i64 (x10 - x7)))))))) ≠ x5)
    {e : AEx} {st : St} (next : LoopSC cfg.P 2 (lb P_internal_bytealg_IndexRabinKarp 1) (internal_bytealg_IndexRabinKarp_L1c x0 x1 x5 x6 x7 (IntKind.wrap .u32 ((IntKind.wrap .u32 ((IntKind.wrap .u32 (x8 * (16777619 : Int))) + (IntKind.wrap .u32 (bt x0 x10)))) - (IntKind.wrap .u32 (x6 * (IntKind.wrap .u32 (bt x0 (IntKind.wrap .i64 (x10 - x7)))))))) (IntKind.wrap .i64 (x10 + (1 : Int))) false) e st) :
    LoopSC cfg.P 2 (lb P_internal_bytealg_IndexRabinKarp 1) (internal_bytealg_IndexRabinKarp_L1a x0 x1 x5 x6 x7 x8 x10) e st :=
  loop_iter cfgOK (f := i_internal_bytealg_IndexRabinKarp) (its := [.bool true, .bool false])
    (ps := [decide (x10 < ((x0).size : Int)) = true,
      0 ≤ x10,
      x10 < ((x0).size : Int),
      0 ≤ (IntKind.wrap .i64 (x10 - x7)),
      (IntKind.wrap .i64 (x10 - x7)) < ((x0).size : Int),
      ((IntKind.wrap .u32 ((IntKind.wrap .u32 ((IntKind.wrap .u32 (x8 * (16777619 : Int))) + (IntKind.wrap .u32 (bt x0 x10)))) - (IntKind.wrap .u32 (x6 * (IntKind.wrap .u32 (bt x0 (IntKind.wrap .i64 (x10 - x7)))))))) == x5) = false]) (st1 := internal_bytealg_IndexRabinKarp_L1c x0 x1 x5 x6 x7 (IntKind.wrap .u32 ((IntKind.wrap .u32 ((IntKind.wrap .u32 (x8 * (16777619 : Int))) + (IntKind.wrap .u32 (bt x0 x10)))) - (IntKind.wrap .u32 (x6 * (IntKind.wrap .u32 (bt x0 (IntKind.wrap .i64 (x10 - x7)))))))) (IntKind.wrap .i64 (x10 + (1 : Int))) false) (by kernel_rfl) ⟨(decide_eq_true h1), h2, h1, h3, h4, (beq_eq_false_iff_ne.mpr h5), trivial⟩ next

theorem internal_bytealg_IndexRabinKarp_L1a_x4 (x0 : ByteArray) (x1 : ByteArray) (x5 : Int) (x6 : Int) (x7 : Int) (x8 : Int) (x10 : Int)
    (h1 : ¬ (x10 < ((x0).size : Int))) :
    LoopSC cfg.P 2 (lb P_internal_bytealg_IndexRabinKarp 1) (internal_bytealg_IndexRabinKarp_L1a x0 x1 x5 x6 x7 x8 x10) (.exit 2) (internal_bytealg_IndexRabinKarp_L1X2 x0 x1 x5 x6 x7 x8 x10 false) :=
  loop_out cfgOK (f := i_internal_bytealg_IndexRabinKarp) (its := [.bool false])
    (ps := [decide (x10 < ((x0).size : Int)) = false]) (by kernel_rfl) ⟨(decide_eq_false h1), trivial⟩ (fun h => by cases h)

theorem internal_bytealg_IndexRabinKarp_L1c_x1 (x0 : ByteArray) (x1 : ByteArray) (x5 : Int) (x6 : Int) (x7 : Int) (x8 : Int) (x10 : Int) (x77 : Bool)
    (h1 : x10 < ((x0).size : Int))
    (h2 : 0 ≤ x10)
    (h3 : 0 ≤ (IntKind.wrap .i64 (x10 - x7)))
    (h4 : (IntKind.wrap .i64 (x10 - x7)) < ((x0).size : Int))
    (h5 : (IntKind.wrap .u32 ((IntKind.wrap .u32 ((IntKind.wrap .u32 (x8 * (16777619 : Int))) + (IntKind.wrap .u32 (bt x0 x10)))) - (IntKind.wrap .u32 (x6 * (IntKind.wrap .u32 (bt x0 (IntKind.wrap .i64 (x10 - x7)))))))) = x5)
    (h6 : 0 ≤ (IntKind.wrap .i64 ((IntKind.wrap .i64 (x10 + (1 : Int))) - x7)))
    (h7 : (IntKind.wrap .i64 ((IntKind.wrap .i64 (x10 + (1 : Int))) - x7)) ≤ (IntKind.wrap .i64 (x10 + (1 : Int))))
    (h8 : (IntKind.wrap .i64 (x10 + (1 : Int))) ≤ ((x0).size : Int))
    (h9 : (ByteArray.extract x0 ((IntKind.wrap .i64 ((IntKind.wrap .i64 (x10 + (1 : Int))) - x7))).toNat ((IntKind.wrap .i64 (x10 + (1 : Int)))).toNat) = x1) :
    LoopSC cfg.P 2 (lb P_internal_bytealg_IndexRabinKarp 1) (internal_bytealg_IndexRabinKarp_L1c x0 x1 x5 x6 x7 x8 x10 x77) (.ret) (internal_bytealg_IndexRabinKarp_L1X1 (IntKind.wrap .i64 ((IntKind.wrap .i64 (x10 + (1 : Int))) - x7))) :=
  loop_out cfgOK (f := i_internal_bytealg_IndexRabinKarp) (its := [.bool true, .bool true, .bool true])
    (ps := [decide (x10 < ((x0).size : Int)) = true,
      0 ≤ x10,
      x10 < ((x0).size : Int),
      0 ≤ (IntKind.wrap .i64 (x10 - x7)),
      (IntKind.wrap .i64 (x10 - x7)) < ((x0).size : Int),
      ((IntKind.wrap .u32 ((IntKind.wrap .u32 ((IntKind.wrap .u32 (x8 * (16777619 : Int))) + (IntKind.wrap .u32 (bt x0 x10)))) - (IntKind.wrap .u32 (x6 * (IntKind.wrap .u32 (bt x0 (IntKind.wrap .i64 (x10 - x7)))))))) == x5) = true,
      0 ≤ (IntKind.wrap .i64 ((IntKind.wrap .i64 (x10 + (1 : Int))) - x7)),
      (IntKind.wrap .i64 ((IntKind.wrap .i64 (x10 + (1 : Int))) - x7)) ≤ (IntKind.wrap .i64 (x10 + (1 : Int))),
      (IntKind.wrap .i64 (x10 + (1 : Int))) ≤ ((x0).size : Int),
      (((ByteArray.extract x0 ((IntKind.wrap .i64 ((IntKind.wrap .i64 (x10 + (1 : Int))) - x7))).toNat ((IntKind.wrap .i64 (x10 + (1 : Int)))).toNat)).toList == (x1).toList) = true]) (by kernel_rfl) ⟨(decide_eq_true h1), h2, h1, h3, h4, (beq_iff_eq.mpr h5), h6, h7, h8, (seq_t h9), trivial⟩ (fun h => by cases h)

theorem internal_bytealg_IndexRabinKarp_L1c_i2 (x0 : ByteArray) (x1 : ByteArray) (x5 : Int) (x6 : Int) (x7 : Int) (x8 : Int) (x10 : Int) (x77 : Bool)
    (h1 : x10 < ((x0).size : Int))
    (h2 : 0 ≤ x10)
    (h3 : 0 ≤ (IntKind.wrap .i64 (x10 - x7)))
    (h4 : (IntKind.wrap .i64 (x10 - x7)) < ((x0).size : Int))
    (h5 : (IntKind.wrap .u32 ((IntKind.wrap .u32 ((IntKind.wrap .u32 (x8 * (16777619 : Int))) + (IntKind.wrap .u32 (bt x0 x10)))) - (IntKind.wrap .u32 (x6 * (IntKind.wrap .u32 (bt x0 (IntKind.wrap .i64 (x10 - x7)))))))) = x5)
    (h6 : 0 ≤ (IntKind.wrap .i64 ((IntKind.wrap .i64 (x10 + (1 : Int))) - x7)))
    (h7 : (IntKind.wrap .i64 ((IntKind.wrap .i64 (x10 + (1 : Int))) - x7)) ≤ (IntKind.wrap .i64 (x10 + (1 : Int))))
    (h8 : (IntKind.wrap .i64 (x10 + (1 : Int))) ≤ ((x0).size : Int))
    (h9 : (ByteArray.extract x0 ((IntKind.wrap .i64 ((IntKind.wrap .i64 (x10 + (1 : Int))) - x7))).toNat ((IntKind.wrap .i64 (x10 + (1 : Int)))).toNat) ≠ x1)
    {e : AEx} {st : St} (next : LoopSC cfg.P 2 (lb P_internal_bytealg_IndexRabinKarp 1) (internal_bytealg_IndexRabinKarp_L1c x0 x1 x5 x6 x7 (IntKind.wrap .u32 ((IntKind.wrap .u32 ((IntKind.wrap .u32 (x8 * (16777619 : Int))) + (IntKind.wrap .u32 (bt x0 x10)))) - (IntKind.wrap .u32 (x6 * (IntKind.wrap .u32 (bt x0 (IntKind.wrap .i64 (x10 - x7)))))))) (IntKind.wrap .i64 (x10 + (1 : Int))) false) e st) :
    LoopSC cfg.P 2 (lb P_internal_bytealg_IndexRabinKarp 1) (internal_bytealg_IndexRabinKarp_L1c x0 x1 x5 x6 x7 x8 x10 x77) e st :=
  loop_iter cfgOK (f := i_internal_bytealg_IndexRabinKarp) (its := [.bool true, .bool true, .bool false])
    (ps := [decide (x10 < ((x0).size : Int)) = true,
      0 ≤ x10,
      x10 < ((x0).size : Int),
      0 ≤ (IntKind.wrap .i64 (x10 - x7)),
      (IntKind.wrap .i64 (x10 - x7)) < ((x0).size : Int),
      ((IntKind.wrap .u32 ((IntKind.wrap .u32 ((IntKind.wrap .u32 (x8 * (16777619 : Int))) + (IntKind.wrap .u32 (bt x0 x10)))) - (IntKind.wrap .u32 (x6 * (IntKind.wrap .u32 (bt x0 (IntKind.wrap .i64 (x10 - x7)))))))) == x5) = true,
      0 ≤ (IntKind.wrap .i64 ((IntKind.wrap .i64 (x10 + (1 : Int))) - x7)),
      (IntKind.wrap .i64 ((IntKind.wrap .i64 (x10 + (1 : Int))) - x7)) ≤ (IntKind.wrap .i64 (x10 + (1 : Int))),
      (IntKind.wrap .i64 (x10 + (1 : Int))) ≤ ((x0).size : Int),
      (((ByteArray.extract x0 ((IntKind.wrap .i64 ((IntKind.wrap .i64 (x10 + (1 : Int))) - x7))).toNat ((IntKind.wrap .i64 (x10 + (1 : Int)))).toNat)).toList == (x1).toList) = false]) (st1 := internal_bytealg_IndexRabinKarp_L1c x0 x1 x5 x6 x7 (IntKind.wrap .u32 ((IntKind.wrap .u32 ((IntKind.wrap .u32 (x8 * (16777619 : Int))) + (IntKind.wrap .u32 (bt x0 x10)))) - (IntKind.wrap .u32 (x6 * (IntKind.wrap .u32 (bt x0 (IntKind.wrap .i64 (x10 - x7)))))))) (IntKind.wrap .i64 (x10 + (1 : Int))) false) (by kernel_rfl) ⟨(decide_eq_true h1), h2, h1, h3, h4, (beq_iff_eq.mpr h5), h6, h7, h8, (seq_f h9), trivial⟩ next

theorem internal_bytealg_IndexRabinKarp_L1c_i3 (x0 : ByteArray) (x1 : ByteArray) (x5 : Int) (x6 : Int) (x7 : Int) (x8 : Int) (x10 : Int) (x77 : Bool)
    (h1 : x10 < ((x0).size : Int))
    (h2 : 0 ≤ x10)
    (h3 : 0 ≤ (IntKind.wrap .i64 (x10 - x7)))
    (h4 : (IntKind.wrap .i64 (x10 - x7)) < ((x0).size : Int))
    (h5 : (IntKind.wrap .u32 ((IntKind.wrap .u32 ((IntKind.wrap .u32 (x8 * (16777619 : Int))) + (IntKind.wrap .u32 (bt x0 x10)))) - (IntKind.wrap .u32 (x6 * (IntKind.wrap .u32 (bt x0 (IntKind.wrap .i64 (x10 - x7)))))))) ≠ x5)
    {e : AEx} {st : St} (next : LoopSC cfg.P 2 (lb P_internal_bytealg_IndexRabinKarp 1) (internal_bytealg_IndexRabinKarp_L1c x0 x1 x5 x6 x7 (IntKind.wrap .u32 ((IntKind.wrap .u32 ((IntKind.wrap .u32 (x8 * (16777619 : Int))) + (IntKind.wrap .u32 (bt x0 x10)))) - (IntKind.wrap .u32 (x6 * (IntKind.wrap .u32 (bt x0 (IntKind.wrap .i64 (x10 - x7)))))))) (IntKind.wrap .i64 (x10 + (1 : Int))) false) e st) :
    LoopSC cfg.P 2 (lb P_internal_bytealg_IndexRabinKarp 1) (internal_bytealg_IndexRabinKarp_L1c x0 x1 x5 x6 x7 x8 x10 x77) e st :=
  loop_iter cfgOK (f := i_internal_bytealg_IndexRabinKarp) (its := [.bool true, .bool false])
    (ps := [decide (x10 < ((x0).size : Int)) = true,
      0 ≤ x10,
      x10 < ((x0).size : Int),
      0 ≤ (IntKind.wrap .i64 (x10 - x7)),
      (IntKind.wrap .i64 (x10 - x7)) < ((x0).size : Int),
      ((IntKind.wrap .u32 ((IntKind.wrap .u32 ((IntKind.wrap .u32 (x8 * (16777619 : Int))) + (IntKind.wrap .u32 (bt x0 x10)))) - (IntKind.wrap .u32 (x6 * (IntKind.wrap .u32 (bt x0 (IntKind.wrap .i64 (x10 - x7)))))))) == x5) = false]) (st1 := internal_bytealg_IndexRabinKarp_L1c x0 x1 x5 x6 x7 (IntKind.wrap .u32 ((IntKind.wrap .u32 ((IntKind.wrap .u32 (x8 * (16777619 : Int))) + (IntKind.wrap .u32 (bt x0 x10)))) - (IntKind.wrap .u32 (x6 * (IntKind.wrap .u32 (bt x0 (IntKind.wrap .i64 (x10 - x7)))))))) (IntKind.wrap .i64 (x10 + (1 : Int))) false) (by kernel_rfl) ⟨(decide_eq_true h1), h2, h1, h3, h4, (beq_eq_false_iff_ne.mpr h5), trivial⟩ next

theorem internal_bytealg_IndexRabinKarp_L1c_x4 (x0 : ByteArray) (x1 : ByteArray) (x5 : Int) (x6 : Int) (x7 : Int) (x8 : Int) (x10 : Int) (x77 : Bool)
    (h1 : ¬ (x10 < ((x0).size : Int))) :
    LoopSC cfg.P 2 (lb P_internal_bytealg_IndexRabinKarp 1) (internal_bytealg_IndexRabinKarp_L1c x0 x1 x5 x6 x7 x8 x10 x77) (.exit 2) (internal_bytealg_IndexRabinKarp_L1X2 x0 x1 x5 x6 x7 x8 x10 false) :=
  loop_out cfgOK (f := i_internal_bytealg_IndexRabinKarp) (its := [.bool false])
    (ps := [decide (x10 < ((x0).size : Int)) = false]) (by kernel_rfl) ⟨(decide_eq_false h1), trivial⟩ (fun h => by cases h)

theorem internal_bytealg_IndexRabinKarp_p1 (a0 : ByteArray) (a1 : ByteArray) (c1a : Int) (c1b : Int) (k1y0 : ByteArray) (k1y1 : ByteArray) (k1y5 : Int) (k1y6 : Int) (k1y7 : Int) (k1y8 : Int) (k1y9 : Int) (k1y20 : Bool)
    (h1 : SC cfg.P i_internal_bytealg_hashStr [.s (.v .str a1)] (.tup [.v (.int .u32) c1a, .v (.int .u32) c1b]) [])
    (h2 : LoopSC cfg.P 2 (lb P_internal_bytealg_IndexRabinKarp 0) (internal_bytealg_IndexRabinKarp_L0a a0 a1 c1a c1b ((a1).size : Int) (0 : Int) (0 : Int)) (.exit 0) (internal_bytealg_IndexRabinKarp_L0X1 k1y0 k1y1 k1y5 k1y6 k1y7 k1y8 k1y9 k1y20))
    (h3 : k1y8 = k1y5)
    (h4 : 0 ≤ k1y7)
    (h5 : k1y7 ≤ ((k1y0).size : Int))
    (h6 : (ByteArray.extract k1y0 ((0 : Int)).toNat (k1y7).toNat) = k1y1) :
    SC cfg.P i_internal_bytealg_IndexRabinKarp [.s (.v .str a0), .s (.v .str a1)] (.s (.v (.int .i64) (0 : Int))) [] :=
  SC_of_run cfgOK (its := [.res (.tup [.v (.int .u32) c1a, .v (.int .u32) c1b]) [] [] [], .loop (fun _ => (.exit 0, internal_bytealg_IndexRabinKarp_L0X1 k1y0 k1y1 k1y5 k1y6 k1y7 k1y8 k1y9 k1y20)), .bool true, .bool true])
    (ps := [SC cfg.P i_internal_bytealg_hashStr [.s (.v .str a1)] (.tup [.v (.int .u32) c1a, .v (.int .u32) c1b]) [],
      LoopSC cfg.P 2 (lb P_internal_bytealg_IndexRabinKarp 0) (internal_bytealg_IndexRabinKarp_L0a a0 a1 c1a c1b ((a1).size : Int) (0 : Int) (0 : Int)) (.exit 0) (internal_bytealg_IndexRabinKarp_L0X1 k1y0 k1y1 k1y5 k1y6 k1y7 k1y8 k1y9 k1y20),
      (k1y8 == k1y5) = true,
      0 ≤ k1y7,
      k1y7 ≤ ((k1y0).size : Int),
      (((ByteArray.extract k1y0 ((0 : Int)).toNat (k1y7).toNat)).toList == (k1y1).toList) = true]) (by kernel_rfl) ⟨h1, h2, (beq_iff_eq.mpr h3), h4, h5, (seq_t h6), trivial⟩ get_internal_bytealg_IndexRabinKarp (by decide)

theorem internal_bytealg_IndexRabinKarp_p2 (a0 : ByteArray) (a1 : ByteArray) (c1a : Int) (c1b : Int) (k1y0 : ByteArray) (k1y1 : ByteArray) (k1y5 : Int) (k1y6 : Int) (k1y7 : Int) (k1y8 : Int) (k1y9 : Int) (k1y20 : Bool) (k2y4 : Int)
    (h1 : SC cfg.P i_internal_bytealg_hashStr [.s (.v .str a1)] (.tup [.v (.int .u32) c1a, .v (.int .u32) c1b]) [])
    (h2 : LoopSC cfg.P 2 (lb P_internal_bytealg_IndexRabinKarp 0) (internal_bytealg_IndexRabinKarp_L0a a0 a1 c1a c1b ((a1).size : Int) (0 : Int) (0 : Int)) (.exit 0) (internal_bytealg_IndexRabinKarp_L0X1 k1y0 k1y1 k1y5 k1y6 k1y7 k1y8 k1y9 k1y20))
    (h3 : k1y8 = k1y5)
    (h4 : 0 ≤ k1y7)
    (h5 : k1y7 ≤ ((k1y0).size : Int))
    (h6 : (ByteArray.extract k1y0 ((0 : Int)).toNat (k1y7).toNat) ≠ k1y1)
    (h7 : LoopSC cfg.P 2 (lb P_internal_bytealg_IndexRabinKarp 1) (internal_bytealg_IndexRabinKarp_L1a k1y0 k1y1 k1y5 k1y6 k1y7 k1y8 k1y7) (.ret) (internal_bytealg_IndexRabinKarp_L1X1 k2y4)) :
    SC cfg.P i_internal_bytealg_IndexRabinKarp [.s (.v .str a0), .s (.v .str a1)] (.s (.v (.int .i64) k2y4)) [] :=
  SC_of_run cfgOK (its := [.res (.tup [.v (.int .u32) c1a, .v (.int .u32) c1b]) [] [] [], .loop (fun _ => (.exit 0, internal_bytealg_IndexRabinKarp_L0X1 k1y0 k1y1 k1y5 k1y6 k1y7 k1y8 k1y9 k1y20)), .bool true, .bool false, .loop (fun _ => (.ret, internal_bytealg_IndexRabinKarp_L1X1 k2y4))])
    (ps := [SC cfg.P i_internal_bytealg_hashStr [.s (.v .str a1)] (.tup [.v (.int .u32) c1a, .v (.int .u32) c1b]) [],
      LoopSC cfg.P 2 (lb P_internal_bytealg_IndexRabinKarp 0) (internal_bytealg_IndexRabinKarp_L0a a0 a1 c1a c1b ((a1).size : Int) (0 : Int) (0 : Int)) (.exit 0) (internal_bytealg_IndexRabinKarp_L0X1 k1y0 k1y1 k1y5 k1y6 k1y7 k1y8 k1y9 k1y20),
      (k1y8 == k1y5) = true,
      0 ≤ k1y7,
      k1y7 ≤ ((k1y0).size : Int),
      (((ByteArray.extract k1y0 ((0 : Int)).toNat (k1y7).toNat)).toList == (k1y1).toList) = false,
      LoopSC cfg.P 2 (lb P_internal_bytealg_IndexRabinKarp 1) (internal_bytealg_IndexRabinKarp_L1a k1y0 k1y1 k1y5 k1y6 k1y7 k1y8 k1y7) (.ret) (internal_bytealg_IndexRabinKarp_L1X1 k2y4)]) (by kernel_rfl) ⟨h1, h2, (beq_iff_eq.mpr h3), h4, h5, (seq_f h6), h7, trivial⟩ get_internal_bytealg_IndexRabinKarp (by decide)

theorem internal_bytealg_IndexRabinKarp_p3 (a0 : ByteArray) (a1 : ByteArray) (c1a : Int) (c1b : Int) (k1y0 : ByteArray) (k1y1 : ByteArray) (k1y5 : Int) (k1y6 : Int) (k1y7 : Int) (k1y8 : Int) (k1y9 : Int) (k1y20 : Bool) (k2y0 : ByteArray) (k2y1 : ByteArray) (k2y5 : Int) (k2y6 : Int) (k2y7 : Int) (k2y8 : Int) (k2y10 : Int) (k2y44 : Bool)
    (h1 : SC cfg.P i_internal_bytealg_hashStr [.s (.v .str a1)] (.tup [.v (.int .u32) c1a, .v (.int .u32) c1b]) [])
    (h2 : LoopSC cfg.P 2 (lb P_internal_bytealg_IndexRabinKarp 0) (internal_bytealg_IndexRabinKarp_L0a a0 a1 c1a c1b ((a1).size : Int) (0 : Int) (0 : Int)) (.exit 0) (internal_bytealg_IndexRabinKarp_L0X1 k1y0 k1y1 k1y5 k1y6 k1y7 k1y8 k1y9 k1y20))
    (h3 : k1y8 = k1y5)
    (h4 : 0 ≤ k1y7)
    (h5 : k1y7 ≤ ((k1y0).size : Int))
    (h6 : (ByteArray.extract k1y0 ((0 : Int)).toNat (k1y7).toNat) ≠ k1y1)
    (h7 : LoopSC cfg.P 2 (lb P_internal_bytealg_IndexRabinKarp 1) (internal_bytealg_IndexRabinKarp_L1a k1y0 k1y1 k1y5 k1y6 k1y7 k1y8 k1y7) (.exit 2) (internal_bytealg_IndexRabinKarp_L1X2 k2y0 k2y1 k2y5 k2y6 k2y7 k2y8 k2y10 k2y44)) :
    SC cfg.P i_internal_bytealg_IndexRabinKarp [.s (.v .str a0), .s (.v .str a1)] (.s (.v (.int .i64) (-1 : Int))) [] :=
  SC_of_run cfgOK (its := [.res (.tup [.v (.int .u32) c1a, .v (.int .u32) c1b]) [] [] [], .loop (fun _ => (.exit 0, internal_bytealg_IndexRabinKarp_L0X1 k1y0 k1y1 k1y5 k1y6 k1y7 k1y8 k1y9 k1y20)), .bool true, .bool false, .loop (fun _ => (.exit 2, internal_bytealg_IndexRabinKarp_L1X2 k2y0 k2y1 k2y5 k2y6 k2y7 k2y8 k2y10 k2y44))])
    (ps := [SC cfg.P i_internal_bytealg_hashStr [.s (.v .str a1)] (.tup [.v (.int .u32) c1a, .v (.int .u32) c1b]) [],
      LoopSC cfg.P 2 (lb P_internal_bytealg_IndexRabinKarp 0) (internal_bytealg_IndexRabinKarp_L0a a0 a1 c1a c1b ((a1).size : Int) (0 : Int) (0 : Int)) (.exit 0) (internal_bytealg_IndexRabinKarp_L0X1 k1y0 k1y1 k1y5 k1y6 k1y7 k1y8 k1y9 k1y20),
      (k1y8 == k1y5) = true,
      0 ≤ k1y7,
      k1y7 ≤ ((k1y0).size : Int),
      (((ByteArray.extract k1y0 ((0 : Int)).toNat (k1y7).toNat)).toList == (k1y1).toList) = false,
      LoopSC cfg.P 2 (lb P_internal_bytealg_IndexRabinKarp 1) (internal_bytealg_IndexRabinKarp_L1a k1y0 k1y1 k1y5 k1y6 k1y7 k1y8 k1y7) (.exit 2) (internal_bytealg_IndexRabinKarp_L1X2 k2y0 k2y1 k2y5 k2y6 k2y7 k2y8 k2y10 k2y44)]) (by kernel_rfl) ⟨h1, h2, (beq_iff_eq.mpr h3), h4, h5, (seq_f h6), h7, trivial⟩ get_internal_bytealg_IndexRabinKarp (by decide)

theorem internal_bytealg_IndexRabinKarp_p4 (a0 : ByteArray) (a1 : ByteArray) (c1a : Int) (c1b : Int) (k1y0 : ByteArray) (k1y1 : ByteArray) (k1y5 : Int) (k1y6 : Int) (k1y7 : Int) (k1y8 : Int) (k1y9 : Int) (k1y20 : Bool) (k2y4 : Int)
    (h1 : SC cfg.P i_internal_bytealg_hashStr [.s (.v .str a1)] (.tup [.v (.int .u32) c1a, .v (.int .u32) c1b]) [])
    (h2 : LoopSC cfg.P 2 (lb P_internal_bytealg_IndexRabinKarp 0) (internal_bytealg_IndexRabinKarp_L0a a0 a1 c1a c1b ((a1).size : Int) (0 : Int) (0 : Int)) (.exit 0) (internal_bytealg_IndexRabinKarp_L0X1 k1y0 k1y1 k1y5 k1y6 k1y7 k1y8 k1y9 k1y20))
    (h3 : k1y8 ≠ k1y5)
    (h4 : LoopSC cfg.P 2 (lb P_internal_bytealg_IndexRabinKarp 1) (internal_bytealg_IndexRabinKarp_L1a k1y0 k1y1 k1y5 k1y6 k1y7 k1y8 k1y7) (.ret) (internal_bytealg_IndexRabinKarp_L1X1 k2y4)) :
    SC cfg.P i_internal_bytealg_IndexRabinKarp [.s (.v .str a0), .s (.v .str a1)] (.s (.v (.int .i64) k2y4)) [] :=
  SC_of_run cfgOK (its := [.res (.tup [.v (.int .u32) c1a, .v (.int .u32) c1b]) [] [] [], .loop (fun _ => (.exit 0, internal_bytealg_IndexRabinKarp_L0X1 k1y0 k1y1 k1y5 k1y6 k1y7 k1y8 k1y9 k1y20)), .bool false, .loop (fun _ => (.ret, internal_bytealg_IndexRabinKarp_L1X1 k2y4))])
    (ps := [SC cfg.P i_internal_bytealg_hashStr [.s (.v .str a1)] (.tup [.v (.int .u32) c1a, .v (.int .u32) c1b]) [],
      LoopSC cfg.P 2 (lb P_internal_bytealg_IndexRabinKarp 0) (internal_bytealg_IndexRabinKarp_L0a a0 a1 c1a c1b ((a1).size : Int) (0 : Int) (0 : Int)) (.exit 0) (internal_bytealg_IndexRabinKarp_L0X1 k1y0 k1y1 k1y5 k1y6 k1y7 k1y8 k1y9 k1y20),
      (k1y8 == k1y5) = false,
      LoopSC cfg.P 2 (lb P_internal_bytealg_IndexRabinKarp 1) (internal_bytealg_IndexRabinKarp_L1a k1y0 k1y1 k1y5 k1y6 k1y7 k1y8 k1y7) (.ret) (internal_bytealg_IndexRabinKarp_L1X1 k2y4)]) (by kernel_rfl) ⟨h1, h2, (beq_eq_false_iff_ne.mpr h3), h4, trivial⟩ get_internal_bytealg_IndexRabinKarp (by decide)

theorem internal_bytealg_IndexRabinKarp_p5 (a0 : ByteArray) (a1 : ByteArray) (c1a : Int) (c1b : Int) (k1y0 : ByteArray) (k1y1 : ByteArray) (k1y5 : Int) (k1y6 : Int) (k1y7 : Int) (k1y8 : Int) (k1y9 : Int) (k1y20 : Bool) (k2y0 : ByteArray) (k2y1 : ByteArray) (k2y5 : Int) (k2y6 : Int) (k2y7 : Int) (k2y8 : Int) (k2y10 : Int) (k2y44 : Bool)
    (h1 : SC cfg.P i_internal_bytealg_hashStr [.s (.v .str a1)] (.tup [.v (.int .u32) c1a, .v (.int .u32) c1b]) [])
    (h2 : LoopSC cfg.P 2 (lb P_internal_bytealg_IndexRabinKarp 0) (internal_bytealg_IndexRabinKarp_L0a a0 a1 c1a c1b ((a1).size : Int) (0 : Int) (0 : Int)) (.exit 0) (internal_bytealg_IndexRabinKarp_L0X1 k1y0 k1y1 k1y5 k1y6 k1y7 k1y8 k1y9 k1y20))
    (h3 : k1y8 ≠ k1y5)
    (h4 : LoopSC cfg.P 2 (lb P_internal_bytealg_IndexRabinKarp 1) (internal_bytealg_IndexRabinKarp_L1a k1y0 k1y1 k1y5 k1y6 k1y7 k1y8 k1y7) (.exit 2) (internal_bytealg_IndexRabinKarp_L1X2 k2y0 k2y1 k2y5 k2y6 k2y7 k2y8 k2y10 k2y44)) :
    SC cfg.P i_internal_bytealg_IndexRabinKarp [.s (.v .str a0), .s (.v .str a1)] (.s (.v (.int .i64) (-1 : Int))) [] :=
  SC_of_run cfgOK (its := [.res (.tup [.v (.int .u32) c1a, .v (.int .u32) c1b]) [] [] [], .loop (fun _ => (.exit 0, internal_bytealg_IndexRabinKarp_L0X1 k1y0 k1y1 k1y5 k1y6 k1y7 k1y8 k1y9 k1y20)), .bool false, .loop (fun _ => (.exit 2, internal_bytealg_IndexRabinKarp_L1X2 k2y0 k2y1 k2y5 k2y6 k2y7 k2y8 k2y10 k2y44))])
    (ps := [SC cfg.P i_internal_bytealg_hashStr [.s (.v .str a1)] (.tup [.v (.int .u32) c1a, .v (.int .u32) c1b]) [],
      LoopSC cfg.P 2 (lb P_internal_bytealg_IndexRabinKarp 0) (internal_bytealg_IndexRabinKarp_L0a a0 a1 c1a c1b ((a1).size : Int) (0 : Int) (0 : Int)) (.exit 0) (internal_bytealg_IndexRabinKarp_L0X1 k1y0 k1y1 k1y5 k1y6 k1y7 k1y8 k1y9 k1y20),
      (k1y8 == k1y5) = false,
      LoopSC cfg.P 2 (lb P_internal_bytealg_IndexRabinKarp 1) (internal_bytealg_IndexRabinKarp_L1a k1y0 k1y1 k1y5 k1y6 k1y7 k1y8 k1y7) (.exit 2) (internal_bytealg_IndexRabinKarp_L1X2 k2y0 k2y1 k2y5 k2y6 k2y7 k2y8 k2y10 k2y44)]) (by kernel_rfl) ⟨h1, h2, (beq_eq_false_iff_ne.mpr h3), h4, trivial⟩ get_internal_bytealg_IndexRabinKarp (by decide)

/-! ### internal_bytealg_hashStr -/


def internal_bytealg_hashStr_L0a (x0 : ByteArray) (x4 : Int) (x5 : Int) : St := mkSt 39 [(0, .s (.v .str x0)), (4, .s (.v (.int .u32) x4)), (5, .s (.v (.int .i64) x5))] []

def internal_bytealg_hashStr_L0X1 (y0 : ByteArray) (y4 : Int) (y5 : Int) (y12 : Bool) : St := mkSt 39 [(0, .s (.v .str y0)), (4, .s (.v (.int .u32) y4)), (5, .s (.v (.int .i64) y5)), (12, .s (.v .bool y12))] []

def internal_bytealg_hashStr_L1a (x4 : Int) (x6 : Int) (x7 : Int) (x8 : Int) : St := mkSt 39 [(4, .s (.v (.int .u32) x4)), (6, .s (.v (.int .u32) x6)), (7, .s (.v (.int .u32) x7)), (8, .s (.v (.int .i64) x8))] []

def internal_bytealg_hashStr_L1X1 (y4 : Int) (y6 : Int) (y7 : Int) (y8 : Int) (y25 : Bool) : St := mkSt 39 [(4, .s (.v (.int .u32) y4)), (6, .s (.v (.int .u32) y6)), (7, .s (.v (.int .u32) y7)), (8, .s (.v (.int .i64) y8)), (25, .s (.v .bool y25))] []

theorem internal_bytealg_hashStr_L0a_i1 (x0 : ByteArray) (x4 : Int) (x5 : Int)
    (h1 : x5 < ((x0).size : Int))
    (h2 : 0 ≤ x5)
    {e : AEx} {st : St} (next : LoopSC cfg.P 1 (lb P_internal_bytealg_hashStr 0) (internal_bytealg_hashStr_L0a x0 (IntKind.wrap .u32 ((IntKind.wrap .u32 (x4 * (16777619 : Int))) + (IntKind.wrap .u32 (bt x0 x5)))) (IntKind.wrap .i64 (x5 + (1 : Int)))) e st) :
    LoopSC cfg.P 1 (lb P_internal_bytealg_hashStr 0) (internal_bytealg_hashStr_L0a x0 x4 x5) e st :=
  loop_iter cfgOK (f := i_internal_bytealg_hashStr) (its := [.bool true])
    (ps := [decide (x5 < ((x0).size : Int)) = true,
      0 ≤ x5,
      x5 < ((x0).size : Int)]) (st1 := internal_bytealg_hashStr_L0a x0 (IntKind.wrap .u32 ((IntKind.wrap .u32 (x4 * (16777619 : Int))) + (IntKind.wrap .u32 (bt x0 x5)))) (IntKind.wrap .i64 (x5 + (1 : Int)))) (by kernel_rfl) ⟨(decide_eq_true h1), h2, h1, trivial⟩ next

theorem internal_bytealg_hashStr_L0a_x2 (x0 : ByteArray) (x4 : Int) (x5 : Int)
    (h1 : ¬ (x5 < ((x0).size : Int))) :
    LoopSC cfg.P 1 (lb P_internal_bytealg_hashStr 0) (internal_bytealg_hashStr_L0a x0 x4 x5) (.exit 0) (internal_bytealg_hashStr_L0X1 x0 x4 x5 false) :=
  loop_out cfgOK (f := i_internal_bytealg_hashStr) (its := [.bool false])
    (ps := [decide (x5 < ((x0).size : Int)) = false]) (by kernel_rfl) ⟨(decide_eq_false h1), trivial⟩ (fun h => by cases h)

theorem internal_bytealg_hashStr_L1a_i1 (x4 : Int) (x6 : Int) (x7 : Int) (x8 : Int)
    (h1 : x8 > (0 : Int))
    (h2 : ((IntKind.wrap .i64 ((BitVec.ofInt (IntKind.bits .i64) x8 &&& BitVec.ofInt (IntKind.bits .i64) (1 : Int)).toNat)) != (0 : Int)) = true)
    {e : AEx} {st : St} (next : LoopSC cfg.P 1 (lb P_internal_bytealg_hashStr 1) (internal_bytealg_hashStr_L1a x4 (IntKind.wrap .u32 (x6 * x7)) (IntKind.wrap .u32 (x7 * x7)) (Int.fdiv x8 (2 ^ (min ((1 : Int)).toNat (IntKind.bits .i64))))) e st) :
    LoopSC cfg.P 1 (lb P_internal_bytealg_hashStr 1) (internal_bytealg_hashStr_L1a x4 x6 x7 x8) e st :=
  loop_iter cfgOK (f := i_internal_bytealg_hashStr) (its := [.bool true, .bool true])
    (ps := [decide (x8 > (0 : Int)) = true,
      ((IntKind.wrap .i64 ((BitVec.ofInt (IntKind.bits .i64) x8 &&& BitVec.ofInt (IntKind.bits .i64) (1 : Int)).toNat)) != (0 : Int)) = true,
      0 ≤ (1 : Int)]) (st1 := internal_bytealg_hashStr_L1a x4 (IntKind.wrap .u32 (x6 * x7)) (IntKind.wrap .u32 (x7 * x7)) (Int.fdiv x8 (2 ^ (min ((1 : Int)).toNat (IntKind.bits .i64))))) (by kernel_rfl) ⟨(decide_eq_true h1), h2, (by decide), trivial⟩ next

theorem internal_bytealg_hashStr_L1a_i2 (x4 : Int) (x6 : Int) (x7 : Int) (x8 : Int)
    (h1 : x8 > (0 : Int))
    (h2 : ((IntKind.wrap .i64 ((BitVec.ofInt (IntKind.bits .i64) x8 &&& BitVec.ofInt (IntKind.bits .i64) (1 : Int)).toNat)) != (0 : Int)) = false)
    {e : AEx} {st : St} (next : LoopSC cfg.P 1 (lb P_internal_bytealg_hashStr 1) (internal_bytealg_hashStr_L1a x4 x6 (IntKind.wrap .u32 (x7 * x7)) (Int.fdiv x8 (2 ^ (min ((1 : Int)).toNat (IntKind.bits .i64))))) e st) :
    LoopSC cfg.P 1 (lb P_internal_bytealg_hashStr 1) (internal_bytealg_hashStr_L1a x4 x6 x7 x8) e st :=
  loop_iter cfgOK (f := i_internal_bytealg_hashStr) (its := [.bool true, .bool false])
    (ps := [decide (x8 > (0 : Int)) = true,
      ((IntKind.wrap .i64 ((BitVec.ofInt (IntKind.bits .i64) x8 &&& BitVec.ofInt (IntKind.bits .i64) (1 : Int)).toNat)) != (0 : Int)) = false,
      0 ≤ (1 : Int)]) (st1 := internal_bytealg_hashStr_L1a x4 x6 (IntKind.wrap .u32 (x7 * x7)) (Int.fdiv x8 (2 ^ (min ((1 : Int)).toNat (IntKind.bits .i64))))) (by kernel_rfl) ⟨(decide_eq_true h1), h2, (by decide), trivial⟩ next

theorem internal_bytealg_hashStr_L1a_x3 (x4 : Int) (x6 : Int) (x7 : Int) (x8 : Int)
    (h1 : ¬ (x8 > (0 : Int))) :
    LoopSC cfg.P 1 (lb P_internal_bytealg_hashStr 1) (internal_bytealg_hashStr_L1a x4 x6 x7 x8) (.exit 2) (internal_bytealg_hashStr_L1X1 x4 x6 x7 x8 false) :=
  loop_out cfgOK (f := i_internal_bytealg_hashStr) (its := [.bool false])
    (ps := [decide (x8 > (0 : Int)) = false]) (by kernel_rfl) ⟨(decide_eq_false h1), trivial⟩ (fun h => by cases h)

theorem internal_bytealg_hashStr_p1 (a0 : ByteArray) (k1y0 : ByteArray) (k1y4 : Int) (k1y5 : Int) (k1y12 : Bool) (k2y4 : Int) (k2y6 : Int) (k2y7 : Int) (k2y8 : Int) (k2y25 : Bool)
    (h1 : LoopSC cfg.P 1 (lb P_internal_bytealg_hashStr 0) (internal_bytealg_hashStr_L0a a0 (0 : Int) (0 : Int)) (.exit 0) (internal_bytealg_hashStr_L0X1 k1y0 k1y4 k1y5 k1y12))
    (h2 : LoopSC cfg.P 1 (lb P_internal_bytealg_hashStr 1) (internal_bytealg_hashStr_L1a k1y4 (1 : Int) (16777619 : Int) ((k1y0).size : Int)) (.exit 2) (internal_bytealg_hashStr_L1X1 k2y4 k2y6 k2y7 k2y8 k2y25)) :
    SC cfg.P i_internal_bytealg_hashStr [.s (.v .str a0)] (.tup [.v (.int .u32) k2y4, .v (.int .u32) k2y6]) [] :=
  SC_of_run cfgOK (its := [.loop (fun _ => (.exit 0, internal_bytealg_hashStr_L0X1 k1y0 k1y4 k1y5 k1y12)), .loop (fun _ => (.exit 2, internal_bytealg_hashStr_L1X1 k2y4 k2y6 k2y7 k2y8 k2y25))])
    (ps := [LoopSC cfg.P 1 (lb P_internal_bytealg_hashStr 0) (internal_bytealg_hashStr_L0a a0 (0 : Int) (0 : Int)) (.exit 0) (internal_bytealg_hashStr_L0X1 k1y0 k1y4 k1y5 k1y12),
      LoopSC cfg.P 1 (lb P_internal_bytealg_hashStr 1) (internal_bytealg_hashStr_L1a k1y4 (1 : Int) (16777619 : Int) ((k1y0).size : Int)) (.exit 2) (internal_bytealg_hashStr_L1X1 k2y4 k2y6 k2y7 k2y8 k2y25)]) (by kernel_rfl) ⟨h1, h2, trivial⟩ get_internal_bytealg_hashStr (by decide)

end Go.AI
