/- A part of the road: what it proves stands in its last texts. -/
import Derived.Test.YtdfllkeekehplaaSIds
import Derived.Test.YtdfllkeekehplaaAiI
import Derived.Test.YtdfllkeekehplaaProg
set_option autoImplicit false
set_option maxRecDepth 100000
set_option linter.unusedVariables false
namespace Go.AI
open Go.Proofs

/-! ### laws_FnPairsMultiply -/


def laws_FnPairsMultiply_C0a (x0 : (List Int)) (x1 : (List Int)) : St := mkSt 308 [(0, .s (.v (.sl (.int .u8)) x0)), (1, .s (.v (.sl (.int .u8)) x1))] []

def laws_FnPairsMultiply_R1 (y4 : Bool) : St := mkSt 308 [(4, .s (.v .bool y4))] []

def laws_FnPairsMultiply_C3a (x0 : (List Int)) (x1 : (List Int)) (x55 : Bool) : St := mkSt 308 [(0, .s (.v (.sl (.int .u8)) x0)), (1, .s (.v (.sl (.int .u8)) x1)), (55, .s (.v .bool x55))] []

def laws_FnPairsMultiply_C8a (x1 : (List Int)) (x8 : Bool) (x80 : Bool) (xo5 : (ByteArray × ByteArray)) (xo6 : (ByteArray × ByteArray)) (xo7 : (ByteArray × ByteArray)) : St := mkSt 308 [(1, .s (.v (.sl (.int .u8)) x1)), (5, .s (.adr 5 none)), (6, .s (.adr 6 none)), (7, .s (.adr 7 none)), (8, .s (.v .bool x8)), (80, .s (.v .bool x80))] [(5, .box (.pr .str .str) xo5 false), (6, .box (.pr .str .str) xo6 false), (7, .box (.pr .str .str) xo7 false)]

def laws_FnPairsMultiply_C10a (x1 : (List Int)) (x189 : Bool) : St := mkSt 308 [(1, .s (.v (.sl (.int .u8)) x1)), (189, .s (.v .bool x189))] []

def laws_FnPairsMultiply_C10b (x1 : (List Int)) (x81 : Bool) (xo5 : (ByteArray × ByteArray)) (xo6 : (ByteArray × ByteArray)) (xo7 : (ByteArray × ByteArray)) : St := mkSt 308 [(1, .s (.v (.sl (.int .u8)) x1)), (5, .s (.adr 5 none)), (6, .s (.adr 6 none)), (7, .s (.adr 7 none)), (81, .s (.v .bool x81))] [(5, .box (.pr .str .str) xo5 false), (6, .box (.pr .str .str) xo6 false), (7, .box (.pr .str .str) xo7 false)]

def laws_FnPairsMultiply_C15a (x1 : (List Int)) (x32 : Int) (x34 : Bool) (x214 : Bool) (xo31 : (ByteArray × ByteArray)) (xo33 : (ByteArray × ByteArray)) : St := mkSt 308 [(1, .s (.v (.sl (.int .u8)) x1)), (31, .s (.adr 31 none)), (32, .s (.v (.int .i64) x32)), (33, .s (.adr 33 none)), (34, .s (.v .bool x34)), (214, .s (.v .bool x214))] [(31, .box (.pr .str .str) xo31 false), (33, .box (.pr .str .str) xo33 false)]

def laws_FnPairsMultiply_C17a (x1 : (List Int)) (x247 : Bool) : St := mkSt 308 [(1, .s (.v (.sl (.int .u8)) x1)), (247, .s (.v .bool x247))] []

def laws_FnPairsMultiply_C17b (x1 : (List Int)) (x32 : Int) (x215 : Bool) (xo31 : (ByteArray × ByteArray)) (xo33 : (ByteArray × ByteArray)) : St := mkSt 308 [(1, .s (.v (.sl (.int .u8)) x1)), (31, .s (.adr 31 none)), (32, .s (.v (.int .i64) x32)), (33, .s (.adr 33 none)), (215, .s (.v .bool x215))] [(31, .box (.pr .str .str) xo31 false), (33, .box (.pr .str .str) xo33 false)]

def laws_FnPairsMultiply_C22a (x44 : Bool) (x272 : Bool) (xo41 : (ByteArray × ByteArray)) (xo42 : (ByteArray × ByteArray)) (xo43 : (ByteArray × ByteArray)) : St := mkSt 308 [(41, .s (.adr 41 none)), (42, .s (.adr 42 none)), (43, .s (.adr 43 none)), (44, .s (.v .bool x44)), (272, .s (.v .bool x272))] [(41, .box (.pr .str .str) xo41 false), (42, .box (.pr .str .str) xo42 false), (43, .box (.pr .str .str) xo43 false)]

def laws_FnPairsMultiply_C24a (x273 : Bool) (xo41 : (ByteArray × ByteArray)) (xo42 : (ByteArray × ByteArray)) (xo43 : (ByteArray × ByteArray)) : St := mkSt 308 [(41, .s (.adr 41 none)), (42, .s (.adr 42 none)), (43, .s (.adr 43 none)), (273, .s (.v .bool x273))] [(41, .box (.pr .str .str) xo41 false), (42, .box (.pr .str .str) xo42 false), (43, .box (.pr .str .str) xo43 false)]

theorem laws_FnPairsMultiply_C0a_x1 (x0 : (List Int)) (x1 : (List Int))
    (h1 : SC cfg.P i_laws_big [.s (.v (.sl (.int .u8)) x0), .s (.v (.sl (.int .u8)) x1)] (.s (.v .bool true)) []) :
    RestSC cfg.P 2 (rest P_laws_FnPairsMultiply 0) (laws_FnPairsMultiply_C0a x0 x1) .ret (laws_FnPairsMultiply_R1 true) :=
  rest_ret cfgOK (f := i_laws_FnPairsMultiply) (k := 0) (m := 3) (its := [.res (.s (.v .bool true)) [] [] []])
    (ps := [SC cfg.P i_laws_big [.s (.v (.sl (.int .u8)) x0), .s (.v (.sl (.int .u8)) x1)] (.s (.v .bool true)) []]) (by kernel_rfl) ⟨h1, trivial⟩

theorem laws_FnPairsMultiply_C0a_i2 (x0 : (List Int)) (x1 : (List Int))
    (h1 : SC cfg.P i_laws_big [.s (.v (.sl (.int .u8)) x0), .s (.v (.sl (.int .u8)) x1)] (.s (.v .bool false)) [])
    {e : AEx} {st : St} (next : RestSC cfg.P 2 (rest P_laws_FnPairsMultiply 3) (laws_FnPairsMultiply_C3a x0 x1 false) e st) :
    RestSC cfg.P 2 (rest P_laws_FnPairsMultiply 0) (laws_FnPairsMultiply_C0a x0 x1) e st :=
  rest_next cfgOK (f := i_laws_FnPairsMultiply) (k := 0) (m := 3) (its := [.res (.s (.v .bool false)) [] [] []])
    (ps := [SC cfg.P i_laws_big [.s (.v (.sl (.int .u8)) x0), .s (.v (.sl (.int .u8)) x1)] (.s (.v .bool false)) []]) (st1 := laws_FnPairsMultiply_C3a x0 x1 false) (by kernel_rfl) ⟨h1, trivial⟩ next

theorem laws_FnPairsMultiply_C3a_i1 (x0 : (List Int)) (x1 : (List Int)) (x55 : Bool) (dc1a : (ByteArray × ByteArray)) (dc1b : (ByteArray × ByteArray)) (dc2a : (ByteArray × ByteArray)) (dc2b : Bool) (dc3a : (ByteArray × ByteArray)) (dc3b : Bool)
    (h1 : SC cfg.P i_spec_DrawProductPair [.s (.v (.sl (.int .u8)) x0)] (.tup [.v (.pr .str .str) dc1a, .v (.pr .str .str) dc1b]) [])
    (h2 : SC cfg.P i_impl_ProductPair [.s (.v (.pr .str .str) dc1a), .s (.v (.pr .str .str) dc1b)] (.tup [.v (.pr .str .str) dc2a, .v .bool dc2b]) [])
    (h3 : SC cfg.P i_spec_ProductPair [.s (.v (.pr .str .str) dc1a), .s (.v (.pr .str .str) dc1b)] (.tup [.v (.pr .str .str) dc3a, .v .bool dc3b]) [])
    (h4 : (!(dc2b == dc3b)) = false)
    (h5 : (!(((dc2a.1).toList == (dc3a.1).toList) && ((dc2a.2).toList == (dc3a.2).toList))) = false)
    {e : AEx} {st : St} (next : RestSC cfg.P 2 (rest P_laws_FnPairsMultiply 8) (laws_FnPairsMultiply_C8a x1 dc2b false dc1a dc1b dc2a) e st) :
    RestSC cfg.P 2 (rest P_laws_FnPairsMultiply 3) (laws_FnPairsMultiply_C3a x0 x1 x55) e st :=
  rest_next cfgOK (f := i_laws_FnPairsMultiply) (k := 3) (m := 5) (its := [.res (.tup [.v (.pr .str .str) dc1a, .v (.pr .str .str) dc1b]) [] [] [], .res (.tup [.v (.pr .str .str) dc2a, .v .bool dc2b]) [] [] [], .res (.tup [.v (.pr .str .str) dc3a, .v .bool dc3b]) [] [] [], .bool false, .bool false])
    (ps := [SC cfg.P i_spec_DrawProductPair [.s (.v (.sl (.int .u8)) x0)] (.tup [.v (.pr .str .str) dc1a, .v (.pr .str .str) dc1b]) [],
      SC cfg.P i_impl_ProductPair [.s (.v (.pr .str .str) dc1a), .s (.v (.pr .str .str) dc1b)] (.tup [.v (.pr .str .str) dc2a, .v .bool dc2b]) [],
      SC cfg.P i_spec_ProductPair [.s (.v (.pr .str .str) dc1a), .s (.v (.pr .str .str) dc1b)] (.tup [.v (.pr .str .str) dc3a, .v .bool dc3b]) [],
      (!(dc2b == dc3b)) = false,
      (!(((dc2a.1).toList == (dc3a.1).toList) && ((dc2a.2).toList == (dc3a.2).toList))) = false]) (st1 := laws_FnPairsMultiply_C8a x1 dc2b false dc1a dc1b dc2a) (by kernel_rfl) ⟨h1, h2, h3, h4, h5, trivial⟩ next

theorem laws_FnPairsMultiply_C8a_i1 (x1 : (List Int)) (x80 : Bool) (xo5 : (ByteArray × ByteArray)) (xo6 : (ByteArray × ByteArray)) (xo7 : (ByteArray × ByteArray)) (dc1a : (ByteArray × ByteArray)) (dc2a : (ByteArray × ByteArray)) (dc3a : (ByteArray × ByteArray)) (dc4a : (ByteArray × ByteArray)) (dc5a : (ByteArray × ByteArray)) (dc6a : (ByteArray × ByteArray)) (dc7a : (ByteArray × ByteArray)) (dc8a : (ByteArray × ByteArray)) (dc10a : (ByteArray × ByteArray))
    (h1 : SC cfg.P i_impl_InversePair [.s (.v (.pr .str .str) xo5)] (.tup [.v (.pr .str .str) dc1a, .v .bool true]) [])
    (h2 : SC cfg.P i_impl_InversePair [.s (.v (.pr .str .str) xo6)] (.tup [.v (.pr .str .str) dc2a, .v .bool true]) [])
    (h3 : SC cfg.P i_impl_ProductPair [.s (.v (.pr .str .str) dc2a), .s (.v (.pr .str .str) dc1a)] (.tup [.v (.pr .str .str) dc3a, .v .bool true]) [])
    (h4 : SC cfg.P i_impl_InversePair [.s (.v (.pr .str .str) xo7)] (.tup [.v (.pr .str .str) dc4a, .v .bool true]) [])
    (h5 : SC cfg.P i_impl_MirrorPair [.s (.v (.pr .str .str) xo5)] (.tup [.v (.pr .str .str) dc5a, .v .bool true]) [])
    (h6 : SC cfg.P i_impl_MirrorPair [.s (.v (.pr .str .str) xo6)] (.tup [.v (.pr .str .str) dc6a, .v .bool true]) [])
    (h7 : SC cfg.P i_impl_ProductPair [.s (.v (.pr .str .str) dc5a), .s (.v (.pr .str .str) dc6a)] (.tup [.v (.pr .str .str) dc7a, .v .bool true]) [])
    (h8 : SC cfg.P i_impl_MirrorPair [.s (.v (.pr .str .str) xo7)] (.tup [.v (.pr .str .str) dc8a, .v .bool true]) [])
    (h9 : SC cfg.P i_impl_IsReduced [.s (.v (.pr .str .str) xo7)] (.tup [.v .bool true, .v .bool true]) [])
    (h10 : (!(((dc3a.1).toList == (dc4a.1).toList) && ((dc3a.2).toList == (dc4a.2).toList))) = false)
    (h11 : (!(((dc7a.1).toList == (dc8a.1).toList) && ((dc7a.2).toList == (dc8a.2).toList))) = false)
    (h12 : SC cfg.P i_impl_ProductPair [.s (.v (.pr .str .str) xo7), .s (.v (.pr .str .str) dc2a)] (.tup [.v (.pr .str .str) dc10a, .v .bool true]) [])
    (h13 : SC cfg.P i_laws_fSameMap [.s (.v (.pr .str .str) dc10a), .s (.v (.pr .str .str) xo5)] (.s (.v .bool true)) [])
    {e : AEx} {st : St} (next : RestSC cfg.P 2 (rest P_laws_FnPairsMultiply 10) (laws_FnPairsMultiply_C10a x1 false) e st) :
    RestSC cfg.P 2 (rest P_laws_FnPairsMultiply 8) (laws_FnPairsMultiply_C8a x1 true x80 xo5 xo6 xo7) e st :=
  rest_next cfgOK (f := i_laws_FnPairsMultiply) (k := 8) (m := 2) (its := [.res (.tup [.v (.pr .str .str) dc1a, .v .bool true]) [] [] [], .res (.tup [.v (.pr .str .str) dc2a, .v .bool true]) [] [] [], .res (.tup [.v (.pr .str .str) dc3a, .v .bool true]) [] [] [], .res (.tup [.v (.pr .str .str) dc4a, .v .bool true]) [] [] [], .res (.tup [.v (.pr .str .str) dc5a, .v .bool true]) [] [] [], .res (.tup [.v (.pr .str .str) dc6a, .v .bool true]) [] [] [], .res (.tup [.v (.pr .str .str) dc7a, .v .bool true]) [] [] [], .res (.tup [.v (.pr .str .str) dc8a, .v .bool true]) [] [] [], .res (.tup [.v .bool true, .v .bool true]) [] [] [], .bool false, .bool false, .res (.tup [.v (.pr .str .str) dc10a, .v .bool true]) [] [] [], .res (.s (.v .bool true)) [] [] []])
    (ps := [SC cfg.P i_impl_InversePair [.s (.v (.pr .str .str) xo5)] (.tup [.v (.pr .str .str) dc1a, .v .bool true]) [],
      SC cfg.P i_impl_InversePair [.s (.v (.pr .str .str) xo6)] (.tup [.v (.pr .str .str) dc2a, .v .bool true]) [],
      SC cfg.P i_impl_ProductPair [.s (.v (.pr .str .str) dc2a), .s (.v (.pr .str .str) dc1a)] (.tup [.v (.pr .str .str) dc3a, .v .bool true]) [],
      SC cfg.P i_impl_InversePair [.s (.v (.pr .str .str) xo7)] (.tup [.v (.pr .str .str) dc4a, .v .bool true]) [],
      SC cfg.P i_impl_MirrorPair [.s (.v (.pr .str .str) xo5)] (.tup [.v (.pr .str .str) dc5a, .v .bool true]) [],
      SC cfg.P i_impl_MirrorPair [.s (.v (.pr .str .str) xo6)] (.tup [.v (.pr .str .str) dc6a, .v .bool true]) [],
      SC cfg.P i_impl_ProductPair [.s (.v (.pr .str .str) dc5a), .s (.v (.pr .str .str) dc6a)] (.tup [.v (.pr .str .str) dc7a, .v .bool true]) [],
      SC cfg.P i_impl_MirrorPair [.s (.v (.pr .str .str) xo7)] (.tup [.v (.pr .str .str) dc8a, .v .bool true]) [],
      SC cfg.P i_impl_IsReduced [.s (.v (.pr .str .str) xo7)] (.tup [.v .bool true, .v .bool true]) [],
      (!(((dc3a.1).toList == (dc4a.1).toList) && ((dc3a.2).toList == (dc4a.2).toList))) = false,
      (!(((dc7a.1).toList == (dc8a.1).toList) && ((dc7a.2).toList == (dc8a.2).toList))) = false,
      SC cfg.P i_impl_ProductPair [.s (.v (.pr .str .str) xo7), .s (.v (.pr .str .str) dc2a)] (.tup [.v (.pr .str .str) dc10a, .v .bool true]) [],
      SC cfg.P i_laws_fSameMap [.s (.v (.pr .str .str) dc10a), .s (.v (.pr .str .str) xo5)] (.s (.v .bool true)) []]) (st1 := laws_FnPairsMultiply_C10a x1 false) (by kernel_rfl) ⟨h1, h2, h3, h4, h5, h6, h7, h8, h9, h10, h11, h12, h13, trivial⟩ next

theorem laws_FnPairsMultiply_C8a_i2 (x1 : (List Int)) (x80 : Bool) (xo5 : (ByteArray × ByteArray)) (xo6 : (ByteArray × ByteArray)) (xo7 : (ByteArray × ByteArray)) (dc1a : (ByteArray × ByteArray)) (dc2a : (ByteArray × ByteArray)) (dc3a : (ByteArray × ByteArray)) (dc4a : (ByteArray × ByteArray)) (dc5a : (ByteArray × ByteArray)) (dc6a : (ByteArray × ByteArray)) (dc7a : (ByteArray × ByteArray)) (dc8a : (ByteArray × ByteArray)) (dc10a : (ByteArray × ByteArray))
    (h1 : SC cfg.P i_impl_InversePair [.s (.v (.pr .str .str) xo5)] (.tup [.v (.pr .str .str) dc1a, .v .bool true]) [])
    (h2 : SC cfg.P i_impl_InversePair [.s (.v (.pr .str .str) xo6)] (.tup [.v (.pr .str .str) dc2a, .v .bool true]) [])
    (h3 : SC cfg.P i_impl_ProductPair [.s (.v (.pr .str .str) dc2a), .s (.v (.pr .str .str) dc1a)] (.tup [.v (.pr .str .str) dc3a, .v .bool true]) [])
    (h4 : SC cfg.P i_impl_InversePair [.s (.v (.pr .str .str) xo7)] (.tup [.v (.pr .str .str) dc4a, .v .bool true]) [])
    (h5 : SC cfg.P i_impl_MirrorPair [.s (.v (.pr .str .str) xo5)] (.tup [.v (.pr .str .str) dc5a, .v .bool true]) [])
    (h6 : SC cfg.P i_impl_MirrorPair [.s (.v (.pr .str .str) xo6)] (.tup [.v (.pr .str .str) dc6a, .v .bool true]) [])
    (h7 : SC cfg.P i_impl_ProductPair [.s (.v (.pr .str .str) dc5a), .s (.v (.pr .str .str) dc6a)] (.tup [.v (.pr .str .str) dc7a, .v .bool true]) [])
    (h8 : SC cfg.P i_impl_MirrorPair [.s (.v (.pr .str .str) xo7)] (.tup [.v (.pr .str .str) dc8a, .v .bool true]) [])
    (h9 : SC cfg.P i_impl_IsReduced [.s (.v (.pr .str .str) xo7)] (.tup [.v .bool true, .v .bool true]) [])
    (h10 : (!(((dc3a.1).toList == (dc4a.1).toList) && ((dc3a.2).toList == (dc4a.2).toList))) = false)
    (h11 : (!(((dc7a.1).toList == (dc8a.1).toList) && ((dc7a.2).toList == (dc8a.2).toList))) = false)
    (h12 : SC cfg.P i_impl_ProductPair [.s (.v (.pr .str .str) xo7), .s (.v (.pr .str .str) dc2a)] (.tup [.v (.pr .str .str) dc10a, .v .bool false]) [])
    {e : AEx} {st : St} (next : RestSC cfg.P 2 (rest P_laws_FnPairsMultiply 10) (laws_FnPairsMultiply_C10a x1 false) e st) :
    RestSC cfg.P 2 (rest P_laws_FnPairsMultiply 8) (laws_FnPairsMultiply_C8a x1 true x80 xo5 xo6 xo7) e st :=
  rest_next cfgOK (f := i_laws_FnPairsMultiply) (k := 8) (m := 2) (its := [.res (.tup [.v (.pr .str .str) dc1a, .v .bool true]) [] [] [], .res (.tup [.v (.pr .str .str) dc2a, .v .bool true]) [] [] [], .res (.tup [.v (.pr .str .str) dc3a, .v .bool true]) [] [] [], .res (.tup [.v (.pr .str .str) dc4a, .v .bool true]) [] [] [], .res (.tup [.v (.pr .str .str) dc5a, .v .bool true]) [] [] [], .res (.tup [.v (.pr .str .str) dc6a, .v .bool true]) [] [] [], .res (.tup [.v (.pr .str .str) dc7a, .v .bool true]) [] [] [], .res (.tup [.v (.pr .str .str) dc8a, .v .bool true]) [] [] [], .res (.tup [.v .bool true, .v .bool true]) [] [] [], .bool false, .bool false, .res (.tup [.v (.pr .str .str) dc10a, .v .bool false]) [] [] []])
    (ps := [SC cfg.P i_impl_InversePair [.s (.v (.pr .str .str) xo5)] (.tup [.v (.pr .str .str) dc1a, .v .bool true]) [],
      SC cfg.P i_impl_InversePair [.s (.v (.pr .str .str) xo6)] (.tup [.v (.pr .str .str) dc2a, .v .bool true]) [],
      SC cfg.P i_impl_ProductPair [.s (.v (.pr .str .str) dc2a), .s (.v (.pr .str .str) dc1a)] (.tup [.v (.pr .str .str) dc3a, .v .bool true]) [],
      SC cfg.P i_impl_InversePair [.s (.v (.pr .str .str) xo7)] (.tup [.v (.pr .str .str) dc4a, .v .bool true]) [],
      SC cfg.P i_impl_MirrorPair [.s (.v (.pr .str .str) xo5)] (.tup [.v (.pr .str .str) dc5a, .v .bool true]) [],
      SC cfg.P i_impl_MirrorPair [.s (.v (.pr .str .str) xo6)] (.tup [.v (.pr .str .str) dc6a, .v .bool true]) [],
      SC cfg.P i_impl_ProductPair [.s (.v (.pr .str .str) dc5a), .s (.v (.pr .str .str) dc6a)] (.tup [.v (.pr .str .str) dc7a, .v .bool true]) [],
      SC cfg.P i_impl_MirrorPair [.s (.v (.pr .str .str) xo7)] (.tup [.v (.pr .str .str) dc8a, .v .bool true]) [],
      SC cfg.P i_impl_IsReduced [.s (.v (.pr .str .str) xo7)] (.tup [.v .bool true, .v .bool true]) [],
      (!(((dc3a.1).toList == (dc4a.1).toList) && ((dc3a.2).toList == (dc4a.2).toList))) = false,
      (!(((dc7a.1).toList == (dc8a.1).toList) && ((dc7a.2).toList == (dc8a.2).toList))) = false,
      SC cfg.P i_impl_ProductPair [.s (.v (.pr .str .str) xo7), .s (.v (.pr .str .str) dc2a)] (.tup [.v (.pr .str .str) dc10a, .v .bool false]) []]) (st1 := laws_FnPairsMultiply_C10a x1 false) (by kernel_rfl) ⟨h1, h2, h3, h4, h5, h6, h7, h8, h9, h10, h11, h12, trivial⟩ next

theorem laws_FnPairsMultiply_C8a_i3 (x1 : (List Int)) (x80 : Bool) (xo5 : (ByteArray × ByteArray)) (xo6 : (ByteArray × ByteArray)) (xo7 : (ByteArray × ByteArray))
    {e : AEx} {st : St} (next : RestSC cfg.P 2 (rest P_laws_FnPairsMultiply 10) (laws_FnPairsMultiply_C10b x1 false xo5 xo6 xo7) e st) :
    RestSC cfg.P 2 (rest P_laws_FnPairsMultiply 8) (laws_FnPairsMultiply_C8a x1 false x80 xo5 xo6 xo7) e st :=
  rest_next cfgOK (f := i_laws_FnPairsMultiply) (k := 8) (m := 2) (its := [])
    (ps := []) (st1 := laws_FnPairsMultiply_C10b x1 false xo5 xo6 xo7) (by kernel_rfl) trivial next

theorem laws_FnPairsMultiply_C10a_i1 (x1 : (List Int)) (x189 : Bool) (dc1a : (ByteArray × ByteArray)) (dc1b : Int) (dc2a : (ByteArray × ByteArray)) (dc2b : Bool) (dc3a : (ByteArray × ByteArray)) (dc3b : Bool)
    (h1 : SC cfg.P i_spec_DrawPowerPair [.s (.v (.sl (.int .u8)) x1)] (.tup [.v (.pr .str .str) dc1a, .v (.int .i64) dc1b]) [])
    (h2 : SC cfg.P i_impl_PowerPair [.s (.v (.pr .str .str) dc1a), .s (.v (.int .i64) dc1b)] (.tup [.v (.pr .str .str) dc2a, .v .bool dc2b]) [])
    (h3 : SC cfg.P i_spec_PowerPair [.s (.v (.pr .str .str) dc1a), .s (.v (.int .i64) dc1b)] (.tup [.v (.pr .str .str) dc3a, .v .bool dc3b]) [])
    (h4 : (!(dc2b == dc3b)) = false)
    (h5 : (!(((dc2a.1).toList == (dc3a.1).toList) && ((dc2a.2).toList == (dc3a.2).toList))) = false)
    {e : AEx} {st : St} (next : RestSC cfg.P 2 (rest P_laws_FnPairsMultiply 15) (laws_FnPairsMultiply_C15a x1 dc1b dc2b false dc1a dc2a) e st) :
    RestSC cfg.P 2 (rest P_laws_FnPairsMultiply 10) (laws_FnPairsMultiply_C10a x1 x189) e st :=
  rest_next cfgOK (f := i_laws_FnPairsMultiply) (k := 10) (m := 5) (its := [.res (.tup [.v (.pr .str .str) dc1a, .v (.int .i64) dc1b]) [] [] [], .res (.tup [.v (.pr .str .str) dc2a, .v .bool dc2b]) [] [] [], .res (.tup [.v (.pr .str .str) dc3a, .v .bool dc3b]) [] [] [], .bool false, .bool false])
    (ps := [SC cfg.P i_spec_DrawPowerPair [.s (.v (.sl (.int .u8)) x1)] (.tup [.v (.pr .str .str) dc1a, .v (.int .i64) dc1b]) [],
      SC cfg.P i_impl_PowerPair [.s (.v (.pr .str .str) dc1a), .s (.v (.int .i64) dc1b)] (.tup [.v (.pr .str .str) dc2a, .v .bool dc2b]) [],
      SC cfg.P i_spec_PowerPair [.s (.v (.pr .str .str) dc1a), .s (.v (.int .i64) dc1b)] (.tup [.v (.pr .str .str) dc3a, .v .bool dc3b]) [],
      (!(dc2b == dc3b)) = false,
      (!(((dc2a.1).toList == (dc3a.1).toList) && ((dc2a.2).toList == (dc3a.2).toList))) = false]) (st1 := laws_FnPairsMultiply_C15a x1 dc1b dc2b false dc1a dc2a) (by kernel_rfl) ⟨h1, h2, h3, h4, h5, trivial⟩ next

theorem laws_FnPairsMultiply_C10b_i1 (x1 : (List Int)) (x81 : Bool) (xo5 : (ByteArray × ByteArray)) (xo6 : (ByteArray × ByteArray)) (xo7 : (ByteArray × ByteArray)) (dc1a : (ByteArray × ByteArray)) (dc1b : Int) (dc2a : (ByteArray × ByteArray)) (dc2b : Bool) (dc3a : (ByteArray × ByteArray)) (dc3b : Bool)
    (h1 : SC cfg.P i_spec_DrawPowerPair [.s (.v (.sl (.int .u8)) x1)] (.tup [.v (.pr .str .str) dc1a, .v (.int .i64) dc1b]) [])
    (h2 : SC cfg.P i_impl_PowerPair [.s (.v (.pr .str .str) dc1a), .s (.v (.int .i64) dc1b)] (.tup [.v (.pr .str .str) dc2a, .v .bool dc2b]) [])
    (h3 : SC cfg.P i_spec_PowerPair [.s (.v (.pr .str .str) dc1a), .s (.v (.int .i64) dc1b)] (.tup [.v (.pr .str .str) dc3a, .v .bool dc3b]) [])
    (h4 : (!(dc2b == dc3b)) = false)
    (h5 : (!(((dc2a.1).toList == (dc3a.1).toList) && ((dc2a.2).toList == (dc3a.2).toList))) = false)
    {e : AEx} {st : St} (next : RestSC cfg.P 2 (rest P_laws_FnPairsMultiply 15) (laws_FnPairsMultiply_C15a x1 dc1b dc2b false dc1a dc2a) e st) :
    RestSC cfg.P 2 (rest P_laws_FnPairsMultiply 10) (laws_FnPairsMultiply_C10b x1 x81 xo5 xo6 xo7) e st :=
  rest_next cfgOK (f := i_laws_FnPairsMultiply) (k := 10) (m := 5) (its := [.res (.tup [.v (.pr .str .str) dc1a, .v (.int .i64) dc1b]) [] [] [], .res (.tup [.v (.pr .str .str) dc2a, .v .bool dc2b]) [] [] [], .res (.tup [.v (.pr .str .str) dc3a, .v .bool dc3b]) [] [] [], .bool false, .bool false])
    (ps := [SC cfg.P i_spec_DrawPowerPair [.s (.v (.sl (.int .u8)) x1)] (.tup [.v (.pr .str .str) dc1a, .v (.int .i64) dc1b]) [],
      SC cfg.P i_impl_PowerPair [.s (.v (.pr .str .str) dc1a), .s (.v (.int .i64) dc1b)] (.tup [.v (.pr .str .str) dc2a, .v .bool dc2b]) [],
      SC cfg.P i_spec_PowerPair [.s (.v (.pr .str .str) dc1a), .s (.v (.int .i64) dc1b)] (.tup [.v (.pr .str .str) dc3a, .v .bool dc3b]) [],
      (!(dc2b == dc3b)) = false,
      (!(((dc2a.1).toList == (dc3a.1).toList) && ((dc2a.2).toList == (dc3a.2).toList))) = false]) (st1 := laws_FnPairsMultiply_C15a x1 dc1b dc2b false dc1a dc2a) (by kernel_rfl) ⟨h1, h2, h3, h4, h5, trivial⟩ next

theorem laws_FnPairsMultiply_C15a_i1 (x1 : (List Int)) (x32 : Int) (x214 : Bool) (xo31 : (ByteArray × ByteArray)) (xo33 : (ByteArray × ByteArray)) (dc1a : (ByteArray × ByteArray)) (dc2a : (ByteArray × ByteArray)) (dc3 : (ByteArray × ByteArray))
    (h1 : SC cfg.P i_impl_PowerPair [.s (.v (.pr .str .str) xo31), .s (.v (.int .i64) (IntKind.wrap .i64 (x32 + (1 : Int))))] (.tup [.v (.pr .str .str) dc1a, .v .bool true]) [])
    (h2 : SC cfg.P i_impl_ProductPair [.s (.v (.pr .str .str) xo33), .s (.v (.pr .str .str) xo31)] (.tup [.v (.pr .str .str) dc2a, .v .bool true]) [])
    (h3 : (!(((dc2a.1).toList == (dc1a.1).toList) && ((dc2a.2).toList == (dc1a.2).toList))) = false)
    (h4 : x32 = (0 : Int))
    (h5 : SC cfg.P i_impl_IdentityPair [] (.s (.v (.pr .str .str) dc3)) [])
    (h6 : (!(((xo33.1).toList == (dc3.1).toList) && ((xo33.2).toList == (dc3.2).toList))) = false)
    {e : AEx} {st : St} (next : RestSC cfg.P 2 (rest P_laws_FnPairsMultiply 17) (laws_FnPairsMultiply_C17a x1 false) e st) :
    RestSC cfg.P 2 (rest P_laws_FnPairsMultiply 15) (laws_FnPairsMultiply_C15a x1 x32 true x214 xo31 xo33) e st :=
  rest_next cfgOK (f := i_laws_FnPairsMultiply) (k := 15) (m := 2) (its := [.res (.tup [.v (.pr .str .str) dc1a, .v .bool true]) [] [] [], .res (.tup [.v (.pr .str .str) dc2a, .v .bool true]) [] [] [], .bool false, .bool true, .res (.s (.v (.pr .str .str) dc3)) [] [] [], .bool false])
    (ps := [SC cfg.P i_impl_PowerPair [.s (.v (.pr .str .str) xo31), .s (.v (.int .i64) (IntKind.wrap .i64 (x32 + (1 : Int))))] (.tup [.v (.pr .str .str) dc1a, .v .bool true]) [],
      SC cfg.P i_impl_ProductPair [.s (.v (.pr .str .str) xo33), .s (.v (.pr .str .str) xo31)] (.tup [.v (.pr .str .str) dc2a, .v .bool true]) [],
      (!(((dc2a.1).toList == (dc1a.1).toList) && ((dc2a.2).toList == (dc1a.2).toList))) = false,
      (x32 == (0 : Int)) = true,
      SC cfg.P i_impl_IdentityPair [] (.s (.v (.pr .str .str) dc3)) [],
      (!(((xo33.1).toList == (dc3.1).toList) && ((xo33.2).toList == (dc3.2).toList))) = false]) (st1 := laws_FnPairsMultiply_C17a x1 false) (by kernel_rfl) ⟨h1, h2, h3, (beq_iff_eq.mpr h4), h5, h6, trivial⟩ next

theorem laws_FnPairsMultiply_C15a_i2 (x1 : (List Int)) (x32 : Int) (x214 : Bool) (xo31 : (ByteArray × ByteArray)) (xo33 : (ByteArray × ByteArray)) (dc1a : (ByteArray × ByteArray)) (dc2a : (ByteArray × ByteArray))
    (h1 : SC cfg.P i_impl_PowerPair [.s (.v (.pr .str .str) xo31), .s (.v (.int .i64) (IntKind.wrap .i64 (x32 + (1 : Int))))] (.tup [.v (.pr .str .str) dc1a, .v .bool true]) [])
    (h2 : SC cfg.P i_impl_ProductPair [.s (.v (.pr .str .str) xo33), .s (.v (.pr .str .str) xo31)] (.tup [.v (.pr .str .str) dc2a, .v .bool true]) [])
    (h3 : (!(((dc2a.1).toList == (dc1a.1).toList) && ((dc2a.2).toList == (dc1a.2).toList))) = false)
    (h4 : x32 ≠ (0 : Int))
    {e : AEx} {st : St} (next : RestSC cfg.P 2 (rest P_laws_FnPairsMultiply 17) (laws_FnPairsMultiply_C17a x1 false) e st) :
    RestSC cfg.P 2 (rest P_laws_FnPairsMultiply 15) (laws_FnPairsMultiply_C15a x1 x32 true x214 xo31 xo33) e st :=
  rest_next cfgOK (f := i_laws_FnPairsMultiply) (k := 15) (m := 2) (its := [.res (.tup [.v (.pr .str .str) dc1a, .v .bool true]) [] [] [], .res (.tup [.v (.pr .str .str) dc2a, .v .bool true]) [] [] [], .bool false, .bool false])
    (ps := [SC cfg.P i_impl_PowerPair [.s (.v (.pr .str .str) xo31), .s (.v (.int .i64) (IntKind.wrap .i64 (x32 + (1 : Int))))] (.tup [.v (.pr .str .str) dc1a, .v .bool true]) [],
      SC cfg.P i_impl_ProductPair [.s (.v (.pr .str .str) xo33), .s (.v (.pr .str .str) xo31)] (.tup [.v (.pr .str .str) dc2a, .v .bool true]) [],
      (!(((dc2a.1).toList == (dc1a.1).toList) && ((dc2a.2).toList == (dc1a.2).toList))) = false,
      (x32 == (0 : Int)) = false]) (st1 := laws_FnPairsMultiply_C17a x1 false) (by kernel_rfl) ⟨h1, h2, h3, (beq_eq_false_iff_ne.mpr h4), trivial⟩ next

theorem laws_FnPairsMultiply_C15a_i3 (x1 : (List Int)) (x32 : Int) (x214 : Bool) (xo31 : (ByteArray × ByteArray)) (xo33 : (ByteArray × ByteArray)) (dc1a : (ByteArray × ByteArray)) (dc2a : (ByteArray × ByteArray)) (dc2b : Bool) (dc3 : (ByteArray × ByteArray))
    (h1 : SC cfg.P i_impl_PowerPair [.s (.v (.pr .str .str) xo31), .s (.v (.int .i64) (IntKind.wrap .i64 (x32 + (1 : Int))))] (.tup [.v (.pr .str .str) dc1a, .v .bool false]) [])
    (h2 : SC cfg.P i_impl_ProductPair [.s (.v (.pr .str .str) xo33), .s (.v (.pr .str .str) xo31)] (.tup [.v (.pr .str .str) dc2a, .v .bool dc2b]) [])
    (h3 : x32 = (0 : Int))
    (h4 : SC cfg.P i_impl_IdentityPair [] (.s (.v (.pr .str .str) dc3)) [])
    (h5 : (!(((xo33.1).toList == (dc3.1).toList) && ((xo33.2).toList == (dc3.2).toList))) = false)
    {e : AEx} {st : St} (next : RestSC cfg.P 2 (rest P_laws_FnPairsMultiply 17) (laws_FnPairsMultiply_C17a x1 false) e st) :
    RestSC cfg.P 2 (rest P_laws_FnPairsMultiply 15) (laws_FnPairsMultiply_C15a x1 x32 true x214 xo31 xo33) e st :=
  rest_next cfgOK (f := i_laws_FnPairsMultiply) (k := 15) (m := 2) (its := [.res (.tup [.v (.pr .str .str) dc1a, .v .bool false]) [] [] [], .res (.tup [.v (.pr .str .str) dc2a, .v .bool dc2b]) [] [] [], .bool true, .res (.s (.v (.pr .str .str) dc3)) [] [] [], .bool false])
    (ps := [SC cfg.P i_impl_PowerPair [.s (.v (.pr .str .str) xo31), .s (.v (.int .i64) (IntKind.wrap .i64 (x32 + (1 : Int))))] (.tup [.v (.pr .str .str) dc1a, .v .bool false]) [],
      SC cfg.P i_impl_ProductPair [.s (.v (.pr .str .str) xo33), .s (.v (.pr .str .str) xo31)] (.tup [.v (.pr .str .str) dc2a, .v .bool dc2b]) [],
      (x32 == (0 : Int)) = true,
      SC cfg.P i_impl_IdentityPair [] (.s (.v (.pr .str .str) dc3)) [],
      (!(((xo33.1).toList == (dc3.1).toList) && ((xo33.2).toList == (dc3.2).toList))) = false]) (st1 := laws_FnPairsMultiply_C17a x1 false) (by kernel_rfl) ⟨h1, h2, (beq_iff_eq.mpr h3), h4, h5, trivial⟩ next

theorem laws_FnPairsMultiply_C15a_i4 (x1 : (List Int)) (x32 : Int) (x214 : Bool) (xo31 : (ByteArray × ByteArray)) (xo33 : (ByteArray × ByteArray)) (dc1a : (ByteArray × ByteArray)) (dc2a : (ByteArray × ByteArray)) (dc2b : Bool)
    (h1 : SC cfg.P i_impl_PowerPair [.s (.v (.pr .str .str) xo31), .s (.v (.int .i64) (IntKind.wrap .i64 (x32 + (1 : Int))))] (.tup [.v (.pr .str .str) dc1a, .v .bool false]) [])
    (h2 : SC cfg.P i_impl_ProductPair [.s (.v (.pr .str .str) xo33), .s (.v (.pr .str .str) xo31)] (.tup [.v (.pr .str .str) dc2a, .v .bool dc2b]) [])
    (h3 : x32 ≠ (0 : Int))
    {e : AEx} {st : St} (next : RestSC cfg.P 2 (rest P_laws_FnPairsMultiply 17) (laws_FnPairsMultiply_C17a x1 false) e st) :
    RestSC cfg.P 2 (rest P_laws_FnPairsMultiply 15) (laws_FnPairsMultiply_C15a x1 x32 true x214 xo31 xo33) e st :=
  rest_next cfgOK (f := i_laws_FnPairsMultiply) (k := 15) (m := 2) (its := [.res (.tup [.v (.pr .str .str) dc1a, .v .bool false]) [] [] [], .res (.tup [.v (.pr .str .str) dc2a, .v .bool dc2b]) [] [] [], .bool false])
    (ps := [SC cfg.P i_impl_PowerPair [.s (.v (.pr .str .str) xo31), .s (.v (.int .i64) (IntKind.wrap .i64 (x32 + (1 : Int))))] (.tup [.v (.pr .str .str) dc1a, .v .bool false]) [],
      SC cfg.P i_impl_ProductPair [.s (.v (.pr .str .str) xo33), .s (.v (.pr .str .str) xo31)] (.tup [.v (.pr .str .str) dc2a, .v .bool dc2b]) [],
      (x32 == (0 : Int)) = false]) (st1 := laws_FnPairsMultiply_C17a x1 false) (by kernel_rfl) ⟨h1, h2, (beq_eq_false_iff_ne.mpr h3), trivial⟩ next

theorem laws_FnPairsMultiply_C15a_i5 (x1 : (List Int)) (x32 : Int) (x214 : Bool) (xo31 : (ByteArray × ByteArray)) (xo33 : (ByteArray × ByteArray))
    {e : AEx} {st : St} (next : RestSC cfg.P 2 (rest P_laws_FnPairsMultiply 17) (laws_FnPairsMultiply_C17b x1 x32 false xo31 xo33) e st) :
    RestSC cfg.P 2 (rest P_laws_FnPairsMultiply 15) (laws_FnPairsMultiply_C15a x1 x32 false x214 xo31 xo33) e st :=
  rest_next cfgOK (f := i_laws_FnPairsMultiply) (k := 15) (m := 2) (its := [])
    (ps := []) (st1 := laws_FnPairsMultiply_C17b x1 x32 false xo31 xo33) (by kernel_rfl) trivial next

theorem laws_FnPairsMultiply_C17a_i1 (x1 : (List Int)) (x247 : Bool) (dc1a : (ByteArray × ByteArray)) (dc1b : (ByteArray × ByteArray)) (dc2a : (ByteArray × ByteArray)) (dc2b : Bool) (dc3a : (ByteArray × ByteArray)) (dc3b : Bool)
    (h1 : SC cfg.P i_spec_DrawCommutatorPair [.s (.v (.sl (.int .u8)) x1)] (.tup [.v (.pr .str .str) dc1a, .v (.pr .str .str) dc1b]) [])
    (h2 : SC cfg.P i_impl_CommutatorPair [.s (.v (.pr .str .str) dc1a), .s (.v (.pr .str .str) dc1b)] (.tup [.v (.pr .str .str) dc2a, .v .bool dc2b]) [])
    (h3 : SC cfg.P i_spec_CommutatorPair [.s (.v (.pr .str .str) dc1a), .s (.v (.pr .str .str) dc1b)] (.tup [.v (.pr .str .str) dc3a, .v .bool dc3b]) [])
    (h4 : (!(dc2b == dc3b)) = false)
    (h5 : (!(((dc2a.1).toList == (dc3a.1).toList) && ((dc2a.2).toList == (dc3a.2).toList))) = false)
    {e : AEx} {st : St} (next : RestSC cfg.P 2 (rest P_laws_FnPairsMultiply 22) (laws_FnPairsMultiply_C22a dc2b false dc1a dc1b dc2a) e st) :
    RestSC cfg.P 2 (rest P_laws_FnPairsMultiply 17) (laws_FnPairsMultiply_C17a x1 x247) e st :=
  rest_next cfgOK (f := i_laws_FnPairsMultiply) (k := 17) (m := 5) (its := [.res (.tup [.v (.pr .str .str) dc1a, .v (.pr .str .str) dc1b]) [] [] [], .res (.tup [.v (.pr .str .str) dc2a, .v .bool dc2b]) [] [] [], .res (.tup [.v (.pr .str .str) dc3a, .v .bool dc3b]) [] [] [], .bool false, .bool false])
    (ps := [SC cfg.P i_spec_DrawCommutatorPair [.s (.v (.sl (.int .u8)) x1)] (.tup [.v (.pr .str .str) dc1a, .v (.pr .str .str) dc1b]) [],
      SC cfg.P i_impl_CommutatorPair [.s (.v (.pr .str .str) dc1a), .s (.v (.pr .str .str) dc1b)] (.tup [.v (.pr .str .str) dc2a, .v .bool dc2b]) [],
      SC cfg.P i_spec_CommutatorPair [.s (.v (.pr .str .str) dc1a), .s (.v (.pr .str .str) dc1b)] (.tup [.v (.pr .str .str) dc3a, .v .bool dc3b]) [],
      (!(dc2b == dc3b)) = false,
      (!(((dc2a.1).toList == (dc3a.1).toList) && ((dc2a.2).toList == (dc3a.2).toList))) = false]) (st1 := laws_FnPairsMultiply_C22a dc2b false dc1a dc1b dc2a) (by kernel_rfl) ⟨h1, h2, h3, h4, h5, trivial⟩ next

theorem laws_FnPairsMultiply_C17b_i1 (x1 : (List Int)) (x32 : Int) (x215 : Bool) (xo31 : (ByteArray × ByteArray)) (xo33 : (ByteArray × ByteArray)) (dc1a : (ByteArray × ByteArray)) (dc1b : (ByteArray × ByteArray)) (dc2a : (ByteArray × ByteArray)) (dc2b : Bool) (dc3a : (ByteArray × ByteArray)) (dc3b : Bool)
    (h1 : SC cfg.P i_spec_DrawCommutatorPair [.s (.v (.sl (.int .u8)) x1)] (.tup [.v (.pr .str .str) dc1a, .v (.pr .str .str) dc1b]) [])
    (h2 : SC cfg.P i_impl_CommutatorPair [.s (.v (.pr .str .str) dc1a), .s (.v (.pr .str .str) dc1b)] (.tup [.v (.pr .str .str) dc2a, .v .bool dc2b]) [])
    (h3 : SC cfg.P i_spec_CommutatorPair [.s (.v (.pr .str .str) dc1a), .s (.v (.pr .str .str) dc1b)] (.tup [.v (.pr .str .str) dc3a, .v .bool dc3b]) [])
    (h4 : (!(dc2b == dc3b)) = false)
    (h5 : (!(((dc2a.1).toList == (dc3a.1).toList) && ((dc2a.2).toList == (dc3a.2).toList))) = false)
    {e : AEx} {st : St} (next : RestSC cfg.P 2 (rest P_laws_FnPairsMultiply 22) (laws_FnPairsMultiply_C22a dc2b false dc1a dc1b dc2a) e st) :
    RestSC cfg.P 2 (rest P_laws_FnPairsMultiply 17) (laws_FnPairsMultiply_C17b x1 x32 x215 xo31 xo33) e st :=
  rest_next cfgOK (f := i_laws_FnPairsMultiply) (k := 17) (m := 5) (its := [.res (.tup [.v (.pr .str .str) dc1a, .v (.pr .str .str) dc1b]) [] [] [], .res (.tup [.v (.pr .str .str) dc2a, .v .bool dc2b]) [] [] [], .res (.tup [.v (.pr .str .str) dc3a, .v .bool dc3b]) [] [] [], .bool false, .bool false])
    (ps := [SC cfg.P i_spec_DrawCommutatorPair [.s (.v (.sl (.int .u8)) x1)] (.tup [.v (.pr .str .str) dc1a, .v (.pr .str .str) dc1b]) [],
      SC cfg.P i_impl_CommutatorPair [.s (.v (.pr .str .str) dc1a), .s (.v (.pr .str .str) dc1b)] (.tup [.v (.pr .str .str) dc2a, .v .bool dc2b]) [],
      SC cfg.P i_spec_CommutatorPair [.s (.v (.pr .str .str) dc1a), .s (.v (.pr .str .str) dc1b)] (.tup [.v (.pr .str .str) dc3a, .v .bool dc3b]) [],
      (!(dc2b == dc3b)) = false,
      (!(((dc2a.1).toList == (dc3a.1).toList) && ((dc2a.2).toList == (dc3a.2).toList))) = false]) (st1 := laws_FnPairsMultiply_C22a dc2b false dc1a dc1b dc2a) (by kernel_rfl) ⟨h1, h2, h3, h4, h5, trivial⟩ next

theorem laws_FnPairsMultiply_C22a_x1 (x272 : Bool) (xo41 : (ByteArray × ByteArray)) (xo42 : (ByteArray × ByteArray)) (xo43 : (ByteArray × ByteArray)) (dc1a : (ByteArray × ByteArray)) (dc2a : (ByteArray × ByteArray)) (dc3 : (ByteArray × ByteArray)) (dc4a : Bool)
    (h1 : SC cfg.P i_impl_ProductPair [.s (.v (.pr .str .str) xo41), .s (.v (.pr .str .str) xo42)] (.tup [.v (.pr .str .str) dc1a, .v .bool true]) [])
    (h2 : SC cfg.P i_impl_ProductPair [.s (.v (.pr .str .str) xo42), .s (.v (.pr .str .str) xo41)] (.tup [.v (.pr .str .str) dc2a, .v .bool true]) [])
    (h3 : (((dc1a.1).toList == (dc2a.1).toList) && ((dc1a.2).toList == (dc2a.2).toList)) = true)
    (h4 : SC cfg.P i_impl_IdentityPair [] (.s (.v (.pr .str .str) dc3)) [])
    (h5 : (((xo43.1).toList == (dc3.1).toList) && ((xo43.2).toList == (dc3.2).toList)) = true)
    (h6 : (!(true == true)) = false)
    (h7 : SC cfg.P i_impl_IsInner [.s (.v (.pr .str .str) xo43)] (.tup [.v .bool dc4a, .v .bool true]) []) :
    RestSC cfg.P 2 (rest P_laws_FnPairsMultiply 22) (laws_FnPairsMultiply_C22a true x272 xo41 xo42 xo43) .ret (laws_FnPairsMultiply_R1 dc4a) :=
  rest_ret cfgOK (f := i_laws_FnPairsMultiply) (k := 22) (m := 2) (its := [.res (.tup [.v (.pr .str .str) dc1a, .v .bool true]) [] [] [], .res (.tup [.v (.pr .str .str) dc2a, .v .bool true]) [] [] [], .bool true, .res (.s (.v (.pr .str .str) dc3)) [] [] [], .bool true, .bool false, .res (.tup [.v .bool dc4a, .v .bool true]) [] [] []])
    (ps := [SC cfg.P i_impl_ProductPair [.s (.v (.pr .str .str) xo41), .s (.v (.pr .str .str) xo42)] (.tup [.v (.pr .str .str) dc1a, .v .bool true]) [],
      SC cfg.P i_impl_ProductPair [.s (.v (.pr .str .str) xo42), .s (.v (.pr .str .str) xo41)] (.tup [.v (.pr .str .str) dc2a, .v .bool true]) [],
      (((dc1a.1).toList == (dc2a.1).toList) && ((dc1a.2).toList == (dc2a.2).toList)) = true,
      SC cfg.P i_impl_IdentityPair [] (.s (.v (.pr .str .str) dc3)) [],
      (((xo43.1).toList == (dc3.1).toList) && ((xo43.2).toList == (dc3.2).toList)) = true,
      (!(true == true)) = false,
      SC cfg.P i_impl_IsInner [.s (.v (.pr .str .str) xo43)] (.tup [.v .bool dc4a, .v .bool true]) []]) (by kernel_rfl) ⟨h1, h2, h3, h4, h5, h6, h7, trivial⟩

theorem laws_FnPairsMultiply_C22a_x2 (x272 : Bool) (xo41 : (ByteArray × ByteArray)) (xo42 : (ByteArray × ByteArray)) (xo43 : (ByteArray × ByteArray)) (dc1a : (ByteArray × ByteArray)) (dc2a : (ByteArray × ByteArray)) (dc3 : (ByteArray × ByteArray)) (dc4a : Bool)
    (h1 : SC cfg.P i_impl_ProductPair [.s (.v (.pr .str .str) xo41), .s (.v (.pr .str .str) xo42)] (.tup [.v (.pr .str .str) dc1a, .v .bool true]) [])
    (h2 : SC cfg.P i_impl_ProductPair [.s (.v (.pr .str .str) xo42), .s (.v (.pr .str .str) xo41)] (.tup [.v (.pr .str .str) dc2a, .v .bool true]) [])
    (h3 : (((dc1a.1).toList == (dc2a.1).toList) && ((dc1a.2).toList == (dc2a.2).toList)) = true)
    (h4 : SC cfg.P i_impl_IdentityPair [] (.s (.v (.pr .str .str) dc3)) [])
    (h5 : (((xo43.1).toList == (dc3.1).toList) && ((xo43.2).toList == (dc3.2).toList)) = false)
    (h6 : (!(true == false)) = false)
    (h7 : SC cfg.P i_impl_IsInner [.s (.v (.pr .str .str) xo43)] (.tup [.v .bool dc4a, .v .bool true]) []) :
    RestSC cfg.P 2 (rest P_laws_FnPairsMultiply 22) (laws_FnPairsMultiply_C22a true x272 xo41 xo42 xo43) .ret (laws_FnPairsMultiply_R1 dc4a) :=
  rest_ret cfgOK (f := i_laws_FnPairsMultiply) (k := 22) (m := 2) (its := [.res (.tup [.v (.pr .str .str) dc1a, .v .bool true]) [] [] [], .res (.tup [.v (.pr .str .str) dc2a, .v .bool true]) [] [] [], .bool true, .res (.s (.v (.pr .str .str) dc3)) [] [] [], .bool false, .bool false, .res (.tup [.v .bool dc4a, .v .bool true]) [] [] []])
    (ps := [SC cfg.P i_impl_ProductPair [.s (.v (.pr .str .str) xo41), .s (.v (.pr .str .str) xo42)] (.tup [.v (.pr .str .str) dc1a, .v .bool true]) [],
      SC cfg.P i_impl_ProductPair [.s (.v (.pr .str .str) xo42), .s (.v (.pr .str .str) xo41)] (.tup [.v (.pr .str .str) dc2a, .v .bool true]) [],
      (((dc1a.1).toList == (dc2a.1).toList) && ((dc1a.2).toList == (dc2a.2).toList)) = true,
      SC cfg.P i_impl_IdentityPair [] (.s (.v (.pr .str .str) dc3)) [],
      (((xo43.1).toList == (dc3.1).toList) && ((xo43.2).toList == (dc3.2).toList)) = false,
      (!(true == false)) = false,
      SC cfg.P i_impl_IsInner [.s (.v (.pr .str .str) xo43)] (.tup [.v .bool dc4a, .v .bool true]) []]) (by kernel_rfl) ⟨h1, h2, h3, h4, h5, h6, h7, trivial⟩

theorem laws_FnPairsMultiply_C22a_x3 (x272 : Bool) (xo41 : (ByteArray × ByteArray)) (xo42 : (ByteArray × ByteArray)) (xo43 : (ByteArray × ByteArray)) (dc1a : (ByteArray × ByteArray)) (dc2a : (ByteArray × ByteArray)) (dc3 : (ByteArray × ByteArray)) (dc4a : Bool)
    (h1 : SC cfg.P i_impl_ProductPair [.s (.v (.pr .str .str) xo41), .s (.v (.pr .str .str) xo42)] (.tup [.v (.pr .str .str) dc1a, .v .bool true]) [])
    (h2 : SC cfg.P i_impl_ProductPair [.s (.v (.pr .str .str) xo42), .s (.v (.pr .str .str) xo41)] (.tup [.v (.pr .str .str) dc2a, .v .bool true]) [])
    (h3 : (((dc1a.1).toList == (dc2a.1).toList) && ((dc1a.2).toList == (dc2a.2).toList)) = false)
    (h4 : SC cfg.P i_impl_IdentityPair [] (.s (.v (.pr .str .str) dc3)) [])
    (h5 : (((xo43.1).toList == (dc3.1).toList) && ((xo43.2).toList == (dc3.2).toList)) = true)
    (h6 : (!(false == true)) = false)
    (h7 : SC cfg.P i_impl_IsInner [.s (.v (.pr .str .str) xo43)] (.tup [.v .bool dc4a, .v .bool true]) []) :
    RestSC cfg.P 2 (rest P_laws_FnPairsMultiply 22) (laws_FnPairsMultiply_C22a true x272 xo41 xo42 xo43) .ret (laws_FnPairsMultiply_R1 dc4a) :=
  rest_ret cfgOK (f := i_laws_FnPairsMultiply) (k := 22) (m := 2) (its := [.res (.tup [.v (.pr .str .str) dc1a, .v .bool true]) [] [] [], .res (.tup [.v (.pr .str .str) dc2a, .v .bool true]) [] [] [], .bool false, .res (.s (.v (.pr .str .str) dc3)) [] [] [], .bool true, .bool false, .res (.tup [.v .bool dc4a, .v .bool true]) [] [] []])
    (ps := [SC cfg.P i_impl_ProductPair [.s (.v (.pr .str .str) xo41), .s (.v (.pr .str .str) xo42)] (.tup [.v (.pr .str .str) dc1a, .v .bool true]) [],
      SC cfg.P i_impl_ProductPair [.s (.v (.pr .str .str) xo42), .s (.v (.pr .str .str) xo41)] (.tup [.v (.pr .str .str) dc2a, .v .bool true]) [],
      (((dc1a.1).toList == (dc2a.1).toList) && ((dc1a.2).toList == (dc2a.2).toList)) = false,
      SC cfg.P i_impl_IdentityPair [] (.s (.v (.pr .str .str) dc3)) [],
      (((xo43.1).toList == (dc3.1).toList) && ((xo43.2).toList == (dc3.2).toList)) = true,
      (!(false == true)) = false,
      SC cfg.P i_impl_IsInner [.s (.v (.pr .str .str) xo43)] (.tup [.v .bool dc4a, .v .bool true]) []]) (by kernel_rfl) ⟨h1, h2, h3, h4, h5, h6, h7, trivial⟩

theorem laws_FnPairsMultiply_C22a_x4 (x272 : Bool) (xo41 : (ByteArray × ByteArray)) (xo42 : (ByteArray × ByteArray)) (xo43 : (ByteArray × ByteArray)) (dc1a : (ByteArray × ByteArray)) (dc2a : (ByteArray × ByteArray)) (dc3 : (ByteArray × ByteArray)) (dc4a : Bool)
    (h1 : SC cfg.P i_impl_ProductPair [.s (.v (.pr .str .str) xo41), .s (.v (.pr .str .str) xo42)] (.tup [.v (.pr .str .str) dc1a, .v .bool true]) [])
    (h2 : SC cfg.P i_impl_ProductPair [.s (.v (.pr .str .str) xo42), .s (.v (.pr .str .str) xo41)] (.tup [.v (.pr .str .str) dc2a, .v .bool true]) [])
    (h3 : (((dc1a.1).toList == (dc2a.1).toList) && ((dc1a.2).toList == (dc2a.2).toList)) = false)
    (h4 : SC cfg.P i_impl_IdentityPair [] (.s (.v (.pr .str .str) dc3)) [])
    (h5 : (((xo43.1).toList == (dc3.1).toList) && ((xo43.2).toList == (dc3.2).toList)) = false)
    (h6 : (!(false == false)) = false)
    (h7 : SC cfg.P i_impl_IsInner [.s (.v (.pr .str .str) xo43)] (.tup [.v .bool dc4a, .v .bool true]) []) :
    RestSC cfg.P 2 (rest P_laws_FnPairsMultiply 22) (laws_FnPairsMultiply_C22a true x272 xo41 xo42 xo43) .ret (laws_FnPairsMultiply_R1 dc4a) :=
  rest_ret cfgOK (f := i_laws_FnPairsMultiply) (k := 22) (m := 2) (its := [.res (.tup [.v (.pr .str .str) dc1a, .v .bool true]) [] [] [], .res (.tup [.v (.pr .str .str) dc2a, .v .bool true]) [] [] [], .bool false, .res (.s (.v (.pr .str .str) dc3)) [] [] [], .bool false, .bool false, .res (.tup [.v .bool dc4a, .v .bool true]) [] [] []])
    (ps := [SC cfg.P i_impl_ProductPair [.s (.v (.pr .str .str) xo41), .s (.v (.pr .str .str) xo42)] (.tup [.v (.pr .str .str) dc1a, .v .bool true]) [],
      SC cfg.P i_impl_ProductPair [.s (.v (.pr .str .str) xo42), .s (.v (.pr .str .str) xo41)] (.tup [.v (.pr .str .str) dc2a, .v .bool true]) [],
      (((dc1a.1).toList == (dc2a.1).toList) && ((dc1a.2).toList == (dc2a.2).toList)) = false,
      SC cfg.P i_impl_IdentityPair [] (.s (.v (.pr .str .str) dc3)) [],
      (((xo43.1).toList == (dc3.1).toList) && ((xo43.2).toList == (dc3.2).toList)) = false,
      (!(false == false)) = false,
      SC cfg.P i_impl_IsInner [.s (.v (.pr .str .str) xo43)] (.tup [.v .bool dc4a, .v .bool true]) []]) (by kernel_rfl) ⟨h1, h2, h3, h4, h5, h6, h7, trivial⟩

theorem laws_FnPairsMultiply_C22a_x5 (x272 : Bool) (xo41 : (ByteArray × ByteArray)) (xo42 : (ByteArray × ByteArray)) (xo43 : (ByteArray × ByteArray)) (dc1a : (ByteArray × ByteArray)) (dc2a : (ByteArray × ByteArray)) (dc3a : Bool)
    (h1 : SC cfg.P i_impl_ProductPair [.s (.v (.pr .str .str) xo41), .s (.v (.pr .str .str) xo42)] (.tup [.v (.pr .str .str) dc1a, .v .bool true]) [])
    (h2 : SC cfg.P i_impl_ProductPair [.s (.v (.pr .str .str) xo42), .s (.v (.pr .str .str) xo41)] (.tup [.v (.pr .str .str) dc2a, .v .bool false]) [])
    (h3 : SC cfg.P i_impl_IsInner [.s (.v (.pr .str .str) xo43)] (.tup [.v .bool dc3a, .v .bool true]) []) :
    RestSC cfg.P 2 (rest P_laws_FnPairsMultiply 22) (laws_FnPairsMultiply_C22a true x272 xo41 xo42 xo43) .ret (laws_FnPairsMultiply_R1 dc3a) :=
  rest_ret cfgOK (f := i_laws_FnPairsMultiply) (k := 22) (m := 2) (its := [.res (.tup [.v (.pr .str .str) dc1a, .v .bool true]) [] [] [], .res (.tup [.v (.pr .str .str) dc2a, .v .bool false]) [] [] [], .res (.tup [.v .bool dc3a, .v .bool true]) [] [] []])
    (ps := [SC cfg.P i_impl_ProductPair [.s (.v (.pr .str .str) xo41), .s (.v (.pr .str .str) xo42)] (.tup [.v (.pr .str .str) dc1a, .v .bool true]) [],
      SC cfg.P i_impl_ProductPair [.s (.v (.pr .str .str) xo42), .s (.v (.pr .str .str) xo41)] (.tup [.v (.pr .str .str) dc2a, .v .bool false]) [],
      SC cfg.P i_impl_IsInner [.s (.v (.pr .str .str) xo43)] (.tup [.v .bool dc3a, .v .bool true]) []]) (by kernel_rfl) ⟨h1, h2, h3, trivial⟩

theorem laws_FnPairsMultiply_C22a_x6 (x272 : Bool) (xo41 : (ByteArray × ByteArray)) (xo42 : (ByteArray × ByteArray)) (xo43 : (ByteArray × ByteArray)) (dc1a : (ByteArray × ByteArray)) (dc2a : (ByteArray × ByteArray)) (dc2b : Bool) (dc3a : Bool)
    (h1 : SC cfg.P i_impl_ProductPair [.s (.v (.pr .str .str) xo41), .s (.v (.pr .str .str) xo42)] (.tup [.v (.pr .str .str) dc1a, .v .bool false]) [])
    (h2 : SC cfg.P i_impl_ProductPair [.s (.v (.pr .str .str) xo42), .s (.v (.pr .str .str) xo41)] (.tup [.v (.pr .str .str) dc2a, .v .bool dc2b]) [])
    (h3 : SC cfg.P i_impl_IsInner [.s (.v (.pr .str .str) xo43)] (.tup [.v .bool dc3a, .v .bool true]) []) :
    RestSC cfg.P 2 (rest P_laws_FnPairsMultiply 22) (laws_FnPairsMultiply_C22a true x272 xo41 xo42 xo43) .ret (laws_FnPairsMultiply_R1 dc3a) :=
  rest_ret cfgOK (f := i_laws_FnPairsMultiply) (k := 22) (m := 2) (its := [.res (.tup [.v (.pr .str .str) dc1a, .v .bool false]) [] [] [], .res (.tup [.v (.pr .str .str) dc2a, .v .bool dc2b]) [] [] [], .res (.tup [.v .bool dc3a, .v .bool true]) [] [] []])
    (ps := [SC cfg.P i_impl_ProductPair [.s (.v (.pr .str .str) xo41), .s (.v (.pr .str .str) xo42)] (.tup [.v (.pr .str .str) dc1a, .v .bool false]) [],
      SC cfg.P i_impl_ProductPair [.s (.v (.pr .str .str) xo42), .s (.v (.pr .str .str) xo41)] (.tup [.v (.pr .str .str) dc2a, .v .bool dc2b]) [],
      SC cfg.P i_impl_IsInner [.s (.v (.pr .str .str) xo43)] (.tup [.v .bool dc3a, .v .bool true]) []]) (by kernel_rfl) ⟨h1, h2, h3, trivial⟩

theorem laws_FnPairsMultiply_C22a_i7 (x272 : Bool) (xo41 : (ByteArray × ByteArray)) (xo42 : (ByteArray × ByteArray)) (xo43 : (ByteArray × ByteArray))
    {e : AEx} {st : St} (next : RestSC cfg.P 2 (rest P_laws_FnPairsMultiply 24) (laws_FnPairsMultiply_C24a false xo41 xo42 xo43) e st) :
    RestSC cfg.P 2 (rest P_laws_FnPairsMultiply 22) (laws_FnPairsMultiply_C22a false x272 xo41 xo42 xo43) e st :=
  rest_next cfgOK (f := i_laws_FnPairsMultiply) (k := 22) (m := 2) (its := [])
    (ps := []) (st1 := laws_FnPairsMultiply_C24a false xo41 xo42 xo43) (by kernel_rfl) trivial next

theorem laws_FnPairsMultiply_C24a_x1 (x273 : Bool) (xo41 : (ByteArray × ByteArray)) (xo42 : (ByteArray × ByteArray)) (xo43 : (ByteArray × ByteArray))
     :
    RestSC cfg.P 2 (rest P_laws_FnPairsMultiply 24) (laws_FnPairsMultiply_C24a x273 xo41 xo42 xo43) .ret (laws_FnPairsMultiply_R1 true) :=
  rest_ret cfgOK (f := i_laws_FnPairsMultiply) (k := 24) (m := 2) (its := [])
    (ps := []) (by kernel_rfl) trivial

theorem laws_FnPairsMultiply_R1_of (a0 : (List Int)) (a1 : (List Int)) (y4 : Bool)
    (h : RestSC cfg.P 2 (rest P_laws_FnPairsMultiply 0) (laws_FnPairsMultiply_C0a a0 a1) .ret (laws_FnPairsMultiply_R1 y4)) :
    SC cfg.P i_laws_FnPairsMultiply [.s (.v (.sl (.int .u8)) a0), .s (.v (.sl (.int .u8)) a1)] (.s (.v .bool y4)) [] :=
  SC_of_rest cfgOK (f := i_laws_FnPairsMultiply) h (by kernel_rfl) (by kernel_rfl) (by kernel_rfl) get_laws_FnPairsMultiply (by decide)

/-! ### spec_DrawProductPair -/


theorem spec_DrawProductPair_p1 (a0 : (List Int)) (c1 : (ByteArray × ByteArray)) (c1o0 : ((List Int) × (Int × Int))) (c2 : (ByteArray × ByteArray)) (c2o0 : ((List Int) × (Int × Int)))
    (h1 : SC cfg.P i_spec_l1Cur_pair [.s (.mbx (.pr (.sl (.int .u8)) (.pr (.int .i64) (.int .u64))) (a0, ((0 : Int), (0 : Int)))), .s (.v (.int .i64) (4 : Int))] (.s (.v (.pr .str .str) c1)) [.box (.pr (.sl (.int .u8)) (.pr (.int .i64) (.int .u64))) c1o0])
    (h2 : SC cfg.P i_spec_l1Cur_pair [.s (.mbx (.pr (.sl (.int .u8)) (.pr (.int .i64) (.int .u64))) c1o0), .s (.v (.int .i64) (4 : Int))] (.s (.v (.pr .str .str) c2)) [.box (.pr (.sl (.int .u8)) (.pr (.int .i64) (.int .u64))) c2o0]) :
    SC cfg.P i_spec_DrawProductPair [.s (.v (.sl (.int .u8)) a0)] (.tup [.v (.pr .str .str) c1, .v (.pr .str .str) c2]) [] :=
  SC_of_run cfgOK (its := [.res (.s (.v (.pr .str .str) c1)) [.box (.pr (.sl (.int .u8)) (.pr (.int .i64) (.int .u64))) c1o0] [] [], .res (.s (.v (.pr .str .str) c2)) [.box (.pr (.sl (.int .u8)) (.pr (.int .i64) (.int .u64))) c2o0] [] []])
    (ps := [SC cfg.P i_spec_l1Cur_pair [.s (.mbx (.pr (.sl (.int .u8)) (.pr (.int .i64) (.int .u64))) (a0, ((0 : Int), (0 : Int)))), .s (.v (.int .i64) (4 : Int))] (.s (.v (.pr .str .str) c1)) [.box (.pr (.sl (.int .u8)) (.pr (.int .i64) (.int .u64))) c1o0],
      SC cfg.P i_spec_l1Cur_pair [.s (.mbx (.pr (.sl (.int .u8)) (.pr (.int .i64) (.int .u64))) c1o0), .s (.v (.int .i64) (4 : Int))] (.s (.v (.pr .str .str) c2)) [.box (.pr (.sl (.int .u8)) (.pr (.int .i64) (.int .u64))) c2o0]]) (by kernel_rfl) ⟨h1, h2, trivial⟩ get_spec_DrawProductPair (by decide)

/-! ### impl_ProductPair -/


theorem impl_ProductPair_p1 (a0 : (ByteArray × ByteArray)) (a1 : (ByteArray × ByteArray)) (c1a : (Tr × Tr)) (c1b : (Tr × Tr)) (c2 : (Tr × Tr)) (c3a : (ByteArray × ByteArray)) (c3b : Bool)
    (h1 : SC cfg.P i_impl_two [.s (.v (.pr .str .str) a0), .s (.v (.pr .str .str) a1)] (.tup [.v (.pr .tree .tree) c1a, .v (.pr .tree .tree) c1b, .v .bool true]) [])
    (h2 : SC cfg.P i_impl_pair_times [.s (.v (.pr .tree .tree) c1a), .s (.v (.pr .tree .tree) c1b)] (.s (.v (.pr .tree .tree) c2)) [])
    (h3 : SC cfg.P i_impl_pair_fits [.s (.v (.pr .tree .tree) c2)] (.tup [.v (.pr .str .str) c3a, .v .bool c3b]) []) :
    SC cfg.P i_impl_ProductPair [.s (.v (.pr .str .str) a0), .s (.v (.pr .str .str) a1)] (.tup [.v (.pr .str .str) c3a, .v .bool c3b]) [] :=
  SC_of_run cfgOK (its := [.res (.tup [.v (.pr .tree .tree) c1a, .v (.pr .tree .tree) c1b, .v .bool true]) [] [] [], .res (.s (.v (.pr .tree .tree) c2)) [] [] [], .res (.tup [.v (.pr .str .str) c3a, .v .bool c3b]) [] [] []])
    (ps := [SC cfg.P i_impl_two [.s (.v (.pr .str .str) a0), .s (.v (.pr .str .str) a1)] (.tup [.v (.pr .tree .tree) c1a, .v (.pr .tree .tree) c1b, .v .bool true]) [],
      SC cfg.P i_impl_pair_times [.s (.v (.pr .tree .tree) c1a), .s (.v (.pr .tree .tree) c1b)] (.s (.v (.pr .tree .tree) c2)) [],
      SC cfg.P i_impl_pair_fits [.s (.v (.pr .tree .tree) c2)] (.tup [.v (.pr .str .str) c3a, .v .bool c3b]) []]) (by kernel_rfl) ⟨h1, h2, h3, trivial⟩ get_impl_ProductPair (by decide)

theorem impl_ProductPair_p2 (a0 : (ByteArray × ByteArray)) (a1 : (ByteArray × ByteArray)) (c1a : (Tr × Tr)) (c1b : (Tr × Tr))
    (h1 : SC cfg.P i_impl_two [.s (.v (.pr .str .str) a0), .s (.v (.pr .str .str) a1)] (.tup [.v (.pr .tree .tree) c1a, .v (.pr .tree .tree) c1b, .v .bool false]) []) :
    SC cfg.P i_impl_ProductPair [.s (.v (.pr .str .str) a0), .s (.v (.pr .str .str) a1)] (.tup [.v (.pr .str .str) ((⟨#[]⟩ : ByteArray), (⟨#[]⟩ : ByteArray)), .v .bool false]) [] :=
  SC_of_run cfgOK (its := [.res (.tup [.v (.pr .tree .tree) c1a, .v (.pr .tree .tree) c1b, .v .bool false]) [] [] []])
    (ps := [SC cfg.P i_impl_two [.s (.v (.pr .str .str) a0), .s (.v (.pr .str .str) a1)] (.tup [.v (.pr .tree .tree) c1a, .v (.pr .tree .tree) c1b, .v .bool false]) []]) (by kernel_rfl) ⟨h1, trivial⟩ get_impl_ProductPair (by decide)

/-! ### spec_ProductPair -/


theorem spec_ProductPair_p1 (a0 : (ByteArray × ByteArray)) (a1 : (ByteArray × ByteArray)) (c3 : (ByteArray × ByteArray)) (c4a : (ByteArray × ByteArray)) (c4b : Bool)
    (h1 : SC cfg.P i_spec_prGood [.s (.v (.pr .str .str) a0)] (.s (.v .bool true)) [])
    (h2 : SC cfg.P i_spec_prGood [.s (.v (.pr .str .str) a1)] (.s (.v .bool true)) [])
    (h3 : SC cfg.P i_spec_prTimes [.s (.v (.pr .str .str) a0), .s (.v (.pr .str .str) a1)] (.s (.v (.pr .str .str) c3)) [])
    (h4 : SC cfg.P i_spec_prIf [.s (.v (.pr .str .str) c3)] (.tup [.v (.pr .str .str) c4a, .v .bool c4b]) []) :
    SC cfg.P i_spec_ProductPair [.s (.v (.pr .str .str) a0), .s (.v (.pr .str .str) a1)] (.tup [.v (.pr .str .str) c4a, .v .bool c4b]) [] :=
  SC_of_run cfgOK (its := [.res (.s (.v .bool true)) [] [] [], .res (.s (.v .bool true)) [] [] [], .res (.s (.v (.pr .str .str) c3)) [] [] [], .res (.tup [.v (.pr .str .str) c4a, .v .bool c4b]) [] [] []])
    (ps := [SC cfg.P i_spec_prGood [.s (.v (.pr .str .str) a0)] (.s (.v .bool true)) [],
      SC cfg.P i_spec_prGood [.s (.v (.pr .str .str) a1)] (.s (.v .bool true)) [],
      SC cfg.P i_spec_prTimes [.s (.v (.pr .str .str) a0), .s (.v (.pr .str .str) a1)] (.s (.v (.pr .str .str) c3)) [],
      SC cfg.P i_spec_prIf [.s (.v (.pr .str .str) c3)] (.tup [.v (.pr .str .str) c4a, .v .bool c4b]) []]) (by kernel_rfl) ⟨h1, h2, h3, h4, trivial⟩ get_spec_ProductPair (by decide)

theorem spec_ProductPair_p2 (a0 : (ByteArray × ByteArray)) (a1 : (ByteArray × ByteArray))
    (h1 : SC cfg.P i_spec_prGood [.s (.v (.pr .str .str) a0)] (.s (.v .bool true)) [])
    (h2 : SC cfg.P i_spec_prGood [.s (.v (.pr .str .str) a1)] (.s (.v .bool false)) []) :
    SC cfg.P i_spec_ProductPair [.s (.v (.pr .str .str) a0), .s (.v (.pr .str .str) a1)] (.tup [.v (.pr .str .str) ((⟨#[]⟩ : ByteArray), (⟨#[]⟩ : ByteArray)), .v .bool false]) [] :=
  SC_of_run cfgOK (its := [.res (.s (.v .bool true)) [] [] [], .res (.s (.v .bool false)) [] [] []])
    (ps := [SC cfg.P i_spec_prGood [.s (.v (.pr .str .str) a0)] (.s (.v .bool true)) [],
      SC cfg.P i_spec_prGood [.s (.v (.pr .str .str) a1)] (.s (.v .bool false)) []]) (by kernel_rfl) ⟨h1, h2, trivial⟩ get_spec_ProductPair (by decide)

theorem spec_ProductPair_p3 (a0 : (ByteArray × ByteArray)) (a1 : (ByteArray × ByteArray))
    (h1 : SC cfg.P i_spec_prGood [.s (.v (.pr .str .str) a0)] (.s (.v .bool false)) []) :
    SC cfg.P i_spec_ProductPair [.s (.v (.pr .str .str) a0), .s (.v (.pr .str .str) a1)] (.tup [.v (.pr .str .str) ((⟨#[]⟩ : ByteArray), (⟨#[]⟩ : ByteArray)), .v .bool false]) [] :=
  SC_of_run cfgOK (its := [.res (.s (.v .bool false)) [] [] []])
    (ps := [SC cfg.P i_spec_prGood [.s (.v (.pr .str .str) a0)] (.s (.v .bool false)) []]) (by kernel_rfl) ⟨h1, trivial⟩ get_spec_ProductPair (by decide)

/-! ### impl_InversePair -/


theorem impl_InversePair_p1 (a0 : (ByteArray × ByteArray)) (c1a : (Tr × Tr)) (c2 : (Tr × Tr)) (c3 : (ByteArray × ByteArray))
    (h1 : SC cfg.P i_impl_pairOf [.s (.v (.pr .str .str) a0)] (.tup [.v (.pr .tree .tree) c1a, .v .bool true]) [])
    (h2 : SC cfg.P i_impl_pair_inverse [.s (.v (.pr .tree .tree) c1a)] (.s (.v (.pr .tree .tree) c2)) [])
    (h3 : SC cfg.P i_impl_pair_plain [.s (.v (.pr .tree .tree) c2)] (.s (.v (.pr .str .str) c3)) []) :
    SC cfg.P i_impl_InversePair [.s (.v (.pr .str .str) a0)] (.tup [.v (.pr .str .str) c3, .v .bool true]) [] :=
  SC_of_run cfgOK (its := [.res (.tup [.v (.pr .tree .tree) c1a, .v .bool true]) [] [] [], .res (.s (.v (.pr .tree .tree) c2)) [] [] [], .res (.s (.v (.pr .str .str) c3)) [] [] []])
    (ps := [SC cfg.P i_impl_pairOf [.s (.v (.pr .str .str) a0)] (.tup [.v (.pr .tree .tree) c1a, .v .bool true]) [],
      SC cfg.P i_impl_pair_inverse [.s (.v (.pr .tree .tree) c1a)] (.s (.v (.pr .tree .tree) c2)) [],
      SC cfg.P i_impl_pair_plain [.s (.v (.pr .tree .tree) c2)] (.s (.v (.pr .str .str) c3)) []]) (by kernel_rfl) ⟨h1, h2, h3, trivial⟩ get_impl_InversePair (by decide)

theorem impl_InversePair_p2 (a0 : (ByteArray × ByteArray)) (c1a : (Tr × Tr))
    (h1 : SC cfg.P i_impl_pairOf [.s (.v (.pr .str .str) a0)] (.tup [.v (.pr .tree .tree) c1a, .v .bool false]) []) :
    SC cfg.P i_impl_InversePair [.s (.v (.pr .str .str) a0)] (.tup [.v (.pr .str .str) ((⟨#[]⟩ : ByteArray), (⟨#[]⟩ : ByteArray)), .v .bool false]) [] :=
  SC_of_run cfgOK (its := [.res (.tup [.v (.pr .tree .tree) c1a, .v .bool false]) [] [] []])
    (ps := [SC cfg.P i_impl_pairOf [.s (.v (.pr .str .str) a0)] (.tup [.v (.pr .tree .tree) c1a, .v .bool false]) []]) (by kernel_rfl) ⟨h1, trivial⟩ get_impl_InversePair (by decide)

/-! ### impl_MirrorPair -/


theorem impl_MirrorPair_p1 (a0 : (ByteArray × ByteArray)) (c1a : (Tr × Tr)) (c2 : Tr) (c3 : Tr) (c4 : (ByteArray × ByteArray))
    (h1 : SC cfg.P i_impl_pairOf [.s (.v (.pr .str .str) a0)] (.tup [.v (.pr .tree .tree) c1a, .v .bool true]) [])
    (h2 : SC cfg.P i_impl_node_mirror [.s (.v .tree c1a.1)] (.s (.v .tree c2)) [])
    (h3 : SC cfg.P i_impl_node_mirror [.s (.v .tree c1a.2)] (.s (.v .tree c3)) [])
    (h4 : SC cfg.P i_impl_pair_plain [.s (.v (.pr .tree .tree) (c2, c3))] (.s (.v (.pr .str .str) c4)) []) :
    SC cfg.P i_impl_MirrorPair [.s (.v (.pr .str .str) a0)] (.tup [.v (.pr .str .str) c4, .v .bool true]) [] :=
  SC_of_run cfgOK (its := [.res (.tup [.v (.pr .tree .tree) c1a, .v .bool true]) [] [] [], .res (.s (.v .tree c2)) [] [] [], .res (.s (.v .tree c3)) [] [] [], .res (.s (.v (.pr .str .str) c4)) [] [] []])
    (ps := [SC cfg.P i_impl_pairOf [.s (.v (.pr .str .str) a0)] (.tup [.v (.pr .tree .tree) c1a, .v .bool true]) [],
      SC cfg.P i_impl_node_mirror [.s (.v .tree c1a.1)] (.s (.v .tree c2)) [],
      SC cfg.P i_impl_node_mirror [.s (.v .tree c1a.2)] (.s (.v .tree c3)) [],
      SC cfg.P i_impl_pair_plain [.s (.v (.pr .tree .tree) (c2, c3))] (.s (.v (.pr .str .str) c4)) []]) (by kernel_rfl) ⟨h1, h2, h3, h4, trivial⟩ get_impl_MirrorPair (by decide)

theorem impl_MirrorPair_p2 (a0 : (ByteArray × ByteArray)) (c1a : (Tr × Tr))
    (h1 : SC cfg.P i_impl_pairOf [.s (.v (.pr .str .str) a0)] (.tup [.v (.pr .tree .tree) c1a, .v .bool false]) []) :
    SC cfg.P i_impl_MirrorPair [.s (.v (.pr .str .str) a0)] (.tup [.v (.pr .str .str) ((⟨#[]⟩ : ByteArray), (⟨#[]⟩ : ByteArray)), .v .bool false]) [] :=
  SC_of_run cfgOK (its := [.res (.tup [.v (.pr .tree .tree) c1a, .v .bool false]) [] [] []])
    (ps := [SC cfg.P i_impl_pairOf [.s (.v (.pr .str .str) a0)] (.tup [.v (.pr .tree .tree) c1a, .v .bool false]) []]) (by kernel_rfl) ⟨h1, trivial⟩ get_impl_MirrorPair (by decide)

/-! ### spec_DrawPowerPair -/


theorem spec_DrawPowerPair_p1 (a0 : (List Int)) (c1o0 : ((List Int) × (Int × Int))) (c2 : (ByteArray × ByteArray)) (c2o0 : ((List Int) × (Int × Int))) (c3 : Int) (c3o0 : ((List Int) × (Int × Int)))
    (h1 : SC cfg.P i_spec_l1Cur_one [.s (.mbx (.pr (.sl (.int .u8)) (.pr (.int .i64) (.int .u64))) (a0, ((0 : Int), (0 : Int)))), .s (.v (.int .i64) (10 : Int))] (.s (.v .bool true)) [.box (.pr (.sl (.int .u8)) (.pr (.int .i64) (.int .u64))) c1o0])
    (h2 : SC cfg.P i_spec_l1Cur_pair [.s (.mbx (.pr (.sl (.int .u8)) (.pr (.int .i64) (.int .u64))) c1o0), .s (.v (.int .i64) (4 : Int))] (.s (.v (.pr .str .str) c2)) [.box (.pr (.sl (.int .u8)) (.pr (.int .i64) (.int .u64))) c2o0])
    (h3 : SC cfg.P i_spec_l1Cur_among [.s (.mbx (.pr (.sl (.int .u8)) (.pr (.int .i64) (.int .u64))) c2o0), .s (.v (.sl (.int .i64)) ([(-11 : Int), (-10 : Int), (10 : Int), (11 : Int)] : List Int))] (.s (.v (.int .i64) c3)) [.box (.pr (.sl (.int .u8)) (.pr (.int .i64) (.int .u64))) c3o0]) :
    SC cfg.P i_spec_DrawPowerPair [.s (.v (.sl (.int .u8)) a0)] (.tup [.v (.pr .str .str) c2, .v (.int .i64) c3]) [] :=
  SC_of_run cfgOK (its := [.res (.s (.v .bool true)) [.box (.pr (.sl (.int .u8)) (.pr (.int .i64) (.int .u64))) c1o0] [] [], .res (.s (.v (.pr .str .str) c2)) [.box (.pr (.sl (.int .u8)) (.pr (.int .i64) (.int .u64))) c2o0] [] [], .res (.s (.v (.int .i64) c3)) [.box (.pr (.sl (.int .u8)) (.pr (.int .i64) (.int .u64))) c3o0] [] []])
    (ps := [SC cfg.P i_spec_l1Cur_one [.s (.mbx (.pr (.sl (.int .u8)) (.pr (.int .i64) (.int .u64))) (a0, ((0 : Int), (0 : Int)))), .s (.v (.int .i64) (10 : Int))] (.s (.v .bool true)) [.box (.pr (.sl (.int .u8)) (.pr (.int .i64) (.int .u64))) c1o0],
      SC cfg.P i_spec_l1Cur_pair [.s (.mbx (.pr (.sl (.int .u8)) (.pr (.int .i64) (.int .u64))) c1o0), .s (.v (.int .i64) (4 : Int))] (.s (.v (.pr .str .str) c2)) [.box (.pr (.sl (.int .u8)) (.pr (.int .i64) (.int .u64))) c2o0],
      SC cfg.P i_spec_l1Cur_among [.s (.mbx (.pr (.sl (.int .u8)) (.pr (.int .i64) (.int .u64))) c2o0), .s (.v (.sl (.int .i64)) ([(-11 : Int), (-10 : Int), (10 : Int), (11 : Int)] : List Int))] (.s (.v (.int .i64) c3)) [.box (.pr (.sl (.int .u8)) (.pr (.int .i64) (.int .u64))) c3o0]]) (by kernel_rfl) ⟨h1, h2, h3, trivial⟩ get_spec_DrawPowerPair (by decide)

theorem spec_DrawPowerPair_p2 (a0 : (List Int)) (c1o0 : ((List Int) × (Int × Int))) (c2 : (ByteArray × ByteArray)) (c2o0 : ((List Int) × (Int × Int))) (c3 : Int) (c3o0 : ((List Int) × (Int × Int)))
    (h1 : SC cfg.P i_spec_l1Cur_one [.s (.mbx (.pr (.sl (.int .u8)) (.pr (.int .i64) (.int .u64))) (a0, ((0 : Int), (0 : Int)))), .s (.v (.int .i64) (10 : Int))] (.s (.v .bool false)) [.box (.pr (.sl (.int .u8)) (.pr (.int .i64) (.int .u64))) c1o0])
    (h2 : SC cfg.P i_spec_l1Cur_pair [.s (.mbx (.pr (.sl (.int .u8)) (.pr (.int .i64) (.int .u64))) c1o0), .s (.v (.int .i64) (4 : Int))] (.s (.v (.pr .str .str) c2)) [.box (.pr (.sl (.int .u8)) (.pr (.int .i64) (.int .u64))) c2o0])
    (h3 : SC cfg.P i_spec_l1Cur_pick [.s (.mbx (.pr (.sl (.int .u8)) (.pr (.int .i64) (.int .u64))) c2o0), .s (.v (.int .i64) (9 : Int))] (.s (.v (.int .i64) c3)) [.box (.pr (.sl (.int .u8)) (.pr (.int .i64) (.int .u64))) c3o0]) :
    SC cfg.P i_spec_DrawPowerPair [.s (.v (.sl (.int .u8)) a0)] (.tup [.v (.pr .str .str) c2, .v (.int .i64) (IntKind.wrap .i64 (c3 - (4 : Int)))]) [] :=
  SC_of_run cfgOK (its := [.res (.s (.v .bool false)) [.box (.pr (.sl (.int .u8)) (.pr (.int .i64) (.int .u64))) c1o0] [] [], .res (.s (.v (.pr .str .str) c2)) [.box (.pr (.sl (.int .u8)) (.pr (.int .i64) (.int .u64))) c2o0] [] [], .res (.s (.v (.int .i64) c3)) [.box (.pr (.sl (.int .u8)) (.pr (.int .i64) (.int .u64))) c3o0] [] []])
    (ps := [SC cfg.P i_spec_l1Cur_one [.s (.mbx (.pr (.sl (.int .u8)) (.pr (.int .i64) (.int .u64))) (a0, ((0 : Int), (0 : Int)))), .s (.v (.int .i64) (10 : Int))] (.s (.v .bool false)) [.box (.pr (.sl (.int .u8)) (.pr (.int .i64) (.int .u64))) c1o0],
      SC cfg.P i_spec_l1Cur_pair [.s (.mbx (.pr (.sl (.int .u8)) (.pr (.int .i64) (.int .u64))) c1o0), .s (.v (.int .i64) (4 : Int))] (.s (.v (.pr .str .str) c2)) [.box (.pr (.sl (.int .u8)) (.pr (.int .i64) (.int .u64))) c2o0],
      SC cfg.P i_spec_l1Cur_pick [.s (.mbx (.pr (.sl (.int .u8)) (.pr (.int .i64) (.int .u64))) c2o0), .s (.v (.int .i64) (9 : Int))] (.s (.v (.int .i64) c3)) [.box (.pr (.sl (.int .u8)) (.pr (.int .i64) (.int .u64))) c3o0]]) (by kernel_rfl) ⟨h1, h2, h3, trivial⟩ get_spec_DrawPowerPair (by decide)

/-! ### impl_PowerPair -/


theorem impl_PowerPair_p1 (a0 : (ByteArray × ByteArray)) (a1 : Int) (c1a : (Tr × Tr))
    (h1 : SC cfg.P i_impl_pairOf [.s (.v (.pr .str .str) a0)] (.tup [.v (.pr .tree .tree) c1a, .v .bool true]) [])
    (h2 : a1 < (-10 : Int)) :
    SC cfg.P i_impl_PowerPair [.s (.v (.pr .str .str) a0), .s (.v (.int .i64) a1)] (.tup [.v (.pr .str .str) ((⟨#[]⟩ : ByteArray), (⟨#[]⟩ : ByteArray)), .v .bool false]) [] :=
  SC_of_run cfgOK (its := [.res (.tup [.v (.pr .tree .tree) c1a, .v .bool true]) [] [] [], .bool true])
    (ps := [SC cfg.P i_impl_pairOf [.s (.v (.pr .str .str) a0)] (.tup [.v (.pr .tree .tree) c1a, .v .bool true]) [],
      decide (a1 < (-10 : Int)) = true]) (by kernel_rfl) ⟨h1, (decide_eq_true h2), trivial⟩ get_impl_PowerPair (by decide)

theorem impl_PowerPair_p2 (a0 : (ByteArray × ByteArray)) (a1 : Int) (c1a : (Tr × Tr))
    (h1 : SC cfg.P i_impl_pairOf [.s (.v (.pr .str .str) a0)] (.tup [.v (.pr .tree .tree) c1a, .v .bool true]) [])
    (h2 : ¬ (a1 < (-10 : Int)))
    (h3 : a1 > (10 : Int)) :
    SC cfg.P i_impl_PowerPair [.s (.v (.pr .str .str) a0), .s (.v (.int .i64) a1)] (.tup [.v (.pr .str .str) ((⟨#[]⟩ : ByteArray), (⟨#[]⟩ : ByteArray)), .v .bool false]) [] :=
  SC_of_run cfgOK (its := [.res (.tup [.v (.pr .tree .tree) c1a, .v .bool true]) [] [] [], .bool false, .bool true])
    (ps := [SC cfg.P i_impl_pairOf [.s (.v (.pr .str .str) a0)] (.tup [.v (.pr .tree .tree) c1a, .v .bool true]) [],
      decide (a1 < (-10 : Int)) = false,
      decide (a1 > (10 : Int)) = true]) (by kernel_rfl) ⟨h1, (decide_eq_false h2), (decide_eq_true h3), trivial⟩ get_impl_PowerPair (by decide)

theorem impl_PowerPair_p3 (a0 : (ByteArray × ByteArray)) (a1 : Int) (c1a : (Tr × Tr)) (c2 : (Tr × Tr)) (c3a : (Tr × Tr)) (c4 : (ByteArray × ByteArray))
    (h1 : SC cfg.P i_impl_pairOf [.s (.v (.pr .str .str) a0)] (.tup [.v (.pr .tree .tree) c1a, .v .bool true]) [])
    (h2 : ¬ (a1 < (-10 : Int)))
    (h3 : ¬ (a1 > (10 : Int)))
    (h4 : a1 < (0 : Int))
    (h5 : SC cfg.P i_impl_pair_inverse [.s (.v (.pr .tree .tree) c1a)] (.s (.v (.pr .tree .tree) c2)) [])
    (h6 : SC cfg.P i_impl_pair_power [.s (.v (.pr .tree .tree) c2), .s (.v (.int .i64) (IntKind.wrap .i64 (0 - a1)))] (.tup [.v (.pr .tree .tree) c3a, .v .bool true]) [])
    (h7 : SC cfg.P i_impl_pair_plain [.s (.v (.pr .tree .tree) c3a)] (.s (.v (.pr .str .str) c4)) []) :
    SC cfg.P i_impl_PowerPair [.s (.v (.pr .str .str) a0), .s (.v (.int .i64) a1)] (.tup [.v (.pr .str .str) c4, .v .bool true]) [] :=
  SC_of_run cfgOK (its := [.res (.tup [.v (.pr .tree .tree) c1a, .v .bool true]) [] [] [], .bool false, .bool false, .bool true, .res (.s (.v (.pr .tree .tree) c2)) [] [] [], .res (.tup [.v (.pr .tree .tree) c3a, .v .bool true]) [] [] [], .res (.s (.v (.pr .str .str) c4)) [] [] []])
    (ps := [SC cfg.P i_impl_pairOf [.s (.v (.pr .str .str) a0)] (.tup [.v (.pr .tree .tree) c1a, .v .bool true]) [],
      decide (a1 < (-10 : Int)) = false,
      decide (a1 > (10 : Int)) = false,
      decide (a1 < (0 : Int)) = true,
      SC cfg.P i_impl_pair_inverse [.s (.v (.pr .tree .tree) c1a)] (.s (.v (.pr .tree .tree) c2)) [],
      SC cfg.P i_impl_pair_power [.s (.v (.pr .tree .tree) c2), .s (.v (.int .i64) (IntKind.wrap .i64 (0 - a1)))] (.tup [.v (.pr .tree .tree) c3a, .v .bool true]) [],
      SC cfg.P i_impl_pair_plain [.s (.v (.pr .tree .tree) c3a)] (.s (.v (.pr .str .str) c4)) []]) (by kernel_rfl) ⟨h1, (decide_eq_false h2), (decide_eq_false h3), (decide_eq_true h4), h5, h6, h7, trivial⟩ get_impl_PowerPair (by decide)

theorem impl_PowerPair_p4 (a0 : (ByteArray × ByteArray)) (a1 : Int) (c1a : (Tr × Tr)) (c2 : (Tr × Tr)) (c3a : (Tr × Tr))
    (h1 : SC cfg.P i_impl_pairOf [.s (.v (.pr .str .str) a0)] (.tup [.v (.pr .tree .tree) c1a, .v .bool true]) [])
    (h2 : ¬ (a1 < (-10 : Int)))
    (h3 : ¬ (a1 > (10 : Int)))
    (h4 : a1 < (0 : Int))
    (h5 : SC cfg.P i_impl_pair_inverse [.s (.v (.pr .tree .tree) c1a)] (.s (.v (.pr .tree .tree) c2)) [])
    (h6 : SC cfg.P i_impl_pair_power [.s (.v (.pr .tree .tree) c2), .s (.v (.int .i64) (IntKind.wrap .i64 (0 - a1)))] (.tup [.v (.pr .tree .tree) c3a, .v .bool false]) []) :
    SC cfg.P i_impl_PowerPair [.s (.v (.pr .str .str) a0), .s (.v (.int .i64) a1)] (.tup [.v (.pr .str .str) ((⟨#[]⟩ : ByteArray), (⟨#[]⟩ : ByteArray)), .v .bool false]) [] :=
  SC_of_run cfgOK (its := [.res (.tup [.v (.pr .tree .tree) c1a, .v .bool true]) [] [] [], .bool false, .bool false, .bool true, .res (.s (.v (.pr .tree .tree) c2)) [] [] [], .res (.tup [.v (.pr .tree .tree) c3a, .v .bool false]) [] [] []])
    (ps := [SC cfg.P i_impl_pairOf [.s (.v (.pr .str .str) a0)] (.tup [.v (.pr .tree .tree) c1a, .v .bool true]) [],
      decide (a1 < (-10 : Int)) = false,
      decide (a1 > (10 : Int)) = false,
      decide (a1 < (0 : Int)) = true,
      SC cfg.P i_impl_pair_inverse [.s (.v (.pr .tree .tree) c1a)] (.s (.v (.pr .tree .tree) c2)) [],
      SC cfg.P i_impl_pair_power [.s (.v (.pr .tree .tree) c2), .s (.v (.int .i64) (IntKind.wrap .i64 (0 - a1)))] (.tup [.v (.pr .tree .tree) c3a, .v .bool false]) []]) (by kernel_rfl) ⟨h1, (decide_eq_false h2), (decide_eq_false h3), (decide_eq_true h4), h5, h6, trivial⟩ get_impl_PowerPair (by decide)

theorem impl_PowerPair_p5 (a0 : (ByteArray × ByteArray)) (a1 : Int) (c1a : (Tr × Tr)) (c2a : (Tr × Tr)) (c3 : (ByteArray × ByteArray))
    (h1 : SC cfg.P i_impl_pairOf [.s (.v (.pr .str .str) a0)] (.tup [.v (.pr .tree .tree) c1a, .v .bool true]) [])
    (h2 : ¬ (a1 < (-10 : Int)))
    (h3 : ¬ (a1 > (10 : Int)))
    (h4 : ¬ (a1 < (0 : Int)))
    (h5 : SC cfg.P i_impl_pair_power [.s (.v (.pr .tree .tree) c1a), .s (.v (.int .i64) a1)] (.tup [.v (.pr .tree .tree) c2a, .v .bool true]) [])
    (h6 : SC cfg.P i_impl_pair_plain [.s (.v (.pr .tree .tree) c2a)] (.s (.v (.pr .str .str) c3)) []) :
    SC cfg.P i_impl_PowerPair [.s (.v (.pr .str .str) a0), .s (.v (.int .i64) a1)] (.tup [.v (.pr .str .str) c3, .v .bool true]) [] :=
  SC_of_run cfgOK (its := [.res (.tup [.v (.pr .tree .tree) c1a, .v .bool true]) [] [] [], .bool false, .bool false, .bool false, .res (.tup [.v (.pr .tree .tree) c2a, .v .bool true]) [] [] [], .res (.s (.v (.pr .str .str) c3)) [] [] []])
    (ps := [SC cfg.P i_impl_pairOf [.s (.v (.pr .str .str) a0)] (.tup [.v (.pr .tree .tree) c1a, .v .bool true]) [],
      decide (a1 < (-10 : Int)) = false,
      decide (a1 > (10 : Int)) = false,
      decide (a1 < (0 : Int)) = false,
      SC cfg.P i_impl_pair_power [.s (.v (.pr .tree .tree) c1a), .s (.v (.int .i64) a1)] (.tup [.v (.pr .tree .tree) c2a, .v .bool true]) [],
      SC cfg.P i_impl_pair_plain [.s (.v (.pr .tree .tree) c2a)] (.s (.v (.pr .str .str) c3)) []]) (by kernel_rfl) ⟨h1, (decide_eq_false h2), (decide_eq_false h3), (decide_eq_false h4), h5, h6, trivial⟩ get_impl_PowerPair (by decide)

theorem impl_PowerPair_p6 (a0 : (ByteArray × ByteArray)) (a1 : Int) (c1a : (Tr × Tr)) (c2a : (Tr × Tr))
    (h1 : SC cfg.P i_impl_pairOf [.s (.v (.pr .str .str) a0)] (.tup [.v (.pr .tree .tree) c1a, .v .bool true]) [])
    (h2 : ¬ (a1 < (-10 : Int)))
    (h3 : ¬ (a1 > (10 : Int)))
    (h4 : ¬ (a1 < (0 : Int)))
    (h5 : SC cfg.P i_impl_pair_power [.s (.v (.pr .tree .tree) c1a), .s (.v (.int .i64) a1)] (.tup [.v (.pr .tree .tree) c2a, .v .bool false]) []) :
    SC cfg.P i_impl_PowerPair [.s (.v (.pr .str .str) a0), .s (.v (.int .i64) a1)] (.tup [.v (.pr .str .str) ((⟨#[]⟩ : ByteArray), (⟨#[]⟩ : ByteArray)), .v .bool false]) [] :=
  SC_of_run cfgOK (its := [.res (.tup [.v (.pr .tree .tree) c1a, .v .bool true]) [] [] [], .bool false, .bool false, .bool false, .res (.tup [.v (.pr .tree .tree) c2a, .v .bool false]) [] [] []])
    (ps := [SC cfg.P i_impl_pairOf [.s (.v (.pr .str .str) a0)] (.tup [.v (.pr .tree .tree) c1a, .v .bool true]) [],
      decide (a1 < (-10 : Int)) = false,
      decide (a1 > (10 : Int)) = false,
      decide (a1 < (0 : Int)) = false,
      SC cfg.P i_impl_pair_power [.s (.v (.pr .tree .tree) c1a), .s (.v (.int .i64) a1)] (.tup [.v (.pr .tree .tree) c2a, .v .bool false]) []]) (by kernel_rfl) ⟨h1, (decide_eq_false h2), (decide_eq_false h3), (decide_eq_false h4), h5, trivial⟩ get_impl_PowerPair (by decide)

theorem impl_PowerPair_p7 (a0 : (ByteArray × ByteArray)) (a1 : Int) (c1a : (Tr × Tr))
    (h1 : SC cfg.P i_impl_pairOf [.s (.v (.pr .str .str) a0)] (.tup [.v (.pr .tree .tree) c1a, .v .bool false]) []) :
    SC cfg.P i_impl_PowerPair [.s (.v (.pr .str .str) a0), .s (.v (.int .i64) a1)] (.tup [.v (.pr .str .str) ((⟨#[]⟩ : ByteArray), (⟨#[]⟩ : ByteArray)), .v .bool false]) [] :=
  SC_of_run cfgOK (its := [.res (.tup [.v (.pr .tree .tree) c1a, .v .bool false]) [] [] []])
    (ps := [SC cfg.P i_impl_pairOf [.s (.v (.pr .str .str) a0)] (.tup [.v (.pr .tree .tree) c1a, .v .bool false]) []]) (by kernel_rfl) ⟨h1, trivial⟩ get_impl_PowerPair (by decide)

/-! ### spec_PowerPair -/


def spec_PowerPair_L0a (x1 : Int) (xo2 : (ByteArray × ByteArray)) (xo4 : (ByteArray × ByteArray)) (xo6 : (ByteArray × ByteArray)) : St := mkSt 36 [(1, .s (.v (.int .i64) x1)), (2, .s (.adr 2 none)), (4, .s (.adr 4 none)), (6, .s (.adr 6 none))] [(2, .box (.pr .str .str) xo2 false), (4, .box (.pr .str .str) xo4 false), (6, .box (.pr .str .str) xo6 false)]

def spec_PowerPair_L0X1 (y5 : Bool) (yo4 : (ByteArray × ByteArray)) : St := mkSt 36 [(4, .s (.adr 4 none)), (5, .s (.v .bool y5))] [(4, .box (.pr .str .str) yo4 false)]

def spec_PowerPair_L0X2 (y1 : Int) (y24 : Bool) (yo2 : (ByteArray × ByteArray)) (yo4 : (ByteArray × ByteArray)) (yo6 : (ByteArray × ByteArray)) : St := mkSt 36 [(1, .s (.v (.int .i64) y1)), (2, .s (.adr 2 none)), (4, .s (.adr 4 none)), (6, .s (.adr 6 none)), (24, .s (.v .bool y24))] [(2, .box (.pr .str .str) yo2 false), (4, .box (.pr .str .str) yo4 false), (6, .box (.pr .str .str) yo6 false)]

theorem spec_PowerPair_L0a_x1 (x1 : Int) (xo2 : (ByteArray × ByteArray)) (xo4 : (ByteArray × ByteArray)) (xo6 : (ByteArray × ByteArray)) (dc1 : (ByteArray × ByteArray)) (dc2 : Int)
    (h1 : x1 > (0 : Int))
    (h2 : SC cfg.P i_spec_prTimes [.s (.v (.pr .str .str) xo6), .s (.v (.pr .str .str) xo2)] (.s (.v (.pr .str .str) dc1)) [])
    (h3 : SC cfg.P i_spec_trCarets [.s (.v .str dc1.1)] (.s (.v (.int .i64) dc2)) [])
    (h4 : dc2 > (8 : Int)) :
    LoopSC cfg.P 2 (lb P_spec_PowerPair 0) (spec_PowerPair_L0a x1 xo2 xo4 xo6) (.ret) (spec_PowerPair_L0X1 false ((⟨#[]⟩ : ByteArray), (⟨#[]⟩ : ByteArray))) :=
  loop_out cfgOK (f := i_spec_PowerPair) (its := [.bool true, .res (.s (.v (.pr .str .str) dc1)) [] [] [], .res (.s (.v (.int .i64) dc2)) [] [] [], .bool true])
    (ps := [decide (x1 > (0 : Int)) = true,
      SC cfg.P i_spec_prTimes [.s (.v (.pr .str .str) xo6), .s (.v (.pr .str .str) xo2)] (.s (.v (.pr .str .str) dc1)) [],
      SC cfg.P i_spec_trCarets [.s (.v .str dc1.1)] (.s (.v (.int .i64) dc2)) [],
      decide (dc2 > (8 : Int)) = true]) (by kernel_rfl) ⟨(decide_eq_true h1), h2, h3, (decide_eq_true h4), trivial⟩ (fun h => by cases h)

theorem spec_PowerPair_L0a_i2 (x1 : Int) (xo2 : (ByteArray × ByteArray)) (xo4 : (ByteArray × ByteArray)) (xo6 : (ByteArray × ByteArray)) (dc1 : (ByteArray × ByteArray)) (dc2 : Int)
    (h1 : x1 > (0 : Int))
    (h2 : SC cfg.P i_spec_prTimes [.s (.v (.pr .str .str) xo6), .s (.v (.pr .str .str) xo2)] (.s (.v (.pr .str .str) dc1)) [])
    (h3 : SC cfg.P i_spec_trCarets [.s (.v .str dc1.1)] (.s (.v (.int .i64) dc2)) [])
    (h4 : ¬ (dc2 > (8 : Int)))
    {e : AEx} {st : St} (next : LoopSC cfg.P 2 (lb P_spec_PowerPair 0) (spec_PowerPair_L0a (IntKind.wrap .i64 (x1 - (1 : Int))) xo2 xo4 dc1) e st) :
    LoopSC cfg.P 2 (lb P_spec_PowerPair 0) (spec_PowerPair_L0a x1 xo2 xo4 xo6) e st :=
  loop_iter cfgOK (f := i_spec_PowerPair) (its := [.bool true, .res (.s (.v (.pr .str .str) dc1)) [] [] [], .res (.s (.v (.int .i64) dc2)) [] [] [], .bool false])
    (ps := [decide (x1 > (0 : Int)) = true,
      SC cfg.P i_spec_prTimes [.s (.v (.pr .str .str) xo6), .s (.v (.pr .str .str) xo2)] (.s (.v (.pr .str .str) dc1)) [],
      SC cfg.P i_spec_trCarets [.s (.v .str dc1.1)] (.s (.v (.int .i64) dc2)) [],
      decide (dc2 > (8 : Int)) = false]) (st1 := spec_PowerPair_L0a (IntKind.wrap .i64 (x1 - (1 : Int))) xo2 xo4 dc1) (by kernel_rfl) ⟨(decide_eq_true h1), h2, h3, (decide_eq_false h4), trivial⟩ next

theorem spec_PowerPair_L0a_x3 (x1 : Int) (xo2 : (ByteArray × ByteArray)) (xo4 : (ByteArray × ByteArray)) (xo6 : (ByteArray × ByteArray))
    (h1 : ¬ (x1 > (0 : Int))) :
    LoopSC cfg.P 2 (lb P_spec_PowerPair 0) (spec_PowerPair_L0a x1 xo2 xo4 xo6) (.exit 0) (spec_PowerPair_L0X2 x1 false xo2 xo4 xo6) :=
  loop_out cfgOK (f := i_spec_PowerPair) (its := [.bool false])
    (ps := [decide (x1 > (0 : Int)) = false]) (by kernel_rfl) ⟨(decide_eq_false h1), trivial⟩ (fun h => by cases h)

theorem spec_PowerPair_p1 (a0 : (ByteArray × ByteArray)) (a1 : Int) (c3 : (ByteArray × ByteArray)) (c4 : (ByteArray × ByteArray)) (k1y5 : Bool) (k1yo4 : (ByteArray × ByteArray))
    (h1 : SC cfg.P i_spec_prGood [.s (.v (.pr .str .str) a0)] (.s (.v .bool true)) [])
    (h2 : SC cfg.P i_spec_l1In [.s (.v (.int .i64) a1), .s (.v (.int .i64) (-10 : Int)), .s (.v (.int .i64) (10 : Int))] (.s (.v .bool true)) [])
    (h3 : a1 < (0 : Int))
    (h4 : SC cfg.P i_spec_prInverse [.s (.v (.pr .str .str) a0)] (.s (.v (.pr .str .str) c3)) [])
    (h5 : SC cfg.P i_spec_prUnit [] (.s (.v (.pr .str .str) c4)) [])
    (h6 : LoopSC cfg.P 2 (lb P_spec_PowerPair 0) (spec_PowerPair_L0a (IntKind.wrap .i64 (0 - a1)) c3 ((⟨#[]⟩ : ByteArray), (⟨#[]⟩ : ByteArray)) c4) (.ret) (spec_PowerPair_L0X1 k1y5 k1yo4)) :
    SC cfg.P i_spec_PowerPair [.s (.v (.pr .str .str) a0), .s (.v (.int .i64) a1)] (.tup [.v (.pr .str .str) k1yo4, .v .bool k1y5]) [] :=
  SC_of_run cfgOK (its := [.res (.s (.v .bool true)) [] [] [], .res (.s (.v .bool true)) [] [] [], .bool true, .res (.s (.v (.pr .str .str) c3)) [] [] [], .res (.s (.v (.pr .str .str) c4)) [] [] [], .loop (fun _ => (.ret, spec_PowerPair_L0X1 k1y5 k1yo4))])
    (ps := [SC cfg.P i_spec_prGood [.s (.v (.pr .str .str) a0)] (.s (.v .bool true)) [],
      SC cfg.P i_spec_l1In [.s (.v (.int .i64) a1), .s (.v (.int .i64) (-10 : Int)), .s (.v (.int .i64) (10 : Int))] (.s (.v .bool true)) [],
      decide (a1 < (0 : Int)) = true,
      SC cfg.P i_spec_prInverse [.s (.v (.pr .str .str) a0)] (.s (.v (.pr .str .str) c3)) [],
      SC cfg.P i_spec_prUnit [] (.s (.v (.pr .str .str) c4)) [],
      LoopSC cfg.P 2 (lb P_spec_PowerPair 0) (spec_PowerPair_L0a (IntKind.wrap .i64 (0 - a1)) c3 ((⟨#[]⟩ : ByteArray), (⟨#[]⟩ : ByteArray)) c4) (.ret) (spec_PowerPair_L0X1 k1y5 k1yo4)]) (by kernel_rfl) ⟨h1, h2, (decide_eq_true h3), h4, h5, h6, trivial⟩ get_spec_PowerPair (by decide)

theorem spec_PowerPair_p2 (a0 : (ByteArray × ByteArray)) (a1 : Int) (c3 : (ByteArray × ByteArray)) (c4 : (ByteArray × ByteArray)) (k1y1 : Int) (k1y24 : Bool) (k1yo2 : (ByteArray × ByteArray)) (k1yo4 : (ByteArray × ByteArray)) (k1yo6 : (ByteArray × ByteArray))
    (h1 : SC cfg.P i_spec_prGood [.s (.v (.pr .str .str) a0)] (.s (.v .bool true)) [])
    (h2 : SC cfg.P i_spec_l1In [.s (.v (.int .i64) a1), .s (.v (.int .i64) (-10 : Int)), .s (.v (.int .i64) (10 : Int))] (.s (.v .bool true)) [])
    (h3 : a1 < (0 : Int))
    (h4 : SC cfg.P i_spec_prInverse [.s (.v (.pr .str .str) a0)] (.s (.v (.pr .str .str) c3)) [])
    (h5 : SC cfg.P i_spec_prUnit [] (.s (.v (.pr .str .str) c4)) [])
    (h6 : LoopSC cfg.P 2 (lb P_spec_PowerPair 0) (spec_PowerPair_L0a (IntKind.wrap .i64 (0 - a1)) c3 ((⟨#[]⟩ : ByteArray), (⟨#[]⟩ : ByteArray)) c4) (.exit 0) (spec_PowerPair_L0X2 k1y1 k1y24 k1yo2 k1yo4 k1yo6)) :
    SC cfg.P i_spec_PowerPair [.s (.v (.pr .str .str) a0), .s (.v (.int .i64) a1)] (.tup [.v (.pr .str .str) k1yo6, .v .bool true]) [] :=
  SC_of_run cfgOK (its := [.res (.s (.v .bool true)) [] [] [], .res (.s (.v .bool true)) [] [] [], .bool true, .res (.s (.v (.pr .str .str) c3)) [] [] [], .res (.s (.v (.pr .str .str) c4)) [] [] [], .loop (fun _ => (.exit 0, spec_PowerPair_L0X2 k1y1 k1y24 k1yo2 k1yo4 k1yo6))])
    (ps := [SC cfg.P i_spec_prGood [.s (.v (.pr .str .str) a0)] (.s (.v .bool true)) [],
      SC cfg.P i_spec_l1In [.s (.v (.int .i64) a1), .s (.v (.int .i64) (-10 : Int)), .s (.v (.int .i64) (10 : Int))] (.s (.v .bool true)) [],
      decide (a1 < (0 : Int)) = true,
      SC cfg.P i_spec_prInverse [.s (.v (.pr .str .str) a0)] (.s (.v (.pr .str .str) c3)) [],
      SC cfg.P i_spec_prUnit [] (.s (.v (.pr .str .str) c4)) [],
      LoopSC cfg.P 2 (lb P_spec_PowerPair 0) (spec_PowerPair_L0a (IntKind.wrap .i64 (0 - a1)) c3 ((⟨#[]⟩ : ByteArray), (⟨#[]⟩ : ByteArray)) c4) (.exit 0) (spec_PowerPair_L0X2 k1y1 k1y24 k1yo2 k1yo4 k1yo6)]) (by kernel_rfl) ⟨h1, h2, (decide_eq_true h3), h4, h5, h6, trivial⟩ get_spec_PowerPair (by decide)

theorem spec_PowerPair_p3 (a0 : (ByteArray × ByteArray)) (a1 : Int) (c3 : (ByteArray × ByteArray)) (k1y5 : Bool) (k1yo4 : (ByteArray × ByteArray))
    (h1 : SC cfg.P i_spec_prGood [.s (.v (.pr .str .str) a0)] (.s (.v .bool true)) [])
    (h2 : SC cfg.P i_spec_l1In [.s (.v (.int .i64) a1), .s (.v (.int .i64) (-10 : Int)), .s (.v (.int .i64) (10 : Int))] (.s (.v .bool true)) [])
    (h3 : ¬ (a1 < (0 : Int)))
    (h4 : SC cfg.P i_spec_prUnit [] (.s (.v (.pr .str .str) c3)) [])
    (h5 : LoopSC cfg.P 2 (lb P_spec_PowerPair 0) (spec_PowerPair_L0a a1 a0 ((⟨#[]⟩ : ByteArray), (⟨#[]⟩ : ByteArray)) c3) (.ret) (spec_PowerPair_L0X1 k1y5 k1yo4)) :
    SC cfg.P i_spec_PowerPair [.s (.v (.pr .str .str) a0), .s (.v (.int .i64) a1)] (.tup [.v (.pr .str .str) k1yo4, .v .bool k1y5]) [] :=
  SC_of_run cfgOK (its := [.res (.s (.v .bool true)) [] [] [], .res (.s (.v .bool true)) [] [] [], .bool false, .res (.s (.v (.pr .str .str) c3)) [] [] [], .loop (fun _ => (.ret, spec_PowerPair_L0X1 k1y5 k1yo4))])
    (ps := [SC cfg.P i_spec_prGood [.s (.v (.pr .str .str) a0)] (.s (.v .bool true)) [],
      SC cfg.P i_spec_l1In [.s (.v (.int .i64) a1), .s (.v (.int .i64) (-10 : Int)), .s (.v (.int .i64) (10 : Int))] (.s (.v .bool true)) [],
      decide (a1 < (0 : Int)) = false,
      SC cfg.P i_spec_prUnit [] (.s (.v (.pr .str .str) c3)) [],
      LoopSC cfg.P 2 (lb P_spec_PowerPair 0) (spec_PowerPair_L0a a1 a0 ((⟨#[]⟩ : ByteArray), (⟨#[]⟩ : ByteArray)) c3) (.ret) (spec_PowerPair_L0X1 k1y5 k1yo4)]) (by kernel_rfl) ⟨h1, h2, (decide_eq_false h3), h4, h5, trivial⟩ get_spec_PowerPair (by decide)

theorem spec_PowerPair_p4 (a0 : (ByteArray × ByteArray)) (a1 : Int) (c3 : (ByteArray × ByteArray)) (k1y1 : Int) (k1y24 : Bool) (k1yo2 : (ByteArray × ByteArray)) (k1yo4 : (ByteArray × ByteArray)) (k1yo6 : (ByteArray × ByteArray))
    (h1 : SC cfg.P i_spec_prGood [.s (.v (.pr .str .str) a0)] (.s (.v .bool true)) [])
    (h2 : SC cfg.P i_spec_l1In [.s (.v (.int .i64) a1), .s (.v (.int .i64) (-10 : Int)), .s (.v (.int .i64) (10 : Int))] (.s (.v .bool true)) [])
    (h3 : ¬ (a1 < (0 : Int)))
    (h4 : SC cfg.P i_spec_prUnit [] (.s (.v (.pr .str .str) c3)) [])
    (h5 : LoopSC cfg.P 2 (lb P_spec_PowerPair 0) (spec_PowerPair_L0a a1 a0 ((⟨#[]⟩ : ByteArray), (⟨#[]⟩ : ByteArray)) c3) (.exit 0) (spec_PowerPair_L0X2 k1y1 k1y24 k1yo2 k1yo4 k1yo6)) :
    SC cfg.P i_spec_PowerPair [.s (.v (.pr .str .str) a0), .s (.v (.int .i64) a1)] (.tup [.v (.pr .str .str) k1yo6, .v .bool true]) [] :=
  SC_of_run cfgOK (its := [.res (.s (.v .bool true)) [] [] [], .res (.s (.v .bool true)) [] [] [], .bool false, .res (.s (.v (.pr .str .str) c3)) [] [] [], .loop (fun _ => (.exit 0, spec_PowerPair_L0X2 k1y1 k1y24 k1yo2 k1yo4 k1yo6))])
    (ps := [SC cfg.P i_spec_prGood [.s (.v (.pr .str .str) a0)] (.s (.v .bool true)) [],
      SC cfg.P i_spec_l1In [.s (.v (.int .i64) a1), .s (.v (.int .i64) (-10 : Int)), .s (.v (.int .i64) (10 : Int))] (.s (.v .bool true)) [],
      decide (a1 < (0 : Int)) = false,
      SC cfg.P i_spec_prUnit [] (.s (.v (.pr .str .str) c3)) [],
      LoopSC cfg.P 2 (lb P_spec_PowerPair 0) (spec_PowerPair_L0a a1 a0 ((⟨#[]⟩ : ByteArray), (⟨#[]⟩ : ByteArray)) c3) (.exit 0) (spec_PowerPair_L0X2 k1y1 k1y24 k1yo2 k1yo4 k1yo6)]) (by kernel_rfl) ⟨h1, h2, (decide_eq_false h3), h4, h5, trivial⟩ get_spec_PowerPair (by decide)

theorem spec_PowerPair_p5 (a0 : (ByteArray × ByteArray)) (a1 : Int)
    (h1 : SC cfg.P i_spec_prGood [.s (.v (.pr .str .str) a0)] (.s (.v .bool true)) [])
    (h2 : SC cfg.P i_spec_l1In [.s (.v (.int .i64) a1), .s (.v (.int .i64) (-10 : Int)), .s (.v (.int .i64) (10 : Int))] (.s (.v .bool false)) []) :
    SC cfg.P i_spec_PowerPair [.s (.v (.pr .str .str) a0), .s (.v (.int .i64) a1)] (.tup [.v (.pr .str .str) ((⟨#[]⟩ : ByteArray), (⟨#[]⟩ : ByteArray)), .v .bool false]) [] :=
  SC_of_run cfgOK (its := [.res (.s (.v .bool true)) [] [] [], .res (.s (.v .bool false)) [] [] []])
    (ps := [SC cfg.P i_spec_prGood [.s (.v (.pr .str .str) a0)] (.s (.v .bool true)) [],
      SC cfg.P i_spec_l1In [.s (.v (.int .i64) a1), .s (.v (.int .i64) (-10 : Int)), .s (.v (.int .i64) (10 : Int))] (.s (.v .bool false)) []]) (by kernel_rfl) ⟨h1, h2, trivial⟩ get_spec_PowerPair (by decide)

theorem spec_PowerPair_p6 (a0 : (ByteArray × ByteArray)) (a1 : Int)
    (h1 : SC cfg.P i_spec_prGood [.s (.v (.pr .str .str) a0)] (.s (.v .bool false)) []) :
    SC cfg.P i_spec_PowerPair [.s (.v (.pr .str .str) a0), .s (.v (.int .i64) a1)] (.tup [.v (.pr .str .str) ((⟨#[]⟩ : ByteArray), (⟨#[]⟩ : ByteArray)), .v .bool false]) [] :=
  SC_of_run cfgOK (its := [.res (.s (.v .bool false)) [] [] []])
    (ps := [SC cfg.P i_spec_prGood [.s (.v (.pr .str .str) a0)] (.s (.v .bool false)) []]) (by kernel_rfl) ⟨h1, trivial⟩ get_spec_PowerPair (by decide)

/-! ### impl_IdentityPair -/


theorem impl_IdentityPair_p1 
     :
    SC cfg.P i_impl_IdentityPair [] (.s (.v (.pr .str .str) ((⟨#[46]⟩ : ByteArray), (⟨#[46]⟩ : ByteArray)))) [] :=
  SC_of_run cfgOK (its := [])
    (ps := []) (by kernel_rfl) trivial get_impl_IdentityPair (by decide)

/-! ### spec_DrawCommutatorPair -/


theorem spec_DrawCommutatorPair_p1 (a0 : (List Int)) (c1 : (ByteArray × ByteArray)) (c1o0 : ((List Int) × (Int × Int))) (c2 : (ByteArray × ByteArray)) (c2o0 : ((List Int) × (Int × Int)))
    (h1 : SC cfg.P i_spec_l1Cur_pair [.s (.mbx (.pr (.sl (.int .u8)) (.pr (.int .i64) (.int .u64))) (a0, ((0 : Int), (0 : Int)))), .s (.v (.int .i64) (3 : Int))] (.s (.v (.pr .str .str) c1)) [.box (.pr (.sl (.int .u8)) (.pr (.int .i64) (.int .u64))) c1o0])
    (h2 : SC cfg.P i_spec_l1Cur_pair [.s (.mbx (.pr (.sl (.int .u8)) (.pr (.int .i64) (.int .u64))) c1o0), .s (.v (.int .i64) (3 : Int))] (.s (.v (.pr .str .str) c2)) [.box (.pr (.sl (.int .u8)) (.pr (.int .i64) (.int .u64))) c2o0]) :
    SC cfg.P i_spec_DrawCommutatorPair [.s (.v (.sl (.int .u8)) a0)] (.tup [.v (.pr .str .str) c1, .v (.pr .str .str) c2]) [] :=
  SC_of_run cfgOK (its := [.res (.s (.v (.pr .str .str) c1)) [.box (.pr (.sl (.int .u8)) (.pr (.int .i64) (.int .u64))) c1o0] [] [], .res (.s (.v (.pr .str .str) c2)) [.box (.pr (.sl (.int .u8)) (.pr (.int .i64) (.int .u64))) c2o0] [] []])
    (ps := [SC cfg.P i_spec_l1Cur_pair [.s (.mbx (.pr (.sl (.int .u8)) (.pr (.int .i64) (.int .u64))) (a0, ((0 : Int), (0 : Int)))), .s (.v (.int .i64) (3 : Int))] (.s (.v (.pr .str .str) c1)) [.box (.pr (.sl (.int .u8)) (.pr (.int .i64) (.int .u64))) c1o0],
      SC cfg.P i_spec_l1Cur_pair [.s (.mbx (.pr (.sl (.int .u8)) (.pr (.int .i64) (.int .u64))) c1o0), .s (.v (.int .i64) (3 : Int))] (.s (.v (.pr .str .str) c2)) [.box (.pr (.sl (.int .u8)) (.pr (.int .i64) (.int .u64))) c2o0]]) (by kernel_rfl) ⟨h1, h2, trivial⟩ get_spec_DrawCommutatorPair (by decide)

/-! ### impl_CommutatorPair -/


theorem impl_CommutatorPair_p1 (a0 : (ByteArray × ByteArray)) (a1 : (ByteArray × ByteArray)) (c1a : (Tr × Tr)) (c1b : (Tr × Tr)) (c2 : (Tr × Tr)) (c3 : (Tr × Tr)) (c4 : (Tr × Tr)) (c5 : (Tr × Tr)) (c6 : (Tr × Tr)) (c7a : (ByteArray × ByteArray)) (c7b : Bool)
    (h1 : SC cfg.P i_impl_two [.s (.v (.pr .str .str) a0), .s (.v (.pr .str .str) a1)] (.tup [.v (.pr .tree .tree) c1a, .v (.pr .tree .tree) c1b, .v .bool true]) [])
    (h2 : SC cfg.P i_impl_pair_inverse [.s (.v (.pr .tree .tree) c1a)] (.s (.v (.pr .tree .tree) c2)) [])
    (h3 : SC cfg.P i_impl_pair_inverse [.s (.v (.pr .tree .tree) c1b)] (.s (.v (.pr .tree .tree) c3)) [])
    (h4 : SC cfg.P i_impl_pair_times [.s (.v (.pr .tree .tree) c2), .s (.v (.pr .tree .tree) c3)] (.s (.v (.pr .tree .tree) c4)) [])
    (h5 : SC cfg.P i_impl_pair_times [.s (.v (.pr .tree .tree) c4), .s (.v (.pr .tree .tree) c1a)] (.s (.v (.pr .tree .tree) c5)) [])
    (h6 : SC cfg.P i_impl_pair_times [.s (.v (.pr .tree .tree) c5), .s (.v (.pr .tree .tree) c1b)] (.s (.v (.pr .tree .tree) c6)) [])
    (h7 : SC cfg.P i_impl_pair_fits [.s (.v (.pr .tree .tree) c6)] (.tup [.v (.pr .str .str) c7a, .v .bool c7b]) []) :
    SC cfg.P i_impl_CommutatorPair [.s (.v (.pr .str .str) a0), .s (.v (.pr .str .str) a1)] (.tup [.v (.pr .str .str) c7a, .v .bool c7b]) [] :=
  SC_of_run cfgOK (its := [.res (.tup [.v (.pr .tree .tree) c1a, .v (.pr .tree .tree) c1b, .v .bool true]) [] [] [], .res (.s (.v (.pr .tree .tree) c2)) [] [] [], .res (.s (.v (.pr .tree .tree) c3)) [] [] [], .res (.s (.v (.pr .tree .tree) c4)) [] [] [], .res (.s (.v (.pr .tree .tree) c5)) [] [] [], .res (.s (.v (.pr .tree .tree) c6)) [] [] [], .res (.tup [.v (.pr .str .str) c7a, .v .bool c7b]) [] [] []])
    (ps := [SC cfg.P i_impl_two [.s (.v (.pr .str .str) a0), .s (.v (.pr .str .str) a1)] (.tup [.v (.pr .tree .tree) c1a, .v (.pr .tree .tree) c1b, .v .bool true]) [],
      SC cfg.P i_impl_pair_inverse [.s (.v (.pr .tree .tree) c1a)] (.s (.v (.pr .tree .tree) c2)) [],
      SC cfg.P i_impl_pair_inverse [.s (.v (.pr .tree .tree) c1b)] (.s (.v (.pr .tree .tree) c3)) [],
      SC cfg.P i_impl_pair_times [.s (.v (.pr .tree .tree) c2), .s (.v (.pr .tree .tree) c3)] (.s (.v (.pr .tree .tree) c4)) [],
      SC cfg.P i_impl_pair_times [.s (.v (.pr .tree .tree) c4), .s (.v (.pr .tree .tree) c1a)] (.s (.v (.pr .tree .tree) c5)) [],
      SC cfg.P i_impl_pair_times [.s (.v (.pr .tree .tree) c5), .s (.v (.pr .tree .tree) c1b)] (.s (.v (.pr .tree .tree) c6)) [],
      SC cfg.P i_impl_pair_fits [.s (.v (.pr .tree .tree) c6)] (.tup [.v (.pr .str .str) c7a, .v .bool c7b]) []]) (by kernel_rfl) ⟨h1, h2, h3, h4, h5, h6, h7, trivial⟩ get_impl_CommutatorPair (by decide)

theorem impl_CommutatorPair_p2 (a0 : (ByteArray × ByteArray)) (a1 : (ByteArray × ByteArray)) (c1a : (Tr × Tr)) (c1b : (Tr × Tr))
    (h1 : SC cfg.P i_impl_two [.s (.v (.pr .str .str) a0), .s (.v (.pr .str .str) a1)] (.tup [.v (.pr .tree .tree) c1a, .v (.pr .tree .tree) c1b, .v .bool false]) []) :
    SC cfg.P i_impl_CommutatorPair [.s (.v (.pr .str .str) a0), .s (.v (.pr .str .str) a1)] (.tup [.v (.pr .str .str) ((⟨#[]⟩ : ByteArray), (⟨#[]⟩ : ByteArray)), .v .bool false]) [] :=
  SC_of_run cfgOK (its := [.res (.tup [.v (.pr .tree .tree) c1a, .v (.pr .tree .tree) c1b, .v .bool false]) [] [] []])
    (ps := [SC cfg.P i_impl_two [.s (.v (.pr .str .str) a0), .s (.v (.pr .str .str) a1)] (.tup [.v (.pr .tree .tree) c1a, .v (.pr .tree .tree) c1b, .v .bool false]) []]) (by kernel_rfl) ⟨h1, trivial⟩ get_impl_CommutatorPair (by decide)

/-! ### spec_CommutatorPair -/


theorem spec_CommutatorPair_p1 (a0 : (ByteArray × ByteArray)) (a1 : (ByteArray × ByteArray)) (c3 : (ByteArray × ByteArray)) (c4 : (ByteArray × ByteArray)) (c5 : (ByteArray × ByteArray)) (c6 : (ByteArray × ByteArray)) (c7 : (ByteArray × ByteArray)) (c8a : (ByteArray × ByteArray)) (c8b : Bool)
    (h1 : SC cfg.P i_spec_prGood [.s (.v (.pr .str .str) a0)] (.s (.v .bool true)) [])
    (h2 : SC cfg.P i_spec_prGood [.s (.v (.pr .str .str) a1)] (.s (.v .bool true)) [])
    (h3 : SC cfg.P i_spec_prInverse [.s (.v (.pr .str .str) a0)] (.s (.v (.pr .str .str) c3)) [])
    (h4 : SC cfg.P i_spec_prInverse [.s (.v (.pr .str .str) a1)] (.s (.v (.pr .str .str) c4)) [])
    (h5 : SC cfg.P i_spec_prTimes [.s (.v (.pr .str .str) c3), .s (.v (.pr .str .str) c4)] (.s (.v (.pr .str .str) c5)) [])
    (h6 : SC cfg.P i_spec_prTimes [.s (.v (.pr .str .str) a0), .s (.v (.pr .str .str) a1)] (.s (.v (.pr .str .str) c6)) [])
    (h7 : SC cfg.P i_spec_prTimes [.s (.v (.pr .str .str) c5), .s (.v (.pr .str .str) c6)] (.s (.v (.pr .str .str) c7)) [])
    (h8 : SC cfg.P i_spec_prIf [.s (.v (.pr .str .str) c7)] (.tup [.v (.pr .str .str) c8a, .v .bool c8b]) []) :
    SC cfg.P i_spec_CommutatorPair [.s (.v (.pr .str .str) a0), .s (.v (.pr .str .str) a1)] (.tup [.v (.pr .str .str) c8a, .v .bool c8b]) [] :=
  SC_of_run cfgOK (its := [.res (.s (.v .bool true)) [] [] [], .res (.s (.v .bool true)) [] [] [], .res (.s (.v (.pr .str .str) c3)) [] [] [], .res (.s (.v (.pr .str .str) c4)) [] [] [], .res (.s (.v (.pr .str .str) c5)) [] [] [], .res (.s (.v (.pr .str .str) c6)) [] [] [], .res (.s (.v (.pr .str .str) c7)) [] [] [], .res (.tup [.v (.pr .str .str) c8a, .v .bool c8b]) [] [] []])
    (ps := [SC cfg.P i_spec_prGood [.s (.v (.pr .str .str) a0)] (.s (.v .bool true)) [],
      SC cfg.P i_spec_prGood [.s (.v (.pr .str .str) a1)] (.s (.v .bool true)) [],
      SC cfg.P i_spec_prInverse [.s (.v (.pr .str .str) a0)] (.s (.v (.pr .str .str) c3)) [],
      SC cfg.P i_spec_prInverse [.s (.v (.pr .str .str) a1)] (.s (.v (.pr .str .str) c4)) [],
      SC cfg.P i_spec_prTimes [.s (.v (.pr .str .str) c3), .s (.v (.pr .str .str) c4)] (.s (.v (.pr .str .str) c5)) [],
      SC cfg.P i_spec_prTimes [.s (.v (.pr .str .str) a0), .s (.v (.pr .str .str) a1)] (.s (.v (.pr .str .str) c6)) [],
      SC cfg.P i_spec_prTimes [.s (.v (.pr .str .str) c5), .s (.v (.pr .str .str) c6)] (.s (.v (.pr .str .str) c7)) [],
      SC cfg.P i_spec_prIf [.s (.v (.pr .str .str) c7)] (.tup [.v (.pr .str .str) c8a, .v .bool c8b]) []]) (by kernel_rfl) ⟨h1, h2, h3, h4, h5, h6, h7, h8, trivial⟩ get_spec_CommutatorPair (by decide)

theorem spec_CommutatorPair_p2 (a0 : (ByteArray × ByteArray)) (a1 : (ByteArray × ByteArray))
    (h1 : SC cfg.P i_spec_prGood [.s (.v (.pr .str .str) a0)] (.s (.v .bool true)) [])
    (h2 : SC cfg.P i_spec_prGood [.s (.v (.pr .str .str) a1)] (.s (.v .bool false)) []) :
    SC cfg.P i_spec_CommutatorPair [.s (.v (.pr .str .str) a0), .s (.v (.pr .str .str) a1)] (.tup [.v (.pr .str .str) ((⟨#[]⟩ : ByteArray), (⟨#[]⟩ : ByteArray)), .v .bool false]) [] :=
  SC_of_run cfgOK (its := [.res (.s (.v .bool true)) [] [] [], .res (.s (.v .bool false)) [] [] []])
    (ps := [SC cfg.P i_spec_prGood [.s (.v (.pr .str .str) a0)] (.s (.v .bool true)) [],
      SC cfg.P i_spec_prGood [.s (.v (.pr .str .str) a1)] (.s (.v .bool false)) []]) (by kernel_rfl) ⟨h1, h2, trivial⟩ get_spec_CommutatorPair (by decide)

theorem spec_CommutatorPair_p3 (a0 : (ByteArray × ByteArray)) (a1 : (ByteArray × ByteArray))
    (h1 : SC cfg.P i_spec_prGood [.s (.v (.pr .str .str) a0)] (.s (.v .bool false)) []) :
    SC cfg.P i_spec_CommutatorPair [.s (.v (.pr .str .str) a0), .s (.v (.pr .str .str) a1)] (.tup [.v (.pr .str .str) ((⟨#[]⟩ : ByteArray), (⟨#[]⟩ : ByteArray)), .v .bool false]) [] :=
  SC_of_run cfgOK (its := [.res (.s (.v .bool false)) [] [] []])
    (ps := [SC cfg.P i_spec_prGood [.s (.v (.pr .str .str) a0)] (.s (.v .bool false)) []]) (by kernel_rfl) ⟨h1, trivial⟩ get_spec_CommutatorPair (by decide)

/-! ### impl_IsInner -/


theorem impl_IsInner_p1 (a0 : (ByteArray × ByteArray)) (c1a : Int) (c1b : Int)
    (h1 : SC cfg.P i_impl_EndSlopes [.s (.v (.pr .str .str) a0)] (.tup [.v (.int .i64) c1a, .v (.int .i64) c1b, .v .bool true]) [])
    (h2 : c1a = (0 : Int))
    (h3 : c1b = (0 : Int)) :
    SC cfg.P i_impl_IsInner [.s (.v (.pr .str .str) a0)] (.tup [.v .bool true, .v .bool true]) [] :=
  SC_of_run cfgOK (its := [.res (.tup [.v (.int .i64) c1a, .v (.int .i64) c1b, .v .bool true]) [] [] [], .bool true, .bool true])
    (ps := [SC cfg.P i_impl_EndSlopes [.s (.v (.pr .str .str) a0)] (.tup [.v (.int .i64) c1a, .v (.int .i64) c1b, .v .bool true]) [],
      (c1a == (0 : Int)) = true,
      (c1b == (0 : Int)) = true]) (by kernel_rfl) ⟨h1, (beq_iff_eq.mpr h2), (beq_iff_eq.mpr h3), trivial⟩ get_impl_IsInner (by decide)

theorem impl_IsInner_p2 (a0 : (ByteArray × ByteArray)) (c1a : Int) (c1b : Int)
    (h1 : SC cfg.P i_impl_EndSlopes [.s (.v (.pr .str .str) a0)] (.tup [.v (.int .i64) c1a, .v (.int .i64) c1b, .v .bool true]) [])
    (h2 : c1a = (0 : Int))
    (h3 : c1b ≠ (0 : Int)) :
    SC cfg.P i_impl_IsInner [.s (.v (.pr .str .str) a0)] (.tup [.v .bool false, .v .bool true]) [] :=
  SC_of_run cfgOK (its := [.res (.tup [.v (.int .i64) c1a, .v (.int .i64) c1b, .v .bool true]) [] [] [], .bool true, .bool false])
    (ps := [SC cfg.P i_impl_EndSlopes [.s (.v (.pr .str .str) a0)] (.tup [.v (.int .i64) c1a, .v (.int .i64) c1b, .v .bool true]) [],
      (c1a == (0 : Int)) = true,
      (c1b == (0 : Int)) = false]) (by kernel_rfl) ⟨h1, (beq_iff_eq.mpr h2), (beq_eq_false_iff_ne.mpr h3), trivial⟩ get_impl_IsInner (by decide)

theorem impl_IsInner_p3 (a0 : (ByteArray × ByteArray)) (c1a : Int) (c1b : Int)
    (h1 : SC cfg.P i_impl_EndSlopes [.s (.v (.pr .str .str) a0)] (.tup [.v (.int .i64) c1a, .v (.int .i64) c1b, .v .bool true]) [])
    (h2 : c1a ≠ (0 : Int)) :
    SC cfg.P i_impl_IsInner [.s (.v (.pr .str .str) a0)] (.tup [.v .bool false, .v .bool true]) [] :=
  SC_of_run cfgOK (its := [.res (.tup [.v (.int .i64) c1a, .v (.int .i64) c1b, .v .bool true]) [] [] [], .bool false])
    (ps := [SC cfg.P i_impl_EndSlopes [.s (.v (.pr .str .str) a0)] (.tup [.v (.int .i64) c1a, .v (.int .i64) c1b, .v .bool true]) [],
      (c1a == (0 : Int)) = false]) (by kernel_rfl) ⟨h1, (beq_eq_false_iff_ne.mpr h2), trivial⟩ get_impl_IsInner (by decide)

theorem impl_IsInner_p4 (a0 : (ByteArray × ByteArray)) (c1a : Int) (c1b : Int)
    (h1 : SC cfg.P i_impl_EndSlopes [.s (.v (.pr .str .str) a0)] (.tup [.v (.int .i64) c1a, .v (.int .i64) c1b, .v .bool false]) []) :
    SC cfg.P i_impl_IsInner [.s (.v (.pr .str .str) a0)] (.tup [.v .bool false, .v .bool false]) [] :=
  SC_of_run cfgOK (its := [.res (.tup [.v (.int .i64) c1a, .v (.int .i64) c1b, .v .bool false]) [] [] []])
    (ps := [SC cfg.P i_impl_EndSlopes [.s (.v (.pr .str .str) a0)] (.tup [.v (.int .i64) c1a, .v (.int .i64) c1b, .v .bool false]) []]) (by kernel_rfl) ⟨h1, trivial⟩ get_impl_IsInner (by decide)

/-! ### impl_pair_power -/


def impl_pair_power_L0a (x8 : Int) (x9 : Int) (xo2 : (Tr × Tr)) (xo4 : (Tr × Tr)) (xo6 : (Tr × Tr)) : St := mkSt 21 [(2, .s (.adr 2 none)), (4, .s (.adr 4 none)), (6, .s (.adr 6 none)), (8, .s (.v (.int .i64) x8)), (9, .s (.v (.int .i64) x9))] [(2, .box (.pr .tree .tree) xo2 false), (4, .box (.pr .tree .tree) xo4 false), (6, .box (.pr .tree .tree) xo6 false)]

def impl_pair_power_L0X1 (y5 : Bool) (yo4 : (Tr × Tr)) : St := mkSt 21 [(4, .s (.adr 4 none)), (5, .s (.v .bool y5))] [(4, .box (.pr .tree .tree) yo4 false)]

def impl_pair_power_L0X2 (y8 : Int) (y9 : Int) (y10 : Bool) (yo2 : (Tr × Tr)) (yo4 : (Tr × Tr)) (yo6 : (Tr × Tr)) : St := mkSt 21 [(2, .s (.adr 2 none)), (4, .s (.adr 4 none)), (6, .s (.adr 6 none)), (8, .s (.v (.int .i64) y8)), (9, .s (.v (.int .i64) y9)), (10, .s (.v .bool y10))] [(2, .box (.pr .tree .tree) yo2 false), (4, .box (.pr .tree .tree) yo4 false), (6, .box (.pr .tree .tree) yo6 false)]

theorem impl_pair_power_L0a_x1 (x8 : Int) (x9 : Int) (xo2 : (Tr × Tr)) (xo4 : (Tr × Tr)) (xo6 : (Tr × Tr)) (dc1 : (Tr × Tr)) (dc2 : Int)
    (h1 : x9 < x8)
    (h2 : SC cfg.P i_impl_pair_times [.s (.v (.pr .tree .tree) xo6), .s (.v (.pr .tree .tree) xo2)] (.s (.v (.pr .tree .tree) dc1)) [])
    (h3 : SC cfg.P i_impl_node_carets [.s (.v .tree dc1.1)] (.s (.v (.int .i64) dc2)) [])
    (h4 : dc2 > (8 : Int)) :
    LoopSC cfg.P 2 (lb P_impl_pair_power 0) (impl_pair_power_L0a x8 x9 xo2 xo4 xo6) (.ret) (impl_pair_power_L0X1 false dc1) :=
  loop_out cfgOK (f := i_impl_pair_power) (its := [.bool true, .res (.s (.v (.pr .tree .tree) dc1)) [] [] [], .res (.s (.v (.int .i64) dc2)) [] [] [], .bool true])
    (ps := [decide (x9 < x8) = true,
      SC cfg.P i_impl_pair_times [.s (.v (.pr .tree .tree) xo6), .s (.v (.pr .tree .tree) xo2)] (.s (.v (.pr .tree .tree) dc1)) [],
      SC cfg.P i_impl_node_carets [.s (.v .tree dc1.1)] (.s (.v (.int .i64) dc2)) [],
      decide (dc2 > (8 : Int)) = true]) (by kernel_rfl) ⟨(decide_eq_true h1), h2, h3, (decide_eq_true h4), trivial⟩ (fun h => by cases h)

theorem impl_pair_power_L0a_i2 (x8 : Int) (x9 : Int) (xo2 : (Tr × Tr)) (xo4 : (Tr × Tr)) (xo6 : (Tr × Tr)) (dc1 : (Tr × Tr)) (dc2 : Int)
    (h1 : x9 < x8)
    (h2 : SC cfg.P i_impl_pair_times [.s (.v (.pr .tree .tree) xo6), .s (.v (.pr .tree .tree) xo2)] (.s (.v (.pr .tree .tree) dc1)) [])
    (h3 : SC cfg.P i_impl_node_carets [.s (.v .tree dc1.1)] (.s (.v (.int .i64) dc2)) [])
    (h4 : ¬ (dc2 > (8 : Int)))
    {e : AEx} {st : St} (next : LoopSC cfg.P 2 (lb P_impl_pair_power 0) (impl_pair_power_L0a x8 (IntKind.wrap .i64 (x9 + (1 : Int))) xo2 xo4 dc1) e st) :
    LoopSC cfg.P 2 (lb P_impl_pair_power 0) (impl_pair_power_L0a x8 x9 xo2 xo4 xo6) e st :=
  loop_iter cfgOK (f := i_impl_pair_power) (its := [.bool true, .res (.s (.v (.pr .tree .tree) dc1)) [] [] [], .res (.s (.v (.int .i64) dc2)) [] [] [], .bool false])
    (ps := [decide (x9 < x8) = true,
      SC cfg.P i_impl_pair_times [.s (.v (.pr .tree .tree) xo6), .s (.v (.pr .tree .tree) xo2)] (.s (.v (.pr .tree .tree) dc1)) [],
      SC cfg.P i_impl_node_carets [.s (.v .tree dc1.1)] (.s (.v (.int .i64) dc2)) [],
      decide (dc2 > (8 : Int)) = false]) (st1 := impl_pair_power_L0a x8 (IntKind.wrap .i64 (x9 + (1 : Int))) xo2 xo4 dc1) (by kernel_rfl) ⟨(decide_eq_true h1), h2, h3, (decide_eq_false h4), trivial⟩ next

theorem impl_pair_power_L0a_x3 (x8 : Int) (x9 : Int) (xo2 : (Tr × Tr)) (xo4 : (Tr × Tr)) (xo6 : (Tr × Tr))
    (h1 : ¬ (x9 < x8)) :
    LoopSC cfg.P 2 (lb P_impl_pair_power 0) (impl_pair_power_L0a x8 x9 xo2 xo4 xo6) (.exit 0) (impl_pair_power_L0X2 x8 x9 false xo2 xo4 xo6) :=
  loop_out cfgOK (f := i_impl_pair_power) (its := [.bool false])
    (ps := [decide (x9 < x8) = false]) (by kernel_rfl) ⟨(decide_eq_false h1), trivial⟩ (fun h => by cases h)

theorem impl_pair_power_p1 (a0 : (Tr × Tr)) (a1 : Int) (k1y5 : Bool) (k1yo4 : (Tr × Tr))
    (h1 : LoopSC cfg.P 2 (lb P_impl_pair_power 0) (impl_pair_power_L0a a1 (0 : Int) a0 (Tr.leaf, Tr.leaf) (Tr.leaf, Tr.leaf)) (.ret) (impl_pair_power_L0X1 k1y5 k1yo4)) :
    SC cfg.P i_impl_pair_power [.s (.v (.pr .tree .tree) a0), .s (.v (.int .i64) a1)] (.tup [.v (.pr .tree .tree) k1yo4, .v .bool k1y5]) [] :=
  SC_of_run cfgOK (its := [.loop (fun _ => (.ret, impl_pair_power_L0X1 k1y5 k1yo4))])
    (ps := [LoopSC cfg.P 2 (lb P_impl_pair_power 0) (impl_pair_power_L0a a1 (0 : Int) a0 (Tr.leaf, Tr.leaf) (Tr.leaf, Tr.leaf)) (.ret) (impl_pair_power_L0X1 k1y5 k1yo4)]) (by kernel_rfl) ⟨h1, trivial⟩ get_impl_pair_power (by decide)

theorem impl_pair_power_p2 (a0 : (Tr × Tr)) (a1 : Int) (k1y8 : Int) (k1y9 : Int) (k1y10 : Bool) (k1yo2 : (Tr × Tr)) (k1yo4 : (Tr × Tr)) (k1yo6 : (Tr × Tr))
    (h1 : LoopSC cfg.P 2 (lb P_impl_pair_power 0) (impl_pair_power_L0a a1 (0 : Int) a0 (Tr.leaf, Tr.leaf) (Tr.leaf, Tr.leaf)) (.exit 0) (impl_pair_power_L0X2 k1y8 k1y9 k1y10 k1yo2 k1yo4 k1yo6)) :
    SC cfg.P i_impl_pair_power [.s (.v (.pr .tree .tree) a0), .s (.v (.int .i64) a1)] (.tup [.v (.pr .tree .tree) k1yo6, .v .bool true]) [] :=
  SC_of_run cfgOK (its := [.loop (fun _ => (.exit 0, impl_pair_power_L0X2 k1y8 k1y9 k1y10 k1yo2 k1yo4 k1yo6))])
    (ps := [LoopSC cfg.P 2 (lb P_impl_pair_power 0) (impl_pair_power_L0a a1 (0 : Int) a0 (Tr.leaf, Tr.leaf) (Tr.leaf, Tr.leaf)) (.exit 0) (impl_pair_power_L0X2 k1y8 k1y9 k1y10 k1yo2 k1yo4 k1yo6)]) (by kernel_rfl) ⟨h1, trivial⟩ get_impl_pair_power (by decide)

/-! ### impl_EndSlopes -/


theorem impl_EndSlopes_p1 (a0 : (ByteArray × ByteArray)) (c1a : (Tr × Tr)) (c2 : (List Int))
    (h1 : SC cfg.P i_impl_pairOf [.s (.v (.pr .str .str) a0)] (.tup [.v (.pr .tree .tree) c1a, .v .bool true]) [])
    (h2 : SC cfg.P i_impl_pair_slopes [.s (.v (.pr .tree .tree) c1a)] (.s (.own t_int (.int .i64) c2)) [])
    (h3 : (0 : Int) < (List.length c2 : Int))
    (h4 : ((0 : Int)).toNat < List.length c2)
    (h5 : 0 ≤ (IntKind.wrap .i64 (((List.length c2 : Nat) : Int) - (1 : Int))))
    (h6 : (IntKind.wrap .i64 (((List.length c2 : Nat) : Int) - (1 : Int))) < (List.length c2 : Int))
    (h7 : ((IntKind.wrap .i64 (((List.length c2 : Nat) : Int) - (1 : Int)))).toNat < List.length c2) :
    SC cfg.P i_impl_EndSlopes [.s (.v (.pr .str .str) a0)] (.tup [.v (.int .i64) (List.getD c2 ((0 : Int)).toNat (0 : Int)), .v (.int .i64) (List.getD c2 ((IntKind.wrap .i64 (((List.length c2 : Nat) : Int) - (1 : Int)))).toNat (0 : Int)), .v .bool true]) [] :=
  SC_of_run cfgOK (its := [.res (.tup [.v (.pr .tree .tree) c1a, .v .bool true]) [] [] [], .res (.s (.own t_int (.int .i64) c2)) [] [] [16]])
    (ps := [SC cfg.P i_impl_pairOf [.s (.v (.pr .str .str) a0)] (.tup [.v (.pr .tree .tree) c1a, .v .bool true]) [],
      SC cfg.P i_impl_pair_slopes [.s (.v (.pr .tree .tree) c1a)] (.s (.own t_int (.int .i64) c2)) [],
      0 ≤ (0 : Int),
      (0 : Int) < (List.length c2 : Int),
      ((0 : Int)).toNat < List.length c2,
      0 ≤ (IntKind.wrap .i64 (((List.length c2 : Nat) : Int) - (1 : Int))),
      (IntKind.wrap .i64 (((List.length c2 : Nat) : Int) - (1 : Int))) < (List.length c2 : Int),
      ((IntKind.wrap .i64 (((List.length c2 : Nat) : Int) - (1 : Int)))).toNat < List.length c2]) (by kernel_rfl) ⟨h1, h2, (by decide), h3, h4, h5, h6, h7, trivial⟩ get_impl_EndSlopes (by decide)

theorem impl_EndSlopes_p2 (a0 : (ByteArray × ByteArray)) (c1a : (Tr × Tr))
    (h1 : SC cfg.P i_impl_pairOf [.s (.v (.pr .str .str) a0)] (.tup [.v (.pr .tree .tree) c1a, .v .bool false]) []) :
    SC cfg.P i_impl_EndSlopes [.s (.v (.pr .str .str) a0)] (.tup [.v (.int .i64) (0 : Int), .v (.int .i64) (0 : Int), .v .bool false]) [] :=
  SC_of_run cfgOK (its := [.res (.tup [.v (.pr .tree .tree) c1a, .v .bool false]) [] [] []])
    (ps := [SC cfg.P i_impl_pairOf [.s (.v (.pr .str .str) a0)] (.tup [.v (.pr .tree .tree) c1a, .v .bool false]) []]) (by kernel_rfl) ⟨h1, trivial⟩ get_impl_EndSlopes (by decide)

/-! ### impl_pair_slopes -/


def impl_pair_slopes_L0a (x8 : Int) (x9 : Int) (xo3 : (List Int)) (xo7 : (List (Int × (Int × (Int × Int))))) : St := mkSt 20 [(3, .s (.osl 3 0)), (7, .s (.osl 7 0)), (8, .s (.v (.int .i64) x8)), (9, .s (.v (.int .i64) x9))] [(3, .row t_int (.int .i64) xo3 0 false), (7, .row t_impl_piece (.pr (.int .i64) (.pr (.int .i64) (.pr (.int .i64) (.int .i64)))) xo7 0 false)]

def impl_pair_slopes_L0X1 (y8 : Int) (y9 : Int) (y10 : Bool) (yo3 : (List Int)) (yo7 : (List (Int × (Int × (Int × Int))))) : St := mkSt 20 [(3, .s (.osl 3 0)), (7, .s (.osl 7 0)), (8, .s (.v (.int .i64) y8)), (9, .s (.v (.int .i64) y9)), (10, .s (.v .bool y10))] [(3, .row t_int (.int .i64) yo3 0 false), (7, .row t_impl_piece (.pr (.int .i64) (.pr (.int .i64) (.pr (.int .i64) (.int .i64)))) yo7 0 false)]

theorem impl_pair_slopes_L0a_i1 (x8 : Int) (x9 : Int) (xo3 : (List Int)) (xo7 : (List (Int × (Int × (Int × Int))))) (dc1 : Int)
    (h1 : x9 < x8)
    (h2 : 0 ≤ x9)
    (h3 : x9 < (List.length xo7 : Int))
    (h4 : (x9).toNat < List.length xo7)
    (h5 : SC cfg.P i_impl_piece_slope [.s (.v (.pr (.int .i64) (.pr (.int .i64) (.pr (.int .i64) (.int .i64)))) (List.getD xo7 (x9).toNat ((0 : Int), ((0 : Int), ((0 : Int), (0 : Int))))))] (.s (.v (.int .i64) dc1)) [])
    (h6 : sizeOK (List.length xo3 + List.length ([dc1] : List Int)))
    {e : AEx} {st : St} (next : LoopSC cfg.P 1 (lb P_impl_pair_slopes 0) (impl_pair_slopes_L0a x8 (IntKind.wrap .i64 (x9 + (1 : Int))) (xo3 ++ ([dc1] : List Int)) xo7) e st) :
    LoopSC cfg.P 1 (lb P_impl_pair_slopes 0) (impl_pair_slopes_L0a x8 x9 xo3 xo7) e st :=
  loop_iter cfgOK (f := i_impl_pair_slopes) (its := [.bool true, .res (.s (.v (.int .i64) dc1)) [] [] []])
    (ps := [decide (x9 < x8) = true,
      0 ≤ x9,
      x9 < (List.length xo7 : Int),
      (x9).toNat < List.length xo7,
      SC cfg.P i_impl_piece_slope [.s (.v (.pr (.int .i64) (.pr (.int .i64) (.pr (.int .i64) (.int .i64)))) (List.getD xo7 (x9).toNat ((0 : Int), ((0 : Int), ((0 : Int), (0 : Int))))))] (.s (.v (.int .i64) dc1)) [],
      sizeOK (List.length xo3 + List.length ([dc1] : List Int))]) (st1 := impl_pair_slopes_L0a x8 (IntKind.wrap .i64 (x9 + (1 : Int))) (xo3 ++ ([dc1] : List Int)) xo7) (by kernel_rfl) ⟨(decide_eq_true h1), h2, h3, h4, h5, h6, trivial⟩ next

theorem impl_pair_slopes_L0a_x2 (x8 : Int) (x9 : Int) (xo3 : (List Int)) (xo7 : (List (Int × (Int × (Int × Int)))))
    (h1 : ¬ (x9 < x8)) :
    LoopSC cfg.P 1 (lb P_impl_pair_slopes 0) (impl_pair_slopes_L0a x8 x9 xo3 xo7) (.exit 0) (impl_pair_slopes_L0X1 x8 x9 false xo3 xo7) :=
  loop_out cfgOK (f := i_impl_pair_slopes) (its := [.bool false])
    (ps := [decide (x9 < x8) = false]) (by kernel_rfl) ⟨(decide_eq_false h1), trivial⟩ (fun h => by cases h)

theorem impl_pair_slopes_p1 (a0 : (Tr × Tr)) (c1 : (List (Int × (Int × (Int × Int))))) (k1y8 : Int) (k1y9 : Int) (k1y10 : Bool) (k1yo3 : (List Int)) (k1yo7 : (List (Int × (Int × (Int × Int)))))
    (h1 : SC cfg.P i_impl_pair_pieces [.s (.v (.pr .tree .tree) a0)] (.s (.own t_impl_piece (.pr (.int .i64) (.pr (.int .i64) (.pr (.int .i64) (.int .i64)))) c1)) [])
    (h2 : LoopSC cfg.P 1 (lb P_impl_pair_slopes 0) (impl_pair_slopes_L0a ((List.length c1 : Nat) : Int) (0 : Int) ([] : List Int) c1) (.exit 0) (impl_pair_slopes_L0X1 k1y8 k1y9 k1y10 k1yo3 k1yo7)) :
    SC cfg.P i_impl_pair_slopes [.s (.v (.pr .tree .tree) a0)] (.s (.own t_int (.int .i64) k1yo3)) [] :=
  SC_of_run cfgOK (its := [.res (.s (.own t_impl_piece (.pr (.int .i64) (.pr (.int .i64) (.pr (.int .i64) (.int .i64)))) c1)) [] [] [7], .loop (fun _ => (.exit 0, impl_pair_slopes_L0X1 k1y8 k1y9 k1y10 k1yo3 k1yo7))])
    (ps := [SC cfg.P i_impl_pair_pieces [.s (.v (.pr .tree .tree) a0)] (.s (.own t_impl_piece (.pr (.int .i64) (.pr (.int .i64) (.pr (.int .i64) (.int .i64)))) c1)) [],
      LoopSC cfg.P 1 (lb P_impl_pair_slopes 0) (impl_pair_slopes_L0a ((List.length c1 : Nat) : Int) (0 : Int) ([] : List Int) c1) (.exit 0) (impl_pair_slopes_L0X1 k1y8 k1y9 k1y10 k1yo3 k1yo7)]) (by kernel_rfl) ⟨h1, h2, trivial⟩ get_impl_pair_slopes (by decide)

/-! ### impl_pair_pieces -/


def impl_pair_pieces_L0a (x13 : Int) (x14 : Int) (xo3 : (List (Int × (Int × (Int × Int))))) (xo9 : (List ByteArray)) (xo12 : (List ByteArray)) : St := mkSt 39 [(3, .s (.osl 3 0)), (4, .s (.osl 9 0)), (12, .s (.osl 12 0)), (13, .s (.v (.int .i64) x13)), (14, .s (.v (.int .i64) x14))] [(3, .row t_impl_piece (.pr (.int .i64) (.pr (.int .i64) (.pr (.int .i64) (.int .i64)))) xo3 0 false), (9, .row t_string .str xo9 0 false), (12, .row t_string .str xo12 0 false)]

def impl_pair_pieces_L0X1 (y13 : Int) (y14 : Int) (y15 : Bool) (yo3 : (List (Int × (Int × (Int × Int))))) (yo9 : (List ByteArray)) (yo12 : (List ByteArray)) : St := mkSt 39 [(3, .s (.osl 3 0)), (4, .s (.osl 9 0)), (12, .s (.osl 12 0)), (13, .s (.v (.int .i64) y13)), (14, .s (.v (.int .i64) y14)), (15, .s (.v .bool y15))] [(3, .row t_impl_piece (.pr (.int .i64) (.pr (.int .i64) (.pr (.int .i64) (.int .i64)))) yo3 0 false), (9, .row t_string .str yo9 0 false), (12, .row t_string .str yo12 0 false)]

theorem impl_pair_pieces_L0a_i1 (x13 : Int) (x14 : Int) (xo3 : (List (Int × (Int × (Int × Int))))) (xo9 : (List ByteArray)) (xo12 : (List ByteArray)) (dc1 : Int) (dc2 : Int)
    (h1 : x14 < x13)
    (h2 : 0 ≤ x14)
    (h3 : x14 < (List.length xo12 : Int))
    (h4 : (x14).toNat < List.length xo12)
    (h5 : SC cfg.P i_impl_placeOf [.s (.v .str (List.getD xo12 (x14).toNat (⟨#[]⟩ : ByteArray)))] (.s (.v (.int .i64) dc1)) [])
    (h6 : x14 < (List.length xo9 : Int))
    (h7 : (x14).toNat < List.length xo9)
    (h8 : SC cfg.P i_impl_placeOf [.s (.v .str (List.getD xo9 (x14).toNat (⟨#[]⟩ : ByteArray)))] (.s (.v (.int .i64) dc2)) [])
    (h9 : sizeOK (List.length xo3 + List.length ([(dc1, (dc2, ((((List.getD xo12 (x14).toNat (⟨#[]⟩ : ByteArray))).size : Int), (((List.getD xo9 (x14).toNat (⟨#[]⟩ : ByteArray))).size : Int))))] : List (Int × (Int × (Int × Int))))))
    {e : AEx} {st : St} (next : LoopSC cfg.P 1 (lb P_impl_pair_pieces 0) (impl_pair_pieces_L0a x13 (IntKind.wrap .i64 (x14 + (1 : Int))) (xo3 ++ ([(dc1, (dc2, ((((List.getD xo12 (x14).toNat (⟨#[]⟩ : ByteArray))).size : Int), (((List.getD xo9 (x14).toNat (⟨#[]⟩ : ByteArray))).size : Int))))] : List (Int × (Int × (Int × Int))))) xo9 xo12) e st) :
    LoopSC cfg.P 1 (lb P_impl_pair_pieces 0) (impl_pair_pieces_L0a x13 x14 xo3 xo9 xo12) e st :=
  loop_iter cfgOK (f := i_impl_pair_pieces) (its := [.bool true, .res (.s (.v (.int .i64) dc1)) [] [] [], .res (.s (.v (.int .i64) dc2)) [] [] []])
    (ps := [decide (x14 < x13) = true,
      0 ≤ x14,
      x14 < (List.length xo12 : Int),
      (x14).toNat < List.length xo12,
      SC cfg.P i_impl_placeOf [.s (.v .str (List.getD xo12 (x14).toNat (⟨#[]⟩ : ByteArray)))] (.s (.v (.int .i64) dc1)) [],
      0 ≤ x14,
      x14 < (List.length xo9 : Int),
      (x14).toNat < List.length xo9,
      SC cfg.P i_impl_placeOf [.s (.v .str (List.getD xo9 (x14).toNat (⟨#[]⟩ : ByteArray)))] (.s (.v (.int .i64) dc2)) [],
      0 ≤ x14,
      x14 < (List.length xo9 : Int),
      (x14).toNat < List.length xo9,
      sizeOK (List.length xo3 + List.length ([(dc1, (dc2, ((((List.getD xo12 (x14).toNat (⟨#[]⟩ : ByteArray))).size : Int), (((List.getD xo9 (x14).toNat (⟨#[]⟩ : ByteArray))).size : Int))))] : List (Int × (Int × (Int × Int)))))]) (st1 := impl_pair_pieces_L0a x13 (IntKind.wrap .i64 (x14 + (1 : Int))) (xo3 ++ ([(dc1, (dc2, ((((List.getD xo12 (x14).toNat (⟨#[]⟩ : ByteArray))).size : Int), (((List.getD xo9 (x14).toNat (⟨#[]⟩ : ByteArray))).size : Int))))] : List (Int × (Int × (Int × Int))))) xo9 xo12) (by kernel_rfl) ⟨(decide_eq_true h1), h2, h3, h4, h5, h2, h6, h7, h8, h2, h6, h7, h9, trivial⟩ next

theorem impl_pair_pieces_L0a_x2 (x13 : Int) (x14 : Int) (xo3 : (List (Int × (Int × (Int × Int))))) (xo9 : (List ByteArray)) (xo12 : (List ByteArray))
    (h1 : ¬ (x14 < x13)) :
    LoopSC cfg.P 1 (lb P_impl_pair_pieces 0) (impl_pair_pieces_L0a x13 x14 xo3 xo9 xo12) (.exit 0) (impl_pair_pieces_L0X1 x13 x14 false xo3 xo9 xo12) :=
  loop_out cfgOK (f := i_impl_pair_pieces) (its := [.bool false])
    (ps := [decide (x14 < x13) = false]) (by kernel_rfl) ⟨(decide_eq_false h1), trivial⟩ (fun h => by cases h)

theorem impl_pair_pieces_p1 (a0 : (Tr × Tr)) (c1 : (List ByteArray)) (c2 : (List ByteArray)) (k1y13 : Int) (k1y14 : Int) (k1y15 : Bool) (k1yo3 : (List (Int × (Int × (Int × Int))))) (k1yo9 : (List ByteArray)) (k1yo12 : (List ByteArray))
    (h1 : SC cfg.P i_impl_node_addresses [.s (.v .tree a0.2), .s (.v .str (⟨#[]⟩ : ByteArray))] (.s (.own t_string .str c1)) [])
    (h2 : SC cfg.P i_impl_node_addresses [.s (.v .tree a0.1), .s (.v .str (⟨#[]⟩ : ByteArray))] (.s (.own t_string .str c2)) [])
    (h3 : LoopSC cfg.P 1 (lb P_impl_pair_pieces 0) (impl_pair_pieces_L0a ((List.length c2 : Nat) : Int) (0 : Int) ([] : List (Int × (Int × (Int × Int)))) c1 c2) (.exit 0) (impl_pair_pieces_L0X1 k1y13 k1y14 k1y15 k1yo3 k1yo9 k1yo12)) :
    SC cfg.P i_impl_pair_pieces [.s (.v (.pr .tree .tree) a0)] (.s (.own t_impl_piece (.pr (.int .i64) (.pr (.int .i64) (.pr (.int .i64) (.int .i64)))) k1yo3)) [] :=
  SC_of_run cfgOK (its := [.res (.s (.own t_string .str c1)) [] [] [9], .res (.s (.own t_string .str c2)) [] [] [12], .loop (fun _ => (.exit 0, impl_pair_pieces_L0X1 k1y13 k1y14 k1y15 k1yo3 k1yo9 k1yo12))])
    (ps := [SC cfg.P i_impl_node_addresses [.s (.v .tree a0.2), .s (.v .str (⟨#[]⟩ : ByteArray))] (.s (.own t_string .str c1)) [],
      SC cfg.P i_impl_node_addresses [.s (.v .tree a0.1), .s (.v .str (⟨#[]⟩ : ByteArray))] (.s (.own t_string .str c2)) [],
      LoopSC cfg.P 1 (lb P_impl_pair_pieces 0) (impl_pair_pieces_L0a ((List.length c2 : Nat) : Int) (0 : Int) ([] : List (Int × (Int × (Int × Int)))) c1 c2) (.exit 0) (impl_pair_pieces_L0X1 k1y13 k1y14 k1y15 k1yo3 k1yo9 k1yo12)]) (by kernel_rfl) ⟨h1, h2, h3, trivial⟩ get_impl_pair_pieces (by decide)

/-! ### impl_piece_slope -/


theorem impl_piece_slope_p1 (a0 : (Int × (Int × (Int × Int))))
     :
    SC cfg.P i_impl_piece_slope [.s (.v (.pr (.int .i64) (.pr (.int .i64) (.pr (.int .i64) (.int .i64)))) a0)] (.s (.v (.int .i64) (IntKind.wrap .i64 (a0.2.2.1 - a0.2.2.2)))) [] :=
  SC_of_run cfgOK (its := [])
    (ps := []) (by kernel_rfl) trivial get_impl_piece_slope (by decide)

/-! ### impl_placeOf -/


def impl_placeOf_L0a (x0 : ByteArray) (x3 : Int) (x4 : Int) (x7 : Int) (x8 : Int) : St := mkSt 22 [(0, .s (.v .str x0)), (3, .s (.v (.int .i64) x3)), (4, .s (.v (.int .i64) x4)), (7, .s (.v (.int .i64) x7)), (8, .s (.v (.int .i64) x8))] []

def impl_placeOf_L0X1 (y0 : ByteArray) (y3 : Int) (y4 : Int) (y7 : Int) (y8 : Int) (y9 : Bool) : St := mkSt 22 [(0, .s (.v .str y0)), (3, .s (.v (.int .i64) y3)), (4, .s (.v (.int .i64) y4)), (7, .s (.v (.int .i64) y7)), (8, .s (.v (.int .i64) y8)), (9, .s (.v .bool y9))] []

theorem impl_placeOf_L0a_i1 (x0 : ByteArray) (x3 : Int) (x4 : Int) (x7 : Int) (x8 : Int)
    (h1 : x8 < x7)
    (h2 : (2 : Int) ≠ 0)
    (h3 : 0 ≤ x8)
    (h4 : x8 < ((x0).size : Int))
    (h5 : (bt x0 x8) = (49 : Int))
    {e : AEx} {st : St} (next : LoopSC cfg.P 1 (lb P_impl_placeOf 0) (impl_placeOf_L0a x0 (IntKind.wrap .i64 (x3 + (IntKind.wrap .i64 (Int.tdiv x4 (2 : Int))))) (IntKind.wrap .i64 (Int.tdiv x4 (2 : Int))) x7 (IntKind.wrap .i64 (x8 + (1 : Int)))) e st) :
    LoopSC cfg.P 1 (lb P_impl_placeOf 0) (impl_placeOf_L0a x0 x3 x4 x7 x8) e st :=
  loop_iter cfgOK (f := i_impl_placeOf) (its := [.bool true, .bool true])
    (ps := [decide (x8 < x7) = true,
      (2 : Int) ≠ 0,
      0 ≤ x8,
      x8 < ((x0).size : Int),
      ((bt x0 x8) == (49 : Int)) = true]) (st1 := impl_placeOf_L0a x0 (IntKind.wrap .i64 (x3 + (IntKind.wrap .i64 (Int.tdiv x4 (2 : Int))))) (IntKind.wrap .i64 (Int.tdiv x4 (2 : Int))) x7 (IntKind.wrap .i64 (x8 + (1 : Int)))) (by kernel_rfl) ⟨(decide_eq_true h1), h2, h3, h4, (beq_iff_eq.mpr h5), trivial⟩ next

theorem impl_placeOf_L0a_i2 (x0 : ByteArray) (x3 : Int) (x4 : Int) (x7 : Int) (x8 : Int)
    (h1 : x8 < x7)
    (h2 : (2 : Int) ≠ 0)
    (h3 : 0 ≤ x8)
    (h4 : x8 < ((x0).size : Int))
    (h5 : (bt x0 x8) ≠ (49 : Int))
    {e : AEx} {st : St} (next : LoopSC cfg.P 1 (lb P_impl_placeOf 0) (impl_placeOf_L0a x0 x3 (IntKind.wrap .i64 (Int.tdiv x4 (2 : Int))) x7 (IntKind.wrap .i64 (x8 + (1 : Int)))) e st) :
    LoopSC cfg.P 1 (lb P_impl_placeOf 0) (impl_placeOf_L0a x0 x3 x4 x7 x8) e st :=
  loop_iter cfgOK (f := i_impl_placeOf) (its := [.bool true, .bool false])
    (ps := [decide (x8 < x7) = true,
      (2 : Int) ≠ 0,
      0 ≤ x8,
      x8 < ((x0).size : Int),
      ((bt x0 x8) == (49 : Int)) = false]) (st1 := impl_placeOf_L0a x0 x3 (IntKind.wrap .i64 (Int.tdiv x4 (2 : Int))) x7 (IntKind.wrap .i64 (x8 + (1 : Int)))) (by kernel_rfl) ⟨(decide_eq_true h1), h2, h3, h4, (beq_eq_false_iff_ne.mpr h5), trivial⟩ next

theorem impl_placeOf_L0a_x3 (x0 : ByteArray) (x3 : Int) (x4 : Int) (x7 : Int) (x8 : Int)
    (h1 : ¬ (x8 < x7)) :
    LoopSC cfg.P 1 (lb P_impl_placeOf 0) (impl_placeOf_L0a x0 x3 x4 x7 x8) (.exit 0) (impl_placeOf_L0X1 x0 x3 x4 x7 x8 false) :=
  loop_out cfgOK (f := i_impl_placeOf) (its := [.bool false])
    (ps := [decide (x8 < x7) = false]) (by kernel_rfl) ⟨(decide_eq_false h1), trivial⟩ (fun h => by cases h)

theorem impl_placeOf_p1 (a0 : ByteArray) (k1y0 : ByteArray) (k1y3 : Int) (k1y4 : Int) (k1y7 : Int) (k1y8 : Int) (k1y9 : Bool)
    (h1 : LoopSC cfg.P 1 (lb P_impl_placeOf 0) (impl_placeOf_L0a a0 (0 : Int) (1099511627776 : Int) ((a0).size : Int) (0 : Int)) (.exit 0) (impl_placeOf_L0X1 k1y0 k1y3 k1y4 k1y7 k1y8 k1y9)) :
    SC cfg.P i_impl_placeOf [.s (.v .str a0)] (.s (.v (.int .i64) k1y3)) [] :=
  SC_of_run cfgOK (its := [.loop (fun _ => (.exit 0, impl_placeOf_L0X1 k1y0 k1y3 k1y4 k1y7 k1y8 k1y9))])
    (ps := [LoopSC cfg.P 1 (lb P_impl_placeOf 0) (impl_placeOf_L0a a0 (0 : Int) (1099511627776 : Int) ((a0).size : Int) (0 : Int)) (.exit 0) (impl_placeOf_L0X1 k1y0 k1y3 k1y4 k1y7 k1y8 k1y9)]) (by kernel_rfl) ⟨h1, trivial⟩ get_impl_placeOf (by decide)

end Go.AI
