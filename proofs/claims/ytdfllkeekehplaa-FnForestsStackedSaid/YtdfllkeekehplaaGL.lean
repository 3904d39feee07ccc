/- A part of the road: what it proves stands in its last texts. -/
import Derived.Test.YtdfllkeekehplaaSIds
import Derived.Test.YtdfllkeekehplaaAiI
import Derived.Test.YtdfllkeekehplaaProg
set_option autoImplicit false
set_option maxRecDepth 100000
set_option linter.unusedVariables false
namespace Go.AI
open Go.Proofs

/-! ### laws_FnForestsStacked -/


def laws_FnForestsStacked_C0a (x0 : (List Int)) (x1 : (List Int)) : St := mkSt 380 [(0, .s (.v (.sl (.int .u8)) x0)), (1, .s (.v (.sl (.int .u8)) x1))] []

def laws_FnForestsStacked_R1 (y4 : Bool) : St := mkSt 380 [(4, .s (.v .bool y4))] []

def laws_FnForestsStacked_C3a (x0 : (List Int)) (x1 : (List Int)) (x59 : Bool) : St := mkSt 380 [(0, .s (.v (.sl (.int .u8)) x0)), (1, .s (.v (.sl (.int .u8)) x1)), (59, .s (.v .bool x59))] []

def laws_FnForestsStacked_C8a (x1 : (List Int)) (x8 : Bool) (x85 : Bool) (xo62 : (List ByteArray)) (xo68 : (List ByteArray)) (xo379 : (List ByteArray)) : St := mkSt 380 [(1, .s (.v (.sl (.int .u8)) x1)), (5, .s (.osl 62 0)), (6, .s (.osl 379 0)), (7, .s (.osl 68 0)), (8, .s (.v .bool x8)), (85, .s (.v .bool x85))] [(62, .row t_string .str xo62 0 false), (68, .row t_string .str xo68 0 false), (379, .row t_string .str xo379 0 false)]

def laws_FnForestsStacked_C10a (x1 : (List Int)) (x183 : Bool) : St := mkSt 380 [(1, .s (.v (.sl (.int .u8)) x1)), (183, .s (.v .bool x183))] []

def laws_FnForestsStacked_C10b (x1 : (List Int)) (x170 : Bool) (xo21 : (ByteArray × ByteArray)) (xo23 : (ByteArray × ByteArray)) (xo25 : (ByteArray × ByteArray)) : St := mkSt 380 [(1, .s (.v (.sl (.int .u8)) x1)), (21, .s (.adr 21 none)), (23, .s (.adr 23 none)), (25, .s (.adr 25 none)), (170, .s (.v .bool x170))] [(21, .box (.pr .str .str) xo21 false), (23, .box (.pr .str .str) xo23 false), (25, .box (.pr .str .str) xo25 false)]

def laws_FnForestsStacked_C10c (x1 : (List Int)) (x86 : Bool) (xo62 : (List ByteArray)) (xo68 : (List ByteArray)) (xo379 : (List ByteArray)) : St := mkSt 380 [(1, .s (.v (.sl (.int .u8)) x1)), (5, .s (.osl 62 0)), (6, .s (.osl 379 0)), (7, .s (.osl 68 0)), (86, .s (.v .bool x86))] [(62, .row t_string .str xo62 0 false), (68, .row t_string .str xo68 0 false), (379, .row t_string .str xo379 0 false)]

def laws_FnForestsStacked_C21a (x32 : Bool) (x35 : Bool) (x36 : Bool) (x40 : Bool) (x293 : Bool) (xo186 : (List ByteArray)) (xo192 : (List ByteArray)) (xo216 : (List ByteArray)) (xo228 : (List ByteArray)) (xo379 : (List ByteArray)) : St := mkSt 380 [(29, .s (.osl 186 0)), (30, .s (.osl 379 0)), (31, .s (.osl 192 0)), (32, .s (.v .bool x32)), (35, .s (.v .bool x35)), (36, .s (.v .bool x36)), (39, .s (.osl 216 0)), (40, .s (.v .bool x40)), (43, .s (.osl 228 0)), (293, .s (.v .bool x293))] [(186, .row t_string .str xo186 0 false), (192, .row t_string .str xo192 0 false), (216, .row t_string .str xo216 0 false), (228, .row t_string .str xo228 0 false), (379, .row t_string .str xo379 0 false)]

def laws_FnForestsStacked_C21b (x32 : Bool) (x35 : Bool) (x36 : Bool) (x40 : Bool) (x293 : Bool) (xo186 : (List ByteArray)) (xo192 : (List ByteArray)) (xo216 : (List ByteArray)) (xo228 : (List ByteArray)) (xo378 : (List ByteArray)) : St := mkSt 380 [(29, .s (.osl 186 0)), (30, .s (.osl 378 0)), (31, .s (.osl 192 0)), (32, .s (.v .bool x32)), (35, .s (.v .bool x35)), (36, .s (.v .bool x36)), (39, .s (.osl 216 0)), (40, .s (.v .bool x40)), (43, .s (.osl 228 0)), (293, .s (.v .bool x293))] [(186, .row t_string .str xo186 0 false), (192, .row t_string .str xo192 0 false), (216, .row t_string .str xo216 0 false), (228, .row t_string .str xo228 0 false), (378, .row t_string .str xo378 0 false)]

def laws_FnForestsStacked_C23a (x35 : Bool) (x36 : Bool) (x40 : Bool) (x308 : Bool) (xo186 : (List ByteArray)) (xo216 : (List ByteArray)) (xo228 : (List ByteArray)) (xo379 : (List ByteArray)) : St := mkSt 380 [(29, .s (.osl 186 0)), (30, .s (.osl 379 0)), (35, .s (.v .bool x35)), (36, .s (.v .bool x36)), (39, .s (.osl 216 0)), (40, .s (.v .bool x40)), (43, .s (.osl 228 0)), (308, .s (.v .bool x308))] [(186, .row t_string .str xo186 0 false), (216, .row t_string .str xo216 0 false), (228, .row t_string .str xo228 0 false), (379, .row t_string .str xo379 0 false)]

def laws_FnForestsStacked_C23b (x35 : Bool) (x36 : Bool) (x40 : Bool) (x294 : Bool) (xo186 : (List ByteArray)) (xo192 : (List ByteArray)) (xo216 : (List ByteArray)) (xo228 : (List ByteArray)) (xo379 : (List ByteArray)) : St := mkSt 380 [(29, .s (.osl 186 0)), (30, .s (.osl 379 0)), (31, .s (.osl 192 0)), (35, .s (.v .bool x35)), (36, .s (.v .bool x36)), (39, .s (.osl 216 0)), (40, .s (.v .bool x40)), (43, .s (.osl 228 0)), (294, .s (.v .bool x294))] [(186, .row t_string .str xo186 0 false), (192, .row t_string .str xo192 0 false), (216, .row t_string .str xo216 0 false), (228, .row t_string .str xo228 0 false), (379, .row t_string .str xo379 0 false)]

def laws_FnForestsStacked_C23c (x35 : Bool) (x36 : Bool) (x40 : Bool) (x308 : Bool) (xo186 : (List ByteArray)) (xo216 : (List ByteArray)) (xo228 : (List ByteArray)) (xo378 : (List ByteArray)) : St := mkSt 380 [(29, .s (.osl 186 0)), (30, .s (.osl 378 0)), (35, .s (.v .bool x35)), (36, .s (.v .bool x36)), (39, .s (.osl 216 0)), (40, .s (.v .bool x40)), (43, .s (.osl 228 0)), (308, .s (.v .bool x308))] [(186, .row t_string .str xo186 0 false), (216, .row t_string .str xo216 0 false), (228, .row t_string .str xo228 0 false), (378, .row t_string .str xo378 0 false)]

def laws_FnForestsStacked_C23d (x35 : Bool) (x36 : Bool) (x40 : Bool) (x294 : Bool) (xo186 : (List ByteArray)) (xo192 : (List ByteArray)) (xo216 : (List ByteArray)) (xo228 : (List ByteArray)) (xo378 : (List ByteArray)) : St := mkSt 380 [(29, .s (.osl 186 0)), (30, .s (.osl 378 0)), (31, .s (.osl 192 0)), (35, .s (.v .bool x35)), (36, .s (.v .bool x36)), (39, .s (.osl 216 0)), (40, .s (.v .bool x40)), (43, .s (.osl 228 0)), (294, .s (.v .bool x294))] [(186, .row t_string .str xo186 0 false), (192, .row t_string .str xo192 0 false), (216, .row t_string .str xo216 0 false), (228, .row t_string .str xo228 0 false), (378, .row t_string .str xo378 0 false)]

def laws_FnForestsStacked_C25a (x40 : Bool) (x352 : Bool) (xo186 : (List ByteArray)) (xo216 : (List ByteArray)) (xo379 : (List ByteArray)) : St := mkSt 380 [(29, .s (.osl 186 0)), (30, .s (.osl 379 0)), (39, .s (.osl 216 0)), (40, .s (.v .bool x40)), (352, .s (.v .bool x352))] [(186, .row t_string .str xo186 0 false), (216, .row t_string .str xo216 0 false), (379, .row t_string .str xo379 0 false)]

def laws_FnForestsStacked_C25b (x35 : Bool) (x40 : Bool) (x309 : Bool) (xo186 : (List ByteArray)) (xo216 : (List ByteArray)) (xo228 : (List ByteArray)) (xo379 : (List ByteArray)) : St := mkSt 380 [(29, .s (.osl 186 0)), (30, .s (.osl 379 0)), (35, .s (.v .bool x35)), (39, .s (.osl 216 0)), (40, .s (.v .bool x40)), (43, .s (.osl 228 0)), (309, .s (.v .bool x309))] [(186, .row t_string .str xo186 0 false), (216, .row t_string .str xo216 0 false), (228, .row t_string .str xo228 0 false), (379, .row t_string .str xo379 0 false)]

def laws_FnForestsStacked_C25c (x40 : Bool) (x352 : Bool) (xo186 : (List ByteArray)) (xo216 : (List ByteArray)) (xo378 : (List ByteArray)) : St := mkSt 380 [(29, .s (.osl 186 0)), (30, .s (.osl 378 0)), (39, .s (.osl 216 0)), (40, .s (.v .bool x40)), (352, .s (.v .bool x352))] [(186, .row t_string .str xo186 0 false), (216, .row t_string .str xo216 0 false), (378, .row t_string .str xo378 0 false)]

def laws_FnForestsStacked_C25d (x35 : Bool) (x40 : Bool) (x309 : Bool) (xo186 : (List ByteArray)) (xo216 : (List ByteArray)) (xo228 : (List ByteArray)) (xo378 : (List ByteArray)) : St := mkSt 380 [(29, .s (.osl 186 0)), (30, .s (.osl 378 0)), (35, .s (.v .bool x35)), (39, .s (.osl 216 0)), (40, .s (.v .bool x40)), (43, .s (.osl 228 0)), (309, .s (.v .bool x309))] [(186, .row t_string .str xo186 0 false), (216, .row t_string .str xo216 0 false), (228, .row t_string .str xo228 0 false), (378, .row t_string .str xo378 0 false)]

def laws_FnForestsStacked_C27a (x379 : Bool) : St := mkSt 380 [(379, .s (.v .bool x379))] []

def laws_FnForestsStacked_C27b (x353 : Bool) (xo186 : (List ByteArray)) (xo216 : (List ByteArray)) (xo379 : (List ByteArray)) : St := mkSt 380 [(29, .s (.osl 186 0)), (30, .s (.osl 379 0)), (39, .s (.osl 216 0)), (353, .s (.v .bool x353))] [(186, .row t_string .str xo186 0 false), (216, .row t_string .str xo216 0 false), (379, .row t_string .str xo379 0 false)]

def laws_FnForestsStacked_C27c (x353 : Bool) (xo186 : (List ByteArray)) (xo216 : (List ByteArray)) (xo378 : (List ByteArray)) : St := mkSt 380 [(29, .s (.osl 186 0)), (30, .s (.osl 378 0)), (39, .s (.osl 216 0)), (353, .s (.v .bool x353))] [(186, .row t_string .str xo186 0 false), (216, .row t_string .str xo216 0 false), (378, .row t_string .str xo378 0 false)]

theorem laws_FnForestsStacked_C0a_x1 (x0 : (List Int)) (x1 : (List Int))
    (h1 : SC cfg.P i_laws_big [.s (.v (.sl (.int .u8)) x0), .s (.v (.sl (.int .u8)) x1)] (.s (.v .bool true)) []) :
    RestSC cfg.P 2 (rest P_laws_FnForestsStacked 0) (laws_FnForestsStacked_C0a x0 x1) .ret (laws_FnForestsStacked_R1 true) :=
  rest_ret cfgOK (f := i_laws_FnForestsStacked) (k := 0) (m := 3) (its := [.res (.s (.v .bool true)) [] [] []])
    (ps := [SC cfg.P i_laws_big [.s (.v (.sl (.int .u8)) x0), .s (.v (.sl (.int .u8)) x1)] (.s (.v .bool true)) []]) (by kernel_rfl) ⟨h1, trivial⟩

theorem laws_FnForestsStacked_C0a_i2 (x0 : (List Int)) (x1 : (List Int))
    (h1 : SC cfg.P i_laws_big [.s (.v (.sl (.int .u8)) x0), .s (.v (.sl (.int .u8)) x1)] (.s (.v .bool false)) [])
    {e : AEx} {st : St} (next : RestSC cfg.P 2 (rest P_laws_FnForestsStacked 3) (laws_FnForestsStacked_C3a x0 x1 false) e st) :
    RestSC cfg.P 2 (rest P_laws_FnForestsStacked 0) (laws_FnForestsStacked_C0a x0 x1) e st :=
  rest_next cfgOK (f := i_laws_FnForestsStacked) (k := 0) (m := 3) (its := [.res (.s (.v .bool false)) [] [] []])
    (ps := [SC cfg.P i_laws_big [.s (.v (.sl (.int .u8)) x0), .s (.v (.sl (.int .u8)) x1)] (.s (.v .bool false)) []]) (st1 := laws_FnForestsStacked_C3a x0 x1 false) (by kernel_rfl) ⟨h1, trivial⟩ next

theorem laws_FnForestsStacked_C3a_i1 (x0 : (List Int)) (x1 : (List Int)) (x59 : Bool) (dc1a : (List ByteArray)) (dc1b : (List ByteArray)) (dc2a : (List ByteArray)) (dc2b : Bool) (dc3a : (List ByteArray)) (dc3b : Bool)
    (h1 : SC cfg.P i_spec_DrawStackForests [.s (.v (.sl (.int .u8)) x0)] (.tup [.own t_string .str dc1a, .own t_string .str dc1b]) [])
    (h2 : SC cfg.P i_impl_StackForests [.s (.v (.sl .str) dc1a), .s (.v (.sl .str) dc1b)] (.tup [.own t_string .str dc2a, .v .bool dc2b]) [])
    (h3 : SC cfg.P i_spec_StackForests [.s (.v (.sl .str) dc1a), .s (.v (.sl .str) dc1b)] (.tup [.own t_string .str dc3a, .v .bool dc3b]) [])
    (h4 : (!(dc2b == dc3b)) = false)
    (h5 : SC cfg.P i_laws_nTexts [.s (.v (.sl .str) dc2a), .s (.v (.sl .str) dc3a)] (.s (.v .bool true)) [])
    {e : AEx} {st : St} (next : RestSC cfg.P 2 (rest P_laws_FnForestsStacked 8) (laws_FnForestsStacked_C8a x1 dc2b false dc1a dc2a dc1b) e st) :
    RestSC cfg.P 2 (rest P_laws_FnForestsStacked 3) (laws_FnForestsStacked_C3a x0 x1 x59) e st :=
  rest_next cfgOK (f := i_laws_FnForestsStacked) (k := 3) (m := 5) (its := [.res (.tup [.own t_string .str dc1a, .own t_string .str dc1b]) [] [] [62, 379], .res (.tup [.own t_string .str dc2a, .v .bool dc2b]) [] [] [68], .res (.tup [.own t_string .str dc3a, .v .bool dc3b]) [] [] [74], .bool false, .res (.s (.v .bool true)) [] [] []])
    (ps := [SC cfg.P i_spec_DrawStackForests [.s (.v (.sl (.int .u8)) x0)] (.tup [.own t_string .str dc1a, .own t_string .str dc1b]) [],
      SC cfg.P i_impl_StackForests [.s (.v (.sl .str) dc1a), .s (.v (.sl .str) dc1b)] (.tup [.own t_string .str dc2a, .v .bool dc2b]) [],
      SC cfg.P i_spec_StackForests [.s (.v (.sl .str) dc1a), .s (.v (.sl .str) dc1b)] (.tup [.own t_string .str dc3a, .v .bool dc3b]) [],
      (!(dc2b == dc3b)) = false,
      SC cfg.P i_laws_nTexts [.s (.v (.sl .str) dc2a), .s (.v (.sl .str) dc3a)] (.s (.v .bool true)) []]) (st1 := laws_FnForestsStacked_C8a x1 dc2b false dc1a dc2a dc1b) (by kernel_rfl) ⟨h1, h2, h3, h4, h5, trivial⟩ next

theorem laws_FnForestsStacked_C8a_i1 (x1 : (List Int)) (x85 : Bool) (xo62 : (List ByteArray)) (xo68 : (List ByteArray)) (xo379 : (List ByteArray)) (dc1a : Int) (dc2a : Int) (dc3a : Int) (dc5a : (List ByteArray)) (dc6a : (ByteArray × ByteArray)) (dc7a : (ByteArray × ByteArray)) (dc8a : (ByteArray × ByteArray)) (dc10a : (ByteArray × ByteArray))
    (h1 : SC cfg.P i_impl_CountForestCarets [.s (.v (.sl .str) xo62)] (.tup [.v (.int .i64) dc1a, .v .bool true]) [])
    (h2 : SC cfg.P i_impl_CountForestCarets [.s (.v (.sl .str) xo379)] (.tup [.v (.int .i64) dc2a, .v .bool true]) [])
    (h3 : SC cfg.P i_impl_CountForestCarets [.s (.v (.sl .str) xo68)] (.tup [.v (.int .i64) dc3a, .v .bool true]) [])
    (h4 : SC cfg.P i_impl_IsPartOfForest [.s (.v (.sl .str) xo62), .s (.v (.sl .str) xo68)] (.tup [.v .bool true, .v .bool true]) [])
    (h5 : SC cfg.P i_impl_LeftQuotient [.s (.v (.sl .str) xo62), .s (.v (.sl .str) xo68)] (.tup [.own t_string .str dc5a, .v .bool true]) [])
    (h6 : SC cfg.P i_impl_PairOfForest [.s (.v (.sl .str) xo62)] (.tup [.v (.pr .str .str) dc6a, .v .bool true]) [])
    (h7 : SC cfg.P i_impl_PairOfForest [.s (.v (.sl .str) xo379)] (.tup [.v (.pr .str .str) dc7a, .v .bool true]) [])
    (h8 : SC cfg.P i_impl_PairOfForest [.s (.v (.sl .str) xo68)] (.tup [.v (.pr .str .str) dc8a, .v .bool true]) [])
    (h9 : dc3a = (IntKind.wrap .i64 (dc1a + dc2a)))
    (h10 : SC cfg.P i_laws_nTexts [.s (.v (.sl .str) dc5a), .s (.v (.sl .str) xo379)] (.s (.v .bool true)) [])
    (h11 : SC cfg.P i_impl_ProductPair [.s (.v (.pr .str .str) dc6a), .s (.v (.pr .str .str) dc7a)] (.tup [.v (.pr .str .str) dc10a, .v .bool true]) [])
    (h12 : (!(((dc10a.1).toList == (dc8a.1).toList) && ((dc10a.2).toList == (dc8a.2).toList))) = false)
    {e : AEx} {st : St} (next : RestSC cfg.P 2 (rest P_laws_FnForestsStacked 10) (laws_FnForestsStacked_C10a x1 false) e st) :
    RestSC cfg.P 2 (rest P_laws_FnForestsStacked 8) (laws_FnForestsStacked_C8a x1 true x85 xo62 xo68 xo379) e st :=
  rest_next cfgOK (f := i_laws_FnForestsStacked) (k := 8) (m := 2) (its := [.res (.tup [.v (.int .i64) dc1a, .v .bool true]) [] [] [], .res (.tup [.v (.int .i64) dc2a, .v .bool true]) [] [] [], .res (.tup [.v (.int .i64) dc3a, .v .bool true]) [] [] [], .res (.tup [.v .bool true, .v .bool true]) [] [] [], .res (.tup [.own t_string .str dc5a, .v .bool true]) [] [] [111], .res (.tup [.v (.pr .str .str) dc6a, .v .bool true]) [] [] [], .res (.tup [.v (.pr .str .str) dc7a, .v .bool true]) [] [] [], .res (.tup [.v (.pr .str .str) dc8a, .v .bool true]) [] [] [], .bool false, .res (.s (.v .bool true)) [] [] [], .res (.tup [.v (.pr .str .str) dc10a, .v .bool true]) [] [] [], .bool false])
    (ps := [SC cfg.P i_impl_CountForestCarets [.s (.v (.sl .str) xo62)] (.tup [.v (.int .i64) dc1a, .v .bool true]) [],
      SC cfg.P i_impl_CountForestCarets [.s (.v (.sl .str) xo379)] (.tup [.v (.int .i64) dc2a, .v .bool true]) [],
      SC cfg.P i_impl_CountForestCarets [.s (.v (.sl .str) xo68)] (.tup [.v (.int .i64) dc3a, .v .bool true]) [],
      SC cfg.P i_impl_IsPartOfForest [.s (.v (.sl .str) xo62), .s (.v (.sl .str) xo68)] (.tup [.v .bool true, .v .bool true]) [],
      SC cfg.P i_impl_LeftQuotient [.s (.v (.sl .str) xo62), .s (.v (.sl .str) xo68)] (.tup [.own t_string .str dc5a, .v .bool true]) [],
      SC cfg.P i_impl_PairOfForest [.s (.v (.sl .str) xo62)] (.tup [.v (.pr .str .str) dc6a, .v .bool true]) [],
      SC cfg.P i_impl_PairOfForest [.s (.v (.sl .str) xo379)] (.tup [.v (.pr .str .str) dc7a, .v .bool true]) [],
      SC cfg.P i_impl_PairOfForest [.s (.v (.sl .str) xo68)] (.tup [.v (.pr .str .str) dc8a, .v .bool true]) [],
      (dc3a != (IntKind.wrap .i64 (dc1a + dc2a))) = false,
      SC cfg.P i_laws_nTexts [.s (.v (.sl .str) dc5a), .s (.v (.sl .str) xo379)] (.s (.v .bool true)) [],
      SC cfg.P i_impl_ProductPair [.s (.v (.pr .str .str) dc6a), .s (.v (.pr .str .str) dc7a)] (.tup [.v (.pr .str .str) dc10a, .v .bool true]) [],
      (!(((dc10a.1).toList == (dc8a.1).toList) && ((dc10a.2).toList == (dc8a.2).toList))) = false]) (st1 := laws_FnForestsStacked_C10a x1 false) (by kernel_rfl) ⟨h1, h2, h3, h4, h5, h6, h7, h8, (bne_eq_false_iff_eq.mpr h9), h10, h11, h12, trivial⟩ next

theorem laws_FnForestsStacked_C8a_i2 (x1 : (List Int)) (x85 : Bool) (xo62 : (List ByteArray)) (xo68 : (List ByteArray)) (xo379 : (List ByteArray)) (dc1a : Int) (dc2a : Int) (dc3a : Int) (dc5a : (List ByteArray)) (dc6a : (ByteArray × ByteArray)) (dc7a : (ByteArray × ByteArray)) (dc8a : (ByteArray × ByteArray))
    (h1 : SC cfg.P i_impl_CountForestCarets [.s (.v (.sl .str) xo62)] (.tup [.v (.int .i64) dc1a, .v .bool true]) [])
    (h2 : SC cfg.P i_impl_CountForestCarets [.s (.v (.sl .str) xo379)] (.tup [.v (.int .i64) dc2a, .v .bool true]) [])
    (h3 : SC cfg.P i_impl_CountForestCarets [.s (.v (.sl .str) xo68)] (.tup [.v (.int .i64) dc3a, .v .bool true]) [])
    (h4 : SC cfg.P i_impl_IsPartOfForest [.s (.v (.sl .str) xo62), .s (.v (.sl .str) xo68)] (.tup [.v .bool true, .v .bool true]) [])
    (h5 : SC cfg.P i_impl_LeftQuotient [.s (.v (.sl .str) xo62), .s (.v (.sl .str) xo68)] (.tup [.own t_string .str dc5a, .v .bool true]) [])
    (h6 : SC cfg.P i_impl_PairOfForest [.s (.v (.sl .str) xo62)] (.tup [.v (.pr .str .str) dc6a, .v .bool true]) [])
    (h7 : SC cfg.P i_impl_PairOfForest [.s (.v (.sl .str) xo379)] (.tup [.v (.pr .str .str) dc7a, .v .bool true]) [])
    (h8 : SC cfg.P i_impl_PairOfForest [.s (.v (.sl .str) xo68)] (.tup [.v (.pr .str .str) dc8a, .v .bool false]) [])
    (h9 : dc3a = (IntKind.wrap .i64 (dc1a + dc2a)))
    (h10 : SC cfg.P i_laws_nTexts [.s (.v (.sl .str) dc5a), .s (.v (.sl .str) xo379)] (.s (.v .bool true)) [])
    {e : AEx} {st : St} (next : RestSC cfg.P 2 (rest P_laws_FnForestsStacked 10) (laws_FnForestsStacked_C10b x1 false dc6a dc7a dc8a) e st) :
    RestSC cfg.P 2 (rest P_laws_FnForestsStacked 8) (laws_FnForestsStacked_C8a x1 true x85 xo62 xo68 xo379) e st :=
  rest_next cfgOK (f := i_laws_FnForestsStacked) (k := 8) (m := 2) (its := [.res (.tup [.v (.int .i64) dc1a, .v .bool true]) [] [] [], .res (.tup [.v (.int .i64) dc2a, .v .bool true]) [] [] [], .res (.tup [.v (.int .i64) dc3a, .v .bool true]) [] [] [], .res (.tup [.v .bool true, .v .bool true]) [] [] [], .res (.tup [.own t_string .str dc5a, .v .bool true]) [] [] [111], .res (.tup [.v (.pr .str .str) dc6a, .v .bool true]) [] [] [], .res (.tup [.v (.pr .str .str) dc7a, .v .bool true]) [] [] [], .res (.tup [.v (.pr .str .str) dc8a, .v .bool false]) [] [] [], .bool false, .res (.s (.v .bool true)) [] [] []])
    (ps := [SC cfg.P i_impl_CountForestCarets [.s (.v (.sl .str) xo62)] (.tup [.v (.int .i64) dc1a, .v .bool true]) [],
      SC cfg.P i_impl_CountForestCarets [.s (.v (.sl .str) xo379)] (.tup [.v (.int .i64) dc2a, .v .bool true]) [],
      SC cfg.P i_impl_CountForestCarets [.s (.v (.sl .str) xo68)] (.tup [.v (.int .i64) dc3a, .v .bool true]) [],
      SC cfg.P i_impl_IsPartOfForest [.s (.v (.sl .str) xo62), .s (.v (.sl .str) xo68)] (.tup [.v .bool true, .v .bool true]) [],
      SC cfg.P i_impl_LeftQuotient [.s (.v (.sl .str) xo62), .s (.v (.sl .str) xo68)] (.tup [.own t_string .str dc5a, .v .bool true]) [],
      SC cfg.P i_impl_PairOfForest [.s (.v (.sl .str) xo62)] (.tup [.v (.pr .str .str) dc6a, .v .bool true]) [],
      SC cfg.P i_impl_PairOfForest [.s (.v (.sl .str) xo379)] (.tup [.v (.pr .str .str) dc7a, .v .bool true]) [],
      SC cfg.P i_impl_PairOfForest [.s (.v (.sl .str) xo68)] (.tup [.v (.pr .str .str) dc8a, .v .bool false]) [],
      (dc3a != (IntKind.wrap .i64 (dc1a + dc2a))) = false,
      SC cfg.P i_laws_nTexts [.s (.v (.sl .str) dc5a), .s (.v (.sl .str) xo379)] (.s (.v .bool true)) []]) (st1 := laws_FnForestsStacked_C10b x1 false dc6a dc7a dc8a) (by kernel_rfl) ⟨h1, h2, h3, h4, h5, h6, h7, h8, (bne_eq_false_iff_eq.mpr h9), h10, trivial⟩ next

theorem laws_FnForestsStacked_C8a_i3 (x1 : (List Int)) (x85 : Bool) (xo62 : (List ByteArray)) (xo68 : (List ByteArray)) (xo379 : (List ByteArray)) (dc1a : Int) (dc2a : Int) (dc3a : Int) (dc5a : (List ByteArray)) (dc6a : (ByteArray × ByteArray)) (dc7a : (ByteArray × ByteArray)) (dc8a : (ByteArray × ByteArray)) (dc8b : Bool)
    (h1 : SC cfg.P i_impl_CountForestCarets [.s (.v (.sl .str) xo62)] (.tup [.v (.int .i64) dc1a, .v .bool true]) [])
    (h2 : SC cfg.P i_impl_CountForestCarets [.s (.v (.sl .str) xo379)] (.tup [.v (.int .i64) dc2a, .v .bool true]) [])
    (h3 : SC cfg.P i_impl_CountForestCarets [.s (.v (.sl .str) xo68)] (.tup [.v (.int .i64) dc3a, .v .bool true]) [])
    (h4 : SC cfg.P i_impl_IsPartOfForest [.s (.v (.sl .str) xo62), .s (.v (.sl .str) xo68)] (.tup [.v .bool true, .v .bool true]) [])
    (h5 : SC cfg.P i_impl_LeftQuotient [.s (.v (.sl .str) xo62), .s (.v (.sl .str) xo68)] (.tup [.own t_string .str dc5a, .v .bool true]) [])
    (h6 : SC cfg.P i_impl_PairOfForest [.s (.v (.sl .str) xo62)] (.tup [.v (.pr .str .str) dc6a, .v .bool true]) [])
    (h7 : SC cfg.P i_impl_PairOfForest [.s (.v (.sl .str) xo379)] (.tup [.v (.pr .str .str) dc7a, .v .bool false]) [])
    (h8 : SC cfg.P i_impl_PairOfForest [.s (.v (.sl .str) xo68)] (.tup [.v (.pr .str .str) dc8a, .v .bool dc8b]) [])
    (h9 : dc3a = (IntKind.wrap .i64 (dc1a + dc2a)))
    (h10 : SC cfg.P i_laws_nTexts [.s (.v (.sl .str) dc5a), .s (.v (.sl .str) xo379)] (.s (.v .bool true)) [])
    {e : AEx} {st : St} (next : RestSC cfg.P 2 (rest P_laws_FnForestsStacked 10) (laws_FnForestsStacked_C10b x1 false dc6a dc7a dc8a) e st) :
    RestSC cfg.P 2 (rest P_laws_FnForestsStacked 8) (laws_FnForestsStacked_C8a x1 true x85 xo62 xo68 xo379) e st :=
  rest_next cfgOK (f := i_laws_FnForestsStacked) (k := 8) (m := 2) (its := [.res (.tup [.v (.int .i64) dc1a, .v .bool true]) [] [] [], .res (.tup [.v (.int .i64) dc2a, .v .bool true]) [] [] [], .res (.tup [.v (.int .i64) dc3a, .v .bool true]) [] [] [], .res (.tup [.v .bool true, .v .bool true]) [] [] [], .res (.tup [.own t_string .str dc5a, .v .bool true]) [] [] [111], .res (.tup [.v (.pr .str .str) dc6a, .v .bool true]) [] [] [], .res (.tup [.v (.pr .str .str) dc7a, .v .bool false]) [] [] [], .res (.tup [.v (.pr .str .str) dc8a, .v .bool dc8b]) [] [] [], .bool false, .res (.s (.v .bool true)) [] [] []])
    (ps := [SC cfg.P i_impl_CountForestCarets [.s (.v (.sl .str) xo62)] (.tup [.v (.int .i64) dc1a, .v .bool true]) [],
      SC cfg.P i_impl_CountForestCarets [.s (.v (.sl .str) xo379)] (.tup [.v (.int .i64) dc2a, .v .bool true]) [],
      SC cfg.P i_impl_CountForestCarets [.s (.v (.sl .str) xo68)] (.tup [.v (.int .i64) dc3a, .v .bool true]) [],
      SC cfg.P i_impl_IsPartOfForest [.s (.v (.sl .str) xo62), .s (.v (.sl .str) xo68)] (.tup [.v .bool true, .v .bool true]) [],
      SC cfg.P i_impl_LeftQuotient [.s (.v (.sl .str) xo62), .s (.v (.sl .str) xo68)] (.tup [.own t_string .str dc5a, .v .bool true]) [],
      SC cfg.P i_impl_PairOfForest [.s (.v (.sl .str) xo62)] (.tup [.v (.pr .str .str) dc6a, .v .bool true]) [],
      SC cfg.P i_impl_PairOfForest [.s (.v (.sl .str) xo379)] (.tup [.v (.pr .str .str) dc7a, .v .bool false]) [],
      SC cfg.P i_impl_PairOfForest [.s (.v (.sl .str) xo68)] (.tup [.v (.pr .str .str) dc8a, .v .bool dc8b]) [],
      (dc3a != (IntKind.wrap .i64 (dc1a + dc2a))) = false,
      SC cfg.P i_laws_nTexts [.s (.v (.sl .str) dc5a), .s (.v (.sl .str) xo379)] (.s (.v .bool true)) []]) (st1 := laws_FnForestsStacked_C10b x1 false dc6a dc7a dc8a) (by kernel_rfl) ⟨h1, h2, h3, h4, h5, h6, h7, h8, (bne_eq_false_iff_eq.mpr h9), h10, trivial⟩ next

theorem laws_FnForestsStacked_C8a_i4 (x1 : (List Int)) (x85 : Bool) (xo62 : (List ByteArray)) (xo68 : (List ByteArray)) (xo379 : (List ByteArray)) (dc1a : Int) (dc2a : Int) (dc3a : Int) (dc5a : (List ByteArray)) (dc6a : (ByteArray × ByteArray)) (dc7a : (ByteArray × ByteArray)) (dc7b : Bool) (dc8a : (ByteArray × ByteArray)) (dc8b : Bool)
    (h1 : SC cfg.P i_impl_CountForestCarets [.s (.v (.sl .str) xo62)] (.tup [.v (.int .i64) dc1a, .v .bool true]) [])
    (h2 : SC cfg.P i_impl_CountForestCarets [.s (.v (.sl .str) xo379)] (.tup [.v (.int .i64) dc2a, .v .bool true]) [])
    (h3 : SC cfg.P i_impl_CountForestCarets [.s (.v (.sl .str) xo68)] (.tup [.v (.int .i64) dc3a, .v .bool true]) [])
    (h4 : SC cfg.P i_impl_IsPartOfForest [.s (.v (.sl .str) xo62), .s (.v (.sl .str) xo68)] (.tup [.v .bool true, .v .bool true]) [])
    (h5 : SC cfg.P i_impl_LeftQuotient [.s (.v (.sl .str) xo62), .s (.v (.sl .str) xo68)] (.tup [.own t_string .str dc5a, .v .bool true]) [])
    (h6 : SC cfg.P i_impl_PairOfForest [.s (.v (.sl .str) xo62)] (.tup [.v (.pr .str .str) dc6a, .v .bool false]) [])
    (h7 : SC cfg.P i_impl_PairOfForest [.s (.v (.sl .str) xo379)] (.tup [.v (.pr .str .str) dc7a, .v .bool dc7b]) [])
    (h8 : SC cfg.P i_impl_PairOfForest [.s (.v (.sl .str) xo68)] (.tup [.v (.pr .str .str) dc8a, .v .bool dc8b]) [])
    (h9 : dc3a = (IntKind.wrap .i64 (dc1a + dc2a)))
    (h10 : SC cfg.P i_laws_nTexts [.s (.v (.sl .str) dc5a), .s (.v (.sl .str) xo379)] (.s (.v .bool true)) [])
    {e : AEx} {st : St} (next : RestSC cfg.P 2 (rest P_laws_FnForestsStacked 10) (laws_FnForestsStacked_C10b x1 false dc6a dc7a dc8a) e st) :
    RestSC cfg.P 2 (rest P_laws_FnForestsStacked 8) (laws_FnForestsStacked_C8a x1 true x85 xo62 xo68 xo379) e st :=
  rest_next cfgOK (f := i_laws_FnForestsStacked) (k := 8) (m := 2) (its := [.res (.tup [.v (.int .i64) dc1a, .v .bool true]) [] [] [], .res (.tup [.v (.int .i64) dc2a, .v .bool true]) [] [] [], .res (.tup [.v (.int .i64) dc3a, .v .bool true]) [] [] [], .res (.tup [.v .bool true, .v .bool true]) [] [] [], .res (.tup [.own t_string .str dc5a, .v .bool true]) [] [] [111], .res (.tup [.v (.pr .str .str) dc6a, .v .bool false]) [] [] [], .res (.tup [.v (.pr .str .str) dc7a, .v .bool dc7b]) [] [] [], .res (.tup [.v (.pr .str .str) dc8a, .v .bool dc8b]) [] [] [], .bool false, .res (.s (.v .bool true)) [] [] []])
    (ps := [SC cfg.P i_impl_CountForestCarets [.s (.v (.sl .str) xo62)] (.tup [.v (.int .i64) dc1a, .v .bool true]) [],
      SC cfg.P i_impl_CountForestCarets [.s (.v (.sl .str) xo379)] (.tup [.v (.int .i64) dc2a, .v .bool true]) [],
      SC cfg.P i_impl_CountForestCarets [.s (.v (.sl .str) xo68)] (.tup [.v (.int .i64) dc3a, .v .bool true]) [],
      SC cfg.P i_impl_IsPartOfForest [.s (.v (.sl .str) xo62), .s (.v (.sl .str) xo68)] (.tup [.v .bool true, .v .bool true]) [],
      SC cfg.P i_impl_LeftQuotient [.s (.v (.sl .str) xo62), .s (.v (.sl .str) xo68)] (.tup [.own t_string .str dc5a, .v .bool true]) [],
      SC cfg.P i_impl_PairOfForest [.s (.v (.sl .str) xo62)] (.tup [.v (.pr .str .str) dc6a, .v .bool false]) [],
      SC cfg.P i_impl_PairOfForest [.s (.v (.sl .str) xo379)] (.tup [.v (.pr .str .str) dc7a, .v .bool dc7b]) [],
      SC cfg.P i_impl_PairOfForest [.s (.v (.sl .str) xo68)] (.tup [.v (.pr .str .str) dc8a, .v .bool dc8b]) [],
      (dc3a != (IntKind.wrap .i64 (dc1a + dc2a))) = false,
      SC cfg.P i_laws_nTexts [.s (.v (.sl .str) dc5a), .s (.v (.sl .str) xo379)] (.s (.v .bool true)) []]) (st1 := laws_FnForestsStacked_C10b x1 false dc6a dc7a dc8a) (by kernel_rfl) ⟨h1, h2, h3, h4, h5, h6, h7, h8, (bne_eq_false_iff_eq.mpr h9), h10, trivial⟩ next

theorem laws_FnForestsStacked_C8a_i5 (x1 : (List Int)) (x85 : Bool) (xo62 : (List ByteArray)) (xo68 : (List ByteArray)) (xo379 : (List ByteArray))
    {e : AEx} {st : St} (next : RestSC cfg.P 2 (rest P_laws_FnForestsStacked 10) (laws_FnForestsStacked_C10c x1 false xo62 xo68 xo379) e st) :
    RestSC cfg.P 2 (rest P_laws_FnForestsStacked 8) (laws_FnForestsStacked_C8a x1 false x85 xo62 xo68 xo379) e st :=
  rest_next cfgOK (f := i_laws_FnForestsStacked) (k := 8) (m := 2) (its := [])
    (ps := []) (st1 := laws_FnForestsStacked_C10c x1 false xo62 xo68 xo379) (by kernel_rfl) trivial next

theorem laws_FnForestsStacked_C10a_i1 (x1 : (List Int)) (x183 : Bool) (dc1a : (List ByteArray)) (dc1b : (List ByteArray)) (dc2a : (List ByteArray)) (dc3a : (List ByteArray)) (dc3b : Bool) (dc5a : Bool) (dc5b : Bool) (dc6a : (List ByteArray)) (dc6b : Bool) (dc7a : (List ByteArray)) (dc7b : Bool) (dc8a : (List ByteArray)) (dc8b : Bool) (dc9a : (List ByteArray)) (dc9b : Bool)
    (h1 : SC cfg.P i_spec_DrawLeftQuotient [.s (.v (.sl (.int .u8)) x1)] (.tup [.own t_string .str dc1a, .own t_string .str dc1b]) [])
    (h2 : SC cfg.P i_impl_LeftQuotient [.s (.v (.sl .str) dc1a), .s (.v (.sl .str) dc1b)] (.tup [.own t_string .str dc2a, .v .bool true]) [])
    (h3 : SC cfg.P i_spec_LeftQuotient [.s (.v (.sl .str) dc1a), .s (.v (.sl .str) dc1b)] (.tup [.own t_string .str dc3a, .v .bool dc3b]) [])
    (h4 : SC cfg.P i_impl_IsPartOfForest [.s (.v (.sl .str) dc1a), .s (.v (.sl .str) dc1b)] (.tup [.v .bool true, .v .bool true]) [])
    (h5 : SC cfg.P i_spec_IsPartOfForest [.s (.v (.sl .str) dc1a), .s (.v (.sl .str) dc1b)] (.tup [.v .bool dc5a, .v .bool dc5b]) [])
    (h6 : SC cfg.P i_impl_JoinForests [.s (.v (.sl .str) dc1a), .s (.v (.sl .str) dc1b)] (.tup [.own t_string .str dc6a, .v .bool dc6b]) [])
    (h7 : SC cfg.P i_spec_JoinForests [.s (.v (.sl .str) dc1a), .s (.v (.sl .str) dc1b)] (.tup [.own t_string .str dc7a, .v .bool dc7b]) [])
    (h8 : SC cfg.P i_impl_CommonForest [.s (.v (.sl .str) dc1a), .s (.v (.sl .str) dc1b)] (.tup [.own t_string .str dc8a, .v .bool dc8b]) [])
    (h9 : SC cfg.P i_spec_CommonForest [.s (.v (.sl .str) dc1a), .s (.v (.sl .str) dc1b)] (.tup [.own t_string .str dc9a, .v .bool dc9b]) [])
    (h10 : (!(true == dc3b)) = false)
    (h11 : SC cfg.P i_laws_nTexts [.s (.v (.sl .str) dc2a), .s (.v (.sl .str) dc3a)] (.s (.v .bool true)) [])
    (h12 : (!(true == dc5b)) = false)
    (h13 : (!(true == dc5a)) = false)
    (h14 : (!(dc6b == dc7b)) = false)
    (h15 : SC cfg.P i_laws_nTexts [.s (.v (.sl .str) dc6a), .s (.v (.sl .str) dc7a)] (.s (.v .bool true)) [])
    (h16 : (!(dc8b == dc9b)) = false)
    (h17 : SC cfg.P i_laws_nTexts [.s (.v (.sl .str) dc8a), .s (.v (.sl .str) dc9a)] (.s (.v .bool true)) [])
    (h18 : (!(dc8b == true)) = false)
    {e : AEx} {st : St} (next : RestSC cfg.P 2 (rest P_laws_FnForestsStacked 21) (laws_FnForestsStacked_C21a true true true dc6b false dc1a dc2a dc6a dc8a dc1b) e st) :
    RestSC cfg.P 2 (rest P_laws_FnForestsStacked 10) (laws_FnForestsStacked_C10a x1 x183) e st :=
  rest_next cfgOK (f := i_laws_FnForestsStacked) (k := 10) (m := 11) (its := [.res (.tup [.own t_string .str dc1a, .own t_string .str dc1b]) [] [] [186, 379], .res (.tup [.own t_string .str dc2a, .v .bool true]) [] [] [192], .res (.tup [.own t_string .str dc3a, .v .bool dc3b]) [] [] [198], .res (.tup [.v .bool true, .v .bool true]) [] [] [], .res (.tup [.v .bool dc5a, .v .bool dc5b]) [] [] [], .res (.tup [.own t_string .str dc6a, .v .bool dc6b]) [] [] [216], .res (.tup [.own t_string .str dc7a, .v .bool dc7b]) [] [] [222], .res (.tup [.own t_string .str dc8a, .v .bool dc8b]) [] [] [228], .res (.tup [.own t_string .str dc9a, .v .bool dc9b]) [] [] [234], .bool false, .res (.s (.v .bool true)) [] [] [], .bool false, .bool false, .bool false, .res (.s (.v .bool true)) [] [] [], .bool false, .res (.s (.v .bool true)) [] [] [], .bool false])
    (ps := [SC cfg.P i_spec_DrawLeftQuotient [.s (.v (.sl (.int .u8)) x1)] (.tup [.own t_string .str dc1a, .own t_string .str dc1b]) [],
      SC cfg.P i_impl_LeftQuotient [.s (.v (.sl .str) dc1a), .s (.v (.sl .str) dc1b)] (.tup [.own t_string .str dc2a, .v .bool true]) [],
      SC cfg.P i_spec_LeftQuotient [.s (.v (.sl .str) dc1a), .s (.v (.sl .str) dc1b)] (.tup [.own t_string .str dc3a, .v .bool dc3b]) [],
      SC cfg.P i_impl_IsPartOfForest [.s (.v (.sl .str) dc1a), .s (.v (.sl .str) dc1b)] (.tup [.v .bool true, .v .bool true]) [],
      SC cfg.P i_spec_IsPartOfForest [.s (.v (.sl .str) dc1a), .s (.v (.sl .str) dc1b)] (.tup [.v .bool dc5a, .v .bool dc5b]) [],
      SC cfg.P i_impl_JoinForests [.s (.v (.sl .str) dc1a), .s (.v (.sl .str) dc1b)] (.tup [.own t_string .str dc6a, .v .bool dc6b]) [],
      SC cfg.P i_spec_JoinForests [.s (.v (.sl .str) dc1a), .s (.v (.sl .str) dc1b)] (.tup [.own t_string .str dc7a, .v .bool dc7b]) [],
      SC cfg.P i_impl_CommonForest [.s (.v (.sl .str) dc1a), .s (.v (.sl .str) dc1b)] (.tup [.own t_string .str dc8a, .v .bool dc8b]) [],
      SC cfg.P i_spec_CommonForest [.s (.v (.sl .str) dc1a), .s (.v (.sl .str) dc1b)] (.tup [.own t_string .str dc9a, .v .bool dc9b]) [],
      (!(true == dc3b)) = false,
      SC cfg.P i_laws_nTexts [.s (.v (.sl .str) dc2a), .s (.v (.sl .str) dc3a)] (.s (.v .bool true)) [],
      (!(true == dc5b)) = false,
      (!(true == dc5a)) = false,
      (!(dc6b == dc7b)) = false,
      SC cfg.P i_laws_nTexts [.s (.v (.sl .str) dc6a), .s (.v (.sl .str) dc7a)] (.s (.v .bool true)) [],
      (!(dc8b == dc9b)) = false,
      SC cfg.P i_laws_nTexts [.s (.v (.sl .str) dc8a), .s (.v (.sl .str) dc9a)] (.s (.v .bool true)) [],
      (!(dc8b == true)) = false]) (st1 := laws_FnForestsStacked_C21a true true true dc6b false dc1a dc2a dc6a dc8a dc1b) (by kernel_rfl) ⟨h1, h2, h3, h4, h5, h6, h7, h8, h9, h10, h11, h12, h13, h14, h15, h16, h17, h18, trivial⟩ next

theorem laws_FnForestsStacked_C10a_i2 (x1 : (List Int)) (x183 : Bool) (dc1a : (List ByteArray)) (dc1b : (List ByteArray)) (dc2a : (List ByteArray)) (dc3a : (List ByteArray)) (dc3b : Bool) (dc4a : Bool) (dc4b : Bool) (dc5a : Bool) (dc5b : Bool) (dc6a : (List ByteArray)) (dc6b : Bool) (dc7a : (List ByteArray)) (dc7b : Bool) (dc8a : (List ByteArray)) (dc8b : Bool) (dc9a : (List ByteArray)) (dc9b : Bool)
    (h1 : SC cfg.P i_spec_DrawLeftQuotient [.s (.v (.sl (.int .u8)) x1)] (.tup [.own t_string .str dc1a, .own t_string .str dc1b]) [])
    (h2 : SC cfg.P i_impl_LeftQuotient [.s (.v (.sl .str) dc1a), .s (.v (.sl .str) dc1b)] (.tup [.own t_string .str dc2a, .v .bool false]) [])
    (h3 : SC cfg.P i_spec_LeftQuotient [.s (.v (.sl .str) dc1a), .s (.v (.sl .str) dc1b)] (.tup [.own t_string .str dc3a, .v .bool dc3b]) [])
    (h4 : SC cfg.P i_impl_IsPartOfForest [.s (.v (.sl .str) dc1a), .s (.v (.sl .str) dc1b)] (.tup [.v .bool dc4a, .v .bool dc4b]) [])
    (h5 : SC cfg.P i_spec_IsPartOfForest [.s (.v (.sl .str) dc1a), .s (.v (.sl .str) dc1b)] (.tup [.v .bool dc5a, .v .bool dc5b]) [])
    (h6 : SC cfg.P i_impl_JoinForests [.s (.v (.sl .str) dc1a), .s (.v (.sl .str) dc1b)] (.tup [.own t_string .str dc6a, .v .bool dc6b]) [])
    (h7 : SC cfg.P i_spec_JoinForests [.s (.v (.sl .str) dc1a), .s (.v (.sl .str) dc1b)] (.tup [.own t_string .str dc7a, .v .bool dc7b]) [])
    (h8 : SC cfg.P i_impl_CommonForest [.s (.v (.sl .str) dc1a), .s (.v (.sl .str) dc1b)] (.tup [.own t_string .str dc8a, .v .bool dc8b]) [])
    (h9 : SC cfg.P i_spec_CommonForest [.s (.v (.sl .str) dc1a), .s (.v (.sl .str) dc1b)] (.tup [.own t_string .str dc9a, .v .bool dc9b]) [])
    (h10 : (!(false == dc3b)) = false)
    (h11 : SC cfg.P i_laws_nTexts [.s (.v (.sl .str) dc2a), .s (.v (.sl .str) dc3a)] (.s (.v .bool true)) [])
    (h12 : (!(dc4b == dc5b)) = false)
    (h13 : (!(dc4a == dc5a)) = false)
    (h14 : (!(dc6b == dc7b)) = false)
    (h15 : SC cfg.P i_laws_nTexts [.s (.v (.sl .str) dc6a), .s (.v (.sl .str) dc7a)] (.s (.v .bool true)) [])
    (h16 : (!(dc8b == dc9b)) = false)
    (h17 : SC cfg.P i_laws_nTexts [.s (.v (.sl .str) dc8a), .s (.v (.sl .str) dc9a)] (.s (.v .bool true)) [])
    (h18 : (!(dc8b == dc4b)) = false)
    {e : AEx} {st : St} (next : RestSC cfg.P 2 (rest P_laws_FnForestsStacked 21) (laws_FnForestsStacked_C21a false dc4a dc4b dc6b false dc1a dc2a dc6a dc8a dc1b) e st) :
    RestSC cfg.P 2 (rest P_laws_FnForestsStacked 10) (laws_FnForestsStacked_C10a x1 x183) e st :=
  rest_next cfgOK (f := i_laws_FnForestsStacked) (k := 10) (m := 11) (its := [.res (.tup [.own t_string .str dc1a, .own t_string .str dc1b]) [] [] [186, 379], .res (.tup [.own t_string .str dc2a, .v .bool false]) [] [] [192], .res (.tup [.own t_string .str dc3a, .v .bool dc3b]) [] [] [198], .res (.tup [.v .bool dc4a, .v .bool dc4b]) [] [] [], .res (.tup [.v .bool dc5a, .v .bool dc5b]) [] [] [], .res (.tup [.own t_string .str dc6a, .v .bool dc6b]) [] [] [216], .res (.tup [.own t_string .str dc7a, .v .bool dc7b]) [] [] [222], .res (.tup [.own t_string .str dc8a, .v .bool dc8b]) [] [] [228], .res (.tup [.own t_string .str dc9a, .v .bool dc9b]) [] [] [234], .bool false, .res (.s (.v .bool true)) [] [] [], .bool false, .bool false, .bool false, .res (.s (.v .bool true)) [] [] [], .bool false, .res (.s (.v .bool true)) [] [] [], .bool false])
    (ps := [SC cfg.P i_spec_DrawLeftQuotient [.s (.v (.sl (.int .u8)) x1)] (.tup [.own t_string .str dc1a, .own t_string .str dc1b]) [],
      SC cfg.P i_impl_LeftQuotient [.s (.v (.sl .str) dc1a), .s (.v (.sl .str) dc1b)] (.tup [.own t_string .str dc2a, .v .bool false]) [],
      SC cfg.P i_spec_LeftQuotient [.s (.v (.sl .str) dc1a), .s (.v (.sl .str) dc1b)] (.tup [.own t_string .str dc3a, .v .bool dc3b]) [],
      SC cfg.P i_impl_IsPartOfForest [.s (.v (.sl .str) dc1a), .s (.v (.sl .str) dc1b)] (.tup [.v .bool dc4a, .v .bool dc4b]) [],
      SC cfg.P i_spec_IsPartOfForest [.s (.v (.sl .str) dc1a), .s (.v (.sl .str) dc1b)] (.tup [.v .bool dc5a, .v .bool dc5b]) [],
      SC cfg.P i_impl_JoinForests [.s (.v (.sl .str) dc1a), .s (.v (.sl .str) dc1b)] (.tup [.own t_string .str dc6a, .v .bool dc6b]) [],
      SC cfg.P i_spec_JoinForests [.s (.v (.sl .str) dc1a), .s (.v (.sl .str) dc1b)] (.tup [.own t_string .str dc7a, .v .bool dc7b]) [],
      SC cfg.P i_impl_CommonForest [.s (.v (.sl .str) dc1a), .s (.v (.sl .str) dc1b)] (.tup [.own t_string .str dc8a, .v .bool dc8b]) [],
      SC cfg.P i_spec_CommonForest [.s (.v (.sl .str) dc1a), .s (.v (.sl .str) dc1b)] (.tup [.own t_string .str dc9a, .v .bool dc9b]) [],
      (!(false == dc3b)) = false,
      SC cfg.P i_laws_nTexts [.s (.v (.sl .str) dc2a), .s (.v (.sl .str) dc3a)] (.s (.v .bool true)) [],
      (!(dc4b == dc5b)) = false,
      (!(dc4a == dc5a)) = false,
      (!(dc6b == dc7b)) = false,
      SC cfg.P i_laws_nTexts [.s (.v (.sl .str) dc6a), .s (.v (.sl .str) dc7a)] (.s (.v .bool true)) [],
      (!(dc8b == dc9b)) = false,
      SC cfg.P i_laws_nTexts [.s (.v (.sl .str) dc8a), .s (.v (.sl .str) dc9a)] (.s (.v .bool true)) [],
      (!(dc8b == dc4b)) = false]) (st1 := laws_FnForestsStacked_C21a false dc4a dc4b dc6b false dc1a dc2a dc6a dc8a dc1b) (by kernel_rfl) ⟨h1, h2, h3, h4, h5, h6, h7, h8, h9, h10, h11, h12, h13, h14, h15, h16, h17, h18, trivial⟩ next

theorem laws_FnForestsStacked_C10b_i1 (x1 : (List Int)) (x170 : Bool) (xo21 : (ByteArray × ByteArray)) (xo23 : (ByteArray × ByteArray)) (xo25 : (ByteArray × ByteArray)) (dc1a : (List ByteArray)) (dc1b : (List ByteArray)) (dc2a : (List ByteArray)) (dc3a : (List ByteArray)) (dc3b : Bool) (dc5a : Bool) (dc5b : Bool) (dc6a : (List ByteArray)) (dc6b : Bool) (dc7a : (List ByteArray)) (dc7b : Bool) (dc8a : (List ByteArray)) (dc8b : Bool) (dc9a : (List ByteArray)) (dc9b : Bool)
    (h1 : SC cfg.P i_spec_DrawLeftQuotient [.s (.v (.sl (.int .u8)) x1)] (.tup [.own t_string .str dc1a, .own t_string .str dc1b]) [])
    (h2 : SC cfg.P i_impl_LeftQuotient [.s (.v (.sl .str) dc1a), .s (.v (.sl .str) dc1b)] (.tup [.own t_string .str dc2a, .v .bool true]) [])
    (h3 : SC cfg.P i_spec_LeftQuotient [.s (.v (.sl .str) dc1a), .s (.v (.sl .str) dc1b)] (.tup [.own t_string .str dc3a, .v .bool dc3b]) [])
    (h4 : SC cfg.P i_impl_IsPartOfForest [.s (.v (.sl .str) dc1a), .s (.v (.sl .str) dc1b)] (.tup [.v .bool true, .v .bool true]) [])
    (h5 : SC cfg.P i_spec_IsPartOfForest [.s (.v (.sl .str) dc1a), .s (.v (.sl .str) dc1b)] (.tup [.v .bool dc5a, .v .bool dc5b]) [])
    (h6 : SC cfg.P i_impl_JoinForests [.s (.v (.sl .str) dc1a), .s (.v (.sl .str) dc1b)] (.tup [.own t_string .str dc6a, .v .bool dc6b]) [])
    (h7 : SC cfg.P i_spec_JoinForests [.s (.v (.sl .str) dc1a), .s (.v (.sl .str) dc1b)] (.tup [.own t_string .str dc7a, .v .bool dc7b]) [])
    (h8 : SC cfg.P i_impl_CommonForest [.s (.v (.sl .str) dc1a), .s (.v (.sl .str) dc1b)] (.tup [.own t_string .str dc8a, .v .bool dc8b]) [])
    (h9 : SC cfg.P i_spec_CommonForest [.s (.v (.sl .str) dc1a), .s (.v (.sl .str) dc1b)] (.tup [.own t_string .str dc9a, .v .bool dc9b]) [])
    (h10 : (!(true == dc3b)) = false)
    (h11 : SC cfg.P i_laws_nTexts [.s (.v (.sl .str) dc2a), .s (.v (.sl .str) dc3a)] (.s (.v .bool true)) [])
    (h12 : (!(true == dc5b)) = false)
    (h13 : (!(true == dc5a)) = false)
    (h14 : (!(dc6b == dc7b)) = false)
    (h15 : SC cfg.P i_laws_nTexts [.s (.v (.sl .str) dc6a), .s (.v (.sl .str) dc7a)] (.s (.v .bool true)) [])
    (h16 : (!(dc8b == dc9b)) = false)
    (h17 : SC cfg.P i_laws_nTexts [.s (.v (.sl .str) dc8a), .s (.v (.sl .str) dc9a)] (.s (.v .bool true)) [])
    (h18 : (!(dc8b == true)) = false)
    {e : AEx} {st : St} (next : RestSC cfg.P 2 (rest P_laws_FnForestsStacked 21) (laws_FnForestsStacked_C21a true true true dc6b false dc1a dc2a dc6a dc8a dc1b) e st) :
    RestSC cfg.P 2 (rest P_laws_FnForestsStacked 10) (laws_FnForestsStacked_C10b x1 x170 xo21 xo23 xo25) e st :=
  rest_next cfgOK (f := i_laws_FnForestsStacked) (k := 10) (m := 11) (its := [.res (.tup [.own t_string .str dc1a, .own t_string .str dc1b]) [] [] [186, 379], .res (.tup [.own t_string .str dc2a, .v .bool true]) [] [] [192], .res (.tup [.own t_string .str dc3a, .v .bool dc3b]) [] [] [198], .res (.tup [.v .bool true, .v .bool true]) [] [] [], .res (.tup [.v .bool dc5a, .v .bool dc5b]) [] [] [], .res (.tup [.own t_string .str dc6a, .v .bool dc6b]) [] [] [216], .res (.tup [.own t_string .str dc7a, .v .bool dc7b]) [] [] [222], .res (.tup [.own t_string .str dc8a, .v .bool dc8b]) [] [] [228], .res (.tup [.own t_string .str dc9a, .v .bool dc9b]) [] [] [234], .bool false, .res (.s (.v .bool true)) [] [] [], .bool false, .bool false, .bool false, .res (.s (.v .bool true)) [] [] [], .bool false, .res (.s (.v .bool true)) [] [] [], .bool false])
    (ps := [SC cfg.P i_spec_DrawLeftQuotient [.s (.v (.sl (.int .u8)) x1)] (.tup [.own t_string .str dc1a, .own t_string .str dc1b]) [],
      SC cfg.P i_impl_LeftQuotient [.s (.v (.sl .str) dc1a), .s (.v (.sl .str) dc1b)] (.tup [.own t_string .str dc2a, .v .bool true]) [],
      SC cfg.P i_spec_LeftQuotient [.s (.v (.sl .str) dc1a), .s (.v (.sl .str) dc1b)] (.tup [.own t_string .str dc3a, .v .bool dc3b]) [],
      SC cfg.P i_impl_IsPartOfForest [.s (.v (.sl .str) dc1a), .s (.v (.sl .str) dc1b)] (.tup [.v .bool true, .v .bool true]) [],
      SC cfg.P i_spec_IsPartOfForest [.s (.v (.sl .str) dc1a), .s (.v (.sl .str) dc1b)] (.tup [.v .bool dc5a, .v .bool dc5b]) [],
      SC cfg.P i_impl_JoinForests [.s (.v (.sl .str) dc1a), .s (.v (.sl .str) dc1b)] (.tup [.own t_string .str dc6a, .v .bool dc6b]) [],
      SC cfg.P i_spec_JoinForests [.s (.v (.sl .str) dc1a), .s (.v (.sl .str) dc1b)] (.tup [.own t_string .str dc7a, .v .bool dc7b]) [],
      SC cfg.P i_impl_CommonForest [.s (.v (.sl .str) dc1a), .s (.v (.sl .str) dc1b)] (.tup [.own t_string .str dc8a, .v .bool dc8b]) [],
      SC cfg.P i_spec_CommonForest [.s (.v (.sl .str) dc1a), .s (.v (.sl .str) dc1b)] (.tup [.own t_string .str dc9a, .v .bool dc9b]) [],
      (!(true == dc3b)) = false,
      SC cfg.P i_laws_nTexts [.s (.v (.sl .str) dc2a), .s (.v (.sl .str) dc3a)] (.s (.v .bool true)) [],
      (!(true == dc5b)) = false,
      (!(true == dc5a)) = false,
      (!(dc6b == dc7b)) = false,
      SC cfg.P i_laws_nTexts [.s (.v (.sl .str) dc6a), .s (.v (.sl .str) dc7a)] (.s (.v .bool true)) [],
      (!(dc8b == dc9b)) = false,
      SC cfg.P i_laws_nTexts [.s (.v (.sl .str) dc8a), .s (.v (.sl .str) dc9a)] (.s (.v .bool true)) [],
      (!(dc8b == true)) = false]) (st1 := laws_FnForestsStacked_C21a true true true dc6b false dc1a dc2a dc6a dc8a dc1b) (by kernel_rfl) ⟨h1, h2, h3, h4, h5, h6, h7, h8, h9, h10, h11, h12, h13, h14, h15, h16, h17, h18, trivial⟩ next

theorem laws_FnForestsStacked_C10b_i2 (x1 : (List Int)) (x170 : Bool) (xo21 : (ByteArray × ByteArray)) (xo23 : (ByteArray × ByteArray)) (xo25 : (ByteArray × ByteArray)) (dc1a : (List ByteArray)) (dc1b : (List ByteArray)) (dc2a : (List ByteArray)) (dc3a : (List ByteArray)) (dc3b : Bool) (dc4a : Bool) (dc4b : Bool) (dc5a : Bool) (dc5b : Bool) (dc6a : (List ByteArray)) (dc6b : Bool) (dc7a : (List ByteArray)) (dc7b : Bool) (dc8a : (List ByteArray)) (dc8b : Bool) (dc9a : (List ByteArray)) (dc9b : Bool)
    (h1 : SC cfg.P i_spec_DrawLeftQuotient [.s (.v (.sl (.int .u8)) x1)] (.tup [.own t_string .str dc1a, .own t_string .str dc1b]) [])
    (h2 : SC cfg.P i_impl_LeftQuotient [.s (.v (.sl .str) dc1a), .s (.v (.sl .str) dc1b)] (.tup [.own t_string .str dc2a, .v .bool false]) [])
    (h3 : SC cfg.P i_spec_LeftQuotient [.s (.v (.sl .str) dc1a), .s (.v (.sl .str) dc1b)] (.tup [.own t_string .str dc3a, .v .bool dc3b]) [])
    (h4 : SC cfg.P i_impl_IsPartOfForest [.s (.v (.sl .str) dc1a), .s (.v (.sl .str) dc1b)] (.tup [.v .bool dc4a, .v .bool dc4b]) [])
    (h5 : SC cfg.P i_spec_IsPartOfForest [.s (.v (.sl .str) dc1a), .s (.v (.sl .str) dc1b)] (.tup [.v .bool dc5a, .v .bool dc5b]) [])
    (h6 : SC cfg.P i_impl_JoinForests [.s (.v (.sl .str) dc1a), .s (.v (.sl .str) dc1b)] (.tup [.own t_string .str dc6a, .v .bool dc6b]) [])
    (h7 : SC cfg.P i_spec_JoinForests [.s (.v (.sl .str) dc1a), .s (.v (.sl .str) dc1b)] (.tup [.own t_string .str dc7a, .v .bool dc7b]) [])
    (h8 : SC cfg.P i_impl_CommonForest [.s (.v (.sl .str) dc1a), .s (.v (.sl .str) dc1b)] (.tup [.own t_string .str dc8a, .v .bool dc8b]) [])
    (h9 : SC cfg.P i_spec_CommonForest [.s (.v (.sl .str) dc1a), .s (.v (.sl .str) dc1b)] (.tup [.own t_string .str dc9a, .v .bool dc9b]) [])
    (h10 : (!(false == dc3b)) = false)
    (h11 : SC cfg.P i_laws_nTexts [.s (.v (.sl .str) dc2a), .s (.v (.sl .str) dc3a)] (.s (.v .bool true)) [])
    (h12 : (!(dc4b == dc5b)) = false)
    (h13 : (!(dc4a == dc5a)) = false)
    (h14 : (!(dc6b == dc7b)) = false)
    (h15 : SC cfg.P i_laws_nTexts [.s (.v (.sl .str) dc6a), .s (.v (.sl .str) dc7a)] (.s (.v .bool true)) [])
    (h16 : (!(dc8b == dc9b)) = false)
    (h17 : SC cfg.P i_laws_nTexts [.s (.v (.sl .str) dc8a), .s (.v (.sl .str) dc9a)] (.s (.v .bool true)) [])
    (h18 : (!(dc8b == dc4b)) = false)
    {e : AEx} {st : St} (next : RestSC cfg.P 2 (rest P_laws_FnForestsStacked 21) (laws_FnForestsStacked_C21a false dc4a dc4b dc6b false dc1a dc2a dc6a dc8a dc1b) e st) :
    RestSC cfg.P 2 (rest P_laws_FnForestsStacked 10) (laws_FnForestsStacked_C10b x1 x170 xo21 xo23 xo25) e st :=
  rest_next cfgOK (f := i_laws_FnForestsStacked) (k := 10) (m := 11) (its := [.res (.tup [.own t_string .str dc1a, .own t_string .str dc1b]) [] [] [186, 379], .res (.tup [.own t_string .str dc2a, .v .bool false]) [] [] [192], .res (.tup [.own t_string .str dc3a, .v .bool dc3b]) [] [] [198], .res (.tup [.v .bool dc4a, .v .bool dc4b]) [] [] [], .res (.tup [.v .bool dc5a, .v .bool dc5b]) [] [] [], .res (.tup [.own t_string .str dc6a, .v .bool dc6b]) [] [] [216], .res (.tup [.own t_string .str dc7a, .v .bool dc7b]) [] [] [222], .res (.tup [.own t_string .str dc8a, .v .bool dc8b]) [] [] [228], .res (.tup [.own t_string .str dc9a, .v .bool dc9b]) [] [] [234], .bool false, .res (.s (.v .bool true)) [] [] [], .bool false, .bool false, .bool false, .res (.s (.v .bool true)) [] [] [], .bool false, .res (.s (.v .bool true)) [] [] [], .bool false])
    (ps := [SC cfg.P i_spec_DrawLeftQuotient [.s (.v (.sl (.int .u8)) x1)] (.tup [.own t_string .str dc1a, .own t_string .str dc1b]) [],
      SC cfg.P i_impl_LeftQuotient [.s (.v (.sl .str) dc1a), .s (.v (.sl .str) dc1b)] (.tup [.own t_string .str dc2a, .v .bool false]) [],
      SC cfg.P i_spec_LeftQuotient [.s (.v (.sl .str) dc1a), .s (.v (.sl .str) dc1b)] (.tup [.own t_string .str dc3a, .v .bool dc3b]) [],
      SC cfg.P i_impl_IsPartOfForest [.s (.v (.sl .str) dc1a), .s (.v (.sl .str) dc1b)] (.tup [.v .bool dc4a, .v .bool dc4b]) [],
      SC cfg.P i_spec_IsPartOfForest [.s (.v (.sl .str) dc1a), .s (.v (.sl .str) dc1b)] (.tup [.v .bool dc5a, .v .bool dc5b]) [],
      SC cfg.P i_impl_JoinForests [.s (.v (.sl .str) dc1a), .s (.v (.sl .str) dc1b)] (.tup [.own t_string .str dc6a, .v .bool dc6b]) [],
      SC cfg.P i_spec_JoinForests [.s (.v (.sl .str) dc1a), .s (.v (.sl .str) dc1b)] (.tup [.own t_string .str dc7a, .v .bool dc7b]) [],
      SC cfg.P i_impl_CommonForest [.s (.v (.sl .str) dc1a), .s (.v (.sl .str) dc1b)] (.tup [.own t_string .str dc8a, .v .bool dc8b]) [],
      SC cfg.P i_spec_CommonForest [.s (.v (.sl .str) dc1a), .s (.v (.sl .str) dc1b)] (.tup [.own t_string .str dc9a, .v .bool dc9b]) [],
      (!(false == dc3b)) = false,
      SC cfg.P i_laws_nTexts [.s (.v (.sl .str) dc2a), .s (.v (.sl .str) dc3a)] (.s (.v .bool true)) [],
      (!(dc4b == dc5b)) = false,
      (!(dc4a == dc5a)) = false,
      (!(dc6b == dc7b)) = false,
      SC cfg.P i_laws_nTexts [.s (.v (.sl .str) dc6a), .s (.v (.sl .str) dc7a)] (.s (.v .bool true)) [],
      (!(dc8b == dc9b)) = false,
      SC cfg.P i_laws_nTexts [.s (.v (.sl .str) dc8a), .s (.v (.sl .str) dc9a)] (.s (.v .bool true)) [],
      (!(dc8b == dc4b)) = false]) (st1 := laws_FnForestsStacked_C21a false dc4a dc4b dc6b false dc1a dc2a dc6a dc8a dc1b) (by kernel_rfl) ⟨h1, h2, h3, h4, h5, h6, h7, h8, h9, h10, h11, h12, h13, h14, h15, h16, h17, h18, trivial⟩ next

theorem laws_FnForestsStacked_C10c_i1 (x1 : (List Int)) (x86 : Bool) (xo62 : (List ByteArray)) (xo68 : (List ByteArray)) (xo379 : (List ByteArray)) (dc1a : (List ByteArray)) (dc1b : (List ByteArray)) (dc2a : (List ByteArray)) (dc3a : (List ByteArray)) (dc3b : Bool) (dc5a : Bool) (dc5b : Bool) (dc6a : (List ByteArray)) (dc6b : Bool) (dc7a : (List ByteArray)) (dc7b : Bool) (dc8a : (List ByteArray)) (dc8b : Bool) (dc9a : (List ByteArray)) (dc9b : Bool)
    (h1 : SC cfg.P i_spec_DrawLeftQuotient [.s (.v (.sl (.int .u8)) x1)] (.tup [.own t_string .str dc1a, .own t_string .str dc1b]) [])
    (h2 : SC cfg.P i_impl_LeftQuotient [.s (.v (.sl .str) dc1a), .s (.v (.sl .str) dc1b)] (.tup [.own t_string .str dc2a, .v .bool true]) [])
    (h3 : SC cfg.P i_spec_LeftQuotient [.s (.v (.sl .str) dc1a), .s (.v (.sl .str) dc1b)] (.tup [.own t_string .str dc3a, .v .bool dc3b]) [])
    (h4 : SC cfg.P i_impl_IsPartOfForest [.s (.v (.sl .str) dc1a), .s (.v (.sl .str) dc1b)] (.tup [.v .bool true, .v .bool true]) [])
    (h5 : SC cfg.P i_spec_IsPartOfForest [.s (.v (.sl .str) dc1a), .s (.v (.sl .str) dc1b)] (.tup [.v .bool dc5a, .v .bool dc5b]) [])
    (h6 : SC cfg.P i_impl_JoinForests [.s (.v (.sl .str) dc1a), .s (.v (.sl .str) dc1b)] (.tup [.own t_string .str dc6a, .v .bool dc6b]) [])
    (h7 : SC cfg.P i_spec_JoinForests [.s (.v (.sl .str) dc1a), .s (.v (.sl .str) dc1b)] (.tup [.own t_string .str dc7a, .v .bool dc7b]) [])
    (h8 : SC cfg.P i_impl_CommonForest [.s (.v (.sl .str) dc1a), .s (.v (.sl .str) dc1b)] (.tup [.own t_string .str dc8a, .v .bool dc8b]) [])
    (h9 : SC cfg.P i_spec_CommonForest [.s (.v (.sl .str) dc1a), .s (.v (.sl .str) dc1b)] (.tup [.own t_string .str dc9a, .v .bool dc9b]) [])
    (h10 : (!(true == dc3b)) = false)
    (h11 : SC cfg.P i_laws_nTexts [.s (.v (.sl .str) dc2a), .s (.v (.sl .str) dc3a)] (.s (.v .bool true)) [])
    (h12 : (!(true == dc5b)) = false)
    (h13 : (!(true == dc5a)) = false)
    (h14 : (!(dc6b == dc7b)) = false)
    (h15 : SC cfg.P i_laws_nTexts [.s (.v (.sl .str) dc6a), .s (.v (.sl .str) dc7a)] (.s (.v .bool true)) [])
    (h16 : (!(dc8b == dc9b)) = false)
    (h17 : SC cfg.P i_laws_nTexts [.s (.v (.sl .str) dc8a), .s (.v (.sl .str) dc9a)] (.s (.v .bool true)) [])
    (h18 : (!(dc8b == true)) = false)
    {e : AEx} {st : St} (next : RestSC cfg.P 2 (rest P_laws_FnForestsStacked 21) (laws_FnForestsStacked_C21b true true true dc6b false dc1a dc2a dc6a dc8a dc1b) e st) :
    RestSC cfg.P 2 (rest P_laws_FnForestsStacked 10) (laws_FnForestsStacked_C10c x1 x86 xo62 xo68 xo379) e st :=
  rest_next cfgOK (f := i_laws_FnForestsStacked) (k := 10) (m := 11) (its := [.res (.tup [.own t_string .str dc1a, .own t_string .str dc1b]) [] [] [186, 378], .res (.tup [.own t_string .str dc2a, .v .bool true]) [] [] [192], .res (.tup [.own t_string .str dc3a, .v .bool dc3b]) [] [] [198], .res (.tup [.v .bool true, .v .bool true]) [] [] [], .res (.tup [.v .bool dc5a, .v .bool dc5b]) [] [] [], .res (.tup [.own t_string .str dc6a, .v .bool dc6b]) [] [] [216], .res (.tup [.own t_string .str dc7a, .v .bool dc7b]) [] [] [222], .res (.tup [.own t_string .str dc8a, .v .bool dc8b]) [] [] [228], .res (.tup [.own t_string .str dc9a, .v .bool dc9b]) [] [] [234], .bool false, .res (.s (.v .bool true)) [] [] [], .bool false, .bool false, .bool false, .res (.s (.v .bool true)) [] [] [], .bool false, .res (.s (.v .bool true)) [] [] [], .bool false])
    (ps := [SC cfg.P i_spec_DrawLeftQuotient [.s (.v (.sl (.int .u8)) x1)] (.tup [.own t_string .str dc1a, .own t_string .str dc1b]) [],
      SC cfg.P i_impl_LeftQuotient [.s (.v (.sl .str) dc1a), .s (.v (.sl .str) dc1b)] (.tup [.own t_string .str dc2a, .v .bool true]) [],
      SC cfg.P i_spec_LeftQuotient [.s (.v (.sl .str) dc1a), .s (.v (.sl .str) dc1b)] (.tup [.own t_string .str dc3a, .v .bool dc3b]) [],
      SC cfg.P i_impl_IsPartOfForest [.s (.v (.sl .str) dc1a), .s (.v (.sl .str) dc1b)] (.tup [.v .bool true, .v .bool true]) [],
      SC cfg.P i_spec_IsPartOfForest [.s (.v (.sl .str) dc1a), .s (.v (.sl .str) dc1b)] (.tup [.v .bool dc5a, .v .bool dc5b]) [],
      SC cfg.P i_impl_JoinForests [.s (.v (.sl .str) dc1a), .s (.v (.sl .str) dc1b)] (.tup [.own t_string .str dc6a, .v .bool dc6b]) [],
      SC cfg.P i_spec_JoinForests [.s (.v (.sl .str) dc1a), .s (.v (.sl .str) dc1b)] (.tup [.own t_string .str dc7a, .v .bool dc7b]) [],
      SC cfg.P i_impl_CommonForest [.s (.v (.sl .str) dc1a), .s (.v (.sl .str) dc1b)] (.tup [.own t_string .str dc8a, .v .bool dc8b]) [],
      SC cfg.P i_spec_CommonForest [.s (.v (.sl .str) dc1a), .s (.v (.sl .str) dc1b)] (.tup [.own t_string .str dc9a, .v .bool dc9b]) [],
      (!(true == dc3b)) = false,
      SC cfg.P i_laws_nTexts [.s (.v (.sl .str) dc2a), .s (.v (.sl .str) dc3a)] (.s (.v .bool true)) [],
      (!(true == dc5b)) = false,
      (!(true == dc5a)) = false,
      (!(dc6b == dc7b)) = false,
      SC cfg.P i_laws_nTexts [.s (.v (.sl .str) dc6a), .s (.v (.sl .str) dc7a)] (.s (.v .bool true)) [],
      (!(dc8b == dc9b)) = false,
      SC cfg.P i_laws_nTexts [.s (.v (.sl .str) dc8a), .s (.v (.sl .str) dc9a)] (.s (.v .bool true)) [],
      (!(dc8b == true)) = false]) (st1 := laws_FnForestsStacked_C21b true true true dc6b false dc1a dc2a dc6a dc8a dc1b) (by kernel_rfl) ⟨h1, h2, h3, h4, h5, h6, h7, h8, h9, h10, h11, h12, h13, h14, h15, h16, h17, h18, trivial⟩ next

theorem laws_FnForestsStacked_C10c_i2 (x1 : (List Int)) (x86 : Bool) (xo62 : (List ByteArray)) (xo68 : (List ByteArray)) (xo379 : (List ByteArray)) (dc1a : (List ByteArray)) (dc1b : (List ByteArray)) (dc2a : (List ByteArray)) (dc3a : (List ByteArray)) (dc3b : Bool) (dc4a : Bool) (dc4b : Bool) (dc5a : Bool) (dc5b : Bool) (dc6a : (List ByteArray)) (dc6b : Bool) (dc7a : (List ByteArray)) (dc7b : Bool) (dc8a : (List ByteArray)) (dc8b : Bool) (dc9a : (List ByteArray)) (dc9b : Bool)
    (h1 : SC cfg.P i_spec_DrawLeftQuotient [.s (.v (.sl (.int .u8)) x1)] (.tup [.own t_string .str dc1a, .own t_string .str dc1b]) [])
    (h2 : SC cfg.P i_impl_LeftQuotient [.s (.v (.sl .str) dc1a), .s (.v (.sl .str) dc1b)] (.tup [.own t_string .str dc2a, .v .bool false]) [])
    (h3 : SC cfg.P i_spec_LeftQuotient [.s (.v (.sl .str) dc1a), .s (.v (.sl .str) dc1b)] (.tup [.own t_string .str dc3a, .v .bool dc3b]) [])
    (h4 : SC cfg.P i_impl_IsPartOfForest [.s (.v (.sl .str) dc1a), .s (.v (.sl .str) dc1b)] (.tup [.v .bool dc4a, .v .bool dc4b]) [])
    (h5 : SC cfg.P i_spec_IsPartOfForest [.s (.v (.sl .str) dc1a), .s (.v (.sl .str) dc1b)] (.tup [.v .bool dc5a, .v .bool dc5b]) [])
    (h6 : SC cfg.P i_impl_JoinForests [.s (.v (.sl .str) dc1a), .s (.v (.sl .str) dc1b)] (.tup [.own t_string .str dc6a, .v .bool dc6b]) [])
    (h7 : SC cfg.P i_spec_JoinForests [.s (.v (.sl .str) dc1a), .s (.v (.sl .str) dc1b)] (.tup [.own t_string .str dc7a, .v .bool dc7b]) [])
    (h8 : SC cfg.P i_impl_CommonForest [.s (.v (.sl .str) dc1a), .s (.v (.sl .str) dc1b)] (.tup [.own t_string .str dc8a, .v .bool dc8b]) [])
    (h9 : SC cfg.P i_spec_CommonForest [.s (.v (.sl .str) dc1a), .s (.v (.sl .str) dc1b)] (.tup [.own t_string .str dc9a, .v .bool dc9b]) [])
    (h10 : (!(false == dc3b)) = false)
    (h11 : SC cfg.P i_laws_nTexts [.s (.v (.sl .str) dc2a), .s (.v (.sl .str) dc3a)] (.s (.v .bool true)) [])
    (h12 : (!(dc4b == dc5b)) = false)
    (h13 : (!(dc4a == dc5a)) = false)
    (h14 : (!(dc6b == dc7b)) = false)
    (h15 : SC cfg.P i_laws_nTexts [.s (.v (.sl .str) dc6a), .s (.v (.sl .str) dc7a)] (.s (.v .bool true)) [])
    (h16 : (!(dc8b == dc9b)) = false)
    (h17 : SC cfg.P i_laws_nTexts [.s (.v (.sl .str) dc8a), .s (.v (.sl .str) dc9a)] (.s (.v .bool true)) [])
    (h18 : (!(dc8b == dc4b)) = false)
    {e : AEx} {st : St} (next : RestSC cfg.P 2 (rest P_laws_FnForestsStacked 21) (laws_FnForestsStacked_C21b false dc4a dc4b dc6b false dc1a dc2a dc6a dc8a dc1b) e st) :
    RestSC cfg.P 2 (rest P_laws_FnForestsStacked 10) (laws_FnForestsStacked_C10c x1 x86 xo62 xo68 xo379) e st :=
  rest_next cfgOK (f := i_laws_FnForestsStacked) (k := 10) (m := 11) (its := [.res (.tup [.own t_string .str dc1a, .own t_string .str dc1b]) [] [] [186, 378], .res (.tup [.own t_string .str dc2a, .v .bool false]) [] [] [192], .res (.tup [.own t_string .str dc3a, .v .bool dc3b]) [] [] [198], .res (.tup [.v .bool dc4a, .v .bool dc4b]) [] [] [], .res (.tup [.v .bool dc5a, .v .bool dc5b]) [] [] [], .res (.tup [.own t_string .str dc6a, .v .bool dc6b]) [] [] [216], .res (.tup [.own t_string .str dc7a, .v .bool dc7b]) [] [] [222], .res (.tup [.own t_string .str dc8a, .v .bool dc8b]) [] [] [228], .res (.tup [.own t_string .str dc9a, .v .bool dc9b]) [] [] [234], .bool false, .res (.s (.v .bool true)) [] [] [], .bool false, .bool false, .bool false, .res (.s (.v .bool true)) [] [] [], .bool false, .res (.s (.v .bool true)) [] [] [], .bool false])
    (ps := [SC cfg.P i_spec_DrawLeftQuotient [.s (.v (.sl (.int .u8)) x1)] (.tup [.own t_string .str dc1a, .own t_string .str dc1b]) [],
      SC cfg.P i_impl_LeftQuotient [.s (.v (.sl .str) dc1a), .s (.v (.sl .str) dc1b)] (.tup [.own t_string .str dc2a, .v .bool false]) [],
      SC cfg.P i_spec_LeftQuotient [.s (.v (.sl .str) dc1a), .s (.v (.sl .str) dc1b)] (.tup [.own t_string .str dc3a, .v .bool dc3b]) [],
      SC cfg.P i_impl_IsPartOfForest [.s (.v (.sl .str) dc1a), .s (.v (.sl .str) dc1b)] (.tup [.v .bool dc4a, .v .bool dc4b]) [],
      SC cfg.P i_spec_IsPartOfForest [.s (.v (.sl .str) dc1a), .s (.v (.sl .str) dc1b)] (.tup [.v .bool dc5a, .v .bool dc5b]) [],
      SC cfg.P i_impl_JoinForests [.s (.v (.sl .str) dc1a), .s (.v (.sl .str) dc1b)] (.tup [.own t_string .str dc6a, .v .bool dc6b]) [],
      SC cfg.P i_spec_JoinForests [.s (.v (.sl .str) dc1a), .s (.v (.sl .str) dc1b)] (.tup [.own t_string .str dc7a, .v .bool dc7b]) [],
      SC cfg.P i_impl_CommonForest [.s (.v (.sl .str) dc1a), .s (.v (.sl .str) dc1b)] (.tup [.own t_string .str dc8a, .v .bool dc8b]) [],
      SC cfg.P i_spec_CommonForest [.s (.v (.sl .str) dc1a), .s (.v (.sl .str) dc1b)] (.tup [.own t_string .str dc9a, .v .bool dc9b]) [],
      (!(false == dc3b)) = false,
      SC cfg.P i_laws_nTexts [.s (.v (.sl .str) dc2a), .s (.v (.sl .str) dc3a)] (.s (.v .bool true)) [],
      (!(dc4b == dc5b)) = false,
      (!(dc4a == dc5a)) = false,
      (!(dc6b == dc7b)) = false,
      SC cfg.P i_laws_nTexts [.s (.v (.sl .str) dc6a), .s (.v (.sl .str) dc7a)] (.s (.v .bool true)) [],
      (!(dc8b == dc9b)) = false,
      SC cfg.P i_laws_nTexts [.s (.v (.sl .str) dc8a), .s (.v (.sl .str) dc9a)] (.s (.v .bool true)) [],
      (!(dc8b == dc4b)) = false]) (st1 := laws_FnForestsStacked_C21b false dc4a dc4b dc6b false dc1a dc2a dc6a dc8a dc1b) (by kernel_rfl) ⟨h1, h2, h3, h4, h5, h6, h7, h8, h9, h10, h11, h12, h13, h14, h15, h16, h17, h18, trivial⟩ next

theorem laws_FnForestsStacked_C21a_i1 (x35 : Bool) (x36 : Bool) (x40 : Bool) (x293 : Bool) (xo186 : (List ByteArray)) (xo192 : (List ByteArray)) (xo216 : (List ByteArray)) (xo228 : (List ByteArray)) (xo379 : (List ByteArray)) (dc1a : (List ByteArray))
    (h1 : SC cfg.P i_impl_StackForests [.s (.v (.sl .str) xo186), .s (.v (.sl .str) xo192)] (.tup [.own t_string .str dc1a, .v .bool true]) [])
    (h2 : SC cfg.P i_laws_nTexts [.s (.v (.sl .str) dc1a), .s (.v (.sl .str) xo379)] (.s (.v .bool true)) [])
    {e : AEx} {st : St} (next : RestSC cfg.P 2 (rest P_laws_FnForestsStacked 23) (laws_FnForestsStacked_C23a x35 x36 x40 false xo186 xo216 xo228 xo379) e st) :
    RestSC cfg.P 2 (rest P_laws_FnForestsStacked 21) (laws_FnForestsStacked_C21a true x35 x36 x40 x293 xo186 xo192 xo216 xo228 xo379) e st :=
  rest_next cfgOK (f := i_laws_FnForestsStacked) (k := 21) (m := 2) (its := [.res (.tup [.own t_string .str dc1a, .v .bool true]) [] [] [298], .res (.s (.v .bool true)) [] [] []])
    (ps := [SC cfg.P i_impl_StackForests [.s (.v (.sl .str) xo186), .s (.v (.sl .str) xo192)] (.tup [.own t_string .str dc1a, .v .bool true]) [],
      SC cfg.P i_laws_nTexts [.s (.v (.sl .str) dc1a), .s (.v (.sl .str) xo379)] (.s (.v .bool true)) []]) (st1 := laws_FnForestsStacked_C23a x35 x36 x40 false xo186 xo216 xo228 xo379) (by kernel_rfl) ⟨h1, h2, trivial⟩ next

theorem laws_FnForestsStacked_C21a_i2 (x35 : Bool) (x36 : Bool) (x40 : Bool) (x293 : Bool) (xo186 : (List ByteArray)) (xo192 : (List ByteArray)) (xo216 : (List ByteArray)) (xo228 : (List ByteArray)) (xo379 : (List ByteArray))
    {e : AEx} {st : St} (next : RestSC cfg.P 2 (rest P_laws_FnForestsStacked 23) (laws_FnForestsStacked_C23b x35 x36 x40 false xo186 xo192 xo216 xo228 xo379) e st) :
    RestSC cfg.P 2 (rest P_laws_FnForestsStacked 21) (laws_FnForestsStacked_C21a false x35 x36 x40 x293 xo186 xo192 xo216 xo228 xo379) e st :=
  rest_next cfgOK (f := i_laws_FnForestsStacked) (k := 21) (m := 2) (its := [])
    (ps := []) (st1 := laws_FnForestsStacked_C23b x35 x36 x40 false xo186 xo192 xo216 xo228 xo379) (by kernel_rfl) trivial next

theorem laws_FnForestsStacked_C21b_i1 (x35 : Bool) (x36 : Bool) (x40 : Bool) (x293 : Bool) (xo186 : (List ByteArray)) (xo192 : (List ByteArray)) (xo216 : (List ByteArray)) (xo228 : (List ByteArray)) (xo378 : (List ByteArray)) (dc1a : (List ByteArray))
    (h1 : SC cfg.P i_impl_StackForests [.s (.v (.sl .str) xo186), .s (.v (.sl .str) xo192)] (.tup [.own t_string .str dc1a, .v .bool true]) [])
    (h2 : SC cfg.P i_laws_nTexts [.s (.v (.sl .str) dc1a), .s (.v (.sl .str) xo378)] (.s (.v .bool true)) [])
    {e : AEx} {st : St} (next : RestSC cfg.P 2 (rest P_laws_FnForestsStacked 23) (laws_FnForestsStacked_C23c x35 x36 x40 false xo186 xo216 xo228 xo378) e st) :
    RestSC cfg.P 2 (rest P_laws_FnForestsStacked 21) (laws_FnForestsStacked_C21b true x35 x36 x40 x293 xo186 xo192 xo216 xo228 xo378) e st :=
  rest_next cfgOK (f := i_laws_FnForestsStacked) (k := 21) (m := 2) (its := [.res (.tup [.own t_string .str dc1a, .v .bool true]) [] [] [298], .res (.s (.v .bool true)) [] [] []])
    (ps := [SC cfg.P i_impl_StackForests [.s (.v (.sl .str) xo186), .s (.v (.sl .str) xo192)] (.tup [.own t_string .str dc1a, .v .bool true]) [],
      SC cfg.P i_laws_nTexts [.s (.v (.sl .str) dc1a), .s (.v (.sl .str) xo378)] (.s (.v .bool true)) []]) (st1 := laws_FnForestsStacked_C23c x35 x36 x40 false xo186 xo216 xo228 xo378) (by kernel_rfl) ⟨h1, h2, trivial⟩ next

theorem laws_FnForestsStacked_C21b_i2 (x35 : Bool) (x36 : Bool) (x40 : Bool) (x293 : Bool) (xo186 : (List ByteArray)) (xo192 : (List ByteArray)) (xo216 : (List ByteArray)) (xo228 : (List ByteArray)) (xo378 : (List ByteArray))
    {e : AEx} {st : St} (next : RestSC cfg.P 2 (rest P_laws_FnForestsStacked 23) (laws_FnForestsStacked_C23d x35 x36 x40 false xo186 xo192 xo216 xo228 xo378) e st) :
    RestSC cfg.P 2 (rest P_laws_FnForestsStacked 21) (laws_FnForestsStacked_C21b false x35 x36 x40 x293 xo186 xo192 xo216 xo228 xo378) e st :=
  rest_next cfgOK (f := i_laws_FnForestsStacked) (k := 21) (m := 2) (its := [])
    (ps := []) (st1 := laws_FnForestsStacked_C23d x35 x36 x40 false xo186 xo192 xo216 xo228 xo378) (by kernel_rfl) trivial next

theorem laws_FnForestsStacked_C23a_i1 (x35 : Bool) (x308 : Bool) (xo186 : (List ByteArray)) (xo216 : (List ByteArray)) (xo228 : (List ByteArray)) (xo379 : (List ByteArray)) (dc3 : Bool) (dc4 : Bool)
    (h1 : SC cfg.P i_impl_IsPartOfForest [.s (.v (.sl .str) xo228), .s (.v (.sl .str) xo186)] (.tup [.v .bool true, .v .bool true]) [])
    (h2 : SC cfg.P i_impl_IsPartOfForest [.s (.v (.sl .str) xo228), .s (.v (.sl .str) xo379)] (.tup [.v .bool true, .v .bool true]) [])
    (h3 : SC cfg.P i_laws_nTexts [.s (.v (.sl .str) xo216), .s (.v (.sl .str) xo379)] (.s (.v .bool dc3)) [])
    (h4 : (!(x35 == dc3)) = false)
    (h5 : SC cfg.P i_laws_nTexts [.s (.v (.sl .str) xo228), .s (.v (.sl .str) xo186)] (.s (.v .bool dc4)) [])
    (h6 : (!(x35 == dc4)) = false)
    {e : AEx} {st : St} (next : RestSC cfg.P 2 (rest P_laws_FnForestsStacked 25) (laws_FnForestsStacked_C25a true false xo186 xo216 xo379) e st) :
    RestSC cfg.P 2 (rest P_laws_FnForestsStacked 23) (laws_FnForestsStacked_C23a x35 true true x308 xo186 xo216 xo228 xo379) e st :=
  rest_next cfgOK (f := i_laws_FnForestsStacked) (k := 23) (m := 2) (its := [.res (.tup [.v .bool true, .v .bool true]) [] [] [], .res (.tup [.v .bool true, .v .bool true]) [] [] [], .res (.s (.v .bool dc3)) [] [] [], .bool false, .res (.s (.v .bool dc4)) [] [] [], .bool false])
    (ps := [SC cfg.P i_impl_IsPartOfForest [.s (.v (.sl .str) xo228), .s (.v (.sl .str) xo186)] (.tup [.v .bool true, .v .bool true]) [],
      SC cfg.P i_impl_IsPartOfForest [.s (.v (.sl .str) xo228), .s (.v (.sl .str) xo379)] (.tup [.v .bool true, .v .bool true]) [],
      SC cfg.P i_laws_nTexts [.s (.v (.sl .str) xo216), .s (.v (.sl .str) xo379)] (.s (.v .bool dc3)) [],
      (!(x35 == dc3)) = false,
      SC cfg.P i_laws_nTexts [.s (.v (.sl .str) xo228), .s (.v (.sl .str) xo186)] (.s (.v .bool dc4)) [],
      (!(x35 == dc4)) = false]) (st1 := laws_FnForestsStacked_C25a true false xo186 xo216 xo379) (by kernel_rfl) ⟨h1, h2, h3, h4, h5, h6, trivial⟩ next

theorem laws_FnForestsStacked_C23a_i2 (x35 : Bool) (x308 : Bool) (xo186 : (List ByteArray)) (xo216 : (List ByteArray)) (xo228 : (List ByteArray)) (xo379 : (List ByteArray)) (dc3 : Bool)
    (h1 : SC cfg.P i_impl_IsPartOfForest [.s (.v (.sl .str) xo228), .s (.v (.sl .str) xo186)] (.tup [.v .bool true, .v .bool true]) [])
    (h2 : SC cfg.P i_impl_IsPartOfForest [.s (.v (.sl .str) xo228), .s (.v (.sl .str) xo379)] (.tup [.v .bool true, .v .bool true]) [])
    (h3 : (!(x35 == false)) = false)
    (h4 : SC cfg.P i_laws_nTexts [.s (.v (.sl .str) xo228), .s (.v (.sl .str) xo186)] (.s (.v .bool dc3)) [])
    (h5 : (!(x35 == dc3)) = false)
    {e : AEx} {st : St} (next : RestSC cfg.P 2 (rest P_laws_FnForestsStacked 25) (laws_FnForestsStacked_C25a false false xo186 xo216 xo379) e st) :
    RestSC cfg.P 2 (rest P_laws_FnForestsStacked 23) (laws_FnForestsStacked_C23a x35 true false x308 xo186 xo216 xo228 xo379) e st :=
  rest_next cfgOK (f := i_laws_FnForestsStacked) (k := 23) (m := 2) (its := [.res (.tup [.v .bool true, .v .bool true]) [] [] [], .res (.tup [.v .bool true, .v .bool true]) [] [] [], .bool false, .res (.s (.v .bool dc3)) [] [] [], .bool false])
    (ps := [SC cfg.P i_impl_IsPartOfForest [.s (.v (.sl .str) xo228), .s (.v (.sl .str) xo186)] (.tup [.v .bool true, .v .bool true]) [],
      SC cfg.P i_impl_IsPartOfForest [.s (.v (.sl .str) xo228), .s (.v (.sl .str) xo379)] (.tup [.v .bool true, .v .bool true]) [],
      (!(x35 == false)) = false,
      SC cfg.P i_laws_nTexts [.s (.v (.sl .str) xo228), .s (.v (.sl .str) xo186)] (.s (.v .bool dc3)) [],
      (!(x35 == dc3)) = false]) (st1 := laws_FnForestsStacked_C25a false false xo186 xo216 xo379) (by kernel_rfl) ⟨h1, h2, h3, h4, h5, trivial⟩ next

theorem laws_FnForestsStacked_C23a_i3 (x35 : Bool) (x40 : Bool) (x308 : Bool) (xo186 : (List ByteArray)) (xo216 : (List ByteArray)) (xo228 : (List ByteArray)) (xo379 : (List ByteArray))
    {e : AEx} {st : St} (next : RestSC cfg.P 2 (rest P_laws_FnForestsStacked 25) (laws_FnForestsStacked_C25b x35 x40 false xo186 xo216 xo228 xo379) e st) :
    RestSC cfg.P 2 (rest P_laws_FnForestsStacked 23) (laws_FnForestsStacked_C23a x35 false x40 x308 xo186 xo216 xo228 xo379) e st :=
  rest_next cfgOK (f := i_laws_FnForestsStacked) (k := 23) (m := 2) (its := [])
    (ps := []) (st1 := laws_FnForestsStacked_C25b x35 x40 false xo186 xo216 xo228 xo379) (by kernel_rfl) trivial next

theorem laws_FnForestsStacked_C23b_i1 (x35 : Bool) (x294 : Bool) (xo186 : (List ByteArray)) (xo192 : (List ByteArray)) (xo216 : (List ByteArray)) (xo228 : (List ByteArray)) (xo379 : (List ByteArray)) (dc3 : Bool) (dc4 : Bool)
    (h1 : SC cfg.P i_impl_IsPartOfForest [.s (.v (.sl .str) xo228), .s (.v (.sl .str) xo186)] (.tup [.v .bool true, .v .bool true]) [])
    (h2 : SC cfg.P i_impl_IsPartOfForest [.s (.v (.sl .str) xo228), .s (.v (.sl .str) xo379)] (.tup [.v .bool true, .v .bool true]) [])
    (h3 : SC cfg.P i_laws_nTexts [.s (.v (.sl .str) xo216), .s (.v (.sl .str) xo379)] (.s (.v .bool dc3)) [])
    (h4 : (!(x35 == dc3)) = false)
    (h5 : SC cfg.P i_laws_nTexts [.s (.v (.sl .str) xo228), .s (.v (.sl .str) xo186)] (.s (.v .bool dc4)) [])
    (h6 : (!(x35 == dc4)) = false)
    {e : AEx} {st : St} (next : RestSC cfg.P 2 (rest P_laws_FnForestsStacked 25) (laws_FnForestsStacked_C25a true false xo186 xo216 xo379) e st) :
    RestSC cfg.P 2 (rest P_laws_FnForestsStacked 23) (laws_FnForestsStacked_C23b x35 true true x294 xo186 xo192 xo216 xo228 xo379) e st :=
  rest_next cfgOK (f := i_laws_FnForestsStacked) (k := 23) (m := 2) (its := [.res (.tup [.v .bool true, .v .bool true]) [] [] [], .res (.tup [.v .bool true, .v .bool true]) [] [] [], .res (.s (.v .bool dc3)) [] [] [], .bool false, .res (.s (.v .bool dc4)) [] [] [], .bool false])
    (ps := [SC cfg.P i_impl_IsPartOfForest [.s (.v (.sl .str) xo228), .s (.v (.sl .str) xo186)] (.tup [.v .bool true, .v .bool true]) [],
      SC cfg.P i_impl_IsPartOfForest [.s (.v (.sl .str) xo228), .s (.v (.sl .str) xo379)] (.tup [.v .bool true, .v .bool true]) [],
      SC cfg.P i_laws_nTexts [.s (.v (.sl .str) xo216), .s (.v (.sl .str) xo379)] (.s (.v .bool dc3)) [],
      (!(x35 == dc3)) = false,
      SC cfg.P i_laws_nTexts [.s (.v (.sl .str) xo228), .s (.v (.sl .str) xo186)] (.s (.v .bool dc4)) [],
      (!(x35 == dc4)) = false]) (st1 := laws_FnForestsStacked_C25a true false xo186 xo216 xo379) (by kernel_rfl) ⟨h1, h2, h3, h4, h5, h6, trivial⟩ next

theorem laws_FnForestsStacked_C23b_i2 (x35 : Bool) (x294 : Bool) (xo186 : (List ByteArray)) (xo192 : (List ByteArray)) (xo216 : (List ByteArray)) (xo228 : (List ByteArray)) (xo379 : (List ByteArray)) (dc3 : Bool)
    (h1 : SC cfg.P i_impl_IsPartOfForest [.s (.v (.sl .str) xo228), .s (.v (.sl .str) xo186)] (.tup [.v .bool true, .v .bool true]) [])
    (h2 : SC cfg.P i_impl_IsPartOfForest [.s (.v (.sl .str) xo228), .s (.v (.sl .str) xo379)] (.tup [.v .bool true, .v .bool true]) [])
    (h3 : (!(x35 == false)) = false)
    (h4 : SC cfg.P i_laws_nTexts [.s (.v (.sl .str) xo228), .s (.v (.sl .str) xo186)] (.s (.v .bool dc3)) [])
    (h5 : (!(x35 == dc3)) = false)
    {e : AEx} {st : St} (next : RestSC cfg.P 2 (rest P_laws_FnForestsStacked 25) (laws_FnForestsStacked_C25a false false xo186 xo216 xo379) e st) :
    RestSC cfg.P 2 (rest P_laws_FnForestsStacked 23) (laws_FnForestsStacked_C23b x35 true false x294 xo186 xo192 xo216 xo228 xo379) e st :=
  rest_next cfgOK (f := i_laws_FnForestsStacked) (k := 23) (m := 2) (its := [.res (.tup [.v .bool true, .v .bool true]) [] [] [], .res (.tup [.v .bool true, .v .bool true]) [] [] [], .bool false, .res (.s (.v .bool dc3)) [] [] [], .bool false])
    (ps := [SC cfg.P i_impl_IsPartOfForest [.s (.v (.sl .str) xo228), .s (.v (.sl .str) xo186)] (.tup [.v .bool true, .v .bool true]) [],
      SC cfg.P i_impl_IsPartOfForest [.s (.v (.sl .str) xo228), .s (.v (.sl .str) xo379)] (.tup [.v .bool true, .v .bool true]) [],
      (!(x35 == false)) = false,
      SC cfg.P i_laws_nTexts [.s (.v (.sl .str) xo228), .s (.v (.sl .str) xo186)] (.s (.v .bool dc3)) [],
      (!(x35 == dc3)) = false]) (st1 := laws_FnForestsStacked_C25a false false xo186 xo216 xo379) (by kernel_rfl) ⟨h1, h2, h3, h4, h5, trivial⟩ next

theorem laws_FnForestsStacked_C23b_i3 (x35 : Bool) (x40 : Bool) (x294 : Bool) (xo186 : (List ByteArray)) (xo192 : (List ByteArray)) (xo216 : (List ByteArray)) (xo228 : (List ByteArray)) (xo379 : (List ByteArray))
    {e : AEx} {st : St} (next : RestSC cfg.P 2 (rest P_laws_FnForestsStacked 25) (laws_FnForestsStacked_C25b x35 x40 false xo186 xo216 xo228 xo379) e st) :
    RestSC cfg.P 2 (rest P_laws_FnForestsStacked 23) (laws_FnForestsStacked_C23b x35 false x40 x294 xo186 xo192 xo216 xo228 xo379) e st :=
  rest_next cfgOK (f := i_laws_FnForestsStacked) (k := 23) (m := 2) (its := [])
    (ps := []) (st1 := laws_FnForestsStacked_C25b x35 x40 false xo186 xo216 xo228 xo379) (by kernel_rfl) trivial next

theorem laws_FnForestsStacked_C23c_i1 (x35 : Bool) (x308 : Bool) (xo186 : (List ByteArray)) (xo216 : (List ByteArray)) (xo228 : (List ByteArray)) (xo378 : (List ByteArray)) (dc3 : Bool) (dc4 : Bool)
    (h1 : SC cfg.P i_impl_IsPartOfForest [.s (.v (.sl .str) xo228), .s (.v (.sl .str) xo186)] (.tup [.v .bool true, .v .bool true]) [])
    (h2 : SC cfg.P i_impl_IsPartOfForest [.s (.v (.sl .str) xo228), .s (.v (.sl .str) xo378)] (.tup [.v .bool true, .v .bool true]) [])
    (h3 : SC cfg.P i_laws_nTexts [.s (.v (.sl .str) xo216), .s (.v (.sl .str) xo378)] (.s (.v .bool dc3)) [])
    (h4 : (!(x35 == dc3)) = false)
    (h5 : SC cfg.P i_laws_nTexts [.s (.v (.sl .str) xo228), .s (.v (.sl .str) xo186)] (.s (.v .bool dc4)) [])
    (h6 : (!(x35 == dc4)) = false)
    {e : AEx} {st : St} (next : RestSC cfg.P 2 (rest P_laws_FnForestsStacked 25) (laws_FnForestsStacked_C25c true false xo186 xo216 xo378) e st) :
    RestSC cfg.P 2 (rest P_laws_FnForestsStacked 23) (laws_FnForestsStacked_C23c x35 true true x308 xo186 xo216 xo228 xo378) e st :=
  rest_next cfgOK (f := i_laws_FnForestsStacked) (k := 23) (m := 2) (its := [.res (.tup [.v .bool true, .v .bool true]) [] [] [], .res (.tup [.v .bool true, .v .bool true]) [] [] [], .res (.s (.v .bool dc3)) [] [] [], .bool false, .res (.s (.v .bool dc4)) [] [] [], .bool false])
    (ps := [SC cfg.P i_impl_IsPartOfForest [.s (.v (.sl .str) xo228), .s (.v (.sl .str) xo186)] (.tup [.v .bool true, .v .bool true]) [],
      SC cfg.P i_impl_IsPartOfForest [.s (.v (.sl .str) xo228), .s (.v (.sl .str) xo378)] (.tup [.v .bool true, .v .bool true]) [],
      SC cfg.P i_laws_nTexts [.s (.v (.sl .str) xo216), .s (.v (.sl .str) xo378)] (.s (.v .bool dc3)) [],
      (!(x35 == dc3)) = false,
      SC cfg.P i_laws_nTexts [.s (.v (.sl .str) xo228), .s (.v (.sl .str) xo186)] (.s (.v .bool dc4)) [],
      (!(x35 == dc4)) = false]) (st1 := laws_FnForestsStacked_C25c true false xo186 xo216 xo378) (by kernel_rfl) ⟨h1, h2, h3, h4, h5, h6, trivial⟩ next

theorem laws_FnForestsStacked_C23c_i2 (x35 : Bool) (x308 : Bool) (xo186 : (List ByteArray)) (xo216 : (List ByteArray)) (xo228 : (List ByteArray)) (xo378 : (List ByteArray)) (dc3 : Bool)
    (h1 : SC cfg.P i_impl_IsPartOfForest [.s (.v (.sl .str) xo228), .s (.v (.sl .str) xo186)] (.tup [.v .bool true, .v .bool true]) [])
    (h2 : SC cfg.P i_impl_IsPartOfForest [.s (.v (.sl .str) xo228), .s (.v (.sl .str) xo378)] (.tup [.v .bool true, .v .bool true]) [])
    (h3 : (!(x35 == false)) = false)
    (h4 : SC cfg.P i_laws_nTexts [.s (.v (.sl .str) xo228), .s (.v (.sl .str) xo186)] (.s (.v .bool dc3)) [])
    (h5 : (!(x35 == dc3)) = false)
    {e : AEx} {st : St} (next : RestSC cfg.P 2 (rest P_laws_FnForestsStacked 25) (laws_FnForestsStacked_C25c false false xo186 xo216 xo378) e st) :
    RestSC cfg.P 2 (rest P_laws_FnForestsStacked 23) (laws_FnForestsStacked_C23c x35 true false x308 xo186 xo216 xo228 xo378) e st :=
  rest_next cfgOK (f := i_laws_FnForestsStacked) (k := 23) (m := 2) (its := [.res (.tup [.v .bool true, .v .bool true]) [] [] [], .res (.tup [.v .bool true, .v .bool true]) [] [] [], .bool false, .res (.s (.v .bool dc3)) [] [] [], .bool false])
    (ps := [SC cfg.P i_impl_IsPartOfForest [.s (.v (.sl .str) xo228), .s (.v (.sl .str) xo186)] (.tup [.v .bool true, .v .bool true]) [],
      SC cfg.P i_impl_IsPartOfForest [.s (.v (.sl .str) xo228), .s (.v (.sl .str) xo378)] (.tup [.v .bool true, .v .bool true]) [],
      (!(x35 == false)) = false,
      SC cfg.P i_laws_nTexts [.s (.v (.sl .str) xo228), .s (.v (.sl .str) xo186)] (.s (.v .bool dc3)) [],
      (!(x35 == dc3)) = false]) (st1 := laws_FnForestsStacked_C25c false false xo186 xo216 xo378) (by kernel_rfl) ⟨h1, h2, h3, h4, h5, trivial⟩ next

theorem laws_FnForestsStacked_C23c_i3 (x35 : Bool) (x40 : Bool) (x308 : Bool) (xo186 : (List ByteArray)) (xo216 : (List ByteArray)) (xo228 : (List ByteArray)) (xo378 : (List ByteArray))
    {e : AEx} {st : St} (next : RestSC cfg.P 2 (rest P_laws_FnForestsStacked 25) (laws_FnForestsStacked_C25d x35 x40 false xo186 xo216 xo228 xo378) e st) :
    RestSC cfg.P 2 (rest P_laws_FnForestsStacked 23) (laws_FnForestsStacked_C23c x35 false x40 x308 xo186 xo216 xo228 xo378) e st :=
  rest_next cfgOK (f := i_laws_FnForestsStacked) (k := 23) (m := 2) (its := [])
    (ps := []) (st1 := laws_FnForestsStacked_C25d x35 x40 false xo186 xo216 xo228 xo378) (by kernel_rfl) trivial next

theorem laws_FnForestsStacked_C23d_i1 (x35 : Bool) (x294 : Bool) (xo186 : (List ByteArray)) (xo192 : (List ByteArray)) (xo216 : (List ByteArray)) (xo228 : (List ByteArray)) (xo378 : (List ByteArray)) (dc3 : Bool) (dc4 : Bool)
    (h1 : SC cfg.P i_impl_IsPartOfForest [.s (.v (.sl .str) xo228), .s (.v (.sl .str) xo186)] (.tup [.v .bool true, .v .bool true]) [])
    (h2 : SC cfg.P i_impl_IsPartOfForest [.s (.v (.sl .str) xo228), .s (.v (.sl .str) xo378)] (.tup [.v .bool true, .v .bool true]) [])
    (h3 : SC cfg.P i_laws_nTexts [.s (.v (.sl .str) xo216), .s (.v (.sl .str) xo378)] (.s (.v .bool dc3)) [])
    (h4 : (!(x35 == dc3)) = false)
    (h5 : SC cfg.P i_laws_nTexts [.s (.v (.sl .str) xo228), .s (.v (.sl .str) xo186)] (.s (.v .bool dc4)) [])
    (h6 : (!(x35 == dc4)) = false)
    {e : AEx} {st : St} (next : RestSC cfg.P 2 (rest P_laws_FnForestsStacked 25) (laws_FnForestsStacked_C25c true false xo186 xo216 xo378) e st) :
    RestSC cfg.P 2 (rest P_laws_FnForestsStacked 23) (laws_FnForestsStacked_C23d x35 true true x294 xo186 xo192 xo216 xo228 xo378) e st :=
  rest_next cfgOK (f := i_laws_FnForestsStacked) (k := 23) (m := 2) (its := [.res (.tup [.v .bool true, .v .bool true]) [] [] [], .res (.tup [.v .bool true, .v .bool true]) [] [] [], .res (.s (.v .bool dc3)) [] [] [], .bool false, .res (.s (.v .bool dc4)) [] [] [], .bool false])
    (ps := [SC cfg.P i_impl_IsPartOfForest [.s (.v (.sl .str) xo228), .s (.v (.sl .str) xo186)] (.tup [.v .bool true, .v .bool true]) [],
      SC cfg.P i_impl_IsPartOfForest [.s (.v (.sl .str) xo228), .s (.v (.sl .str) xo378)] (.tup [.v .bool true, .v .bool true]) [],
      SC cfg.P i_laws_nTexts [.s (.v (.sl .str) xo216), .s (.v (.sl .str) xo378)] (.s (.v .bool dc3)) [],
      (!(x35 == dc3)) = false,
      SC cfg.P i_laws_nTexts [.s (.v (.sl .str) xo228), .s (.v (.sl .str) xo186)] (.s (.v .bool dc4)) [],
      (!(x35 == dc4)) = false]) (st1 := laws_FnForestsStacked_C25c true false xo186 xo216 xo378) (by kernel_rfl) ⟨h1, h2, h3, h4, h5, h6, trivial⟩ next

theorem laws_FnForestsStacked_C23d_i2 (x35 : Bool) (x294 : Bool) (xo186 : (List ByteArray)) (xo192 : (List ByteArray)) (xo216 : (List ByteArray)) (xo228 : (List ByteArray)) (xo378 : (List ByteArray)) (dc3 : Bool)
    (h1 : SC cfg.P i_impl_IsPartOfForest [.s (.v (.sl .str) xo228), .s (.v (.sl .str) xo186)] (.tup [.v .bool true, .v .bool true]) [])
    (h2 : SC cfg.P i_impl_IsPartOfForest [.s (.v (.sl .str) xo228), .s (.v (.sl .str) xo378)] (.tup [.v .bool true, .v .bool true]) [])
    (h3 : (!(x35 == false)) = false)
    (h4 : SC cfg.P i_laws_nTexts [.s (.v (.sl .str) xo228), .s (.v (.sl .str) xo186)] (.s (.v .bool dc3)) [])
    (h5 : (!(x35 == dc3)) = false)
    {e : AEx} {st : St} (next : RestSC cfg.P 2 (rest P_laws_FnForestsStacked 25) (laws_FnForestsStacked_C25c false false xo186 xo216 xo378) e st) :
    RestSC cfg.P 2 (rest P_laws_FnForestsStacked 23) (laws_FnForestsStacked_C23d x35 true false x294 xo186 xo192 xo216 xo228 xo378) e st :=
  rest_next cfgOK (f := i_laws_FnForestsStacked) (k := 23) (m := 2) (its := [.res (.tup [.v .bool true, .v .bool true]) [] [] [], .res (.tup [.v .bool true, .v .bool true]) [] [] [], .bool false, .res (.s (.v .bool dc3)) [] [] [], .bool false])
    (ps := [SC cfg.P i_impl_IsPartOfForest [.s (.v (.sl .str) xo228), .s (.v (.sl .str) xo186)] (.tup [.v .bool true, .v .bool true]) [],
      SC cfg.P i_impl_IsPartOfForest [.s (.v (.sl .str) xo228), .s (.v (.sl .str) xo378)] (.tup [.v .bool true, .v .bool true]) [],
      (!(x35 == false)) = false,
      SC cfg.P i_laws_nTexts [.s (.v (.sl .str) xo228), .s (.v (.sl .str) xo186)] (.s (.v .bool dc3)) [],
      (!(x35 == dc3)) = false]) (st1 := laws_FnForestsStacked_C25c false false xo186 xo216 xo378) (by kernel_rfl) ⟨h1, h2, h3, h4, h5, trivial⟩ next

theorem laws_FnForestsStacked_C23d_i3 (x35 : Bool) (x40 : Bool) (x294 : Bool) (xo186 : (List ByteArray)) (xo192 : (List ByteArray)) (xo216 : (List ByteArray)) (xo228 : (List ByteArray)) (xo378 : (List ByteArray))
    {e : AEx} {st : St} (next : RestSC cfg.P 2 (rest P_laws_FnForestsStacked 25) (laws_FnForestsStacked_C25d x35 x40 false xo186 xo216 xo228 xo378) e st) :
    RestSC cfg.P 2 (rest P_laws_FnForestsStacked 23) (laws_FnForestsStacked_C23d x35 false x40 x294 xo186 xo192 xo216 xo228 xo378) e st :=
  rest_next cfgOK (f := i_laws_FnForestsStacked) (k := 23) (m := 2) (its := [])
    (ps := []) (st1 := laws_FnForestsStacked_C25d x35 x40 false xo186 xo216 xo228 xo378) (by kernel_rfl) trivial next

theorem laws_FnForestsStacked_C25a_i1 (x352 : Bool) (xo186 : (List ByteArray)) (xo216 : (List ByteArray)) (xo379 : (List ByteArray))
    (h1 : SC cfg.P i_impl_IsPartOfForest [.s (.v (.sl .str) xo186), .s (.v (.sl .str) xo216)] (.tup [.v .bool true, .v .bool true]) [])
    (h2 : SC cfg.P i_impl_IsPartOfForest [.s (.v (.sl .str) xo379), .s (.v (.sl .str) xo216)] (.tup [.v .bool true, .v .bool true]) [])
    {e : AEx} {st : St} (next : RestSC cfg.P 2 (rest P_laws_FnForestsStacked 27) (laws_FnForestsStacked_C27a false) e st) :
    RestSC cfg.P 2 (rest P_laws_FnForestsStacked 25) (laws_FnForestsStacked_C25a true x352 xo186 xo216 xo379) e st :=
  rest_next cfgOK (f := i_laws_FnForestsStacked) (k := 25) (m := 2) (its := [.res (.tup [.v .bool true, .v .bool true]) [] [] [], .res (.tup [.v .bool true, .v .bool true]) [] [] []])
    (ps := [SC cfg.P i_impl_IsPartOfForest [.s (.v (.sl .str) xo186), .s (.v (.sl .str) xo216)] (.tup [.v .bool true, .v .bool true]) [],
      SC cfg.P i_impl_IsPartOfForest [.s (.v (.sl .str) xo379), .s (.v (.sl .str) xo216)] (.tup [.v .bool true, .v .bool true]) []]) (st1 := laws_FnForestsStacked_C27a false) (by kernel_rfl) ⟨h1, h2, trivial⟩ next

theorem laws_FnForestsStacked_C25a_i2 (x352 : Bool) (xo186 : (List ByteArray)) (xo216 : (List ByteArray)) (xo379 : (List ByteArray))
    {e : AEx} {st : St} (next : RestSC cfg.P 2 (rest P_laws_FnForestsStacked 27) (laws_FnForestsStacked_C27b false xo186 xo216 xo379) e st) :
    RestSC cfg.P 2 (rest P_laws_FnForestsStacked 25) (laws_FnForestsStacked_C25a false x352 xo186 xo216 xo379) e st :=
  rest_next cfgOK (f := i_laws_FnForestsStacked) (k := 25) (m := 2) (its := [])
    (ps := []) (st1 := laws_FnForestsStacked_C27b false xo186 xo216 xo379) (by kernel_rfl) trivial next

theorem laws_FnForestsStacked_C25b_i1 (x35 : Bool) (x309 : Bool) (xo186 : (List ByteArray)) (xo216 : (List ByteArray)) (xo228 : (List ByteArray)) (xo379 : (List ByteArray))
    (h1 : SC cfg.P i_impl_IsPartOfForest [.s (.v (.sl .str) xo186), .s (.v (.sl .str) xo216)] (.tup [.v .bool true, .v .bool true]) [])
    (h2 : SC cfg.P i_impl_IsPartOfForest [.s (.v (.sl .str) xo379), .s (.v (.sl .str) xo216)] (.tup [.v .bool true, .v .bool true]) [])
    {e : AEx} {st : St} (next : RestSC cfg.P 2 (rest P_laws_FnForestsStacked 27) (laws_FnForestsStacked_C27a false) e st) :
    RestSC cfg.P 2 (rest P_laws_FnForestsStacked 25) (laws_FnForestsStacked_C25b x35 true x309 xo186 xo216 xo228 xo379) e st :=
  rest_next cfgOK (f := i_laws_FnForestsStacked) (k := 25) (m := 2) (its := [.res (.tup [.v .bool true, .v .bool true]) [] [] [], .res (.tup [.v .bool true, .v .bool true]) [] [] []])
    (ps := [SC cfg.P i_impl_IsPartOfForest [.s (.v (.sl .str) xo186), .s (.v (.sl .str) xo216)] (.tup [.v .bool true, .v .bool true]) [],
      SC cfg.P i_impl_IsPartOfForest [.s (.v (.sl .str) xo379), .s (.v (.sl .str) xo216)] (.tup [.v .bool true, .v .bool true]) []]) (st1 := laws_FnForestsStacked_C27a false) (by kernel_rfl) ⟨h1, h2, trivial⟩ next

theorem laws_FnForestsStacked_C25b_i2 (x35 : Bool) (x309 : Bool) (xo186 : (List ByteArray)) (xo216 : (List ByteArray)) (xo228 : (List ByteArray)) (xo379 : (List ByteArray))
    {e : AEx} {st : St} (next : RestSC cfg.P 2 (rest P_laws_FnForestsStacked 27) (laws_FnForestsStacked_C27b false xo186 xo216 xo379) e st) :
    RestSC cfg.P 2 (rest P_laws_FnForestsStacked 25) (laws_FnForestsStacked_C25b x35 false x309 xo186 xo216 xo228 xo379) e st :=
  rest_next cfgOK (f := i_laws_FnForestsStacked) (k := 25) (m := 2) (its := [])
    (ps := []) (st1 := laws_FnForestsStacked_C27b false xo186 xo216 xo379) (by kernel_rfl) trivial next

theorem laws_FnForestsStacked_C25c_i1 (x352 : Bool) (xo186 : (List ByteArray)) (xo216 : (List ByteArray)) (xo378 : (List ByteArray))
    (h1 : SC cfg.P i_impl_IsPartOfForest [.s (.v (.sl .str) xo186), .s (.v (.sl .str) xo216)] (.tup [.v .bool true, .v .bool true]) [])
    (h2 : SC cfg.P i_impl_IsPartOfForest [.s (.v (.sl .str) xo378), .s (.v (.sl .str) xo216)] (.tup [.v .bool true, .v .bool true]) [])
    {e : AEx} {st : St} (next : RestSC cfg.P 2 (rest P_laws_FnForestsStacked 27) (laws_FnForestsStacked_C27a false) e st) :
    RestSC cfg.P 2 (rest P_laws_FnForestsStacked 25) (laws_FnForestsStacked_C25c true x352 xo186 xo216 xo378) e st :=
  rest_next cfgOK (f := i_laws_FnForestsStacked) (k := 25) (m := 2) (its := [.res (.tup [.v .bool true, .v .bool true]) [] [] [], .res (.tup [.v .bool true, .v .bool true]) [] [] []])
    (ps := [SC cfg.P i_impl_IsPartOfForest [.s (.v (.sl .str) xo186), .s (.v (.sl .str) xo216)] (.tup [.v .bool true, .v .bool true]) [],
      SC cfg.P i_impl_IsPartOfForest [.s (.v (.sl .str) xo378), .s (.v (.sl .str) xo216)] (.tup [.v .bool true, .v .bool true]) []]) (st1 := laws_FnForestsStacked_C27a false) (by kernel_rfl) ⟨h1, h2, trivial⟩ next

theorem laws_FnForestsStacked_C25c_i2 (x352 : Bool) (xo186 : (List ByteArray)) (xo216 : (List ByteArray)) (xo378 : (List ByteArray))
    {e : AEx} {st : St} (next : RestSC cfg.P 2 (rest P_laws_FnForestsStacked 27) (laws_FnForestsStacked_C27c false xo186 xo216 xo378) e st) :
    RestSC cfg.P 2 (rest P_laws_FnForestsStacked 25) (laws_FnForestsStacked_C25c false x352 xo186 xo216 xo378) e st :=
  rest_next cfgOK (f := i_laws_FnForestsStacked) (k := 25) (m := 2) (its := [])
    (ps := []) (st1 := laws_FnForestsStacked_C27c false xo186 xo216 xo378) (by kernel_rfl) trivial next

theorem laws_FnForestsStacked_C25d_i1 (x35 : Bool) (x309 : Bool) (xo186 : (List ByteArray)) (xo216 : (List ByteArray)) (xo228 : (List ByteArray)) (xo378 : (List ByteArray))
    (h1 : SC cfg.P i_impl_IsPartOfForest [.s (.v (.sl .str) xo186), .s (.v (.sl .str) xo216)] (.tup [.v .bool true, .v .bool true]) [])
    (h2 : SC cfg.P i_impl_IsPartOfForest [.s (.v (.sl .str) xo378), .s (.v (.sl .str) xo216)] (.tup [.v .bool true, .v .bool true]) [])
    {e : AEx} {st : St} (next : RestSC cfg.P 2 (rest P_laws_FnForestsStacked 27) (laws_FnForestsStacked_C27a false) e st) :
    RestSC cfg.P 2 (rest P_laws_FnForestsStacked 25) (laws_FnForestsStacked_C25d x35 true x309 xo186 xo216 xo228 xo378) e st :=
  rest_next cfgOK (f := i_laws_FnForestsStacked) (k := 25) (m := 2) (its := [.res (.tup [.v .bool true, .v .bool true]) [] [] [], .res (.tup [.v .bool true, .v .bool true]) [] [] []])
    (ps := [SC cfg.P i_impl_IsPartOfForest [.s (.v (.sl .str) xo186), .s (.v (.sl .str) xo216)] (.tup [.v .bool true, .v .bool true]) [],
      SC cfg.P i_impl_IsPartOfForest [.s (.v (.sl .str) xo378), .s (.v (.sl .str) xo216)] (.tup [.v .bool true, .v .bool true]) []]) (st1 := laws_FnForestsStacked_C27a false) (by kernel_rfl) ⟨h1, h2, trivial⟩ next

theorem laws_FnForestsStacked_C25d_i2 (x35 : Bool) (x309 : Bool) (xo186 : (List ByteArray)) (xo216 : (List ByteArray)) (xo228 : (List ByteArray)) (xo378 : (List ByteArray))
    {e : AEx} {st : St} (next : RestSC cfg.P 2 (rest P_laws_FnForestsStacked 27) (laws_FnForestsStacked_C27c false xo186 xo216 xo378) e st) :
    RestSC cfg.P 2 (rest P_laws_FnForestsStacked 25) (laws_FnForestsStacked_C25d x35 false x309 xo186 xo216 xo228 xo378) e st :=
  rest_next cfgOK (f := i_laws_FnForestsStacked) (k := 25) (m := 2) (its := [])
    (ps := []) (st1 := laws_FnForestsStacked_C27c false xo186 xo216 xo378) (by kernel_rfl) trivial next

theorem laws_FnForestsStacked_C27a_x1 (x379 : Bool)
     :
    RestSC cfg.P 2 (rest P_laws_FnForestsStacked 27) (laws_FnForestsStacked_C27a x379) .ret (laws_FnForestsStacked_R1 true) :=
  rest_ret cfgOK (f := i_laws_FnForestsStacked) (k := 27) (m := 2) (its := [])
    (ps := []) (by kernel_rfl) trivial

theorem laws_FnForestsStacked_C27b_x1 (x353 : Bool) (xo186 : (List ByteArray)) (xo216 : (List ByteArray)) (xo379 : (List ByteArray))
     :
    RestSC cfg.P 2 (rest P_laws_FnForestsStacked 27) (laws_FnForestsStacked_C27b x353 xo186 xo216 xo379) .ret (laws_FnForestsStacked_R1 true) :=
  rest_ret cfgOK (f := i_laws_FnForestsStacked) (k := 27) (m := 2) (its := [])
    (ps := []) (by kernel_rfl) trivial

theorem laws_FnForestsStacked_C27c_x1 (x353 : Bool) (xo186 : (List ByteArray)) (xo216 : (List ByteArray)) (xo378 : (List ByteArray))
     :
    RestSC cfg.P 2 (rest P_laws_FnForestsStacked 27) (laws_FnForestsStacked_C27c x353 xo186 xo216 xo378) .ret (laws_FnForestsStacked_R1 true) :=
  rest_ret cfgOK (f := i_laws_FnForestsStacked) (k := 27) (m := 2) (its := [])
    (ps := []) (by kernel_rfl) trivial

theorem laws_FnForestsStacked_R1_of (a0 : (List Int)) (a1 : (List Int)) (y4 : Bool)
    (h : RestSC cfg.P 2 (rest P_laws_FnForestsStacked 0) (laws_FnForestsStacked_C0a a0 a1) .ret (laws_FnForestsStacked_R1 y4)) :
    SC cfg.P i_laws_FnForestsStacked [.s (.v (.sl (.int .u8)) a0), .s (.v (.sl (.int .u8)) a1)] (.s (.v .bool y4)) [] :=
  SC_of_rest cfgOK (f := i_laws_FnForestsStacked) h (by kernel_rfl) (by kernel_rfl) (by kernel_rfl) get_laws_FnForestsStacked (by decide)

/-! ### impl_ProductPair -/


theorem impl_ProductPair_p1 (a0 : (ByteArray × ByteArray)) (a1 : (ByteArray × ByteArray)) (c1a : (Tr × Tr)) (c1b : (Tr × Tr)) (c2 : (Tr × Tr)) (c3a : (ByteArray × ByteArray)) (c3b : Bool)
    (h1 : SC cfg.P i_impl_two [.s (.v (.pr .str .str) a0), .s (.v (.pr .str .str) a1)] (.tup [.v (.pr .tree .tree) c1a, .v (.pr .tree .tree) c1b, .v .bool true]) [])
    (h2 : SC cfg.P i_impl_pair_times [.s (.v (.pr .tree .tree) c1a), .s (.v (.pr .tree .tree) c1b)] (.s (.v (.pr .tree .tree) c2)) [])
    (h3 : SC cfg.P i_impl_pair_fits [.s (.v (.pr .tree .tree) c2)] (.tup [.v (.pr .str .str) c3a, .v .bool c3b]) []) :
    SC cfg.P i_impl_ProductPair [.s (.v (.pr .str .str) a0), .s (.v (.pr .str .str) a1)] (.tup [.v (.pr .str .str) c3a, .v .bool c3b]) [] :=
  SC_of_run cfgOK (its := [.res (.tup [.v (.pr .tree .tree) c1a, .v (.pr .tree .tree) c1b, .v .bool true]) [] [] [], .res (.s (.v (.pr .tree .tree) c2)) [] [] [], .res (.tup [.v (.pr .str .str) c3a, .v .bool c3b]) [] [] []])
    (ps := [SC cfg.P i_impl_two [.s (.v (.pr .str .str) a0), .s (.v (.pr .str .str) a1)] (.tup [.v (.pr .tree .tree) c1a, .v (.pr .tree .tree) c1b, .v .bool true]) [],
      SC cfg.P i_impl_pair_times [.s (.v (.pr .tree .tree) c1a), .s (.v (.pr .tree .tree) c1b)] (.s (.v (.pr .tree .tree) c2)) [],
      SC cfg.P i_impl_pair_fits [.s (.v (.pr .tree .tree) c2)] (.tup [.v (.pr .str .str) c3a, .v .bool c3b]) []]) (by kernel_rfl) ⟨h1, h2, h3, trivial⟩ get_impl_ProductPair (by decide)

/-! ### spec_DrawStackForests -/


theorem spec_DrawStackForests_p1 (a0 : (List Int)) (c1 : (List ByteArray)) (c1o0 : ((List Int) × (Int × Int))) (c2 : (List ByteArray)) (c2o0 : ((List Int) × (Int × Int)))
    (h1 : SC cfg.P i_spec_l1Cur_forest [.s (.mbx (.pr (.sl (.int .u8)) (.pr (.int .i64) (.int .u64))) (a0, ((0 : Int), (0 : Int)))), .s (.v (.int .i64) (4 : Int))] (.s (.own t_string .str c1)) [.box (.pr (.sl (.int .u8)) (.pr (.int .i64) (.int .u64))) c1o0])
    (h2 : SC cfg.P i_spec_l1Cur_forest [.s (.mbx (.pr (.sl (.int .u8)) (.pr (.int .i64) (.int .u64))) c1o0), .s (.v (.int .i64) (4 : Int))] (.s (.own t_string .str c2)) [.box (.pr (.sl (.int .u8)) (.pr (.int .i64) (.int .u64))) c2o0]) :
    SC cfg.P i_spec_DrawStackForests [.s (.v (.sl (.int .u8)) a0)] (.tup [.own t_string .str c1, .own t_string .str c2]) [] :=
  SC_of_run cfgOK (its := [.res (.s (.own t_string .str c1)) [.box (.pr (.sl (.int .u8)) (.pr (.int .i64) (.int .u64))) c1o0] [] [9], .res (.s (.own t_string .str c2)) [.box (.pr (.sl (.int .u8)) (.pr (.int .i64) (.int .u64))) c2o0] [] [11]])
    (ps := [SC cfg.P i_spec_l1Cur_forest [.s (.mbx (.pr (.sl (.int .u8)) (.pr (.int .i64) (.int .u64))) (a0, ((0 : Int), (0 : Int)))), .s (.v (.int .i64) (4 : Int))] (.s (.own t_string .str c1)) [.box (.pr (.sl (.int .u8)) (.pr (.int .i64) (.int .u64))) c1o0],
      SC cfg.P i_spec_l1Cur_forest [.s (.mbx (.pr (.sl (.int .u8)) (.pr (.int .i64) (.int .u64))) c1o0), .s (.v (.int .i64) (4 : Int))] (.s (.own t_string .str c2)) [.box (.pr (.sl (.int .u8)) (.pr (.int .i64) (.int .u64))) c2o0]]) (by kernel_rfl) ⟨h1, h2, trivial⟩ get_spec_DrawStackForests (by decide)

/-! ### impl_StackForests -/


theorem impl_StackForests_p1 (a0 : (List ByteArray)) (a1 : (List ByteArray)) (c1a : (List Tr)) (c1b : (List Tr)) (c2 : (List Tr)) (c3a : (List ByteArray)) (c3b : Bool)
    (h1 : SC cfg.P i_impl_twoForests [.s (.v (.sl .str) a0), .s (.v (.sl .str) a1)] (.tup [.v (.sl .tree) c1a, .v (.sl .tree) c1b, .v .bool true]) [])
    (h2 : SC cfg.P i_impl_forest_stack [.s (.v (.sl .tree) c1a), .s (.v (.sl .tree) c1b)] (.s (.own t_pimpl_node .tree c2)) [])
    (h3 : SC cfg.P i_impl_forest_texts [.s (.v (.sl .tree) c2)] (.tup [.own t_string .str c3a, .v .bool c3b]) []) :
    SC cfg.P i_impl_StackForests [.s (.v (.sl .str) a0), .s (.v (.sl .str) a1)] (.tup [.own t_string .str c3a, .v .bool c3b]) [] :=
  SC_of_run cfgOK (its := [.res (.tup [.v (.sl .tree) c1a, .v (.sl .tree) c1b, .v .bool true]) [] [] [], .res (.s (.own t_pimpl_node .tree c2)) [] [] [20], .res (.tup [.own t_string .str c3a, .v .bool c3b]) [] [] [22]])
    (ps := [SC cfg.P i_impl_twoForests [.s (.v (.sl .str) a0), .s (.v (.sl .str) a1)] (.tup [.v (.sl .tree) c1a, .v (.sl .tree) c1b, .v .bool true]) [],
      SC cfg.P i_impl_forest_stack [.s (.v (.sl .tree) c1a), .s (.v (.sl .tree) c1b)] (.s (.own t_pimpl_node .tree c2)) [],
      SC cfg.P i_impl_forest_texts [.s (.v (.sl .tree) c2)] (.tup [.own t_string .str c3a, .v .bool c3b]) []]) (by kernel_rfl) ⟨h1, h2, h3, trivial⟩ get_impl_StackForests (by decide)

theorem impl_StackForests_p2 (a0 : (List ByteArray)) (a1 : (List ByteArray)) (c1a : (List Tr)) (c1b : (List Tr))
    (h1 : SC cfg.P i_impl_twoForests [.s (.v (.sl .str) a0), .s (.v (.sl .str) a1)] (.tup [.v (.sl .tree) c1a, .v (.sl .tree) c1b, .v .bool false]) []) :
    SC cfg.P i_impl_StackForests [.s (.v (.sl .str) a0), .s (.v (.sl .str) a1)] (.tup [.own t_string .str ([] : List ByteArray), .v .bool false]) [] :=
  SC_of_run cfgOK (its := [.res (.tup [.v (.sl .tree) c1a, .v (.sl .tree) c1b, .v .bool false]) [] [] []])
    (ps := [SC cfg.P i_impl_twoForests [.s (.v (.sl .str) a0), .s (.v (.sl .str) a1)] (.tup [.v (.sl .tree) c1a, .v (.sl .tree) c1b, .v .bool false]) []]) (by kernel_rfl) ⟨h1, trivial⟩ get_impl_StackForests (by decide)

/-! ### spec_StackForests -/


theorem spec_StackForests_p1 (a0 : (List ByteArray)) (a1 : (List ByteArray)) (c3 : (List ByteArray)) (c4a : (List ByteArray)) (c4b : Bool)
    (h1 : SC cfg.P i_spec_foGood [.s (.v (.sl .str) a0)] (.s (.v .bool true)) [])
    (h2 : SC cfg.P i_spec_foGood [.s (.v (.sl .str) a1)] (.s (.v .bool true)) [])
    (h3 : SC cfg.P i_spec_foStack [.s (.v (.sl .str) a0), .s (.v (.sl .str) a1)] (.s (.own t_string .str c3)) [])
    (h4 : SC cfg.P i_spec_foIf [.s (.v (.sl .str) c3)] (.tup [.own t_string .str c4a, .v .bool c4b]) []) :
    SC cfg.P i_spec_StackForests [.s (.v (.sl .str) a0), .s (.v (.sl .str) a1)] (.tup [.own t_string .str c4a, .v .bool c4b]) [] :=
  SC_of_run cfgOK (its := [.res (.s (.v .bool true)) [] [] [], .res (.s (.v .bool true)) [] [] [], .res (.s (.own t_string .str c3)) [] [] [16], .res (.tup [.own t_string .str c4a, .v .bool c4b]) [] [] [18]])
    (ps := [SC cfg.P i_spec_foGood [.s (.v (.sl .str) a0)] (.s (.v .bool true)) [],
      SC cfg.P i_spec_foGood [.s (.v (.sl .str) a1)] (.s (.v .bool true)) [],
      SC cfg.P i_spec_foStack [.s (.v (.sl .str) a0), .s (.v (.sl .str) a1)] (.s (.own t_string .str c3)) [],
      SC cfg.P i_spec_foIf [.s (.v (.sl .str) c3)] (.tup [.own t_string .str c4a, .v .bool c4b]) []]) (by kernel_rfl) ⟨h1, h2, h3, h4, trivial⟩ get_spec_StackForests (by decide)

theorem spec_StackForests_p2 (a0 : (List ByteArray)) (a1 : (List ByteArray))
    (h1 : SC cfg.P i_spec_foGood [.s (.v (.sl .str) a0)] (.s (.v .bool true)) [])
    (h2 : SC cfg.P i_spec_foGood [.s (.v (.sl .str) a1)] (.s (.v .bool false)) []) :
    SC cfg.P i_spec_StackForests [.s (.v (.sl .str) a0), .s (.v (.sl .str) a1)] (.tup [.own t_string .str ([] : List ByteArray), .v .bool false]) [] :=
  SC_of_run cfgOK (its := [.res (.s (.v .bool true)) [] [] [], .res (.s (.v .bool false)) [] [] []])
    (ps := [SC cfg.P i_spec_foGood [.s (.v (.sl .str) a0)] (.s (.v .bool true)) [],
      SC cfg.P i_spec_foGood [.s (.v (.sl .str) a1)] (.s (.v .bool false)) []]) (by kernel_rfl) ⟨h1, h2, trivial⟩ get_spec_StackForests (by decide)

theorem spec_StackForests_p3 (a0 : (List ByteArray)) (a1 : (List ByteArray))
    (h1 : SC cfg.P i_spec_foGood [.s (.v (.sl .str) a0)] (.s (.v .bool false)) []) :
    SC cfg.P i_spec_StackForests [.s (.v (.sl .str) a0), .s (.v (.sl .str) a1)] (.tup [.own t_string .str ([] : List ByteArray), .v .bool false]) [] :=
  SC_of_run cfgOK (its := [.res (.s (.v .bool false)) [] [] []])
    (ps := [SC cfg.P i_spec_foGood [.s (.v (.sl .str) a0)] (.s (.v .bool false)) []]) (by kernel_rfl) ⟨h1, trivial⟩ get_spec_StackForests (by decide)

/-! ### impl_CountForestCarets -/


theorem impl_CountForestCarets_p1 (a0 : (List ByteArray)) (c1a : (List Tr)) (c2 : Int)
    (h1 : SC cfg.P i_impl_forestOf [.s (.v (.sl .str) a0)] (.tup [.v (.sl .tree) c1a, .v .bool true]) [])
    (h2 : SC cfg.P i_impl_forest_carets [.s (.v (.sl .tree) c1a)] (.s (.v (.int .i64) c2)) []) :
    SC cfg.P i_impl_CountForestCarets [.s (.v (.sl .str) a0)] (.tup [.v (.int .i64) c2, .v .bool true]) [] :=
  SC_of_run cfgOK (its := [.res (.tup [.v (.sl .tree) c1a, .v .bool true]) [] [] [], .res (.s (.v (.int .i64) c2)) [] [] []])
    (ps := [SC cfg.P i_impl_forestOf [.s (.v (.sl .str) a0)] (.tup [.v (.sl .tree) c1a, .v .bool true]) [],
      SC cfg.P i_impl_forest_carets [.s (.v (.sl .tree) c1a)] (.s (.v (.int .i64) c2)) []]) (by kernel_rfl) ⟨h1, h2, trivial⟩ get_impl_CountForestCarets (by decide)

/-! ### impl_IsPartOfForest -/


theorem impl_IsPartOfForest_p1 (a0 : (List ByteArray)) (a1 : (List ByteArray)) (c1a : (List Tr)) (c1b : (List Tr)) (c2 : Bool)
    (h1 : SC cfg.P i_impl_twoForests [.s (.v (.sl .str) a0), .s (.v (.sl .str) a1)] (.tup [.v (.sl .tree) c1a, .v (.sl .tree) c1b, .v .bool true]) [])
    (h2 : SC cfg.P i_impl_isPartOf [.s (.v (.sl .tree) c1a), .s (.v (.sl .tree) c1b)] (.s (.v .bool c2)) []) :
    SC cfg.P i_impl_IsPartOfForest [.s (.v (.sl .str) a0), .s (.v (.sl .str) a1)] (.tup [.v .bool c2, .v .bool true]) [] :=
  SC_of_run cfgOK (its := [.res (.tup [.v (.sl .tree) c1a, .v (.sl .tree) c1b, .v .bool true]) [] [] [], .res (.s (.v .bool c2)) [] [] []])
    (ps := [SC cfg.P i_impl_twoForests [.s (.v (.sl .str) a0), .s (.v (.sl .str) a1)] (.tup [.v (.sl .tree) c1a, .v (.sl .tree) c1b, .v .bool true]) [],
      SC cfg.P i_impl_isPartOf [.s (.v (.sl .tree) c1a), .s (.v (.sl .tree) c1b)] (.s (.v .bool c2)) []]) (by kernel_rfl) ⟨h1, h2, trivial⟩ get_impl_IsPartOfForest (by decide)

theorem impl_IsPartOfForest_p2 (a0 : (List ByteArray)) (a1 : (List ByteArray)) (c1a : (List Tr)) (c1b : (List Tr))
    (h1 : SC cfg.P i_impl_twoForests [.s (.v (.sl .str) a0), .s (.v (.sl .str) a1)] (.tup [.v (.sl .tree) c1a, .v (.sl .tree) c1b, .v .bool false]) []) :
    SC cfg.P i_impl_IsPartOfForest [.s (.v (.sl .str) a0), .s (.v (.sl .str) a1)] (.tup [.v .bool false, .v .bool false]) [] :=
  SC_of_run cfgOK (its := [.res (.tup [.v (.sl .tree) c1a, .v (.sl .tree) c1b, .v .bool false]) [] [] []])
    (ps := [SC cfg.P i_impl_twoForests [.s (.v (.sl .str) a0), .s (.v (.sl .str) a1)] (.tup [.v (.sl .tree) c1a, .v (.sl .tree) c1b, .v .bool false]) []]) (by kernel_rfl) ⟨h1, trivial⟩ get_impl_IsPartOfForest (by decide)

/-! ### impl_LeftQuotient -/


def impl_LeftQuotient_L0a (x6 : (List Tr)) (x7 : (List Tr)) (x36 : Int) (x37 : Int) (xo9 : (List Tr)) : St := mkSt 69 [(6, .s (.v (.sl .tree) x6)), (7, .s (.v (.sl .tree) x7)), (9, .s (.osl 9 0)), (36, .s (.v (.int .i64) x36)), (37, .s (.v (.int .i64) x37))] [(9, .row t_pimpl_node .tree xo9 0 false)]

def impl_LeftQuotient_L1a (x6 : (List Tr)) (x7 : (List Tr)) (x12 : Tr) (x36 : Int) (x37 : Int) (x48 : Int) (x49 : Int) (xo9 : (List Tr)) (xo47 : (List ByteArray)) : St := mkSt 69 [(6, .s (.v (.sl .tree) x6)), (7, .s (.v (.sl .tree) x7)), (9, .s (.osl 9 0)), (12, .s (.v .tree x12)), (36, .s (.v (.int .i64) x36)), (37, .s (.v (.int .i64) x37)), (47, .s (.osl 47 0)), (48, .s (.v (.int .i64) x48)), (49, .s (.v (.int .i64) x49))] [(9, .row t_pimpl_node .tree xo9 0 false), (47, .row t_string .str xo47 0 false)]

def impl_LeftQuotient_L1X1 (y6 : (List Tr)) (y7 : (List Tr)) (y12 : Tr) (y36 : Int) (y37 : Int) (y48 : Int) (y49 : Int) (y50 : Bool) (yo9 : (List Tr)) (yo47 : (List ByteArray)) : St := mkSt 69 [(6, .s (.v (.sl .tree) y6)), (7, .s (.v (.sl .tree) y7)), (9, .s (.osl 9 0)), (12, .s (.v .tree y12)), (36, .s (.v (.int .i64) y36)), (37, .s (.v (.int .i64) y37)), (47, .s (.osl 47 0)), (48, .s (.v (.int .i64) y48)), (49, .s (.v (.int .i64) y49)), (50, .s (.v .bool y50))] [(9, .row t_pimpl_node .tree yo9 0 false), (47, .row t_string .str yo47 0 false)]

def impl_LeftQuotient_L0X1 (y6 : (List Tr)) (y7 : (List Tr)) (y36 : Int) (y37 : Int) (y38 : Bool) (yo9 : (List Tr)) : St := mkSt 69 [(6, .s (.v (.sl .tree) y6)), (7, .s (.v (.sl .tree) y7)), (9, .s (.osl 9 0)), (36, .s (.v (.int .i64) y36)), (37, .s (.v (.int .i64) y37)), (38, .s (.v .bool y38))] [(9, .row t_pimpl_node .tree yo9 0 false)]

theorem impl_LeftQuotient_L0a_i1 (x6 : (List Tr)) (x7 : (List Tr)) (x36 : Int) (x37 : Int) (xo9 : (List Tr)) (dc1 : Tr) (dc2 : Tr) (dc3 : (List ByteArray)) (dk1y6 : (List Tr)) (dk1y7 : (List Tr)) (dk1y12 : Tr) (dk1y36 : Int) (dk1y37 : Int) (dk1y48 : Int) (dk1y49 : Int) (dk1y50 : Bool) (dk1yo9 : (List Tr)) (dk1yo47 : (List ByteArray))
    (h1 : x37 < x36)
    (h2 : SC cfg.P i_impl_forest_tree [.s (.v (.sl .tree) x6), .s (.v (.int .i64) x37)] (.s (.v .tree dc1)) [])
    (h3 : SC cfg.P i_impl_forest_tree [.s (.v (.sl .tree) x7), .s (.v (.int .i64) x37)] (.s (.v .tree dc2)) [])
    (h4 : SC cfg.P i_impl_node_addresses [.s (.v .tree dc1), .s (.v .str (⟨#[]⟩ : ByteArray))] (.s (.own t_string .str dc3)) [])
    (h5 : LoopSC cfg.P 2 (lb P_impl_LeftQuotient 1) (impl_LeftQuotient_L1a x6 x7 dc2 x36 x37 ((List.length dc3 : Nat) : Int) (0 : Int) xo9 dc3) (.exit 2) (impl_LeftQuotient_L1X1 dk1y6 dk1y7 dk1y12 dk1y36 dk1y37 dk1y48 dk1y49 dk1y50 dk1yo9 dk1yo47))
    {e : AEx} {st : St} (next : LoopSC cfg.P 2 (lb P_impl_LeftQuotient 0) (impl_LeftQuotient_L0a dk1y6 dk1y7 dk1y36 (IntKind.wrap .i64 (dk1y37 + (1 : Int))) dk1yo9) e st) :
    LoopSC cfg.P 2 (lb P_impl_LeftQuotient 0) (impl_LeftQuotient_L0a x6 x7 x36 x37 xo9) e st :=
  loop_iter cfgOK (f := i_impl_LeftQuotient) (its := [.bool true, .res (.s (.v .tree dc1)) [] [] [], .res (.s (.v .tree dc2)) [] [] [], .res (.s (.own t_string .str dc3)) [] [] [47], .loop (fun _ => (.exit 2, impl_LeftQuotient_L1X1 dk1y6 dk1y7 dk1y12 dk1y36 dk1y37 dk1y48 dk1y49 dk1y50 dk1yo9 dk1yo47))])
    (ps := [decide (x37 < x36) = true,
      SC cfg.P i_impl_forest_tree [.s (.v (.sl .tree) x6), .s (.v (.int .i64) x37)] (.s (.v .tree dc1)) [],
      SC cfg.P i_impl_forest_tree [.s (.v (.sl .tree) x7), .s (.v (.int .i64) x37)] (.s (.v .tree dc2)) [],
      SC cfg.P i_impl_node_addresses [.s (.v .tree dc1), .s (.v .str (⟨#[]⟩ : ByteArray))] (.s (.own t_string .str dc3)) [],
      LoopSC cfg.P 2 (lb P_impl_LeftQuotient 1) (impl_LeftQuotient_L1a x6 x7 dc2 x36 x37 ((List.length dc3 : Nat) : Int) (0 : Int) xo9 dc3) (.exit 2) (impl_LeftQuotient_L1X1 dk1y6 dk1y7 dk1y12 dk1y36 dk1y37 dk1y48 dk1y49 dk1y50 dk1yo9 dk1yo47)]) (st1 := impl_LeftQuotient_L0a dk1y6 dk1y7 dk1y36 (IntKind.wrap .i64 (dk1y37 + (1 : Int))) dk1yo9) (by kernel_rfl) ⟨(decide_eq_true h1), h2, h3, h4, h5, trivial⟩ next

theorem impl_LeftQuotient_L0a_x2 (x6 : (List Tr)) (x7 : (List Tr)) (x36 : Int) (x37 : Int) (xo9 : (List Tr))
    (h1 : ¬ (x37 < x36)) :
    LoopSC cfg.P 2 (lb P_impl_LeftQuotient 0) (impl_LeftQuotient_L0a x6 x7 x36 x37 xo9) (.exit 0) (impl_LeftQuotient_L0X1 x6 x7 x36 x37 false xo9) :=
  loop_out cfgOK (f := i_impl_LeftQuotient) (its := [.bool false])
    (ps := [decide (x37 < x36) = false]) (by kernel_rfl) ⟨(decide_eq_false h1), trivial⟩ (fun h => by cases h)

theorem impl_LeftQuotient_L1a_i1 (x6 : (List Tr)) (x7 : (List Tr)) (x12 : Tr) (x36 : Int) (x37 : Int) (x48 : Int) (x49 : Int) (xo9 : (List Tr)) (xo47 : (List ByteArray)) (dc1a : Tr) (dc1b : Bool)
    (h1 : x49 < x48)
    (h2 : 0 ≤ x49)
    (h3 : x49 < (List.length xo47 : Int))
    (h4 : (x49).toNat < List.length xo47)
    (h5 : SC cfg.P i_impl_node_at [.s (.v .tree x12), .s (.v .str (List.getD xo47 (x49).toNat (⟨#[]⟩ : ByteArray)))] (.tup [.v .tree dc1a, .v .bool dc1b]) [])
    (h6 : sizeOK (List.length xo9 + List.length ([dc1a] : List Tr)))
    {e : AEx} {st : St} (next : LoopSC cfg.P 2 (lb P_impl_LeftQuotient 1) (impl_LeftQuotient_L1a x6 x7 x12 x36 x37 x48 (IntKind.wrap .i64 (x49 + (1 : Int))) (xo9 ++ ([dc1a] : List Tr)) xo47) e st) :
    LoopSC cfg.P 2 (lb P_impl_LeftQuotient 1) (impl_LeftQuotient_L1a x6 x7 x12 x36 x37 x48 x49 xo9 xo47) e st :=
  loop_iter cfgOK (f := i_impl_LeftQuotient) (its := [.bool true, .res (.tup [.v .tree dc1a, .v .bool dc1b]) [] [] []])
    (ps := [decide (x49 < x48) = true,
      0 ≤ x49,
      x49 < (List.length xo47 : Int),
      (x49).toNat < List.length xo47,
      SC cfg.P i_impl_node_at [.s (.v .tree x12), .s (.v .str (List.getD xo47 (x49).toNat (⟨#[]⟩ : ByteArray)))] (.tup [.v .tree dc1a, .v .bool dc1b]) [],
      sizeOK (List.length xo9 + List.length ([dc1a] : List Tr))]) (st1 := impl_LeftQuotient_L1a x6 x7 x12 x36 x37 x48 (IntKind.wrap .i64 (x49 + (1 : Int))) (xo9 ++ ([dc1a] : List Tr)) xo47) (by kernel_rfl) ⟨(decide_eq_true h1), h2, h3, h4, h5, h6, trivial⟩ next

theorem impl_LeftQuotient_L1a_x2 (x6 : (List Tr)) (x7 : (List Tr)) (x12 : Tr) (x36 : Int) (x37 : Int) (x48 : Int) (x49 : Int) (xo9 : (List Tr)) (xo47 : (List ByteArray))
    (h1 : ¬ (x49 < x48)) :
    LoopSC cfg.P 2 (lb P_impl_LeftQuotient 1) (impl_LeftQuotient_L1a x6 x7 x12 x36 x37 x48 x49 xo9 xo47) (.exit 2) (impl_LeftQuotient_L1X1 x6 x7 x12 x36 x37 x48 x49 false xo9 xo47) :=
  loop_out cfgOK (f := i_impl_LeftQuotient) (its := [.bool false])
    (ps := [decide (x49 < x48) = false]) (by kernel_rfl) ⟨(decide_eq_false h1), trivial⟩ (fun h => by cases h)

theorem impl_LeftQuotient_p1 (a0 : (List ByteArray)) (a1 : (List ByteArray)) (c1a : (List Tr)) (c1b : (List Tr)) (k1y6 : (List Tr)) (k1y7 : (List Tr)) (k1y36 : Int) (k1y37 : Int) (k1y38 : Bool) (k1yo9 : (List Tr)) (c3a : (List ByteArray)) (c3b : Bool)
    (h1 : SC cfg.P i_impl_twoForests [.s (.v (.sl .str) a0), .s (.v (.sl .str) a1)] (.tup [.v (.sl .tree) c1a, .v (.sl .tree) c1b, .v .bool true]) [])
    (h2 : SC cfg.P i_impl_isPartOf [.s (.v (.sl .tree) c1a), .s (.v (.sl .tree) c1b)] (.s (.v .bool true)) [])
    (h3 : LoopSC cfg.P 2 (lb P_impl_LeftQuotient 0) (impl_LeftQuotient_L0a c1a c1b (maxI ((List.length c1a : Nat) : Int) ((List.length c1b : Nat) : Int)) (0 : Int) ([] : List Tr)) (.exit 0) (impl_LeftQuotient_L0X1 k1y6 k1y7 k1y36 k1y37 k1y38 k1yo9))
    (h4 : SC cfg.P i_impl_forest_texts [.s (.v (.sl .tree) k1yo9)] (.tup [.own t_string .str c3a, .v .bool c3b]) []) :
    SC cfg.P i_impl_LeftQuotient [.s (.v (.sl .str) a0), .s (.v (.sl .str) a1)] (.tup [.own t_string .str c3a, .v .bool c3b]) [] :=
  SC_of_run cfgOK (its := [.res (.tup [.v (.sl .tree) c1a, .v (.sl .tree) c1b, .v .bool true]) [] [] [], .res (.s (.v .bool true)) [] [] [], .loop (fun _ => (.exit 0, impl_LeftQuotient_L0X1 k1y6 k1y7 k1y36 k1y37 k1y38 k1yo9)), .res (.tup [.own t_string .str c3a, .v .bool c3b]) [] [] [67]])
    (ps := [SC cfg.P i_impl_twoForests [.s (.v (.sl .str) a0), .s (.v (.sl .str) a1)] (.tup [.v (.sl .tree) c1a, .v (.sl .tree) c1b, .v .bool true]) [],
      SC cfg.P i_impl_isPartOf [.s (.v (.sl .tree) c1a), .s (.v (.sl .tree) c1b)] (.s (.v .bool true)) [],
      LoopSC cfg.P 2 (lb P_impl_LeftQuotient 0) (impl_LeftQuotient_L0a c1a c1b (maxI ((List.length c1a : Nat) : Int) ((List.length c1b : Nat) : Int)) (0 : Int) ([] : List Tr)) (.exit 0) (impl_LeftQuotient_L0X1 k1y6 k1y7 k1y36 k1y37 k1y38 k1yo9),
      SC cfg.P i_impl_forest_texts [.s (.v (.sl .tree) k1yo9)] (.tup [.own t_string .str c3a, .v .bool c3b]) []]) (by kernel_rfl) ⟨h1, h2, h3, h4, trivial⟩ get_impl_LeftQuotient (by decide)

theorem impl_LeftQuotient_p2 (a0 : (List ByteArray)) (a1 : (List ByteArray)) (c1a : (List Tr)) (c1b : (List Tr))
    (h1 : SC cfg.P i_impl_twoForests [.s (.v (.sl .str) a0), .s (.v (.sl .str) a1)] (.tup [.v (.sl .tree) c1a, .v (.sl .tree) c1b, .v .bool true]) [])
    (h2 : SC cfg.P i_impl_isPartOf [.s (.v (.sl .tree) c1a), .s (.v (.sl .tree) c1b)] (.s (.v .bool false)) []) :
    SC cfg.P i_impl_LeftQuotient [.s (.v (.sl .str) a0), .s (.v (.sl .str) a1)] (.tup [.own t_string .str ([] : List ByteArray), .v .bool false]) [] :=
  SC_of_run cfgOK (its := [.res (.tup [.v (.sl .tree) c1a, .v (.sl .tree) c1b, .v .bool true]) [] [] [], .res (.s (.v .bool false)) [] [] []])
    (ps := [SC cfg.P i_impl_twoForests [.s (.v (.sl .str) a0), .s (.v (.sl .str) a1)] (.tup [.v (.sl .tree) c1a, .v (.sl .tree) c1b, .v .bool true]) [],
      SC cfg.P i_impl_isPartOf [.s (.v (.sl .tree) c1a), .s (.v (.sl .tree) c1b)] (.s (.v .bool false)) []]) (by kernel_rfl) ⟨h1, h2, trivial⟩ get_impl_LeftQuotient (by decide)

theorem impl_LeftQuotient_p3 (a0 : (List ByteArray)) (a1 : (List ByteArray)) (c1a : (List Tr)) (c1b : (List Tr))
    (h1 : SC cfg.P i_impl_twoForests [.s (.v (.sl .str) a0), .s (.v (.sl .str) a1)] (.tup [.v (.sl .tree) c1a, .v (.sl .tree) c1b, .v .bool false]) []) :
    SC cfg.P i_impl_LeftQuotient [.s (.v (.sl .str) a0), .s (.v (.sl .str) a1)] (.tup [.own t_string .str ([] : List ByteArray), .v .bool false]) [] :=
  SC_of_run cfgOK (its := [.res (.tup [.v (.sl .tree) c1a, .v (.sl .tree) c1b, .v .bool false]) [] [] []])
    (ps := [SC cfg.P i_impl_twoForests [.s (.v (.sl .str) a0), .s (.v (.sl .str) a1)] (.tup [.v (.sl .tree) c1a, .v (.sl .tree) c1b, .v .bool false]) []]) (by kernel_rfl) ⟨h1, trivial⟩ get_impl_LeftQuotient (by decide)

/-! ### impl_PairOfForest -/


theorem impl_PairOfForest_p1 (a0 : (List ByteArray)) (c1a : (List Tr)) (c2 : (Tr × Tr)) (c3a : (ByteArray × ByteArray)) (c3b : Bool)
    (h1 : SC cfg.P i_impl_forestOf [.s (.v (.sl .str) a0)] (.tup [.v (.sl .tree) c1a, .v .bool true]) [])
    (h2 : SC cfg.P i_impl_forest_pair [.s (.v (.sl .tree) c1a)] (.s (.v (.pr .tree .tree) c2)) [])
    (h3 : SC cfg.P i_impl_pair_fits [.s (.v (.pr .tree .tree) c2)] (.tup [.v (.pr .str .str) c3a, .v .bool c3b]) []) :
    SC cfg.P i_impl_PairOfForest [.s (.v (.sl .str) a0)] (.tup [.v (.pr .str .str) c3a, .v .bool c3b]) [] :=
  SC_of_run cfgOK (its := [.res (.tup [.v (.sl .tree) c1a, .v .bool true]) [] [] [], .res (.s (.v (.pr .tree .tree) c2)) [] [] [], .res (.tup [.v (.pr .str .str) c3a, .v .bool c3b]) [] [] []])
    (ps := [SC cfg.P i_impl_forestOf [.s (.v (.sl .str) a0)] (.tup [.v (.sl .tree) c1a, .v .bool true]) [],
      SC cfg.P i_impl_forest_pair [.s (.v (.sl .tree) c1a)] (.s (.v (.pr .tree .tree) c2)) [],
      SC cfg.P i_impl_pair_fits [.s (.v (.pr .tree .tree) c2)] (.tup [.v (.pr .str .str) c3a, .v .bool c3b]) []]) (by kernel_rfl) ⟨h1, h2, h3, trivial⟩ get_impl_PairOfForest (by decide)

/-! ### spec_DrawLeftQuotient -/


theorem spec_DrawLeftQuotient_p1 (a0 : (List Int)) (c1a : (List ByteArray)) (c1b : (List ByteArray))
    (h1 : SC cfg.P i_spec_DrawIsPartOfForest [.s (.v (.sl (.int .u8)) a0)] (.tup [.own t_string .str c1a, .own t_string .str c1b]) []) :
    SC cfg.P i_spec_DrawLeftQuotient [.s (.v (.sl (.int .u8)) a0)] (.tup [.own t_string .str c1a, .own t_string .str c1b]) [] :=
  SC_of_run cfgOK (its := [.res (.tup [.own t_string .str c1a, .own t_string .str c1b]) [] [] [6, 7]])
    (ps := [SC cfg.P i_spec_DrawIsPartOfForest [.s (.v (.sl (.int .u8)) a0)] (.tup [.own t_string .str c1a, .own t_string .str c1b]) []]) (by kernel_rfl) ⟨h1, trivial⟩ get_spec_DrawLeftQuotient (by decide)

/-! ### spec_LeftQuotient -/


def spec_LeftQuotient_L0a (x0 : (List ByteArray)) (x1 : (List ByteArray)) (x7 : Int) (xo6 : (List ByteArray)) : St := mkSt 47 [(0, .s (.v (.sl .str) x0)), (1, .s (.v (.sl .str) x1)), (6, .s (.osl 6 0)), (7, .s (.v (.int .i64) x7))] [(6, .row t_string .str xo6 0 false)]

def spec_LeftQuotient_L0X1 (y0 : (List ByteArray)) (y1 : (List ByteArray)) (y7 : Int) (y31 : Bool) (yo6 : (List ByteArray)) : St := mkSt 47 [(0, .s (.v (.sl .str) y0)), (1, .s (.v (.sl .str) y1)), (6, .s (.osl 6 0)), (7, .s (.v (.int .i64) y7)), (31, .s (.v .bool y31))] [(6, .row t_string .str yo6 0 false)]

theorem spec_LeftQuotient_L0a_i1 (x0 : (List ByteArray)) (x1 : (List ByteArray)) (x7 : Int) (xo6 : (List ByteArray)) (dc1 : ByteArray) (dc2 : ByteArray) (dc3 : (List ByteArray))
    (h1 : x7 < ((List.length x0 : Nat) : Int))
    (h2 : SC cfg.P i_spec_foTree [.s (.v (.sl .str) x0), .s (.v (.int .i64) x7)] (.s (.v .str dc1)) [])
    (h3 : SC cfg.P i_spec_foTree [.s (.v (.sl .str) x1), .s (.v (.int .i64) x7)] (.s (.v .str dc2)) [])
    (h4 : SC cfg.P i_spec_prParts [.s (.v .str dc1), .s (.v .str dc2)] (.s (.own t_string .str dc3)) [])
    (h5 : sizeOK (List.length xo6 + List.length dc3))
    {e : AEx} {st : St} (next : LoopSC cfg.P 2 (lb P_spec_LeftQuotient 0) (spec_LeftQuotient_L0a x0 x1 (IntKind.wrap .i64 (x7 + (1 : Int))) (xo6 ++ dc3)) e st) :
    LoopSC cfg.P 2 (lb P_spec_LeftQuotient 0) (spec_LeftQuotient_L0a x0 x1 x7 xo6) e st :=
  loop_iter cfgOK (f := i_spec_LeftQuotient) (its := [.bool true, .res (.s (.v .str dc1)) [] [] [], .res (.s (.v .str dc2)) [] [] [], .res (.s (.own t_string .str dc3)) [] [] [41]])
    (ps := [decide (x7 < ((List.length x0 : Nat) : Int)) = true,
      SC cfg.P i_spec_foTree [.s (.v (.sl .str) x0), .s (.v (.int .i64) x7)] (.s (.v .str dc1)) [],
      SC cfg.P i_spec_foTree [.s (.v (.sl .str) x1), .s (.v (.int .i64) x7)] (.s (.v .str dc2)) [],
      SC cfg.P i_spec_prParts [.s (.v .str dc1), .s (.v .str dc2)] (.s (.own t_string .str dc3)) [],
      sizeOK (List.length xo6 + List.length dc3)]) (st1 := spec_LeftQuotient_L0a x0 x1 (IntKind.wrap .i64 (x7 + (1 : Int))) (xo6 ++ dc3)) (by kernel_rfl) ⟨(decide_eq_true h1), h2, h3, h4, h5, trivial⟩ next

theorem spec_LeftQuotient_L0a_i2 (x0 : (List ByteArray)) (x1 : (List ByteArray)) (x7 : Int) (xo6 : (List ByteArray)) (dc1 : ByteArray) (dc2 : ByteArray) (dc3 : (List ByteArray))
    (h1 : ¬ (x7 < ((List.length x0 : Nat) : Int)))
    (h2 : x7 < ((List.length x1 : Nat) : Int))
    (h3 : SC cfg.P i_spec_foTree [.s (.v (.sl .str) x0), .s (.v (.int .i64) x7)] (.s (.v .str dc1)) [])
    (h4 : SC cfg.P i_spec_foTree [.s (.v (.sl .str) x1), .s (.v (.int .i64) x7)] (.s (.v .str dc2)) [])
    (h5 : SC cfg.P i_spec_prParts [.s (.v .str dc1), .s (.v .str dc2)] (.s (.own t_string .str dc3)) [])
    (h6 : sizeOK (List.length xo6 + List.length dc3))
    {e : AEx} {st : St} (next : LoopSC cfg.P 2 (lb P_spec_LeftQuotient 0) (spec_LeftQuotient_L0a x0 x1 (IntKind.wrap .i64 (x7 + (1 : Int))) (xo6 ++ dc3)) e st) :
    LoopSC cfg.P 2 (lb P_spec_LeftQuotient 0) (spec_LeftQuotient_L0a x0 x1 x7 xo6) e st :=
  loop_iter cfgOK (f := i_spec_LeftQuotient) (its := [.bool false, .bool true, .res (.s (.v .str dc1)) [] [] [], .res (.s (.v .str dc2)) [] [] [], .res (.s (.own t_string .str dc3)) [] [] [41]])
    (ps := [decide (x7 < ((List.length x0 : Nat) : Int)) = false,
      decide (x7 < ((List.length x1 : Nat) : Int)) = true,
      SC cfg.P i_spec_foTree [.s (.v (.sl .str) x0), .s (.v (.int .i64) x7)] (.s (.v .str dc1)) [],
      SC cfg.P i_spec_foTree [.s (.v (.sl .str) x1), .s (.v (.int .i64) x7)] (.s (.v .str dc2)) [],
      SC cfg.P i_spec_prParts [.s (.v .str dc1), .s (.v .str dc2)] (.s (.own t_string .str dc3)) [],
      sizeOK (List.length xo6 + List.length dc3)]) (st1 := spec_LeftQuotient_L0a x0 x1 (IntKind.wrap .i64 (x7 + (1 : Int))) (xo6 ++ dc3)) (by kernel_rfl) ⟨(decide_eq_false h1), (decide_eq_true h2), h3, h4, h5, h6, trivial⟩ next

theorem spec_LeftQuotient_L0a_x3 (x0 : (List ByteArray)) (x1 : (List ByteArray)) (x7 : Int) (xo6 : (List ByteArray))
    (h1 : ¬ (x7 < ((List.length x0 : Nat) : Int)))
    (h2 : ¬ (x7 < ((List.length x1 : Nat) : Int))) :
    LoopSC cfg.P 2 (lb P_spec_LeftQuotient 0) (spec_LeftQuotient_L0a x0 x1 x7 xo6) (.exit 0) (spec_LeftQuotient_L0X1 x0 x1 x7 false xo6) :=
  loop_out cfgOK (f := i_spec_LeftQuotient) (its := [.bool false, .bool false])
    (ps := [decide (x7 < ((List.length x0 : Nat) : Int)) = false,
      decide (x7 < ((List.length x1 : Nat) : Int)) = false]) (by kernel_rfl) ⟨(decide_eq_false h1), (decide_eq_false h2), trivial⟩ (fun h => by cases h)

theorem spec_LeftQuotient_p1 (a0 : (List ByteArray)) (a1 : (List ByteArray)) (k1y0 : (List ByteArray)) (k1y1 : (List ByteArray)) (k1y7 : Int) (k1y31 : Bool) (k1yo6 : (List ByteArray)) (c4a : (List ByteArray)) (c4b : Bool)
    (h1 : SC cfg.P i_spec_foGood [.s (.v (.sl .str) a0)] (.s (.v .bool true)) [])
    (h2 : SC cfg.P i_spec_foGood [.s (.v (.sl .str) a1)] (.s (.v .bool true)) [])
    (h3 : SC cfg.P i_spec_foPart [.s (.v (.sl .str) a0), .s (.v (.sl .str) a1)] (.s (.v .bool true)) [])
    (h4 : LoopSC cfg.P 2 (lb P_spec_LeftQuotient 0) (spec_LeftQuotient_L0a a0 a1 (0 : Int) ([] : List ByteArray)) (.exit 0) (spec_LeftQuotient_L0X1 k1y0 k1y1 k1y7 k1y31 k1yo6))
    (h5 : SC cfg.P i_spec_foIf [.s (.v (.sl .str) k1yo6)] (.tup [.own t_string .str c4a, .v .bool c4b]) []) :
    SC cfg.P i_spec_LeftQuotient [.s (.v (.sl .str) a0), .s (.v (.sl .str) a1)] (.tup [.own t_string .str c4a, .v .bool c4b]) [] :=
  SC_of_run cfgOK (its := [.res (.s (.v .bool true)) [] [] [], .res (.s (.v .bool true)) [] [] [], .res (.s (.v .bool true)) [] [] [], .loop (fun _ => (.exit 0, spec_LeftQuotient_L0X1 k1y0 k1y1 k1y7 k1y31 k1yo6)), .res (.tup [.own t_string .str c4a, .v .bool c4b]) [] [] [45]])
    (ps := [SC cfg.P i_spec_foGood [.s (.v (.sl .str) a0)] (.s (.v .bool true)) [],
      SC cfg.P i_spec_foGood [.s (.v (.sl .str) a1)] (.s (.v .bool true)) [],
      SC cfg.P i_spec_foPart [.s (.v (.sl .str) a0), .s (.v (.sl .str) a1)] (.s (.v .bool true)) [],
      LoopSC cfg.P 2 (lb P_spec_LeftQuotient 0) (spec_LeftQuotient_L0a a0 a1 (0 : Int) ([] : List ByteArray)) (.exit 0) (spec_LeftQuotient_L0X1 k1y0 k1y1 k1y7 k1y31 k1yo6),
      SC cfg.P i_spec_foIf [.s (.v (.sl .str) k1yo6)] (.tup [.own t_string .str c4a, .v .bool c4b]) []]) (by kernel_rfl) ⟨h1, h2, h3, h4, h5, trivial⟩ get_spec_LeftQuotient (by decide)

theorem spec_LeftQuotient_p2 (a0 : (List ByteArray)) (a1 : (List ByteArray))
    (h1 : SC cfg.P i_spec_foGood [.s (.v (.sl .str) a0)] (.s (.v .bool true)) [])
    (h2 : SC cfg.P i_spec_foGood [.s (.v (.sl .str) a1)] (.s (.v .bool true)) [])
    (h3 : SC cfg.P i_spec_foPart [.s (.v (.sl .str) a0), .s (.v (.sl .str) a1)] (.s (.v .bool false)) []) :
    SC cfg.P i_spec_LeftQuotient [.s (.v (.sl .str) a0), .s (.v (.sl .str) a1)] (.tup [.own t_string .str ([] : List ByteArray), .v .bool false]) [] :=
  SC_of_run cfgOK (its := [.res (.s (.v .bool true)) [] [] [], .res (.s (.v .bool true)) [] [] [], .res (.s (.v .bool false)) [] [] []])
    (ps := [SC cfg.P i_spec_foGood [.s (.v (.sl .str) a0)] (.s (.v .bool true)) [],
      SC cfg.P i_spec_foGood [.s (.v (.sl .str) a1)] (.s (.v .bool true)) [],
      SC cfg.P i_spec_foPart [.s (.v (.sl .str) a0), .s (.v (.sl .str) a1)] (.s (.v .bool false)) []]) (by kernel_rfl) ⟨h1, h2, h3, trivial⟩ get_spec_LeftQuotient (by decide)

theorem spec_LeftQuotient_p3 (a0 : (List ByteArray)) (a1 : (List ByteArray))
    (h1 : SC cfg.P i_spec_foGood [.s (.v (.sl .str) a0)] (.s (.v .bool true)) [])
    (h2 : SC cfg.P i_spec_foGood [.s (.v (.sl .str) a1)] (.s (.v .bool false)) []) :
    SC cfg.P i_spec_LeftQuotient [.s (.v (.sl .str) a0), .s (.v (.sl .str) a1)] (.tup [.own t_string .str ([] : List ByteArray), .v .bool false]) [] :=
  SC_of_run cfgOK (its := [.res (.s (.v .bool true)) [] [] [], .res (.s (.v .bool false)) [] [] []])
    (ps := [SC cfg.P i_spec_foGood [.s (.v (.sl .str) a0)] (.s (.v .bool true)) [],
      SC cfg.P i_spec_foGood [.s (.v (.sl .str) a1)] (.s (.v .bool false)) []]) (by kernel_rfl) ⟨h1, h2, trivial⟩ get_spec_LeftQuotient (by decide)

theorem spec_LeftQuotient_p4 (a0 : (List ByteArray)) (a1 : (List ByteArray))
    (h1 : SC cfg.P i_spec_foGood [.s (.v (.sl .str) a0)] (.s (.v .bool false)) []) :
    SC cfg.P i_spec_LeftQuotient [.s (.v (.sl .str) a0), .s (.v (.sl .str) a1)] (.tup [.own t_string .str ([] : List ByteArray), .v .bool false]) [] :=
  SC_of_run cfgOK (its := [.res (.s (.v .bool false)) [] [] []])
    (ps := [SC cfg.P i_spec_foGood [.s (.v (.sl .str) a0)] (.s (.v .bool false)) []]) (by kernel_rfl) ⟨h1, trivial⟩ get_spec_LeftQuotient (by decide)

/-! ### spec_IsPartOfForest -/


theorem spec_IsPartOfForest_p1 (a0 : (List ByteArray)) (a1 : (List ByteArray)) (c3 : Bool)
    (h1 : SC cfg.P i_spec_foGood [.s (.v (.sl .str) a0)] (.s (.v .bool true)) [])
    (h2 : SC cfg.P i_spec_foGood [.s (.v (.sl .str) a1)] (.s (.v .bool true)) [])
    (h3 : SC cfg.P i_spec_foPart [.s (.v (.sl .str) a0), .s (.v (.sl .str) a1)] (.s (.v .bool c3)) []) :
    SC cfg.P i_spec_IsPartOfForest [.s (.v (.sl .str) a0), .s (.v (.sl .str) a1)] (.tup [.v .bool c3, .v .bool true]) [] :=
  SC_of_run cfgOK (its := [.res (.s (.v .bool true)) [] [] [], .res (.s (.v .bool true)) [] [] [], .res (.s (.v .bool c3)) [] [] []])
    (ps := [SC cfg.P i_spec_foGood [.s (.v (.sl .str) a0)] (.s (.v .bool true)) [],
      SC cfg.P i_spec_foGood [.s (.v (.sl .str) a1)] (.s (.v .bool true)) [],
      SC cfg.P i_spec_foPart [.s (.v (.sl .str) a0), .s (.v (.sl .str) a1)] (.s (.v .bool c3)) []]) (by kernel_rfl) ⟨h1, h2, h3, trivial⟩ get_spec_IsPartOfForest (by decide)

theorem spec_IsPartOfForest_p2 (a0 : (List ByteArray)) (a1 : (List ByteArray))
    (h1 : SC cfg.P i_spec_foGood [.s (.v (.sl .str) a0)] (.s (.v .bool true)) [])
    (h2 : SC cfg.P i_spec_foGood [.s (.v (.sl .str) a1)] (.s (.v .bool false)) []) :
    SC cfg.P i_spec_IsPartOfForest [.s (.v (.sl .str) a0), .s (.v (.sl .str) a1)] (.tup [.v .bool false, .v .bool false]) [] :=
  SC_of_run cfgOK (its := [.res (.s (.v .bool true)) [] [] [], .res (.s (.v .bool false)) [] [] []])
    (ps := [SC cfg.P i_spec_foGood [.s (.v (.sl .str) a0)] (.s (.v .bool true)) [],
      SC cfg.P i_spec_foGood [.s (.v (.sl .str) a1)] (.s (.v .bool false)) []]) (by kernel_rfl) ⟨h1, h2, trivial⟩ get_spec_IsPartOfForest (by decide)

theorem spec_IsPartOfForest_p3 (a0 : (List ByteArray)) (a1 : (List ByteArray))
    (h1 : SC cfg.P i_spec_foGood [.s (.v (.sl .str) a0)] (.s (.v .bool false)) []) :
    SC cfg.P i_spec_IsPartOfForest [.s (.v (.sl .str) a0), .s (.v (.sl .str) a1)] (.tup [.v .bool false, .v .bool false]) [] :=
  SC_of_run cfgOK (its := [.res (.s (.v .bool false)) [] [] []])
    (ps := [SC cfg.P i_spec_foGood [.s (.v (.sl .str) a0)] (.s (.v .bool false)) []]) (by kernel_rfl) ⟨h1, trivial⟩ get_spec_IsPartOfForest (by decide)

/-! ### impl_JoinForests -/


theorem impl_JoinForests_p1 (a0 : (List ByteArray)) (a1 : (List ByteArray)) (c1a : (List Tr)) (c1b : (List Tr)) (c2 : (List Tr)) (c3a : (List ByteArray)) (c3b : Bool)
    (h1 : SC cfg.P i_impl_twoForests [.s (.v (.sl .str) a0), .s (.v (.sl .str) a1)] (.tup [.v (.sl .tree) c1a, .v (.sl .tree) c1b, .v .bool true]) [])
    (h2 : SC cfg.P i_impl_each [.s (.v (.sl .tree) c1a), .s (.v (.sl .tree) c1b), .fn i_impl_join [] []] (.s (.own t_pimpl_node .tree c2)) [])
    (h3 : SC cfg.P i_impl_forest_texts [.s (.v (.sl .tree) c2)] (.tup [.own t_string .str c3a, .v .bool c3b]) []) :
    SC cfg.P i_impl_JoinForests [.s (.v (.sl .str) a0), .s (.v (.sl .str) a1)] (.tup [.own t_string .str c3a, .v .bool c3b]) [] :=
  SC_of_run cfgOK (its := [.res (.tup [.v (.sl .tree) c1a, .v (.sl .tree) c1b, .v .bool true]) [] [] [], .res (.s (.own t_pimpl_node .tree c2)) [] [] [20], .res (.tup [.own t_string .str c3a, .v .bool c3b]) [] [] [22]])
    (ps := [SC cfg.P i_impl_twoForests [.s (.v (.sl .str) a0), .s (.v (.sl .str) a1)] (.tup [.v (.sl .tree) c1a, .v (.sl .tree) c1b, .v .bool true]) [],
      SC cfg.P i_impl_each [.s (.v (.sl .tree) c1a), .s (.v (.sl .tree) c1b), .fn i_impl_join [] []] (.s (.own t_pimpl_node .tree c2)) [],
      SC cfg.P i_impl_forest_texts [.s (.v (.sl .tree) c2)] (.tup [.own t_string .str c3a, .v .bool c3b]) []]) (by kernel_rfl) ⟨h1, h2, h3, trivial⟩ get_impl_JoinForests (by decide)

theorem impl_JoinForests_p2 (a0 : (List ByteArray)) (a1 : (List ByteArray)) (c1a : (List Tr)) (c1b : (List Tr))
    (h1 : SC cfg.P i_impl_twoForests [.s (.v (.sl .str) a0), .s (.v (.sl .str) a1)] (.tup [.v (.sl .tree) c1a, .v (.sl .tree) c1b, .v .bool false]) []) :
    SC cfg.P i_impl_JoinForests [.s (.v (.sl .str) a0), .s (.v (.sl .str) a1)] (.tup [.own t_string .str ([] : List ByteArray), .v .bool false]) [] :=
  SC_of_run cfgOK (its := [.res (.tup [.v (.sl .tree) c1a, .v (.sl .tree) c1b, .v .bool false]) [] [] []])
    (ps := [SC cfg.P i_impl_twoForests [.s (.v (.sl .str) a0), .s (.v (.sl .str) a1)] (.tup [.v (.sl .tree) c1a, .v (.sl .tree) c1b, .v .bool false]) []]) (by kernel_rfl) ⟨h1, trivial⟩ get_impl_JoinForests (by decide)

/-! ### spec_JoinForests -/


def spec_JoinForests_L0a (x0 : (List ByteArray)) (x1 : (List ByteArray)) (x7 : Int) (xo6 : (List ByteArray)) : St := mkSt 42 [(0, .s (.v (.sl .str) x0)), (1, .s (.v (.sl .str) x1)), (6, .s (.osl 6 0)), (7, .s (.v (.int .i64) x7))] [(6, .row t_string .str xo6 0 false)]

def spec_JoinForests_L0X1 (y0 : (List ByteArray)) (y1 : (List ByteArray)) (y7 : Int) (y25 : Bool) (yo6 : (List ByteArray)) : St := mkSt 42 [(0, .s (.v (.sl .str) y0)), (1, .s (.v (.sl .str) y1)), (6, .s (.osl 6 0)), (7, .s (.v (.int .i64) y7)), (25, .s (.v .bool y25))] [(6, .row t_string .str yo6 0 false)]

theorem spec_JoinForests_L0a_i1 (x0 : (List ByteArray)) (x1 : (List ByteArray)) (x7 : Int) (xo6 : (List ByteArray)) (dc1 : ByteArray) (dc2 : ByteArray) (dc3 : ByteArray)
    (h1 : x7 < ((List.length x0 : Nat) : Int))
    (h2 : SC cfg.P i_spec_foTree [.s (.v (.sl .str) x0), .s (.v (.int .i64) x7)] (.s (.v .str dc1)) [])
    (h3 : SC cfg.P i_spec_foTree [.s (.v (.sl .str) x1), .s (.v (.int .i64) x7)] (.s (.v .str dc2)) [])
    (h4 : SC cfg.P i_spec_trJoin [.s (.v .str dc1), .s (.v .str dc2)] (.s (.v .str dc3)) [])
    (h5 : sizeOK (List.length xo6 + List.length ([dc3] : List ByteArray)))
    {e : AEx} {st : St} (next : LoopSC cfg.P 2 (lb P_spec_JoinForests 0) (spec_JoinForests_L0a x0 x1 (IntKind.wrap .i64 (x7 + (1 : Int))) (xo6 ++ ([dc3] : List ByteArray))) e st) :
    LoopSC cfg.P 2 (lb P_spec_JoinForests 0) (spec_JoinForests_L0a x0 x1 x7 xo6) e st :=
  loop_iter cfgOK (f := i_spec_JoinForests) (its := [.bool true, .res (.s (.v .str dc1)) [] [] [], .res (.s (.v .str dc2)) [] [] [], .res (.s (.v .str dc3)) [] [] []])
    (ps := [decide (x7 < ((List.length x0 : Nat) : Int)) = true,
      SC cfg.P i_spec_foTree [.s (.v (.sl .str) x0), .s (.v (.int .i64) x7)] (.s (.v .str dc1)) [],
      SC cfg.P i_spec_foTree [.s (.v (.sl .str) x1), .s (.v (.int .i64) x7)] (.s (.v .str dc2)) [],
      SC cfg.P i_spec_trJoin [.s (.v .str dc1), .s (.v .str dc2)] (.s (.v .str dc3)) [],
      sizeOK (List.length xo6 + List.length ([dc3] : List ByteArray))]) (st1 := spec_JoinForests_L0a x0 x1 (IntKind.wrap .i64 (x7 + (1 : Int))) (xo6 ++ ([dc3] : List ByteArray))) (by kernel_rfl) ⟨(decide_eq_true h1), h2, h3, h4, h5, trivial⟩ next

theorem spec_JoinForests_L0a_i2 (x0 : (List ByteArray)) (x1 : (List ByteArray)) (x7 : Int) (xo6 : (List ByteArray)) (dc1 : ByteArray) (dc2 : ByteArray) (dc3 : ByteArray)
    (h1 : ¬ (x7 < ((List.length x0 : Nat) : Int)))
    (h2 : x7 < ((List.length x1 : Nat) : Int))
    (h3 : SC cfg.P i_spec_foTree [.s (.v (.sl .str) x0), .s (.v (.int .i64) x7)] (.s (.v .str dc1)) [])
    (h4 : SC cfg.P i_spec_foTree [.s (.v (.sl .str) x1), .s (.v (.int .i64) x7)] (.s (.v .str dc2)) [])
    (h5 : SC cfg.P i_spec_trJoin [.s (.v .str dc1), .s (.v .str dc2)] (.s (.v .str dc3)) [])
    (h6 : sizeOK (List.length xo6 + List.length ([dc3] : List ByteArray)))
    {e : AEx} {st : St} (next : LoopSC cfg.P 2 (lb P_spec_JoinForests 0) (spec_JoinForests_L0a x0 x1 (IntKind.wrap .i64 (x7 + (1 : Int))) (xo6 ++ ([dc3] : List ByteArray))) e st) :
    LoopSC cfg.P 2 (lb P_spec_JoinForests 0) (spec_JoinForests_L0a x0 x1 x7 xo6) e st :=
  loop_iter cfgOK (f := i_spec_JoinForests) (its := [.bool false, .bool true, .res (.s (.v .str dc1)) [] [] [], .res (.s (.v .str dc2)) [] [] [], .res (.s (.v .str dc3)) [] [] []])
    (ps := [decide (x7 < ((List.length x0 : Nat) : Int)) = false,
      decide (x7 < ((List.length x1 : Nat) : Int)) = true,
      SC cfg.P i_spec_foTree [.s (.v (.sl .str) x0), .s (.v (.int .i64) x7)] (.s (.v .str dc1)) [],
      SC cfg.P i_spec_foTree [.s (.v (.sl .str) x1), .s (.v (.int .i64) x7)] (.s (.v .str dc2)) [],
      SC cfg.P i_spec_trJoin [.s (.v .str dc1), .s (.v .str dc2)] (.s (.v .str dc3)) [],
      sizeOK (List.length xo6 + List.length ([dc3] : List ByteArray))]) (st1 := spec_JoinForests_L0a x0 x1 (IntKind.wrap .i64 (x7 + (1 : Int))) (xo6 ++ ([dc3] : List ByteArray))) (by kernel_rfl) ⟨(decide_eq_false h1), (decide_eq_true h2), h3, h4, h5, h6, trivial⟩ next

theorem spec_JoinForests_L0a_x3 (x0 : (List ByteArray)) (x1 : (List ByteArray)) (x7 : Int) (xo6 : (List ByteArray))
    (h1 : ¬ (x7 < ((List.length x0 : Nat) : Int)))
    (h2 : ¬ (x7 < ((List.length x1 : Nat) : Int))) :
    LoopSC cfg.P 2 (lb P_spec_JoinForests 0) (spec_JoinForests_L0a x0 x1 x7 xo6) (.exit 0) (spec_JoinForests_L0X1 x0 x1 x7 false xo6) :=
  loop_out cfgOK (f := i_spec_JoinForests) (its := [.bool false, .bool false])
    (ps := [decide (x7 < ((List.length x0 : Nat) : Int)) = false,
      decide (x7 < ((List.length x1 : Nat) : Int)) = false]) (by kernel_rfl) ⟨(decide_eq_false h1), (decide_eq_false h2), trivial⟩ (fun h => by cases h)

theorem spec_JoinForests_p1 (a0 : (List ByteArray)) (a1 : (List ByteArray)) (k1y0 : (List ByteArray)) (k1y1 : (List ByteArray)) (k1y7 : Int) (k1y25 : Bool) (k1yo6 : (List ByteArray)) (c3a : (List ByteArray)) (c3b : Bool)
    (h1 : SC cfg.P i_spec_foGood [.s (.v (.sl .str) a0)] (.s (.v .bool true)) [])
    (h2 : SC cfg.P i_spec_foGood [.s (.v (.sl .str) a1)] (.s (.v .bool true)) [])
    (h3 : LoopSC cfg.P 2 (lb P_spec_JoinForests 0) (spec_JoinForests_L0a a0 a1 (0 : Int) ([] : List ByteArray)) (.exit 0) (spec_JoinForests_L0X1 k1y0 k1y1 k1y7 k1y25 k1yo6))
    (h4 : SC cfg.P i_spec_foIf [.s (.v (.sl .str) k1yo6)] (.tup [.own t_string .str c3a, .v .bool c3b]) []) :
    SC cfg.P i_spec_JoinForests [.s (.v (.sl .str) a0), .s (.v (.sl .str) a1)] (.tup [.own t_string .str c3a, .v .bool c3b]) [] :=
  SC_of_run cfgOK (its := [.res (.s (.v .bool true)) [] [] [], .res (.s (.v .bool true)) [] [] [], .loop (fun _ => (.exit 0, spec_JoinForests_L0X1 k1y0 k1y1 k1y7 k1y25 k1yo6)), .res (.tup [.own t_string .str c3a, .v .bool c3b]) [] [] [40]])
    (ps := [SC cfg.P i_spec_foGood [.s (.v (.sl .str) a0)] (.s (.v .bool true)) [],
      SC cfg.P i_spec_foGood [.s (.v (.sl .str) a1)] (.s (.v .bool true)) [],
      LoopSC cfg.P 2 (lb P_spec_JoinForests 0) (spec_JoinForests_L0a a0 a1 (0 : Int) ([] : List ByteArray)) (.exit 0) (spec_JoinForests_L0X1 k1y0 k1y1 k1y7 k1y25 k1yo6),
      SC cfg.P i_spec_foIf [.s (.v (.sl .str) k1yo6)] (.tup [.own t_string .str c3a, .v .bool c3b]) []]) (by kernel_rfl) ⟨h1, h2, h3, h4, trivial⟩ get_spec_JoinForests (by decide)

theorem spec_JoinForests_p2 (a0 : (List ByteArray)) (a1 : (List ByteArray))
    (h1 : SC cfg.P i_spec_foGood [.s (.v (.sl .str) a0)] (.s (.v .bool true)) [])
    (h2 : SC cfg.P i_spec_foGood [.s (.v (.sl .str) a1)] (.s (.v .bool false)) []) :
    SC cfg.P i_spec_JoinForests [.s (.v (.sl .str) a0), .s (.v (.sl .str) a1)] (.tup [.own t_string .str ([] : List ByteArray), .v .bool false]) [] :=
  SC_of_run cfgOK (its := [.res (.s (.v .bool true)) [] [] [], .res (.s (.v .bool false)) [] [] []])
    (ps := [SC cfg.P i_spec_foGood [.s (.v (.sl .str) a0)] (.s (.v .bool true)) [],
      SC cfg.P i_spec_foGood [.s (.v (.sl .str) a1)] (.s (.v .bool false)) []]) (by kernel_rfl) ⟨h1, h2, trivial⟩ get_spec_JoinForests (by decide)

theorem spec_JoinForests_p3 (a0 : (List ByteArray)) (a1 : (List ByteArray))
    (h1 : SC cfg.P i_spec_foGood [.s (.v (.sl .str) a0)] (.s (.v .bool false)) []) :
    SC cfg.P i_spec_JoinForests [.s (.v (.sl .str) a0), .s (.v (.sl .str) a1)] (.tup [.own t_string .str ([] : List ByteArray), .v .bool false]) [] :=
  SC_of_run cfgOK (its := [.res (.s (.v .bool false)) [] [] []])
    (ps := [SC cfg.P i_spec_foGood [.s (.v (.sl .str) a0)] (.s (.v .bool false)) []]) (by kernel_rfl) ⟨h1, trivial⟩ get_spec_JoinForests (by decide)

/-! ### impl_CommonForest -/


theorem impl_CommonForest_p1 (a0 : (List ByteArray)) (a1 : (List ByteArray)) (c1a : (List Tr)) (c1b : (List Tr)) (c2 : (List Tr)) (c3a : (List ByteArray)) (c3b : Bool)
    (h1 : SC cfg.P i_impl_twoForests [.s (.v (.sl .str) a0), .s (.v (.sl .str) a1)] (.tup [.v (.sl .tree) c1a, .v (.sl .tree) c1b, .v .bool true]) [])
    (h2 : SC cfg.P i_impl_each [.s (.v (.sl .tree) c1a), .s (.v (.sl .tree) c1b), .fn i_impl_common [] []] (.s (.own t_pimpl_node .tree c2)) [])
    (h3 : SC cfg.P i_impl_forest_texts [.s (.v (.sl .tree) c2)] (.tup [.own t_string .str c3a, .v .bool c3b]) []) :
    SC cfg.P i_impl_CommonForest [.s (.v (.sl .str) a0), .s (.v (.sl .str) a1)] (.tup [.own t_string .str c3a, .v .bool c3b]) [] :=
  SC_of_run cfgOK (its := [.res (.tup [.v (.sl .tree) c1a, .v (.sl .tree) c1b, .v .bool true]) [] [] [], .res (.s (.own t_pimpl_node .tree c2)) [] [] [20], .res (.tup [.own t_string .str c3a, .v .bool c3b]) [] [] [22]])
    (ps := [SC cfg.P i_impl_twoForests [.s (.v (.sl .str) a0), .s (.v (.sl .str) a1)] (.tup [.v (.sl .tree) c1a, .v (.sl .tree) c1b, .v .bool true]) [],
      SC cfg.P i_impl_each [.s (.v (.sl .tree) c1a), .s (.v (.sl .tree) c1b), .fn i_impl_common [] []] (.s (.own t_pimpl_node .tree c2)) [],
      SC cfg.P i_impl_forest_texts [.s (.v (.sl .tree) c2)] (.tup [.own t_string .str c3a, .v .bool c3b]) []]) (by kernel_rfl) ⟨h1, h2, h3, trivial⟩ get_impl_CommonForest (by decide)

theorem impl_CommonForest_p2 (a0 : (List ByteArray)) (a1 : (List ByteArray)) (c1a : (List Tr)) (c1b : (List Tr))
    (h1 : SC cfg.P i_impl_twoForests [.s (.v (.sl .str) a0), .s (.v (.sl .str) a1)] (.tup [.v (.sl .tree) c1a, .v (.sl .tree) c1b, .v .bool false]) []) :
    SC cfg.P i_impl_CommonForest [.s (.v (.sl .str) a0), .s (.v (.sl .str) a1)] (.tup [.own t_string .str ([] : List ByteArray), .v .bool false]) [] :=
  SC_of_run cfgOK (its := [.res (.tup [.v (.sl .tree) c1a, .v (.sl .tree) c1b, .v .bool false]) [] [] []])
    (ps := [SC cfg.P i_impl_twoForests [.s (.v (.sl .str) a0), .s (.v (.sl .str) a1)] (.tup [.v (.sl .tree) c1a, .v (.sl .tree) c1b, .v .bool false]) []]) (by kernel_rfl) ⟨h1, trivial⟩ get_impl_CommonForest (by decide)

/-! ### spec_CommonForest -/


def spec_CommonForest_L0a (x0 : (List ByteArray)) (x1 : (List ByteArray)) (x7 : Int) (xo6 : (List ByteArray)) : St := mkSt 42 [(0, .s (.v (.sl .str) x0)), (1, .s (.v (.sl .str) x1)), (6, .s (.osl 6 0)), (7, .s (.v (.int .i64) x7))] [(6, .row t_string .str xo6 0 false)]

def spec_CommonForest_L0X1 (y0 : (List ByteArray)) (y1 : (List ByteArray)) (y7 : Int) (y25 : Bool) (yo6 : (List ByteArray)) : St := mkSt 42 [(0, .s (.v (.sl .str) y0)), (1, .s (.v (.sl .str) y1)), (6, .s (.osl 6 0)), (7, .s (.v (.int .i64) y7)), (25, .s (.v .bool y25))] [(6, .row t_string .str yo6 0 false)]

theorem spec_CommonForest_L0a_i1 (x0 : (List ByteArray)) (x1 : (List ByteArray)) (x7 : Int) (xo6 : (List ByteArray)) (dc1 : ByteArray) (dc2 : ByteArray) (dc3 : ByteArray)
    (h1 : x7 < ((List.length x0 : Nat) : Int))
    (h2 : SC cfg.P i_spec_foTree [.s (.v (.sl .str) x0), .s (.v (.int .i64) x7)] (.s (.v .str dc1)) [])
    (h3 : SC cfg.P i_spec_foTree [.s (.v (.sl .str) x1), .s (.v (.int .i64) x7)] (.s (.v .str dc2)) [])
    (h4 : SC cfg.P i_spec_trCommon [.s (.v .str dc1), .s (.v .str dc2)] (.s (.v .str dc3)) [])
    (h5 : sizeOK (List.length xo6 + List.length ([dc3] : List ByteArray)))
    {e : AEx} {st : St} (next : LoopSC cfg.P 2 (lb P_spec_CommonForest 0) (spec_CommonForest_L0a x0 x1 (IntKind.wrap .i64 (x7 + (1 : Int))) (xo6 ++ ([dc3] : List ByteArray))) e st) :
    LoopSC cfg.P 2 (lb P_spec_CommonForest 0) (spec_CommonForest_L0a x0 x1 x7 xo6) e st :=
  loop_iter cfgOK (f := i_spec_CommonForest) (its := [.bool true, .res (.s (.v .str dc1)) [] [] [], .res (.s (.v .str dc2)) [] [] [], .res (.s (.v .str dc3)) [] [] []])
    (ps := [decide (x7 < ((List.length x0 : Nat) : Int)) = true,
      SC cfg.P i_spec_foTree [.s (.v (.sl .str) x0), .s (.v (.int .i64) x7)] (.s (.v .str dc1)) [],
      SC cfg.P i_spec_foTree [.s (.v (.sl .str) x1), .s (.v (.int .i64) x7)] (.s (.v .str dc2)) [],
      SC cfg.P i_spec_trCommon [.s (.v .str dc1), .s (.v .str dc2)] (.s (.v .str dc3)) [],
      sizeOK (List.length xo6 + List.length ([dc3] : List ByteArray))]) (st1 := spec_CommonForest_L0a x0 x1 (IntKind.wrap .i64 (x7 + (1 : Int))) (xo6 ++ ([dc3] : List ByteArray))) (by kernel_rfl) ⟨(decide_eq_true h1), h2, h3, h4, h5, trivial⟩ next

theorem spec_CommonForest_L0a_i2 (x0 : (List ByteArray)) (x1 : (List ByteArray)) (x7 : Int) (xo6 : (List ByteArray)) (dc1 : ByteArray) (dc2 : ByteArray) (dc3 : ByteArray)
    (h1 : ¬ (x7 < ((List.length x0 : Nat) : Int)))
    (h2 : x7 < ((List.length x1 : Nat) : Int))
    (h3 : SC cfg.P i_spec_foTree [.s (.v (.sl .str) x0), .s (.v (.int .i64) x7)] (.s (.v .str dc1)) [])
    (h4 : SC cfg.P i_spec_foTree [.s (.v (.sl .str) x1), .s (.v (.int .i64) x7)] (.s (.v .str dc2)) [])
    (h5 : SC cfg.P i_spec_trCommon [.s (.v .str dc1), .s (.v .str dc2)] (.s (.v .str dc3)) [])
    (h6 : sizeOK (List.length xo6 + List.length ([dc3] : List ByteArray)))
    {e : AEx} {st : St} (next : LoopSC cfg.P 2 (lb P_spec_CommonForest 0) (spec_CommonForest_L0a x0 x1 (IntKind.wrap .i64 (x7 + (1 : Int))) (xo6 ++ ([dc3] : List ByteArray))) e st) :
    LoopSC cfg.P 2 (lb P_spec_CommonForest 0) (spec_CommonForest_L0a x0 x1 x7 xo6) e st :=
  loop_iter cfgOK (f := i_spec_CommonForest) (its := [.bool false, .bool true, .res (.s (.v .str dc1)) [] [] [], .res (.s (.v .str dc2)) [] [] [], .res (.s (.v .str dc3)) [] [] []])
    (ps := [decide (x7 < ((List.length x0 : Nat) : Int)) = false,
      decide (x7 < ((List.length x1 : Nat) : Int)) = true,
      SC cfg.P i_spec_foTree [.s (.v (.sl .str) x0), .s (.v (.int .i64) x7)] (.s (.v .str dc1)) [],
      SC cfg.P i_spec_foTree [.s (.v (.sl .str) x1), .s (.v (.int .i64) x7)] (.s (.v .str dc2)) [],
      SC cfg.P i_spec_trCommon [.s (.v .str dc1), .s (.v .str dc2)] (.s (.v .str dc3)) [],
      sizeOK (List.length xo6 + List.length ([dc3] : List ByteArray))]) (st1 := spec_CommonForest_L0a x0 x1 (IntKind.wrap .i64 (x7 + (1 : Int))) (xo6 ++ ([dc3] : List ByteArray))) (by kernel_rfl) ⟨(decide_eq_false h1), (decide_eq_true h2), h3, h4, h5, h6, trivial⟩ next

theorem spec_CommonForest_L0a_x3 (x0 : (List ByteArray)) (x1 : (List ByteArray)) (x7 : Int) (xo6 : (List ByteArray))
    (h1 : ¬ (x7 < ((List.length x0 : Nat) : Int)))
    (h2 : ¬ (x7 < ((List.length x1 : Nat) : Int))) :
    LoopSC cfg.P 2 (lb P_spec_CommonForest 0) (spec_CommonForest_L0a x0 x1 x7 xo6) (.exit 0) (spec_CommonForest_L0X1 x0 x1 x7 false xo6) :=
  loop_out cfgOK (f := i_spec_CommonForest) (its := [.bool false, .bool false])
    (ps := [decide (x7 < ((List.length x0 : Nat) : Int)) = false,
      decide (x7 < ((List.length x1 : Nat) : Int)) = false]) (by kernel_rfl) ⟨(decide_eq_false h1), (decide_eq_false h2), trivial⟩ (fun h => by cases h)

theorem spec_CommonForest_p1 (a0 : (List ByteArray)) (a1 : (List ByteArray)) (k1y0 : (List ByteArray)) (k1y1 : (List ByteArray)) (k1y7 : Int) (k1y25 : Bool) (k1yo6 : (List ByteArray)) (c3a : (List ByteArray)) (c3b : Bool)
    (h1 : SC cfg.P i_spec_foGood [.s (.v (.sl .str) a0)] (.s (.v .bool true)) [])
    (h2 : SC cfg.P i_spec_foGood [.s (.v (.sl .str) a1)] (.s (.v .bool true)) [])
    (h3 : LoopSC cfg.P 2 (lb P_spec_CommonForest 0) (spec_CommonForest_L0a a0 a1 (0 : Int) ([] : List ByteArray)) (.exit 0) (spec_CommonForest_L0X1 k1y0 k1y1 k1y7 k1y25 k1yo6))
    (h4 : SC cfg.P i_spec_foIf [.s (.v (.sl .str) k1yo6)] (.tup [.own t_string .str c3a, .v .bool c3b]) []) :
    SC cfg.P i_spec_CommonForest [.s (.v (.sl .str) a0), .s (.v (.sl .str) a1)] (.tup [.own t_string .str c3a, .v .bool c3b]) [] :=
  SC_of_run cfgOK (its := [.res (.s (.v .bool true)) [] [] [], .res (.s (.v .bool true)) [] [] [], .loop (fun _ => (.exit 0, spec_CommonForest_L0X1 k1y0 k1y1 k1y7 k1y25 k1yo6)), .res (.tup [.own t_string .str c3a, .v .bool c3b]) [] [] [40]])
    (ps := [SC cfg.P i_spec_foGood [.s (.v (.sl .str) a0)] (.s (.v .bool true)) [],
      SC cfg.P i_spec_foGood [.s (.v (.sl .str) a1)] (.s (.v .bool true)) [],
      LoopSC cfg.P 2 (lb P_spec_CommonForest 0) (spec_CommonForest_L0a a0 a1 (0 : Int) ([] : List ByteArray)) (.exit 0) (spec_CommonForest_L0X1 k1y0 k1y1 k1y7 k1y25 k1yo6),
      SC cfg.P i_spec_foIf [.s (.v (.sl .str) k1yo6)] (.tup [.own t_string .str c3a, .v .bool c3b]) []]) (by kernel_rfl) ⟨h1, h2, h3, h4, trivial⟩ get_spec_CommonForest (by decide)

theorem spec_CommonForest_p2 (a0 : (List ByteArray)) (a1 : (List ByteArray))
    (h1 : SC cfg.P i_spec_foGood [.s (.v (.sl .str) a0)] (.s (.v .bool true)) [])
    (h2 : SC cfg.P i_spec_foGood [.s (.v (.sl .str) a1)] (.s (.v .bool false)) []) :
    SC cfg.P i_spec_CommonForest [.s (.v (.sl .str) a0), .s (.v (.sl .str) a1)] (.tup [.own t_string .str ([] : List ByteArray), .v .bool false]) [] :=
  SC_of_run cfgOK (its := [.res (.s (.v .bool true)) [] [] [], .res (.s (.v .bool false)) [] [] []])
    (ps := [SC cfg.P i_spec_foGood [.s (.v (.sl .str) a0)] (.s (.v .bool true)) [],
      SC cfg.P i_spec_foGood [.s (.v (.sl .str) a1)] (.s (.v .bool false)) []]) (by kernel_rfl) ⟨h1, h2, trivial⟩ get_spec_CommonForest (by decide)

theorem spec_CommonForest_p3 (a0 : (List ByteArray)) (a1 : (List ByteArray))
    (h1 : SC cfg.P i_spec_foGood [.s (.v (.sl .str) a0)] (.s (.v .bool false)) []) :
    SC cfg.P i_spec_CommonForest [.s (.v (.sl .str) a0), .s (.v (.sl .str) a1)] (.tup [.own t_string .str ([] : List ByteArray), .v .bool false]) [] :=
  SC_of_run cfgOK (its := [.res (.s (.v .bool false)) [] [] []])
    (ps := [SC cfg.P i_spec_foGood [.s (.v (.sl .str) a0)] (.s (.v .bool false)) []]) (by kernel_rfl) ⟨h1, trivial⟩ get_spec_CommonForest (by decide)

/-! ### impl_rightComb -/


def impl_rightComb_L0a (x3 : Tr) (x4 : Int) (x5 : Int) : St := mkSt 12 [(3, .s (.v .tree x3)), (4, .s (.v (.int .i64) x4)), (5, .s (.v (.int .i64) x5))] []

def impl_rightComb_L0X1 (y3 : Tr) (y4 : Int) (y5 : Int) (y6 : Bool) : St := mkSt 12 [(3, .s (.v .tree y3)), (4, .s (.v (.int .i64) y4)), (5, .s (.v (.int .i64) y5)), (6, .s (.v .bool y6))] []

theorem impl_rightComb_L0a_i1 (x3 : Tr) (x4 : Int) (x5 : Int)
    (h1 : x5 < x4)
    {e : AEx} {st : St} (next : LoopSC cfg.P 1 (lb P_impl_rightComb 0) (impl_rightComb_L0a (Tr.node Tr.leaf x3) x4 (IntKind.wrap .i64 (x5 + (1 : Int)))) e st) :
    LoopSC cfg.P 1 (lb P_impl_rightComb 0) (impl_rightComb_L0a x3 x4 x5) e st :=
  loop_iter cfgOK (f := i_impl_rightComb) (its := [.bool true])
    (ps := [decide (x5 < x4) = true]) (st1 := impl_rightComb_L0a (Tr.node Tr.leaf x3) x4 (IntKind.wrap .i64 (x5 + (1 : Int)))) (by kernel_rfl) ⟨(decide_eq_true h1), trivial⟩ next

theorem impl_rightComb_L0a_x2 (x3 : Tr) (x4 : Int) (x5 : Int)
    (h1 : ¬ (x5 < x4)) :
    LoopSC cfg.P 1 (lb P_impl_rightComb 0) (impl_rightComb_L0a x3 x4 x5) (.exit 0) (impl_rightComb_L0X1 x3 x4 x5 false) :=
  loop_out cfgOK (f := i_impl_rightComb) (its := [.bool false])
    (ps := [decide (x5 < x4) = false]) (by kernel_rfl) ⟨(decide_eq_false h1), trivial⟩ (fun h => by cases h)

theorem impl_rightComb_p1 (a0 : Int) (k1y3 : Tr) (k1y4 : Int) (k1y5 : Int) (k1y6 : Bool)
    (h1 : LoopSC cfg.P 1 (lb P_impl_rightComb 0) (impl_rightComb_L0a Tr.leaf a0 (0 : Int)) (.exit 0) (impl_rightComb_L0X1 k1y3 k1y4 k1y5 k1y6)) :
    SC cfg.P i_impl_rightComb [.s (.v (.int .i64) a0)] (.s (.v .tree k1y3)) [] :=
  SC_of_run cfgOK (its := [.loop (fun _ => (.exit 0, impl_rightComb_L0X1 k1y3 k1y4 k1y5 k1y6))])
    (ps := [LoopSC cfg.P 1 (lb P_impl_rightComb 0) (impl_rightComb_L0a Tr.leaf a0 (0 : Int)) (.exit 0) (impl_rightComb_L0X1 k1y3 k1y4 k1y5 k1y6)]) (by kernel_rfl) ⟨h1, trivial⟩ get_impl_rightComb (by decide)

/-! ### impl_forest_hung -/


theorem impl_forest_hung_p1 (a0 : (List Tr)) (c1 : (List Tr)) (c2 : Tr) (c3 : Tr)
    (h1 : SC cfg.P i_impl_forest_trimmed [.s (.v (.sl .tree) a0)] (.s (.v (.sl .tree) c1)) [])
    (h2 : SC cfg.P i_impl_rightComb [.s (.v (.int .i64) ((List.length c1 : Nat) : Int))] (.s (.v .tree c2)) [])
    (h3 : SC cfg.P i_impl_node_grown [.s (.v .tree c2), .s (.v (.int .i64) (0 : Int)), .fn i_impl_forest_tree [.v (.sl .tree) c1] []] (.s (.v .tree c3)) []) :
    SC cfg.P i_impl_forest_hung [.s (.v (.sl .tree) a0)] (.s (.v .tree c3)) [] :=
  SC_of_run cfgOK (its := [.res (.s (.v (.sl .tree) c1)) [] [] [], .res (.s (.v .tree c2)) [] [] [], .res (.s (.v .tree c3)) [] [] []])
    (ps := [SC cfg.P i_impl_forest_trimmed [.s (.v (.sl .tree) a0)] (.s (.v (.sl .tree) c1)) [],
      SC cfg.P i_impl_rightComb [.s (.v (.int .i64) ((List.length c1 : Nat) : Int))] (.s (.v .tree c2)) [],
      SC cfg.P i_impl_node_grown [.s (.v .tree c2), .s (.v (.int .i64) (0 : Int)), .fn i_impl_forest_tree [.v (.sl .tree) c1] []] (.s (.v .tree c3)) []]) (by kernel_rfl) ⟨h1, h2, h3, trivial⟩ get_impl_forest_hung (by decide)

/-! ### spec_wdShort -/


def spec_wdShort_L0a (x0 : (List ByteArray)) (x3 : Int) : St := mkSt 23 [(0, .s (.v (.sl .str) x0)), (3, .s (.v (.int .i64) x3))] []

def spec_wdShort_L0X1 (y0 : (List ByteArray)) (y3 : Int) (y15 : Bool) : St := mkSt 23 [(0, .s (.v (.sl .str) y0)), (3, .s (.v (.int .i64) y3)), (15, .s (.v .bool y15))] []

theorem spec_wdShort_L0a_i1 (x0 : (List ByteArray)) (x3 : Int)
    (h1 : x3 > (0 : Int))
    (h2 : 0 ≤ (IntKind.wrap .i64 (x3 - (1 : Int))))
    (h3 : (IntKind.wrap .i64 (x3 - (1 : Int))) < (List.length x0 : Int))
    (h4 : SC cfg.P i_spec_trLeaf [.s (.v .str (List.getD x0 ((IntKind.wrap .i64 (x3 - (1 : Int)))).toNat (⟨#[]⟩ : ByteArray)))] (.s (.v .bool true)) [])
    {e : AEx} {st : St} (next : LoopSC cfg.P 1 (lb P_spec_wdShort 0) (spec_wdShort_L0a x0 (IntKind.wrap .i64 (x3 - (1 : Int)))) e st) :
    LoopSC cfg.P 1 (lb P_spec_wdShort 0) (spec_wdShort_L0a x0 x3) e st :=
  loop_iter cfgOK (f := i_spec_wdShort) (its := [.bool true, .res (.s (.v .bool true)) [] [] []])
    (ps := [decide (x3 > (0 : Int)) = true,
      0 ≤ (IntKind.wrap .i64 (x3 - (1 : Int))),
      (IntKind.wrap .i64 (x3 - (1 : Int))) < (List.length x0 : Int),
      SC cfg.P i_spec_trLeaf [.s (.v .str (List.getD x0 ((IntKind.wrap .i64 (x3 - (1 : Int)))).toNat (⟨#[]⟩ : ByteArray)))] (.s (.v .bool true)) []]) (st1 := spec_wdShort_L0a x0 (IntKind.wrap .i64 (x3 - (1 : Int)))) (by kernel_rfl) ⟨(decide_eq_true h1), h2, h3, h4, trivial⟩ next

theorem spec_wdShort_L0a_x2 (x0 : (List ByteArray)) (x3 : Int)
    (h1 : x3 > (0 : Int))
    (h2 : 0 ≤ (IntKind.wrap .i64 (x3 - (1 : Int))))
    (h3 : (IntKind.wrap .i64 (x3 - (1 : Int))) < (List.length x0 : Int))
    (h4 : SC cfg.P i_spec_trLeaf [.s (.v .str (List.getD x0 ((IntKind.wrap .i64 (x3 - (1 : Int)))).toNat (⟨#[]⟩ : ByteArray)))] (.s (.v .bool false)) []) :
    LoopSC cfg.P 1 (lb P_spec_wdShort 0) (spec_wdShort_L0a x0 x3) (.exit 0) (spec_wdShort_L0X1 x0 x3 false) :=
  loop_out cfgOK (f := i_spec_wdShort) (its := [.bool true, .res (.s (.v .bool false)) [] [] []])
    (ps := [decide (x3 > (0 : Int)) = true,
      0 ≤ (IntKind.wrap .i64 (x3 - (1 : Int))),
      (IntKind.wrap .i64 (x3 - (1 : Int))) < (List.length x0 : Int),
      SC cfg.P i_spec_trLeaf [.s (.v .str (List.getD x0 ((IntKind.wrap .i64 (x3 - (1 : Int)))).toNat (⟨#[]⟩ : ByteArray)))] (.s (.v .bool false)) []]) (by kernel_rfl) ⟨(decide_eq_true h1), h2, h3, h4, trivial⟩ (fun h => by cases h)

theorem spec_wdShort_L0a_x3 (x0 : (List ByteArray)) (x3 : Int)
    (h1 : ¬ (x3 > (0 : Int))) :
    LoopSC cfg.P 1 (lb P_spec_wdShort 0) (spec_wdShort_L0a x0 x3) (.exit 0) (spec_wdShort_L0X1 x0 x3 false) :=
  loop_out cfgOK (f := i_spec_wdShort) (its := [.bool false])
    (ps := [decide (x3 > (0 : Int)) = false]) (by kernel_rfl) ⟨(decide_eq_false h1), trivial⟩ (fun h => by cases h)

theorem spec_wdShort_p1 (a0 : (List ByteArray)) (k1y0 : (List ByteArray)) (k1y3 : Int) (k1y15 : Bool)
    (h1 : LoopSC cfg.P 1 (lb P_spec_wdShort 0) (spec_wdShort_L0a a0 ((List.length a0 : Nat) : Int)) (.exit 0) (spec_wdShort_L0X1 k1y0 k1y3 k1y15))
    (h2 : 0 ≤ k1y3)
    (h3 : k1y3 ≤ (List.length k1y0 : Int))
    (h4 : sizeOK (List.length ([] : List ByteArray) + List.length (cutL k1y0 (0 : Int) k1y3))) :
    SC cfg.P i_spec_wdShort [.s (.v (.sl .str) a0)] (.s (.own t_string .str (([] : List ByteArray) ++ (cutL k1y0 (0 : Int) k1y3)))) [] :=
  SC_of_run cfgOK (its := [.loop (fun _ => (.exit 0, spec_wdShort_L0X1 k1y0 k1y3 k1y15))])
    (ps := [LoopSC cfg.P 1 (lb P_spec_wdShort 0) (spec_wdShort_L0a a0 ((List.length a0 : Nat) : Int)) (.exit 0) (spec_wdShort_L0X1 k1y0 k1y3 k1y15),
      0 ≤ k1y3,
      k1y3 ≤ (List.length k1y0 : Int),
      sizeOK (List.length ([] : List ByteArray) + List.length (cutL k1y0 (0 : Int) k1y3))]) (by kernel_rfl) ⟨h1, h2, h3, h4, trivial⟩ get_spec_wdShort (by decide)

/-! ### spec_l1Cur_forest -/


def spec_l1Cur_forest_L0a (x19 : Bool) (xo0 : ((List Int) × (Int × Int))) (xo8 : (List ByteArray)) : St := mkSt 34 [(0, .s (.adr 0 none)), (5, .s (.osl 8 0)), (19, .s (.v .bool x19))] [(0, .box (.pr (.sl (.int .u8)) (.pr (.int .i64) (.int .u64))) xo0 false), (8, .row t_string .str xo8 0 false)]

def spec_l1Cur_forest_L0b (xo0 : ((List Int) × (Int × Int))) (xo8 : (List ByteArray)) : St := mkSt 34 [(0, .s (.adr 0 none)), (5, .s (.osl 8 0))] [(0, .box (.pr (.sl (.int .u8)) (.pr (.int .i64) (.int .u64))) xo0 false), (8, .row t_string .str xo8 0 false)]

def spec_l1Cur_forest_L0X1 (y26 : Bool) (yo0 : ((List Int) × (Int × Int))) (yo8 : (List ByteArray)) : St := mkSt 34 [(0, .s (.adr 0 none)), (5, .s (.osl 8 0)), (26, .s (.v .bool y26))] [(0, .box (.pr (.sl (.int .u8)) (.pr (.int .i64) (.int .u64))) yo0 false), (8, .row t_string .str yo8 0 false)]

theorem spec_l1Cur_forest_L0a_i1 (x19 : Bool) (xo0 : ((List Int) × (Int × Int))) (xo8 : (List ByteArray)) (dc1 : Int) (dc1o0 : ((List Int) × (Int × Int)))
    (h1 : SC cfg.P i_spec_l1Cur_pick [.s (.mbx (.pr (.sl (.int .u8)) (.pr (.int .i64) (.int .u64))) xo0), .s (.v (.int .i64) (2 : Int))] (.s (.v (.int .i64) dc1)) [.box (.pr (.sl (.int .u8)) (.pr (.int .i64) (.int .u64))) dc1o0])
    (h2 : ((List.length xo8 : Nat) : Int) < (IntKind.wrap .i64 ((7 : Int) + dc1)))
    (h3 : sizeOK (List.length xo8 + List.length ([(⟨#[46]⟩ : ByteArray)] : List ByteArray)))
    {e : AEx} {st : St} (next : LoopSC cfg.P 2 (lb P_spec_l1Cur_forest 0) (spec_l1Cur_forest_L0b dc1o0 (xo8 ++ ([(⟨#[46]⟩ : ByteArray)] : List ByteArray))) e st) :
    LoopSC cfg.P 2 (lb P_spec_l1Cur_forest 0) (spec_l1Cur_forest_L0a x19 xo0 xo8) e st :=
  loop_iter cfgOK (f := i_spec_l1Cur_forest) (its := [.res (.s (.v (.int .i64) dc1)) [.box (.pr (.sl (.int .u8)) (.pr (.int .i64) (.int .u64))) dc1o0] [] [], .bool true])
    (ps := [SC cfg.P i_spec_l1Cur_pick [.s (.mbx (.pr (.sl (.int .u8)) (.pr (.int .i64) (.int .u64))) xo0), .s (.v (.int .i64) (2 : Int))] (.s (.v (.int .i64) dc1)) [.box (.pr (.sl (.int .u8)) (.pr (.int .i64) (.int .u64))) dc1o0],
      decide (((List.length xo8 : Nat) : Int) < (IntKind.wrap .i64 ((7 : Int) + dc1))) = true,
      sizeOK (List.length xo8 + List.length ([(⟨#[46]⟩ : ByteArray)] : List ByteArray))]) (st1 := spec_l1Cur_forest_L0b dc1o0 (xo8 ++ ([(⟨#[46]⟩ : ByteArray)] : List ByteArray))) (by kernel_rfl) ⟨h1, (decide_eq_true h2), h3, trivial⟩ next

theorem spec_l1Cur_forest_L0a_x2 (x19 : Bool) (xo0 : ((List Int) × (Int × Int))) (xo8 : (List ByteArray)) (dc1 : Int) (dc1o0 : ((List Int) × (Int × Int)))
    (h1 : SC cfg.P i_spec_l1Cur_pick [.s (.mbx (.pr (.sl (.int .u8)) (.pr (.int .i64) (.int .u64))) xo0), .s (.v (.int .i64) (2 : Int))] (.s (.v (.int .i64) dc1)) [.box (.pr (.sl (.int .u8)) (.pr (.int .i64) (.int .u64))) dc1o0])
    (h2 : ¬ (((List.length xo8 : Nat) : Int) < (IntKind.wrap .i64 ((7 : Int) + dc1)))) :
    LoopSC cfg.P 2 (lb P_spec_l1Cur_forest 0) (spec_l1Cur_forest_L0a x19 xo0 xo8) (.exit 1) (spec_l1Cur_forest_L0X1 false dc1o0 xo8) :=
  loop_out cfgOK (f := i_spec_l1Cur_forest) (its := [.res (.s (.v (.int .i64) dc1)) [.box (.pr (.sl (.int .u8)) (.pr (.int .i64) (.int .u64))) dc1o0] [] [], .bool false])
    (ps := [SC cfg.P i_spec_l1Cur_pick [.s (.mbx (.pr (.sl (.int .u8)) (.pr (.int .i64) (.int .u64))) xo0), .s (.v (.int .i64) (2 : Int))] (.s (.v (.int .i64) dc1)) [.box (.pr (.sl (.int .u8)) (.pr (.int .i64) (.int .u64))) dc1o0],
      decide (((List.length xo8 : Nat) : Int) < (IntKind.wrap .i64 ((7 : Int) + dc1))) = false]) (by kernel_rfl) ⟨h1, (decide_eq_false h2), trivial⟩ (fun h => by cases h)

theorem spec_l1Cur_forest_L0b_i1 (xo0 : ((List Int) × (Int × Int))) (xo8 : (List ByteArray)) (dc1 : Int) (dc1o0 : ((List Int) × (Int × Int)))
    (h1 : SC cfg.P i_spec_l1Cur_pick [.s (.mbx (.pr (.sl (.int .u8)) (.pr (.int .i64) (.int .u64))) xo0), .s (.v (.int .i64) (2 : Int))] (.s (.v (.int .i64) dc1)) [.box (.pr (.sl (.int .u8)) (.pr (.int .i64) (.int .u64))) dc1o0])
    (h2 : ((List.length xo8 : Nat) : Int) < (IntKind.wrap .i64 ((7 : Int) + dc1)))
    (h3 : sizeOK (List.length xo8 + List.length ([(⟨#[46]⟩ : ByteArray)] : List ByteArray)))
    {e : AEx} {st : St} (next : LoopSC cfg.P 2 (lb P_spec_l1Cur_forest 0) (spec_l1Cur_forest_L0b dc1o0 (xo8 ++ ([(⟨#[46]⟩ : ByteArray)] : List ByteArray))) e st) :
    LoopSC cfg.P 2 (lb P_spec_l1Cur_forest 0) (spec_l1Cur_forest_L0b xo0 xo8) e st :=
  loop_iter cfgOK (f := i_spec_l1Cur_forest) (its := [.res (.s (.v (.int .i64) dc1)) [.box (.pr (.sl (.int .u8)) (.pr (.int .i64) (.int .u64))) dc1o0] [] [], .bool true])
    (ps := [SC cfg.P i_spec_l1Cur_pick [.s (.mbx (.pr (.sl (.int .u8)) (.pr (.int .i64) (.int .u64))) xo0), .s (.v (.int .i64) (2 : Int))] (.s (.v (.int .i64) dc1)) [.box (.pr (.sl (.int .u8)) (.pr (.int .i64) (.int .u64))) dc1o0],
      decide (((List.length xo8 : Nat) : Int) < (IntKind.wrap .i64 ((7 : Int) + dc1))) = true,
      sizeOK (List.length xo8 + List.length ([(⟨#[46]⟩ : ByteArray)] : List ByteArray))]) (st1 := spec_l1Cur_forest_L0b dc1o0 (xo8 ++ ([(⟨#[46]⟩ : ByteArray)] : List ByteArray))) (by kernel_rfl) ⟨h1, (decide_eq_true h2), h3, trivial⟩ next

theorem spec_l1Cur_forest_L0b_x2 (xo0 : ((List Int) × (Int × Int))) (xo8 : (List ByteArray)) (dc1 : Int) (dc1o0 : ((List Int) × (Int × Int)))
    (h1 : SC cfg.P i_spec_l1Cur_pick [.s (.mbx (.pr (.sl (.int .u8)) (.pr (.int .i64) (.int .u64))) xo0), .s (.v (.int .i64) (2 : Int))] (.s (.v (.int .i64) dc1)) [.box (.pr (.sl (.int .u8)) (.pr (.int .i64) (.int .u64))) dc1o0])
    (h2 : ¬ (((List.length xo8 : Nat) : Int) < (IntKind.wrap .i64 ((7 : Int) + dc1)))) :
    LoopSC cfg.P 2 (lb P_spec_l1Cur_forest 0) (spec_l1Cur_forest_L0b xo0 xo8) (.exit 1) (spec_l1Cur_forest_L0X1 false dc1o0 xo8) :=
  loop_out cfgOK (f := i_spec_l1Cur_forest) (its := [.res (.s (.v (.int .i64) dc1)) [.box (.pr (.sl (.int .u8)) (.pr (.int .i64) (.int .u64))) dc1o0] [] [], .bool false])
    (ps := [SC cfg.P i_spec_l1Cur_pick [.s (.mbx (.pr (.sl (.int .u8)) (.pr (.int .i64) (.int .u64))) xo0), .s (.v (.int .i64) (2 : Int))] (.s (.v (.int .i64) dc1)) [.box (.pr (.sl (.int .u8)) (.pr (.int .i64) (.int .u64))) dc1o0],
      decide (((List.length xo8 : Nat) : Int) < (IntKind.wrap .i64 ((7 : Int) + dc1))) = false]) (by kernel_rfl) ⟨h1, (decide_eq_false h2), trivial⟩ (fun h => by cases h)

theorem spec_l1Cur_forest_p1 (a0 : ((List Int) × (Int × Int))) (a1 : Int) (c1 : (List ByteArray)) (c1o0 : ((List Int) × (Int × Int))) (c2 : Int) (c2o0 : ((List Int) × (Int × Int))) (c3 : ByteArray) (c3o0 : ((List Int) × (Int × Int)))
    (h1 : SC cfg.P i_spec_l1Cur_sureForest [.s (.mbx (.pr (.sl (.int .u8)) (.pr (.int .i64) (.int .u64))) a0), .s (.v (.int .i64) a1)] (.s (.own t_string .str c1)) [.box (.pr (.sl (.int .u8)) (.pr (.int .i64) (.int .u64))) c1o0])
    (h2 : SC cfg.P i_spec_l1Cur_pick [.s (.mbx (.pr (.sl (.int .u8)) (.pr (.int .i64) (.int .u64))) c1o0), .s (.v (.int .i64) (18 : Int))] (.s (.v (.int .i64) c2)) [.box (.pr (.sl (.int .u8)) (.pr (.int .i64) (.int .u64))) c2o0])
    (h3 : c2 = (0 : Int))
    (h4 : SC cfg.P i_spec_l1Cur_of [.s (.mbx (.pr (.sl (.int .u8)) (.pr (.int .i64) (.int .u64))) c2o0), .s (.v (.sl .str) ([(⟨#[46]⟩ : ByteArray), (⟨#[]⟩ : ByteArray), (⟨#[40, 46, 41]⟩ : ByteArray), (⟨#[40, 40, 40, 40, 40, 40, 40, 40, 46, 46, 41, 46, 41, 46, 41, 46, 41, 46, 41, 46, 41, 46, 41, 46, 41]⟩ : ByteArray)] : List ByteArray))] (.s (.v .str c3)) [.box (.pr (.sl (.int .u8)) (.pr (.int .i64) (.int .u64))) c3o0])
    (h5 : sizeOK (List.length c1 + List.length ([c3] : List ByteArray))) :
    SC cfg.P i_spec_l1Cur_forest [.s (.mbx (.pr (.sl (.int .u8)) (.pr (.int .i64) (.int .u64))) a0), .s (.v (.int .i64) a1)] (.s (.own t_string .str (c1 ++ ([c3] : List ByteArray)))) [.box (.pr (.sl (.int .u8)) (.pr (.int .i64) (.int .u64))) c3o0] :=
  SC_of_run cfgOK (its := [.res (.s (.own t_string .str c1)) [.box (.pr (.sl (.int .u8)) (.pr (.int .i64) (.int .u64))) c1o0] [] [8], .res (.s (.v (.int .i64) c2)) [.box (.pr (.sl (.int .u8)) (.pr (.int .i64) (.int .u64))) c2o0] [] [], .bool true, .res (.s (.v .str c3)) [.box (.pr (.sl (.int .u8)) (.pr (.int .i64) (.int .u64))) c3o0] [] []])
    (ps := [SC cfg.P i_spec_l1Cur_sureForest [.s (.mbx (.pr (.sl (.int .u8)) (.pr (.int .i64) (.int .u64))) a0), .s (.v (.int .i64) a1)] (.s (.own t_string .str c1)) [.box (.pr (.sl (.int .u8)) (.pr (.int .i64) (.int .u64))) c1o0],
      SC cfg.P i_spec_l1Cur_pick [.s (.mbx (.pr (.sl (.int .u8)) (.pr (.int .i64) (.int .u64))) c1o0), .s (.v (.int .i64) (18 : Int))] (.s (.v (.int .i64) c2)) [.box (.pr (.sl (.int .u8)) (.pr (.int .i64) (.int .u64))) c2o0],
      (c2 == (0 : Int)) = true,
      SC cfg.P i_spec_l1Cur_of [.s (.mbx (.pr (.sl (.int .u8)) (.pr (.int .i64) (.int .u64))) c2o0), .s (.v (.sl .str) ([(⟨#[46]⟩ : ByteArray), (⟨#[]⟩ : ByteArray), (⟨#[40, 46, 41]⟩ : ByteArray), (⟨#[40, 40, 40, 40, 40, 40, 40, 40, 46, 46, 41, 46, 41, 46, 41, 46, 41, 46, 41, 46, 41, 46, 41, 46, 41]⟩ : ByteArray)] : List ByteArray))] (.s (.v .str c3)) [.box (.pr (.sl (.int .u8)) (.pr (.int .i64) (.int .u64))) c3o0],
      sizeOK (List.length c1 + List.length ([c3] : List ByteArray))]) (by kernel_rfl) ⟨h1, h2, (beq_iff_eq.mpr h3), h4, h5, trivial⟩ get_spec_l1Cur_forest (by decide)

theorem spec_l1Cur_forest_p2 (a0 : ((List Int) × (Int × Int))) (a1 : Int) (c1 : (List ByteArray)) (c1o0 : ((List Int) × (Int × Int))) (c2 : Int) (c2o0 : ((List Int) × (Int × Int))) (k1y26 : Bool) (k1yo0 : ((List Int) × (Int × Int))) (k1yo8 : (List ByteArray))
    (h1 : SC cfg.P i_spec_l1Cur_sureForest [.s (.mbx (.pr (.sl (.int .u8)) (.pr (.int .i64) (.int .u64))) a0), .s (.v (.int .i64) a1)] (.s (.own t_string .str c1)) [.box (.pr (.sl (.int .u8)) (.pr (.int .i64) (.int .u64))) c1o0])
    (h2 : SC cfg.P i_spec_l1Cur_pick [.s (.mbx (.pr (.sl (.int .u8)) (.pr (.int .i64) (.int .u64))) c1o0), .s (.v (.int .i64) (18 : Int))] (.s (.v (.int .i64) c2)) [.box (.pr (.sl (.int .u8)) (.pr (.int .i64) (.int .u64))) c2o0])
    (h3 : c2 ≠ (0 : Int))
    (h4 : c2 = (1 : Int))
    (h5 : LoopSC cfg.P 2 (lb P_spec_l1Cur_forest 0) (spec_l1Cur_forest_L0a true c2o0 c1) (.exit 1) (spec_l1Cur_forest_L0X1 k1y26 k1yo0 k1yo8))
    (h6 : sizeOK (List.length k1yo8 + List.length ([(⟨#[40, 46, 46, 41]⟩ : ByteArray)] : List ByteArray))) :
    SC cfg.P i_spec_l1Cur_forest [.s (.mbx (.pr (.sl (.int .u8)) (.pr (.int .i64) (.int .u64))) a0), .s (.v (.int .i64) a1)] (.s (.own t_string .str (k1yo8 ++ ([(⟨#[40, 46, 46, 41]⟩ : ByteArray)] : List ByteArray)))) [.box (.pr (.sl (.int .u8)) (.pr (.int .i64) (.int .u64))) k1yo0] :=
  SC_of_run cfgOK (its := [.res (.s (.own t_string .str c1)) [.box (.pr (.sl (.int .u8)) (.pr (.int .i64) (.int .u64))) c1o0] [] [8], .res (.s (.v (.int .i64) c2)) [.box (.pr (.sl (.int .u8)) (.pr (.int .i64) (.int .u64))) c2o0] [] [], .bool false, .bool true, .loop (fun _ => (.exit 1, spec_l1Cur_forest_L0X1 k1y26 k1yo0 k1yo8))])
    (ps := [SC cfg.P i_spec_l1Cur_sureForest [.s (.mbx (.pr (.sl (.int .u8)) (.pr (.int .i64) (.int .u64))) a0), .s (.v (.int .i64) a1)] (.s (.own t_string .str c1)) [.box (.pr (.sl (.int .u8)) (.pr (.int .i64) (.int .u64))) c1o0],
      SC cfg.P i_spec_l1Cur_pick [.s (.mbx (.pr (.sl (.int .u8)) (.pr (.int .i64) (.int .u64))) c1o0), .s (.v (.int .i64) (18 : Int))] (.s (.v (.int .i64) c2)) [.box (.pr (.sl (.int .u8)) (.pr (.int .i64) (.int .u64))) c2o0],
      (c2 == (0 : Int)) = false,
      (c2 == (1 : Int)) = true,
      LoopSC cfg.P 2 (lb P_spec_l1Cur_forest 0) (spec_l1Cur_forest_L0a true c2o0 c1) (.exit 1) (spec_l1Cur_forest_L0X1 k1y26 k1yo0 k1yo8),
      sizeOK (List.length k1yo8 + List.length ([(⟨#[40, 46, 46, 41]⟩ : ByteArray)] : List ByteArray))]) (by kernel_rfl) ⟨h1, h2, (beq_eq_false_iff_ne.mpr h3), (beq_iff_eq.mpr h4), h5, h6, trivial⟩ get_spec_l1Cur_forest (by decide)

theorem spec_l1Cur_forest_p3 (a0 : ((List Int) × (Int × Int))) (a1 : Int) (c1 : (List ByteArray)) (c1o0 : ((List Int) × (Int × Int))) (c2 : Int) (c2o0 : ((List Int) × (Int × Int)))
    (h1 : SC cfg.P i_spec_l1Cur_sureForest [.s (.mbx (.pr (.sl (.int .u8)) (.pr (.int .i64) (.int .u64))) a0), .s (.v (.int .i64) a1)] (.s (.own t_string .str c1)) [.box (.pr (.sl (.int .u8)) (.pr (.int .i64) (.int .u64))) c1o0])
    (h2 : SC cfg.P i_spec_l1Cur_pick [.s (.mbx (.pr (.sl (.int .u8)) (.pr (.int .i64) (.int .u64))) c1o0), .s (.v (.int .i64) (18 : Int))] (.s (.v (.int .i64) c2)) [.box (.pr (.sl (.int .u8)) (.pr (.int .i64) (.int .u64))) c2o0])
    (h3 : c2 ≠ (0 : Int))
    (h4 : c2 ≠ (1 : Int)) :
    SC cfg.P i_spec_l1Cur_forest [.s (.mbx (.pr (.sl (.int .u8)) (.pr (.int .i64) (.int .u64))) a0), .s (.v (.int .i64) a1)] (.s (.own t_string .str c1)) [.box (.pr (.sl (.int .u8)) (.pr (.int .i64) (.int .u64))) c2o0] :=
  SC_of_run cfgOK (its := [.res (.s (.own t_string .str c1)) [.box (.pr (.sl (.int .u8)) (.pr (.int .i64) (.int .u64))) c1o0] [] [8], .res (.s (.v (.int .i64) c2)) [.box (.pr (.sl (.int .u8)) (.pr (.int .i64) (.int .u64))) c2o0] [] [], .bool false, .bool false])
    (ps := [SC cfg.P i_spec_l1Cur_sureForest [.s (.mbx (.pr (.sl (.int .u8)) (.pr (.int .i64) (.int .u64))) a0), .s (.v (.int .i64) a1)] (.s (.own t_string .str c1)) [.box (.pr (.sl (.int .u8)) (.pr (.int .i64) (.int .u64))) c1o0],
      SC cfg.P i_spec_l1Cur_pick [.s (.mbx (.pr (.sl (.int .u8)) (.pr (.int .i64) (.int .u64))) c1o0), .s (.v (.int .i64) (18 : Int))] (.s (.v (.int .i64) c2)) [.box (.pr (.sl (.int .u8)) (.pr (.int .i64) (.int .u64))) c2o0],
      (c2 == (0 : Int)) = false,
      (c2 == (1 : Int)) = false]) (by kernel_rfl) ⟨h1, h2, (beq_eq_false_iff_ne.mpr h3), (beq_eq_false_iff_ne.mpr h4), trivial⟩ get_spec_l1Cur_forest (by decide)

/-! ### impl_twoForests -/


theorem impl_twoForests_p1 (a0 : (List ByteArray)) (a1 : (List ByteArray)) (c1a : (List Tr)) (c2a : (List Tr)) (c2b : Bool)
    (h1 : SC cfg.P i_impl_forestOf [.s (.v (.sl .str) a0)] (.tup [.v (.sl .tree) c1a, .v .bool true]) [])
    (h2 : SC cfg.P i_impl_forestOf [.s (.v (.sl .str) a1)] (.tup [.v (.sl .tree) c2a, .v .bool c2b]) []) :
    SC cfg.P i_impl_twoForests [.s (.v (.sl .str) a0), .s (.v (.sl .str) a1)] (.tup [.v (.sl .tree) c1a, .v (.sl .tree) c2a, .v .bool c2b]) [] :=
  SC_of_run cfgOK (its := [.res (.tup [.v (.sl .tree) c1a, .v .bool true]) [] [] [], .res (.tup [.v (.sl .tree) c2a, .v .bool c2b]) [] [] []])
    (ps := [SC cfg.P i_impl_forestOf [.s (.v (.sl .str) a0)] (.tup [.v (.sl .tree) c1a, .v .bool true]) [],
      SC cfg.P i_impl_forestOf [.s (.v (.sl .str) a1)] (.tup [.v (.sl .tree) c2a, .v .bool c2b]) []]) (by kernel_rfl) ⟨h1, h2, trivial⟩ get_impl_twoForests (by decide)

theorem impl_twoForests_p2 (a0 : (List ByteArray)) (a1 : (List ByteArray)) (c1a : (List Tr)) (c2a : (List Tr)) (c2b : Bool)
    (h1 : SC cfg.P i_impl_forestOf [.s (.v (.sl .str) a0)] (.tup [.v (.sl .tree) c1a, .v .bool false]) [])
    (h2 : SC cfg.P i_impl_forestOf [.s (.v (.sl .str) a1)] (.tup [.v (.sl .tree) c2a, .v .bool c2b]) []) :
    SC cfg.P i_impl_twoForests [.s (.v (.sl .str) a0), .s (.v (.sl .str) a1)] (.tup [.v (.sl .tree) c1a, .v (.sl .tree) c2a, .v .bool false]) [] :=
  SC_of_run cfgOK (its := [.res (.tup [.v (.sl .tree) c1a, .v .bool false]) [] [] [], .res (.tup [.v (.sl .tree) c2a, .v .bool c2b]) [] [] []])
    (ps := [SC cfg.P i_impl_forestOf [.s (.v (.sl .str) a0)] (.tup [.v (.sl .tree) c1a, .v .bool false]) [],
      SC cfg.P i_impl_forestOf [.s (.v (.sl .str) a1)] (.tup [.v (.sl .tree) c2a, .v .bool c2b]) []]) (by kernel_rfl) ⟨h1, h2, trivial⟩ get_impl_twoForests (by decide)

/-! ### impl_forest_stack -/


def impl_forest_stack_L0a (x0 : (List Tr)) (x1 : (List Tr)) (x6 : Int) (x7 : Int) (xo5 : (List Tr)) : St := mkSt 37 [(0, .s (.v (.sl .tree) x0)), (1, .s (.v (.sl .tree) x1)), (5, .s (.osl 5 0)), (6, .s (.v (.int .i64) x6)), (7, .s (.v (.int .i64) x7))] [(5, .row t_pimpl_node .tree xo5 0 false)]

def impl_forest_stack_L0X1 (y0 : (List Tr)) (y1 : (List Tr)) (y6 : Int) (y7 : Int) (y18 : Bool) (yo5 : (List Tr)) : St := mkSt 37 [(0, .s (.v (.sl .tree) y0)), (1, .s (.v (.sl .tree) y1)), (5, .s (.osl 5 0)), (6, .s (.v (.int .i64) y6)), (7, .s (.v (.int .i64) y7)), (18, .s (.v .bool y18))] [(5, .row t_pimpl_node .tree yo5 0 false)]

theorem impl_forest_stack_L0a_i1 (x0 : (List Tr)) (x1 : (List Tr)) (x6 : Int) (x7 : Int) (xo5 : (List Tr)) (dc1 : Tr) (dc2 : Tr) (dc3 : Int)
    (h1 : x7 < ((List.length x0 : Nat) : Int))
    (h2 : SC cfg.P i_impl_forest_tree [.s (.v (.sl .tree) x0), .s (.v (.int .i64) x7)] (.s (.v .tree dc1)) [])
    (h3 : SC cfg.P i_impl_node_grown [.s (.v .tree dc1), .s (.v (.int .i64) x6), .fn i_impl_forest_tree [.v (.sl .tree) x1] []] (.s (.v .tree dc2)) [])
    (h4 : sizeOK (List.length xo5 + List.length ([dc2] : List Tr)))
    (h5 : SC cfg.P i_impl_node_leaves [.s (.v .tree dc1)] (.s (.v (.int .i64) dc3)) [])
    {e : AEx} {st : St} (next : LoopSC cfg.P 2 (lb P_impl_forest_stack 0) (impl_forest_stack_L0a x0 x1 (IntKind.wrap .i64 (x6 + dc3)) (IntKind.wrap .i64 (x7 + (1 : Int))) (xo5 ++ ([dc2] : List Tr))) e st) :
    LoopSC cfg.P 2 (lb P_impl_forest_stack 0) (impl_forest_stack_L0a x0 x1 x6 x7 xo5) e st :=
  loop_iter cfgOK (f := i_impl_forest_stack) (its := [.bool true, .res (.s (.v .tree dc1)) [] [] [], .res (.s (.v .tree dc2)) [] [] [], .res (.s (.v (.int .i64) dc3)) [] [] []])
    (ps := [decide (x7 < ((List.length x0 : Nat) : Int)) = true,
      SC cfg.P i_impl_forest_tree [.s (.v (.sl .tree) x0), .s (.v (.int .i64) x7)] (.s (.v .tree dc1)) [],
      SC cfg.P i_impl_node_grown [.s (.v .tree dc1), .s (.v (.int .i64) x6), .fn i_impl_forest_tree [.v (.sl .tree) x1] []] (.s (.v .tree dc2)) [],
      sizeOK (List.length xo5 + List.length ([dc2] : List Tr)),
      SC cfg.P i_impl_node_leaves [.s (.v .tree dc1)] (.s (.v (.int .i64) dc3)) []]) (st1 := impl_forest_stack_L0a x0 x1 (IntKind.wrap .i64 (x6 + dc3)) (IntKind.wrap .i64 (x7 + (1 : Int))) (xo5 ++ ([dc2] : List Tr))) (by kernel_rfl) ⟨(decide_eq_true h1), h2, h3, h4, h5, trivial⟩ next

theorem impl_forest_stack_L0a_i2 (x0 : (List Tr)) (x1 : (List Tr)) (x6 : Int) (x7 : Int) (xo5 : (List Tr)) (dc1 : Tr) (dc2 : Tr) (dc3 : Int)
    (h1 : ¬ (x7 < ((List.length x0 : Nat) : Int)))
    (h2 : x6 < ((List.length x1 : Nat) : Int))
    (h3 : SC cfg.P i_impl_forest_tree [.s (.v (.sl .tree) x0), .s (.v (.int .i64) x7)] (.s (.v .tree dc1)) [])
    (h4 : SC cfg.P i_impl_node_grown [.s (.v .tree dc1), .s (.v (.int .i64) x6), .fn i_impl_forest_tree [.v (.sl .tree) x1] []] (.s (.v .tree dc2)) [])
    (h5 : sizeOK (List.length xo5 + List.length ([dc2] : List Tr)))
    (h6 : SC cfg.P i_impl_node_leaves [.s (.v .tree dc1)] (.s (.v (.int .i64) dc3)) [])
    {e : AEx} {st : St} (next : LoopSC cfg.P 2 (lb P_impl_forest_stack 0) (impl_forest_stack_L0a x0 x1 (IntKind.wrap .i64 (x6 + dc3)) (IntKind.wrap .i64 (x7 + (1 : Int))) (xo5 ++ ([dc2] : List Tr))) e st) :
    LoopSC cfg.P 2 (lb P_impl_forest_stack 0) (impl_forest_stack_L0a x0 x1 x6 x7 xo5) e st :=
  loop_iter cfgOK (f := i_impl_forest_stack) (its := [.bool false, .bool true, .res (.s (.v .tree dc1)) [] [] [], .res (.s (.v .tree dc2)) [] [] [], .res (.s (.v (.int .i64) dc3)) [] [] []])
    (ps := [decide (x7 < ((List.length x0 : Nat) : Int)) = false,
      decide (x6 < ((List.length x1 : Nat) : Int)) = true,
      SC cfg.P i_impl_forest_tree [.s (.v (.sl .tree) x0), .s (.v (.int .i64) x7)] (.s (.v .tree dc1)) [],
      SC cfg.P i_impl_node_grown [.s (.v .tree dc1), .s (.v (.int .i64) x6), .fn i_impl_forest_tree [.v (.sl .tree) x1] []] (.s (.v .tree dc2)) [],
      sizeOK (List.length xo5 + List.length ([dc2] : List Tr)),
      SC cfg.P i_impl_node_leaves [.s (.v .tree dc1)] (.s (.v (.int .i64) dc3)) []]) (st1 := impl_forest_stack_L0a x0 x1 (IntKind.wrap .i64 (x6 + dc3)) (IntKind.wrap .i64 (x7 + (1 : Int))) (xo5 ++ ([dc2] : List Tr))) (by kernel_rfl) ⟨(decide_eq_false h1), (decide_eq_true h2), h3, h4, h5, h6, trivial⟩ next

theorem impl_forest_stack_L0a_x3 (x0 : (List Tr)) (x1 : (List Tr)) (x6 : Int) (x7 : Int) (xo5 : (List Tr))
    (h1 : ¬ (x7 < ((List.length x0 : Nat) : Int)))
    (h2 : ¬ (x6 < ((List.length x1 : Nat) : Int))) :
    LoopSC cfg.P 2 (lb P_impl_forest_stack 0) (impl_forest_stack_L0a x0 x1 x6 x7 xo5) (.exit 0) (impl_forest_stack_L0X1 x0 x1 x6 x7 false xo5) :=
  loop_out cfgOK (f := i_impl_forest_stack) (its := [.bool false, .bool false])
    (ps := [decide (x7 < ((List.length x0 : Nat) : Int)) = false,
      decide (x6 < ((List.length x1 : Nat) : Int)) = false]) (by kernel_rfl) ⟨(decide_eq_false h1), (decide_eq_false h2), trivial⟩ (fun h => by cases h)

theorem impl_forest_stack_p1 (a0 : (List Tr)) (a1 : (List Tr)) (k1y0 : (List Tr)) (k1y1 : (List Tr)) (k1y6 : Int) (k1y7 : Int) (k1y18 : Bool) (k1yo5 : (List Tr))
    (h1 : LoopSC cfg.P 2 (lb P_impl_forest_stack 0) (impl_forest_stack_L0a a0 a1 (0 : Int) (0 : Int) ([] : List Tr)) (.exit 0) (impl_forest_stack_L0X1 k1y0 k1y1 k1y6 k1y7 k1y18 k1yo5)) :
    SC cfg.P i_impl_forest_stack [.s (.v (.sl .tree) a0), .s (.v (.sl .tree) a1)] (.s (.own t_pimpl_node .tree k1yo5)) [] :=
  SC_of_run cfgOK (its := [.loop (fun _ => (.exit 0, impl_forest_stack_L0X1 k1y0 k1y1 k1y6 k1y7 k1y18 k1yo5))])
    (ps := [LoopSC cfg.P 2 (lb P_impl_forest_stack 0) (impl_forest_stack_L0a a0 a1 (0 : Int) (0 : Int) ([] : List Tr)) (.exit 0) (impl_forest_stack_L0X1 k1y0 k1y1 k1y6 k1y7 k1y18 k1yo5)]) (by kernel_rfl) ⟨h1, trivial⟩ get_impl_forest_stack (by decide)

/-! ### impl_forest_texts -/


def impl_forest_texts_L0a (x17 : (List Tr)) (x18 : Int) (x19 : Int) (xo4 : (List ByteArray)) : St := mkSt 30 [(4, .s (.osl 4 0)), (17, .s (.v (.sl .tree) x17)), (18, .s (.v (.int .i64) x18)), (19, .s (.v (.int .i64) x19))] [(4, .row t_string .str xo4 0 false)]

def impl_forest_texts_L0X1 (y17 : (List Tr)) (y18 : Int) (y19 : Int) (y20 : Bool) (yo4 : (List ByteArray)) : St := mkSt 30 [(4, .s (.osl 4 0)), (17, .s (.v (.sl .tree) y17)), (18, .s (.v (.int .i64) y18)), (19, .s (.v (.int .i64) y19)), (20, .s (.v .bool y20))] [(4, .row t_string .str yo4 0 false)]

theorem impl_forest_texts_L0a_i1 (x17 : (List Tr)) (x18 : Int) (x19 : Int) (xo4 : (List ByteArray)) (dc1 : ByteArray)
    (h1 : x19 < x18)
    (h2 : 0 ≤ x19)
    (h3 : x19 < (List.length x17 : Int))
    (h4 : SC cfg.P i_impl_node_text [.s (.v .tree (List.getD x17 (x19).toNat Tr.leaf))] (.s (.v .str dc1)) [])
    (h5 : sizeOK (List.length xo4 + List.length ([dc1] : List ByteArray)))
    {e : AEx} {st : St} (next : LoopSC cfg.P 1 (lb P_impl_forest_texts 0) (impl_forest_texts_L0a x17 x18 (IntKind.wrap .i64 (x19 + (1 : Int))) (xo4 ++ ([dc1] : List ByteArray))) e st) :
    LoopSC cfg.P 1 (lb P_impl_forest_texts 0) (impl_forest_texts_L0a x17 x18 x19 xo4) e st :=
  loop_iter cfgOK (f := i_impl_forest_texts) (its := [.bool true, .res (.s (.v .str dc1)) [] [] []])
    (ps := [decide (x19 < x18) = true,
      0 ≤ x19,
      x19 < (List.length x17 : Int),
      SC cfg.P i_impl_node_text [.s (.v .tree (List.getD x17 (x19).toNat Tr.leaf))] (.s (.v .str dc1)) [],
      sizeOK (List.length xo4 + List.length ([dc1] : List ByteArray))]) (st1 := impl_forest_texts_L0a x17 x18 (IntKind.wrap .i64 (x19 + (1 : Int))) (xo4 ++ ([dc1] : List ByteArray))) (by kernel_rfl) ⟨(decide_eq_true h1), h2, h3, h4, h5, trivial⟩ next

theorem impl_forest_texts_L0a_x2 (x17 : (List Tr)) (x18 : Int) (x19 : Int) (xo4 : (List ByteArray))
    (h1 : ¬ (x19 < x18)) :
    LoopSC cfg.P 1 (lb P_impl_forest_texts 0) (impl_forest_texts_L0a x17 x18 x19 xo4) (.exit 0) (impl_forest_texts_L0X1 x17 x18 x19 false xo4) :=
  loop_out cfgOK (f := i_impl_forest_texts) (its := [.bool false])
    (ps := [decide (x19 < x18) = false]) (by kernel_rfl) ⟨(decide_eq_false h1), trivial⟩ (fun h => by cases h)

theorem impl_forest_texts_p1 (a0 : (List Tr)) (c1 : (List Tr))
    (h1 : SC cfg.P i_impl_forest_trimmed [.s (.v (.sl .tree) a0)] (.s (.v (.sl .tree) c1)) [])
    (h2 : ((List.length c1 : Nat) : Int) > (8 : Int)) :
    SC cfg.P i_impl_forest_texts [.s (.v (.sl .tree) a0)] (.tup [.own t_string .str ([] : List ByteArray), .v .bool false]) [] :=
  SC_of_run cfgOK (its := [.res (.s (.v (.sl .tree) c1)) [] [] [], .bool true])
    (ps := [SC cfg.P i_impl_forest_trimmed [.s (.v (.sl .tree) a0)] (.s (.v (.sl .tree) c1)) [],
      decide (((List.length c1 : Nat) : Int) > (8 : Int)) = true]) (by kernel_rfl) ⟨h1, (decide_eq_true h2), trivial⟩ get_impl_forest_texts (by decide)

theorem impl_forest_texts_p2 (a0 : (List Tr)) (c1 : (List Tr)) (c2 : Int)
    (h1 : SC cfg.P i_impl_forest_trimmed [.s (.v (.sl .tree) a0)] (.s (.v (.sl .tree) c1)) [])
    (h2 : ¬ (((List.length c1 : Nat) : Int) > (8 : Int)))
    (h3 : SC cfg.P i_impl_forest_carets [.s (.v (.sl .tree) c1)] (.s (.v (.int .i64) c2)) [])
    (h4 : c2 > (8 : Int)) :
    SC cfg.P i_impl_forest_texts [.s (.v (.sl .tree) a0)] (.tup [.own t_string .str ([] : List ByteArray), .v .bool false]) [] :=
  SC_of_run cfgOK (its := [.res (.s (.v (.sl .tree) c1)) [] [] [], .bool false, .res (.s (.v (.int .i64) c2)) [] [] [], .bool true])
    (ps := [SC cfg.P i_impl_forest_trimmed [.s (.v (.sl .tree) a0)] (.s (.v (.sl .tree) c1)) [],
      decide (((List.length c1 : Nat) : Int) > (8 : Int)) = false,
      SC cfg.P i_impl_forest_carets [.s (.v (.sl .tree) c1)] (.s (.v (.int .i64) c2)) [],
      decide (c2 > (8 : Int)) = true]) (by kernel_rfl) ⟨h1, (decide_eq_false h2), h3, (decide_eq_true h4), trivial⟩ get_impl_forest_texts (by decide)

theorem impl_forest_texts_p3 (a0 : (List Tr)) (c1 : (List Tr)) (c2 : Int) (k1y17 : (List Tr)) (k1y18 : Int) (k1y19 : Int) (k1y20 : Bool) (k1yo4 : (List ByteArray))
    (h1 : SC cfg.P i_impl_forest_trimmed [.s (.v (.sl .tree) a0)] (.s (.v (.sl .tree) c1)) [])
    (h2 : ¬ (((List.length c1 : Nat) : Int) > (8 : Int)))
    (h3 : SC cfg.P i_impl_forest_carets [.s (.v (.sl .tree) c1)] (.s (.v (.int .i64) c2)) [])
    (h4 : ¬ (c2 > (8 : Int)))
    (h5 : LoopSC cfg.P 1 (lb P_impl_forest_texts 0) (impl_forest_texts_L0a c1 ((List.length c1 : Nat) : Int) (0 : Int) ([] : List ByteArray)) (.exit 0) (impl_forest_texts_L0X1 k1y17 k1y18 k1y19 k1y20 k1yo4)) :
    SC cfg.P i_impl_forest_texts [.s (.v (.sl .tree) a0)] (.tup [.own t_string .str k1yo4, .v .bool true]) [] :=
  SC_of_run cfgOK (its := [.res (.s (.v (.sl .tree) c1)) [] [] [], .bool false, .res (.s (.v (.int .i64) c2)) [] [] [], .bool false, .loop (fun _ => (.exit 0, impl_forest_texts_L0X1 k1y17 k1y18 k1y19 k1y20 k1yo4))])
    (ps := [SC cfg.P i_impl_forest_trimmed [.s (.v (.sl .tree) a0)] (.s (.v (.sl .tree) c1)) [],
      decide (((List.length c1 : Nat) : Int) > (8 : Int)) = false,
      SC cfg.P i_impl_forest_carets [.s (.v (.sl .tree) c1)] (.s (.v (.int .i64) c2)) [],
      decide (c2 > (8 : Int)) = false,
      LoopSC cfg.P 1 (lb P_impl_forest_texts 0) (impl_forest_texts_L0a c1 ((List.length c1 : Nat) : Int) (0 : Int) ([] : List ByteArray)) (.exit 0) (impl_forest_texts_L0X1 k1y17 k1y18 k1y19 k1y20 k1yo4)]) (by kernel_rfl) ⟨h1, (decide_eq_false h2), h3, (decide_eq_false h4), h5, trivial⟩ get_impl_forest_texts (by decide)

/-! ### spec_foGood -/


def spec_foGood_L0a (x3 : Int) (x23 : (List ByteArray)) (x24 : Int) (x25 : Int) : St := mkSt 39 [(3, .s (.v (.int .i64) x3)), (23, .s (.v (.sl .str) x23)), (24, .s (.v (.int .i64) x24)), (25, .s (.v (.int .i64) x25))] []

def spec_foGood_L0X1 (y2 : Bool) : St := mkSt 39 [(2, .s (.v .bool y2))] []

def spec_foGood_L0X2 (y3 : Int) (y23 : (List ByteArray)) (y24 : Int) (y25 : Int) (y26 : Bool) : St := mkSt 39 [(3, .s (.v (.int .i64) y3)), (23, .s (.v (.sl .str) y23)), (24, .s (.v (.int .i64) y24)), (25, .s (.v (.int .i64) y25)), (26, .s (.v .bool y26))] []

theorem spec_foGood_L0a_i1 (x3 : Int) (x23 : (List ByteArray)) (x24 : Int) (x25 : Int) (dc2 : Int)
    (h1 : x25 < x24)
    (h2 : 0 ≤ x25)
    (h3 : x25 < (List.length x23 : Int))
    (h4 : SC cfg.P i_spec_trIs [.s (.v .str (List.getD x23 (x25).toNat (⟨#[]⟩ : ByteArray)))] (.s (.v .bool true)) [])
    (h5 : SC cfg.P i_spec_trCarets [.s (.v .str (List.getD x23 (x25).toNat (⟨#[]⟩ : ByteArray)))] (.s (.v (.int .i64) dc2)) [])
    {e : AEx} {st : St} (next : LoopSC cfg.P 1 (lb P_spec_foGood 0) (spec_foGood_L0a (IntKind.wrap .i64 (x3 + dc2)) x23 x24 (IntKind.wrap .i64 (x25 + (1 : Int)))) e st) :
    LoopSC cfg.P 1 (lb P_spec_foGood 0) (spec_foGood_L0a x3 x23 x24 x25) e st :=
  loop_iter cfgOK (f := i_spec_foGood) (its := [.bool true, .res (.s (.v .bool true)) [] [] [], .res (.s (.v (.int .i64) dc2)) [] [] []])
    (ps := [decide (x25 < x24) = true,
      0 ≤ x25,
      x25 < (List.length x23 : Int),
      SC cfg.P i_spec_trIs [.s (.v .str (List.getD x23 (x25).toNat (⟨#[]⟩ : ByteArray)))] (.s (.v .bool true)) [],
      SC cfg.P i_spec_trCarets [.s (.v .str (List.getD x23 (x25).toNat (⟨#[]⟩ : ByteArray)))] (.s (.v (.int .i64) dc2)) []]) (st1 := spec_foGood_L0a (IntKind.wrap .i64 (x3 + dc2)) x23 x24 (IntKind.wrap .i64 (x25 + (1 : Int)))) (by kernel_rfl) ⟨(decide_eq_true h1), h2, h3, h4, h5, trivial⟩ next

theorem spec_foGood_L0a_x2 (x3 : Int) (x23 : (List ByteArray)) (x24 : Int) (x25 : Int)
    (h1 : x25 < x24)
    (h2 : 0 ≤ x25)
    (h3 : x25 < (List.length x23 : Int))
    (h4 : SC cfg.P i_spec_trIs [.s (.v .str (List.getD x23 (x25).toNat (⟨#[]⟩ : ByteArray)))] (.s (.v .bool false)) []) :
    LoopSC cfg.P 1 (lb P_spec_foGood 0) (spec_foGood_L0a x3 x23 x24 x25) (.ret) (spec_foGood_L0X1 false) :=
  loop_out cfgOK (f := i_spec_foGood) (its := [.bool true, .res (.s (.v .bool false)) [] [] []])
    (ps := [decide (x25 < x24) = true,
      0 ≤ x25,
      x25 < (List.length x23 : Int),
      SC cfg.P i_spec_trIs [.s (.v .str (List.getD x23 (x25).toNat (⟨#[]⟩ : ByteArray)))] (.s (.v .bool false)) []]) (by kernel_rfl) ⟨(decide_eq_true h1), h2, h3, h4, trivial⟩ (fun h => by cases h)

theorem spec_foGood_L0a_x3 (x3 : Int) (x23 : (List ByteArray)) (x24 : Int) (x25 : Int)
    (h1 : ¬ (x25 < x24)) :
    LoopSC cfg.P 1 (lb P_spec_foGood 0) (spec_foGood_L0a x3 x23 x24 x25) (.exit 0) (spec_foGood_L0X2 x3 x23 x24 x25 false) :=
  loop_out cfgOK (f := i_spec_foGood) (its := [.bool false])
    (ps := [decide (x25 < x24) = false]) (by kernel_rfl) ⟨(decide_eq_false h1), trivial⟩ (fun h => by cases h)

theorem spec_foGood_p1 (a0 : (List ByteArray))
    (h1 : ((List.length a0 : Nat) : Int) > (8 : Int)) :
    SC cfg.P i_spec_foGood [.s (.v (.sl .str) a0)] (.s (.v .bool false)) [] :=
  SC_of_run cfgOK (its := [.bool true])
    (ps := [decide (((List.length a0 : Nat) : Int) > (8 : Int)) = true]) (by kernel_rfl) ⟨(decide_eq_true h1), trivial⟩ get_spec_foGood (by decide)

theorem spec_foGood_p2 (a0 : (List ByteArray))
    (h1 : ¬ (((List.length a0 : Nat) : Int) > (8 : Int)))
    (h2 : ((List.length a0 : Nat) : Int) > (0 : Int))
    (h3 : 0 ≤ (IntKind.wrap .i64 (((List.length a0 : Nat) : Int) - (1 : Int))))
    (h4 : (IntKind.wrap .i64 (((List.length a0 : Nat) : Int) - (1 : Int))) < (List.length a0 : Int))
    (h5 : SC cfg.P i_spec_trLeaf [.s (.v .str (List.getD a0 ((IntKind.wrap .i64 (((List.length a0 : Nat) : Int) - (1 : Int)))).toNat (⟨#[]⟩ : ByteArray)))] (.s (.v .bool true)) []) :
    SC cfg.P i_spec_foGood [.s (.v (.sl .str) a0)] (.s (.v .bool false)) [] :=
  SC_of_run cfgOK (its := [.bool false, .bool true, .res (.s (.v .bool true)) [] [] []])
    (ps := [decide (((List.length a0 : Nat) : Int) > (8 : Int)) = false,
      decide (((List.length a0 : Nat) : Int) > (0 : Int)) = true,
      0 ≤ (IntKind.wrap .i64 (((List.length a0 : Nat) : Int) - (1 : Int))),
      (IntKind.wrap .i64 (((List.length a0 : Nat) : Int) - (1 : Int))) < (List.length a0 : Int),
      SC cfg.P i_spec_trLeaf [.s (.v .str (List.getD a0 ((IntKind.wrap .i64 (((List.length a0 : Nat) : Int) - (1 : Int)))).toNat (⟨#[]⟩ : ByteArray)))] (.s (.v .bool true)) []]) (by kernel_rfl) ⟨(decide_eq_false h1), (decide_eq_true h2), h3, h4, h5, trivial⟩ get_spec_foGood (by decide)

theorem spec_foGood_p3 (a0 : (List ByteArray)) (k1y2 : Bool)
    (h1 : ¬ (((List.length a0 : Nat) : Int) > (8 : Int)))
    (h2 : ((List.length a0 : Nat) : Int) > (0 : Int))
    (h3 : 0 ≤ (IntKind.wrap .i64 (((List.length a0 : Nat) : Int) - (1 : Int))))
    (h4 : (IntKind.wrap .i64 (((List.length a0 : Nat) : Int) - (1 : Int))) < (List.length a0 : Int))
    (h5 : SC cfg.P i_spec_trLeaf [.s (.v .str (List.getD a0 ((IntKind.wrap .i64 (((List.length a0 : Nat) : Int) - (1 : Int)))).toNat (⟨#[]⟩ : ByteArray)))] (.s (.v .bool false)) [])
    (h6 : LoopSC cfg.P 1 (lb P_spec_foGood 0) (spec_foGood_L0a (0 : Int) a0 ((List.length a0 : Nat) : Int) (0 : Int)) (.ret) (spec_foGood_L0X1 k1y2)) :
    SC cfg.P i_spec_foGood [.s (.v (.sl .str) a0)] (.s (.v .bool k1y2)) [] :=
  SC_of_run cfgOK (its := [.bool false, .bool true, .res (.s (.v .bool false)) [] [] [], .loop (fun _ => (.ret, spec_foGood_L0X1 k1y2))])
    (ps := [decide (((List.length a0 : Nat) : Int) > (8 : Int)) = false,
      decide (((List.length a0 : Nat) : Int) > (0 : Int)) = true,
      0 ≤ (IntKind.wrap .i64 (((List.length a0 : Nat) : Int) - (1 : Int))),
      (IntKind.wrap .i64 (((List.length a0 : Nat) : Int) - (1 : Int))) < (List.length a0 : Int),
      SC cfg.P i_spec_trLeaf [.s (.v .str (List.getD a0 ((IntKind.wrap .i64 (((List.length a0 : Nat) : Int) - (1 : Int)))).toNat (⟨#[]⟩ : ByteArray)))] (.s (.v .bool false)) [],
      LoopSC cfg.P 1 (lb P_spec_foGood 0) (spec_foGood_L0a (0 : Int) a0 ((List.length a0 : Nat) : Int) (0 : Int)) (.ret) (spec_foGood_L0X1 k1y2)]) (by kernel_rfl) ⟨(decide_eq_false h1), (decide_eq_true h2), h3, h4, h5, h6, trivial⟩ get_spec_foGood (by decide)

theorem spec_foGood_p4 (a0 : (List ByteArray)) (k1y3 : Int) (k1y23 : (List ByteArray)) (k1y24 : Int) (k1y25 : Int) (k1y26 : Bool)
    (h1 : ¬ (((List.length a0 : Nat) : Int) > (8 : Int)))
    (h2 : ((List.length a0 : Nat) : Int) > (0 : Int))
    (h3 : 0 ≤ (IntKind.wrap .i64 (((List.length a0 : Nat) : Int) - (1 : Int))))
    (h4 : (IntKind.wrap .i64 (((List.length a0 : Nat) : Int) - (1 : Int))) < (List.length a0 : Int))
    (h5 : SC cfg.P i_spec_trLeaf [.s (.v .str (List.getD a0 ((IntKind.wrap .i64 (((List.length a0 : Nat) : Int) - (1 : Int)))).toNat (⟨#[]⟩ : ByteArray)))] (.s (.v .bool false)) [])
    (h6 : LoopSC cfg.P 1 (lb P_spec_foGood 0) (spec_foGood_L0a (0 : Int) a0 ((List.length a0 : Nat) : Int) (0 : Int)) (.exit 0) (spec_foGood_L0X2 k1y3 k1y23 k1y24 k1y25 k1y26))
    (h7 : k1y3 ≤ (8 : Int)) :
    SC cfg.P i_spec_foGood [.s (.v (.sl .str) a0)] (.s (.v .bool true)) [] :=
  SC_of_run cfgOK (its := [.bool false, .bool true, .res (.s (.v .bool false)) [] [] [], .loop (fun _ => (.exit 0, spec_foGood_L0X2 k1y3 k1y23 k1y24 k1y25 k1y26)), .bool true])
    (ps := [decide (((List.length a0 : Nat) : Int) > (8 : Int)) = false,
      decide (((List.length a0 : Nat) : Int) > (0 : Int)) = true,
      0 ≤ (IntKind.wrap .i64 (((List.length a0 : Nat) : Int) - (1 : Int))),
      (IntKind.wrap .i64 (((List.length a0 : Nat) : Int) - (1 : Int))) < (List.length a0 : Int),
      SC cfg.P i_spec_trLeaf [.s (.v .str (List.getD a0 ((IntKind.wrap .i64 (((List.length a0 : Nat) : Int) - (1 : Int)))).toNat (⟨#[]⟩ : ByteArray)))] (.s (.v .bool false)) [],
      LoopSC cfg.P 1 (lb P_spec_foGood 0) (spec_foGood_L0a (0 : Int) a0 ((List.length a0 : Nat) : Int) (0 : Int)) (.exit 0) (spec_foGood_L0X2 k1y3 k1y23 k1y24 k1y25 k1y26),
      decide (k1y3 ≤ (8 : Int)) = true]) (by kernel_rfl) ⟨(decide_eq_false h1), (decide_eq_true h2), h3, h4, h5, h6, (decide_eq_true h7), trivial⟩ get_spec_foGood (by decide)

theorem spec_foGood_p5 (a0 : (List ByteArray)) (k1y3 : Int) (k1y23 : (List ByteArray)) (k1y24 : Int) (k1y25 : Int) (k1y26 : Bool)
    (h1 : ¬ (((List.length a0 : Nat) : Int) > (8 : Int)))
    (h2 : ((List.length a0 : Nat) : Int) > (0 : Int))
    (h3 : 0 ≤ (IntKind.wrap .i64 (((List.length a0 : Nat) : Int) - (1 : Int))))
    (h4 : (IntKind.wrap .i64 (((List.length a0 : Nat) : Int) - (1 : Int))) < (List.length a0 : Int))
    (h5 : SC cfg.P i_spec_trLeaf [.s (.v .str (List.getD a0 ((IntKind.wrap .i64 (((List.length a0 : Nat) : Int) - (1 : Int)))).toNat (⟨#[]⟩ : ByteArray)))] (.s (.v .bool false)) [])
    (h6 : LoopSC cfg.P 1 (lb P_spec_foGood 0) (spec_foGood_L0a (0 : Int) a0 ((List.length a0 : Nat) : Int) (0 : Int)) (.exit 0) (spec_foGood_L0X2 k1y3 k1y23 k1y24 k1y25 k1y26))
    (h7 : ¬ (k1y3 ≤ (8 : Int))) :
    SC cfg.P i_spec_foGood [.s (.v (.sl .str) a0)] (.s (.v .bool false)) [] :=
  SC_of_run cfgOK (its := [.bool false, .bool true, .res (.s (.v .bool false)) [] [] [], .loop (fun _ => (.exit 0, spec_foGood_L0X2 k1y3 k1y23 k1y24 k1y25 k1y26)), .bool false])
    (ps := [decide (((List.length a0 : Nat) : Int) > (8 : Int)) = false,
      decide (((List.length a0 : Nat) : Int) > (0 : Int)) = true,
      0 ≤ (IntKind.wrap .i64 (((List.length a0 : Nat) : Int) - (1 : Int))),
      (IntKind.wrap .i64 (((List.length a0 : Nat) : Int) - (1 : Int))) < (List.length a0 : Int),
      SC cfg.P i_spec_trLeaf [.s (.v .str (List.getD a0 ((IntKind.wrap .i64 (((List.length a0 : Nat) : Int) - (1 : Int)))).toNat (⟨#[]⟩ : ByteArray)))] (.s (.v .bool false)) [],
      LoopSC cfg.P 1 (lb P_spec_foGood 0) (spec_foGood_L0a (0 : Int) a0 ((List.length a0 : Nat) : Int) (0 : Int)) (.exit 0) (spec_foGood_L0X2 k1y3 k1y23 k1y24 k1y25 k1y26),
      decide (k1y3 ≤ (8 : Int)) = false]) (by kernel_rfl) ⟨(decide_eq_false h1), (decide_eq_true h2), h3, h4, h5, h6, (decide_eq_false h7), trivial⟩ get_spec_foGood (by decide)

theorem spec_foGood_p7 (a0 : (List ByteArray)) (k1y3 : Int) (k1y23 : (List ByteArray)) (k1y24 : Int) (k1y25 : Int) (k1y26 : Bool)
    (h1 : ¬ (((List.length a0 : Nat) : Int) > (8 : Int)))
    (h2 : ¬ (((List.length a0 : Nat) : Int) > (0 : Int)))
    (h3 : LoopSC cfg.P 1 (lb P_spec_foGood 0) (spec_foGood_L0a (0 : Int) a0 ((List.length a0 : Nat) : Int) (0 : Int)) (.exit 0) (spec_foGood_L0X2 k1y3 k1y23 k1y24 k1y25 k1y26))
    (h4 : k1y3 ≤ (8 : Int)) :
    SC cfg.P i_spec_foGood [.s (.v (.sl .str) a0)] (.s (.v .bool true)) [] :=
  SC_of_run cfgOK (its := [.bool false, .bool false, .loop (fun _ => (.exit 0, spec_foGood_L0X2 k1y3 k1y23 k1y24 k1y25 k1y26)), .bool true])
    (ps := [decide (((List.length a0 : Nat) : Int) > (8 : Int)) = false,
      decide (((List.length a0 : Nat) : Int) > (0 : Int)) = false,
      LoopSC cfg.P 1 (lb P_spec_foGood 0) (spec_foGood_L0a (0 : Int) a0 ((List.length a0 : Nat) : Int) (0 : Int)) (.exit 0) (spec_foGood_L0X2 k1y3 k1y23 k1y24 k1y25 k1y26),
      decide (k1y3 ≤ (8 : Int)) = true]) (by kernel_rfl) ⟨(decide_eq_false h1), (decide_eq_false h2), h3, (decide_eq_true h4), trivial⟩ get_spec_foGood (by decide)

/-! ### spec_foIf -/


theorem spec_foIf_p1 (a0 : (List ByteArray)) (c1 : (List ByteArray))
    (h1 : SC cfg.P i_spec_wdShort [.s (.v (.sl .str) a0)] (.s (.own t_string .str c1)) [])
    (h2 : SC cfg.P i_spec_foGood [.s (.v (.sl .str) c1)] (.s (.v .bool true)) []) :
    SC cfg.P i_spec_foIf [.s (.v (.sl .str) a0)] (.tup [.own t_string .str c1, .v .bool true]) [] :=
  SC_of_run cfgOK (its := [.res (.s (.own t_string .str c1)) [] [] [6], .res (.s (.v .bool true)) [] [] []])
    (ps := [SC cfg.P i_spec_wdShort [.s (.v (.sl .str) a0)] (.s (.own t_string .str c1)) [],
      SC cfg.P i_spec_foGood [.s (.v (.sl .str) c1)] (.s (.v .bool true)) []]) (by kernel_rfl) ⟨h1, h2, trivial⟩ get_spec_foIf (by decide)

theorem spec_foIf_p2 (a0 : (List ByteArray)) (c1 : (List ByteArray))
    (h1 : SC cfg.P i_spec_wdShort [.s (.v (.sl .str) a0)] (.s (.own t_string .str c1)) [])
    (h2 : SC cfg.P i_spec_foGood [.s (.v (.sl .str) c1)] (.s (.v .bool false)) []) :
    SC cfg.P i_spec_foIf [.s (.v (.sl .str) a0)] (.tup [.own t_string .str ([] : List ByteArray), .v .bool false]) [] :=
  SC_of_run cfgOK (its := [.res (.s (.own t_string .str c1)) [] [] [6], .res (.s (.v .bool false)) [] [] []])
    (ps := [SC cfg.P i_spec_wdShort [.s (.v (.sl .str) a0)] (.s (.own t_string .str c1)) [],
      SC cfg.P i_spec_foGood [.s (.v (.sl .str) c1)] (.s (.v .bool false)) []]) (by kernel_rfl) ⟨h1, h2, trivial⟩ get_spec_foIf (by decide)

/-! ### spec_foStack -/


def spec_foStack_L0a (x0 : (List ByteArray)) (x1 : (List ByteArray)) (x6 : Int) (x7 : Int) (xo5 : (List ByteArray)) : St := mkSt 56 [(0, .s (.v (.sl .str) x0)), (1, .s (.v (.sl .str) x1)), (5, .s (.osl 5 0)), (6, .s (.v (.int .i64) x6)), (7, .s (.v (.int .i64) x7))] [(5, .row t_string .str xo5 0 false)]

def spec_foStack_L1a (x0 : (List ByteArray)) (x1 : (List ByteArray)) (x6 : Int) (x7 : Int) (x8 : ByteArray) (x9 : ByteArray) (x10 : Int) (xo5 : (List ByteArray)) : St := mkSt 56 [(0, .s (.v (.sl .str) x0)), (1, .s (.v (.sl .str) x1)), (5, .s (.osl 5 0)), (6, .s (.v (.int .i64) x6)), (7, .s (.v (.int .i64) x7)), (8, .s (.v .str x8)), (9, .s (.v .str x9)), (10, .s (.v (.int .i64) x10))] [(5, .row t_string .str xo5 0 false)]

def spec_foStack_L1X1 (y0 : (List ByteArray)) (y1 : (List ByteArray)) (y6 : Int) (y7 : Int) (y8 : ByteArray) (y9 : ByteArray) (y10 : Int) (y29 : Bool) (yo5 : (List ByteArray)) : St := mkSt 56 [(0, .s (.v (.sl .str) y0)), (1, .s (.v (.sl .str) y1)), (5, .s (.osl 5 0)), (6, .s (.v (.int .i64) y6)), (7, .s (.v (.int .i64) y7)), (8, .s (.v .str y8)), (9, .s (.v .str y9)), (10, .s (.v (.int .i64) y10)), (29, .s (.v .bool y29))] [(5, .row t_string .str yo5 0 false)]

def spec_foStack_L0X1 (y0 : (List ByteArray)) (y1 : (List ByteArray)) (y6 : Int) (y7 : Int) (y20 : Bool) (yo5 : (List ByteArray)) : St := mkSt 56 [(0, .s (.v (.sl .str) y0)), (1, .s (.v (.sl .str) y1)), (5, .s (.osl 5 0)), (6, .s (.v (.int .i64) y6)), (7, .s (.v (.int .i64) y7)), (20, .s (.v .bool y20))] [(5, .row t_string .str yo5 0 false)]

theorem spec_foStack_L0a_i1 (x0 : (List ByteArray)) (x1 : (List ByteArray)) (x6 : Int) (x7 : Int) (xo5 : (List ByteArray)) (dc1 : ByteArray) (dk1y0 : (List ByteArray)) (dk1y1 : (List ByteArray)) (dk1y6 : Int) (dk1y7 : Int) (dk1y8 : ByteArray) (dk1y9 : ByteArray) (dk1y10 : Int) (dk1y29 : Bool) (dk1yo5 : (List ByteArray))
    (h1 : x7 < ((List.length x0 : Nat) : Int))
    (h2 : SC cfg.P i_spec_foTree [.s (.v (.sl .str) x0), .s (.v (.int .i64) x7)] (.s (.v .str dc1)) [])
    (h3 : LoopSC cfg.P 2 (lb P_spec_foStack 1) (spec_foStack_L1a x0 x1 x6 x7 dc1 (⟨#[]⟩ : ByteArray) (0 : Int) xo5) (.exit 2) (spec_foStack_L1X1 dk1y0 dk1y1 dk1y6 dk1y7 dk1y8 dk1y9 dk1y10 dk1y29 dk1yo5))
    (h4 : sizeOK (List.length dk1yo5 + List.length ([dk1y9] : List ByteArray)))
    {e : AEx} {st : St} (next : LoopSC cfg.P 2 (lb P_spec_foStack 0) (spec_foStack_L0a dk1y0 dk1y1 dk1y6 (IntKind.wrap .i64 (dk1y7 + (1 : Int))) (dk1yo5 ++ ([dk1y9] : List ByteArray))) e st) :
    LoopSC cfg.P 2 (lb P_spec_foStack 0) (spec_foStack_L0a x0 x1 x6 x7 xo5) e st :=
  loop_iter cfgOK (f := i_spec_foStack) (its := [.bool true, .res (.s (.v .str dc1)) [] [] [], .loop (fun _ => (.exit 2, spec_foStack_L1X1 dk1y0 dk1y1 dk1y6 dk1y7 dk1y8 dk1y9 dk1y10 dk1y29 dk1yo5))])
    (ps := [decide (x7 < ((List.length x0 : Nat) : Int)) = true,
      SC cfg.P i_spec_foTree [.s (.v (.sl .str) x0), .s (.v (.int .i64) x7)] (.s (.v .str dc1)) [],
      LoopSC cfg.P 2 (lb P_spec_foStack 1) (spec_foStack_L1a x0 x1 x6 x7 dc1 (⟨#[]⟩ : ByteArray) (0 : Int) xo5) (.exit 2) (spec_foStack_L1X1 dk1y0 dk1y1 dk1y6 dk1y7 dk1y8 dk1y9 dk1y10 dk1y29 dk1yo5),
      sizeOK (List.length dk1yo5 + List.length ([dk1y9] : List ByteArray))]) (st1 := spec_foStack_L0a dk1y0 dk1y1 dk1y6 (IntKind.wrap .i64 (dk1y7 + (1 : Int))) (dk1yo5 ++ ([dk1y9] : List ByteArray))) (by kernel_rfl) ⟨(decide_eq_true h1), h2, h3, h4, trivial⟩ next

theorem spec_foStack_L0a_i2 (x0 : (List ByteArray)) (x1 : (List ByteArray)) (x6 : Int) (x7 : Int) (xo5 : (List ByteArray)) (dc1 : ByteArray) (dk1y0 : (List ByteArray)) (dk1y1 : (List ByteArray)) (dk1y6 : Int) (dk1y7 : Int) (dk1y8 : ByteArray) (dk1y9 : ByteArray) (dk1y10 : Int) (dk1y29 : Bool) (dk1yo5 : (List ByteArray))
    (h1 : ¬ (x7 < ((List.length x0 : Nat) : Int)))
    (h2 : x6 < ((List.length x1 : Nat) : Int))
    (h3 : SC cfg.P i_spec_foTree [.s (.v (.sl .str) x0), .s (.v (.int .i64) x7)] (.s (.v .str dc1)) [])
    (h4 : LoopSC cfg.P 2 (lb P_spec_foStack 1) (spec_foStack_L1a x0 x1 x6 x7 dc1 (⟨#[]⟩ : ByteArray) (0 : Int) xo5) (.exit 2) (spec_foStack_L1X1 dk1y0 dk1y1 dk1y6 dk1y7 dk1y8 dk1y9 dk1y10 dk1y29 dk1yo5))
    (h5 : sizeOK (List.length dk1yo5 + List.length ([dk1y9] : List ByteArray)))
    {e : AEx} {st : St} (next : LoopSC cfg.P 2 (lb P_spec_foStack 0) (spec_foStack_L0a dk1y0 dk1y1 dk1y6 (IntKind.wrap .i64 (dk1y7 + (1 : Int))) (dk1yo5 ++ ([dk1y9] : List ByteArray))) e st) :
    LoopSC cfg.P 2 (lb P_spec_foStack 0) (spec_foStack_L0a x0 x1 x6 x7 xo5) e st :=
  loop_iter cfgOK (f := i_spec_foStack) (its := [.bool false, .bool true, .res (.s (.v .str dc1)) [] [] [], .loop (fun _ => (.exit 2, spec_foStack_L1X1 dk1y0 dk1y1 dk1y6 dk1y7 dk1y8 dk1y9 dk1y10 dk1y29 dk1yo5))])
    (ps := [decide (x7 < ((List.length x0 : Nat) : Int)) = false,
      decide (x6 < ((List.length x1 : Nat) : Int)) = true,
      SC cfg.P i_spec_foTree [.s (.v (.sl .str) x0), .s (.v (.int .i64) x7)] (.s (.v .str dc1)) [],
      LoopSC cfg.P 2 (lb P_spec_foStack 1) (spec_foStack_L1a x0 x1 x6 x7 dc1 (⟨#[]⟩ : ByteArray) (0 : Int) xo5) (.exit 2) (spec_foStack_L1X1 dk1y0 dk1y1 dk1y6 dk1y7 dk1y8 dk1y9 dk1y10 dk1y29 dk1yo5),
      sizeOK (List.length dk1yo5 + List.length ([dk1y9] : List ByteArray))]) (st1 := spec_foStack_L0a dk1y0 dk1y1 dk1y6 (IntKind.wrap .i64 (dk1y7 + (1 : Int))) (dk1yo5 ++ ([dk1y9] : List ByteArray))) (by kernel_rfl) ⟨(decide_eq_false h1), (decide_eq_true h2), h3, h4, h5, trivial⟩ next

theorem spec_foStack_L0a_x3 (x0 : (List ByteArray)) (x1 : (List ByteArray)) (x6 : Int) (x7 : Int) (xo5 : (List ByteArray))
    (h1 : ¬ (x7 < ((List.length x0 : Nat) : Int)))
    (h2 : ¬ (x6 < ((List.length x1 : Nat) : Int))) :
    LoopSC cfg.P 2 (lb P_spec_foStack 0) (spec_foStack_L0a x0 x1 x6 x7 xo5) (.exit 0) (spec_foStack_L0X1 x0 x1 x6 x7 false xo5) :=
  loop_out cfgOK (f := i_spec_foStack) (its := [.bool false, .bool false])
    (ps := [decide (x7 < ((List.length x0 : Nat) : Int)) = false,
      decide (x6 < ((List.length x1 : Nat) : Int)) = false]) (by kernel_rfl) ⟨(decide_eq_false h1), (decide_eq_false h2), trivial⟩ (fun h => by cases h)

theorem spec_foStack_L1a_i1 (x0 : (List ByteArray)) (x1 : (List ByteArray)) (x6 : Int) (x7 : Int) (x8 : ByteArray) (x9 : ByteArray) (x10 : Int) (xo5 : (List ByteArray)) (dc1 : ByteArray)
    (h1 : x10 < ((x8).size : Int))
    (h2 : 0 ≤ x10)
    (h3 : (bt x8 x10) = (46 : Int))
    (h4 : SC cfg.P i_spec_foTree [.s (.v (.sl .str) x1), .s (.v (.int .i64) x6)] (.s (.v .str dc1)) [])
    (h5 : (x9).size + (dc1).size ≤ 2 ^ 62)
    {e : AEx} {st : St} (next : LoopSC cfg.P 2 (lb P_spec_foStack 1) (spec_foStack_L1a x0 x1 (IntKind.wrap .i64 (x6 + (1 : Int))) x7 x8 (x9 ++ dc1) (IntKind.wrap .i64 (x10 + (1 : Int))) xo5) e st) :
    LoopSC cfg.P 2 (lb P_spec_foStack 1) (spec_foStack_L1a x0 x1 x6 x7 x8 x9 x10 xo5) e st :=
  loop_iter cfgOK (f := i_spec_foStack) (its := [.bool true, .bool true, .res (.s (.v .str dc1)) [] [] []])
    (ps := [decide (x10 < ((x8).size : Int)) = true,
      0 ≤ x10,
      x10 < ((x8).size : Int),
      ((bt x8 x10) == (46 : Int)) = true,
      SC cfg.P i_spec_foTree [.s (.v (.sl .str) x1), .s (.v (.int .i64) x6)] (.s (.v .str dc1)) [],
      (x9).size + (dc1).size ≤ 2 ^ 62]) (st1 := spec_foStack_L1a x0 x1 (IntKind.wrap .i64 (x6 + (1 : Int))) x7 x8 (x9 ++ dc1) (IntKind.wrap .i64 (x10 + (1 : Int))) xo5) (by kernel_rfl) ⟨(decide_eq_true h1), h2, h1, (beq_iff_eq.mpr h3), h4, h5, trivial⟩ next

theorem spec_foStack_L1a_i2 (x0 : (List ByteArray)) (x1 : (List ByteArray)) (x6 : Int) (x7 : Int) (x8 : ByteArray) (x9 : ByteArray) (x10 : Int) (xo5 : (List ByteArray))
    (h1 : x10 < ((x8).size : Int))
    (h2 : 0 ≤ x10)
    (h3 : (bt x8 x10) ≠ (46 : Int))
    (h4 : x10 ≤ (IntKind.wrap .i64 (x10 + (1 : Int))))
    (h5 : (IntKind.wrap .i64 (x10 + (1 : Int))) ≤ ((x8).size : Int))
    (h6 : (x9).size + ((ByteArray.extract x8 (x10).toNat ((IntKind.wrap .i64 (x10 + (1 : Int)))).toNat)).size ≤ 2 ^ 62)
    {e : AEx} {st : St} (next : LoopSC cfg.P 2 (lb P_spec_foStack 1) (spec_foStack_L1a x0 x1 x6 x7 x8 (x9 ++ (ByteArray.extract x8 (x10).toNat ((IntKind.wrap .i64 (x10 + (1 : Int)))).toNat)) (IntKind.wrap .i64 (x10 + (1 : Int))) xo5) e st) :
    LoopSC cfg.P 2 (lb P_spec_foStack 1) (spec_foStack_L1a x0 x1 x6 x7 x8 x9 x10 xo5) e st :=
  loop_iter cfgOK (f := i_spec_foStack) (its := [.bool true, .bool false])
    (ps := [decide (x10 < ((x8).size : Int)) = true,
      0 ≤ x10,
      x10 < ((x8).size : Int),
      ((bt x8 x10) == (46 : Int)) = false,
      0 ≤ x10,
      x10 ≤ (IntKind.wrap .i64 (x10 + (1 : Int))),
      (IntKind.wrap .i64 (x10 + (1 : Int))) ≤ ((x8).size : Int),
      (x9).size + ((ByteArray.extract x8 (x10).toNat ((IntKind.wrap .i64 (x10 + (1 : Int)))).toNat)).size ≤ 2 ^ 62]) (st1 := spec_foStack_L1a x0 x1 x6 x7 x8 (x9 ++ (ByteArray.extract x8 (x10).toNat ((IntKind.wrap .i64 (x10 + (1 : Int)))).toNat)) (IntKind.wrap .i64 (x10 + (1 : Int))) xo5) (by kernel_rfl) ⟨(decide_eq_true h1), h2, h1, (beq_eq_false_iff_ne.mpr h3), h2, h4, h5, h6, trivial⟩ next

theorem spec_foStack_L1a_x3 (x0 : (List ByteArray)) (x1 : (List ByteArray)) (x6 : Int) (x7 : Int) (x8 : ByteArray) (x9 : ByteArray) (x10 : Int) (xo5 : (List ByteArray))
    (h1 : ¬ (x10 < ((x8).size : Int))) :
    LoopSC cfg.P 2 (lb P_spec_foStack 1) (spec_foStack_L1a x0 x1 x6 x7 x8 x9 x10 xo5) (.exit 2) (spec_foStack_L1X1 x0 x1 x6 x7 x8 x9 x10 false xo5) :=
  loop_out cfgOK (f := i_spec_foStack) (its := [.bool false])
    (ps := [decide (x10 < ((x8).size : Int)) = false]) (by kernel_rfl) ⟨(decide_eq_false h1), trivial⟩ (fun h => by cases h)

theorem spec_foStack_p1 (a0 : (List ByteArray)) (a1 : (List ByteArray)) (k1y0 : (List ByteArray)) (k1y1 : (List ByteArray)) (k1y6 : Int) (k1y7 : Int) (k1y20 : Bool) (k1yo5 : (List ByteArray)) (c1 : (List ByteArray))
    (h1 : LoopSC cfg.P 2 (lb P_spec_foStack 0) (spec_foStack_L0a a0 a1 (0 : Int) (0 : Int) ([] : List ByteArray)) (.exit 0) (spec_foStack_L0X1 k1y0 k1y1 k1y6 k1y7 k1y20 k1yo5))
    (h2 : SC cfg.P i_spec_wdShort [.s (.v (.sl .str) k1yo5)] (.s (.own t_string .str c1)) []) :
    SC cfg.P i_spec_foStack [.s (.v (.sl .str) a0), .s (.v (.sl .str) a1)] (.s (.own t_string .str c1)) [] :=
  SC_of_run cfgOK (its := [.loop (fun _ => (.exit 0, spec_foStack_L0X1 k1y0 k1y1 k1y6 k1y7 k1y20 k1yo5)), .res (.s (.own t_string .str c1)) [] [] [55]])
    (ps := [LoopSC cfg.P 2 (lb P_spec_foStack 0) (spec_foStack_L0a a0 a1 (0 : Int) (0 : Int) ([] : List ByteArray)) (.exit 0) (spec_foStack_L0X1 k1y0 k1y1 k1y6 k1y7 k1y20 k1yo5),
      SC cfg.P i_spec_wdShort [.s (.v (.sl .str) k1yo5)] (.s (.own t_string .str c1)) []]) (by kernel_rfl) ⟨h1, h2, trivial⟩ get_spec_foStack (by decide)

/-! ### impl_forestOf -/


def impl_forestOf_L0a (x12 : (List ByteArray)) (x13 : Int) (x14 : Int) (xo4 : (List Tr)) : St := mkSt 42 [(4, .s (.osl 4 0)), (12, .s (.v (.sl .str) x12)), (13, .s (.v (.int .i64) x13)), (14, .s (.v (.int .i64) x14))] [(4, .row t_pimpl_node .tree xo4 0 false)]

def impl_forestOf_L0X1 (y3 : Bool) (yo2 : (List Tr)) : St := mkSt 42 [(2, .s (.osl 2 0)), (3, .s (.v .bool y3))] [(2, .row t_pimpl_node .tree yo2 0 false)]

def impl_forestOf_L0X2 (y12 : (List ByteArray)) (y13 : Int) (y14 : Int) (y15 : Bool) (yo4 : (List Tr)) : St := mkSt 42 [(4, .s (.osl 4 0)), (12, .s (.v (.sl .str) y12)), (13, .s (.v (.int .i64) y13)), (14, .s (.v (.int .i64) y14)), (15, .s (.v .bool y15))] [(4, .row t_pimpl_node .tree yo4 0 false)]

theorem impl_forestOf_L0a_i1 (x12 : (List ByteArray)) (x13 : Int) (x14 : Int) (xo4 : (List Tr)) (dc1a : Tr)
    (h1 : x14 < x13)
    (h2 : 0 ≤ x14)
    (h3 : x14 < (List.length x12 : Int))
    (h4 : SC cfg.P i_impl_parse [.s (.v .str (List.getD x12 (x14).toNat (⟨#[]⟩ : ByteArray)))] (.tup [.v .tree dc1a, .v .bool true]) [])
    (h5 : sizeOK (List.length xo4 + List.length ([dc1a] : List Tr)))
    {e : AEx} {st : St} (next : LoopSC cfg.P 1 (lb P_impl_forestOf 0) (impl_forestOf_L0a x12 x13 (IntKind.wrap .i64 (x14 + (1 : Int))) (xo4 ++ ([dc1a] : List Tr))) e st) :
    LoopSC cfg.P 1 (lb P_impl_forestOf 0) (impl_forestOf_L0a x12 x13 x14 xo4) e st :=
  loop_iter cfgOK (f := i_impl_forestOf) (its := [.bool true, .res (.tup [.v .tree dc1a, .v .bool true]) [] [] []])
    (ps := [decide (x14 < x13) = true,
      0 ≤ x14,
      x14 < (List.length x12 : Int),
      SC cfg.P i_impl_parse [.s (.v .str (List.getD x12 (x14).toNat (⟨#[]⟩ : ByteArray)))] (.tup [.v .tree dc1a, .v .bool true]) [],
      sizeOK (List.length xo4 + List.length ([dc1a] : List Tr))]) (st1 := impl_forestOf_L0a x12 x13 (IntKind.wrap .i64 (x14 + (1 : Int))) (xo4 ++ ([dc1a] : List Tr))) (by kernel_rfl) ⟨(decide_eq_true h1), h2, h3, h4, h5, trivial⟩ next

theorem impl_forestOf_L0a_x2 (x12 : (List ByteArray)) (x13 : Int) (x14 : Int) (xo4 : (List Tr)) (dc1a : Tr)
    (h1 : x14 < x13)
    (h2 : 0 ≤ x14)
    (h3 : x14 < (List.length x12 : Int))
    (h4 : SC cfg.P i_impl_parse [.s (.v .str (List.getD x12 (x14).toNat (⟨#[]⟩ : ByteArray)))] (.tup [.v .tree dc1a, .v .bool false]) []) :
    LoopSC cfg.P 1 (lb P_impl_forestOf 0) (impl_forestOf_L0a x12 x13 x14 xo4) (.ret) (impl_forestOf_L0X1 false ([] : List Tr)) :=
  loop_out cfgOK (f := i_impl_forestOf) (its := [.bool true, .res (.tup [.v .tree dc1a, .v .bool false]) [] [] []])
    (ps := [decide (x14 < x13) = true,
      0 ≤ x14,
      x14 < (List.length x12 : Int),
      SC cfg.P i_impl_parse [.s (.v .str (List.getD x12 (x14).toNat (⟨#[]⟩ : ByteArray)))] (.tup [.v .tree dc1a, .v .bool false]) []]) (by kernel_rfl) ⟨(decide_eq_true h1), h2, h3, h4, trivial⟩ (fun h => by cases h)

theorem impl_forestOf_L0a_x3 (x12 : (List ByteArray)) (x13 : Int) (x14 : Int) (xo4 : (List Tr))
    (h1 : ¬ (x14 < x13)) :
    LoopSC cfg.P 1 (lb P_impl_forestOf 0) (impl_forestOf_L0a x12 x13 x14 xo4) (.exit 0) (impl_forestOf_L0X2 x12 x13 x14 false xo4) :=
  loop_out cfgOK (f := i_impl_forestOf) (its := [.bool false])
    (ps := [decide (x14 < x13) = false]) (by kernel_rfl) ⟨(decide_eq_false h1), trivial⟩ (fun h => by cases h)

theorem impl_forestOf_p1 (a0 : (List ByteArray))
    (h1 : ((List.length a0 : Nat) : Int) > (8 : Int)) :
    SC cfg.P i_impl_forestOf [.s (.v (.sl .str) a0)] (.tup [.own t_pimpl_node .tree ([] : List Tr), .v .bool false]) [] :=
  SC_of_run cfgOK (its := [.bool true])
    (ps := [decide (((List.length a0 : Nat) : Int) > (8 : Int)) = true]) (by kernel_rfl) ⟨(decide_eq_true h1), trivial⟩ get_impl_forestOf (by decide)

theorem impl_forestOf_p2 (a0 : (List ByteArray)) (k1y3 : Bool) (k1yo2 : (List Tr))
    (h1 : ¬ (((List.length a0 : Nat) : Int) > (8 : Int)))
    (h2 : LoopSC cfg.P 1 (lb P_impl_forestOf 0) (impl_forestOf_L0a a0 ((List.length a0 : Nat) : Int) (0 : Int) ([] : List Tr)) (.ret) (impl_forestOf_L0X1 k1y3 k1yo2)) :
    SC cfg.P i_impl_forestOf [.s (.v (.sl .str) a0)] (.tup [.own t_pimpl_node .tree k1yo2, .v .bool k1y3]) [] :=
  SC_of_run cfgOK (its := [.bool false, .loop (fun _ => (.ret, impl_forestOf_L0X1 k1y3 k1yo2))])
    (ps := [decide (((List.length a0 : Nat) : Int) > (8 : Int)) = false,
      LoopSC cfg.P 1 (lb P_impl_forestOf 0) (impl_forestOf_L0a a0 ((List.length a0 : Nat) : Int) (0 : Int) ([] : List Tr)) (.ret) (impl_forestOf_L0X1 k1y3 k1yo2)]) (by kernel_rfl) ⟨(decide_eq_false h1), h2, trivial⟩ get_impl_forestOf (by decide)

theorem impl_forestOf_p3 (a0 : (List ByteArray)) (k1y12 : (List ByteArray)) (k1y13 : Int) (k1y14 : Int) (k1y15 : Bool) (k1yo4 : (List Tr)) (c1 : Int) (c2 : (List Tr))
    (h1 : ¬ (((List.length a0 : Nat) : Int) > (8 : Int)))
    (h2 : LoopSC cfg.P 1 (lb P_impl_forestOf 0) (impl_forestOf_L0a a0 ((List.length a0 : Nat) : Int) (0 : Int) ([] : List Tr)) (.exit 0) (impl_forestOf_L0X2 k1y12 k1y13 k1y14 k1y15 k1yo4))
    (h3 : SC cfg.P i_impl_forest_carets [.s (.v (.sl .tree) k1yo4)] (.s (.v (.int .i64) c1)) [])
    (h4 : c1 ≤ (8 : Int))
    (h5 : SC cfg.P i_impl_forest_trimmed [.s (.v (.sl .tree) k1yo4)] (.s (.v (.sl .tree) c2)) [])
    (h6 : ((List.length c2 : Nat) : Int) = ((List.length k1yo4 : Nat) : Int)) :
    SC cfg.P i_impl_forestOf [.s (.v (.sl .str) a0)] (.tup [.v (.sl .tree) k1yo4, .v .bool true]) [] :=
  SC_of_run cfgOK (its := [.bool false, .loop (fun _ => (.exit 0, impl_forestOf_L0X2 k1y12 k1y13 k1y14 k1y15 k1yo4)), .res (.s (.v (.int .i64) c1)) [] [] [], .bool true, .res (.s (.v (.sl .tree) c2)) [] [] [], .bool true])
    (ps := [decide (((List.length a0 : Nat) : Int) > (8 : Int)) = false,
      LoopSC cfg.P 1 (lb P_impl_forestOf 0) (impl_forestOf_L0a a0 ((List.length a0 : Nat) : Int) (0 : Int) ([] : List Tr)) (.exit 0) (impl_forestOf_L0X2 k1y12 k1y13 k1y14 k1y15 k1yo4),
      SC cfg.P i_impl_forest_carets [.s (.v (.sl .tree) k1yo4)] (.s (.v (.int .i64) c1)) [],
      decide (c1 ≤ (8 : Int)) = true,
      SC cfg.P i_impl_forest_trimmed [.s (.v (.sl .tree) k1yo4)] (.s (.v (.sl .tree) c2)) [],
      (((List.length c2 : Nat) : Int) == ((List.length k1yo4 : Nat) : Int)) = true]) (by kernel_rfl) ⟨(decide_eq_false h1), h2, h3, (decide_eq_true h4), h5, (beq_iff_eq.mpr h6), trivial⟩ get_impl_forestOf (by decide)

theorem impl_forestOf_p4 (a0 : (List ByteArray)) (k1y12 : (List ByteArray)) (k1y13 : Int) (k1y14 : Int) (k1y15 : Bool) (k1yo4 : (List Tr)) (c1 : Int) (c2 : (List Tr))
    (h1 : ¬ (((List.length a0 : Nat) : Int) > (8 : Int)))
    (h2 : LoopSC cfg.P 1 (lb P_impl_forestOf 0) (impl_forestOf_L0a a0 ((List.length a0 : Nat) : Int) (0 : Int) ([] : List Tr)) (.exit 0) (impl_forestOf_L0X2 k1y12 k1y13 k1y14 k1y15 k1yo4))
    (h3 : SC cfg.P i_impl_forest_carets [.s (.v (.sl .tree) k1yo4)] (.s (.v (.int .i64) c1)) [])
    (h4 : c1 ≤ (8 : Int))
    (h5 : SC cfg.P i_impl_forest_trimmed [.s (.v (.sl .tree) k1yo4)] (.s (.v (.sl .tree) c2)) [])
    (h6 : ((List.length c2 : Nat) : Int) ≠ ((List.length k1yo4 : Nat) : Int)) :
    SC cfg.P i_impl_forestOf [.s (.v (.sl .str) a0)] (.tup [.v (.sl .tree) k1yo4, .v .bool false]) [] :=
  SC_of_run cfgOK (its := [.bool false, .loop (fun _ => (.exit 0, impl_forestOf_L0X2 k1y12 k1y13 k1y14 k1y15 k1yo4)), .res (.s (.v (.int .i64) c1)) [] [] [], .bool true, .res (.s (.v (.sl .tree) c2)) [] [] [], .bool false])
    (ps := [decide (((List.length a0 : Nat) : Int) > (8 : Int)) = false,
      LoopSC cfg.P 1 (lb P_impl_forestOf 0) (impl_forestOf_L0a a0 ((List.length a0 : Nat) : Int) (0 : Int) ([] : List Tr)) (.exit 0) (impl_forestOf_L0X2 k1y12 k1y13 k1y14 k1y15 k1yo4),
      SC cfg.P i_impl_forest_carets [.s (.v (.sl .tree) k1yo4)] (.s (.v (.int .i64) c1)) [],
      decide (c1 ≤ (8 : Int)) = true,
      SC cfg.P i_impl_forest_trimmed [.s (.v (.sl .tree) k1yo4)] (.s (.v (.sl .tree) c2)) [],
      (((List.length c2 : Nat) : Int) == ((List.length k1yo4 : Nat) : Int)) = false]) (by kernel_rfl) ⟨(decide_eq_false h1), h2, h3, (decide_eq_true h4), h5, (beq_eq_false_iff_ne.mpr h6), trivial⟩ get_impl_forestOf (by decide)

theorem impl_forestOf_p5 (a0 : (List ByteArray)) (k1y12 : (List ByteArray)) (k1y13 : Int) (k1y14 : Int) (k1y15 : Bool) (k1yo4 : (List Tr)) (c1 : Int)
    (h1 : ¬ (((List.length a0 : Nat) : Int) > (8 : Int)))
    (h2 : LoopSC cfg.P 1 (lb P_impl_forestOf 0) (impl_forestOf_L0a a0 ((List.length a0 : Nat) : Int) (0 : Int) ([] : List Tr)) (.exit 0) (impl_forestOf_L0X2 k1y12 k1y13 k1y14 k1y15 k1yo4))
    (h3 : SC cfg.P i_impl_forest_carets [.s (.v (.sl .tree) k1yo4)] (.s (.v (.int .i64) c1)) [])
    (h4 : ¬ (c1 ≤ (8 : Int))) :
    SC cfg.P i_impl_forestOf [.s (.v (.sl .str) a0)] (.tup [.own t_pimpl_node .tree k1yo4, .v .bool false]) [] :=
  SC_of_run cfgOK (its := [.bool false, .loop (fun _ => (.exit 0, impl_forestOf_L0X2 k1y12 k1y13 k1y14 k1y15 k1yo4)), .res (.s (.v (.int .i64) c1)) [] [] [], .bool false])
    (ps := [decide (((List.length a0 : Nat) : Int) > (8 : Int)) = false,
      LoopSC cfg.P 1 (lb P_impl_forestOf 0) (impl_forestOf_L0a a0 ((List.length a0 : Nat) : Int) (0 : Int) ([] : List Tr)) (.exit 0) (impl_forestOf_L0X2 k1y12 k1y13 k1y14 k1y15 k1yo4),
      SC cfg.P i_impl_forest_carets [.s (.v (.sl .tree) k1yo4)] (.s (.v (.int .i64) c1)) [],
      decide (c1 ≤ (8 : Int)) = false]) (by kernel_rfl) ⟨(decide_eq_false h1), h2, h3, (decide_eq_false h4), trivial⟩ get_impl_forestOf (by decide)

/-! ### impl_forest_carets -/


def impl_forest_carets_L0a (x3 : Int) (x6 : (List Tr)) (x7 : Int) (x8 : Int) : St := mkSt 18 [(3, .s (.v (.int .i64) x3)), (6, .s (.v (.sl .tree) x6)), (7, .s (.v (.int .i64) x7)), (8, .s (.v (.int .i64) x8))] []

def impl_forest_carets_L0X1 (y3 : Int) (y6 : (List Tr)) (y7 : Int) (y8 : Int) (y9 : Bool) : St := mkSt 18 [(3, .s (.v (.int .i64) y3)), (6, .s (.v (.sl .tree) y6)), (7, .s (.v (.int .i64) y7)), (8, .s (.v (.int .i64) y8)), (9, .s (.v .bool y9))] []

theorem impl_forest_carets_L0a_i1 (x3 : Int) (x6 : (List Tr)) (x7 : Int) (x8 : Int) (dc1 : Int)
    (h1 : x8 < x7)
    (h2 : 0 ≤ x8)
    (h3 : x8 < (List.length x6 : Int))
    (h4 : SC cfg.P i_impl_node_carets [.s (.v .tree (List.getD x6 (x8).toNat Tr.leaf))] (.s (.v (.int .i64) dc1)) [])
    {e : AEx} {st : St} (next : LoopSC cfg.P 1 (lb P_impl_forest_carets 0) (impl_forest_carets_L0a (IntKind.wrap .i64 (x3 + dc1)) x6 x7 (IntKind.wrap .i64 (x8 + (1 : Int)))) e st) :
    LoopSC cfg.P 1 (lb P_impl_forest_carets 0) (impl_forest_carets_L0a x3 x6 x7 x8) e st :=
  loop_iter cfgOK (f := i_impl_forest_carets) (its := [.bool true, .res (.s (.v (.int .i64) dc1)) [] [] []])
    (ps := [decide (x8 < x7) = true,
      0 ≤ x8,
      x8 < (List.length x6 : Int),
      SC cfg.P i_impl_node_carets [.s (.v .tree (List.getD x6 (x8).toNat Tr.leaf))] (.s (.v (.int .i64) dc1)) []]) (st1 := impl_forest_carets_L0a (IntKind.wrap .i64 (x3 + dc1)) x6 x7 (IntKind.wrap .i64 (x8 + (1 : Int)))) (by kernel_rfl) ⟨(decide_eq_true h1), h2, h3, h4, trivial⟩ next

theorem impl_forest_carets_L0a_x2 (x3 : Int) (x6 : (List Tr)) (x7 : Int) (x8 : Int)
    (h1 : ¬ (x8 < x7)) :
    LoopSC cfg.P 1 (lb P_impl_forest_carets 0) (impl_forest_carets_L0a x3 x6 x7 x8) (.exit 0) (impl_forest_carets_L0X1 x3 x6 x7 x8 false) :=
  loop_out cfgOK (f := i_impl_forest_carets) (its := [.bool false])
    (ps := [decide (x8 < x7) = false]) (by kernel_rfl) ⟨(decide_eq_false h1), trivial⟩ (fun h => by cases h)

theorem impl_forest_carets_p1 (a0 : (List Tr)) (k1y3 : Int) (k1y6 : (List Tr)) (k1y7 : Int) (k1y8 : Int) (k1y9 : Bool)
    (h1 : LoopSC cfg.P 1 (lb P_impl_forest_carets 0) (impl_forest_carets_L0a (0 : Int) a0 ((List.length a0 : Nat) : Int) (0 : Int)) (.exit 0) (impl_forest_carets_L0X1 k1y3 k1y6 k1y7 k1y8 k1y9)) :
    SC cfg.P i_impl_forest_carets [.s (.v (.sl .tree) a0)] (.s (.v (.int .i64) k1y3)) [] :=
  SC_of_run cfgOK (its := [.loop (fun _ => (.exit 0, impl_forest_carets_L0X1 k1y3 k1y6 k1y7 k1y8 k1y9))])
    (ps := [LoopSC cfg.P 1 (lb P_impl_forest_carets 0) (impl_forest_carets_L0a (0 : Int) a0 ((List.length a0 : Nat) : Int) (0 : Int)) (.exit 0) (impl_forest_carets_L0X1 k1y3 k1y6 k1y7 k1y8 k1y9)]) (by kernel_rfl) ⟨h1, trivial⟩ get_impl_forest_carets (by decide)

/-! ### impl_isPartOf -/


def impl_isPartOf_L0a (x1 : (List Tr)) (x7 : (List Tr)) (x8 : Int) (x9 : Int) : St := mkSt 21 [(1, .s (.v (.sl .tree) x1)), (7, .s (.v (.sl .tree) x7)), (8, .s (.v (.int .i64) x8)), (9, .s (.v (.int .i64) x9))] []

def impl_isPartOf_L0X1 (y4 : Bool) : St := mkSt 21 [(4, .s (.v .bool y4))] []

def impl_isPartOf_L0X2 (y1 : (List Tr)) (y7 : (List Tr)) (y8 : Int) (y9 : Int) (y10 : Bool) : St := mkSt 21 [(1, .s (.v (.sl .tree) y1)), (7, .s (.v (.sl .tree) y7)), (8, .s (.v (.int .i64) y8)), (9, .s (.v (.int .i64) y9)), (10, .s (.v .bool y10))] []

theorem impl_isPartOf_L0a_i1 (x1 : (List Tr)) (x7 : (List Tr)) (x8 : Int) (x9 : Int) (dc1 : Tr)
    (h1 : x9 < x8)
    (h2 : 0 ≤ x9)
    (h3 : x9 < (List.length x7 : Int))
    (h4 : SC cfg.P i_impl_forest_tree [.s (.v (.sl .tree) x1), .s (.v (.int .i64) x9)] (.s (.v .tree dc1)) [])
    (h5 : SC cfg.P i_impl_isPart [.s (.v .tree (List.getD x7 (x9).toNat Tr.leaf)), .s (.v .tree dc1)] (.s (.v .bool true)) [])
    {e : AEx} {st : St} (next : LoopSC cfg.P 2 (lb P_impl_isPartOf 0) (impl_isPartOf_L0a x1 x7 x8 (IntKind.wrap .i64 (x9 + (1 : Int)))) e st) :
    LoopSC cfg.P 2 (lb P_impl_isPartOf 0) (impl_isPartOf_L0a x1 x7 x8 x9) e st :=
  loop_iter cfgOK (f := i_impl_isPartOf) (its := [.bool true, .res (.s (.v .tree dc1)) [] [] [], .res (.s (.v .bool true)) [] [] []])
    (ps := [decide (x9 < x8) = true,
      0 ≤ x9,
      x9 < (List.length x7 : Int),
      SC cfg.P i_impl_forest_tree [.s (.v (.sl .tree) x1), .s (.v (.int .i64) x9)] (.s (.v .tree dc1)) [],
      SC cfg.P i_impl_isPart [.s (.v .tree (List.getD x7 (x9).toNat Tr.leaf)), .s (.v .tree dc1)] (.s (.v .bool true)) []]) (st1 := impl_isPartOf_L0a x1 x7 x8 (IntKind.wrap .i64 (x9 + (1 : Int)))) (by kernel_rfl) ⟨(decide_eq_true h1), h2, h3, h4, h5, trivial⟩ next

theorem impl_isPartOf_L0a_x2 (x1 : (List Tr)) (x7 : (List Tr)) (x8 : Int) (x9 : Int) (dc1 : Tr)
    (h1 : x9 < x8)
    (h2 : 0 ≤ x9)
    (h3 : x9 < (List.length x7 : Int))
    (h4 : SC cfg.P i_impl_forest_tree [.s (.v (.sl .tree) x1), .s (.v (.int .i64) x9)] (.s (.v .tree dc1)) [])
    (h5 : SC cfg.P i_impl_isPart [.s (.v .tree (List.getD x7 (x9).toNat Tr.leaf)), .s (.v .tree dc1)] (.s (.v .bool false)) []) :
    LoopSC cfg.P 2 (lb P_impl_isPartOf 0) (impl_isPartOf_L0a x1 x7 x8 x9) (.ret) (impl_isPartOf_L0X1 false) :=
  loop_out cfgOK (f := i_impl_isPartOf) (its := [.bool true, .res (.s (.v .tree dc1)) [] [] [], .res (.s (.v .bool false)) [] [] []])
    (ps := [decide (x9 < x8) = true,
      0 ≤ x9,
      x9 < (List.length x7 : Int),
      SC cfg.P i_impl_forest_tree [.s (.v (.sl .tree) x1), .s (.v (.int .i64) x9)] (.s (.v .tree dc1)) [],
      SC cfg.P i_impl_isPart [.s (.v .tree (List.getD x7 (x9).toNat Tr.leaf)), .s (.v .tree dc1)] (.s (.v .bool false)) []]) (by kernel_rfl) ⟨(decide_eq_true h1), h2, h3, h4, h5, trivial⟩ (fun h => by cases h)

theorem impl_isPartOf_L0a_x3 (x1 : (List Tr)) (x7 : (List Tr)) (x8 : Int) (x9 : Int)
    (h1 : ¬ (x9 < x8)) :
    LoopSC cfg.P 2 (lb P_impl_isPartOf 0) (impl_isPartOf_L0a x1 x7 x8 x9) (.exit 0) (impl_isPartOf_L0X2 x1 x7 x8 x9 false) :=
  loop_out cfgOK (f := i_impl_isPartOf) (its := [.bool false])
    (ps := [decide (x9 < x8) = false]) (by kernel_rfl) ⟨(decide_eq_false h1), trivial⟩ (fun h => by cases h)

theorem impl_isPartOf_p1 (a0 : (List Tr)) (a1 : (List Tr)) (k1y4 : Bool)
    (h1 : LoopSC cfg.P 2 (lb P_impl_isPartOf 0) (impl_isPartOf_L0a a1 a0 ((List.length a0 : Nat) : Int) (0 : Int)) (.ret) (impl_isPartOf_L0X1 k1y4)) :
    SC cfg.P i_impl_isPartOf [.s (.v (.sl .tree) a0), .s (.v (.sl .tree) a1)] (.s (.v .bool k1y4)) [] :=
  SC_of_run cfgOK (its := [.loop (fun _ => (.ret, impl_isPartOf_L0X1 k1y4))])
    (ps := [LoopSC cfg.P 2 (lb P_impl_isPartOf 0) (impl_isPartOf_L0a a1 a0 ((List.length a0 : Nat) : Int) (0 : Int)) (.ret) (impl_isPartOf_L0X1 k1y4)]) (by kernel_rfl) ⟨h1, trivial⟩ get_impl_isPartOf (by decide)

theorem impl_isPartOf_p2 (a0 : (List Tr)) (a1 : (List Tr)) (k1y1 : (List Tr)) (k1y7 : (List Tr)) (k1y8 : Int) (k1y9 : Int) (k1y10 : Bool)
    (h1 : LoopSC cfg.P 2 (lb P_impl_isPartOf 0) (impl_isPartOf_L0a a1 a0 ((List.length a0 : Nat) : Int) (0 : Int)) (.exit 0) (impl_isPartOf_L0X2 k1y1 k1y7 k1y8 k1y9 k1y10)) :
    SC cfg.P i_impl_isPartOf [.s (.v (.sl .tree) a0), .s (.v (.sl .tree) a1)] (.s (.v .bool true)) [] :=
  SC_of_run cfgOK (its := [.loop (fun _ => (.exit 0, impl_isPartOf_L0X2 k1y1 k1y7 k1y8 k1y9 k1y10))])
    (ps := [LoopSC cfg.P 2 (lb P_impl_isPartOf 0) (impl_isPartOf_L0a a1 a0 ((List.length a0 : Nat) : Int) (0 : Int)) (.exit 0) (impl_isPartOf_L0X2 k1y1 k1y7 k1y8 k1y9 k1y10)]) (by kernel_rfl) ⟨h1, trivial⟩ get_impl_isPartOf (by decide)

/-! ### impl_forest_tree -/


theorem impl_forest_tree_p1 (a0 : (List Tr)) (a1 : Int)
    (h1 : a1 < ((List.length a0 : Nat) : Int))
    (h2 : 0 ≤ a1)
    (h3 : a1 < (List.length a0 : Int)) :
    SC cfg.P i_impl_forest_tree [.s (.v (.sl .tree) a0), .s (.v (.int .i64) a1)] (.s (.v .tree (List.getD a0 (a1).toNat Tr.leaf))) [] :=
  SC_of_run cfgOK (its := [.bool true])
    (ps := [decide (a1 < ((List.length a0 : Nat) : Int)) = true,
      0 ≤ a1,
      a1 < (List.length a0 : Int)]) (by kernel_rfl) ⟨(decide_eq_true h1), h2, h3, trivial⟩ get_impl_forest_tree (by decide)

theorem impl_forest_tree_p2 (a0 : (List Tr)) (a1 : Int)
    (h1 : ¬ (a1 < ((List.length a0 : Nat) : Int))) :
    SC cfg.P i_impl_forest_tree [.s (.v (.sl .tree) a0), .s (.v (.int .i64) a1)] (.s (.v .tree Tr.leaf)) [] :=
  SC_of_run cfgOK (its := [.bool false])
    (ps := [decide (a1 < ((List.length a0 : Nat) : Int)) = false]) (by kernel_rfl) ⟨(decide_eq_false h1), trivial⟩ get_impl_forest_tree (by decide)

/-! ### impl_forest_pair -/


theorem impl_forest_pair_p1 (a0 : (List Tr)) (c1 : Tr) (c2 : Int) (c3 : Tr) (c4 : (Tr × Tr))
    (h1 : SC cfg.P i_impl_forest_hung [.s (.v (.sl .tree) a0)] (.s (.v .tree c1)) [])
    (h2 : SC cfg.P i_impl_node_carets [.s (.v .tree c1)] (.s (.v (.int .i64) c2)) [])
    (h3 : SC cfg.P i_impl_rightComb [.s (.v (.int .i64) c2)] (.s (.v .tree c3)) [])
    (h4 : SC cfg.P i_impl_pair_reduced [.s (.v (.pr .tree .tree) (c1, c3))] (.s (.v (.pr .tree .tree) c4)) []) :
    SC cfg.P i_impl_forest_pair [.s (.v (.sl .tree) a0)] (.s (.v (.pr .tree .tree) c4)) [] :=
  SC_of_run cfgOK (its := [.res (.s (.v .tree c1)) [] [] [], .res (.s (.v (.int .i64) c2)) [] [] [], .res (.s (.v .tree c3)) [] [] [], .res (.s (.v (.pr .tree .tree) c4)) [] [] []])
    (ps := [SC cfg.P i_impl_forest_hung [.s (.v (.sl .tree) a0)] (.s (.v .tree c1)) [],
      SC cfg.P i_impl_node_carets [.s (.v .tree c1)] (.s (.v (.int .i64) c2)) [],
      SC cfg.P i_impl_rightComb [.s (.v (.int .i64) c2)] (.s (.v .tree c3)) [],
      SC cfg.P i_impl_pair_reduced [.s (.v (.pr .tree .tree) (c1, c3))] (.s (.v (.pr .tree .tree) c4)) []]) (by kernel_rfl) ⟨h1, h2, h3, h4, trivial⟩ get_impl_forest_pair (by decide)

/-! ### spec_DrawIsPartOfForest -/


theorem spec_DrawIsPartOfForest_p1 (a0 : (List Int)) (c1a : (List ByteArray)) (c1b : (List ByteArray)) (c1o0 : ((List Int) × (Int × Int)))
    (h1 : SC cfg.P i_spec_l1Cur_forests [.s (.mbx (.pr (.sl (.int .u8)) (.pr (.int .i64) (.int .u64))) (a0, ((0 : Int), (0 : Int))))] (.tup [.own t_string .str c1a, .own t_string .str c1b]) [.box (.pr (.sl (.int .u8)) (.pr (.int .i64) (.int .u64))) c1o0]) :
    SC cfg.P i_spec_DrawIsPartOfForest [.s (.v (.sl (.int .u8)) a0)] (.tup [.own t_string .str c1a, .own t_string .str c1b]) [] :=
  SC_of_run cfgOK (its := [.res (.tup [.own t_string .str c1a, .own t_string .str c1b]) [.box (.pr (.sl (.int .u8)) (.pr (.int .i64) (.int .u64))) c1o0] [] [10, 11]])
    (ps := [SC cfg.P i_spec_l1Cur_forests [.s (.mbx (.pr (.sl (.int .u8)) (.pr (.int .i64) (.int .u64))) (a0, ((0 : Int), (0 : Int))))] (.tup [.own t_string .str c1a, .own t_string .str c1b]) [.box (.pr (.sl (.int .u8)) (.pr (.int .i64) (.int .u64))) c1o0]]) (by kernel_rfl) ⟨h1, trivial⟩ get_spec_DrawIsPartOfForest (by decide)

/-! ### spec_foPart -/


def spec_foPart_L0a (x1 : (List ByteArray)) (x7 : (List ByteArray)) (x8 : Int) (x9 : Int) : St := mkSt 24 [(1, .s (.v (.sl .str) x1)), (7, .s (.v (.sl .str) x7)), (8, .s (.v (.int .i64) x8)), (9, .s (.v (.int .i64) x9))] []

def spec_foPart_L0X1 (y4 : Bool) : St := mkSt 24 [(4, .s (.v .bool y4))] []

def spec_foPart_L0X2 (y1 : (List ByteArray)) (y7 : (List ByteArray)) (y8 : Int) (y9 : Int) (y10 : Bool) : St := mkSt 24 [(1, .s (.v (.sl .str) y1)), (7, .s (.v (.sl .str) y7)), (8, .s (.v (.int .i64) y8)), (9, .s (.v (.int .i64) y9)), (10, .s (.v .bool y10))] []

theorem spec_foPart_L0a_x1 (x1 : (List ByteArray)) (x7 : (List ByteArray)) (x8 : Int) (x9 : Int) (dc1 : ByteArray) (dc2 : ByteArray) (dc3 : ByteArray)
    (h1 : x9 < x8)
    (h2 : 0 ≤ x9)
    (h3 : x9 < (List.length x7 : Int))
    (h4 : SC cfg.P i_spec_foTree [.s (.v (.sl .str) x1), .s (.v (.int .i64) x9)] (.s (.v .str dc1)) [])
    (h5 : SC cfg.P i_spec_trJoin [.s (.v .str (List.getD x7 (x9).toNat (⟨#[]⟩ : ByteArray))), .s (.v .str dc1)] (.s (.v .str dc2)) [])
    (h6 : SC cfg.P i_spec_foTree [.s (.v (.sl .str) x1), .s (.v (.int .i64) x9)] (.s (.v .str dc3)) [])
    (h7 : dc2 ≠ dc3) :
    LoopSC cfg.P 2 (lb P_spec_foPart 0) (spec_foPart_L0a x1 x7 x8 x9) (.ret) (spec_foPart_L0X1 false) :=
  loop_out cfgOK (f := i_spec_foPart) (its := [.bool true, .res (.s (.v .str dc1)) [] [] [], .res (.s (.v .str dc2)) [] [] [], .res (.s (.v .str dc3)) [] [] [], .bool true])
    (ps := [decide (x9 < x8) = true,
      0 ≤ x9,
      x9 < (List.length x7 : Int),
      SC cfg.P i_spec_foTree [.s (.v (.sl .str) x1), .s (.v (.int .i64) x9)] (.s (.v .str dc1)) [],
      SC cfg.P i_spec_trJoin [.s (.v .str (List.getD x7 (x9).toNat (⟨#[]⟩ : ByteArray))), .s (.v .str dc1)] (.s (.v .str dc2)) [],
      SC cfg.P i_spec_foTree [.s (.v (.sl .str) x1), .s (.v (.int .i64) x9)] (.s (.v .str dc3)) [],
      (!((dc2).toList == (dc3).toList)) = true]) (by kernel_rfl) ⟨(decide_eq_true h1), h2, h3, h4, h5, h6, (nseq_t h7), trivial⟩ (fun h => by cases h)

theorem spec_foPart_L0a_i2 (x1 : (List ByteArray)) (x7 : (List ByteArray)) (x8 : Int) (x9 : Int) (dc1 : ByteArray) (dc2 : ByteArray) (dc3 : ByteArray)
    (h1 : x9 < x8)
    (h2 : 0 ≤ x9)
    (h3 : x9 < (List.length x7 : Int))
    (h4 : SC cfg.P i_spec_foTree [.s (.v (.sl .str) x1), .s (.v (.int .i64) x9)] (.s (.v .str dc1)) [])
    (h5 : SC cfg.P i_spec_trJoin [.s (.v .str (List.getD x7 (x9).toNat (⟨#[]⟩ : ByteArray))), .s (.v .str dc1)] (.s (.v .str dc2)) [])
    (h6 : SC cfg.P i_spec_foTree [.s (.v (.sl .str) x1), .s (.v (.int .i64) x9)] (.s (.v .str dc3)) [])
    (h7 : dc2 = dc3)
    {e : AEx} {st : St} (next : LoopSC cfg.P 2 (lb P_spec_foPart 0) (spec_foPart_L0a x1 x7 x8 (IntKind.wrap .i64 (x9 + (1 : Int)))) e st) :
    LoopSC cfg.P 2 (lb P_spec_foPart 0) (spec_foPart_L0a x1 x7 x8 x9) e st :=
  loop_iter cfgOK (f := i_spec_foPart) (its := [.bool true, .res (.s (.v .str dc1)) [] [] [], .res (.s (.v .str dc2)) [] [] [], .res (.s (.v .str dc3)) [] [] [], .bool false])
    (ps := [decide (x9 < x8) = true,
      0 ≤ x9,
      x9 < (List.length x7 : Int),
      SC cfg.P i_spec_foTree [.s (.v (.sl .str) x1), .s (.v (.int .i64) x9)] (.s (.v .str dc1)) [],
      SC cfg.P i_spec_trJoin [.s (.v .str (List.getD x7 (x9).toNat (⟨#[]⟩ : ByteArray))), .s (.v .str dc1)] (.s (.v .str dc2)) [],
      SC cfg.P i_spec_foTree [.s (.v (.sl .str) x1), .s (.v (.int .i64) x9)] (.s (.v .str dc3)) [],
      (!((dc2).toList == (dc3).toList)) = false]) (st1 := spec_foPart_L0a x1 x7 x8 (IntKind.wrap .i64 (x9 + (1 : Int)))) (by kernel_rfl) ⟨(decide_eq_true h1), h2, h3, h4, h5, h6, (nseq_f h7), trivial⟩ next

theorem spec_foPart_L0a_x3 (x1 : (List ByteArray)) (x7 : (List ByteArray)) (x8 : Int) (x9 : Int)
    (h1 : ¬ (x9 < x8)) :
    LoopSC cfg.P 2 (lb P_spec_foPart 0) (spec_foPart_L0a x1 x7 x8 x9) (.exit 0) (spec_foPart_L0X2 x1 x7 x8 x9 false) :=
  loop_out cfgOK (f := i_spec_foPart) (its := [.bool false])
    (ps := [decide (x9 < x8) = false]) (by kernel_rfl) ⟨(decide_eq_false h1), trivial⟩ (fun h => by cases h)

theorem spec_foPart_p1 (a0 : (List ByteArray)) (a1 : (List ByteArray)) (k1y4 : Bool)
    (h1 : LoopSC cfg.P 2 (lb P_spec_foPart 0) (spec_foPart_L0a a1 a0 ((List.length a0 : Nat) : Int) (0 : Int)) (.ret) (spec_foPart_L0X1 k1y4)) :
    SC cfg.P i_spec_foPart [.s (.v (.sl .str) a0), .s (.v (.sl .str) a1)] (.s (.v .bool k1y4)) [] :=
  SC_of_run cfgOK (its := [.loop (fun _ => (.ret, spec_foPart_L0X1 k1y4))])
    (ps := [LoopSC cfg.P 2 (lb P_spec_foPart 0) (spec_foPart_L0a a1 a0 ((List.length a0 : Nat) : Int) (0 : Int)) (.ret) (spec_foPart_L0X1 k1y4)]) (by kernel_rfl) ⟨h1, trivial⟩ get_spec_foPart (by decide)

theorem spec_foPart_p2 (a0 : (List ByteArray)) (a1 : (List ByteArray)) (k1y1 : (List ByteArray)) (k1y7 : (List ByteArray)) (k1y8 : Int) (k1y9 : Int) (k1y10 : Bool)
    (h1 : LoopSC cfg.P 2 (lb P_spec_foPart 0) (spec_foPart_L0a a1 a0 ((List.length a0 : Nat) : Int) (0 : Int)) (.exit 0) (spec_foPart_L0X2 k1y1 k1y7 k1y8 k1y9 k1y10)) :
    SC cfg.P i_spec_foPart [.s (.v (.sl .str) a0), .s (.v (.sl .str) a1)] (.s (.v .bool true)) [] :=
  SC_of_run cfgOK (its := [.loop (fun _ => (.exit 0, spec_foPart_L0X2 k1y1 k1y7 k1y8 k1y9 k1y10))])
    (ps := [LoopSC cfg.P 2 (lb P_spec_foPart 0) (spec_foPart_L0a a1 a0 ((List.length a0 : Nat) : Int) (0 : Int)) (.exit 0) (spec_foPart_L0X2 k1y1 k1y7 k1y8 k1y9 k1y10)]) (by kernel_rfl) ⟨h1, trivial⟩ get_spec_foPart (by decide)

/-! ### spec_foTree -/


theorem spec_foTree_p1 (a0 : (List ByteArray)) (a1 : Int)
    (h1 : a1 < ((List.length a0 : Nat) : Int))
    (h2 : 0 ≤ a1)
    (h3 : a1 < (List.length a0 : Int)) :
    SC cfg.P i_spec_foTree [.s (.v (.sl .str) a0), .s (.v (.int .i64) a1)] (.s (.v .str (List.getD a0 (a1).toNat (⟨#[]⟩ : ByteArray)))) [] :=
  SC_of_run cfgOK (its := [.bool true])
    (ps := [decide (a1 < ((List.length a0 : Nat) : Int)) = true,
      0 ≤ a1,
      a1 < (List.length a0 : Int)]) (by kernel_rfl) ⟨(decide_eq_true h1), h2, h3, trivial⟩ get_spec_foTree (by decide)

theorem spec_foTree_p2 (a0 : (List ByteArray)) (a1 : Int)
    (h1 : ¬ (a1 < ((List.length a0 : Nat) : Int))) :
    SC cfg.P i_spec_foTree [.s (.v (.sl .str) a0), .s (.v (.int .i64) a1)] (.s (.v .str (⟨#[46]⟩ : ByteArray))) [] :=
  SC_of_run cfgOK (its := [.bool false])
    (ps := [decide (a1 < ((List.length a0 : Nat) : Int)) = false]) (by kernel_rfl) ⟨(decide_eq_false h1), trivial⟩ get_spec_foTree (by decide)

/-! ### impl_each -/


def impl_each_L0a (x0 : (List Tr)) (x1 : (List Tr)) (xF2 : FuncId) (x13 : Int) (x14 : Int) (xo7 : (List Tr)) : St := mkSt 30 [(0, .s (.v (.sl .tree) x0)), (1, .s (.v (.sl .tree) x1)), (2, .fn xF2 [] []), (7, .s (.osl 7 0)), (13, .s (.v (.int .i64) x13)), (14, .s (.v (.int .i64) x14))] [(7, .row t_pimpl_node .tree xo7 0 false)]

def impl_each_L0X1 (y0 : (List Tr)) (y1 : (List Tr)) (yF2 : FuncId) (y13 : Int) (y14 : Int) (y15 : Bool) (yo7 : (List Tr)) : St := mkSt 30 [(0, .s (.v (.sl .tree) y0)), (1, .s (.v (.sl .tree) y1)), (2, .fn yF2 [] []), (7, .s (.osl 7 0)), (13, .s (.v (.int .i64) y13)), (14, .s (.v (.int .i64) y14)), (15, .s (.v .bool y15))] [(7, .row t_pimpl_node .tree yo7 0 false)]

theorem impl_each_L0a_i1 (x0 : (List Tr)) (x1 : (List Tr)) (xF2 : FuncId) (x13 : Int) (x14 : Int) (xo7 : (List Tr)) (dc1 : Tr) (dc2 : Tr) (dc3 : Tr)
    (h1 : x14 < x13)
    (h2 : SC cfg.P i_impl_forest_tree [.s (.v (.sl .tree) x0), .s (.v (.int .i64) x14)] (.s (.v .tree dc1)) [])
    (h3 : SC cfg.P i_impl_forest_tree [.s (.v (.sl .tree) x1), .s (.v (.int .i64) x14)] (.s (.v .tree dc2)) [])
    (h4 : SC cfg.P xF2 [.s (.v .tree dc1), .s (.v .tree dc2)] (.s (.v .tree dc3)) [])
    (h5 : sizeOK (List.length xo7 + List.length ([dc3] : List Tr)))
    {e : AEx} {st : St} (next : LoopSC cfg.P 3 (lb P_impl_each 0) (impl_each_L0a x0 x1 xF2 x13 (IntKind.wrap .i64 (x14 + (1 : Int))) (xo7 ++ ([dc3] : List Tr))) e st) :
    LoopSC cfg.P 3 (lb P_impl_each 0) (impl_each_L0a x0 x1 xF2 x13 x14 xo7) e st :=
  loop_iter cfgOK (f := i_impl_each) (its := [.bool true, .res (.s (.v .tree dc1)) [] [] [], .res (.s (.v .tree dc2)) [] [] [], .res (.s (.v .tree dc3)) [] [] []])
    (ps := [decide (x14 < x13) = true,
      SC cfg.P i_impl_forest_tree [.s (.v (.sl .tree) x0), .s (.v (.int .i64) x14)] (.s (.v .tree dc1)) [],
      SC cfg.P i_impl_forest_tree [.s (.v (.sl .tree) x1), .s (.v (.int .i64) x14)] (.s (.v .tree dc2)) [],
      SC cfg.P xF2 [.s (.v .tree dc1), .s (.v .tree dc2)] (.s (.v .tree dc3)) [],
      sizeOK (List.length xo7 + List.length ([dc3] : List Tr))]) (st1 := impl_each_L0a x0 x1 xF2 x13 (IntKind.wrap .i64 (x14 + (1 : Int))) (xo7 ++ ([dc3] : List Tr))) (by kernel_rfl) ⟨(decide_eq_true h1), h2, h3, h4, h5, trivial⟩ next

theorem impl_each_L0a_x2 (x0 : (List Tr)) (x1 : (List Tr)) (xF2 : FuncId) (x13 : Int) (x14 : Int) (xo7 : (List Tr))
    (h1 : ¬ (x14 < x13)) :
    LoopSC cfg.P 3 (lb P_impl_each 0) (impl_each_L0a x0 x1 xF2 x13 x14 xo7) (.exit 0) (impl_each_L0X1 x0 x1 xF2 x13 x14 false xo7) :=
  loop_out cfgOK (f := i_impl_each) (its := [.bool false])
    (ps := [decide (x14 < x13) = false]) (by kernel_rfl) ⟨(decide_eq_false h1), trivial⟩ (fun h => by cases h)

theorem impl_each_p1 (a0 : (List Tr)) (a1 : (List Tr)) (a2F : FuncId) (k1y0 : (List Tr)) (k1y1 : (List Tr)) (k1yF2 : FuncId) (k1y13 : Int) (k1y14 : Int) (k1y15 : Bool) (k1yo7 : (List Tr))
    (h1 : LoopSC cfg.P 3 (lb P_impl_each 0) (impl_each_L0a a0 a1 a2F (maxI ((List.length a0 : Nat) : Int) ((List.length a1 : Nat) : Int)) (0 : Int) ([] : List Tr)) (.exit 0) (impl_each_L0X1 k1y0 k1y1 k1yF2 k1y13 k1y14 k1y15 k1yo7)) :
    SC cfg.P i_impl_each [.s (.v (.sl .tree) a0), .s (.v (.sl .tree) a1), .fn a2F [] []] (.s (.own t_pimpl_node .tree k1yo7)) [] :=
  SC_of_run cfgOK (its := [.loop (fun _ => (.exit 0, impl_each_L0X1 k1y0 k1y1 k1yF2 k1y13 k1y14 k1y15 k1yo7))])
    (ps := [LoopSC cfg.P 3 (lb P_impl_each 0) (impl_each_L0a a0 a1 a2F (maxI ((List.length a0 : Nat) : Int) ((List.length a1 : Nat) : Int)) (0 : Int) ([] : List Tr)) (.exit 0) (impl_each_L0X1 k1y0 k1y1 k1yF2 k1y13 k1y14 k1y15 k1yo7)]) (by kernel_rfl) ⟨h1, trivial⟩ get_impl_each (by decide)

/-! ### impl_forest_trimmed -/


def impl_forest_trimmed_L0a (x0 : (List Tr)) : St := mkSt 21 [(0, .s (.v (.sl .tree) x0))] []

def impl_forest_trimmed_L0X1 (y0 : (List Tr)) (y14 : Bool) : St := mkSt 21 [(0, .s (.v (.sl .tree) y0)), (14, .s (.v .bool y14))] []

theorem impl_forest_trimmed_L0a_i1 (x0 : (List Tr))
    (h1 : ((List.length x0 : Nat) : Int) > (0 : Int))
    (h2 : 0 ≤ (IntKind.wrap .i64 (((List.length x0 : Nat) : Int) - (1 : Int))))
    (h3 : (IntKind.wrap .i64 (((List.length x0 : Nat) : Int) - (1 : Int))) < (List.length x0 : Int))
    (h4 : ((List.getD x0 ((IntKind.wrap .i64 (((List.length x0 : Nat) : Int) - (1 : Int)))).toNat Tr.leaf)).isLeaf = true)
    (h5 : (IntKind.wrap .i64 (((List.length x0 : Nat) : Int) - (1 : Int))) ≤ (List.length x0 : Int))
    {e : AEx} {st : St} (next : LoopSC cfg.P 1 (lb P_impl_forest_trimmed 0) (impl_forest_trimmed_L0a (cutL x0 (0 : Int) (IntKind.wrap .i64 (((List.length x0 : Nat) : Int) - (1 : Int))))) e st) :
    LoopSC cfg.P 1 (lb P_impl_forest_trimmed 0) (impl_forest_trimmed_L0a x0) e st :=
  loop_iter cfgOK (f := i_impl_forest_trimmed) (its := [.bool true, .bool true])
    (ps := [decide (((List.length x0 : Nat) : Int) > (0 : Int)) = true,
      0 ≤ (IntKind.wrap .i64 (((List.length x0 : Nat) : Int) - (1 : Int))),
      (IntKind.wrap .i64 (((List.length x0 : Nat) : Int) - (1 : Int))) < (List.length x0 : Int),
      ((List.getD x0 ((IntKind.wrap .i64 (((List.length x0 : Nat) : Int) - (1 : Int)))).toNat Tr.leaf)).isLeaf = true,
      0 ≤ (IntKind.wrap .i64 (((List.length x0 : Nat) : Int) - (1 : Int))),
      (IntKind.wrap .i64 (((List.length x0 : Nat) : Int) - (1 : Int))) ≤ (List.length x0 : Int)]) (st1 := impl_forest_trimmed_L0a (cutL x0 (0 : Int) (IntKind.wrap .i64 (((List.length x0 : Nat) : Int) - (1 : Int))))) (by kernel_rfl) ⟨(decide_eq_true h1), h2, h3, h4, h2, h5, trivial⟩ next

theorem impl_forest_trimmed_L0a_x2 (x0 : (List Tr))
    (h1 : ((List.length x0 : Nat) : Int) > (0 : Int))
    (h2 : 0 ≤ (IntKind.wrap .i64 (((List.length x0 : Nat) : Int) - (1 : Int))))
    (h3 : (IntKind.wrap .i64 (((List.length x0 : Nat) : Int) - (1 : Int))) < (List.length x0 : Int))
    (h4 : ((List.getD x0 ((IntKind.wrap .i64 (((List.length x0 : Nat) : Int) - (1 : Int)))).toNat Tr.leaf)).isLeaf = false) :
    LoopSC cfg.P 1 (lb P_impl_forest_trimmed 0) (impl_forest_trimmed_L0a x0) (.exit 0) (impl_forest_trimmed_L0X1 x0 false) :=
  loop_out cfgOK (f := i_impl_forest_trimmed) (its := [.bool true, .bool false])
    (ps := [decide (((List.length x0 : Nat) : Int) > (0 : Int)) = true,
      0 ≤ (IntKind.wrap .i64 (((List.length x0 : Nat) : Int) - (1 : Int))),
      (IntKind.wrap .i64 (((List.length x0 : Nat) : Int) - (1 : Int))) < (List.length x0 : Int),
      ((List.getD x0 ((IntKind.wrap .i64 (((List.length x0 : Nat) : Int) - (1 : Int)))).toNat Tr.leaf)).isLeaf = false]) (by kernel_rfl) ⟨(decide_eq_true h1), h2, h3, h4, trivial⟩ (fun h => by cases h)

theorem impl_forest_trimmed_L0a_x3 (x0 : (List Tr))
    (h1 : ¬ (((List.length x0 : Nat) : Int) > (0 : Int))) :
    LoopSC cfg.P 1 (lb P_impl_forest_trimmed 0) (impl_forest_trimmed_L0a x0) (.exit 0) (impl_forest_trimmed_L0X1 x0 false) :=
  loop_out cfgOK (f := i_impl_forest_trimmed) (its := [.bool false])
    (ps := [decide (((List.length x0 : Nat) : Int) > (0 : Int)) = false]) (by kernel_rfl) ⟨(decide_eq_false h1), trivial⟩ (fun h => by cases h)

theorem impl_forest_trimmed_p1 (a0 : (List Tr)) (k1y0 : (List Tr)) (k1y14 : Bool)
    (h1 : LoopSC cfg.P 1 (lb P_impl_forest_trimmed 0) (impl_forest_trimmed_L0a a0) (.exit 0) (impl_forest_trimmed_L0X1 k1y0 k1y14)) :
    SC cfg.P i_impl_forest_trimmed [.s (.v (.sl .tree) a0)] (.s (.v (.sl .tree) k1y0)) [] :=
  SC_of_run cfgOK (its := [.loop (fun _ => (.exit 0, impl_forest_trimmed_L0X1 k1y0 k1y14))])
    (ps := [LoopSC cfg.P 1 (lb P_impl_forest_trimmed 0) (impl_forest_trimmed_L0a a0) (.exit 0) (impl_forest_trimmed_L0X1 k1y0 k1y14)]) (by kernel_rfl) ⟨h1, trivial⟩ get_impl_forest_trimmed (by decide)

/-! ### spec_l1Cur_sureForest -/


def spec_l1Cur_sureForest_L0a (x6 : Int) (x7 : Int) (xo0 : ((List Int) × (Int × Int))) (xo5 : (List ByteArray)) : St := mkSt 32 [(0, .s (.adr 0 none)), (5, .s (.osl 5 0)), (6, .s (.v (.int .i64) x6)), (7, .s (.v (.int .i64) x7))] [(0, .box (.pr (.sl (.int .u8)) (.pr (.int .i64) (.int .u64))) xo0 false), (5, .row t_string .str xo5 0 false)]

def spec_l1Cur_sureForest_L0X1 (y6 : Int) (y7 : Int) (y13 : Bool) (yo0 : ((List Int) × (Int × Int))) (yo5 : (List ByteArray)) : St := mkSt 32 [(0, .s (.adr 0 none)), (5, .s (.osl 5 0)), (6, .s (.v (.int .i64) y6)), (7, .s (.v (.int .i64) y7)), (13, .s (.v .bool y13))] [(0, .box (.pr (.sl (.int .u8)) (.pr (.int .i64) (.int .u64))) yo0 false), (5, .row t_string .str yo5 0 false)]

theorem spec_l1Cur_sureForest_L0a_i1 (x6 : Int) (x7 : Int) (xo0 : ((List Int) × (Int × Int))) (xo5 : (List ByteArray)) (dc1 : Int) (dc2 : Int) (dc2o0 : ((List Int) × (Int × Int))) (dc3 : ByteArray) (dc3o0 : ((List Int) × (Int × Int)))
    (h1 : x7 > (0 : Int))
    (h2 : SC cfg.P i_spec_l1Least [.s (.v (.int .i64) x6), .s (.v (.int .i64) (3 : Int))] (.s (.v (.int .i64) dc1)) [])
    (h3 : SC cfg.P i_spec_l1Cur_pick [.s (.mbx (.pr (.sl (.int .u8)) (.pr (.int .i64) (.int .u64))) xo0), .s (.v (.int .i64) (IntKind.wrap .i64 (dc1 + (1 : Int))))] (.s (.v (.int .i64) dc2)) [.box (.pr (.sl (.int .u8)) (.pr (.int .i64) (.int .u64))) dc2o0])
    (h4 : SC cfg.P i_spec_l1Cur_sureTree [.s (.mbx (.pr (.sl (.int .u8)) (.pr (.int .i64) (.int .u64))) dc2o0), .s (.v (.int .i64) dc2)] (.s (.v .str dc3)) [.box (.pr (.sl (.int .u8)) (.pr (.int .i64) (.int .u64))) dc3o0])
    (h5 : sizeOK (List.length xo5 + List.length ([dc3] : List ByteArray)))
    {e : AEx} {st : St} (next : LoopSC cfg.P 2 (lb P_spec_l1Cur_sureForest 0) (spec_l1Cur_sureForest_L0a (IntKind.wrap .i64 (x6 - dc2)) (IntKind.wrap .i64 (x7 - (1 : Int))) dc3o0 (xo5 ++ ([dc3] : List ByteArray))) e st) :
    LoopSC cfg.P 2 (lb P_spec_l1Cur_sureForest 0) (spec_l1Cur_sureForest_L0a x6 x7 xo0 xo5) e st :=
  loop_iter cfgOK (f := i_spec_l1Cur_sureForest) (its := [.bool true, .res (.s (.v (.int .i64) dc1)) [] [] [], .res (.s (.v (.int .i64) dc2)) [.box (.pr (.sl (.int .u8)) (.pr (.int .i64) (.int .u64))) dc2o0] [] [], .res (.s (.v .str dc3)) [.box (.pr (.sl (.int .u8)) (.pr (.int .i64) (.int .u64))) dc3o0] [] []])
    (ps := [decide (x7 > (0 : Int)) = true,
      SC cfg.P i_spec_l1Least [.s (.v (.int .i64) x6), .s (.v (.int .i64) (3 : Int))] (.s (.v (.int .i64) dc1)) [],
      SC cfg.P i_spec_l1Cur_pick [.s (.mbx (.pr (.sl (.int .u8)) (.pr (.int .i64) (.int .u64))) xo0), .s (.v (.int .i64) (IntKind.wrap .i64 (dc1 + (1 : Int))))] (.s (.v (.int .i64) dc2)) [.box (.pr (.sl (.int .u8)) (.pr (.int .i64) (.int .u64))) dc2o0],
      SC cfg.P i_spec_l1Cur_sureTree [.s (.mbx (.pr (.sl (.int .u8)) (.pr (.int .i64) (.int .u64))) dc2o0), .s (.v (.int .i64) dc2)] (.s (.v .str dc3)) [.box (.pr (.sl (.int .u8)) (.pr (.int .i64) (.int .u64))) dc3o0],
      sizeOK (List.length xo5 + List.length ([dc3] : List ByteArray))]) (st1 := spec_l1Cur_sureForest_L0a (IntKind.wrap .i64 (x6 - dc2)) (IntKind.wrap .i64 (x7 - (1 : Int))) dc3o0 (xo5 ++ ([dc3] : List ByteArray))) (by kernel_rfl) ⟨(decide_eq_true h1), h2, h3, h4, h5, trivial⟩ next

theorem spec_l1Cur_sureForest_L0a_x2 (x6 : Int) (x7 : Int) (xo0 : ((List Int) × (Int × Int))) (xo5 : (List ByteArray))
    (h1 : ¬ (x7 > (0 : Int))) :
    LoopSC cfg.P 2 (lb P_spec_l1Cur_sureForest 0) (spec_l1Cur_sureForest_L0a x6 x7 xo0 xo5) (.exit 0) (spec_l1Cur_sureForest_L0X1 x6 x7 false xo0 xo5) :=
  loop_out cfgOK (f := i_spec_l1Cur_sureForest) (its := [.bool false])
    (ps := [decide (x7 > (0 : Int)) = false]) (by kernel_rfl) ⟨(decide_eq_false h1), trivial⟩ (fun h => by cases h)

theorem spec_l1Cur_sureForest_p1 (a0 : ((List Int) × (Int × Int))) (a1 : Int) (c1 : Int) (c1o0 : ((List Int) × (Int × Int))) (k1y6 : Int) (k1y7 : Int) (k1y13 : Bool) (k1yo0 : ((List Int) × (Int × Int))) (k1yo5 : (List ByteArray)) (c2 : (List ByteArray))
    (h1 : SC cfg.P i_spec_l1Cur_pick [.s (.mbx (.pr (.sl (.int .u8)) (.pr (.int .i64) (.int .u64))) a0), .s (.v (.int .i64) (5 : Int))] (.s (.v (.int .i64) c1)) [.box (.pr (.sl (.int .u8)) (.pr (.int .i64) (.int .u64))) c1o0])
    (h2 : LoopSC cfg.P 2 (lb P_spec_l1Cur_sureForest 0) (spec_l1Cur_sureForest_L0a a1 c1 c1o0 ([] : List ByteArray)) (.exit 0) (spec_l1Cur_sureForest_L0X1 k1y6 k1y7 k1y13 k1yo0 k1yo5))
    (h3 : SC cfg.P i_spec_wdShort [.s (.v (.sl .str) k1yo5)] (.s (.own t_string .str c2)) []) :
    SC cfg.P i_spec_l1Cur_sureForest [.s (.mbx (.pr (.sl (.int .u8)) (.pr (.int .i64) (.int .u64))) a0), .s (.v (.int .i64) a1)] (.s (.own t_string .str c2)) [.box (.pr (.sl (.int .u8)) (.pr (.int .i64) (.int .u64))) k1yo0] :=
  SC_of_run cfgOK (its := [.res (.s (.v (.int .i64) c1)) [.box (.pr (.sl (.int .u8)) (.pr (.int .i64) (.int .u64))) c1o0] [] [], .loop (fun _ => (.exit 0, spec_l1Cur_sureForest_L0X1 k1y6 k1y7 k1y13 k1yo0 k1yo5)), .res (.s (.own t_string .str c2)) [] [] [31]])
    (ps := [SC cfg.P i_spec_l1Cur_pick [.s (.mbx (.pr (.sl (.int .u8)) (.pr (.int .i64) (.int .u64))) a0), .s (.v (.int .i64) (5 : Int))] (.s (.v (.int .i64) c1)) [.box (.pr (.sl (.int .u8)) (.pr (.int .i64) (.int .u64))) c1o0],
      LoopSC cfg.P 2 (lb P_spec_l1Cur_sureForest 0) (spec_l1Cur_sureForest_L0a a1 c1 c1o0 ([] : List ByteArray)) (.exit 0) (spec_l1Cur_sureForest_L0X1 k1y6 k1y7 k1y13 k1yo0 k1yo5),
      SC cfg.P i_spec_wdShort [.s (.v (.sl .str) k1yo5)] (.s (.own t_string .str c2)) []]) (by kernel_rfl) ⟨h1, h2, h3, trivial⟩ get_spec_l1Cur_sureForest (by decide)

/-! ### spec_l1Cur_forests -/


theorem spec_l1Cur_forests_p1 (a0 : ((List Int) × (Int × Int))) (c1 : (List ByteArray)) (c1o0 : ((List Int) × (Int × Int))) (c3o0 : ((List Int) × (Int × Int))) (c4 : (List ByteArray)) (c4o0 : ((List Int) × (Int × Int))) (c5a : (List ByteArray))
    (h1 : SC cfg.P i_spec_l1Cur_forest [.s (.mbx (.pr (.sl (.int .u8)) (.pr (.int .i64) (.int .u64))) a0), .s (.v (.int .i64) (3 : Int))] (.s (.own t_string .str c1)) [.box (.pr (.sl (.int .u8)) (.pr (.int .i64) (.int .u64))) c1o0])
    (h2 : SC cfg.P i_spec_foGood [.s (.v (.sl .str) c1)] (.s (.v .bool true)) [])
    (h3 : SC cfg.P i_spec_l1Cur_one [.s (.mbx (.pr (.sl (.int .u8)) (.pr (.int .i64) (.int .u64))) c1o0), .s (.v (.int .i64) (2 : Int))] (.s (.v .bool true)) [.box (.pr (.sl (.int .u8)) (.pr (.int .i64) (.int .u64))) c3o0])
    (h4 : SC cfg.P i_spec_l1Cur_sureForest [.s (.mbx (.pr (.sl (.int .u8)) (.pr (.int .i64) (.int .u64))) c3o0), .s (.v (.int .i64) (4 : Int))] (.s (.own t_string .str c4)) [.box (.pr (.sl (.int .u8)) (.pr (.int .i64) (.int .u64))) c4o0])
    (h5 : SC cfg.P i_spec_StackForests [.s (.v (.sl .str) c1), .s (.v (.sl .str) c4)] (.tup [.own t_string .str c5a, .v .bool true]) []) :
    SC cfg.P i_spec_l1Cur_forests [.s (.mbx (.pr (.sl (.int .u8)) (.pr (.int .i64) (.int .u64))) a0)] (.tup [.own t_string .str c1, .own t_string .str c5a]) [.box (.pr (.sl (.int .u8)) (.pr (.int .i64) (.int .u64))) c4o0] :=
  SC_of_run cfgOK (its := [.res (.s (.own t_string .str c1)) [.box (.pr (.sl (.int .u8)) (.pr (.int .i64) (.int .u64))) c1o0] [] [8], .res (.s (.v .bool true)) [] [] [], .res (.s (.v .bool true)) [.box (.pr (.sl (.int .u8)) (.pr (.int .i64) (.int .u64))) c3o0] [] [], .res (.s (.own t_string .str c4)) [.box (.pr (.sl (.int .u8)) (.pr (.int .i64) (.int .u64))) c4o0] [] [18], .res (.tup [.own t_string .str c5a, .v .bool true]) [] [] [19]])
    (ps := [SC cfg.P i_spec_l1Cur_forest [.s (.mbx (.pr (.sl (.int .u8)) (.pr (.int .i64) (.int .u64))) a0), .s (.v (.int .i64) (3 : Int))] (.s (.own t_string .str c1)) [.box (.pr (.sl (.int .u8)) (.pr (.int .i64) (.int .u64))) c1o0],
      SC cfg.P i_spec_foGood [.s (.v (.sl .str) c1)] (.s (.v .bool true)) [],
      SC cfg.P i_spec_l1Cur_one [.s (.mbx (.pr (.sl (.int .u8)) (.pr (.int .i64) (.int .u64))) c1o0), .s (.v (.int .i64) (2 : Int))] (.s (.v .bool true)) [.box (.pr (.sl (.int .u8)) (.pr (.int .i64) (.int .u64))) c3o0],
      SC cfg.P i_spec_l1Cur_sureForest [.s (.mbx (.pr (.sl (.int .u8)) (.pr (.int .i64) (.int .u64))) c3o0), .s (.v (.int .i64) (4 : Int))] (.s (.own t_string .str c4)) [.box (.pr (.sl (.int .u8)) (.pr (.int .i64) (.int .u64))) c4o0],
      SC cfg.P i_spec_StackForests [.s (.v (.sl .str) c1), .s (.v (.sl .str) c4)] (.tup [.own t_string .str c5a, .v .bool true]) []]) (by kernel_rfl) ⟨h1, h2, h3, h4, h5, trivial⟩ get_spec_l1Cur_forests (by decide)

theorem spec_l1Cur_forests_p2 (a0 : ((List Int) × (Int × Int))) (c1 : (List ByteArray)) (c1o0 : ((List Int) × (Int × Int))) (c3o0 : ((List Int) × (Int × Int))) (c4 : (List ByteArray)) (c4o0 : ((List Int) × (Int × Int))) (c5a : (List ByteArray)) (c6 : (List ByteArray)) (c6o0 : ((List Int) × (Int × Int)))
    (h1 : SC cfg.P i_spec_l1Cur_forest [.s (.mbx (.pr (.sl (.int .u8)) (.pr (.int .i64) (.int .u64))) a0), .s (.v (.int .i64) (3 : Int))] (.s (.own t_string .str c1)) [.box (.pr (.sl (.int .u8)) (.pr (.int .i64) (.int .u64))) c1o0])
    (h2 : SC cfg.P i_spec_foGood [.s (.v (.sl .str) c1)] (.s (.v .bool true)) [])
    (h3 : SC cfg.P i_spec_l1Cur_one [.s (.mbx (.pr (.sl (.int .u8)) (.pr (.int .i64) (.int .u64))) c1o0), .s (.v (.int .i64) (2 : Int))] (.s (.v .bool true)) [.box (.pr (.sl (.int .u8)) (.pr (.int .i64) (.int .u64))) c3o0])
    (h4 : SC cfg.P i_spec_l1Cur_sureForest [.s (.mbx (.pr (.sl (.int .u8)) (.pr (.int .i64) (.int .u64))) c3o0), .s (.v (.int .i64) (4 : Int))] (.s (.own t_string .str c4)) [.box (.pr (.sl (.int .u8)) (.pr (.int .i64) (.int .u64))) c4o0])
    (h5 : SC cfg.P i_spec_StackForests [.s (.v (.sl .str) c1), .s (.v (.sl .str) c4)] (.tup [.own t_string .str c5a, .v .bool false]) [])
    (h6 : SC cfg.P i_spec_l1Cur_forest [.s (.mbx (.pr (.sl (.int .u8)) (.pr (.int .i64) (.int .u64))) c4o0), .s (.v (.int .i64) (4 : Int))] (.s (.own t_string .str c6)) [.box (.pr (.sl (.int .u8)) (.pr (.int .i64) (.int .u64))) c6o0]) :
    SC cfg.P i_spec_l1Cur_forests [.s (.mbx (.pr (.sl (.int .u8)) (.pr (.int .i64) (.int .u64))) a0)] (.tup [.own t_string .str c1, .own t_string .str c6]) [.box (.pr (.sl (.int .u8)) (.pr (.int .i64) (.int .u64))) c6o0] :=
  SC_of_run cfgOK (its := [.res (.s (.own t_string .str c1)) [.box (.pr (.sl (.int .u8)) (.pr (.int .i64) (.int .u64))) c1o0] [] [8], .res (.s (.v .bool true)) [] [] [], .res (.s (.v .bool true)) [.box (.pr (.sl (.int .u8)) (.pr (.int .i64) (.int .u64))) c3o0] [] [], .res (.s (.own t_string .str c4)) [.box (.pr (.sl (.int .u8)) (.pr (.int .i64) (.int .u64))) c4o0] [] [18], .res (.tup [.own t_string .str c5a, .v .bool false]) [] [] [19], .res (.s (.own t_string .str c6)) [.box (.pr (.sl (.int .u8)) (.pr (.int .i64) (.int .u64))) c6o0] [] [27]])
    (ps := [SC cfg.P i_spec_l1Cur_forest [.s (.mbx (.pr (.sl (.int .u8)) (.pr (.int .i64) (.int .u64))) a0), .s (.v (.int .i64) (3 : Int))] (.s (.own t_string .str c1)) [.box (.pr (.sl (.int .u8)) (.pr (.int .i64) (.int .u64))) c1o0],
      SC cfg.P i_spec_foGood [.s (.v (.sl .str) c1)] (.s (.v .bool true)) [],
      SC cfg.P i_spec_l1Cur_one [.s (.mbx (.pr (.sl (.int .u8)) (.pr (.int .i64) (.int .u64))) c1o0), .s (.v (.int .i64) (2 : Int))] (.s (.v .bool true)) [.box (.pr (.sl (.int .u8)) (.pr (.int .i64) (.int .u64))) c3o0],
      SC cfg.P i_spec_l1Cur_sureForest [.s (.mbx (.pr (.sl (.int .u8)) (.pr (.int .i64) (.int .u64))) c3o0), .s (.v (.int .i64) (4 : Int))] (.s (.own t_string .str c4)) [.box (.pr (.sl (.int .u8)) (.pr (.int .i64) (.int .u64))) c4o0],
      SC cfg.P i_spec_StackForests [.s (.v (.sl .str) c1), .s (.v (.sl .str) c4)] (.tup [.own t_string .str c5a, .v .bool false]) [],
      SC cfg.P i_spec_l1Cur_forest [.s (.mbx (.pr (.sl (.int .u8)) (.pr (.int .i64) (.int .u64))) c4o0), .s (.v (.int .i64) (4 : Int))] (.s (.own t_string .str c6)) [.box (.pr (.sl (.int .u8)) (.pr (.int .i64) (.int .u64))) c6o0]]) (by kernel_rfl) ⟨h1, h2, h3, h4, h5, h6, trivial⟩ get_spec_l1Cur_forests (by decide)

theorem spec_l1Cur_forests_p3 (a0 : ((List Int) × (Int × Int))) (c1 : (List ByteArray)) (c1o0 : ((List Int) × (Int × Int))) (c3o0 : ((List Int) × (Int × Int))) (c4 : (List ByteArray)) (c4o0 : ((List Int) × (Int × Int)))
    (h1 : SC cfg.P i_spec_l1Cur_forest [.s (.mbx (.pr (.sl (.int .u8)) (.pr (.int .i64) (.int .u64))) a0), .s (.v (.int .i64) (3 : Int))] (.s (.own t_string .str c1)) [.box (.pr (.sl (.int .u8)) (.pr (.int .i64) (.int .u64))) c1o0])
    (h2 : SC cfg.P i_spec_foGood [.s (.v (.sl .str) c1)] (.s (.v .bool true)) [])
    (h3 : SC cfg.P i_spec_l1Cur_one [.s (.mbx (.pr (.sl (.int .u8)) (.pr (.int .i64) (.int .u64))) c1o0), .s (.v (.int .i64) (2 : Int))] (.s (.v .bool false)) [.box (.pr (.sl (.int .u8)) (.pr (.int .i64) (.int .u64))) c3o0])
    (h4 : SC cfg.P i_spec_l1Cur_forest [.s (.mbx (.pr (.sl (.int .u8)) (.pr (.int .i64) (.int .u64))) c3o0), .s (.v (.int .i64) (4 : Int))] (.s (.own t_string .str c4)) [.box (.pr (.sl (.int .u8)) (.pr (.int .i64) (.int .u64))) c4o0]) :
    SC cfg.P i_spec_l1Cur_forests [.s (.mbx (.pr (.sl (.int .u8)) (.pr (.int .i64) (.int .u64))) a0)] (.tup [.own t_string .str c1, .own t_string .str c4]) [.box (.pr (.sl (.int .u8)) (.pr (.int .i64) (.int .u64))) c4o0] :=
  SC_of_run cfgOK (its := [.res (.s (.own t_string .str c1)) [.box (.pr (.sl (.int .u8)) (.pr (.int .i64) (.int .u64))) c1o0] [] [8], .res (.s (.v .bool true)) [] [] [], .res (.s (.v .bool false)) [.box (.pr (.sl (.int .u8)) (.pr (.int .i64) (.int .u64))) c3o0] [] [], .res (.s (.own t_string .str c4)) [.box (.pr (.sl (.int .u8)) (.pr (.int .i64) (.int .u64))) c4o0] [] [27]])
    (ps := [SC cfg.P i_spec_l1Cur_forest [.s (.mbx (.pr (.sl (.int .u8)) (.pr (.int .i64) (.int .u64))) a0), .s (.v (.int .i64) (3 : Int))] (.s (.own t_string .str c1)) [.box (.pr (.sl (.int .u8)) (.pr (.int .i64) (.int .u64))) c1o0],
      SC cfg.P i_spec_foGood [.s (.v (.sl .str) c1)] (.s (.v .bool true)) [],
      SC cfg.P i_spec_l1Cur_one [.s (.mbx (.pr (.sl (.int .u8)) (.pr (.int .i64) (.int .u64))) c1o0), .s (.v (.int .i64) (2 : Int))] (.s (.v .bool false)) [.box (.pr (.sl (.int .u8)) (.pr (.int .i64) (.int .u64))) c3o0],
      SC cfg.P i_spec_l1Cur_forest [.s (.mbx (.pr (.sl (.int .u8)) (.pr (.int .i64) (.int .u64))) c3o0), .s (.v (.int .i64) (4 : Int))] (.s (.own t_string .str c4)) [.box (.pr (.sl (.int .u8)) (.pr (.int .i64) (.int .u64))) c4o0]]) (by kernel_rfl) ⟨h1, h2, h3, h4, trivial⟩ get_spec_l1Cur_forests (by decide)

theorem spec_l1Cur_forests_p4 (a0 : ((List Int) × (Int × Int))) (c1 : (List ByteArray)) (c1o0 : ((List Int) × (Int × Int))) (c3 : (List ByteArray)) (c3o0 : ((List Int) × (Int × Int)))
    (h1 : SC cfg.P i_spec_l1Cur_forest [.s (.mbx (.pr (.sl (.int .u8)) (.pr (.int .i64) (.int .u64))) a0), .s (.v (.int .i64) (3 : Int))] (.s (.own t_string .str c1)) [.box (.pr (.sl (.int .u8)) (.pr (.int .i64) (.int .u64))) c1o0])
    (h2 : SC cfg.P i_spec_foGood [.s (.v (.sl .str) c1)] (.s (.v .bool false)) [])
    (h3 : SC cfg.P i_spec_l1Cur_forest [.s (.mbx (.pr (.sl (.int .u8)) (.pr (.int .i64) (.int .u64))) c1o0), .s (.v (.int .i64) (4 : Int))] (.s (.own t_string .str c3)) [.box (.pr (.sl (.int .u8)) (.pr (.int .i64) (.int .u64))) c3o0]) :
    SC cfg.P i_spec_l1Cur_forests [.s (.mbx (.pr (.sl (.int .u8)) (.pr (.int .i64) (.int .u64))) a0)] (.tup [.own t_string .str c1, .own t_string .str c3]) [.box (.pr (.sl (.int .u8)) (.pr (.int .i64) (.int .u64))) c3o0] :=
  SC_of_run cfgOK (its := [.res (.s (.own t_string .str c1)) [.box (.pr (.sl (.int .u8)) (.pr (.int .i64) (.int .u64))) c1o0] [] [8], .res (.s (.v .bool false)) [] [] [], .res (.s (.own t_string .str c3)) [.box (.pr (.sl (.int .u8)) (.pr (.int .i64) (.int .u64))) c3o0] [] [27]])
    (ps := [SC cfg.P i_spec_l1Cur_forest [.s (.mbx (.pr (.sl (.int .u8)) (.pr (.int .i64) (.int .u64))) a0), .s (.v (.int .i64) (3 : Int))] (.s (.own t_string .str c1)) [.box (.pr (.sl (.int .u8)) (.pr (.int .i64) (.int .u64))) c1o0],
      SC cfg.P i_spec_foGood [.s (.v (.sl .str) c1)] (.s (.v .bool false)) [],
      SC cfg.P i_spec_l1Cur_forest [.s (.mbx (.pr (.sl (.int .u8)) (.pr (.int .i64) (.int .u64))) c1o0), .s (.v (.int .i64) (4 : Int))] (.s (.own t_string .str c3)) [.box (.pr (.sl (.int .u8)) (.pr (.int .i64) (.int .u64))) c3o0]]) (by kernel_rfl) ⟨h1, h2, h3, trivial⟩ get_spec_l1Cur_forests (by decide)

/-! ### spec_l1Least -/


theorem spec_l1Least_p1 (a0 : Int) (a1 : Int)
    (h1 : a0 < a1) :
    SC cfg.P i_spec_l1Least [.s (.v (.int .i64) a0), .s (.v (.int .i64) a1)] (.s (.v (.int .i64) a0)) [] :=
  SC_of_run cfgOK (its := [.bool true])
    (ps := [decide (a0 < a1) = true]) (by kernel_rfl) ⟨(decide_eq_true h1), trivial⟩ get_spec_l1Least (by decide)

theorem spec_l1Least_p2 (a0 : Int) (a1 : Int)
    (h1 : ¬ (a0 < a1)) :
    SC cfg.P i_spec_l1Least [.s (.v (.int .i64) a0), .s (.v (.int .i64) a1)] (.s (.v (.int .i64) a1)) [] :=
  SC_of_run cfgOK (its := [.bool false])
    (ps := [decide (a0 < a1) = false]) (by kernel_rfl) ⟨(decide_eq_false h1), trivial⟩ get_spec_l1Least (by decide)

end Go.AI
