/- A part of the road: what it proves stands in its last texts. -/
import Derived.Test.YtnhjfdkogbelaaaSIds
import Derived.Test.YtnhjfdkogbelaaaAiI
import Derived.Test.YtnhjfdkogbelaaaProg
set_option autoImplicit false
set_option maxRecDepth 100000
set_option linter.unusedVariables false
namespace Go.AI
open Go.Proofs

/-! ### laws_FnApartCommute -/


def laws_FnApartCommute_C0a (x0 : (List Int)) (x1 : (List Int)) : St := mkSt 155 [(0, .s (.v (.sl (.int .u8)) x0)), (1, .s (.v (.sl (.int .u8)) x1))] []

def laws_FnApartCommute_R1 (y4 : Bool) : St := mkSt 155 [(4, .s (.v .bool y4))] []

def laws_FnApartCommute_C3a (x0 : (List Int)) (x1 : (List Int)) (x29 : Bool) : St := mkSt 155 [(0, .s (.v (.sl (.int .u8)) x0)), (1, .s (.v (.sl (.int .u8)) x1)), (29, .s (.v .bool x29))] []

def laws_FnApartCommute_C10a (x1 : (List Int)) (x7 : Bool) (x11 : Bool) (x12 : Bool) (x83 : Bool) : St := mkSt 155 [(1, .s (.v (.sl (.int .u8)) x1)), (7, .s (.v .bool x7)), (11, .s (.v .bool x11)), (12, .s (.v .bool x12)), (83, .s (.v .bool x83))] []

def laws_FnApartCommute_C12a (x1 : (List Int)) (x91 : Bool) : St := mkSt 155 [(1, .s (.v (.sl (.int .u8)) x1)), (91, .s (.v .bool x91))] []

def laws_FnApartCommute_C17a (x17 : Bool) (x18 : Bool) (x116 : Bool) (xo15 : (ByteArray × ByteArray)) (xo16 : (ByteArray × ByteArray)) : St := mkSt 155 [(15, .s (.adr 15 none)), (16, .s (.adr 16 none)), (17, .s (.v .bool x17)), (18, .s (.v .bool x18)), (116, .s (.v .bool x116))] [(15, .box (.pr .str .str) xo15 false), (16, .box (.pr .str .str) xo16 false)]

def laws_FnApartCommute_C19a (x17 : Bool) (x117 : Bool) (xo15 : (ByteArray × ByteArray)) (xo16 : (ByteArray × ByteArray)) : St := mkSt 155 [(15, .s (.adr 15 none)), (16, .s (.adr 16 none)), (17, .s (.v .bool x17)), (117, .s (.v .bool x117))] [(15, .box (.pr .str .str) xo15 false), (16, .box (.pr .str .str) xo16 false)]

theorem laws_FnApartCommute_C0a_x1 (x0 : (List Int)) (x1 : (List Int))
    (h1 : SC cfg.P i_laws_big [.s (.v (.sl (.int .u8)) x0), .s (.v (.sl (.int .u8)) x1)] (.s (.v .bool true)) []) :
    RestSC cfg.P 2 (rest P_laws_FnApartCommute 0) (laws_FnApartCommute_C0a x0 x1) .ret (laws_FnApartCommute_R1 true) :=
  rest_ret cfgOK (f := i_laws_FnApartCommute) (k := 0) (m := 3) (its := [.res (.s (.v .bool true)) [] [] []])
    (ps := [SC cfg.P i_laws_big [.s (.v (.sl (.int .u8)) x0), .s (.v (.sl (.int .u8)) x1)] (.s (.v .bool true)) []]) (by kernel_rfl) ⟨h1, trivial⟩

theorem laws_FnApartCommute_C0a_i2 (x0 : (List Int)) (x1 : (List Int))
    (h1 : SC cfg.P i_laws_big [.s (.v (.sl (.int .u8)) x0), .s (.v (.sl (.int .u8)) x1)] (.s (.v .bool false)) [])
    {e : AEx} {st : St} (next : RestSC cfg.P 2 (rest P_laws_FnApartCommute 3) (laws_FnApartCommute_C3a x0 x1 false) e st) :
    RestSC cfg.P 2 (rest P_laws_FnApartCommute 0) (laws_FnApartCommute_C0a x0 x1) e st :=
  rest_next cfgOK (f := i_laws_FnApartCommute) (k := 0) (m := 3) (its := [.res (.s (.v .bool false)) [] [] []])
    (ps := [SC cfg.P i_laws_big [.s (.v (.sl (.int .u8)) x0), .s (.v (.sl (.int .u8)) x1)] (.s (.v .bool false)) []]) (st1 := laws_FnApartCommute_C3a x0 x1 false) (by kernel_rfl) ⟨h1, trivial⟩ next

theorem laws_FnApartCommute_C3a_i1 (x0 : (List Int)) (x1 : (List Int)) (x29 : Bool) (dc1a : (ByteArray × ByteArray)) (dc1b : (ByteArray × ByteArray)) (dc2a : Bool) (dc3a : Bool) (dc3b : Bool) (dc4a : Bool) (dc5a : Bool) (dc5b : Bool)
    (h1 : SC cfg.P i_spec_DrawAreApart [.s (.v (.sl (.int .u8)) x0)] (.tup [.v (.pr .str .str) dc1a, .v (.pr .str .str) dc1b]) [])
    (h2 : SC cfg.P i_impl_AreApart [.s (.v (.pr .str .str) dc1a), .s (.v (.pr .str .str) dc1b)] (.tup [.v .bool dc2a, .v .bool true]) [])
    (h3 : SC cfg.P i_spec_AreApart [.s (.v (.pr .str .str) dc1a), .s (.v (.pr .str .str) dc1b)] (.tup [.v .bool dc3a, .v .bool dc3b]) [])
    (h4 : SC cfg.P i_impl_DoCommute [.s (.v (.pr .str .str) dc1a), .s (.v (.pr .str .str) dc1b)] (.tup [.v .bool dc4a, .v .bool true]) [])
    (h5 : SC cfg.P i_spec_DoCommute [.s (.v (.pr .str .str) dc1a), .s (.v (.pr .str .str) dc1b)] (.tup [.v .bool dc5a, .v .bool dc5b]) [])
    (h6 : (!(true == dc3b)) = false)
    (h7 : (!(dc2a == dc3a)) = false)
    (h8 : (!(true == dc5b)) = false)
    (h9 : (!(dc4a == dc5a)) = false)
    {e : AEx} {st : St} (next : RestSC cfg.P 2 (rest P_laws_FnApartCommute 10) (laws_FnApartCommute_C10a x1 dc2a dc4a true false) e st) :
    RestSC cfg.P 2 (rest P_laws_FnApartCommute 3) (laws_FnApartCommute_C3a x0 x1 x29) e st :=
  rest_next cfgOK (f := i_laws_FnApartCommute) (k := 3) (m := 7) (its := [.res (.tup [.v (.pr .str .str) dc1a, .v (.pr .str .str) dc1b]) [] [] [], .res (.tup [.v .bool dc2a, .v .bool true]) [] [] [], .res (.tup [.v .bool dc3a, .v .bool dc3b]) [] [] [], .res (.tup [.v .bool dc4a, .v .bool true]) [] [] [], .res (.tup [.v .bool dc5a, .v .bool dc5b]) [] [] [], .bool false, .bool false, .bool false, .bool false])
    (ps := [SC cfg.P i_spec_DrawAreApart [.s (.v (.sl (.int .u8)) x0)] (.tup [.v (.pr .str .str) dc1a, .v (.pr .str .str) dc1b]) [],
      SC cfg.P i_impl_AreApart [.s (.v (.pr .str .str) dc1a), .s (.v (.pr .str .str) dc1b)] (.tup [.v .bool dc2a, .v .bool true]) [],
      SC cfg.P i_spec_AreApart [.s (.v (.pr .str .str) dc1a), .s (.v (.pr .str .str) dc1b)] (.tup [.v .bool dc3a, .v .bool dc3b]) [],
      SC cfg.P i_impl_DoCommute [.s (.v (.pr .str .str) dc1a), .s (.v (.pr .str .str) dc1b)] (.tup [.v .bool dc4a, .v .bool true]) [],
      SC cfg.P i_spec_DoCommute [.s (.v (.pr .str .str) dc1a), .s (.v (.pr .str .str) dc1b)] (.tup [.v .bool dc5a, .v .bool dc5b]) [],
      (!(true == dc3b)) = false,
      (!(dc2a == dc3a)) = false,
      (!(true == dc5b)) = false,
      (!(dc4a == dc5a)) = false]) (st1 := laws_FnApartCommute_C10a x1 dc2a dc4a true false) (by kernel_rfl) ⟨h1, h2, h3, h4, h5, h6, h7, h8, h9, trivial⟩ next

theorem laws_FnApartCommute_C3a_i2 (x0 : (List Int)) (x1 : (List Int)) (x29 : Bool) (dc1a : (ByteArray × ByteArray)) (dc1b : (ByteArray × ByteArray)) (dc2a : Bool) (dc2b : Bool) (dc3a : Bool) (dc3b : Bool) (dc4a : Bool) (dc5a : Bool) (dc5b : Bool)
    (h1 : SC cfg.P i_spec_DrawAreApart [.s (.v (.sl (.int .u8)) x0)] (.tup [.v (.pr .str .str) dc1a, .v (.pr .str .str) dc1b]) [])
    (h2 : SC cfg.P i_impl_AreApart [.s (.v (.pr .str .str) dc1a), .s (.v (.pr .str .str) dc1b)] (.tup [.v .bool dc2a, .v .bool dc2b]) [])
    (h3 : SC cfg.P i_spec_AreApart [.s (.v (.pr .str .str) dc1a), .s (.v (.pr .str .str) dc1b)] (.tup [.v .bool dc3a, .v .bool dc3b]) [])
    (h4 : SC cfg.P i_impl_DoCommute [.s (.v (.pr .str .str) dc1a), .s (.v (.pr .str .str) dc1b)] (.tup [.v .bool dc4a, .v .bool false]) [])
    (h5 : SC cfg.P i_spec_DoCommute [.s (.v (.pr .str .str) dc1a), .s (.v (.pr .str .str) dc1b)] (.tup [.v .bool dc5a, .v .bool dc5b]) [])
    (h6 : (!(dc2b == dc3b)) = false)
    (h7 : (!(dc2a == dc3a)) = false)
    (h8 : (!(false == dc5b)) = false)
    (h9 : (!(dc4a == dc5a)) = false)
    {e : AEx} {st : St} (next : RestSC cfg.P 2 (rest P_laws_FnApartCommute 10) (laws_FnApartCommute_C10a x1 dc2a dc4a false false) e st) :
    RestSC cfg.P 2 (rest P_laws_FnApartCommute 3) (laws_FnApartCommute_C3a x0 x1 x29) e st :=
  rest_next cfgOK (f := i_laws_FnApartCommute) (k := 3) (m := 7) (its := [.res (.tup [.v (.pr .str .str) dc1a, .v (.pr .str .str) dc1b]) [] [] [], .res (.tup [.v .bool dc2a, .v .bool dc2b]) [] [] [], .res (.tup [.v .bool dc3a, .v .bool dc3b]) [] [] [], .res (.tup [.v .bool dc4a, .v .bool false]) [] [] [], .res (.tup [.v .bool dc5a, .v .bool dc5b]) [] [] [], .bool false, .bool false, .bool false, .bool false])
    (ps := [SC cfg.P i_spec_DrawAreApart [.s (.v (.sl (.int .u8)) x0)] (.tup [.v (.pr .str .str) dc1a, .v (.pr .str .str) dc1b]) [],
      SC cfg.P i_impl_AreApart [.s (.v (.pr .str .str) dc1a), .s (.v (.pr .str .str) dc1b)] (.tup [.v .bool dc2a, .v .bool dc2b]) [],
      SC cfg.P i_spec_AreApart [.s (.v (.pr .str .str) dc1a), .s (.v (.pr .str .str) dc1b)] (.tup [.v .bool dc3a, .v .bool dc3b]) [],
      SC cfg.P i_impl_DoCommute [.s (.v (.pr .str .str) dc1a), .s (.v (.pr .str .str) dc1b)] (.tup [.v .bool dc4a, .v .bool false]) [],
      SC cfg.P i_spec_DoCommute [.s (.v (.pr .str .str) dc1a), .s (.v (.pr .str .str) dc1b)] (.tup [.v .bool dc5a, .v .bool dc5b]) [],
      (!(dc2b == dc3b)) = false,
      (!(dc2a == dc3a)) = false,
      (!(false == dc5b)) = false,
      (!(dc4a == dc5a)) = false]) (st1 := laws_FnApartCommute_C10a x1 dc2a dc4a false false) (by kernel_rfl) ⟨h1, h2, h3, h4, h5, h6, h7, h8, h9, trivial⟩ next

theorem laws_FnApartCommute_C10a_i1 (x1 : (List Int)) (x83 : Bool)
    {e : AEx} {st : St} (next : RestSC cfg.P 2 (rest P_laws_FnApartCommute 12) (laws_FnApartCommute_C12a x1 false) e st) :
    RestSC cfg.P 2 (rest P_laws_FnApartCommute 10) (laws_FnApartCommute_C10a x1 true true true x83) e st :=
  rest_next cfgOK (f := i_laws_FnApartCommute) (k := 10) (m := 2) (its := [])
    (ps := []) (st1 := laws_FnApartCommute_C12a x1 false) (by kernel_rfl) trivial next

theorem laws_FnApartCommute_C10a_i2 (x1 : (List Int)) (x11 : Bool) (x83 : Bool)
    {e : AEx} {st : St} (next : RestSC cfg.P 2 (rest P_laws_FnApartCommute 12) (laws_FnApartCommute_C12a x1 false) e st) :
    RestSC cfg.P 2 (rest P_laws_FnApartCommute 10) (laws_FnApartCommute_C10a x1 false x11 true x83) e st :=
  rest_next cfgOK (f := i_laws_FnApartCommute) (k := 10) (m := 2) (its := [])
    (ps := []) (st1 := laws_FnApartCommute_C12a x1 false) (by kernel_rfl) trivial next

theorem laws_FnApartCommute_C10a_i3 (x1 : (List Int)) (x7 : Bool) (x11 : Bool) (x83 : Bool)
    {e : AEx} {st : St} (next : RestSC cfg.P 2 (rest P_laws_FnApartCommute 12) (laws_FnApartCommute_C12a x1 false) e st) :
    RestSC cfg.P 2 (rest P_laws_FnApartCommute 10) (laws_FnApartCommute_C10a x1 x7 x11 false x83) e st :=
  rest_next cfgOK (f := i_laws_FnApartCommute) (k := 10) (m := 2) (its := [])
    (ps := []) (st1 := laws_FnApartCommute_C12a x1 false) (by kernel_rfl) trivial next

theorem laws_FnApartCommute_C12a_i1 (x1 : (List Int)) (x91 : Bool) (dc1a : (ByteArray × ByteArray)) (dc1b : (ByteArray × ByteArray)) (dc2a : Bool) (dc2b : Bool) (dc3a : Bool) (dc3b : Bool)
    (h1 : SC cfg.P i_spec_DrawDoCommute [.s (.v (.sl (.int .u8)) x1)] (.tup [.v (.pr .str .str) dc1a, .v (.pr .str .str) dc1b]) [])
    (h2 : SC cfg.P i_impl_DoCommute [.s (.v (.pr .str .str) dc1a), .s (.v (.pr .str .str) dc1b)] (.tup [.v .bool dc2a, .v .bool dc2b]) [])
    (h3 : SC cfg.P i_spec_DoCommute [.s (.v (.pr .str .str) dc1a), .s (.v (.pr .str .str) dc1b)] (.tup [.v .bool dc3a, .v .bool dc3b]) [])
    (h4 : (!(dc2b == dc3b)) = false)
    (h5 : (!(dc2a == dc3a)) = false)
    {e : AEx} {st : St} (next : RestSC cfg.P 2 (rest P_laws_FnApartCommute 17) (laws_FnApartCommute_C17a dc2a dc2b false dc1a dc1b) e st) :
    RestSC cfg.P 2 (rest P_laws_FnApartCommute 12) (laws_FnApartCommute_C12a x1 x91) e st :=
  rest_next cfgOK (f := i_laws_FnApartCommute) (k := 12) (m := 5) (its := [.res (.tup [.v (.pr .str .str) dc1a, .v (.pr .str .str) dc1b]) [] [] [], .res (.tup [.v .bool dc2a, .v .bool dc2b]) [] [] [], .res (.tup [.v .bool dc3a, .v .bool dc3b]) [] [] [], .bool false, .bool false])
    (ps := [SC cfg.P i_spec_DrawDoCommute [.s (.v (.sl (.int .u8)) x1)] (.tup [.v (.pr .str .str) dc1a, .v (.pr .str .str) dc1b]) [],
      SC cfg.P i_impl_DoCommute [.s (.v (.pr .str .str) dc1a), .s (.v (.pr .str .str) dc1b)] (.tup [.v .bool dc2a, .v .bool dc2b]) [],
      SC cfg.P i_spec_DoCommute [.s (.v (.pr .str .str) dc1a), .s (.v (.pr .str .str) dc1b)] (.tup [.v .bool dc3a, .v .bool dc3b]) [],
      (!(dc2b == dc3b)) = false,
      (!(dc2a == dc3a)) = false]) (st1 := laws_FnApartCommute_C17a dc2a dc2b false dc1a dc1b) (by kernel_rfl) ⟨h1, h2, h3, h4, h5, trivial⟩ next

theorem laws_FnApartCommute_C17a_x1 (x17 : Bool) (x116 : Bool) (xo15 : (ByteArray × ByteArray)) (xo16 : (ByteArray × ByteArray)) (dc1a : Bool) (dc2a : (ByteArray × ByteArray)) (dc3a : (ByteArray × ByteArray))
    (h1 : SC cfg.P i_impl_DoCommute [.s (.v (.pr .str .str) xo16), .s (.v (.pr .str .str) xo15)] (.tup [.v .bool dc1a, .v .bool true]) [])
    (h2 : SC cfg.P i_impl_ProductPair [.s (.v (.pr .str .str) xo15), .s (.v (.pr .str .str) xo16)] (.tup [.v (.pr .str .str) dc2a, .v .bool true]) [])
    (h3 : SC cfg.P i_impl_ProductPair [.s (.v (.pr .str .str) xo16), .s (.v (.pr .str .str) xo15)] (.tup [.v (.pr .str .str) dc3a, .v .bool true]) [])
    (h4 : dc1a = x17)
    (h5 : (((dc2a.1).toList == (dc3a.1).toList) && ((dc2a.2).toList == (dc3a.2).toList)) = true)
    (h6 : (x17 == true) = true) :
    RestSC cfg.P 2 (rest P_laws_FnApartCommute 17) (laws_FnApartCommute_C17a x17 true x116 xo15 xo16) .ret (laws_FnApartCommute_R1 true) :=
  rest_ret cfgOK (f := i_laws_FnApartCommute) (k := 17) (m := 2) (its := [.res (.tup [.v .bool dc1a, .v .bool true]) [] [] [], .res (.tup [.v (.pr .str .str) dc2a, .v .bool true]) [] [] [], .res (.tup [.v (.pr .str .str) dc3a, .v .bool true]) [] [] [], .bool true, .bool true, .bool true])
    (ps := [SC cfg.P i_impl_DoCommute [.s (.v (.pr .str .str) xo16), .s (.v (.pr .str .str) xo15)] (.tup [.v .bool dc1a, .v .bool true]) [],
      SC cfg.P i_impl_ProductPair [.s (.v (.pr .str .str) xo15), .s (.v (.pr .str .str) xo16)] (.tup [.v (.pr .str .str) dc2a, .v .bool true]) [],
      SC cfg.P i_impl_ProductPair [.s (.v (.pr .str .str) xo16), .s (.v (.pr .str .str) xo15)] (.tup [.v (.pr .str .str) dc3a, .v .bool true]) [],
      (dc1a == x17) = true,
      (((dc2a.1).toList == (dc3a.1).toList) && ((dc2a.2).toList == (dc3a.2).toList)) = true,
      (x17 == true) = true]) (by kernel_rfl) ⟨h1, h2, h3, (beq_iff_eq.mpr h4), h5, h6, trivial⟩

theorem laws_FnApartCommute_C17a_x2 (x17 : Bool) (x116 : Bool) (xo15 : (ByteArray × ByteArray)) (xo16 : (ByteArray × ByteArray)) (dc1a : Bool) (dc2a : (ByteArray × ByteArray)) (dc3a : (ByteArray × ByteArray))
    (h1 : SC cfg.P i_impl_DoCommute [.s (.v (.pr .str .str) xo16), .s (.v (.pr .str .str) xo15)] (.tup [.v .bool dc1a, .v .bool true]) [])
    (h2 : SC cfg.P i_impl_ProductPair [.s (.v (.pr .str .str) xo15), .s (.v (.pr .str .str) xo16)] (.tup [.v (.pr .str .str) dc2a, .v .bool true]) [])
    (h3 : SC cfg.P i_impl_ProductPair [.s (.v (.pr .str .str) xo16), .s (.v (.pr .str .str) xo15)] (.tup [.v (.pr .str .str) dc3a, .v .bool true]) [])
    (h4 : dc1a = x17)
    (h5 : (((dc2a.1).toList == (dc3a.1).toList) && ((dc2a.2).toList == (dc3a.2).toList)) = false)
    (h6 : (x17 == false) = true) :
    RestSC cfg.P 2 (rest P_laws_FnApartCommute 17) (laws_FnApartCommute_C17a x17 true x116 xo15 xo16) .ret (laws_FnApartCommute_R1 true) :=
  rest_ret cfgOK (f := i_laws_FnApartCommute) (k := 17) (m := 2) (its := [.res (.tup [.v .bool dc1a, .v .bool true]) [] [] [], .res (.tup [.v (.pr .str .str) dc2a, .v .bool true]) [] [] [], .res (.tup [.v (.pr .str .str) dc3a, .v .bool true]) [] [] [], .bool true, .bool false, .bool true])
    (ps := [SC cfg.P i_impl_DoCommute [.s (.v (.pr .str .str) xo16), .s (.v (.pr .str .str) xo15)] (.tup [.v .bool dc1a, .v .bool true]) [],
      SC cfg.P i_impl_ProductPair [.s (.v (.pr .str .str) xo15), .s (.v (.pr .str .str) xo16)] (.tup [.v (.pr .str .str) dc2a, .v .bool true]) [],
      SC cfg.P i_impl_ProductPair [.s (.v (.pr .str .str) xo16), .s (.v (.pr .str .str) xo15)] (.tup [.v (.pr .str .str) dc3a, .v .bool true]) [],
      (dc1a == x17) = true,
      (((dc2a.1).toList == (dc3a.1).toList) && ((dc2a.2).toList == (dc3a.2).toList)) = false,
      (x17 == false) = true]) (by kernel_rfl) ⟨h1, h2, h3, (beq_iff_eq.mpr h4), h5, h6, trivial⟩

theorem laws_FnApartCommute_C17a_i3 (x17 : Bool) (x116 : Bool) (xo15 : (ByteArray × ByteArray)) (xo16 : (ByteArray × ByteArray))
    {e : AEx} {st : St} (next : RestSC cfg.P 2 (rest P_laws_FnApartCommute 19) (laws_FnApartCommute_C19a x17 false xo15 xo16) e st) :
    RestSC cfg.P 2 (rest P_laws_FnApartCommute 17) (laws_FnApartCommute_C17a x17 false x116 xo15 xo16) e st :=
  rest_next cfgOK (f := i_laws_FnApartCommute) (k := 17) (m := 2) (its := [])
    (ps := []) (st1 := laws_FnApartCommute_C19a x17 false xo15 xo16) (by kernel_rfl) trivial next

theorem laws_FnApartCommute_C19a_x1 (x17 : Bool) (x117 : Bool) (xo15 : (ByteArray × ByteArray)) (xo16 : (ByteArray × ByteArray))
     :
    RestSC cfg.P 2 (rest P_laws_FnApartCommute 19) (laws_FnApartCommute_C19a x17 x117 xo15 xo16) .ret (laws_FnApartCommute_R1 true) :=
  rest_ret cfgOK (f := i_laws_FnApartCommute) (k := 19) (m := 2) (its := [])
    (ps := []) (by kernel_rfl) trivial

theorem laws_FnApartCommute_R1_of (a0 : (List Int)) (a1 : (List Int)) (y4 : Bool)
    (h : RestSC cfg.P 2 (rest P_laws_FnApartCommute 0) (laws_FnApartCommute_C0a a0 a1) .ret (laws_FnApartCommute_R1 y4)) :
    SC cfg.P i_laws_FnApartCommute [.s (.v (.sl (.int .u8)) a0), .s (.v (.sl (.int .u8)) a1)] (.s (.v .bool y4)) [] :=
  SC_of_rest cfgOK (f := i_laws_FnApartCommute) h (by kernel_rfl) (by kernel_rfl) (by kernel_rfl) get_laws_FnApartCommute (by decide)

/-! ### laws_big -/


theorem laws_big_p1 (a0 : (List Int)) (a1 : (List Int))
    (h1 : ((List.length a0 : Nat) : Int) > (1048576 : Int)) :
    SC cfg.P i_laws_big [.s (.v (.sl (.int .u8)) a0), .s (.v (.sl (.int .u8)) a1)] (.s (.v .bool true)) [] :=
  SC_of_run cfgOK (its := [.bool true])
    (ps := [decide (((List.length a0 : Nat) : Int) > (1048576 : Int)) = true]) (by kernel_rfl) ⟨(decide_eq_true h1), trivial⟩ get_laws_big (by decide)

theorem laws_big_p2 (a0 : (List Int)) (a1 : (List Int))
    (h1 : ¬ (((List.length a0 : Nat) : Int) > (1048576 : Int)))
    (h2 : ((List.length a1 : Nat) : Int) > (IntKind.wrap .i64 ((1048576 : Int) - ((List.length a0 : Nat) : Int)))) :
    SC cfg.P i_laws_big [.s (.v (.sl (.int .u8)) a0), .s (.v (.sl (.int .u8)) a1)] (.s (.v .bool true)) [] :=
  SC_of_run cfgOK (its := [.bool false, .bool true])
    (ps := [decide (((List.length a0 : Nat) : Int) > (1048576 : Int)) = false,
      decide (((List.length a1 : Nat) : Int) > (IntKind.wrap .i64 ((1048576 : Int) - ((List.length a0 : Nat) : Int)))) = true]) (by kernel_rfl) ⟨(decide_eq_false h1), (decide_eq_true h2), trivial⟩ get_laws_big (by decide)

theorem laws_big_p3 (a0 : (List Int)) (a1 : (List Int))
    (h1 : ¬ (((List.length a0 : Nat) : Int) > (1048576 : Int)))
    (h2 : ¬ (((List.length a1 : Nat) : Int) > (IntKind.wrap .i64 ((1048576 : Int) - ((List.length a0 : Nat) : Int))))) :
    SC cfg.P i_laws_big [.s (.v (.sl (.int .u8)) a0), .s (.v (.sl (.int .u8)) a1)] (.s (.v .bool false)) [] :=
  SC_of_run cfgOK (its := [.bool false, .bool false])
    (ps := [decide (((List.length a0 : Nat) : Int) > (1048576 : Int)) = false,
      decide (((List.length a1 : Nat) : Int) > (IntKind.wrap .i64 ((1048576 : Int) - ((List.length a0 : Nat) : Int)))) = false]) (by kernel_rfl) ⟨(decide_eq_false h1), (decide_eq_false h2), trivial⟩ get_laws_big (by decide)

end Go.AI
