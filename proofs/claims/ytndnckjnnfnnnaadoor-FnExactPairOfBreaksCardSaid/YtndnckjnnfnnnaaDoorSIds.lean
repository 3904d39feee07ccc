/- A part of the road: what it proves stands in its last texts. -/
import Derived.Test.YtndnckjnnfnnnaaDoorSCfg
import Derived.Test.YtndnckjnnfnnnaaDoorProg
set_option autoImplicit false
set_option maxRecDepth 100000
set_option linter.unusedVariables false
namespace Go.AI
open Go.Proofs

abbrev t_int : TypeId := 3
abbrev t_uint8 : TypeId := 5
abbrev t_string : TypeId := 9
abbrev t_impl_Fraction : TypeId := 35
abbrev t_laws_Fraction : TypeId := 37
abbrev t_impl_spot : TypeId := 39
abbrev i_main_main : FuncId := 0
abbrev i_gosem_cut : FuncId := 1
abbrev i_gosem_cut_init : FuncId := 2
abbrev i_laws_FnExactPairOfBreaks : FuncId := 3
abbrev i_laws_szFractionS : FuncId := 4
abbrev i_spec_PairOfBreaks : FuncId := 5
abbrev i_laws_toFractionS : FuncId := 6
abbrev i_impl_PairOfBreaks : FuncId := 7
abbrev i_laws_eqPair : FuncId := 8
abbrev i_laws_eqFractionS : FuncId := 9
abbrev i_spec_mpRising : FuncId := 10
abbrev i_spec_mpPair : FuncId := 11
abbrev i_laws_toFraction : FuncId := 12
abbrev i_impl_IsFraction : FuncId := 13
abbrev i_impl_Fraction_place : FuncId := 14
abbrev i_impl_made : FuncId := 15
abbrev i_impl_pair_fits : FuncId := 16
abbrev i_laws_eqFraction : FuncId := 17
abbrev i_spec_mpGood : FuncId := 18
abbrev i_spec_mpLess : FuncId := 19
abbrev i_spec_mpEnds : FuncId := 20
abbrev i_spec_mpSlope : FuncId := 21
abbrev i_spec_mpSplit : FuncId := 22
abbrev i_spec_TreeWith : FuncId := 23
abbrev i_spec_prReduce : FuncId := 24
abbrev i_math_bits_OnesCount : FuncId := 25
abbrev i_impl_lowest : FuncId := 26
abbrev i_impl_bent : FuncId := 27
abbrev i_impl_cutUp : FuncId := 28
abbrev i_impl_treeWith : FuncId := 29
abbrev i_impl_node_carets : FuncId := 30
abbrev i_impl_pair_plain : FuncId := 31
abbrev i_spec_l1In : FuncId := 32
abbrev i_spec_mpOf : FuncId := 33
abbrev i_spec_l1Most : FuncId := 34
abbrev i_spec_mpShort : FuncId := 35
abbrev i_spec_AddressOf : FuncId := 36
abbrev i_spec_trWith : FuncId := 37
abbrev i_spec_prBoth : FuncId := 38
abbrev i_spec_trDrop : FuncId := 39
abbrev i_math_bits_OnesCount32 : FuncId := 40
abbrev i_math_bits_OnesCount64 : FuncId := 41
abbrev i_impl_placeOf : FuncId := 42
abbrev i_impl_straight : FuncId := 43
abbrev i_impl_node_put : FuncId := 44
abbrev i_slices_Equal : FuncId := 45
abbrev i_impl_node_addresses : FuncId := 46
abbrev i_impl_node_text : FuncId := 47
abbrev i_spec_mpGcd : FuncId := 48
abbrev i_spec_trOf : FuncId := 49
abbrev i_spec_trExposed : FuncId := 50
abbrev i_spec_l1Has : FuncId := 51
abbrev i_impl_scaled : FuncId := 52
abbrev i_strconv_Itoa : FuncId := 53
abbrev i_internal_strconv_Itoa : FuncId := 54
abbrev i_internal_strconv_FormatInt : FuncId := 55
abbrev i_internal_strconv_small : FuncId := 56
abbrev i_internal_strconv_numDigits : FuncId := 57
abbrev i_internal_strconv_formatBase10 : FuncId := 58
abbrev i_internal_strconv_formatBits : FuncId := 59
abbrev i_internal_strconv_log10Pow2 : FuncId := 60
abbrev i_math_bits_Len64 : FuncId := 61
abbrev i_internal_strconv_bool2 : FuncId := 62
abbrev i_internal_strconv_isPowerOfTwo : FuncId := 63
abbrev i_math_bits_TrailingZeros : FuncId := 64
abbrev i_math_bits_TrailingZeros32 : FuncId := 65
abbrev i_math_bits_TrailingZeros64 : FuncId := 66
abbrev i_runtime_boundsError_Error : FuncId := 67
abbrev i_runtime_boundsError_RuntimeError : FuncId := 68
abbrev i_runtime_errorString_Error : FuncId := 69
abbrev i_runtime_errorString_RuntimeError : FuncId := 70
abbrev i_runtime_plainError_Error : FuncId := 71
abbrev i_runtime_plainError_RuntimeError : FuncId := 72
abbrev i_runtime_errorAddressString_Error : FuncId := 73
abbrev i_runtime_errorAddressString_RuntimeError : FuncId := 74
abbrev i_runtime_TypeAssertionError_Error : FuncId := 75
abbrev i_runtime_TypeAssertionError_RuntimeError : FuncId := 76
abbrev i_runtime_PanicNilError_Error : FuncId := 77
abbrev i_runtime_PanicNilError_RuntimeError : FuncId := 78
abbrev i_internal_abi_Type_Align : FuncId := 79
abbrev i_internal_runtime_maps_unhashableTypeError_Error : FuncId := 80
abbrev i_internal_runtime_maps_unhashableTypeError_RuntimeError : FuncId := 81
abbrev i_impl_pair_length : FuncId := 82
abbrev i_internal_abi_Kind_String : FuncId := 83
abbrev i_gosem_cut_vars : FuncId := 89
noncomputable abbrev P_gosem_cut_init : Func := Tryd.f2
theorem get_gosem_cut_init : cfg.P.funcs[i_gosem_cut_init]? = some P_gosem_cut_init := by kernel_rfl
noncomputable abbrev P_laws_FnExactPairOfBreaks : Func := Tryd.f3
theorem get_laws_FnExactPairOfBreaks : cfg.P.funcs[i_laws_FnExactPairOfBreaks]? = some P_laws_FnExactPairOfBreaks := by kernel_rfl
noncomputable abbrev P_laws_szFractionS : Func := Tryd.f4
theorem get_laws_szFractionS : cfg.P.funcs[i_laws_szFractionS]? = some P_laws_szFractionS := by kernel_rfl
noncomputable abbrev P_spec_PairOfBreaks : Func := Tryd.f5
theorem get_spec_PairOfBreaks : cfg.P.funcs[i_spec_PairOfBreaks]? = some P_spec_PairOfBreaks := by kernel_rfl
noncomputable abbrev P_laws_toFractionS : Func := Tryd.f6
theorem get_laws_toFractionS : cfg.P.funcs[i_laws_toFractionS]? = some P_laws_toFractionS := by kernel_rfl
noncomputable abbrev P_impl_PairOfBreaks : Func := Tryd.f7
theorem get_impl_PairOfBreaks : cfg.P.funcs[i_impl_PairOfBreaks]? = some P_impl_PairOfBreaks := by kernel_rfl
noncomputable abbrev P_laws_eqPair : Func := Tryd.f8
theorem get_laws_eqPair : cfg.P.funcs[i_laws_eqPair]? = some P_laws_eqPair := by kernel_rfl
noncomputable abbrev P_laws_eqFractionS : Func := Tryd.f9
theorem get_laws_eqFractionS : cfg.P.funcs[i_laws_eqFractionS]? = some P_laws_eqFractionS := by kernel_rfl
noncomputable abbrev P_spec_mpRising : Func := Tryd.f10
theorem get_spec_mpRising : cfg.P.funcs[i_spec_mpRising]? = some P_spec_mpRising := by kernel_rfl
noncomputable abbrev P_spec_mpPair : Func := Tryd.f11
theorem get_spec_mpPair : cfg.P.funcs[i_spec_mpPair]? = some P_spec_mpPair := by kernel_rfl
noncomputable abbrev P_laws_toFraction : Func := Tryd.f12
theorem get_laws_toFraction : cfg.P.funcs[i_laws_toFraction]? = some P_laws_toFraction := by kernel_rfl
noncomputable abbrev P_impl_IsFraction : Func := Tryd.f13
theorem get_impl_IsFraction : cfg.P.funcs[i_impl_IsFraction]? = some P_impl_IsFraction := by kernel_rfl
noncomputable abbrev P_impl_Fraction_place : Func := Tryd.f14
theorem get_impl_Fraction_place : cfg.P.funcs[i_impl_Fraction_place]? = some P_impl_Fraction_place := by kernel_rfl
noncomputable abbrev P_impl_made : Func := Tryd.f15
theorem get_impl_made : cfg.P.funcs[i_impl_made]? = some P_impl_made := by kernel_rfl
noncomputable abbrev P_impl_pair_fits : Func := Tryd.f16
theorem get_impl_pair_fits : cfg.P.funcs[i_impl_pair_fits]? = some P_impl_pair_fits := by kernel_rfl
noncomputable abbrev P_laws_eqFraction : Func := Tryd.f17
theorem get_laws_eqFraction : cfg.P.funcs[i_laws_eqFraction]? = some P_laws_eqFraction := by kernel_rfl
noncomputable abbrev P_spec_mpGood : Func := Tryd.f18
theorem get_spec_mpGood : cfg.P.funcs[i_spec_mpGood]? = some P_spec_mpGood := by kernel_rfl
noncomputable abbrev P_spec_mpLess : Func := Tryd.f19
theorem get_spec_mpLess : cfg.P.funcs[i_spec_mpLess]? = some P_spec_mpLess := by kernel_rfl
noncomputable abbrev P_spec_mpEnds : Func := Tryd.f20
theorem get_spec_mpEnds : cfg.P.funcs[i_spec_mpEnds]? = some P_spec_mpEnds := by kernel_rfl
noncomputable abbrev P_spec_mpSlope : Func := Tryd.f21
theorem get_spec_mpSlope : cfg.P.funcs[i_spec_mpSlope]? = some P_spec_mpSlope := by kernel_rfl
noncomputable abbrev P_spec_mpSplit : Func := Tryd.f22
theorem get_spec_mpSplit : cfg.P.funcs[i_spec_mpSplit]? = some P_spec_mpSplit := by kernel_rfl
noncomputable abbrev P_spec_TreeWith : Func := Tryd.f23
theorem get_spec_TreeWith : cfg.P.funcs[i_spec_TreeWith]? = some P_spec_TreeWith := by kernel_rfl
noncomputable abbrev P_spec_prReduce : Func := Tryd.f24
theorem get_spec_prReduce : cfg.P.funcs[i_spec_prReduce]? = some P_spec_prReduce := by kernel_rfl
noncomputable abbrev P_math_bits_OnesCount : Func := Tryd.f25
theorem get_math_bits_OnesCount : cfg.P.funcs[i_math_bits_OnesCount]? = some P_math_bits_OnesCount := by kernel_rfl
noncomputable abbrev P_impl_lowest : Func := Tryd.f26
theorem get_impl_lowest : cfg.P.funcs[i_impl_lowest]? = some P_impl_lowest := by kernel_rfl
noncomputable abbrev P_impl_bent : Func := Tryd.f27
theorem get_impl_bent : cfg.P.funcs[i_impl_bent]? = some P_impl_bent := by kernel_rfl
noncomputable abbrev P_impl_cutUp : Func := Tryd.f28
theorem get_impl_cutUp : cfg.P.funcs[i_impl_cutUp]? = some P_impl_cutUp := by kernel_rfl
noncomputable abbrev P_impl_treeWith : Func := Tryd.f29
theorem get_impl_treeWith : cfg.P.funcs[i_impl_treeWith]? = some P_impl_treeWith := by kernel_rfl
noncomputable abbrev P_impl_node_carets : Func := Tryd.f30
theorem get_impl_node_carets : cfg.P.funcs[i_impl_node_carets]? = some P_impl_node_carets := by kernel_rfl
noncomputable abbrev P_impl_pair_plain : Func := Tryd.f31
theorem get_impl_pair_plain : cfg.P.funcs[i_impl_pair_plain]? = some P_impl_pair_plain := by kernel_rfl
noncomputable abbrev P_spec_l1In : Func := Tryd.f32
theorem get_spec_l1In : cfg.P.funcs[i_spec_l1In]? = some P_spec_l1In := by kernel_rfl
noncomputable abbrev P_spec_mpOf : Func := Tryd.f33
theorem get_spec_mpOf : cfg.P.funcs[i_spec_mpOf]? = some P_spec_mpOf := by kernel_rfl
noncomputable abbrev P_spec_l1Most : Func := Tryd.f34
theorem get_spec_l1Most : cfg.P.funcs[i_spec_l1Most]? = some P_spec_l1Most := by kernel_rfl
noncomputable abbrev P_spec_mpShort : Func := Tryd.f35
theorem get_spec_mpShort : cfg.P.funcs[i_spec_mpShort]? = some P_spec_mpShort := by kernel_rfl
noncomputable abbrev P_spec_AddressOf : Func := Tryd.f36
theorem get_spec_AddressOf : cfg.P.funcs[i_spec_AddressOf]? = some P_spec_AddressOf := by kernel_rfl
noncomputable abbrev P_spec_trWith : Func := Tryd.f37
theorem get_spec_trWith : cfg.P.funcs[i_spec_trWith]? = some P_spec_trWith := by kernel_rfl
noncomputable abbrev P_spec_prBoth : Func := Tryd.f38
theorem get_spec_prBoth : cfg.P.funcs[i_spec_prBoth]? = some P_spec_prBoth := by kernel_rfl
noncomputable abbrev P_spec_trDrop : Func := Tryd.f39
theorem get_spec_trDrop : cfg.P.funcs[i_spec_trDrop]? = some P_spec_trDrop := by kernel_rfl
noncomputable abbrev P_math_bits_OnesCount64 : Func := Tryd.f41
theorem get_math_bits_OnesCount64 : cfg.P.funcs[i_math_bits_OnesCount64]? = some P_math_bits_OnesCount64 := by kernel_rfl
noncomputable abbrev P_impl_placeOf : Func := Tryd.f42
theorem get_impl_placeOf : cfg.P.funcs[i_impl_placeOf]? = some P_impl_placeOf := by kernel_rfl
noncomputable abbrev P_impl_straight : Func := Tryd.f43
theorem get_impl_straight : cfg.P.funcs[i_impl_straight]? = some P_impl_straight := by kernel_rfl
noncomputable abbrev P_impl_node_put : Func := Tryd.f44
theorem get_impl_node_put : cfg.P.funcs[i_impl_node_put]? = some P_impl_node_put := by kernel_rfl
noncomputable abbrev P_slices_Equal : Func := Tryd.f45
theorem get_slices_Equal : cfg.P.funcs[i_slices_Equal]? = some P_slices_Equal := by kernel_rfl
noncomputable abbrev P_impl_node_addresses : Func := Tryd.f46
theorem get_impl_node_addresses : cfg.P.funcs[i_impl_node_addresses]? = some P_impl_node_addresses := by kernel_rfl
noncomputable abbrev P_impl_node_text : Func := Tryd.f47
theorem get_impl_node_text : cfg.P.funcs[i_impl_node_text]? = some P_impl_node_text := by kernel_rfl
noncomputable abbrev P_spec_mpGcd : Func := Tryd.f48
theorem get_spec_mpGcd : cfg.P.funcs[i_spec_mpGcd]? = some P_spec_mpGcd := by kernel_rfl
noncomputable abbrev P_spec_trOf : Func := Tryd.f49
theorem get_spec_trOf : cfg.P.funcs[i_spec_trOf]? = some P_spec_trOf := by kernel_rfl
noncomputable abbrev P_spec_trExposed : Func := Tryd.f50
theorem get_spec_trExposed : cfg.P.funcs[i_spec_trExposed]? = some P_spec_trExposed := by kernel_rfl
noncomputable abbrev P_spec_l1Has : Func := Tryd.f51
theorem get_spec_l1Has : cfg.P.funcs[i_spec_l1Has]? = some P_spec_l1Has := by kernel_rfl
noncomputable abbrev P_impl_scaled : Func := Tryd.f52
theorem get_impl_scaled : cfg.P.funcs[i_impl_scaled]? = some P_impl_scaled := by kernel_rfl
noncomputable abbrev P_strconv_Itoa : Func := Tryd.f53
theorem get_strconv_Itoa : cfg.P.funcs[i_strconv_Itoa]? = some P_strconv_Itoa := by kernel_rfl
noncomputable abbrev P_internal_strconv_Itoa : Func := Tryd.f54
theorem get_internal_strconv_Itoa : cfg.P.funcs[i_internal_strconv_Itoa]? = some P_internal_strconv_Itoa := by kernel_rfl
noncomputable abbrev P_internal_strconv_FormatInt : Func := Tryd.f55
theorem get_internal_strconv_FormatInt : cfg.P.funcs[i_internal_strconv_FormatInt]? = some P_internal_strconv_FormatInt := by kernel_rfl
noncomputable abbrev P_internal_strconv_numDigits : Func := Tryd.f57
theorem get_internal_strconv_numDigits : cfg.P.funcs[i_internal_strconv_numDigits]? = some P_internal_strconv_numDigits := by kernel_rfl
noncomputable abbrev P_internal_strconv_formatBits : Func := Tryd.f59
theorem get_internal_strconv_formatBits : cfg.P.funcs[i_internal_strconv_formatBits]? = some P_internal_strconv_formatBits := by kernel_rfl
noncomputable abbrev P_internal_strconv_log10Pow2 : Func := Tryd.f60
theorem get_internal_strconv_log10Pow2 : cfg.P.funcs[i_internal_strconv_log10Pow2]? = some P_internal_strconv_log10Pow2 := by kernel_rfl
noncomputable abbrev P_internal_strconv_bool2 : Func := Tryd.f62
theorem get_internal_strconv_bool2 : cfg.P.funcs[i_internal_strconv_bool2]? = some P_internal_strconv_bool2 := by kernel_rfl
noncomputable abbrev P_internal_strconv_isPowerOfTwo : Func := Tryd.f63
theorem get_internal_strconv_isPowerOfTwo : cfg.P.funcs[i_internal_strconv_isPowerOfTwo]? = some P_internal_strconv_isPowerOfTwo := by kernel_rfl
noncomputable abbrev P_math_bits_TrailingZeros : Func := Tryd.f64
theorem get_math_bits_TrailingZeros : cfg.P.funcs[i_math_bits_TrailingZeros]? = some P_math_bits_TrailingZeros := by kernel_rfl
noncomputable abbrev P_math_bits_TrailingZeros32 : Func := Tryd.f65
theorem get_math_bits_TrailingZeros32 : cfg.P.funcs[i_math_bits_TrailingZeros32]? = some P_math_bits_TrailingZeros32 := by kernel_rfl
noncomputable abbrev P_math_bits_TrailingZeros64 : Func := Tryd.f66
theorem get_math_bits_TrailingZeros64 : cfg.P.funcs[i_math_bits_TrailingZeros64]? = some P_math_bits_TrailingZeros64 := by kernel_rfl
noncomputable abbrev P_gosem_cut_vars : Func := Tryd.f89
theorem get_gosem_cut_vars : cfg.P.funcs[i_gosem_cut_vars]? = some P_gosem_cut_vars := by kernel_rfl
end Go.AI
