/- A part of the road: what it proves stands in its last texts. -/
import Derived.Test.YtlkjnlhpdjbjdaaSCfg
import Derived.Test.YtlkjnlhpdjbjdaaProg
set_option autoImplicit false
set_option maxRecDepth 100000
set_option linter.unusedVariables false
namespace Go.AI
open Go.Proofs

abbrev t_int : TypeId := 3
abbrev t_string : TypeId := 9
abbrev t_Simpl_Ratio : TypeId := 43
abbrev t_impl_Ratio : TypeId := 46
abbrev t_impl_piece : TypeId := 74
abbrev i_main_main : FuncId := 0
abbrev i_gosem_cut : FuncId := 1
abbrev i_gosem_cut_init : FuncId := 2
abbrev i_laws_FnExactAreApart : FuncId := 3
abbrev i_laws_FnExactFixedIntervals : FuncId := 4
abbrev i_laws_FnExactMovedIntervals : FuncId := 5
abbrev i_laws_FnExactDirectionsOf : FuncId := 6
abbrev i_laws_szPair : FuncId := 7
abbrev i_spec_AreApart : FuncId := 8
abbrev i_laws_toPair : FuncId := 9
abbrev i_impl_AreApart : FuncId := 10
abbrev i_spec_FixedIntervals : FuncId := 11
abbrev i_impl_FixedIntervals : FuncId := 12
abbrev i_laws_eqRatioSS : FuncId := 13
abbrev i_laws_markRatioSS : FuncId := 14
abbrev i_laws_heldRatioSS : FuncId := 15
abbrev i_spec_MovedIntervals : FuncId := 16
abbrev i_impl_MovedIntervals : FuncId := 17
abbrev i_spec_DirectionsOf : FuncId := 18
abbrev i_impl_DirectionsOf : FuncId := 19
abbrev i_laws_eqIntS : FuncId := 20
abbrev i_laws_markIntS : FuncId := 21
abbrev i_laws_heldIntS : FuncId := 22
abbrev i_spec_prGood : FuncId := 23
abbrev i_spec_obMoved : FuncId := 24
abbrev i_spec_obLess : FuncId := 25
abbrev i_impl_two : FuncId := 26
abbrev i_slices_ContainsFunc : FuncId := 27
abbrev i_impl_pair_moved : FuncId := 28
abbrev i_impl_AreApart_k1 : FuncId := 29
abbrev i_impl_AreApart_k1_k1 : FuncId := 30
abbrev i_impl_Ratio_less : FuncId := 31
abbrev i_spec_obFixed : FuncId := 32
abbrev i_impl_pairOf : FuncId := 33
abbrev i_impl_pair_fixed : FuncId := 34
abbrev i_laws_eqRatioS : FuncId := 35
abbrev i_laws_markRatioS : FuncId := 36
abbrev i_laws_heldRatioS : FuncId := 37
abbrev i_spec_trAddresses : FuncId := 38
abbrev i_spec_mpOf : FuncId := 39
abbrev i_spec_obRatio : FuncId := 40
abbrev i_impl_ratio : FuncId := 41
abbrev i_impl_pair_goesUp : FuncId := 42
abbrev i_spec_trIs : FuncId := 43
abbrev i_spec_trCarets : FuncId := 44
abbrev i_slices_IndexFunc : FuncId := 45
abbrev i_impl_parse : FuncId := 46
abbrev i_impl_node_carets : FuncId := 47
abbrev i_impl_pair_pieces : FuncId := 48
abbrev i_impl_piece_fixedIn : FuncId := 49
abbrev i_laws_eqRatio : FuncId := 50
abbrev i_spec_trLeaf : FuncId := 51
abbrev i_spec_trSides : FuncId := 52
abbrev i_spec_mpShort : FuncId := 53
abbrev i_spec_mpGcd : FuncId := 54
abbrev i_spec_l1Abs : FuncId := 55
abbrev i_impl_size : FuncId := 56
abbrev i_impl_short : FuncId := 57
abbrev i_impl_piece_end : FuncId := 58
abbrev i_impl_piece_slope : FuncId := 59
abbrev i_spec_trEnd : FuncId := 60
abbrev i_impl_read : FuncId := 61
abbrev i_impl_node_addresses : FuncId := 62
abbrev i_impl_placeOf : FuncId := 63
abbrev i_spec_l1Most : FuncId := 64
abbrev i_runtime_boundsError_Error : FuncId := 65
abbrev i_runtime_boundsError_RuntimeError : FuncId := 66
abbrev i_runtime_errorString_Error : FuncId := 67
abbrev i_runtime_errorString_RuntimeError : FuncId := 68
abbrev i_runtime_plainError_Error : FuncId := 69
abbrev i_runtime_plainError_RuntimeError : FuncId := 70
abbrev i_runtime_errorAddressString_Error : FuncId := 71
abbrev i_runtime_errorAddressString_RuntimeError : FuncId := 72
abbrev i_runtime_TypeAssertionError_Error : FuncId := 73
abbrev i_runtime_TypeAssertionError_RuntimeError : FuncId := 74
abbrev i_runtime_PanicNilError_Error : FuncId := 75
abbrev i_runtime_PanicNilError_RuntimeError : FuncId := 76
abbrev i_internal_abi_Type_Align : FuncId := 77
abbrev i_internal_runtime_maps_unhashableTypeError_Error : FuncId := 78
abbrev i_internal_runtime_maps_unhashableTypeError_RuntimeError : FuncId := 79
abbrev i_impl_pair_length : FuncId := 80
abbrev i_impl_Fraction_place : FuncId := 81
abbrev i_internal_abi_Kind_String : FuncId := 82
noncomputable abbrev P_gosem_cut_init : Func := Try.f2
theorem get_gosem_cut_init : cfg.P.funcs[i_gosem_cut_init]? = some P_gosem_cut_init := by kernel_rfl
noncomputable abbrev P_laws_FnExactAreApart : Func := Try.f3
theorem get_laws_FnExactAreApart : cfg.P.funcs[i_laws_FnExactAreApart]? = some P_laws_FnExactAreApart := by kernel_rfl
noncomputable abbrev P_laws_FnExactFixedIntervals : Func := Try.f4
theorem get_laws_FnExactFixedIntervals : cfg.P.funcs[i_laws_FnExactFixedIntervals]? = some P_laws_FnExactFixedIntervals := by kernel_rfl
noncomputable abbrev P_laws_FnExactMovedIntervals : Func := Try.f5
theorem get_laws_FnExactMovedIntervals : cfg.P.funcs[i_laws_FnExactMovedIntervals]? = some P_laws_FnExactMovedIntervals := by kernel_rfl
noncomputable abbrev P_laws_FnExactDirectionsOf : Func := Try.f6
theorem get_laws_FnExactDirectionsOf : cfg.P.funcs[i_laws_FnExactDirectionsOf]? = some P_laws_FnExactDirectionsOf := by kernel_rfl
noncomputable abbrev P_laws_szPair : Func := Try.f7
theorem get_laws_szPair : cfg.P.funcs[i_laws_szPair]? = some P_laws_szPair := by kernel_rfl
noncomputable abbrev P_spec_AreApart : Func := Try.f8
theorem get_spec_AreApart : cfg.P.funcs[i_spec_AreApart]? = some P_spec_AreApart := by kernel_rfl
noncomputable abbrev P_laws_toPair : Func := Try.f9
theorem get_laws_toPair : cfg.P.funcs[i_laws_toPair]? = some P_laws_toPair := by kernel_rfl
noncomputable abbrev P_impl_AreApart : Func := Try.f10
theorem get_impl_AreApart : cfg.P.funcs[i_impl_AreApart]? = some P_impl_AreApart := by kernel_rfl
noncomputable abbrev P_spec_FixedIntervals : Func := Try.f11
theorem get_spec_FixedIntervals : cfg.P.funcs[i_spec_FixedIntervals]? = some P_spec_FixedIntervals := by kernel_rfl
noncomputable abbrev P_impl_FixedIntervals : Func := Try.f12
theorem get_impl_FixedIntervals : cfg.P.funcs[i_impl_FixedIntervals]? = some P_impl_FixedIntervals := by kernel_rfl
noncomputable abbrev P_laws_eqRatioSS : Func := Try.f13
theorem get_laws_eqRatioSS : cfg.P.funcs[i_laws_eqRatioSS]? = some P_laws_eqRatioSS := by kernel_rfl
noncomputable abbrev P_laws_markRatioSS : Func := Try.f14
theorem get_laws_markRatioSS : cfg.P.funcs[i_laws_markRatioSS]? = some P_laws_markRatioSS := by kernel_rfl
noncomputable abbrev P_laws_heldRatioSS : Func := Try.f15
theorem get_laws_heldRatioSS : cfg.P.funcs[i_laws_heldRatioSS]? = some P_laws_heldRatioSS := by kernel_rfl
noncomputable abbrev P_spec_MovedIntervals : Func := Try.f16
theorem get_spec_MovedIntervals : cfg.P.funcs[i_spec_MovedIntervals]? = some P_spec_MovedIntervals := by kernel_rfl
noncomputable abbrev P_impl_MovedIntervals : Func := Try.f17
theorem get_impl_MovedIntervals : cfg.P.funcs[i_impl_MovedIntervals]? = some P_impl_MovedIntervals := by kernel_rfl
noncomputable abbrev P_spec_DirectionsOf : Func := Try.f18
theorem get_spec_DirectionsOf : cfg.P.funcs[i_spec_DirectionsOf]? = some P_spec_DirectionsOf := by kernel_rfl
noncomputable abbrev P_impl_DirectionsOf : Func := Try.f19
theorem get_impl_DirectionsOf : cfg.P.funcs[i_impl_DirectionsOf]? = some P_impl_DirectionsOf := by kernel_rfl
noncomputable abbrev P_laws_eqIntS : Func := Try.f20
theorem get_laws_eqIntS : cfg.P.funcs[i_laws_eqIntS]? = some P_laws_eqIntS := by kernel_rfl
noncomputable abbrev P_laws_markIntS : Func := Try.f21
theorem get_laws_markIntS : cfg.P.funcs[i_laws_markIntS]? = some P_laws_markIntS := by kernel_rfl
noncomputable abbrev P_laws_heldIntS : Func := Try.f22
theorem get_laws_heldIntS : cfg.P.funcs[i_laws_heldIntS]? = some P_laws_heldIntS := by kernel_rfl
noncomputable abbrev P_spec_prGood : Func := Try.f23
theorem get_spec_prGood : cfg.P.funcs[i_spec_prGood]? = some P_spec_prGood := by kernel_rfl
noncomputable abbrev P_spec_obMoved : Func := Try.f24
theorem get_spec_obMoved : cfg.P.funcs[i_spec_obMoved]? = some P_spec_obMoved := by kernel_rfl
noncomputable abbrev P_spec_obLess : Func := Try.f25
theorem get_spec_obLess : cfg.P.funcs[i_spec_obLess]? = some P_spec_obLess := by kernel_rfl
noncomputable abbrev P_impl_two : Func := Try.f26
theorem get_impl_two : cfg.P.funcs[i_impl_two]? = some P_impl_two := by kernel_rfl
noncomputable abbrev P_slices_ContainsFunc : Func := Try.f27
theorem get_slices_ContainsFunc : cfg.P.funcs[i_slices_ContainsFunc]? = some P_slices_ContainsFunc := by kernel_rfl
noncomputable abbrev P_impl_pair_moved : Func := Try.f28
theorem get_impl_pair_moved : cfg.P.funcs[i_impl_pair_moved]? = some P_impl_pair_moved := by kernel_rfl
noncomputable abbrev P_impl_AreApart_k1 : Func := Try.f29
theorem get_impl_AreApart_k1 : cfg.P.funcs[i_impl_AreApart_k1]? = some P_impl_AreApart_k1 := by kernel_rfl
noncomputable abbrev P_impl_AreApart_k1_k1 : Func := Try.f30
theorem get_impl_AreApart_k1_k1 : cfg.P.funcs[i_impl_AreApart_k1_k1]? = some P_impl_AreApart_k1_k1 := by kernel_rfl
noncomputable abbrev P_impl_Ratio_less : Func := Try.f31
theorem get_impl_Ratio_less : cfg.P.funcs[i_impl_Ratio_less]? = some P_impl_Ratio_less := by kernel_rfl
noncomputable abbrev P_spec_obFixed : Func := Try.f32
theorem get_spec_obFixed : cfg.P.funcs[i_spec_obFixed]? = some P_spec_obFixed := by kernel_rfl
noncomputable abbrev P_impl_pairOf : Func := Try.f33
theorem get_impl_pairOf : cfg.P.funcs[i_impl_pairOf]? = some P_impl_pairOf := by kernel_rfl
noncomputable abbrev P_impl_pair_fixed : Func := Try.f34
theorem get_impl_pair_fixed : cfg.P.funcs[i_impl_pair_fixed]? = some P_impl_pair_fixed := by kernel_rfl
noncomputable abbrev P_laws_eqRatioS : Func := Try.f35
theorem get_laws_eqRatioS : cfg.P.funcs[i_laws_eqRatioS]? = some P_laws_eqRatioS := by kernel_rfl
noncomputable abbrev P_laws_markRatioS : Func := Try.f36
theorem get_laws_markRatioS : cfg.P.funcs[i_laws_markRatioS]? = some P_laws_markRatioS := by kernel_rfl
noncomputable abbrev P_laws_heldRatioS : Func := Try.f37
theorem get_laws_heldRatioS : cfg.P.funcs[i_laws_heldRatioS]? = some P_laws_heldRatioS := by kernel_rfl
noncomputable abbrev P_spec_trAddresses : Func := Try.f38
theorem get_spec_trAddresses : cfg.P.funcs[i_spec_trAddresses]? = some P_spec_trAddresses := by kernel_rfl
noncomputable abbrev P_spec_mpOf : Func := Try.f39
theorem get_spec_mpOf : cfg.P.funcs[i_spec_mpOf]? = some P_spec_mpOf := by kernel_rfl
noncomputable abbrev P_spec_obRatio : Func := Try.f40
theorem get_spec_obRatio : cfg.P.funcs[i_spec_obRatio]? = some P_spec_obRatio := by kernel_rfl
noncomputable abbrev P_impl_ratio : Func := Try.f41
theorem get_impl_ratio : cfg.P.funcs[i_impl_ratio]? = some P_impl_ratio := by kernel_rfl
noncomputable abbrev P_impl_pair_goesUp : Func := Try.f42
theorem get_impl_pair_goesUp : cfg.P.funcs[i_impl_pair_goesUp]? = some P_impl_pair_goesUp := by kernel_rfl
noncomputable abbrev P_spec_trIs : Func := Try.f43
theorem get_spec_trIs : cfg.P.funcs[i_spec_trIs]? = some P_spec_trIs := by kernel_rfl
noncomputable abbrev P_spec_trCarets : Func := Try.f44
theorem get_spec_trCarets : cfg.P.funcs[i_spec_trCarets]? = some P_spec_trCarets := by kernel_rfl
noncomputable abbrev P_slices_IndexFunc : Func := Try.f45
theorem get_slices_IndexFunc : cfg.P.funcs[i_slices_IndexFunc]? = some P_slices_IndexFunc := by kernel_rfl
noncomputable abbrev P_impl_parse : Func := Try.f46
theorem get_impl_parse : cfg.P.funcs[i_impl_parse]? = some P_impl_parse := by kernel_rfl
noncomputable abbrev P_impl_node_carets : Func := Try.f47
theorem get_impl_node_carets : cfg.P.funcs[i_impl_node_carets]? = some P_impl_node_carets := by kernel_rfl
noncomputable abbrev P_impl_pair_pieces : Func := Try.f48
theorem get_impl_pair_pieces : cfg.P.funcs[i_impl_pair_pieces]? = some P_impl_pair_pieces := by kernel_rfl
noncomputable abbrev P_impl_piece_fixedIn : Func := Try.f49
theorem get_impl_piece_fixedIn : cfg.P.funcs[i_impl_piece_fixedIn]? = some P_impl_piece_fixedIn := by kernel_rfl
noncomputable abbrev P_laws_eqRatio : Func := Try.f50
theorem get_laws_eqRatio : cfg.P.funcs[i_laws_eqRatio]? = some P_laws_eqRatio := by kernel_rfl
noncomputable abbrev P_spec_trLeaf : Func := Try.f51
theorem get_spec_trLeaf : cfg.P.funcs[i_spec_trLeaf]? = some P_spec_trLeaf := by kernel_rfl
noncomputable abbrev P_spec_trSides : Func := Try.f52
theorem get_spec_trSides : cfg.P.funcs[i_spec_trSides]? = some P_spec_trSides := by kernel_rfl
noncomputable abbrev P_spec_mpShort : Func := Try.f53
theorem get_spec_mpShort : cfg.P.funcs[i_spec_mpShort]? = some P_spec_mpShort := by kernel_rfl
noncomputable abbrev P_spec_mpGcd : Func := Try.f54
theorem get_spec_mpGcd : cfg.P.funcs[i_spec_mpGcd]? = some P_spec_mpGcd := by kernel_rfl
noncomputable abbrev P_spec_l1Abs : Func := Try.f55
theorem get_spec_l1Abs : cfg.P.funcs[i_spec_l1Abs]? = some P_spec_l1Abs := by kernel_rfl
noncomputable abbrev P_impl_size : Func := Try.f56
theorem get_impl_size : cfg.P.funcs[i_impl_size]? = some P_impl_size := by kernel_rfl
noncomputable abbrev P_impl_short : Func := Try.f57
theorem get_impl_short : cfg.P.funcs[i_impl_short]? = some P_impl_short := by kernel_rfl
noncomputable abbrev P_impl_piece_end : Func := Try.f58
theorem get_impl_piece_end : cfg.P.funcs[i_impl_piece_end]? = some P_impl_piece_end := by kernel_rfl
noncomputable abbrev P_impl_piece_slope : Func := Try.f59
theorem get_impl_piece_slope : cfg.P.funcs[i_impl_piece_slope]? = some P_impl_piece_slope := by kernel_rfl
noncomputable abbrev P_spec_trEnd : Func := Try.f60
theorem get_spec_trEnd : cfg.P.funcs[i_spec_trEnd]? = some P_spec_trEnd := by kernel_rfl
noncomputable abbrev P_impl_read : Func := Try.f61
theorem get_impl_read : cfg.P.funcs[i_impl_read]? = some P_impl_read := by kernel_rfl
noncomputable abbrev P_impl_node_addresses : Func := Try.f62
theorem get_impl_node_addresses : cfg.P.funcs[i_impl_node_addresses]? = some P_impl_node_addresses := by kernel_rfl
noncomputable abbrev P_impl_placeOf : Func := Try.f63
theorem get_impl_placeOf : cfg.P.funcs[i_impl_placeOf]? = some P_impl_placeOf := by kernel_rfl
noncomputable abbrev P_spec_l1Most : Func := Try.f64
theorem get_spec_l1Most : cfg.P.funcs[i_spec_l1Most]? = some P_spec_l1Most := by kernel_rfl
end Go.AI
