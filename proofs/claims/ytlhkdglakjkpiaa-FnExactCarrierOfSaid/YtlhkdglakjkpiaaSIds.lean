/- A part of the road: what it proves stands in its last texts. -/
import Derived.Test.YtlhkdglakjkpiaaSCfg
import Derived.Test.YtlhkdglakjkpiaaProg
set_option autoImplicit false
set_option maxRecDepth 100000
set_option linter.unusedVariables false
namespace Go.AI
open Go.Proofs

abbrev t_int : TypeId := 3
abbrev t_string : TypeId := 9
abbrev t_impl_Fraction : TypeId := 45
abbrev t_Simpl_Ratio : TypeId := 54
abbrev t_impl_Ratio : TypeId := 56
abbrev t_Sstring : TypeId := 70
abbrev t_impl_piece : TypeId := 98
abbrev i_main_main : FuncId := 0
abbrev i_gosem_cut : FuncId := 1
abbrev i_gosem_cut_init : FuncId := 2
abbrev i_laws_FnExactAreApart : FuncId := 3
abbrev i_laws_FnExactFixedIntervals : FuncId := 4
abbrev i_laws_FnExactMovedIntervals : FuncId := 5
abbrev i_laws_FnExactDirectionsOf : FuncId := 6
abbrev i_laws_FnExactCarrierOf : FuncId := 7
abbrev i_laws_FnExactRankTree : FuncId := 8
abbrev i_laws_szPair : FuncId := 9
abbrev i_spec_AreApart : FuncId := 10
abbrev i_laws_toPair : FuncId := 11
abbrev i_impl_AreApart : FuncId := 12
abbrev i_spec_FixedIntervals : FuncId := 13
abbrev i_impl_FixedIntervals : FuncId := 14
abbrev i_laws_eqRatioSS : FuncId := 15
abbrev i_laws_markRatioSS : FuncId := 16
abbrev i_laws_heldRatioSS : FuncId := 17
abbrev i_spec_MovedIntervals : FuncId := 18
abbrev i_impl_MovedIntervals : FuncId := 19
abbrev i_spec_DirectionsOf : FuncId := 20
abbrev i_impl_DirectionsOf : FuncId := 21
abbrev i_laws_eqIntS : FuncId := 22
abbrev i_laws_markIntS : FuncId := 23
abbrev i_laws_heldIntS : FuncId := 24
abbrev i_spec_CarrierOf : FuncId := 25
abbrev i_laws_toFraction : FuncId := 26
abbrev i_impl_CarrierOf : FuncId := 27
abbrev i_laws_eqPair : FuncId := 28
abbrev i_spec_RankTree : FuncId := 29
abbrev i_impl_RankTree : FuncId := 30
abbrev i_spec_prGood : FuncId := 31
abbrev i_spec_obMoved : FuncId := 32
abbrev i_spec_obLess : FuncId := 33
abbrev i_impl_two : FuncId := 34
abbrev i_slices_ContainsFunc : FuncId := 35
abbrev i_impl_pair_moved : FuncId := 36
abbrev i_impl_AreApart_k1 : FuncId := 37
abbrev i_impl_AreApart_k1_k1 : FuncId := 38
abbrev i_impl_Ratio_less : FuncId := 39
abbrev i_spec_obFixed : FuncId := 40
abbrev i_impl_pairOf : FuncId := 41
abbrev i_impl_pair_fixed : FuncId := 42
abbrev i_laws_eqRatioS : FuncId := 43
abbrev i_laws_markRatioS : FuncId := 44
abbrev i_laws_heldRatioS : FuncId := 45
abbrev i_spec_trAddresses : FuncId := 46
abbrev i_spec_mpOf : FuncId := 47
abbrev i_spec_obRatio : FuncId := 48
abbrev i_impl_ratio : FuncId := 49
abbrev i_impl_pair_goesUp : FuncId := 50
abbrev i_spec_mpGood : FuncId := 51
abbrev i_spec_obStart : FuncId := 52
abbrev i_spec_trCarets : FuncId := 53
abbrev i_spec_trGraft : FuncId := 54
abbrev i_spec_trRight : FuncId := 55
abbrev i_spec_l1Most : FuncId := 56
abbrev i_spec_prIf : FuncId := 57
abbrev i_spec_prReduce : FuncId := 58
abbrev i_impl_isBetween : FuncId := 59
abbrev i_impl_starting : FuncId := 60
abbrev i_impl_Fraction_place : FuncId := 61
abbrev i_impl_sides : FuncId := 62
abbrev i_impl_padded : FuncId := 63
abbrev i_impl_pair_reduced : FuncId := 64
abbrev i_impl_pair_fits : FuncId := 65
abbrev i_spec_trIs : FuncId := 66
abbrev i_spec_trList : FuncId := 67
abbrev i_impl_parse : FuncId := 68
abbrev i_slices_Index_string : FuncId := 69
abbrev i_impl_trees : FuncId := 70
abbrev i_impl_node_carets : FuncId := 71
abbrev i_slices_IndexFunc : FuncId := 72
abbrev i_impl_pair_pieces : FuncId := 73
abbrev i_impl_piece_fixedIn : FuncId := 74
abbrev i_laws_eqRatio : FuncId := 75
abbrev i_spec_trLeaf : FuncId := 76
abbrev i_spec_trSides : FuncId := 77
abbrev i_spec_mpShort : FuncId := 78
abbrev i_spec_mpGcd : FuncId := 79
abbrev i_spec_l1Abs : FuncId := 80
abbrev i_impl_size : FuncId := 81
abbrev i_impl_short : FuncId := 82
abbrev i_impl_piece_end : FuncId := 83
abbrev i_impl_piece_slope : FuncId := 84
abbrev i_spec_l1In : FuncId := 85
abbrev i_spec_mpStarts : FuncId := 86
abbrev i_spec_mpLeaf : FuncId := 87
abbrev i_spec_trOf : FuncId := 88
abbrev i_spec_prBoth : FuncId := 89
abbrev i_spec_trDrop : FuncId := 90
abbrev i_impl_IsFraction : FuncId := 91
abbrev i_impl_placeOf : FuncId := 92
abbrev i_impl_node_addresses : FuncId := 93
abbrev i_impl_node_leaves : FuncId := 94
abbrev i_impl_node_grown : FuncId := 95
abbrev i_impl_padded_k1 : FuncId := 96
abbrev i_impl_rightComb : FuncId := 97
abbrev i_impl_pair_both : FuncId := 98
abbrev i_impl_pair_drop : FuncId := 99
abbrev i_impl_pair_plain : FuncId := 100
abbrev i_spec_trEnd : FuncId := 101
abbrev i_impl_read : FuncId := 102
abbrev i_slices_Sort : FuncId := 103
abbrev i_spec_mpLess : FuncId := 104
abbrev i_spec_trExposed : FuncId := 105
abbrev i_spec_l1Has : FuncId := 106
abbrev i_math_bits_OnesCount : FuncId := 107
abbrev i_impl_node_exposed : FuncId := 108
abbrev i_slices_Contains : FuncId := 109
abbrev i_impl_node_without : FuncId := 110
abbrev i_impl_node_text : FuncId := 111
abbrev i_slices_pdqsortOrdered : FuncId := 112
abbrev i_math_bits_Len : FuncId := 113
abbrev i_math_bits_OnesCount32 : FuncId := 114
abbrev i_math_bits_OnesCount64 : FuncId := 115
abbrev i_slices_Index : FuncId := 116
abbrev i_slices_insertionSortOrdered : FuncId := 117
abbrev i_slices_heapSortOrdered : FuncId := 118
abbrev i_slices_breakPatternsOrdered : FuncId := 119
abbrev i_slices_choosePivotOrdered : FuncId := 120
abbrev i_slices_reverseRangeOrdered : FuncId := 121
abbrev i_slices_partialInsertionSortOrdered : FuncId := 122
abbrev i_cmp_Less : FuncId := 123
abbrev i_slices_partitionEqualOrdered : FuncId := 124
abbrev i_slices_partitionOrdered : FuncId := 125
abbrev i_math_bits_Len32 : FuncId := 126
abbrev i_math_bits_Len64 : FuncId := 127
abbrev i_slices_siftDownOrdered : FuncId := 128
abbrev i_slices_nextPowerOfTwo : FuncId := 129
abbrev i_slices_xorshift_Next : FuncId := 130
abbrev i_slices_medianAdjacentOrdered : FuncId := 131
abbrev i_slices_medianOrdered : FuncId := 132
abbrev i_cmp_isNaN : FuncId := 133
abbrev i_slices_order2Ordered : FuncId := 134
abbrev i_runtime_boundsError_Error : FuncId := 135
abbrev i_runtime_boundsError_RuntimeError : FuncId := 136
abbrev i_runtime_errorString_Error : FuncId := 137
abbrev i_runtime_errorString_RuntimeError : FuncId := 138
abbrev i_runtime_plainError_Error : FuncId := 139
abbrev i_runtime_plainError_RuntimeError : FuncId := 140
abbrev i_runtime_errorAddressString_Error : FuncId := 141
abbrev i_runtime_errorAddressString_RuntimeError : FuncId := 142
abbrev i_runtime_TypeAssertionError_Error : FuncId := 143
abbrev i_runtime_TypeAssertionError_RuntimeError : FuncId := 144
abbrev i_runtime_PanicNilError_Error : FuncId := 145
abbrev i_runtime_PanicNilError_RuntimeError : FuncId := 146
abbrev i_internal_abi_Type_Align : FuncId := 147
abbrev i_internal_runtime_maps_unhashableTypeError_Error : FuncId := 148
abbrev i_internal_runtime_maps_unhashableTypeError_RuntimeError : FuncId := 149
abbrev i_impl_pair_length : FuncId := 150
abbrev i_internal_abi_Kind_String : FuncId := 151
noncomputable abbrev P_gosem_cut_init : Func := Try.f2
theorem get_gosem_cut_init : cfg.P.funcs[i_gosem_cut_init]? = some P_gosem_cut_init := by kernel_rfl
noncomputable abbrev P_laws_FnExactAreApart : Func := Try.f3
theorem get_laws_FnExactAreApart : cfg.P.funcs[i_laws_FnExactAreApart]? = some P_laws_FnExactAreApart := by kernel_rfl
noncomputable abbrev P_laws_FnExactFixedIntervals : Func := Try.f4
theorem get_laws_FnExactFixedIntervals : cfg.P.funcs[i_laws_FnExactFixedIntervals]? = some P_laws_FnExactFixedIntervals := by kernel_rfl
noncomputable abbrev P_laws_FnExactMovedIntervals : Func := Try.f5
theorem get_laws_FnExactMovedIntervals : cfg.P.funcs[i_laws_FnExactMovedIntervals]? = some P_laws_FnExactMovedIntervals := by kernel_rfl
noncomputable abbrev P_laws_FnExactDirectionsOf : Func := Try.f6
theorem get_laws_FnExactDirectionsOf : cfg.P.funcs[i_laws_FnExactDirectionsOf]? = some P_laws_FnExactDirectionsOf := by kernel_rfl
noncomputable abbrev P_laws_FnExactCarrierOf : Func := Try.f7
theorem get_laws_FnExactCarrierOf : cfg.P.funcs[i_laws_FnExactCarrierOf]? = some P_laws_FnExactCarrierOf := by kernel_rfl
noncomputable abbrev P_laws_FnExactRankTree : Func := Try.f8
theorem get_laws_FnExactRankTree : cfg.P.funcs[i_laws_FnExactRankTree]? = some P_laws_FnExactRankTree := by kernel_rfl
noncomputable abbrev P_laws_szPair : Func := Try.f9
theorem get_laws_szPair : cfg.P.funcs[i_laws_szPair]? = some P_laws_szPair := by kernel_rfl
noncomputable abbrev P_spec_AreApart : Func := Try.f10
theorem get_spec_AreApart : cfg.P.funcs[i_spec_AreApart]? = some P_spec_AreApart := by kernel_rfl
noncomputable abbrev P_laws_toPair : Func := Try.f11
theorem get_laws_toPair : cfg.P.funcs[i_laws_toPair]? = some P_laws_toPair := by kernel_rfl
noncomputable abbrev P_impl_AreApart : Func := Try.f12
theorem get_impl_AreApart : cfg.P.funcs[i_impl_AreApart]? = some P_impl_AreApart := by kernel_rfl
noncomputable abbrev P_spec_FixedIntervals : Func := Try.f13
theorem get_spec_FixedIntervals : cfg.P.funcs[i_spec_FixedIntervals]? = some P_spec_FixedIntervals := by kernel_rfl
noncomputable abbrev P_impl_FixedIntervals : Func := Try.f14
theorem get_impl_FixedIntervals : cfg.P.funcs[i_impl_FixedIntervals]? = some P_impl_FixedIntervals := by kernel_rfl
noncomputable abbrev P_laws_eqRatioSS : Func := Try.f15
theorem get_laws_eqRatioSS : cfg.P.funcs[i_laws_eqRatioSS]? = some P_laws_eqRatioSS := by kernel_rfl
noncomputable abbrev P_laws_markRatioSS : Func := Try.f16
theorem get_laws_markRatioSS : cfg.P.funcs[i_laws_markRatioSS]? = some P_laws_markRatioSS := by kernel_rfl
noncomputable abbrev P_laws_heldRatioSS : Func := Try.f17
theorem get_laws_heldRatioSS : cfg.P.funcs[i_laws_heldRatioSS]? = some P_laws_heldRatioSS := by kernel_rfl
noncomputable abbrev P_spec_MovedIntervals : Func := Try.f18
theorem get_spec_MovedIntervals : cfg.P.funcs[i_spec_MovedIntervals]? = some P_spec_MovedIntervals := by kernel_rfl
noncomputable abbrev P_impl_MovedIntervals : Func := Try.f19
theorem get_impl_MovedIntervals : cfg.P.funcs[i_impl_MovedIntervals]? = some P_impl_MovedIntervals := by kernel_rfl
noncomputable abbrev P_spec_DirectionsOf : Func := Try.f20
theorem get_spec_DirectionsOf : cfg.P.funcs[i_spec_DirectionsOf]? = some P_spec_DirectionsOf := by kernel_rfl
noncomputable abbrev P_impl_DirectionsOf : Func := Try.f21
theorem get_impl_DirectionsOf : cfg.P.funcs[i_impl_DirectionsOf]? = some P_impl_DirectionsOf := by kernel_rfl
noncomputable abbrev P_laws_eqIntS : Func := Try.f22
theorem get_laws_eqIntS : cfg.P.funcs[i_laws_eqIntS]? = some P_laws_eqIntS := by kernel_rfl
noncomputable abbrev P_laws_markIntS : Func := Try.f23
theorem get_laws_markIntS : cfg.P.funcs[i_laws_markIntS]? = some P_laws_markIntS := by kernel_rfl
noncomputable abbrev P_laws_heldIntS : Func := Try.f24
theorem get_laws_heldIntS : cfg.P.funcs[i_laws_heldIntS]? = some P_laws_heldIntS := by kernel_rfl
noncomputable abbrev P_spec_CarrierOf : Func := Try.f25
theorem get_spec_CarrierOf : cfg.P.funcs[i_spec_CarrierOf]? = some P_spec_CarrierOf := by kernel_rfl
noncomputable abbrev P_laws_toFraction : Func := Try.f26
theorem get_laws_toFraction : cfg.P.funcs[i_laws_toFraction]? = some P_laws_toFraction := by kernel_rfl
noncomputable abbrev P_impl_CarrierOf : Func := Try.f27
theorem get_impl_CarrierOf : cfg.P.funcs[i_impl_CarrierOf]? = some P_impl_CarrierOf := by kernel_rfl
noncomputable abbrev P_laws_eqPair : Func := Try.f28
theorem get_laws_eqPair : cfg.P.funcs[i_laws_eqPair]? = some P_laws_eqPair := by kernel_rfl
noncomputable abbrev P_spec_RankTree : Func := Try.f29
theorem get_spec_RankTree : cfg.P.funcs[i_spec_RankTree]? = some P_spec_RankTree := by kernel_rfl
noncomputable abbrev P_impl_RankTree : Func := Try.f30
theorem get_impl_RankTree : cfg.P.funcs[i_impl_RankTree]? = some P_impl_RankTree := by kernel_rfl
noncomputable abbrev P_spec_prGood : Func := Try.f31
theorem get_spec_prGood : cfg.P.funcs[i_spec_prGood]? = some P_spec_prGood := by kernel_rfl
noncomputable abbrev P_spec_obMoved : Func := Try.f32
theorem get_spec_obMoved : cfg.P.funcs[i_spec_obMoved]? = some P_spec_obMoved := by kernel_rfl
noncomputable abbrev P_spec_obLess : Func := Try.f33
theorem get_spec_obLess : cfg.P.funcs[i_spec_obLess]? = some P_spec_obLess := by kernel_rfl
noncomputable abbrev P_impl_two : Func := Try.f34
theorem get_impl_two : cfg.P.funcs[i_impl_two]? = some P_impl_two := by kernel_rfl
noncomputable abbrev P_slices_ContainsFunc : Func := Try.f35
theorem get_slices_ContainsFunc : cfg.P.funcs[i_slices_ContainsFunc]? = some P_slices_ContainsFunc := by kernel_rfl
noncomputable abbrev P_impl_pair_moved : Func := Try.f36
theorem get_impl_pair_moved : cfg.P.funcs[i_impl_pair_moved]? = some P_impl_pair_moved := by kernel_rfl
noncomputable abbrev P_impl_AreApart_k1 : Func := Try.f37
theorem get_impl_AreApart_k1 : cfg.P.funcs[i_impl_AreApart_k1]? = some P_impl_AreApart_k1 := by kernel_rfl
noncomputable abbrev P_impl_AreApart_k1_k1 : Func := Try.f38
theorem get_impl_AreApart_k1_k1 : cfg.P.funcs[i_impl_AreApart_k1_k1]? = some P_impl_AreApart_k1_k1 := by kernel_rfl
noncomputable abbrev P_impl_Ratio_less : Func := Try.f39
theorem get_impl_Ratio_less : cfg.P.funcs[i_impl_Ratio_less]? = some P_impl_Ratio_less := by kernel_rfl
noncomputable abbrev P_spec_obFixed : Func := Try.f40
theorem get_spec_obFixed : cfg.P.funcs[i_spec_obFixed]? = some P_spec_obFixed := by kernel_rfl
noncomputable abbrev P_impl_pairOf : Func := Try.f41
theorem get_impl_pairOf : cfg.P.funcs[i_impl_pairOf]? = some P_impl_pairOf := by kernel_rfl
noncomputable abbrev P_impl_pair_fixed : Func := Try.f42
theorem get_impl_pair_fixed : cfg.P.funcs[i_impl_pair_fixed]? = some P_impl_pair_fixed := by kernel_rfl
noncomputable abbrev P_laws_eqRatioS : Func := Try.f43
theorem get_laws_eqRatioS : cfg.P.funcs[i_laws_eqRatioS]? = some P_laws_eqRatioS := by kernel_rfl
noncomputable abbrev P_laws_markRatioS : Func := Try.f44
theorem get_laws_markRatioS : cfg.P.funcs[i_laws_markRatioS]? = some P_laws_markRatioS := by kernel_rfl
noncomputable abbrev P_laws_heldRatioS : Func := Try.f45
theorem get_laws_heldRatioS : cfg.P.funcs[i_laws_heldRatioS]? = some P_laws_heldRatioS := by kernel_rfl
noncomputable abbrev P_spec_trAddresses : Func := Try.f46
theorem get_spec_trAddresses : cfg.P.funcs[i_spec_trAddresses]? = some P_spec_trAddresses := by kernel_rfl
noncomputable abbrev P_spec_mpOf : Func := Try.f47
theorem get_spec_mpOf : cfg.P.funcs[i_spec_mpOf]? = some P_spec_mpOf := by kernel_rfl
noncomputable abbrev P_spec_obRatio : Func := Try.f48
theorem get_spec_obRatio : cfg.P.funcs[i_spec_obRatio]? = some P_spec_obRatio := by kernel_rfl
noncomputable abbrev P_impl_ratio : Func := Try.f49
theorem get_impl_ratio : cfg.P.funcs[i_impl_ratio]? = some P_impl_ratio := by kernel_rfl
noncomputable abbrev P_impl_pair_goesUp : Func := Try.f50
theorem get_impl_pair_goesUp : cfg.P.funcs[i_impl_pair_goesUp]? = some P_impl_pair_goesUp := by kernel_rfl
noncomputable abbrev P_spec_mpGood : Func := Try.f51
theorem get_spec_mpGood : cfg.P.funcs[i_spec_mpGood]? = some P_spec_mpGood := by kernel_rfl
noncomputable abbrev P_spec_obStart : Func := Try.f52
theorem get_spec_obStart : cfg.P.funcs[i_spec_obStart]? = some P_spec_obStart := by kernel_rfl
noncomputable abbrev P_spec_trCarets : Func := Try.f53
theorem get_spec_trCarets : cfg.P.funcs[i_spec_trCarets]? = some P_spec_trCarets := by kernel_rfl
noncomputable abbrev P_spec_trGraft : Func := Try.f54
theorem get_spec_trGraft : cfg.P.funcs[i_spec_trGraft]? = some P_spec_trGraft := by kernel_rfl
noncomputable abbrev P_spec_trRight : Func := Try.f55
theorem get_spec_trRight : cfg.P.funcs[i_spec_trRight]? = some P_spec_trRight := by kernel_rfl
noncomputable abbrev P_spec_l1Most : Func := Try.f56
theorem get_spec_l1Most : cfg.P.funcs[i_spec_l1Most]? = some P_spec_l1Most := by kernel_rfl
noncomputable abbrev P_spec_prIf : Func := Try.f57
theorem get_spec_prIf : cfg.P.funcs[i_spec_prIf]? = some P_spec_prIf := by kernel_rfl
noncomputable abbrev P_spec_prReduce : Func := Try.f58
theorem get_spec_prReduce : cfg.P.funcs[i_spec_prReduce]? = some P_spec_prReduce := by kernel_rfl
noncomputable abbrev P_impl_isBetween : Func := Try.f59
theorem get_impl_isBetween : cfg.P.funcs[i_impl_isBetween]? = some P_impl_isBetween := by kernel_rfl
noncomputable abbrev P_impl_starting : Func := Try.f60
theorem get_impl_starting : cfg.P.funcs[i_impl_starting]? = some P_impl_starting := by kernel_rfl
noncomputable abbrev P_impl_Fraction_place : Func := Try.f61
theorem get_impl_Fraction_place : cfg.P.funcs[i_impl_Fraction_place]? = some P_impl_Fraction_place := by kernel_rfl
noncomputable abbrev P_impl_sides : Func := Try.f62
theorem get_impl_sides : cfg.P.funcs[i_impl_sides]? = some P_impl_sides := by kernel_rfl
noncomputable abbrev P_impl_padded : Func := Try.f63
theorem get_impl_padded : cfg.P.funcs[i_impl_padded]? = some P_impl_padded := by kernel_rfl
noncomputable abbrev P_impl_pair_reduced : Func := Try.f64
theorem get_impl_pair_reduced : cfg.P.funcs[i_impl_pair_reduced]? = some P_impl_pair_reduced := by kernel_rfl
noncomputable abbrev P_impl_pair_fits : Func := Try.f65
theorem get_impl_pair_fits : cfg.P.funcs[i_impl_pair_fits]? = some P_impl_pair_fits := by kernel_rfl
noncomputable abbrev P_spec_trIs : Func := Try.f66
theorem get_spec_trIs : cfg.P.funcs[i_spec_trIs]? = some P_spec_trIs := by kernel_rfl
noncomputable abbrev P_spec_trList : Func := Try.f67
theorem get_spec_trList : cfg.P.funcs[i_spec_trList]? = some P_spec_trList := by kernel_rfl
noncomputable abbrev P_impl_parse : Func := Try.f68
theorem get_impl_parse : cfg.P.funcs[i_impl_parse]? = some P_impl_parse := by kernel_rfl
noncomputable abbrev P_slices_Index_string : Func := Try.f69
theorem get_slices_Index_string : cfg.P.funcs[i_slices_Index_string]? = some P_slices_Index_string := by kernel_rfl
noncomputable abbrev P_impl_trees : Func := Try.f70
theorem get_impl_trees : cfg.P.funcs[i_impl_trees]? = some P_impl_trees := by kernel_rfl
noncomputable abbrev P_impl_node_carets : Func := Try.f71
theorem get_impl_node_carets : cfg.P.funcs[i_impl_node_carets]? = some P_impl_node_carets := by kernel_rfl
noncomputable abbrev P_slices_IndexFunc : Func := Try.f72
theorem get_slices_IndexFunc : cfg.P.funcs[i_slices_IndexFunc]? = some P_slices_IndexFunc := by kernel_rfl
noncomputable abbrev P_impl_pair_pieces : Func := Try.f73
theorem get_impl_pair_pieces : cfg.P.funcs[i_impl_pair_pieces]? = some P_impl_pair_pieces := by kernel_rfl
noncomputable abbrev P_impl_piece_fixedIn : Func := Try.f74
theorem get_impl_piece_fixedIn : cfg.P.funcs[i_impl_piece_fixedIn]? = some P_impl_piece_fixedIn := by kernel_rfl
noncomputable abbrev P_laws_eqRatio : Func := Try.f75
theorem get_laws_eqRatio : cfg.P.funcs[i_laws_eqRatio]? = some P_laws_eqRatio := by kernel_rfl
noncomputable abbrev P_spec_trLeaf : Func := Try.f76
theorem get_spec_trLeaf : cfg.P.funcs[i_spec_trLeaf]? = some P_spec_trLeaf := by kernel_rfl
noncomputable abbrev P_spec_trSides : Func := Try.f77
theorem get_spec_trSides : cfg.P.funcs[i_spec_trSides]? = some P_spec_trSides := by kernel_rfl
noncomputable abbrev P_spec_mpShort : Func := Try.f78
theorem get_spec_mpShort : cfg.P.funcs[i_spec_mpShort]? = some P_spec_mpShort := by kernel_rfl
noncomputable abbrev P_spec_mpGcd : Func := Try.f79
theorem get_spec_mpGcd : cfg.P.funcs[i_spec_mpGcd]? = some P_spec_mpGcd := by kernel_rfl
noncomputable abbrev P_spec_l1Abs : Func := Try.f80
theorem get_spec_l1Abs : cfg.P.funcs[i_spec_l1Abs]? = some P_spec_l1Abs := by kernel_rfl
noncomputable abbrev P_impl_size : Func := Try.f81
theorem get_impl_size : cfg.P.funcs[i_impl_size]? = some P_impl_size := by kernel_rfl
noncomputable abbrev P_impl_short : Func := Try.f82
theorem get_impl_short : cfg.P.funcs[i_impl_short]? = some P_impl_short := by kernel_rfl
noncomputable abbrev P_impl_piece_end : Func := Try.f83
theorem get_impl_piece_end : cfg.P.funcs[i_impl_piece_end]? = some P_impl_piece_end := by kernel_rfl
noncomputable abbrev P_impl_piece_slope : Func := Try.f84
theorem get_impl_piece_slope : cfg.P.funcs[i_impl_piece_slope]? = some P_impl_piece_slope := by kernel_rfl
noncomputable abbrev P_spec_l1In : Func := Try.f85
theorem get_spec_l1In : cfg.P.funcs[i_spec_l1In]? = some P_spec_l1In := by kernel_rfl
noncomputable abbrev P_spec_mpStarts : Func := Try.f86
theorem get_spec_mpStarts : cfg.P.funcs[i_spec_mpStarts]? = some P_spec_mpStarts := by kernel_rfl
noncomputable abbrev P_spec_mpLeaf : Func := Try.f87
theorem get_spec_mpLeaf : cfg.P.funcs[i_spec_mpLeaf]? = some P_spec_mpLeaf := by kernel_rfl
noncomputable abbrev P_spec_trOf : Func := Try.f88
theorem get_spec_trOf : cfg.P.funcs[i_spec_trOf]? = some P_spec_trOf := by kernel_rfl
noncomputable abbrev P_spec_prBoth : Func := Try.f89
theorem get_spec_prBoth : cfg.P.funcs[i_spec_prBoth]? = some P_spec_prBoth := by kernel_rfl
noncomputable abbrev P_spec_trDrop : Func := Try.f90
theorem get_spec_trDrop : cfg.P.funcs[i_spec_trDrop]? = some P_spec_trDrop := by kernel_rfl
noncomputable abbrev P_impl_IsFraction : Func := Try.f91
theorem get_impl_IsFraction : cfg.P.funcs[i_impl_IsFraction]? = some P_impl_IsFraction := by kernel_rfl
noncomputable abbrev P_impl_placeOf : Func := Try.f92
theorem get_impl_placeOf : cfg.P.funcs[i_impl_placeOf]? = some P_impl_placeOf := by kernel_rfl
noncomputable abbrev P_impl_node_addresses : Func := Try.f93
theorem get_impl_node_addresses : cfg.P.funcs[i_impl_node_addresses]? = some P_impl_node_addresses := by kernel_rfl
noncomputable abbrev P_impl_node_leaves : Func := Try.f94
theorem get_impl_node_leaves : cfg.P.funcs[i_impl_node_leaves]? = some P_impl_node_leaves := by kernel_rfl
noncomputable abbrev P_impl_node_grown : Func := Try.f95
theorem get_impl_node_grown : cfg.P.funcs[i_impl_node_grown]? = some P_impl_node_grown := by kernel_rfl
noncomputable abbrev P_impl_padded_k1 : Func := Try.f96
theorem get_impl_padded_k1 : cfg.P.funcs[i_impl_padded_k1]? = some P_impl_padded_k1 := by kernel_rfl
noncomputable abbrev P_impl_rightComb : Func := Try.f97
theorem get_impl_rightComb : cfg.P.funcs[i_impl_rightComb]? = some P_impl_rightComb := by kernel_rfl
noncomputable abbrev P_impl_pair_both : Func := Try.f98
theorem get_impl_pair_both : cfg.P.funcs[i_impl_pair_both]? = some P_impl_pair_both := by kernel_rfl
noncomputable abbrev P_impl_pair_drop : Func := Try.f99
theorem get_impl_pair_drop : cfg.P.funcs[i_impl_pair_drop]? = some P_impl_pair_drop := by kernel_rfl
noncomputable abbrev P_impl_pair_plain : Func := Try.f100
theorem get_impl_pair_plain : cfg.P.funcs[i_impl_pair_plain]? = some P_impl_pair_plain := by kernel_rfl
noncomputable abbrev P_spec_trEnd : Func := Try.f101
theorem get_spec_trEnd : cfg.P.funcs[i_spec_trEnd]? = some P_spec_trEnd := by kernel_rfl
noncomputable abbrev P_impl_read : Func := Try.f102
theorem get_impl_read : cfg.P.funcs[i_impl_read]? = some P_impl_read := by kernel_rfl
noncomputable abbrev P_slices_Sort : Func := Try.f103
theorem get_slices_Sort : cfg.P.funcs[i_slices_Sort]? = some P_slices_Sort := by kernel_rfl
noncomputable abbrev P_spec_mpLess : Func := Try.f104
theorem get_spec_mpLess : cfg.P.funcs[i_spec_mpLess]? = some P_spec_mpLess := by kernel_rfl
noncomputable abbrev P_spec_trExposed : Func := Try.f105
theorem get_spec_trExposed : cfg.P.funcs[i_spec_trExposed]? = some P_spec_trExposed := by kernel_rfl
noncomputable abbrev P_spec_l1Has : Func := Try.f106
theorem get_spec_l1Has : cfg.P.funcs[i_spec_l1Has]? = some P_spec_l1Has := by kernel_rfl
noncomputable abbrev P_math_bits_OnesCount : Func := Try.f107
theorem get_math_bits_OnesCount : cfg.P.funcs[i_math_bits_OnesCount]? = some P_math_bits_OnesCount := by kernel_rfl
noncomputable abbrev P_impl_node_exposed : Func := Try.f108
theorem get_impl_node_exposed : cfg.P.funcs[i_impl_node_exposed]? = some P_impl_node_exposed := by kernel_rfl
noncomputable abbrev P_slices_Contains : Func := Try.f109
theorem get_slices_Contains : cfg.P.funcs[i_slices_Contains]? = some P_slices_Contains := by kernel_rfl
noncomputable abbrev P_impl_node_without : Func := Try.f110
theorem get_impl_node_without : cfg.P.funcs[i_impl_node_without]? = some P_impl_node_without := by kernel_rfl
noncomputable abbrev P_impl_node_text : Func := Try.f111
theorem get_impl_node_text : cfg.P.funcs[i_impl_node_text]? = some P_impl_node_text := by kernel_rfl
noncomputable abbrev P_slices_pdqsortOrdered : Func := Try.f112
theorem get_slices_pdqsortOrdered : cfg.P.funcs[i_slices_pdqsortOrdered]? = some P_slices_pdqsortOrdered := by kernel_rfl
noncomputable abbrev P_math_bits_Len : Func := Try.f113
theorem get_math_bits_Len : cfg.P.funcs[i_math_bits_Len]? = some P_math_bits_Len := by kernel_rfl
noncomputable abbrev P_math_bits_OnesCount64 : Func := Try.f115
theorem get_math_bits_OnesCount64 : cfg.P.funcs[i_math_bits_OnesCount64]? = some P_math_bits_OnesCount64 := by kernel_rfl
noncomputable abbrev P_slices_Index : Func := Try.f116
theorem get_slices_Index : cfg.P.funcs[i_slices_Index]? = some P_slices_Index := by kernel_rfl
noncomputable abbrev P_slices_insertionSortOrdered : Func := Try.f117
theorem get_slices_insertionSortOrdered : cfg.P.funcs[i_slices_insertionSortOrdered]? = some P_slices_insertionSortOrdered := by kernel_rfl
noncomputable abbrev P_slices_heapSortOrdered : Func := Try.f118
theorem get_slices_heapSortOrdered : cfg.P.funcs[i_slices_heapSortOrdered]? = some P_slices_heapSortOrdered := by kernel_rfl
noncomputable abbrev P_slices_breakPatternsOrdered : Func := Try.f119
theorem get_slices_breakPatternsOrdered : cfg.P.funcs[i_slices_breakPatternsOrdered]? = some P_slices_breakPatternsOrdered := by kernel_rfl
noncomputable abbrev P_slices_choosePivotOrdered : Func := Try.f120
theorem get_slices_choosePivotOrdered : cfg.P.funcs[i_slices_choosePivotOrdered]? = some P_slices_choosePivotOrdered := by kernel_rfl
noncomputable abbrev P_slices_reverseRangeOrdered : Func := Try.f121
theorem get_slices_reverseRangeOrdered : cfg.P.funcs[i_slices_reverseRangeOrdered]? = some P_slices_reverseRangeOrdered := by kernel_rfl
noncomputable abbrev P_slices_partialInsertionSortOrdered : Func := Try.f122
theorem get_slices_partialInsertionSortOrdered : cfg.P.funcs[i_slices_partialInsertionSortOrdered]? = some P_slices_partialInsertionSortOrdered := by kernel_rfl
noncomputable abbrev P_cmp_Less : Func := Try.f123
theorem get_cmp_Less : cfg.P.funcs[i_cmp_Less]? = some P_cmp_Less := by kernel_rfl
noncomputable abbrev P_slices_partitionEqualOrdered : Func := Try.f124
theorem get_slices_partitionEqualOrdered : cfg.P.funcs[i_slices_partitionEqualOrdered]? = some P_slices_partitionEqualOrdered := by kernel_rfl
noncomputable abbrev P_slices_partitionOrdered : Func := Try.f125
theorem get_slices_partitionOrdered : cfg.P.funcs[i_slices_partitionOrdered]? = some P_slices_partitionOrdered := by kernel_rfl
noncomputable abbrev P_slices_siftDownOrdered : Func := Try.f128
theorem get_slices_siftDownOrdered : cfg.P.funcs[i_slices_siftDownOrdered]? = some P_slices_siftDownOrdered := by kernel_rfl
noncomputable abbrev P_slices_nextPowerOfTwo : Func := Try.f129
theorem get_slices_nextPowerOfTwo : cfg.P.funcs[i_slices_nextPowerOfTwo]? = some P_slices_nextPowerOfTwo := by kernel_rfl
noncomputable abbrev P_slices_xorshift_Next : Func := Try.f130
theorem get_slices_xorshift_Next : cfg.P.funcs[i_slices_xorshift_Next]? = some P_slices_xorshift_Next := by kernel_rfl
noncomputable abbrev P_slices_medianAdjacentOrdered : Func := Try.f131
theorem get_slices_medianAdjacentOrdered : cfg.P.funcs[i_slices_medianAdjacentOrdered]? = some P_slices_medianAdjacentOrdered := by kernel_rfl
noncomputable abbrev P_slices_medianOrdered : Func := Try.f132
theorem get_slices_medianOrdered : cfg.P.funcs[i_slices_medianOrdered]? = some P_slices_medianOrdered := by kernel_rfl
noncomputable abbrev P_cmp_isNaN : Func := Try.f133
theorem get_cmp_isNaN : cfg.P.funcs[i_cmp_isNaN]? = some P_cmp_isNaN := by kernel_rfl
noncomputable abbrev P_slices_order2Ordered : Func := Try.f134
theorem get_slices_order2Ordered : cfg.P.funcs[i_slices_order2Ordered]? = some P_slices_order2Ordered := by kernel_rfl
end Go.AI
