/- A part of the road: what it proves stands in its last texts. -/
import Derived.Test.YtnoajkfmokcekaaSCfg
import Derived.Test.YtnoajkfmokcekaaProg
set_option autoImplicit false
set_option maxRecDepth 100000
set_option linter.unusedVariables false
namespace Go.AI
open Go.Proofs

abbrev t_int : TypeId := 3
abbrev t_uint8 : TypeId := 5
abbrev t_string : TypeId := 9
abbrev t_impl_Fraction : TypeId := 32
abbrev t_pimpl_node : TypeId := 53
abbrev t_impl_piece : TypeId := 65
abbrev t_impl_mark : TypeId := 88
abbrev i_main_main : FuncId := 0
abbrev i_gosem_cut : FuncId := 1
abbrev i_gosem_cut_init : FuncId := 2
abbrev i_laws_FnExactCaretKinds : FuncId := 3
abbrev i_laws_FnExactLeafOf : FuncId := 4
abbrev i_laws_FnExactParsePair : FuncId := 5
abbrev i_laws_FnExactAreSamePairs : FuncId := 6
abbrev i_laws_FnExactReducePair : FuncId := 7
abbrev i_laws_FnExactForestText : FuncId := 8
abbrev i_spec_CaretKinds : FuncId := 9
abbrev i_impl_CaretKinds : FuncId := 10
abbrev i_laws_eqStringS : FuncId := 11
abbrev i_laws_markStringS : FuncId := 12
abbrev i_laws_heldStringS : FuncId := 13
abbrev i_spec_LeafOf : FuncId := 14
abbrev i_laws_toFraction : FuncId := 15
abbrev i_impl_LeafOf : FuncId := 16
abbrev i_spec_ParsePair : FuncId := 17
abbrev i_impl_ParsePair : FuncId := 18
abbrev i_laws_eqPair : FuncId := 19
abbrev i_laws_szPair : FuncId := 20
abbrev i_spec_AreSamePairs : FuncId := 21
abbrev i_laws_toPair : FuncId := 22
abbrev i_impl_AreSamePairs : FuncId := 23
abbrev i_spec_ReducePair : FuncId := 24
abbrev i_impl_ReducePair : FuncId := 25
abbrev i_laws_szStringS : FuncId := 26
abbrev i_spec_ForestText : FuncId := 27
abbrev i_laws_toStringS : FuncId := 28
abbrev i_impl_ForestText : FuncId := 29
abbrev i_spec_trIs : FuncId := 30
abbrev i_spec_lnKinds : FuncId := 31
abbrev i_impl_parse : FuncId := 32
abbrev i_impl_node_kinds : FuncId := 33
abbrev i_laws_markText : FuncId := 34
abbrev i_spec_mpGood : FuncId := 35
abbrev i_spec_mpLeaf : FuncId := 36
abbrev i_impl_IsFraction : FuncId := 37
abbrev i_impl_pair_pieces : FuncId := 38
abbrev i_impl_Fraction_place : FuncId := 39
abbrev i_impl_piece_end : FuncId := 40
abbrev i_spec_prParse : FuncId := 41
abbrev i_strings_Cut : FuncId := 42
abbrev i_impl_IsPair : FuncId := 43
abbrev i_spec_prGood : FuncId := 44
abbrev i_spec_prReduce : FuncId := 45
abbrev i_impl_two : FuncId := 46
abbrev i_impl_pair_same : FuncId := 47
abbrev i_impl_pairOf : FuncId := 48
abbrev i_impl_pair_reduced : FuncId := 49
abbrev i_impl_pair_plain : FuncId := 50
abbrev i_spec_foGood : FuncId := 51
abbrev i_spec_foText : FuncId := 52
abbrev i_impl_IsForest : FuncId := 53
abbrev i_impl_forestText : FuncId := 54
abbrev i_spec_trCarets : FuncId := 55
abbrev i_spec_trEnd : FuncId := 56
abbrev i_spec_trLeaf : FuncId := 57
abbrev i_spec_trSides : FuncId := 58
abbrev i_spec_lnLeft : FuncId := 59
abbrev i_spec_lnRight : FuncId := 60
abbrev i_impl_read : FuncId := 61
abbrev i_impl_node_carets : FuncId := 62
abbrev i_impl_node_marks : FuncId := 63
abbrev i_slices_ContainsFunc : FuncId := 64
abbrev i_impl_node_kinds_k1 : FuncId := 65
abbrev i_spec_l1In : FuncId := 66
abbrev i_spec_mpStarts : FuncId := 67
abbrev i_spec_mpLess : FuncId := 68
abbrev i_math_bits_OnesCount : FuncId := 69
abbrev i_impl_node_addresses : FuncId := 70
abbrev i_impl_placeOf : FuncId := 71
abbrev i_spec_l1Split : FuncId := 72
abbrev i_spec_prIf : FuncId := 73
abbrev i_internal_stringslite_Cut : FuncId := 74
abbrev i_spec_prBoth : FuncId := 75
abbrev i_spec_trDrop : FuncId := 76
abbrev i_impl_pair_text : FuncId := 77
abbrev i_impl_pair_both : FuncId := 78
abbrev i_impl_pair_drop : FuncId := 79
abbrev i_impl_node_text : FuncId := 80
abbrev i_impl_forestOf : FuncId := 81
abbrev i_strings_Join : FuncId := 82
abbrev i_spec_lnInner : FuncId := 83
abbrev i_slices_IndexFunc : FuncId := 84
abbrev i_spec_trAddresses : FuncId := 85
abbrev i_spec_mpOf : FuncId := 86
abbrev i_math_bits_OnesCount32 : FuncId := 87
abbrev i_math_bits_OnesCount64 : FuncId := 88
abbrev i_internal_stringslite_Index : FuncId := 89
abbrev i_spec_trExposed : FuncId := 90
abbrev i_spec_l1Has : FuncId := 91
abbrev i_impl_node_exposed : FuncId := 92
abbrev i_slices_Contains : FuncId := 93
abbrev i_impl_node_without : FuncId := 94
abbrev i_impl_forest_carets : FuncId := 95
abbrev i_impl_forest_trimmed : FuncId := 96
abbrev i_strings_Builder_Grow : FuncId := 97
abbrev i_strings_Builder_WriteString : FuncId := 98
abbrev i_strings_Builder_String : FuncId := 99
abbrev i_spec_mpShort : FuncId := 100
abbrev i_internal_stringslite_IndexByte : FuncId := 101
abbrev i_internal_bytealg_IndexString : FuncId := 102
abbrev i_internal_bytealg_Cutover : FuncId := 103
abbrev i_internal_bytealg_IndexRabinKarp : FuncId := 104
abbrev i_impl_node_leaves : FuncId := 105
abbrev i_slices_Index : FuncId := 106
abbrev i_strings_Builder_copyCheck : FuncId := 107
abbrev i_strings_Builder_grow : FuncId := 108
abbrev i_spec_mpGcd : FuncId := 109
abbrev i_internal_bytealg_IndexByteString : FuncId := 110
abbrev i_internal_bytealg_hashStr : FuncId := 111
abbrev i_internal_abi_NoEscape : FuncId := 112
abbrev i_internal_bytealg_MakeNoZero : FuncId := 113
abbrev i_runtime_boundsError_Error : FuncId := 114
abbrev i_runtime_boundsError_RuntimeError : FuncId := 115
abbrev i_runtime_errorString_Error : FuncId := 116
abbrev i_runtime_errorString_RuntimeError : FuncId := 117
abbrev i_runtime_plainError_Error : FuncId := 118
abbrev i_runtime_plainError_RuntimeError : FuncId := 119
abbrev i_runtime_errorAddressString_Error : FuncId := 120
abbrev i_runtime_errorAddressString_RuntimeError : FuncId := 121
abbrev i_runtime_TypeAssertionError_Error : FuncId := 122
abbrev i_runtime_TypeAssertionError_RuntimeError : FuncId := 123
abbrev i_runtime_PanicNilError_Error : FuncId := 124
abbrev i_runtime_PanicNilError_RuntimeError : FuncId := 125
abbrev i_internal_abi_Type_Align : FuncId := 126
abbrev i_internal_runtime_maps_unhashableTypeError_Error : FuncId := 127
abbrev i_internal_runtime_maps_unhashableTypeError_RuntimeError : FuncId := 128
abbrev i_impl_pair_length : FuncId := 129
abbrev i_strings_Builder_Reset : FuncId := 130
abbrev i_internal_abi_Kind_String : FuncId := 131
noncomputable abbrev P_gosem_cut_init : Func := Try.f2
theorem get_gosem_cut_init : cfg.P.funcs[i_gosem_cut_init]? = some P_gosem_cut_init := by kernel_rfl
noncomputable abbrev P_laws_FnExactCaretKinds : Func := Try.f3
theorem get_laws_FnExactCaretKinds : cfg.P.funcs[i_laws_FnExactCaretKinds]? = some P_laws_FnExactCaretKinds := by kernel_rfl
noncomputable abbrev P_laws_FnExactLeafOf : Func := Try.f4
theorem get_laws_FnExactLeafOf : cfg.P.funcs[i_laws_FnExactLeafOf]? = some P_laws_FnExactLeafOf := by kernel_rfl
noncomputable abbrev P_laws_FnExactParsePair : Func := Try.f5
theorem get_laws_FnExactParsePair : cfg.P.funcs[i_laws_FnExactParsePair]? = some P_laws_FnExactParsePair := by kernel_rfl
noncomputable abbrev P_laws_FnExactAreSamePairs : Func := Try.f6
theorem get_laws_FnExactAreSamePairs : cfg.P.funcs[i_laws_FnExactAreSamePairs]? = some P_laws_FnExactAreSamePairs := by kernel_rfl
noncomputable abbrev P_laws_FnExactReducePair : Func := Try.f7
theorem get_laws_FnExactReducePair : cfg.P.funcs[i_laws_FnExactReducePair]? = some P_laws_FnExactReducePair := by kernel_rfl
noncomputable abbrev P_laws_FnExactForestText : Func := Try.f8
theorem get_laws_FnExactForestText : cfg.P.funcs[i_laws_FnExactForestText]? = some P_laws_FnExactForestText := by kernel_rfl
noncomputable abbrev P_spec_CaretKinds : Func := Try.f9
theorem get_spec_CaretKinds : cfg.P.funcs[i_spec_CaretKinds]? = some P_spec_CaretKinds := by kernel_rfl
noncomputable abbrev P_impl_CaretKinds : Func := Try.f10
theorem get_impl_CaretKinds : cfg.P.funcs[i_impl_CaretKinds]? = some P_impl_CaretKinds := by kernel_rfl
noncomputable abbrev P_laws_eqStringS : Func := Try.f11
theorem get_laws_eqStringS : cfg.P.funcs[i_laws_eqStringS]? = some P_laws_eqStringS := by kernel_rfl
noncomputable abbrev P_laws_markStringS : Func := Try.f12
theorem get_laws_markStringS : cfg.P.funcs[i_laws_markStringS]? = some P_laws_markStringS := by kernel_rfl
noncomputable abbrev P_laws_heldStringS : Func := Try.f13
theorem get_laws_heldStringS : cfg.P.funcs[i_laws_heldStringS]? = some P_laws_heldStringS := by kernel_rfl
noncomputable abbrev P_spec_LeafOf : Func := Try.f14
theorem get_spec_LeafOf : cfg.P.funcs[i_spec_LeafOf]? = some P_spec_LeafOf := by kernel_rfl
noncomputable abbrev P_laws_toFraction : Func := Try.f15
theorem get_laws_toFraction : cfg.P.funcs[i_laws_toFraction]? = some P_laws_toFraction := by kernel_rfl
noncomputable abbrev P_impl_LeafOf : Func := Try.f16
theorem get_impl_LeafOf : cfg.P.funcs[i_impl_LeafOf]? = some P_impl_LeafOf := by kernel_rfl
noncomputable abbrev P_spec_ParsePair : Func := Try.f17
theorem get_spec_ParsePair : cfg.P.funcs[i_spec_ParsePair]? = some P_spec_ParsePair := by kernel_rfl
noncomputable abbrev P_impl_ParsePair : Func := Try.f18
theorem get_impl_ParsePair : cfg.P.funcs[i_impl_ParsePair]? = some P_impl_ParsePair := by kernel_rfl
noncomputable abbrev P_laws_eqPair : Func := Try.f19
theorem get_laws_eqPair : cfg.P.funcs[i_laws_eqPair]? = some P_laws_eqPair := by kernel_rfl
noncomputable abbrev P_laws_szPair : Func := Try.f20
theorem get_laws_szPair : cfg.P.funcs[i_laws_szPair]? = some P_laws_szPair := by kernel_rfl
noncomputable abbrev P_spec_AreSamePairs : Func := Try.f21
theorem get_spec_AreSamePairs : cfg.P.funcs[i_spec_AreSamePairs]? = some P_spec_AreSamePairs := by kernel_rfl
noncomputable abbrev P_laws_toPair : Func := Try.f22
theorem get_laws_toPair : cfg.P.funcs[i_laws_toPair]? = some P_laws_toPair := by kernel_rfl
noncomputable abbrev P_impl_AreSamePairs : Func := Try.f23
theorem get_impl_AreSamePairs : cfg.P.funcs[i_impl_AreSamePairs]? = some P_impl_AreSamePairs := by kernel_rfl
noncomputable abbrev P_spec_ReducePair : Func := Try.f24
theorem get_spec_ReducePair : cfg.P.funcs[i_spec_ReducePair]? = some P_spec_ReducePair := by kernel_rfl
noncomputable abbrev P_impl_ReducePair : Func := Try.f25
theorem get_impl_ReducePair : cfg.P.funcs[i_impl_ReducePair]? = some P_impl_ReducePair := by kernel_rfl
noncomputable abbrev P_laws_szStringS : Func := Try.f26
theorem get_laws_szStringS : cfg.P.funcs[i_laws_szStringS]? = some P_laws_szStringS := by kernel_rfl
noncomputable abbrev P_spec_ForestText : Func := Try.f27
theorem get_spec_ForestText : cfg.P.funcs[i_spec_ForestText]? = some P_spec_ForestText := by kernel_rfl
noncomputable abbrev P_laws_toStringS : Func := Try.f28
theorem get_laws_toStringS : cfg.P.funcs[i_laws_toStringS]? = some P_laws_toStringS := by kernel_rfl
noncomputable abbrev P_impl_ForestText : Func := Try.f29
theorem get_impl_ForestText : cfg.P.funcs[i_impl_ForestText]? = some P_impl_ForestText := by kernel_rfl
noncomputable abbrev P_spec_trIs : Func := Try.f30
theorem get_spec_trIs : cfg.P.funcs[i_spec_trIs]? = some P_spec_trIs := by kernel_rfl
noncomputable abbrev P_spec_lnKinds : Func := Try.f31
theorem get_spec_lnKinds : cfg.P.funcs[i_spec_lnKinds]? = some P_spec_lnKinds := by kernel_rfl
noncomputable abbrev P_impl_parse : Func := Try.f32
theorem get_impl_parse : cfg.P.funcs[i_impl_parse]? = some P_impl_parse := by kernel_rfl
noncomputable abbrev P_impl_node_kinds : Func := Try.f33
theorem get_impl_node_kinds : cfg.P.funcs[i_impl_node_kinds]? = some P_impl_node_kinds := by kernel_rfl
noncomputable abbrev P_laws_markText : Func := Try.f34
theorem get_laws_markText : cfg.P.funcs[i_laws_markText]? = some P_laws_markText := by kernel_rfl
noncomputable abbrev P_spec_mpGood : Func := Try.f35
theorem get_spec_mpGood : cfg.P.funcs[i_spec_mpGood]? = some P_spec_mpGood := by kernel_rfl
noncomputable abbrev P_spec_mpLeaf : Func := Try.f36
theorem get_spec_mpLeaf : cfg.P.funcs[i_spec_mpLeaf]? = some P_spec_mpLeaf := by kernel_rfl
noncomputable abbrev P_impl_IsFraction : Func := Try.f37
theorem get_impl_IsFraction : cfg.P.funcs[i_impl_IsFraction]? = some P_impl_IsFraction := by kernel_rfl
noncomputable abbrev P_impl_pair_pieces : Func := Try.f38
theorem get_impl_pair_pieces : cfg.P.funcs[i_impl_pair_pieces]? = some P_impl_pair_pieces := by kernel_rfl
noncomputable abbrev P_impl_Fraction_place : Func := Try.f39
theorem get_impl_Fraction_place : cfg.P.funcs[i_impl_Fraction_place]? = some P_impl_Fraction_place := by kernel_rfl
noncomputable abbrev P_impl_piece_end : Func := Try.f40
theorem get_impl_piece_end : cfg.P.funcs[i_impl_piece_end]? = some P_impl_piece_end := by kernel_rfl
noncomputable abbrev P_spec_prParse : Func := Try.f41
theorem get_spec_prParse : cfg.P.funcs[i_spec_prParse]? = some P_spec_prParse := by kernel_rfl
noncomputable abbrev P_strings_Cut : Func := Try.f42
theorem get_strings_Cut : cfg.P.funcs[i_strings_Cut]? = some P_strings_Cut := by kernel_rfl
noncomputable abbrev P_impl_IsPair : Func := Try.f43
theorem get_impl_IsPair : cfg.P.funcs[i_impl_IsPair]? = some P_impl_IsPair := by kernel_rfl
noncomputable abbrev P_spec_prGood : Func := Try.f44
theorem get_spec_prGood : cfg.P.funcs[i_spec_prGood]? = some P_spec_prGood := by kernel_rfl
noncomputable abbrev P_spec_prReduce : Func := Try.f45
theorem get_spec_prReduce : cfg.P.funcs[i_spec_prReduce]? = some P_spec_prReduce := by kernel_rfl
noncomputable abbrev P_impl_two : Func := Try.f46
theorem get_impl_two : cfg.P.funcs[i_impl_two]? = some P_impl_two := by kernel_rfl
noncomputable abbrev P_impl_pair_same : Func := Try.f47
theorem get_impl_pair_same : cfg.P.funcs[i_impl_pair_same]? = some P_impl_pair_same := by kernel_rfl
noncomputable abbrev P_impl_pairOf : Func := Try.f48
theorem get_impl_pairOf : cfg.P.funcs[i_impl_pairOf]? = some P_impl_pairOf := by kernel_rfl
noncomputable abbrev P_impl_pair_reduced : Func := Try.f49
theorem get_impl_pair_reduced : cfg.P.funcs[i_impl_pair_reduced]? = some P_impl_pair_reduced := by kernel_rfl
noncomputable abbrev P_impl_pair_plain : Func := Try.f50
theorem get_impl_pair_plain : cfg.P.funcs[i_impl_pair_plain]? = some P_impl_pair_plain := by kernel_rfl
noncomputable abbrev P_spec_foGood : Func := Try.f51
theorem get_spec_foGood : cfg.P.funcs[i_spec_foGood]? = some P_spec_foGood := by kernel_rfl
noncomputable abbrev P_spec_foText : Func := Try.f52
theorem get_spec_foText : cfg.P.funcs[i_spec_foText]? = some P_spec_foText := by kernel_rfl
noncomputable abbrev P_impl_IsForest : Func := Try.f53
theorem get_impl_IsForest : cfg.P.funcs[i_impl_IsForest]? = some P_impl_IsForest := by kernel_rfl
noncomputable abbrev P_impl_forestText : Func := Try.f54
theorem get_impl_forestText : cfg.P.funcs[i_impl_forestText]? = some P_impl_forestText := by kernel_rfl
noncomputable abbrev P_spec_trCarets : Func := Try.f55
theorem get_spec_trCarets : cfg.P.funcs[i_spec_trCarets]? = some P_spec_trCarets := by kernel_rfl
noncomputable abbrev P_spec_trEnd : Func := Try.f56
theorem get_spec_trEnd : cfg.P.funcs[i_spec_trEnd]? = some P_spec_trEnd := by kernel_rfl
noncomputable abbrev P_spec_trLeaf : Func := Try.f57
theorem get_spec_trLeaf : cfg.P.funcs[i_spec_trLeaf]? = some P_spec_trLeaf := by kernel_rfl
noncomputable abbrev P_spec_trSides : Func := Try.f58
theorem get_spec_trSides : cfg.P.funcs[i_spec_trSides]? = some P_spec_trSides := by kernel_rfl
noncomputable abbrev P_spec_lnLeft : Func := Try.f59
theorem get_spec_lnLeft : cfg.P.funcs[i_spec_lnLeft]? = some P_spec_lnLeft := by kernel_rfl
noncomputable abbrev P_spec_lnRight : Func := Try.f60
theorem get_spec_lnRight : cfg.P.funcs[i_spec_lnRight]? = some P_spec_lnRight := by kernel_rfl
noncomputable abbrev P_impl_read : Func := Try.f61
theorem get_impl_read : cfg.P.funcs[i_impl_read]? = some P_impl_read := by kernel_rfl
noncomputable abbrev P_impl_node_carets : Func := Try.f62
theorem get_impl_node_carets : cfg.P.funcs[i_impl_node_carets]? = some P_impl_node_carets := by kernel_rfl
noncomputable abbrev P_impl_node_marks : Func := Try.f63
theorem get_impl_node_marks : cfg.P.funcs[i_impl_node_marks]? = some P_impl_node_marks := by kernel_rfl
noncomputable abbrev P_slices_ContainsFunc : Func := Try.f64
theorem get_slices_ContainsFunc : cfg.P.funcs[i_slices_ContainsFunc]? = some P_slices_ContainsFunc := by kernel_rfl
noncomputable abbrev P_impl_node_kinds_k1 : Func := Try.f65
theorem get_impl_node_kinds_k1 : cfg.P.funcs[i_impl_node_kinds_k1]? = some P_impl_node_kinds_k1 := by kernel_rfl
noncomputable abbrev P_spec_l1In : Func := Try.f66
theorem get_spec_l1In : cfg.P.funcs[i_spec_l1In]? = some P_spec_l1In := by kernel_rfl
noncomputable abbrev P_spec_mpStarts : Func := Try.f67
theorem get_spec_mpStarts : cfg.P.funcs[i_spec_mpStarts]? = some P_spec_mpStarts := by kernel_rfl
noncomputable abbrev P_spec_mpLess : Func := Try.f68
theorem get_spec_mpLess : cfg.P.funcs[i_spec_mpLess]? = some P_spec_mpLess := by kernel_rfl
noncomputable abbrev P_math_bits_OnesCount : Func := Try.f69
theorem get_math_bits_OnesCount : cfg.P.funcs[i_math_bits_OnesCount]? = some P_math_bits_OnesCount := by kernel_rfl
noncomputable abbrev P_impl_node_addresses : Func := Try.f70
theorem get_impl_node_addresses : cfg.P.funcs[i_impl_node_addresses]? = some P_impl_node_addresses := by kernel_rfl
noncomputable abbrev P_impl_placeOf : Func := Try.f71
theorem get_impl_placeOf : cfg.P.funcs[i_impl_placeOf]? = some P_impl_placeOf := by kernel_rfl
noncomputable abbrev P_spec_l1Split : Func := Try.f72
theorem get_spec_l1Split : cfg.P.funcs[i_spec_l1Split]? = some P_spec_l1Split := by kernel_rfl
noncomputable abbrev P_spec_prIf : Func := Try.f73
theorem get_spec_prIf : cfg.P.funcs[i_spec_prIf]? = some P_spec_prIf := by kernel_rfl
noncomputable abbrev P_internal_stringslite_Cut : Func := Try.f74
theorem get_internal_stringslite_Cut : cfg.P.funcs[i_internal_stringslite_Cut]? = some P_internal_stringslite_Cut := by kernel_rfl
noncomputable abbrev P_spec_prBoth : Func := Try.f75
theorem get_spec_prBoth : cfg.P.funcs[i_spec_prBoth]? = some P_spec_prBoth := by kernel_rfl
noncomputable abbrev P_spec_trDrop : Func := Try.f76
theorem get_spec_trDrop : cfg.P.funcs[i_spec_trDrop]? = some P_spec_trDrop := by kernel_rfl
noncomputable abbrev P_impl_pair_text : Func := Try.f77
theorem get_impl_pair_text : cfg.P.funcs[i_impl_pair_text]? = some P_impl_pair_text := by kernel_rfl
noncomputable abbrev P_impl_pair_both : Func := Try.f78
theorem get_impl_pair_both : cfg.P.funcs[i_impl_pair_both]? = some P_impl_pair_both := by kernel_rfl
noncomputable abbrev P_impl_pair_drop : Func := Try.f79
theorem get_impl_pair_drop : cfg.P.funcs[i_impl_pair_drop]? = some P_impl_pair_drop := by kernel_rfl
noncomputable abbrev P_impl_node_text : Func := Try.f80
theorem get_impl_node_text : cfg.P.funcs[i_impl_node_text]? = some P_impl_node_text := by kernel_rfl
noncomputable abbrev P_impl_forestOf : Func := Try.f81
theorem get_impl_forestOf : cfg.P.funcs[i_impl_forestOf]? = some P_impl_forestOf := by kernel_rfl
noncomputable abbrev P_strings_Join : Func := Try.f82
theorem get_strings_Join : cfg.P.funcs[i_strings_Join]? = some P_strings_Join := by kernel_rfl
noncomputable abbrev P_spec_lnInner : Func := Try.f83
theorem get_spec_lnInner : cfg.P.funcs[i_spec_lnInner]? = some P_spec_lnInner := by kernel_rfl
noncomputable abbrev P_slices_IndexFunc : Func := Try.f84
theorem get_slices_IndexFunc : cfg.P.funcs[i_slices_IndexFunc]? = some P_slices_IndexFunc := by kernel_rfl
noncomputable abbrev P_spec_trAddresses : Func := Try.f85
theorem get_spec_trAddresses : cfg.P.funcs[i_spec_trAddresses]? = some P_spec_trAddresses := by kernel_rfl
noncomputable abbrev P_spec_mpOf : Func := Try.f86
theorem get_spec_mpOf : cfg.P.funcs[i_spec_mpOf]? = some P_spec_mpOf := by kernel_rfl
noncomputable abbrev P_math_bits_OnesCount64 : Func := Try.f88
theorem get_math_bits_OnesCount64 : cfg.P.funcs[i_math_bits_OnesCount64]? = some P_math_bits_OnesCount64 := by kernel_rfl
noncomputable abbrev P_internal_stringslite_Index : Func := Try.f89
theorem get_internal_stringslite_Index : cfg.P.funcs[i_internal_stringslite_Index]? = some P_internal_stringslite_Index := by kernel_rfl
noncomputable abbrev P_spec_trExposed : Func := Try.f90
theorem get_spec_trExposed : cfg.P.funcs[i_spec_trExposed]? = some P_spec_trExposed := by kernel_rfl
noncomputable abbrev P_spec_l1Has : Func := Try.f91
theorem get_spec_l1Has : cfg.P.funcs[i_spec_l1Has]? = some P_spec_l1Has := by kernel_rfl
noncomputable abbrev P_impl_node_exposed : Func := Try.f92
theorem get_impl_node_exposed : cfg.P.funcs[i_impl_node_exposed]? = some P_impl_node_exposed := by kernel_rfl
noncomputable abbrev P_slices_Contains : Func := Try.f93
theorem get_slices_Contains : cfg.P.funcs[i_slices_Contains]? = some P_slices_Contains := by kernel_rfl
noncomputable abbrev P_impl_node_without : Func := Try.f94
theorem get_impl_node_without : cfg.P.funcs[i_impl_node_without]? = some P_impl_node_without := by kernel_rfl
noncomputable abbrev P_impl_forest_carets : Func := Try.f95
theorem get_impl_forest_carets : cfg.P.funcs[i_impl_forest_carets]? = some P_impl_forest_carets := by kernel_rfl
noncomputable abbrev P_impl_forest_trimmed : Func := Try.f96
theorem get_impl_forest_trimmed : cfg.P.funcs[i_impl_forest_trimmed]? = some P_impl_forest_trimmed := by kernel_rfl
noncomputable abbrev P_strings_Builder_Grow : Func := Try.f97
theorem get_strings_Builder_Grow : cfg.P.funcs[i_strings_Builder_Grow]? = some P_strings_Builder_Grow := by kernel_rfl
noncomputable abbrev P_strings_Builder_WriteString : Func := Try.f98
theorem get_strings_Builder_WriteString : cfg.P.funcs[i_strings_Builder_WriteString]? = some P_strings_Builder_WriteString := by kernel_rfl
noncomputable abbrev P_strings_Builder_String : Func := Try.f99
theorem get_strings_Builder_String : cfg.P.funcs[i_strings_Builder_String]? = some P_strings_Builder_String := by kernel_rfl
noncomputable abbrev P_spec_mpShort : Func := Try.f100
theorem get_spec_mpShort : cfg.P.funcs[i_spec_mpShort]? = some P_spec_mpShort := by kernel_rfl
noncomputable abbrev P_internal_stringslite_IndexByte : Func := Try.f101
theorem get_internal_stringslite_IndexByte : cfg.P.funcs[i_internal_stringslite_IndexByte]? = some P_internal_stringslite_IndexByte := by kernel_rfl
noncomputable abbrev P_internal_bytealg_Cutover : Func := Try.f103
theorem get_internal_bytealg_Cutover : cfg.P.funcs[i_internal_bytealg_Cutover]? = some P_internal_bytealg_Cutover := by kernel_rfl
noncomputable abbrev P_internal_bytealg_IndexRabinKarp : Func := Try.f104
theorem get_internal_bytealg_IndexRabinKarp : cfg.P.funcs[i_internal_bytealg_IndexRabinKarp]? = some P_internal_bytealg_IndexRabinKarp := by kernel_rfl
noncomputable abbrev P_impl_node_leaves : Func := Try.f105
theorem get_impl_node_leaves : cfg.P.funcs[i_impl_node_leaves]? = some P_impl_node_leaves := by kernel_rfl
noncomputable abbrev P_slices_Index : Func := Try.f106
theorem get_slices_Index : cfg.P.funcs[i_slices_Index]? = some P_slices_Index := by kernel_rfl
noncomputable abbrev P_strings_Builder_copyCheck : Func := Try.f107
theorem get_strings_Builder_copyCheck : cfg.P.funcs[i_strings_Builder_copyCheck]? = some P_strings_Builder_copyCheck := by kernel_rfl
noncomputable abbrev P_strings_Builder_grow : Func := Try.f108
theorem get_strings_Builder_grow : cfg.P.funcs[i_strings_Builder_grow]? = some P_strings_Builder_grow := by kernel_rfl
noncomputable abbrev P_spec_mpGcd : Func := Try.f109
theorem get_spec_mpGcd : cfg.P.funcs[i_spec_mpGcd]? = some P_spec_mpGcd := by kernel_rfl
noncomputable abbrev P_internal_bytealg_hashStr : Func := Try.f111
theorem get_internal_bytealg_hashStr : cfg.P.funcs[i_internal_bytealg_hashStr]? = some P_internal_bytealg_hashStr := by kernel_rfl
end Go.AI
