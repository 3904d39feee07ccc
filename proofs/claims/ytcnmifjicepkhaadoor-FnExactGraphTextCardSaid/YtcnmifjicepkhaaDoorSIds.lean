/- A part of the road: what it proves stands in its last texts. -/
import Derived.Test.YtcnmifjicepkhaaDoorSCfg
import Derived.Test.YtcnmifjicepkhaaDoorProg
set_option autoImplicit false
set_option maxRecDepth 100000
set_option linter.unusedVariables false
namespace Go.AI
open Go.Proofs

abbrev t_int : TypeId := 3
abbrev t_uint8 : TypeId := 5
abbrev t_string : TypeId := 9
abbrev t_pimpl_node : TypeId := 40
abbrev t_impl_Fraction : TypeId := 56
abbrev t_impl_piece : TypeId := 61
abbrev i_main_main : FuncId := 0
abbrev i_gosem_cut : FuncId := 1
abbrev i_gosem_cut_init : FuncId := 2
abbrev i_laws_FnExactImageOfAddress : FuncId := 3
abbrev i_laws_FnExactParseForest : FuncId := 4
abbrev i_laws_FnExactGraphText : FuncId := 5
abbrev i_laws_szPair : FuncId := 6
abbrev i_spec_ImageOfAddress : FuncId := 7
abbrev i_laws_toPair : FuncId := 8
abbrev i_impl_ImageOfAddress : FuncId := 9
abbrev i_spec_ParseForest : FuncId := 10
abbrev i_impl_ParseForest : FuncId := 11
abbrev i_laws_eqStringS : FuncId := 12
abbrev i_laws_markStringS : FuncId := 13
abbrev i_laws_heldStringS : FuncId := 14
abbrev i_spec_GraphText : FuncId := 15
abbrev i_impl_GraphText : FuncId := 16
abbrev i_spec_prGood : FuncId := 17
abbrev i_spec_mpBits : FuncId := 18
abbrev i_spec_trAddresses : FuncId := 19
abbrev i_impl_pairOf : FuncId := 20
abbrev i_impl_isAddress : FuncId := 21
abbrev i_impl_node_addresses : FuncId := 22
abbrev i_strings_CutPrefix : FuncId := 23
abbrev i_spec_l1Split : FuncId := 24
abbrev i_spec_foGood : FuncId := 25
abbrev i_strings_Split : FuncId := 26
abbrev i_impl_IsForest : FuncId := 27
abbrev i_slices_Clone : FuncId := 28
abbrev i_laws_markText : FuncId := 29
abbrev i_spec_mpBreaks : FuncId := 30
abbrev i_spec_mpAt : FuncId := 31
abbrev i_spec_mpText : FuncId := 32
abbrev i_impl_pair_breaks : FuncId := 33
abbrev i_impl_fractionAt : FuncId := 34
abbrev i_impl_Fraction_text : FuncId := 35
abbrev i_strings_Join : FuncId := 36
abbrev i_spec_trIs : FuncId := 37
abbrev i_spec_trCarets : FuncId := 38
abbrev i_spec_trLeaf : FuncId := 39
abbrev i_spec_trSides : FuncId := 40
abbrev i_impl_parse : FuncId := 41
abbrev i_impl_node_carets : FuncId := 42
abbrev i_strings_Trim : FuncId := 43
abbrev i_internal_stringslite_CutPrefix : FuncId := 44
abbrev i_strings_genSplit : FuncId := 45
abbrev i_impl_forestOf : FuncId := 46
abbrev i_spec_mpSlopes : FuncId := 47
abbrev i_spec_mpStarts : FuncId := 48
abbrev i_spec_l1Num : FuncId := 49
abbrev i_impl_pair_pieces : FuncId := 50
abbrev i_impl_piece_slope : FuncId := 51
abbrev i_strconv_Itoa : FuncId := 52
abbrev i_strings_Builder_Grow : FuncId := 53
abbrev i_strings_Builder_WriteString : FuncId := 54
abbrev i_strings_Builder_String : FuncId := 55
abbrev i_spec_trEnd : FuncId := 56
abbrev i_impl_read : FuncId := 57
abbrev i_strings_trimLeftByte : FuncId := 58
abbrev i_strings_trimRightByte : FuncId := 59
abbrev i_strings_makeASCIISet : FuncId := 60
abbrev i_strings_trimLeftASCII : FuncId := 61
abbrev i_strings_trimRightASCII : FuncId := 62
abbrev i_strings_trimLeftUnicode : FuncId := 63
abbrev i_strings_trimRightUnicode : FuncId := 64
abbrev i_internal_stringslite_HasPrefix : FuncId := 65
abbrev i_strings_explode : FuncId := 66
abbrev i_strings_Count : FuncId := 67
abbrev i_strings_Index : FuncId := 68
abbrev i_impl_forest_carets : FuncId := 69
abbrev i_impl_forest_trimmed : FuncId := 70
abbrev i_spec_mpOf : FuncId := 71
abbrev i_impl_placeOf : FuncId := 72
abbrev i_internal_strconv_Itoa : FuncId := 73
abbrev i_strings_Builder_copyCheck : FuncId := 74
abbrev i_strings_Builder_grow : FuncId := 75
abbrev i_strings_asciiSet_contains : FuncId := 76
abbrev i_unicode_utf8_DecodeRuneInString : FuncId := 77
abbrev i_strings_ContainsRune : FuncId := 78
abbrev i_unicode_utf8_DecodeLastRuneInString : FuncId := 79
abbrev i_unicode_utf8_RuneCountInString : FuncId := 80
abbrev i_internal_bytealg_CountString : FuncId := 81
abbrev i_internal_stringslite_Index : FuncId := 82
abbrev i_spec_mpShort : FuncId := 83
abbrev i_internal_strconv_FormatInt : FuncId := 84
abbrev i_internal_abi_NoEscape : FuncId := 85
abbrev i_internal_bytealg_MakeNoZero : FuncId := 86
abbrev i_unicode_utf8_decodeRuneInStringSlow : FuncId := 87
abbrev i_strings_IndexRune : FuncId := 88
abbrev i_unicode_utf8_RuneStart : FuncId := 89
abbrev i_internal_stringslite_IndexByte : FuncId := 90
abbrev i_internal_bytealg_IndexString : FuncId := 91
abbrev i_internal_bytealg_Cutover : FuncId := 92
abbrev i_internal_bytealg_IndexRabinKarp : FuncId := 93
abbrev i_spec_mpGcd : FuncId := 94
abbrev i_internal_strconv_small : FuncId := 95
abbrev i_internal_strconv_numDigits : FuncId := 96
abbrev i_internal_strconv_formatBase10 : FuncId := 97
abbrev i_internal_strconv_formatBits : FuncId := 98
abbrev i_strings_IndexByte : FuncId := 99
abbrev i_unicode_utf8_ValidRune : FuncId := 100
abbrev i_internal_bytealg_IndexByteString : FuncId := 101
abbrev i_internal_bytealg_hashStr : FuncId := 102
abbrev i_internal_strconv_log10Pow2 : FuncId := 103
abbrev i_math_bits_Len64 : FuncId := 104
abbrev i_internal_strconv_bool2 : FuncId := 105
abbrev i_internal_strconv_isPowerOfTwo : FuncId := 106
abbrev i_math_bits_TrailingZeros : FuncId := 107
abbrev i_math_bits_TrailingZeros32 : FuncId := 108
abbrev i_math_bits_TrailingZeros64 : FuncId := 109
abbrev i_runtime_boundsError_Error : FuncId := 110
abbrev i_runtime_boundsError_RuntimeError : FuncId := 111
abbrev i_runtime_errorString_Error : FuncId := 112
abbrev i_runtime_errorString_RuntimeError : FuncId := 113
abbrev i_runtime_plainError_Error : FuncId := 114
abbrev i_runtime_plainError_RuntimeError : FuncId := 115
abbrev i_runtime_errorAddressString_Error : FuncId := 116
abbrev i_runtime_errorAddressString_RuntimeError : FuncId := 117
abbrev i_runtime_TypeAssertionError_Error : FuncId := 118
abbrev i_runtime_TypeAssertionError_RuntimeError : FuncId := 119
abbrev i_runtime_PanicNilError_Error : FuncId := 120
abbrev i_runtime_PanicNilError_RuntimeError : FuncId := 121
abbrev i_internal_abi_Type_Align : FuncId := 122
abbrev i_internal_runtime_maps_unhashableTypeError_Error : FuncId := 123
abbrev i_internal_runtime_maps_unhashableTypeError_RuntimeError : FuncId := 124
abbrev i_impl_pair_length : FuncId := 125
abbrev i_impl_Fraction_place : FuncId := 126
abbrev i_impl_piece_end : FuncId := 127
abbrev i_strings_Builder_Reset : FuncId := 128
abbrev i_internal_abi_Kind_String : FuncId := 129
abbrev i_gosem_cut_vars : FuncId := 137
noncomputable abbrev P_gosem_cut_init : Func := Tryd.f2
theorem get_gosem_cut_init : cfg.P.funcs[i_gosem_cut_init]? = some P_gosem_cut_init := by kernel_rfl
noncomputable abbrev P_laws_FnExactImageOfAddress : Func := Tryd.f3
theorem get_laws_FnExactImageOfAddress : cfg.P.funcs[i_laws_FnExactImageOfAddress]? = some P_laws_FnExactImageOfAddress := by kernel_rfl
noncomputable abbrev P_laws_FnExactParseForest : Func := Tryd.f4
theorem get_laws_FnExactParseForest : cfg.P.funcs[i_laws_FnExactParseForest]? = some P_laws_FnExactParseForest := by kernel_rfl
noncomputable abbrev P_laws_FnExactGraphText : Func := Tryd.f5
theorem get_laws_FnExactGraphText : cfg.P.funcs[i_laws_FnExactGraphText]? = some P_laws_FnExactGraphText := by kernel_rfl
noncomputable abbrev P_laws_szPair : Func := Tryd.f6
theorem get_laws_szPair : cfg.P.funcs[i_laws_szPair]? = some P_laws_szPair := by kernel_rfl
noncomputable abbrev P_spec_ImageOfAddress : Func := Tryd.f7
theorem get_spec_ImageOfAddress : cfg.P.funcs[i_spec_ImageOfAddress]? = some P_spec_ImageOfAddress := by kernel_rfl
noncomputable abbrev P_laws_toPair : Func := Tryd.f8
theorem get_laws_toPair : cfg.P.funcs[i_laws_toPair]? = some P_laws_toPair := by kernel_rfl
noncomputable abbrev P_impl_ImageOfAddress : Func := Tryd.f9
theorem get_impl_ImageOfAddress : cfg.P.funcs[i_impl_ImageOfAddress]? = some P_impl_ImageOfAddress := by kernel_rfl
noncomputable abbrev P_spec_ParseForest : Func := Tryd.f10
theorem get_spec_ParseForest : cfg.P.funcs[i_spec_ParseForest]? = some P_spec_ParseForest := by kernel_rfl
noncomputable abbrev P_impl_ParseForest : Func := Tryd.f11
theorem get_impl_ParseForest : cfg.P.funcs[i_impl_ParseForest]? = some P_impl_ParseForest := by kernel_rfl
noncomputable abbrev P_laws_eqStringS : Func := Tryd.f12
theorem get_laws_eqStringS : cfg.P.funcs[i_laws_eqStringS]? = some P_laws_eqStringS := by kernel_rfl
noncomputable abbrev P_laws_markStringS : Func := Tryd.f13
theorem get_laws_markStringS : cfg.P.funcs[i_laws_markStringS]? = some P_laws_markStringS := by kernel_rfl
noncomputable abbrev P_laws_heldStringS : Func := Tryd.f14
theorem get_laws_heldStringS : cfg.P.funcs[i_laws_heldStringS]? = some P_laws_heldStringS := by kernel_rfl
noncomputable abbrev P_spec_GraphText : Func := Tryd.f15
theorem get_spec_GraphText : cfg.P.funcs[i_spec_GraphText]? = some P_spec_GraphText := by kernel_rfl
noncomputable abbrev P_impl_GraphText : Func := Tryd.f16
theorem get_impl_GraphText : cfg.P.funcs[i_impl_GraphText]? = some P_impl_GraphText := by kernel_rfl
noncomputable abbrev P_spec_prGood : Func := Tryd.f17
theorem get_spec_prGood : cfg.P.funcs[i_spec_prGood]? = some P_spec_prGood := by kernel_rfl
noncomputable abbrev P_spec_mpBits : Func := Tryd.f18
theorem get_spec_mpBits : cfg.P.funcs[i_spec_mpBits]? = some P_spec_mpBits := by kernel_rfl
noncomputable abbrev P_spec_trAddresses : Func := Tryd.f19
theorem get_spec_trAddresses : cfg.P.funcs[i_spec_trAddresses]? = some P_spec_trAddresses := by kernel_rfl
noncomputable abbrev P_impl_pairOf : Func := Tryd.f20
theorem get_impl_pairOf : cfg.P.funcs[i_impl_pairOf]? = some P_impl_pairOf := by kernel_rfl
noncomputable abbrev P_impl_isAddress : Func := Tryd.f21
theorem get_impl_isAddress : cfg.P.funcs[i_impl_isAddress]? = some P_impl_isAddress := by kernel_rfl
noncomputable abbrev P_impl_node_addresses : Func := Tryd.f22
theorem get_impl_node_addresses : cfg.P.funcs[i_impl_node_addresses]? = some P_impl_node_addresses := by kernel_rfl
noncomputable abbrev P_strings_CutPrefix : Func := Tryd.f23
theorem get_strings_CutPrefix : cfg.P.funcs[i_strings_CutPrefix]? = some P_strings_CutPrefix := by kernel_rfl
noncomputable abbrev P_spec_l1Split : Func := Tryd.f24
theorem get_spec_l1Split : cfg.P.funcs[i_spec_l1Split]? = some P_spec_l1Split := by kernel_rfl
noncomputable abbrev P_spec_foGood : Func := Tryd.f25
theorem get_spec_foGood : cfg.P.funcs[i_spec_foGood]? = some P_spec_foGood := by kernel_rfl
noncomputable abbrev P_strings_Split : Func := Tryd.f26
theorem get_strings_Split : cfg.P.funcs[i_strings_Split]? = some P_strings_Split := by kernel_rfl
noncomputable abbrev P_impl_IsForest : Func := Tryd.f27
theorem get_impl_IsForest : cfg.P.funcs[i_impl_IsForest]? = some P_impl_IsForest := by kernel_rfl
noncomputable abbrev P_slices_Clone : Func := Tryd.f28
theorem get_slices_Clone : cfg.P.funcs[i_slices_Clone]? = some P_slices_Clone := by kernel_rfl
noncomputable abbrev P_laws_markText : Func := Tryd.f29
theorem get_laws_markText : cfg.P.funcs[i_laws_markText]? = some P_laws_markText := by kernel_rfl
noncomputable abbrev P_spec_mpBreaks : Func := Tryd.f30
theorem get_spec_mpBreaks : cfg.P.funcs[i_spec_mpBreaks]? = some P_spec_mpBreaks := by kernel_rfl
noncomputable abbrev P_spec_mpAt : Func := Tryd.f31
theorem get_spec_mpAt : cfg.P.funcs[i_spec_mpAt]? = some P_spec_mpAt := by kernel_rfl
noncomputable abbrev P_spec_mpText : Func := Tryd.f32
theorem get_spec_mpText : cfg.P.funcs[i_spec_mpText]? = some P_spec_mpText := by kernel_rfl
noncomputable abbrev P_impl_pair_breaks : Func := Tryd.f33
theorem get_impl_pair_breaks : cfg.P.funcs[i_impl_pair_breaks]? = some P_impl_pair_breaks := by kernel_rfl
noncomputable abbrev P_impl_fractionAt : Func := Tryd.f34
theorem get_impl_fractionAt : cfg.P.funcs[i_impl_fractionAt]? = some P_impl_fractionAt := by kernel_rfl
noncomputable abbrev P_impl_Fraction_text : Func := Tryd.f35
theorem get_impl_Fraction_text : cfg.P.funcs[i_impl_Fraction_text]? = some P_impl_Fraction_text := by kernel_rfl
noncomputable abbrev P_strings_Join : Func := Tryd.f36
theorem get_strings_Join : cfg.P.funcs[i_strings_Join]? = some P_strings_Join := by kernel_rfl
noncomputable abbrev P_spec_trIs : Func := Tryd.f37
theorem get_spec_trIs : cfg.P.funcs[i_spec_trIs]? = some P_spec_trIs := by kernel_rfl
noncomputable abbrev P_spec_trCarets : Func := Tryd.f38
theorem get_spec_trCarets : cfg.P.funcs[i_spec_trCarets]? = some P_spec_trCarets := by kernel_rfl
noncomputable abbrev P_spec_trLeaf : Func := Tryd.f39
theorem get_spec_trLeaf : cfg.P.funcs[i_spec_trLeaf]? = some P_spec_trLeaf := by kernel_rfl
noncomputable abbrev P_spec_trSides : Func := Tryd.f40
theorem get_spec_trSides : cfg.P.funcs[i_spec_trSides]? = some P_spec_trSides := by kernel_rfl
noncomputable abbrev P_impl_parse : Func := Tryd.f41
theorem get_impl_parse : cfg.P.funcs[i_impl_parse]? = some P_impl_parse := by kernel_rfl
noncomputable abbrev P_impl_node_carets : Func := Tryd.f42
theorem get_impl_node_carets : cfg.P.funcs[i_impl_node_carets]? = some P_impl_node_carets := by kernel_rfl
noncomputable abbrev P_strings_Trim : Func := Tryd.f43
theorem get_strings_Trim : cfg.P.funcs[i_strings_Trim]? = some P_strings_Trim := by kernel_rfl
noncomputable abbrev P_internal_stringslite_CutPrefix : Func := Tryd.f44
theorem get_internal_stringslite_CutPrefix : cfg.P.funcs[i_internal_stringslite_CutPrefix]? = some P_internal_stringslite_CutPrefix := by kernel_rfl
noncomputable abbrev P_strings_genSplit : Func := Tryd.f45
theorem get_strings_genSplit : cfg.P.funcs[i_strings_genSplit]? = some P_strings_genSplit := by kernel_rfl
noncomputable abbrev P_impl_forestOf : Func := Tryd.f46
theorem get_impl_forestOf : cfg.P.funcs[i_impl_forestOf]? = some P_impl_forestOf := by kernel_rfl
noncomputable abbrev P_spec_mpSlopes : Func := Tryd.f47
theorem get_spec_mpSlopes : cfg.P.funcs[i_spec_mpSlopes]? = some P_spec_mpSlopes := by kernel_rfl
noncomputable abbrev P_spec_mpStarts : Func := Tryd.f48
theorem get_spec_mpStarts : cfg.P.funcs[i_spec_mpStarts]? = some P_spec_mpStarts := by kernel_rfl
noncomputable abbrev P_spec_l1Num : Func := Tryd.f49
theorem get_spec_l1Num : cfg.P.funcs[i_spec_l1Num]? = some P_spec_l1Num := by kernel_rfl
noncomputable abbrev P_impl_pair_pieces : Func := Tryd.f50
theorem get_impl_pair_pieces : cfg.P.funcs[i_impl_pair_pieces]? = some P_impl_pair_pieces := by kernel_rfl
noncomputable abbrev P_impl_piece_slope : Func := Tryd.f51
theorem get_impl_piece_slope : cfg.P.funcs[i_impl_piece_slope]? = some P_impl_piece_slope := by kernel_rfl
noncomputable abbrev P_strconv_Itoa : Func := Tryd.f52
theorem get_strconv_Itoa : cfg.P.funcs[i_strconv_Itoa]? = some P_strconv_Itoa := by kernel_rfl
noncomputable abbrev P_strings_Builder_Grow : Func := Tryd.f53
theorem get_strings_Builder_Grow : cfg.P.funcs[i_strings_Builder_Grow]? = some P_strings_Builder_Grow := by kernel_rfl
noncomputable abbrev P_strings_Builder_WriteString : Func := Tryd.f54
theorem get_strings_Builder_WriteString : cfg.P.funcs[i_strings_Builder_WriteString]? = some P_strings_Builder_WriteString := by kernel_rfl
noncomputable abbrev P_strings_Builder_String : Func := Tryd.f55
theorem get_strings_Builder_String : cfg.P.funcs[i_strings_Builder_String]? = some P_strings_Builder_String := by kernel_rfl
noncomputable abbrev P_spec_trEnd : Func := Tryd.f56
theorem get_spec_trEnd : cfg.P.funcs[i_spec_trEnd]? = some P_spec_trEnd := by kernel_rfl
noncomputable abbrev P_impl_read : Func := Tryd.f57
theorem get_impl_read : cfg.P.funcs[i_impl_read]? = some P_impl_read := by kernel_rfl
noncomputable abbrev P_strings_trimLeftByte : Func := Tryd.f58
theorem get_strings_trimLeftByte : cfg.P.funcs[i_strings_trimLeftByte]? = some P_strings_trimLeftByte := by kernel_rfl
noncomputable abbrev P_strings_trimRightByte : Func := Tryd.f59
theorem get_strings_trimRightByte : cfg.P.funcs[i_strings_trimRightByte]? = some P_strings_trimRightByte := by kernel_rfl
noncomputable abbrev P_strings_makeASCIISet : Func := Tryd.f60
theorem get_strings_makeASCIISet : cfg.P.funcs[i_strings_makeASCIISet]? = some P_strings_makeASCIISet := by kernel_rfl
noncomputable abbrev P_strings_trimLeftASCII : Func := Tryd.f61
theorem get_strings_trimLeftASCII : cfg.P.funcs[i_strings_trimLeftASCII]? = some P_strings_trimLeftASCII := by kernel_rfl
noncomputable abbrev P_strings_trimRightASCII : Func := Tryd.f62
theorem get_strings_trimRightASCII : cfg.P.funcs[i_strings_trimRightASCII]? = some P_strings_trimRightASCII := by kernel_rfl
noncomputable abbrev P_strings_trimLeftUnicode : Func := Tryd.f63
theorem get_strings_trimLeftUnicode : cfg.P.funcs[i_strings_trimLeftUnicode]? = some P_strings_trimLeftUnicode := by kernel_rfl
noncomputable abbrev P_strings_trimRightUnicode : Func := Tryd.f64
theorem get_strings_trimRightUnicode : cfg.P.funcs[i_strings_trimRightUnicode]? = some P_strings_trimRightUnicode := by kernel_rfl
noncomputable abbrev P_internal_stringslite_HasPrefix : Func := Tryd.f65
theorem get_internal_stringslite_HasPrefix : cfg.P.funcs[i_internal_stringslite_HasPrefix]? = some P_internal_stringslite_HasPrefix := by kernel_rfl
noncomputable abbrev P_strings_explode : Func := Tryd.f66
theorem get_strings_explode : cfg.P.funcs[i_strings_explode]? = some P_strings_explode := by kernel_rfl
noncomputable abbrev P_strings_Count : Func := Tryd.f67
theorem get_strings_Count : cfg.P.funcs[i_strings_Count]? = some P_strings_Count := by kernel_rfl
noncomputable abbrev P_strings_Index : Func := Tryd.f68
theorem get_strings_Index : cfg.P.funcs[i_strings_Index]? = some P_strings_Index := by kernel_rfl
noncomputable abbrev P_impl_forest_carets : Func := Tryd.f69
theorem get_impl_forest_carets : cfg.P.funcs[i_impl_forest_carets]? = some P_impl_forest_carets := by kernel_rfl
noncomputable abbrev P_impl_forest_trimmed : Func := Tryd.f70
theorem get_impl_forest_trimmed : cfg.P.funcs[i_impl_forest_trimmed]? = some P_impl_forest_trimmed := by kernel_rfl
noncomputable abbrev P_spec_mpOf : Func := Tryd.f71
theorem get_spec_mpOf : cfg.P.funcs[i_spec_mpOf]? = some P_spec_mpOf := by kernel_rfl
noncomputable abbrev P_impl_placeOf : Func := Tryd.f72
theorem get_impl_placeOf : cfg.P.funcs[i_impl_placeOf]? = some P_impl_placeOf := by kernel_rfl
noncomputable abbrev P_internal_strconv_Itoa : Func := Tryd.f73
theorem get_internal_strconv_Itoa : cfg.P.funcs[i_internal_strconv_Itoa]? = some P_internal_strconv_Itoa := by kernel_rfl
noncomputable abbrev P_strings_Builder_copyCheck : Func := Tryd.f74
theorem get_strings_Builder_copyCheck : cfg.P.funcs[i_strings_Builder_copyCheck]? = some P_strings_Builder_copyCheck := by kernel_rfl
noncomputable abbrev P_strings_Builder_grow : Func := Tryd.f75
theorem get_strings_Builder_grow : cfg.P.funcs[i_strings_Builder_grow]? = some P_strings_Builder_grow := by kernel_rfl
noncomputable abbrev P_strings_asciiSet_contains : Func := Tryd.f76
theorem get_strings_asciiSet_contains : cfg.P.funcs[i_strings_asciiSet_contains]? = some P_strings_asciiSet_contains := by kernel_rfl
noncomputable abbrev P_unicode_utf8_DecodeRuneInString : Func := Tryd.f77
theorem get_unicode_utf8_DecodeRuneInString : cfg.P.funcs[i_unicode_utf8_DecodeRuneInString]? = some P_unicode_utf8_DecodeRuneInString := by kernel_rfl
noncomputable abbrev P_strings_ContainsRune : Func := Tryd.f78
theorem get_strings_ContainsRune : cfg.P.funcs[i_strings_ContainsRune]? = some P_strings_ContainsRune := by kernel_rfl
noncomputable abbrev P_unicode_utf8_DecodeLastRuneInString : Func := Tryd.f79
theorem get_unicode_utf8_DecodeLastRuneInString : cfg.P.funcs[i_unicode_utf8_DecodeLastRuneInString]? = some P_unicode_utf8_DecodeLastRuneInString := by kernel_rfl
noncomputable abbrev P_unicode_utf8_RuneCountInString : Func := Tryd.f80
theorem get_unicode_utf8_RuneCountInString : cfg.P.funcs[i_unicode_utf8_RuneCountInString]? = some P_unicode_utf8_RuneCountInString := by kernel_rfl
noncomputable abbrev P_internal_stringslite_Index : Func := Tryd.f82
theorem get_internal_stringslite_Index : cfg.P.funcs[i_internal_stringslite_Index]? = some P_internal_stringslite_Index := by kernel_rfl
noncomputable abbrev P_spec_mpShort : Func := Tryd.f83
theorem get_spec_mpShort : cfg.P.funcs[i_spec_mpShort]? = some P_spec_mpShort := by kernel_rfl
noncomputable abbrev P_internal_strconv_FormatInt : Func := Tryd.f84
theorem get_internal_strconv_FormatInt : cfg.P.funcs[i_internal_strconv_FormatInt]? = some P_internal_strconv_FormatInt := by kernel_rfl
noncomputable abbrev P_unicode_utf8_decodeRuneInStringSlow : Func := Tryd.f87
theorem get_unicode_utf8_decodeRuneInStringSlow : cfg.P.funcs[i_unicode_utf8_decodeRuneInStringSlow]? = some P_unicode_utf8_decodeRuneInStringSlow := by kernel_rfl
noncomputable abbrev P_strings_IndexRune : Func := Tryd.f88
theorem get_strings_IndexRune : cfg.P.funcs[i_strings_IndexRune]? = some P_strings_IndexRune := by kernel_rfl
noncomputable abbrev P_unicode_utf8_RuneStart : Func := Tryd.f89
theorem get_unicode_utf8_RuneStart : cfg.P.funcs[i_unicode_utf8_RuneStart]? = some P_unicode_utf8_RuneStart := by kernel_rfl
noncomputable abbrev P_internal_stringslite_IndexByte : Func := Tryd.f90
theorem get_internal_stringslite_IndexByte : cfg.P.funcs[i_internal_stringslite_IndexByte]? = some P_internal_stringslite_IndexByte := by kernel_rfl
noncomputable abbrev P_internal_bytealg_Cutover : Func := Tryd.f92
theorem get_internal_bytealg_Cutover : cfg.P.funcs[i_internal_bytealg_Cutover]? = some P_internal_bytealg_Cutover := by kernel_rfl
noncomputable abbrev P_internal_bytealg_IndexRabinKarp : Func := Tryd.f93
theorem get_internal_bytealg_IndexRabinKarp : cfg.P.funcs[i_internal_bytealg_IndexRabinKarp]? = some P_internal_bytealg_IndexRabinKarp := by kernel_rfl
noncomputable abbrev P_spec_mpGcd : Func := Tryd.f94
theorem get_spec_mpGcd : cfg.P.funcs[i_spec_mpGcd]? = some P_spec_mpGcd := by kernel_rfl
noncomputable abbrev P_internal_strconv_numDigits : Func := Tryd.f96
theorem get_internal_strconv_numDigits : cfg.P.funcs[i_internal_strconv_numDigits]? = some P_internal_strconv_numDigits := by kernel_rfl
noncomputable abbrev P_internal_strconv_formatBits : Func := Tryd.f98
theorem get_internal_strconv_formatBits : cfg.P.funcs[i_internal_strconv_formatBits]? = some P_internal_strconv_formatBits := by kernel_rfl
noncomputable abbrev P_strings_IndexByte : Func := Tryd.f99
theorem get_strings_IndexByte : cfg.P.funcs[i_strings_IndexByte]? = some P_strings_IndexByte := by kernel_rfl
noncomputable abbrev P_unicode_utf8_ValidRune : Func := Tryd.f100
theorem get_unicode_utf8_ValidRune : cfg.P.funcs[i_unicode_utf8_ValidRune]? = some P_unicode_utf8_ValidRune := by kernel_rfl
noncomputable abbrev P_internal_bytealg_hashStr : Func := Tryd.f102
theorem get_internal_bytealg_hashStr : cfg.P.funcs[i_internal_bytealg_hashStr]? = some P_internal_bytealg_hashStr := by kernel_rfl
noncomputable abbrev P_internal_strconv_log10Pow2 : Func := Tryd.f103
theorem get_internal_strconv_log10Pow2 : cfg.P.funcs[i_internal_strconv_log10Pow2]? = some P_internal_strconv_log10Pow2 := by kernel_rfl
noncomputable abbrev P_internal_strconv_bool2 : Func := Tryd.f105
theorem get_internal_strconv_bool2 : cfg.P.funcs[i_internal_strconv_bool2]? = some P_internal_strconv_bool2 := by kernel_rfl
noncomputable abbrev P_internal_strconv_isPowerOfTwo : Func := Tryd.f106
theorem get_internal_strconv_isPowerOfTwo : cfg.P.funcs[i_internal_strconv_isPowerOfTwo]? = some P_internal_strconv_isPowerOfTwo := by kernel_rfl
noncomputable abbrev P_math_bits_TrailingZeros : Func := Tryd.f107
theorem get_math_bits_TrailingZeros : cfg.P.funcs[i_math_bits_TrailingZeros]? = some P_math_bits_TrailingZeros := by kernel_rfl
noncomputable abbrev P_math_bits_TrailingZeros32 : Func := Tryd.f108
theorem get_math_bits_TrailingZeros32 : cfg.P.funcs[i_math_bits_TrailingZeros32]? = some P_math_bits_TrailingZeros32 := by kernel_rfl
noncomputable abbrev P_math_bits_TrailingZeros64 : Func := Tryd.f109
theorem get_math_bits_TrailingZeros64 : cfg.P.funcs[i_math_bits_TrailingZeros64]? = some P_math_bits_TrailingZeros64 := by kernel_rfl
noncomputable abbrev P_gosem_cut_vars : Func := Tryd.f137
theorem get_gosem_cut_vars : cfg.P.funcs[i_gosem_cut_vars]? = some P_gosem_cut_vars := by kernel_rfl
end Go.AI
