/- A part of the road: what it proves stands in its last texts. -/
import Derived.Test.YtmoodcnoncipiaaSCfg
import Derived.Test.YtmoodcnoncipiaaProg
set_option autoImplicit false
set_option maxRecDepth 100000
set_option linter.unusedVariables false
namespace Go.AI
open Go.Proofs

abbrev t_int : TypeId := 3
abbrev t_uint8 : TypeId := 5
abbrev t_string : TypeId := 9
abbrev t_impl_Fraction : TypeId := 37
abbrev t_pimpl_node : TypeId := 76
abbrev t_impl_piece : TypeId := 82
abbrev i_main_main : FuncId := 0
abbrev i_gosem_cut : FuncId := 1
abbrev i_gosem_cut_init : FuncId := 2
abbrev i_laws_FnExactCommonForest : FuncId := 3
abbrev i_laws_FnExactSlopeAt : FuncId := 4
abbrev i_laws_FnExactStackForests : FuncId := 5
abbrev i_laws_FnExactReduceBy : FuncId := 6
abbrev i_laws_FnExactJoinForests : FuncId := 7
abbrev i_laws_FnExactBreakValues : FuncId := 8
abbrev i_laws_FnExactBreaksOf : FuncId := 9
abbrev i_laws_FnExactSlopesBeside : FuncId := 10
abbrev i_laws_FnExactLeftQuotient : FuncId := 11
abbrev i_laws_FnExactFixedFractions : FuncId := 12
abbrev i_laws_FnExactWordOfForest : FuncId := 13
abbrev i_laws_FnExactForestOfWord : FuncId := 14
abbrev i_laws_szStringS : FuncId := 15
abbrev i_spec_CommonForest : FuncId := 16
abbrev i_laws_toStringS : FuncId := 17
abbrev i_impl_CommonForest : FuncId := 18
abbrev i_laws_eqStringS : FuncId := 19
abbrev i_laws_markStringS : FuncId := 20
abbrev i_laws_heldStringS : FuncId := 21
abbrev i_laws_szPair : FuncId := 22
abbrev i_spec_SlopeAt : FuncId := 23
abbrev i_laws_toPair : FuncId := 24
abbrev i_laws_toFraction : FuncId := 25
abbrev i_impl_SlopeAt : FuncId := 26
abbrev i_spec_StackForests : FuncId := 27
abbrev i_impl_StackForests : FuncId := 28
abbrev i_spec_ReduceBy : FuncId := 29
abbrev i_laws_toIntS : FuncId := 30
abbrev i_impl_ReduceBy : FuncId := 31
abbrev i_laws_eqPair : FuncId := 32
abbrev i_laws_eqIntS : FuncId := 33
abbrev i_spec_JoinForests : FuncId := 34
abbrev i_impl_JoinForests : FuncId := 35
abbrev i_spec_BreakValues : FuncId := 36
abbrev i_impl_BreakValues : FuncId := 37
abbrev i_laws_eqFractionS : FuncId := 38
abbrev i_laws_markFractionS : FuncId := 39
abbrev i_laws_heldFractionS : FuncId := 40
abbrev i_spec_BreaksOf : FuncId := 41
abbrev i_impl_BreaksOf : FuncId := 42
abbrev i_spec_SlopesBeside : FuncId := 43
abbrev i_impl_SlopesBeside : FuncId := 44
abbrev i_spec_LeftQuotient : FuncId := 45
abbrev i_impl_LeftQuotient : FuncId := 46
abbrev i_spec_FixedFractions : FuncId := 47
abbrev i_impl_FixedFractions : FuncId := 48
abbrev i_spec_WordOfForest : FuncId := 49
abbrev i_impl_WordOfForest : FuncId := 50
abbrev i_laws_markIntS : FuncId := 51
abbrev i_laws_heldIntS : FuncId := 52
abbrev i_spec_ForestOfWord : FuncId := 53
abbrev i_impl_ForestOfWord : FuncId := 54
abbrev i_spec_foGood : FuncId := 55
abbrev i_spec_trCommon : FuncId := 56
abbrev i_spec_foTree : FuncId := 57
abbrev i_spec_foIf : FuncId := 58
abbrev i_impl_twoForests : FuncId := 59
abbrev i_impl_each : FuncId := 60
abbrev i_impl_common : FuncId := 61
abbrev i_impl_forest_texts : FuncId := 62
abbrev i_laws_markText : FuncId := 63
abbrev i_spec_prGood : FuncId := 64
abbrev i_spec_mpGood : FuncId := 65
abbrev i_spec_mpSlopes : FuncId := 66
abbrev i_spec_mpLeaf : FuncId := 67
abbrev i_impl_pairOf : FuncId := 68
abbrev i_impl_IsFraction : FuncId := 69
abbrev i_impl_pieceAt : FuncId := 70
abbrev i_impl_pair_pieces : FuncId := 71
abbrev i_impl_Fraction_place : FuncId := 72
abbrev i_impl_piece_slope : FuncId := 73
abbrev i_spec_foStack : FuncId := 74
abbrev i_impl_forest_stack : FuncId := 75
abbrev i_spec_prChoices : FuncId := 76
abbrev i_spec_prReduce : FuncId := 77
abbrev i_impl_pair_both : FuncId := 78
abbrev i_impl_pair_plain : FuncId := 79
abbrev i_impl_pair_drop : FuncId := 80
abbrev i_spec_trJoin : FuncId := 81
abbrev i_impl_join : FuncId := 82
abbrev i_spec_mpAt : FuncId := 83
abbrev i_spec_mpBreaks : FuncId := 84
abbrev i_impl_pair_breaks : FuncId := 85
abbrev i_impl_fractionAt : FuncId := 86
abbrev i_laws_eqFraction : FuncId := 87
abbrev i_spec_mpStarts : FuncId := 88
abbrev i_impl_isBetween : FuncId := 89
abbrev i_spec_foPart : FuncId := 90
abbrev i_spec_prParts : FuncId := 91
abbrev i_impl_isPartOf : FuncId := 92
abbrev i_impl_forest_tree : FuncId := 93
abbrev i_impl_node_addresses : FuncId := 94
abbrev i_impl_node_at : FuncId := 95
abbrev i_spec_mpEnds : FuncId := 96
abbrev i_impl_pair_fixedPlaces : FuncId := 97
abbrev i_spec_wdIf : FuncId := 98
abbrev i_spec_foWord : FuncId := 99
abbrev i_impl_forestOf : FuncId := 100
abbrev i_impl_node_climbs : FuncId := 101
abbrev i_impl_madeWord : FuncId := 102
abbrev i_impl_wordOf : FuncId := 103
abbrev i_spec_wdGood : FuncId := 104
abbrev i_spec_l1All : FuncId := 105
abbrev i_spec_foLetter : FuncId := 106
abbrev i_impl_IsWord : FuncId := 107
abbrev i_impl_forest_split : FuncId := 108
abbrev i_spec_trLeaf : FuncId := 109
abbrev i_spec_trIs : FuncId := 110
abbrev i_spec_trCarets : FuncId := 111
abbrev i_spec_trSides : FuncId := 112
abbrev i_spec_trOf : FuncId := 113
abbrev i_spec_wdShort : FuncId := 114
abbrev i_impl_forest_trimmed : FuncId := 115
abbrev i_impl_forest_carets : FuncId := 116
abbrev i_impl_node_text : FuncId := 117
abbrev i_spec_l1In : FuncId := 118
abbrev i_spec_trAddresses : FuncId := 119
abbrev i_spec_mpLess : FuncId := 120
abbrev i_impl_parse : FuncId := 121
abbrev i_impl_node_carets : FuncId := 122
abbrev i_math_bits_OnesCount : FuncId := 123
abbrev i_impl_piece_end : FuncId := 124
abbrev i_impl_placeOf : FuncId := 125
abbrev i_impl_node_grown : FuncId := 126
abbrev i_impl_node_leaves : FuncId := 127
abbrev i_spec_prBoth : FuncId := 128
abbrev i_spec_trDrop : FuncId := 129
abbrev i_impl_node_exposed : FuncId := 130
abbrev i_slices_Contains : FuncId := 131
abbrev i_impl_node_without : FuncId := 132
abbrev i_spec_mpOf : FuncId := 133
abbrev i_impl_isPart : FuncId := 134
abbrev i_spec_wdExponents : FuncId := 135
abbrev i_spec_wdIs : FuncId := 136
abbrev i_impl_isLetter : FuncId := 137
abbrev i_spec_trEnd : FuncId := 138
abbrev i_impl_read : FuncId := 139
abbrev i_math_bits_OnesCount32 : FuncId := 140
abbrev i_math_bits_OnesCount64 : FuncId := 141
abbrev i_spec_trExposed : FuncId := 142
abbrev i_spec_l1Has : FuncId := 143
abbrev i_slices_Index : FuncId := 144
abbrev i_spec_mpShort : FuncId := 145
abbrev i_spec_mpGcd : FuncId := 146
abbrev i_runtime_boundsError_Error : FuncId := 147
abbrev i_runtime_boundsError_RuntimeError : FuncId := 148
abbrev i_runtime_errorString_Error : FuncId := 149
abbrev i_runtime_errorString_RuntimeError : FuncId := 150
abbrev i_runtime_plainError_Error : FuncId := 151
abbrev i_runtime_plainError_RuntimeError : FuncId := 152
abbrev i_runtime_errorAddressString_Error : FuncId := 153
abbrev i_runtime_errorAddressString_RuntimeError : FuncId := 154
abbrev i_runtime_TypeAssertionError_Error : FuncId := 155
abbrev i_runtime_TypeAssertionError_RuntimeError : FuncId := 156
abbrev i_runtime_PanicNilError_Error : FuncId := 157
abbrev i_runtime_PanicNilError_RuntimeError : FuncId := 158
abbrev i_internal_abi_Type_Align : FuncId := 159
abbrev i_internal_runtime_maps_unhashableTypeError_Error : FuncId := 160
abbrev i_internal_runtime_maps_unhashableTypeError_RuntimeError : FuncId := 161
abbrev i_impl_pair_length : FuncId := 162
abbrev i_internal_abi_Kind_String : FuncId := 163
noncomputable abbrev P_gosem_cut_init : Func := Try.f2
theorem get_gosem_cut_init : cfg.P.funcs[i_gosem_cut_init]? = some P_gosem_cut_init := by kernel_rfl
noncomputable abbrev P_laws_FnExactCommonForest : Func := Try.f3
theorem get_laws_FnExactCommonForest : cfg.P.funcs[i_laws_FnExactCommonForest]? = some P_laws_FnExactCommonForest := by kernel_rfl
noncomputable abbrev P_laws_FnExactSlopeAt : Func := Try.f4
theorem get_laws_FnExactSlopeAt : cfg.P.funcs[i_laws_FnExactSlopeAt]? = some P_laws_FnExactSlopeAt := by kernel_rfl
noncomputable abbrev P_laws_FnExactStackForests : Func := Try.f5
theorem get_laws_FnExactStackForests : cfg.P.funcs[i_laws_FnExactStackForests]? = some P_laws_FnExactStackForests := by kernel_rfl
noncomputable abbrev P_laws_FnExactReduceBy : Func := Try.f6
theorem get_laws_FnExactReduceBy : cfg.P.funcs[i_laws_FnExactReduceBy]? = some P_laws_FnExactReduceBy := by kernel_rfl
noncomputable abbrev P_laws_FnExactJoinForests : Func := Try.f7
theorem get_laws_FnExactJoinForests : cfg.P.funcs[i_laws_FnExactJoinForests]? = some P_laws_FnExactJoinForests := by kernel_rfl
noncomputable abbrev P_laws_FnExactBreakValues : Func := Try.f8
theorem get_laws_FnExactBreakValues : cfg.P.funcs[i_laws_FnExactBreakValues]? = some P_laws_FnExactBreakValues := by kernel_rfl
noncomputable abbrev P_laws_FnExactBreaksOf : Func := Try.f9
theorem get_laws_FnExactBreaksOf : cfg.P.funcs[i_laws_FnExactBreaksOf]? = some P_laws_FnExactBreaksOf := by kernel_rfl
noncomputable abbrev P_laws_FnExactSlopesBeside : Func := Try.f10
theorem get_laws_FnExactSlopesBeside : cfg.P.funcs[i_laws_FnExactSlopesBeside]? = some P_laws_FnExactSlopesBeside := by kernel_rfl
noncomputable abbrev P_laws_FnExactLeftQuotient : Func := Try.f11
theorem get_laws_FnExactLeftQuotient : cfg.P.funcs[i_laws_FnExactLeftQuotient]? = some P_laws_FnExactLeftQuotient := by kernel_rfl
noncomputable abbrev P_laws_FnExactFixedFractions : Func := Try.f12
theorem get_laws_FnExactFixedFractions : cfg.P.funcs[i_laws_FnExactFixedFractions]? = some P_laws_FnExactFixedFractions := by kernel_rfl
noncomputable abbrev P_laws_FnExactWordOfForest : Func := Try.f13
theorem get_laws_FnExactWordOfForest : cfg.P.funcs[i_laws_FnExactWordOfForest]? = some P_laws_FnExactWordOfForest := by kernel_rfl
noncomputable abbrev P_laws_FnExactForestOfWord : Func := Try.f14
theorem get_laws_FnExactForestOfWord : cfg.P.funcs[i_laws_FnExactForestOfWord]? = some P_laws_FnExactForestOfWord := by kernel_rfl
noncomputable abbrev P_laws_szStringS : Func := Try.f15
theorem get_laws_szStringS : cfg.P.funcs[i_laws_szStringS]? = some P_laws_szStringS := by kernel_rfl
noncomputable abbrev P_spec_CommonForest : Func := Try.f16
theorem get_spec_CommonForest : cfg.P.funcs[i_spec_CommonForest]? = some P_spec_CommonForest := by kernel_rfl
noncomputable abbrev P_laws_toStringS : Func := Try.f17
theorem get_laws_toStringS : cfg.P.funcs[i_laws_toStringS]? = some P_laws_toStringS := by kernel_rfl
noncomputable abbrev P_impl_CommonForest : Func := Try.f18
theorem get_impl_CommonForest : cfg.P.funcs[i_impl_CommonForest]? = some P_impl_CommonForest := by kernel_rfl
noncomputable abbrev P_laws_eqStringS : Func := Try.f19
theorem get_laws_eqStringS : cfg.P.funcs[i_laws_eqStringS]? = some P_laws_eqStringS := by kernel_rfl
noncomputable abbrev P_laws_markStringS : Func := Try.f20
theorem get_laws_markStringS : cfg.P.funcs[i_laws_markStringS]? = some P_laws_markStringS := by kernel_rfl
noncomputable abbrev P_laws_heldStringS : Func := Try.f21
theorem get_laws_heldStringS : cfg.P.funcs[i_laws_heldStringS]? = some P_laws_heldStringS := by kernel_rfl
noncomputable abbrev P_laws_szPair : Func := Try.f22
theorem get_laws_szPair : cfg.P.funcs[i_laws_szPair]? = some P_laws_szPair := by kernel_rfl
noncomputable abbrev P_spec_SlopeAt : Func := Try.f23
theorem get_spec_SlopeAt : cfg.P.funcs[i_spec_SlopeAt]? = some P_spec_SlopeAt := by kernel_rfl
noncomputable abbrev P_laws_toPair : Func := Try.f24
theorem get_laws_toPair : cfg.P.funcs[i_laws_toPair]? = some P_laws_toPair := by kernel_rfl
noncomputable abbrev P_laws_toFraction : Func := Try.f25
theorem get_laws_toFraction : cfg.P.funcs[i_laws_toFraction]? = some P_laws_toFraction := by kernel_rfl
noncomputable abbrev P_impl_SlopeAt : Func := Try.f26
theorem get_impl_SlopeAt : cfg.P.funcs[i_impl_SlopeAt]? = some P_impl_SlopeAt := by kernel_rfl
noncomputable abbrev P_spec_StackForests : Func := Try.f27
theorem get_spec_StackForests : cfg.P.funcs[i_spec_StackForests]? = some P_spec_StackForests := by kernel_rfl
noncomputable abbrev P_impl_StackForests : Func := Try.f28
theorem get_impl_StackForests : cfg.P.funcs[i_impl_StackForests]? = some P_impl_StackForests := by kernel_rfl
noncomputable abbrev P_spec_ReduceBy : Func := Try.f29
theorem get_spec_ReduceBy : cfg.P.funcs[i_spec_ReduceBy]? = some P_spec_ReduceBy := by kernel_rfl
noncomputable abbrev P_laws_toIntS : Func := Try.f30
theorem get_laws_toIntS : cfg.P.funcs[i_laws_toIntS]? = some P_laws_toIntS := by kernel_rfl
noncomputable abbrev P_impl_ReduceBy : Func := Try.f31
theorem get_impl_ReduceBy : cfg.P.funcs[i_impl_ReduceBy]? = some P_impl_ReduceBy := by kernel_rfl
noncomputable abbrev P_laws_eqPair : Func := Try.f32
theorem get_laws_eqPair : cfg.P.funcs[i_laws_eqPair]? = some P_laws_eqPair := by kernel_rfl
noncomputable abbrev P_laws_eqIntS : Func := Try.f33
theorem get_laws_eqIntS : cfg.P.funcs[i_laws_eqIntS]? = some P_laws_eqIntS := by kernel_rfl
noncomputable abbrev P_spec_JoinForests : Func := Try.f34
theorem get_spec_JoinForests : cfg.P.funcs[i_spec_JoinForests]? = some P_spec_JoinForests := by kernel_rfl
noncomputable abbrev P_impl_JoinForests : Func := Try.f35
theorem get_impl_JoinForests : cfg.P.funcs[i_impl_JoinForests]? = some P_impl_JoinForests := by kernel_rfl
noncomputable abbrev P_spec_BreakValues : Func := Try.f36
theorem get_spec_BreakValues : cfg.P.funcs[i_spec_BreakValues]? = some P_spec_BreakValues := by kernel_rfl
noncomputable abbrev P_impl_BreakValues : Func := Try.f37
theorem get_impl_BreakValues : cfg.P.funcs[i_impl_BreakValues]? = some P_impl_BreakValues := by kernel_rfl
noncomputable abbrev P_laws_eqFractionS : Func := Try.f38
theorem get_laws_eqFractionS : cfg.P.funcs[i_laws_eqFractionS]? = some P_laws_eqFractionS := by kernel_rfl
noncomputable abbrev P_laws_markFractionS : Func := Try.f39
theorem get_laws_markFractionS : cfg.P.funcs[i_laws_markFractionS]? = some P_laws_markFractionS := by kernel_rfl
noncomputable abbrev P_laws_heldFractionS : Func := Try.f40
theorem get_laws_heldFractionS : cfg.P.funcs[i_laws_heldFractionS]? = some P_laws_heldFractionS := by kernel_rfl
noncomputable abbrev P_spec_BreaksOf : Func := Try.f41
theorem get_spec_BreaksOf : cfg.P.funcs[i_spec_BreaksOf]? = some P_spec_BreaksOf := by kernel_rfl
noncomputable abbrev P_impl_BreaksOf : Func := Try.f42
theorem get_impl_BreaksOf : cfg.P.funcs[i_impl_BreaksOf]? = some P_impl_BreaksOf := by kernel_rfl
noncomputable abbrev P_spec_SlopesBeside : Func := Try.f43
theorem get_spec_SlopesBeside : cfg.P.funcs[i_spec_SlopesBeside]? = some P_spec_SlopesBeside := by kernel_rfl
noncomputable abbrev P_impl_SlopesBeside : Func := Try.f44
theorem get_impl_SlopesBeside : cfg.P.funcs[i_impl_SlopesBeside]? = some P_impl_SlopesBeside := by kernel_rfl
noncomputable abbrev P_spec_LeftQuotient : Func := Try.f45
theorem get_spec_LeftQuotient : cfg.P.funcs[i_spec_LeftQuotient]? = some P_spec_LeftQuotient := by kernel_rfl
noncomputable abbrev P_impl_LeftQuotient : Func := Try.f46
theorem get_impl_LeftQuotient : cfg.P.funcs[i_impl_LeftQuotient]? = some P_impl_LeftQuotient := by kernel_rfl
noncomputable abbrev P_spec_FixedFractions : Func := Try.f47
theorem get_spec_FixedFractions : cfg.P.funcs[i_spec_FixedFractions]? = some P_spec_FixedFractions := by kernel_rfl
noncomputable abbrev P_impl_FixedFractions : Func := Try.f48
theorem get_impl_FixedFractions : cfg.P.funcs[i_impl_FixedFractions]? = some P_impl_FixedFractions := by kernel_rfl
noncomputable abbrev P_spec_WordOfForest : Func := Try.f49
theorem get_spec_WordOfForest : cfg.P.funcs[i_spec_WordOfForest]? = some P_spec_WordOfForest := by kernel_rfl
noncomputable abbrev P_impl_WordOfForest : Func := Try.f50
theorem get_impl_WordOfForest : cfg.P.funcs[i_impl_WordOfForest]? = some P_impl_WordOfForest := by kernel_rfl
noncomputable abbrev P_laws_markIntS : Func := Try.f51
theorem get_laws_markIntS : cfg.P.funcs[i_laws_markIntS]? = some P_laws_markIntS := by kernel_rfl
noncomputable abbrev P_laws_heldIntS : Func := Try.f52
theorem get_laws_heldIntS : cfg.P.funcs[i_laws_heldIntS]? = some P_laws_heldIntS := by kernel_rfl
noncomputable abbrev P_spec_ForestOfWord : Func := Try.f53
theorem get_spec_ForestOfWord : cfg.P.funcs[i_spec_ForestOfWord]? = some P_spec_ForestOfWord := by kernel_rfl
noncomputable abbrev P_impl_ForestOfWord : Func := Try.f54
theorem get_impl_ForestOfWord : cfg.P.funcs[i_impl_ForestOfWord]? = some P_impl_ForestOfWord := by kernel_rfl
noncomputable abbrev P_spec_foGood : Func := Try.f55
theorem get_spec_foGood : cfg.P.funcs[i_spec_foGood]? = some P_spec_foGood := by kernel_rfl
noncomputable abbrev P_spec_trCommon : Func := Try.f56
theorem get_spec_trCommon : cfg.P.funcs[i_spec_trCommon]? = some P_spec_trCommon := by kernel_rfl
noncomputable abbrev P_spec_foTree : Func := Try.f57
theorem get_spec_foTree : cfg.P.funcs[i_spec_foTree]? = some P_spec_foTree := by kernel_rfl
noncomputable abbrev P_spec_foIf : Func := Try.f58
theorem get_spec_foIf : cfg.P.funcs[i_spec_foIf]? = some P_spec_foIf := by kernel_rfl
noncomputable abbrev P_impl_twoForests : Func := Try.f59
theorem get_impl_twoForests : cfg.P.funcs[i_impl_twoForests]? = some P_impl_twoForests := by kernel_rfl
noncomputable abbrev P_impl_each : Func := Try.f60
theorem get_impl_each : cfg.P.funcs[i_impl_each]? = some P_impl_each := by kernel_rfl
noncomputable abbrev P_impl_common : Func := Try.f61
theorem get_impl_common : cfg.P.funcs[i_impl_common]? = some P_impl_common := by kernel_rfl
noncomputable abbrev P_impl_forest_texts : Func := Try.f62
theorem get_impl_forest_texts : cfg.P.funcs[i_impl_forest_texts]? = some P_impl_forest_texts := by kernel_rfl
noncomputable abbrev P_laws_markText : Func := Try.f63
theorem get_laws_markText : cfg.P.funcs[i_laws_markText]? = some P_laws_markText := by kernel_rfl
noncomputable abbrev P_spec_prGood : Func := Try.f64
theorem get_spec_prGood : cfg.P.funcs[i_spec_prGood]? = some P_spec_prGood := by kernel_rfl
noncomputable abbrev P_spec_mpGood : Func := Try.f65
theorem get_spec_mpGood : cfg.P.funcs[i_spec_mpGood]? = some P_spec_mpGood := by kernel_rfl
noncomputable abbrev P_spec_mpSlopes : Func := Try.f66
theorem get_spec_mpSlopes : cfg.P.funcs[i_spec_mpSlopes]? = some P_spec_mpSlopes := by kernel_rfl
noncomputable abbrev P_spec_mpLeaf : Func := Try.f67
theorem get_spec_mpLeaf : cfg.P.funcs[i_spec_mpLeaf]? = some P_spec_mpLeaf := by kernel_rfl
noncomputable abbrev P_impl_pairOf : Func := Try.f68
theorem get_impl_pairOf : cfg.P.funcs[i_impl_pairOf]? = some P_impl_pairOf := by kernel_rfl
noncomputable abbrev P_impl_IsFraction : Func := Try.f69
theorem get_impl_IsFraction : cfg.P.funcs[i_impl_IsFraction]? = some P_impl_IsFraction := by kernel_rfl
noncomputable abbrev P_impl_pieceAt : Func := Try.f70
theorem get_impl_pieceAt : cfg.P.funcs[i_impl_pieceAt]? = some P_impl_pieceAt := by kernel_rfl
noncomputable abbrev P_impl_pair_pieces : Func := Try.f71
theorem get_impl_pair_pieces : cfg.P.funcs[i_impl_pair_pieces]? = some P_impl_pair_pieces := by kernel_rfl
noncomputable abbrev P_impl_Fraction_place : Func := Try.f72
theorem get_impl_Fraction_place : cfg.P.funcs[i_impl_Fraction_place]? = some P_impl_Fraction_place := by kernel_rfl
noncomputable abbrev P_impl_piece_slope : Func := Try.f73
theorem get_impl_piece_slope : cfg.P.funcs[i_impl_piece_slope]? = some P_impl_piece_slope := by kernel_rfl
noncomputable abbrev P_spec_foStack : Func := Try.f74
theorem get_spec_foStack : cfg.P.funcs[i_spec_foStack]? = some P_spec_foStack := by kernel_rfl
noncomputable abbrev P_impl_forest_stack : Func := Try.f75
theorem get_impl_forest_stack : cfg.P.funcs[i_impl_forest_stack]? = some P_impl_forest_stack := by kernel_rfl
noncomputable abbrev P_spec_prChoices : Func := Try.f76
theorem get_spec_prChoices : cfg.P.funcs[i_spec_prChoices]? = some P_spec_prChoices := by kernel_rfl
noncomputable abbrev P_spec_prReduce : Func := Try.f77
theorem get_spec_prReduce : cfg.P.funcs[i_spec_prReduce]? = some P_spec_prReduce := by kernel_rfl
noncomputable abbrev P_impl_pair_both : Func := Try.f78
theorem get_impl_pair_both : cfg.P.funcs[i_impl_pair_both]? = some P_impl_pair_both := by kernel_rfl
noncomputable abbrev P_impl_pair_plain : Func := Try.f79
theorem get_impl_pair_plain : cfg.P.funcs[i_impl_pair_plain]? = some P_impl_pair_plain := by kernel_rfl
noncomputable abbrev P_impl_pair_drop : Func := Try.f80
theorem get_impl_pair_drop : cfg.P.funcs[i_impl_pair_drop]? = some P_impl_pair_drop := by kernel_rfl
noncomputable abbrev P_spec_trJoin : Func := Try.f81
theorem get_spec_trJoin : cfg.P.funcs[i_spec_trJoin]? = some P_spec_trJoin := by kernel_rfl
noncomputable abbrev P_impl_join : Func := Try.f82
theorem get_impl_join : cfg.P.funcs[i_impl_join]? = some P_impl_join := by kernel_rfl
noncomputable abbrev P_spec_mpAt : Func := Try.f83
theorem get_spec_mpAt : cfg.P.funcs[i_spec_mpAt]? = some P_spec_mpAt := by kernel_rfl
noncomputable abbrev P_spec_mpBreaks : Func := Try.f84
theorem get_spec_mpBreaks : cfg.P.funcs[i_spec_mpBreaks]? = some P_spec_mpBreaks := by kernel_rfl
noncomputable abbrev P_impl_pair_breaks : Func := Try.f85
theorem get_impl_pair_breaks : cfg.P.funcs[i_impl_pair_breaks]? = some P_impl_pair_breaks := by kernel_rfl
noncomputable abbrev P_impl_fractionAt : Func := Try.f86
theorem get_impl_fractionAt : cfg.P.funcs[i_impl_fractionAt]? = some P_impl_fractionAt := by kernel_rfl
noncomputable abbrev P_laws_eqFraction : Func := Try.f87
theorem get_laws_eqFraction : cfg.P.funcs[i_laws_eqFraction]? = some P_laws_eqFraction := by kernel_rfl
noncomputable abbrev P_spec_mpStarts : Func := Try.f88
theorem get_spec_mpStarts : cfg.P.funcs[i_spec_mpStarts]? = some P_spec_mpStarts := by kernel_rfl
noncomputable abbrev P_impl_isBetween : Func := Try.f89
theorem get_impl_isBetween : cfg.P.funcs[i_impl_isBetween]? = some P_impl_isBetween := by kernel_rfl
noncomputable abbrev P_spec_foPart : Func := Try.f90
theorem get_spec_foPart : cfg.P.funcs[i_spec_foPart]? = some P_spec_foPart := by kernel_rfl
noncomputable abbrev P_spec_prParts : Func := Try.f91
theorem get_spec_prParts : cfg.P.funcs[i_spec_prParts]? = some P_spec_prParts := by kernel_rfl
noncomputable abbrev P_impl_isPartOf : Func := Try.f92
theorem get_impl_isPartOf : cfg.P.funcs[i_impl_isPartOf]? = some P_impl_isPartOf := by kernel_rfl
noncomputable abbrev P_impl_forest_tree : Func := Try.f93
theorem get_impl_forest_tree : cfg.P.funcs[i_impl_forest_tree]? = some P_impl_forest_tree := by kernel_rfl
noncomputable abbrev P_impl_node_addresses : Func := Try.f94
theorem get_impl_node_addresses : cfg.P.funcs[i_impl_node_addresses]? = some P_impl_node_addresses := by kernel_rfl
noncomputable abbrev P_impl_node_at : Func := Try.f95
theorem get_impl_node_at : cfg.P.funcs[i_impl_node_at]? = some P_impl_node_at := by kernel_rfl
noncomputable abbrev P_spec_mpEnds : Func := Try.f96
theorem get_spec_mpEnds : cfg.P.funcs[i_spec_mpEnds]? = some P_spec_mpEnds := by kernel_rfl
noncomputable abbrev P_impl_pair_fixedPlaces : Func := Try.f97
theorem get_impl_pair_fixedPlaces : cfg.P.funcs[i_impl_pair_fixedPlaces]? = some P_impl_pair_fixedPlaces := by kernel_rfl
noncomputable abbrev P_spec_wdIf : Func := Try.f98
theorem get_spec_wdIf : cfg.P.funcs[i_spec_wdIf]? = some P_spec_wdIf := by kernel_rfl
noncomputable abbrev P_spec_foWord : Func := Try.f99
theorem get_spec_foWord : cfg.P.funcs[i_spec_foWord]? = some P_spec_foWord := by kernel_rfl
noncomputable abbrev P_impl_forestOf : Func := Try.f100
theorem get_impl_forestOf : cfg.P.funcs[i_impl_forestOf]? = some P_impl_forestOf := by kernel_rfl
noncomputable abbrev P_impl_node_climbs : Func := Try.f101
theorem get_impl_node_climbs : cfg.P.funcs[i_impl_node_climbs]? = some P_impl_node_climbs := by kernel_rfl
noncomputable abbrev P_impl_madeWord : Func := Try.f102
theorem get_impl_madeWord : cfg.P.funcs[i_impl_madeWord]? = some P_impl_madeWord := by kernel_rfl
noncomputable abbrev P_impl_wordOf : Func := Try.f103
theorem get_impl_wordOf : cfg.P.funcs[i_impl_wordOf]? = some P_impl_wordOf := by kernel_rfl
noncomputable abbrev P_spec_wdGood : Func := Try.f104
theorem get_spec_wdGood : cfg.P.funcs[i_spec_wdGood]? = some P_spec_wdGood := by kernel_rfl
noncomputable abbrev P_spec_l1All : Func := Try.f105
theorem get_spec_l1All : cfg.P.funcs[i_spec_l1All]? = some P_spec_l1All := by kernel_rfl
noncomputable abbrev P_spec_foLetter : Func := Try.f106
theorem get_spec_foLetter : cfg.P.funcs[i_spec_foLetter]? = some P_spec_foLetter := by kernel_rfl
noncomputable abbrev P_impl_IsWord : Func := Try.f107
theorem get_impl_IsWord : cfg.P.funcs[i_impl_IsWord]? = some P_impl_IsWord := by kernel_rfl
noncomputable abbrev P_impl_forest_split : Func := Try.f108
theorem get_impl_forest_split : cfg.P.funcs[i_impl_forest_split]? = some P_impl_forest_split := by kernel_rfl
noncomputable abbrev P_spec_trLeaf : Func := Try.f109
theorem get_spec_trLeaf : cfg.P.funcs[i_spec_trLeaf]? = some P_spec_trLeaf := by kernel_rfl
noncomputable abbrev P_spec_trIs : Func := Try.f110
theorem get_spec_trIs : cfg.P.funcs[i_spec_trIs]? = some P_spec_trIs := by kernel_rfl
noncomputable abbrev P_spec_trCarets : Func := Try.f111
theorem get_spec_trCarets : cfg.P.funcs[i_spec_trCarets]? = some P_spec_trCarets := by kernel_rfl
noncomputable abbrev P_spec_trSides : Func := Try.f112
theorem get_spec_trSides : cfg.P.funcs[i_spec_trSides]? = some P_spec_trSides := by kernel_rfl
noncomputable abbrev P_spec_trOf : Func := Try.f113
theorem get_spec_trOf : cfg.P.funcs[i_spec_trOf]? = some P_spec_trOf := by kernel_rfl
noncomputable abbrev P_spec_wdShort : Func := Try.f114
theorem get_spec_wdShort : cfg.P.funcs[i_spec_wdShort]? = some P_spec_wdShort := by kernel_rfl
noncomputable abbrev P_impl_forest_trimmed : Func := Try.f115
theorem get_impl_forest_trimmed : cfg.P.funcs[i_impl_forest_trimmed]? = some P_impl_forest_trimmed := by kernel_rfl
noncomputable abbrev P_impl_forest_carets : Func := Try.f116
theorem get_impl_forest_carets : cfg.P.funcs[i_impl_forest_carets]? = some P_impl_forest_carets := by kernel_rfl
noncomputable abbrev P_impl_node_text : Func := Try.f117
theorem get_impl_node_text : cfg.P.funcs[i_impl_node_text]? = some P_impl_node_text := by kernel_rfl
noncomputable abbrev P_spec_l1In : Func := Try.f118
theorem get_spec_l1In : cfg.P.funcs[i_spec_l1In]? = some P_spec_l1In := by kernel_rfl
noncomputable abbrev P_spec_trAddresses : Func := Try.f119
theorem get_spec_trAddresses : cfg.P.funcs[i_spec_trAddresses]? = some P_spec_trAddresses := by kernel_rfl
noncomputable abbrev P_spec_mpLess : Func := Try.f120
theorem get_spec_mpLess : cfg.P.funcs[i_spec_mpLess]? = some P_spec_mpLess := by kernel_rfl
noncomputable abbrev P_impl_parse : Func := Try.f121
theorem get_impl_parse : cfg.P.funcs[i_impl_parse]? = some P_impl_parse := by kernel_rfl
noncomputable abbrev P_impl_node_carets : Func := Try.f122
theorem get_impl_node_carets : cfg.P.funcs[i_impl_node_carets]? = some P_impl_node_carets := by kernel_rfl
noncomputable abbrev P_math_bits_OnesCount : Func := Try.f123
theorem get_math_bits_OnesCount : cfg.P.funcs[i_math_bits_OnesCount]? = some P_math_bits_OnesCount := by kernel_rfl
noncomputable abbrev P_impl_piece_end : Func := Try.f124
theorem get_impl_piece_end : cfg.P.funcs[i_impl_piece_end]? = some P_impl_piece_end := by kernel_rfl
noncomputable abbrev P_impl_placeOf : Func := Try.f125
theorem get_impl_placeOf : cfg.P.funcs[i_impl_placeOf]? = some P_impl_placeOf := by kernel_rfl
noncomputable abbrev P_impl_node_grown : Func := Try.f126
theorem get_impl_node_grown : cfg.P.funcs[i_impl_node_grown]? = some P_impl_node_grown := by kernel_rfl
noncomputable abbrev P_impl_node_leaves : Func := Try.f127
theorem get_impl_node_leaves : cfg.P.funcs[i_impl_node_leaves]? = some P_impl_node_leaves := by kernel_rfl
noncomputable abbrev P_spec_prBoth : Func := Try.f128
theorem get_spec_prBoth : cfg.P.funcs[i_spec_prBoth]? = some P_spec_prBoth := by kernel_rfl
noncomputable abbrev P_spec_trDrop : Func := Try.f129
theorem get_spec_trDrop : cfg.P.funcs[i_spec_trDrop]? = some P_spec_trDrop := by kernel_rfl
noncomputable abbrev P_impl_node_exposed : Func := Try.f130
theorem get_impl_node_exposed : cfg.P.funcs[i_impl_node_exposed]? = some P_impl_node_exposed := by kernel_rfl
noncomputable abbrev P_slices_Contains : Func := Try.f131
theorem get_slices_Contains : cfg.P.funcs[i_slices_Contains]? = some P_slices_Contains := by kernel_rfl
noncomputable abbrev P_impl_node_without : Func := Try.f132
theorem get_impl_node_without : cfg.P.funcs[i_impl_node_without]? = some P_impl_node_without := by kernel_rfl
noncomputable abbrev P_spec_mpOf : Func := Try.f133
theorem get_spec_mpOf : cfg.P.funcs[i_spec_mpOf]? = some P_spec_mpOf := by kernel_rfl
noncomputable abbrev P_impl_isPart : Func := Try.f134
theorem get_impl_isPart : cfg.P.funcs[i_impl_isPart]? = some P_impl_isPart := by kernel_rfl
noncomputable abbrev P_spec_wdExponents : Func := Try.f135
theorem get_spec_wdExponents : cfg.P.funcs[i_spec_wdExponents]? = some P_spec_wdExponents := by kernel_rfl
noncomputable abbrev P_spec_wdIs : Func := Try.f136
theorem get_spec_wdIs : cfg.P.funcs[i_spec_wdIs]? = some P_spec_wdIs := by kernel_rfl
noncomputable abbrev P_impl_isLetter : Func := Try.f137
theorem get_impl_isLetter : cfg.P.funcs[i_impl_isLetter]? = some P_impl_isLetter := by kernel_rfl
noncomputable abbrev P_spec_trEnd : Func := Try.f138
theorem get_spec_trEnd : cfg.P.funcs[i_spec_trEnd]? = some P_spec_trEnd := by kernel_rfl
noncomputable abbrev P_impl_read : Func := Try.f139
theorem get_impl_read : cfg.P.funcs[i_impl_read]? = some P_impl_read := by kernel_rfl
noncomputable abbrev P_math_bits_OnesCount64 : Func := Try.f141
theorem get_math_bits_OnesCount64 : cfg.P.funcs[i_math_bits_OnesCount64]? = some P_math_bits_OnesCount64 := by kernel_rfl
noncomputable abbrev P_spec_trExposed : Func := Try.f142
theorem get_spec_trExposed : cfg.P.funcs[i_spec_trExposed]? = some P_spec_trExposed := by kernel_rfl
noncomputable abbrev P_spec_l1Has : Func := Try.f143
theorem get_spec_l1Has : cfg.P.funcs[i_spec_l1Has]? = some P_spec_l1Has := by kernel_rfl
noncomputable abbrev P_slices_Index : Func := Try.f144
theorem get_slices_Index : cfg.P.funcs[i_slices_Index]? = some P_slices_Index := by kernel_rfl
noncomputable abbrev P_spec_mpShort : Func := Try.f145
theorem get_spec_mpShort : cfg.P.funcs[i_spec_mpShort]? = some P_spec_mpShort := by kernel_rfl
noncomputable abbrev P_spec_mpGcd : Func := Try.f146
theorem get_spec_mpGcd : cfg.P.funcs[i_spec_mpGcd]? = some P_spec_mpGcd := by kernel_rfl
end Go.AI
