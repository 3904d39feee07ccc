/- A part of the road: what it proves stands in its last texts. -/
import Derived.Test.YtnnbjnmkkfakdaaSCfg
import Derived.Test.YtnnbjnmkkfakdaaProg
set_option autoImplicit false
set_option maxRecDepth 100000
set_option linter.unusedVariables false
namespace Go.AI
open Go.Proofs

abbrev t_int : TypeId := 3
abbrev t_uint8 : TypeId := 5
abbrev t_string : TypeId := 9
abbrev t_Sint : TypeId := 45
abbrev t_pimpl_node : TypeId := 60
abbrev t_impl_mark : TypeId := 133
abbrev i_main_main : FuncId := 0
abbrev i_gosem_cut : FuncId := 1
abbrev i_gosem_cut_init : FuncId := 2
abbrev i_laws_FnExactProductPair : FuncId := 3
abbrev i_laws_FnExactPowerPair : FuncId := 4
abbrev i_laws_FnExactCommutatorPair : FuncId := 5
abbrev i_laws_FnExactDoCommute : FuncId := 6
abbrev i_laws_FnExactPairOfForest : FuncId := 7
abbrev i_laws_FnExactPairOfForests : FuncId := 8
abbrev i_laws_FnExactForestsOfPair : FuncId := 9
abbrev i_laws_FnExactPairOfWord : FuncId := 10
abbrev i_laws_FnExactLengthOf : FuncId := 11
abbrev i_laws_FnExactDistanceOf : FuncId := 12
abbrev i_laws_FnExactLengthOfWord : FuncId := 13
abbrev i_laws_FnExactWordOfPair : FuncId := 14
abbrev i_laws_szPair : FuncId := 15
abbrev i_spec_ProductPair : FuncId := 16
abbrev i_laws_toPair : FuncId := 17
abbrev i_impl_ProductPair : FuncId := 18
abbrev i_laws_eqPair : FuncId := 19
abbrev i_spec_PowerPair : FuncId := 20
abbrev i_impl_PowerPair : FuncId := 21
abbrev i_spec_CommutatorPair : FuncId := 22
abbrev i_impl_CommutatorPair : FuncId := 23
abbrev i_spec_DoCommute : FuncId := 24
abbrev i_impl_DoCommute : FuncId := 25
abbrev i_laws_szStringS : FuncId := 26
abbrev i_spec_PairOfForest : FuncId := 27
abbrev i_laws_toStringS : FuncId := 28
abbrev i_impl_PairOfForest : FuncId := 29
abbrev i_laws_eqStringS : FuncId := 30
abbrev i_spec_PairOfForests : FuncId := 31
abbrev i_impl_PairOfForests : FuncId := 32
abbrev i_spec_ForestsOfPair : FuncId := 33
abbrev i_impl_ForestsOfPair : FuncId := 34
abbrev i_laws_markStringS : FuncId := 35
abbrev i_laws_heldStringS : FuncId := 36
abbrev i_spec_PairOfWord : FuncId := 37
abbrev i_laws_toIntS : FuncId := 38
abbrev i_impl_PairOfWord : FuncId := 39
abbrev i_laws_eqIntS : FuncId := 40
abbrev i_spec_LengthOf : FuncId := 41
abbrev i_impl_LengthOf : FuncId := 42
abbrev i_spec_DistanceOf : FuncId := 43
abbrev i_impl_DistanceOf : FuncId := 44
abbrev i_spec_LengthOfWord : FuncId := 45
abbrev i_impl_LengthOfWord : FuncId := 46
abbrev i_spec_WordOfPair : FuncId := 47
abbrev i_impl_WordOfPair : FuncId := 48
abbrev i_laws_markIntS : FuncId := 49
abbrev i_laws_heldIntS : FuncId := 50
abbrev i_spec_prGood : FuncId := 51
abbrev i_spec_prIf : FuncId := 52
abbrev i_spec_prTimes : FuncId := 53
abbrev i_impl_two : FuncId := 54
abbrev i_impl_pair_times : FuncId := 55
abbrev i_impl_pair_fits : FuncId := 56
abbrev i_spec_l1In : FuncId := 57
abbrev i_spec_prInverse : FuncId := 58
abbrev i_spec_prUnit : FuncId := 59
abbrev i_spec_trCarets : FuncId := 60
abbrev i_impl_pairOf : FuncId := 61
abbrev i_impl_pair_inverse : FuncId := 62
abbrev i_impl_pair_power : FuncId := 63
abbrev i_impl_pair_plain : FuncId := 64
abbrev i_impl_node_carets : FuncId := 65
abbrev i_impl_pair_text : FuncId := 66
abbrev i_spec_foGood : FuncId := 67
abbrev i_spec_foPair : FuncId := 68
abbrev i_impl_forestOf : FuncId := 69
abbrev i_impl_forest_pair : FuncId := 70
abbrev i_impl_twoForests : FuncId := 71
abbrev i_spec_prReduce : FuncId := 72
abbrev i_spec_foIf : FuncId := 73
abbrev i_spec_foHanging : FuncId := 74
abbrev i_impl_pair_reduced : FuncId := 75
abbrev i_impl_hanging : FuncId := 76
abbrev i_impl_forest_texts : FuncId := 77
abbrev i_laws_markText : FuncId := 78
abbrev i_spec_wdGood : FuncId := 79
abbrev i_spec_wdIs : FuncId := 80
abbrev i_spec_wdLetter : FuncId := 81
abbrev i_impl_IsWord : FuncId := 82
abbrev i_impl_pairOfWord : FuncId := 83
abbrev i_spec_lnOf : FuncId := 84
abbrev i_impl_pair_length : FuncId := 85
abbrev i_impl_areTwo : FuncId := 86
abbrev i_impl_letter : FuncId := 87
abbrev i_spec_wdOf : FuncId := 88
abbrev i_impl_madeWord : FuncId := 89
abbrev i_impl_wordOfPair : FuncId := 90
abbrev i_spec_trIs : FuncId := 91
abbrev i_spec_trJoin : FuncId := 92
abbrev i_spec_prFill : FuncId := 93
abbrev i_spec_prParts : FuncId := 94
abbrev i_impl_join : FuncId := 95
abbrev i_impl_node_grown : FuncId := 96
abbrev i_impl_parts : FuncId := 97
abbrev i_impl_parse : FuncId := 98
abbrev i_impl_node_text : FuncId := 99
abbrev i_spec_trLeaf : FuncId := 100
abbrev i_spec_wdComb : FuncId := 101
abbrev i_spec_trRight : FuncId := 102
abbrev i_impl_forest_carets : FuncId := 103
abbrev i_impl_forest_trimmed : FuncId := 104
abbrev i_impl_forest_hung : FuncId := 105
abbrev i_impl_rightComb : FuncId := 106
abbrev i_spec_prBoth : FuncId := 107
abbrev i_spec_trDrop : FuncId := 108
abbrev i_spec_wdShort : FuncId := 109
abbrev i_spec_trSides : FuncId := 110
abbrev i_impl_pair_both : FuncId := 111
abbrev i_impl_pair_drop : FuncId := 112
abbrev i_spec_prGenerator : FuncId := 113
abbrev i_impl_isLetter : FuncId := 114
abbrev i_impl_size : FuncId := 115
abbrev i_spec_lnKinds : FuncId := 116
abbrev i_spec_lnTable : FuncId := 117
abbrev i_impl_node_kinds : FuncId := 118
abbrev i_impl_KindLength : FuncId := 119
abbrev i_impl_generator : FuncId := 120
abbrev i_spec_wdRight : FuncId := 121
abbrev i_spec_wdInverse : FuncId := 122
abbrev i_impl_wordOf : FuncId := 123
abbrev i_impl_node_exponents : FuncId := 124
abbrev i_impl_inverseOf : FuncId := 125
abbrev i_spec_trEnd : FuncId := 126
abbrev i_spec_trOf : FuncId := 127
abbrev i_impl_node_leaves : FuncId := 128
abbrev i_impl_node_addresses : FuncId := 129
abbrev i_impl_parts_k1 : FuncId := 130
abbrev i_impl_node_at : FuncId := 131
abbrev i_impl_read : FuncId := 132
abbrev i_impl_forest_tree : FuncId := 133
abbrev i_spec_trExposed : FuncId := 134
abbrev i_spec_l1Has : FuncId := 135
abbrev i_impl_node_exposed : FuncId := 136
abbrev i_slices_Contains : FuncId := 137
abbrev i_impl_node_without : FuncId := 138
abbrev i_spec_trGraft : FuncId := 139
abbrev i_spec_lnLeft : FuncId := 140
abbrev i_spec_lnRight : FuncId := 141
abbrev i_spec_lnRow : FuncId := 142
abbrev i_impl_node_marks : FuncId := 143
abbrev i_slices_ContainsFunc : FuncId := 144
abbrev i_impl_node_kinds_k1 : FuncId := 145
abbrev i_slices_Index_string : FuncId := 146
abbrev i_impl_node_graft : FuncId := 147
abbrev i_spec_wdExponents : FuncId := 148
abbrev i_impl_node_climbs : FuncId := 149
abbrev i_slices_Index : FuncId := 150
abbrev i_spec_lnInner : FuncId := 151
abbrev i_slices_IndexFunc : FuncId := 152
abbrev i_impl_node_graft_k1 : FuncId := 153
abbrev i_runtime_boundsError_Error : FuncId := 154
abbrev i_runtime_boundsError_RuntimeError : FuncId := 155
abbrev i_runtime_errorString_Error : FuncId := 156
abbrev i_runtime_errorString_RuntimeError : FuncId := 157
abbrev i_runtime_plainError_Error : FuncId := 158
abbrev i_runtime_plainError_RuntimeError : FuncId := 159
abbrev i_runtime_errorAddressString_Error : FuncId := 160
abbrev i_runtime_errorAddressString_RuntimeError : FuncId := 161
abbrev i_runtime_TypeAssertionError_Error : FuncId := 162
abbrev i_runtime_TypeAssertionError_RuntimeError : FuncId := 163
abbrev i_runtime_PanicNilError_Error : FuncId := 164
abbrev i_runtime_PanicNilError_RuntimeError : FuncId := 165
abbrev i_internal_abi_Type_Align : FuncId := 166
abbrev i_internal_runtime_maps_unhashableTypeError_Error : FuncId := 167
abbrev i_internal_runtime_maps_unhashableTypeError_RuntimeError : FuncId := 168
abbrev i_internal_abi_Kind_String : FuncId := 169
noncomputable abbrev P_gosem_cut_init : Func := Try.f2
theorem get_gosem_cut_init : cfg.P.funcs[i_gosem_cut_init]? = some P_gosem_cut_init := by kernel_rfl
noncomputable abbrev P_laws_FnExactProductPair : Func := Try.f3
theorem get_laws_FnExactProductPair : cfg.P.funcs[i_laws_FnExactProductPair]? = some P_laws_FnExactProductPair := by kernel_rfl
noncomputable abbrev P_laws_FnExactPowerPair : Func := Try.f4
theorem get_laws_FnExactPowerPair : cfg.P.funcs[i_laws_FnExactPowerPair]? = some P_laws_FnExactPowerPair := by kernel_rfl
noncomputable abbrev P_laws_FnExactCommutatorPair : Func := Try.f5
theorem get_laws_FnExactCommutatorPair : cfg.P.funcs[i_laws_FnExactCommutatorPair]? = some P_laws_FnExactCommutatorPair := by kernel_rfl
noncomputable abbrev P_laws_FnExactDoCommute : Func := Try.f6
theorem get_laws_FnExactDoCommute : cfg.P.funcs[i_laws_FnExactDoCommute]? = some P_laws_FnExactDoCommute := by kernel_rfl
noncomputable abbrev P_laws_FnExactPairOfForest : Func := Try.f7
theorem get_laws_FnExactPairOfForest : cfg.P.funcs[i_laws_FnExactPairOfForest]? = some P_laws_FnExactPairOfForest := by kernel_rfl
noncomputable abbrev P_laws_FnExactPairOfForests : Func := Try.f8
theorem get_laws_FnExactPairOfForests : cfg.P.funcs[i_laws_FnExactPairOfForests]? = some P_laws_FnExactPairOfForests := by kernel_rfl
noncomputable abbrev P_laws_FnExactForestsOfPair : Func := Try.f9
theorem get_laws_FnExactForestsOfPair : cfg.P.funcs[i_laws_FnExactForestsOfPair]? = some P_laws_FnExactForestsOfPair := by kernel_rfl
noncomputable abbrev P_laws_FnExactPairOfWord : Func := Try.f10
theorem get_laws_FnExactPairOfWord : cfg.P.funcs[i_laws_FnExactPairOfWord]? = some P_laws_FnExactPairOfWord := by kernel_rfl
noncomputable abbrev P_laws_FnExactLengthOf : Func := Try.f11
theorem get_laws_FnExactLengthOf : cfg.P.funcs[i_laws_FnExactLengthOf]? = some P_laws_FnExactLengthOf := by kernel_rfl
noncomputable abbrev P_laws_FnExactDistanceOf : Func := Try.f12
theorem get_laws_FnExactDistanceOf : cfg.P.funcs[i_laws_FnExactDistanceOf]? = some P_laws_FnExactDistanceOf := by kernel_rfl
noncomputable abbrev P_laws_FnExactLengthOfWord : Func := Try.f13
theorem get_laws_FnExactLengthOfWord : cfg.P.funcs[i_laws_FnExactLengthOfWord]? = some P_laws_FnExactLengthOfWord := by kernel_rfl
noncomputable abbrev P_laws_FnExactWordOfPair : Func := Try.f14
theorem get_laws_FnExactWordOfPair : cfg.P.funcs[i_laws_FnExactWordOfPair]? = some P_laws_FnExactWordOfPair := by kernel_rfl
noncomputable abbrev P_laws_szPair : Func := Try.f15
theorem get_laws_szPair : cfg.P.funcs[i_laws_szPair]? = some P_laws_szPair := by kernel_rfl
noncomputable abbrev P_spec_ProductPair : Func := Try.f16
theorem get_spec_ProductPair : cfg.P.funcs[i_spec_ProductPair]? = some P_spec_ProductPair := by kernel_rfl
noncomputable abbrev P_laws_toPair : Func := Try.f17
theorem get_laws_toPair : cfg.P.funcs[i_laws_toPair]? = some P_laws_toPair := by kernel_rfl
noncomputable abbrev P_impl_ProductPair : Func := Try.f18
theorem get_impl_ProductPair : cfg.P.funcs[i_impl_ProductPair]? = some P_impl_ProductPair := by kernel_rfl
noncomputable abbrev P_laws_eqPair : Func := Try.f19
theorem get_laws_eqPair : cfg.P.funcs[i_laws_eqPair]? = some P_laws_eqPair := by kernel_rfl
noncomputable abbrev P_spec_PowerPair : Func := Try.f20
theorem get_spec_PowerPair : cfg.P.funcs[i_spec_PowerPair]? = some P_spec_PowerPair := by kernel_rfl
noncomputable abbrev P_impl_PowerPair : Func := Try.f21
theorem get_impl_PowerPair : cfg.P.funcs[i_impl_PowerPair]? = some P_impl_PowerPair := by kernel_rfl
noncomputable abbrev P_spec_CommutatorPair : Func := Try.f22
theorem get_spec_CommutatorPair : cfg.P.funcs[i_spec_CommutatorPair]? = some P_spec_CommutatorPair := by kernel_rfl
noncomputable abbrev P_impl_CommutatorPair : Func := Try.f23
theorem get_impl_CommutatorPair : cfg.P.funcs[i_impl_CommutatorPair]? = some P_impl_CommutatorPair := by kernel_rfl
noncomputable abbrev P_spec_DoCommute : Func := Try.f24
theorem get_spec_DoCommute : cfg.P.funcs[i_spec_DoCommute]? = some P_spec_DoCommute := by kernel_rfl
noncomputable abbrev P_impl_DoCommute : Func := Try.f25
theorem get_impl_DoCommute : cfg.P.funcs[i_impl_DoCommute]? = some P_impl_DoCommute := by kernel_rfl
noncomputable abbrev P_laws_szStringS : Func := Try.f26
theorem get_laws_szStringS : cfg.P.funcs[i_laws_szStringS]? = some P_laws_szStringS := by kernel_rfl
noncomputable abbrev P_spec_PairOfForest : Func := Try.f27
theorem get_spec_PairOfForest : cfg.P.funcs[i_spec_PairOfForest]? = some P_spec_PairOfForest := by kernel_rfl
noncomputable abbrev P_laws_toStringS : Func := Try.f28
theorem get_laws_toStringS : cfg.P.funcs[i_laws_toStringS]? = some P_laws_toStringS := by kernel_rfl
noncomputable abbrev P_impl_PairOfForest : Func := Try.f29
theorem get_impl_PairOfForest : cfg.P.funcs[i_impl_PairOfForest]? = some P_impl_PairOfForest := by kernel_rfl
noncomputable abbrev P_laws_eqStringS : Func := Try.f30
theorem get_laws_eqStringS : cfg.P.funcs[i_laws_eqStringS]? = some P_laws_eqStringS := by kernel_rfl
noncomputable abbrev P_spec_PairOfForests : Func := Try.f31
theorem get_spec_PairOfForests : cfg.P.funcs[i_spec_PairOfForests]? = some P_spec_PairOfForests := by kernel_rfl
noncomputable abbrev P_impl_PairOfForests : Func := Try.f32
theorem get_impl_PairOfForests : cfg.P.funcs[i_impl_PairOfForests]? = some P_impl_PairOfForests := by kernel_rfl
noncomputable abbrev P_spec_ForestsOfPair : Func := Try.f33
theorem get_spec_ForestsOfPair : cfg.P.funcs[i_spec_ForestsOfPair]? = some P_spec_ForestsOfPair := by kernel_rfl
noncomputable abbrev P_impl_ForestsOfPair : Func := Try.f34
theorem get_impl_ForestsOfPair : cfg.P.funcs[i_impl_ForestsOfPair]? = some P_impl_ForestsOfPair := by kernel_rfl
noncomputable abbrev P_laws_markStringS : Func := Try.f35
theorem get_laws_markStringS : cfg.P.funcs[i_laws_markStringS]? = some P_laws_markStringS := by kernel_rfl
noncomputable abbrev P_laws_heldStringS : Func := Try.f36
theorem get_laws_heldStringS : cfg.P.funcs[i_laws_heldStringS]? = some P_laws_heldStringS := by kernel_rfl
noncomputable abbrev P_spec_PairOfWord : Func := Try.f37
theorem get_spec_PairOfWord : cfg.P.funcs[i_spec_PairOfWord]? = some P_spec_PairOfWord := by kernel_rfl
noncomputable abbrev P_laws_toIntS : Func := Try.f38
theorem get_laws_toIntS : cfg.P.funcs[i_laws_toIntS]? = some P_laws_toIntS := by kernel_rfl
noncomputable abbrev P_impl_PairOfWord : Func := Try.f39
theorem get_impl_PairOfWord : cfg.P.funcs[i_impl_PairOfWord]? = some P_impl_PairOfWord := by kernel_rfl
noncomputable abbrev P_laws_eqIntS : Func := Try.f40
theorem get_laws_eqIntS : cfg.P.funcs[i_laws_eqIntS]? = some P_laws_eqIntS := by kernel_rfl
noncomputable abbrev P_spec_LengthOf : Func := Try.f41
theorem get_spec_LengthOf : cfg.P.funcs[i_spec_LengthOf]? = some P_spec_LengthOf := by kernel_rfl
noncomputable abbrev P_impl_LengthOf : Func := Try.f42
theorem get_impl_LengthOf : cfg.P.funcs[i_impl_LengthOf]? = some P_impl_LengthOf := by kernel_rfl
noncomputable abbrev P_spec_DistanceOf : Func := Try.f43
theorem get_spec_DistanceOf : cfg.P.funcs[i_spec_DistanceOf]? = some P_spec_DistanceOf := by kernel_rfl
noncomputable abbrev P_impl_DistanceOf : Func := Try.f44
theorem get_impl_DistanceOf : cfg.P.funcs[i_impl_DistanceOf]? = some P_impl_DistanceOf := by kernel_rfl
noncomputable abbrev P_spec_LengthOfWord : Func := Try.f45
theorem get_spec_LengthOfWord : cfg.P.funcs[i_spec_LengthOfWord]? = some P_spec_LengthOfWord := by kernel_rfl
noncomputable abbrev P_impl_LengthOfWord : Func := Try.f46
theorem get_impl_LengthOfWord : cfg.P.funcs[i_impl_LengthOfWord]? = some P_impl_LengthOfWord := by kernel_rfl
noncomputable abbrev P_spec_WordOfPair : Func := Try.f47
theorem get_spec_WordOfPair : cfg.P.funcs[i_spec_WordOfPair]? = some P_spec_WordOfPair := by kernel_rfl
noncomputable abbrev P_impl_WordOfPair : Func := Try.f48
theorem get_impl_WordOfPair : cfg.P.funcs[i_impl_WordOfPair]? = some P_impl_WordOfPair := by kernel_rfl
noncomputable abbrev P_laws_markIntS : Func := Try.f49
theorem get_laws_markIntS : cfg.P.funcs[i_laws_markIntS]? = some P_laws_markIntS := by kernel_rfl
noncomputable abbrev P_laws_heldIntS : Func := Try.f50
theorem get_laws_heldIntS : cfg.P.funcs[i_laws_heldIntS]? = some P_laws_heldIntS := by kernel_rfl
noncomputable abbrev P_spec_prGood : Func := Try.f51
theorem get_spec_prGood : cfg.P.funcs[i_spec_prGood]? = some P_spec_prGood := by kernel_rfl
noncomputable abbrev P_spec_prIf : Func := Try.f52
theorem get_spec_prIf : cfg.P.funcs[i_spec_prIf]? = some P_spec_prIf := by kernel_rfl
noncomputable abbrev P_spec_prTimes : Func := Try.f53
theorem get_spec_prTimes : cfg.P.funcs[i_spec_prTimes]? = some P_spec_prTimes := by kernel_rfl
noncomputable abbrev P_impl_two : Func := Try.f54
theorem get_impl_two : cfg.P.funcs[i_impl_two]? = some P_impl_two := by kernel_rfl
noncomputable abbrev P_impl_pair_times : Func := Try.f55
theorem get_impl_pair_times : cfg.P.funcs[i_impl_pair_times]? = some P_impl_pair_times := by kernel_rfl
noncomputable abbrev P_impl_pair_fits : Func := Try.f56
theorem get_impl_pair_fits : cfg.P.funcs[i_impl_pair_fits]? = some P_impl_pair_fits := by kernel_rfl
noncomputable abbrev P_spec_l1In : Func := Try.f57
theorem get_spec_l1In : cfg.P.funcs[i_spec_l1In]? = some P_spec_l1In := by kernel_rfl
noncomputable abbrev P_spec_prInverse : Func := Try.f58
theorem get_spec_prInverse : cfg.P.funcs[i_spec_prInverse]? = some P_spec_prInverse := by kernel_rfl
noncomputable abbrev P_spec_prUnit : Func := Try.f59
theorem get_spec_prUnit : cfg.P.funcs[i_spec_prUnit]? = some P_spec_prUnit := by kernel_rfl
noncomputable abbrev P_spec_trCarets : Func := Try.f60
theorem get_spec_trCarets : cfg.P.funcs[i_spec_trCarets]? = some P_spec_trCarets := by kernel_rfl
noncomputable abbrev P_impl_pairOf : Func := Try.f61
theorem get_impl_pairOf : cfg.P.funcs[i_impl_pairOf]? = some P_impl_pairOf := by kernel_rfl
noncomputable abbrev P_impl_pair_inverse : Func := Try.f62
theorem get_impl_pair_inverse : cfg.P.funcs[i_impl_pair_inverse]? = some P_impl_pair_inverse := by kernel_rfl
noncomputable abbrev P_impl_pair_power : Func := Try.f63
theorem get_impl_pair_power : cfg.P.funcs[i_impl_pair_power]? = some P_impl_pair_power := by kernel_rfl
noncomputable abbrev P_impl_pair_plain : Func := Try.f64
theorem get_impl_pair_plain : cfg.P.funcs[i_impl_pair_plain]? = some P_impl_pair_plain := by kernel_rfl
noncomputable abbrev P_impl_node_carets : Func := Try.f65
theorem get_impl_node_carets : cfg.P.funcs[i_impl_node_carets]? = some P_impl_node_carets := by kernel_rfl
noncomputable abbrev P_impl_pair_text : Func := Try.f66
theorem get_impl_pair_text : cfg.P.funcs[i_impl_pair_text]? = some P_impl_pair_text := by kernel_rfl
noncomputable abbrev P_spec_foGood : Func := Try.f67
theorem get_spec_foGood : cfg.P.funcs[i_spec_foGood]? = some P_spec_foGood := by kernel_rfl
noncomputable abbrev P_spec_foPair : Func := Try.f68
theorem get_spec_foPair : cfg.P.funcs[i_spec_foPair]? = some P_spec_foPair := by kernel_rfl
noncomputable abbrev P_impl_forestOf : Func := Try.f69
theorem get_impl_forestOf : cfg.P.funcs[i_impl_forestOf]? = some P_impl_forestOf := by kernel_rfl
noncomputable abbrev P_impl_forest_pair : Func := Try.f70
theorem get_impl_forest_pair : cfg.P.funcs[i_impl_forest_pair]? = some P_impl_forest_pair := by kernel_rfl
noncomputable abbrev P_impl_twoForests : Func := Try.f71
theorem get_impl_twoForests : cfg.P.funcs[i_impl_twoForests]? = some P_impl_twoForests := by kernel_rfl
noncomputable abbrev P_spec_prReduce : Func := Try.f72
theorem get_spec_prReduce : cfg.P.funcs[i_spec_prReduce]? = some P_spec_prReduce := by kernel_rfl
noncomputable abbrev P_spec_foIf : Func := Try.f73
theorem get_spec_foIf : cfg.P.funcs[i_spec_foIf]? = some P_spec_foIf := by kernel_rfl
noncomputable abbrev P_spec_foHanging : Func := Try.f74
theorem get_spec_foHanging : cfg.P.funcs[i_spec_foHanging]? = some P_spec_foHanging := by kernel_rfl
noncomputable abbrev P_impl_pair_reduced : Func := Try.f75
theorem get_impl_pair_reduced : cfg.P.funcs[i_impl_pair_reduced]? = some P_impl_pair_reduced := by kernel_rfl
noncomputable abbrev P_impl_hanging : Func := Try.f76
theorem get_impl_hanging : cfg.P.funcs[i_impl_hanging]? = some P_impl_hanging := by kernel_rfl
noncomputable abbrev P_impl_forest_texts : Func := Try.f77
theorem get_impl_forest_texts : cfg.P.funcs[i_impl_forest_texts]? = some P_impl_forest_texts := by kernel_rfl
noncomputable abbrev P_laws_markText : Func := Try.f78
theorem get_laws_markText : cfg.P.funcs[i_laws_markText]? = some P_laws_markText := by kernel_rfl
noncomputable abbrev P_spec_wdGood : Func := Try.f79
theorem get_spec_wdGood : cfg.P.funcs[i_spec_wdGood]? = some P_spec_wdGood := by kernel_rfl
noncomputable abbrev P_spec_wdIs : Func := Try.f80
theorem get_spec_wdIs : cfg.P.funcs[i_spec_wdIs]? = some P_spec_wdIs := by kernel_rfl
noncomputable abbrev P_spec_wdLetter : Func := Try.f81
theorem get_spec_wdLetter : cfg.P.funcs[i_spec_wdLetter]? = some P_spec_wdLetter := by kernel_rfl
noncomputable abbrev P_impl_IsWord : Func := Try.f82
theorem get_impl_IsWord : cfg.P.funcs[i_impl_IsWord]? = some P_impl_IsWord := by kernel_rfl
noncomputable abbrev P_impl_pairOfWord : Func := Try.f83
theorem get_impl_pairOfWord : cfg.P.funcs[i_impl_pairOfWord]? = some P_impl_pairOfWord := by kernel_rfl
noncomputable abbrev P_spec_lnOf : Func := Try.f84
theorem get_spec_lnOf : cfg.P.funcs[i_spec_lnOf]? = some P_spec_lnOf := by kernel_rfl
noncomputable abbrev P_impl_pair_length : Func := Try.f85
theorem get_impl_pair_length : cfg.P.funcs[i_impl_pair_length]? = some P_impl_pair_length := by kernel_rfl
noncomputable abbrev P_impl_areTwo : Func := Try.f86
theorem get_impl_areTwo : cfg.P.funcs[i_impl_areTwo]? = some P_impl_areTwo := by kernel_rfl
noncomputable abbrev P_impl_letter : Func := Try.f87
theorem get_impl_letter : cfg.P.funcs[i_impl_letter]? = some P_impl_letter := by kernel_rfl
noncomputable abbrev P_spec_wdOf : Func := Try.f88
theorem get_spec_wdOf : cfg.P.funcs[i_spec_wdOf]? = some P_spec_wdOf := by kernel_rfl
noncomputable abbrev P_impl_madeWord : Func := Try.f89
theorem get_impl_madeWord : cfg.P.funcs[i_impl_madeWord]? = some P_impl_madeWord := by kernel_rfl
noncomputable abbrev P_impl_wordOfPair : Func := Try.f90
theorem get_impl_wordOfPair : cfg.P.funcs[i_impl_wordOfPair]? = some P_impl_wordOfPair := by kernel_rfl
noncomputable abbrev P_spec_trIs : Func := Try.f91
theorem get_spec_trIs : cfg.P.funcs[i_spec_trIs]? = some P_spec_trIs := by kernel_rfl
noncomputable abbrev P_spec_trJoin : Func := Try.f92
theorem get_spec_trJoin : cfg.P.funcs[i_spec_trJoin]? = some P_spec_trJoin := by kernel_rfl
noncomputable abbrev P_spec_prFill : Func := Try.f93
theorem get_spec_prFill : cfg.P.funcs[i_spec_prFill]? = some P_spec_prFill := by kernel_rfl
noncomputable abbrev P_spec_prParts : Func := Try.f94
theorem get_spec_prParts : cfg.P.funcs[i_spec_prParts]? = some P_spec_prParts := by kernel_rfl
noncomputable abbrev P_impl_join : Func := Try.f95
theorem get_impl_join : cfg.P.funcs[i_impl_join]? = some P_impl_join := by kernel_rfl
noncomputable abbrev P_impl_node_grown : Func := Try.f96
theorem get_impl_node_grown : cfg.P.funcs[i_impl_node_grown]? = some P_impl_node_grown := by kernel_rfl
noncomputable abbrev P_impl_parts : Func := Try.f97
theorem get_impl_parts : cfg.P.funcs[i_impl_parts]? = some P_impl_parts := by kernel_rfl
noncomputable abbrev P_impl_parse : Func := Try.f98
theorem get_impl_parse : cfg.P.funcs[i_impl_parse]? = some P_impl_parse := by kernel_rfl
noncomputable abbrev P_impl_node_text : Func := Try.f99
theorem get_impl_node_text : cfg.P.funcs[i_impl_node_text]? = some P_impl_node_text := by kernel_rfl
noncomputable abbrev P_spec_trLeaf : Func := Try.f100
theorem get_spec_trLeaf : cfg.P.funcs[i_spec_trLeaf]? = some P_spec_trLeaf := by kernel_rfl
noncomputable abbrev P_spec_wdComb : Func := Try.f101
theorem get_spec_wdComb : cfg.P.funcs[i_spec_wdComb]? = some P_spec_wdComb := by kernel_rfl
noncomputable abbrev P_spec_trRight : Func := Try.f102
theorem get_spec_trRight : cfg.P.funcs[i_spec_trRight]? = some P_spec_trRight := by kernel_rfl
noncomputable abbrev P_impl_forest_carets : Func := Try.f103
theorem get_impl_forest_carets : cfg.P.funcs[i_impl_forest_carets]? = some P_impl_forest_carets := by kernel_rfl
noncomputable abbrev P_impl_forest_trimmed : Func := Try.f104
theorem get_impl_forest_trimmed : cfg.P.funcs[i_impl_forest_trimmed]? = some P_impl_forest_trimmed := by kernel_rfl
noncomputable abbrev P_impl_forest_hung : Func := Try.f105
theorem get_impl_forest_hung : cfg.P.funcs[i_impl_forest_hung]? = some P_impl_forest_hung := by kernel_rfl
noncomputable abbrev P_impl_rightComb : Func := Try.f106
theorem get_impl_rightComb : cfg.P.funcs[i_impl_rightComb]? = some P_impl_rightComb := by kernel_rfl
noncomputable abbrev P_spec_prBoth : Func := Try.f107
theorem get_spec_prBoth : cfg.P.funcs[i_spec_prBoth]? = some P_spec_prBoth := by kernel_rfl
noncomputable abbrev P_spec_trDrop : Func := Try.f108
theorem get_spec_trDrop : cfg.P.funcs[i_spec_trDrop]? = some P_spec_trDrop := by kernel_rfl
noncomputable abbrev P_spec_wdShort : Func := Try.f109
theorem get_spec_wdShort : cfg.P.funcs[i_spec_wdShort]? = some P_spec_wdShort := by kernel_rfl
noncomputable abbrev P_spec_trSides : Func := Try.f110
theorem get_spec_trSides : cfg.P.funcs[i_spec_trSides]? = some P_spec_trSides := by kernel_rfl
noncomputable abbrev P_impl_pair_both : Func := Try.f111
theorem get_impl_pair_both : cfg.P.funcs[i_impl_pair_both]? = some P_impl_pair_both := by kernel_rfl
noncomputable abbrev P_impl_pair_drop : Func := Try.f112
theorem get_impl_pair_drop : cfg.P.funcs[i_impl_pair_drop]? = some P_impl_pair_drop := by kernel_rfl
noncomputable abbrev P_spec_prGenerator : Func := Try.f113
theorem get_spec_prGenerator : cfg.P.funcs[i_spec_prGenerator]? = some P_spec_prGenerator := by kernel_rfl
noncomputable abbrev P_impl_isLetter : Func := Try.f114
theorem get_impl_isLetter : cfg.P.funcs[i_impl_isLetter]? = some P_impl_isLetter := by kernel_rfl
noncomputable abbrev P_impl_size : Func := Try.f115
theorem get_impl_size : cfg.P.funcs[i_impl_size]? = some P_impl_size := by kernel_rfl
noncomputable abbrev P_spec_lnKinds : Func := Try.f116
theorem get_spec_lnKinds : cfg.P.funcs[i_spec_lnKinds]? = some P_spec_lnKinds := by kernel_rfl
noncomputable abbrev P_spec_lnTable : Func := Try.f117
theorem get_spec_lnTable : cfg.P.funcs[i_spec_lnTable]? = some P_spec_lnTable := by kernel_rfl
noncomputable abbrev P_impl_node_kinds : Func := Try.f118
theorem get_impl_node_kinds : cfg.P.funcs[i_impl_node_kinds]? = some P_impl_node_kinds := by kernel_rfl
noncomputable abbrev P_impl_KindLength : Func := Try.f119
theorem get_impl_KindLength : cfg.P.funcs[i_impl_KindLength]? = some P_impl_KindLength := by kernel_rfl
noncomputable abbrev P_impl_generator : Func := Try.f120
theorem get_impl_generator : cfg.P.funcs[i_impl_generator]? = some P_impl_generator := by kernel_rfl
noncomputable abbrev P_spec_wdRight : Func := Try.f121
theorem get_spec_wdRight : cfg.P.funcs[i_spec_wdRight]? = some P_spec_wdRight := by kernel_rfl
noncomputable abbrev P_spec_wdInverse : Func := Try.f122
theorem get_spec_wdInverse : cfg.P.funcs[i_spec_wdInverse]? = some P_spec_wdInverse := by kernel_rfl
noncomputable abbrev P_impl_wordOf : Func := Try.f123
theorem get_impl_wordOf : cfg.P.funcs[i_impl_wordOf]? = some P_impl_wordOf := by kernel_rfl
noncomputable abbrev P_impl_node_exponents : Func := Try.f124
theorem get_impl_node_exponents : cfg.P.funcs[i_impl_node_exponents]? = some P_impl_node_exponents := by kernel_rfl
noncomputable abbrev P_impl_inverseOf : Func := Try.f125
theorem get_impl_inverseOf : cfg.P.funcs[i_impl_inverseOf]? = some P_impl_inverseOf := by kernel_rfl
noncomputable abbrev P_spec_trEnd : Func := Try.f126
theorem get_spec_trEnd : cfg.P.funcs[i_spec_trEnd]? = some P_spec_trEnd := by kernel_rfl
noncomputable abbrev P_spec_trOf : Func := Try.f127
theorem get_spec_trOf : cfg.P.funcs[i_spec_trOf]? = some P_spec_trOf := by kernel_rfl
noncomputable abbrev P_impl_node_leaves : Func := Try.f128
theorem get_impl_node_leaves : cfg.P.funcs[i_impl_node_leaves]? = some P_impl_node_leaves := by kernel_rfl
noncomputable abbrev P_impl_node_addresses : Func := Try.f129
theorem get_impl_node_addresses : cfg.P.funcs[i_impl_node_addresses]? = some P_impl_node_addresses := by kernel_rfl
noncomputable abbrev P_impl_parts_k1 : Func := Try.f130
theorem get_impl_parts_k1 : cfg.P.funcs[i_impl_parts_k1]? = some P_impl_parts_k1 := by kernel_rfl
noncomputable abbrev P_impl_node_at : Func := Try.f131
theorem get_impl_node_at : cfg.P.funcs[i_impl_node_at]? = some P_impl_node_at := by kernel_rfl
noncomputable abbrev P_impl_read : Func := Try.f132
theorem get_impl_read : cfg.P.funcs[i_impl_read]? = some P_impl_read := by kernel_rfl
noncomputable abbrev P_impl_forest_tree : Func := Try.f133
theorem get_impl_forest_tree : cfg.P.funcs[i_impl_forest_tree]? = some P_impl_forest_tree := by kernel_rfl
noncomputable abbrev P_spec_trExposed : Func := Try.f134
theorem get_spec_trExposed : cfg.P.funcs[i_spec_trExposed]? = some P_spec_trExposed := by kernel_rfl
noncomputable abbrev P_spec_l1Has : Func := Try.f135
theorem get_spec_l1Has : cfg.P.funcs[i_spec_l1Has]? = some P_spec_l1Has := by kernel_rfl
noncomputable abbrev P_impl_node_exposed : Func := Try.f136
theorem get_impl_node_exposed : cfg.P.funcs[i_impl_node_exposed]? = some P_impl_node_exposed := by kernel_rfl
noncomputable abbrev P_slices_Contains : Func := Try.f137
theorem get_slices_Contains : cfg.P.funcs[i_slices_Contains]? = some P_slices_Contains := by kernel_rfl
noncomputable abbrev P_impl_node_without : Func := Try.f138
theorem get_impl_node_without : cfg.P.funcs[i_impl_node_without]? = some P_impl_node_without := by kernel_rfl
noncomputable abbrev P_spec_trGraft : Func := Try.f139
theorem get_spec_trGraft : cfg.P.funcs[i_spec_trGraft]? = some P_spec_trGraft := by kernel_rfl
noncomputable abbrev P_spec_lnLeft : Func := Try.f140
theorem get_spec_lnLeft : cfg.P.funcs[i_spec_lnLeft]? = some P_spec_lnLeft := by kernel_rfl
noncomputable abbrev P_spec_lnRight : Func := Try.f141
theorem get_spec_lnRight : cfg.P.funcs[i_spec_lnRight]? = some P_spec_lnRight := by kernel_rfl
noncomputable abbrev P_spec_lnRow : Func := Try.f142
theorem get_spec_lnRow : cfg.P.funcs[i_spec_lnRow]? = some P_spec_lnRow := by kernel_rfl
noncomputable abbrev P_impl_node_marks : Func := Try.f143
theorem get_impl_node_marks : cfg.P.funcs[i_impl_node_marks]? = some P_impl_node_marks := by kernel_rfl
noncomputable abbrev P_slices_ContainsFunc : Func := Try.f144
theorem get_slices_ContainsFunc : cfg.P.funcs[i_slices_ContainsFunc]? = some P_slices_ContainsFunc := by kernel_rfl
noncomputable abbrev P_impl_node_kinds_k1 : Func := Try.f145
theorem get_impl_node_kinds_k1 : cfg.P.funcs[i_impl_node_kinds_k1]? = some P_impl_node_kinds_k1 := by kernel_rfl
noncomputable abbrev P_slices_Index_string : Func := Try.f146
theorem get_slices_Index_string : cfg.P.funcs[i_slices_Index_string]? = some P_slices_Index_string := by kernel_rfl
noncomputable abbrev P_impl_node_graft : Func := Try.f147
theorem get_impl_node_graft : cfg.P.funcs[i_impl_node_graft]? = some P_impl_node_graft := by kernel_rfl
noncomputable abbrev P_spec_wdExponents : Func := Try.f148
theorem get_spec_wdExponents : cfg.P.funcs[i_spec_wdExponents]? = some P_spec_wdExponents := by kernel_rfl
noncomputable abbrev P_impl_node_climbs : Func := Try.f149
theorem get_impl_node_climbs : cfg.P.funcs[i_impl_node_climbs]? = some P_impl_node_climbs := by kernel_rfl
noncomputable abbrev P_slices_Index : Func := Try.f150
theorem get_slices_Index : cfg.P.funcs[i_slices_Index]? = some P_slices_Index := by kernel_rfl
noncomputable abbrev P_spec_lnInner : Func := Try.f151
theorem get_spec_lnInner : cfg.P.funcs[i_spec_lnInner]? = some P_spec_lnInner := by kernel_rfl
noncomputable abbrev P_slices_IndexFunc : Func := Try.f152
theorem get_slices_IndexFunc : cfg.P.funcs[i_slices_IndexFunc]? = some P_slices_IndexFunc := by kernel_rfl
noncomputable abbrev P_impl_node_graft_k1 : Func := Try.f153
theorem get_impl_node_graft_k1 : cfg.P.funcs[i_impl_node_graft_k1]? = some P_impl_node_graft_k1 := by kernel_rfl
end Go.AI
