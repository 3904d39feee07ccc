/- A part of the road: what it proves stands in its last texts. -/
import Derived.Test.YtlimomnchicfgaaSCfg
import Derived.Test.YtlimomnchicfgaaProg
set_option autoImplicit false
set_option maxRecDepth 100000
set_option linter.unusedVariables false
namespace Go.AI
open Go.Proofs

abbrev t_int : TypeId := 3
abbrev t_string : TypeId := 9
abbrev t_Sint : TypeId := 34
abbrev t_Sstring : TypeId := 42
abbrev t_Simpl_pair : TypeId := 45
abbrev t_impl_pair : TypeId := 54
abbrev t_impl_mark : TypeId := 108
abbrev i_main_main : FuncId := 0
abbrev i_gosem_cut : FuncId := 1
abbrev i_gosem_cut_init : FuncId := 2
abbrev i_laws_FnExactSphereSize : FuncId := 3
abbrev i_laws_FnExactLengthBySpheres : FuncId := 4
abbrev i_laws_FnExactCountShortest : FuncId := 5
abbrev i_laws_FnExactNextLengths : FuncId := 6
abbrev i_laws_FnExactIsDeadEnd : FuncId := 7
abbrev i_laws_FnExactShortestWord : FuncId := 8
abbrev i_spec_SphereSize : FuncId := 9
abbrev i_impl_SphereSize : FuncId := 10
abbrev i_laws_szPair : FuncId := 11
abbrev i_spec_LengthBySpheres : FuncId := 12
abbrev i_laws_toPair : FuncId := 13
abbrev i_impl_LengthBySpheres : FuncId := 14
abbrev i_spec_CountShortest : FuncId := 15
abbrev i_impl_CountShortest : FuncId := 16
abbrev i_spec_NextLengths : FuncId := 17
abbrev i_impl_NextLengths : FuncId := 18
abbrev i_laws_eqIntS : FuncId := 19
abbrev i_laws_markIntS : FuncId := 20
abbrev i_laws_heldIntS : FuncId := 21
abbrev i_spec_IsDeadEnd : FuncId := 22
abbrev i_impl_IsDeadEnd : FuncId := 23
abbrev i_spec_ShortestWord : FuncId := 24
abbrev i_impl_ShortestWord : FuncId := 25
abbrev i_spec_l1In : FuncId := 26
abbrev i_spec_lnSpheres : FuncId := 27
abbrev i_impl_spheres : FuncId := 28
abbrev i_spec_prGood : FuncId := 29
abbrev i_spec_prText : FuncId := 30
abbrev i_spec_prReduce : FuncId := 31
abbrev i_spec_lnHas : FuncId := 32
abbrev i_impl_pairOf : FuncId := 33
abbrev i_impl_pair_reduced : FuncId := 34
abbrev i_impl_pair_text : FuncId := 35
abbrev i_spec_trCarets : FuncId := 36
abbrev i_spec_lnCount : FuncId := 37
abbrev i_impl_node_carets : FuncId := 38
abbrev i_impl_pair_shortest : FuncId := 39
abbrev i_spec_lnNext : FuncId := 40
abbrev i_impl_letters : FuncId := 41
abbrev i_impl_pair_times : FuncId := 42
abbrev i_impl_letter : FuncId := 43
abbrev i_impl_pair_length : FuncId := 44
abbrev i_spec_lnOf : FuncId := 45
abbrev i_impl_LengthOf : FuncId := 46
abbrev i_slices_Max : FuncId := 47
abbrev i_spec_lnLetters : FuncId := 48
abbrev i_spec_prTimes : FuncId := 49
abbrev i_spec_wdLetter : FuncId := 50
abbrev i_spec_prUnit : FuncId := 51
abbrev i_spec_prParse : FuncId := 52
abbrev i_spec_lnSorted : FuncId := 53
abbrev i_spec_trIs : FuncId := 54
abbrev i_spec_prBoth : FuncId := 55
abbrev i_spec_trDrop : FuncId := 56
abbrev i_impl_parse : FuncId := 57
abbrev i_impl_pair_both : FuncId := 58
abbrev i_impl_pair_drop : FuncId := 59
abbrev i_impl_node_text : FuncId := 60
abbrev i_impl_join : FuncId := 61
abbrev i_impl_node_grown : FuncId := 62
abbrev i_impl_parts : FuncId := 63
abbrev i_impl_generator : FuncId := 64
abbrev i_impl_size : FuncId := 65
abbrev i_impl_pair_inverse : FuncId := 66
abbrev i_impl_node_kinds : FuncId := 67
abbrev i_impl_KindLength : FuncId := 68
abbrev i_spec_lnKinds : FuncId := 69
abbrev i_spec_lnTable : FuncId := 70
abbrev i_spec_trJoin : FuncId := 71
abbrev i_spec_prFill : FuncId := 72
abbrev i_spec_prParts : FuncId := 73
abbrev i_spec_prInverse : FuncId := 74
abbrev i_spec_prGenerator : FuncId := 75
abbrev i_spec_l1Split : FuncId := 76
abbrev i_spec_prIf : FuncId := 77
abbrev i_spec_trEnd : FuncId := 78
abbrev i_spec_trExposed : FuncId := 79
abbrev i_spec_l1Has : FuncId := 80
abbrev i_impl_read : FuncId := 81
abbrev i_impl_node_exposed : FuncId := 82
abbrev i_slices_Contains : FuncId := 83
abbrev i_impl_node_without : FuncId := 84
abbrev i_impl_node_leaves : FuncId := 85
abbrev i_impl_node_addresses : FuncId := 86
abbrev i_impl_parts_k1 : FuncId := 87
abbrev i_impl_node_at : FuncId := 88
abbrev i_impl_rightComb : FuncId := 89
abbrev i_impl_node_graft : FuncId := 90
abbrev i_impl_node_marks : FuncId := 91
abbrev i_slices_ContainsFunc : FuncId := 92
abbrev i_impl_node_kinds_k1 : FuncId := 93
abbrev i_slices_Index_string : FuncId := 94
abbrev i_spec_trLeaf : FuncId := 95
abbrev i_spec_trSides : FuncId := 96
abbrev i_spec_lnLeft : FuncId := 97
abbrev i_spec_lnRight : FuncId := 98
abbrev i_spec_lnRow : FuncId := 99
abbrev i_spec_trOf : FuncId := 100
abbrev i_spec_trGraft : FuncId := 101
abbrev i_spec_trRight : FuncId := 102
abbrev i_slices_Index : FuncId := 103
abbrev i_impl_node_graft_k1 : FuncId := 104
abbrev i_slices_IndexFunc : FuncId := 105
abbrev i_spec_lnInner : FuncId := 106
abbrev i_runtime_boundsError_Error : FuncId := 107
abbrev i_runtime_boundsError_RuntimeError : FuncId := 108
abbrev i_runtime_errorString_Error : FuncId := 109
abbrev i_runtime_errorString_RuntimeError : FuncId := 110
abbrev i_runtime_plainError_Error : FuncId := 111
abbrev i_runtime_plainError_RuntimeError : FuncId := 112
abbrev i_runtime_errorAddressString_Error : FuncId := 113
abbrev i_runtime_errorAddressString_RuntimeError : FuncId := 114
abbrev i_runtime_TypeAssertionError_Error : FuncId := 115
abbrev i_runtime_TypeAssertionError_RuntimeError : FuncId := 116
abbrev i_runtime_PanicNilError_Error : FuncId := 117
abbrev i_runtime_PanicNilError_RuntimeError : FuncId := 118
abbrev i_internal_abi_Type_Align : FuncId := 119
abbrev i_internal_runtime_maps_unhashableTypeError_Error : FuncId := 120
abbrev i_internal_runtime_maps_unhashableTypeError_RuntimeError : FuncId := 121
abbrev i_internal_abi_Kind_String : FuncId := 122
noncomputable abbrev P_gosem_cut_init : Func := Try.f2
theorem get_gosem_cut_init : cfg.P.funcs[i_gosem_cut_init]? = some P_gosem_cut_init := by kernel_rfl
noncomputable abbrev P_laws_FnExactSphereSize : Func := Try.f3
theorem get_laws_FnExactSphereSize : cfg.P.funcs[i_laws_FnExactSphereSize]? = some P_laws_FnExactSphereSize := by kernel_rfl
noncomputable abbrev P_laws_FnExactLengthBySpheres : Func := Try.f4
theorem get_laws_FnExactLengthBySpheres : cfg.P.funcs[i_laws_FnExactLengthBySpheres]? = some P_laws_FnExactLengthBySpheres := by kernel_rfl
noncomputable abbrev P_laws_FnExactCountShortest : Func := Try.f5
theorem get_laws_FnExactCountShortest : cfg.P.funcs[i_laws_FnExactCountShortest]? = some P_laws_FnExactCountShortest := by kernel_rfl
noncomputable abbrev P_laws_FnExactNextLengths : Func := Try.f6
theorem get_laws_FnExactNextLengths : cfg.P.funcs[i_laws_FnExactNextLengths]? = some P_laws_FnExactNextLengths := by kernel_rfl
noncomputable abbrev P_laws_FnExactIsDeadEnd : Func := Try.f7
theorem get_laws_FnExactIsDeadEnd : cfg.P.funcs[i_laws_FnExactIsDeadEnd]? = some P_laws_FnExactIsDeadEnd := by kernel_rfl
noncomputable abbrev P_laws_FnExactShortestWord : Func := Try.f8
theorem get_laws_FnExactShortestWord : cfg.P.funcs[i_laws_FnExactShortestWord]? = some P_laws_FnExactShortestWord := by kernel_rfl
noncomputable abbrev P_spec_SphereSize : Func := Try.f9
theorem get_spec_SphereSize : cfg.P.funcs[i_spec_SphereSize]? = some P_spec_SphereSize := by kernel_rfl
noncomputable abbrev P_impl_SphereSize : Func := Try.f10
theorem get_impl_SphereSize : cfg.P.funcs[i_impl_SphereSize]? = some P_impl_SphereSize := by kernel_rfl
noncomputable abbrev P_laws_szPair : Func := Try.f11
theorem get_laws_szPair : cfg.P.funcs[i_laws_szPair]? = some P_laws_szPair := by kernel_rfl
noncomputable abbrev P_spec_LengthBySpheres : Func := Try.f12
theorem get_spec_LengthBySpheres : cfg.P.funcs[i_spec_LengthBySpheres]? = some P_spec_LengthBySpheres := by kernel_rfl
noncomputable abbrev P_laws_toPair : Func := Try.f13
theorem get_laws_toPair : cfg.P.funcs[i_laws_toPair]? = some P_laws_toPair := by kernel_rfl
noncomputable abbrev P_impl_LengthBySpheres : Func := Try.f14
theorem get_impl_LengthBySpheres : cfg.P.funcs[i_impl_LengthBySpheres]? = some P_impl_LengthBySpheres := by kernel_rfl
noncomputable abbrev P_spec_CountShortest : Func := Try.f15
theorem get_spec_CountShortest : cfg.P.funcs[i_spec_CountShortest]? = some P_spec_CountShortest := by kernel_rfl
noncomputable abbrev P_impl_CountShortest : Func := Try.f16
theorem get_impl_CountShortest : cfg.P.funcs[i_impl_CountShortest]? = some P_impl_CountShortest := by kernel_rfl
noncomputable abbrev P_spec_NextLengths : Func := Try.f17
theorem get_spec_NextLengths : cfg.P.funcs[i_spec_NextLengths]? = some P_spec_NextLengths := by kernel_rfl
noncomputable abbrev P_impl_NextLengths : Func := Try.f18
theorem get_impl_NextLengths : cfg.P.funcs[i_impl_NextLengths]? = some P_impl_NextLengths := by kernel_rfl
noncomputable abbrev P_laws_eqIntS : Func := Try.f19
theorem get_laws_eqIntS : cfg.P.funcs[i_laws_eqIntS]? = some P_laws_eqIntS := by kernel_rfl
noncomputable abbrev P_laws_markIntS : Func := Try.f20
theorem get_laws_markIntS : cfg.P.funcs[i_laws_markIntS]? = some P_laws_markIntS := by kernel_rfl
noncomputable abbrev P_laws_heldIntS : Func := Try.f21
theorem get_laws_heldIntS : cfg.P.funcs[i_laws_heldIntS]? = some P_laws_heldIntS := by kernel_rfl
noncomputable abbrev P_spec_IsDeadEnd : Func := Try.f22
theorem get_spec_IsDeadEnd : cfg.P.funcs[i_spec_IsDeadEnd]? = some P_spec_IsDeadEnd := by kernel_rfl
noncomputable abbrev P_impl_IsDeadEnd : Func := Try.f23
theorem get_impl_IsDeadEnd : cfg.P.funcs[i_impl_IsDeadEnd]? = some P_impl_IsDeadEnd := by kernel_rfl
noncomputable abbrev P_spec_ShortestWord : Func := Try.f24
theorem get_spec_ShortestWord : cfg.P.funcs[i_spec_ShortestWord]? = some P_spec_ShortestWord := by kernel_rfl
noncomputable abbrev P_impl_ShortestWord : Func := Try.f25
theorem get_impl_ShortestWord : cfg.P.funcs[i_impl_ShortestWord]? = some P_impl_ShortestWord := by kernel_rfl
noncomputable abbrev P_spec_l1In : Func := Try.f26
theorem get_spec_l1In : cfg.P.funcs[i_spec_l1In]? = some P_spec_l1In := by kernel_rfl
noncomputable abbrev P_spec_lnSpheres : Func := Try.f27
theorem get_spec_lnSpheres : cfg.P.funcs[i_spec_lnSpheres]? = some P_spec_lnSpheres := by kernel_rfl
noncomputable abbrev P_impl_spheres : Func := Try.f28
theorem get_impl_spheres : cfg.P.funcs[i_impl_spheres]? = some P_impl_spheres := by kernel_rfl
noncomputable abbrev P_spec_prGood : Func := Try.f29
theorem get_spec_prGood : cfg.P.funcs[i_spec_prGood]? = some P_spec_prGood := by kernel_rfl
noncomputable abbrev P_spec_prText : Func := Try.f30
theorem get_spec_prText : cfg.P.funcs[i_spec_prText]? = some P_spec_prText := by kernel_rfl
noncomputable abbrev P_spec_prReduce : Func := Try.f31
theorem get_spec_prReduce : cfg.P.funcs[i_spec_prReduce]? = some P_spec_prReduce := by kernel_rfl
noncomputable abbrev P_spec_lnHas : Func := Try.f32
theorem get_spec_lnHas : cfg.P.funcs[i_spec_lnHas]? = some P_spec_lnHas := by kernel_rfl
noncomputable abbrev P_impl_pairOf : Func := Try.f33
theorem get_impl_pairOf : cfg.P.funcs[i_impl_pairOf]? = some P_impl_pairOf := by kernel_rfl
noncomputable abbrev P_impl_pair_reduced : Func := Try.f34
theorem get_impl_pair_reduced : cfg.P.funcs[i_impl_pair_reduced]? = some P_impl_pair_reduced := by kernel_rfl
noncomputable abbrev P_impl_pair_text : Func := Try.f35
theorem get_impl_pair_text : cfg.P.funcs[i_impl_pair_text]? = some P_impl_pair_text := by kernel_rfl
noncomputable abbrev P_spec_trCarets : Func := Try.f36
theorem get_spec_trCarets : cfg.P.funcs[i_spec_trCarets]? = some P_spec_trCarets := by kernel_rfl
noncomputable abbrev P_spec_lnCount : Func := Try.f37
theorem get_spec_lnCount : cfg.P.funcs[i_spec_lnCount]? = some P_spec_lnCount := by kernel_rfl
noncomputable abbrev P_impl_node_carets : Func := Try.f38
theorem get_impl_node_carets : cfg.P.funcs[i_impl_node_carets]? = some P_impl_node_carets := by kernel_rfl
noncomputable abbrev P_impl_pair_shortest : Func := Try.f39
theorem get_impl_pair_shortest : cfg.P.funcs[i_impl_pair_shortest]? = some P_impl_pair_shortest := by kernel_rfl
noncomputable abbrev P_spec_lnNext : Func := Try.f40
theorem get_spec_lnNext : cfg.P.funcs[i_spec_lnNext]? = some P_spec_lnNext := by kernel_rfl
noncomputable abbrev P_impl_letters : Func := Try.f41
theorem get_impl_letters : cfg.P.funcs[i_impl_letters]? = some P_impl_letters := by kernel_rfl
noncomputable abbrev P_impl_pair_times : Func := Try.f42
theorem get_impl_pair_times : cfg.P.funcs[i_impl_pair_times]? = some P_impl_pair_times := by kernel_rfl
noncomputable abbrev P_impl_letter : Func := Try.f43
theorem get_impl_letter : cfg.P.funcs[i_impl_letter]? = some P_impl_letter := by kernel_rfl
noncomputable abbrev P_impl_pair_length : Func := Try.f44
theorem get_impl_pair_length : cfg.P.funcs[i_impl_pair_length]? = some P_impl_pair_length := by kernel_rfl
noncomputable abbrev P_spec_lnOf : Func := Try.f45
theorem get_spec_lnOf : cfg.P.funcs[i_spec_lnOf]? = some P_spec_lnOf := by kernel_rfl
noncomputable abbrev P_impl_LengthOf : Func := Try.f46
theorem get_impl_LengthOf : cfg.P.funcs[i_impl_LengthOf]? = some P_impl_LengthOf := by kernel_rfl
noncomputable abbrev P_slices_Max : Func := Try.f47
theorem get_slices_Max : cfg.P.funcs[i_slices_Max]? = some P_slices_Max := by kernel_rfl
noncomputable abbrev P_spec_lnLetters : Func := Try.f48
theorem get_spec_lnLetters : cfg.P.funcs[i_spec_lnLetters]? = some P_spec_lnLetters := by kernel_rfl
noncomputable abbrev P_spec_prTimes : Func := Try.f49
theorem get_spec_prTimes : cfg.P.funcs[i_spec_prTimes]? = some P_spec_prTimes := by kernel_rfl
noncomputable abbrev P_spec_wdLetter : Func := Try.f50
theorem get_spec_wdLetter : cfg.P.funcs[i_spec_wdLetter]? = some P_spec_wdLetter := by kernel_rfl
noncomputable abbrev P_spec_prUnit : Func := Try.f51
theorem get_spec_prUnit : cfg.P.funcs[i_spec_prUnit]? = some P_spec_prUnit := by kernel_rfl
noncomputable abbrev P_spec_prParse : Func := Try.f52
theorem get_spec_prParse : cfg.P.funcs[i_spec_prParse]? = some P_spec_prParse := by kernel_rfl
noncomputable abbrev P_spec_lnSorted : Func := Try.f53
theorem get_spec_lnSorted : cfg.P.funcs[i_spec_lnSorted]? = some P_spec_lnSorted := by kernel_rfl
noncomputable abbrev P_spec_trIs : Func := Try.f54
theorem get_spec_trIs : cfg.P.funcs[i_spec_trIs]? = some P_spec_trIs := by kernel_rfl
noncomputable abbrev P_spec_prBoth : Func := Try.f55
theorem get_spec_prBoth : cfg.P.funcs[i_spec_prBoth]? = some P_spec_prBoth := by kernel_rfl
noncomputable abbrev P_spec_trDrop : Func := Try.f56
theorem get_spec_trDrop : cfg.P.funcs[i_spec_trDrop]? = some P_spec_trDrop := by kernel_rfl
noncomputable abbrev P_impl_parse : Func := Try.f57
theorem get_impl_parse : cfg.P.funcs[i_impl_parse]? = some P_impl_parse := by kernel_rfl
noncomputable abbrev P_impl_pair_both : Func := Try.f58
theorem get_impl_pair_both : cfg.P.funcs[i_impl_pair_both]? = some P_impl_pair_both := by kernel_rfl
noncomputable abbrev P_impl_pair_drop : Func := Try.f59
theorem get_impl_pair_drop : cfg.P.funcs[i_impl_pair_drop]? = some P_impl_pair_drop := by kernel_rfl
noncomputable abbrev P_impl_node_text : Func := Try.f60
theorem get_impl_node_text : cfg.P.funcs[i_impl_node_text]? = some P_impl_node_text := by kernel_rfl
noncomputable abbrev P_impl_join : Func := Try.f61
theorem get_impl_join : cfg.P.funcs[i_impl_join]? = some P_impl_join := by kernel_rfl
noncomputable abbrev P_impl_node_grown : Func := Try.f62
theorem get_impl_node_grown : cfg.P.funcs[i_impl_node_grown]? = some P_impl_node_grown := by kernel_rfl
noncomputable abbrev P_impl_parts : Func := Try.f63
theorem get_impl_parts : cfg.P.funcs[i_impl_parts]? = some P_impl_parts := by kernel_rfl
noncomputable abbrev P_impl_generator : Func := Try.f64
theorem get_impl_generator : cfg.P.funcs[i_impl_generator]? = some P_impl_generator := by kernel_rfl
noncomputable abbrev P_impl_size : Func := Try.f65
theorem get_impl_size : cfg.P.funcs[i_impl_size]? = some P_impl_size := by kernel_rfl
noncomputable abbrev P_impl_pair_inverse : Func := Try.f66
theorem get_impl_pair_inverse : cfg.P.funcs[i_impl_pair_inverse]? = some P_impl_pair_inverse := by kernel_rfl
noncomputable abbrev P_impl_node_kinds : Func := Try.f67
theorem get_impl_node_kinds : cfg.P.funcs[i_impl_node_kinds]? = some P_impl_node_kinds := by kernel_rfl
noncomputable abbrev P_impl_KindLength : Func := Try.f68
theorem get_impl_KindLength : cfg.P.funcs[i_impl_KindLength]? = some P_impl_KindLength := by kernel_rfl
noncomputable abbrev P_spec_lnKinds : Func := Try.f69
theorem get_spec_lnKinds : cfg.P.funcs[i_spec_lnKinds]? = some P_spec_lnKinds := by kernel_rfl
noncomputable abbrev P_spec_lnTable : Func := Try.f70
theorem get_spec_lnTable : cfg.P.funcs[i_spec_lnTable]? = some P_spec_lnTable := by kernel_rfl
noncomputable abbrev P_spec_trJoin : Func := Try.f71
theorem get_spec_trJoin : cfg.P.funcs[i_spec_trJoin]? = some P_spec_trJoin := by kernel_rfl
noncomputable abbrev P_spec_prFill : Func := Try.f72
theorem get_spec_prFill : cfg.P.funcs[i_spec_prFill]? = some P_spec_prFill := by kernel_rfl
noncomputable abbrev P_spec_prParts : Func := Try.f73
theorem get_spec_prParts : cfg.P.funcs[i_spec_prParts]? = some P_spec_prParts := by kernel_rfl
noncomputable abbrev P_spec_prInverse : Func := Try.f74
theorem get_spec_prInverse : cfg.P.funcs[i_spec_prInverse]? = some P_spec_prInverse := by kernel_rfl
noncomputable abbrev P_spec_prGenerator : Func := Try.f75
theorem get_spec_prGenerator : cfg.P.funcs[i_spec_prGenerator]? = some P_spec_prGenerator := by kernel_rfl
noncomputable abbrev P_spec_l1Split : Func := Try.f76
theorem get_spec_l1Split : cfg.P.funcs[i_spec_l1Split]? = some P_spec_l1Split := by kernel_rfl
noncomputable abbrev P_spec_prIf : Func := Try.f77
theorem get_spec_prIf : cfg.P.funcs[i_spec_prIf]? = some P_spec_prIf := by kernel_rfl
noncomputable abbrev P_spec_trEnd : Func := Try.f78
theorem get_spec_trEnd : cfg.P.funcs[i_spec_trEnd]? = some P_spec_trEnd := by kernel_rfl
noncomputable abbrev P_spec_trExposed : Func := Try.f79
theorem get_spec_trExposed : cfg.P.funcs[i_spec_trExposed]? = some P_spec_trExposed := by kernel_rfl
noncomputable abbrev P_spec_l1Has : Func := Try.f80
theorem get_spec_l1Has : cfg.P.funcs[i_spec_l1Has]? = some P_spec_l1Has := by kernel_rfl
noncomputable abbrev P_impl_read : Func := Try.f81
theorem get_impl_read : cfg.P.funcs[i_impl_read]? = some P_impl_read := by kernel_rfl
noncomputable abbrev P_impl_node_exposed : Func := Try.f82
theorem get_impl_node_exposed : cfg.P.funcs[i_impl_node_exposed]? = some P_impl_node_exposed := by kernel_rfl
noncomputable abbrev P_slices_Contains : Func := Try.f83
theorem get_slices_Contains : cfg.P.funcs[i_slices_Contains]? = some P_slices_Contains := by kernel_rfl
noncomputable abbrev P_impl_node_without : Func := Try.f84
theorem get_impl_node_without : cfg.P.funcs[i_impl_node_without]? = some P_impl_node_without := by kernel_rfl
noncomputable abbrev P_impl_node_leaves : Func := Try.f85
theorem get_impl_node_leaves : cfg.P.funcs[i_impl_node_leaves]? = some P_impl_node_leaves := by kernel_rfl
noncomputable abbrev P_impl_node_addresses : Func := Try.f86
theorem get_impl_node_addresses : cfg.P.funcs[i_impl_node_addresses]? = some P_impl_node_addresses := by kernel_rfl
noncomputable abbrev P_impl_parts_k1 : Func := Try.f87
theorem get_impl_parts_k1 : cfg.P.funcs[i_impl_parts_k1]? = some P_impl_parts_k1 := by kernel_rfl
noncomputable abbrev P_impl_node_at : Func := Try.f88
theorem get_impl_node_at : cfg.P.funcs[i_impl_node_at]? = some P_impl_node_at := by kernel_rfl
noncomputable abbrev P_impl_rightComb : Func := Try.f89
theorem get_impl_rightComb : cfg.P.funcs[i_impl_rightComb]? = some P_impl_rightComb := by kernel_rfl
noncomputable abbrev P_impl_node_graft : Func := Try.f90
theorem get_impl_node_graft : cfg.P.funcs[i_impl_node_graft]? = some P_impl_node_graft := by kernel_rfl
noncomputable abbrev P_impl_node_marks : Func := Try.f91
theorem get_impl_node_marks : cfg.P.funcs[i_impl_node_marks]? = some P_impl_node_marks := by kernel_rfl
noncomputable abbrev P_slices_ContainsFunc : Func := Try.f92
theorem get_slices_ContainsFunc : cfg.P.funcs[i_slices_ContainsFunc]? = some P_slices_ContainsFunc := by kernel_rfl
noncomputable abbrev P_impl_node_kinds_k1 : Func := Try.f93
theorem get_impl_node_kinds_k1 : cfg.P.funcs[i_impl_node_kinds_k1]? = some P_impl_node_kinds_k1 := by kernel_rfl
noncomputable abbrev P_slices_Index_string : Func := Try.f94
theorem get_slices_Index_string : cfg.P.funcs[i_slices_Index_string]? = some P_slices_Index_string := by kernel_rfl
noncomputable abbrev P_spec_trLeaf : Func := Try.f95
theorem get_spec_trLeaf : cfg.P.funcs[i_spec_trLeaf]? = some P_spec_trLeaf := by kernel_rfl
noncomputable abbrev P_spec_trSides : Func := Try.f96
theorem get_spec_trSides : cfg.P.funcs[i_spec_trSides]? = some P_spec_trSides := by kernel_rfl
noncomputable abbrev P_spec_lnLeft : Func := Try.f97
theorem get_spec_lnLeft : cfg.P.funcs[i_spec_lnLeft]? = some P_spec_lnLeft := by kernel_rfl
noncomputable abbrev P_spec_lnRight : Func := Try.f98
theorem get_spec_lnRight : cfg.P.funcs[i_spec_lnRight]? = some P_spec_lnRight := by kernel_rfl
noncomputable abbrev P_spec_lnRow : Func := Try.f99
theorem get_spec_lnRow : cfg.P.funcs[i_spec_lnRow]? = some P_spec_lnRow := by kernel_rfl
noncomputable abbrev P_spec_trOf : Func := Try.f100
theorem get_spec_trOf : cfg.P.funcs[i_spec_trOf]? = some P_spec_trOf := by kernel_rfl
noncomputable abbrev P_spec_trGraft : Func := Try.f101
theorem get_spec_trGraft : cfg.P.funcs[i_spec_trGraft]? = some P_spec_trGraft := by kernel_rfl
noncomputable abbrev P_spec_trRight : Func := Try.f102
theorem get_spec_trRight : cfg.P.funcs[i_spec_trRight]? = some P_spec_trRight := by kernel_rfl
noncomputable abbrev P_slices_Index : Func := Try.f103
theorem get_slices_Index : cfg.P.funcs[i_slices_Index]? = some P_slices_Index := by kernel_rfl
noncomputable abbrev P_impl_node_graft_k1 : Func := Try.f104
theorem get_impl_node_graft_k1 : cfg.P.funcs[i_impl_node_graft_k1]? = some P_impl_node_graft_k1 := by kernel_rfl
noncomputable abbrev P_slices_IndexFunc : Func := Try.f105
theorem get_slices_IndexFunc : cfg.P.funcs[i_slices_IndexFunc]? = some P_slices_IndexFunc := by kernel_rfl
noncomputable abbrev P_spec_lnInner : Func := Try.f106
theorem get_spec_lnInner : cfg.P.funcs[i_spec_lnInner]? = some P_spec_lnInner := by kernel_rfl
end Go.AI
