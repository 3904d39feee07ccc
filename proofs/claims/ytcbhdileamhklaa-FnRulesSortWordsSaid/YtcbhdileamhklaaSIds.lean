/- A part of the road: what it proves stands in its last texts. -/
import Derived.Test.YtcbhdileamhklaaSCfg
import Derived.Test.YtcbhdileamhklaaProg
set_option autoImplicit false
set_option maxRecDepth 100000
set_option linter.unusedVariables false
namespace Go.AI
open Go.Proofs

abbrev t_int : TypeId := 3
abbrev t_uint8 : TypeId := 5
abbrev t_string : TypeId := 9
abbrev i_main_main : FuncId := 0
abbrev i_gosem_cut : FuncId := 1
abbrev i_gosem_cut_init : FuncId := 2
abbrev i_laws_FnRulesSortWords : FuncId := 3
abbrev i_laws_big : FuncId := 4
abbrev i_spec_DrawSortedWord : FuncId := 5
abbrev i_impl_SortedWord : FuncId := 6
abbrev i_spec_SortedWord : FuncId := 7
abbrev i_impl_RuleSteps : FuncId := 8
abbrev i_spec_RuleSteps : FuncId := 9
abbrev i_impl_NormalByRules : FuncId := 10
abbrev i_spec_NormalByRules : FuncId := 11
abbrev i_laws_nSame : FuncId := 12
abbrev i_impl_RuleStep : FuncId := 13
abbrev i_impl_SumsOfWord : FuncId := 14
abbrev i_spec_DrawRuleStep : FuncId := 15
abbrev i_spec_RuleStep : FuncId := 16
abbrev i_impl_PairOfWord : FuncId := 17
abbrev i_spec_DrawDropStep : FuncId := 18
abbrev i_impl_DropStep : FuncId := 19
abbrev i_spec_DropStep : FuncId := 20
abbrev i_spec_DrawFreeReduce : FuncId := 21
abbrev i_impl_FreeReduce : FuncId := 22
abbrev i_spec_FreeReduce : FuncId := 23
abbrev i_spec_DrawIsWord : FuncId := 24
abbrev i_impl_sort : FuncId := 25
abbrev i_spec_wdGood : FuncId := 26
abbrev i_spec_wdSort : FuncId := 27
abbrev i_spec_wdIf : FuncId := 28
abbrev i_impl_droppable : FuncId := 29
abbrev i_impl_dropped : FuncId := 30
abbrev i_spec_wdNormal : FuncId := 31
abbrev i_impl_IsWord : FuncId := 32
abbrev i_impl_stepped : FuncId := 33
abbrev i_impl_madeWord : FuncId := 34
abbrev i_impl_sums : FuncId := 35
abbrev i_spec_wdStep : FuncId := 36
abbrev i_impl_pairOfWord : FuncId := 37
abbrev i_impl_pair_plain : FuncId := 38
abbrev i_spec_l1Cur_letters : FuncId := 39
abbrev i_spec_l1Cur_one : FuncId := 40
abbrev i_impl_sorted : FuncId := 41
abbrev i_spec_wdSorted : FuncId := 42
abbrev i_spec_wdDrop : FuncId := 43
abbrev i_spec_l1Cur_sureWord : FuncId := 44
abbrev i_impl_freely : FuncId := 45
abbrev i_spec_wdFree : FuncId := 46
abbrev i_slices_Clone : FuncId := 47
abbrev i_spec_wdIs : FuncId := 48
abbrev i_spec_l1Own : FuncId := 49
abbrev i_slices_Contains : FuncId := 50
abbrev i_slices_Index : FuncId := 51
abbrev i_impl_isLetter : FuncId := 52
abbrev i_impl_rule : FuncId := 53
abbrev i_impl_size : FuncId := 54
abbrev i_spec_wdRule : FuncId := 55
abbrev i_impl_pair_times : FuncId := 56
abbrev i_impl_letter : FuncId := 57
abbrev i_impl_node_carets : FuncId := 58
abbrev i_impl_node_text : FuncId := 59
abbrev i_spec_l1Cur_among : FuncId := 60
abbrev i_spec_l1Cur_pick : FuncId := 61
abbrev i_spec_l1Has : FuncId := 62
abbrev i_spec_l1In : FuncId := 63
abbrev i_impl_join : FuncId := 64
abbrev i_impl_node_grown : FuncId := 65
abbrev i_impl_parts : FuncId := 66
abbrev i_impl_pair_reduced : FuncId := 67
abbrev i_impl_generator : FuncId := 68
abbrev i_impl_pair_inverse : FuncId := 69
abbrev i_spec_l1Cur_next : FuncId := 70
abbrev i_impl_node_leaves : FuncId := 71
abbrev i_impl_node_addresses : FuncId := 72
abbrev i_impl_parts_k1 : FuncId := 73
abbrev i_impl_node_at : FuncId := 74
abbrev i_impl_pair_both : FuncId := 75
abbrev i_impl_pair_drop : FuncId := 76
abbrev i_impl_rightComb : FuncId := 77
abbrev i_impl_node_graft : FuncId := 78
abbrev i_impl_node_exposed : FuncId := 79
abbrev i_impl_node_without : FuncId := 80
abbrev i_impl_node_graft_k1 : FuncId := 81
abbrev i_runtime_boundsError_Error : FuncId := 82
abbrev i_runtime_boundsError_RuntimeError : FuncId := 83
abbrev i_runtime_errorString_Error : FuncId := 84
abbrev i_runtime_errorString_RuntimeError : FuncId := 85
abbrev i_runtime_plainError_Error : FuncId := 86
abbrev i_runtime_plainError_RuntimeError : FuncId := 87
abbrev i_runtime_errorAddressString_Error : FuncId := 88
abbrev i_runtime_errorAddressString_RuntimeError : FuncId := 89
abbrev i_runtime_TypeAssertionError_Error : FuncId := 90
abbrev i_runtime_TypeAssertionError_RuntimeError : FuncId := 91
abbrev i_runtime_PanicNilError_Error : FuncId := 92
abbrev i_runtime_PanicNilError_RuntimeError : FuncId := 93
abbrev i_internal_abi_Type_Align : FuncId := 94
abbrev i_internal_runtime_maps_unhashableTypeError_Error : FuncId := 95
abbrev i_internal_runtime_maps_unhashableTypeError_RuntimeError : FuncId := 96
abbrev i_impl_pair_length : FuncId := 97
abbrev i_spec_l1Cur_line10 : FuncId := 98
abbrev i_internal_abi_Kind_String : FuncId := 99
noncomputable abbrev P_gosem_cut_init : Func := Try.f2
theorem get_gosem_cut_init : cfg.P.funcs[i_gosem_cut_init]? = some P_gosem_cut_init := by kernel_rfl
noncomputable abbrev P_laws_FnRulesSortWords : Func := Try.f3
theorem get_laws_FnRulesSortWords : cfg.P.funcs[i_laws_FnRulesSortWords]? = some P_laws_FnRulesSortWords := by kernel_rfl
noncomputable abbrev P_laws_big : Func := Try.f4
theorem get_laws_big : cfg.P.funcs[i_laws_big]? = some P_laws_big := by kernel_rfl
noncomputable abbrev P_spec_DrawSortedWord : Func := Try.f5
theorem get_spec_DrawSortedWord : cfg.P.funcs[i_spec_DrawSortedWord]? = some P_spec_DrawSortedWord := by kernel_rfl
noncomputable abbrev P_impl_SortedWord : Func := Try.f6
theorem get_impl_SortedWord : cfg.P.funcs[i_impl_SortedWord]? = some P_impl_SortedWord := by kernel_rfl
noncomputable abbrev P_spec_SortedWord : Func := Try.f7
theorem get_spec_SortedWord : cfg.P.funcs[i_spec_SortedWord]? = some P_spec_SortedWord := by kernel_rfl
noncomputable abbrev P_impl_RuleSteps : Func := Try.f8
theorem get_impl_RuleSteps : cfg.P.funcs[i_impl_RuleSteps]? = some P_impl_RuleSteps := by kernel_rfl
noncomputable abbrev P_spec_RuleSteps : Func := Try.f9
theorem get_spec_RuleSteps : cfg.P.funcs[i_spec_RuleSteps]? = some P_spec_RuleSteps := by kernel_rfl
noncomputable abbrev P_impl_NormalByRules : Func := Try.f10
theorem get_impl_NormalByRules : cfg.P.funcs[i_impl_NormalByRules]? = some P_impl_NormalByRules := by kernel_rfl
noncomputable abbrev P_spec_NormalByRules : Func := Try.f11
theorem get_spec_NormalByRules : cfg.P.funcs[i_spec_NormalByRules]? = some P_spec_NormalByRules := by kernel_rfl
noncomputable abbrev P_laws_nSame : Func := Try.f12
theorem get_laws_nSame : cfg.P.funcs[i_laws_nSame]? = some P_laws_nSame := by kernel_rfl
noncomputable abbrev P_impl_RuleStep : Func := Try.f13
theorem get_impl_RuleStep : cfg.P.funcs[i_impl_RuleStep]? = some P_impl_RuleStep := by kernel_rfl
noncomputable abbrev P_impl_SumsOfWord : Func := Try.f14
theorem get_impl_SumsOfWord : cfg.P.funcs[i_impl_SumsOfWord]? = some P_impl_SumsOfWord := by kernel_rfl
noncomputable abbrev P_spec_DrawRuleStep : Func := Try.f15
theorem get_spec_DrawRuleStep : cfg.P.funcs[i_spec_DrawRuleStep]? = some P_spec_DrawRuleStep := by kernel_rfl
noncomputable abbrev P_spec_RuleStep : Func := Try.f16
theorem get_spec_RuleStep : cfg.P.funcs[i_spec_RuleStep]? = some P_spec_RuleStep := by kernel_rfl
noncomputable abbrev P_impl_PairOfWord : Func := Try.f17
theorem get_impl_PairOfWord : cfg.P.funcs[i_impl_PairOfWord]? = some P_impl_PairOfWord := by kernel_rfl
noncomputable abbrev P_spec_DrawDropStep : Func := Try.f18
theorem get_spec_DrawDropStep : cfg.P.funcs[i_spec_DrawDropStep]? = some P_spec_DrawDropStep := by kernel_rfl
noncomputable abbrev P_impl_DropStep : Func := Try.f19
theorem get_impl_DropStep : cfg.P.funcs[i_impl_DropStep]? = some P_impl_DropStep := by kernel_rfl
noncomputable abbrev P_spec_DropStep : Func := Try.f20
theorem get_spec_DropStep : cfg.P.funcs[i_spec_DropStep]? = some P_spec_DropStep := by kernel_rfl
noncomputable abbrev P_spec_DrawFreeReduce : Func := Try.f21
theorem get_spec_DrawFreeReduce : cfg.P.funcs[i_spec_DrawFreeReduce]? = some P_spec_DrawFreeReduce := by kernel_rfl
noncomputable abbrev P_impl_FreeReduce : Func := Try.f22
theorem get_impl_FreeReduce : cfg.P.funcs[i_impl_FreeReduce]? = some P_impl_FreeReduce := by kernel_rfl
noncomputable abbrev P_spec_FreeReduce : Func := Try.f23
theorem get_spec_FreeReduce : cfg.P.funcs[i_spec_FreeReduce]? = some P_spec_FreeReduce := by kernel_rfl
noncomputable abbrev P_spec_DrawIsWord : Func := Try.f24
theorem get_spec_DrawIsWord : cfg.P.funcs[i_spec_DrawIsWord]? = some P_spec_DrawIsWord := by kernel_rfl
noncomputable abbrev P_impl_sort : Func := Try.f25
theorem get_impl_sort : cfg.P.funcs[i_impl_sort]? = some P_impl_sort := by kernel_rfl
noncomputable abbrev P_spec_wdGood : Func := Try.f26
theorem get_spec_wdGood : cfg.P.funcs[i_spec_wdGood]? = some P_spec_wdGood := by kernel_rfl
noncomputable abbrev P_spec_wdSort : Func := Try.f27
theorem get_spec_wdSort : cfg.P.funcs[i_spec_wdSort]? = some P_spec_wdSort := by kernel_rfl
noncomputable abbrev P_spec_wdIf : Func := Try.f28
theorem get_spec_wdIf : cfg.P.funcs[i_spec_wdIf]? = some P_spec_wdIf := by kernel_rfl
noncomputable abbrev P_impl_droppable : Func := Try.f29
theorem get_impl_droppable : cfg.P.funcs[i_impl_droppable]? = some P_impl_droppable := by kernel_rfl
noncomputable abbrev P_impl_dropped : Func := Try.f30
theorem get_impl_dropped : cfg.P.funcs[i_impl_dropped]? = some P_impl_dropped := by kernel_rfl
noncomputable abbrev P_spec_wdNormal : Func := Try.f31
theorem get_spec_wdNormal : cfg.P.funcs[i_spec_wdNormal]? = some P_spec_wdNormal := by kernel_rfl
noncomputable abbrev P_impl_IsWord : Func := Try.f32
theorem get_impl_IsWord : cfg.P.funcs[i_impl_IsWord]? = some P_impl_IsWord := by kernel_rfl
noncomputable abbrev P_impl_stepped : Func := Try.f33
theorem get_impl_stepped : cfg.P.funcs[i_impl_stepped]? = some P_impl_stepped := by kernel_rfl
noncomputable abbrev P_impl_madeWord : Func := Try.f34
theorem get_impl_madeWord : cfg.P.funcs[i_impl_madeWord]? = some P_impl_madeWord := by kernel_rfl
noncomputable abbrev P_impl_sums : Func := Try.f35
theorem get_impl_sums : cfg.P.funcs[i_impl_sums]? = some P_impl_sums := by kernel_rfl
noncomputable abbrev P_spec_wdStep : Func := Try.f36
theorem get_spec_wdStep : cfg.P.funcs[i_spec_wdStep]? = some P_spec_wdStep := by kernel_rfl
noncomputable abbrev P_impl_pairOfWord : Func := Try.f37
theorem get_impl_pairOfWord : cfg.P.funcs[i_impl_pairOfWord]? = some P_impl_pairOfWord := by kernel_rfl
noncomputable abbrev P_impl_pair_plain : Func := Try.f38
theorem get_impl_pair_plain : cfg.P.funcs[i_impl_pair_plain]? = some P_impl_pair_plain := by kernel_rfl
noncomputable abbrev P_spec_l1Cur_letters : Func := Try.f39
theorem get_spec_l1Cur_letters : cfg.P.funcs[i_spec_l1Cur_letters]? = some P_spec_l1Cur_letters := by kernel_rfl
noncomputable abbrev P_spec_l1Cur_one : Func := Try.f40
theorem get_spec_l1Cur_one : cfg.P.funcs[i_spec_l1Cur_one]? = some P_spec_l1Cur_one := by kernel_rfl
noncomputable abbrev P_impl_sorted : Func := Try.f41
theorem get_impl_sorted : cfg.P.funcs[i_impl_sorted]? = some P_impl_sorted := by kernel_rfl
noncomputable abbrev P_spec_wdSorted : Func := Try.f42
theorem get_spec_wdSorted : cfg.P.funcs[i_spec_wdSorted]? = some P_spec_wdSorted := by kernel_rfl
noncomputable abbrev P_spec_wdDrop : Func := Try.f43
theorem get_spec_wdDrop : cfg.P.funcs[i_spec_wdDrop]? = some P_spec_wdDrop := by kernel_rfl
noncomputable abbrev P_spec_l1Cur_sureWord : Func := Try.f44
theorem get_spec_l1Cur_sureWord : cfg.P.funcs[i_spec_l1Cur_sureWord]? = some P_spec_l1Cur_sureWord := by kernel_rfl
noncomputable abbrev P_impl_freely : Func := Try.f45
theorem get_impl_freely : cfg.P.funcs[i_impl_freely]? = some P_impl_freely := by kernel_rfl
noncomputable abbrev P_spec_wdFree : Func := Try.f46
theorem get_spec_wdFree : cfg.P.funcs[i_spec_wdFree]? = some P_spec_wdFree := by kernel_rfl
noncomputable abbrev P_slices_Clone : Func := Try.f47
theorem get_slices_Clone : cfg.P.funcs[i_slices_Clone]? = some P_slices_Clone := by kernel_rfl
noncomputable abbrev P_spec_wdIs : Func := Try.f48
theorem get_spec_wdIs : cfg.P.funcs[i_spec_wdIs]? = some P_spec_wdIs := by kernel_rfl
noncomputable abbrev P_spec_l1Own : Func := Try.f49
theorem get_spec_l1Own : cfg.P.funcs[i_spec_l1Own]? = some P_spec_l1Own := by kernel_rfl
noncomputable abbrev P_slices_Contains : Func := Try.f50
theorem get_slices_Contains : cfg.P.funcs[i_slices_Contains]? = some P_slices_Contains := by kernel_rfl
noncomputable abbrev P_slices_Index : Func := Try.f51
theorem get_slices_Index : cfg.P.funcs[i_slices_Index]? = some P_slices_Index := by kernel_rfl
noncomputable abbrev P_impl_isLetter : Func := Try.f52
theorem get_impl_isLetter : cfg.P.funcs[i_impl_isLetter]? = some P_impl_isLetter := by kernel_rfl
noncomputable abbrev P_impl_rule : Func := Try.f53
theorem get_impl_rule : cfg.P.funcs[i_impl_rule]? = some P_impl_rule := by kernel_rfl
noncomputable abbrev P_impl_size : Func := Try.f54
theorem get_impl_size : cfg.P.funcs[i_impl_size]? = some P_impl_size := by kernel_rfl
noncomputable abbrev P_spec_wdRule : Func := Try.f55
theorem get_spec_wdRule : cfg.P.funcs[i_spec_wdRule]? = some P_spec_wdRule := by kernel_rfl
noncomputable abbrev P_impl_pair_times : Func := Try.f56
theorem get_impl_pair_times : cfg.P.funcs[i_impl_pair_times]? = some P_impl_pair_times := by kernel_rfl
noncomputable abbrev P_impl_letter : Func := Try.f57
theorem get_impl_letter : cfg.P.funcs[i_impl_letter]? = some P_impl_letter := by kernel_rfl
noncomputable abbrev P_impl_node_carets : Func := Try.f58
theorem get_impl_node_carets : cfg.P.funcs[i_impl_node_carets]? = some P_impl_node_carets := by kernel_rfl
noncomputable abbrev P_impl_node_text : Func := Try.f59
theorem get_impl_node_text : cfg.P.funcs[i_impl_node_text]? = some P_impl_node_text := by kernel_rfl
noncomputable abbrev P_spec_l1Cur_among : Func := Try.f60
theorem get_spec_l1Cur_among : cfg.P.funcs[i_spec_l1Cur_among]? = some P_spec_l1Cur_among := by kernel_rfl
noncomputable abbrev P_spec_l1Cur_pick : Func := Try.f61
theorem get_spec_l1Cur_pick : cfg.P.funcs[i_spec_l1Cur_pick]? = some P_spec_l1Cur_pick := by kernel_rfl
noncomputable abbrev P_spec_l1Has : Func := Try.f62
theorem get_spec_l1Has : cfg.P.funcs[i_spec_l1Has]? = some P_spec_l1Has := by kernel_rfl
noncomputable abbrev P_spec_l1In : Func := Try.f63
theorem get_spec_l1In : cfg.P.funcs[i_spec_l1In]? = some P_spec_l1In := by kernel_rfl
noncomputable abbrev P_impl_join : Func := Try.f64
theorem get_impl_join : cfg.P.funcs[i_impl_join]? = some P_impl_join := by kernel_rfl
noncomputable abbrev P_impl_node_grown : Func := Try.f65
theorem get_impl_node_grown : cfg.P.funcs[i_impl_node_grown]? = some P_impl_node_grown := by kernel_rfl
noncomputable abbrev P_impl_parts : Func := Try.f66
theorem get_impl_parts : cfg.P.funcs[i_impl_parts]? = some P_impl_parts := by kernel_rfl
noncomputable abbrev P_impl_pair_reduced : Func := Try.f67
theorem get_impl_pair_reduced : cfg.P.funcs[i_impl_pair_reduced]? = some P_impl_pair_reduced := by kernel_rfl
noncomputable abbrev P_impl_generator : Func := Try.f68
theorem get_impl_generator : cfg.P.funcs[i_impl_generator]? = some P_impl_generator := by kernel_rfl
noncomputable abbrev P_impl_pair_inverse : Func := Try.f69
theorem get_impl_pair_inverse : cfg.P.funcs[i_impl_pair_inverse]? = some P_impl_pair_inverse := by kernel_rfl
noncomputable abbrev P_spec_l1Cur_next : Func := Try.f70
theorem get_spec_l1Cur_next : cfg.P.funcs[i_spec_l1Cur_next]? = some P_spec_l1Cur_next := by kernel_rfl
noncomputable abbrev P_impl_node_leaves : Func := Try.f71
theorem get_impl_node_leaves : cfg.P.funcs[i_impl_node_leaves]? = some P_impl_node_leaves := by kernel_rfl
noncomputable abbrev P_impl_node_addresses : Func := Try.f72
theorem get_impl_node_addresses : cfg.P.funcs[i_impl_node_addresses]? = some P_impl_node_addresses := by kernel_rfl
noncomputable abbrev P_impl_parts_k1 : Func := Try.f73
theorem get_impl_parts_k1 : cfg.P.funcs[i_impl_parts_k1]? = some P_impl_parts_k1 := by kernel_rfl
noncomputable abbrev P_impl_node_at : Func := Try.f74
theorem get_impl_node_at : cfg.P.funcs[i_impl_node_at]? = some P_impl_node_at := by kernel_rfl
noncomputable abbrev P_impl_pair_both : Func := Try.f75
theorem get_impl_pair_both : cfg.P.funcs[i_impl_pair_both]? = some P_impl_pair_both := by kernel_rfl
noncomputable abbrev P_impl_pair_drop : Func := Try.f76
theorem get_impl_pair_drop : cfg.P.funcs[i_impl_pair_drop]? = some P_impl_pair_drop := by kernel_rfl
noncomputable abbrev P_impl_rightComb : Func := Try.f77
theorem get_impl_rightComb : cfg.P.funcs[i_impl_rightComb]? = some P_impl_rightComb := by kernel_rfl
noncomputable abbrev P_impl_node_graft : Func := Try.f78
theorem get_impl_node_graft : cfg.P.funcs[i_impl_node_graft]? = some P_impl_node_graft := by kernel_rfl
noncomputable abbrev P_impl_node_exposed : Func := Try.f79
theorem get_impl_node_exposed : cfg.P.funcs[i_impl_node_exposed]? = some P_impl_node_exposed := by kernel_rfl
noncomputable abbrev P_impl_node_without : Func := Try.f80
theorem get_impl_node_without : cfg.P.funcs[i_impl_node_without]? = some P_impl_node_without := by kernel_rfl
noncomputable abbrev P_impl_node_graft_k1 : Func := Try.f81
theorem get_impl_node_graft_k1 : cfg.P.funcs[i_impl_node_graft_k1]? = some P_impl_node_graft_k1 := by kernel_rfl
end Go.AI
