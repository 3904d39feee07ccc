/- A part of the road: what it proves stands in its last texts. -/
import Derived.Test.YtdfllkeekehplaaGreatSCfg
import Derived.Test.YtdfllkeekehplaaGreatProg
set_option autoImplicit false
set_option maxRecDepth 100000
set_option linter.unusedVariables false
namespace Go.AI
open Go.Proofs

abbrev t_int : TypeId := 3
abbrev t_string : TypeId := 9
abbrev t_pimpl_node : TypeId := 53
abbrev i_laws_FnPairsOfForests : FuncId := 3
abbrev i_laws_big : FuncId := 4
abbrev i_spec_DrawForestsOfPair : FuncId := 5
abbrev i_impl_ForestsOfPair : FuncId := 6
abbrev i_spec_ForestsOfPair : FuncId := 7
abbrev i_laws_nTexts : FuncId := 8
abbrev i_impl_IsPair : FuncId := 9
abbrev i_impl_PairOfForests : FuncId := 10
abbrev i_impl_WordOfPair : FuncId := 11
abbrev i_impl_WordOfForest : FuncId := 12
abbrev i_impl_InverseWord : FuncId := 13
abbrev i_laws_nReduced : FuncId := 14
abbrev i_laws_nSame : FuncId := 15
abbrev i_spec_DrawPairOfForests : FuncId := 16
abbrev i_spec_PairOfForests : FuncId := 17
abbrev i_impl_InversePair : FuncId := 18
abbrev i_impl_StackForests : FuncId := 19
abbrev i_spec_DrawPairOfForest : FuncId := 20
abbrev i_impl_PairOfForest : FuncId := 21
abbrev i_spec_PairOfForest : FuncId := 22
abbrev i_spec_l1Cur_pair : FuncId := 23
abbrev i_impl_pairOf : FuncId := 24
abbrev i_impl_pair_reduced : FuncId := 25
abbrev i_impl_hanging : FuncId := 26
abbrev i_impl_forest_texts : FuncId := 27
abbrev i_spec_prGood : FuncId := 28
abbrev i_spec_prReduce : FuncId := 29
abbrev i_spec_foIf : FuncId := 30
abbrev i_spec_foHanging : FuncId := 31
abbrev i_impl_twoForests : FuncId := 32
abbrev i_impl_forest_pair : FuncId := 33
abbrev i_impl_pair_times : FuncId := 34
abbrev i_impl_pair_inverse : FuncId := 35
abbrev i_impl_pair_fits : FuncId := 36
abbrev i_impl_madeWord : FuncId := 37
abbrev i_impl_wordOfPair : FuncId := 38
abbrev i_impl_forestOf : FuncId := 39
abbrev i_impl_node_climbs : FuncId := 40
abbrev i_impl_wordOf : FuncId := 41
abbrev i_impl_IsWord : FuncId := 42
abbrev i_impl_inverseOf : FuncId := 43
abbrev i_impl_ReducePair : FuncId := 44
abbrev i_spec_l1Cur_forest : FuncId := 45
abbrev i_spec_foGood : FuncId := 46
abbrev i_spec_prIf : FuncId := 47
abbrev i_spec_prTimes : FuncId := 48
abbrev i_spec_foPair : FuncId := 49
abbrev i_spec_prInverse : FuncId := 50
abbrev i_impl_pair_plain : FuncId := 51
abbrev i_impl_forest_stack : FuncId := 52
abbrev i_spec_l1Cur_surePair : FuncId := 53
abbrev i_spec_l1Cur_pick : FuncId := 54
abbrev i_spec_l1Cur_tree : FuncId := 55
abbrev i_spec_l1Cur_spoilt : FuncId := 56
abbrev i_spec_prGenerator : FuncId := 57
abbrev i_impl_parse : FuncId := 58
abbrev i_impl_node_carets : FuncId := 59
abbrev i_impl_pair_both : FuncId := 60
abbrev i_impl_pair_drop : FuncId := 61
abbrev i_impl_forest_trimmed : FuncId := 62
abbrev i_impl_forest_carets : FuncId := 63
abbrev i_impl_node_text : FuncId := 64
abbrev i_spec_trIs : FuncId := 65
abbrev i_spec_trCarets : FuncId := 66
abbrev i_spec_prBoth : FuncId := 67
abbrev i_spec_trDrop : FuncId := 68
abbrev i_spec_wdShort : FuncId := 69
abbrev i_spec_trLeaf : FuncId := 70
abbrev i_spec_trSides : FuncId := 71
abbrev i_impl_forest_hung : FuncId := 72
abbrev i_impl_rightComb : FuncId := 73
abbrev i_impl_join : FuncId := 74
abbrev i_impl_node_grown : FuncId := 75
abbrev i_impl_parts : FuncId := 76
abbrev i_impl_node_exponents : FuncId := 77
abbrev i_impl_isLetter : FuncId := 78
abbrev i_spec_l1Cur_sureForest : FuncId := 79
abbrev i_spec_l1Cur_of : FuncId := 80
abbrev i_spec_trJoin : FuncId := 81
abbrev i_spec_prFill : FuncId := 82
abbrev i_spec_prParts : FuncId := 83
abbrev i_spec_wdComb : FuncId := 84
abbrev i_spec_trRight : FuncId := 85
abbrev i_impl_forest_tree : FuncId := 86
abbrev i_impl_node_leaves : FuncId := 87
abbrev i_spec_l1Cur_sureTree : FuncId := 88
abbrev i_spec_l1Cur_next : FuncId := 89
abbrev i_spec_trGraft : FuncId := 90
abbrev i_impl_read : FuncId := 91
abbrev i_impl_node_exposed : FuncId := 92
abbrev i_slices_Contains : FuncId := 93
abbrev i_impl_node_without : FuncId := 94
abbrev i_spec_trEnd : FuncId := 95
abbrev i_spec_trExposed : FuncId := 96
abbrev i_spec_l1Has : FuncId := 97
abbrev i_impl_node_addresses : FuncId := 98
abbrev i_impl_parts_k1 : FuncId := 99
abbrev i_impl_node_at : FuncId := 100
abbrev i_spec_l1Least : FuncId := 101
abbrev i_spec_trOf : FuncId := 102
abbrev i_slices_Index : FuncId := 103
noncomputable abbrev P_laws_FnPairsOfForests : Func := Tryz.f3
theorem get_laws_FnPairsOfForests : cfg.P.funcs[i_laws_FnPairsOfForests]? = some P_laws_FnPairsOfForests := by kernel_rfl
noncomputable abbrev P_laws_big : Func := Tryz.f4
theorem get_laws_big : cfg.P.funcs[i_laws_big]? = some P_laws_big := by kernel_rfl
noncomputable abbrev P_spec_DrawForestsOfPair : Func := Tryz.f5
theorem get_spec_DrawForestsOfPair : cfg.P.funcs[i_spec_DrawForestsOfPair]? = some P_spec_DrawForestsOfPair := by kernel_rfl
noncomputable abbrev P_impl_ForestsOfPair : Func := Tryz.f6
theorem get_impl_ForestsOfPair : cfg.P.funcs[i_impl_ForestsOfPair]? = some P_impl_ForestsOfPair := by kernel_rfl
noncomputable abbrev P_spec_ForestsOfPair : Func := Tryz.f7
theorem get_spec_ForestsOfPair : cfg.P.funcs[i_spec_ForestsOfPair]? = some P_spec_ForestsOfPair := by kernel_rfl
noncomputable abbrev P_laws_nTexts : Func := Tryz.f8
theorem get_laws_nTexts : cfg.P.funcs[i_laws_nTexts]? = some P_laws_nTexts := by kernel_rfl
noncomputable abbrev P_impl_IsPair : Func := Tryz.f9
theorem get_impl_IsPair : cfg.P.funcs[i_impl_IsPair]? = some P_impl_IsPair := by kernel_rfl
noncomputable abbrev P_impl_PairOfForests : Func := Tryz.f10
theorem get_impl_PairOfForests : cfg.P.funcs[i_impl_PairOfForests]? = some P_impl_PairOfForests := by kernel_rfl
noncomputable abbrev P_impl_WordOfPair : Func := Tryz.f11
theorem get_impl_WordOfPair : cfg.P.funcs[i_impl_WordOfPair]? = some P_impl_WordOfPair := by kernel_rfl
noncomputable abbrev P_impl_WordOfForest : Func := Tryz.f12
theorem get_impl_WordOfForest : cfg.P.funcs[i_impl_WordOfForest]? = some P_impl_WordOfForest := by kernel_rfl
noncomputable abbrev P_impl_InverseWord : Func := Tryz.f13
theorem get_impl_InverseWord : cfg.P.funcs[i_impl_InverseWord]? = some P_impl_InverseWord := by kernel_rfl
noncomputable abbrev P_laws_nReduced : Func := Tryz.f14
theorem get_laws_nReduced : cfg.P.funcs[i_laws_nReduced]? = some P_laws_nReduced := by kernel_rfl
noncomputable abbrev P_laws_nSame : Func := Tryz.f15
theorem get_laws_nSame : cfg.P.funcs[i_laws_nSame]? = some P_laws_nSame := by kernel_rfl
noncomputable abbrev P_spec_DrawPairOfForests : Func := Tryz.f16
theorem get_spec_DrawPairOfForests : cfg.P.funcs[i_spec_DrawPairOfForests]? = some P_spec_DrawPairOfForests := by kernel_rfl
noncomputable abbrev P_spec_PairOfForests : Func := Tryz.f17
theorem get_spec_PairOfForests : cfg.P.funcs[i_spec_PairOfForests]? = some P_spec_PairOfForests := by kernel_rfl
noncomputable abbrev P_impl_InversePair : Func := Tryz.f18
theorem get_impl_InversePair : cfg.P.funcs[i_impl_InversePair]? = some P_impl_InversePair := by kernel_rfl
noncomputable abbrev P_impl_StackForests : Func := Tryz.f19
theorem get_impl_StackForests : cfg.P.funcs[i_impl_StackForests]? = some P_impl_StackForests := by kernel_rfl
noncomputable abbrev P_spec_DrawPairOfForest : Func := Tryz.f20
theorem get_spec_DrawPairOfForest : cfg.P.funcs[i_spec_DrawPairOfForest]? = some P_spec_DrawPairOfForest := by kernel_rfl
noncomputable abbrev P_impl_PairOfForest : Func := Tryz.f21
theorem get_impl_PairOfForest : cfg.P.funcs[i_impl_PairOfForest]? = some P_impl_PairOfForest := by kernel_rfl
noncomputable abbrev P_spec_PairOfForest : Func := Tryz.f22
theorem get_spec_PairOfForest : cfg.P.funcs[i_spec_PairOfForest]? = some P_spec_PairOfForest := by kernel_rfl
noncomputable abbrev P_spec_l1Cur_pair : Func := Tryz.f23
theorem get_spec_l1Cur_pair : cfg.P.funcs[i_spec_l1Cur_pair]? = some P_spec_l1Cur_pair := by kernel_rfl
noncomputable abbrev P_impl_pairOf : Func := Tryz.f24
theorem get_impl_pairOf : cfg.P.funcs[i_impl_pairOf]? = some P_impl_pairOf := by kernel_rfl
noncomputable abbrev P_impl_pair_reduced : Func := Tryz.f25
theorem get_impl_pair_reduced : cfg.P.funcs[i_impl_pair_reduced]? = some P_impl_pair_reduced := by kernel_rfl
noncomputable abbrev P_impl_hanging : Func := Tryz.f26
theorem get_impl_hanging : cfg.P.funcs[i_impl_hanging]? = some P_impl_hanging := by kernel_rfl
noncomputable abbrev P_impl_forest_texts : Func := Tryz.f27
theorem get_impl_forest_texts : cfg.P.funcs[i_impl_forest_texts]? = some P_impl_forest_texts := by kernel_rfl
noncomputable abbrev P_spec_prGood : Func := Tryz.f28
theorem get_spec_prGood : cfg.P.funcs[i_spec_prGood]? = some P_spec_prGood := by kernel_rfl
noncomputable abbrev P_spec_prReduce : Func := Tryz.f29
theorem get_spec_prReduce : cfg.P.funcs[i_spec_prReduce]? = some P_spec_prReduce := by kernel_rfl
noncomputable abbrev P_spec_foIf : Func := Tryz.f30
theorem get_spec_foIf : cfg.P.funcs[i_spec_foIf]? = some P_spec_foIf := by kernel_rfl
noncomputable abbrev P_spec_foHanging : Func := Tryz.f31
theorem get_spec_foHanging : cfg.P.funcs[i_spec_foHanging]? = some P_spec_foHanging := by kernel_rfl
noncomputable abbrev P_impl_twoForests : Func := Tryz.f32
theorem get_impl_twoForests : cfg.P.funcs[i_impl_twoForests]? = some P_impl_twoForests := by kernel_rfl
noncomputable abbrev P_impl_forest_pair : Func := Tryz.f33
theorem get_impl_forest_pair : cfg.P.funcs[i_impl_forest_pair]? = some P_impl_forest_pair := by kernel_rfl
noncomputable abbrev P_impl_pair_times : Func := Tryz.f34
theorem get_impl_pair_times : cfg.P.funcs[i_impl_pair_times]? = some P_impl_pair_times := by kernel_rfl
noncomputable abbrev P_impl_pair_inverse : Func := Tryz.f35
theorem get_impl_pair_inverse : cfg.P.funcs[i_impl_pair_inverse]? = some P_impl_pair_inverse := by kernel_rfl
noncomputable abbrev P_impl_pair_fits : Func := Tryz.f36
theorem get_impl_pair_fits : cfg.P.funcs[i_impl_pair_fits]? = some P_impl_pair_fits := by kernel_rfl
noncomputable abbrev P_impl_madeWord : Func := Tryz.f37
theorem get_impl_madeWord : cfg.P.funcs[i_impl_madeWord]? = some P_impl_madeWord := by kernel_rfl
noncomputable abbrev P_impl_wordOfPair : Func := Tryz.f38
theorem get_impl_wordOfPair : cfg.P.funcs[i_impl_wordOfPair]? = some P_impl_wordOfPair := by kernel_rfl
noncomputable abbrev P_impl_forestOf : Func := Tryz.f39
theorem get_impl_forestOf : cfg.P.funcs[i_impl_forestOf]? = some P_impl_forestOf := by kernel_rfl
noncomputable abbrev P_impl_node_climbs : Func := Tryz.f40
theorem get_impl_node_climbs : cfg.P.funcs[i_impl_node_climbs]? = some P_impl_node_climbs := by kernel_rfl
noncomputable abbrev P_impl_wordOf : Func := Tryz.f41
theorem get_impl_wordOf : cfg.P.funcs[i_impl_wordOf]? = some P_impl_wordOf := by kernel_rfl
noncomputable abbrev P_impl_IsWord : Func := Tryz.f42
theorem get_impl_IsWord : cfg.P.funcs[i_impl_IsWord]? = some P_impl_IsWord := by kernel_rfl
noncomputable abbrev P_impl_inverseOf : Func := Tryz.f43
theorem get_impl_inverseOf : cfg.P.funcs[i_impl_inverseOf]? = some P_impl_inverseOf := by kernel_rfl
noncomputable abbrev P_impl_ReducePair : Func := Tryz.f44
theorem get_impl_ReducePair : cfg.P.funcs[i_impl_ReducePair]? = some P_impl_ReducePair := by kernel_rfl
noncomputable abbrev P_spec_l1Cur_forest : Func := Tryz.f45
theorem get_spec_l1Cur_forest : cfg.P.funcs[i_spec_l1Cur_forest]? = some P_spec_l1Cur_forest := by kernel_rfl
noncomputable abbrev P_spec_foGood : Func := Tryz.f46
theorem get_spec_foGood : cfg.P.funcs[i_spec_foGood]? = some P_spec_foGood := by kernel_rfl
noncomputable abbrev P_spec_prIf : Func := Tryz.f47
theorem get_spec_prIf : cfg.P.funcs[i_spec_prIf]? = some P_spec_prIf := by kernel_rfl
noncomputable abbrev P_spec_prTimes : Func := Tryz.f48
theorem get_spec_prTimes : cfg.P.funcs[i_spec_prTimes]? = some P_spec_prTimes := by kernel_rfl
noncomputable abbrev P_spec_foPair : Func := Tryz.f49
theorem get_spec_foPair : cfg.P.funcs[i_spec_foPair]? = some P_spec_foPair := by kernel_rfl
noncomputable abbrev P_spec_prInverse : Func := Tryz.f50
theorem get_spec_prInverse : cfg.P.funcs[i_spec_prInverse]? = some P_spec_prInverse := by kernel_rfl
noncomputable abbrev P_impl_pair_plain : Func := Tryz.f51
theorem get_impl_pair_plain : cfg.P.funcs[i_impl_pair_plain]? = some P_impl_pair_plain := by kernel_rfl
noncomputable abbrev P_impl_forest_stack : Func := Tryz.f52
theorem get_impl_forest_stack : cfg.P.funcs[i_impl_forest_stack]? = some P_impl_forest_stack := by kernel_rfl
noncomputable abbrev P_spec_l1Cur_surePair : Func := Tryz.f53
theorem get_spec_l1Cur_surePair : cfg.P.funcs[i_spec_l1Cur_surePair]? = some P_spec_l1Cur_surePair := by kernel_rfl
noncomputable abbrev P_spec_l1Cur_pick : Func := Tryz.f54
theorem get_spec_l1Cur_pick : cfg.P.funcs[i_spec_l1Cur_pick]? = some P_spec_l1Cur_pick := by kernel_rfl
noncomputable abbrev P_spec_l1Cur_tree : Func := Tryz.f55
theorem get_spec_l1Cur_tree : cfg.P.funcs[i_spec_l1Cur_tree]? = some P_spec_l1Cur_tree := by kernel_rfl
noncomputable abbrev P_spec_l1Cur_spoilt : Func := Tryz.f56
theorem get_spec_l1Cur_spoilt : cfg.P.funcs[i_spec_l1Cur_spoilt]? = some P_spec_l1Cur_spoilt := by kernel_rfl
noncomputable abbrev P_spec_prGenerator : Func := Tryz.f57
theorem get_spec_prGenerator : cfg.P.funcs[i_spec_prGenerator]? = some P_spec_prGenerator := by kernel_rfl
noncomputable abbrev P_impl_parse : Func := Tryz.f58
theorem get_impl_parse : cfg.P.funcs[i_impl_parse]? = some P_impl_parse := by kernel_rfl
noncomputable abbrev P_impl_node_carets : Func := Tryz.f59
theorem get_impl_node_carets : cfg.P.funcs[i_impl_node_carets]? = some P_impl_node_carets := by kernel_rfl
noncomputable abbrev P_impl_pair_both : Func := Tryz.f60
theorem get_impl_pair_both : cfg.P.funcs[i_impl_pair_both]? = some P_impl_pair_both := by kernel_rfl
noncomputable abbrev P_impl_pair_drop : Func := Tryz.f61
theorem get_impl_pair_drop : cfg.P.funcs[i_impl_pair_drop]? = some P_impl_pair_drop := by kernel_rfl
noncomputable abbrev P_impl_forest_trimmed : Func := Tryz.f62
theorem get_impl_forest_trimmed : cfg.P.funcs[i_impl_forest_trimmed]? = some P_impl_forest_trimmed := by kernel_rfl
noncomputable abbrev P_impl_forest_carets : Func := Tryz.f63
theorem get_impl_forest_carets : cfg.P.funcs[i_impl_forest_carets]? = some P_impl_forest_carets := by kernel_rfl
noncomputable abbrev P_impl_node_text : Func := Tryz.f64
theorem get_impl_node_text : cfg.P.funcs[i_impl_node_text]? = some P_impl_node_text := by kernel_rfl
noncomputable abbrev P_spec_trIs : Func := Tryz.f65
theorem get_spec_trIs : cfg.P.funcs[i_spec_trIs]? = some P_spec_trIs := by kernel_rfl
noncomputable abbrev P_spec_trCarets : Func := Tryz.f66
theorem get_spec_trCarets : cfg.P.funcs[i_spec_trCarets]? = some P_spec_trCarets := by kernel_rfl
noncomputable abbrev P_spec_prBoth : Func := Tryz.f67
theorem get_spec_prBoth : cfg.P.funcs[i_spec_prBoth]? = some P_spec_prBoth := by kernel_rfl
noncomputable abbrev P_spec_trDrop : Func := Tryz.f68
theorem get_spec_trDrop : cfg.P.funcs[i_spec_trDrop]? = some P_spec_trDrop := by kernel_rfl
noncomputable abbrev P_spec_wdShort : Func := Tryz.f69
theorem get_spec_wdShort : cfg.P.funcs[i_spec_wdShort]? = some P_spec_wdShort := by kernel_rfl
noncomputable abbrev P_spec_trLeaf : Func := Tryz.f70
theorem get_spec_trLeaf : cfg.P.funcs[i_spec_trLeaf]? = some P_spec_trLeaf := by kernel_rfl
noncomputable abbrev P_spec_trSides : Func := Tryz.f71
theorem get_spec_trSides : cfg.P.funcs[i_spec_trSides]? = some P_spec_trSides := by kernel_rfl
noncomputable abbrev P_impl_forest_hung : Func := Tryz.f72
theorem get_impl_forest_hung : cfg.P.funcs[i_impl_forest_hung]? = some P_impl_forest_hung := by kernel_rfl
noncomputable abbrev P_impl_rightComb : Func := Tryz.f73
theorem get_impl_rightComb : cfg.P.funcs[i_impl_rightComb]? = some P_impl_rightComb := by kernel_rfl
noncomputable abbrev P_impl_join : Func := Tryz.f74
theorem get_impl_join : cfg.P.funcs[i_impl_join]? = some P_impl_join := by kernel_rfl
noncomputable abbrev P_impl_node_grown : Func := Tryz.f75
theorem get_impl_node_grown : cfg.P.funcs[i_impl_node_grown]? = some P_impl_node_grown := by kernel_rfl
noncomputable abbrev P_impl_parts : Func := Tryz.f76
theorem get_impl_parts : cfg.P.funcs[i_impl_parts]? = some P_impl_parts := by kernel_rfl
noncomputable abbrev P_impl_node_exponents : Func := Tryz.f77
theorem get_impl_node_exponents : cfg.P.funcs[i_impl_node_exponents]? = some P_impl_node_exponents := by kernel_rfl
noncomputable abbrev P_impl_isLetter : Func := Tryz.f78
theorem get_impl_isLetter : cfg.P.funcs[i_impl_isLetter]? = some P_impl_isLetter := by kernel_rfl
noncomputable abbrev P_spec_l1Cur_sureForest : Func := Tryz.f79
theorem get_spec_l1Cur_sureForest : cfg.P.funcs[i_spec_l1Cur_sureForest]? = some P_spec_l1Cur_sureForest := by kernel_rfl
noncomputable abbrev P_spec_l1Cur_of : Func := Tryz.f80
theorem get_spec_l1Cur_of : cfg.P.funcs[i_spec_l1Cur_of]? = some P_spec_l1Cur_of := by kernel_rfl
noncomputable abbrev P_spec_trJoin : Func := Tryz.f81
theorem get_spec_trJoin : cfg.P.funcs[i_spec_trJoin]? = some P_spec_trJoin := by kernel_rfl
noncomputable abbrev P_spec_prFill : Func := Tryz.f82
theorem get_spec_prFill : cfg.P.funcs[i_spec_prFill]? = some P_spec_prFill := by kernel_rfl
noncomputable abbrev P_spec_prParts : Func := Tryz.f83
theorem get_spec_prParts : cfg.P.funcs[i_spec_prParts]? = some P_spec_prParts := by kernel_rfl
noncomputable abbrev P_spec_wdComb : Func := Tryz.f84
theorem get_spec_wdComb : cfg.P.funcs[i_spec_wdComb]? = some P_spec_wdComb := by kernel_rfl
noncomputable abbrev P_spec_trRight : Func := Tryz.f85
theorem get_spec_trRight : cfg.P.funcs[i_spec_trRight]? = some P_spec_trRight := by kernel_rfl
noncomputable abbrev P_impl_forest_tree : Func := Tryz.f86
theorem get_impl_forest_tree : cfg.P.funcs[i_impl_forest_tree]? = some P_impl_forest_tree := by kernel_rfl
noncomputable abbrev P_impl_node_leaves : Func := Tryz.f87
theorem get_impl_node_leaves : cfg.P.funcs[i_impl_node_leaves]? = some P_impl_node_leaves := by kernel_rfl
noncomputable abbrev P_spec_l1Cur_sureTree : Func := Tryz.f88
theorem get_spec_l1Cur_sureTree : cfg.P.funcs[i_spec_l1Cur_sureTree]? = some P_spec_l1Cur_sureTree := by kernel_rfl
noncomputable abbrev P_spec_l1Cur_next : Func := Tryz.f89
theorem get_spec_l1Cur_next : cfg.P.funcs[i_spec_l1Cur_next]? = some P_spec_l1Cur_next := by kernel_rfl
noncomputable abbrev P_spec_trGraft : Func := Tryz.f90
theorem get_spec_trGraft : cfg.P.funcs[i_spec_trGraft]? = some P_spec_trGraft := by kernel_rfl
noncomputable abbrev P_impl_read : Func := Tryz.f91
theorem get_impl_read : cfg.P.funcs[i_impl_read]? = some P_impl_read := by kernel_rfl
noncomputable abbrev P_impl_node_exposed : Func := Tryz.f92
theorem get_impl_node_exposed : cfg.P.funcs[i_impl_node_exposed]? = some P_impl_node_exposed := by kernel_rfl
noncomputable abbrev P_slices_Contains : Func := Tryz.f93
theorem get_slices_Contains : cfg.P.funcs[i_slices_Contains]? = some P_slices_Contains := by kernel_rfl
noncomputable abbrev P_impl_node_without : Func := Tryz.f94
theorem get_impl_node_without : cfg.P.funcs[i_impl_node_without]? = some P_impl_node_without := by kernel_rfl
noncomputable abbrev P_spec_trEnd : Func := Tryz.f95
theorem get_spec_trEnd : cfg.P.funcs[i_spec_trEnd]? = some P_spec_trEnd := by kernel_rfl
noncomputable abbrev P_spec_trExposed : Func := Tryz.f96
theorem get_spec_trExposed : cfg.P.funcs[i_spec_trExposed]? = some P_spec_trExposed := by kernel_rfl
noncomputable abbrev P_spec_l1Has : Func := Tryz.f97
theorem get_spec_l1Has : cfg.P.funcs[i_spec_l1Has]? = some P_spec_l1Has := by kernel_rfl
noncomputable abbrev P_impl_node_addresses : Func := Tryz.f98
theorem get_impl_node_addresses : cfg.P.funcs[i_impl_node_addresses]? = some P_impl_node_addresses := by kernel_rfl
noncomputable abbrev P_impl_parts_k1 : Func := Tryz.f99
theorem get_impl_parts_k1 : cfg.P.funcs[i_impl_parts_k1]? = some P_impl_parts_k1 := by kernel_rfl
noncomputable abbrev P_impl_node_at : Func := Tryz.f100
theorem get_impl_node_at : cfg.P.funcs[i_impl_node_at]? = some P_impl_node_at := by kernel_rfl
noncomputable abbrev P_spec_l1Least : Func := Tryz.f101
theorem get_spec_l1Least : cfg.P.funcs[i_spec_l1Least]? = some P_spec_l1Least := by kernel_rfl
noncomputable abbrev P_spec_trOf : Func := Tryz.f102
theorem get_spec_trOf : cfg.P.funcs[i_spec_trOf]? = some P_spec_trOf := by kernel_rfl
noncomputable abbrev P_slices_Index : Func := Tryz.f103
theorem get_slices_Index : cfg.P.funcs[i_slices_Index]? = some P_slices_Index := by kernel_rfl
end Go.AI
