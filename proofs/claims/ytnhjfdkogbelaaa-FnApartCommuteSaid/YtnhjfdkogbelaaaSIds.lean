/- A part of the road: what it proves stands in its last texts. -/
import Derived.Test.YtnhjfdkogbelaaaSCfg
import Derived.Test.YtnhjfdkogbelaaaProg
set_option autoImplicit false
set_option maxRecDepth 100000
set_option linter.unusedVariables false
namespace Go.AI
open Go.Proofs

abbrev t_int : TypeId := 3
abbrev t_string : TypeId := 9
abbrev t_Simpl_Ratio : TypeId := 39
abbrev t_impl_Ratio : TypeId := 42
abbrev t_impl_piece : TypeId := 84
abbrev i_laws_FnApartCommute : FuncId := 3
abbrev i_laws_big : FuncId := 4
abbrev i_spec_DrawAreApart : FuncId := 5
abbrev i_impl_AreApart : FuncId := 6
abbrev i_spec_AreApart : FuncId := 7
abbrev i_impl_DoCommute : FuncId := 8
abbrev i_spec_DoCommute : FuncId := 9
abbrev i_spec_DrawDoCommute : FuncId := 10
abbrev i_impl_ProductPair : FuncId := 11
abbrev i_impl_two : FuncId := 12
abbrev i_slices_ContainsFunc : FuncId := 13
abbrev i_impl_pair_moved : FuncId := 14
abbrev i_impl_AreApart_k1 : FuncId := 15
abbrev i_impl_AreApart_k1_k1 : FuncId := 16
abbrev i_impl_Ratio_less : FuncId := 17
abbrev i_spec_prGood : FuncId := 18
abbrev i_spec_obMoved : FuncId := 19
abbrev i_spec_obLess : FuncId := 20
abbrev i_impl_pair_times : FuncId := 21
abbrev i_impl_node_carets : FuncId := 22
abbrev i_impl_pair_text : FuncId := 23
abbrev i_spec_prIf : FuncId := 24
abbrev i_spec_prTimes : FuncId := 25
abbrev i_spec_l1Cur_apart : FuncId := 26
abbrev i_impl_pair_fits : FuncId := 27
abbrev i_impl_pairOf : FuncId := 28
abbrev i_slices_IndexFunc : FuncId := 29
abbrev i_impl_pair_fixed : FuncId := 30
abbrev i_spec_trIs : FuncId := 31
abbrev i_spec_trCarets : FuncId := 32
abbrev i_spec_obFixed : FuncId := 33
abbrev i_impl_join : FuncId := 34
abbrev i_impl_node_grown : FuncId := 35
abbrev i_impl_parts : FuncId := 36
abbrev i_impl_pair_reduced : FuncId := 37
abbrev i_impl_node_text : FuncId := 38
abbrev i_spec_trJoin : FuncId := 39
abbrev i_spec_prReduce : FuncId := 40
abbrev i_spec_prFill : FuncId := 41
abbrev i_spec_prParts : FuncId := 42
abbrev i_spec_l1Cur_pair : FuncId := 43
abbrev i_spec_l1Cur_one : FuncId := 44
abbrev i_spec_trOf : FuncId := 45
abbrev i_impl_pair_plain : FuncId := 46
abbrev i_impl_parse : FuncId := 47
abbrev i_impl_pair_pieces : FuncId := 48
abbrev i_impl_piece_fixedIn : FuncId := 49
abbrev i_spec_trEnd : FuncId := 50
abbrev i_spec_trAddresses : FuncId := 51
abbrev i_spec_mpOf : FuncId := 52
abbrev i_spec_obRatio : FuncId := 53
abbrev i_impl_node_leaves : FuncId := 54
abbrev i_impl_node_addresses : FuncId := 55
abbrev i_impl_parts_k1 : FuncId := 56
abbrev i_impl_node_at : FuncId := 57
abbrev i_impl_pair_both : FuncId := 58
abbrev i_impl_pair_drop : FuncId := 59
abbrev i_spec_trLeaf : FuncId := 60
abbrev i_spec_trSides : FuncId := 61
abbrev i_spec_prBoth : FuncId := 62
abbrev i_spec_trDrop : FuncId := 63
abbrev i_spec_l1Cur_surePair : FuncId := 64
abbrev i_spec_l1Cur_pick : FuncId := 65
abbrev i_spec_l1Cur_tree : FuncId := 66
abbrev i_spec_l1Cur_spoilt : FuncId := 67
abbrev i_spec_prGenerator : FuncId := 68
abbrev i_impl_read : FuncId := 69
abbrev i_impl_placeOf : FuncId := 70
abbrev i_impl_short : FuncId := 71
abbrev i_impl_piece_end : FuncId := 72
abbrev i_impl_piece_slope : FuncId := 73
abbrev i_impl_ratio : FuncId := 74
abbrev i_spec_mpShort : FuncId := 75
abbrev i_spec_mpGcd : FuncId := 76
abbrev i_spec_l1Abs : FuncId := 77
abbrev i_impl_node_exposed : FuncId := 78
abbrev i_slices_Contains : FuncId := 79
abbrev i_impl_node_without : FuncId := 80
abbrev i_spec_trExposed : FuncId := 81
abbrev i_spec_l1Has : FuncId := 82
abbrev i_spec_l1Cur_sureTree : FuncId := 83
abbrev i_spec_l1Cur_next : FuncId := 84
abbrev i_spec_trGraft : FuncId := 85
abbrev i_spec_trRight : FuncId := 86
abbrev i_impl_size : FuncId := 87
abbrev i_spec_l1Most : FuncId := 88
abbrev i_slices_Index : FuncId := 89
noncomputable abbrev P_laws_FnApartCommute : Func := Try.f3
theorem get_laws_FnApartCommute : cfg.P.funcs[i_laws_FnApartCommute]? = some P_laws_FnApartCommute := by kernel_rfl
noncomputable abbrev P_laws_big : Func := Try.f4
theorem get_laws_big : cfg.P.funcs[i_laws_big]? = some P_laws_big := by kernel_rfl
noncomputable abbrev P_spec_DrawAreApart : Func := Try.f5
theorem get_spec_DrawAreApart : cfg.P.funcs[i_spec_DrawAreApart]? = some P_spec_DrawAreApart := by kernel_rfl
noncomputable abbrev P_impl_AreApart : Func := Try.f6
theorem get_impl_AreApart : cfg.P.funcs[i_impl_AreApart]? = some P_impl_AreApart := by kernel_rfl
noncomputable abbrev P_spec_AreApart : Func := Try.f7
theorem get_spec_AreApart : cfg.P.funcs[i_spec_AreApart]? = some P_spec_AreApart := by kernel_rfl
noncomputable abbrev P_impl_DoCommute : Func := Try.f8
theorem get_impl_DoCommute : cfg.P.funcs[i_impl_DoCommute]? = some P_impl_DoCommute := by kernel_rfl
noncomputable abbrev P_spec_DoCommute : Func := Try.f9
theorem get_spec_DoCommute : cfg.P.funcs[i_spec_DoCommute]? = some P_spec_DoCommute := by kernel_rfl
noncomputable abbrev P_spec_DrawDoCommute : Func := Try.f10
theorem get_spec_DrawDoCommute : cfg.P.funcs[i_spec_DrawDoCommute]? = some P_spec_DrawDoCommute := by kernel_rfl
noncomputable abbrev P_impl_ProductPair : Func := Try.f11
theorem get_impl_ProductPair : cfg.P.funcs[i_impl_ProductPair]? = some P_impl_ProductPair := by kernel_rfl
noncomputable abbrev P_impl_two : Func := Try.f12
theorem get_impl_two : cfg.P.funcs[i_impl_two]? = some P_impl_two := by kernel_rfl
noncomputable abbrev P_slices_ContainsFunc : Func := Try.f13
theorem get_slices_ContainsFunc : cfg.P.funcs[i_slices_ContainsFunc]? = some P_slices_ContainsFunc := by kernel_rfl
noncomputable abbrev P_impl_pair_moved : Func := Try.f14
theorem get_impl_pair_moved : cfg.P.funcs[i_impl_pair_moved]? = some P_impl_pair_moved := by kernel_rfl
noncomputable abbrev P_impl_AreApart_k1 : Func := Try.f15
theorem get_impl_AreApart_k1 : cfg.P.funcs[i_impl_AreApart_k1]? = some P_impl_AreApart_k1 := by kernel_rfl
noncomputable abbrev P_impl_AreApart_k1_k1 : Func := Try.f16
theorem get_impl_AreApart_k1_k1 : cfg.P.funcs[i_impl_AreApart_k1_k1]? = some P_impl_AreApart_k1_k1 := by kernel_rfl
noncomputable abbrev P_impl_Ratio_less : Func := Try.f17
theorem get_impl_Ratio_less : cfg.P.funcs[i_impl_Ratio_less]? = some P_impl_Ratio_less := by kernel_rfl
noncomputable abbrev P_spec_prGood : Func := Try.f18
theorem get_spec_prGood : cfg.P.funcs[i_spec_prGood]? = some P_spec_prGood := by kernel_rfl
noncomputable abbrev P_spec_obMoved : Func := Try.f19
theorem get_spec_obMoved : cfg.P.funcs[i_spec_obMoved]? = some P_spec_obMoved := by kernel_rfl
noncomputable abbrev P_spec_obLess : Func := Try.f20
theorem get_spec_obLess : cfg.P.funcs[i_spec_obLess]? = some P_spec_obLess := by kernel_rfl
noncomputable abbrev P_impl_pair_times : Func := Try.f21
theorem get_impl_pair_times : cfg.P.funcs[i_impl_pair_times]? = some P_impl_pair_times := by kernel_rfl
noncomputable abbrev P_impl_node_carets : Func := Try.f22
theorem get_impl_node_carets : cfg.P.funcs[i_impl_node_carets]? = some P_impl_node_carets := by kernel_rfl
noncomputable abbrev P_impl_pair_text : Func := Try.f23
theorem get_impl_pair_text : cfg.P.funcs[i_impl_pair_text]? = some P_impl_pair_text := by kernel_rfl
noncomputable abbrev P_spec_prIf : Func := Try.f24
theorem get_spec_prIf : cfg.P.funcs[i_spec_prIf]? = some P_spec_prIf := by kernel_rfl
noncomputable abbrev P_spec_prTimes : Func := Try.f25
theorem get_spec_prTimes : cfg.P.funcs[i_spec_prTimes]? = some P_spec_prTimes := by kernel_rfl
noncomputable abbrev P_spec_l1Cur_apart : Func := Try.f26
theorem get_spec_l1Cur_apart : cfg.P.funcs[i_spec_l1Cur_apart]? = some P_spec_l1Cur_apart := by kernel_rfl
noncomputable abbrev P_impl_pair_fits : Func := Try.f27
theorem get_impl_pair_fits : cfg.P.funcs[i_impl_pair_fits]? = some P_impl_pair_fits := by kernel_rfl
noncomputable abbrev P_impl_pairOf : Func := Try.f28
theorem get_impl_pairOf : cfg.P.funcs[i_impl_pairOf]? = some P_impl_pairOf := by kernel_rfl
noncomputable abbrev P_slices_IndexFunc : Func := Try.f29
theorem get_slices_IndexFunc : cfg.P.funcs[i_slices_IndexFunc]? = some P_slices_IndexFunc := by kernel_rfl
noncomputable abbrev P_impl_pair_fixed : Func := Try.f30
theorem get_impl_pair_fixed : cfg.P.funcs[i_impl_pair_fixed]? = some P_impl_pair_fixed := by kernel_rfl
noncomputable abbrev P_spec_trIs : Func := Try.f31
theorem get_spec_trIs : cfg.P.funcs[i_spec_trIs]? = some P_spec_trIs := by kernel_rfl
noncomputable abbrev P_spec_trCarets : Func := Try.f32
theorem get_spec_trCarets : cfg.P.funcs[i_spec_trCarets]? = some P_spec_trCarets := by kernel_rfl
noncomputable abbrev P_spec_obFixed : Func := Try.f33
theorem get_spec_obFixed : cfg.P.funcs[i_spec_obFixed]? = some P_spec_obFixed := by kernel_rfl
noncomputable abbrev P_impl_join : Func := Try.f34
theorem get_impl_join : cfg.P.funcs[i_impl_join]? = some P_impl_join := by kernel_rfl
noncomputable abbrev P_impl_node_grown : Func := Try.f35
theorem get_impl_node_grown : cfg.P.funcs[i_impl_node_grown]? = some P_impl_node_grown := by kernel_rfl
noncomputable abbrev P_impl_parts : Func := Try.f36
theorem get_impl_parts : cfg.P.funcs[i_impl_parts]? = some P_impl_parts := by kernel_rfl
noncomputable abbrev P_impl_pair_reduced : Func := Try.f37
theorem get_impl_pair_reduced : cfg.P.funcs[i_impl_pair_reduced]? = some P_impl_pair_reduced := by kernel_rfl
noncomputable abbrev P_impl_node_text : Func := Try.f38
theorem get_impl_node_text : cfg.P.funcs[i_impl_node_text]? = some P_impl_node_text := by kernel_rfl
noncomputable abbrev P_spec_trJoin : Func := Try.f39
theorem get_spec_trJoin : cfg.P.funcs[i_spec_trJoin]? = some P_spec_trJoin := by kernel_rfl
noncomputable abbrev P_spec_prReduce : Func := Try.f40
theorem get_spec_prReduce : cfg.P.funcs[i_spec_prReduce]? = some P_spec_prReduce := by kernel_rfl
noncomputable abbrev P_spec_prFill : Func := Try.f41
theorem get_spec_prFill : cfg.P.funcs[i_spec_prFill]? = some P_spec_prFill := by kernel_rfl
noncomputable abbrev P_spec_prParts : Func := Try.f42
theorem get_spec_prParts : cfg.P.funcs[i_spec_prParts]? = some P_spec_prParts := by kernel_rfl
noncomputable abbrev P_spec_l1Cur_pair : Func := Try.f43
theorem get_spec_l1Cur_pair : cfg.P.funcs[i_spec_l1Cur_pair]? = some P_spec_l1Cur_pair := by kernel_rfl
noncomputable abbrev P_spec_l1Cur_one : Func := Try.f44
theorem get_spec_l1Cur_one : cfg.P.funcs[i_spec_l1Cur_one]? = some P_spec_l1Cur_one := by kernel_rfl
noncomputable abbrev P_spec_trOf : Func := Try.f45
theorem get_spec_trOf : cfg.P.funcs[i_spec_trOf]? = some P_spec_trOf := by kernel_rfl
noncomputable abbrev P_impl_pair_plain : Func := Try.f46
theorem get_impl_pair_plain : cfg.P.funcs[i_impl_pair_plain]? = some P_impl_pair_plain := by kernel_rfl
noncomputable abbrev P_impl_parse : Func := Try.f47
theorem get_impl_parse : cfg.P.funcs[i_impl_parse]? = some P_impl_parse := by kernel_rfl
noncomputable abbrev P_impl_pair_pieces : Func := Try.f48
theorem get_impl_pair_pieces : cfg.P.funcs[i_impl_pair_pieces]? = some P_impl_pair_pieces := by kernel_rfl
noncomputable abbrev P_impl_piece_fixedIn : Func := Try.f49
theorem get_impl_piece_fixedIn : cfg.P.funcs[i_impl_piece_fixedIn]? = some P_impl_piece_fixedIn := by kernel_rfl
noncomputable abbrev P_spec_trEnd : Func := Try.f50
theorem get_spec_trEnd : cfg.P.funcs[i_spec_trEnd]? = some P_spec_trEnd := by kernel_rfl
noncomputable abbrev P_spec_trAddresses : Func := Try.f51
theorem get_spec_trAddresses : cfg.P.funcs[i_spec_trAddresses]? = some P_spec_trAddresses := by kernel_rfl
noncomputable abbrev P_spec_mpOf : Func := Try.f52
theorem get_spec_mpOf : cfg.P.funcs[i_spec_mpOf]? = some P_spec_mpOf := by kernel_rfl
noncomputable abbrev P_spec_obRatio : Func := Try.f53
theorem get_spec_obRatio : cfg.P.funcs[i_spec_obRatio]? = some P_spec_obRatio := by kernel_rfl
noncomputable abbrev P_impl_node_leaves : Func := Try.f54
theorem get_impl_node_leaves : cfg.P.funcs[i_impl_node_leaves]? = some P_impl_node_leaves := by kernel_rfl
noncomputable abbrev P_impl_node_addresses : Func := Try.f55
theorem get_impl_node_addresses : cfg.P.funcs[i_impl_node_addresses]? = some P_impl_node_addresses := by kernel_rfl
noncomputable abbrev P_impl_parts_k1 : Func := Try.f56
theorem get_impl_parts_k1 : cfg.P.funcs[i_impl_parts_k1]? = some P_impl_parts_k1 := by kernel_rfl
noncomputable abbrev P_impl_node_at : Func := Try.f57
theorem get_impl_node_at : cfg.P.funcs[i_impl_node_at]? = some P_impl_node_at := by kernel_rfl
noncomputable abbrev P_impl_pair_both : Func := Try.f58
theorem get_impl_pair_both : cfg.P.funcs[i_impl_pair_both]? = some P_impl_pair_both := by kernel_rfl
noncomputable abbrev P_impl_pair_drop : Func := Try.f59
theorem get_impl_pair_drop : cfg.P.funcs[i_impl_pair_drop]? = some P_impl_pair_drop := by kernel_rfl
noncomputable abbrev P_spec_trLeaf : Func := Try.f60
theorem get_spec_trLeaf : cfg.P.funcs[i_spec_trLeaf]? = some P_spec_trLeaf := by kernel_rfl
noncomputable abbrev P_spec_trSides : Func := Try.f61
theorem get_spec_trSides : cfg.P.funcs[i_spec_trSides]? = some P_spec_trSides := by kernel_rfl
noncomputable abbrev P_spec_prBoth : Func := Try.f62
theorem get_spec_prBoth : cfg.P.funcs[i_spec_prBoth]? = some P_spec_prBoth := by kernel_rfl
noncomputable abbrev P_spec_trDrop : Func := Try.f63
theorem get_spec_trDrop : cfg.P.funcs[i_spec_trDrop]? = some P_spec_trDrop := by kernel_rfl
noncomputable abbrev P_spec_l1Cur_surePair : Func := Try.f64
theorem get_spec_l1Cur_surePair : cfg.P.funcs[i_spec_l1Cur_surePair]? = some P_spec_l1Cur_surePair := by kernel_rfl
noncomputable abbrev P_spec_l1Cur_pick : Func := Try.f65
theorem get_spec_l1Cur_pick : cfg.P.funcs[i_spec_l1Cur_pick]? = some P_spec_l1Cur_pick := by kernel_rfl
noncomputable abbrev P_spec_l1Cur_tree : Func := Try.f66
theorem get_spec_l1Cur_tree : cfg.P.funcs[i_spec_l1Cur_tree]? = some P_spec_l1Cur_tree := by kernel_rfl
noncomputable abbrev P_spec_l1Cur_spoilt : Func := Try.f67
theorem get_spec_l1Cur_spoilt : cfg.P.funcs[i_spec_l1Cur_spoilt]? = some P_spec_l1Cur_spoilt := by kernel_rfl
noncomputable abbrev P_spec_prGenerator : Func := Try.f68
theorem get_spec_prGenerator : cfg.P.funcs[i_spec_prGenerator]? = some P_spec_prGenerator := by kernel_rfl
noncomputable abbrev P_impl_read : Func := Try.f69
theorem get_impl_read : cfg.P.funcs[i_impl_read]? = some P_impl_read := by kernel_rfl
noncomputable abbrev P_impl_placeOf : Func := Try.f70
theorem get_impl_placeOf : cfg.P.funcs[i_impl_placeOf]? = some P_impl_placeOf := by kernel_rfl
noncomputable abbrev P_impl_short : Func := Try.f71
theorem get_impl_short : cfg.P.funcs[i_impl_short]? = some P_impl_short := by kernel_rfl
noncomputable abbrev P_impl_piece_end : Func := Try.f72
theorem get_impl_piece_end : cfg.P.funcs[i_impl_piece_end]? = some P_impl_piece_end := by kernel_rfl
noncomputable abbrev P_impl_piece_slope : Func := Try.f73
theorem get_impl_piece_slope : cfg.P.funcs[i_impl_piece_slope]? = some P_impl_piece_slope := by kernel_rfl
noncomputable abbrev P_impl_ratio : Func := Try.f74
theorem get_impl_ratio : cfg.P.funcs[i_impl_ratio]? = some P_impl_ratio := by kernel_rfl
noncomputable abbrev P_spec_mpShort : Func := Try.f75
theorem get_spec_mpShort : cfg.P.funcs[i_spec_mpShort]? = some P_spec_mpShort := by kernel_rfl
noncomputable abbrev P_spec_mpGcd : Func := Try.f76
theorem get_spec_mpGcd : cfg.P.funcs[i_spec_mpGcd]? = some P_spec_mpGcd := by kernel_rfl
noncomputable abbrev P_spec_l1Abs : Func := Try.f77
theorem get_spec_l1Abs : cfg.P.funcs[i_spec_l1Abs]? = some P_spec_l1Abs := by kernel_rfl
noncomputable abbrev P_impl_node_exposed : Func := Try.f78
theorem get_impl_node_exposed : cfg.P.funcs[i_impl_node_exposed]? = some P_impl_node_exposed := by kernel_rfl
noncomputable abbrev P_slices_Contains : Func := Try.f79
theorem get_slices_Contains : cfg.P.funcs[i_slices_Contains]? = some P_slices_Contains := by kernel_rfl
noncomputable abbrev P_impl_node_without : Func := Try.f80
theorem get_impl_node_without : cfg.P.funcs[i_impl_node_without]? = some P_impl_node_without := by kernel_rfl
noncomputable abbrev P_spec_trExposed : Func := Try.f81
theorem get_spec_trExposed : cfg.P.funcs[i_spec_trExposed]? = some P_spec_trExposed := by kernel_rfl
noncomputable abbrev P_spec_l1Has : Func := Try.f82
theorem get_spec_l1Has : cfg.P.funcs[i_spec_l1Has]? = some P_spec_l1Has := by kernel_rfl
noncomputable abbrev P_spec_l1Cur_sureTree : Func := Try.f83
theorem get_spec_l1Cur_sureTree : cfg.P.funcs[i_spec_l1Cur_sureTree]? = some P_spec_l1Cur_sureTree := by kernel_rfl
noncomputable abbrev P_spec_l1Cur_next : Func := Try.f84
theorem get_spec_l1Cur_next : cfg.P.funcs[i_spec_l1Cur_next]? = some P_spec_l1Cur_next := by kernel_rfl
noncomputable abbrev P_spec_trGraft : Func := Try.f85
theorem get_spec_trGraft : cfg.P.funcs[i_spec_trGraft]? = some P_spec_trGraft := by kernel_rfl
noncomputable abbrev P_spec_trRight : Func := Try.f86
theorem get_spec_trRight : cfg.P.funcs[i_spec_trRight]? = some P_spec_trRight := by kernel_rfl
noncomputable abbrev P_impl_size : Func := Try.f87
theorem get_impl_size : cfg.P.funcs[i_impl_size]? = some P_impl_size := by kernel_rfl
noncomputable abbrev P_spec_l1Most : Func := Try.f88
theorem get_spec_l1Most : cfg.P.funcs[i_spec_l1Most]? = some P_spec_l1Most := by kernel_rfl
noncomputable abbrev P_slices_Index : Func := Try.f89
theorem get_slices_Index : cfg.P.funcs[i_slices_Index]? = some P_slices_Index := by kernel_rfl
end Go.AI
