/- A part of the road: what it proves stands in its last texts. -/
import Derived.Test.YtdfllkeekehplaaSCfg
import Derived.Test.YtdfllkeekehplaaProg
set_option autoImplicit false
set_option maxRecDepth 100000
set_option linter.unusedVariables false
namespace Go.AI
open Go.Proofs

abbrev t_string : TypeId := 9
abbrev t_Sstring : TypeId := 31
abbrev i_laws_FnTreesCounted : FuncId := 3
abbrev i_laws_big : FuncId := 13
abbrev i_spec_DrawTreeAt : FuncId := 14
abbrev i_impl_TreeAt : FuncId := 15
abbrev i_spec_TreeAt : FuncId := 16
abbrev i_impl_CountTrees : FuncId := 17
abbrev i_spec_CountTrees : FuncId := 18
abbrev i_spec_DrawAllTrees : FuncId := 19
abbrev i_impl_AllTrees : FuncId := 20
abbrev i_spec_AllTrees : FuncId := 21
abbrev i_laws_fTexts : FuncId := 22
abbrev i_impl_LeftComb : FuncId := 23
abbrev i_impl_RightComb : FuncId := 24
abbrev i_impl_IsTree : FuncId := 25
abbrev i_spec_DrawRightComb : FuncId := 26
abbrev i_spec_RightComb : FuncId := 27
abbrev i_spec_LeftComb : FuncId := 28
abbrev i_spec_DrawRankTree : FuncId := 29
abbrev i_impl_RankTree : FuncId := 30
abbrev i_spec_RankTree : FuncId := 31
abbrev i_impl_CaretsOf : FuncId := 32
abbrev i_spec_l1Cur_carets : FuncId := 152
abbrev i_spec_trSize : FuncId := 153
abbrev i_spec_l1Cur_one : FuncId := 154
abbrev i_spec_l1Cur_among : FuncId := 155
abbrev i_spec_l1Cur_pick : FuncId := 156
abbrev i_spec_trCount : FuncId := 157
abbrev i_impl_isCarets : FuncId := 158
abbrev i_impl_trees : FuncId := 159
abbrev i_spec_l1In : FuncId := 160
abbrev i_spec_trList : FuncId := 161
abbrev i_impl_rightComb : FuncId := 162
abbrev i_impl_node_mirror : FuncId := 163
abbrev i_impl_node_text : FuncId := 164
abbrev i_impl_parse : FuncId := 165
abbrev i_spec_trRight : FuncId := 166
abbrev i_spec_trMirror : FuncId := 167
abbrev i_spec_l1Cur_tree : FuncId := 168
abbrev i_slices_Index_string : FuncId := 169
abbrev i_impl_node_carets : FuncId := 170
abbrev i_spec_trIs : FuncId := 171
abbrev i_spec_trCarets : FuncId := 172
abbrev i_spec_trGraft : FuncId := 179
abbrev i_spec_l1Cur_of : FuncId := 180
abbrev i_spec_l1Cur_sureTree : FuncId := 211
abbrev i_spec_l1Cur_pair : FuncId := 215
abbrev i_spec_l1Cur_surePair : FuncId := 276
abbrev i_spec_l1Cur_spoilt : FuncId := 277
abbrev i_spec_l1Cur_next : FuncId := 289
abbrev i_slices_Sort : FuncId := 290
abbrev i_spec_trOf : FuncId := 291
abbrev i_impl_read : FuncId := 292
abbrev i_spec_trLeaf : FuncId := 293
abbrev i_spec_trSides : FuncId := 294
abbrev i_spec_trEnd : FuncId := 295
abbrev i_spec_prGenerator : FuncId := 313
noncomputable abbrev P_laws_FnTreesCounted : Func := Try.f3
theorem get_laws_FnTreesCounted : cfg.P.funcs[i_laws_FnTreesCounted]? = some P_laws_FnTreesCounted := by kernel_rfl
noncomputable abbrev P_laws_big : Func := Try.f13
theorem get_laws_big : cfg.P.funcs[i_laws_big]? = some P_laws_big := by kernel_rfl
noncomputable abbrev P_spec_DrawTreeAt : Func := Try.f14
theorem get_spec_DrawTreeAt : cfg.P.funcs[i_spec_DrawTreeAt]? = some P_spec_DrawTreeAt := by kernel_rfl
noncomputable abbrev P_impl_TreeAt : Func := Try.f15
theorem get_impl_TreeAt : cfg.P.funcs[i_impl_TreeAt]? = some P_impl_TreeAt := by kernel_rfl
noncomputable abbrev P_spec_TreeAt : Func := Try.f16
theorem get_spec_TreeAt : cfg.P.funcs[i_spec_TreeAt]? = some P_spec_TreeAt := by kernel_rfl
noncomputable abbrev P_impl_CountTrees : Func := Try.f17
theorem get_impl_CountTrees : cfg.P.funcs[i_impl_CountTrees]? = some P_impl_CountTrees := by kernel_rfl
noncomputable abbrev P_spec_CountTrees : Func := Try.f18
theorem get_spec_CountTrees : cfg.P.funcs[i_spec_CountTrees]? = some P_spec_CountTrees := by kernel_rfl
noncomputable abbrev P_spec_DrawAllTrees : Func := Try.f19
theorem get_spec_DrawAllTrees : cfg.P.funcs[i_spec_DrawAllTrees]? = some P_spec_DrawAllTrees := by kernel_rfl
noncomputable abbrev P_impl_AllTrees : Func := Try.f20
theorem get_impl_AllTrees : cfg.P.funcs[i_impl_AllTrees]? = some P_impl_AllTrees := by kernel_rfl
noncomputable abbrev P_spec_AllTrees : Func := Try.f21
theorem get_spec_AllTrees : cfg.P.funcs[i_spec_AllTrees]? = some P_spec_AllTrees := by kernel_rfl
noncomputable abbrev P_laws_fTexts : Func := Try.f22
theorem get_laws_fTexts : cfg.P.funcs[i_laws_fTexts]? = some P_laws_fTexts := by kernel_rfl
noncomputable abbrev P_impl_LeftComb : Func := Try.f23
theorem get_impl_LeftComb : cfg.P.funcs[i_impl_LeftComb]? = some P_impl_LeftComb := by kernel_rfl
noncomputable abbrev P_impl_RightComb : Func := Try.f24
theorem get_impl_RightComb : cfg.P.funcs[i_impl_RightComb]? = some P_impl_RightComb := by kernel_rfl
noncomputable abbrev P_impl_IsTree : Func := Try.f25
theorem get_impl_IsTree : cfg.P.funcs[i_impl_IsTree]? = some P_impl_IsTree := by kernel_rfl
noncomputable abbrev P_spec_DrawRightComb : Func := Try.f26
theorem get_spec_DrawRightComb : cfg.P.funcs[i_spec_DrawRightComb]? = some P_spec_DrawRightComb := by kernel_rfl
noncomputable abbrev P_spec_RightComb : Func := Try.f27
theorem get_spec_RightComb : cfg.P.funcs[i_spec_RightComb]? = some P_spec_RightComb := by kernel_rfl
noncomputable abbrev P_spec_LeftComb : Func := Try.f28
theorem get_spec_LeftComb : cfg.P.funcs[i_spec_LeftComb]? = some P_spec_LeftComb := by kernel_rfl
noncomputable abbrev P_spec_DrawRankTree : Func := Try.f29
theorem get_spec_DrawRankTree : cfg.P.funcs[i_spec_DrawRankTree]? = some P_spec_DrawRankTree := by kernel_rfl
noncomputable abbrev P_impl_RankTree : Func := Try.f30
theorem get_impl_RankTree : cfg.P.funcs[i_impl_RankTree]? = some P_impl_RankTree := by kernel_rfl
noncomputable abbrev P_spec_RankTree : Func := Try.f31
theorem get_spec_RankTree : cfg.P.funcs[i_spec_RankTree]? = some P_spec_RankTree := by kernel_rfl
noncomputable abbrev P_impl_CaretsOf : Func := Try.f32
theorem get_impl_CaretsOf : cfg.P.funcs[i_impl_CaretsOf]? = some P_impl_CaretsOf := by kernel_rfl
noncomputable abbrev P_spec_l1Cur_carets : Func := Try.f152
theorem get_spec_l1Cur_carets : cfg.P.funcs[i_spec_l1Cur_carets]? = some P_spec_l1Cur_carets := by kernel_rfl
noncomputable abbrev P_spec_trSize : Func := Try.f153
theorem get_spec_trSize : cfg.P.funcs[i_spec_trSize]? = some P_spec_trSize := by kernel_rfl
noncomputable abbrev P_spec_l1Cur_one : Func := Try.f154
theorem get_spec_l1Cur_one : cfg.P.funcs[i_spec_l1Cur_one]? = some P_spec_l1Cur_one := by kernel_rfl
noncomputable abbrev P_spec_l1Cur_among : Func := Try.f155
theorem get_spec_l1Cur_among : cfg.P.funcs[i_spec_l1Cur_among]? = some P_spec_l1Cur_among := by kernel_rfl
noncomputable abbrev P_spec_l1Cur_pick : Func := Try.f156
theorem get_spec_l1Cur_pick : cfg.P.funcs[i_spec_l1Cur_pick]? = some P_spec_l1Cur_pick := by kernel_rfl
noncomputable abbrev P_spec_trCount : Func := Try.f157
theorem get_spec_trCount : cfg.P.funcs[i_spec_trCount]? = some P_spec_trCount := by kernel_rfl
noncomputable abbrev P_impl_isCarets : Func := Try.f158
theorem get_impl_isCarets : cfg.P.funcs[i_impl_isCarets]? = some P_impl_isCarets := by kernel_rfl
noncomputable abbrev P_impl_trees : Func := Try.f159
theorem get_impl_trees : cfg.P.funcs[i_impl_trees]? = some P_impl_trees := by kernel_rfl
noncomputable abbrev P_spec_l1In : Func := Try.f160
theorem get_spec_l1In : cfg.P.funcs[i_spec_l1In]? = some P_spec_l1In := by kernel_rfl
noncomputable abbrev P_spec_trList : Func := Try.f161
theorem get_spec_trList : cfg.P.funcs[i_spec_trList]? = some P_spec_trList := by kernel_rfl
noncomputable abbrev P_impl_rightComb : Func := Try.f162
theorem get_impl_rightComb : cfg.P.funcs[i_impl_rightComb]? = some P_impl_rightComb := by kernel_rfl
noncomputable abbrev P_impl_node_mirror : Func := Try.f163
theorem get_impl_node_mirror : cfg.P.funcs[i_impl_node_mirror]? = some P_impl_node_mirror := by kernel_rfl
noncomputable abbrev P_impl_node_text : Func := Try.f164
theorem get_impl_node_text : cfg.P.funcs[i_impl_node_text]? = some P_impl_node_text := by kernel_rfl
noncomputable abbrev P_impl_parse : Func := Try.f165
theorem get_impl_parse : cfg.P.funcs[i_impl_parse]? = some P_impl_parse := by kernel_rfl
noncomputable abbrev P_spec_trRight : Func := Try.f166
theorem get_spec_trRight : cfg.P.funcs[i_spec_trRight]? = some P_spec_trRight := by kernel_rfl
noncomputable abbrev P_spec_trMirror : Func := Try.f167
theorem get_spec_trMirror : cfg.P.funcs[i_spec_trMirror]? = some P_spec_trMirror := by kernel_rfl
noncomputable abbrev P_spec_l1Cur_tree : Func := Try.f168
theorem get_spec_l1Cur_tree : cfg.P.funcs[i_spec_l1Cur_tree]? = some P_spec_l1Cur_tree := by kernel_rfl
noncomputable abbrev P_slices_Index_string : Func := Try.f169
theorem get_slices_Index_string : cfg.P.funcs[i_slices_Index_string]? = some P_slices_Index_string := by kernel_rfl
noncomputable abbrev P_impl_node_carets : Func := Try.f170
theorem get_impl_node_carets : cfg.P.funcs[i_impl_node_carets]? = some P_impl_node_carets := by kernel_rfl
noncomputable abbrev P_spec_trIs : Func := Try.f171
theorem get_spec_trIs : cfg.P.funcs[i_spec_trIs]? = some P_spec_trIs := by kernel_rfl
noncomputable abbrev P_spec_trCarets : Func := Try.f172
theorem get_spec_trCarets : cfg.P.funcs[i_spec_trCarets]? = some P_spec_trCarets := by kernel_rfl
noncomputable abbrev P_spec_trGraft : Func := Try.f179
theorem get_spec_trGraft : cfg.P.funcs[i_spec_trGraft]? = some P_spec_trGraft := by kernel_rfl
noncomputable abbrev P_spec_l1Cur_of : Func := Try.f180
theorem get_spec_l1Cur_of : cfg.P.funcs[i_spec_l1Cur_of]? = some P_spec_l1Cur_of := by kernel_rfl
noncomputable abbrev P_spec_l1Cur_sureTree : Func := Try.f211
theorem get_spec_l1Cur_sureTree : cfg.P.funcs[i_spec_l1Cur_sureTree]? = some P_spec_l1Cur_sureTree := by kernel_rfl
noncomputable abbrev P_spec_l1Cur_pair : Func := Try.f215
theorem get_spec_l1Cur_pair : cfg.P.funcs[i_spec_l1Cur_pair]? = some P_spec_l1Cur_pair := by kernel_rfl
noncomputable abbrev P_spec_l1Cur_surePair : Func := Try.f276
theorem get_spec_l1Cur_surePair : cfg.P.funcs[i_spec_l1Cur_surePair]? = some P_spec_l1Cur_surePair := by kernel_rfl
noncomputable abbrev P_spec_l1Cur_spoilt : Func := Try.f277
theorem get_spec_l1Cur_spoilt : cfg.P.funcs[i_spec_l1Cur_spoilt]? = some P_spec_l1Cur_spoilt := by kernel_rfl
noncomputable abbrev P_spec_l1Cur_next : Func := Try.f289
theorem get_spec_l1Cur_next : cfg.P.funcs[i_spec_l1Cur_next]? = some P_spec_l1Cur_next := by kernel_rfl
noncomputable abbrev P_slices_Sort : Func := Try.f290
theorem get_slices_Sort : cfg.P.funcs[i_slices_Sort]? = some P_slices_Sort := by kernel_rfl
noncomputable abbrev P_spec_trOf : Func := Try.f291
theorem get_spec_trOf : cfg.P.funcs[i_spec_trOf]? = some P_spec_trOf := by kernel_rfl
noncomputable abbrev P_impl_read : Func := Try.f292
theorem get_impl_read : cfg.P.funcs[i_impl_read]? = some P_impl_read := by kernel_rfl
noncomputable abbrev P_spec_trLeaf : Func := Try.f293
theorem get_spec_trLeaf : cfg.P.funcs[i_spec_trLeaf]? = some P_spec_trLeaf := by kernel_rfl
noncomputable abbrev P_spec_trSides : Func := Try.f294
theorem get_spec_trSides : cfg.P.funcs[i_spec_trSides]? = some P_spec_trSides := by kernel_rfl
noncomputable abbrev P_spec_trEnd : Func := Try.f295
theorem get_spec_trEnd : cfg.P.funcs[i_spec_trEnd]? = some P_spec_trEnd := by kernel_rfl
noncomputable abbrev P_spec_prGenerator : Func := Try.f313
theorem get_spec_prGenerator : cfg.P.funcs[i_spec_prGenerator]? = some P_spec_prGenerator := by kernel_rfl
end Go.AI
