/- A part of the road: what it proves stands in its last texts. -/
import Derived.Test.YtdfllkeekehplaaSCfg
import Derived.Test.YtdfllkeekehplaaProg
set_option autoImplicit false
set_option maxRecDepth 100000
set_option linter.unusedVariables false
namespace Go.AI
open Go.Proofs

abbrev t_int : TypeId := 3
abbrev t_string : TypeId := 9
abbrev t_pimpl_node : TypeId := 104
abbrev i_laws_FnExponentsOfTrees : FuncId := 6
abbrev i_laws_big : FuncId := 13
abbrev i_impl_RightComb : FuncId := 24
abbrev i_impl_IsTree : FuncId := 25
abbrev i_impl_CaretsOf : FuncId := 32
abbrev i_spec_DrawExponentsOf : FuncId := 56
abbrev i_impl_ExponentsOf : FuncId := 57
abbrev i_spec_ExponentsOf : FuncId := 58
abbrev i_laws_nSame : FuncId := 59
abbrev i_impl_WordOfPair : FuncId := 60
abbrev i_laws_nSum : FuncId := 61
abbrev i_spec_DrawTreeOfExponents : FuncId := 62
abbrev i_impl_TreeOfExponents : FuncId := 63
abbrev i_spec_TreeOfExponents : FuncId := 64
abbrev i_spec_l1Cur_one : FuncId := 154
abbrev i_spec_l1Cur_among : FuncId := 155
abbrev i_spec_l1Cur_pick : FuncId := 156
abbrev i_impl_isCarets : FuncId := 158
abbrev i_spec_l1In : FuncId := 160
abbrev i_impl_rightComb : FuncId := 162
abbrev i_impl_node_text : FuncId := 164
abbrev i_impl_parse : FuncId := 165
abbrev i_spec_trRight : FuncId := 166
abbrev i_spec_l1Cur_tree : FuncId := 168
abbrev i_impl_node_carets : FuncId := 170
abbrev i_spec_trIs : FuncId := 171
abbrev i_spec_trCarets : FuncId := 172
abbrev i_impl_told : FuncId := 173
abbrev i_spec_trGraft : FuncId := 179
abbrev i_spec_l1Cur_of : FuncId := 180
abbrev i_impl_pairOf : FuncId := 190
abbrev i_impl_node_exponents : FuncId := 193
abbrev i_spec_wdRight : FuncId := 194
abbrev i_impl_madeWord : FuncId := 195
abbrev i_impl_wordOfPair : FuncId := 196
abbrev i_impl_pair_reduced : FuncId := 197
abbrev i_spec_l1Own : FuncId := 198
abbrev i_impl_forest_split : FuncId := 199
abbrev i_impl_forest_hung : FuncId := 200
abbrev i_spec_l1All : FuncId := 201
abbrev i_spec_wdComb : FuncId := 202
abbrev i_spec_wdShort : FuncId := 203
abbrev i_spec_wdForest : FuncId := 204
abbrev i_impl_node_exposed : FuncId := 206
abbrev i_slices_Contains : FuncId := 209
abbrev i_impl_node_without : FuncId := 210
abbrev i_spec_l1Cur_sureTree : FuncId := 211
abbrev i_spec_l1Cur_pair : FuncId := 215
abbrev i_impl_pair_both : FuncId := 224
abbrev i_impl_forest_stack : FuncId := 231
abbrev i_impl_forest_tree : FuncId := 239
abbrev i_impl_IsWord : FuncId := 254
abbrev i_impl_pair_drop : FuncId := 268
abbrev i_spec_l1Cur_surePair : FuncId := 276
abbrev i_spec_l1Cur_spoilt : FuncId := 277
abbrev i_spec_l1Cur_next : FuncId := 289
abbrev i_spec_trOf : FuncId := 291
abbrev i_impl_read : FuncId := 292
abbrev i_spec_trLeaf : FuncId := 293
abbrev i_spec_trSides : FuncId := 294
abbrev i_spec_trEnd : FuncId := 295
abbrev i_impl_node_leaves : FuncId := 296
abbrev i_impl_node_grown : FuncId := 297
abbrev i_impl_node_climbs : FuncId := 305
abbrev i_spec_wdExponents : FuncId := 306
abbrev i_impl_wordOf : FuncId := 307
abbrev i_impl_inverseOf : FuncId := 308
abbrev i_impl_forest_trimmed : FuncId := 309
abbrev i_slices_Index : FuncId := 312
abbrev i_spec_prGenerator : FuncId := 313
abbrev i_impl_isLetter : FuncId := 321
noncomputable abbrev P_laws_FnExponentsOfTrees : Func := Try.f6
theorem get_laws_FnExponentsOfTrees : cfg.P.funcs[i_laws_FnExponentsOfTrees]? = some P_laws_FnExponentsOfTrees := by kernel_rfl
noncomputable abbrev P_laws_big : Func := Try.f13
theorem get_laws_big : cfg.P.funcs[i_laws_big]? = some P_laws_big := by kernel_rfl
noncomputable abbrev P_impl_RightComb : Func := Try.f24
theorem get_impl_RightComb : cfg.P.funcs[i_impl_RightComb]? = some P_impl_RightComb := by kernel_rfl
noncomputable abbrev P_impl_IsTree : Func := Try.f25
theorem get_impl_IsTree : cfg.P.funcs[i_impl_IsTree]? = some P_impl_IsTree := by kernel_rfl
noncomputable abbrev P_impl_CaretsOf : Func := Try.f32
theorem get_impl_CaretsOf : cfg.P.funcs[i_impl_CaretsOf]? = some P_impl_CaretsOf := by kernel_rfl
noncomputable abbrev P_spec_DrawExponentsOf : Func := Try.f56
theorem get_spec_DrawExponentsOf : cfg.P.funcs[i_spec_DrawExponentsOf]? = some P_spec_DrawExponentsOf := by kernel_rfl
noncomputable abbrev P_impl_ExponentsOf : Func := Try.f57
theorem get_impl_ExponentsOf : cfg.P.funcs[i_impl_ExponentsOf]? = some P_impl_ExponentsOf := by kernel_rfl
noncomputable abbrev P_spec_ExponentsOf : Func := Try.f58
theorem get_spec_ExponentsOf : cfg.P.funcs[i_spec_ExponentsOf]? = some P_spec_ExponentsOf := by kernel_rfl
noncomputable abbrev P_laws_nSame : Func := Try.f59
theorem get_laws_nSame : cfg.P.funcs[i_laws_nSame]? = some P_laws_nSame := by kernel_rfl
noncomputable abbrev P_impl_WordOfPair : Func := Try.f60
theorem get_impl_WordOfPair : cfg.P.funcs[i_impl_WordOfPair]? = some P_impl_WordOfPair := by kernel_rfl
noncomputable abbrev P_laws_nSum : Func := Try.f61
theorem get_laws_nSum : cfg.P.funcs[i_laws_nSum]? = some P_laws_nSum := by kernel_rfl
noncomputable abbrev P_spec_DrawTreeOfExponents : Func := Try.f62
theorem get_spec_DrawTreeOfExponents : cfg.P.funcs[i_spec_DrawTreeOfExponents]? = some P_spec_DrawTreeOfExponents := by kernel_rfl
noncomputable abbrev P_impl_TreeOfExponents : Func := Try.f63
theorem get_impl_TreeOfExponents : cfg.P.funcs[i_impl_TreeOfExponents]? = some P_impl_TreeOfExponents := by kernel_rfl
noncomputable abbrev P_spec_TreeOfExponents : Func := Try.f64
theorem get_spec_TreeOfExponents : cfg.P.funcs[i_spec_TreeOfExponents]? = some P_spec_TreeOfExponents := by kernel_rfl
noncomputable abbrev P_spec_l1Cur_one : Func := Try.f154
theorem get_spec_l1Cur_one : cfg.P.funcs[i_spec_l1Cur_one]? = some P_spec_l1Cur_one := by kernel_rfl
noncomputable abbrev P_spec_l1Cur_among : Func := Try.f155
theorem get_spec_l1Cur_among : cfg.P.funcs[i_spec_l1Cur_among]? = some P_spec_l1Cur_among := by kernel_rfl
noncomputable abbrev P_spec_l1Cur_pick : Func := Try.f156
theorem get_spec_l1Cur_pick : cfg.P.funcs[i_spec_l1Cur_pick]? = some P_spec_l1Cur_pick := by kernel_rfl
noncomputable abbrev P_impl_isCarets : Func := Try.f158
theorem get_impl_isCarets : cfg.P.funcs[i_impl_isCarets]? = some P_impl_isCarets := by kernel_rfl
noncomputable abbrev P_spec_l1In : Func := Try.f160
theorem get_spec_l1In : cfg.P.funcs[i_spec_l1In]? = some P_spec_l1In := by kernel_rfl
noncomputable abbrev P_impl_rightComb : Func := Try.f162
theorem get_impl_rightComb : cfg.P.funcs[i_impl_rightComb]? = some P_impl_rightComb := by kernel_rfl
noncomputable abbrev P_impl_node_text : Func := Try.f164
theorem get_impl_node_text : cfg.P.funcs[i_impl_node_text]? = some P_impl_node_text := by kernel_rfl
noncomputable abbrev P_impl_parse : Func := Try.f165
theorem get_impl_parse : cfg.P.funcs[i_impl_parse]? = some P_impl_parse := by kernel_rfl
noncomputable abbrev P_spec_trRight : Func := Try.f166
theorem get_spec_trRight : cfg.P.funcs[i_spec_trRight]? = some P_spec_trRight := by kernel_rfl
noncomputable abbrev P_spec_l1Cur_tree : Func := Try.f168
theorem get_spec_l1Cur_tree : cfg.P.funcs[i_spec_l1Cur_tree]? = some P_spec_l1Cur_tree := by kernel_rfl
noncomputable abbrev P_impl_node_carets : Func := Try.f170
theorem get_impl_node_carets : cfg.P.funcs[i_impl_node_carets]? = some P_impl_node_carets := by kernel_rfl
noncomputable abbrev P_spec_trIs : Func := Try.f171
theorem get_spec_trIs : cfg.P.funcs[i_spec_trIs]? = some P_spec_trIs := by kernel_rfl
noncomputable abbrev P_spec_trCarets : Func := Try.f172
theorem get_spec_trCarets : cfg.P.funcs[i_spec_trCarets]? = some P_spec_trCarets := by kernel_rfl
noncomputable abbrev P_impl_told : Func := Try.f173
theorem get_impl_told : cfg.P.funcs[i_impl_told]? = some P_impl_told := by kernel_rfl
noncomputable abbrev P_spec_trGraft : Func := Try.f179
theorem get_spec_trGraft : cfg.P.funcs[i_spec_trGraft]? = some P_spec_trGraft := by kernel_rfl
noncomputable abbrev P_spec_l1Cur_of : Func := Try.f180
theorem get_spec_l1Cur_of : cfg.P.funcs[i_spec_l1Cur_of]? = some P_spec_l1Cur_of := by kernel_rfl
noncomputable abbrev P_impl_pairOf : Func := Try.f190
theorem get_impl_pairOf : cfg.P.funcs[i_impl_pairOf]? = some P_impl_pairOf := by kernel_rfl
noncomputable abbrev P_impl_node_exponents : Func := Try.f193
theorem get_impl_node_exponents : cfg.P.funcs[i_impl_node_exponents]? = some P_impl_node_exponents := by kernel_rfl
noncomputable abbrev P_spec_wdRight : Func := Try.f194
theorem get_spec_wdRight : cfg.P.funcs[i_spec_wdRight]? = some P_spec_wdRight := by kernel_rfl
noncomputable abbrev P_impl_madeWord : Func := Try.f195
theorem get_impl_madeWord : cfg.P.funcs[i_impl_madeWord]? = some P_impl_madeWord := by kernel_rfl
noncomputable abbrev P_impl_wordOfPair : Func := Try.f196
theorem get_impl_wordOfPair : cfg.P.funcs[i_impl_wordOfPair]? = some P_impl_wordOfPair := by kernel_rfl
noncomputable abbrev P_impl_pair_reduced : Func := Try.f197
theorem get_impl_pair_reduced : cfg.P.funcs[i_impl_pair_reduced]? = some P_impl_pair_reduced := by kernel_rfl
noncomputable abbrev P_spec_l1Own : Func := Try.f198
theorem get_spec_l1Own : cfg.P.funcs[i_spec_l1Own]? = some P_spec_l1Own := by kernel_rfl
noncomputable abbrev P_impl_forest_split : Func := Try.f199
theorem get_impl_forest_split : cfg.P.funcs[i_impl_forest_split]? = some P_impl_forest_split := by kernel_rfl
noncomputable abbrev P_impl_forest_hung : Func := Try.f200
theorem get_impl_forest_hung : cfg.P.funcs[i_impl_forest_hung]? = some P_impl_forest_hung := by kernel_rfl
noncomputable abbrev P_spec_l1All : Func := Try.f201
theorem get_spec_l1All : cfg.P.funcs[i_spec_l1All]? = some P_spec_l1All := by kernel_rfl
noncomputable abbrev P_spec_wdComb : Func := Try.f202
theorem get_spec_wdComb : cfg.P.funcs[i_spec_wdComb]? = some P_spec_wdComb := by kernel_rfl
noncomputable abbrev P_spec_wdShort : Func := Try.f203
theorem get_spec_wdShort : cfg.P.funcs[i_spec_wdShort]? = some P_spec_wdShort := by kernel_rfl
noncomputable abbrev P_spec_wdForest : Func := Try.f204
theorem get_spec_wdForest : cfg.P.funcs[i_spec_wdForest]? = some P_spec_wdForest := by kernel_rfl
noncomputable abbrev P_impl_node_exposed : Func := Try.f206
theorem get_impl_node_exposed : cfg.P.funcs[i_impl_node_exposed]? = some P_impl_node_exposed := by kernel_rfl
noncomputable abbrev P_slices_Contains : Func := Try.f209
theorem get_slices_Contains : cfg.P.funcs[i_slices_Contains]? = some P_slices_Contains := by kernel_rfl
noncomputable abbrev P_impl_node_without : Func := Try.f210
theorem get_impl_node_without : cfg.P.funcs[i_impl_node_without]? = some P_impl_node_without := by kernel_rfl
noncomputable abbrev P_spec_l1Cur_sureTree : Func := Try.f211
theorem get_spec_l1Cur_sureTree : cfg.P.funcs[i_spec_l1Cur_sureTree]? = some P_spec_l1Cur_sureTree := by kernel_rfl
noncomputable abbrev P_spec_l1Cur_pair : Func := Try.f215
theorem get_spec_l1Cur_pair : cfg.P.funcs[i_spec_l1Cur_pair]? = some P_spec_l1Cur_pair := by kernel_rfl
noncomputable abbrev P_impl_pair_both : Func := Try.f224
theorem get_impl_pair_both : cfg.P.funcs[i_impl_pair_both]? = some P_impl_pair_both := by kernel_rfl
noncomputable abbrev P_impl_forest_stack : Func := Try.f231
theorem get_impl_forest_stack : cfg.P.funcs[i_impl_forest_stack]? = some P_impl_forest_stack := by kernel_rfl
noncomputable abbrev P_impl_forest_tree : Func := Try.f239
theorem get_impl_forest_tree : cfg.P.funcs[i_impl_forest_tree]? = some P_impl_forest_tree := by kernel_rfl
noncomputable abbrev P_impl_IsWord : Func := Try.f254
theorem get_impl_IsWord : cfg.P.funcs[i_impl_IsWord]? = some P_impl_IsWord := by kernel_rfl
noncomputable abbrev P_impl_pair_drop : Func := Try.f268
theorem get_impl_pair_drop : cfg.P.funcs[i_impl_pair_drop]? = some P_impl_pair_drop := by kernel_rfl
noncomputable abbrev P_spec_l1Cur_surePair : Func := Try.f276
theorem get_spec_l1Cur_surePair : cfg.P.funcs[i_spec_l1Cur_surePair]? = some P_spec_l1Cur_surePair := by kernel_rfl
noncomputable abbrev P_spec_l1Cur_spoilt : Func := Try.f277
theorem get_spec_l1Cur_spoilt : cfg.P.funcs[i_spec_l1Cur_spoilt]? = some P_spec_l1Cur_spoilt := by kernel_rfl
noncomputable abbrev P_spec_l1Cur_next : Func := Try.f289
theorem get_spec_l1Cur_next : cfg.P.funcs[i_spec_l1Cur_next]? = some P_spec_l1Cur_next := by kernel_rfl
noncomputable abbrev P_spec_trOf : Func := Try.f291
theorem get_spec_trOf : cfg.P.funcs[i_spec_trOf]? = some P_spec_trOf := by kernel_rfl
noncomputable abbrev P_impl_read : Func := Try.f292
theorem get_impl_read : cfg.P.funcs[i_impl_read]? = some P_impl_read := by kernel_rfl
noncomputable abbrev P_spec_trLeaf : Func := Try.f293
theorem get_spec_trLeaf : cfg.P.funcs[i_spec_trLeaf]? = some P_spec_trLeaf := by kernel_rfl
noncomputable abbrev P_spec_trSides : Func := Try.f294
theorem get_spec_trSides : cfg.P.funcs[i_spec_trSides]? = some P_spec_trSides := by kernel_rfl
noncomputable abbrev P_spec_trEnd : Func := Try.f295
theorem get_spec_trEnd : cfg.P.funcs[i_spec_trEnd]? = some P_spec_trEnd := by kernel_rfl
noncomputable abbrev P_impl_node_leaves : Func := Try.f296
theorem get_impl_node_leaves : cfg.P.funcs[i_impl_node_leaves]? = some P_impl_node_leaves := by kernel_rfl
noncomputable abbrev P_impl_node_grown : Func := Try.f297
theorem get_impl_node_grown : cfg.P.funcs[i_impl_node_grown]? = some P_impl_node_grown := by kernel_rfl
noncomputable abbrev P_impl_node_climbs : Func := Try.f305
theorem get_impl_node_climbs : cfg.P.funcs[i_impl_node_climbs]? = some P_impl_node_climbs := by kernel_rfl
noncomputable abbrev P_spec_wdExponents : Func := Try.f306
theorem get_spec_wdExponents : cfg.P.funcs[i_spec_wdExponents]? = some P_spec_wdExponents := by kernel_rfl
noncomputable abbrev P_impl_wordOf : Func := Try.f307
theorem get_impl_wordOf : cfg.P.funcs[i_impl_wordOf]? = some P_impl_wordOf := by kernel_rfl
noncomputable abbrev P_impl_inverseOf : Func := Try.f308
theorem get_impl_inverseOf : cfg.P.funcs[i_impl_inverseOf]? = some P_impl_inverseOf := by kernel_rfl
noncomputable abbrev P_impl_forest_trimmed : Func := Try.f309
theorem get_impl_forest_trimmed : cfg.P.funcs[i_impl_forest_trimmed]? = some P_impl_forest_trimmed := by kernel_rfl
noncomputable abbrev P_slices_Index : Func := Try.f312
theorem get_slices_Index : cfg.P.funcs[i_slices_Index]? = some P_slices_Index := by kernel_rfl
noncomputable abbrev P_spec_prGenerator : Func := Try.f313
theorem get_spec_prGenerator : cfg.P.funcs[i_spec_prGenerator]? = some P_spec_prGenerator := by kernel_rfl
noncomputable abbrev P_impl_isLetter : Func := Try.f321
theorem get_impl_isLetter : cfg.P.funcs[i_impl_isLetter]? = some P_impl_isLetter := by kernel_rfl
end Go.AI
