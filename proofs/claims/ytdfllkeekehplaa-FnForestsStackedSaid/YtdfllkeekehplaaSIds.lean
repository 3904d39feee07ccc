/- A part of the road: what it proves stands in its last texts. -/
import Derived.Test.YtdfllkeekehplaaSCfg
import Derived.Test.YtdfllkeekehplaaProg
set_option autoImplicit false
set_option maxRecDepth 100000
set_option linter.unusedVariables false
namespace Go.AI
open Go.Proofs

abbrev t_int : TypeId := 3
abbrev t_string : TypeId := 9
abbrev t_pimpl_node : TypeId := 104
abbrev i_laws_FnForestsStacked : FuncId := 9
abbrev i_laws_big : FuncId := 13
abbrev i_laws_nTexts : FuncId := 51
abbrev i_impl_ProductPair : FuncId := 82
abbrev i_spec_DrawStackForests : FuncId := 96
abbrev i_impl_StackForests : FuncId := 97
abbrev i_spec_StackForests : FuncId := 98
abbrev i_impl_CountForestCarets : FuncId := 99
abbrev i_impl_IsPartOfForest : FuncId := 100
abbrev i_impl_LeftQuotient : FuncId := 101
abbrev i_impl_PairOfForest : FuncId := 102
abbrev i_spec_DrawLeftQuotient : FuncId := 103
abbrev i_spec_LeftQuotient : FuncId := 104
abbrev i_spec_IsPartOfForest : FuncId := 105
abbrev i_impl_JoinForests : FuncId := 106
abbrev i_spec_JoinForests : FuncId := 107
abbrev i_impl_CommonForest : FuncId := 108
abbrev i_spec_CommonForest : FuncId := 109
abbrev i_spec_l1Cur_one : FuncId := 154
abbrev i_spec_l1Cur_among : FuncId := 155
abbrev i_spec_l1Cur_pick : FuncId := 156
abbrev i_impl_rightComb : FuncId := 162
abbrev i_impl_node_text : FuncId := 164
abbrev i_impl_parse : FuncId := 165
abbrev i_spec_trRight : FuncId := 166
abbrev i_spec_l1Cur_tree : FuncId := 168
abbrev i_impl_node_carets : FuncId := 170
abbrev i_spec_trIs : FuncId := 171
abbrev i_spec_trCarets : FuncId := 172
abbrev i_impl_join : FuncId := 174
abbrev i_spec_trJoin : FuncId := 175
abbrev i_impl_common : FuncId := 176
abbrev i_spec_trCommon : FuncId := 177
abbrev i_impl_isPart : FuncId := 178
abbrev i_spec_trGraft : FuncId := 179
abbrev i_spec_l1Cur_of : FuncId := 180
abbrev i_impl_node_at : FuncId := 182
abbrev i_impl_node_addresses : FuncId := 187
abbrev i_impl_pairOf : FuncId := 190
abbrev i_impl_pair_reduced : FuncId := 197
abbrev i_impl_forest_hung : FuncId := 200
abbrev i_spec_wdShort : FuncId := 203
abbrev i_impl_node_exposed : FuncId := 206
abbrev i_slices_Contains : FuncId := 209
abbrev i_impl_node_without : FuncId := 210
abbrev i_spec_l1Cur_sureTree : FuncId := 211
abbrev i_spec_l1Cur_pair : FuncId := 215
abbrev i_impl_two : FuncId := 216
abbrev i_impl_pair_times : FuncId := 217
abbrev i_impl_pair_fits : FuncId := 218
abbrev i_impl_pair_plain : FuncId := 223
abbrev i_impl_pair_both : FuncId := 224
abbrev i_spec_l1Cur_forest : FuncId := 229
abbrev i_impl_twoForests : FuncId := 230
abbrev i_impl_forest_stack : FuncId := 231
abbrev i_impl_forest_texts : FuncId := 232
abbrev i_spec_foGood : FuncId := 233
abbrev i_spec_foIf : FuncId := 234
abbrev i_spec_foStack : FuncId := 235
abbrev i_impl_forestOf : FuncId := 236
abbrev i_impl_forest_carets : FuncId := 237
abbrev i_impl_isPartOf : FuncId := 238
abbrev i_impl_forest_tree : FuncId := 239
abbrev i_impl_forest_pair : FuncId := 240
abbrev i_spec_DrawIsPartOfForest : FuncId := 241
abbrev i_spec_foPart : FuncId := 242
abbrev i_spec_prParts : FuncId := 243
abbrev i_spec_foTree : FuncId := 244
abbrev i_impl_each : FuncId := 245
abbrev i_impl_pair_drop : FuncId := 268
abbrev i_spec_l1Cur_surePair : FuncId := 276
abbrev i_spec_l1Cur_spoilt : FuncId := 277
abbrev i_spec_l1Cur_next : FuncId := 289
abbrev i_spec_trOf : FuncId := 291
abbrev i_impl_read : FuncId := 292
abbrev i_spec_trLeaf : FuncId := 293
abbrev i_spec_trSides : FuncId := 294
abbrev i_spec_trEnd : FuncId := 295
abbrev i_impl_node_leaves : FuncId := 296
abbrev i_impl_node_grown : FuncId := 297
abbrev i_impl_forest_trimmed : FuncId := 309
abbrev i_slices_Index : FuncId := 312
abbrev i_spec_prGenerator : FuncId := 313
abbrev i_impl_parts : FuncId := 314
abbrev i_spec_l1Cur_sureForest : FuncId := 317
abbrev i_spec_l1Cur_forests : FuncId := 318
abbrev i_impl_parts_k1 : FuncId := 335
abbrev i_spec_l1Least : FuncId := 338
noncomputable abbrev P_laws_FnForestsStacked : Func := Try.f9
theorem get_laws_FnForestsStacked : cfg.P.funcs[i_laws_FnForestsStacked]? = some P_laws_FnForestsStacked := by kernel_rfl
noncomputable abbrev P_laws_big : Func := Try.f13
theorem get_laws_big : cfg.P.funcs[i_laws_big]? = some P_laws_big := by kernel_rfl
noncomputable abbrev P_laws_nTexts : Func := Try.f51
theorem get_laws_nTexts : cfg.P.funcs[i_laws_nTexts]? = some P_laws_nTexts := by kernel_rfl
noncomputable abbrev P_impl_ProductPair : Func := Try.f82
theorem get_impl_ProductPair : cfg.P.funcs[i_impl_ProductPair]? = some P_impl_ProductPair := by kernel_rfl
noncomputable abbrev P_spec_DrawStackForests : Func := Try.f96
theorem get_spec_DrawStackForests : cfg.P.funcs[i_spec_DrawStackForests]? = some P_spec_DrawStackForests := by kernel_rfl
noncomputable abbrev P_impl_StackForests : Func := Try.f97
theorem get_impl_StackForests : cfg.P.funcs[i_impl_StackForests]? = some P_impl_StackForests := by kernel_rfl
noncomputable abbrev P_spec_StackForests : Func := Try.f98
theorem get_spec_StackForests : cfg.P.funcs[i_spec_StackForests]? = some P_spec_StackForests := by kernel_rfl
noncomputable abbrev P_impl_CountForestCarets : Func := Try.f99
theorem get_impl_CountForestCarets : cfg.P.funcs[i_impl_CountForestCarets]? = some P_impl_CountForestCarets := by kernel_rfl
noncomputable abbrev P_impl_IsPartOfForest : Func := Try.f100
theorem get_impl_IsPartOfForest : cfg.P.funcs[i_impl_IsPartOfForest]? = some P_impl_IsPartOfForest := by kernel_rfl
noncomputable abbrev P_impl_LeftQuotient : Func := Try.f101
theorem get_impl_LeftQuotient : cfg.P.funcs[i_impl_LeftQuotient]? = some P_impl_LeftQuotient := by kernel_rfl
noncomputable abbrev P_impl_PairOfForest : Func := Try.f102
theorem get_impl_PairOfForest : cfg.P.funcs[i_impl_PairOfForest]? = some P_impl_PairOfForest := by kernel_rfl
noncomputable abbrev P_spec_DrawLeftQuotient : Func := Try.f103
theorem get_spec_DrawLeftQuotient : cfg.P.funcs[i_spec_DrawLeftQuotient]? = some P_spec_DrawLeftQuotient := by kernel_rfl
noncomputable abbrev P_spec_LeftQuotient : Func := Try.f104
theorem get_spec_LeftQuotient : cfg.P.funcs[i_spec_LeftQuotient]? = some P_spec_LeftQuotient := by kernel_rfl
noncomputable abbrev P_spec_IsPartOfForest : Func := Try.f105
theorem get_spec_IsPartOfForest : cfg.P.funcs[i_spec_IsPartOfForest]? = some P_spec_IsPartOfForest := by kernel_rfl
noncomputable abbrev P_impl_JoinForests : Func := Try.f106
theorem get_impl_JoinForests : cfg.P.funcs[i_impl_JoinForests]? = some P_impl_JoinForests := by kernel_rfl
noncomputable abbrev P_spec_JoinForests : Func := Try.f107
theorem get_spec_JoinForests : cfg.P.funcs[i_spec_JoinForests]? = some P_spec_JoinForests := by kernel_rfl
noncomputable abbrev P_impl_CommonForest : Func := Try.f108
theorem get_impl_CommonForest : cfg.P.funcs[i_impl_CommonForest]? = some P_impl_CommonForest := by kernel_rfl
noncomputable abbrev P_spec_CommonForest : Func := Try.f109
theorem get_spec_CommonForest : cfg.P.funcs[i_spec_CommonForest]? = some P_spec_CommonForest := by kernel_rfl
noncomputable abbrev P_spec_l1Cur_one : Func := Try.f154
theorem get_spec_l1Cur_one : cfg.P.funcs[i_spec_l1Cur_one]? = some P_spec_l1Cur_one := by kernel_rfl
noncomputable abbrev P_spec_l1Cur_among : Func := Try.f155
theorem get_spec_l1Cur_among : cfg.P.funcs[i_spec_l1Cur_among]? = some P_spec_l1Cur_among := by kernel_rfl
noncomputable abbrev P_spec_l1Cur_pick : Func := Try.f156
theorem get_spec_l1Cur_pick : cfg.P.funcs[i_spec_l1Cur_pick]? = some P_spec_l1Cur_pick := by kernel_rfl
noncomputable abbrev P_impl_rightComb : Func := Try.f162
theorem get_impl_rightComb : cfg.P.funcs[i_impl_rightComb]? = some P_impl_rightComb := by kernel_rfl
noncomputable abbrev P_impl_node_text : Func := Try.f164
theorem get_impl_node_text : cfg.P.funcs[i_impl_node_text]? = some P_impl_node_text := by kernel_rfl
noncomputable abbrev P_impl_parse : Func := Try.f165
theorem get_impl_parse : cfg.P.funcs[i_impl_parse]? = some P_impl_parse := by kernel_rfl
noncomputable abbrev P_spec_trRight : Func := Try.f166
theorem get_spec_trRight : cfg.P.funcs[i_spec_trRight]? = some P_spec_trRight := by kernel_rfl
noncomputable abbrev P_spec_l1Cur_tree : Func := Try.f168
theorem get_spec_l1Cur_tree : cfg.P.funcs[i_spec_l1Cur_tree]? = some P_spec_l1Cur_tree := by kernel_rfl
noncomputable abbrev P_impl_node_carets : Func := Try.f170
theorem get_impl_node_carets : cfg.P.funcs[i_impl_node_carets]? = some P_impl_node_carets := by kernel_rfl
noncomputable abbrev P_spec_trIs : Func := Try.f171
theorem get_spec_trIs : cfg.P.funcs[i_spec_trIs]? = some P_spec_trIs := by kernel_rfl
noncomputable abbrev P_spec_trCarets : Func := Try.f172
theorem get_spec_trCarets : cfg.P.funcs[i_spec_trCarets]? = some P_spec_trCarets := by kernel_rfl
noncomputable abbrev P_impl_join : Func := Try.f174
theorem get_impl_join : cfg.P.funcs[i_impl_join]? = some P_impl_join := by kernel_rfl
noncomputable abbrev P_spec_trJoin : Func := Try.f175
theorem get_spec_trJoin : cfg.P.funcs[i_spec_trJoin]? = some P_spec_trJoin := by kernel_rfl
noncomputable abbrev P_impl_common : Func := Try.f176
theorem get_impl_common : cfg.P.funcs[i_impl_common]? = some P_impl_common := by kernel_rfl
noncomputable abbrev P_spec_trCommon : Func := Try.f177
theorem get_spec_trCommon : cfg.P.funcs[i_spec_trCommon]? = some P_spec_trCommon := by kernel_rfl
noncomputable abbrev P_impl_isPart : Func := Try.f178
theorem get_impl_isPart : cfg.P.funcs[i_impl_isPart]? = some P_impl_isPart := by kernel_rfl
noncomputable abbrev P_spec_trGraft : Func := Try.f179
theorem get_spec_trGraft : cfg.P.funcs[i_spec_trGraft]? = some P_spec_trGraft := by kernel_rfl
noncomputable abbrev P_spec_l1Cur_of : Func := Try.f180
theorem get_spec_l1Cur_of : cfg.P.funcs[i_spec_l1Cur_of]? = some P_spec_l1Cur_of := by kernel_rfl
noncomputable abbrev P_impl_node_at : Func := Try.f182
theorem get_impl_node_at : cfg.P.funcs[i_impl_node_at]? = some P_impl_node_at := by kernel_rfl
noncomputable abbrev P_impl_node_addresses : Func := Try.f187
theorem get_impl_node_addresses : cfg.P.funcs[i_impl_node_addresses]? = some P_impl_node_addresses := by kernel_rfl
noncomputable abbrev P_impl_pairOf : Func := Try.f190
theorem get_impl_pairOf : cfg.P.funcs[i_impl_pairOf]? = some P_impl_pairOf := by kernel_rfl
noncomputable abbrev P_impl_pair_reduced : Func := Try.f197
theorem get_impl_pair_reduced : cfg.P.funcs[i_impl_pair_reduced]? = some P_impl_pair_reduced := by kernel_rfl
noncomputable abbrev P_impl_forest_hung : Func := Try.f200
theorem get_impl_forest_hung : cfg.P.funcs[i_impl_forest_hung]? = some P_impl_forest_hung := by kernel_rfl
noncomputable abbrev P_spec_wdShort : Func := Try.f203
theorem get_spec_wdShort : cfg.P.funcs[i_spec_wdShort]? = some P_spec_wdShort := by kernel_rfl
noncomputable abbrev P_impl_node_exposed : Func := Try.f206
theorem get_impl_node_exposed : cfg.P.funcs[i_impl_node_exposed]? = some P_impl_node_exposed := by kernel_rfl
noncomputable abbrev P_slices_Contains : Func := Try.f209
theorem get_slices_Contains : cfg.P.funcs[i_slices_Contains]? = some P_slices_Contains := by kernel_rfl
noncomputable abbrev P_impl_node_without : Func := Try.f210
theorem get_impl_node_without : cfg.P.funcs[i_impl_node_without]? = some P_impl_node_without := by kernel_rfl
noncomputable abbrev P_spec_l1Cur_sureTree : Func := Try.f211
theorem get_spec_l1Cur_sureTree : cfg.P.funcs[i_spec_l1Cur_sureTree]? = some P_spec_l1Cur_sureTree := by kernel_rfl
noncomputable abbrev P_spec_l1Cur_pair : Func := Try.f215
theorem get_spec_l1Cur_pair : cfg.P.funcs[i_spec_l1Cur_pair]? = some P_spec_l1Cur_pair := by kernel_rfl
noncomputable abbrev P_impl_two : Func := Try.f216
theorem get_impl_two : cfg.P.funcs[i_impl_two]? = some P_impl_two := by kernel_rfl
noncomputable abbrev P_impl_pair_times : Func := Try.f217
theorem get_impl_pair_times : cfg.P.funcs[i_impl_pair_times]? = some P_impl_pair_times := by kernel_rfl
noncomputable abbrev P_impl_pair_fits : Func := Try.f218
theorem get_impl_pair_fits : cfg.P.funcs[i_impl_pair_fits]? = some P_impl_pair_fits := by kernel_rfl
noncomputable abbrev P_impl_pair_plain : Func := Try.f223
theorem get_impl_pair_plain : cfg.P.funcs[i_impl_pair_plain]? = some P_impl_pair_plain := by kernel_rfl
noncomputable abbrev P_impl_pair_both : Func := Try.f224
theorem get_impl_pair_both : cfg.P.funcs[i_impl_pair_both]? = some P_impl_pair_both := by kernel_rfl
noncomputable abbrev P_spec_l1Cur_forest : Func := Try.f229
theorem get_spec_l1Cur_forest : cfg.P.funcs[i_spec_l1Cur_forest]? = some P_spec_l1Cur_forest := by kernel_rfl
noncomputable abbrev P_impl_twoForests : Func := Try.f230
theorem get_impl_twoForests : cfg.P.funcs[i_impl_twoForests]? = some P_impl_twoForests := by kernel_rfl
noncomputable abbrev P_impl_forest_stack : Func := Try.f231
theorem get_impl_forest_stack : cfg.P.funcs[i_impl_forest_stack]? = some P_impl_forest_stack := by kernel_rfl
noncomputable abbrev P_impl_forest_texts : Func := Try.f232
theorem get_impl_forest_texts : cfg.P.funcs[i_impl_forest_texts]? = some P_impl_forest_texts := by kernel_rfl
noncomputable abbrev P_spec_foGood : Func := Try.f233
theorem get_spec_foGood : cfg.P.funcs[i_spec_foGood]? = some P_spec_foGood := by kernel_rfl
noncomputable abbrev P_spec_foIf : Func := Try.f234
theorem get_spec_foIf : cfg.P.funcs[i_spec_foIf]? = some P_spec_foIf := by kernel_rfl
noncomputable abbrev P_spec_foStack : Func := Try.f235
theorem get_spec_foStack : cfg.P.funcs[i_spec_foStack]? = some P_spec_foStack := by kernel_rfl
noncomputable abbrev P_impl_forestOf : Func := Try.f236
theorem get_impl_forestOf : cfg.P.funcs[i_impl_forestOf]? = some P_impl_forestOf := by kernel_rfl
noncomputable abbrev P_impl_forest_carets : Func := Try.f237
theorem get_impl_forest_carets : cfg.P.funcs[i_impl_forest_carets]? = some P_impl_forest_carets := by kernel_rfl
noncomputable abbrev P_impl_isPartOf : Func := Try.f238
theorem get_impl_isPartOf : cfg.P.funcs[i_impl_isPartOf]? = some P_impl_isPartOf := by kernel_rfl
noncomputable abbrev P_impl_forest_tree : Func := Try.f239
theorem get_impl_forest_tree : cfg.P.funcs[i_impl_forest_tree]? = some P_impl_forest_tree := by kernel_rfl
noncomputable abbrev P_impl_forest_pair : Func := Try.f240
theorem get_impl_forest_pair : cfg.P.funcs[i_impl_forest_pair]? = some P_impl_forest_pair := by kernel_rfl
noncomputable abbrev P_spec_DrawIsPartOfForest : Func := Try.f241
theorem get_spec_DrawIsPartOfForest : cfg.P.funcs[i_spec_DrawIsPartOfForest]? = some P_spec_DrawIsPartOfForest := by kernel_rfl
noncomputable abbrev P_spec_foPart : Func := Try.f242
theorem get_spec_foPart : cfg.P.funcs[i_spec_foPart]? = some P_spec_foPart := by kernel_rfl
noncomputable abbrev P_spec_prParts : Func := Try.f243
theorem get_spec_prParts : cfg.P.funcs[i_spec_prParts]? = some P_spec_prParts := by kernel_rfl
noncomputable abbrev P_spec_foTree : Func := Try.f244
theorem get_spec_foTree : cfg.P.funcs[i_spec_foTree]? = some P_spec_foTree := by kernel_rfl
noncomputable abbrev P_impl_each : Func := Try.f245
theorem get_impl_each : cfg.P.funcs[i_impl_each]? = some P_impl_each := by kernel_rfl
noncomputable abbrev P_impl_pair_drop : Func := Try.f268
theorem get_impl_pair_drop : cfg.P.funcs[i_impl_pair_drop]? = some P_impl_pair_drop := by kernel_rfl
noncomputable abbrev P_spec_l1Cur_surePair : Func := Try.f276
theorem get_spec_l1Cur_surePair : cfg.P.funcs[i_spec_l1Cur_surePair]? = some P_spec_l1Cur_surePair := by kernel_rfl
noncomputable abbrev P_spec_l1Cur_spoilt : Func := Try.f277
theorem get_spec_l1Cur_spoilt : cfg.P.funcs[i_spec_l1Cur_spoilt]? = some P_spec_l1Cur_spoilt := by kernel_rfl
noncomputable abbrev P_spec_l1Cur_next : Func := Try.f289
theorem get_spec_l1Cur_next : cfg.P.funcs[i_spec_l1Cur_next]? = some P_spec_l1Cur_next := by kernel_rfl
noncomputable abbrev P_spec_trOf : Func := Try.f291
theorem get_spec_trOf : cfg.P.funcs[i_spec_trOf]? = some P_spec_trOf := by kernel_rfl
noncomputable abbrev P_impl_read : Func := Try.f292
theorem get_impl_read : cfg.P.funcs[i_impl_read]? = some P_impl_read := by kernel_rfl
noncomputable abbrev P_spec_trLeaf : Func := Try.f293
theorem get_spec_trLeaf : cfg.P.funcs[i_spec_trLeaf]? = some P_spec_trLeaf := by kernel_rfl
noncomputable abbrev P_spec_trSides : Func := Try.f294
theorem get_spec_trSides : cfg.P.funcs[i_spec_trSides]? = some P_spec_trSides := by kernel_rfl
noncomputable abbrev P_spec_trEnd : Func := Try.f295
theorem get_spec_trEnd : cfg.P.funcs[i_spec_trEnd]? = some P_spec_trEnd := by kernel_rfl
noncomputable abbrev P_impl_node_leaves : Func := Try.f296
theorem get_impl_node_leaves : cfg.P.funcs[i_impl_node_leaves]? = some P_impl_node_leaves := by kernel_rfl
noncomputable abbrev P_impl_node_grown : Func := Try.f297
theorem get_impl_node_grown : cfg.P.funcs[i_impl_node_grown]? = some P_impl_node_grown := by kernel_rfl
noncomputable abbrev P_impl_forest_trimmed : Func := Try.f309
theorem get_impl_forest_trimmed : cfg.P.funcs[i_impl_forest_trimmed]? = some P_impl_forest_trimmed := by kernel_rfl
noncomputable abbrev P_slices_Index : Func := Try.f312
theorem get_slices_Index : cfg.P.funcs[i_slices_Index]? = some P_slices_Index := by kernel_rfl
noncomputable abbrev P_spec_prGenerator : Func := Try.f313
theorem get_spec_prGenerator : cfg.P.funcs[i_spec_prGenerator]? = some P_spec_prGenerator := by kernel_rfl
noncomputable abbrev P_impl_parts : Func := Try.f314
theorem get_impl_parts : cfg.P.funcs[i_impl_parts]? = some P_impl_parts := by kernel_rfl
noncomputable abbrev P_spec_l1Cur_sureForest : Func := Try.f317
theorem get_spec_l1Cur_sureForest : cfg.P.funcs[i_spec_l1Cur_sureForest]? = some P_spec_l1Cur_sureForest := by kernel_rfl
noncomputable abbrev P_spec_l1Cur_forests : Func := Try.f318
theorem get_spec_l1Cur_forests : cfg.P.funcs[i_spec_l1Cur_forests]? = some P_spec_l1Cur_forests := by kernel_rfl
noncomputable abbrev P_impl_parts_k1 : Func := Try.f335
theorem get_impl_parts_k1 : cfg.P.funcs[i_impl_parts_k1]? = some P_impl_parts_k1 := by kernel_rfl
noncomputable abbrev P_spec_l1Least : Func := Try.f338
theorem get_spec_l1Least : cfg.P.funcs[i_spec_l1Least]? = some P_spec_l1Least := by kernel_rfl
end Go.AI
