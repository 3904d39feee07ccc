/- A part of the road: what it proves stands in its last texts. -/
import Derived.Test.YtdfllkeekehplaaSCfg
import Derived.Test.YtdfllkeekehplaaProg
set_option autoImplicit false
set_option maxRecDepth 100000
set_option linter.unusedVariables false
namespace Go.AI
open Go.Proofs

abbrev t_int : TypeId := 3
abbrev t_uint8 : TypeId := 5
abbrev t_string : TypeId := 9
abbrev t_Sstring : TypeId := 31
abbrev t_Sint : TypeId := 52
abbrev t_pimpl_node : TypeId := 104
abbrev t_Simpl_Ratio : TypeId := 191
abbrev t_impl_Ratio : TypeId := 194
abbrev t_impl_mark : TypeId := 210
abbrev t_impl_piece : TypeId := 232
abbrev i_main_main : FuncId := 0
abbrev i_gosem_cut : FuncId := 1
abbrev i_gosem_cut_init : FuncId := 2
abbrev i_laws_FnTreesCounted : FuncId := 3
abbrev i_laws_FnTreesJoined : FuncId := 4
abbrev i_laws_FnKindsOfCarets : FuncId := 5
abbrev i_laws_FnExponentsOfTrees : FuncId := 6
abbrev i_laws_FnTreesByAddresses : FuncId := 7
abbrev i_laws_FnPairsMultiply : FuncId := 8
abbrev i_laws_FnForestsStacked : FuncId := 9
abbrev i_laws_FnRulesSortWords : FuncId := 10
abbrev i_laws_FnReducedAreUnique : FuncId := 11
abbrev i_laws_FnApartCommute : FuncId := 12
abbrev i_laws_big : FuncId := 13
abbrev i_spec_DrawTreeAt : FuncId := 14
abbrev i_impl_TreeAt : FuncId := 15
abbrev i_spec_TreeAt : FuncId := 16
abbrev i_impl_CountTrees : FuncId := 17
abbrev i_spec_CountTrees : FuncId := 18
abbrev i_spec_DrawAllTrees : FuncId := 19
abbrev i_impl_AllTrees : FuncId := 20
abbrev i_spec_AllTrees : FuncId := 21
abbrev i_laws_fTexts : FuncId := 22
abbrev i_impl_LeftComb : FuncId := 23
abbrev i_impl_RightComb : FuncId := 24
abbrev i_impl_IsTree : FuncId := 25
abbrev i_spec_DrawRightComb : FuncId := 26
abbrev i_spec_RightComb : FuncId := 27
abbrev i_spec_LeftComb : FuncId := 28
abbrev i_spec_DrawRankTree : FuncId := 29
abbrev i_impl_RankTree : FuncId := 30
abbrev i_spec_RankTree : FuncId := 31
abbrev i_impl_CaretsOf : FuncId := 32
abbrev i_spec_DrawJoinTrees : FuncId := 33
abbrev i_impl_JoinTrees : FuncId := 34
abbrev i_spec_JoinTrees : FuncId := 35
abbrev i_impl_CommonTree : FuncId := 36
abbrev i_spec_CommonTree : FuncId := 37
abbrev i_impl_IsPartOf : FuncId := 38
abbrev i_spec_DrawIsPartOf : FuncId := 39
abbrev i_spec_IsPartOf : FuncId := 40
abbrev i_spec_DrawSubtreeAt : FuncId := 41
abbrev i_impl_SubtreeAt : FuncId := 42
abbrev i_spec_SubtreeAt : FuncId := 43
abbrev i_spec_DrawGraftAt : FuncId := 44
abbrev i_impl_GraftAt : FuncId := 45
abbrev i_spec_GraftAt : FuncId := 46
abbrev i_impl_AddressesOf : FuncId := 47
abbrev i_spec_DrawCaretKinds : FuncId := 48
abbrev i_impl_CaretKinds : FuncId := 49
abbrev i_spec_CaretKinds : FuncId := 50
abbrev i_laws_nTexts : FuncId := 51
abbrev i_impl_KindLength : FuncId := 52
abbrev i_impl_LengthOf : FuncId := 53
abbrev i_spec_DrawKindLength : FuncId := 54
abbrev i_spec_KindLength : FuncId := 55
abbrev i_spec_DrawExponentsOf : FuncId := 56
abbrev i_impl_ExponentsOf : FuncId := 57
abbrev i_spec_ExponentsOf : FuncId := 58
abbrev i_laws_nSame : FuncId := 59
abbrev i_impl_WordOfPair : FuncId := 60
abbrev i_laws_nSum : FuncId := 61
abbrev i_spec_DrawTreeOfExponents : FuncId := 62
abbrev i_impl_TreeOfExponents : FuncId := 63
abbrev i_spec_TreeOfExponents : FuncId := 64
abbrev i_spec_DrawAddressesOf : FuncId := 65
abbrev i_spec_AddressesOf : FuncId := 66
abbrev i_impl_DepthsOf : FuncId := 67
abbrev i_spec_DepthsOf : FuncId := 68
abbrev i_impl_ExposedOf : FuncId := 69
abbrev i_spec_ExposedOf : FuncId := 70
abbrev i_spec_CaretsOf : FuncId := 71
abbrev i_impl_MirrorTree : FuncId := 72
abbrev i_spec_MirrorTree : FuncId := 73
abbrev i_laws_fSame : FuncId := 74
abbrev i_impl_TreeWith : FuncId := 75
abbrev i_impl_DropExposed : FuncId := 76
abbrev i_spec_DrawTreeWith : FuncId := 77
abbrev i_spec_TreeWith : FuncId := 78
abbrev i_spec_DrawDropExposed : FuncId := 79
abbrev i_spec_DropExposed : FuncId := 80
abbrev i_spec_DrawProductPair : FuncId := 81
abbrev i_impl_ProductPair : FuncId := 82
abbrev i_spec_ProductPair : FuncId := 83
abbrev i_impl_InversePair : FuncId := 84
abbrev i_impl_MirrorPair : FuncId := 85
abbrev i_impl_IsReduced : FuncId := 86
abbrev i_laws_fSameMap : FuncId := 87
abbrev i_spec_DrawPowerPair : FuncId := 88
abbrev i_impl_PowerPair : FuncId := 89
abbrev i_spec_PowerPair : FuncId := 90
abbrev i_impl_IdentityPair : FuncId := 91
abbrev i_spec_DrawCommutatorPair : FuncId := 92
abbrev i_impl_CommutatorPair : FuncId := 93
abbrev i_spec_CommutatorPair : FuncId := 94
abbrev i_impl_IsInner : FuncId := 95
abbrev i_spec_DrawStackForests : FuncId := 96
abbrev i_impl_StackForests : FuncId := 97
abbrev i_spec_StackForests : FuncId := 98
abbrev i_impl_CountForestCarets : FuncId := 99
abbrev i_impl_IsPartOfForest : FuncId := 100
abbrev i_impl_LeftQuotient : FuncId := 101
abbrev i_impl_PairOfForest : FuncId := 102
abbrev i_spec_DrawLeftQuotient : FuncId := 103
abbrev i_spec_LeftQuotient : FuncId := 104
abbrev i_spec_IsPartOfForest : FuncId := 105
abbrev i_impl_JoinForests : FuncId := 106
abbrev i_spec_JoinForests : FuncId := 107
abbrev i_impl_CommonForest : FuncId := 108
abbrev i_spec_CommonForest : FuncId := 109
abbrev i_spec_DrawSortedWord : FuncId := 110
abbrev i_impl_SortedWord : FuncId := 111
abbrev i_spec_SortedWord : FuncId := 112
abbrev i_impl_RuleSteps : FuncId := 113
abbrev i_spec_RuleSteps : FuncId := 114
abbrev i_impl_NormalByRules : FuncId := 115
abbrev i_spec_NormalByRules : FuncId := 116
abbrev i_impl_RuleStep : FuncId := 117
abbrev i_impl_SumsOfWord : FuncId := 118
abbrev i_spec_DrawRuleStep : FuncId := 119
abbrev i_spec_RuleStep : FuncId := 120
abbrev i_impl_PairOfWord : FuncId := 121
abbrev i_spec_DrawDropStep : FuncId := 122
abbrev i_impl_DropStep : FuncId := 123
abbrev i_spec_DropStep : FuncId := 124
abbrev i_spec_DrawFreeReduce : FuncId := 125
abbrev i_impl_FreeReduce : FuncId := 126
abbrev i_spec_FreeReduce : FuncId := 127
abbrev i_spec_DrawReduceBy : FuncId := 128
abbrev i_impl_ReduceBy : FuncId := 129
abbrev i_spec_ReduceBy : FuncId := 130
abbrev i_impl_ReducePair : FuncId := 131
abbrev i_spec_ReducePair : FuncId := 132
abbrev i_impl_IsPair : FuncId := 133
abbrev i_spec_DrawExpandPair : FuncId := 134
abbrev i_impl_ExpandPair : FuncId := 135
abbrev i_spec_ExpandPair : FuncId := 136
abbrev i_spec_DrawAreSamePairs : FuncId := 137
abbrev i_impl_AreSamePairs : FuncId := 138
abbrev i_spec_AreSamePairs : FuncId := 139
abbrev i_spec_DrawIsReduced : FuncId := 140
abbrev i_spec_IsReduced : FuncId := 141
abbrev i_spec_DrawParsePair : FuncId := 142
abbrev i_impl_ParsePair : FuncId := 143
abbrev i_spec_ParsePair : FuncId := 144
abbrev i_impl_PairText : FuncId := 145
abbrev i_spec_DrawAreApart : FuncId := 146
abbrev i_impl_AreApart : FuncId := 147
abbrev i_spec_AreApart : FuncId := 148
abbrev i_impl_DoCommute : FuncId := 149
abbrev i_spec_DoCommute : FuncId := 150
abbrev i_spec_DrawDoCommute : FuncId := 151
abbrev i_spec_l1Cur_carets : FuncId := 152
abbrev i_spec_trSize : FuncId := 153
abbrev i_spec_l1Cur_one : FuncId := 154
abbrev i_spec_l1Cur_among : FuncId := 155
abbrev i_spec_l1Cur_pick : FuncId := 156
abbrev i_spec_trCount : FuncId := 157
abbrev i_impl_isCarets : FuncId := 158
abbrev i_impl_trees : FuncId := 159
abbrev i_spec_l1In : FuncId := 160
abbrev i_spec_trList : FuncId := 161
abbrev i_impl_rightComb : FuncId := 162
abbrev i_impl_node_mirror : FuncId := 163
abbrev i_impl_node_text : FuncId := 164
abbrev i_impl_parse : FuncId := 165
abbrev i_spec_trRight : FuncId := 166
abbrev i_spec_trMirror : FuncId := 167
abbrev i_spec_l1Cur_tree : FuncId := 168
abbrev i_slices_Index_string : FuncId := 169
abbrev i_impl_node_carets : FuncId := 170
abbrev i_spec_trIs : FuncId := 171
abbrev i_spec_trCarets : FuncId := 172
abbrev i_impl_told : FuncId := 173
abbrev i_impl_join : FuncId := 174
abbrev i_spec_trJoin : FuncId := 175
abbrev i_impl_common : FuncId := 176
abbrev i_spec_trCommon : FuncId := 177
abbrev i_impl_isPart : FuncId := 178
abbrev i_spec_trGraft : FuncId := 179
abbrev i_spec_l1Cur_of : FuncId := 180
abbrev i_spec_trAddresses : FuncId := 181
abbrev i_impl_node_at : FuncId := 182
abbrev i_spec_trAt : FuncId := 183
abbrev i_impl_hasLeaf : FuncId := 184
abbrev i_impl_node_graft : FuncId := 185
abbrev i_spec_trLeaves : FuncId := 186
abbrev i_impl_node_addresses : FuncId := 187
abbrev i_impl_node_kinds : FuncId := 188
abbrev i_spec_lnKinds : FuncId := 189
abbrev i_impl_pairOf : FuncId := 190
abbrev i_impl_pair_length : FuncId := 191
abbrev i_spec_lnTable : FuncId := 192
abbrev i_impl_node_exponents : FuncId := 193
abbrev i_spec_wdRight : FuncId := 194
abbrev i_impl_madeWord : FuncId := 195
abbrev i_impl_wordOfPair : FuncId := 196
abbrev i_impl_pair_reduced : FuncId := 197
abbrev i_spec_l1Own : FuncId := 198
abbrev i_impl_forest_split : FuncId := 199
abbrev i_impl_forest_hung : FuncId := 200
abbrev i_spec_l1All : FuncId := 201
abbrev i_spec_wdComb : FuncId := 202
abbrev i_spec_wdShort : FuncId := 203
abbrev i_spec_wdForest : FuncId := 204
abbrev i_spec_DrawIsTree : FuncId := 205
abbrev i_impl_node_exposed : FuncId := 206
abbrev i_spec_trExposed : FuncId := 207
abbrev i_impl_treeWith : FuncId := 208
abbrev i_slices_Contains : FuncId := 209
abbrev i_impl_node_without : FuncId := 210
abbrev i_spec_l1Cur_sureTree : FuncId := 211
abbrev i_spec_trWith : FuncId := 212
abbrev i_spec_l1Has : FuncId := 213
abbrev i_spec_trDrop : FuncId := 214
abbrev i_spec_l1Cur_pair : FuncId := 215
abbrev i_impl_two : FuncId := 216
abbrev i_impl_pair_times : FuncId := 217
abbrev i_impl_pair_fits : FuncId := 218
abbrev i_spec_prGood : FuncId := 219
abbrev i_spec_prIf : FuncId := 220
abbrev i_spec_prTimes : FuncId := 221
abbrev i_impl_pair_inverse : FuncId := 222
abbrev i_impl_pair_plain : FuncId := 223
abbrev i_impl_pair_both : FuncId := 224
abbrev i_impl_pair_power : FuncId := 225
abbrev i_spec_prInverse : FuncId := 226
abbrev i_spec_prUnit : FuncId := 227
abbrev i_impl_EndSlopes : FuncId := 228
abbrev i_spec_l1Cur_forest : FuncId := 229
abbrev i_impl_twoForests : FuncId := 230
abbrev i_impl_forest_stack : FuncId := 231
abbrev i_impl_forest_texts : FuncId := 232
abbrev i_spec_foGood : FuncId := 233
abbrev i_spec_foIf : FuncId := 234
abbrev i_spec_foStack : FuncId := 235
abbrev i_impl_forestOf : FuncId := 236
abbrev i_impl_forest_carets : FuncId := 237
abbrev i_impl_isPartOf : FuncId := 238
abbrev i_impl_forest_tree : FuncId := 239
abbrev i_impl_forest_pair : FuncId := 240
abbrev i_spec_DrawIsPartOfForest : FuncId := 241
abbrev i_spec_foPart : FuncId := 242
abbrev i_spec_prParts : FuncId := 243
abbrev i_spec_foTree : FuncId := 244
abbrev i_impl_each : FuncId := 245
abbrev i_spec_DrawIsWord : FuncId := 246
abbrev i_impl_sort : FuncId := 247
abbrev i_spec_wdGood : FuncId := 248
abbrev i_spec_wdSort : FuncId := 249
abbrev i_spec_wdIf : FuncId := 250
abbrev i_impl_droppable : FuncId := 251
abbrev i_impl_dropped : FuncId := 252
abbrev i_spec_wdNormal : FuncId := 253
abbrev i_impl_IsWord : FuncId := 254
abbrev i_impl_stepped : FuncId := 255
abbrev i_impl_sums : FuncId := 256
abbrev i_spec_wdStep : FuncId := 257
abbrev i_impl_pairOfWord : FuncId := 258
abbrev i_spec_l1Cur_letters : FuncId := 259
abbrev i_impl_sorted : FuncId := 260
abbrev i_spec_wdSorted : FuncId := 261
abbrev i_spec_wdDrop : FuncId := 262
abbrev i_spec_l1Cur_sureWord : FuncId := 263
abbrev i_impl_freely : FuncId := 264
abbrev i_spec_wdFree : FuncId := 265
abbrev i_spec_l1Cur_choices : FuncId := 266
abbrev i_spec_l1Cur_loose : FuncId := 267
abbrev i_impl_pair_drop : FuncId := 268
abbrev i_spec_prChoices : FuncId := 269
abbrev i_spec_prReduce : FuncId := 270
abbrev i_spec_prLeaf : FuncId := 271
abbrev i_spec_l1Cur_choices0 : FuncId := 272
abbrev i_impl_pair_same : FuncId := 273
abbrev i_spec_prBoth : FuncId := 274
abbrev i_spec_prText : FuncId := 275
abbrev i_spec_l1Cur_surePair : FuncId := 276
abbrev i_spec_l1Cur_spoilt : FuncId := 277
abbrev i_strings_Cut : FuncId := 278
abbrev i_spec_prParse : FuncId := 279
abbrev i_slices_ContainsFunc : FuncId := 280
abbrev i_impl_pair_moved : FuncId := 281
abbrev i_impl_AreApart_k1 : FuncId := 282
abbrev i_impl_AreApart_k1_k1 : FuncId := 283
abbrev i_impl_Ratio_less : FuncId := 284
abbrev i_spec_obMoved : FuncId := 285
abbrev i_spec_obLess : FuncId := 286
abbrev i_impl_pair_text : FuncId := 287
abbrev i_spec_l1Cur_apart : FuncId := 288
abbrev i_spec_l1Cur_next : FuncId := 289
abbrev i_slices_Sort : FuncId := 290
abbrev i_spec_trOf : FuncId := 291
abbrev i_impl_read : FuncId := 292
abbrev i_spec_trLeaf : FuncId := 293
abbrev i_spec_trSides : FuncId := 294
abbrev i_spec_trEnd : FuncId := 295
abbrev i_impl_node_leaves : FuncId := 296
abbrev i_impl_node_grown : FuncId := 297
abbrev i_impl_node_graft_k1 : FuncId := 298
abbrev i_impl_node_marks : FuncId := 299
abbrev i_slices_ContainsFunc_loopexampleg01161implmark : FuncId := 300
abbrev i_impl_node_kinds_k1 : FuncId := 301
abbrev i_spec_lnLeft : FuncId := 302
abbrev i_spec_lnRight : FuncId := 303
abbrev i_spec_lnRow : FuncId := 304
abbrev i_impl_node_climbs : FuncId := 305
abbrev i_spec_wdExponents : FuncId := 306
abbrev i_impl_wordOf : FuncId := 307
abbrev i_impl_inverseOf : FuncId := 308
abbrev i_impl_forest_trimmed : FuncId := 309
abbrev i_impl_node_put : FuncId := 310
abbrev i_slices_Equal : FuncId := 311
abbrev i_slices_Index : FuncId := 312
abbrev i_spec_prGenerator : FuncId := 313
abbrev i_impl_parts : FuncId := 314
abbrev i_spec_prFill : FuncId := 315
abbrev i_impl_pair_slopes : FuncId := 316
abbrev i_spec_l1Cur_sureForest : FuncId := 317
abbrev i_spec_l1Cur_forests : FuncId := 318
abbrev i_slices_Clone : FuncId := 319
abbrev i_spec_wdIs : FuncId := 320
abbrev i_impl_isLetter : FuncId := 321
abbrev i_impl_rule : FuncId := 322
abbrev i_impl_size : FuncId := 323
abbrev i_spec_wdRule : FuncId := 324
abbrev i_impl_letter : FuncId := 325
abbrev i_internal_stringslite_Cut : FuncId := 326
abbrev i_spec_l1Split : FuncId := 327
abbrev i_slices_IndexFunc : FuncId := 328
abbrev i_impl_pair_fixed : FuncId := 329
abbrev i_spec_obFixed : FuncId := 330
abbrev i_slices_pdqsortOrdered : FuncId := 331
abbrev i_math_bits_Len : FuncId := 332
abbrev i_slices_IndexFunc_loopexampleg01161implmark : FuncId := 333
abbrev i_spec_lnInner : FuncId := 334
abbrev i_impl_parts_k1 : FuncId := 335
abbrev i_impl_pair_pieces : FuncId := 336
abbrev i_impl_piece_slope : FuncId := 337
abbrev i_spec_l1Least : FuncId := 338
abbrev i_impl_generator : FuncId := 339
abbrev i_internal_stringslite_Index : FuncId := 340
abbrev i_impl_piece_fixedIn : FuncId := 341
abbrev i_spec_mpOf : FuncId := 342
abbrev i_spec_obRatio : FuncId := 343
abbrev i_slices_insertionSortOrdered : FuncId := 344
abbrev i_slices_heapSortOrdered : FuncId := 345
abbrev i_slices_breakPatternsOrdered : FuncId := 346
abbrev i_slices_choosePivotOrdered : FuncId := 347
abbrev i_slices_reverseRangeOrdered : FuncId := 348
abbrev i_slices_partialInsertionSortOrdered : FuncId := 349
abbrev i_cmp_Less : FuncId := 350
abbrev i_slices_partitionEqualOrdered : FuncId := 351
abbrev i_slices_partitionOrdered : FuncId := 352
abbrev i_math_bits_Len32 : FuncId := 353
abbrev i_math_bits_Len64 : FuncId := 354
abbrev i_impl_placeOf : FuncId := 355
abbrev i_internal_stringslite_IndexByte : FuncId := 356
abbrev i_internal_bytealg_IndexString : FuncId := 357
abbrev i_internal_bytealg_Cutover : FuncId := 358
abbrev i_internal_bytealg_IndexRabinKarp : FuncId := 359
abbrev i_impl_short : FuncId := 360
abbrev i_impl_piece_end : FuncId := 361
abbrev i_impl_ratio : FuncId := 362
abbrev i_spec_mpShort : FuncId := 363
abbrev i_spec_mpGcd : FuncId := 364
abbrev i_spec_l1Abs : FuncId := 365
abbrev i_slices_siftDownOrdered : FuncId := 366
abbrev i_slices_nextPowerOfTwo : FuncId := 367
abbrev i_slices_xorshift_Next : FuncId := 368
abbrev i_slices_medianAdjacentOrdered : FuncId := 369
abbrev i_slices_medianOrdered : FuncId := 370
abbrev i_cmp_isNaN : FuncId := 371
abbrev i_internal_bytealg_IndexByteString : FuncId := 372
abbrev i_internal_bytealg_hashStr : FuncId := 373
abbrev i_spec_l1Most : FuncId := 374
abbrev i_slices_order2Ordered : FuncId := 375
abbrev i_runtime_boundsError_Error : FuncId := 376
abbrev i_runtime_boundsError_RuntimeError : FuncId := 377
abbrev i_runtime_errorString_Error : FuncId := 378
abbrev i_runtime_errorString_RuntimeError : FuncId := 379
abbrev i_runtime_plainError_Error : FuncId := 380
abbrev i_runtime_plainError_RuntimeError : FuncId := 381
abbrev i_runtime_errorAddressString_Error : FuncId := 382
abbrev i_runtime_errorAddressString_RuntimeError : FuncId := 383
abbrev i_runtime_TypeAssertionError_Error : FuncId := 384
abbrev i_runtime_TypeAssertionError_RuntimeError : FuncId := 385
abbrev i_runtime_PanicNilError_Error : FuncId := 386
abbrev i_runtime_PanicNilError_RuntimeError : FuncId := 387
abbrev i_internal_abi_Type_Align : FuncId := 388
abbrev i_internal_runtime_maps_unhashableTypeError_Error : FuncId := 389
abbrev i_internal_runtime_maps_unhashableTypeError_RuntimeError : FuncId := 390
abbrev i_spec_l1Cur_line10 : FuncId := 391
abbrev i_impl_Fraction_place : FuncId := 392
abbrev i_internal_abi_Kind_String : FuncId := 393
noncomputable abbrev P_gosem_cut_init : Func := Try.f2
theorem get_gosem_cut_init : cfg.P.funcs[i_gosem_cut_init]? = some P_gosem_cut_init := by kernel_rfl
noncomputable abbrev P_laws_FnTreesCounted : Func := Try.f3
theorem get_laws_FnTreesCounted : cfg.P.funcs[i_laws_FnTreesCounted]? = some P_laws_FnTreesCounted := by kernel_rfl
noncomputable abbrev P_laws_FnTreesJoined : Func := Try.f4
theorem get_laws_FnTreesJoined : cfg.P.funcs[i_laws_FnTreesJoined]? = some P_laws_FnTreesJoined := by kernel_rfl
noncomputable abbrev P_laws_FnKindsOfCarets : Func := Try.f5
theorem get_laws_FnKindsOfCarets : cfg.P.funcs[i_laws_FnKindsOfCarets]? = some P_laws_FnKindsOfCarets := by kernel_rfl
noncomputable abbrev P_laws_FnExponentsOfTrees : Func := Try.f6
theorem get_laws_FnExponentsOfTrees : cfg.P.funcs[i_laws_FnExponentsOfTrees]? = some P_laws_FnExponentsOfTrees := by kernel_rfl
noncomputable abbrev P_laws_FnTreesByAddresses : Func := Try.f7
theorem get_laws_FnTreesByAddresses : cfg.P.funcs[i_laws_FnTreesByAddresses]? = some P_laws_FnTreesByAddresses := by kernel_rfl
noncomputable abbrev P_laws_FnPairsMultiply : Func := Try.f8
theorem get_laws_FnPairsMultiply : cfg.P.funcs[i_laws_FnPairsMultiply]? = some P_laws_FnPairsMultiply := by kernel_rfl
noncomputable abbrev P_laws_FnForestsStacked : Func := Try.f9
theorem get_laws_FnForestsStacked : cfg.P.funcs[i_laws_FnForestsStacked]? = some P_laws_FnForestsStacked := by kernel_rfl
noncomputable abbrev P_laws_FnRulesSortWords : Func := Try.f10
theorem get_laws_FnRulesSortWords : cfg.P.funcs[i_laws_FnRulesSortWords]? = some P_laws_FnRulesSortWords := by kernel_rfl
noncomputable abbrev P_laws_FnReducedAreUnique : Func := Try.f11
theorem get_laws_FnReducedAreUnique : cfg.P.funcs[i_laws_FnReducedAreUnique]? = some P_laws_FnReducedAreUnique := by kernel_rfl
noncomputable abbrev P_laws_FnApartCommute : Func := Try.f12
theorem get_laws_FnApartCommute : cfg.P.funcs[i_laws_FnApartCommute]? = some P_laws_FnApartCommute := by kernel_rfl
noncomputable abbrev P_laws_big : Func := Try.f13
theorem get_laws_big : cfg.P.funcs[i_laws_big]? = some P_laws_big := by kernel_rfl
noncomputable abbrev P_spec_DrawTreeAt : Func := Try.f14
theorem get_spec_DrawTreeAt : cfg.P.funcs[i_spec_DrawTreeAt]? = some P_spec_DrawTreeAt := by kernel_rfl
noncomputable abbrev P_impl_TreeAt : Func := Try.f15
theorem get_impl_TreeAt : cfg.P.funcs[i_impl_TreeAt]? = some P_impl_TreeAt := by kernel_rfl
noncomputable abbrev P_spec_TreeAt : Func := Try.f16
theorem get_spec_TreeAt : cfg.P.funcs[i_spec_TreeAt]? = some P_spec_TreeAt := by kernel_rfl
noncomputable abbrev P_impl_CountTrees : Func := Try.f17
theorem get_impl_CountTrees : cfg.P.funcs[i_impl_CountTrees]? = some P_impl_CountTrees := by kernel_rfl
noncomputable abbrev P_spec_CountTrees : Func := Try.f18
theorem get_spec_CountTrees : cfg.P.funcs[i_spec_CountTrees]? = some P_spec_CountTrees := by kernel_rfl
noncomputable abbrev P_spec_DrawAllTrees : Func := Try.f19
theorem get_spec_DrawAllTrees : cfg.P.funcs[i_spec_DrawAllTrees]? = some P_spec_DrawAllTrees := by kernel_rfl
noncomputable abbrev P_impl_AllTrees : Func := Try.f20
theorem get_impl_AllTrees : cfg.P.funcs[i_impl_AllTrees]? = some P_impl_AllTrees := by kernel_rfl
noncomputable abbrev P_spec_AllTrees : Func := Try.f21
theorem get_spec_AllTrees : cfg.P.funcs[i_spec_AllTrees]? = some P_spec_AllTrees := by kernel_rfl
noncomputable abbrev P_laws_fTexts : Func := Try.f22
theorem get_laws_fTexts : cfg.P.funcs[i_laws_fTexts]? = some P_laws_fTexts := by kernel_rfl
noncomputable abbrev P_impl_LeftComb : Func := Try.f23
theorem get_impl_LeftComb : cfg.P.funcs[i_impl_LeftComb]? = some P_impl_LeftComb := by kernel_rfl
noncomputable abbrev P_impl_RightComb : Func := Try.f24
theorem get_impl_RightComb : cfg.P.funcs[i_impl_RightComb]? = some P_impl_RightComb := by kernel_rfl
noncomputable abbrev P_impl_IsTree : Func := Try.f25
theorem get_impl_IsTree : cfg.P.funcs[i_impl_IsTree]? = some P_impl_IsTree := by kernel_rfl
noncomputable abbrev P_spec_DrawRightComb : Func := Try.f26
theorem get_spec_DrawRightComb : cfg.P.funcs[i_spec_DrawRightComb]? = some P_spec_DrawRightComb := by kernel_rfl
noncomputable abbrev P_spec_RightComb : Func := Try.f27
theorem get_spec_RightComb : cfg.P.funcs[i_spec_RightComb]? = some P_spec_RightComb := by kernel_rfl
noncomputable abbrev P_spec_LeftComb : Func := Try.f28
theorem get_spec_LeftComb : cfg.P.funcs[i_spec_LeftComb]? = some P_spec_LeftComb := by kernel_rfl
noncomputable abbrev P_spec_DrawRankTree : Func := Try.f29
theorem get_spec_DrawRankTree : cfg.P.funcs[i_spec_DrawRankTree]? = some P_spec_DrawRankTree := by kernel_rfl
noncomputable abbrev P_impl_RankTree : Func := Try.f30
theorem get_impl_RankTree : cfg.P.funcs[i_impl_RankTree]? = some P_impl_RankTree := by kernel_rfl
noncomputable abbrev P_spec_RankTree : Func := Try.f31
theorem get_spec_RankTree : cfg.P.funcs[i_spec_RankTree]? = some P_spec_RankTree := by kernel_rfl
noncomputable abbrev P_impl_CaretsOf : Func := Try.f32
theorem get_impl_CaretsOf : cfg.P.funcs[i_impl_CaretsOf]? = some P_impl_CaretsOf := by kernel_rfl
noncomputable abbrev P_spec_DrawJoinTrees : Func := Try.f33
theorem get_spec_DrawJoinTrees : cfg.P.funcs[i_spec_DrawJoinTrees]? = some P_spec_DrawJoinTrees := by kernel_rfl
noncomputable abbrev P_impl_JoinTrees : Func := Try.f34
theorem get_impl_JoinTrees : cfg.P.funcs[i_impl_JoinTrees]? = some P_impl_JoinTrees := by kernel_rfl
noncomputable abbrev P_spec_JoinTrees : Func := Try.f35
theorem get_spec_JoinTrees : cfg.P.funcs[i_spec_JoinTrees]? = some P_spec_JoinTrees := by kernel_rfl
noncomputable abbrev P_impl_CommonTree : Func := Try.f36
theorem get_impl_CommonTree : cfg.P.funcs[i_impl_CommonTree]? = some P_impl_CommonTree := by kernel_rfl
noncomputable abbrev P_spec_CommonTree : Func := Try.f37
theorem get_spec_CommonTree : cfg.P.funcs[i_spec_CommonTree]? = some P_spec_CommonTree := by kernel_rfl
noncomputable abbrev P_impl_IsPartOf : Func := Try.f38
theorem get_impl_IsPartOf : cfg.P.funcs[i_impl_IsPartOf]? = some P_impl_IsPartOf := by kernel_rfl
noncomputable abbrev P_spec_DrawIsPartOf : Func := Try.f39
theorem get_spec_DrawIsPartOf : cfg.P.funcs[i_spec_DrawIsPartOf]? = some P_spec_DrawIsPartOf := by kernel_rfl
noncomputable abbrev P_spec_IsPartOf : Func := Try.f40
theorem get_spec_IsPartOf : cfg.P.funcs[i_spec_IsPartOf]? = some P_spec_IsPartOf := by kernel_rfl
noncomputable abbrev P_spec_DrawSubtreeAt : Func := Try.f41
theorem get_spec_DrawSubtreeAt : cfg.P.funcs[i_spec_DrawSubtreeAt]? = some P_spec_DrawSubtreeAt := by kernel_rfl
noncomputable abbrev P_impl_SubtreeAt : Func := Try.f42
theorem get_impl_SubtreeAt : cfg.P.funcs[i_impl_SubtreeAt]? = some P_impl_SubtreeAt := by kernel_rfl
noncomputable abbrev P_spec_SubtreeAt : Func := Try.f43
theorem get_spec_SubtreeAt : cfg.P.funcs[i_spec_SubtreeAt]? = some P_spec_SubtreeAt := by kernel_rfl
noncomputable abbrev P_spec_DrawGraftAt : Func := Try.f44
theorem get_spec_DrawGraftAt : cfg.P.funcs[i_spec_DrawGraftAt]? = some P_spec_DrawGraftAt := by kernel_rfl
noncomputable abbrev P_impl_GraftAt : Func := Try.f45
theorem get_impl_GraftAt : cfg.P.funcs[i_impl_GraftAt]? = some P_impl_GraftAt := by kernel_rfl
noncomputable abbrev P_spec_GraftAt : Func := Try.f46
theorem get_spec_GraftAt : cfg.P.funcs[i_spec_GraftAt]? = some P_spec_GraftAt := by kernel_rfl
noncomputable abbrev P_impl_AddressesOf : Func := Try.f47
theorem get_impl_AddressesOf : cfg.P.funcs[i_impl_AddressesOf]? = some P_impl_AddressesOf := by kernel_rfl
noncomputable abbrev P_spec_DrawCaretKinds : Func := Try.f48
theorem get_spec_DrawCaretKinds : cfg.P.funcs[i_spec_DrawCaretKinds]? = some P_spec_DrawCaretKinds := by kernel_rfl
noncomputable abbrev P_impl_CaretKinds : Func := Try.f49
theorem get_impl_CaretKinds : cfg.P.funcs[i_impl_CaretKinds]? = some P_impl_CaretKinds := by kernel_rfl
noncomputable abbrev P_spec_CaretKinds : Func := Try.f50
theorem get_spec_CaretKinds : cfg.P.funcs[i_spec_CaretKinds]? = some P_spec_CaretKinds := by kernel_rfl
noncomputable abbrev P_laws_nTexts : Func := Try.f51
theorem get_laws_nTexts : cfg.P.funcs[i_laws_nTexts]? = some P_laws_nTexts := by kernel_rfl
noncomputable abbrev P_impl_KindLength : Func := Try.f52
theorem get_impl_KindLength : cfg.P.funcs[i_impl_KindLength]? = some P_impl_KindLength := by kernel_rfl
noncomputable abbrev P_impl_LengthOf : Func := Try.f53
theorem get_impl_LengthOf : cfg.P.funcs[i_impl_LengthOf]? = some P_impl_LengthOf := by kernel_rfl
noncomputable abbrev P_spec_DrawKindLength : Func := Try.f54
theorem get_spec_DrawKindLength : cfg.P.funcs[i_spec_DrawKindLength]? = some P_spec_DrawKindLength := by kernel_rfl
noncomputable abbrev P_spec_KindLength : Func := Try.f55
theorem get_spec_KindLength : cfg.P.funcs[i_spec_KindLength]? = some P_spec_KindLength := by kernel_rfl
noncomputable abbrev P_spec_DrawExponentsOf : Func := Try.f56
theorem get_spec_DrawExponentsOf : cfg.P.funcs[i_spec_DrawExponentsOf]? = some P_spec_DrawExponentsOf := by kernel_rfl
noncomputable abbrev P_impl_ExponentsOf : Func := Try.f57
theorem get_impl_ExponentsOf : cfg.P.funcs[i_impl_ExponentsOf]? = some P_impl_ExponentsOf := by kernel_rfl
noncomputable abbrev P_spec_ExponentsOf : Func := Try.f58
theorem get_spec_ExponentsOf : cfg.P.funcs[i_spec_ExponentsOf]? = some P_spec_ExponentsOf := by kernel_rfl
noncomputable abbrev P_laws_nSame : Func := Try.f59
theorem get_laws_nSame : cfg.P.funcs[i_laws_nSame]? = some P_laws_nSame := by kernel_rfl
noncomputable abbrev P_impl_WordOfPair : Func := Try.f60
theorem get_impl_WordOfPair : cfg.P.funcs[i_impl_WordOfPair]? = some P_impl_WordOfPair := by kernel_rfl
noncomputable abbrev P_laws_nSum : Func := Try.f61
theorem get_laws_nSum : cfg.P.funcs[i_laws_nSum]? = some P_laws_nSum := by kernel_rfl
noncomputable abbrev P_spec_DrawTreeOfExponents : Func := Try.f62
theorem get_spec_DrawTreeOfExponents : cfg.P.funcs[i_spec_DrawTreeOfExponents]? = some P_spec_DrawTreeOfExponents := by kernel_rfl
noncomputable abbrev P_impl_TreeOfExponents : Func := Try.f63
theorem get_impl_TreeOfExponents : cfg.P.funcs[i_impl_TreeOfExponents]? = some P_impl_TreeOfExponents := by kernel_rfl
noncomputable abbrev P_spec_TreeOfExponents : Func := Try.f64
theorem get_spec_TreeOfExponents : cfg.P.funcs[i_spec_TreeOfExponents]? = some P_spec_TreeOfExponents := by kernel_rfl
noncomputable abbrev P_spec_DrawAddressesOf : Func := Try.f65
theorem get_spec_DrawAddressesOf : cfg.P.funcs[i_spec_DrawAddressesOf]? = some P_spec_DrawAddressesOf := by kernel_rfl
noncomputable abbrev P_spec_AddressesOf : Func := Try.f66
theorem get_spec_AddressesOf : cfg.P.funcs[i_spec_AddressesOf]? = some P_spec_AddressesOf := by kernel_rfl
noncomputable abbrev P_impl_DepthsOf : Func := Try.f67
theorem get_impl_DepthsOf : cfg.P.funcs[i_impl_DepthsOf]? = some P_impl_DepthsOf := by kernel_rfl
noncomputable abbrev P_spec_DepthsOf : Func := Try.f68
theorem get_spec_DepthsOf : cfg.P.funcs[i_spec_DepthsOf]? = some P_spec_DepthsOf := by kernel_rfl
noncomputable abbrev P_impl_ExposedOf : Func := Try.f69
theorem get_impl_ExposedOf : cfg.P.funcs[i_impl_ExposedOf]? = some P_impl_ExposedOf := by kernel_rfl
noncomputable abbrev P_spec_ExposedOf : Func := Try.f70
theorem get_spec_ExposedOf : cfg.P.funcs[i_spec_ExposedOf]? = some P_spec_ExposedOf := by kernel_rfl
noncomputable abbrev P_spec_CaretsOf : Func := Try.f71
theorem get_spec_CaretsOf : cfg.P.funcs[i_spec_CaretsOf]? = some P_spec_CaretsOf := by kernel_rfl
noncomputable abbrev P_impl_MirrorTree : Func := Try.f72
theorem get_impl_MirrorTree : cfg.P.funcs[i_impl_MirrorTree]? = some P_impl_MirrorTree := by kernel_rfl
noncomputable abbrev P_spec_MirrorTree : Func := Try.f73
theorem get_spec_MirrorTree : cfg.P.funcs[i_spec_MirrorTree]? = some P_spec_MirrorTree := by kernel_rfl
noncomputable abbrev P_laws_fSame : Func := Try.f74
theorem get_laws_fSame : cfg.P.funcs[i_laws_fSame]? = some P_laws_fSame := by kernel_rfl
noncomputable abbrev P_impl_TreeWith : Func := Try.f75
theorem get_impl_TreeWith : cfg.P.funcs[i_impl_TreeWith]? = some P_impl_TreeWith := by kernel_rfl
noncomputable abbrev P_impl_DropExposed : Func := Try.f76
theorem get_impl_DropExposed : cfg.P.funcs[i_impl_DropExposed]? = some P_impl_DropExposed := by kernel_rfl
noncomputable abbrev P_spec_DrawTreeWith : Func := Try.f77
theorem get_spec_DrawTreeWith : cfg.P.funcs[i_spec_DrawTreeWith]? = some P_spec_DrawTreeWith := by kernel_rfl
noncomputable abbrev P_spec_TreeWith : Func := Try.f78
theorem get_spec_TreeWith : cfg.P.funcs[i_spec_TreeWith]? = some P_spec_TreeWith := by kernel_rfl
noncomputable abbrev P_spec_DrawDropExposed : Func := Try.f79
theorem get_spec_DrawDropExposed : cfg.P.funcs[i_spec_DrawDropExposed]? = some P_spec_DrawDropExposed := by kernel_rfl
noncomputable abbrev P_spec_DropExposed : Func := Try.f80
theorem get_spec_DropExposed : cfg.P.funcs[i_spec_DropExposed]? = some P_spec_DropExposed := by kernel_rfl
noncomputable abbrev P_spec_DrawProductPair : Func := Try.f81
theorem get_spec_DrawProductPair : cfg.P.funcs[i_spec_DrawProductPair]? = some P_spec_DrawProductPair := by kernel_rfl
noncomputable abbrev P_impl_ProductPair : Func := Try.f82
theorem get_impl_ProductPair : cfg.P.funcs[i_impl_ProductPair]? = some P_impl_ProductPair := by kernel_rfl
noncomputable abbrev P_spec_ProductPair : Func := Try.f83
theorem get_spec_ProductPair : cfg.P.funcs[i_spec_ProductPair]? = some P_spec_ProductPair := by kernel_rfl
noncomputable abbrev P_impl_InversePair : Func := Try.f84
theorem get_impl_InversePair : cfg.P.funcs[i_impl_InversePair]? = some P_impl_InversePair := by kernel_rfl
noncomputable abbrev P_impl_MirrorPair : Func := Try.f85
theorem get_impl_MirrorPair : cfg.P.funcs[i_impl_MirrorPair]? = some P_impl_MirrorPair := by kernel_rfl
noncomputable abbrev P_impl_IsReduced : Func := Try.f86
theorem get_impl_IsReduced : cfg.P.funcs[i_impl_IsReduced]? = some P_impl_IsReduced := by kernel_rfl
noncomputable abbrev P_laws_fSameMap : Func := Try.f87
theorem get_laws_fSameMap : cfg.P.funcs[i_laws_fSameMap]? = some P_laws_fSameMap := by kernel_rfl
noncomputable abbrev P_spec_DrawPowerPair : Func := Try.f88
theorem get_spec_DrawPowerPair : cfg.P.funcs[i_spec_DrawPowerPair]? = some P_spec_DrawPowerPair := by kernel_rfl
noncomputable abbrev P_impl_PowerPair : Func := Try.f89
theorem get_impl_PowerPair : cfg.P.funcs[i_impl_PowerPair]? = some P_impl_PowerPair := by kernel_rfl
noncomputable abbrev P_spec_PowerPair : Func := Try.f90
theorem get_spec_PowerPair : cfg.P.funcs[i_spec_PowerPair]? = some P_spec_PowerPair := by kernel_rfl
noncomputable abbrev P_impl_IdentityPair : Func := Try.f91
theorem get_impl_IdentityPair : cfg.P.funcs[i_impl_IdentityPair]? = some P_impl_IdentityPair := by kernel_rfl
noncomputable abbrev P_spec_DrawCommutatorPair : Func := Try.f92
theorem get_spec_DrawCommutatorPair : cfg.P.funcs[i_spec_DrawCommutatorPair]? = some P_spec_DrawCommutatorPair := by kernel_rfl
noncomputable abbrev P_impl_CommutatorPair : Func := Try.f93
theorem get_impl_CommutatorPair : cfg.P.funcs[i_impl_CommutatorPair]? = some P_impl_CommutatorPair := by kernel_rfl
noncomputable abbrev P_spec_CommutatorPair : Func := Try.f94
theorem get_spec_CommutatorPair : cfg.P.funcs[i_spec_CommutatorPair]? = some P_spec_CommutatorPair := by kernel_rfl
noncomputable abbrev P_impl_IsInner : Func := Try.f95
theorem get_impl_IsInner : cfg.P.funcs[i_impl_IsInner]? = some P_impl_IsInner := by kernel_rfl
noncomputable abbrev P_spec_DrawStackForests : Func := Try.f96
theorem get_spec_DrawStackForests : cfg.P.funcs[i_spec_DrawStackForests]? = some P_spec_DrawStackForests := by kernel_rfl
noncomputable abbrev P_impl_StackForests : Func := Try.f97
theorem get_impl_StackForests : cfg.P.funcs[i_impl_StackForests]? = some P_impl_StackForests := by kernel_rfl
noncomputable abbrev P_spec_StackForests : Func := Try.f98
theorem get_spec_StackForests : cfg.P.funcs[i_spec_StackForests]? = some P_spec_StackForests := by kernel_rfl
noncomputable abbrev P_impl_CountForestCarets : Func := Try.f99
theorem get_impl_CountForestCarets : cfg.P.funcs[i_impl_CountForestCarets]? = some P_impl_CountForestCarets := by kernel_rfl
noncomputable abbrev P_impl_IsPartOfForest : Func := Try.f100
theorem get_impl_IsPartOfForest : cfg.P.funcs[i_impl_IsPartOfForest]? = some P_impl_IsPartOfForest := by kernel_rfl
noncomputable abbrev P_impl_LeftQuotient : Func := Try.f101
theorem get_impl_LeftQuotient : cfg.P.funcs[i_impl_LeftQuotient]? = some P_impl_LeftQuotient := by kernel_rfl
noncomputable abbrev P_impl_PairOfForest : Func := Try.f102
theorem get_impl_PairOfForest : cfg.P.funcs[i_impl_PairOfForest]? = some P_impl_PairOfForest := by kernel_rfl
noncomputable abbrev P_spec_DrawLeftQuotient : Func := Try.f103
theorem get_spec_DrawLeftQuotient : cfg.P.funcs[i_spec_DrawLeftQuotient]? = some P_spec_DrawLeftQuotient := by kernel_rfl
noncomputable abbrev P_spec_LeftQuotient : Func := Try.f104
theorem get_spec_LeftQuotient : cfg.P.funcs[i_spec_LeftQuotient]? = some P_spec_LeftQuotient := by kernel_rfl
noncomputable abbrev P_spec_IsPartOfForest : Func := Try.f105
theorem get_spec_IsPartOfForest : cfg.P.funcs[i_spec_IsPartOfForest]? = some P_spec_IsPartOfForest := by kernel_rfl
noncomputable abbrev P_impl_JoinForests : Func := Try.f106
theorem get_impl_JoinForests : cfg.P.funcs[i_impl_JoinForests]? = some P_impl_JoinForests := by kernel_rfl
noncomputable abbrev P_spec_JoinForests : Func := Try.f107
theorem get_spec_JoinForests : cfg.P.funcs[i_spec_JoinForests]? = some P_spec_JoinForests := by kernel_rfl
noncomputable abbrev P_impl_CommonForest : Func := Try.f108
theorem get_impl_CommonForest : cfg.P.funcs[i_impl_CommonForest]? = some P_impl_CommonForest := by kernel_rfl
noncomputable abbrev P_spec_CommonForest : Func := Try.f109
theorem get_spec_CommonForest : cfg.P.funcs[i_spec_CommonForest]? = some P_spec_CommonForest := by kernel_rfl
noncomputable abbrev P_spec_DrawSortedWord : Func := Try.f110
theorem get_spec_DrawSortedWord : cfg.P.funcs[i_spec_DrawSortedWord]? = some P_spec_DrawSortedWord := by kernel_rfl
noncomputable abbrev P_impl_SortedWord : Func := Try.f111
theorem get_impl_SortedWord : cfg.P.funcs[i_impl_SortedWord]? = some P_impl_SortedWord := by kernel_rfl
noncomputable abbrev P_spec_SortedWord : Func := Try.f112
theorem get_spec_SortedWord : cfg.P.funcs[i_spec_SortedWord]? = some P_spec_SortedWord := by kernel_rfl
noncomputable abbrev P_impl_RuleSteps : Func := Try.f113
theorem get_impl_RuleSteps : cfg.P.funcs[i_impl_RuleSteps]? = some P_impl_RuleSteps := by kernel_rfl
noncomputable abbrev P_spec_RuleSteps : Func := Try.f114
theorem get_spec_RuleSteps : cfg.P.funcs[i_spec_RuleSteps]? = some P_spec_RuleSteps := by kernel_rfl
noncomputable abbrev P_impl_NormalByRules : Func := Try.f115
theorem get_impl_NormalByRules : cfg.P.funcs[i_impl_NormalByRules]? = some P_impl_NormalByRules := by kernel_rfl
noncomputable abbrev P_spec_NormalByRules : Func := Try.f116
theorem get_spec_NormalByRules : cfg.P.funcs[i_spec_NormalByRules]? = some P_spec_NormalByRules := by kernel_rfl
noncomputable abbrev P_impl_RuleStep : Func := Try.f117
theorem get_impl_RuleStep : cfg.P.funcs[i_impl_RuleStep]? = some P_impl_RuleStep := by kernel_rfl
noncomputable abbrev P_impl_SumsOfWord : Func := Try.f118
theorem get_impl_SumsOfWord : cfg.P.funcs[i_impl_SumsOfWord]? = some P_impl_SumsOfWord := by kernel_rfl
noncomputable abbrev P_spec_DrawRuleStep : Func := Try.f119
theorem get_spec_DrawRuleStep : cfg.P.funcs[i_spec_DrawRuleStep]? = some P_spec_DrawRuleStep := by kernel_rfl
noncomputable abbrev P_spec_RuleStep : Func := Try.f120
theorem get_spec_RuleStep : cfg.P.funcs[i_spec_RuleStep]? = some P_spec_RuleStep := by kernel_rfl
noncomputable abbrev P_impl_PairOfWord : Func := Try.f121
theorem get_impl_PairOfWord : cfg.P.funcs[i_impl_PairOfWord]? = some P_impl_PairOfWord := by kernel_rfl
noncomputable abbrev P_spec_DrawDropStep : Func := Try.f122
theorem get_spec_DrawDropStep : cfg.P.funcs[i_spec_DrawDropStep]? = some P_spec_DrawDropStep := by kernel_rfl
noncomputable abbrev P_impl_DropStep : Func := Try.f123
theorem get_impl_DropStep : cfg.P.funcs[i_impl_DropStep]? = some P_impl_DropStep := by kernel_rfl
noncomputable abbrev P_spec_DropStep : Func := Try.f124
theorem get_spec_DropStep : cfg.P.funcs[i_spec_DropStep]? = some P_spec_DropStep := by kernel_rfl
noncomputable abbrev P_spec_DrawFreeReduce : Func := Try.f125
theorem get_spec_DrawFreeReduce : cfg.P.funcs[i_spec_DrawFreeReduce]? = some P_spec_DrawFreeReduce := by kernel_rfl
noncomputable abbrev P_impl_FreeReduce : Func := Try.f126
theorem get_impl_FreeReduce : cfg.P.funcs[i_impl_FreeReduce]? = some P_impl_FreeReduce := by kernel_rfl
noncomputable abbrev P_spec_FreeReduce : Func := Try.f127
theorem get_spec_FreeReduce : cfg.P.funcs[i_spec_FreeReduce]? = some P_spec_FreeReduce := by kernel_rfl
noncomputable abbrev P_spec_DrawReduceBy : Func := Try.f128
theorem get_spec_DrawReduceBy : cfg.P.funcs[i_spec_DrawReduceBy]? = some P_spec_DrawReduceBy := by kernel_rfl
noncomputable abbrev P_impl_ReduceBy : Func := Try.f129
theorem get_impl_ReduceBy : cfg.P.funcs[i_impl_ReduceBy]? = some P_impl_ReduceBy := by kernel_rfl
noncomputable abbrev P_spec_ReduceBy : Func := Try.f130
theorem get_spec_ReduceBy : cfg.P.funcs[i_spec_ReduceBy]? = some P_spec_ReduceBy := by kernel_rfl
noncomputable abbrev P_impl_ReducePair : Func := Try.f131
theorem get_impl_ReducePair : cfg.P.funcs[i_impl_ReducePair]? = some P_impl_ReducePair := by kernel_rfl
noncomputable abbrev P_spec_ReducePair : Func := Try.f132
theorem get_spec_ReducePair : cfg.P.funcs[i_spec_ReducePair]? = some P_spec_ReducePair := by kernel_rfl
noncomputable abbrev P_impl_IsPair : Func := Try.f133
theorem get_impl_IsPair : cfg.P.funcs[i_impl_IsPair]? = some P_impl_IsPair := by kernel_rfl
noncomputable abbrev P_spec_DrawExpandPair : Func := Try.f134
theorem get_spec_DrawExpandPair : cfg.P.funcs[i_spec_DrawExpandPair]? = some P_spec_DrawExpandPair := by kernel_rfl
noncomputable abbrev P_impl_ExpandPair : Func := Try.f135
theorem get_impl_ExpandPair : cfg.P.funcs[i_impl_ExpandPair]? = some P_impl_ExpandPair := by kernel_rfl
noncomputable abbrev P_spec_ExpandPair : Func := Try.f136
theorem get_spec_ExpandPair : cfg.P.funcs[i_spec_ExpandPair]? = some P_spec_ExpandPair := by kernel_rfl
noncomputable abbrev P_spec_DrawAreSamePairs : Func := Try.f137
theorem get_spec_DrawAreSamePairs : cfg.P.funcs[i_spec_DrawAreSamePairs]? = some P_spec_DrawAreSamePairs := by kernel_rfl
noncomputable abbrev P_impl_AreSamePairs : Func := Try.f138
theorem get_impl_AreSamePairs : cfg.P.funcs[i_impl_AreSamePairs]? = some P_impl_AreSamePairs := by kernel_rfl
noncomputable abbrev P_spec_AreSamePairs : Func := Try.f139
theorem get_spec_AreSamePairs : cfg.P.funcs[i_spec_AreSamePairs]? = some P_spec_AreSamePairs := by kernel_rfl
noncomputable abbrev P_spec_DrawIsReduced : Func := Try.f140
theorem get_spec_DrawIsReduced : cfg.P.funcs[i_spec_DrawIsReduced]? = some P_spec_DrawIsReduced := by kernel_rfl
noncomputable abbrev P_spec_IsReduced : Func := Try.f141
theorem get_spec_IsReduced : cfg.P.funcs[i_spec_IsReduced]? = some P_spec_IsReduced := by kernel_rfl
noncomputable abbrev P_spec_DrawParsePair : Func := Try.f142
theorem get_spec_DrawParsePair : cfg.P.funcs[i_spec_DrawParsePair]? = some P_spec_DrawParsePair := by kernel_rfl
noncomputable abbrev P_impl_ParsePair : Func := Try.f143
theorem get_impl_ParsePair : cfg.P.funcs[i_impl_ParsePair]? = some P_impl_ParsePair := by kernel_rfl
noncomputable abbrev P_spec_ParsePair : Func := Try.f144
theorem get_spec_ParsePair : cfg.P.funcs[i_spec_ParsePair]? = some P_spec_ParsePair := by kernel_rfl
noncomputable abbrev P_impl_PairText : Func := Try.f145
theorem get_impl_PairText : cfg.P.funcs[i_impl_PairText]? = some P_impl_PairText := by kernel_rfl
noncomputable abbrev P_spec_DrawAreApart : Func := Try.f146
theorem get_spec_DrawAreApart : cfg.P.funcs[i_spec_DrawAreApart]? = some P_spec_DrawAreApart := by kernel_rfl
noncomputable abbrev P_impl_AreApart : Func := Try.f147
theorem get_impl_AreApart : cfg.P.funcs[i_impl_AreApart]? = some P_impl_AreApart := by kernel_rfl
noncomputable abbrev P_spec_AreApart : Func := Try.f148
theorem get_spec_AreApart : cfg.P.funcs[i_spec_AreApart]? = some P_spec_AreApart := by kernel_rfl
noncomputable abbrev P_impl_DoCommute : Func := Try.f149
theorem get_impl_DoCommute : cfg.P.funcs[i_impl_DoCommute]? = some P_impl_DoCommute := by kernel_rfl
noncomputable abbrev P_spec_DoCommute : Func := Try.f150
theorem get_spec_DoCommute : cfg.P.funcs[i_spec_DoCommute]? = some P_spec_DoCommute := by kernel_rfl
noncomputable abbrev P_spec_DrawDoCommute : Func := Try.f151
theorem get_spec_DrawDoCommute : cfg.P.funcs[i_spec_DrawDoCommute]? = some P_spec_DrawDoCommute := by kernel_rfl
noncomputable abbrev P_spec_l1Cur_carets : Func := Try.f152
theorem get_spec_l1Cur_carets : cfg.P.funcs[i_spec_l1Cur_carets]? = some P_spec_l1Cur_carets := by kernel_rfl
noncomputable abbrev P_spec_trSize : Func := Try.f153
theorem get_spec_trSize : cfg.P.funcs[i_spec_trSize]? = some P_spec_trSize := by kernel_rfl
noncomputable abbrev P_spec_l1Cur_one : Func := Try.f154
theorem get_spec_l1Cur_one : cfg.P.funcs[i_spec_l1Cur_one]? = some P_spec_l1Cur_one := by kernel_rfl
noncomputable abbrev P_spec_l1Cur_among : Func := Try.f155
theorem get_spec_l1Cur_among : cfg.P.funcs[i_spec_l1Cur_among]? = some P_spec_l1Cur_among := by kernel_rfl
noncomputable abbrev P_spec_l1Cur_pick : Func := Try.f156
theorem get_spec_l1Cur_pick : cfg.P.funcs[i_spec_l1Cur_pick]? = some P_spec_l1Cur_pick := by kernel_rfl
noncomputable abbrev P_spec_trCount : Func := Try.f157
theorem get_spec_trCount : cfg.P.funcs[i_spec_trCount]? = some P_spec_trCount := by kernel_rfl
noncomputable abbrev P_impl_isCarets : Func := Try.f158
theorem get_impl_isCarets : cfg.P.funcs[i_impl_isCarets]? = some P_impl_isCarets := by kernel_rfl
noncomputable abbrev P_impl_trees : Func := Try.f159
theorem get_impl_trees : cfg.P.funcs[i_impl_trees]? = some P_impl_trees := by kernel_rfl
noncomputable abbrev P_spec_l1In : Func := Try.f160
theorem get_spec_l1In : cfg.P.funcs[i_spec_l1In]? = some P_spec_l1In := by kernel_rfl
noncomputable abbrev P_spec_trList : Func := Try.f161
theorem get_spec_trList : cfg.P.funcs[i_spec_trList]? = some P_spec_trList := by kernel_rfl
noncomputable abbrev P_impl_rightComb : Func := Try.f162
theorem get_impl_rightComb : cfg.P.funcs[i_impl_rightComb]? = some P_impl_rightComb := by kernel_rfl
noncomputable abbrev P_impl_node_mirror : Func := Try.f163
theorem get_impl_node_mirror : cfg.P.funcs[i_impl_node_mirror]? = some P_impl_node_mirror := by kernel_rfl
noncomputable abbrev P_impl_node_text : Func := Try.f164
theorem get_impl_node_text : cfg.P.funcs[i_impl_node_text]? = some P_impl_node_text := by kernel_rfl
noncomputable abbrev P_impl_parse : Func := Try.f165
theorem get_impl_parse : cfg.P.funcs[i_impl_parse]? = some P_impl_parse := by kernel_rfl
noncomputable abbrev P_spec_trRight : Func := Try.f166
theorem get_spec_trRight : cfg.P.funcs[i_spec_trRight]? = some P_spec_trRight := by kernel_rfl
noncomputable abbrev P_spec_trMirror : Func := Try.f167
theorem get_spec_trMirror : cfg.P.funcs[i_spec_trMirror]? = some P_spec_trMirror := by kernel_rfl
noncomputable abbrev P_spec_l1Cur_tree : Func := Try.f168
theorem get_spec_l1Cur_tree : cfg.P.funcs[i_spec_l1Cur_tree]? = some P_spec_l1Cur_tree := by kernel_rfl
noncomputable abbrev P_slices_Index_string : Func := Try.f169
theorem get_slices_Index_string : cfg.P.funcs[i_slices_Index_string]? = some P_slices_Index_string := by kernel_rfl
noncomputable abbrev P_impl_node_carets : Func := Try.f170
theorem get_impl_node_carets : cfg.P.funcs[i_impl_node_carets]? = some P_impl_node_carets := by kernel_rfl
noncomputable abbrev P_spec_trIs : Func := Try.f171
theorem get_spec_trIs : cfg.P.funcs[i_spec_trIs]? = some P_spec_trIs := by kernel_rfl
noncomputable abbrev P_spec_trCarets : Func := Try.f172
theorem get_spec_trCarets : cfg.P.funcs[i_spec_trCarets]? = some P_spec_trCarets := by kernel_rfl
noncomputable abbrev P_impl_told : Func := Try.f173
theorem get_impl_told : cfg.P.funcs[i_impl_told]? = some P_impl_told := by kernel_rfl
noncomputable abbrev P_impl_join : Func := Try.f174
theorem get_impl_join : cfg.P.funcs[i_impl_join]? = some P_impl_join := by kernel_rfl
noncomputable abbrev P_spec_trJoin : Func := Try.f175
theorem get_spec_trJoin : cfg.P.funcs[i_spec_trJoin]? = some P_spec_trJoin := by kernel_rfl
noncomputable abbrev P_impl_common : Func := Try.f176
theorem get_impl_common : cfg.P.funcs[i_impl_common]? = some P_impl_common := by kernel_rfl
noncomputable abbrev P_spec_trCommon : Func := Try.f177
theorem get_spec_trCommon : cfg.P.funcs[i_spec_trCommon]? = some P_spec_trCommon := by kernel_rfl
noncomputable abbrev P_impl_isPart : Func := Try.f178
theorem get_impl_isPart : cfg.P.funcs[i_impl_isPart]? = some P_impl_isPart := by kernel_rfl
noncomputable abbrev P_spec_trGraft : Func := Try.f179
theorem get_spec_trGraft : cfg.P.funcs[i_spec_trGraft]? = some P_spec_trGraft := by kernel_rfl
noncomputable abbrev P_spec_l1Cur_of : Func := Try.f180
theorem get_spec_l1Cur_of : cfg.P.funcs[i_spec_l1Cur_of]? = some P_spec_l1Cur_of := by kernel_rfl
noncomputable abbrev P_spec_trAddresses : Func := Try.f181
theorem get_spec_trAddresses : cfg.P.funcs[i_spec_trAddresses]? = some P_spec_trAddresses := by kernel_rfl
noncomputable abbrev P_impl_node_at : Func := Try.f182
theorem get_impl_node_at : cfg.P.funcs[i_impl_node_at]? = some P_impl_node_at := by kernel_rfl
noncomputable abbrev P_spec_trAt : Func := Try.f183
theorem get_spec_trAt : cfg.P.funcs[i_spec_trAt]? = some P_spec_trAt := by kernel_rfl
noncomputable abbrev P_impl_hasLeaf : Func := Try.f184
theorem get_impl_hasLeaf : cfg.P.funcs[i_impl_hasLeaf]? = some P_impl_hasLeaf := by kernel_rfl
noncomputable abbrev P_impl_node_graft : Func := Try.f185
theorem get_impl_node_graft : cfg.P.funcs[i_impl_node_graft]? = some P_impl_node_graft := by kernel_rfl
noncomputable abbrev P_spec_trLeaves : Func := Try.f186
theorem get_spec_trLeaves : cfg.P.funcs[i_spec_trLeaves]? = some P_spec_trLeaves := by kernel_rfl
noncomputable abbrev P_impl_node_addresses : Func := Try.f187
theorem get_impl_node_addresses : cfg.P.funcs[i_impl_node_addresses]? = some P_impl_node_addresses := by kernel_rfl
noncomputable abbrev P_impl_node_kinds : Func := Try.f188
theorem get_impl_node_kinds : cfg.P.funcs[i_impl_node_kinds]? = some P_impl_node_kinds := by kernel_rfl
noncomputable abbrev P_spec_lnKinds : Func := Try.f189
theorem get_spec_lnKinds : cfg.P.funcs[i_spec_lnKinds]? = some P_spec_lnKinds := by kernel_rfl
noncomputable abbrev P_impl_pairOf : Func := Try.f190
theorem get_impl_pairOf : cfg.P.funcs[i_impl_pairOf]? = some P_impl_pairOf := by kernel_rfl
noncomputable abbrev P_impl_pair_length : Func := Try.f191
theorem get_impl_pair_length : cfg.P.funcs[i_impl_pair_length]? = some P_impl_pair_length := by kernel_rfl
noncomputable abbrev P_spec_lnTable : Func := Try.f192
theorem get_spec_lnTable : cfg.P.funcs[i_spec_lnTable]? = some P_spec_lnTable := by kernel_rfl
noncomputable abbrev P_impl_node_exponents : Func := Try.f193
theorem get_impl_node_exponents : cfg.P.funcs[i_impl_node_exponents]? = some P_impl_node_exponents := by kernel_rfl
noncomputable abbrev P_spec_wdRight : Func := Try.f194
theorem get_spec_wdRight : cfg.P.funcs[i_spec_wdRight]? = some P_spec_wdRight := by kernel_rfl
noncomputable abbrev P_impl_madeWord : Func := Try.f195
theorem get_impl_madeWord : cfg.P.funcs[i_impl_madeWord]? = some P_impl_madeWord := by kernel_rfl
noncomputable abbrev P_impl_wordOfPair : Func := Try.f196
theorem get_impl_wordOfPair : cfg.P.funcs[i_impl_wordOfPair]? = some P_impl_wordOfPair := by kernel_rfl
noncomputable abbrev P_impl_pair_reduced : Func := Try.f197
theorem get_impl_pair_reduced : cfg.P.funcs[i_impl_pair_reduced]? = some P_impl_pair_reduced := by kernel_rfl
noncomputable abbrev P_spec_l1Own : Func := Try.f198
theorem get_spec_l1Own : cfg.P.funcs[i_spec_l1Own]? = some P_spec_l1Own := by kernel_rfl
noncomputable abbrev P_impl_forest_split : Func := Try.f199
theorem get_impl_forest_split : cfg.P.funcs[i_impl_forest_split]? = some P_impl_forest_split := by kernel_rfl
noncomputable abbrev P_impl_forest_hung : Func := Try.f200
theorem get_impl_forest_hung : cfg.P.funcs[i_impl_forest_hung]? = some P_impl_forest_hung := by kernel_rfl
noncomputable abbrev P_spec_l1All : Func := Try.f201
theorem get_spec_l1All : cfg.P.funcs[i_spec_l1All]? = some P_spec_l1All := by kernel_rfl
noncomputable abbrev P_spec_wdComb : Func := Try.f202
theorem get_spec_wdComb : cfg.P.funcs[i_spec_wdComb]? = some P_spec_wdComb := by kernel_rfl
noncomputable abbrev P_spec_wdShort : Func := Try.f203
theorem get_spec_wdShort : cfg.P.funcs[i_spec_wdShort]? = some P_spec_wdShort := by kernel_rfl
noncomputable abbrev P_spec_wdForest : Func := Try.f204
theorem get_spec_wdForest : cfg.P.funcs[i_spec_wdForest]? = some P_spec_wdForest := by kernel_rfl
noncomputable abbrev P_spec_DrawIsTree : Func := Try.f205
theorem get_spec_DrawIsTree : cfg.P.funcs[i_spec_DrawIsTree]? = some P_spec_DrawIsTree := by kernel_rfl
noncomputable abbrev P_impl_node_exposed : Func := Try.f206
theorem get_impl_node_exposed : cfg.P.funcs[i_impl_node_exposed]? = some P_impl_node_exposed := by kernel_rfl
noncomputable abbrev P_spec_trExposed : Func := Try.f207
theorem get_spec_trExposed : cfg.P.funcs[i_spec_trExposed]? = some P_spec_trExposed := by kernel_rfl
noncomputable abbrev P_impl_treeWith : Func := Try.f208
theorem get_impl_treeWith : cfg.P.funcs[i_impl_treeWith]? = some P_impl_treeWith := by kernel_rfl
noncomputable abbrev P_slices_Contains : Func := Try.f209
theorem get_slices_Contains : cfg.P.funcs[i_slices_Contains]? = some P_slices_Contains := by kernel_rfl
noncomputable abbrev P_impl_node_without : Func := Try.f210
theorem get_impl_node_without : cfg.P.funcs[i_impl_node_without]? = some P_impl_node_without := by kernel_rfl
noncomputable abbrev P_spec_l1Cur_sureTree : Func := Try.f211
theorem get_spec_l1Cur_sureTree : cfg.P.funcs[i_spec_l1Cur_sureTree]? = some P_spec_l1Cur_sureTree := by kernel_rfl
noncomputable abbrev P_spec_trWith : Func := Try.f212
theorem get_spec_trWith : cfg.P.funcs[i_spec_trWith]? = some P_spec_trWith := by kernel_rfl
noncomputable abbrev P_spec_l1Has : Func := Try.f213
theorem get_spec_l1Has : cfg.P.funcs[i_spec_l1Has]? = some P_spec_l1Has := by kernel_rfl
noncomputable abbrev P_spec_trDrop : Func := Try.f214
theorem get_spec_trDrop : cfg.P.funcs[i_spec_trDrop]? = some P_spec_trDrop := by kernel_rfl
noncomputable abbrev P_spec_l1Cur_pair : Func := Try.f215
theorem get_spec_l1Cur_pair : cfg.P.funcs[i_spec_l1Cur_pair]? = some P_spec_l1Cur_pair := by kernel_rfl
noncomputable abbrev P_impl_two : Func := Try.f216
theorem get_impl_two : cfg.P.funcs[i_impl_two]? = some P_impl_two := by kernel_rfl
noncomputable abbrev P_impl_pair_times : Func := Try.f217
theorem get_impl_pair_times : cfg.P.funcs[i_impl_pair_times]? = some P_impl_pair_times := by kernel_rfl
noncomputable abbrev P_impl_pair_fits : Func := Try.f218
theorem get_impl_pair_fits : cfg.P.funcs[i_impl_pair_fits]? = some P_impl_pair_fits := by kernel_rfl
noncomputable abbrev P_spec_prGood : Func := Try.f219
theorem get_spec_prGood : cfg.P.funcs[i_spec_prGood]? = some P_spec_prGood := by kernel_rfl
noncomputable abbrev P_spec_prIf : Func := Try.f220
theorem get_spec_prIf : cfg.P.funcs[i_spec_prIf]? = some P_spec_prIf := by kernel_rfl
noncomputable abbrev P_spec_prTimes : Func := Try.f221
theorem get_spec_prTimes : cfg.P.funcs[i_spec_prTimes]? = some P_spec_prTimes := by kernel_rfl
noncomputable abbrev P_impl_pair_inverse : Func := Try.f222
theorem get_impl_pair_inverse : cfg.P.funcs[i_impl_pair_inverse]? = some P_impl_pair_inverse := by kernel_rfl
noncomputable abbrev P_impl_pair_plain : Func := Try.f223
theorem get_impl_pair_plain : cfg.P.funcs[i_impl_pair_plain]? = some P_impl_pair_plain := by kernel_rfl
noncomputable abbrev P_impl_pair_both : Func := Try.f224
theorem get_impl_pair_both : cfg.P.funcs[i_impl_pair_both]? = some P_impl_pair_both := by kernel_rfl
noncomputable abbrev P_impl_pair_power : Func := Try.f225
theorem get_impl_pair_power : cfg.P.funcs[i_impl_pair_power]? = some P_impl_pair_power := by kernel_rfl
noncomputable abbrev P_spec_prInverse : Func := Try.f226
theorem get_spec_prInverse : cfg.P.funcs[i_spec_prInverse]? = some P_spec_prInverse := by kernel_rfl
noncomputable abbrev P_spec_prUnit : Func := Try.f227
theorem get_spec_prUnit : cfg.P.funcs[i_spec_prUnit]? = some P_spec_prUnit := by kernel_rfl
noncomputable abbrev P_impl_EndSlopes : Func := Try.f228
theorem get_impl_EndSlopes : cfg.P.funcs[i_impl_EndSlopes]? = some P_impl_EndSlopes := by kernel_rfl
noncomputable abbrev P_spec_l1Cur_forest : Func := Try.f229
theorem get_spec_l1Cur_forest : cfg.P.funcs[i_spec_l1Cur_forest]? = some P_spec_l1Cur_forest := by kernel_rfl
noncomputable abbrev P_impl_twoForests : Func := Try.f230
theorem get_impl_twoForests : cfg.P.funcs[i_impl_twoForests]? = some P_impl_twoForests := by kernel_rfl
noncomputable abbrev P_impl_forest_stack : Func := Try.f231
theorem get_impl_forest_stack : cfg.P.funcs[i_impl_forest_stack]? = some P_impl_forest_stack := by kernel_rfl
noncomputable abbrev P_impl_forest_texts : Func := Try.f232
theorem get_impl_forest_texts : cfg.P.funcs[i_impl_forest_texts]? = some P_impl_forest_texts := by kernel_rfl
noncomputable abbrev P_spec_foGood : Func := Try.f233
theorem get_spec_foGood : cfg.P.funcs[i_spec_foGood]? = some P_spec_foGood := by kernel_rfl
noncomputable abbrev P_spec_foIf : Func := Try.f234
theorem get_spec_foIf : cfg.P.funcs[i_spec_foIf]? = some P_spec_foIf := by kernel_rfl
noncomputable abbrev P_spec_foStack : Func := Try.f235
theorem get_spec_foStack : cfg.P.funcs[i_spec_foStack]? = some P_spec_foStack := by kernel_rfl
noncomputable abbrev P_impl_forestOf : Func := Try.f236
theorem get_impl_forestOf : cfg.P.funcs[i_impl_forestOf]? = some P_impl_forestOf := by kernel_rfl
noncomputable abbrev P_impl_forest_carets : Func := Try.f237
theorem get_impl_forest_carets : cfg.P.funcs[i_impl_forest_carets]? = some P_impl_forest_carets := by kernel_rfl
noncomputable abbrev P_impl_isPartOf : Func := Try.f238
theorem get_impl_isPartOf : cfg.P.funcs[i_impl_isPartOf]? = some P_impl_isPartOf := by kernel_rfl
noncomputable abbrev P_impl_forest_tree : Func := Try.f239
theorem get_impl_forest_tree : cfg.P.funcs[i_impl_forest_tree]? = some P_impl_forest_tree := by kernel_rfl
noncomputable abbrev P_impl_forest_pair : Func := Try.f240
theorem get_impl_forest_pair : cfg.P.funcs[i_impl_forest_pair]? = some P_impl_forest_pair := by kernel_rfl
noncomputable abbrev P_spec_DrawIsPartOfForest : Func := Try.f241
theorem get_spec_DrawIsPartOfForest : cfg.P.funcs[i_spec_DrawIsPartOfForest]? = some P_spec_DrawIsPartOfForest := by kernel_rfl
noncomputable abbrev P_spec_foPart : Func := Try.f242
theorem get_spec_foPart : cfg.P.funcs[i_spec_foPart]? = some P_spec_foPart := by kernel_rfl
noncomputable abbrev P_spec_prParts : Func := Try.f243
theorem get_spec_prParts : cfg.P.funcs[i_spec_prParts]? = some P_spec_prParts := by kernel_rfl
noncomputable abbrev P_spec_foTree : Func := Try.f244
theorem get_spec_foTree : cfg.P.funcs[i_spec_foTree]? = some P_spec_foTree := by kernel_rfl
noncomputable abbrev P_impl_each : Func := Try.f245
theorem get_impl_each : cfg.P.funcs[i_impl_each]? = some P_impl_each := by kernel_rfl
noncomputable abbrev P_spec_DrawIsWord : Func := Try.f246
theorem get_spec_DrawIsWord : cfg.P.funcs[i_spec_DrawIsWord]? = some P_spec_DrawIsWord := by kernel_rfl
noncomputable abbrev P_impl_sort : Func := Try.f247
theorem get_impl_sort : cfg.P.funcs[i_impl_sort]? = some P_impl_sort := by kernel_rfl
noncomputable abbrev P_spec_wdGood : Func := Try.f248
theorem get_spec_wdGood : cfg.P.funcs[i_spec_wdGood]? = some P_spec_wdGood := by kernel_rfl
noncomputable abbrev P_spec_wdSort : Func := Try.f249
theorem get_spec_wdSort : cfg.P.funcs[i_spec_wdSort]? = some P_spec_wdSort := by kernel_rfl
noncomputable abbrev P_spec_wdIf : Func := Try.f250
theorem get_spec_wdIf : cfg.P.funcs[i_spec_wdIf]? = some P_spec_wdIf := by kernel_rfl
noncomputable abbrev P_impl_droppable : Func := Try.f251
theorem get_impl_droppable : cfg.P.funcs[i_impl_droppable]? = some P_impl_droppable := by kernel_rfl
noncomputable abbrev P_impl_dropped : Func := Try.f252
theorem get_impl_dropped : cfg.P.funcs[i_impl_dropped]? = some P_impl_dropped := by kernel_rfl
noncomputable abbrev P_spec_wdNormal : Func := Try.f253
theorem get_spec_wdNormal : cfg.P.funcs[i_spec_wdNormal]? = some P_spec_wdNormal := by kernel_rfl
noncomputable abbrev P_impl_IsWord : Func := Try.f254
theorem get_impl_IsWord : cfg.P.funcs[i_impl_IsWord]? = some P_impl_IsWord := by kernel_rfl
noncomputable abbrev P_impl_stepped : Func := Try.f255
theorem get_impl_stepped : cfg.P.funcs[i_impl_stepped]? = some P_impl_stepped := by kernel_rfl
noncomputable abbrev P_impl_sums : Func := Try.f256
theorem get_impl_sums : cfg.P.funcs[i_impl_sums]? = some P_impl_sums := by kernel_rfl
noncomputable abbrev P_spec_wdStep : Func := Try.f257
theorem get_spec_wdStep : cfg.P.funcs[i_spec_wdStep]? = some P_spec_wdStep := by kernel_rfl
noncomputable abbrev P_impl_pairOfWord : Func := Try.f258
theorem get_impl_pairOfWord : cfg.P.funcs[i_impl_pairOfWord]? = some P_impl_pairOfWord := by kernel_rfl
noncomputable abbrev P_spec_l1Cur_letters : Func := Try.f259
theorem get_spec_l1Cur_letters : cfg.P.funcs[i_spec_l1Cur_letters]? = some P_spec_l1Cur_letters := by kernel_rfl
noncomputable abbrev P_impl_sorted : Func := Try.f260
theorem get_impl_sorted : cfg.P.funcs[i_impl_sorted]? = some P_impl_sorted := by kernel_rfl
noncomputable abbrev P_spec_wdSorted : Func := Try.f261
theorem get_spec_wdSorted : cfg.P.funcs[i_spec_wdSorted]? = some P_spec_wdSorted := by kernel_rfl
noncomputable abbrev P_spec_wdDrop : Func := Try.f262
theorem get_spec_wdDrop : cfg.P.funcs[i_spec_wdDrop]? = some P_spec_wdDrop := by kernel_rfl
noncomputable abbrev P_spec_l1Cur_sureWord : Func := Try.f263
theorem get_spec_l1Cur_sureWord : cfg.P.funcs[i_spec_l1Cur_sureWord]? = some P_spec_l1Cur_sureWord := by kernel_rfl
noncomputable abbrev P_impl_freely : Func := Try.f264
theorem get_impl_freely : cfg.P.funcs[i_impl_freely]? = some P_impl_freely := by kernel_rfl
noncomputable abbrev P_spec_wdFree : Func := Try.f265
theorem get_spec_wdFree : cfg.P.funcs[i_spec_wdFree]? = some P_spec_wdFree := by kernel_rfl
noncomputable abbrev P_spec_l1Cur_choices : Func := Try.f266
theorem get_spec_l1Cur_choices : cfg.P.funcs[i_spec_l1Cur_choices]? = some P_spec_l1Cur_choices := by kernel_rfl
noncomputable abbrev P_spec_l1Cur_loose : Func := Try.f267
theorem get_spec_l1Cur_loose : cfg.P.funcs[i_spec_l1Cur_loose]? = some P_spec_l1Cur_loose := by kernel_rfl
noncomputable abbrev P_impl_pair_drop : Func := Try.f268
theorem get_impl_pair_drop : cfg.P.funcs[i_impl_pair_drop]? = some P_impl_pair_drop := by kernel_rfl
noncomputable abbrev P_spec_prChoices : Func := Try.f269
theorem get_spec_prChoices : cfg.P.funcs[i_spec_prChoices]? = some P_spec_prChoices := by kernel_rfl
noncomputable abbrev P_spec_prReduce : Func := Try.f270
theorem get_spec_prReduce : cfg.P.funcs[i_spec_prReduce]? = some P_spec_prReduce := by kernel_rfl
noncomputable abbrev P_spec_prLeaf : Func := Try.f271
theorem get_spec_prLeaf : cfg.P.funcs[i_spec_prLeaf]? = some P_spec_prLeaf := by kernel_rfl
noncomputable abbrev P_spec_l1Cur_choices0 : Func := Try.f272
theorem get_spec_l1Cur_choices0 : cfg.P.funcs[i_spec_l1Cur_choices0]? = some P_spec_l1Cur_choices0 := by kernel_rfl
noncomputable abbrev P_impl_pair_same : Func := Try.f273
theorem get_impl_pair_same : cfg.P.funcs[i_impl_pair_same]? = some P_impl_pair_same := by kernel_rfl
noncomputable abbrev P_spec_prBoth : Func := Try.f274
theorem get_spec_prBoth : cfg.P.funcs[i_spec_prBoth]? = some P_spec_prBoth := by kernel_rfl
noncomputable abbrev P_spec_prText : Func := Try.f275
theorem get_spec_prText : cfg.P.funcs[i_spec_prText]? = some P_spec_prText := by kernel_rfl
noncomputable abbrev P_spec_l1Cur_surePair : Func := Try.f276
theorem get_spec_l1Cur_surePair : cfg.P.funcs[i_spec_l1Cur_surePair]? = some P_spec_l1Cur_surePair := by kernel_rfl
noncomputable abbrev P_spec_l1Cur_spoilt : Func := Try.f277
theorem get_spec_l1Cur_spoilt : cfg.P.funcs[i_spec_l1Cur_spoilt]? = some P_spec_l1Cur_spoilt := by kernel_rfl
noncomputable abbrev P_strings_Cut : Func := Try.f278
theorem get_strings_Cut : cfg.P.funcs[i_strings_Cut]? = some P_strings_Cut := by kernel_rfl
noncomputable abbrev P_spec_prParse : Func := Try.f279
theorem get_spec_prParse : cfg.P.funcs[i_spec_prParse]? = some P_spec_prParse := by kernel_rfl
noncomputable abbrev P_slices_ContainsFunc : Func := Try.f280
theorem get_slices_ContainsFunc : cfg.P.funcs[i_slices_ContainsFunc]? = some P_slices_ContainsFunc := by kernel_rfl
noncomputable abbrev P_impl_pair_moved : Func := Try.f281
theorem get_impl_pair_moved : cfg.P.funcs[i_impl_pair_moved]? = some P_impl_pair_moved := by kernel_rfl
noncomputable abbrev P_impl_AreApart_k1 : Func := Try.f282
theorem get_impl_AreApart_k1 : cfg.P.funcs[i_impl_AreApart_k1]? = some P_impl_AreApart_k1 := by kernel_rfl
noncomputable abbrev P_impl_AreApart_k1_k1 : Func := Try.f283
theorem get_impl_AreApart_k1_k1 : cfg.P.funcs[i_impl_AreApart_k1_k1]? = some P_impl_AreApart_k1_k1 := by kernel_rfl
noncomputable abbrev P_impl_Ratio_less : Func := Try.f284
theorem get_impl_Ratio_less : cfg.P.funcs[i_impl_Ratio_less]? = some P_impl_Ratio_less := by kernel_rfl
noncomputable abbrev P_spec_obMoved : Func := Try.f285
theorem get_spec_obMoved : cfg.P.funcs[i_spec_obMoved]? = some P_spec_obMoved := by kernel_rfl
noncomputable abbrev P_spec_obLess : Func := Try.f286
theorem get_spec_obLess : cfg.P.funcs[i_spec_obLess]? = some P_spec_obLess := by kernel_rfl
noncomputable abbrev P_impl_pair_text : Func := Try.f287
theorem get_impl_pair_text : cfg.P.funcs[i_impl_pair_text]? = some P_impl_pair_text := by kernel_rfl
noncomputable abbrev P_spec_l1Cur_apart : Func := Try.f288
theorem get_spec_l1Cur_apart : cfg.P.funcs[i_spec_l1Cur_apart]? = some P_spec_l1Cur_apart := by kernel_rfl
noncomputable abbrev P_spec_l1Cur_next : Func := Try.f289
theorem get_spec_l1Cur_next : cfg.P.funcs[i_spec_l1Cur_next]? = some P_spec_l1Cur_next := by kernel_rfl
noncomputable abbrev P_slices_Sort : Func := Try.f290
theorem get_slices_Sort : cfg.P.funcs[i_slices_Sort]? = some P_slices_Sort := by kernel_rfl
noncomputable abbrev P_spec_trOf : Func := Try.f291
theorem get_spec_trOf : cfg.P.funcs[i_spec_trOf]? = some P_spec_trOf := by kernel_rfl
noncomputable abbrev P_impl_read : Func := Try.f292
theorem get_impl_read : cfg.P.funcs[i_impl_read]? = some P_impl_read := by kernel_rfl
noncomputable abbrev P_spec_trLeaf : Func := Try.f293
theorem get_spec_trLeaf : cfg.P.funcs[i_spec_trLeaf]? = some P_spec_trLeaf := by kernel_rfl
noncomputable abbrev P_spec_trSides : Func := Try.f294
theorem get_spec_trSides : cfg.P.funcs[i_spec_trSides]? = some P_spec_trSides := by kernel_rfl
noncomputable abbrev P_spec_trEnd : Func := Try.f295
theorem get_spec_trEnd : cfg.P.funcs[i_spec_trEnd]? = some P_spec_trEnd := by kernel_rfl
noncomputable abbrev P_impl_node_leaves : Func := Try.f296
theorem get_impl_node_leaves : cfg.P.funcs[i_impl_node_leaves]? = some P_impl_node_leaves := by kernel_rfl
noncomputable abbrev P_impl_node_grown : Func := Try.f297
theorem get_impl_node_grown : cfg.P.funcs[i_impl_node_grown]? = some P_impl_node_grown := by kernel_rfl
noncomputable abbrev P_impl_node_graft_k1 : Func := Try.f298
theorem get_impl_node_graft_k1 : cfg.P.funcs[i_impl_node_graft_k1]? = some P_impl_node_graft_k1 := by kernel_rfl
noncomputable abbrev P_impl_node_marks : Func := Try.f299
theorem get_impl_node_marks : cfg.P.funcs[i_impl_node_marks]? = some P_impl_node_marks := by kernel_rfl
noncomputable abbrev P_slices_ContainsFunc_loopexampleg01161implmark : Func := Try.f300
theorem get_slices_ContainsFunc_loopexampleg01161implmark : cfg.P.funcs[i_slices_ContainsFunc_loopexampleg01161implmark]? = some P_slices_ContainsFunc_loopexampleg01161implmark := by kernel_rfl
noncomputable abbrev P_impl_node_kinds_k1 : Func := Try.f301
theorem get_impl_node_kinds_k1 : cfg.P.funcs[i_impl_node_kinds_k1]? = some P_impl_node_kinds_k1 := by kernel_rfl
noncomputable abbrev P_spec_lnLeft : Func := Try.f302
theorem get_spec_lnLeft : cfg.P.funcs[i_spec_lnLeft]? = some P_spec_lnLeft := by kernel_rfl
noncomputable abbrev P_spec_lnRight : Func := Try.f303
theorem get_spec_lnRight : cfg.P.funcs[i_spec_lnRight]? = some P_spec_lnRight := by kernel_rfl
noncomputable abbrev P_spec_lnRow : Func := Try.f304
theorem get_spec_lnRow : cfg.P.funcs[i_spec_lnRow]? = some P_spec_lnRow := by kernel_rfl
noncomputable abbrev P_impl_node_climbs : Func := Try.f305
theorem get_impl_node_climbs : cfg.P.funcs[i_impl_node_climbs]? = some P_impl_node_climbs := by kernel_rfl
noncomputable abbrev P_spec_wdExponents : Func := Try.f306
theorem get_spec_wdExponents : cfg.P.funcs[i_spec_wdExponents]? = some P_spec_wdExponents := by kernel_rfl
noncomputable abbrev P_impl_wordOf : Func := Try.f307
theorem get_impl_wordOf : cfg.P.funcs[i_impl_wordOf]? = some P_impl_wordOf := by kernel_rfl
noncomputable abbrev P_impl_inverseOf : Func := Try.f308
theorem get_impl_inverseOf : cfg.P.funcs[i_impl_inverseOf]? = some P_impl_inverseOf := by kernel_rfl
noncomputable abbrev P_impl_forest_trimmed : Func := Try.f309
theorem get_impl_forest_trimmed : cfg.P.funcs[i_impl_forest_trimmed]? = some P_impl_forest_trimmed := by kernel_rfl
noncomputable abbrev P_impl_node_put : Func := Try.f310
theorem get_impl_node_put : cfg.P.funcs[i_impl_node_put]? = some P_impl_node_put := by kernel_rfl
noncomputable abbrev P_slices_Equal : Func := Try.f311
theorem get_slices_Equal : cfg.P.funcs[i_slices_Equal]? = some P_slices_Equal := by kernel_rfl
noncomputable abbrev P_slices_Index : Func := Try.f312
theorem get_slices_Index : cfg.P.funcs[i_slices_Index]? = some P_slices_Index := by kernel_rfl
noncomputable abbrev P_spec_prGenerator : Func := Try.f313
theorem get_spec_prGenerator : cfg.P.funcs[i_spec_prGenerator]? = some P_spec_prGenerator := by kernel_rfl
noncomputable abbrev P_impl_parts : Func := Try.f314
theorem get_impl_parts : cfg.P.funcs[i_impl_parts]? = some P_impl_parts := by kernel_rfl
noncomputable abbrev P_spec_prFill : Func := Try.f315
theorem get_spec_prFill : cfg.P.funcs[i_spec_prFill]? = some P_spec_prFill := by kernel_rfl
noncomputable abbrev P_impl_pair_slopes : Func := Try.f316
theorem get_impl_pair_slopes : cfg.P.funcs[i_impl_pair_slopes]? = some P_impl_pair_slopes := by kernel_rfl
noncomputable abbrev P_spec_l1Cur_sureForest : Func := Try.f317
theorem get_spec_l1Cur_sureForest : cfg.P.funcs[i_spec_l1Cur_sureForest]? = some P_spec_l1Cur_sureForest := by kernel_rfl
noncomputable abbrev P_spec_l1Cur_forests : Func := Try.f318
theorem get_spec_l1Cur_forests : cfg.P.funcs[i_spec_l1Cur_forests]? = some P_spec_l1Cur_forests := by kernel_rfl
noncomputable abbrev P_slices_Clone : Func := Try.f319
theorem get_slices_Clone : cfg.P.funcs[i_slices_Clone]? = some P_slices_Clone := by kernel_rfl
noncomputable abbrev P_spec_wdIs : Func := Try.f320
theorem get_spec_wdIs : cfg.P.funcs[i_spec_wdIs]? = some P_spec_wdIs := by kernel_rfl
noncomputable abbrev P_impl_isLetter : Func := Try.f321
theorem get_impl_isLetter : cfg.P.funcs[i_impl_isLetter]? = some P_impl_isLetter := by kernel_rfl
noncomputable abbrev P_impl_rule : Func := Try.f322
theorem get_impl_rule : cfg.P.funcs[i_impl_rule]? = some P_impl_rule := by kernel_rfl
noncomputable abbrev P_impl_size : Func := Try.f323
theorem get_impl_size : cfg.P.funcs[i_impl_size]? = some P_impl_size := by kernel_rfl
noncomputable abbrev P_spec_wdRule : Func := Try.f324
theorem get_spec_wdRule : cfg.P.funcs[i_spec_wdRule]? = some P_spec_wdRule := by kernel_rfl
noncomputable abbrev P_impl_letter : Func := Try.f325
theorem get_impl_letter : cfg.P.funcs[i_impl_letter]? = some P_impl_letter := by kernel_rfl
noncomputable abbrev P_internal_stringslite_Cut : Func := Try.f326
theorem get_internal_stringslite_Cut : cfg.P.funcs[i_internal_stringslite_Cut]? = some P_internal_stringslite_Cut := by kernel_rfl
noncomputable abbrev P_spec_l1Split : Func := Try.f327
theorem get_spec_l1Split : cfg.P.funcs[i_spec_l1Split]? = some P_spec_l1Split := by kernel_rfl
noncomputable abbrev P_slices_IndexFunc : Func := Try.f328
theorem get_slices_IndexFunc : cfg.P.funcs[i_slices_IndexFunc]? = some P_slices_IndexFunc := by kernel_rfl
noncomputable abbrev P_impl_pair_fixed : Func := Try.f329
theorem get_impl_pair_fixed : cfg.P.funcs[i_impl_pair_fixed]? = some P_impl_pair_fixed := by kernel_rfl
noncomputable abbrev P_spec_obFixed : Func := Try.f330
theorem get_spec_obFixed : cfg.P.funcs[i_spec_obFixed]? = some P_spec_obFixed := by kernel_rfl
noncomputable abbrev P_slices_pdqsortOrdered : Func := Try.f331
theorem get_slices_pdqsortOrdered : cfg.P.funcs[i_slices_pdqsortOrdered]? = some P_slices_pdqsortOrdered := by kernel_rfl
noncomputable abbrev P_math_bits_Len : Func := Try.f332
theorem get_math_bits_Len : cfg.P.funcs[i_math_bits_Len]? = some P_math_bits_Len := by kernel_rfl
noncomputable abbrev P_slices_IndexFunc_loopexampleg01161implmark : Func := Try.f333
theorem get_slices_IndexFunc_loopexampleg01161implmark : cfg.P.funcs[i_slices_IndexFunc_loopexampleg01161implmark]? = some P_slices_IndexFunc_loopexampleg01161implmark := by kernel_rfl
noncomputable abbrev P_spec_lnInner : Func := Try.f334
theorem get_spec_lnInner : cfg.P.funcs[i_spec_lnInner]? = some P_spec_lnInner := by kernel_rfl
noncomputable abbrev P_impl_parts_k1 : Func := Try.f335
theorem get_impl_parts_k1 : cfg.P.funcs[i_impl_parts_k1]? = some P_impl_parts_k1 := by kernel_rfl
noncomputable abbrev P_impl_pair_pieces : Func := Try.f336
theorem get_impl_pair_pieces : cfg.P.funcs[i_impl_pair_pieces]? = some P_impl_pair_pieces := by kernel_rfl
noncomputable abbrev P_impl_piece_slope : Func := Try.f337
theorem get_impl_piece_slope : cfg.P.funcs[i_impl_piece_slope]? = some P_impl_piece_slope := by kernel_rfl
noncomputable abbrev P_spec_l1Least : Func := Try.f338
theorem get_spec_l1Least : cfg.P.funcs[i_spec_l1Least]? = some P_spec_l1Least := by kernel_rfl
noncomputable abbrev P_impl_generator : Func := Try.f339
theorem get_impl_generator : cfg.P.funcs[i_impl_generator]? = some P_impl_generator := by kernel_rfl
noncomputable abbrev P_internal_stringslite_Index : Func := Try.f340
theorem get_internal_stringslite_Index : cfg.P.funcs[i_internal_stringslite_Index]? = some P_internal_stringslite_Index := by kernel_rfl
noncomputable abbrev P_impl_piece_fixedIn : Func := Try.f341
theorem get_impl_piece_fixedIn : cfg.P.funcs[i_impl_piece_fixedIn]? = some P_impl_piece_fixedIn := by kernel_rfl
noncomputable abbrev P_spec_mpOf : Func := Try.f342
theorem get_spec_mpOf : cfg.P.funcs[i_spec_mpOf]? = some P_spec_mpOf := by kernel_rfl
noncomputable abbrev P_spec_obRatio : Func := Try.f343
theorem get_spec_obRatio : cfg.P.funcs[i_spec_obRatio]? = some P_spec_obRatio := by kernel_rfl
noncomputable abbrev P_slices_insertionSortOrdered : Func := Try.f344
theorem get_slices_insertionSortOrdered : cfg.P.funcs[i_slices_insertionSortOrdered]? = some P_slices_insertionSortOrdered := by kernel_rfl
noncomputable abbrev P_slices_heapSortOrdered : Func := Try.f345
theorem get_slices_heapSortOrdered : cfg.P.funcs[i_slices_heapSortOrdered]? = some P_slices_heapSortOrdered := by kernel_rfl
noncomputable abbrev P_slices_breakPatternsOrdered : Func := Try.f346
theorem get_slices_breakPatternsOrdered : cfg.P.funcs[i_slices_breakPatternsOrdered]? = some P_slices_breakPatternsOrdered := by kernel_rfl
noncomputable abbrev P_slices_choosePivotOrdered : Func := Try.f347
theorem get_slices_choosePivotOrdered : cfg.P.funcs[i_slices_choosePivotOrdered]? = some P_slices_choosePivotOrdered := by kernel_rfl
noncomputable abbrev P_slices_reverseRangeOrdered : Func := Try.f348
theorem get_slices_reverseRangeOrdered : cfg.P.funcs[i_slices_reverseRangeOrdered]? = some P_slices_reverseRangeOrdered := by kernel_rfl
noncomputable abbrev P_slices_partialInsertionSortOrdered : Func := Try.f349
theorem get_slices_partialInsertionSortOrdered : cfg.P.funcs[i_slices_partialInsertionSortOrdered]? = some P_slices_partialInsertionSortOrdered := by kernel_rfl
noncomputable abbrev P_cmp_Less : Func := Try.f350
theorem get_cmp_Less : cfg.P.funcs[i_cmp_Less]? = some P_cmp_Less := by kernel_rfl
noncomputable abbrev P_slices_partitionEqualOrdered : Func := Try.f351
theorem get_slices_partitionEqualOrdered : cfg.P.funcs[i_slices_partitionEqualOrdered]? = some P_slices_partitionEqualOrdered := by kernel_rfl
noncomputable abbrev P_slices_partitionOrdered : Func := Try.f352
theorem get_slices_partitionOrdered : cfg.P.funcs[i_slices_partitionOrdered]? = some P_slices_partitionOrdered := by kernel_rfl
noncomputable abbrev P_impl_placeOf : Func := Try.f355
theorem get_impl_placeOf : cfg.P.funcs[i_impl_placeOf]? = some P_impl_placeOf := by kernel_rfl
noncomputable abbrev P_internal_stringslite_IndexByte : Func := Try.f356
theorem get_internal_stringslite_IndexByte : cfg.P.funcs[i_internal_stringslite_IndexByte]? = some P_internal_stringslite_IndexByte := by kernel_rfl
noncomputable abbrev P_internal_bytealg_Cutover : Func := Try.f358
theorem get_internal_bytealg_Cutover : cfg.P.funcs[i_internal_bytealg_Cutover]? = some P_internal_bytealg_Cutover := by kernel_rfl
noncomputable abbrev P_internal_bytealg_IndexRabinKarp : Func := Try.f359
theorem get_internal_bytealg_IndexRabinKarp : cfg.P.funcs[i_internal_bytealg_IndexRabinKarp]? = some P_internal_bytealg_IndexRabinKarp := by kernel_rfl
noncomputable abbrev P_impl_short : Func := Try.f360
theorem get_impl_short : cfg.P.funcs[i_impl_short]? = some P_impl_short := by kernel_rfl
noncomputable abbrev P_impl_piece_end : Func := Try.f361
theorem get_impl_piece_end : cfg.P.funcs[i_impl_piece_end]? = some P_impl_piece_end := by kernel_rfl
noncomputable abbrev P_impl_ratio : Func := Try.f362
theorem get_impl_ratio : cfg.P.funcs[i_impl_ratio]? = some P_impl_ratio := by kernel_rfl
noncomputable abbrev P_spec_mpShort : Func := Try.f363
theorem get_spec_mpShort : cfg.P.funcs[i_spec_mpShort]? = some P_spec_mpShort := by kernel_rfl
noncomputable abbrev P_spec_mpGcd : Func := Try.f364
theorem get_spec_mpGcd : cfg.P.funcs[i_spec_mpGcd]? = some P_spec_mpGcd := by kernel_rfl
noncomputable abbrev P_spec_l1Abs : Func := Try.f365
theorem get_spec_l1Abs : cfg.P.funcs[i_spec_l1Abs]? = some P_spec_l1Abs := by kernel_rfl
noncomputable abbrev P_slices_siftDownOrdered : Func := Try.f366
theorem get_slices_siftDownOrdered : cfg.P.funcs[i_slices_siftDownOrdered]? = some P_slices_siftDownOrdered := by kernel_rfl
noncomputable abbrev P_slices_nextPowerOfTwo : Func := Try.f367
theorem get_slices_nextPowerOfTwo : cfg.P.funcs[i_slices_nextPowerOfTwo]? = some P_slices_nextPowerOfTwo := by kernel_rfl
noncomputable abbrev P_slices_xorshift_Next : Func := Try.f368
theorem get_slices_xorshift_Next : cfg.P.funcs[i_slices_xorshift_Next]? = some P_slices_xorshift_Next := by kernel_rfl
noncomputable abbrev P_slices_medianAdjacentOrdered : Func := Try.f369
theorem get_slices_medianAdjacentOrdered : cfg.P.funcs[i_slices_medianAdjacentOrdered]? = some P_slices_medianAdjacentOrdered := by kernel_rfl
noncomputable abbrev P_slices_medianOrdered : Func := Try.f370
theorem get_slices_medianOrdered : cfg.P.funcs[i_slices_medianOrdered]? = some P_slices_medianOrdered := by kernel_rfl
noncomputable abbrev P_cmp_isNaN : Func := Try.f371
theorem get_cmp_isNaN : cfg.P.funcs[i_cmp_isNaN]? = some P_cmp_isNaN := by kernel_rfl
noncomputable abbrev P_internal_bytealg_hashStr : Func := Try.f373
theorem get_internal_bytealg_hashStr : cfg.P.funcs[i_internal_bytealg_hashStr]? = some P_internal_bytealg_hashStr := by kernel_rfl
noncomputable abbrev P_spec_l1Most : Func := Try.f374
theorem get_spec_l1Most : cfg.P.funcs[i_spec_l1Most]? = some P_spec_l1Most := by kernel_rfl
noncomputable abbrev P_slices_order2Ordered : Func := Try.f375
theorem get_slices_order2Ordered : cfg.P.funcs[i_slices_order2Ordered]? = some P_slices_order2Ordered := by kernel_rfl
end Go.AI
