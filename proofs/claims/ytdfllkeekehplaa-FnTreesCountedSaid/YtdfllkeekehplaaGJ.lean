/- A part of the road: what it proves stands in its last texts. -/
import Derived.Test.YtdfllkeekehplaaSIds
import Derived.Test.YtdfllkeekehplaaAiI
import Derived.Test.YtdfllkeekehplaaProg
set_option autoImplicit false
set_option maxRecDepth 100000
set_option linter.unusedVariables false
namespace Go.AI
open Go.Proofs

/-! ### laws_FnTreesCounted -/


def laws_FnTreesCounted_C0a (x0 : (List Int)) (x1 : (List Int)) : St := mkSt 302 [(0, .s (.v (.sl (.int .u8)) x0)), (1, .s (.v (.sl (.int .u8)) x1))] []

def laws_FnTreesCounted_R1 (y4 : Bool) : St := mkSt 302 [(4, .s (.v .bool y4))] []

def laws_FnTreesCounted_C3a (x0 : (List Int)) (x1 : (List Int)) (x50 : Bool) : St := mkSt 302 [(0, .s (.v (.sl (.int .u8)) x0)), (1, .s (.v (.sl (.int .u8)) x1)), (50, .s (.v .bool x50))] []

def laws_FnTreesCounted_C10a (x0 : (List Int)) (x1 : (List Int)) (x6 : Int) (x7 : ByteArray) (x10 : Bool) (x109 : Bool) : St := mkSt 302 [(0, .s (.v (.sl (.int .u8)) x0)), (1, .s (.v (.sl (.int .u8)) x1)), (6, .s (.v (.int .i64) x6)), (7, .s (.v .str x7)), (10, .s (.v .bool x10)), (109, .s (.v .bool x109))] []

def laws_FnTreesCounted_C15a (x0 : (List Int)) (x1 : (List Int)) (x6 : Int) (x7 : ByteArray) (x10 : Bool) (x15 : Int) (x16 : (List ByteArray)) (x17 : Bool) (x130 : Bool) : St := mkSt 302 [(0, .s (.v (.sl (.int .u8)) x0)), (1, .s (.v (.sl (.int .u8)) x1)), (6, .s (.v (.int .i64) x6)), (7, .s (.v .str x7)), (10, .s (.v .bool x10)), (15, .s (.v (.int .i64) x15)), (16, .s (.v (.sl .str) x16)), (17, .s (.v .bool x17)), (130, .s (.v .bool x130))] []

def laws_FnTreesCounted_L0a (x0 : (List Int)) (x1 : (List Int)) (x6 : Int) (x7 : ByteArray) (x10 : Bool) (x16 : (List ByteArray)) (x180 : (List ByteArray)) (x181 : Int) (x182 : Int) : St := mkSt 302 [(0, .s (.v (.sl (.int .u8)) x0)), (1, .s (.v (.sl (.int .u8)) x1)), (6, .s (.v (.int .i64) x6)), (7, .s (.v .str x7)), (10, .s (.v .bool x10)), (16, .s (.v (.sl .str) x16)), (180, .s (.v (.sl .str) x180)), (181, .s (.v (.int .i64) x181)), (182, .s (.v (.int .i64) x182))] []

def laws_FnTreesCounted_L0X2 (y0 : (List Int)) (y1 : (List Int)) (y6 : Int) (y7 : ByteArray) (y10 : Bool) (y16 : (List ByteArray)) (y180 : (List ByteArray)) (y181 : Int) (y182 : Int) (y183 : Bool) : St := mkSt 302 [(0, .s (.v (.sl (.int .u8)) y0)), (1, .s (.v (.sl (.int .u8)) y1)), (6, .s (.v (.int .i64) y6)), (7, .s (.v .str y7)), (10, .s (.v .bool y10)), (16, .s (.v (.sl .str) y16)), (180, .s (.v (.sl .str) y180)), (181, .s (.v (.int .i64) y181)), (182, .s (.v (.int .i64) y182)), (183, .s (.v .bool y183))] []

def laws_FnTreesCounted_C17a (x0 : (List Int)) (x1 : (List Int)) (x6 : Int) (x7 : ByteArray) (x10 : Bool) (x16 : (List ByteArray)) (x180 : (List ByteArray)) (x181 : Int) (x182 : Int) (x183 : Bool) : St := mkSt 302 [(0, .s (.v (.sl (.int .u8)) x0)), (1, .s (.v (.sl (.int .u8)) x1)), (6, .s (.v (.int .i64) x6)), (7, .s (.v .str x7)), (10, .s (.v .bool x10)), (16, .s (.v (.sl .str) x16)), (180, .s (.v (.sl .str) x180)), (181, .s (.v (.int .i64) x181)), (182, .s (.v (.int .i64) x182)), (183, .s (.v .bool x183))] []

def laws_FnTreesCounted_C17b (x0 : (List Int)) (x1 : (List Int)) (x6 : Int) (x7 : ByteArray) (x10 : Bool) (x15 : Int) (x16 : (List ByteArray)) (x131 : Bool) : St := mkSt 302 [(0, .s (.v (.sl (.int .u8)) x0)), (1, .s (.v (.sl (.int .u8)) x1)), (6, .s (.v (.int .i64) x6)), (7, .s (.v .str x7)), (10, .s (.v .bool x10)), (15, .s (.v (.int .i64) x15)), (16, .s (.v (.sl .str) x16)), (131, .s (.v .bool x131))] []

def laws_FnTreesCounted_C27a (x6 : Int) (x7 : ByteArray) (x10 : Bool) (x37 : ByteArray) (x38 : Int) (x39 : Bool) (x265 : Bool) : St := mkSt 302 [(6, .s (.v (.int .i64) x6)), (7, .s (.v .str x7)), (10, .s (.v .bool x10)), (37, .s (.v .str x37)), (38, .s (.v (.int .i64) x38)), (39, .s (.v .bool x39)), (265, .s (.v .bool x265))] []

def laws_FnTreesCounted_C29a (x6 : Int) (x7 : ByteArray) (x10 : Bool) (x288 : Bool) : St := mkSt 302 [(6, .s (.v (.int .i64) x6)), (7, .s (.v .str x7)), (10, .s (.v .bool x10)), (288, .s (.v .bool x288))] []

def laws_FnTreesCounted_C29b (x6 : Int) (x7 : ByteArray) (x10 : Bool) (x37 : ByteArray) (x38 : Int) (x266 : Bool) : St := mkSt 302 [(6, .s (.v (.int .i64) x6)), (7, .s (.v .str x7)), (10, .s (.v .bool x10)), (37, .s (.v .str x37)), (38, .s (.v (.int .i64) x38)), (266, .s (.v .bool x266))] []

def laws_FnTreesCounted_C31a (x6 : Int) (x7 : ByteArray) (x290 : Bool) : St := mkSt 302 [(6, .s (.v (.int .i64) x6)), (7, .s (.v .str x7)), (290, .s (.v .bool x290))] []

theorem laws_FnTreesCounted_L0a_i2 (x0 : (List Int)) (x1 : (List Int)) (x6 : Int) (x7 : ByteArray) (x10 : Bool) (x16 : (List ByteArray)) (x180 : (List ByteArray)) (x181 : Int) (x182 : Int)
    (h1 : x182 < x181)
    (h2 : 0 ≤ x182)
    (h3 : x182 < (List.length x180 : Int))
    (h4 : SC cfg.P i_impl_IsTree [.s (.v .str (List.getD x180 (x182).toNat (⟨#[]⟩ : ByteArray)))] (.s (.v .bool true)) [])
    (h5 : x182 > (0 : Int))
    (h6 : 0 ≤ (IntKind.wrap .i64 (x182 - (1 : Int))))
    (h7 : (IntKind.wrap .i64 (x182 - (1 : Int))) < (List.length x16 : Int))
    (h8 : (!Op.bytesLess ((List.getD x16 ((IntKind.wrap .i64 (x182 - (1 : Int)))).toNat (⟨#[]⟩ : ByteArray))).toList ((List.getD x180 (x182).toNat (⟨#[]⟩ : ByteArray))).toList) = false)
    {e : AEx} {st : St} (next : LoopSC cfg.P 2 (lb P_laws_FnTreesCounted 0) (laws_FnTreesCounted_L0a x0 x1 x6 x7 x10 x16 x180 x181 (IntKind.wrap .i64 (x182 + (1 : Int)))) e st) :
    LoopSC cfg.P 2 (lb P_laws_FnTreesCounted 0) (laws_FnTreesCounted_L0a x0 x1 x6 x7 x10 x16 x180 x181 x182) e st :=
  loop_iter cfgOK (f := i_laws_FnTreesCounted) (its := [.bool true, .res (.s (.v .bool true)) [] [] [], .bool true, .bool false])
    (ps := [decide (x182 < x181) = true,
      0 ≤ x182,
      x182 < (List.length x180 : Int),
      SC cfg.P i_impl_IsTree [.s (.v .str (List.getD x180 (x182).toNat (⟨#[]⟩ : ByteArray)))] (.s (.v .bool true)) [],
      decide (x182 > (0 : Int)) = true,
      0 ≤ (IntKind.wrap .i64 (x182 - (1 : Int))),
      (IntKind.wrap .i64 (x182 - (1 : Int))) < (List.length x16 : Int),
      (!Op.bytesLess ((List.getD x16 ((IntKind.wrap .i64 (x182 - (1 : Int)))).toNat (⟨#[]⟩ : ByteArray))).toList ((List.getD x180 (x182).toNat (⟨#[]⟩ : ByteArray))).toList) = false]) (st1 := laws_FnTreesCounted_L0a x0 x1 x6 x7 x10 x16 x180 x181 (IntKind.wrap .i64 (x182 + (1 : Int)))) (by kernel_rfl) ⟨(decide_eq_true h1), h2, h3, h4, (decide_eq_true h5), h6, h7, h8, trivial⟩ next

theorem laws_FnTreesCounted_L0a_i3 (x0 : (List Int)) (x1 : (List Int)) (x6 : Int) (x7 : ByteArray) (x10 : Bool) (x16 : (List ByteArray)) (x180 : (List ByteArray)) (x181 : Int) (x182 : Int)
    (h1 : x182 < x181)
    (h2 : 0 ≤ x182)
    (h3 : x182 < (List.length x180 : Int))
    (h4 : SC cfg.P i_impl_IsTree [.s (.v .str (List.getD x180 (x182).toNat (⟨#[]⟩ : ByteArray)))] (.s (.v .bool true)) [])
    (h5 : ¬ (x182 > (0 : Int)))
    {e : AEx} {st : St} (next : LoopSC cfg.P 2 (lb P_laws_FnTreesCounted 0) (laws_FnTreesCounted_L0a x0 x1 x6 x7 x10 x16 x180 x181 (IntKind.wrap .i64 (x182 + (1 : Int)))) e st) :
    LoopSC cfg.P 2 (lb P_laws_FnTreesCounted 0) (laws_FnTreesCounted_L0a x0 x1 x6 x7 x10 x16 x180 x181 x182) e st :=
  loop_iter cfgOK (f := i_laws_FnTreesCounted) (its := [.bool true, .res (.s (.v .bool true)) [] [] [], .bool false])
    (ps := [decide (x182 < x181) = true,
      0 ≤ x182,
      x182 < (List.length x180 : Int),
      SC cfg.P i_impl_IsTree [.s (.v .str (List.getD x180 (x182).toNat (⟨#[]⟩ : ByteArray)))] (.s (.v .bool true)) [],
      decide (x182 > (0 : Int)) = false]) (st1 := laws_FnTreesCounted_L0a x0 x1 x6 x7 x10 x16 x180 x181 (IntKind.wrap .i64 (x182 + (1 : Int)))) (by kernel_rfl) ⟨(decide_eq_true h1), h2, h3, h4, (decide_eq_false h5), trivial⟩ next

theorem laws_FnTreesCounted_L0a_x5 (x0 : (List Int)) (x1 : (List Int)) (x6 : Int) (x7 : ByteArray) (x10 : Bool) (x16 : (List ByteArray)) (x180 : (List ByteArray)) (x181 : Int) (x182 : Int)
    (h1 : ¬ (x182 < x181)) :
    LoopSC cfg.P 2 (lb P_laws_FnTreesCounted 0) (laws_FnTreesCounted_L0a x0 x1 x6 x7 x10 x16 x180 x181 x182) (.exit 0) (laws_FnTreesCounted_L0X2 x0 x1 x6 x7 x10 x16 x180 x181 x182 false) :=
  loop_out cfgOK (f := i_laws_FnTreesCounted) (its := [.bool false])
    (ps := [decide (x182 < x181) = false]) (by kernel_rfl) ⟨(decide_eq_false h1), trivial⟩ (fun h => by cases h)

theorem laws_FnTreesCounted_C0a_x1 (x0 : (List Int)) (x1 : (List Int))
    (h1 : SC cfg.P i_laws_big [.s (.v (.sl (.int .u8)) x0), .s (.v (.sl (.int .u8)) x1)] (.s (.v .bool true)) []) :
    RestSC cfg.P 2 (rest P_laws_FnTreesCounted 0) (laws_FnTreesCounted_C0a x0 x1) .ret (laws_FnTreesCounted_R1 true) :=
  rest_ret cfgOK (f := i_laws_FnTreesCounted) (k := 0) (m := 3) (its := [.res (.s (.v .bool true)) [] [] []])
    (ps := [SC cfg.P i_laws_big [.s (.v (.sl (.int .u8)) x0), .s (.v (.sl (.int .u8)) x1)] (.s (.v .bool true)) []]) (by kernel_rfl) ⟨h1, trivial⟩

theorem laws_FnTreesCounted_C0a_i2 (x0 : (List Int)) (x1 : (List Int))
    (h1 : SC cfg.P i_laws_big [.s (.v (.sl (.int .u8)) x0), .s (.v (.sl (.int .u8)) x1)] (.s (.v .bool false)) [])
    {e : AEx} {st : St} (next : RestSC cfg.P 2 (rest P_laws_FnTreesCounted 3) (laws_FnTreesCounted_C3a x0 x1 false) e st) :
    RestSC cfg.P 2 (rest P_laws_FnTreesCounted 0) (laws_FnTreesCounted_C0a x0 x1) e st :=
  rest_next cfgOK (f := i_laws_FnTreesCounted) (k := 0) (m := 3) (its := [.res (.s (.v .bool false)) [] [] []])
    (ps := [SC cfg.P i_laws_big [.s (.v (.sl (.int .u8)) x0), .s (.v (.sl (.int .u8)) x1)] (.s (.v .bool false)) []]) (st1 := laws_FnTreesCounted_C3a x0 x1 false) (by kernel_rfl) ⟨h1, trivial⟩ next

theorem laws_FnTreesCounted_C3a_i1 (x0 : (List Int)) (x1 : (List Int)) (x50 : Bool) (dc1a : Int) (dc1b : Int) (dc2a : ByteArray) (dc2b : Bool) (dc3a : ByteArray) (dc3b : Bool) (dc4a : Int) (dc5a : Int) (dc5b : Bool)
    (h1 : SC cfg.P i_spec_DrawTreeAt [.s (.v (.sl (.int .u8)) x0)] (.tup [.v (.int .i64) dc1a, .v (.int .i64) dc1b]) [])
    (h2 : SC cfg.P i_impl_TreeAt [.s (.v (.int .i64) dc1a), .s (.v (.int .i64) dc1b)] (.tup [.v .str dc2a, .v .bool dc2b]) [])
    (h3 : SC cfg.P i_spec_TreeAt [.s (.v (.int .i64) dc1a), .s (.v (.int .i64) dc1b)] (.tup [.v .str dc3a, .v .bool dc3b]) [])
    (h4 : SC cfg.P i_impl_CountTrees [.s (.v (.int .i64) dc1a)] (.tup [.v (.int .i64) dc4a, .v .bool true]) [])
    (h5 : SC cfg.P i_spec_CountTrees [.s (.v (.int .i64) dc1a)] (.tup [.v (.int .i64) dc5a, .v .bool dc5b]) [])
    (h6 : (!(dc2b == dc3b)) = false)
    (h7 : dc2a = dc3a)
    (h8 : (!(true == dc5b)) = false)
    (h9 : dc4a = dc5a)
    (h10 : dc1b ≥ (0 : Int))
    (h11 : dc1b < dc4a)
    (h12 : (!(dc2b == true)) = false)
    {e : AEx} {st : St} (next : RestSC cfg.P 2 (rest P_laws_FnTreesCounted 10) (laws_FnTreesCounted_C10a x0 x1 dc1b dc2a dc3b false) e st) :
    RestSC cfg.P 2 (rest P_laws_FnTreesCounted 3) (laws_FnTreesCounted_C3a x0 x1 x50) e st :=
  rest_next cfgOK (f := i_laws_FnTreesCounted) (k := 3) (m := 7) (its := [.res (.tup [.v (.int .i64) dc1a, .v (.int .i64) dc1b]) [] [] [], .res (.tup [.v .str dc2a, .v .bool dc2b]) [] [] [], .res (.tup [.v .str dc3a, .v .bool dc3b]) [] [] [], .res (.tup [.v (.int .i64) dc4a, .v .bool true]) [] [] [], .res (.tup [.v (.int .i64) dc5a, .v .bool dc5b]) [] [] [], .bool false, .bool false, .bool false, .bool false, .bool true, .bool true, .bool false])
    (ps := [SC cfg.P i_spec_DrawTreeAt [.s (.v (.sl (.int .u8)) x0)] (.tup [.v (.int .i64) dc1a, .v (.int .i64) dc1b]) [],
      SC cfg.P i_impl_TreeAt [.s (.v (.int .i64) dc1a), .s (.v (.int .i64) dc1b)] (.tup [.v .str dc2a, .v .bool dc2b]) [],
      SC cfg.P i_spec_TreeAt [.s (.v (.int .i64) dc1a), .s (.v (.int .i64) dc1b)] (.tup [.v .str dc3a, .v .bool dc3b]) [],
      SC cfg.P i_impl_CountTrees [.s (.v (.int .i64) dc1a)] (.tup [.v (.int .i64) dc4a, .v .bool true]) [],
      SC cfg.P i_spec_CountTrees [.s (.v (.int .i64) dc1a)] (.tup [.v (.int .i64) dc5a, .v .bool dc5b]) [],
      (!(dc2b == dc3b)) = false,
      (!((dc2a).toList == (dc3a).toList)) = false,
      (!(true == dc5b)) = false,
      (dc4a != dc5a) = false,
      decide (dc1b ≥ (0 : Int)) = true,
      decide (dc1b < dc4a) = true,
      (!(dc2b == true)) = false]) (st1 := laws_FnTreesCounted_C10a x0 x1 dc1b dc2a dc3b false) (by kernel_rfl) ⟨h1, h2, h3, h4, h5, h6, (nseq_f h7), h8, (bne_eq_false_iff_eq.mpr h9), (decide_eq_true h10), (decide_eq_true h11), h12, trivial⟩ next

theorem laws_FnTreesCounted_C3a_i2 (x0 : (List Int)) (x1 : (List Int)) (x50 : Bool) (dc1a : Int) (dc1b : Int) (dc2a : ByteArray) (dc2b : Bool) (dc3a : ByteArray) (dc3b : Bool) (dc4a : Int) (dc5a : Int) (dc5b : Bool)
    (h1 : SC cfg.P i_spec_DrawTreeAt [.s (.v (.sl (.int .u8)) x0)] (.tup [.v (.int .i64) dc1a, .v (.int .i64) dc1b]) [])
    (h2 : SC cfg.P i_impl_TreeAt [.s (.v (.int .i64) dc1a), .s (.v (.int .i64) dc1b)] (.tup [.v .str dc2a, .v .bool dc2b]) [])
    (h3 : SC cfg.P i_spec_TreeAt [.s (.v (.int .i64) dc1a), .s (.v (.int .i64) dc1b)] (.tup [.v .str dc3a, .v .bool dc3b]) [])
    (h4 : SC cfg.P i_impl_CountTrees [.s (.v (.int .i64) dc1a)] (.tup [.v (.int .i64) dc4a, .v .bool true]) [])
    (h5 : SC cfg.P i_spec_CountTrees [.s (.v (.int .i64) dc1a)] (.tup [.v (.int .i64) dc5a, .v .bool dc5b]) [])
    (h6 : (!(dc2b == dc3b)) = false)
    (h7 : dc2a = dc3a)
    (h8 : (!(true == dc5b)) = false)
    (h9 : dc4a = dc5a)
    (h10 : dc1b ≥ (0 : Int))
    (h11 : ¬ (dc1b < dc4a))
    (h12 : (!(dc2b == false)) = false)
    {e : AEx} {st : St} (next : RestSC cfg.P 2 (rest P_laws_FnTreesCounted 10) (laws_FnTreesCounted_C10a x0 x1 dc1b dc2a dc3b false) e st) :
    RestSC cfg.P 2 (rest P_laws_FnTreesCounted 3) (laws_FnTreesCounted_C3a x0 x1 x50) e st :=
  rest_next cfgOK (f := i_laws_FnTreesCounted) (k := 3) (m := 7) (its := [.res (.tup [.v (.int .i64) dc1a, .v (.int .i64) dc1b]) [] [] [], .res (.tup [.v .str dc2a, .v .bool dc2b]) [] [] [], .res (.tup [.v .str dc3a, .v .bool dc3b]) [] [] [], .res (.tup [.v (.int .i64) dc4a, .v .bool true]) [] [] [], .res (.tup [.v (.int .i64) dc5a, .v .bool dc5b]) [] [] [], .bool false, .bool false, .bool false, .bool false, .bool true, .bool false, .bool false])
    (ps := [SC cfg.P i_spec_DrawTreeAt [.s (.v (.sl (.int .u8)) x0)] (.tup [.v (.int .i64) dc1a, .v (.int .i64) dc1b]) [],
      SC cfg.P i_impl_TreeAt [.s (.v (.int .i64) dc1a), .s (.v (.int .i64) dc1b)] (.tup [.v .str dc2a, .v .bool dc2b]) [],
      SC cfg.P i_spec_TreeAt [.s (.v (.int .i64) dc1a), .s (.v (.int .i64) dc1b)] (.tup [.v .str dc3a, .v .bool dc3b]) [],
      SC cfg.P i_impl_CountTrees [.s (.v (.int .i64) dc1a)] (.tup [.v (.int .i64) dc4a, .v .bool true]) [],
      SC cfg.P i_spec_CountTrees [.s (.v (.int .i64) dc1a)] (.tup [.v (.int .i64) dc5a, .v .bool dc5b]) [],
      (!(dc2b == dc3b)) = false,
      (!((dc2a).toList == (dc3a).toList)) = false,
      (!(true == dc5b)) = false,
      (dc4a != dc5a) = false,
      decide (dc1b ≥ (0 : Int)) = true,
      decide (dc1b < dc4a) = false,
      (!(dc2b == false)) = false]) (st1 := laws_FnTreesCounted_C10a x0 x1 dc1b dc2a dc3b false) (by kernel_rfl) ⟨h1, h2, h3, h4, h5, h6, (nseq_f h7), h8, (bne_eq_false_iff_eq.mpr h9), (decide_eq_true h10), (decide_eq_false h11), h12, trivial⟩ next

theorem laws_FnTreesCounted_C3a_i3 (x0 : (List Int)) (x1 : (List Int)) (x50 : Bool) (dc1a : Int) (dc1b : Int) (dc2a : ByteArray) (dc2b : Bool) (dc3a : ByteArray) (dc3b : Bool) (dc4a : Int) (dc5a : Int) (dc5b : Bool)
    (h1 : SC cfg.P i_spec_DrawTreeAt [.s (.v (.sl (.int .u8)) x0)] (.tup [.v (.int .i64) dc1a, .v (.int .i64) dc1b]) [])
    (h2 : SC cfg.P i_impl_TreeAt [.s (.v (.int .i64) dc1a), .s (.v (.int .i64) dc1b)] (.tup [.v .str dc2a, .v .bool dc2b]) [])
    (h3 : SC cfg.P i_spec_TreeAt [.s (.v (.int .i64) dc1a), .s (.v (.int .i64) dc1b)] (.tup [.v .str dc3a, .v .bool dc3b]) [])
    (h4 : SC cfg.P i_impl_CountTrees [.s (.v (.int .i64) dc1a)] (.tup [.v (.int .i64) dc4a, .v .bool true]) [])
    (h5 : SC cfg.P i_spec_CountTrees [.s (.v (.int .i64) dc1a)] (.tup [.v (.int .i64) dc5a, .v .bool dc5b]) [])
    (h6 : (!(dc2b == dc3b)) = false)
    (h7 : dc2a = dc3a)
    (h8 : (!(true == dc5b)) = false)
    (h9 : dc4a = dc5a)
    (h10 : ¬ (dc1b ≥ (0 : Int)))
    (h11 : (!(dc2b == false)) = false)
    {e : AEx} {st : St} (next : RestSC cfg.P 2 (rest P_laws_FnTreesCounted 10) (laws_FnTreesCounted_C10a x0 x1 dc1b dc2a dc3b false) e st) :
    RestSC cfg.P 2 (rest P_laws_FnTreesCounted 3) (laws_FnTreesCounted_C3a x0 x1 x50) e st :=
  rest_next cfgOK (f := i_laws_FnTreesCounted) (k := 3) (m := 7) (its := [.res (.tup [.v (.int .i64) dc1a, .v (.int .i64) dc1b]) [] [] [], .res (.tup [.v .str dc2a, .v .bool dc2b]) [] [] [], .res (.tup [.v .str dc3a, .v .bool dc3b]) [] [] [], .res (.tup [.v (.int .i64) dc4a, .v .bool true]) [] [] [], .res (.tup [.v (.int .i64) dc5a, .v .bool dc5b]) [] [] [], .bool false, .bool false, .bool false, .bool false, .bool false, .bool false])
    (ps := [SC cfg.P i_spec_DrawTreeAt [.s (.v (.sl (.int .u8)) x0)] (.tup [.v (.int .i64) dc1a, .v (.int .i64) dc1b]) [],
      SC cfg.P i_impl_TreeAt [.s (.v (.int .i64) dc1a), .s (.v (.int .i64) dc1b)] (.tup [.v .str dc2a, .v .bool dc2b]) [],
      SC cfg.P i_spec_TreeAt [.s (.v (.int .i64) dc1a), .s (.v (.int .i64) dc1b)] (.tup [.v .str dc3a, .v .bool dc3b]) [],
      SC cfg.P i_impl_CountTrees [.s (.v (.int .i64) dc1a)] (.tup [.v (.int .i64) dc4a, .v .bool true]) [],
      SC cfg.P i_spec_CountTrees [.s (.v (.int .i64) dc1a)] (.tup [.v (.int .i64) dc5a, .v .bool dc5b]) [],
      (!(dc2b == dc3b)) = false,
      (!((dc2a).toList == (dc3a).toList)) = false,
      (!(true == dc5b)) = false,
      (dc4a != dc5a) = false,
      decide (dc1b ≥ (0 : Int)) = false,
      (!(dc2b == false)) = false]) (st1 := laws_FnTreesCounted_C10a x0 x1 dc1b dc2a dc3b false) (by kernel_rfl) ⟨h1, h2, h3, h4, h5, h6, (nseq_f h7), h8, (bne_eq_false_iff_eq.mpr h9), (decide_eq_false h10), h11, trivial⟩ next

theorem laws_FnTreesCounted_C3a_i4 (x0 : (List Int)) (x1 : (List Int)) (x50 : Bool) (dc1a : Int) (dc1b : Int) (dc2a : ByteArray) (dc2b : Bool) (dc3a : ByteArray) (dc3b : Bool) (dc4a : Int) (dc5a : Int) (dc5b : Bool)
    (h1 : SC cfg.P i_spec_DrawTreeAt [.s (.v (.sl (.int .u8)) x0)] (.tup [.v (.int .i64) dc1a, .v (.int .i64) dc1b]) [])
    (h2 : SC cfg.P i_impl_TreeAt [.s (.v (.int .i64) dc1a), .s (.v (.int .i64) dc1b)] (.tup [.v .str dc2a, .v .bool dc2b]) [])
    (h3 : SC cfg.P i_spec_TreeAt [.s (.v (.int .i64) dc1a), .s (.v (.int .i64) dc1b)] (.tup [.v .str dc3a, .v .bool dc3b]) [])
    (h4 : SC cfg.P i_impl_CountTrees [.s (.v (.int .i64) dc1a)] (.tup [.v (.int .i64) dc4a, .v .bool false]) [])
    (h5 : SC cfg.P i_spec_CountTrees [.s (.v (.int .i64) dc1a)] (.tup [.v (.int .i64) dc5a, .v .bool dc5b]) [])
    (h6 : (!(dc2b == dc3b)) = false)
    (h7 : dc2a = dc3a)
    (h8 : (!(false == dc5b)) = false)
    (h9 : dc4a = dc5a)
    (h10 : (!(dc2b == false)) = false)
    {e : AEx} {st : St} (next : RestSC cfg.P 2 (rest P_laws_FnTreesCounted 10) (laws_FnTreesCounted_C10a x0 x1 dc1b dc2a dc3b false) e st) :
    RestSC cfg.P 2 (rest P_laws_FnTreesCounted 3) (laws_FnTreesCounted_C3a x0 x1 x50) e st :=
  rest_next cfgOK (f := i_laws_FnTreesCounted) (k := 3) (m := 7) (its := [.res (.tup [.v (.int .i64) dc1a, .v (.int .i64) dc1b]) [] [] [], .res (.tup [.v .str dc2a, .v .bool dc2b]) [] [] [], .res (.tup [.v .str dc3a, .v .bool dc3b]) [] [] [], .res (.tup [.v (.int .i64) dc4a, .v .bool false]) [] [] [], .res (.tup [.v (.int .i64) dc5a, .v .bool dc5b]) [] [] [], .bool false, .bool false, .bool false, .bool false, .bool false])
    (ps := [SC cfg.P i_spec_DrawTreeAt [.s (.v (.sl (.int .u8)) x0)] (.tup [.v (.int .i64) dc1a, .v (.int .i64) dc1b]) [],
      SC cfg.P i_impl_TreeAt [.s (.v (.int .i64) dc1a), .s (.v (.int .i64) dc1b)] (.tup [.v .str dc2a, .v .bool dc2b]) [],
      SC cfg.P i_spec_TreeAt [.s (.v (.int .i64) dc1a), .s (.v (.int .i64) dc1b)] (.tup [.v .str dc3a, .v .bool dc3b]) [],
      SC cfg.P i_impl_CountTrees [.s (.v (.int .i64) dc1a)] (.tup [.v (.int .i64) dc4a, .v .bool false]) [],
      SC cfg.P i_spec_CountTrees [.s (.v (.int .i64) dc1a)] (.tup [.v (.int .i64) dc5a, .v .bool dc5b]) [],
      (!(dc2b == dc3b)) = false,
      (!((dc2a).toList == (dc3a).toList)) = false,
      (!(false == dc5b)) = false,
      (dc4a != dc5a) = false,
      (!(dc2b == false)) = false]) (st1 := laws_FnTreesCounted_C10a x0 x1 dc1b dc2a dc3b false) (by kernel_rfl) ⟨h1, h2, h3, h4, h5, h6, (nseq_f h7), h8, (bne_eq_false_iff_eq.mpr h9), h10, trivial⟩ next

theorem laws_FnTreesCounted_C10a_i1 (x0 : (List Int)) (x1 : (List Int)) (x6 : Int) (x7 : ByteArray) (x10 : Bool) (x109 : Bool) (dc1 : Int) (dc2a : (List ByteArray)) (dc2b : Bool) (dc3a : (List ByteArray)) (dc3b : Bool)
    (h1 : SC cfg.P i_spec_DrawAllTrees [.s (.v (.sl (.int .u8)) x1)] (.s (.v (.int .i64) dc1)) [])
    (h2 : SC cfg.P i_impl_AllTrees [.s (.v (.int .i64) dc1)] (.tup [.v (.sl .str) dc2a, .v .bool dc2b]) [])
    (h3 : SC cfg.P i_spec_AllTrees [.s (.v (.int .i64) dc1)] (.tup [.own t_string .str dc3a, .v .bool dc3b]) [])
    (h4 : (!(dc2b == dc3b)) = false)
    (h5 : SC cfg.P i_laws_fTexts [.s (.v (.sl .str) dc2a), .s (.v (.sl .str) dc3a)] (.s (.v .bool true)) [])
    {e : AEx} {st : St} (next : RestSC cfg.P 2 (rest P_laws_FnTreesCounted 15) (laws_FnTreesCounted_C15a x0 x1 x6 x7 x10 dc1 dc2a dc2b false) e st) :
    RestSC cfg.P 2 (rest P_laws_FnTreesCounted 10) (laws_FnTreesCounted_C10a x0 x1 x6 x7 x10 x109) e st :=
  rest_next cfgOK (f := i_laws_FnTreesCounted) (k := 10) (m := 5) (its := [.res (.s (.v (.int .i64) dc1)) [] [] [], .res (.tup [.v (.sl .str) dc2a, .v .bool dc2b]) [] [] [], .res (.tup [.own t_string .str dc3a, .v .bool dc3b]) [] [] [119], .bool false, .res (.s (.v .bool true)) [] [] []])
    (ps := [SC cfg.P i_spec_DrawAllTrees [.s (.v (.sl (.int .u8)) x1)] (.s (.v (.int .i64) dc1)) [],
      SC cfg.P i_impl_AllTrees [.s (.v (.int .i64) dc1)] (.tup [.v (.sl .str) dc2a, .v .bool dc2b]) [],
      SC cfg.P i_spec_AllTrees [.s (.v (.int .i64) dc1)] (.tup [.own t_string .str dc3a, .v .bool dc3b]) [],
      (!(dc2b == dc3b)) = false,
      SC cfg.P i_laws_fTexts [.s (.v (.sl .str) dc2a), .s (.v (.sl .str) dc3a)] (.s (.v .bool true)) []]) (st1 := laws_FnTreesCounted_C15a x0 x1 x6 x7 x10 dc1 dc2a dc2b false) (by kernel_rfl) ⟨h1, h2, h3, h4, h5, trivial⟩ next

theorem laws_FnTreesCounted_C15a_i2 (x0 : (List Int)) (x1 : (List Int)) (x6 : Int) (x7 : ByteArray) (x10 : Bool) (x15 : Int) (x16 : (List ByteArray)) (x130 : Bool) (dc1a : Int) (dc2a : ByteArray) (dc3a : ByteArray) (dk1y0 : (List Int)) (dk1y1 : (List Int)) (dk1y6 : Int) (dk1y7 : ByteArray) (dk1y10 : Bool) (dk1y16 : (List ByteArray)) (dk1y180 : (List ByteArray)) (dk1y181 : Int) (dk1y182 : Int) (dk1y183 : Bool)
    (h1 : SC cfg.P i_impl_CountTrees [.s (.v (.int .i64) x15)] (.tup [.v (.int .i64) dc1a, .v .bool true]) [])
    (h2 : SC cfg.P i_impl_LeftComb [.s (.v (.int .i64) x15)] (.tup [.v .str dc2a, .v .bool true]) [])
    (h3 : SC cfg.P i_impl_RightComb [.s (.v (.int .i64) x15)] (.tup [.v .str dc3a, .v .bool true]) [])
    (h4 : ((List.length x16 : Nat) : Int) = dc1a)
    (h5 : (0 : Int) < (List.length x16 : Int))
    (h6 : (List.getD x16 ((0 : Int)).toNat (⟨#[]⟩ : ByteArray)) = dc2a)
    (h7 : 0 ≤ (IntKind.wrap .i64 (((List.length x16 : Nat) : Int) - (1 : Int))))
    (h8 : (IntKind.wrap .i64 (((List.length x16 : Nat) : Int) - (1 : Int))) < (List.length x16 : Int))
    (h9 : (List.getD x16 ((IntKind.wrap .i64 (((List.length x16 : Nat) : Int) - (1 : Int)))).toNat (⟨#[]⟩ : ByteArray)) = dc3a)
    (h10 : LoopSC cfg.P 2 (lb P_laws_FnTreesCounted 0) (laws_FnTreesCounted_L0a x0 x1 x6 x7 x10 x16 x16 ((List.length x16 : Nat) : Int) (0 : Int)) (.exit 0) (laws_FnTreesCounted_L0X2 dk1y0 dk1y1 dk1y6 dk1y7 dk1y10 dk1y16 dk1y180 dk1y181 dk1y182 dk1y183))
    {e : AEx} {st : St} (next : RestSC cfg.P 2 (rest P_laws_FnTreesCounted 17) (laws_FnTreesCounted_C17a dk1y0 dk1y1 dk1y6 dk1y7 dk1y10 dk1y16 dk1y180 dk1y181 dk1y182 dk1y183) e st) :
    RestSC cfg.P 2 (rest P_laws_FnTreesCounted 15) (laws_FnTreesCounted_C15a x0 x1 x6 x7 x10 x15 x16 true x130) e st :=
  rest_next cfgOK (f := i_laws_FnTreesCounted) (k := 15) (m := 2) (its := [.res (.tup [.v (.int .i64) dc1a, .v .bool true]) [] [] [], .res (.tup [.v .str dc2a, .v .bool true]) [] [] [], .res (.tup [.v .str dc3a, .v .bool true]) [] [] [], .bool false, .bool false, .bool false, .loop (fun _ => (.exit 0, laws_FnTreesCounted_L0X2 dk1y0 dk1y1 dk1y6 dk1y7 dk1y10 dk1y16 dk1y180 dk1y181 dk1y182 dk1y183))])
    (ps := [SC cfg.P i_impl_CountTrees [.s (.v (.int .i64) x15)] (.tup [.v (.int .i64) dc1a, .v .bool true]) [],
      SC cfg.P i_impl_LeftComb [.s (.v (.int .i64) x15)] (.tup [.v .str dc2a, .v .bool true]) [],
      SC cfg.P i_impl_RightComb [.s (.v (.int .i64) x15)] (.tup [.v .str dc3a, .v .bool true]) [],
      (((List.length x16 : Nat) : Int) != dc1a) = false,
      0 ≤ (0 : Int),
      (0 : Int) < (List.length x16 : Int),
      (!(((List.getD x16 ((0 : Int)).toNat (⟨#[]⟩ : ByteArray))).toList == (dc2a).toList)) = false,
      0 ≤ (IntKind.wrap .i64 (((List.length x16 : Nat) : Int) - (1 : Int))),
      (IntKind.wrap .i64 (((List.length x16 : Nat) : Int) - (1 : Int))) < (List.length x16 : Int),
      (!(((List.getD x16 ((IntKind.wrap .i64 (((List.length x16 : Nat) : Int) - (1 : Int)))).toNat (⟨#[]⟩ : ByteArray))).toList == (dc3a).toList)) = false,
      LoopSC cfg.P 2 (lb P_laws_FnTreesCounted 0) (laws_FnTreesCounted_L0a x0 x1 x6 x7 x10 x16 x16 ((List.length x16 : Nat) : Int) (0 : Int)) (.exit 0) (laws_FnTreesCounted_L0X2 dk1y0 dk1y1 dk1y6 dk1y7 dk1y10 dk1y16 dk1y180 dk1y181 dk1y182 dk1y183)]) (st1 := laws_FnTreesCounted_C17a dk1y0 dk1y1 dk1y6 dk1y7 dk1y10 dk1y16 dk1y180 dk1y181 dk1y182 dk1y183) (by kernel_rfl) ⟨h1, h2, h3, (bne_eq_false_iff_eq.mpr h4), (by decide), h5, (nseq_f h6), h7, h8, (nseq_f h9), h10, trivial⟩ next

theorem laws_FnTreesCounted_C15a_i3 (x0 : (List Int)) (x1 : (List Int)) (x6 : Int) (x7 : ByteArray) (x10 : Bool) (x15 : Int) (x16 : (List ByteArray)) (x130 : Bool)
    {e : AEx} {st : St} (next : RestSC cfg.P 2 (rest P_laws_FnTreesCounted 17) (laws_FnTreesCounted_C17b x0 x1 x6 x7 x10 x15 x16 false) e st) :
    RestSC cfg.P 2 (rest P_laws_FnTreesCounted 15) (laws_FnTreesCounted_C15a x0 x1 x6 x7 x10 x15 x16 false x130) e st :=
  rest_next cfgOK (f := i_laws_FnTreesCounted) (k := 15) (m := 2) (its := [])
    (ps := []) (st1 := laws_FnTreesCounted_C17b x0 x1 x6 x7 x10 x15 x16 false) (by kernel_rfl) trivial next

theorem laws_FnTreesCounted_C17a_i1 (x0 : (List Int)) (x1 : (List Int)) (x6 : Int) (x7 : ByteArray) (x10 : Bool) (x16 : (List ByteArray)) (x180 : (List ByteArray)) (x181 : Int) (x182 : Int) (x183 : Bool) (dc1 : Int) (dc2a : ByteArray) (dc2b : Bool) (dc3a : ByteArray) (dc3b : Bool) (dc4a : ByteArray) (dc4b : Bool) (dc5a : ByteArray) (dc5b : Bool) (dc6 : ByteArray) (dc7a : Int) (dc7b : Bool) (dc8a : Int) (dc8b : Bool)
    (h1 : SC cfg.P i_spec_DrawRightComb [.s (.v (.sl (.int .u8)) x1)] (.s (.v (.int .i64) dc1)) [])
    (h2 : SC cfg.P i_impl_RightComb [.s (.v (.int .i64) dc1)] (.tup [.v .str dc2a, .v .bool dc2b]) [])
    (h3 : SC cfg.P i_spec_RightComb [.s (.v (.int .i64) dc1)] (.tup [.v .str dc3a, .v .bool dc3b]) [])
    (h4 : SC cfg.P i_impl_LeftComb [.s (.v (.int .i64) dc1)] (.tup [.v .str dc4a, .v .bool dc4b]) [])
    (h5 : SC cfg.P i_spec_LeftComb [.s (.v (.int .i64) dc1)] (.tup [.v .str dc5a, .v .bool dc5b]) [])
    (h6 : SC cfg.P i_spec_DrawRankTree [.s (.v (.sl (.int .u8)) x0)] (.s (.v .str dc6)) [])
    (h7 : SC cfg.P i_impl_RankTree [.s (.v .str dc6)] (.tup [.v (.int .i64) dc7a, .v .bool dc7b]) [])
    (h8 : SC cfg.P i_spec_RankTree [.s (.v .str dc6)] (.tup [.v (.int .i64) dc8a, .v .bool dc8b]) [])
    (h9 : (!(dc2b == dc3b)) = false)
    (h10 : dc2a = dc3a)
    (h11 : (!(dc4b == dc5b)) = false)
    (h12 : dc4a = dc5a)
    (h13 : (!(dc7b == dc8b)) = false)
    (h14 : dc7a = dc8a)
    {e : AEx} {st : St} (next : RestSC cfg.P 2 (rest P_laws_FnTreesCounted 27) (laws_FnTreesCounted_C27a x6 x7 x10 dc6 dc7a dc7b false) e st) :
    RestSC cfg.P 2 (rest P_laws_FnTreesCounted 17) (laws_FnTreesCounted_C17a x0 x1 x6 x7 x10 x16 x180 x181 x182 x183) e st :=
  rest_next cfgOK (f := i_laws_FnTreesCounted) (k := 17) (m := 10) (its := [.res (.s (.v (.int .i64) dc1)) [] [] [], .res (.tup [.v .str dc2a, .v .bool dc2b]) [] [] [], .res (.tup [.v .str dc3a, .v .bool dc3b]) [] [] [], .res (.tup [.v .str dc4a, .v .bool dc4b]) [] [] [], .res (.tup [.v .str dc5a, .v .bool dc5b]) [] [] [], .res (.s (.v .str dc6)) [] [] [], .res (.tup [.v (.int .i64) dc7a, .v .bool dc7b]) [] [] [], .res (.tup [.v (.int .i64) dc8a, .v .bool dc8b]) [] [] [], .bool false, .bool false, .bool false, .bool false, .bool false, .bool false])
    (ps := [SC cfg.P i_spec_DrawRightComb [.s (.v (.sl (.int .u8)) x1)] (.s (.v (.int .i64) dc1)) [],
      SC cfg.P i_impl_RightComb [.s (.v (.int .i64) dc1)] (.tup [.v .str dc2a, .v .bool dc2b]) [],
      SC cfg.P i_spec_RightComb [.s (.v (.int .i64) dc1)] (.tup [.v .str dc3a, .v .bool dc3b]) [],
      SC cfg.P i_impl_LeftComb [.s (.v (.int .i64) dc1)] (.tup [.v .str dc4a, .v .bool dc4b]) [],
      SC cfg.P i_spec_LeftComb [.s (.v (.int .i64) dc1)] (.tup [.v .str dc5a, .v .bool dc5b]) [],
      SC cfg.P i_spec_DrawRankTree [.s (.v (.sl (.int .u8)) x0)] (.s (.v .str dc6)) [],
      SC cfg.P i_impl_RankTree [.s (.v .str dc6)] (.tup [.v (.int .i64) dc7a, .v .bool dc7b]) [],
      SC cfg.P i_spec_RankTree [.s (.v .str dc6)] (.tup [.v (.int .i64) dc8a, .v .bool dc8b]) [],
      (!(dc2b == dc3b)) = false,
      (!((dc2a).toList == (dc3a).toList)) = false,
      (!(dc4b == dc5b)) = false,
      (!((dc4a).toList == (dc5a).toList)) = false,
      (!(dc7b == dc8b)) = false,
      (dc7a != dc8a) = false]) (st1 := laws_FnTreesCounted_C27a x6 x7 x10 dc6 dc7a dc7b false) (by kernel_rfl) ⟨h1, h2, h3, h4, h5, h6, h7, h8, h9, (nseq_f h10), h11, (nseq_f h12), h13, (bne_eq_false_iff_eq.mpr h14), trivial⟩ next

theorem laws_FnTreesCounted_C17b_i1 (x0 : (List Int)) (x1 : (List Int)) (x6 : Int) (x7 : ByteArray) (x10 : Bool) (x15 : Int) (x16 : (List ByteArray)) (x131 : Bool) (dc1 : Int) (dc2a : ByteArray) (dc2b : Bool) (dc3a : ByteArray) (dc3b : Bool) (dc4a : ByteArray) (dc4b : Bool) (dc5a : ByteArray) (dc5b : Bool) (dc6 : ByteArray) (dc7a : Int) (dc7b : Bool) (dc8a : Int) (dc8b : Bool)
    (h1 : SC cfg.P i_spec_DrawRightComb [.s (.v (.sl (.int .u8)) x1)] (.s (.v (.int .i64) dc1)) [])
    (h2 : SC cfg.P i_impl_RightComb [.s (.v (.int .i64) dc1)] (.tup [.v .str dc2a, .v .bool dc2b]) [])
    (h3 : SC cfg.P i_spec_RightComb [.s (.v (.int .i64) dc1)] (.tup [.v .str dc3a, .v .bool dc3b]) [])
    (h4 : SC cfg.P i_impl_LeftComb [.s (.v (.int .i64) dc1)] (.tup [.v .str dc4a, .v .bool dc4b]) [])
    (h5 : SC cfg.P i_spec_LeftComb [.s (.v (.int .i64) dc1)] (.tup [.v .str dc5a, .v .bool dc5b]) [])
    (h6 : SC cfg.P i_spec_DrawRankTree [.s (.v (.sl (.int .u8)) x0)] (.s (.v .str dc6)) [])
    (h7 : SC cfg.P i_impl_RankTree [.s (.v .str dc6)] (.tup [.v (.int .i64) dc7a, .v .bool dc7b]) [])
    (h8 : SC cfg.P i_spec_RankTree [.s (.v .str dc6)] (.tup [.v (.int .i64) dc8a, .v .bool dc8b]) [])
    (h9 : (!(dc2b == dc3b)) = false)
    (h10 : dc2a = dc3a)
    (h11 : (!(dc4b == dc5b)) = false)
    (h12 : dc4a = dc5a)
    (h13 : (!(dc7b == dc8b)) = false)
    (h14 : dc7a = dc8a)
    {e : AEx} {st : St} (next : RestSC cfg.P 2 (rest P_laws_FnTreesCounted 27) (laws_FnTreesCounted_C27a x6 x7 x10 dc6 dc7a dc7b false) e st) :
    RestSC cfg.P 2 (rest P_laws_FnTreesCounted 17) (laws_FnTreesCounted_C17b x0 x1 x6 x7 x10 x15 x16 x131) e st :=
  rest_next cfgOK (f := i_laws_FnTreesCounted) (k := 17) (m := 10) (its := [.res (.s (.v (.int .i64) dc1)) [] [] [], .res (.tup [.v .str dc2a, .v .bool dc2b]) [] [] [], .res (.tup [.v .str dc3a, .v .bool dc3b]) [] [] [], .res (.tup [.v .str dc4a, .v .bool dc4b]) [] [] [], .res (.tup [.v .str dc5a, .v .bool dc5b]) [] [] [], .res (.s (.v .str dc6)) [] [] [], .res (.tup [.v (.int .i64) dc7a, .v .bool dc7b]) [] [] [], .res (.tup [.v (.int .i64) dc8a, .v .bool dc8b]) [] [] [], .bool false, .bool false, .bool false, .bool false, .bool false, .bool false])
    (ps := [SC cfg.P i_spec_DrawRightComb [.s (.v (.sl (.int .u8)) x1)] (.s (.v (.int .i64) dc1)) [],
      SC cfg.P i_impl_RightComb [.s (.v (.int .i64) dc1)] (.tup [.v .str dc2a, .v .bool dc2b]) [],
      SC cfg.P i_spec_RightComb [.s (.v (.int .i64) dc1)] (.tup [.v .str dc3a, .v .bool dc3b]) [],
      SC cfg.P i_impl_LeftComb [.s (.v (.int .i64) dc1)] (.tup [.v .str dc4a, .v .bool dc4b]) [],
      SC cfg.P i_spec_LeftComb [.s (.v (.int .i64) dc1)] (.tup [.v .str dc5a, .v .bool dc5b]) [],
      SC cfg.P i_spec_DrawRankTree [.s (.v (.sl (.int .u8)) x0)] (.s (.v .str dc6)) [],
      SC cfg.P i_impl_RankTree [.s (.v .str dc6)] (.tup [.v (.int .i64) dc7a, .v .bool dc7b]) [],
      SC cfg.P i_spec_RankTree [.s (.v .str dc6)] (.tup [.v (.int .i64) dc8a, .v .bool dc8b]) [],
      (!(dc2b == dc3b)) = false,
      (!((dc2a).toList == (dc3a).toList)) = false,
      (!(dc4b == dc5b)) = false,
      (!((dc4a).toList == (dc5a).toList)) = false,
      (!(dc7b == dc8b)) = false,
      (dc7a != dc8a) = false]) (st1 := laws_FnTreesCounted_C27a x6 x7 x10 dc6 dc7a dc7b false) (by kernel_rfl) ⟨h1, h2, h3, h4, h5, h6, h7, h8, h9, (nseq_f h10), h11, (nseq_f h12), h13, (bne_eq_false_iff_eq.mpr h14), trivial⟩ next

theorem laws_FnTreesCounted_C27a_i1 (x6 : Int) (x7 : ByteArray) (x10 : Bool) (x37 : ByteArray) (x38 : Int) (x265 : Bool) (dc1a : Int) (dc2a : ByteArray)
    (h1 : SC cfg.P i_impl_CaretsOf [.s (.v .str x37)] (.tup [.v (.int .i64) dc1a, .v .bool true]) [])
    (h2 : SC cfg.P i_impl_TreeAt [.s (.v (.int .i64) dc1a), .s (.v (.int .i64) x38)] (.tup [.v .str dc2a, .v .bool true]) [])
    (h3 : dc2a = x37)
    {e : AEx} {st : St} (next : RestSC cfg.P 2 (rest P_laws_FnTreesCounted 29) (laws_FnTreesCounted_C29a x6 x7 x10 false) e st) :
    RestSC cfg.P 2 (rest P_laws_FnTreesCounted 27) (laws_FnTreesCounted_C27a x6 x7 x10 x37 x38 true x265) e st :=
  rest_next cfgOK (f := i_laws_FnTreesCounted) (k := 27) (m := 2) (its := [.res (.tup [.v (.int .i64) dc1a, .v .bool true]) [] [] [], .res (.tup [.v .str dc2a, .v .bool true]) [] [] [], .bool false])
    (ps := [SC cfg.P i_impl_CaretsOf [.s (.v .str x37)] (.tup [.v (.int .i64) dc1a, .v .bool true]) [],
      SC cfg.P i_impl_TreeAt [.s (.v (.int .i64) dc1a), .s (.v (.int .i64) x38)] (.tup [.v .str dc2a, .v .bool true]) [],
      (!((dc2a).toList == (x37).toList)) = false]) (st1 := laws_FnTreesCounted_C29a x6 x7 x10 false) (by kernel_rfl) ⟨h1, h2, (nseq_f h3), trivial⟩ next

theorem laws_FnTreesCounted_C27a_i2 (x6 : Int) (x7 : ByteArray) (x10 : Bool) (x37 : ByteArray) (x38 : Int) (x265 : Bool)
    {e : AEx} {st : St} (next : RestSC cfg.P 2 (rest P_laws_FnTreesCounted 29) (laws_FnTreesCounted_C29b x6 x7 x10 x37 x38 false) e st) :
    RestSC cfg.P 2 (rest P_laws_FnTreesCounted 27) (laws_FnTreesCounted_C27a x6 x7 x10 x37 x38 false x265) e st :=
  rest_next cfgOK (f := i_laws_FnTreesCounted) (k := 27) (m := 2) (its := [])
    (ps := []) (st1 := laws_FnTreesCounted_C29b x6 x7 x10 x37 x38 false) (by kernel_rfl) trivial next

theorem laws_FnTreesCounted_C29a_i1 (x6 : Int) (x7 : ByteArray) (x288 : Bool)
    {e : AEx} {st : St} (next : RestSC cfg.P 2 (rest P_laws_FnTreesCounted 31) (laws_FnTreesCounted_C31a x6 x7 false) e st) :
    RestSC cfg.P 2 (rest P_laws_FnTreesCounted 29) (laws_FnTreesCounted_C29a x6 x7 true x288) e st :=
  rest_next cfgOK (f := i_laws_FnTreesCounted) (k := 29) (m := 2) (its := [])
    (ps := []) (st1 := laws_FnTreesCounted_C31a x6 x7 false) (by kernel_rfl) trivial next

theorem laws_FnTreesCounted_C29a_x2 (x6 : Int) (x7 : ByteArray) (x288 : Bool)
     :
    RestSC cfg.P 2 (rest P_laws_FnTreesCounted 29) (laws_FnTreesCounted_C29a x6 x7 false x288) .ret (laws_FnTreesCounted_R1 true) :=
  rest_ret cfgOK (f := i_laws_FnTreesCounted) (k := 29) (m := 2) (its := [])
    (ps := []) (by kernel_rfl) trivial

theorem laws_FnTreesCounted_C29b_i1 (x6 : Int) (x7 : ByteArray) (x37 : ByteArray) (x38 : Int) (x266 : Bool)
    {e : AEx} {st : St} (next : RestSC cfg.P 2 (rest P_laws_FnTreesCounted 31) (laws_FnTreesCounted_C31a x6 x7 false) e st) :
    RestSC cfg.P 2 (rest P_laws_FnTreesCounted 29) (laws_FnTreesCounted_C29b x6 x7 true x37 x38 x266) e st :=
  rest_next cfgOK (f := i_laws_FnTreesCounted) (k := 29) (m := 2) (its := [])
    (ps := []) (st1 := laws_FnTreesCounted_C31a x6 x7 false) (by kernel_rfl) trivial next

theorem laws_FnTreesCounted_C29b_x2 (x6 : Int) (x7 : ByteArray) (x37 : ByteArray) (x38 : Int) (x266 : Bool)
     :
    RestSC cfg.P 2 (rest P_laws_FnTreesCounted 29) (laws_FnTreesCounted_C29b x6 x7 false x37 x38 x266) .ret (laws_FnTreesCounted_R1 true) :=
  rest_ret cfgOK (f := i_laws_FnTreesCounted) (k := 29) (m := 2) (its := [])
    (ps := []) (by kernel_rfl) trivial

theorem laws_FnTreesCounted_C31a_x1 (x6 : Int) (x7 : ByteArray) (x290 : Bool) (dc1a : Int)
    (h1 : SC cfg.P i_impl_RankTree [.s (.v .str x7)] (.tup [.v (.int .i64) dc1a, .v .bool true]) [])
    (h2 : dc1a = x6) :
    RestSC cfg.P 2 (rest P_laws_FnTreesCounted 31) (laws_FnTreesCounted_C31a x6 x7 x290) .ret (laws_FnTreesCounted_R1 true) :=
  rest_ret cfgOK (f := i_laws_FnTreesCounted) (k := 31) (m := 3) (its := [.res (.tup [.v (.int .i64) dc1a, .v .bool true]) [] [] [], .bool true])
    (ps := [SC cfg.P i_impl_RankTree [.s (.v .str x7)] (.tup [.v (.int .i64) dc1a, .v .bool true]) [],
      (dc1a == x6) = true]) (by kernel_rfl) ⟨h1, (beq_iff_eq.mpr h2), trivial⟩

theorem laws_FnTreesCounted_R1_of (a0 : (List Int)) (a1 : (List Int)) (y4 : Bool)
    (h : RestSC cfg.P 2 (rest P_laws_FnTreesCounted 0) (laws_FnTreesCounted_C0a a0 a1) .ret (laws_FnTreesCounted_R1 y4)) :
    SC cfg.P i_laws_FnTreesCounted [.s (.v (.sl (.int .u8)) a0), .s (.v (.sl (.int .u8)) a1)] (.s (.v .bool y4)) [] :=
  SC_of_rest cfgOK (f := i_laws_FnTreesCounted) h (by kernel_rfl) (by kernel_rfl) (by kernel_rfl) get_laws_FnTreesCounted (by decide)

/-! ### spec_DrawTreeAt -/


theorem spec_DrawTreeAt_p1 (a0 : (List Int)) (c1 : Int) (c1o0 : ((List Int) × (Int × Int))) (c3o0 : ((List Int) × (Int × Int))) (c4 : Int) (c4o0 : ((List Int) × (Int × Int)))
    (h1 : SC cfg.P i_spec_l1Cur_carets [.s (.mbx (.pr (.sl (.int .u8)) (.pr (.int .i64) (.int .u64))) (a0, ((0 : Int), (0 : Int)))), .s (.v (.int .i64) (5 : Int))] (.s (.v (.int .i64) c1)) [.box (.pr (.sl (.int .u8)) (.pr (.int .i64) (.int .u64))) c1o0])
    (h2 : SC cfg.P i_spec_trSize [.s (.v (.int .i64) c1)] (.s (.v .bool true)) [])
    (h3 : SC cfg.P i_spec_l1Cur_one [.s (.mbx (.pr (.sl (.int .u8)) (.pr (.int .i64) (.int .u64))) c1o0), .s (.v (.int .i64) (4 : Int))] (.s (.v .bool true)) [.box (.pr (.sl (.int .u8)) (.pr (.int .i64) (.int .u64))) c3o0])
    (h4 : SC cfg.P i_spec_l1Cur_among [.s (.mbx (.pr (.sl (.int .u8)) (.pr (.int .i64) (.int .u64))) c3o0), .s (.v (.sl (.int .i64)) ([(-1 : Int), (0 : Int), (1 : Int), (2 : Int), (5 : Int), (14 : Int), (42 : Int), (4611686018427387904 : Int)] : List Int))] (.s (.v (.int .i64) c4)) [.box (.pr (.sl (.int .u8)) (.pr (.int .i64) (.int .u64))) c4o0]) :
    SC cfg.P i_spec_DrawTreeAt [.s (.v (.sl (.int .u8)) a0)] (.tup [.v (.int .i64) c1, .v (.int .i64) c4]) [] :=
  SC_of_run cfgOK (its := [.res (.s (.v (.int .i64) c1)) [.box (.pr (.sl (.int .u8)) (.pr (.int .i64) (.int .u64))) c1o0] [] [], .res (.s (.v .bool true)) [] [] [], .res (.s (.v .bool true)) [.box (.pr (.sl (.int .u8)) (.pr (.int .i64) (.int .u64))) c3o0] [] [], .res (.s (.v (.int .i64) c4)) [.box (.pr (.sl (.int .u8)) (.pr (.int .i64) (.int .u64))) c4o0] [] []])
    (ps := [SC cfg.P i_spec_l1Cur_carets [.s (.mbx (.pr (.sl (.int .u8)) (.pr (.int .i64) (.int .u64))) (a0, ((0 : Int), (0 : Int)))), .s (.v (.int .i64) (5 : Int))] (.s (.v (.int .i64) c1)) [.box (.pr (.sl (.int .u8)) (.pr (.int .i64) (.int .u64))) c1o0],
      SC cfg.P i_spec_trSize [.s (.v (.int .i64) c1)] (.s (.v .bool true)) [],
      SC cfg.P i_spec_l1Cur_one [.s (.mbx (.pr (.sl (.int .u8)) (.pr (.int .i64) (.int .u64))) c1o0), .s (.v (.int .i64) (4 : Int))] (.s (.v .bool true)) [.box (.pr (.sl (.int .u8)) (.pr (.int .i64) (.int .u64))) c3o0],
      SC cfg.P i_spec_l1Cur_among [.s (.mbx (.pr (.sl (.int .u8)) (.pr (.int .i64) (.int .u64))) c3o0), .s (.v (.sl (.int .i64)) ([(-1 : Int), (0 : Int), (1 : Int), (2 : Int), (5 : Int), (14 : Int), (42 : Int), (4611686018427387904 : Int)] : List Int))] (.s (.v (.int .i64) c4)) [.box (.pr (.sl (.int .u8)) (.pr (.int .i64) (.int .u64))) c4o0]]) (by kernel_rfl) ⟨h1, h2, h3, h4, trivial⟩ get_spec_DrawTreeAt (by decide)

theorem spec_DrawTreeAt_p2 (a0 : (List Int)) (c1 : Int) (c1o0 : ((List Int) × (Int × Int))) (c3o0 : ((List Int) × (Int × Int))) (c4 : Int) (c5 : Int) (c5o0 : ((List Int) × (Int × Int)))
    (h1 : SC cfg.P i_spec_l1Cur_carets [.s (.mbx (.pr (.sl (.int .u8)) (.pr (.int .i64) (.int .u64))) (a0, ((0 : Int), (0 : Int)))), .s (.v (.int .i64) (5 : Int))] (.s (.v (.int .i64) c1)) [.box (.pr (.sl (.int .u8)) (.pr (.int .i64) (.int .u64))) c1o0])
    (h2 : SC cfg.P i_spec_trSize [.s (.v (.int .i64) c1)] (.s (.v .bool true)) [])
    (h3 : SC cfg.P i_spec_l1Cur_one [.s (.mbx (.pr (.sl (.int .u8)) (.pr (.int .i64) (.int .u64))) c1o0), .s (.v (.int .i64) (4 : Int))] (.s (.v .bool false)) [.box (.pr (.sl (.int .u8)) (.pr (.int .i64) (.int .u64))) c3o0])
    (h4 : SC cfg.P i_spec_trCount [.s (.v (.int .i64) c1)] (.s (.v (.int .i64) c4)) [])
    (h5 : SC cfg.P i_spec_l1Cur_pick [.s (.mbx (.pr (.sl (.int .u8)) (.pr (.int .i64) (.int .u64))) c3o0), .s (.v (.int .i64) c4)] (.s (.v (.int .i64) c5)) [.box (.pr (.sl (.int .u8)) (.pr (.int .i64) (.int .u64))) c5o0]) :
    SC cfg.P i_spec_DrawTreeAt [.s (.v (.sl (.int .u8)) a0)] (.tup [.v (.int .i64) c1, .v (.int .i64) c5]) [] :=
  SC_of_run cfgOK (its := [.res (.s (.v (.int .i64) c1)) [.box (.pr (.sl (.int .u8)) (.pr (.int .i64) (.int .u64))) c1o0] [] [], .res (.s (.v .bool true)) [] [] [], .res (.s (.v .bool false)) [.box (.pr (.sl (.int .u8)) (.pr (.int .i64) (.int .u64))) c3o0] [] [], .res (.s (.v (.int .i64) c4)) [] [] [], .res (.s (.v (.int .i64) c5)) [.box (.pr (.sl (.int .u8)) (.pr (.int .i64) (.int .u64))) c5o0] [] []])
    (ps := [SC cfg.P i_spec_l1Cur_carets [.s (.mbx (.pr (.sl (.int .u8)) (.pr (.int .i64) (.int .u64))) (a0, ((0 : Int), (0 : Int)))), .s (.v (.int .i64) (5 : Int))] (.s (.v (.int .i64) c1)) [.box (.pr (.sl (.int .u8)) (.pr (.int .i64) (.int .u64))) c1o0],
      SC cfg.P i_spec_trSize [.s (.v (.int .i64) c1)] (.s (.v .bool true)) [],
      SC cfg.P i_spec_l1Cur_one [.s (.mbx (.pr (.sl (.int .u8)) (.pr (.int .i64) (.int .u64))) c1o0), .s (.v (.int .i64) (4 : Int))] (.s (.v .bool false)) [.box (.pr (.sl (.int .u8)) (.pr (.int .i64) (.int .u64))) c3o0],
      SC cfg.P i_spec_trCount [.s (.v (.int .i64) c1)] (.s (.v (.int .i64) c4)) [],
      SC cfg.P i_spec_l1Cur_pick [.s (.mbx (.pr (.sl (.int .u8)) (.pr (.int .i64) (.int .u64))) c3o0), .s (.v (.int .i64) c4)] (.s (.v (.int .i64) c5)) [.box (.pr (.sl (.int .u8)) (.pr (.int .i64) (.int .u64))) c5o0]]) (by kernel_rfl) ⟨h1, h2, h3, h4, h5, trivial⟩ get_spec_DrawTreeAt (by decide)

theorem spec_DrawTreeAt_p3 (a0 : (List Int)) (c1 : Int) (c1o0 : ((List Int) × (Int × Int))) (c3 : Int) (c3o0 : ((List Int) × (Int × Int)))
    (h1 : SC cfg.P i_spec_l1Cur_carets [.s (.mbx (.pr (.sl (.int .u8)) (.pr (.int .i64) (.int .u64))) (a0, ((0 : Int), (0 : Int)))), .s (.v (.int .i64) (5 : Int))] (.s (.v (.int .i64) c1)) [.box (.pr (.sl (.int .u8)) (.pr (.int .i64) (.int .u64))) c1o0])
    (h2 : SC cfg.P i_spec_trSize [.s (.v (.int .i64) c1)] (.s (.v .bool false)) [])
    (h3 : SC cfg.P i_spec_l1Cur_among [.s (.mbx (.pr (.sl (.int .u8)) (.pr (.int .i64) (.int .u64))) c1o0), .s (.v (.sl (.int .i64)) ([(-1 : Int), (0 : Int), (1 : Int), (2 : Int), (5 : Int), (14 : Int), (42 : Int), (4611686018427387904 : Int)] : List Int))] (.s (.v (.int .i64) c3)) [.box (.pr (.sl (.int .u8)) (.pr (.int .i64) (.int .u64))) c3o0]) :
    SC cfg.P i_spec_DrawTreeAt [.s (.v (.sl (.int .u8)) a0)] (.tup [.v (.int .i64) c1, .v (.int .i64) c3]) [] :=
  SC_of_run cfgOK (its := [.res (.s (.v (.int .i64) c1)) [.box (.pr (.sl (.int .u8)) (.pr (.int .i64) (.int .u64))) c1o0] [] [], .res (.s (.v .bool false)) [] [] [], .res (.s (.v (.int .i64) c3)) [.box (.pr (.sl (.int .u8)) (.pr (.int .i64) (.int .u64))) c3o0] [] []])
    (ps := [SC cfg.P i_spec_l1Cur_carets [.s (.mbx (.pr (.sl (.int .u8)) (.pr (.int .i64) (.int .u64))) (a0, ((0 : Int), (0 : Int)))), .s (.v (.int .i64) (5 : Int))] (.s (.v (.int .i64) c1)) [.box (.pr (.sl (.int .u8)) (.pr (.int .i64) (.int .u64))) c1o0],
      SC cfg.P i_spec_trSize [.s (.v (.int .i64) c1)] (.s (.v .bool false)) [],
      SC cfg.P i_spec_l1Cur_among [.s (.mbx (.pr (.sl (.int .u8)) (.pr (.int .i64) (.int .u64))) c1o0), .s (.v (.sl (.int .i64)) ([(-1 : Int), (0 : Int), (1 : Int), (2 : Int), (5 : Int), (14 : Int), (42 : Int), (4611686018427387904 : Int)] : List Int))] (.s (.v (.int .i64) c3)) [.box (.pr (.sl (.int .u8)) (.pr (.int .i64) (.int .u64))) c3o0]]) (by kernel_rfl) ⟨h1, h2, h3, trivial⟩ get_spec_DrawTreeAt (by decide)

/-! ### impl_TreeAt -/


theorem impl_TreeAt_p1 (a0 : Int) (a1 : Int) (c2 : (List ByteArray))
    (h1 : SC cfg.P i_impl_isCarets [.s (.v (.int .i64) a0)] (.s (.v .bool true)) [])
    (h2 : SC cfg.P i_impl_trees [.s (.v (.int .i64) a0)] (.s (.v (.sl .str) c2)) [])
    (h3 : a1 < (0 : Int)) :
    SC cfg.P i_impl_TreeAt [.s (.v (.int .i64) a0), .s (.v (.int .i64) a1)] (.tup [.v .str (⟨#[]⟩ : ByteArray), .v .bool false]) [] :=
  SC_of_run cfgOK (its := [.res (.s (.v .bool true)) [] [] [], .res (.s (.v (.sl .str) c2)) [] [] [], .bool true])
    (ps := [SC cfg.P i_impl_isCarets [.s (.v (.int .i64) a0)] (.s (.v .bool true)) [],
      SC cfg.P i_impl_trees [.s (.v (.int .i64) a0)] (.s (.v (.sl .str) c2)) [],
      decide (a1 < (0 : Int)) = true]) (by kernel_rfl) ⟨h1, h2, (decide_eq_true h3), trivial⟩ get_impl_TreeAt (by decide)

theorem impl_TreeAt_p2 (a0 : Int) (a1 : Int) (c2 : (List ByteArray))
    (h1 : SC cfg.P i_impl_isCarets [.s (.v (.int .i64) a0)] (.s (.v .bool true)) [])
    (h2 : SC cfg.P i_impl_trees [.s (.v (.int .i64) a0)] (.s (.v (.sl .str) c2)) [])
    (h3 : ¬ (a1 < (0 : Int)))
    (h4 : a1 ≥ ((List.length c2 : Nat) : Int)) :
    SC cfg.P i_impl_TreeAt [.s (.v (.int .i64) a0), .s (.v (.int .i64) a1)] (.tup [.v .str (⟨#[]⟩ : ByteArray), .v .bool false]) [] :=
  SC_of_run cfgOK (its := [.res (.s (.v .bool true)) [] [] [], .res (.s (.v (.sl .str) c2)) [] [] [], .bool false, .bool true])
    (ps := [SC cfg.P i_impl_isCarets [.s (.v (.int .i64) a0)] (.s (.v .bool true)) [],
      SC cfg.P i_impl_trees [.s (.v (.int .i64) a0)] (.s (.v (.sl .str) c2)) [],
      decide (a1 < (0 : Int)) = false,
      decide (a1 ≥ ((List.length c2 : Nat) : Int)) = true]) (by kernel_rfl) ⟨h1, h2, (decide_eq_false h3), (decide_eq_true h4), trivial⟩ get_impl_TreeAt (by decide)

theorem impl_TreeAt_p3 (a0 : Int) (a1 : Int) (c2 : (List ByteArray))
    (h1 : SC cfg.P i_impl_isCarets [.s (.v (.int .i64) a0)] (.s (.v .bool true)) [])
    (h2 : SC cfg.P i_impl_trees [.s (.v (.int .i64) a0)] (.s (.v (.sl .str) c2)) [])
    (h3 : ¬ (a1 < (0 : Int)))
    (h4 : ¬ (a1 ≥ ((List.length c2 : Nat) : Int)))
    (h5 : 0 ≤ a1)
    (h6 : a1 < (List.length c2 : Int)) :
    SC cfg.P i_impl_TreeAt [.s (.v (.int .i64) a0), .s (.v (.int .i64) a1)] (.tup [.v .str (List.getD c2 (a1).toNat (⟨#[]⟩ : ByteArray)), .v .bool true]) [] :=
  SC_of_run cfgOK (its := [.res (.s (.v .bool true)) [] [] [], .res (.s (.v (.sl .str) c2)) [] [] [], .bool false, .bool false])
    (ps := [SC cfg.P i_impl_isCarets [.s (.v (.int .i64) a0)] (.s (.v .bool true)) [],
      SC cfg.P i_impl_trees [.s (.v (.int .i64) a0)] (.s (.v (.sl .str) c2)) [],
      decide (a1 < (0 : Int)) = false,
      decide (a1 ≥ ((List.length c2 : Nat) : Int)) = false,
      0 ≤ a1,
      a1 < (List.length c2 : Int)]) (by kernel_rfl) ⟨h1, h2, (decide_eq_false h3), (decide_eq_false h4), h5, h6, trivial⟩ get_impl_TreeAt (by decide)

theorem impl_TreeAt_p4 (a0 : Int) (a1 : Int)
    (h1 : SC cfg.P i_impl_isCarets [.s (.v (.int .i64) a0)] (.s (.v .bool false)) []) :
    SC cfg.P i_impl_TreeAt [.s (.v (.int .i64) a0), .s (.v (.int .i64) a1)] (.tup [.v .str (⟨#[]⟩ : ByteArray), .v .bool false]) [] :=
  SC_of_run cfgOK (its := [.res (.s (.v .bool false)) [] [] []])
    (ps := [SC cfg.P i_impl_isCarets [.s (.v (.int .i64) a0)] (.s (.v .bool false)) []]) (by kernel_rfl) ⟨h1, trivial⟩ get_impl_TreeAt (by decide)

/-! ### spec_TreeAt -/


theorem spec_TreeAt_p1 (a0 : Int) (a1 : Int) (c2 : Int) (c4 : (List ByteArray))
    (h1 : SC cfg.P i_spec_trSize [.s (.v (.int .i64) a0)] (.s (.v .bool true)) [])
    (h2 : SC cfg.P i_spec_trCount [.s (.v (.int .i64) a0)] (.s (.v (.int .i64) c2)) [])
    (h3 : SC cfg.P i_spec_l1In [.s (.v (.int .i64) a1), .s (.v (.int .i64) (0 : Int)), .s (.v (.int .i64) (IntKind.wrap .i64 (c2 - (1 : Int))))] (.s (.v .bool true)) [])
    (h4 : SC cfg.P i_spec_trList [.s (.v (.int .i64) a0)] (.s (.own t_string .str c4)) [])
    (h5 : 0 ≤ a1)
    (h6 : a1 < (List.length c4 : Int))
    (h7 : (a1).toNat < List.length c4) :
    SC cfg.P i_spec_TreeAt [.s (.v (.int .i64) a0), .s (.v (.int .i64) a1)] (.tup [.v .str (List.getD c4 (a1).toNat (⟨#[]⟩ : ByteArray)), .v .bool true]) [] :=
  SC_of_run cfgOK (its := [.res (.s (.v .bool true)) [] [] [], .res (.s (.v (.int .i64) c2)) [] [] [], .res (.s (.v .bool true)) [] [] [], .res (.s (.own t_string .str c4)) [] [] [18]])
    (ps := [SC cfg.P i_spec_trSize [.s (.v (.int .i64) a0)] (.s (.v .bool true)) [],
      SC cfg.P i_spec_trCount [.s (.v (.int .i64) a0)] (.s (.v (.int .i64) c2)) [],
      SC cfg.P i_spec_l1In [.s (.v (.int .i64) a1), .s (.v (.int .i64) (0 : Int)), .s (.v (.int .i64) (IntKind.wrap .i64 (c2 - (1 : Int))))] (.s (.v .bool true)) [],
      SC cfg.P i_spec_trList [.s (.v (.int .i64) a0)] (.s (.own t_string .str c4)) [],
      0 ≤ a1,
      a1 < (List.length c4 : Int),
      (a1).toNat < List.length c4]) (by kernel_rfl) ⟨h1, h2, h3, h4, h5, h6, h7, trivial⟩ get_spec_TreeAt (by decide)

theorem spec_TreeAt_p2 (a0 : Int) (a1 : Int) (c2 : Int)
    (h1 : SC cfg.P i_spec_trSize [.s (.v (.int .i64) a0)] (.s (.v .bool true)) [])
    (h2 : SC cfg.P i_spec_trCount [.s (.v (.int .i64) a0)] (.s (.v (.int .i64) c2)) [])
    (h3 : SC cfg.P i_spec_l1In [.s (.v (.int .i64) a1), .s (.v (.int .i64) (0 : Int)), .s (.v (.int .i64) (IntKind.wrap .i64 (c2 - (1 : Int))))] (.s (.v .bool false)) []) :
    SC cfg.P i_spec_TreeAt [.s (.v (.int .i64) a0), .s (.v (.int .i64) a1)] (.tup [.v .str (⟨#[]⟩ : ByteArray), .v .bool false]) [] :=
  SC_of_run cfgOK (its := [.res (.s (.v .bool true)) [] [] [], .res (.s (.v (.int .i64) c2)) [] [] [], .res (.s (.v .bool false)) [] [] []])
    (ps := [SC cfg.P i_spec_trSize [.s (.v (.int .i64) a0)] (.s (.v .bool true)) [],
      SC cfg.P i_spec_trCount [.s (.v (.int .i64) a0)] (.s (.v (.int .i64) c2)) [],
      SC cfg.P i_spec_l1In [.s (.v (.int .i64) a1), .s (.v (.int .i64) (0 : Int)), .s (.v (.int .i64) (IntKind.wrap .i64 (c2 - (1 : Int))))] (.s (.v .bool false)) []]) (by kernel_rfl) ⟨h1, h2, h3, trivial⟩ get_spec_TreeAt (by decide)

theorem spec_TreeAt_p3 (a0 : Int) (a1 : Int)
    (h1 : SC cfg.P i_spec_trSize [.s (.v (.int .i64) a0)] (.s (.v .bool false)) []) :
    SC cfg.P i_spec_TreeAt [.s (.v (.int .i64) a0), .s (.v (.int .i64) a1)] (.tup [.v .str (⟨#[]⟩ : ByteArray), .v .bool false]) [] :=
  SC_of_run cfgOK (its := [.res (.s (.v .bool false)) [] [] []])
    (ps := [SC cfg.P i_spec_trSize [.s (.v (.int .i64) a0)] (.s (.v .bool false)) []]) (by kernel_rfl) ⟨h1, trivial⟩ get_spec_TreeAt (by decide)

/-! ### impl_CountTrees -/


theorem impl_CountTrees_p1 (a0 : Int) (c2 : (List ByteArray))
    (h1 : SC cfg.P i_impl_isCarets [.s (.v (.int .i64) a0)] (.s (.v .bool true)) [])
    (h2 : SC cfg.P i_impl_trees [.s (.v (.int .i64) a0)] (.s (.v (.sl .str) c2)) []) :
    SC cfg.P i_impl_CountTrees [.s (.v (.int .i64) a0)] (.tup [.v (.int .i64) ((List.length c2 : Nat) : Int), .v .bool true]) [] :=
  SC_of_run cfgOK (its := [.res (.s (.v .bool true)) [] [] [], .res (.s (.v (.sl .str) c2)) [] [] []])
    (ps := [SC cfg.P i_impl_isCarets [.s (.v (.int .i64) a0)] (.s (.v .bool true)) [],
      SC cfg.P i_impl_trees [.s (.v (.int .i64) a0)] (.s (.v (.sl .str) c2)) []]) (by kernel_rfl) ⟨h1, h2, trivial⟩ get_impl_CountTrees (by decide)

theorem impl_CountTrees_p2 (a0 : Int)
    (h1 : SC cfg.P i_impl_isCarets [.s (.v (.int .i64) a0)] (.s (.v .bool false)) []) :
    SC cfg.P i_impl_CountTrees [.s (.v (.int .i64) a0)] (.tup [.v (.int .i64) (0 : Int), .v .bool false]) [] :=
  SC_of_run cfgOK (its := [.res (.s (.v .bool false)) [] [] []])
    (ps := [SC cfg.P i_impl_isCarets [.s (.v (.int .i64) a0)] (.s (.v .bool false)) []]) (by kernel_rfl) ⟨h1, trivial⟩ get_impl_CountTrees (by decide)

/-! ### spec_CountTrees -/


theorem spec_CountTrees_p1 (a0 : Int) (c2 : Int)
    (h1 : SC cfg.P i_spec_trSize [.s (.v (.int .i64) a0)] (.s (.v .bool true)) [])
    (h2 : SC cfg.P i_spec_trCount [.s (.v (.int .i64) a0)] (.s (.v (.int .i64) c2)) []) :
    SC cfg.P i_spec_CountTrees [.s (.v (.int .i64) a0)] (.tup [.v (.int .i64) c2, .v .bool true]) [] :=
  SC_of_run cfgOK (its := [.res (.s (.v .bool true)) [] [] [], .res (.s (.v (.int .i64) c2)) [] [] []])
    (ps := [SC cfg.P i_spec_trSize [.s (.v (.int .i64) a0)] (.s (.v .bool true)) [],
      SC cfg.P i_spec_trCount [.s (.v (.int .i64) a0)] (.s (.v (.int .i64) c2)) []]) (by kernel_rfl) ⟨h1, h2, trivial⟩ get_spec_CountTrees (by decide)

theorem spec_CountTrees_p2 (a0 : Int)
    (h1 : SC cfg.P i_spec_trSize [.s (.v (.int .i64) a0)] (.s (.v .bool false)) []) :
    SC cfg.P i_spec_CountTrees [.s (.v (.int .i64) a0)] (.tup [.v (.int .i64) (0 : Int), .v .bool false]) [] :=
  SC_of_run cfgOK (its := [.res (.s (.v .bool false)) [] [] []])
    (ps := [SC cfg.P i_spec_trSize [.s (.v (.int .i64) a0)] (.s (.v .bool false)) []]) (by kernel_rfl) ⟨h1, trivial⟩ get_spec_CountTrees (by decide)

/-! ### spec_DrawAllTrees -/


theorem spec_DrawAllTrees_p1 (a0 : (List Int)) (c1 : Int) (c1o0 : ((List Int) × (Int × Int)))
    (h1 : SC cfg.P i_spec_l1Cur_carets [.s (.mbx (.pr (.sl (.int .u8)) (.pr (.int .i64) (.int .u64))) (a0, ((0 : Int), (0 : Int)))), .s (.v (.int .i64) (5 : Int))] (.s (.v (.int .i64) c1)) [.box (.pr (.sl (.int .u8)) (.pr (.int .i64) (.int .u64))) c1o0]) :
    SC cfg.P i_spec_DrawAllTrees [.s (.v (.sl (.int .u8)) a0)] (.s (.v (.int .i64) c1)) [] :=
  SC_of_run cfgOK (its := [.res (.s (.v (.int .i64) c1)) [.box (.pr (.sl (.int .u8)) (.pr (.int .i64) (.int .u64))) c1o0] [] []])
    (ps := [SC cfg.P i_spec_l1Cur_carets [.s (.mbx (.pr (.sl (.int .u8)) (.pr (.int .i64) (.int .u64))) (a0, ((0 : Int), (0 : Int)))), .s (.v (.int .i64) (5 : Int))] (.s (.v (.int .i64) c1)) [.box (.pr (.sl (.int .u8)) (.pr (.int .i64) (.int .u64))) c1o0]]) (by kernel_rfl) ⟨h1, trivial⟩ get_spec_DrawAllTrees (by decide)

/-! ### impl_AllTrees -/


theorem impl_AllTrees_p1 (a0 : Int)
    (h1 : a0 < (0 : Int)) :
    SC cfg.P i_impl_AllTrees [.s (.v (.int .i64) a0)] (.tup [.own t_string .str ([] : List ByteArray), .v .bool false]) [] :=
  SC_of_run cfgOK (its := [.bool true])
    (ps := [decide (a0 < (0 : Int)) = true]) (by kernel_rfl) ⟨(decide_eq_true h1), trivial⟩ get_impl_AllTrees (by decide)

theorem impl_AllTrees_p2 (a0 : Int)
    (h1 : ¬ (a0 < (0 : Int)))
    (h2 : a0 > (5 : Int)) :
    SC cfg.P i_impl_AllTrees [.s (.v (.int .i64) a0)] (.tup [.own t_string .str ([] : List ByteArray), .v .bool false]) [] :=
  SC_of_run cfgOK (its := [.bool false, .bool true])
    (ps := [decide (a0 < (0 : Int)) = false,
      decide (a0 > (5 : Int)) = true]) (by kernel_rfl) ⟨(decide_eq_false h1), (decide_eq_true h2), trivial⟩ get_impl_AllTrees (by decide)

theorem impl_AllTrees_p3 (a0 : Int) (c1 : (List ByteArray))
    (h1 : ¬ (a0 < (0 : Int)))
    (h2 : ¬ (a0 > (5 : Int)))
    (h3 : SC cfg.P i_impl_trees [.s (.v (.int .i64) a0)] (.s (.v (.sl .str) c1)) []) :
    SC cfg.P i_impl_AllTrees [.s (.v (.int .i64) a0)] (.tup [.v (.sl .str) c1, .v .bool true]) [] :=
  SC_of_run cfgOK (its := [.bool false, .bool false, .res (.s (.v (.sl .str) c1)) [] [] []])
    (ps := [decide (a0 < (0 : Int)) = false,
      decide (a0 > (5 : Int)) = false,
      SC cfg.P i_impl_trees [.s (.v (.int .i64) a0)] (.s (.v (.sl .str) c1)) []]) (by kernel_rfl) ⟨(decide_eq_false h1), (decide_eq_false h2), h3, trivial⟩ get_impl_AllTrees (by decide)

/-! ### spec_AllTrees -/


theorem spec_AllTrees_p1 (a0 : Int) (c2 : (List ByteArray))
    (h1 : SC cfg.P i_spec_l1In [.s (.v (.int .i64) a0), .s (.v (.int .i64) (0 : Int)), .s (.v (.int .i64) (5 : Int))] (.s (.v .bool true)) [])
    (h2 : SC cfg.P i_spec_trList [.s (.v (.int .i64) a0)] (.s (.own t_string .str c2)) []) :
    SC cfg.P i_spec_AllTrees [.s (.v (.int .i64) a0)] (.tup [.own t_string .str c2, .v .bool true]) [] :=
  SC_of_run cfgOK (its := [.res (.s (.v .bool true)) [] [] [], .res (.s (.own t_string .str c2)) [] [] [8]])
    (ps := [SC cfg.P i_spec_l1In [.s (.v (.int .i64) a0), .s (.v (.int .i64) (0 : Int)), .s (.v (.int .i64) (5 : Int))] (.s (.v .bool true)) [],
      SC cfg.P i_spec_trList [.s (.v (.int .i64) a0)] (.s (.own t_string .str c2)) []]) (by kernel_rfl) ⟨h1, h2, trivial⟩ get_spec_AllTrees (by decide)

theorem spec_AllTrees_p2 (a0 : Int)
    (h1 : SC cfg.P i_spec_l1In [.s (.v (.int .i64) a0), .s (.v (.int .i64) (0 : Int)), .s (.v (.int .i64) (5 : Int))] (.s (.v .bool false)) []) :
    SC cfg.P i_spec_AllTrees [.s (.v (.int .i64) a0)] (.tup [.own t_string .str ([] : List ByteArray), .v .bool false]) [] :=
  SC_of_run cfgOK (its := [.res (.s (.v .bool false)) [] [] []])
    (ps := [SC cfg.P i_spec_l1In [.s (.v (.int .i64) a0), .s (.v (.int .i64) (0 : Int)), .s (.v (.int .i64) (5 : Int))] (.s (.v .bool false)) []]) (by kernel_rfl) ⟨h1, trivial⟩ get_spec_AllTrees (by decide)

/-! ### laws_fTexts -/


def laws_fTexts_L0a (x0 : (List ByteArray)) (x1 : (List ByteArray)) (x12 : Int) (x13 : Int) : St := mkSt 26 [(0, .s (.v (.sl .str) x0)), (1, .s (.v (.sl .str) x1)), (12, .s (.v (.int .i64) x12)), (13, .s (.v (.int .i64) x13))] []

def laws_fTexts_L0X2 (y0 : (List ByteArray)) (y1 : (List ByteArray)) (y12 : Int) (y13 : Int) (y14 : Bool) : St := mkSt 26 [(0, .s (.v (.sl .str) y0)), (1, .s (.v (.sl .str) y1)), (12, .s (.v (.int .i64) y12)), (13, .s (.v (.int .i64) y13)), (14, .s (.v .bool y14))] []

theorem laws_fTexts_L0a_i2 (x0 : (List ByteArray)) (x1 : (List ByteArray)) (x12 : Int) (x13 : Int)
    (h1 : x13 < x12)
    (h2 : 0 ≤ x13)
    (h3 : x13 < (List.length x0 : Int))
    (h4 : x13 < (List.length x1 : Int))
    (h5 : (List.getD x0 (x13).toNat (⟨#[]⟩ : ByteArray)) = (List.getD x1 (x13).toNat (⟨#[]⟩ : ByteArray)))
    {e : AEx} {st : St} (next : LoopSC cfg.P 2 (lb P_laws_fTexts 0) (laws_fTexts_L0a x0 x1 x12 (IntKind.wrap .i64 (x13 + (1 : Int)))) e st) :
    LoopSC cfg.P 2 (lb P_laws_fTexts 0) (laws_fTexts_L0a x0 x1 x12 x13) e st :=
  loop_iter cfgOK (f := i_laws_fTexts) (its := [.bool true, .bool false])
    (ps := [decide (x13 < x12) = true,
      0 ≤ x13,
      x13 < (List.length x0 : Int),
      0 ≤ x13,
      x13 < (List.length x1 : Int),
      (!(((List.getD x0 (x13).toNat (⟨#[]⟩ : ByteArray))).toList == ((List.getD x1 (x13).toNat (⟨#[]⟩ : ByteArray))).toList)) = false]) (st1 := laws_fTexts_L0a x0 x1 x12 (IntKind.wrap .i64 (x13 + (1 : Int)))) (by kernel_rfl) ⟨(decide_eq_true h1), h2, h3, h2, h4, (nseq_f h5), trivial⟩ next

theorem laws_fTexts_L0a_x3 (x0 : (List ByteArray)) (x1 : (List ByteArray)) (x12 : Int) (x13 : Int)
    (h1 : ¬ (x13 < x12)) :
    LoopSC cfg.P 2 (lb P_laws_fTexts 0) (laws_fTexts_L0a x0 x1 x12 x13) (.exit 0) (laws_fTexts_L0X2 x0 x1 x12 x13 false) :=
  loop_out cfgOK (f := i_laws_fTexts) (its := [.bool false])
    (ps := [decide (x13 < x12) = false]) (by kernel_rfl) ⟨(decide_eq_false h1), trivial⟩ (fun h => by cases h)

theorem laws_fTexts_p3 (a0 : (List ByteArray)) (a1 : (List ByteArray)) (k1y0 : (List ByteArray)) (k1y1 : (List ByteArray)) (k1y12 : Int) (k1y13 : Int) (k1y14 : Bool)
    (h1 : ((List.length a0 : Nat) : Int) = ((List.length a1 : Nat) : Int))
    (h2 : LoopSC cfg.P 2 (lb P_laws_fTexts 0) (laws_fTexts_L0a a0 a1 ((List.length a0 : Nat) : Int) (0 : Int)) (.exit 0) (laws_fTexts_L0X2 k1y0 k1y1 k1y12 k1y13 k1y14)) :
    SC cfg.P i_laws_fTexts [.s (.v (.sl .str) a0), .s (.v (.sl .str) a1)] (.s (.v .bool true)) [] :=
  SC_of_run cfgOK (its := [.bool false, .loop (fun _ => (.exit 0, laws_fTexts_L0X2 k1y0 k1y1 k1y12 k1y13 k1y14))])
    (ps := [(((List.length a0 : Nat) : Int) != ((List.length a1 : Nat) : Int)) = false,
      LoopSC cfg.P 2 (lb P_laws_fTexts 0) (laws_fTexts_L0a a0 a1 ((List.length a0 : Nat) : Int) (0 : Int)) (.exit 0) (laws_fTexts_L0X2 k1y0 k1y1 k1y12 k1y13 k1y14)]) (by kernel_rfl) ⟨(bne_eq_false_iff_eq.mpr h1), h2, trivial⟩ get_laws_fTexts (by decide)

/-! ### impl_LeftComb -/


theorem impl_LeftComb_p1 (a0 : Int) (c2 : Tr) (c3 : Tr) (c4 : ByteArray)
    (h1 : SC cfg.P i_impl_isCarets [.s (.v (.int .i64) a0)] (.s (.v .bool true)) [])
    (h2 : SC cfg.P i_impl_rightComb [.s (.v (.int .i64) a0)] (.s (.v .tree c2)) [])
    (h3 : SC cfg.P i_impl_node_mirror [.s (.v .tree c2)] (.s (.v .tree c3)) [])
    (h4 : SC cfg.P i_impl_node_text [.s (.v .tree c3)] (.s (.v .str c4)) []) :
    SC cfg.P i_impl_LeftComb [.s (.v (.int .i64) a0)] (.tup [.v .str c4, .v .bool true]) [] :=
  SC_of_run cfgOK (its := [.res (.s (.v .bool true)) [] [] [], .res (.s (.v .tree c2)) [] [] [], .res (.s (.v .tree c3)) [] [] [], .res (.s (.v .str c4)) [] [] []])
    (ps := [SC cfg.P i_impl_isCarets [.s (.v (.int .i64) a0)] (.s (.v .bool true)) [],
      SC cfg.P i_impl_rightComb [.s (.v (.int .i64) a0)] (.s (.v .tree c2)) [],
      SC cfg.P i_impl_node_mirror [.s (.v .tree c2)] (.s (.v .tree c3)) [],
      SC cfg.P i_impl_node_text [.s (.v .tree c3)] (.s (.v .str c4)) []]) (by kernel_rfl) ⟨h1, h2, h3, h4, trivial⟩ get_impl_LeftComb (by decide)

theorem impl_LeftComb_p2 (a0 : Int)
    (h1 : SC cfg.P i_impl_isCarets [.s (.v (.int .i64) a0)] (.s (.v .bool false)) []) :
    SC cfg.P i_impl_LeftComb [.s (.v (.int .i64) a0)] (.tup [.v .str (⟨#[]⟩ : ByteArray), .v .bool false]) [] :=
  SC_of_run cfgOK (its := [.res (.s (.v .bool false)) [] [] []])
    (ps := [SC cfg.P i_impl_isCarets [.s (.v (.int .i64) a0)] (.s (.v .bool false)) []]) (by kernel_rfl) ⟨h1, trivial⟩ get_impl_LeftComb (by decide)

/-! ### impl_RightComb -/


theorem impl_RightComb_p1 (a0 : Int) (c2 : Tr) (c3 : ByteArray)
    (h1 : SC cfg.P i_impl_isCarets [.s (.v (.int .i64) a0)] (.s (.v .bool true)) [])
    (h2 : SC cfg.P i_impl_rightComb [.s (.v (.int .i64) a0)] (.s (.v .tree c2)) [])
    (h3 : SC cfg.P i_impl_node_text [.s (.v .tree c2)] (.s (.v .str c3)) []) :
    SC cfg.P i_impl_RightComb [.s (.v (.int .i64) a0)] (.tup [.v .str c3, .v .bool true]) [] :=
  SC_of_run cfgOK (its := [.res (.s (.v .bool true)) [] [] [], .res (.s (.v .tree c2)) [] [] [], .res (.s (.v .str c3)) [] [] []])
    (ps := [SC cfg.P i_impl_isCarets [.s (.v (.int .i64) a0)] (.s (.v .bool true)) [],
      SC cfg.P i_impl_rightComb [.s (.v (.int .i64) a0)] (.s (.v .tree c2)) [],
      SC cfg.P i_impl_node_text [.s (.v .tree c2)] (.s (.v .str c3)) []]) (by kernel_rfl) ⟨h1, h2, h3, trivial⟩ get_impl_RightComb (by decide)

theorem impl_RightComb_p2 (a0 : Int)
    (h1 : SC cfg.P i_impl_isCarets [.s (.v (.int .i64) a0)] (.s (.v .bool false)) []) :
    SC cfg.P i_impl_RightComb [.s (.v (.int .i64) a0)] (.tup [.v .str (⟨#[]⟩ : ByteArray), .v .bool false]) [] :=
  SC_of_run cfgOK (its := [.res (.s (.v .bool false)) [] [] []])
    (ps := [SC cfg.P i_impl_isCarets [.s (.v (.int .i64) a0)] (.s (.v .bool false)) []]) (by kernel_rfl) ⟨h1, trivial⟩ get_impl_RightComb (by decide)

/-! ### impl_IsTree -/


theorem impl_IsTree_p1 (a0 : ByteArray) (c1a : Tr) (c1b : Bool)
    (h1 : SC cfg.P i_impl_parse [.s (.v .str a0)] (.tup [.v .tree c1a, .v .bool c1b]) []) :
    SC cfg.P i_impl_IsTree [.s (.v .str a0)] (.s (.v .bool c1b)) [] :=
  SC_of_run cfgOK (its := [.res (.tup [.v .tree c1a, .v .bool c1b]) [] [] []])
    (ps := [SC cfg.P i_impl_parse [.s (.v .str a0)] (.tup [.v .tree c1a, .v .bool c1b]) []]) (by kernel_rfl) ⟨h1, trivial⟩ get_impl_IsTree (by decide)

/-! ### spec_DrawRightComb -/


theorem spec_DrawRightComb_p1 (a0 : (List Int)) (c1 : Int) (c1o0 : ((List Int) × (Int × Int)))
    (h1 : SC cfg.P i_spec_l1Cur_carets [.s (.mbx (.pr (.sl (.int .u8)) (.pr (.int .i64) (.int .u64))) (a0, ((0 : Int), (0 : Int)))), .s (.v (.int .i64) (8 : Int))] (.s (.v (.int .i64) c1)) [.box (.pr (.sl (.int .u8)) (.pr (.int .i64) (.int .u64))) c1o0]) :
    SC cfg.P i_spec_DrawRightComb [.s (.v (.sl (.int .u8)) a0)] (.s (.v (.int .i64) c1)) [] :=
  SC_of_run cfgOK (its := [.res (.s (.v (.int .i64) c1)) [.box (.pr (.sl (.int .u8)) (.pr (.int .i64) (.int .u64))) c1o0] [] []])
    (ps := [SC cfg.P i_spec_l1Cur_carets [.s (.mbx (.pr (.sl (.int .u8)) (.pr (.int .i64) (.int .u64))) (a0, ((0 : Int), (0 : Int)))), .s (.v (.int .i64) (8 : Int))] (.s (.v (.int .i64) c1)) [.box (.pr (.sl (.int .u8)) (.pr (.int .i64) (.int .u64))) c1o0]]) (by kernel_rfl) ⟨h1, trivial⟩ get_spec_DrawRightComb (by decide)

/-! ### spec_RightComb -/


theorem spec_RightComb_p1 (a0 : Int) (c2 : ByteArray)
    (h1 : SC cfg.P i_spec_trSize [.s (.v (.int .i64) a0)] (.s (.v .bool true)) [])
    (h2 : SC cfg.P i_spec_trRight [.s (.v (.int .i64) a0)] (.s (.v .str c2)) []) :
    SC cfg.P i_spec_RightComb [.s (.v (.int .i64) a0)] (.tup [.v .str c2, .v .bool true]) [] :=
  SC_of_run cfgOK (its := [.res (.s (.v .bool true)) [] [] [], .res (.s (.v .str c2)) [] [] []])
    (ps := [SC cfg.P i_spec_trSize [.s (.v (.int .i64) a0)] (.s (.v .bool true)) [],
      SC cfg.P i_spec_trRight [.s (.v (.int .i64) a0)] (.s (.v .str c2)) []]) (by kernel_rfl) ⟨h1, h2, trivial⟩ get_spec_RightComb (by decide)

theorem spec_RightComb_p2 (a0 : Int)
    (h1 : SC cfg.P i_spec_trSize [.s (.v (.int .i64) a0)] (.s (.v .bool false)) []) :
    SC cfg.P i_spec_RightComb [.s (.v (.int .i64) a0)] (.tup [.v .str (⟨#[]⟩ : ByteArray), .v .bool false]) [] :=
  SC_of_run cfgOK (its := [.res (.s (.v .bool false)) [] [] []])
    (ps := [SC cfg.P i_spec_trSize [.s (.v (.int .i64) a0)] (.s (.v .bool false)) []]) (by kernel_rfl) ⟨h1, trivial⟩ get_spec_RightComb (by decide)

/-! ### spec_LeftComb -/


theorem spec_LeftComb_p1 (a0 : Int) (c2 : ByteArray) (c3 : ByteArray)
    (h1 : SC cfg.P i_spec_trSize [.s (.v (.int .i64) a0)] (.s (.v .bool true)) [])
    (h2 : SC cfg.P i_spec_trRight [.s (.v (.int .i64) a0)] (.s (.v .str c2)) [])
    (h3 : SC cfg.P i_spec_trMirror [.s (.v .str c2)] (.s (.v .str c3)) []) :
    SC cfg.P i_spec_LeftComb [.s (.v (.int .i64) a0)] (.tup [.v .str c3, .v .bool true]) [] :=
  SC_of_run cfgOK (its := [.res (.s (.v .bool true)) [] [] [], .res (.s (.v .str c2)) [] [] [], .res (.s (.v .str c3)) [] [] []])
    (ps := [SC cfg.P i_spec_trSize [.s (.v (.int .i64) a0)] (.s (.v .bool true)) [],
      SC cfg.P i_spec_trRight [.s (.v (.int .i64) a0)] (.s (.v .str c2)) [],
      SC cfg.P i_spec_trMirror [.s (.v .str c2)] (.s (.v .str c3)) []]) (by kernel_rfl) ⟨h1, h2, h3, trivial⟩ get_spec_LeftComb (by decide)

theorem spec_LeftComb_p2 (a0 : Int)
    (h1 : SC cfg.P i_spec_trSize [.s (.v (.int .i64) a0)] (.s (.v .bool false)) []) :
    SC cfg.P i_spec_LeftComb [.s (.v (.int .i64) a0)] (.tup [.v .str (⟨#[]⟩ : ByteArray), .v .bool false]) [] :=
  SC_of_run cfgOK (its := [.res (.s (.v .bool false)) [] [] []])
    (ps := [SC cfg.P i_spec_trSize [.s (.v (.int .i64) a0)] (.s (.v .bool false)) []]) (by kernel_rfl) ⟨h1, trivial⟩ get_spec_LeftComb (by decide)

/-! ### spec_DrawRankTree -/


theorem spec_DrawRankTree_p1 (a0 : (List Int)) (c1 : ByteArray) (c1o0 : ((List Int) × (Int × Int)))
    (h1 : SC cfg.P i_spec_l1Cur_tree [.s (.mbx (.pr (.sl (.int .u8)) (.pr (.int .i64) (.int .u64))) (a0, ((0 : Int), (0 : Int)))), .s (.v (.int .i64) (5 : Int))] (.s (.v .str c1)) [.box (.pr (.sl (.int .u8)) (.pr (.int .i64) (.int .u64))) c1o0]) :
    SC cfg.P i_spec_DrawRankTree [.s (.v (.sl (.int .u8)) a0)] (.s (.v .str c1)) [] :=
  SC_of_run cfgOK (its := [.res (.s (.v .str c1)) [.box (.pr (.sl (.int .u8)) (.pr (.int .i64) (.int .u64))) c1o0] [] []])
    (ps := [SC cfg.P i_spec_l1Cur_tree [.s (.mbx (.pr (.sl (.int .u8)) (.pr (.int .i64) (.int .u64))) (a0, ((0 : Int), (0 : Int)))), .s (.v (.int .i64) (5 : Int))] (.s (.v .str c1)) [.box (.pr (.sl (.int .u8)) (.pr (.int .i64) (.int .u64))) c1o0]]) (by kernel_rfl) ⟨h1, trivial⟩ get_spec_DrawRankTree (by decide)

/-! ### impl_RankTree -/


theorem impl_RankTree_p1 (a0 : ByteArray) (c1a : Tr) (c2 : Int) (c3 : (List ByteArray)) (c4 : Int)
    (h1 : SC cfg.P i_impl_parse [.s (.v .str a0)] (.tup [.v .tree c1a, .v .bool true]) [])
    (h2 : SC cfg.P i_impl_node_carets [.s (.v .tree c1a)] (.s (.v (.int .i64) c2)) [])
    (h3 : SC cfg.P i_impl_trees [.s (.v (.int .i64) c2)] (.s (.v (.sl .str) c3)) [])
    (h4 : SC cfg.P i_slices_Index_string [.s (.v (.sl .str) c3), .s (.v .str a0)] (.s (.v (.int .i64) c4)) []) :
    SC cfg.P i_impl_RankTree [.s (.v .str a0)] (.tup [.v (.int .i64) c4, .v .bool true]) [] :=
  SC_of_run cfgOK (its := [.res (.tup [.v .tree c1a, .v .bool true]) [] [] [], .res (.s (.v (.int .i64) c2)) [] [] [], .res (.s (.v (.sl .str) c3)) [] [] [], .res (.s (.v (.int .i64) c4)) [] [] []])
    (ps := [SC cfg.P i_impl_parse [.s (.v .str a0)] (.tup [.v .tree c1a, .v .bool true]) [],
      SC cfg.P i_impl_node_carets [.s (.v .tree c1a)] (.s (.v (.int .i64) c2)) [],
      SC cfg.P i_impl_trees [.s (.v (.int .i64) c2)] (.s (.v (.sl .str) c3)) [],
      SC cfg.P i_slices_Index_string [.s (.v (.sl .str) c3), .s (.v .str a0)] (.s (.v (.int .i64) c4)) []]) (by kernel_rfl) ⟨h1, h2, h3, h4, trivial⟩ get_impl_RankTree (by decide)

theorem impl_RankTree_p2 (a0 : ByteArray) (c1a : Tr)
    (h1 : SC cfg.P i_impl_parse [.s (.v .str a0)] (.tup [.v .tree c1a, .v .bool false]) []) :
    SC cfg.P i_impl_RankTree [.s (.v .str a0)] (.tup [.v (.int .i64) (0 : Int), .v .bool false]) [] :=
  SC_of_run cfgOK (its := [.res (.tup [.v .tree c1a, .v .bool false]) [] [] []])
    (ps := [SC cfg.P i_impl_parse [.s (.v .str a0)] (.tup [.v .tree c1a, .v .bool false]) []]) (by kernel_rfl) ⟨h1, trivial⟩ get_impl_RankTree (by decide)

/-! ### spec_RankTree -/


def spec_RankTree_L0a (x0 : ByteArray) (x4 : Int) (x12 : (List ByteArray)) (x13 : Int) (x14 : Int) : St := mkSt 25 [(0, .s (.v .str x0)), (4, .s (.v (.int .i64) x4)), (12, .s (.v (.sl .str) x12)), (13, .s (.v (.int .i64) x13)), (14, .s (.v (.int .i64) x14))] []

def spec_RankTree_L0X1 (y0 : ByteArray) (y4 : Int) (y12 : (List ByteArray)) (y13 : Int) (y14 : Int) (y15 : Bool) : St := mkSt 25 [(0, .s (.v .str y0)), (4, .s (.v (.int .i64) y4)), (12, .s (.v (.sl .str) y12)), (13, .s (.v (.int .i64) y13)), (14, .s (.v (.int .i64) y14)), (15, .s (.v .bool y15))] []

theorem spec_RankTree_L0a_i1 (x0 : ByteArray) (x4 : Int) (x12 : (List ByteArray)) (x13 : Int) (x14 : Int)
    (h1 : x14 < x13)
    (h2 : 0 ≤ x14)
    (h3 : x14 < (List.length x12 : Int))
    (h4 : (Op.bytesLess ((List.getD x12 (x14).toNat (⟨#[]⟩ : ByteArray))).toList (x0).toList) = true)
    {e : AEx} {st : St} (next : LoopSC cfg.P 1 (lb P_spec_RankTree 0) (spec_RankTree_L0a x0 (IntKind.wrap .i64 (x4 + (1 : Int))) x12 x13 (IntKind.wrap .i64 (x14 + (1 : Int)))) e st) :
    LoopSC cfg.P 1 (lb P_spec_RankTree 0) (spec_RankTree_L0a x0 x4 x12 x13 x14) e st :=
  loop_iter cfgOK (f := i_spec_RankTree) (its := [.bool true, .bool true])
    (ps := [decide (x14 < x13) = true,
      0 ≤ x14,
      x14 < (List.length x12 : Int),
      (Op.bytesLess ((List.getD x12 (x14).toNat (⟨#[]⟩ : ByteArray))).toList (x0).toList) = true]) (st1 := spec_RankTree_L0a x0 (IntKind.wrap .i64 (x4 + (1 : Int))) x12 x13 (IntKind.wrap .i64 (x14 + (1 : Int)))) (by kernel_rfl) ⟨(decide_eq_true h1), h2, h3, h4, trivial⟩ next

theorem spec_RankTree_L0a_i2 (x0 : ByteArray) (x4 : Int) (x12 : (List ByteArray)) (x13 : Int) (x14 : Int)
    (h1 : x14 < x13)
    (h2 : 0 ≤ x14)
    (h3 : x14 < (List.length x12 : Int))
    (h4 : (Op.bytesLess ((List.getD x12 (x14).toNat (⟨#[]⟩ : ByteArray))).toList (x0).toList) = false)
    {e : AEx} {st : St} (next : LoopSC cfg.P 1 (lb P_spec_RankTree 0) (spec_RankTree_L0a x0 x4 x12 x13 (IntKind.wrap .i64 (x14 + (1 : Int)))) e st) :
    LoopSC cfg.P 1 (lb P_spec_RankTree 0) (spec_RankTree_L0a x0 x4 x12 x13 x14) e st :=
  loop_iter cfgOK (f := i_spec_RankTree) (its := [.bool true, .bool false])
    (ps := [decide (x14 < x13) = true,
      0 ≤ x14,
      x14 < (List.length x12 : Int),
      (Op.bytesLess ((List.getD x12 (x14).toNat (⟨#[]⟩ : ByteArray))).toList (x0).toList) = false]) (st1 := spec_RankTree_L0a x0 x4 x12 x13 (IntKind.wrap .i64 (x14 + (1 : Int)))) (by kernel_rfl) ⟨(decide_eq_true h1), h2, h3, h4, trivial⟩ next

theorem spec_RankTree_L0a_x3 (x0 : ByteArray) (x4 : Int) (x12 : (List ByteArray)) (x13 : Int) (x14 : Int)
    (h1 : ¬ (x14 < x13)) :
    LoopSC cfg.P 1 (lb P_spec_RankTree 0) (spec_RankTree_L0a x0 x4 x12 x13 x14) (.exit 0) (spec_RankTree_L0X1 x0 x4 x12 x13 x14 false) :=
  loop_out cfgOK (f := i_spec_RankTree) (its := [.bool false])
    (ps := [decide (x14 < x13) = false]) (by kernel_rfl) ⟨(decide_eq_false h1), trivial⟩ (fun h => by cases h)

theorem spec_RankTree_p1 (a0 : ByteArray) (c2 : Int) (c3 : (List ByteArray)) (k1y0 : ByteArray) (k1y4 : Int) (k1y12 : (List ByteArray)) (k1y13 : Int) (k1y14 : Int) (k1y15 : Bool)
    (h1 : SC cfg.P i_spec_trIs [.s (.v .str a0)] (.s (.v .bool true)) [])
    (h2 : SC cfg.P i_spec_trCarets [.s (.v .str a0)] (.s (.v (.int .i64) c2)) [])
    (h3 : SC cfg.P i_spec_trList [.s (.v (.int .i64) c2)] (.s (.v (.sl .str) c3)) [])
    (h4 : LoopSC cfg.P 1 (lb P_spec_RankTree 0) (spec_RankTree_L0a a0 (0 : Int) c3 ((List.length c3 : Nat) : Int) (0 : Int)) (.exit 0) (spec_RankTree_L0X1 k1y0 k1y4 k1y12 k1y13 k1y14 k1y15)) :
    SC cfg.P i_spec_RankTree [.s (.v .str a0)] (.tup [.v (.int .i64) k1y4, .v .bool true]) [] :=
  SC_of_run cfgOK (its := [.res (.s (.v .bool true)) [] [] [], .res (.s (.v (.int .i64) c2)) [] [] [], .res (.s (.v (.sl .str) c3)) [] [] [], .loop (fun _ => (.exit 0, spec_RankTree_L0X1 k1y0 k1y4 k1y12 k1y13 k1y14 k1y15))])
    (ps := [SC cfg.P i_spec_trIs [.s (.v .str a0)] (.s (.v .bool true)) [],
      SC cfg.P i_spec_trCarets [.s (.v .str a0)] (.s (.v (.int .i64) c2)) [],
      SC cfg.P i_spec_trList [.s (.v (.int .i64) c2)] (.s (.v (.sl .str) c3)) [],
      LoopSC cfg.P 1 (lb P_spec_RankTree 0) (spec_RankTree_L0a a0 (0 : Int) c3 ((List.length c3 : Nat) : Int) (0 : Int)) (.exit 0) (spec_RankTree_L0X1 k1y0 k1y4 k1y12 k1y13 k1y14 k1y15)]) (by kernel_rfl) ⟨h1, h2, h3, h4, trivial⟩ get_spec_RankTree (by decide)

theorem spec_RankTree_p2 (a0 : ByteArray)
    (h1 : SC cfg.P i_spec_trIs [.s (.v .str a0)] (.s (.v .bool false)) []) :
    SC cfg.P i_spec_RankTree [.s (.v .str a0)] (.tup [.v (.int .i64) (0 : Int), .v .bool false]) [] :=
  SC_of_run cfgOK (its := [.res (.s (.v .bool false)) [] [] []])
    (ps := [SC cfg.P i_spec_trIs [.s (.v .str a0)] (.s (.v .bool false)) []]) (by kernel_rfl) ⟨h1, trivial⟩ get_spec_RankTree (by decide)

/-! ### spec_l1Cur_carets -/


theorem spec_l1Cur_carets_p1 (a0 : ((List Int) × (Int × Int))) (a1 : Int) (c1o0 : ((List Int) × (Int × Int))) (c2 : Int) (c2o0 : ((List Int) × (Int × Int)))
    (h1 : SC cfg.P i_spec_l1Cur_one [.s (.mbx (.pr (.sl (.int .u8)) (.pr (.int .i64) (.int .u64))) a0), .s (.v (.int .i64) (8 : Int))] (.s (.v .bool true)) [.box (.pr (.sl (.int .u8)) (.pr (.int .i64) (.int .u64))) c1o0])
    (h2 : SC cfg.P i_spec_l1Cur_among [.s (.mbx (.pr (.sl (.int .u8)) (.pr (.int .i64) (.int .u64))) c1o0), .s (.v (.sl (.int .i64)) ([(-1 : Int), (0 : Int), (1 : Int), (8 : Int), (9 : Int)] : List Int))] (.s (.v (.int .i64) c2)) [.box (.pr (.sl (.int .u8)) (.pr (.int .i64) (.int .u64))) c2o0]) :
    SC cfg.P i_spec_l1Cur_carets [.s (.mbx (.pr (.sl (.int .u8)) (.pr (.int .i64) (.int .u64))) a0), .s (.v (.int .i64) a1)] (.s (.v (.int .i64) c2)) [.box (.pr (.sl (.int .u8)) (.pr (.int .i64) (.int .u64))) c2o0] :=
  SC_of_run cfgOK (its := [.res (.s (.v .bool true)) [.box (.pr (.sl (.int .u8)) (.pr (.int .i64) (.int .u64))) c1o0] [] [], .res (.s (.v (.int .i64) c2)) [.box (.pr (.sl (.int .u8)) (.pr (.int .i64) (.int .u64))) c2o0] [] []])
    (ps := [SC cfg.P i_spec_l1Cur_one [.s (.mbx (.pr (.sl (.int .u8)) (.pr (.int .i64) (.int .u64))) a0), .s (.v (.int .i64) (8 : Int))] (.s (.v .bool true)) [.box (.pr (.sl (.int .u8)) (.pr (.int .i64) (.int .u64))) c1o0],
      SC cfg.P i_spec_l1Cur_among [.s (.mbx (.pr (.sl (.int .u8)) (.pr (.int .i64) (.int .u64))) c1o0), .s (.v (.sl (.int .i64)) ([(-1 : Int), (0 : Int), (1 : Int), (8 : Int), (9 : Int)] : List Int))] (.s (.v (.int .i64) c2)) [.box (.pr (.sl (.int .u8)) (.pr (.int .i64) (.int .u64))) c2o0]]) (by kernel_rfl) ⟨h1, h2, trivial⟩ get_spec_l1Cur_carets (by decide)

theorem spec_l1Cur_carets_p2 (a0 : ((List Int) × (Int × Int))) (a1 : Int) (c1o0 : ((List Int) × (Int × Int))) (c2 : Int) (c2o0 : ((List Int) × (Int × Int)))
    (h1 : SC cfg.P i_spec_l1Cur_one [.s (.mbx (.pr (.sl (.int .u8)) (.pr (.int .i64) (.int .u64))) a0), .s (.v (.int .i64) (8 : Int))] (.s (.v .bool false)) [.box (.pr (.sl (.int .u8)) (.pr (.int .i64) (.int .u64))) c1o0])
    (h2 : SC cfg.P i_spec_l1Cur_pick [.s (.mbx (.pr (.sl (.int .u8)) (.pr (.int .i64) (.int .u64))) c1o0), .s (.v (.int .i64) (IntKind.wrap .i64 (a1 + (1 : Int))))] (.s (.v (.int .i64) c2)) [.box (.pr (.sl (.int .u8)) (.pr (.int .i64) (.int .u64))) c2o0]) :
    SC cfg.P i_spec_l1Cur_carets [.s (.mbx (.pr (.sl (.int .u8)) (.pr (.int .i64) (.int .u64))) a0), .s (.v (.int .i64) a1)] (.s (.v (.int .i64) c2)) [.box (.pr (.sl (.int .u8)) (.pr (.int .i64) (.int .u64))) c2o0] :=
  SC_of_run cfgOK (its := [.res (.s (.v .bool false)) [.box (.pr (.sl (.int .u8)) (.pr (.int .i64) (.int .u64))) c1o0] [] [], .res (.s (.v (.int .i64) c2)) [.box (.pr (.sl (.int .u8)) (.pr (.int .i64) (.int .u64))) c2o0] [] []])
    (ps := [SC cfg.P i_spec_l1Cur_one [.s (.mbx (.pr (.sl (.int .u8)) (.pr (.int .i64) (.int .u64))) a0), .s (.v (.int .i64) (8 : Int))] (.s (.v .bool false)) [.box (.pr (.sl (.int .u8)) (.pr (.int .i64) (.int .u64))) c1o0],
      SC cfg.P i_spec_l1Cur_pick [.s (.mbx (.pr (.sl (.int .u8)) (.pr (.int .i64) (.int .u64))) c1o0), .s (.v (.int .i64) (IntKind.wrap .i64 (a1 + (1 : Int))))] (.s (.v (.int .i64) c2)) [.box (.pr (.sl (.int .u8)) (.pr (.int .i64) (.int .u64))) c2o0]]) (by kernel_rfl) ⟨h1, h2, trivial⟩ get_spec_l1Cur_carets (by decide)

/-! ### spec_trSize -/


theorem spec_trSize_p1 (a0 : Int) (c1 : Bool)
    (h1 : SC cfg.P i_spec_l1In [.s (.v (.int .i64) a0), .s (.v (.int .i64) (0 : Int)), .s (.v (.int .i64) (8 : Int))] (.s (.v .bool c1)) []) :
    SC cfg.P i_spec_trSize [.s (.v (.int .i64) a0)] (.s (.v .bool c1)) [] :=
  SC_of_run cfgOK (its := [.res (.s (.v .bool c1)) [] [] []])
    (ps := [SC cfg.P i_spec_l1In [.s (.v (.int .i64) a0), .s (.v (.int .i64) (0 : Int)), .s (.v (.int .i64) (8 : Int))] (.s (.v .bool c1)) []]) (by kernel_rfl) ⟨h1, trivial⟩ get_spec_trSize (by decide)

/-! ### spec_trCount -/


def spec_trCount_L0a (x0 : Int) (x3 : Int) (x4 : Int) : St := mkSt 20 [(0, .s (.v (.int .i64) x0)), (3, .s (.v (.int .i64) x3)), (4, .s (.v (.int .i64) x4))] []

def spec_trCount_L0X1 (y0 : Int) (y3 : Int) (y4 : Int) (y7 : Bool) : St := mkSt 20 [(0, .s (.v (.int .i64) y0)), (3, .s (.v (.int .i64) y3)), (4, .s (.v (.int .i64) y4)), (7, .s (.v .bool y7))] []

theorem spec_trCount_L0a_i1 (x0 : Int) (x3 : Int) (x4 : Int)
    (h1 : x4 < x0)
    (h2 : (IntKind.wrap .i64 (x4 + (2 : Int))) ≠ 0)
    {e : AEx} {st : St} (next : LoopSC cfg.P 1 (lb P_spec_trCount 0) (spec_trCount_L0a x0 (IntKind.wrap .i64 (Int.tdiv (IntKind.wrap .i64 ((IntKind.wrap .i64 (x3 * (2 : Int))) * (IntKind.wrap .i64 ((IntKind.wrap .i64 ((2 : Int) * x4)) + (1 : Int))))) (IntKind.wrap .i64 (x4 + (2 : Int))))) (IntKind.wrap .i64 (x4 + (1 : Int)))) e st) :
    LoopSC cfg.P 1 (lb P_spec_trCount 0) (spec_trCount_L0a x0 x3 x4) e st :=
  loop_iter cfgOK (f := i_spec_trCount) (its := [.bool true])
    (ps := [decide (x4 < x0) = true,
      (IntKind.wrap .i64 (x4 + (2 : Int))) ≠ 0]) (st1 := spec_trCount_L0a x0 (IntKind.wrap .i64 (Int.tdiv (IntKind.wrap .i64 ((IntKind.wrap .i64 (x3 * (2 : Int))) * (IntKind.wrap .i64 ((IntKind.wrap .i64 ((2 : Int) * x4)) + (1 : Int))))) (IntKind.wrap .i64 (x4 + (2 : Int))))) (IntKind.wrap .i64 (x4 + (1 : Int)))) (by kernel_rfl) ⟨(decide_eq_true h1), h2, trivial⟩ next

theorem spec_trCount_L0a_x2 (x0 : Int) (x3 : Int) (x4 : Int)
    (h1 : ¬ (x4 < x0)) :
    LoopSC cfg.P 1 (lb P_spec_trCount 0) (spec_trCount_L0a x0 x3 x4) (.exit 0) (spec_trCount_L0X1 x0 x3 x4 false) :=
  loop_out cfgOK (f := i_spec_trCount) (its := [.bool false])
    (ps := [decide (x4 < x0) = false]) (by kernel_rfl) ⟨(decide_eq_false h1), trivial⟩ (fun h => by cases h)

theorem spec_trCount_p1 (a0 : Int) (k1y0 : Int) (k1y3 : Int) (k1y4 : Int) (k1y7 : Bool)
    (h1 : LoopSC cfg.P 1 (lb P_spec_trCount 0) (spec_trCount_L0a a0 (1 : Int) (0 : Int)) (.exit 0) (spec_trCount_L0X1 k1y0 k1y3 k1y4 k1y7)) :
    SC cfg.P i_spec_trCount [.s (.v (.int .i64) a0)] (.s (.v (.int .i64) k1y3)) [] :=
  SC_of_run cfgOK (its := [.loop (fun _ => (.exit 0, spec_trCount_L0X1 k1y0 k1y3 k1y4 k1y7))])
    (ps := [LoopSC cfg.P 1 (lb P_spec_trCount 0) (spec_trCount_L0a a0 (1 : Int) (0 : Int)) (.exit 0) (spec_trCount_L0X1 k1y0 k1y3 k1y4 k1y7)]) (by kernel_rfl) ⟨h1, trivial⟩ get_spec_trCount (by decide)

/-! ### impl_isCarets -/


theorem impl_isCarets_p1 (a0 : Int)
    (h1 : a0 ≥ (0 : Int))
    (h2 : a0 ≤ (8 : Int)) :
    SC cfg.P i_impl_isCarets [.s (.v (.int .i64) a0)] (.s (.v .bool true)) [] :=
  SC_of_run cfgOK (its := [.bool true, .bool true])
    (ps := [decide (a0 ≥ (0 : Int)) = true,
      decide (a0 ≤ (8 : Int)) = true]) (by kernel_rfl) ⟨(decide_eq_true h1), (decide_eq_true h2), trivial⟩ get_impl_isCarets (by decide)

theorem impl_isCarets_p2 (a0 : Int)
    (h1 : a0 ≥ (0 : Int))
    (h2 : ¬ (a0 ≤ (8 : Int))) :
    SC cfg.P i_impl_isCarets [.s (.v (.int .i64) a0)] (.s (.v .bool false)) [] :=
  SC_of_run cfgOK (its := [.bool true, .bool false])
    (ps := [decide (a0 ≥ (0 : Int)) = true,
      decide (a0 ≤ (8 : Int)) = false]) (by kernel_rfl) ⟨(decide_eq_true h1), (decide_eq_false h2), trivial⟩ get_impl_isCarets (by decide)

theorem impl_isCarets_p3 (a0 : Int)
    (h1 : ¬ (a0 ≥ (0 : Int))) :
    SC cfg.P i_impl_isCarets [.s (.v (.int .i64) a0)] (.s (.v .bool false)) [] :=
  SC_of_run cfgOK (its := [.bool false])
    (ps := [decide (a0 ≥ (0 : Int)) = false]) (by kernel_rfl) ⟨(decide_eq_false h1), trivial⟩ get_impl_isCarets (by decide)

/-! ### impl_trees -/


def impl_trees_L0a (x0 : Int) (x4 : Int) (xo12 : (List (List ByteArray))) : St := mkSt 64 [(0, .s (.v (.int .i64) x0)), (3, .s (.osl 12 0)), (4, .s (.v (.int .i64) x4))] [(12, .row t_Sstring (.sl .str) xo12 0 false)]

def impl_trees_L1a (x0 : Int) (x4 : Int) (x18 : Int) (x19 : Int) (xo5 : (List ByteArray)) (xo12 : (List (List ByteArray))) : St := mkSt 64 [(0, .s (.v (.int .i64) x0)), (3, .s (.osl 12 0)), (4, .s (.v (.int .i64) x4)), (5, .s (.osl 5 0)), (18, .s (.v (.int .i64) x18)), (19, .s (.v (.int .i64) x19))] [(5, .row t_string .str xo5 0 false), (12, .row t_Sstring (.sl .str) xo12 0 false)]

def impl_trees_L2a (x0 : Int) (x4 : Int) (x6 : Int) (x18 : Int) (x19 : Int) (x25 : (List ByteArray)) (x26 : Int) (x27 : Int) (xo5 : (List ByteArray)) (xo12 : (List (List ByteArray))) : St := mkSt 64 [(0, .s (.v (.int .i64) x0)), (3, .s (.osl 12 0)), (4, .s (.v (.int .i64) x4)), (5, .s (.osl 5 0)), (6, .s (.v (.int .i64) x6)), (18, .s (.v (.int .i64) x18)), (19, .s (.v (.int .i64) x19)), (25, .s (.v (.sl .str) x25)), (26, .s (.v (.int .i64) x26)), (27, .s (.v (.int .i64) x27))] [(5, .row t_string .str xo5 0 false), (12, .row t_Sstring (.sl .str) xo12 0 false)]

def impl_trees_L3a (x0 : Int) (x4 : Int) (x6 : Int) (x8 : ByteArray) (x18 : Int) (x19 : Int) (x25 : (List ByteArray)) (x26 : Int) (x27 : Int) (x37 : (List ByteArray)) (x38 : Int) (x39 : Int) (xo5 : (List ByteArray)) (xo12 : (List (List ByteArray))) : St := mkSt 64 [(0, .s (.v (.int .i64) x0)), (3, .s (.osl 12 0)), (4, .s (.v (.int .i64) x4)), (5, .s (.osl 5 0)), (6, .s (.v (.int .i64) x6)), (8, .s (.v .str x8)), (18, .s (.v (.int .i64) x18)), (19, .s (.v (.int .i64) x19)), (25, .s (.v (.sl .str) x25)), (26, .s (.v (.int .i64) x26)), (27, .s (.v (.int .i64) x27)), (37, .s (.v (.sl .str) x37)), (38, .s (.v (.int .i64) x38)), (39, .s (.v (.int .i64) x39))] [(5, .row t_string .str xo5 0 false), (12, .row t_Sstring (.sl .str) xo12 0 false)]

def impl_trees_L3X1 (y0 : Int) (y4 : Int) (y6 : Int) (y8 : ByteArray) (y18 : Int) (y19 : Int) (y25 : (List ByteArray)) (y26 : Int) (y27 : Int) (y37 : (List ByteArray)) (y38 : Int) (y39 : Int) (y40 : Bool) (yo5 : (List ByteArray)) (yo12 : (List (List ByteArray))) : St := mkSt 64 [(0, .s (.v (.int .i64) y0)), (3, .s (.osl 12 0)), (4, .s (.v (.int .i64) y4)), (5, .s (.osl 5 0)), (6, .s (.v (.int .i64) y6)), (8, .s (.v .str y8)), (18, .s (.v (.int .i64) y18)), (19, .s (.v (.int .i64) y19)), (25, .s (.v (.sl .str) y25)), (26, .s (.v (.int .i64) y26)), (27, .s (.v (.int .i64) y27)), (37, .s (.v (.sl .str) y37)), (38, .s (.v (.int .i64) y38)), (39, .s (.v (.int .i64) y39)), (40, .s (.v .bool y40))] [(5, .row t_string .str yo5 0 false), (12, .row t_Sstring (.sl .str) yo12 0 false)]

def impl_trees_L2X1 (y0 : Int) (y4 : Int) (y6 : Int) (y18 : Int) (y19 : Int) (y25 : (List ByteArray)) (y26 : Int) (y27 : Int) (y28 : Bool) (yo5 : (List ByteArray)) (yo12 : (List (List ByteArray))) : St := mkSt 64 [(0, .s (.v (.int .i64) y0)), (3, .s (.osl 12 0)), (4, .s (.v (.int .i64) y4)), (5, .s (.osl 5 0)), (6, .s (.v (.int .i64) y6)), (18, .s (.v (.int .i64) y18)), (19, .s (.v (.int .i64) y19)), (25, .s (.v (.sl .str) y25)), (26, .s (.v (.int .i64) y26)), (27, .s (.v (.int .i64) y27)), (28, .s (.v .bool y28))] [(5, .row t_string .str yo5 0 false), (12, .row t_Sstring (.sl .str) yo12 0 false)]

def impl_trees_L1X1 (y0 : Int) (y4 : Int) (y18 : Int) (y19 : Int) (y20 : Bool) (yo5 : (List ByteArray)) (yo12 : (List (List ByteArray))) : St := mkSt 64 [(0, .s (.v (.int .i64) y0)), (3, .s (.osl 12 0)), (4, .s (.v (.int .i64) y4)), (5, .s (.osl 5 0)), (18, .s (.v (.int .i64) y18)), (19, .s (.v (.int .i64) y19)), (20, .s (.v .bool y20))] [(5, .row t_string .str yo5 0 false), (12, .row t_Sstring (.sl .str) yo12 0 false)]

def impl_trees_L0X1 (y0 : Int) (y4 : Int) (y15 : Bool) (yo12 : (List (List ByteArray))) : St := mkSt 64 [(0, .s (.v (.int .i64) y0)), (3, .s (.osl 12 0)), (4, .s (.v (.int .i64) y4)), (15, .s (.v .bool y15))] [(12, .row t_Sstring (.sl .str) yo12 0 false)]

theorem impl_trees_L0a_i1 (x0 : Int) (x4 : Int) (xo12 : (List (List ByteArray))) (dk1y0 : Int) (dk1y4 : Int) (dk1y18 : Int) (dk1y19 : Int) (dk1y20 : Bool) (dk1yo5 : (List ByteArray)) (dk1yo12 : (List (List ByteArray))) (dc1o0 : (List ByteArray))
    (h1 : x4 ≤ x0)
    (h2 : LoopSC cfg.P 1 (lb P_impl_trees 1) (impl_trees_L1a x0 x4 x4 (0 : Int) ([] : List ByteArray) xo12) (.exit 2) (impl_trees_L1X1 dk1y0 dk1y4 dk1y18 dk1y19 dk1y20 dk1yo5 dk1yo12))
    (h3 : SC cfg.P i_slices_Sort [.s (.msl t_string .str dk1yo5)] (.tup []) [.row t_string .str dc1o0])
    (h4 : sizeOK (List.length dk1yo12 + List.length ([dc1o0] : List (List ByteArray))))
    {e : AEx} {st : St} (next : LoopSC cfg.P 1 (lb P_impl_trees 0) (impl_trees_L0a dk1y0 (IntKind.wrap .i64 (dk1y4 + (1 : Int))) (dk1yo12 ++ ([dc1o0] : List (List ByteArray)))) e st) :
    LoopSC cfg.P 1 (lb P_impl_trees 0) (impl_trees_L0a x0 x4 xo12) e st :=
  loop_iter cfgOK (f := i_impl_trees) (its := [.bool true, .loop (fun _ => (.exit 2, impl_trees_L1X1 dk1y0 dk1y4 dk1y18 dk1y19 dk1y20 dk1yo5 dk1yo12)), .res (.tup []) [.row t_string .str dc1o0] [0] []])
    (ps := [decide (x4 ≤ x0) = true,
      LoopSC cfg.P 1 (lb P_impl_trees 1) (impl_trees_L1a x0 x4 x4 (0 : Int) ([] : List ByteArray) xo12) (.exit 2) (impl_trees_L1X1 dk1y0 dk1y4 dk1y18 dk1y19 dk1y20 dk1yo5 dk1yo12),
      SC cfg.P i_slices_Sort [.s (.msl t_string .str dk1yo5)] (.tup []) [.row t_string .str dc1o0],
      sizeOK (List.length dk1yo12 + List.length ([dc1o0] : List (List ByteArray)))]) (st1 := impl_trees_L0a dk1y0 (IntKind.wrap .i64 (dk1y4 + (1 : Int))) (dk1yo12 ++ ([dc1o0] : List (List ByteArray)))) (by kernel_rfl) ⟨(decide_eq_true h1), h2, h3, h4, trivial⟩ next

theorem impl_trees_L0a_x2 (x0 : Int) (x4 : Int) (xo12 : (List (List ByteArray)))
    (h1 : ¬ (x4 ≤ x0)) :
    LoopSC cfg.P 1 (lb P_impl_trees 0) (impl_trees_L0a x0 x4 xo12) (.exit 0) (impl_trees_L0X1 x0 x4 false xo12) :=
  loop_out cfgOK (f := i_impl_trees) (its := [.bool false])
    (ps := [decide (x4 ≤ x0) = false]) (by kernel_rfl) ⟨(decide_eq_false h1), trivial⟩ (fun h => by cases h)

theorem impl_trees_L1a_i1 (x0 : Int) (x4 : Int) (x18 : Int) (x19 : Int) (xo5 : (List ByteArray)) (xo12 : (List (List ByteArray))) (dk1y0 : Int) (dk1y4 : Int) (dk1y6 : Int) (dk1y18 : Int) (dk1y19 : Int) (dk1y25 : (List ByteArray)) (dk1y26 : Int) (dk1y27 : Int) (dk1y28 : Bool) (dk1yo5 : (List ByteArray)) (dk1yo12 : (List (List ByteArray)))
    (h1 : x19 < x18)
    (h2 : 0 ≤ x19)
    (h3 : x19 < (List.length xo12 : Int))
    (h4 : (x19).toNat < List.length xo12)
    (h5 : LoopSC cfg.P 1 (lb P_impl_trees 2) (impl_trees_L2a x0 x4 x19 x18 x19 (List.getD xo12 (x19).toNat ([] : List ByteArray)) ((List.length (List.getD xo12 (x19).toNat ([] : List ByteArray)) : Nat) : Int) (0 : Int) xo5 xo12) (.exit 4) (impl_trees_L2X1 dk1y0 dk1y4 dk1y6 dk1y18 dk1y19 dk1y25 dk1y26 dk1y27 dk1y28 dk1yo5 dk1yo12))
    {e : AEx} {st : St} (next : LoopSC cfg.P 1 (lb P_impl_trees 1) (impl_trees_L1a dk1y0 dk1y4 dk1y18 (IntKind.wrap .i64 (dk1y19 + (1 : Int))) dk1yo5 dk1yo12) e st) :
    LoopSC cfg.P 1 (lb P_impl_trees 1) (impl_trees_L1a x0 x4 x18 x19 xo5 xo12) e st :=
  loop_iter cfgOK (f := i_impl_trees) (its := [.bool true, .loop (fun _ => (.exit 4, impl_trees_L2X1 dk1y0 dk1y4 dk1y6 dk1y18 dk1y19 dk1y25 dk1y26 dk1y27 dk1y28 dk1yo5 dk1yo12))])
    (ps := [decide (x19 < x18) = true,
      0 ≤ x19,
      x19 < (List.length xo12 : Int),
      (x19).toNat < List.length xo12,
      LoopSC cfg.P 1 (lb P_impl_trees 2) (impl_trees_L2a x0 x4 x19 x18 x19 (List.getD xo12 (x19).toNat ([] : List ByteArray)) ((List.length (List.getD xo12 (x19).toNat ([] : List ByteArray)) : Nat) : Int) (0 : Int) xo5 xo12) (.exit 4) (impl_trees_L2X1 dk1y0 dk1y4 dk1y6 dk1y18 dk1y19 dk1y25 dk1y26 dk1y27 dk1y28 dk1yo5 dk1yo12)]) (st1 := impl_trees_L1a dk1y0 dk1y4 dk1y18 (IntKind.wrap .i64 (dk1y19 + (1 : Int))) dk1yo5 dk1yo12) (by kernel_rfl) ⟨(decide_eq_true h1), h2, h3, h4, h5, trivial⟩ next

theorem impl_trees_L1a_x2 (x0 : Int) (x4 : Int) (x18 : Int) (x19 : Int) (xo5 : (List ByteArray)) (xo12 : (List (List ByteArray)))
    (h1 : ¬ (x19 < x18)) :
    LoopSC cfg.P 1 (lb P_impl_trees 1) (impl_trees_L1a x0 x4 x18 x19 xo5 xo12) (.exit 2) (impl_trees_L1X1 x0 x4 x18 x19 false xo5 xo12) :=
  loop_out cfgOK (f := i_impl_trees) (its := [.bool false])
    (ps := [decide (x19 < x18) = false]) (by kernel_rfl) ⟨(decide_eq_false h1), trivial⟩ (fun h => by cases h)

theorem impl_trees_L2a_i1 (x0 : Int) (x4 : Int) (x6 : Int) (x18 : Int) (x19 : Int) (x25 : (List ByteArray)) (x26 : Int) (x27 : Int) (xo5 : (List ByteArray)) (xo12 : (List (List ByteArray))) (dk1y0 : Int) (dk1y4 : Int) (dk1y6 : Int) (dk1y8 : ByteArray) (dk1y18 : Int) (dk1y19 : Int) (dk1y25 : (List ByteArray)) (dk1y26 : Int) (dk1y27 : Int) (dk1y37 : (List ByteArray)) (dk1y38 : Int) (dk1y39 : Int) (dk1y40 : Bool) (dk1yo5 : (List ByteArray)) (dk1yo12 : (List (List ByteArray)))
    (h1 : x27 < x26)
    (h2 : 0 ≤ x27)
    (h3 : x27 < (List.length x25 : Int))
    (h4 : 0 ≤ (IntKind.wrap .i64 ((IntKind.wrap .i64 (x4 - (1 : Int))) - x6)))
    (h5 : (IntKind.wrap .i64 ((IntKind.wrap .i64 (x4 - (1 : Int))) - x6)) < (List.length xo12 : Int))
    (h6 : ((IntKind.wrap .i64 ((IntKind.wrap .i64 (x4 - (1 : Int))) - x6))).toNat < List.length xo12)
    (h7 : LoopSC cfg.P 1 (lb P_impl_trees 3) (impl_trees_L3a x0 x4 x6 (List.getD x25 (x27).toNat (⟨#[]⟩ : ByteArray)) x18 x19 x25 x26 x27 (List.getD xo12 ((IntKind.wrap .i64 ((IntKind.wrap .i64 (x4 - (1 : Int))) - x6))).toNat ([] : List ByteArray)) ((List.length (List.getD xo12 ((IntKind.wrap .i64 ((IntKind.wrap .i64 (x4 - (1 : Int))) - x6))).toNat ([] : List ByteArray)) : Nat) : Int) (0 : Int) xo5 xo12) (.exit 6) (impl_trees_L3X1 dk1y0 dk1y4 dk1y6 dk1y8 dk1y18 dk1y19 dk1y25 dk1y26 dk1y27 dk1y37 dk1y38 dk1y39 dk1y40 dk1yo5 dk1yo12))
    {e : AEx} {st : St} (next : LoopSC cfg.P 1 (lb P_impl_trees 2) (impl_trees_L2a dk1y0 dk1y4 dk1y6 dk1y18 dk1y19 dk1y25 dk1y26 (IntKind.wrap .i64 (dk1y27 + (1 : Int))) dk1yo5 dk1yo12) e st) :
    LoopSC cfg.P 1 (lb P_impl_trees 2) (impl_trees_L2a x0 x4 x6 x18 x19 x25 x26 x27 xo5 xo12) e st :=
  loop_iter cfgOK (f := i_impl_trees) (its := [.bool true, .loop (fun _ => (.exit 6, impl_trees_L3X1 dk1y0 dk1y4 dk1y6 dk1y8 dk1y18 dk1y19 dk1y25 dk1y26 dk1y27 dk1y37 dk1y38 dk1y39 dk1y40 dk1yo5 dk1yo12))])
    (ps := [decide (x27 < x26) = true,
      0 ≤ x27,
      x27 < (List.length x25 : Int),
      0 ≤ (IntKind.wrap .i64 ((IntKind.wrap .i64 (x4 - (1 : Int))) - x6)),
      (IntKind.wrap .i64 ((IntKind.wrap .i64 (x4 - (1 : Int))) - x6)) < (List.length xo12 : Int),
      ((IntKind.wrap .i64 ((IntKind.wrap .i64 (x4 - (1 : Int))) - x6))).toNat < List.length xo12,
      LoopSC cfg.P 1 (lb P_impl_trees 3) (impl_trees_L3a x0 x4 x6 (List.getD x25 (x27).toNat (⟨#[]⟩ : ByteArray)) x18 x19 x25 x26 x27 (List.getD xo12 ((IntKind.wrap .i64 ((IntKind.wrap .i64 (x4 - (1 : Int))) - x6))).toNat ([] : List ByteArray)) ((List.length (List.getD xo12 ((IntKind.wrap .i64 ((IntKind.wrap .i64 (x4 - (1 : Int))) - x6))).toNat ([] : List ByteArray)) : Nat) : Int) (0 : Int) xo5 xo12) (.exit 6) (impl_trees_L3X1 dk1y0 dk1y4 dk1y6 dk1y8 dk1y18 dk1y19 dk1y25 dk1y26 dk1y27 dk1y37 dk1y38 dk1y39 dk1y40 dk1yo5 dk1yo12)]) (st1 := impl_trees_L2a dk1y0 dk1y4 dk1y6 dk1y18 dk1y19 dk1y25 dk1y26 (IntKind.wrap .i64 (dk1y27 + (1 : Int))) dk1yo5 dk1yo12) (by kernel_rfl) ⟨(decide_eq_true h1), h2, h3, h4, h5, h6, h7, trivial⟩ next

theorem impl_trees_L2a_x2 (x0 : Int) (x4 : Int) (x6 : Int) (x18 : Int) (x19 : Int) (x25 : (List ByteArray)) (x26 : Int) (x27 : Int) (xo5 : (List ByteArray)) (xo12 : (List (List ByteArray)))
    (h1 : ¬ (x27 < x26)) :
    LoopSC cfg.P 1 (lb P_impl_trees 2) (impl_trees_L2a x0 x4 x6 x18 x19 x25 x26 x27 xo5 xo12) (.exit 4) (impl_trees_L2X1 x0 x4 x6 x18 x19 x25 x26 x27 false xo5 xo12) :=
  loop_out cfgOK (f := i_impl_trees) (its := [.bool false])
    (ps := [decide (x27 < x26) = false]) (by kernel_rfl) ⟨(decide_eq_false h1), trivial⟩ (fun h => by cases h)

theorem impl_trees_L3a_i1 (x0 : Int) (x4 : Int) (x6 : Int) (x8 : ByteArray) (x18 : Int) (x19 : Int) (x25 : (List ByteArray)) (x26 : Int) (x27 : Int) (x37 : (List ByteArray)) (x38 : Int) (x39 : Int) (xo5 : (List ByteArray)) (xo12 : (List (List ByteArray)))
    (h1 : x39 < x38)
    (h2 : 0 ≤ x39)
    (h3 : x39 < (List.length x37 : Int))
    (h4 : ((⟨#[40]⟩ : ByteArray)).size + (x8).size ≤ 2 ^ 62)
    (h5 : (((⟨#[40]⟩ : ByteArray) ++ x8)).size + ((List.getD x37 (x39).toNat (⟨#[]⟩ : ByteArray))).size ≤ 2 ^ 62)
    (h6 : ((((⟨#[40]⟩ : ByteArray) ++ x8) ++ (List.getD x37 (x39).toNat (⟨#[]⟩ : ByteArray)))).size + ((⟨#[41]⟩ : ByteArray)).size ≤ 2 ^ 62)
    (h7 : sizeOK (List.length xo5 + List.length ([((((⟨#[40]⟩ : ByteArray) ++ x8) ++ (List.getD x37 (x39).toNat (⟨#[]⟩ : ByteArray))) ++ (⟨#[41]⟩ : ByteArray))] : List ByteArray)))
    {e : AEx} {st : St} (next : LoopSC cfg.P 1 (lb P_impl_trees 3) (impl_trees_L3a x0 x4 x6 x8 x18 x19 x25 x26 x27 x37 x38 (IntKind.wrap .i64 (x39 + (1 : Int))) (xo5 ++ ([((((⟨#[40]⟩ : ByteArray) ++ x8) ++ (List.getD x37 (x39).toNat (⟨#[]⟩ : ByteArray))) ++ (⟨#[41]⟩ : ByteArray))] : List ByteArray)) xo12) e st) :
    LoopSC cfg.P 1 (lb P_impl_trees 3) (impl_trees_L3a x0 x4 x6 x8 x18 x19 x25 x26 x27 x37 x38 x39 xo5 xo12) e st :=
  loop_iter cfgOK (f := i_impl_trees) (its := [.bool true])
    (ps := [decide (x39 < x38) = true,
      0 ≤ x39,
      x39 < (List.length x37 : Int),
      ((⟨#[40]⟩ : ByteArray)).size + (x8).size ≤ 2 ^ 62,
      (((⟨#[40]⟩ : ByteArray) ++ x8)).size + ((List.getD x37 (x39).toNat (⟨#[]⟩ : ByteArray))).size ≤ 2 ^ 62,
      ((((⟨#[40]⟩ : ByteArray) ++ x8) ++ (List.getD x37 (x39).toNat (⟨#[]⟩ : ByteArray)))).size + ((⟨#[41]⟩ : ByteArray)).size ≤ 2 ^ 62,
      sizeOK (List.length xo5 + List.length ([((((⟨#[40]⟩ : ByteArray) ++ x8) ++ (List.getD x37 (x39).toNat (⟨#[]⟩ : ByteArray))) ++ (⟨#[41]⟩ : ByteArray))] : List ByteArray))]) (st1 := impl_trees_L3a x0 x4 x6 x8 x18 x19 x25 x26 x27 x37 x38 (IntKind.wrap .i64 (x39 + (1 : Int))) (xo5 ++ ([((((⟨#[40]⟩ : ByteArray) ++ x8) ++ (List.getD x37 (x39).toNat (⟨#[]⟩ : ByteArray))) ++ (⟨#[41]⟩ : ByteArray))] : List ByteArray)) xo12) (by kernel_rfl) ⟨(decide_eq_true h1), h2, h3, h4, h5, h6, h7, trivial⟩ next

theorem impl_trees_L3a_x2 (x0 : Int) (x4 : Int) (x6 : Int) (x8 : ByteArray) (x18 : Int) (x19 : Int) (x25 : (List ByteArray)) (x26 : Int) (x27 : Int) (x37 : (List ByteArray)) (x38 : Int) (x39 : Int) (xo5 : (List ByteArray)) (xo12 : (List (List ByteArray)))
    (h1 : ¬ (x39 < x38)) :
    LoopSC cfg.P 1 (lb P_impl_trees 3) (impl_trees_L3a x0 x4 x6 x8 x18 x19 x25 x26 x27 x37 x38 x39 xo5 xo12) (.exit 6) (impl_trees_L3X1 x0 x4 x6 x8 x18 x19 x25 x26 x27 x37 x38 x39 false xo5 xo12) :=
  loop_out cfgOK (f := i_impl_trees) (its := [.bool false])
    (ps := [decide (x39 < x38) = false]) (by kernel_rfl) ⟨(decide_eq_false h1), trivial⟩ (fun h => by cases h)

theorem impl_trees_p1 (a0 : Int) (k1y0 : Int) (k1y4 : Int) (k1y15 : Bool) (k1yo12 : (List (List ByteArray)))
    (h1 : LoopSC cfg.P 1 (lb P_impl_trees 0) (impl_trees_L0a a0 (1 : Int) ([([(⟨#[46]⟩ : ByteArray)] : List ByteArray)] : List (List ByteArray))) (.exit 0) (impl_trees_L0X1 k1y0 k1y4 k1y15 k1yo12))
    (h2 : 0 ≤ k1y0)
    (h3 : k1y0 < (List.length k1yo12 : Int))
    (h4 : (k1y0).toNat < List.length k1yo12) :
    SC cfg.P i_impl_trees [.s (.v (.int .i64) a0)] (.s (.v (.sl .str) (List.getD k1yo12 (k1y0).toNat ([] : List ByteArray)))) [] :=
  SC_of_run cfgOK (its := [.loop (fun _ => (.exit 0, impl_trees_L0X1 k1y0 k1y4 k1y15 k1yo12))])
    (ps := [LoopSC cfg.P 1 (lb P_impl_trees 0) (impl_trees_L0a a0 (1 : Int) ([([(⟨#[46]⟩ : ByteArray)] : List ByteArray)] : List (List ByteArray))) (.exit 0) (impl_trees_L0X1 k1y0 k1y4 k1y15 k1yo12),
      0 ≤ k1y0,
      k1y0 < (List.length k1yo12 : Int),
      (k1y0).toNat < List.length k1yo12]) (by kernel_rfl) ⟨h1, h2, h3, h4, trivial⟩ get_impl_trees (by decide)

/-! ### spec_trList -/


def spec_trList_L0a (x0 : Int) (x4 : Int) (xo3 : (List ByteArray)) : St := mkSt 86 [(0, .s (.v (.int .i64) x0)), (3, .s (.osl 3 0)), (4, .s (.v (.int .i64) x4))] [(3, .row t_string .str xo3 0 false)]

def spec_trList_L1a (x0 : Int) (x4 : Int) (x30 : Int) (x31 : Int) (xo3 : (List ByteArray)) (xo23 : (List ByteArray)) (xo28 : (List ByteArray)) : St := mkSt 86 [(0, .s (.v (.int .i64) x0)), (3, .s (.osl 3 0)), (4, .s (.v (.int .i64) x4)), (6, .s (.osl 28 0)), (29, .s (.osl 23 0)), (30, .s (.v (.int .i64) x30)), (31, .s (.v (.int .i64) x31))] [(3, .row t_string .str xo3 0 false), (23, .row t_string .str xo23 0 false), (28, .row t_string .str xo28 0 false)]

def spec_trList_L2a (x0 : Int) (x4 : Int) (x8 : ByteArray) (x30 : Int) (x31 : Int) (x36 : Int) (x37 : Int) (xo3 : (List ByteArray)) (xo23 : (List ByteArray)) (xo28 : (List ByteArray)) : St := mkSt 86 [(0, .s (.v (.int .i64) x0)), (3, .s (.osl 3 0)), (4, .s (.v (.int .i64) x4)), (6, .s (.osl 28 0)), (8, .s (.v .str x8)), (29, .s (.osl 23 0)), (30, .s (.v (.int .i64) x30)), (31, .s (.v (.int .i64) x31)), (35, .s (.osl 28 0)), (36, .s (.v (.int .i64) x36)), (37, .s (.v (.int .i64) x37))] [(3, .row t_string .str xo3 0 false), (23, .row t_string .str xo23 0 false), (28, .row t_string .str xo28 0 false)]

def spec_trList_L2X1 (y0 : Int) (y4 : Int) (y8 : ByteArray) (y30 : Int) (y31 : Int) (y36 : Int) (y37 : Int) (y38 : Bool) (yo3 : (List ByteArray)) (yo23 : (List ByteArray)) (yo28 : (List ByteArray)) : St := mkSt 86 [(0, .s (.v (.int .i64) y0)), (3, .s (.osl 3 0)), (4, .s (.v (.int .i64) y4)), (6, .s (.osl 28 0)), (8, .s (.v .str y8)), (29, .s (.osl 23 0)), (30, .s (.v (.int .i64) y30)), (31, .s (.v (.int .i64) y31)), (35, .s (.osl 28 0)), (36, .s (.v (.int .i64) y36)), (37, .s (.v (.int .i64) y37)), (38, .s (.v .bool y38))] [(3, .row t_string .str yo3 0 false), (23, .row t_string .str yo23 0 false), (28, .row t_string .str yo28 0 false)]

def spec_trList_L1X1 (y0 : Int) (y4 : Int) (y30 : Int) (y31 : Int) (y32 : Bool) (yo3 : (List ByteArray)) (yo23 : (List ByteArray)) (yo28 : (List ByteArray)) : St := mkSt 86 [(0, .s (.v (.int .i64) y0)), (3, .s (.osl 3 0)), (4, .s (.v (.int .i64) y4)), (6, .s (.osl 28 0)), (29, .s (.osl 23 0)), (30, .s (.v (.int .i64) y30)), (31, .s (.v (.int .i64) y31)), (32, .s (.v .bool y32))] [(3, .row t_string .str yo3 0 false), (23, .row t_string .str yo23 0 false), (28, .row t_string .str yo28 0 false)]

def spec_trList_L0X1 (y0 : Int) (y4 : Int) (y19 : Bool) (yo3 : (List ByteArray)) : St := mkSt 86 [(0, .s (.v (.int .i64) y0)), (3, .s (.osl 3 0)), (4, .s (.v (.int .i64) y4)), (19, .s (.v .bool y19))] [(3, .row t_string .str yo3 0 false)]

def spec_trList_L3a (x11 : Int) (xo3 : (List ByteArray)) : St := mkSt 86 [(3, .s (.osl 3 0)), (11, .s (.v (.int .i64) x11))] [(3, .row t_string .str xo3 0 false)]

def spec_trList_L4a (x11 : Int) (x12 : ByteArray) (x13 : Int) (xo3 : (List ByteArray)) : St := mkSt 86 [(3, .s (.osl 3 0)), (11, .s (.v (.int .i64) x11)), (12, .s (.v .str x12)), (13, .s (.v (.int .i64) x13))] [(3, .row t_string .str xo3 0 false)]

def spec_trList_L4X1 (y11 : Int) (y12 : ByteArray) (y13 : Int) (y70 : Bool) (yo3 : (List ByteArray)) : St := mkSt 86 [(3, .s (.osl 3 0)), (11, .s (.v (.int .i64) y11)), (12, .s (.v .str y12)), (13, .s (.v (.int .i64) y13)), (70, .s (.v .bool y70))] [(3, .row t_string .str yo3 0 false)]

def spec_trList_L3X1 (y11 : Int) (y52 : Bool) (yo3 : (List ByteArray)) : St := mkSt 86 [(3, .s (.osl 3 0)), (11, .s (.v (.int .i64) y11)), (52, .s (.v .bool y52))] [(3, .row t_string .str yo3 0 false)]

theorem spec_trList_L0a_i1 (x0 : Int) (x4 : Int) (xo3 : (List ByteArray)) (dc1 : (List ByteArray)) (dc2 : (List ByteArray)) (dk1y0 : Int) (dk1y4 : Int) (dk1y30 : Int) (dk1y31 : Int) (dk1y32 : Bool) (dk1yo3 : (List ByteArray)) (dk1yo23 : (List ByteArray)) (dk1yo28 : (List ByteArray))
    (h1 : x4 < x0)
    (h2 : SC cfg.P i_spec_trList [.s (.v (.int .i64) x4)] (.s (.own t_string .str dc1)) [])
    (h3 : SC cfg.P i_spec_trList [.s (.v (.int .i64) (IntKind.wrap .i64 ((IntKind.wrap .i64 (x0 - (1 : Int))) - x4)))] (.s (.own t_string .str dc2)) [])
    (h4 : LoopSC cfg.P 1 (lb P_spec_trList 1) (spec_trList_L1a x0 x4 ((List.length dc1 : Nat) : Int) (0 : Int) xo3 dc1 dc2) (.exit 2) (spec_trList_L1X1 dk1y0 dk1y4 dk1y30 dk1y31 dk1y32 dk1yo3 dk1yo23 dk1yo28))
    {e : AEx} {st : St} (next : LoopSC cfg.P 1 (lb P_spec_trList 0) (spec_trList_L0a dk1y0 (IntKind.wrap .i64 (dk1y4 + (1 : Int))) dk1yo3) e st) :
    LoopSC cfg.P 1 (lb P_spec_trList 0) (spec_trList_L0a x0 x4 xo3) e st :=
  loop_iter cfgOK (f := i_spec_trList) (its := [.bool true, .res (.s (.own t_string .str dc1)) [] [] [23], .res (.s (.own t_string .str dc2)) [] [] [28], .loop (fun _ => (.exit 2, spec_trList_L1X1 dk1y0 dk1y4 dk1y30 dk1y31 dk1y32 dk1yo3 dk1yo23 dk1yo28))])
    (ps := [decide (x4 < x0) = true,
      SC cfg.P i_spec_trList [.s (.v (.int .i64) x4)] (.s (.own t_string .str dc1)) [],
      SC cfg.P i_spec_trList [.s (.v (.int .i64) (IntKind.wrap .i64 ((IntKind.wrap .i64 (x0 - (1 : Int))) - x4)))] (.s (.own t_string .str dc2)) [],
      LoopSC cfg.P 1 (lb P_spec_trList 1) (spec_trList_L1a x0 x4 ((List.length dc1 : Nat) : Int) (0 : Int) xo3 dc1 dc2) (.exit 2) (spec_trList_L1X1 dk1y0 dk1y4 dk1y30 dk1y31 dk1y32 dk1yo3 dk1yo23 dk1yo28)]) (st1 := spec_trList_L0a dk1y0 (IntKind.wrap .i64 (dk1y4 + (1 : Int))) dk1yo3) (by kernel_rfl) ⟨(decide_eq_true h1), h2, h3, h4, trivial⟩ next

theorem spec_trList_L0a_x2 (x0 : Int) (x4 : Int) (xo3 : (List ByteArray))
    (h1 : ¬ (x4 < x0)) :
    LoopSC cfg.P 1 (lb P_spec_trList 0) (spec_trList_L0a x0 x4 xo3) (.exit 0) (spec_trList_L0X1 x0 x4 false xo3) :=
  loop_out cfgOK (f := i_spec_trList) (its := [.bool false])
    (ps := [decide (x4 < x0) = false]) (by kernel_rfl) ⟨(decide_eq_false h1), trivial⟩ (fun h => by cases h)

theorem spec_trList_L1a_i1 (x0 : Int) (x4 : Int) (x30 : Int) (x31 : Int) (xo3 : (List ByteArray)) (xo23 : (List ByteArray)) (xo28 : (List ByteArray)) (dk1y0 : Int) (dk1y4 : Int) (dk1y8 : ByteArray) (dk1y30 : Int) (dk1y31 : Int) (dk1y36 : Int) (dk1y37 : Int) (dk1y38 : Bool) (dk1yo3 : (List ByteArray)) (dk1yo23 : (List ByteArray)) (dk1yo28 : (List ByteArray))
    (h1 : x31 < x30)
    (h2 : 0 ≤ x31)
    (h3 : x31 < (List.length xo23 : Int))
    (h4 : (x31).toNat < List.length xo23)
    (h5 : LoopSC cfg.P 1 (lb P_spec_trList 2) (spec_trList_L2a x0 x4 (List.getD xo23 (x31).toNat (⟨#[]⟩ : ByteArray)) x30 x31 ((List.length xo28 : Nat) : Int) (0 : Int) xo3 xo23 xo28) (.exit 4) (spec_trList_L2X1 dk1y0 dk1y4 dk1y8 dk1y30 dk1y31 dk1y36 dk1y37 dk1y38 dk1yo3 dk1yo23 dk1yo28))
    {e : AEx} {st : St} (next : LoopSC cfg.P 1 (lb P_spec_trList 1) (spec_trList_L1a dk1y0 dk1y4 dk1y30 (IntKind.wrap .i64 (dk1y31 + (1 : Int))) dk1yo3 dk1yo23 dk1yo28) e st) :
    LoopSC cfg.P 1 (lb P_spec_trList 1) (spec_trList_L1a x0 x4 x30 x31 xo3 xo23 xo28) e st :=
  loop_iter cfgOK (f := i_spec_trList) (its := [.bool true, .loop (fun _ => (.exit 4, spec_trList_L2X1 dk1y0 dk1y4 dk1y8 dk1y30 dk1y31 dk1y36 dk1y37 dk1y38 dk1yo3 dk1yo23 dk1yo28))])
    (ps := [decide (x31 < x30) = true,
      0 ≤ x31,
      x31 < (List.length xo23 : Int),
      (x31).toNat < List.length xo23,
      LoopSC cfg.P 1 (lb P_spec_trList 2) (spec_trList_L2a x0 x4 (List.getD xo23 (x31).toNat (⟨#[]⟩ : ByteArray)) x30 x31 ((List.length xo28 : Nat) : Int) (0 : Int) xo3 xo23 xo28) (.exit 4) (spec_trList_L2X1 dk1y0 dk1y4 dk1y8 dk1y30 dk1y31 dk1y36 dk1y37 dk1y38 dk1yo3 dk1yo23 dk1yo28)]) (st1 := spec_trList_L1a dk1y0 dk1y4 dk1y30 (IntKind.wrap .i64 (dk1y31 + (1 : Int))) dk1yo3 dk1yo23 dk1yo28) (by kernel_rfl) ⟨(decide_eq_true h1), h2, h3, h4, h5, trivial⟩ next

theorem spec_trList_L1a_x2 (x0 : Int) (x4 : Int) (x30 : Int) (x31 : Int) (xo3 : (List ByteArray)) (xo23 : (List ByteArray)) (xo28 : (List ByteArray))
    (h1 : ¬ (x31 < x30)) :
    LoopSC cfg.P 1 (lb P_spec_trList 1) (spec_trList_L1a x0 x4 x30 x31 xo3 xo23 xo28) (.exit 2) (spec_trList_L1X1 x0 x4 x30 x31 false xo3 xo23 xo28) :=
  loop_out cfgOK (f := i_spec_trList) (its := [.bool false])
    (ps := [decide (x31 < x30) = false]) (by kernel_rfl) ⟨(decide_eq_false h1), trivial⟩ (fun h => by cases h)

theorem spec_trList_L2a_i1 (x0 : Int) (x4 : Int) (x8 : ByteArray) (x30 : Int) (x31 : Int) (x36 : Int) (x37 : Int) (xo3 : (List ByteArray)) (xo23 : (List ByteArray)) (xo28 : (List ByteArray)) (dc1 : ByteArray)
    (h1 : x37 < x36)
    (h2 : 0 ≤ x37)
    (h3 : x37 < (List.length xo28 : Int))
    (h4 : (x37).toNat < List.length xo28)
    (h5 : SC cfg.P i_spec_trOf [.s (.v .str x8), .s (.v .str (List.getD xo28 (x37).toNat (⟨#[]⟩ : ByteArray)))] (.s (.v .str dc1)) [])
    (h6 : sizeOK (List.length xo3 + List.length ([dc1] : List ByteArray)))
    {e : AEx} {st : St} (next : LoopSC cfg.P 1 (lb P_spec_trList 2) (spec_trList_L2a x0 x4 x8 x30 x31 x36 (IntKind.wrap .i64 (x37 + (1 : Int))) (xo3 ++ ([dc1] : List ByteArray)) xo23 xo28) e st) :
    LoopSC cfg.P 1 (lb P_spec_trList 2) (spec_trList_L2a x0 x4 x8 x30 x31 x36 x37 xo3 xo23 xo28) e st :=
  loop_iter cfgOK (f := i_spec_trList) (its := [.bool true, .res (.s (.v .str dc1)) [] [] []])
    (ps := [decide (x37 < x36) = true,
      0 ≤ x37,
      x37 < (List.length xo28 : Int),
      (x37).toNat < List.length xo28,
      SC cfg.P i_spec_trOf [.s (.v .str x8), .s (.v .str (List.getD xo28 (x37).toNat (⟨#[]⟩ : ByteArray)))] (.s (.v .str dc1)) [],
      sizeOK (List.length xo3 + List.length ([dc1] : List ByteArray))]) (st1 := spec_trList_L2a x0 x4 x8 x30 x31 x36 (IntKind.wrap .i64 (x37 + (1 : Int))) (xo3 ++ ([dc1] : List ByteArray)) xo23 xo28) (by kernel_rfl) ⟨(decide_eq_true h1), h2, h3, h4, h5, h6, trivial⟩ next

theorem spec_trList_L2a_x2 (x0 : Int) (x4 : Int) (x8 : ByteArray) (x30 : Int) (x31 : Int) (x36 : Int) (x37 : Int) (xo3 : (List ByteArray)) (xo23 : (List ByteArray)) (xo28 : (List ByteArray))
    (h1 : ¬ (x37 < x36)) :
    LoopSC cfg.P 1 (lb P_spec_trList 2) (spec_trList_L2a x0 x4 x8 x30 x31 x36 x37 xo3 xo23 xo28) (.exit 4) (spec_trList_L2X1 x0 x4 x8 x30 x31 x36 x37 false xo3 xo23 xo28) :=
  loop_out cfgOK (f := i_spec_trList) (its := [.bool false])
    (ps := [decide (x37 < x36) = false]) (by kernel_rfl) ⟨(decide_eq_false h1), trivial⟩ (fun h => by cases h)

theorem spec_trList_L3a_i1 (x11 : Int) (xo3 : (List ByteArray)) (dk1y11 : Int) (dk1y12 : ByteArray) (dk1y13 : Int) (dk1y70 : Bool) (dk1yo3 : (List ByteArray))
    (h1 : x11 < ((List.length xo3 : Nat) : Int))
    (h2 : 0 ≤ x11)
    (h3 : x11 < (List.length xo3 : Int))
    (h4 : (x11).toNat < List.length xo3)
    (h5 : LoopSC cfg.P 1 (lb P_spec_trList 4) (spec_trList_L4a x11 (List.getD xo3 (x11).toNat (⟨#[]⟩ : ByteArray)) x11 xo3) (.exit 8) (spec_trList_L4X1 dk1y11 dk1y12 dk1y13 dk1y70 dk1yo3))
    (h6 : 0 ≤ dk1y13)
    (h7 : dk1y13 < (List.length dk1yo3 : Int))
    (h8 : (dk1y13).toNat < List.length dk1yo3)
    {e : AEx} {st : St} (next : LoopSC cfg.P 1 (lb P_spec_trList 3) (spec_trList_L3a (IntKind.wrap .i64 (dk1y11 + (1 : Int))) (List.set dk1yo3 (dk1y13).toNat dk1y12)) e st) :
    LoopSC cfg.P 1 (lb P_spec_trList 3) (spec_trList_L3a x11 xo3) e st :=
  loop_iter cfgOK (f := i_spec_trList) (its := [.bool true, .loop (fun _ => (.exit 8, spec_trList_L4X1 dk1y11 dk1y12 dk1y13 dk1y70 dk1yo3))])
    (ps := [decide (x11 < ((List.length xo3 : Nat) : Int)) = true,
      0 ≤ x11,
      x11 < (List.length xo3 : Int),
      (x11).toNat < List.length xo3,
      LoopSC cfg.P 1 (lb P_spec_trList 4) (spec_trList_L4a x11 (List.getD xo3 (x11).toNat (⟨#[]⟩ : ByteArray)) x11 xo3) (.exit 8) (spec_trList_L4X1 dk1y11 dk1y12 dk1y13 dk1y70 dk1yo3),
      0 ≤ dk1y13,
      dk1y13 < (List.length dk1yo3 : Int),
      (dk1y13).toNat < List.length dk1yo3]) (st1 := spec_trList_L3a (IntKind.wrap .i64 (dk1y11 + (1 : Int))) (List.set dk1yo3 (dk1y13).toNat dk1y12)) (by kernel_rfl) ⟨(decide_eq_true h1), h2, h3, h4, h5, h6, h7, h8, trivial⟩ next

theorem spec_trList_L3a_x2 (x11 : Int) (xo3 : (List ByteArray))
    (h1 : ¬ (x11 < ((List.length xo3 : Nat) : Int))) :
    LoopSC cfg.P 1 (lb P_spec_trList 3) (spec_trList_L3a x11 xo3) (.exit 6) (spec_trList_L3X1 x11 false xo3) :=
  loop_out cfgOK (f := i_spec_trList) (its := [.bool false])
    (ps := [decide (x11 < ((List.length xo3 : Nat) : Int)) = false]) (by kernel_rfl) ⟨(decide_eq_false h1), trivial⟩ (fun h => by cases h)

theorem spec_trList_L4a_i1 (x11 : Int) (x12 : ByteArray) (x13 : Int) (xo3 : (List ByteArray))
    (h1 : x13 > (0 : Int))
    (h2 : 0 ≤ (IntKind.wrap .i64 (x13 - (1 : Int))))
    (h3 : (IntKind.wrap .i64 (x13 - (1 : Int))) < (List.length xo3 : Int))
    (h4 : ((IntKind.wrap .i64 (x13 - (1 : Int)))).toNat < List.length xo3)
    (h5 : (!(Op.bytesLess ((List.getD xo3 ((IntKind.wrap .i64 (x13 - (1 : Int)))).toNat (⟨#[]⟩ : ByteArray))).toList (x12).toList || (((List.getD xo3 ((IntKind.wrap .i64 (x13 - (1 : Int)))).toNat (⟨#[]⟩ : ByteArray))).toList == (x12).toList))) = true)
    (h6 : 0 ≤ x13)
    (h7 : x13 < (List.length xo3 : Int))
    (h8 : (x13).toNat < List.length xo3)
    {e : AEx} {st : St} (next : LoopSC cfg.P 1 (lb P_spec_trList 4) (spec_trList_L4a x11 x12 (IntKind.wrap .i64 (x13 - (1 : Int))) (List.set xo3 (x13).toNat (List.getD xo3 ((IntKind.wrap .i64 (x13 - (1 : Int)))).toNat (⟨#[]⟩ : ByteArray)))) e st) :
    LoopSC cfg.P 1 (lb P_spec_trList 4) (spec_trList_L4a x11 x12 x13 xo3) e st :=
  loop_iter cfgOK (f := i_spec_trList) (its := [.bool true, .bool true])
    (ps := [decide (x13 > (0 : Int)) = true,
      0 ≤ (IntKind.wrap .i64 (x13 - (1 : Int))),
      (IntKind.wrap .i64 (x13 - (1 : Int))) < (List.length xo3 : Int),
      ((IntKind.wrap .i64 (x13 - (1 : Int)))).toNat < List.length xo3,
      (!(Op.bytesLess ((List.getD xo3 ((IntKind.wrap .i64 (x13 - (1 : Int)))).toNat (⟨#[]⟩ : ByteArray))).toList (x12).toList || (((List.getD xo3 ((IntKind.wrap .i64 (x13 - (1 : Int)))).toNat (⟨#[]⟩ : ByteArray))).toList == (x12).toList))) = true,
      0 ≤ (IntKind.wrap .i64 (x13 - (1 : Int))),
      (IntKind.wrap .i64 (x13 - (1 : Int))) < (List.length xo3 : Int),
      ((IntKind.wrap .i64 (x13 - (1 : Int)))).toNat < List.length xo3,
      0 ≤ x13,
      x13 < (List.length xo3 : Int),
      (x13).toNat < List.length xo3]) (st1 := spec_trList_L4a x11 x12 (IntKind.wrap .i64 (x13 - (1 : Int))) (List.set xo3 (x13).toNat (List.getD xo3 ((IntKind.wrap .i64 (x13 - (1 : Int)))).toNat (⟨#[]⟩ : ByteArray)))) (by kernel_rfl) ⟨(decide_eq_true h1), h2, h3, h4, h5, h2, h3, h4, h6, h7, h8, trivial⟩ next

theorem spec_trList_L4a_x2 (x11 : Int) (x12 : ByteArray) (x13 : Int) (xo3 : (List ByteArray))
    (h1 : x13 > (0 : Int))
    (h2 : 0 ≤ (IntKind.wrap .i64 (x13 - (1 : Int))))
    (h3 : (IntKind.wrap .i64 (x13 - (1 : Int))) < (List.length xo3 : Int))
    (h4 : ((IntKind.wrap .i64 (x13 - (1 : Int)))).toNat < List.length xo3)
    (h5 : (!(Op.bytesLess ((List.getD xo3 ((IntKind.wrap .i64 (x13 - (1 : Int)))).toNat (⟨#[]⟩ : ByteArray))).toList (x12).toList || (((List.getD xo3 ((IntKind.wrap .i64 (x13 - (1 : Int)))).toNat (⟨#[]⟩ : ByteArray))).toList == (x12).toList))) = false) :
    LoopSC cfg.P 1 (lb P_spec_trList 4) (spec_trList_L4a x11 x12 x13 xo3) (.exit 8) (spec_trList_L4X1 x11 x12 x13 false xo3) :=
  loop_out cfgOK (f := i_spec_trList) (its := [.bool true, .bool false])
    (ps := [decide (x13 > (0 : Int)) = true,
      0 ≤ (IntKind.wrap .i64 (x13 - (1 : Int))),
      (IntKind.wrap .i64 (x13 - (1 : Int))) < (List.length xo3 : Int),
      ((IntKind.wrap .i64 (x13 - (1 : Int)))).toNat < List.length xo3,
      (!(Op.bytesLess ((List.getD xo3 ((IntKind.wrap .i64 (x13 - (1 : Int)))).toNat (⟨#[]⟩ : ByteArray))).toList (x12).toList || (((List.getD xo3 ((IntKind.wrap .i64 (x13 - (1 : Int)))).toNat (⟨#[]⟩ : ByteArray))).toList == (x12).toList))) = false]) (by kernel_rfl) ⟨(decide_eq_true h1), h2, h3, h4, h5, trivial⟩ (fun h => by cases h)

theorem spec_trList_L4a_x3 (x11 : Int) (x12 : ByteArray) (x13 : Int) (xo3 : (List ByteArray))
    (h1 : ¬ (x13 > (0 : Int))) :
    LoopSC cfg.P 1 (lb P_spec_trList 4) (spec_trList_L4a x11 x12 x13 xo3) (.exit 8) (spec_trList_L4X1 x11 x12 x13 false xo3) :=
  loop_out cfgOK (f := i_spec_trList) (its := [.bool false])
    (ps := [decide (x13 > (0 : Int)) = false]) (by kernel_rfl) ⟨(decide_eq_false h1), trivial⟩ (fun h => by cases h)

theorem spec_trList_p1 (a0 : Int)
    (h1 : a0 = (0 : Int)) :
    SC cfg.P i_spec_trList [.s (.v (.int .i64) a0)] (.s (.own t_string .str ([(⟨#[46]⟩ : ByteArray)] : List ByteArray))) [] :=
  SC_of_run cfgOK (its := [.bool true])
    (ps := [(a0 == (0 : Int)) = true]) (by kernel_rfl) ⟨(beq_iff_eq.mpr h1), trivial⟩ get_spec_trList (by decide)

theorem spec_trList_p2 (a0 : Int) (k1y0 : Int) (k1y4 : Int) (k1y19 : Bool) (k1yo3 : (List ByteArray)) (k2y11 : Int) (k2y52 : Bool) (k2yo3 : (List ByteArray))
    (h1 : a0 ≠ (0 : Int))
    (h2 : LoopSC cfg.P 1 (lb P_spec_trList 0) (spec_trList_L0a a0 (0 : Int) ([] : List ByteArray)) (.exit 0) (spec_trList_L0X1 k1y0 k1y4 k1y19 k1yo3))
    (h3 : LoopSC cfg.P 1 (lb P_spec_trList 3) (spec_trList_L3a (1 : Int) k1yo3) (.exit 6) (spec_trList_L3X1 k2y11 k2y52 k2yo3)) :
    SC cfg.P i_spec_trList [.s (.v (.int .i64) a0)] (.s (.own t_string .str k2yo3)) [] :=
  SC_of_run cfgOK (its := [.bool false, .loop (fun _ => (.exit 0, spec_trList_L0X1 k1y0 k1y4 k1y19 k1yo3)), .loop (fun _ => (.exit 6, spec_trList_L3X1 k2y11 k2y52 k2yo3))])
    (ps := [(a0 == (0 : Int)) = false,
      LoopSC cfg.P 1 (lb P_spec_trList 0) (spec_trList_L0a a0 (0 : Int) ([] : List ByteArray)) (.exit 0) (spec_trList_L0X1 k1y0 k1y4 k1y19 k1yo3),
      LoopSC cfg.P 1 (lb P_spec_trList 3) (spec_trList_L3a (1 : Int) k1yo3) (.exit 6) (spec_trList_L3X1 k2y11 k2y52 k2yo3)]) (by kernel_rfl) ⟨(beq_eq_false_iff_ne.mpr h1), h2, h3, trivial⟩ get_spec_trList (by decide)

/-! ### impl_rightComb -/


def impl_rightComb_L0a (x3 : Tr) (x4 : Int) (x5 : Int) : St := mkSt 12 [(3, .s (.v .tree x3)), (4, .s (.v (.int .i64) x4)), (5, .s (.v (.int .i64) x5))] []

def impl_rightComb_L0X1 (y3 : Tr) (y4 : Int) (y5 : Int) (y6 : Bool) : St := mkSt 12 [(3, .s (.v .tree y3)), (4, .s (.v (.int .i64) y4)), (5, .s (.v (.int .i64) y5)), (6, .s (.v .bool y6))] []

theorem impl_rightComb_L0a_i1 (x3 : Tr) (x4 : Int) (x5 : Int)
    (h1 : x5 < x4)
    {e : AEx} {st : St} (next : LoopSC cfg.P 1 (lb P_impl_rightComb 0) (impl_rightComb_L0a (Tr.node Tr.leaf x3) x4 (IntKind.wrap .i64 (x5 + (1 : Int)))) e st) :
    LoopSC cfg.P 1 (lb P_impl_rightComb 0) (impl_rightComb_L0a x3 x4 x5) e st :=
  loop_iter cfgOK (f := i_impl_rightComb) (its := [.bool true])
    (ps := [decide (x5 < x4) = true]) (st1 := impl_rightComb_L0a (Tr.node Tr.leaf x3) x4 (IntKind.wrap .i64 (x5 + (1 : Int)))) (by kernel_rfl) ⟨(decide_eq_true h1), trivial⟩ next

theorem impl_rightComb_L0a_x2 (x3 : Tr) (x4 : Int) (x5 : Int)
    (h1 : ¬ (x5 < x4)) :
    LoopSC cfg.P 1 (lb P_impl_rightComb 0) (impl_rightComb_L0a x3 x4 x5) (.exit 0) (impl_rightComb_L0X1 x3 x4 x5 false) :=
  loop_out cfgOK (f := i_impl_rightComb) (its := [.bool false])
    (ps := [decide (x5 < x4) = false]) (by kernel_rfl) ⟨(decide_eq_false h1), trivial⟩ (fun h => by cases h)

theorem impl_rightComb_p1 (a0 : Int) (k1y3 : Tr) (k1y4 : Int) (k1y5 : Int) (k1y6 : Bool)
    (h1 : LoopSC cfg.P 1 (lb P_impl_rightComb 0) (impl_rightComb_L0a Tr.leaf a0 (0 : Int)) (.exit 0) (impl_rightComb_L0X1 k1y3 k1y4 k1y5 k1y6)) :
    SC cfg.P i_impl_rightComb [.s (.v (.int .i64) a0)] (.s (.v .tree k1y3)) [] :=
  SC_of_run cfgOK (its := [.loop (fun _ => (.exit 0, impl_rightComb_L0X1 k1y3 k1y4 k1y5 k1y6))])
    (ps := [LoopSC cfg.P 1 (lb P_impl_rightComb 0) (impl_rightComb_L0a Tr.leaf a0 (0 : Int)) (.exit 0) (impl_rightComb_L0X1 k1y3 k1y4 k1y5 k1y6)]) (by kernel_rfl) ⟨h1, trivial⟩ get_impl_rightComb (by decide)

/-! ### impl_node_mirror -/


theorem impl_node_mirror_p1 
     :
    SC cfg.P i_impl_node_mirror [.s (.v .tree Tr.leaf)] (.s (.v .tree Tr.leaf)) [] :=
  SC_of_run cfgOK (its := [.bool true])
    (ps := [Tr.leaf.isLeaf = true]) (by kernel_rfl) ⟨rfl, trivial⟩ get_impl_node_mirror (by decide)

theorem impl_node_mirror_p2 (a0l : Tr) (a0r : Tr) (c1 : Tr) (c2 : Tr)
    (h1 : SC cfg.P i_impl_node_mirror [.s (.v .tree a0r)] (.s (.v .tree c1)) [])
    (h2 : SC cfg.P i_impl_node_mirror [.s (.v .tree a0l)] (.s (.v .tree c2)) []) :
    SC cfg.P i_impl_node_mirror [.s (.v .tree (Tr.node a0l a0r))] (.s (.v .tree (Tr.node c1 c2))) [] :=
  SC_of_run cfgOK (its := [.bool false, .res (.s (.v .tree c1)) [] [] [], .res (.s (.v .tree c2)) [] [] []])
    (ps := [(Tr.node a0l a0r).isLeaf = false,
      SC cfg.P i_impl_node_mirror [.s (.v .tree a0r)] (.s (.v .tree c1)) [],
      SC cfg.P i_impl_node_mirror [.s (.v .tree a0l)] (.s (.v .tree c2)) []]) (by kernel_rfl) ⟨rfl, h1, h2, trivial⟩ get_impl_node_mirror (by decide)

/-! ### spec_trMirror -/


theorem spec_trMirror_p1 (a0 : ByteArray)
    (h1 : SC cfg.P i_spec_trLeaf [.s (.v .str a0)] (.s (.v .bool true)) []) :
    SC cfg.P i_spec_trMirror [.s (.v .str a0)] (.s (.v .str a0)) [] :=
  SC_of_run cfgOK (its := [.res (.s (.v .bool true)) [] [] []])
    (ps := [SC cfg.P i_spec_trLeaf [.s (.v .str a0)] (.s (.v .bool true)) []]) (by kernel_rfl) ⟨h1, trivial⟩ get_spec_trMirror (by decide)

theorem spec_trMirror_p2 (a0 : ByteArray) (c2a : ByteArray) (c2b : ByteArray) (c3 : ByteArray) (c4 : ByteArray) (c5 : ByteArray)
    (h1 : SC cfg.P i_spec_trLeaf [.s (.v .str a0)] (.s (.v .bool false)) [])
    (h2 : SC cfg.P i_spec_trSides [.s (.v .str a0)] (.tup [.v .str c2a, .v .str c2b]) [])
    (h3 : SC cfg.P i_spec_trMirror [.s (.v .str c2b)] (.s (.v .str c3)) [])
    (h4 : SC cfg.P i_spec_trMirror [.s (.v .str c2a)] (.s (.v .str c4)) [])
    (h5 : SC cfg.P i_spec_trOf [.s (.v .str c3), .s (.v .str c4)] (.s (.v .str c5)) []) :
    SC cfg.P i_spec_trMirror [.s (.v .str a0)] (.s (.v .str c5)) [] :=
  SC_of_run cfgOK (its := [.res (.s (.v .bool false)) [] [] [], .res (.tup [.v .str c2a, .v .str c2b]) [] [] [], .res (.s (.v .str c3)) [] [] [], .res (.s (.v .str c4)) [] [] [], .res (.s (.v .str c5)) [] [] []])
    (ps := [SC cfg.P i_spec_trLeaf [.s (.v .str a0)] (.s (.v .bool false)) [],
      SC cfg.P i_spec_trSides [.s (.v .str a0)] (.tup [.v .str c2a, .v .str c2b]) [],
      SC cfg.P i_spec_trMirror [.s (.v .str c2b)] (.s (.v .str c3)) [],
      SC cfg.P i_spec_trMirror [.s (.v .str c2a)] (.s (.v .str c4)) [],
      SC cfg.P i_spec_trOf [.s (.v .str c3), .s (.v .str c4)] (.s (.v .str c5)) []]) (by kernel_rfl) ⟨h1, h2, h3, h4, h5, trivial⟩ get_spec_trMirror (by decide)

end Go.AI
