/- A part of the road: what it proves stands in its last texts. -/
import Derived.Test.YtcbhdileamhklaaSIds
import Derived.Test.YtcbhdileamhklaaAiI
import Derived.Test.YtcbhdileamhklaaProg
set_option autoImplicit false
set_option maxRecDepth 100000
set_option linter.unusedVariables false
namespace Go.AI
open Go.Proofs

/-! ### laws_FnRulesSortWords -/


def laws_FnRulesSortWords_C0a (x0 : (List Int)) (x1 : (List Int)) : St := mkSt 340 [(0, .s (.v (.sl (.int .u8)) x0)), (1, .s (.v (.sl (.int .u8)) x1))] []

def laws_FnRulesSortWords_R1 (y4 : Bool) : St := mkSt 340 [(4, .s (.v .bool y4))] []

def laws_FnRulesSortWords_C3a (x0 : (List Int)) (x1 : (List Int)) (x59 : Bool) : St := mkSt 340 [(0, .s (.v (.sl (.int .u8)) x0)), (1, .s (.v (.sl (.int .u8)) x1)), (59, .s (.v .bool x59))] []

def laws_FnRulesSortWords_C12a (x1 : (List Int)) (x5 : (List Int)) (x6 : (List Int)) (x7 : Bool) (x10 : Int) (x14 : (List Int)) (x131 : Bool) : St := mkSt 340 [(1, .s (.v (.sl (.int .u8)) x1)), (5, .s (.v (.sl (.int .i64)) x5)), (6, .s (.v (.sl (.int .i64)) x6)), (7, .s (.v .bool x7)), (10, .s (.v (.int .i64) x10)), (14, .s (.v (.sl (.int .i64)) x14)), (131, .s (.v .bool x131))] []

def laws_FnRulesSortWords_L0a (x1 : (List Int)) (x5 : (List Int)) (x6 : (List Int)) (x10 : Int) (x14 : (List Int)) (x22 : (List Int)) (x23 : Bool) (x24 : Int) : St := mkSt 340 [(1, .s (.v (.sl (.int .u8)) x1)), (5, .s (.v (.sl (.int .i64)) x5)), (6, .s (.v (.sl (.int .i64)) x6)), (10, .s (.v (.int .i64) x10)), (14, .s (.v (.sl (.int .i64)) x14)), (22, .s (.v (.sl (.int .i64)) x22)), (23, .s (.v .bool x23)), (24, .s (.v (.int .i64) x24))] []

def laws_FnRulesSortWords_L0X1 (y1 : (List Int)) (y5 : (List Int)) (y6 : (List Int)) (y10 : Int) (y14 : (List Int)) (y22 : (List Int)) (y23 : Bool) (y24 : Int) (y160 : Bool) : St := mkSt 340 [(1, .s (.v (.sl (.int .u8)) y1)), (5, .s (.v (.sl (.int .i64)) y5)), (6, .s (.v (.sl (.int .i64)) y6)), (10, .s (.v (.int .i64) y10)), (14, .s (.v (.sl (.int .i64)) y14)), (22, .s (.v (.sl (.int .i64)) y22)), (23, .s (.v .bool y23)), (24, .s (.v (.int .i64) y24)), (160, .s (.v .bool y160))] []

def laws_FnRulesSortWords_C14a (x1 : (List Int)) (x211 : Bool) : St := mkSt 340 [(1, .s (.v (.sl (.int .u8)) x1)), (211, .s (.v .bool x211))] []

def laws_FnRulesSortWords_C14b (x1 : (List Int)) (x5 : (List Int)) (x6 : (List Int)) (x10 : Int) (x14 : (List Int)) (x132 : Bool) : St := mkSt 340 [(1, .s (.v (.sl (.int .u8)) x1)), (5, .s (.v (.sl (.int .i64)) x5)), (6, .s (.v (.sl (.int .i64)) x6)), (10, .s (.v (.int .i64) x10)), (14, .s (.v (.sl (.int .i64)) x14)), (132, .s (.v .bool x132))] []

def laws_FnRulesSortWords_C19a (x1 : (List Int)) (x33 : (List Int)) (x34 : (List Int)) (x35 : Bool) (x232 : Bool) : St := mkSt 340 [(1, .s (.v (.sl (.int .u8)) x1)), (33, .s (.v (.sl (.int .i64)) x33)), (34, .s (.v (.sl (.int .i64)) x34)), (35, .s (.v .bool x35)), (232, .s (.v .bool x232))] []

def laws_FnRulesSortWords_C21a (x1 : (List Int)) (x252 : Bool) : St := mkSt 340 [(1, .s (.v (.sl (.int .u8)) x1)), (252, .s (.v .bool x252))] []

def laws_FnRulesSortWords_C21b (x1 : (List Int)) (x33 : (List Int)) (x34 : (List Int)) (x233 : Bool) : St := mkSt 340 [(1, .s (.v (.sl (.int .u8)) x1)), (33, .s (.v (.sl (.int .i64)) x33)), (34, .s (.v (.sl (.int .i64)) x34)), (233, .s (.v .bool x233))] []

def laws_FnRulesSortWords_C26a (x1 : (List Int)) (x42 : (List Int)) (x43 : (List Int)) (x44 : Bool) (x273 : Bool) : St := mkSt 340 [(1, .s (.v (.sl (.int .u8)) x1)), (42, .s (.v (.sl (.int .i64)) x42)), (43, .s (.v (.sl (.int .i64)) x43)), (44, .s (.v .bool x44)), (273, .s (.v .bool x273))] []

def laws_FnRulesSortWords_C28a (x1 : (List Int)) (x301 : Bool) : St := mkSt 340 [(1, .s (.v (.sl (.int .u8)) x1)), (301, .s (.v .bool x301))] []

def laws_FnRulesSortWords_C28b (x1 : (List Int)) (x42 : (List Int)) (x43 : (List Int)) (x274 : Bool) : St := mkSt 340 [(1, .s (.v (.sl (.int .u8)) x1)), (42, .s (.v (.sl (.int .i64)) x42)), (43, .s (.v (.sl (.int .i64)) x43)), (274, .s (.v .bool x274))] []

def laws_FnRulesSortWords_C33a (x52 : (List Int)) (x322 : Bool) : St := mkSt 340 [(52, .s (.v (.sl (.int .i64)) x52)), (322, .s (.v .bool x322))] []

def laws_FnRulesSortWords_L1a (x52 : (List Int)) (x56 : Int) : St := mkSt 340 [(52, .s (.v (.sl (.int .i64)) x52)), (56, .s (.v (.int .i64) x56))] []

def laws_FnRulesSortWords_L1X1 (y4 : Bool) : St := mkSt 340 [(4, .s (.v .bool y4))] []

def laws_FnRulesSortWords_L1X2 (y52 : (List Int)) (y56 : Int) (y326 : Bool) : St := mkSt 340 [(52, .s (.v (.sl (.int .i64)) y52)), (56, .s (.v (.int .i64) y56)), (326, .s (.v .bool y326))] []

def laws_FnRulesSortWords_C35a (x52 : (List Int)) (x56 : Int) (x326 : Bool) : St := mkSt 340 [(52, .s (.v (.sl (.int .i64)) x52)), (56, .s (.v (.int .i64) x56)), (326, .s (.v .bool x326))] []

theorem laws_FnRulesSortWords_L0a_i1 (x1 : (List Int)) (x5 : (List Int)) (x6 : (List Int)) (x10 : Int) (x14 : (List Int)) (x22 : (List Int)) (x24 : Int) (dc1a : (List Int)) (dc1b : Bool)
    (h1 : x24 < x10)
    (h2 : SC cfg.P i_impl_RuleStep [.s (.v (.sl (.int .i64)) x22)] (.tup [.v (.sl (.int .i64)) dc1a, .v .bool dc1b]) [])
    {e : AEx} {st : St} (next : LoopSC cfg.P 2 (lb P_laws_FnRulesSortWords 0) (laws_FnRulesSortWords_L0a x1 x5 x6 x10 x14 dc1a dc1b (IntKind.wrap .i64 (x24 + (1 : Int)))) e st) :
    LoopSC cfg.P 2 (lb P_laws_FnRulesSortWords 0) (laws_FnRulesSortWords_L0a x1 x5 x6 x10 x14 x22 true x24) e st :=
  loop_iter cfgOK (f := i_laws_FnRulesSortWords) (its := [.bool true, .res (.tup [.v (.sl (.int .i64)) dc1a, .v .bool dc1b]) [] [] []])
    (ps := [decide (x24 < x10) = true,
      SC cfg.P i_impl_RuleStep [.s (.v (.sl (.int .i64)) x22)] (.tup [.v (.sl (.int .i64)) dc1a, .v .bool dc1b]) []]) (st1 := laws_FnRulesSortWords_L0a x1 x5 x6 x10 x14 dc1a dc1b (IntKind.wrap .i64 (x24 + (1 : Int)))) (by kernel_rfl) ⟨(decide_eq_true h1), h2, trivial⟩ next

theorem laws_FnRulesSortWords_L0a_x2 (x1 : (List Int)) (x5 : (List Int)) (x6 : (List Int)) (x10 : Int) (x14 : (List Int)) (x22 : (List Int)) (x24 : Int)
    (h1 : x24 < x10) :
    LoopSC cfg.P 2 (lb P_laws_FnRulesSortWords 0) (laws_FnRulesSortWords_L0a x1 x5 x6 x10 x14 x22 false x24) (.exit 0) (laws_FnRulesSortWords_L0X1 x1 x5 x6 x10 x14 x22 false x24 false) :=
  loop_out cfgOK (f := i_laws_FnRulesSortWords) (its := [.bool true])
    (ps := [decide (x24 < x10) = true]) (by kernel_rfl) ⟨(decide_eq_true h1), trivial⟩ (fun h => by cases h)

theorem laws_FnRulesSortWords_L0a_x3 (x1 : (List Int)) (x5 : (List Int)) (x6 : (List Int)) (x10 : Int) (x14 : (List Int)) (x22 : (List Int)) (x23 : Bool) (x24 : Int)
    (h1 : ¬ (x24 < x10)) :
    LoopSC cfg.P 2 (lb P_laws_FnRulesSortWords 0) (laws_FnRulesSortWords_L0a x1 x5 x6 x10 x14 x22 x23 x24) (.exit 0) (laws_FnRulesSortWords_L0X1 x1 x5 x6 x10 x14 x22 x23 x24 false) :=
  loop_out cfgOK (f := i_laws_FnRulesSortWords) (its := [.bool false])
    (ps := [decide (x24 < x10) = false]) (by kernel_rfl) ⟨(decide_eq_false h1), trivial⟩ (fun h => by cases h)

theorem laws_FnRulesSortWords_L1a_x1 (x52 : (List Int)) (x56 : Int)
    (h1 : x56 < ((List.length x52 : Nat) : Int))
    (h2 : 0 ≤ x56)
    (h3 : x56 < (List.length x52 : Int))
    (h4 : 0 ≤ (IntKind.wrap .i64 (x56 - (1 : Int))))
    (h5 : (IntKind.wrap .i64 (x56 - (1 : Int))) < (List.length x52 : Int))
    (h6 : (List.getD x52 (x56).toNat (0 : Int)) = (IntKind.wrap .i64 (0 - (List.getD x52 ((IntKind.wrap .i64 (x56 - (1 : Int)))).toNat (0 : Int))))) :
    LoopSC cfg.P 2 (lb P_laws_FnRulesSortWords 1) (laws_FnRulesSortWords_L1a x52 x56) (.ret) (laws_FnRulesSortWords_L1X1 false) :=
  loop_out cfgOK (f := i_laws_FnRulesSortWords) (its := [.bool true, .bool true])
    (ps := [decide (x56 < ((List.length x52 : Nat) : Int)) = true,
      0 ≤ x56,
      x56 < (List.length x52 : Int),
      0 ≤ (IntKind.wrap .i64 (x56 - (1 : Int))),
      (IntKind.wrap .i64 (x56 - (1 : Int))) < (List.length x52 : Int),
      ((List.getD x52 (x56).toNat (0 : Int)) == (IntKind.wrap .i64 (0 - (List.getD x52 ((IntKind.wrap .i64 (x56 - (1 : Int)))).toNat (0 : Int))))) = true]) (by kernel_rfl) ⟨(decide_eq_true h1), h2, h3, h4, h5, (beq_iff_eq.mpr h6), trivial⟩ (fun h => by cases h)

theorem laws_FnRulesSortWords_L1a_i2 (x52 : (List Int)) (x56 : Int)
    (h1 : x56 < ((List.length x52 : Nat) : Int))
    (h2 : 0 ≤ x56)
    (h3 : x56 < (List.length x52 : Int))
    (h4 : 0 ≤ (IntKind.wrap .i64 (x56 - (1 : Int))))
    (h5 : (IntKind.wrap .i64 (x56 - (1 : Int))) < (List.length x52 : Int))
    (h6 : (List.getD x52 (x56).toNat (0 : Int)) ≠ (IntKind.wrap .i64 (0 - (List.getD x52 ((IntKind.wrap .i64 (x56 - (1 : Int)))).toNat (0 : Int)))))
    {e : AEx} {st : St} (next : LoopSC cfg.P 2 (lb P_laws_FnRulesSortWords 1) (laws_FnRulesSortWords_L1a x52 (IntKind.wrap .i64 (x56 + (1 : Int)))) e st) :
    LoopSC cfg.P 2 (lb P_laws_FnRulesSortWords 1) (laws_FnRulesSortWords_L1a x52 x56) e st :=
  loop_iter cfgOK (f := i_laws_FnRulesSortWords) (its := [.bool true, .bool false])
    (ps := [decide (x56 < ((List.length x52 : Nat) : Int)) = true,
      0 ≤ x56,
      x56 < (List.length x52 : Int),
      0 ≤ (IntKind.wrap .i64 (x56 - (1 : Int))),
      (IntKind.wrap .i64 (x56 - (1 : Int))) < (List.length x52 : Int),
      ((List.getD x52 (x56).toNat (0 : Int)) == (IntKind.wrap .i64 (0 - (List.getD x52 ((IntKind.wrap .i64 (x56 - (1 : Int)))).toNat (0 : Int))))) = false]) (st1 := laws_FnRulesSortWords_L1a x52 (IntKind.wrap .i64 (x56 + (1 : Int)))) (by kernel_rfl) ⟨(decide_eq_true h1), h2, h3, h4, h5, (beq_eq_false_iff_ne.mpr h6), trivial⟩ next

theorem laws_FnRulesSortWords_L1a_x3 (x52 : (List Int)) (x56 : Int)
    (h1 : ¬ (x56 < ((List.length x52 : Nat) : Int))) :
    LoopSC cfg.P 2 (lb P_laws_FnRulesSortWords 1) (laws_FnRulesSortWords_L1a x52 x56) (.exit 2) (laws_FnRulesSortWords_L1X2 x52 x56 false) :=
  loop_out cfgOK (f := i_laws_FnRulesSortWords) (its := [.bool false])
    (ps := [decide (x56 < ((List.length x52 : Nat) : Int)) = false]) (by kernel_rfl) ⟨(decide_eq_false h1), trivial⟩ (fun h => by cases h)

theorem laws_FnRulesSortWords_C0a_x1 (x0 : (List Int)) (x1 : (List Int))
    (h1 : SC cfg.P i_laws_big [.s (.v (.sl (.int .u8)) x0), .s (.v (.sl (.int .u8)) x1)] (.s (.v .bool true)) []) :
    RestSC cfg.P 2 (rest P_laws_FnRulesSortWords 0) (laws_FnRulesSortWords_C0a x0 x1) .ret (laws_FnRulesSortWords_R1 true) :=
  rest_ret cfgOK (f := i_laws_FnRulesSortWords) (k := 0) (m := 3) (its := [.res (.s (.v .bool true)) [] [] []])
    (ps := [SC cfg.P i_laws_big [.s (.v (.sl (.int .u8)) x0), .s (.v (.sl (.int .u8)) x1)] (.s (.v .bool true)) []]) (by kernel_rfl) ⟨h1, trivial⟩

theorem laws_FnRulesSortWords_C0a_i2 (x0 : (List Int)) (x1 : (List Int))
    (h1 : SC cfg.P i_laws_big [.s (.v (.sl (.int .u8)) x0), .s (.v (.sl (.int .u8)) x1)] (.s (.v .bool false)) [])
    {e : AEx} {st : St} (next : RestSC cfg.P 2 (rest P_laws_FnRulesSortWords 3) (laws_FnRulesSortWords_C3a x0 x1 false) e st) :
    RestSC cfg.P 2 (rest P_laws_FnRulesSortWords 0) (laws_FnRulesSortWords_C0a x0 x1) e st :=
  rest_next cfgOK (f := i_laws_FnRulesSortWords) (k := 0) (m := 3) (its := [.res (.s (.v .bool false)) [] [] []])
    (ps := [SC cfg.P i_laws_big [.s (.v (.sl (.int .u8)) x0), .s (.v (.sl (.int .u8)) x1)] (.s (.v .bool false)) []]) (st1 := laws_FnRulesSortWords_C3a x0 x1 false) (by kernel_rfl) ⟨h1, trivial⟩ next

theorem laws_FnRulesSortWords_C3a_i1 (x0 : (List Int)) (x1 : (List Int)) (x59 : Bool) (dc1 : (List Int)) (dc2a : (List Int)) (dc2b : Bool) (dc3a : (List Int)) (dc3b : Bool) (dc4a : Int) (dc4b : Bool) (dc5a : Int) (dc5b : Bool) (dc6a : (List Int)) (dc6b : Bool) (dc7a : (List Int)) (dc7b : Bool)
    (h1 : SC cfg.P i_spec_DrawSortedWord [.s (.v (.sl (.int .u8)) x0)] (.s (.v (.sl (.int .i64)) dc1)) [])
    (h2 : SC cfg.P i_impl_SortedWord [.s (.v (.sl (.int .i64)) dc1)] (.tup [.v (.sl (.int .i64)) dc2a, .v .bool dc2b]) [])
    (h3 : SC cfg.P i_spec_SortedWord [.s (.v (.sl (.int .i64)) dc1)] (.tup [.v (.sl (.int .i64)) dc3a, .v .bool dc3b]) [])
    (h4 : SC cfg.P i_impl_RuleSteps [.s (.v (.sl (.int .i64)) dc1)] (.tup [.v (.int .i64) dc4a, .v .bool dc4b]) [])
    (h5 : SC cfg.P i_spec_RuleSteps [.s (.v (.sl (.int .i64)) dc1)] (.tup [.v (.int .i64) dc5a, .v .bool dc5b]) [])
    (h6 : SC cfg.P i_impl_NormalByRules [.s (.v (.sl (.int .i64)) dc1)] (.tup [.v (.sl (.int .i64)) dc6a, .v .bool dc6b]) [])
    (h7 : SC cfg.P i_spec_NormalByRules [.s (.v (.sl (.int .i64)) dc1)] (.tup [.v (.sl (.int .i64)) dc7a, .v .bool dc7b]) [])
    (h8 : (!(dc2b == dc3b)) = false)
    (h9 : SC cfg.P i_laws_nSame [.s (.v (.sl (.int .i64)) dc2a), .s (.v (.sl (.int .i64)) dc3a)] (.s (.v .bool true)) [])
    (h10 : (!(dc4b == dc5b)) = false)
    (h11 : dc4a = dc5a)
    (h12 : (!(dc6b == dc7b)) = false)
    (h13 : SC cfg.P i_laws_nSame [.s (.v (.sl (.int .i64)) dc6a), .s (.v (.sl (.int .i64)) dc7a)] (.s (.v .bool true)) [])
    (h14 : (!(dc4b == dc2b)) = false)
    (h15 : (!(dc6b == dc2b)) = false)
    {e : AEx} {st : St} (next : RestSC cfg.P 2 (rest P_laws_FnRulesSortWords 12) (laws_FnRulesSortWords_C12a x1 dc1 dc2a dc2b dc4a dc6a false) e st) :
    RestSC cfg.P 2 (rest P_laws_FnRulesSortWords 3) (laws_FnRulesSortWords_C3a x0 x1 x59) e st :=
  rest_next cfgOK (f := i_laws_FnRulesSortWords) (k := 3) (m := 9) (its := [.res (.s (.v (.sl (.int .i64)) dc1)) [] [] [], .res (.tup [.v (.sl (.int .i64)) dc2a, .v .bool dc2b]) [] [] [], .res (.tup [.v (.sl (.int .i64)) dc3a, .v .bool dc3b]) [] [] [], .res (.tup [.v (.int .i64) dc4a, .v .bool dc4b]) [] [] [], .res (.tup [.v (.int .i64) dc5a, .v .bool dc5b]) [] [] [], .res (.tup [.v (.sl (.int .i64)) dc6a, .v .bool dc6b]) [] [] [], .res (.tup [.v (.sl (.int .i64)) dc7a, .v .bool dc7b]) [] [] [], .bool false, .res (.s (.v .bool true)) [] [] [], .bool false, .bool false, .bool false, .res (.s (.v .bool true)) [] [] [], .bool false, .bool false])
    (ps := [SC cfg.P i_spec_DrawSortedWord [.s (.v (.sl (.int .u8)) x0)] (.s (.v (.sl (.int .i64)) dc1)) [],
      SC cfg.P i_impl_SortedWord [.s (.v (.sl (.int .i64)) dc1)] (.tup [.v (.sl (.int .i64)) dc2a, .v .bool dc2b]) [],
      SC cfg.P i_spec_SortedWord [.s (.v (.sl (.int .i64)) dc1)] (.tup [.v (.sl (.int .i64)) dc3a, .v .bool dc3b]) [],
      SC cfg.P i_impl_RuleSteps [.s (.v (.sl (.int .i64)) dc1)] (.tup [.v (.int .i64) dc4a, .v .bool dc4b]) [],
      SC cfg.P i_spec_RuleSteps [.s (.v (.sl (.int .i64)) dc1)] (.tup [.v (.int .i64) dc5a, .v .bool dc5b]) [],
      SC cfg.P i_impl_NormalByRules [.s (.v (.sl (.int .i64)) dc1)] (.tup [.v (.sl (.int .i64)) dc6a, .v .bool dc6b]) [],
      SC cfg.P i_spec_NormalByRules [.s (.v (.sl (.int .i64)) dc1)] (.tup [.v (.sl (.int .i64)) dc7a, .v .bool dc7b]) [],
      (!(dc2b == dc3b)) = false,
      SC cfg.P i_laws_nSame [.s (.v (.sl (.int .i64)) dc2a), .s (.v (.sl (.int .i64)) dc3a)] (.s (.v .bool true)) [],
      (!(dc4b == dc5b)) = false,
      (dc4a != dc5a) = false,
      (!(dc6b == dc7b)) = false,
      SC cfg.P i_laws_nSame [.s (.v (.sl (.int .i64)) dc6a), .s (.v (.sl (.int .i64)) dc7a)] (.s (.v .bool true)) [],
      (!(dc4b == dc2b)) = false,
      (!(dc6b == dc2b)) = false]) (st1 := laws_FnRulesSortWords_C12a x1 dc1 dc2a dc2b dc4a dc6a false) (by kernel_rfl) ⟨h1, h2, h3, h4, h5, h6, h7, h8, h9, h10, (bne_eq_false_iff_eq.mpr h11), h12, h13, h14, h15, trivial⟩ next

theorem laws_FnRulesSortWords_C12a_i1 (x1 : (List Int)) (x5 : (List Int)) (x6 : (List Int)) (x10 : Int) (x14 : (List Int)) (x131 : Bool) (dc1a : (List Int)) (dc2a : (List Int)) (dk1y1 : (List Int)) (dk1y5 : (List Int)) (dk1y6 : (List Int)) (dk1y10 : Int) (dk1y14 : (List Int)) (dk1y22 : (List Int)) (dk1y24 : Int) (dk1y160 : Bool) (dc5a : Int) (dc5b : Int) (dc6a : Int) (dc6b : Int)
    (h1 : SC cfg.P i_impl_RuleStep [.s (.v (.sl (.int .i64)) x6)] (.tup [.v (.sl (.int .i64)) dc1a, .v .bool false]) [])
    (h2 : SC cfg.P i_impl_NormalByRules [.s (.v (.sl (.int .i64)) x6)] (.tup [.v (.sl (.int .i64)) dc2a, .v .bool true]) [])
    (h3 : SC cfg.P i_laws_nSame [.s (.v (.sl (.int .i64)) dc2a), .s (.v (.sl (.int .i64)) x14)] (.s (.v .bool true)) [])
    (h4 : LoopSC cfg.P 2 (lb P_laws_FnRulesSortWords 0) (laws_FnRulesSortWords_L0a x1 x5 x6 x10 x14 x5 true (0 : Int)) (.exit 0) (laws_FnRulesSortWords_L0X1 dk1y1 dk1y5 dk1y6 dk1y10 dk1y14 dk1y22 true dk1y24 dk1y160))
    (h5 : SC cfg.P i_laws_nSame [.s (.v (.sl (.int .i64)) dk1y22), .s (.v (.sl (.int .i64)) dk1y6)] (.s (.v .bool true)) [])
    (h6 : SC cfg.P i_impl_SumsOfWord [.s (.v (.sl (.int .i64)) dk1y5)] (.tup [.v (.int .i64) dc5a, .v (.int .i64) dc5b, .v .bool true]) [])
    (h7 : SC cfg.P i_impl_SumsOfWord [.s (.v (.sl (.int .i64)) dk1y14)] (.tup [.v (.int .i64) dc6a, .v (.int .i64) dc6b, .v .bool true]) [])
    (h8 : dc5a = dc6a)
    (h9 : dc5b = dc6b)
    (h10 : ¬ (((List.length dk1y14 : Nat) : Int) > ((List.length dk1y5 : Nat) : Int)))
    {e : AEx} {st : St} (next : RestSC cfg.P 2 (rest P_laws_FnRulesSortWords 14) (laws_FnRulesSortWords_C14a dk1y1 false) e st) :
    RestSC cfg.P 2 (rest P_laws_FnRulesSortWords 12) (laws_FnRulesSortWords_C12a x1 x5 x6 true x10 x14 x131) e st :=
  rest_next cfgOK (f := i_laws_FnRulesSortWords) (k := 12) (m := 2) (its := [.res (.tup [.v (.sl (.int .i64)) dc1a, .v .bool false]) [] [] [], .res (.tup [.v (.sl (.int .i64)) dc2a, .v .bool true]) [] [] [], .res (.s (.v .bool true)) [] [] [], .loop (fun _ => (.exit 0, laws_FnRulesSortWords_L0X1 dk1y1 dk1y5 dk1y6 dk1y10 dk1y14 dk1y22 true dk1y24 dk1y160)), .res (.s (.v .bool true)) [] [] [], .res (.tup [.v (.int .i64) dc5a, .v (.int .i64) dc5b, .v .bool true]) [] [] [], .res (.tup [.v (.int .i64) dc6a, .v (.int .i64) dc6b, .v .bool true]) [] [] [], .bool false, .bool false, .bool false])
    (ps := [SC cfg.P i_impl_RuleStep [.s (.v (.sl (.int .i64)) x6)] (.tup [.v (.sl (.int .i64)) dc1a, .v .bool false]) [],
      SC cfg.P i_impl_NormalByRules [.s (.v (.sl (.int .i64)) x6)] (.tup [.v (.sl (.int .i64)) dc2a, .v .bool true]) [],
      SC cfg.P i_laws_nSame [.s (.v (.sl (.int .i64)) dc2a), .s (.v (.sl (.int .i64)) x14)] (.s (.v .bool true)) [],
      LoopSC cfg.P 2 (lb P_laws_FnRulesSortWords 0) (laws_FnRulesSortWords_L0a x1 x5 x6 x10 x14 x5 true (0 : Int)) (.exit 0) (laws_FnRulesSortWords_L0X1 dk1y1 dk1y5 dk1y6 dk1y10 dk1y14 dk1y22 true dk1y24 dk1y160),
      SC cfg.P i_laws_nSame [.s (.v (.sl (.int .i64)) dk1y22), .s (.v (.sl (.int .i64)) dk1y6)] (.s (.v .bool true)) [],
      SC cfg.P i_impl_SumsOfWord [.s (.v (.sl (.int .i64)) dk1y5)] (.tup [.v (.int .i64) dc5a, .v (.int .i64) dc5b, .v .bool true]) [],
      SC cfg.P i_impl_SumsOfWord [.s (.v (.sl (.int .i64)) dk1y14)] (.tup [.v (.int .i64) dc6a, .v (.int .i64) dc6b, .v .bool true]) [],
      (dc5a != dc6a) = false,
      (dc5b != dc6b) = false,
      decide (((List.length dk1y14 : Nat) : Int) > ((List.length dk1y5 : Nat) : Int)) = false]) (st1 := laws_FnRulesSortWords_C14a dk1y1 false) (by kernel_rfl) ⟨h1, h2, h3, h4, h5, h6, h7, (bne_eq_false_iff_eq.mpr h8), (bne_eq_false_iff_eq.mpr h9), (decide_eq_false h10), trivial⟩ next

theorem laws_FnRulesSortWords_C12a_i2 (x1 : (List Int)) (x5 : (List Int)) (x6 : (List Int)) (x10 : Int) (x14 : (List Int)) (x131 : Bool) (dc1a : (List Int)) (dc2a : (List Int)) (dk1y1 : (List Int)) (dk1y5 : (List Int)) (dk1y6 : (List Int)) (dk1y10 : Int) (dk1y14 : (List Int)) (dk1y22 : (List Int)) (dk1y24 : Int) (dk1y160 : Bool) (dc4a : Int) (dc4b : Int) (dc5a : Int) (dc5b : Int)
    (h1 : SC cfg.P i_impl_RuleStep [.s (.v (.sl (.int .i64)) x6)] (.tup [.v (.sl (.int .i64)) dc1a, .v .bool false]) [])
    (h2 : SC cfg.P i_impl_NormalByRules [.s (.v (.sl (.int .i64)) x6)] (.tup [.v (.sl (.int .i64)) dc2a, .v .bool true]) [])
    (h3 : SC cfg.P i_laws_nSame [.s (.v (.sl (.int .i64)) dc2a), .s (.v (.sl (.int .i64)) x14)] (.s (.v .bool true)) [])
    (h4 : LoopSC cfg.P 2 (lb P_laws_FnRulesSortWords 0) (laws_FnRulesSortWords_L0a x1 x5 x6 x10 x14 x5 true (0 : Int)) (.exit 0) (laws_FnRulesSortWords_L0X1 dk1y1 dk1y5 dk1y6 dk1y10 dk1y14 dk1y22 false dk1y24 dk1y160))
    (h5 : SC cfg.P i_impl_SumsOfWord [.s (.v (.sl (.int .i64)) dk1y5)] (.tup [.v (.int .i64) dc4a, .v (.int .i64) dc4b, .v .bool true]) [])
    (h6 : SC cfg.P i_impl_SumsOfWord [.s (.v (.sl (.int .i64)) dk1y14)] (.tup [.v (.int .i64) dc5a, .v (.int .i64) dc5b, .v .bool true]) [])
    (h7 : dc4a = dc5a)
    (h8 : dc4b = dc5b)
    (h9 : ¬ (((List.length dk1y14 : Nat) : Int) > ((List.length dk1y5 : Nat) : Int)))
    {e : AEx} {st : St} (next : RestSC cfg.P 2 (rest P_laws_FnRulesSortWords 14) (laws_FnRulesSortWords_C14a dk1y1 false) e st) :
    RestSC cfg.P 2 (rest P_laws_FnRulesSortWords 12) (laws_FnRulesSortWords_C12a x1 x5 x6 true x10 x14 x131) e st :=
  rest_next cfgOK (f := i_laws_FnRulesSortWords) (k := 12) (m := 2) (its := [.res (.tup [.v (.sl (.int .i64)) dc1a, .v .bool false]) [] [] [], .res (.tup [.v (.sl (.int .i64)) dc2a, .v .bool true]) [] [] [], .res (.s (.v .bool true)) [] [] [], .loop (fun _ => (.exit 0, laws_FnRulesSortWords_L0X1 dk1y1 dk1y5 dk1y6 dk1y10 dk1y14 dk1y22 false dk1y24 dk1y160)), .res (.tup [.v (.int .i64) dc4a, .v (.int .i64) dc4b, .v .bool true]) [] [] [], .res (.tup [.v (.int .i64) dc5a, .v (.int .i64) dc5b, .v .bool true]) [] [] [], .bool false, .bool false, .bool false])
    (ps := [SC cfg.P i_impl_RuleStep [.s (.v (.sl (.int .i64)) x6)] (.tup [.v (.sl (.int .i64)) dc1a, .v .bool false]) [],
      SC cfg.P i_impl_NormalByRules [.s (.v (.sl (.int .i64)) x6)] (.tup [.v (.sl (.int .i64)) dc2a, .v .bool true]) [],
      SC cfg.P i_laws_nSame [.s (.v (.sl (.int .i64)) dc2a), .s (.v (.sl (.int .i64)) x14)] (.s (.v .bool true)) [],
      LoopSC cfg.P 2 (lb P_laws_FnRulesSortWords 0) (laws_FnRulesSortWords_L0a x1 x5 x6 x10 x14 x5 true (0 : Int)) (.exit 0) (laws_FnRulesSortWords_L0X1 dk1y1 dk1y5 dk1y6 dk1y10 dk1y14 dk1y22 false dk1y24 dk1y160),
      SC cfg.P i_impl_SumsOfWord [.s (.v (.sl (.int .i64)) dk1y5)] (.tup [.v (.int .i64) dc4a, .v (.int .i64) dc4b, .v .bool true]) [],
      SC cfg.P i_impl_SumsOfWord [.s (.v (.sl (.int .i64)) dk1y14)] (.tup [.v (.int .i64) dc5a, .v (.int .i64) dc5b, .v .bool true]) [],
      (dc4a != dc5a) = false,
      (dc4b != dc5b) = false,
      decide (((List.length dk1y14 : Nat) : Int) > ((List.length dk1y5 : Nat) : Int)) = false]) (st1 := laws_FnRulesSortWords_C14a dk1y1 false) (by kernel_rfl) ⟨h1, h2, h3, h4, h5, h6, (bne_eq_false_iff_eq.mpr h7), (bne_eq_false_iff_eq.mpr h8), (decide_eq_false h9), trivial⟩ next

theorem laws_FnRulesSortWords_C12a_i3 (x1 : (List Int)) (x5 : (List Int)) (x6 : (List Int)) (x10 : Int) (x14 : (List Int)) (x131 : Bool)
    {e : AEx} {st : St} (next : RestSC cfg.P 2 (rest P_laws_FnRulesSortWords 14) (laws_FnRulesSortWords_C14b x1 x5 x6 x10 x14 false) e st) :
    RestSC cfg.P 2 (rest P_laws_FnRulesSortWords 12) (laws_FnRulesSortWords_C12a x1 x5 x6 false x10 x14 x131) e st :=
  rest_next cfgOK (f := i_laws_FnRulesSortWords) (k := 12) (m := 2) (its := [])
    (ps := []) (st1 := laws_FnRulesSortWords_C14b x1 x5 x6 x10 x14 false) (by kernel_rfl) trivial next

theorem laws_FnRulesSortWords_C14a_i1 (x1 : (List Int)) (x211 : Bool) (dc1 : (List Int)) (dc2a : (List Int)) (dc2b : Bool) (dc3a : (List Int)) (dc3b : Bool)
    (h1 : SC cfg.P i_spec_DrawRuleStep [.s (.v (.sl (.int .u8)) x1)] (.s (.v (.sl (.int .i64)) dc1)) [])
    (h2 : SC cfg.P i_impl_RuleStep [.s (.v (.sl (.int .i64)) dc1)] (.tup [.v (.sl (.int .i64)) dc2a, .v .bool dc2b]) [])
    (h3 : SC cfg.P i_spec_RuleStep [.s (.v (.sl (.int .i64)) dc1)] (.tup [.v (.sl (.int .i64)) dc3a, .v .bool dc3b]) [])
    (h4 : (!(dc2b == dc3b)) = false)
    (h5 : SC cfg.P i_laws_nSame [.s (.v (.sl (.int .i64)) dc2a), .s (.v (.sl (.int .i64)) dc3a)] (.s (.v .bool true)) [])
    {e : AEx} {st : St} (next : RestSC cfg.P 2 (rest P_laws_FnRulesSortWords 19) (laws_FnRulesSortWords_C19a x1 dc1 dc2a dc2b false) e st) :
    RestSC cfg.P 2 (rest P_laws_FnRulesSortWords 14) (laws_FnRulesSortWords_C14a x1 x211) e st :=
  rest_next cfgOK (f := i_laws_FnRulesSortWords) (k := 14) (m := 5) (its := [.res (.s (.v (.sl (.int .i64)) dc1)) [] [] [], .res (.tup [.v (.sl (.int .i64)) dc2a, .v .bool dc2b]) [] [] [], .res (.tup [.v (.sl (.int .i64)) dc3a, .v .bool dc3b]) [] [] [], .bool false, .res (.s (.v .bool true)) [] [] []])
    (ps := [SC cfg.P i_spec_DrawRuleStep [.s (.v (.sl (.int .u8)) x1)] (.s (.v (.sl (.int .i64)) dc1)) [],
      SC cfg.P i_impl_RuleStep [.s (.v (.sl (.int .i64)) dc1)] (.tup [.v (.sl (.int .i64)) dc2a, .v .bool dc2b]) [],
      SC cfg.P i_spec_RuleStep [.s (.v (.sl (.int .i64)) dc1)] (.tup [.v (.sl (.int .i64)) dc3a, .v .bool dc3b]) [],
      (!(dc2b == dc3b)) = false,
      SC cfg.P i_laws_nSame [.s (.v (.sl (.int .i64)) dc2a), .s (.v (.sl (.int .i64)) dc3a)] (.s (.v .bool true)) []]) (st1 := laws_FnRulesSortWords_C19a x1 dc1 dc2a dc2b false) (by kernel_rfl) ⟨h1, h2, h3, h4, h5, trivial⟩ next

theorem laws_FnRulesSortWords_C14b_i1 (x1 : (List Int)) (x5 : (List Int)) (x6 : (List Int)) (x10 : Int) (x14 : (List Int)) (x132 : Bool) (dc1 : (List Int)) (dc2a : (List Int)) (dc2b : Bool) (dc3a : (List Int)) (dc3b : Bool)
    (h1 : SC cfg.P i_spec_DrawRuleStep [.s (.v (.sl (.int .u8)) x1)] (.s (.v (.sl (.int .i64)) dc1)) [])
    (h2 : SC cfg.P i_impl_RuleStep [.s (.v (.sl (.int .i64)) dc1)] (.tup [.v (.sl (.int .i64)) dc2a, .v .bool dc2b]) [])
    (h3 : SC cfg.P i_spec_RuleStep [.s (.v (.sl (.int .i64)) dc1)] (.tup [.v (.sl (.int .i64)) dc3a, .v .bool dc3b]) [])
    (h4 : (!(dc2b == dc3b)) = false)
    (h5 : SC cfg.P i_laws_nSame [.s (.v (.sl (.int .i64)) dc2a), .s (.v (.sl (.int .i64)) dc3a)] (.s (.v .bool true)) [])
    {e : AEx} {st : St} (next : RestSC cfg.P 2 (rest P_laws_FnRulesSortWords 19) (laws_FnRulesSortWords_C19a x1 dc1 dc2a dc2b false) e st) :
    RestSC cfg.P 2 (rest P_laws_FnRulesSortWords 14) (laws_FnRulesSortWords_C14b x1 x5 x6 x10 x14 x132) e st :=
  rest_next cfgOK (f := i_laws_FnRulesSortWords) (k := 14) (m := 5) (its := [.res (.s (.v (.sl (.int .i64)) dc1)) [] [] [], .res (.tup [.v (.sl (.int .i64)) dc2a, .v .bool dc2b]) [] [] [], .res (.tup [.v (.sl (.int .i64)) dc3a, .v .bool dc3b]) [] [] [], .bool false, .res (.s (.v .bool true)) [] [] []])
    (ps := [SC cfg.P i_spec_DrawRuleStep [.s (.v (.sl (.int .u8)) x1)] (.s (.v (.sl (.int .i64)) dc1)) [],
      SC cfg.P i_impl_RuleStep [.s (.v (.sl (.int .i64)) dc1)] (.tup [.v (.sl (.int .i64)) dc2a, .v .bool dc2b]) [],
      SC cfg.P i_spec_RuleStep [.s (.v (.sl (.int .i64)) dc1)] (.tup [.v (.sl (.int .i64)) dc3a, .v .bool dc3b]) [],
      (!(dc2b == dc3b)) = false,
      SC cfg.P i_laws_nSame [.s (.v (.sl (.int .i64)) dc2a), .s (.v (.sl (.int .i64)) dc3a)] (.s (.v .bool true)) []]) (st1 := laws_FnRulesSortWords_C19a x1 dc1 dc2a dc2b false) (by kernel_rfl) ⟨h1, h2, h3, h4, h5, trivial⟩ next

theorem laws_FnRulesSortWords_C19a_i1 (x1 : (List Int)) (x33 : (List Int)) (x34 : (List Int)) (x232 : Bool) (dc1a : (ByteArray × ByteArray)) (dc2a : (ByteArray × ByteArray))
    (h1 : SC cfg.P i_impl_PairOfWord [.s (.v (.sl (.int .i64)) x33)] (.tup [.v (.pr .str .str) dc1a, .v .bool true]) [])
    (h2 : SC cfg.P i_impl_PairOfWord [.s (.v (.sl (.int .i64)) x34)] (.tup [.v (.pr .str .str) dc2a, .v .bool true]) [])
    (h3 : (!(((dc1a.1).toList == (dc2a.1).toList) && ((dc1a.2).toList == (dc2a.2).toList))) = false)
    {e : AEx} {st : St} (next : RestSC cfg.P 2 (rest P_laws_FnRulesSortWords 21) (laws_FnRulesSortWords_C21a x1 false) e st) :
    RestSC cfg.P 2 (rest P_laws_FnRulesSortWords 19) (laws_FnRulesSortWords_C19a x1 x33 x34 true x232) e st :=
  rest_next cfgOK (f := i_laws_FnRulesSortWords) (k := 19) (m := 2) (its := [.res (.tup [.v (.pr .str .str) dc1a, .v .bool true]) [] [] [], .res (.tup [.v (.pr .str .str) dc2a, .v .bool true]) [] [] [], .bool false])
    (ps := [SC cfg.P i_impl_PairOfWord [.s (.v (.sl (.int .i64)) x33)] (.tup [.v (.pr .str .str) dc1a, .v .bool true]) [],
      SC cfg.P i_impl_PairOfWord [.s (.v (.sl (.int .i64)) x34)] (.tup [.v (.pr .str .str) dc2a, .v .bool true]) [],
      (!(((dc1a.1).toList == (dc2a.1).toList) && ((dc1a.2).toList == (dc2a.2).toList))) = false]) (st1 := laws_FnRulesSortWords_C21a x1 false) (by kernel_rfl) ⟨h1, h2, h3, trivial⟩ next

theorem laws_FnRulesSortWords_C19a_i2 (x1 : (List Int)) (x33 : (List Int)) (x34 : (List Int)) (x232 : Bool) (dc1a : (ByteArray × ByteArray)) (dc2a : (ByteArray × ByteArray))
    (h1 : SC cfg.P i_impl_PairOfWord [.s (.v (.sl (.int .i64)) x33)] (.tup [.v (.pr .str .str) dc1a, .v .bool true]) [])
    (h2 : SC cfg.P i_impl_PairOfWord [.s (.v (.sl (.int .i64)) x34)] (.tup [.v (.pr .str .str) dc2a, .v .bool false]) [])
    {e : AEx} {st : St} (next : RestSC cfg.P 2 (rest P_laws_FnRulesSortWords 21) (laws_FnRulesSortWords_C21a x1 false) e st) :
    RestSC cfg.P 2 (rest P_laws_FnRulesSortWords 19) (laws_FnRulesSortWords_C19a x1 x33 x34 true x232) e st :=
  rest_next cfgOK (f := i_laws_FnRulesSortWords) (k := 19) (m := 2) (its := [.res (.tup [.v (.pr .str .str) dc1a, .v .bool true]) [] [] [], .res (.tup [.v (.pr .str .str) dc2a, .v .bool false]) [] [] []])
    (ps := [SC cfg.P i_impl_PairOfWord [.s (.v (.sl (.int .i64)) x33)] (.tup [.v (.pr .str .str) dc1a, .v .bool true]) [],
      SC cfg.P i_impl_PairOfWord [.s (.v (.sl (.int .i64)) x34)] (.tup [.v (.pr .str .str) dc2a, .v .bool false]) []]) (st1 := laws_FnRulesSortWords_C21a x1 false) (by kernel_rfl) ⟨h1, h2, trivial⟩ next

theorem laws_FnRulesSortWords_C19a_i3 (x1 : (List Int)) (x33 : (List Int)) (x34 : (List Int)) (x232 : Bool) (dc1a : (ByteArray × ByteArray)) (dc2a : (ByteArray × ByteArray)) (dc2b : Bool)
    (h1 : SC cfg.P i_impl_PairOfWord [.s (.v (.sl (.int .i64)) x33)] (.tup [.v (.pr .str .str) dc1a, .v .bool false]) [])
    (h2 : SC cfg.P i_impl_PairOfWord [.s (.v (.sl (.int .i64)) x34)] (.tup [.v (.pr .str .str) dc2a, .v .bool dc2b]) [])
    {e : AEx} {st : St} (next : RestSC cfg.P 2 (rest P_laws_FnRulesSortWords 21) (laws_FnRulesSortWords_C21a x1 false) e st) :
    RestSC cfg.P 2 (rest P_laws_FnRulesSortWords 19) (laws_FnRulesSortWords_C19a x1 x33 x34 true x232) e st :=
  rest_next cfgOK (f := i_laws_FnRulesSortWords) (k := 19) (m := 2) (its := [.res (.tup [.v (.pr .str .str) dc1a, .v .bool false]) [] [] [], .res (.tup [.v (.pr .str .str) dc2a, .v .bool dc2b]) [] [] []])
    (ps := [SC cfg.P i_impl_PairOfWord [.s (.v (.sl (.int .i64)) x33)] (.tup [.v (.pr .str .str) dc1a, .v .bool false]) [],
      SC cfg.P i_impl_PairOfWord [.s (.v (.sl (.int .i64)) x34)] (.tup [.v (.pr .str .str) dc2a, .v .bool dc2b]) []]) (st1 := laws_FnRulesSortWords_C21a x1 false) (by kernel_rfl) ⟨h1, h2, trivial⟩ next

theorem laws_FnRulesSortWords_C19a_i4 (x1 : (List Int)) (x33 : (List Int)) (x34 : (List Int)) (x232 : Bool)
    {e : AEx} {st : St} (next : RestSC cfg.P 2 (rest P_laws_FnRulesSortWords 21) (laws_FnRulesSortWords_C21b x1 x33 x34 false) e st) :
    RestSC cfg.P 2 (rest P_laws_FnRulesSortWords 19) (laws_FnRulesSortWords_C19a x1 x33 x34 false x232) e st :=
  rest_next cfgOK (f := i_laws_FnRulesSortWords) (k := 19) (m := 2) (its := [])
    (ps := []) (st1 := laws_FnRulesSortWords_C21b x1 x33 x34 false) (by kernel_rfl) trivial next

theorem laws_FnRulesSortWords_C21a_i1 (x1 : (List Int)) (x252 : Bool) (dc1 : (List Int)) (dc2a : (List Int)) (dc2b : Bool) (dc3a : (List Int)) (dc3b : Bool)
    (h1 : SC cfg.P i_spec_DrawDropStep [.s (.v (.sl (.int .u8)) x1)] (.s (.v (.sl (.int .i64)) dc1)) [])
    (h2 : SC cfg.P i_impl_DropStep [.s (.v (.sl (.int .i64)) dc1)] (.tup [.v (.sl (.int .i64)) dc2a, .v .bool dc2b]) [])
    (h3 : SC cfg.P i_spec_DropStep [.s (.v (.sl (.int .i64)) dc1)] (.tup [.v (.sl (.int .i64)) dc3a, .v .bool dc3b]) [])
    (h4 : (!(dc2b == dc3b)) = false)
    (h5 : SC cfg.P i_laws_nSame [.s (.v (.sl (.int .i64)) dc2a), .s (.v (.sl (.int .i64)) dc3a)] (.s (.v .bool true)) [])
    {e : AEx} {st : St} (next : RestSC cfg.P 2 (rest P_laws_FnRulesSortWords 26) (laws_FnRulesSortWords_C26a x1 dc1 dc2a dc2b false) e st) :
    RestSC cfg.P 2 (rest P_laws_FnRulesSortWords 21) (laws_FnRulesSortWords_C21a x1 x252) e st :=
  rest_next cfgOK (f := i_laws_FnRulesSortWords) (k := 21) (m := 5) (its := [.res (.s (.v (.sl (.int .i64)) dc1)) [] [] [], .res (.tup [.v (.sl (.int .i64)) dc2a, .v .bool dc2b]) [] [] [], .res (.tup [.v (.sl (.int .i64)) dc3a, .v .bool dc3b]) [] [] [], .bool false, .res (.s (.v .bool true)) [] [] []])
    (ps := [SC cfg.P i_spec_DrawDropStep [.s (.v (.sl (.int .u8)) x1)] (.s (.v (.sl (.int .i64)) dc1)) [],
      SC cfg.P i_impl_DropStep [.s (.v (.sl (.int .i64)) dc1)] (.tup [.v (.sl (.int .i64)) dc2a, .v .bool dc2b]) [],
      SC cfg.P i_spec_DropStep [.s (.v (.sl (.int .i64)) dc1)] (.tup [.v (.sl (.int .i64)) dc3a, .v .bool dc3b]) [],
      (!(dc2b == dc3b)) = false,
      SC cfg.P i_laws_nSame [.s (.v (.sl (.int .i64)) dc2a), .s (.v (.sl (.int .i64)) dc3a)] (.s (.v .bool true)) []]) (st1 := laws_FnRulesSortWords_C26a x1 dc1 dc2a dc2b false) (by kernel_rfl) ⟨h1, h2, h3, h4, h5, trivial⟩ next

theorem laws_FnRulesSortWords_C21b_i1 (x1 : (List Int)) (x33 : (List Int)) (x34 : (List Int)) (x233 : Bool) (dc1 : (List Int)) (dc2a : (List Int)) (dc2b : Bool) (dc3a : (List Int)) (dc3b : Bool)
    (h1 : SC cfg.P i_spec_DrawDropStep [.s (.v (.sl (.int .u8)) x1)] (.s (.v (.sl (.int .i64)) dc1)) [])
    (h2 : SC cfg.P i_impl_DropStep [.s (.v (.sl (.int .i64)) dc1)] (.tup [.v (.sl (.int .i64)) dc2a, .v .bool dc2b]) [])
    (h3 : SC cfg.P i_spec_DropStep [.s (.v (.sl (.int .i64)) dc1)] (.tup [.v (.sl (.int .i64)) dc3a, .v .bool dc3b]) [])
    (h4 : (!(dc2b == dc3b)) = false)
    (h5 : SC cfg.P i_laws_nSame [.s (.v (.sl (.int .i64)) dc2a), .s (.v (.sl (.int .i64)) dc3a)] (.s (.v .bool true)) [])
    {e : AEx} {st : St} (next : RestSC cfg.P 2 (rest P_laws_FnRulesSortWords 26) (laws_FnRulesSortWords_C26a x1 dc1 dc2a dc2b false) e st) :
    RestSC cfg.P 2 (rest P_laws_FnRulesSortWords 21) (laws_FnRulesSortWords_C21b x1 x33 x34 x233) e st :=
  rest_next cfgOK (f := i_laws_FnRulesSortWords) (k := 21) (m := 5) (its := [.res (.s (.v (.sl (.int .i64)) dc1)) [] [] [], .res (.tup [.v (.sl (.int .i64)) dc2a, .v .bool dc2b]) [] [] [], .res (.tup [.v (.sl (.int .i64)) dc3a, .v .bool dc3b]) [] [] [], .bool false, .res (.s (.v .bool true)) [] [] []])
    (ps := [SC cfg.P i_spec_DrawDropStep [.s (.v (.sl (.int .u8)) x1)] (.s (.v (.sl (.int .i64)) dc1)) [],
      SC cfg.P i_impl_DropStep [.s (.v (.sl (.int .i64)) dc1)] (.tup [.v (.sl (.int .i64)) dc2a, .v .bool dc2b]) [],
      SC cfg.P i_spec_DropStep [.s (.v (.sl (.int .i64)) dc1)] (.tup [.v (.sl (.int .i64)) dc3a, .v .bool dc3b]) [],
      (!(dc2b == dc3b)) = false,
      SC cfg.P i_laws_nSame [.s (.v (.sl (.int .i64)) dc2a), .s (.v (.sl (.int .i64)) dc3a)] (.s (.v .bool true)) []]) (st1 := laws_FnRulesSortWords_C26a x1 dc1 dc2a dc2b false) (by kernel_rfl) ⟨h1, h2, h3, h4, h5, trivial⟩ next

theorem laws_FnRulesSortWords_C26a_i1 (x1 : (List Int)) (x42 : (List Int)) (x43 : (List Int)) (x273 : Bool) (dc1a : (ByteArray × ByteArray)) (dc2a : (ByteArray × ByteArray))
    (h1 : SC cfg.P i_impl_PairOfWord [.s (.v (.sl (.int .i64)) x42)] (.tup [.v (.pr .str .str) dc1a, .v .bool true]) [])
    (h2 : SC cfg.P i_impl_PairOfWord [.s (.v (.sl (.int .i64)) x43)] (.tup [.v (.pr .str .str) dc2a, .v .bool true]) [])
    (h3 : (!(((dc1a.1).toList == (dc2a.1).toList) && ((dc1a.2).toList == (dc2a.2).toList))) = false)
    (h4 : ((List.length x43 : Nat) : Int) = (IntKind.wrap .i64 (((List.length x42 : Nat) : Int) - (2 : Int))))
    {e : AEx} {st : St} (next : RestSC cfg.P 2 (rest P_laws_FnRulesSortWords 28) (laws_FnRulesSortWords_C28a x1 false) e st) :
    RestSC cfg.P 2 (rest P_laws_FnRulesSortWords 26) (laws_FnRulesSortWords_C26a x1 x42 x43 true x273) e st :=
  rest_next cfgOK (f := i_laws_FnRulesSortWords) (k := 26) (m := 2) (its := [.res (.tup [.v (.pr .str .str) dc1a, .v .bool true]) [] [] [], .res (.tup [.v (.pr .str .str) dc2a, .v .bool true]) [] [] [], .bool false, .bool false])
    (ps := [SC cfg.P i_impl_PairOfWord [.s (.v (.sl (.int .i64)) x42)] (.tup [.v (.pr .str .str) dc1a, .v .bool true]) [],
      SC cfg.P i_impl_PairOfWord [.s (.v (.sl (.int .i64)) x43)] (.tup [.v (.pr .str .str) dc2a, .v .bool true]) [],
      (!(((dc1a.1).toList == (dc2a.1).toList) && ((dc1a.2).toList == (dc2a.2).toList))) = false,
      (((List.length x43 : Nat) : Int) != (IntKind.wrap .i64 (((List.length x42 : Nat) : Int) - (2 : Int)))) = false]) (st1 := laws_FnRulesSortWords_C28a x1 false) (by kernel_rfl) ⟨h1, h2, h3, (bne_eq_false_iff_eq.mpr h4), trivial⟩ next

theorem laws_FnRulesSortWords_C26a_i2 (x1 : (List Int)) (x42 : (List Int)) (x43 : (List Int)) (x273 : Bool) (dc1a : (ByteArray × ByteArray)) (dc2a : (ByteArray × ByteArray))
    (h1 : SC cfg.P i_impl_PairOfWord [.s (.v (.sl (.int .i64)) x42)] (.tup [.v (.pr .str .str) dc1a, .v .bool true]) [])
    (h2 : SC cfg.P i_impl_PairOfWord [.s (.v (.sl (.int .i64)) x43)] (.tup [.v (.pr .str .str) dc2a, .v .bool false]) [])
    (h3 : ((List.length x43 : Nat) : Int) = (IntKind.wrap .i64 (((List.length x42 : Nat) : Int) - (2 : Int))))
    {e : AEx} {st : St} (next : RestSC cfg.P 2 (rest P_laws_FnRulesSortWords 28) (laws_FnRulesSortWords_C28a x1 false) e st) :
    RestSC cfg.P 2 (rest P_laws_FnRulesSortWords 26) (laws_FnRulesSortWords_C26a x1 x42 x43 true x273) e st :=
  rest_next cfgOK (f := i_laws_FnRulesSortWords) (k := 26) (m := 2) (its := [.res (.tup [.v (.pr .str .str) dc1a, .v .bool true]) [] [] [], .res (.tup [.v (.pr .str .str) dc2a, .v .bool false]) [] [] [], .bool false])
    (ps := [SC cfg.P i_impl_PairOfWord [.s (.v (.sl (.int .i64)) x42)] (.tup [.v (.pr .str .str) dc1a, .v .bool true]) [],
      SC cfg.P i_impl_PairOfWord [.s (.v (.sl (.int .i64)) x43)] (.tup [.v (.pr .str .str) dc2a, .v .bool false]) [],
      (((List.length x43 : Nat) : Int) != (IntKind.wrap .i64 (((List.length x42 : Nat) : Int) - (2 : Int)))) = false]) (st1 := laws_FnRulesSortWords_C28a x1 false) (by kernel_rfl) ⟨h1, h2, (bne_eq_false_iff_eq.mpr h3), trivial⟩ next

theorem laws_FnRulesSortWords_C26a_i3 (x1 : (List Int)) (x42 : (List Int)) (x43 : (List Int)) (x273 : Bool) (dc1a : (ByteArray × ByteArray)) (dc2a : (ByteArray × ByteArray)) (dc2b : Bool)
    (h1 : SC cfg.P i_impl_PairOfWord [.s (.v (.sl (.int .i64)) x42)] (.tup [.v (.pr .str .str) dc1a, .v .bool false]) [])
    (h2 : SC cfg.P i_impl_PairOfWord [.s (.v (.sl (.int .i64)) x43)] (.tup [.v (.pr .str .str) dc2a, .v .bool dc2b]) [])
    (h3 : ((List.length x43 : Nat) : Int) = (IntKind.wrap .i64 (((List.length x42 : Nat) : Int) - (2 : Int))))
    {e : AEx} {st : St} (next : RestSC cfg.P 2 (rest P_laws_FnRulesSortWords 28) (laws_FnRulesSortWords_C28a x1 false) e st) :
    RestSC cfg.P 2 (rest P_laws_FnRulesSortWords 26) (laws_FnRulesSortWords_C26a x1 x42 x43 true x273) e st :=
  rest_next cfgOK (f := i_laws_FnRulesSortWords) (k := 26) (m := 2) (its := [.res (.tup [.v (.pr .str .str) dc1a, .v .bool false]) [] [] [], .res (.tup [.v (.pr .str .str) dc2a, .v .bool dc2b]) [] [] [], .bool false])
    (ps := [SC cfg.P i_impl_PairOfWord [.s (.v (.sl (.int .i64)) x42)] (.tup [.v (.pr .str .str) dc1a, .v .bool false]) [],
      SC cfg.P i_impl_PairOfWord [.s (.v (.sl (.int .i64)) x43)] (.tup [.v (.pr .str .str) dc2a, .v .bool dc2b]) [],
      (((List.length x43 : Nat) : Int) != (IntKind.wrap .i64 (((List.length x42 : Nat) : Int) - (2 : Int)))) = false]) (st1 := laws_FnRulesSortWords_C28a x1 false) (by kernel_rfl) ⟨h1, h2, (bne_eq_false_iff_eq.mpr h3), trivial⟩ next

theorem laws_FnRulesSortWords_C26a_i4 (x1 : (List Int)) (x42 : (List Int)) (x43 : (List Int)) (x273 : Bool)
    {e : AEx} {st : St} (next : RestSC cfg.P 2 (rest P_laws_FnRulesSortWords 28) (laws_FnRulesSortWords_C28b x1 x42 x43 false) e st) :
    RestSC cfg.P 2 (rest P_laws_FnRulesSortWords 26) (laws_FnRulesSortWords_C26a x1 x42 x43 false x273) e st :=
  rest_next cfgOK (f := i_laws_FnRulesSortWords) (k := 26) (m := 2) (its := [])
    (ps := []) (st1 := laws_FnRulesSortWords_C28b x1 x42 x43 false) (by kernel_rfl) trivial next

theorem laws_FnRulesSortWords_C28a_i1 (x1 : (List Int)) (x301 : Bool) (dc1 : (List Int)) (dc2a : (List Int)) (dc2b : Bool) (dc3a : (List Int)) (dc3b : Bool)
    (h1 : SC cfg.P i_spec_DrawFreeReduce [.s (.v (.sl (.int .u8)) x1)] (.s (.v (.sl (.int .i64)) dc1)) [])
    (h2 : SC cfg.P i_impl_FreeReduce [.s (.v (.sl (.int .i64)) dc1)] (.tup [.v (.sl (.int .i64)) dc2a, .v .bool dc2b]) [])
    (h3 : SC cfg.P i_spec_FreeReduce [.s (.v (.sl (.int .i64)) dc1)] (.tup [.v (.sl (.int .i64)) dc3a, .v .bool dc3b]) [])
    (h4 : (!(dc2b == dc3b)) = false)
    (h5 : SC cfg.P i_laws_nSame [.s (.v (.sl (.int .i64)) dc2a), .s (.v (.sl (.int .i64)) dc3a)] (.s (.v .bool true)) [])
    {e : AEx} {st : St} (next : RestSC cfg.P 2 (rest P_laws_FnRulesSortWords 33) (laws_FnRulesSortWords_C33a dc2a false) e st) :
    RestSC cfg.P 2 (rest P_laws_FnRulesSortWords 28) (laws_FnRulesSortWords_C28a x1 x301) e st :=
  rest_next cfgOK (f := i_laws_FnRulesSortWords) (k := 28) (m := 5) (its := [.res (.s (.v (.sl (.int .i64)) dc1)) [] [] [], .res (.tup [.v (.sl (.int .i64)) dc2a, .v .bool dc2b]) [] [] [], .res (.tup [.v (.sl (.int .i64)) dc3a, .v .bool dc3b]) [] [] [], .bool false, .res (.s (.v .bool true)) [] [] []])
    (ps := [SC cfg.P i_spec_DrawFreeReduce [.s (.v (.sl (.int .u8)) x1)] (.s (.v (.sl (.int .i64)) dc1)) [],
      SC cfg.P i_impl_FreeReduce [.s (.v (.sl (.int .i64)) dc1)] (.tup [.v (.sl (.int .i64)) dc2a, .v .bool dc2b]) [],
      SC cfg.P i_spec_FreeReduce [.s (.v (.sl (.int .i64)) dc1)] (.tup [.v (.sl (.int .i64)) dc3a, .v .bool dc3b]) [],
      (!(dc2b == dc3b)) = false,
      SC cfg.P i_laws_nSame [.s (.v (.sl (.int .i64)) dc2a), .s (.v (.sl (.int .i64)) dc3a)] (.s (.v .bool true)) []]) (st1 := laws_FnRulesSortWords_C33a dc2a false) (by kernel_rfl) ⟨h1, h2, h3, h4, h5, trivial⟩ next

theorem laws_FnRulesSortWords_C28b_i1 (x1 : (List Int)) (x42 : (List Int)) (x43 : (List Int)) (x274 : Bool) (dc1 : (List Int)) (dc2a : (List Int)) (dc2b : Bool) (dc3a : (List Int)) (dc3b : Bool)
    (h1 : SC cfg.P i_spec_DrawFreeReduce [.s (.v (.sl (.int .u8)) x1)] (.s (.v (.sl (.int .i64)) dc1)) [])
    (h2 : SC cfg.P i_impl_FreeReduce [.s (.v (.sl (.int .i64)) dc1)] (.tup [.v (.sl (.int .i64)) dc2a, .v .bool dc2b]) [])
    (h3 : SC cfg.P i_spec_FreeReduce [.s (.v (.sl (.int .i64)) dc1)] (.tup [.v (.sl (.int .i64)) dc3a, .v .bool dc3b]) [])
    (h4 : (!(dc2b == dc3b)) = false)
    (h5 : SC cfg.P i_laws_nSame [.s (.v (.sl (.int .i64)) dc2a), .s (.v (.sl (.int .i64)) dc3a)] (.s (.v .bool true)) [])
    {e : AEx} {st : St} (next : RestSC cfg.P 2 (rest P_laws_FnRulesSortWords 33) (laws_FnRulesSortWords_C33a dc2a false) e st) :
    RestSC cfg.P 2 (rest P_laws_FnRulesSortWords 28) (laws_FnRulesSortWords_C28b x1 x42 x43 x274) e st :=
  rest_next cfgOK (f := i_laws_FnRulesSortWords) (k := 28) (m := 5) (its := [.res (.s (.v (.sl (.int .i64)) dc1)) [] [] [], .res (.tup [.v (.sl (.int .i64)) dc2a, .v .bool dc2b]) [] [] [], .res (.tup [.v (.sl (.int .i64)) dc3a, .v .bool dc3b]) [] [] [], .bool false, .res (.s (.v .bool true)) [] [] []])
    (ps := [SC cfg.P i_spec_DrawFreeReduce [.s (.v (.sl (.int .u8)) x1)] (.s (.v (.sl (.int .i64)) dc1)) [],
      SC cfg.P i_impl_FreeReduce [.s (.v (.sl (.int .i64)) dc1)] (.tup [.v (.sl (.int .i64)) dc2a, .v .bool dc2b]) [],
      SC cfg.P i_spec_FreeReduce [.s (.v (.sl (.int .i64)) dc1)] (.tup [.v (.sl (.int .i64)) dc3a, .v .bool dc3b]) [],
      (!(dc2b == dc3b)) = false,
      SC cfg.P i_laws_nSame [.s (.v (.sl (.int .i64)) dc2a), .s (.v (.sl (.int .i64)) dc3a)] (.s (.v .bool true)) []]) (st1 := laws_FnRulesSortWords_C33a dc2a false) (by kernel_rfl) ⟨h1, h2, h3, h4, h5, trivial⟩ next

theorem laws_FnRulesSortWords_C33a_x1 (x52 : (List Int)) (x322 : Bool) (dk1y4 : Bool)
    (h1 : LoopSC cfg.P 2 (lb P_laws_FnRulesSortWords 1) (laws_FnRulesSortWords_L1a x52 (1 : Int)) (.ret) (laws_FnRulesSortWords_L1X1 dk1y4)) :
    RestSC cfg.P 2 (rest P_laws_FnRulesSortWords 33) (laws_FnRulesSortWords_C33a x52 x322) .ret (laws_FnRulesSortWords_R1 dk1y4) :=
  rest_ret cfgOK (f := i_laws_FnRulesSortWords) (k := 33) (m := 2) (its := [.loop (fun _ => (.ret, laws_FnRulesSortWords_L1X1 dk1y4))])
    (ps := [LoopSC cfg.P 2 (lb P_laws_FnRulesSortWords 1) (laws_FnRulesSortWords_L1a x52 (1 : Int)) (.ret) (laws_FnRulesSortWords_L1X1 dk1y4)]) (by kernel_rfl) ⟨h1, trivial⟩

theorem laws_FnRulesSortWords_C33a_i2 (x52 : (List Int)) (x322 : Bool) (dk1y52 : (List Int)) (dk1y56 : Int) (dk1y326 : Bool)
    (h1 : LoopSC cfg.P 2 (lb P_laws_FnRulesSortWords 1) (laws_FnRulesSortWords_L1a x52 (1 : Int)) (.exit 2) (laws_FnRulesSortWords_L1X2 dk1y52 dk1y56 dk1y326))
    {e : AEx} {st : St} (next : RestSC cfg.P 2 (rest P_laws_FnRulesSortWords 35) (laws_FnRulesSortWords_C35a dk1y52 dk1y56 dk1y326) e st) :
    RestSC cfg.P 2 (rest P_laws_FnRulesSortWords 33) (laws_FnRulesSortWords_C33a x52 x322) e st :=
  rest_next cfgOK (f := i_laws_FnRulesSortWords) (k := 33) (m := 2) (its := [.loop (fun _ => (.exit 2, laws_FnRulesSortWords_L1X2 dk1y52 dk1y56 dk1y326))])
    (ps := [LoopSC cfg.P 2 (lb P_laws_FnRulesSortWords 1) (laws_FnRulesSortWords_L1a x52 (1 : Int)) (.exit 2) (laws_FnRulesSortWords_L1X2 dk1y52 dk1y56 dk1y326)]) (st1 := laws_FnRulesSortWords_C35a dk1y52 dk1y56 dk1y326) (by kernel_rfl) ⟨h1, trivial⟩ next

theorem laws_FnRulesSortWords_C35a_x1 (x52 : (List Int)) (x56 : Int) (x326 : Bool)
     :
    RestSC cfg.P 2 (rest P_laws_FnRulesSortWords 35) (laws_FnRulesSortWords_C35a x52 x56 x326) .ret (laws_FnRulesSortWords_R1 true) :=
  rest_ret cfgOK (f := i_laws_FnRulesSortWords) (k := 35) (m := 2) (its := [])
    (ps := []) (by kernel_rfl) trivial

theorem laws_FnRulesSortWords_R1_of (a0 : (List Int)) (a1 : (List Int)) (y4 : Bool)
    (h : RestSC cfg.P 2 (rest P_laws_FnRulesSortWords 0) (laws_FnRulesSortWords_C0a a0 a1) .ret (laws_FnRulesSortWords_R1 y4)) :
    SC cfg.P i_laws_FnRulesSortWords [.s (.v (.sl (.int .u8)) a0), .s (.v (.sl (.int .u8)) a1)] (.s (.v .bool y4)) [] :=
  SC_of_rest cfgOK (f := i_laws_FnRulesSortWords) h (by kernel_rfl) (by kernel_rfl) (by kernel_rfl) get_laws_FnRulesSortWords (by decide)

/-! ### laws_big -/


theorem laws_big_p1 (a0 : (List Int)) (a1 : (List Int))
    (h1 : ((List.length a0 : Nat) : Int) > (1048576 : Int)) :
    SC cfg.P i_laws_big [.s (.v (.sl (.int .u8)) a0), .s (.v (.sl (.int .u8)) a1)] (.s (.v .bool true)) [] :=
  SC_of_run cfgOK (its := [.bool true])
    (ps := [decide (((List.length a0 : Nat) : Int) > (1048576 : Int)) = true]) (by kernel_rfl) ⟨(decide_eq_true h1), trivial⟩ get_laws_big (by decide)

theorem laws_big_p2 (a0 : (List Int)) (a1 : (List Int))
    (h1 : ¬ (((List.length a0 : Nat) : Int) > (1048576 : Int)))
    (h2 : ((List.length a1 : Nat) : Int) > (IntKind.wrap .i64 ((1048576 : Int) - ((List.length a0 : Nat) : Int)))) :
    SC cfg.P i_laws_big [.s (.v (.sl (.int .u8)) a0), .s (.v (.sl (.int .u8)) a1)] (.s (.v .bool true)) [] :=
  SC_of_run cfgOK (its := [.bool false, .bool true])
    (ps := [decide (((List.length a0 : Nat) : Int) > (1048576 : Int)) = false,
      decide (((List.length a1 : Nat) : Int) > (IntKind.wrap .i64 ((1048576 : Int) - ((List.length a0 : Nat) : Int)))) = true]) (by kernel_rfl) ⟨(decide_eq_false h1), (decide_eq_true h2), trivial⟩ get_laws_big (by decide)

theorem laws_big_p3 (a0 : (List Int)) (a1 : (List Int))
    (h1 : ¬ (((List.length a0 : Nat) : Int) > (1048576 : Int)))
    (h2 : ¬ (((List.length a1 : Nat) : Int) > (IntKind.wrap .i64 ((1048576 : Int) - ((List.length a0 : Nat) : Int))))) :
    SC cfg.P i_laws_big [.s (.v (.sl (.int .u8)) a0), .s (.v (.sl (.int .u8)) a1)] (.s (.v .bool false)) [] :=
  SC_of_run cfgOK (its := [.bool false, .bool false])
    (ps := [decide (((List.length a0 : Nat) : Int) > (1048576 : Int)) = false,
      decide (((List.length a1 : Nat) : Int) > (IntKind.wrap .i64 ((1048576 : Int) - ((List.length a0 : Nat) : Int)))) = false]) (by kernel_rfl) ⟨(decide_eq_false h1), (decide_eq_false h2), trivial⟩ get_laws_big (by decide)

end Go.AI
