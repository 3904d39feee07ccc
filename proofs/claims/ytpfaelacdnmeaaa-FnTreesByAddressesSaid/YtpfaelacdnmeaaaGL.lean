/- A part of the road: what it proves stands in its last texts. -/
import Derived.Test.YtpfaelacdnmeaaaSIds
import Derived.Test.YtpfaelacdnmeaaaAiI
import Derived.Test.YtpfaelacdnmeaaaProg
set_option autoImplicit false
set_option maxRecDepth 100000
set_option linter.unusedVariables false
namespace Go.AI
open Go.Proofs

/-! ### laws_FnTreesByAddresses -/


def laws_FnTreesByAddresses_C0a (x0 : (List Int)) (x1 : (List Int)) : St := mkSt 346 [(0, .s (.v (.sl (.int .u8)) x0)), (1, .s (.v (.sl (.int .u8)) x1))] []

def laws_FnTreesByAddresses_R1 (y4 : Bool) : St := mkSt 346 [(4, .s (.v .bool y4))] []

def laws_FnTreesByAddresses_C3a (x0 : (List Int)) (x1 : (List Int)) (x52 : Bool) : St := mkSt 346 [(0, .s (.v (.sl (.int .u8)) x0)), (1, .s (.v (.sl (.int .u8)) x1)), (52, .s (.v .bool x52))] []

def laws_FnTreesByAddresses_C16a (x1 : (List Int)) (x5 : ByteArray) (x7 : Bool) (x18 : Int) (x22 : ByteArray) (x181 : Bool) (xo57 : (List ByteArray)) (xo67 : (List Int)) (xo77 : (List Int)) : St := mkSt 346 [(1, .s (.v (.sl (.int .u8)) x1)), (5, .s (.v .str x5)), (6, .s (.osl 57 0)), (7, .s (.v .bool x7)), (10, .s (.osl 67 0)), (14, .s (.osl 77 0)), (18, .s (.v (.int .i64) x18)), (22, .s (.v .str x22)), (181, .s (.v .bool x181))] [(57, .row t_string .str xo57 0 false), (67, .row t_int (.int .i64) xo67 0 false), (77, .row t_int (.int .i64) xo77 0 false)]

def laws_FnTreesByAddresses_L0a (x1 : (List Int)) (x5 : ByteArray) (x30 : Int) (x234 : Int) (x235 : Int) (xo57 : (List ByteArray)) (xo67 : (List Int)) (xo77 : (List Int)) : St := mkSt 346 [(1, .s (.v (.sl (.int .u8)) x1)), (5, .s (.v .str x5)), (6, .s (.osl 57 0)), (10, .s (.osl 67 0)), (14, .s (.osl 77 0)), (30, .s (.v (.int .i64) x30)), (233, .s (.osl 57 0)), (234, .s (.v (.int .i64) x234)), (235, .s (.v (.int .i64) x235))] [(57, .row t_string .str xo57 0 false), (67, .row t_int (.int .i64) xo67 0 false), (77, .row t_int (.int .i64) xo77 0 false)]

def laws_FnTreesByAddresses_L0X1 (y4 : Bool) : St := mkSt 346 [(4, .s (.v .bool y4))] []

def laws_FnTreesByAddresses_L0X2 (y1 : (List Int)) (y5 : ByteArray) (y30 : Int) (y234 : Int) (y235 : Int) (y236 : Bool) (yo57 : (List ByteArray)) (yo67 : (List Int)) (yo77 : (List Int)) : St := mkSt 346 [(1, .s (.v (.sl (.int .u8)) y1)), (5, .s (.v .str y5)), (6, .s (.osl 57 0)), (10, .s (.osl 67 0)), (14, .s (.osl 77 0)), (30, .s (.v (.int .i64) y30)), (233, .s (.osl 57 0)), (234, .s (.v (.int .i64) y234)), (235, .s (.v (.int .i64) y235)), (236, .s (.v .bool y236))] [(57, .row t_string .str yo57 0 false), (67, .row t_int (.int .i64) yo67 0 false), (77, .row t_int (.int .i64) yo77 0 false)]

def laws_FnTreesByAddresses_L1a (x1 : (List Int)) (x5 : ByteArray) (x270 : Int) (x271 : Int) (xo77 : (List Int)) : St := mkSt 346 [(1, .s (.v (.sl (.int .u8)) x1)), (5, .s (.v .str x5)), (269, .s (.osl 77 0)), (270, .s (.v (.int .i64) x270)), (271, .s (.v (.int .i64) x271))] [(77, .row t_int (.int .i64) xo77 0 false)]

def laws_FnTreesByAddresses_L1X1 (y4 : Bool) : St := mkSt 346 [(4, .s (.v .bool y4))] []

def laws_FnTreesByAddresses_L1X2 (y1 : (List Int)) (y5 : ByteArray) (y270 : Int) (y271 : Int) (y272 : Bool) (yo77 : (List Int)) : St := mkSt 346 [(1, .s (.v (.sl (.int .u8)) y1)), (5, .s (.v .str y5)), (269, .s (.osl 77 0)), (270, .s (.v (.int .i64) y270)), (271, .s (.v (.int .i64) y271)), (272, .s (.v .bool y272))] [(77, .row t_int (.int .i64) yo77 0 false)]

def laws_FnTreesByAddresses_C18a (x1 : (List Int)) (x5 : ByteArray) (x270 : Int) (x271 : Int) (x272 : Bool) (xo77 : (List Int)) : St := mkSt 346 [(1, .s (.v (.sl (.int .u8)) x1)), (5, .s (.v .str x5)), (269, .s (.osl 77 0)), (270, .s (.v (.int .i64) x270)), (271, .s (.v (.int .i64) x271)), (272, .s (.v .bool x272))] [(77, .row t_int (.int .i64) xo77 0 false)]

def laws_FnTreesByAddresses_C18b (x1 : (List Int)) (x5 : ByteArray) (x18 : Int) (x22 : ByteArray) (x182 : Bool) (xo57 : (List ByteArray)) (xo67 : (List Int)) (xo77 : (List Int)) : St := mkSt 346 [(1, .s (.v (.sl (.int .u8)) x1)), (5, .s (.v .str x5)), (6, .s (.osl 57 0)), (10, .s (.osl 67 0)), (14, .s (.osl 77 0)), (18, .s (.v (.int .i64) x18)), (22, .s (.v .str x22)), (182, .s (.v .bool x182))] [(57, .row t_string .str xo57 0 false), (67, .row t_int (.int .i64) xo67 0 false), (77, .row t_int (.int .i64) xo77 0 false)]

theorem laws_FnTreesByAddresses_L0a_x1 (x1 : (List Int)) (x5 : ByteArray) (x30 : Int) (x234 : Int) (x235 : Int) (xo57 : (List ByteArray)) (xo67 : (List Int)) (xo77 : (List Int))
    (h1 : x235 < x234)
    (h2 : 0 ≤ x235)
    (h3 : x235 < (List.length xo57 : Int))
    (h4 : (x235).toNat < List.length xo57)
    (h5 : 0 ≤ (IntKind.wrap .i64 ((8 : Int) - (((List.getD xo57 (x235).toNat (⟨#[]⟩ : ByteArray))).size : Int))))
    (h6 : x235 < (List.length xo67 : Int))
    (h7 : (x235).toNat < List.length xo67)
    (h8 : (List.getD xo67 (x235).toNat (0 : Int)) ≠ (((List.getD xo57 (x235).toNat (⟨#[]⟩ : ByteArray))).size : Int)) :
    LoopSC cfg.P 2 (lb P_laws_FnTreesByAddresses 0) (laws_FnTreesByAddresses_L0a x1 x5 x30 x234 x235 xo57 xo67 xo77) (.ret) (laws_FnTreesByAddresses_L0X1 false) :=
  loop_out cfgOK (f := i_laws_FnTreesByAddresses) (its := [.bool true, .bool true])
    (ps := [decide (x235 < x234) = true,
      0 ≤ x235,
      x235 < (List.length xo57 : Int),
      (x235).toNat < List.length xo57,
      0 ≤ (IntKind.wrap .i64 ((8 : Int) - (((List.getD xo57 (x235).toNat (⟨#[]⟩ : ByteArray))).size : Int))),
      0 ≤ x235,
      x235 < (List.length xo67 : Int),
      (x235).toNat < List.length xo67,
      ((List.getD xo67 (x235).toNat (0 : Int)) != (((List.getD xo57 (x235).toNat (⟨#[]⟩ : ByteArray))).size : Int)) = true]) (by kernel_rfl) ⟨(decide_eq_true h1), h2, h3, h4, h5, h2, h6, h7, (bne_iff_ne.mpr h8), trivial⟩ (fun h => by cases h)

theorem laws_FnTreesByAddresses_L0a_x2 (x1 : (List Int)) (x5 : ByteArray) (x30 : Int) (x234 : Int) (x235 : Int) (xo57 : (List ByteArray)) (xo67 : (List Int)) (xo77 : (List Int))
    (h1 : x235 < x234)
    (h2 : 0 ≤ x235)
    (h3 : x235 < (List.length xo57 : Int))
    (h4 : (x235).toNat < List.length xo57)
    (h5 : 0 ≤ (IntKind.wrap .i64 ((8 : Int) - (((List.getD xo57 (x235).toNat (⟨#[]⟩ : ByteArray))).size : Int))))
    (h6 : x235 < (List.length xo67 : Int))
    (h7 : (x235).toNat < List.length xo67)
    (h8 : (List.getD xo67 (x235).toNat (0 : Int)) = (((List.getD xo57 (x235).toNat (⟨#[]⟩ : ByteArray))).size : Int))
    (h9 : x235 > (0 : Int))
    (h10 : 0 ≤ (IntKind.wrap .i64 (x235 - (1 : Int))))
    (h11 : (IntKind.wrap .i64 (x235 - (1 : Int))) < (List.length xo57 : Int))
    (h12 : ((IntKind.wrap .i64 (x235 - (1 : Int)))).toNat < List.length xo57)
    (h13 : (!Op.bytesLess ((List.getD xo57 ((IntKind.wrap .i64 (x235 - (1 : Int)))).toNat (⟨#[]⟩ : ByteArray))).toList ((List.getD xo57 (x235).toNat (⟨#[]⟩ : ByteArray))).toList) = true) :
    LoopSC cfg.P 2 (lb P_laws_FnTreesByAddresses 0) (laws_FnTreesByAddresses_L0a x1 x5 x30 x234 x235 xo57 xo67 xo77) (.ret) (laws_FnTreesByAddresses_L0X1 false) :=
  loop_out cfgOK (f := i_laws_FnTreesByAddresses) (its := [.bool true, .bool false, .bool true, .bool true])
    (ps := [decide (x235 < x234) = true,
      0 ≤ x235,
      x235 < (List.length xo57 : Int),
      (x235).toNat < List.length xo57,
      0 ≤ (IntKind.wrap .i64 ((8 : Int) - (((List.getD xo57 (x235).toNat (⟨#[]⟩ : ByteArray))).size : Int))),
      0 ≤ x235,
      x235 < (List.length xo67 : Int),
      (x235).toNat < List.length xo67,
      ((List.getD xo67 (x235).toNat (0 : Int)) != (((List.getD xo57 (x235).toNat (⟨#[]⟩ : ByteArray))).size : Int)) = false,
      decide (x235 > (0 : Int)) = true,
      0 ≤ (IntKind.wrap .i64 (x235 - (1 : Int))),
      (IntKind.wrap .i64 (x235 - (1 : Int))) < (List.length xo57 : Int),
      ((IntKind.wrap .i64 (x235 - (1 : Int)))).toNat < List.length xo57,
      (!Op.bytesLess ((List.getD xo57 ((IntKind.wrap .i64 (x235 - (1 : Int)))).toNat (⟨#[]⟩ : ByteArray))).toList ((List.getD xo57 (x235).toNat (⟨#[]⟩ : ByteArray))).toList) = true]) (by kernel_rfl) ⟨(decide_eq_true h1), h2, h3, h4, h5, h2, h6, h7, (bne_eq_false_iff_eq.mpr h8), (decide_eq_true h9), h10, h11, h12, h13, trivial⟩ (fun h => by cases h)

theorem laws_FnTreesByAddresses_L0a_i3 (x1 : (List Int)) (x5 : ByteArray) (x30 : Int) (x234 : Int) (x235 : Int) (xo57 : (List ByteArray)) (xo67 : (List Int)) (xo77 : (List Int))
    (h1 : x235 < x234)
    (h2 : 0 ≤ x235)
    (h3 : x235 < (List.length xo57 : Int))
    (h4 : (x235).toNat < List.length xo57)
    (h5 : 0 ≤ (IntKind.wrap .i64 ((8 : Int) - (((List.getD xo57 (x235).toNat (⟨#[]⟩ : ByteArray))).size : Int))))
    (h6 : x235 < (List.length xo67 : Int))
    (h7 : (x235).toNat < List.length xo67)
    (h8 : (List.getD xo67 (x235).toNat (0 : Int)) = (((List.getD xo57 (x235).toNat (⟨#[]⟩ : ByteArray))).size : Int))
    (h9 : x235 > (0 : Int))
    (h10 : 0 ≤ (IntKind.wrap .i64 (x235 - (1 : Int))))
    (h11 : (IntKind.wrap .i64 (x235 - (1 : Int))) < (List.length xo57 : Int))
    (h12 : ((IntKind.wrap .i64 (x235 - (1 : Int)))).toNat < List.length xo57)
    (h13 : (!Op.bytesLess ((List.getD xo57 ((IntKind.wrap .i64 (x235 - (1 : Int)))).toNat (⟨#[]⟩ : ByteArray))).toList ((List.getD xo57 (x235).toNat (⟨#[]⟩ : ByteArray))).toList) = false)
    {e : AEx} {st : St} (next : LoopSC cfg.P 2 (lb P_laws_FnTreesByAddresses 0) (laws_FnTreesByAddresses_L0a x1 x5 (IntKind.wrap .i64 (x30 + (IntKind.wrap .i64 ((1 : Int) * 2 ^ (min ((IntKind.wrap .i64 ((8 : Int) - (((List.getD xo57 (x235).toNat (⟨#[]⟩ : ByteArray))).size : Int)))).toNat (IntKind.bits .i64)))))) x234 (IntKind.wrap .i64 (x235 + (1 : Int))) xo57 xo67 xo77) e st) :
    LoopSC cfg.P 2 (lb P_laws_FnTreesByAddresses 0) (laws_FnTreesByAddresses_L0a x1 x5 x30 x234 x235 xo57 xo67 xo77) e st :=
  loop_iter cfgOK (f := i_laws_FnTreesByAddresses) (its := [.bool true, .bool false, .bool true, .bool false])
    (ps := [decide (x235 < x234) = true,
      0 ≤ x235,
      x235 < (List.length xo57 : Int),
      (x235).toNat < List.length xo57,
      0 ≤ (IntKind.wrap .i64 ((8 : Int) - (((List.getD xo57 (x235).toNat (⟨#[]⟩ : ByteArray))).size : Int))),
      0 ≤ x235,
      x235 < (List.length xo67 : Int),
      (x235).toNat < List.length xo67,
      ((List.getD xo67 (x235).toNat (0 : Int)) != (((List.getD xo57 (x235).toNat (⟨#[]⟩ : ByteArray))).size : Int)) = false,
      decide (x235 > (0 : Int)) = true,
      0 ≤ (IntKind.wrap .i64 (x235 - (1 : Int))),
      (IntKind.wrap .i64 (x235 - (1 : Int))) < (List.length xo57 : Int),
      ((IntKind.wrap .i64 (x235 - (1 : Int)))).toNat < List.length xo57,
      (!Op.bytesLess ((List.getD xo57 ((IntKind.wrap .i64 (x235 - (1 : Int)))).toNat (⟨#[]⟩ : ByteArray))).toList ((List.getD xo57 (x235).toNat (⟨#[]⟩ : ByteArray))).toList) = false]) (st1 := laws_FnTreesByAddresses_L0a x1 x5 (IntKind.wrap .i64 (x30 + (IntKind.wrap .i64 ((1 : Int) * 2 ^ (min ((IntKind.wrap .i64 ((8 : Int) - (((List.getD xo57 (x235).toNat (⟨#[]⟩ : ByteArray))).size : Int)))).toNat (IntKind.bits .i64)))))) x234 (IntKind.wrap .i64 (x235 + (1 : Int))) xo57 xo67 xo77) (by kernel_rfl) ⟨(decide_eq_true h1), h2, h3, h4, h5, h2, h6, h7, (bne_eq_false_iff_eq.mpr h8), (decide_eq_true h9), h10, h11, h12, h13, trivial⟩ next

theorem laws_FnTreesByAddresses_L0a_i4 (x1 : (List Int)) (x5 : ByteArray) (x30 : Int) (x234 : Int) (x235 : Int) (xo57 : (List ByteArray)) (xo67 : (List Int)) (xo77 : (List Int))
    (h1 : x235 < x234)
    (h2 : 0 ≤ x235)
    (h3 : x235 < (List.length xo57 : Int))
    (h4 : (x235).toNat < List.length xo57)
    (h5 : 0 ≤ (IntKind.wrap .i64 ((8 : Int) - (((List.getD xo57 (x235).toNat (⟨#[]⟩ : ByteArray))).size : Int))))
    (h6 : x235 < (List.length xo67 : Int))
    (h7 : (x235).toNat < List.length xo67)
    (h8 : (List.getD xo67 (x235).toNat (0 : Int)) = (((List.getD xo57 (x235).toNat (⟨#[]⟩ : ByteArray))).size : Int))
    (h9 : ¬ (x235 > (0 : Int)))
    {e : AEx} {st : St} (next : LoopSC cfg.P 2 (lb P_laws_FnTreesByAddresses 0) (laws_FnTreesByAddresses_L0a x1 x5 (IntKind.wrap .i64 (x30 + (IntKind.wrap .i64 ((1 : Int) * 2 ^ (min ((IntKind.wrap .i64 ((8 : Int) - (((List.getD xo57 (x235).toNat (⟨#[]⟩ : ByteArray))).size : Int)))).toNat (IntKind.bits .i64)))))) x234 (IntKind.wrap .i64 (x235 + (1 : Int))) xo57 xo67 xo77) e st) :
    LoopSC cfg.P 2 (lb P_laws_FnTreesByAddresses 0) (laws_FnTreesByAddresses_L0a x1 x5 x30 x234 x235 xo57 xo67 xo77) e st :=
  loop_iter cfgOK (f := i_laws_FnTreesByAddresses) (its := [.bool true, .bool false, .bool false])
    (ps := [decide (x235 < x234) = true,
      0 ≤ x235,
      x235 < (List.length xo57 : Int),
      (x235).toNat < List.length xo57,
      0 ≤ (IntKind.wrap .i64 ((8 : Int) - (((List.getD xo57 (x235).toNat (⟨#[]⟩ : ByteArray))).size : Int))),
      0 ≤ x235,
      x235 < (List.length xo67 : Int),
      (x235).toNat < List.length xo67,
      ((List.getD xo67 (x235).toNat (0 : Int)) != (((List.getD xo57 (x235).toNat (⟨#[]⟩ : ByteArray))).size : Int)) = false,
      decide (x235 > (0 : Int)) = false]) (st1 := laws_FnTreesByAddresses_L0a x1 x5 (IntKind.wrap .i64 (x30 + (IntKind.wrap .i64 ((1 : Int) * 2 ^ (min ((IntKind.wrap .i64 ((8 : Int) - (((List.getD xo57 (x235).toNat (⟨#[]⟩ : ByteArray))).size : Int)))).toNat (IntKind.bits .i64)))))) x234 (IntKind.wrap .i64 (x235 + (1 : Int))) xo57 xo67 xo77) (by kernel_rfl) ⟨(decide_eq_true h1), h2, h3, h4, h5, h2, h6, h7, (bne_eq_false_iff_eq.mpr h8), (decide_eq_false h9), trivial⟩ next

theorem laws_FnTreesByAddresses_L0a_x5 (x1 : (List Int)) (x5 : ByteArray) (x30 : Int) (x234 : Int) (x235 : Int) (xo57 : (List ByteArray)) (xo67 : (List Int)) (xo77 : (List Int))
    (h1 : ¬ (x235 < x234)) :
    LoopSC cfg.P 2 (lb P_laws_FnTreesByAddresses 0) (laws_FnTreesByAddresses_L0a x1 x5 x30 x234 x235 xo57 xo67 xo77) (.exit 0) (laws_FnTreesByAddresses_L0X2 x1 x5 x30 x234 x235 false xo57 xo67 xo77) :=
  loop_out cfgOK (f := i_laws_FnTreesByAddresses) (its := [.bool false])
    (ps := [decide (x235 < x234) = false]) (by kernel_rfl) ⟨(decide_eq_false h1), trivial⟩ (fun h => by cases h)

theorem laws_FnTreesByAddresses_L1a_x1 (x1 : (List Int)) (x5 : ByteArray) (x270 : Int) (x271 : Int) (xo77 : (List Int)) (dc1a : ByteArray) (dc2a : ByteArray)
    (h1 : x271 < x270)
    (h2 : 0 ≤ x271)
    (h3 : x271 < (List.length xo77 : Int))
    (h4 : (x271).toNat < List.length xo77)
    (h5 : SC cfg.P i_impl_DropExposed [.s (.v .str x5), .s (.v (.int .i64) (List.getD xo77 (x271).toNat (0 : Int)))] (.tup [.v .str dc1a, .v .bool true]) [])
    (h6 : SC cfg.P i_impl_GraftAt [.s (.v .str dc1a), .s (.v (.int .i64) (List.getD xo77 (x271).toNat (0 : Int))), .s (.v .str (⟨#[40, 46, 46, 41]⟩ : ByteArray))] (.tup [.v .str dc2a, .v .bool true]) [])
    (h7 : dc2a ≠ x5) :
    LoopSC cfg.P 2 (lb P_laws_FnTreesByAddresses 1) (laws_FnTreesByAddresses_L1a x1 x5 x270 x271 xo77) (.ret) (laws_FnTreesByAddresses_L1X1 false) :=
  loop_out cfgOK (f := i_laws_FnTreesByAddresses) (its := [.bool true, .res (.tup [.v .str dc1a, .v .bool true]) [] [] [], .res (.tup [.v .str dc2a, .v .bool true]) [] [] [], .bool true])
    (ps := [decide (x271 < x270) = true,
      0 ≤ x271,
      x271 < (List.length xo77 : Int),
      (x271).toNat < List.length xo77,
      SC cfg.P i_impl_DropExposed [.s (.v .str x5), .s (.v (.int .i64) (List.getD xo77 (x271).toNat (0 : Int)))] (.tup [.v .str dc1a, .v .bool true]) [],
      SC cfg.P i_impl_GraftAt [.s (.v .str dc1a), .s (.v (.int .i64) (List.getD xo77 (x271).toNat (0 : Int))), .s (.v .str (⟨#[40, 46, 46, 41]⟩ : ByteArray))] (.tup [.v .str dc2a, .v .bool true]) [],
      (!((dc2a).toList == (x5).toList)) = true]) (by kernel_rfl) ⟨(decide_eq_true h1), h2, h3, h4, h5, h6, (nseq_t h7), trivial⟩ (fun h => by cases h)

theorem laws_FnTreesByAddresses_L1a_i2 (x1 : (List Int)) (x5 : ByteArray) (x270 : Int) (x271 : Int) (xo77 : (List Int)) (dc1a : ByteArray) (dc2a : ByteArray)
    (h1 : x271 < x270)
    (h2 : 0 ≤ x271)
    (h3 : x271 < (List.length xo77 : Int))
    (h4 : (x271).toNat < List.length xo77)
    (h5 : SC cfg.P i_impl_DropExposed [.s (.v .str x5), .s (.v (.int .i64) (List.getD xo77 (x271).toNat (0 : Int)))] (.tup [.v .str dc1a, .v .bool true]) [])
    (h6 : SC cfg.P i_impl_GraftAt [.s (.v .str dc1a), .s (.v (.int .i64) (List.getD xo77 (x271).toNat (0 : Int))), .s (.v .str (⟨#[40, 46, 46, 41]⟩ : ByteArray))] (.tup [.v .str dc2a, .v .bool true]) [])
    (h7 : dc2a = x5)
    {e : AEx} {st : St} (next : LoopSC cfg.P 2 (lb P_laws_FnTreesByAddresses 1) (laws_FnTreesByAddresses_L1a x1 x5 x270 (IntKind.wrap .i64 (x271 + (1 : Int))) xo77) e st) :
    LoopSC cfg.P 2 (lb P_laws_FnTreesByAddresses 1) (laws_FnTreesByAddresses_L1a x1 x5 x270 x271 xo77) e st :=
  loop_iter cfgOK (f := i_laws_FnTreesByAddresses) (its := [.bool true, .res (.tup [.v .str dc1a, .v .bool true]) [] [] [], .res (.tup [.v .str dc2a, .v .bool true]) [] [] [], .bool false])
    (ps := [decide (x271 < x270) = true,
      0 ≤ x271,
      x271 < (List.length xo77 : Int),
      (x271).toNat < List.length xo77,
      SC cfg.P i_impl_DropExposed [.s (.v .str x5), .s (.v (.int .i64) (List.getD xo77 (x271).toNat (0 : Int)))] (.tup [.v .str dc1a, .v .bool true]) [],
      SC cfg.P i_impl_GraftAt [.s (.v .str dc1a), .s (.v (.int .i64) (List.getD xo77 (x271).toNat (0 : Int))), .s (.v .str (⟨#[40, 46, 46, 41]⟩ : ByteArray))] (.tup [.v .str dc2a, .v .bool true]) [],
      (!((dc2a).toList == (x5).toList)) = false]) (st1 := laws_FnTreesByAddresses_L1a x1 x5 x270 (IntKind.wrap .i64 (x271 + (1 : Int))) xo77) (by kernel_rfl) ⟨(decide_eq_true h1), h2, h3, h4, h5, h6, (nseq_f h7), trivial⟩ next

theorem laws_FnTreesByAddresses_L1a_x3 (x1 : (List Int)) (x5 : ByteArray) (x270 : Int) (x271 : Int) (xo77 : (List Int)) (dc1a : ByteArray) (dc2a : ByteArray)
    (h1 : x271 < x270)
    (h2 : 0 ≤ x271)
    (h3 : x271 < (List.length xo77 : Int))
    (h4 : (x271).toNat < List.length xo77)
    (h5 : SC cfg.P i_impl_DropExposed [.s (.v .str x5), .s (.v (.int .i64) (List.getD xo77 (x271).toNat (0 : Int)))] (.tup [.v .str dc1a, .v .bool true]) [])
    (h6 : SC cfg.P i_impl_GraftAt [.s (.v .str dc1a), .s (.v (.int .i64) (List.getD xo77 (x271).toNat (0 : Int))), .s (.v .str (⟨#[40, 46, 46, 41]⟩ : ByteArray))] (.tup [.v .str dc2a, .v .bool false]) []) :
    LoopSC cfg.P 2 (lb P_laws_FnTreesByAddresses 1) (laws_FnTreesByAddresses_L1a x1 x5 x270 x271 xo77) (.ret) (laws_FnTreesByAddresses_L1X1 false) :=
  loop_out cfgOK (f := i_laws_FnTreesByAddresses) (its := [.bool true, .res (.tup [.v .str dc1a, .v .bool true]) [] [] [], .res (.tup [.v .str dc2a, .v .bool false]) [] [] []])
    (ps := [decide (x271 < x270) = true,
      0 ≤ x271,
      x271 < (List.length xo77 : Int),
      (x271).toNat < List.length xo77,
      SC cfg.P i_impl_DropExposed [.s (.v .str x5), .s (.v (.int .i64) (List.getD xo77 (x271).toNat (0 : Int)))] (.tup [.v .str dc1a, .v .bool true]) [],
      SC cfg.P i_impl_GraftAt [.s (.v .str dc1a), .s (.v (.int .i64) (List.getD xo77 (x271).toNat (0 : Int))), .s (.v .str (⟨#[40, 46, 46, 41]⟩ : ByteArray))] (.tup [.v .str dc2a, .v .bool false]) []]) (by kernel_rfl) ⟨(decide_eq_true h1), h2, h3, h4, h5, h6, trivial⟩ (fun h => by cases h)

theorem laws_FnTreesByAddresses_L1a_x4 (x1 : (List Int)) (x5 : ByteArray) (x270 : Int) (x271 : Int) (xo77 : (List Int)) (dc1a : ByteArray) (dc2a : ByteArray) (dc2b : Bool)
    (h1 : x271 < x270)
    (h2 : 0 ≤ x271)
    (h3 : x271 < (List.length xo77 : Int))
    (h4 : (x271).toNat < List.length xo77)
    (h5 : SC cfg.P i_impl_DropExposed [.s (.v .str x5), .s (.v (.int .i64) (List.getD xo77 (x271).toNat (0 : Int)))] (.tup [.v .str dc1a, .v .bool false]) [])
    (h6 : SC cfg.P i_impl_GraftAt [.s (.v .str dc1a), .s (.v (.int .i64) (List.getD xo77 (x271).toNat (0 : Int))), .s (.v .str (⟨#[40, 46, 46, 41]⟩ : ByteArray))] (.tup [.v .str dc2a, .v .bool dc2b]) []) :
    LoopSC cfg.P 2 (lb P_laws_FnTreesByAddresses 1) (laws_FnTreesByAddresses_L1a x1 x5 x270 x271 xo77) (.ret) (laws_FnTreesByAddresses_L1X1 false) :=
  loop_out cfgOK (f := i_laws_FnTreesByAddresses) (its := [.bool true, .res (.tup [.v .str dc1a, .v .bool false]) [] [] [], .res (.tup [.v .str dc2a, .v .bool dc2b]) [] [] []])
    (ps := [decide (x271 < x270) = true,
      0 ≤ x271,
      x271 < (List.length xo77 : Int),
      (x271).toNat < List.length xo77,
      SC cfg.P i_impl_DropExposed [.s (.v .str x5), .s (.v (.int .i64) (List.getD xo77 (x271).toNat (0 : Int)))] (.tup [.v .str dc1a, .v .bool false]) [],
      SC cfg.P i_impl_GraftAt [.s (.v .str dc1a), .s (.v (.int .i64) (List.getD xo77 (x271).toNat (0 : Int))), .s (.v .str (⟨#[40, 46, 46, 41]⟩ : ByteArray))] (.tup [.v .str dc2a, .v .bool dc2b]) []]) (by kernel_rfl) ⟨(decide_eq_true h1), h2, h3, h4, h5, h6, trivial⟩ (fun h => by cases h)

theorem laws_FnTreesByAddresses_L1a_x5 (x1 : (List Int)) (x5 : ByteArray) (x270 : Int) (x271 : Int) (xo77 : (List Int))
    (h1 : ¬ (x271 < x270)) :
    LoopSC cfg.P 2 (lb P_laws_FnTreesByAddresses 1) (laws_FnTreesByAddresses_L1a x1 x5 x270 x271 xo77) (.exit 2) (laws_FnTreesByAddresses_L1X2 x1 x5 x270 x271 false xo77) :=
  loop_out cfgOK (f := i_laws_FnTreesByAddresses) (its := [.bool false])
    (ps := [decide (x271 < x270) = false]) (by kernel_rfl) ⟨(decide_eq_false h1), trivial⟩ (fun h => by cases h)

theorem laws_FnTreesByAddresses_C0a_x1 (x0 : (List Int)) (x1 : (List Int))
    (h1 : SC cfg.P i_laws_big [.s (.v (.sl (.int .u8)) x0), .s (.v (.sl (.int .u8)) x1)] (.s (.v .bool true)) []) :
    RestSC cfg.P 2 (rest P_laws_FnTreesByAddresses 0) (laws_FnTreesByAddresses_C0a x0 x1) .ret (laws_FnTreesByAddresses_R1 true) :=
  rest_ret cfgOK (f := i_laws_FnTreesByAddresses) (k := 0) (m := 3) (its := [.res (.s (.v .bool true)) [] [] []])
    (ps := [SC cfg.P i_laws_big [.s (.v (.sl (.int .u8)) x0), .s (.v (.sl (.int .u8)) x1)] (.s (.v .bool true)) []]) (by kernel_rfl) ⟨h1, trivial⟩

theorem laws_FnTreesByAddresses_C0a_i2 (x0 : (List Int)) (x1 : (List Int))
    (h1 : SC cfg.P i_laws_big [.s (.v (.sl (.int .u8)) x0), .s (.v (.sl (.int .u8)) x1)] (.s (.v .bool false)) [])
    {e : AEx} {st : St} (next : RestSC cfg.P 2 (rest P_laws_FnTreesByAddresses 3) (laws_FnTreesByAddresses_C3a x0 x1 false) e st) :
    RestSC cfg.P 2 (rest P_laws_FnTreesByAddresses 0) (laws_FnTreesByAddresses_C0a x0 x1) e st :=
  rest_next cfgOK (f := i_laws_FnTreesByAddresses) (k := 0) (m := 3) (its := [.res (.s (.v .bool false)) [] [] []])
    (ps := [SC cfg.P i_laws_big [.s (.v (.sl (.int .u8)) x0), .s (.v (.sl (.int .u8)) x1)] (.s (.v .bool false)) []]) (st1 := laws_FnTreesByAddresses_C3a x0 x1 false) (by kernel_rfl) ⟨h1, trivial⟩ next

theorem laws_FnTreesByAddresses_C3a_i1 (x0 : (List Int)) (x1 : (List Int)) (x52 : Bool) (dc1 : ByteArray) (dc2a : (List ByteArray)) (dc2b : Bool) (dc3a : (List ByteArray)) (dc3b : Bool) (dc4a : (List Int)) (dc4b : Bool) (dc5a : (List Int)) (dc5b : Bool) (dc6a : (List Int)) (dc6b : Bool) (dc7a : (List Int)) (dc7b : Bool) (dc8a : Int) (dc8b : Bool) (dc9a : Int) (dc9b : Bool) (dc10a : ByteArray) (dc10b : Bool) (dc11a : ByteArray) (dc11b : Bool) (dc15 : Bool)
    (h1 : SC cfg.P i_spec_DrawAddressesOf [.s (.v (.sl (.int .u8)) x0)] (.s (.v .str dc1)) [])
    (h2 : SC cfg.P i_impl_AddressesOf [.s (.v .str dc1)] (.tup [.own t_string .str dc2a, .v .bool dc2b]) [])
    (h3 : SC cfg.P i_spec_AddressesOf [.s (.v .str dc1)] (.tup [.own t_string .str dc3a, .v .bool dc3b]) [])
    (h4 : SC cfg.P i_impl_DepthsOf [.s (.v .str dc1)] (.tup [.own t_int (.int .i64) dc4a, .v .bool dc4b]) [])
    (h5 : SC cfg.P i_spec_DepthsOf [.s (.v .str dc1)] (.tup [.own t_int (.int .i64) dc5a, .v .bool dc5b]) [])
    (h6 : SC cfg.P i_impl_ExposedOf [.s (.v .str dc1)] (.tup [.own t_int (.int .i64) dc6a, .v .bool dc6b]) [])
    (h7 : SC cfg.P i_spec_ExposedOf [.s (.v .str dc1)] (.tup [.own t_int (.int .i64) dc7a, .v .bool dc7b]) [])
    (h8 : SC cfg.P i_impl_CaretsOf [.s (.v .str dc1)] (.tup [.v (.int .i64) dc8a, .v .bool dc8b]) [])
    (h9 : SC cfg.P i_spec_CaretsOf [.s (.v .str dc1)] (.tup [.v (.int .i64) dc9a, .v .bool dc9b]) [])
    (h10 : SC cfg.P i_impl_MirrorTree [.s (.v .str dc1)] (.tup [.v .str dc10a, .v .bool dc10b]) [])
    (h11 : SC cfg.P i_spec_MirrorTree [.s (.v .str dc1)] (.tup [.v .str dc11a, .v .bool dc11b]) [])
    (h12 : (!(dc2b == dc3b)) = false)
    (h13 : SC cfg.P i_laws_fTexts [.s (.v (.sl .str) dc2a), .s (.v (.sl .str) dc3a)] (.s (.v .bool true)) [])
    (h14 : (!(dc4b == dc5b)) = false)
    (h15 : SC cfg.P i_laws_fSame [.s (.v (.sl (.int .i64)) dc4a), .s (.v (.sl (.int .i64)) dc5a)] (.s (.v .bool true)) [])
    (h16 : (!(dc6b == dc7b)) = false)
    (h17 : SC cfg.P i_laws_fSame [.s (.v (.sl (.int .i64)) dc6a), .s (.v (.sl (.int .i64)) dc7a)] (.s (.v .bool true)) [])
    (h18 : (!(dc8b == dc9b)) = false)
    (h19 : dc8a = dc9a)
    (h20 : (!(dc10b == dc11b)) = false)
    (h21 : dc10a = dc11a)
    (h22 : SC cfg.P i_impl_IsTree [.s (.v .str dc1)] (.s (.v .bool dc15)) [])
    (h23 : (!(dc2b == dc15)) = false)
    (h24 : (!(dc4b == dc2b)) = false)
    (h25 : (!(dc6b == dc2b)) = false)
    (h26 : (!(dc8b == dc2b)) = false)
    (h27 : (!(dc10b == dc2b)) = false)
    {e : AEx} {st : St} (next : RestSC cfg.P 2 (rest P_laws_FnTreesByAddresses 16) (laws_FnTreesByAddresses_C16a x1 dc1 dc2b dc8a dc10a false dc2a dc4a dc6a) e st) :
    RestSC cfg.P 2 (rest P_laws_FnTreesByAddresses 3) (laws_FnTreesByAddresses_C3a x0 x1 x52) e st :=
  rest_next cfgOK (f := i_laws_FnTreesByAddresses) (k := 3) (m := 13) (its := [.res (.s (.v .str dc1)) [] [] [], .res (.tup [.own t_string .str dc2a, .v .bool dc2b]) [] [] [57], .res (.tup [.own t_string .str dc3a, .v .bool dc3b]) [] [] [62], .res (.tup [.own t_int (.int .i64) dc4a, .v .bool dc4b]) [] [] [67], .res (.tup [.own t_int (.int .i64) dc5a, .v .bool dc5b]) [] [] [72], .res (.tup [.own t_int (.int .i64) dc6a, .v .bool dc6b]) [] [] [77], .res (.tup [.own t_int (.int .i64) dc7a, .v .bool dc7b]) [] [] [82], .res (.tup [.v (.int .i64) dc8a, .v .bool dc8b]) [] [] [], .res (.tup [.v (.int .i64) dc9a, .v .bool dc9b]) [] [] [], .res (.tup [.v .str dc10a, .v .bool dc10b]) [] [] [], .res (.tup [.v .str dc11a, .v .bool dc11b]) [] [] [], .bool false, .res (.s (.v .bool true)) [] [] [], .bool false, .res (.s (.v .bool true)) [] [] [], .bool false, .res (.s (.v .bool true)) [] [] [], .bool false, .bool false, .bool false, .bool false, .res (.s (.v .bool dc15)) [] [] [], .bool false, .bool false, .bool false, .bool false, .bool false])
    (ps := [SC cfg.P i_spec_DrawAddressesOf [.s (.v (.sl (.int .u8)) x0)] (.s (.v .str dc1)) [],
      SC cfg.P i_impl_AddressesOf [.s (.v .str dc1)] (.tup [.own t_string .str dc2a, .v .bool dc2b]) [],
      SC cfg.P i_spec_AddressesOf [.s (.v .str dc1)] (.tup [.own t_string .str dc3a, .v .bool dc3b]) [],
      SC cfg.P i_impl_DepthsOf [.s (.v .str dc1)] (.tup [.own t_int (.int .i64) dc4a, .v .bool dc4b]) [],
      SC cfg.P i_spec_DepthsOf [.s (.v .str dc1)] (.tup [.own t_int (.int .i64) dc5a, .v .bool dc5b]) [],
      SC cfg.P i_impl_ExposedOf [.s (.v .str dc1)] (.tup [.own t_int (.int .i64) dc6a, .v .bool dc6b]) [],
      SC cfg.P i_spec_ExposedOf [.s (.v .str dc1)] (.tup [.own t_int (.int .i64) dc7a, .v .bool dc7b]) [],
      SC cfg.P i_impl_CaretsOf [.s (.v .str dc1)] (.tup [.v (.int .i64) dc8a, .v .bool dc8b]) [],
      SC cfg.P i_spec_CaretsOf [.s (.v .str dc1)] (.tup [.v (.int .i64) dc9a, .v .bool dc9b]) [],
      SC cfg.P i_impl_MirrorTree [.s (.v .str dc1)] (.tup [.v .str dc10a, .v .bool dc10b]) [],
      SC cfg.P i_spec_MirrorTree [.s (.v .str dc1)] (.tup [.v .str dc11a, .v .bool dc11b]) [],
      (!(dc2b == dc3b)) = false,
      SC cfg.P i_laws_fTexts [.s (.v (.sl .str) dc2a), .s (.v (.sl .str) dc3a)] (.s (.v .bool true)) [],
      (!(dc4b == dc5b)) = false,
      SC cfg.P i_laws_fSame [.s (.v (.sl (.int .i64)) dc4a), .s (.v (.sl (.int .i64)) dc5a)] (.s (.v .bool true)) [],
      (!(dc6b == dc7b)) = false,
      SC cfg.P i_laws_fSame [.s (.v (.sl (.int .i64)) dc6a), .s (.v (.sl (.int .i64)) dc7a)] (.s (.v .bool true)) [],
      (!(dc8b == dc9b)) = false,
      (dc8a != dc9a) = false,
      (!(dc10b == dc11b)) = false,
      (!((dc10a).toList == (dc11a).toList)) = false,
      SC cfg.P i_impl_IsTree [.s (.v .str dc1)] (.s (.v .bool dc15)) [],
      (!(dc2b == dc15)) = false,
      (!(dc4b == dc2b)) = false,
      (!(dc6b == dc2b)) = false,
      (!(dc8b == dc2b)) = false,
      (!(dc10b == dc2b)) = false]) (st1 := laws_FnTreesByAddresses_C16a x1 dc1 dc2b dc8a dc10a false dc2a dc4a dc6a) (by kernel_rfl) ⟨h1, h2, h3, h4, h5, h6, h7, h8, h9, h10, h11, h12, h13, h14, h15, h16, h17, h18, (bne_eq_false_iff_eq.mpr h19), h20, (nseq_f h21), h22, h23, h24, h25, h26, h27, trivial⟩ next

theorem laws_FnTreesByAddresses_C16a_x1 (x1 : (List Int)) (x5 : ByteArray) (x18 : Int) (x22 : ByteArray) (x181 : Bool) (xo57 : (List ByteArray)) (xo67 : (List Int)) (xo77 : (List Int)) (dc1a : ByteArray) (dc2a : ByteArray) (dk1y4 : Bool)
    (h1 : SC cfg.P i_impl_TreeWith [.s (.v (.sl .str) xo57)] (.tup [.v .str dc1a, .v .bool true]) [])
    (h2 : SC cfg.P i_impl_MirrorTree [.s (.v .str x22)] (.tup [.v .str dc2a, .v .bool true]) [])
    (h3 : dc1a = x5)
    (h4 : dc2a = x5)
    (h5 : ((List.length xo57 : Nat) : Int) = (IntKind.wrap .i64 (x18 + (1 : Int))))
    (h6 : ((x5).size : Int) = (IntKind.wrap .i64 ((IntKind.wrap .i64 ((3 : Int) * x18)) + (1 : Int))))
    (h7 : x18 > (0 : Int))
    (h8 : ((List.length xo77 : Nat) : Int) ≠ (0 : Int))
    (h9 : LoopSC cfg.P 2 (lb P_laws_FnTreesByAddresses 0) (laws_FnTreesByAddresses_L0a x1 x5 (0 : Int) ((List.length xo57 : Nat) : Int) (0 : Int) xo57 xo67 xo77) (.ret) (laws_FnTreesByAddresses_L0X1 dk1y4)) :
    RestSC cfg.P 2 (rest P_laws_FnTreesByAddresses 16) (laws_FnTreesByAddresses_C16a x1 x5 true x18 x22 x181 xo57 xo67 xo77) .ret (laws_FnTreesByAddresses_R1 dk1y4) :=
  rest_ret cfgOK (f := i_laws_FnTreesByAddresses) (k := 16) (m := 2) (its := [.res (.tup [.v .str dc1a, .v .bool true]) [] [] [], .res (.tup [.v .str dc2a, .v .bool true]) [] [] [], .bool false, .bool false, .bool false, .bool false, .bool true, .bool false, .loop (fun _ => (.ret, laws_FnTreesByAddresses_L0X1 dk1y4))])
    (ps := [SC cfg.P i_impl_TreeWith [.s (.v (.sl .str) xo57)] (.tup [.v .str dc1a, .v .bool true]) [],
      SC cfg.P i_impl_MirrorTree [.s (.v .str x22)] (.tup [.v .str dc2a, .v .bool true]) [],
      (!((dc1a).toList == (x5).toList)) = false,
      (!((dc2a).toList == (x5).toList)) = false,
      (((List.length xo57 : Nat) : Int) != (IntKind.wrap .i64 (x18 + (1 : Int)))) = false,
      (((x5).size : Int) != (IntKind.wrap .i64 ((IntKind.wrap .i64 ((3 : Int) * x18)) + (1 : Int)))) = false,
      decide (x18 > (0 : Int)) = true,
      (((List.length xo77 : Nat) : Int) == (0 : Int)) = false,
      LoopSC cfg.P 2 (lb P_laws_FnTreesByAddresses 0) (laws_FnTreesByAddresses_L0a x1 x5 (0 : Int) ((List.length xo57 : Nat) : Int) (0 : Int) xo57 xo67 xo77) (.ret) (laws_FnTreesByAddresses_L0X1 dk1y4)]) (by kernel_rfl) ⟨h1, h2, (nseq_f h3), (nseq_f h4), (bne_eq_false_iff_eq.mpr h5), (bne_eq_false_iff_eq.mpr h6), (decide_eq_true h7), (beq_eq_false_iff_ne.mpr h8), h9, trivial⟩

theorem laws_FnTreesByAddresses_C16a_x2 (x1 : (List Int)) (x5 : ByteArray) (x18 : Int) (x22 : ByteArray) (x181 : Bool) (xo57 : (List ByteArray)) (xo67 : (List Int)) (xo77 : (List Int)) (dc1a : ByteArray) (dc2a : ByteArray) (dk1y1 : (List Int)) (dk1y5 : ByteArray) (dk1y30 : Int) (dk1y234 : Int) (dk1y235 : Int) (dk1y236 : Bool) (dk1yo57 : (List ByteArray)) (dk1yo67 : (List Int)) (dk1yo77 : (List Int)) (dk2y4 : Bool)
    (h1 : SC cfg.P i_impl_TreeWith [.s (.v (.sl .str) xo57)] (.tup [.v .str dc1a, .v .bool true]) [])
    (h2 : SC cfg.P i_impl_MirrorTree [.s (.v .str x22)] (.tup [.v .str dc2a, .v .bool true]) [])
    (h3 : dc1a = x5)
    (h4 : dc2a = x5)
    (h5 : ((List.length xo57 : Nat) : Int) = (IntKind.wrap .i64 (x18 + (1 : Int))))
    (h6 : ((x5).size : Int) = (IntKind.wrap .i64 ((IntKind.wrap .i64 ((3 : Int) * x18)) + (1 : Int))))
    (h7 : x18 > (0 : Int))
    (h8 : ((List.length xo77 : Nat) : Int) ≠ (0 : Int))
    (h9 : LoopSC cfg.P 2 (lb P_laws_FnTreesByAddresses 0) (laws_FnTreesByAddresses_L0a x1 x5 (0 : Int) ((List.length xo57 : Nat) : Int) (0 : Int) xo57 xo67 xo77) (.exit 0) (laws_FnTreesByAddresses_L0X2 dk1y1 dk1y5 dk1y30 dk1y234 dk1y235 dk1y236 dk1yo57 dk1yo67 dk1yo77))
    (h10 : dk1y30 = (256 : Int))
    (h11 : LoopSC cfg.P 2 (lb P_laws_FnTreesByAddresses 1) (laws_FnTreesByAddresses_L1a dk1y1 dk1y5 ((List.length dk1yo77 : Nat) : Int) (0 : Int) dk1yo77) (.ret) (laws_FnTreesByAddresses_L1X1 dk2y4)) :
    RestSC cfg.P 2 (rest P_laws_FnTreesByAddresses 16) (laws_FnTreesByAddresses_C16a x1 x5 true x18 x22 x181 xo57 xo67 xo77) .ret (laws_FnTreesByAddresses_R1 dk2y4) :=
  rest_ret cfgOK (f := i_laws_FnTreesByAddresses) (k := 16) (m := 2) (its := [.res (.tup [.v .str dc1a, .v .bool true]) [] [] [], .res (.tup [.v .str dc2a, .v .bool true]) [] [] [], .bool false, .bool false, .bool false, .bool false, .bool true, .bool false, .loop (fun _ => (.exit 0, laws_FnTreesByAddresses_L0X2 dk1y1 dk1y5 dk1y30 dk1y234 dk1y235 dk1y236 dk1yo57 dk1yo67 dk1yo77)), .bool false, .loop (fun _ => (.ret, laws_FnTreesByAddresses_L1X1 dk2y4))])
    (ps := [SC cfg.P i_impl_TreeWith [.s (.v (.sl .str) xo57)] (.tup [.v .str dc1a, .v .bool true]) [],
      SC cfg.P i_impl_MirrorTree [.s (.v .str x22)] (.tup [.v .str dc2a, .v .bool true]) [],
      (!((dc1a).toList == (x5).toList)) = false,
      (!((dc2a).toList == (x5).toList)) = false,
      (((List.length xo57 : Nat) : Int) != (IntKind.wrap .i64 (x18 + (1 : Int)))) = false,
      (((x5).size : Int) != (IntKind.wrap .i64 ((IntKind.wrap .i64 ((3 : Int) * x18)) + (1 : Int)))) = false,
      decide (x18 > (0 : Int)) = true,
      (((List.length xo77 : Nat) : Int) == (0 : Int)) = false,
      LoopSC cfg.P 2 (lb P_laws_FnTreesByAddresses 0) (laws_FnTreesByAddresses_L0a x1 x5 (0 : Int) ((List.length xo57 : Nat) : Int) (0 : Int) xo57 xo67 xo77) (.exit 0) (laws_FnTreesByAddresses_L0X2 dk1y1 dk1y5 dk1y30 dk1y234 dk1y235 dk1y236 dk1yo57 dk1yo67 dk1yo77),
      (dk1y30 != (256 : Int)) = false,
      LoopSC cfg.P 2 (lb P_laws_FnTreesByAddresses 1) (laws_FnTreesByAddresses_L1a dk1y1 dk1y5 ((List.length dk1yo77 : Nat) : Int) (0 : Int) dk1yo77) (.ret) (laws_FnTreesByAddresses_L1X1 dk2y4)]) (by kernel_rfl) ⟨h1, h2, (nseq_f h3), (nseq_f h4), (bne_eq_false_iff_eq.mpr h5), (bne_eq_false_iff_eq.mpr h6), (decide_eq_true h7), (beq_eq_false_iff_ne.mpr h8), h9, (bne_eq_false_iff_eq.mpr h10), h11, trivial⟩

theorem laws_FnTreesByAddresses_C16a_i3 (x1 : (List Int)) (x5 : ByteArray) (x18 : Int) (x22 : ByteArray) (x181 : Bool) (xo57 : (List ByteArray)) (xo67 : (List Int)) (xo77 : (List Int)) (dc1a : ByteArray) (dc2a : ByteArray) (dk1y1 : (List Int)) (dk1y5 : ByteArray) (dk1y30 : Int) (dk1y234 : Int) (dk1y235 : Int) (dk1y236 : Bool) (dk1yo57 : (List ByteArray)) (dk1yo67 : (List Int)) (dk1yo77 : (List Int)) (dk2y1 : (List Int)) (dk2y5 : ByteArray) (dk2y270 : Int) (dk2y271 : Int) (dk2y272 : Bool) (dk2yo77 : (List Int))
    (h1 : SC cfg.P i_impl_TreeWith [.s (.v (.sl .str) xo57)] (.tup [.v .str dc1a, .v .bool true]) [])
    (h2 : SC cfg.P i_impl_MirrorTree [.s (.v .str x22)] (.tup [.v .str dc2a, .v .bool true]) [])
    (h3 : dc1a = x5)
    (h4 : dc2a = x5)
    (h5 : ((List.length xo57 : Nat) : Int) = (IntKind.wrap .i64 (x18 + (1 : Int))))
    (h6 : ((x5).size : Int) = (IntKind.wrap .i64 ((IntKind.wrap .i64 ((3 : Int) * x18)) + (1 : Int))))
    (h7 : x18 > (0 : Int))
    (h8 : ((List.length xo77 : Nat) : Int) ≠ (0 : Int))
    (h9 : LoopSC cfg.P 2 (lb P_laws_FnTreesByAddresses 0) (laws_FnTreesByAddresses_L0a x1 x5 (0 : Int) ((List.length xo57 : Nat) : Int) (0 : Int) xo57 xo67 xo77) (.exit 0) (laws_FnTreesByAddresses_L0X2 dk1y1 dk1y5 dk1y30 dk1y234 dk1y235 dk1y236 dk1yo57 dk1yo67 dk1yo77))
    (h10 : dk1y30 = (256 : Int))
    (h11 : LoopSC cfg.P 2 (lb P_laws_FnTreesByAddresses 1) (laws_FnTreesByAddresses_L1a dk1y1 dk1y5 ((List.length dk1yo77 : Nat) : Int) (0 : Int) dk1yo77) (.exit 2) (laws_FnTreesByAddresses_L1X2 dk2y1 dk2y5 dk2y270 dk2y271 dk2y272 dk2yo77))
    {e : AEx} {st : St} (next : RestSC cfg.P 2 (rest P_laws_FnTreesByAddresses 18) (laws_FnTreesByAddresses_C18a dk2y1 dk2y5 dk2y270 dk2y271 dk2y272 dk2yo77) e st) :
    RestSC cfg.P 2 (rest P_laws_FnTreesByAddresses 16) (laws_FnTreesByAddresses_C16a x1 x5 true x18 x22 x181 xo57 xo67 xo77) e st :=
  rest_next cfgOK (f := i_laws_FnTreesByAddresses) (k := 16) (m := 2) (its := [.res (.tup [.v .str dc1a, .v .bool true]) [] [] [], .res (.tup [.v .str dc2a, .v .bool true]) [] [] [], .bool false, .bool false, .bool false, .bool false, .bool true, .bool false, .loop (fun _ => (.exit 0, laws_FnTreesByAddresses_L0X2 dk1y1 dk1y5 dk1y30 dk1y234 dk1y235 dk1y236 dk1yo57 dk1yo67 dk1yo77)), .bool false, .loop (fun _ => (.exit 2, laws_FnTreesByAddresses_L1X2 dk2y1 dk2y5 dk2y270 dk2y271 dk2y272 dk2yo77))])
    (ps := [SC cfg.P i_impl_TreeWith [.s (.v (.sl .str) xo57)] (.tup [.v .str dc1a, .v .bool true]) [],
      SC cfg.P i_impl_MirrorTree [.s (.v .str x22)] (.tup [.v .str dc2a, .v .bool true]) [],
      (!((dc1a).toList == (x5).toList)) = false,
      (!((dc2a).toList == (x5).toList)) = false,
      (((List.length xo57 : Nat) : Int) != (IntKind.wrap .i64 (x18 + (1 : Int)))) = false,
      (((x5).size : Int) != (IntKind.wrap .i64 ((IntKind.wrap .i64 ((3 : Int) * x18)) + (1 : Int)))) = false,
      decide (x18 > (0 : Int)) = true,
      (((List.length xo77 : Nat) : Int) == (0 : Int)) = false,
      LoopSC cfg.P 2 (lb P_laws_FnTreesByAddresses 0) (laws_FnTreesByAddresses_L0a x1 x5 (0 : Int) ((List.length xo57 : Nat) : Int) (0 : Int) xo57 xo67 xo77) (.exit 0) (laws_FnTreesByAddresses_L0X2 dk1y1 dk1y5 dk1y30 dk1y234 dk1y235 dk1y236 dk1yo57 dk1yo67 dk1yo77),
      (dk1y30 != (256 : Int)) = false,
      LoopSC cfg.P 2 (lb P_laws_FnTreesByAddresses 1) (laws_FnTreesByAddresses_L1a dk1y1 dk1y5 ((List.length dk1yo77 : Nat) : Int) (0 : Int) dk1yo77) (.exit 2) (laws_FnTreesByAddresses_L1X2 dk2y1 dk2y5 dk2y270 dk2y271 dk2y272 dk2yo77)]) (st1 := laws_FnTreesByAddresses_C18a dk2y1 dk2y5 dk2y270 dk2y271 dk2y272 dk2yo77) (by kernel_rfl) ⟨h1, h2, (nseq_f h3), (nseq_f h4), (bne_eq_false_iff_eq.mpr h5), (bne_eq_false_iff_eq.mpr h6), (decide_eq_true h7), (beq_eq_false_iff_ne.mpr h8), h9, (bne_eq_false_iff_eq.mpr h10), h11, trivial⟩ next

theorem laws_FnTreesByAddresses_C16a_x4 (x1 : (List Int)) (x5 : ByteArray) (x18 : Int) (x22 : ByteArray) (x181 : Bool) (xo57 : (List ByteArray)) (xo67 : (List Int)) (xo77 : (List Int)) (dc1a : ByteArray) (dc2a : ByteArray) (dk1y4 : Bool)
    (h1 : SC cfg.P i_impl_TreeWith [.s (.v (.sl .str) xo57)] (.tup [.v .str dc1a, .v .bool true]) [])
    (h2 : SC cfg.P i_impl_MirrorTree [.s (.v .str x22)] (.tup [.v .str dc2a, .v .bool true]) [])
    (h3 : dc1a = x5)
    (h4 : dc2a = x5)
    (h5 : ((List.length xo57 : Nat) : Int) = (IntKind.wrap .i64 (x18 + (1 : Int))))
    (h6 : ((x5).size : Int) = (IntKind.wrap .i64 ((IntKind.wrap .i64 ((3 : Int) * x18)) + (1 : Int))))
    (h7 : ¬ (x18 > (0 : Int)))
    (h8 : LoopSC cfg.P 2 (lb P_laws_FnTreesByAddresses 0) (laws_FnTreesByAddresses_L0a x1 x5 (0 : Int) ((List.length xo57 : Nat) : Int) (0 : Int) xo57 xo67 xo77) (.ret) (laws_FnTreesByAddresses_L0X1 dk1y4)) :
    RestSC cfg.P 2 (rest P_laws_FnTreesByAddresses 16) (laws_FnTreesByAddresses_C16a x1 x5 true x18 x22 x181 xo57 xo67 xo77) .ret (laws_FnTreesByAddresses_R1 dk1y4) :=
  rest_ret cfgOK (f := i_laws_FnTreesByAddresses) (k := 16) (m := 2) (its := [.res (.tup [.v .str dc1a, .v .bool true]) [] [] [], .res (.tup [.v .str dc2a, .v .bool true]) [] [] [], .bool false, .bool false, .bool false, .bool false, .bool false, .loop (fun _ => (.ret, laws_FnTreesByAddresses_L0X1 dk1y4))])
    (ps := [SC cfg.P i_impl_TreeWith [.s (.v (.sl .str) xo57)] (.tup [.v .str dc1a, .v .bool true]) [],
      SC cfg.P i_impl_MirrorTree [.s (.v .str x22)] (.tup [.v .str dc2a, .v .bool true]) [],
      (!((dc1a).toList == (x5).toList)) = false,
      (!((dc2a).toList == (x5).toList)) = false,
      (((List.length xo57 : Nat) : Int) != (IntKind.wrap .i64 (x18 + (1 : Int)))) = false,
      (((x5).size : Int) != (IntKind.wrap .i64 ((IntKind.wrap .i64 ((3 : Int) * x18)) + (1 : Int)))) = false,
      decide (x18 > (0 : Int)) = false,
      LoopSC cfg.P 2 (lb P_laws_FnTreesByAddresses 0) (laws_FnTreesByAddresses_L0a x1 x5 (0 : Int) ((List.length xo57 : Nat) : Int) (0 : Int) xo57 xo67 xo77) (.ret) (laws_FnTreesByAddresses_L0X1 dk1y4)]) (by kernel_rfl) ⟨h1, h2, (nseq_f h3), (nseq_f h4), (bne_eq_false_iff_eq.mpr h5), (bne_eq_false_iff_eq.mpr h6), (decide_eq_false h7), h8, trivial⟩

theorem laws_FnTreesByAddresses_C16a_x5 (x1 : (List Int)) (x5 : ByteArray) (x18 : Int) (x22 : ByteArray) (x181 : Bool) (xo57 : (List ByteArray)) (xo67 : (List Int)) (xo77 : (List Int)) (dc1a : ByteArray) (dc2a : ByteArray) (dk1y1 : (List Int)) (dk1y5 : ByteArray) (dk1y30 : Int) (dk1y234 : Int) (dk1y235 : Int) (dk1y236 : Bool) (dk1yo57 : (List ByteArray)) (dk1yo67 : (List Int)) (dk1yo77 : (List Int)) (dk2y4 : Bool)
    (h1 : SC cfg.P i_impl_TreeWith [.s (.v (.sl .str) xo57)] (.tup [.v .str dc1a, .v .bool true]) [])
    (h2 : SC cfg.P i_impl_MirrorTree [.s (.v .str x22)] (.tup [.v .str dc2a, .v .bool true]) [])
    (h3 : dc1a = x5)
    (h4 : dc2a = x5)
    (h5 : ((List.length xo57 : Nat) : Int) = (IntKind.wrap .i64 (x18 + (1 : Int))))
    (h6 : ((x5).size : Int) = (IntKind.wrap .i64 ((IntKind.wrap .i64 ((3 : Int) * x18)) + (1 : Int))))
    (h7 : ¬ (x18 > (0 : Int)))
    (h8 : LoopSC cfg.P 2 (lb P_laws_FnTreesByAddresses 0) (laws_FnTreesByAddresses_L0a x1 x5 (0 : Int) ((List.length xo57 : Nat) : Int) (0 : Int) xo57 xo67 xo77) (.exit 0) (laws_FnTreesByAddresses_L0X2 dk1y1 dk1y5 dk1y30 dk1y234 dk1y235 dk1y236 dk1yo57 dk1yo67 dk1yo77))
    (h9 : dk1y30 = (256 : Int))
    (h10 : LoopSC cfg.P 2 (lb P_laws_FnTreesByAddresses 1) (laws_FnTreesByAddresses_L1a dk1y1 dk1y5 ((List.length dk1yo77 : Nat) : Int) (0 : Int) dk1yo77) (.ret) (laws_FnTreesByAddresses_L1X1 dk2y4)) :
    RestSC cfg.P 2 (rest P_laws_FnTreesByAddresses 16) (laws_FnTreesByAddresses_C16a x1 x5 true x18 x22 x181 xo57 xo67 xo77) .ret (laws_FnTreesByAddresses_R1 dk2y4) :=
  rest_ret cfgOK (f := i_laws_FnTreesByAddresses) (k := 16) (m := 2) (its := [.res (.tup [.v .str dc1a, .v .bool true]) [] [] [], .res (.tup [.v .str dc2a, .v .bool true]) [] [] [], .bool false, .bool false, .bool false, .bool false, .bool false, .loop (fun _ => (.exit 0, laws_FnTreesByAddresses_L0X2 dk1y1 dk1y5 dk1y30 dk1y234 dk1y235 dk1y236 dk1yo57 dk1yo67 dk1yo77)), .bool false, .loop (fun _ => (.ret, laws_FnTreesByAddresses_L1X1 dk2y4))])
    (ps := [SC cfg.P i_impl_TreeWith [.s (.v (.sl .str) xo57)] (.tup [.v .str dc1a, .v .bool true]) [],
      SC cfg.P i_impl_MirrorTree [.s (.v .str x22)] (.tup [.v .str dc2a, .v .bool true]) [],
      (!((dc1a).toList == (x5).toList)) = false,
      (!((dc2a).toList == (x5).toList)) = false,
      (((List.length xo57 : Nat) : Int) != (IntKind.wrap .i64 (x18 + (1 : Int)))) = false,
      (((x5).size : Int) != (IntKind.wrap .i64 ((IntKind.wrap .i64 ((3 : Int) * x18)) + (1 : Int)))) = false,
      decide (x18 > (0 : Int)) = false,
      LoopSC cfg.P 2 (lb P_laws_FnTreesByAddresses 0) (laws_FnTreesByAddresses_L0a x1 x5 (0 : Int) ((List.length xo57 : Nat) : Int) (0 : Int) xo57 xo67 xo77) (.exit 0) (laws_FnTreesByAddresses_L0X2 dk1y1 dk1y5 dk1y30 dk1y234 dk1y235 dk1y236 dk1yo57 dk1yo67 dk1yo77),
      (dk1y30 != (256 : Int)) = false,
      LoopSC cfg.P 2 (lb P_laws_FnTreesByAddresses 1) (laws_FnTreesByAddresses_L1a dk1y1 dk1y5 ((List.length dk1yo77 : Nat) : Int) (0 : Int) dk1yo77) (.ret) (laws_FnTreesByAddresses_L1X1 dk2y4)]) (by kernel_rfl) ⟨h1, h2, (nseq_f h3), (nseq_f h4), (bne_eq_false_iff_eq.mpr h5), (bne_eq_false_iff_eq.mpr h6), (decide_eq_false h7), h8, (bne_eq_false_iff_eq.mpr h9), h10, trivial⟩

theorem laws_FnTreesByAddresses_C16a_i6 (x1 : (List Int)) (x5 : ByteArray) (x18 : Int) (x22 : ByteArray) (x181 : Bool) (xo57 : (List ByteArray)) (xo67 : (List Int)) (xo77 : (List Int)) (dc1a : ByteArray) (dc2a : ByteArray) (dk1y1 : (List Int)) (dk1y5 : ByteArray) (dk1y30 : Int) (dk1y234 : Int) (dk1y235 : Int) (dk1y236 : Bool) (dk1yo57 : (List ByteArray)) (dk1yo67 : (List Int)) (dk1yo77 : (List Int)) (dk2y1 : (List Int)) (dk2y5 : ByteArray) (dk2y270 : Int) (dk2y271 : Int) (dk2y272 : Bool) (dk2yo77 : (List Int))
    (h1 : SC cfg.P i_impl_TreeWith [.s (.v (.sl .str) xo57)] (.tup [.v .str dc1a, .v .bool true]) [])
    (h2 : SC cfg.P i_impl_MirrorTree [.s (.v .str x22)] (.tup [.v .str dc2a, .v .bool true]) [])
    (h3 : dc1a = x5)
    (h4 : dc2a = x5)
    (h5 : ((List.length xo57 : Nat) : Int) = (IntKind.wrap .i64 (x18 + (1 : Int))))
    (h6 : ((x5).size : Int) = (IntKind.wrap .i64 ((IntKind.wrap .i64 ((3 : Int) * x18)) + (1 : Int))))
    (h7 : ¬ (x18 > (0 : Int)))
    (h8 : LoopSC cfg.P 2 (lb P_laws_FnTreesByAddresses 0) (laws_FnTreesByAddresses_L0a x1 x5 (0 : Int) ((List.length xo57 : Nat) : Int) (0 : Int) xo57 xo67 xo77) (.exit 0) (laws_FnTreesByAddresses_L0X2 dk1y1 dk1y5 dk1y30 dk1y234 dk1y235 dk1y236 dk1yo57 dk1yo67 dk1yo77))
    (h9 : dk1y30 = (256 : Int))
    (h10 : LoopSC cfg.P 2 (lb P_laws_FnTreesByAddresses 1) (laws_FnTreesByAddresses_L1a dk1y1 dk1y5 ((List.length dk1yo77 : Nat) : Int) (0 : Int) dk1yo77) (.exit 2) (laws_FnTreesByAddresses_L1X2 dk2y1 dk2y5 dk2y270 dk2y271 dk2y272 dk2yo77))
    {e : AEx} {st : St} (next : RestSC cfg.P 2 (rest P_laws_FnTreesByAddresses 18) (laws_FnTreesByAddresses_C18a dk2y1 dk2y5 dk2y270 dk2y271 dk2y272 dk2yo77) e st) :
    RestSC cfg.P 2 (rest P_laws_FnTreesByAddresses 16) (laws_FnTreesByAddresses_C16a x1 x5 true x18 x22 x181 xo57 xo67 xo77) e st :=
  rest_next cfgOK (f := i_laws_FnTreesByAddresses) (k := 16) (m := 2) (its := [.res (.tup [.v .str dc1a, .v .bool true]) [] [] [], .res (.tup [.v .str dc2a, .v .bool true]) [] [] [], .bool false, .bool false, .bool false, .bool false, .bool false, .loop (fun _ => (.exit 0, laws_FnTreesByAddresses_L0X2 dk1y1 dk1y5 dk1y30 dk1y234 dk1y235 dk1y236 dk1yo57 dk1yo67 dk1yo77)), .bool false, .loop (fun _ => (.exit 2, laws_FnTreesByAddresses_L1X2 dk2y1 dk2y5 dk2y270 dk2y271 dk2y272 dk2yo77))])
    (ps := [SC cfg.P i_impl_TreeWith [.s (.v (.sl .str) xo57)] (.tup [.v .str dc1a, .v .bool true]) [],
      SC cfg.P i_impl_MirrorTree [.s (.v .str x22)] (.tup [.v .str dc2a, .v .bool true]) [],
      (!((dc1a).toList == (x5).toList)) = false,
      (!((dc2a).toList == (x5).toList)) = false,
      (((List.length xo57 : Nat) : Int) != (IntKind.wrap .i64 (x18 + (1 : Int)))) = false,
      (((x5).size : Int) != (IntKind.wrap .i64 ((IntKind.wrap .i64 ((3 : Int) * x18)) + (1 : Int)))) = false,
      decide (x18 > (0 : Int)) = false,
      LoopSC cfg.P 2 (lb P_laws_FnTreesByAddresses 0) (laws_FnTreesByAddresses_L0a x1 x5 (0 : Int) ((List.length xo57 : Nat) : Int) (0 : Int) xo57 xo67 xo77) (.exit 0) (laws_FnTreesByAddresses_L0X2 dk1y1 dk1y5 dk1y30 dk1y234 dk1y235 dk1y236 dk1yo57 dk1yo67 dk1yo77),
      (dk1y30 != (256 : Int)) = false,
      LoopSC cfg.P 2 (lb P_laws_FnTreesByAddresses 1) (laws_FnTreesByAddresses_L1a dk1y1 dk1y5 ((List.length dk1yo77 : Nat) : Int) (0 : Int) dk1yo77) (.exit 2) (laws_FnTreesByAddresses_L1X2 dk2y1 dk2y5 dk2y270 dk2y271 dk2y272 dk2yo77)]) (st1 := laws_FnTreesByAddresses_C18a dk2y1 dk2y5 dk2y270 dk2y271 dk2y272 dk2yo77) (by kernel_rfl) ⟨h1, h2, (nseq_f h3), (nseq_f h4), (bne_eq_false_iff_eq.mpr h5), (bne_eq_false_iff_eq.mpr h6), (decide_eq_false h7), h8, (bne_eq_false_iff_eq.mpr h9), h10, trivial⟩ next

theorem laws_FnTreesByAddresses_C16a_i7 (x1 : (List Int)) (x5 : ByteArray) (x18 : Int) (x22 : ByteArray) (x181 : Bool) (xo57 : (List ByteArray)) (xo67 : (List Int)) (xo77 : (List Int))
    {e : AEx} {st : St} (next : RestSC cfg.P 2 (rest P_laws_FnTreesByAddresses 18) (laws_FnTreesByAddresses_C18b x1 x5 x18 x22 false xo57 xo67 xo77) e st) :
    RestSC cfg.P 2 (rest P_laws_FnTreesByAddresses 16) (laws_FnTreesByAddresses_C16a x1 x5 false x18 x22 x181 xo57 xo67 xo77) e st :=
  rest_next cfgOK (f := i_laws_FnTreesByAddresses) (k := 16) (m := 2) (its := [])
    (ps := []) (st1 := laws_FnTreesByAddresses_C18b x1 x5 x18 x22 false xo57 xo67 xo77) (by kernel_rfl) trivial next

theorem laws_FnTreesByAddresses_C18a_x1 (x1 : (List Int)) (x5 : ByteArray) (x270 : Int) (x271 : Int) (x272 : Bool) (xo77 : (List Int)) (dc1 : (List ByteArray)) (dc2a : ByteArray) (dc2b : Bool) (dc3a : ByteArray) (dc3b : Bool) (dc4a : ByteArray) (dc4b : Int) (dc5a : ByteArray) (dc5b : Bool) (dc6a : ByteArray) (dc6b : Bool)
    (h1 : SC cfg.P i_spec_DrawTreeWith [.s (.v (.sl (.int .u8)) x1)] (.s (.v (.sl .str) dc1)) [])
    (h2 : SC cfg.P i_impl_TreeWith [.s (.v (.sl .str) dc1)] (.tup [.v .str dc2a, .v .bool dc2b]) [])
    (h3 : SC cfg.P i_spec_TreeWith [.s (.v (.sl .str) dc1)] (.tup [.v .str dc3a, .v .bool dc3b]) [])
    (h4 : SC cfg.P i_spec_DrawDropExposed [.s (.v (.sl (.int .u8)) x1)] (.tup [.v .str dc4a, .v (.int .i64) dc4b]) [])
    (h5 : SC cfg.P i_impl_DropExposed [.s (.v .str dc4a), .s (.v (.int .i64) dc4b)] (.tup [.v .str dc5a, .v .bool dc5b]) [])
    (h6 : SC cfg.P i_spec_DropExposed [.s (.v .str dc4a), .s (.v (.int .i64) dc4b)] (.tup [.v .str dc6a, .v .bool dc6b]) [])
    (h7 : dc2b = dc3b)
    (h8 : dc2a = dc3a)
    (h9 : dc5b = dc6b)
    (h10 : dc5a = dc6a) :
    RestSC cfg.P 2 (rest P_laws_FnTreesByAddresses 18) (laws_FnTreesByAddresses_C18a x1 x5 x270 x271 x272 xo77) .ret (laws_FnTreesByAddresses_R1 true) :=
  rest_ret cfgOK (f := i_laws_FnTreesByAddresses) (k := 18) (m := 8) (its := [.res (.s (.v (.sl .str) dc1)) [] [] [], .res (.tup [.v .str dc2a, .v .bool dc2b]) [] [] [], .res (.tup [.v .str dc3a, .v .bool dc3b]) [] [] [], .res (.tup [.v .str dc4a, .v (.int .i64) dc4b]) [] [] [], .res (.tup [.v .str dc5a, .v .bool dc5b]) [] [] [], .res (.tup [.v .str dc6a, .v .bool dc6b]) [] [] [], .bool true, .bool true, .bool true, .bool true])
    (ps := [SC cfg.P i_spec_DrawTreeWith [.s (.v (.sl (.int .u8)) x1)] (.s (.v (.sl .str) dc1)) [],
      SC cfg.P i_impl_TreeWith [.s (.v (.sl .str) dc1)] (.tup [.v .str dc2a, .v .bool dc2b]) [],
      SC cfg.P i_spec_TreeWith [.s (.v (.sl .str) dc1)] (.tup [.v .str dc3a, .v .bool dc3b]) [],
      SC cfg.P i_spec_DrawDropExposed [.s (.v (.sl (.int .u8)) x1)] (.tup [.v .str dc4a, .v (.int .i64) dc4b]) [],
      SC cfg.P i_impl_DropExposed [.s (.v .str dc4a), .s (.v (.int .i64) dc4b)] (.tup [.v .str dc5a, .v .bool dc5b]) [],
      SC cfg.P i_spec_DropExposed [.s (.v .str dc4a), .s (.v (.int .i64) dc4b)] (.tup [.v .str dc6a, .v .bool dc6b]) [],
      (dc2b == dc3b) = true,
      ((dc2a).toList == (dc3a).toList) = true,
      (dc5b == dc6b) = true,
      ((dc5a).toList == (dc6a).toList) = true]) (by kernel_rfl) ⟨h1, h2, h3, h4, h5, h6, (beq_iff_eq.mpr h7), (seq_t h8), (beq_iff_eq.mpr h9), (seq_t h10), trivial⟩

theorem laws_FnTreesByAddresses_C18b_x1 (x1 : (List Int)) (x5 : ByteArray) (x18 : Int) (x22 : ByteArray) (x182 : Bool) (xo57 : (List ByteArray)) (xo67 : (List Int)) (xo77 : (List Int)) (dc1 : (List ByteArray)) (dc2a : ByteArray) (dc2b : Bool) (dc3a : ByteArray) (dc3b : Bool) (dc4a : ByteArray) (dc4b : Int) (dc5a : ByteArray) (dc5b : Bool) (dc6a : ByteArray) (dc6b : Bool)
    (h1 : SC cfg.P i_spec_DrawTreeWith [.s (.v (.sl (.int .u8)) x1)] (.s (.v (.sl .str) dc1)) [])
    (h2 : SC cfg.P i_impl_TreeWith [.s (.v (.sl .str) dc1)] (.tup [.v .str dc2a, .v .bool dc2b]) [])
    (h3 : SC cfg.P i_spec_TreeWith [.s (.v (.sl .str) dc1)] (.tup [.v .str dc3a, .v .bool dc3b]) [])
    (h4 : SC cfg.P i_spec_DrawDropExposed [.s (.v (.sl (.int .u8)) x1)] (.tup [.v .str dc4a, .v (.int .i64) dc4b]) [])
    (h5 : SC cfg.P i_impl_DropExposed [.s (.v .str dc4a), .s (.v (.int .i64) dc4b)] (.tup [.v .str dc5a, .v .bool dc5b]) [])
    (h6 : SC cfg.P i_spec_DropExposed [.s (.v .str dc4a), .s (.v (.int .i64) dc4b)] (.tup [.v .str dc6a, .v .bool dc6b]) [])
    (h7 : dc2b = dc3b)
    (h8 : dc2a = dc3a)
    (h9 : dc5b = dc6b)
    (h10 : dc5a = dc6a) :
    RestSC cfg.P 2 (rest P_laws_FnTreesByAddresses 18) (laws_FnTreesByAddresses_C18b x1 x5 x18 x22 x182 xo57 xo67 xo77) .ret (laws_FnTreesByAddresses_R1 true) :=
  rest_ret cfgOK (f := i_laws_FnTreesByAddresses) (k := 18) (m := 8) (its := [.res (.s (.v (.sl .str) dc1)) [] [] [], .res (.tup [.v .str dc2a, .v .bool dc2b]) [] [] [], .res (.tup [.v .str dc3a, .v .bool dc3b]) [] [] [], .res (.tup [.v .str dc4a, .v (.int .i64) dc4b]) [] [] [], .res (.tup [.v .str dc5a, .v .bool dc5b]) [] [] [], .res (.tup [.v .str dc6a, .v .bool dc6b]) [] [] [], .bool true, .bool true, .bool true, .bool true])
    (ps := [SC cfg.P i_spec_DrawTreeWith [.s (.v (.sl (.int .u8)) x1)] (.s (.v (.sl .str) dc1)) [],
      SC cfg.P i_impl_TreeWith [.s (.v (.sl .str) dc1)] (.tup [.v .str dc2a, .v .bool dc2b]) [],
      SC cfg.P i_spec_TreeWith [.s (.v (.sl .str) dc1)] (.tup [.v .str dc3a, .v .bool dc3b]) [],
      SC cfg.P i_spec_DrawDropExposed [.s (.v (.sl (.int .u8)) x1)] (.tup [.v .str dc4a, .v (.int .i64) dc4b]) [],
      SC cfg.P i_impl_DropExposed [.s (.v .str dc4a), .s (.v (.int .i64) dc4b)] (.tup [.v .str dc5a, .v .bool dc5b]) [],
      SC cfg.P i_spec_DropExposed [.s (.v .str dc4a), .s (.v (.int .i64) dc4b)] (.tup [.v .str dc6a, .v .bool dc6b]) [],
      (dc2b == dc3b) = true,
      ((dc2a).toList == (dc3a).toList) = true,
      (dc5b == dc6b) = true,
      ((dc5a).toList == (dc6a).toList) = true]) (by kernel_rfl) ⟨h1, h2, h3, h4, h5, h6, (beq_iff_eq.mpr h7), (seq_t h8), (beq_iff_eq.mpr h9), (seq_t h10), trivial⟩

theorem laws_FnTreesByAddresses_R1_of (a0 : (List Int)) (a1 : (List Int)) (y4 : Bool)
    (h : RestSC cfg.P 2 (rest P_laws_FnTreesByAddresses 0) (laws_FnTreesByAddresses_C0a a0 a1) .ret (laws_FnTreesByAddresses_R1 y4)) :
    SC cfg.P i_laws_FnTreesByAddresses [.s (.v (.sl (.int .u8)) a0), .s (.v (.sl (.int .u8)) a1)] (.s (.v .bool y4)) [] :=
  SC_of_rest cfgOK (f := i_laws_FnTreesByAddresses) h (by kernel_rfl) (by kernel_rfl) (by kernel_rfl) get_laws_FnTreesByAddresses (by decide)

/-! ### laws_big -/


theorem laws_big_p1 (a0 : (List Int)) (a1 : (List Int))
    (h1 : ((List.length a0 : Nat) : Int) > (1048576 : Int)) :
    SC cfg.P i_laws_big [.s (.v (.sl (.int .u8)) a0), .s (.v (.sl (.int .u8)) a1)] (.s (.v .bool true)) [] :=
  SC_of_run cfgOK (its := [.bool true])
    (ps := [decide (((List.length a0 : Nat) : Int) > (1048576 : Int)) = true]) (by kernel_rfl) ⟨(decide_eq_true h1), trivial⟩ get_laws_big (by decide)

theorem laws_big_p2 (a0 : (List Int)) (a1 : (List Int))
    (h1 : ¬ (((List.length a0 : Nat) : Int) > (1048576 : Int)))
    (h2 : ((List.length a1 : Nat) : Int) > (IntKind.wrap .i64 ((1048576 : Int) - ((List.length a0 : Nat) : Int)))) :
    SC cfg.P i_laws_big [.s (.v (.sl (.int .u8)) a0), .s (.v (.sl (.int .u8)) a1)] (.s (.v .bool true)) [] :=
  SC_of_run cfgOK (its := [.bool false, .bool true])
    (ps := [decide (((List.length a0 : Nat) : Int) > (1048576 : Int)) = false,
      decide (((List.length a1 : Nat) : Int) > (IntKind.wrap .i64 ((1048576 : Int) - ((List.length a0 : Nat) : Int)))) = true]) (by kernel_rfl) ⟨(decide_eq_false h1), (decide_eq_true h2), trivial⟩ get_laws_big (by decide)

theorem laws_big_p3 (a0 : (List Int)) (a1 : (List Int))
    (h1 : ¬ (((List.length a0 : Nat) : Int) > (1048576 : Int)))
    (h2 : ¬ (((List.length a1 : Nat) : Int) > (IntKind.wrap .i64 ((1048576 : Int) - ((List.length a0 : Nat) : Int))))) :
    SC cfg.P i_laws_big [.s (.v (.sl (.int .u8)) a0), .s (.v (.sl (.int .u8)) a1)] (.s (.v .bool false)) [] :=
  SC_of_run cfgOK (its := [.bool false, .bool false])
    (ps := [decide (((List.length a0 : Nat) : Int) > (1048576 : Int)) = false,
      decide (((List.length a1 : Nat) : Int) > (IntKind.wrap .i64 ((1048576 : Int) - ((List.length a0 : Nat) : Int)))) = false]) (by kernel_rfl) ⟨(decide_eq_false h1), (decide_eq_false h2), trivial⟩ get_laws_big (by decide)

/-! ### spec_AddressesOf -/


theorem spec_AddressesOf_p1 (a0 : ByteArray) (c2 : (List ByteArray))
    (h1 : SC cfg.P i_spec_trIs [.s (.v .str a0)] (.s (.v .bool true)) [])
    (h2 : SC cfg.P i_spec_trAddresses [.s (.v .str a0), .s (.v .str (⟨#[]⟩ : ByteArray))] (.s (.own t_string .str c2)) []) :
    SC cfg.P i_spec_AddressesOf [.s (.v .str a0)] (.tup [.own t_string .str c2, .v .bool true]) [] :=
  SC_of_run cfgOK (its := [.res (.s (.v .bool true)) [] [] [], .res (.s (.own t_string .str c2)) [] [] [8]])
    (ps := [SC cfg.P i_spec_trIs [.s (.v .str a0)] (.s (.v .bool true)) [],
      SC cfg.P i_spec_trAddresses [.s (.v .str a0), .s (.v .str (⟨#[]⟩ : ByteArray))] (.s (.own t_string .str c2)) []]) (by kernel_rfl) ⟨h1, h2, trivial⟩ get_spec_AddressesOf (by decide)

theorem spec_AddressesOf_p2 (a0 : ByteArray)
    (h1 : SC cfg.P i_spec_trIs [.s (.v .str a0)] (.s (.v .bool false)) []) :
    SC cfg.P i_spec_AddressesOf [.s (.v .str a0)] (.tup [.own t_string .str ([] : List ByteArray), .v .bool false]) [] :=
  SC_of_run cfgOK (its := [.res (.s (.v .bool false)) [] [] []])
    (ps := [SC cfg.P i_spec_trIs [.s (.v .str a0)] (.s (.v .bool false)) []]) (by kernel_rfl) ⟨h1, trivial⟩ get_spec_AddressesOf (by decide)

end Go.AI
