/- A part of the road: what it proves stands in its last texts. -/
import Derived.Test.YtpfaelacdnmeaaaSIds
import Derived.Test.YtpfaelacdnmeaaaProg
set_option autoImplicit false
set_option maxRecDepth 100000
set_option linter.unusedVariables false
namespace Go.AI
open Go.Proofs

/-! ### spec_l1Has -/


def spec_l1Has_L0a (x1 : Int) (x7 : (List Int)) (x8 : Int) (x9 : Int) : St := mkSt 17 [(1, .s (.v (.int .i64) x1)), (7, .s (.v (.sl (.int .i64)) x7)), (8, .s (.v (.int .i64) x8)), (9, .s (.v (.int .i64) x9))] []

def spec_l1Has_L0X1 (y4 : Bool) : St := mkSt 17 [(4, .s (.v .bool y4))] []

def spec_l1Has_L0X2 (y1 : Int) (y7 : (List Int)) (y8 : Int) (y9 : Int) (y10 : Bool) : St := mkSt 17 [(1, .s (.v (.int .i64) y1)), (7, .s (.v (.sl (.int .i64)) y7)), (8, .s (.v (.int .i64) y8)), (9, .s (.v (.int .i64) y9)), (10, .s (.v .bool y10))] []

theorem spec_l1Has_L0a_x1 (x1 : Int) (x7 : (List Int)) (x8 : Int) (x9 : Int)
    (h1 : x9 < x8)
    (h2 : 0 ≤ x9)
    (h3 : x9 < (List.length x7 : Int))
    (h4 : (List.getD x7 (x9).toNat (0 : Int)) = x1) :
    LoopSC cfg.P 2 (lb P_spec_l1Has 0) (spec_l1Has_L0a x1 x7 x8 x9) (.ret) (spec_l1Has_L0X1 true) :=
  loop_out cfgOK (f := i_spec_l1Has) (its := [.bool true, .bool true])
    (ps := [decide (x9 < x8) = true,
      0 ≤ x9,
      x9 < (List.length x7 : Int),
      ((List.getD x7 (x9).toNat (0 : Int)) == x1) = true]) (by kernel_rfl) ⟨(decide_eq_true h1), h2, h3, (beq_iff_eq.mpr h4), trivial⟩ (fun h => by cases h)

theorem spec_l1Has_L0a_i2 (x1 : Int) (x7 : (List Int)) (x8 : Int) (x9 : Int)
    (h1 : x9 < x8)
    (h2 : 0 ≤ x9)
    (h3 : x9 < (List.length x7 : Int))
    (h4 : (List.getD x7 (x9).toNat (0 : Int)) ≠ x1)
    {e : AEx} {st : St} (next : LoopSC cfg.P 2 (lb P_spec_l1Has 0) (spec_l1Has_L0a x1 x7 x8 (IntKind.wrap .i64 (x9 + (1 : Int)))) e st) :
    LoopSC cfg.P 2 (lb P_spec_l1Has 0) (spec_l1Has_L0a x1 x7 x8 x9) e st :=
  loop_iter cfgOK (f := i_spec_l1Has) (its := [.bool true, .bool false])
    (ps := [decide (x9 < x8) = true,
      0 ≤ x9,
      x9 < (List.length x7 : Int),
      ((List.getD x7 (x9).toNat (0 : Int)) == x1) = false]) (st1 := spec_l1Has_L0a x1 x7 x8 (IntKind.wrap .i64 (x9 + (1 : Int)))) (by kernel_rfl) ⟨(decide_eq_true h1), h2, h3, (beq_eq_false_iff_ne.mpr h4), trivial⟩ next

theorem spec_l1Has_L0a_x3 (x1 : Int) (x7 : (List Int)) (x8 : Int) (x9 : Int)
    (h1 : ¬ (x9 < x8)) :
    LoopSC cfg.P 2 (lb P_spec_l1Has 0) (spec_l1Has_L0a x1 x7 x8 x9) (.exit 0) (spec_l1Has_L0X2 x1 x7 x8 x9 false) :=
  loop_out cfgOK (f := i_spec_l1Has) (its := [.bool false])
    (ps := [decide (x9 < x8) = false]) (by kernel_rfl) ⟨(decide_eq_false h1), trivial⟩ (fun h => by cases h)

theorem spec_l1Has_p1 (a0 : (List Int)) (a1 : Int) (k1y4 : Bool)
    (h1 : LoopSC cfg.P 2 (lb P_spec_l1Has 0) (spec_l1Has_L0a a1 a0 ((List.length a0 : Nat) : Int) (0 : Int)) (.ret) (spec_l1Has_L0X1 k1y4)) :
    SC cfg.P i_spec_l1Has [.s (.v (.sl (.int .i64)) a0), .s (.v (.int .i64) a1)] (.s (.v .bool k1y4)) [] :=
  SC_of_run cfgOK (its := [.loop (fun _ => (.ret, spec_l1Has_L0X1 k1y4))])
    (ps := [LoopSC cfg.P 2 (lb P_spec_l1Has 0) (spec_l1Has_L0a a1 a0 ((List.length a0 : Nat) : Int) (0 : Int)) (.ret) (spec_l1Has_L0X1 k1y4)]) (by kernel_rfl) ⟨h1, trivial⟩ get_spec_l1Has (by decide)

theorem spec_l1Has_p2 (a0 : (List Int)) (a1 : Int) (k1y1 : Int) (k1y7 : (List Int)) (k1y8 : Int) (k1y9 : Int) (k1y10 : Bool)
    (h1 : LoopSC cfg.P 2 (lb P_spec_l1Has 0) (spec_l1Has_L0a a1 a0 ((List.length a0 : Nat) : Int) (0 : Int)) (.exit 0) (spec_l1Has_L0X2 k1y1 k1y7 k1y8 k1y9 k1y10)) :
    SC cfg.P i_spec_l1Has [.s (.v (.sl (.int .i64)) a0), .s (.v (.int .i64) a1)] (.s (.v .bool false)) [] :=
  SC_of_run cfgOK (its := [.loop (fun _ => (.exit 0, spec_l1Has_L0X2 k1y1 k1y7 k1y8 k1y9 k1y10))])
    (ps := [LoopSC cfg.P 2 (lb P_spec_l1Has 0) (spec_l1Has_L0a a1 a0 ((List.length a0 : Nat) : Int) (0 : Int)) (.exit 0) (spec_l1Has_L0X2 k1y1 k1y7 k1y8 k1y9 k1y10)]) (by kernel_rfl) ⟨h1, trivial⟩ get_spec_l1Has (by decide)

/-! ### spec_trDrop -/


def spec_trDrop_L0a (x0 : ByteArray) (x1 : Int) (x5 : Int) (x6 : Int) : St := mkSt 33 [(0, .s (.v .str x0)), (1, .s (.v (.int .i64) x1)), (5, .s (.v (.int .i64) x5)), (6, .s (.v (.int .i64) x6))] []

def spec_trDrop_L0X1 (y4 : ByteArray) : St := mkSt 33 [(4, .s (.v .str y4))] []

def spec_trDrop_L0X2 (y0 : ByteArray) (y1 : Int) (y5 : Int) (y6 : Int) (y10 : Bool) : St := mkSt 33 [(0, .s (.v .str y0)), (1, .s (.v (.int .i64) y1)), (5, .s (.v (.int .i64) y5)), (6, .s (.v (.int .i64) y6)), (10, .s (.v .bool y10))] []

theorem spec_trDrop_L0a_i1 (x0 : ByteArray) (x1 : Int) (x5 : Int) (x6 : Int)
    (h1 : x6 < ((x0).size : Int))
    (h2 : 0 ≤ x6)
    (h3 : (bt x0 x6) ≠ (46 : Int))
    {e : AEx} {st : St} (next : LoopSC cfg.P 2 (lb P_spec_trDrop 0) (spec_trDrop_L0a x0 x1 x5 (IntKind.wrap .i64 (x6 + (1 : Int)))) e st) :
    LoopSC cfg.P 2 (lb P_spec_trDrop 0) (spec_trDrop_L0a x0 x1 x5 x6) e st :=
  loop_iter cfgOK (f := i_spec_trDrop) (its := [.bool true, .bool true])
    (ps := [decide (x6 < ((x0).size : Int)) = true,
      0 ≤ x6,
      x6 < ((x0).size : Int),
      ((bt x0 x6) != (46 : Int)) = true]) (st1 := spec_trDrop_L0a x0 x1 x5 (IntKind.wrap .i64 (x6 + (1 : Int)))) (by kernel_rfl) ⟨(decide_eq_true h1), h2, h1, (bne_iff_ne.mpr h3), trivial⟩ next

theorem spec_trDrop_L0a_x2 (x0 : ByteArray) (x1 : Int) (x5 : Int) (x6 : Int)
    (h1 : x6 < ((x0).size : Int))
    (h2 : 0 ≤ x6)
    (h3 : (bt x0 x6) = (46 : Int))
    (h4 : x5 = x1)
    (h5 : 0 ≤ (IntKind.wrap .i64 (x6 - (1 : Int))))
    (h6 : (IntKind.wrap .i64 (x6 - (1 : Int))) ≤ ((x0).size : Int))
    (h7 : ((ByteArray.extract x0 ((0 : Int)).toNat ((IntKind.wrap .i64 (x6 - (1 : Int)))).toNat)).size + ((⟨#[46]⟩ : ByteArray)).size ≤ 2 ^ 62)
    (h8 : 0 ≤ (IntKind.wrap .i64 (x6 + (3 : Int))))
    (h9 : (IntKind.wrap .i64 (x6 + (3 : Int))) ≤ ((x0).size : Int))
    (h10 : (((ByteArray.extract x0 ((0 : Int)).toNat ((IntKind.wrap .i64 (x6 - (1 : Int)))).toNat) ++ (⟨#[46]⟩ : ByteArray))).size + ((ByteArray.extract x0 ((IntKind.wrap .i64 (x6 + (3 : Int)))).toNat (((x0).size : Int)).toNat)).size ≤ 2 ^ 62) :
    LoopSC cfg.P 2 (lb P_spec_trDrop 0) (spec_trDrop_L0a x0 x1 x5 x6) (.ret) (spec_trDrop_L0X1 (((ByteArray.extract x0 ((0 : Int)).toNat ((IntKind.wrap .i64 (x6 - (1 : Int)))).toNat) ++ (⟨#[46]⟩ : ByteArray)) ++ (ByteArray.extract x0 ((IntKind.wrap .i64 (x6 + (3 : Int)))).toNat (((x0).size : Int)).toNat))) :=
  loop_out cfgOK (f := i_spec_trDrop) (its := [.bool true, .bool false, .bool true])
    (ps := [decide (x6 < ((x0).size : Int)) = true,
      0 ≤ x6,
      x6 < ((x0).size : Int),
      ((bt x0 x6) != (46 : Int)) = false,
      (x5 == x1) = true,
      0 ≤ (IntKind.wrap .i64 (x6 - (1 : Int))),
      (IntKind.wrap .i64 (x6 - (1 : Int))) ≤ ((x0).size : Int),
      ((ByteArray.extract x0 ((0 : Int)).toNat ((IntKind.wrap .i64 (x6 - (1 : Int)))).toNat)).size + ((⟨#[46]⟩ : ByteArray)).size ≤ 2 ^ 62,
      0 ≤ (IntKind.wrap .i64 (x6 + (3 : Int))),
      (IntKind.wrap .i64 (x6 + (3 : Int))) ≤ ((x0).size : Int),
      (((ByteArray.extract x0 ((0 : Int)).toNat ((IntKind.wrap .i64 (x6 - (1 : Int)))).toNat) ++ (⟨#[46]⟩ : ByteArray))).size + ((ByteArray.extract x0 ((IntKind.wrap .i64 (x6 + (3 : Int)))).toNat (((x0).size : Int)).toNat)).size ≤ 2 ^ 62]) (by kernel_rfl) ⟨(decide_eq_true h1), h2, h1, (bne_eq_false_iff_eq.mpr h3), (beq_iff_eq.mpr h4), h5, h6, h7, h8, h9, h10, trivial⟩ (fun h => by cases h)

theorem spec_trDrop_L0a_i3 (x0 : ByteArray) (x1 : Int) (x5 : Int) (x6 : Int)
    (h1 : x6 < ((x0).size : Int))
    (h2 : 0 ≤ x6)
    (h3 : (bt x0 x6) = (46 : Int))
    (h4 : x5 ≠ x1)
    {e : AEx} {st : St} (next : LoopSC cfg.P 2 (lb P_spec_trDrop 0) (spec_trDrop_L0a x0 x1 (IntKind.wrap .i64 (x5 + (1 : Int))) (IntKind.wrap .i64 (x6 + (1 : Int)))) e st) :
    LoopSC cfg.P 2 (lb P_spec_trDrop 0) (spec_trDrop_L0a x0 x1 x5 x6) e st :=
  loop_iter cfgOK (f := i_spec_trDrop) (its := [.bool true, .bool false, .bool false])
    (ps := [decide (x6 < ((x0).size : Int)) = true,
      0 ≤ x6,
      x6 < ((x0).size : Int),
      ((bt x0 x6) != (46 : Int)) = false,
      (x5 == x1) = false]) (st1 := spec_trDrop_L0a x0 x1 (IntKind.wrap .i64 (x5 + (1 : Int))) (IntKind.wrap .i64 (x6 + (1 : Int)))) (by kernel_rfl) ⟨(decide_eq_true h1), h2, h1, (bne_eq_false_iff_eq.mpr h3), (beq_eq_false_iff_ne.mpr h4), trivial⟩ next

theorem spec_trDrop_L0a_x4 (x0 : ByteArray) (x1 : Int) (x5 : Int) (x6 : Int)
    (h1 : ¬ (x6 < ((x0).size : Int))) :
    LoopSC cfg.P 2 (lb P_spec_trDrop 0) (spec_trDrop_L0a x0 x1 x5 x6) (.exit 0) (spec_trDrop_L0X2 x0 x1 x5 x6 false) :=
  loop_out cfgOK (f := i_spec_trDrop) (its := [.bool false])
    (ps := [decide (x6 < ((x0).size : Int)) = false]) (by kernel_rfl) ⟨(decide_eq_false h1), trivial⟩ (fun h => by cases h)

theorem spec_trDrop_p1 (a0 : ByteArray) (a1 : Int) (k1y4 : ByteArray)
    (h1 : LoopSC cfg.P 2 (lb P_spec_trDrop 0) (spec_trDrop_L0a a0 a1 (0 : Int) (0 : Int)) (.ret) (spec_trDrop_L0X1 k1y4)) :
    SC cfg.P i_spec_trDrop [.s (.v .str a0), .s (.v (.int .i64) a1)] (.s (.v .str k1y4)) [] :=
  SC_of_run cfgOK (its := [.loop (fun _ => (.ret, spec_trDrop_L0X1 k1y4))])
    (ps := [LoopSC cfg.P 2 (lb P_spec_trDrop 0) (spec_trDrop_L0a a0 a1 (0 : Int) (0 : Int)) (.ret) (spec_trDrop_L0X1 k1y4)]) (by kernel_rfl) ⟨h1, trivial⟩ get_spec_trDrop (by decide)

theorem spec_trDrop_p2 (a0 : ByteArray) (a1 : Int) (k1y0 : ByteArray) (k1y1 : Int) (k1y5 : Int) (k1y6 : Int) (k1y10 : Bool)
    (h1 : LoopSC cfg.P 2 (lb P_spec_trDrop 0) (spec_trDrop_L0a a0 a1 (0 : Int) (0 : Int)) (.exit 0) (spec_trDrop_L0X2 k1y0 k1y1 k1y5 k1y6 k1y10)) :
    SC cfg.P i_spec_trDrop [.s (.v .str a0), .s (.v (.int .i64) a1)] (.s (.v .str k1y0)) [] :=
  SC_of_run cfgOK (its := [.loop (fun _ => (.exit 0, spec_trDrop_L0X2 k1y0 k1y1 k1y5 k1y6 k1y10))])
    (ps := [LoopSC cfg.P 2 (lb P_spec_trDrop 0) (spec_trDrop_L0a a0 a1 (0 : Int) (0 : Int)) (.exit 0) (spec_trDrop_L0X2 k1y0 k1y1 k1y5 k1y6 k1y10)]) (by kernel_rfl) ⟨h1, trivial⟩ get_spec_trDrop (by decide)

end Go.AI
