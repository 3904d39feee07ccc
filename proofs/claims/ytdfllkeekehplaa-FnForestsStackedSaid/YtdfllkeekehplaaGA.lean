/- A part of the road: what it proves stands in its last texts. -/
import Derived.Test.YtdfllkeekehplaaSIds
import Derived.Test.YtdfllkeekehplaaProg
set_option autoImplicit false
set_option maxRecDepth 100000
set_option linter.unusedVariables false
namespace Go.AI
open Go.Proofs

/-! ### laws_FnKindsOfCarets -/


/-! ### laws_big -/


theorem laws_big_p1 (a0 : (List Int)) (a1 : (List Int))
    (h1 : ((List.length a0 : Nat) : Int) > (1048576 : Int)) :
    SC cfg.P i_laws_big [.s (.v (.sl (.int .u8)) a0), .s (.v (.sl (.int .u8)) a1)] (.s (.v .bool true)) [] :=
  SC_of_run cfgOK (its := [.bool true])
    (ps := [decide (((List.length a0 : Nat) : Int) > (1048576 : Int)) = true]) (by kernel_rfl) ⟨(decide_eq_true h1), trivial⟩ get_laws_big (by decide)

theorem laws_big_p2 (a0 : (List Int)) (a1 : (List Int))
    (h1 : ¬ (((List.length a0 : Nat) : Int) > (1048576 : Int)))
    (h2 : ((List.length a1 : Nat) : Int) > (IntKind.wrap .i64 ((1048576 : Int) - ((List.length a0 : Nat) : Int)))) :
    SC cfg.P i_laws_big [.s (.v (.sl (.int .u8)) a0), .s (.v (.sl (.int .u8)) a1)] (.s (.v .bool true)) [] :=
  SC_of_run cfgOK (its := [.bool false, .bool true])
    (ps := [decide (((List.length a0 : Nat) : Int) > (1048576 : Int)) = false,
      decide (((List.length a1 : Nat) : Int) > (IntKind.wrap .i64 ((1048576 : Int) - ((List.length a0 : Nat) : Int)))) = true]) (by kernel_rfl) ⟨(decide_eq_false h1), (decide_eq_true h2), trivial⟩ get_laws_big (by decide)

theorem laws_big_p3 (a0 : (List Int)) (a1 : (List Int))
    (h1 : ¬ (((List.length a0 : Nat) : Int) > (1048576 : Int)))
    (h2 : ¬ (((List.length a1 : Nat) : Int) > (IntKind.wrap .i64 ((1048576 : Int) - ((List.length a0 : Nat) : Int))))) :
    SC cfg.P i_laws_big [.s (.v (.sl (.int .u8)) a0), .s (.v (.sl (.int .u8)) a1)] (.s (.v .bool false)) [] :=
  SC_of_run cfgOK (its := [.bool false, .bool false])
    (ps := [decide (((List.length a0 : Nat) : Int) > (1048576 : Int)) = false,
      decide (((List.length a1 : Nat) : Int) > (IntKind.wrap .i64 ((1048576 : Int) - ((List.length a0 : Nat) : Int)))) = false]) (by kernel_rfl) ⟨(decide_eq_false h1), (decide_eq_false h2), trivial⟩ get_laws_big (by decide)

/-! ### impl_CaretsOf -/


/-! ### spec_DrawCaretKinds -/


/-! ### impl_CaretKinds -/


/-! ### spec_CaretKinds -/


/-! ### laws_nTexts -/


def laws_nTexts_L0a (x0 : (List ByteArray)) (x1 : (List ByteArray)) (x12 : Int) (x13 : Int) : St := mkSt 26 [(0, .s (.v (.sl .str) x0)), (1, .s (.v (.sl .str) x1)), (12, .s (.v (.int .i64) x12)), (13, .s (.v (.int .i64) x13))] []

def laws_nTexts_L0X1 (y4 : Bool) : St := mkSt 26 [(4, .s (.v .bool y4))] []

def laws_nTexts_L0X2 (y0 : (List ByteArray)) (y1 : (List ByteArray)) (y12 : Int) (y13 : Int) (y14 : Bool) : St := mkSt 26 [(0, .s (.v (.sl .str) y0)), (1, .s (.v (.sl .str) y1)), (12, .s (.v (.int .i64) y12)), (13, .s (.v (.int .i64) y13)), (14, .s (.v .bool y14))] []

theorem laws_nTexts_L0a_x1 (x0 : (List ByteArray)) (x1 : (List ByteArray)) (x12 : Int) (x13 : Int)
    (h1 : x13 < x12)
    (h2 : 0 ≤ x13)
    (h3 : x13 < (List.length x0 : Int))
    (h4 : x13 < (List.length x1 : Int))
    (h5 : (List.getD x0 (x13).toNat (⟨#[]⟩ : ByteArray)) ≠ (List.getD x1 (x13).toNat (⟨#[]⟩ : ByteArray))) :
    LoopSC cfg.P 2 (lb P_laws_nTexts 0) (laws_nTexts_L0a x0 x1 x12 x13) (.ret) (laws_nTexts_L0X1 false) :=
  loop_out cfgOK (f := i_laws_nTexts) (its := [.bool true, .bool true])
    (ps := [decide (x13 < x12) = true,
      0 ≤ x13,
      x13 < (List.length x0 : Int),
      0 ≤ x13,
      x13 < (List.length x1 : Int),
      (!(((List.getD x0 (x13).toNat (⟨#[]⟩ : ByteArray))).toList == ((List.getD x1 (x13).toNat (⟨#[]⟩ : ByteArray))).toList)) = true]) (by kernel_rfl) ⟨(decide_eq_true h1), h2, h3, h2, h4, (nseq_t h5), trivial⟩ (fun h => by cases h)

theorem laws_nTexts_L0a_i2 (x0 : (List ByteArray)) (x1 : (List ByteArray)) (x12 : Int) (x13 : Int)
    (h1 : x13 < x12)
    (h2 : 0 ≤ x13)
    (h3 : x13 < (List.length x0 : Int))
    (h4 : x13 < (List.length x1 : Int))
    (h5 : (List.getD x0 (x13).toNat (⟨#[]⟩ : ByteArray)) = (List.getD x1 (x13).toNat (⟨#[]⟩ : ByteArray)))
    {e : AEx} {st : St} (next : LoopSC cfg.P 2 (lb P_laws_nTexts 0) (laws_nTexts_L0a x0 x1 x12 (IntKind.wrap .i64 (x13 + (1 : Int)))) e st) :
    LoopSC cfg.P 2 (lb P_laws_nTexts 0) (laws_nTexts_L0a x0 x1 x12 x13) e st :=
  loop_iter cfgOK (f := i_laws_nTexts) (its := [.bool true, .bool false])
    (ps := [decide (x13 < x12) = true,
      0 ≤ x13,
      x13 < (List.length x0 : Int),
      0 ≤ x13,
      x13 < (List.length x1 : Int),
      (!(((List.getD x0 (x13).toNat (⟨#[]⟩ : ByteArray))).toList == ((List.getD x1 (x13).toNat (⟨#[]⟩ : ByteArray))).toList)) = false]) (st1 := laws_nTexts_L0a x0 x1 x12 (IntKind.wrap .i64 (x13 + (1 : Int)))) (by kernel_rfl) ⟨(decide_eq_true h1), h2, h3, h2, h4, (nseq_f h5), trivial⟩ next

theorem laws_nTexts_L0a_x3 (x0 : (List ByteArray)) (x1 : (List ByteArray)) (x12 : Int) (x13 : Int)
    (h1 : ¬ (x13 < x12)) :
    LoopSC cfg.P 2 (lb P_laws_nTexts 0) (laws_nTexts_L0a x0 x1 x12 x13) (.exit 0) (laws_nTexts_L0X2 x0 x1 x12 x13 false) :=
  loop_out cfgOK (f := i_laws_nTexts) (its := [.bool false])
    (ps := [decide (x13 < x12) = false]) (by kernel_rfl) ⟨(decide_eq_false h1), trivial⟩ (fun h => by cases h)

theorem laws_nTexts_p1 (a0 : (List ByteArray)) (a1 : (List ByteArray))
    (h1 : ((List.length a0 : Nat) : Int) ≠ ((List.length a1 : Nat) : Int)) :
    SC cfg.P i_laws_nTexts [.s (.v (.sl .str) a0), .s (.v (.sl .str) a1)] (.s (.v .bool false)) [] :=
  SC_of_run cfgOK (its := [.bool true])
    (ps := [(((List.length a0 : Nat) : Int) != ((List.length a1 : Nat) : Int)) = true]) (by kernel_rfl) ⟨(bne_iff_ne.mpr h1), trivial⟩ get_laws_nTexts (by decide)

theorem laws_nTexts_p2 (a0 : (List ByteArray)) (a1 : (List ByteArray)) (k1y4 : Bool)
    (h1 : ((List.length a0 : Nat) : Int) = ((List.length a1 : Nat) : Int))
    (h2 : LoopSC cfg.P 2 (lb P_laws_nTexts 0) (laws_nTexts_L0a a0 a1 ((List.length a0 : Nat) : Int) (0 : Int)) (.ret) (laws_nTexts_L0X1 k1y4)) :
    SC cfg.P i_laws_nTexts [.s (.v (.sl .str) a0), .s (.v (.sl .str) a1)] (.s (.v .bool k1y4)) [] :=
  SC_of_run cfgOK (its := [.bool false, .loop (fun _ => (.ret, laws_nTexts_L0X1 k1y4))])
    (ps := [(((List.length a0 : Nat) : Int) != ((List.length a1 : Nat) : Int)) = false,
      LoopSC cfg.P 2 (lb P_laws_nTexts 0) (laws_nTexts_L0a a0 a1 ((List.length a0 : Nat) : Int) (0 : Int)) (.ret) (laws_nTexts_L0X1 k1y4)]) (by kernel_rfl) ⟨(bne_eq_false_iff_eq.mpr h1), h2, trivial⟩ get_laws_nTexts (by decide)

theorem laws_nTexts_p3 (a0 : (List ByteArray)) (a1 : (List ByteArray)) (k1y0 : (List ByteArray)) (k1y1 : (List ByteArray)) (k1y12 : Int) (k1y13 : Int) (k1y14 : Bool)
    (h1 : ((List.length a0 : Nat) : Int) = ((List.length a1 : Nat) : Int))
    (h2 : LoopSC cfg.P 2 (lb P_laws_nTexts 0) (laws_nTexts_L0a a0 a1 ((List.length a0 : Nat) : Int) (0 : Int)) (.exit 0) (laws_nTexts_L0X2 k1y0 k1y1 k1y12 k1y13 k1y14)) :
    SC cfg.P i_laws_nTexts [.s (.v (.sl .str) a0), .s (.v (.sl .str) a1)] (.s (.v .bool true)) [] :=
  SC_of_run cfgOK (its := [.bool false, .loop (fun _ => (.exit 0, laws_nTexts_L0X2 k1y0 k1y1 k1y12 k1y13 k1y14))])
    (ps := [(((List.length a0 : Nat) : Int) != ((List.length a1 : Nat) : Int)) = false,
      LoopSC cfg.P 2 (lb P_laws_nTexts 0) (laws_nTexts_L0a a0 a1 ((List.length a0 : Nat) : Int) (0 : Int)) (.exit 0) (laws_nTexts_L0X2 k1y0 k1y1 k1y12 k1y13 k1y14)]) (by kernel_rfl) ⟨(bne_eq_false_iff_eq.mpr h1), h2, trivial⟩ get_laws_nTexts (by decide)

/-! ### impl_LengthOf -/


/-! ### spec_DrawKindLength -/


/-! ### spec_KindLength -/


end Go.AI
