/- A part of the road: what it proves stands in its last texts. -/
import Derived.Test.YtdfllkeekehplaaSIds
import Derived.Test.YtdfllkeekehplaaProg
set_option autoImplicit false
set_option maxRecDepth 100000
set_option linter.unusedVariables false
namespace Go.AI
open Go.Proofs

/-! ### impl_KindLength -/


/-! ### slices_Index_string -/


def slices_Index_string_L0a (x0 : (List ByteArray)) (x1 : ByteArray) (x7 : Int) (x8 : Int) : St := mkSt 19 [(0, .s (.v (.sl .str) x0)), (1, .s (.v .str x1)), (7, .s (.v (.int .i64) x7)), (8, .s (.v (.int .i64) x8))] []

def slices_Index_string_L0X1 (y4 : Int) : St := mkSt 19 [(4, .s (.v (.int .i64) y4))] []

theorem slices_Index_string_L0a_x1 (x0 : (List ByteArray)) (x1 : ByteArray) (x7 : Int) (x8 : Int)
    (h1 : x8 < x7)
    (h2 : 0 ≤ x8)
    (h3 : x8 < (List.length x0 : Int))
    (h4 : x1 = (List.getD x0 (x8).toNat (⟨#[]⟩ : ByteArray))) :
    LoopSC cfg.P 2 (lb P_slices_Index_string 0) (slices_Index_string_L0a x0 x1 x7 x8) (.ret) (slices_Index_string_L0X1 x8) :=
  loop_out cfgOK (f := i_slices_Index_string) (its := [.bool true, .bool true])
    (ps := [decide (x8 < x7) = true,
      0 ≤ x8,
      x8 < (List.length x0 : Int),
      ((x1).toList == ((List.getD x0 (x8).toNat (⟨#[]⟩ : ByteArray))).toList) = true]) (by kernel_rfl) ⟨(decide_eq_true h1), h2, h3, (seq_t h4), trivial⟩ (fun h => by cases h)

theorem slices_Index_string_L0a_i2 (x0 : (List ByteArray)) (x1 : ByteArray) (x7 : Int) (x8 : Int)
    (h1 : x8 < x7)
    (h2 : 0 ≤ x8)
    (h3 : x8 < (List.length x0 : Int))
    (h4 : x1 ≠ (List.getD x0 (x8).toNat (⟨#[]⟩ : ByteArray)))
    {e : AEx} {st : St} (next : LoopSC cfg.P 2 (lb P_slices_Index_string 0) (slices_Index_string_L0a x0 x1 x7 (IntKind.wrap .i64 (x8 + (1 : Int)))) e st) :
    LoopSC cfg.P 2 (lb P_slices_Index_string 0) (slices_Index_string_L0a x0 x1 x7 x8) e st :=
  loop_iter cfgOK (f := i_slices_Index_string) (its := [.bool true, .bool false])
    (ps := [decide (x8 < x7) = true,
      0 ≤ x8,
      x8 < (List.length x0 : Int),
      ((x1).toList == ((List.getD x0 (x8).toNat (⟨#[]⟩ : ByteArray))).toList) = false]) (st1 := slices_Index_string_L0a x0 x1 x7 (IntKind.wrap .i64 (x8 + (1 : Int)))) (by kernel_rfl) ⟨(decide_eq_true h1), h2, h3, (seq_f h4), trivial⟩ next

theorem slices_Index_string_p1 (a0 : (List ByteArray)) (a1 : ByteArray) (k1y4 : Int)
    (h1 : LoopSC cfg.P 2 (lb P_slices_Index_string 0) (slices_Index_string_L0a a0 a1 ((List.length a0 : Nat) : Int) (0 : Int)) (.ret) (slices_Index_string_L0X1 k1y4)) :
    SC cfg.P i_slices_Index_string [.s (.v (.sl .str) a0), .s (.v .str a1)] (.s (.v (.int .i64) k1y4)) [] :=
  SC_of_run cfgOK (its := [.loop (fun _ => (.ret, slices_Index_string_L0X1 k1y4))])
    (ps := [LoopSC cfg.P 2 (lb P_slices_Index_string 0) (slices_Index_string_L0a a0 a1 ((List.length a0 : Nat) : Int) (0 : Int)) (.ret) (slices_Index_string_L0X1 k1y4)]) (by kernel_rfl) ⟨h1, trivial⟩ get_slices_Index_string (by decide)

/-! ### impl_node_kinds -/


/-! ### spec_lnKinds -/


/-! ### impl_pair_length -/


/-! ### spec_lnTable -/


/-! ### impl_node_marks -/


/-! ### slices_ContainsFunc_loopexampleg01161implmark -/


/-! ### impl_node_kinds_k1 -/


/-! ### spec_lnLeft -/


/-! ### spec_lnRight -/


/-! ### spec_lnRow -/


/-! ### slices_IndexFunc_loopexampleg01161implmark -/


/-! ### spec_lnInner -/


end Go.AI
