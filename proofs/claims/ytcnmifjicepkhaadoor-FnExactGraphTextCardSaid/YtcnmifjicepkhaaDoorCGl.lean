/- From the listed table to the interpreter's premise. -/
import Derived.Test.YtcnmifjicepkhaaDoorCGr
import Derived.Test.YtcnmifjicepkhaaDoorRows
import Derived.Lib.LaidTab
import Derived.LaidLaws
import Derived.LaidMore
import Derived.ProofKit
set_option autoImplicit false
set_option maxRecDepth 100000
namespace Go.AI
open Go.Proofs Go.Proofs.YtcnmifjicepkhaaDoor

theorem tab_data : (Rows.laid_internal_strconv_uint64pow10 : DataW Unit) = Lib.tabData .u64 Lib.pow10Tab := by kernel_rfl

theorem laid_tail {P : Program} {w : World} {x : String × DataW Unit} {l : List (String × DataW Unit)} (h : laidMet P (x :: l) w) : laidMet P l w := by
  obtain ⟨ps, ⟨g, t, cs, fuel, p, q, _, _, _, _, hr, rfl⟩, hn, hc⟩ := h
  exact ⟨q, hr, (List.nodup_append.1 hn).2.1, fun b off hb => hc b off (List.mem_append_right _ hb)⟩

theorem lo_of_laid {W : World} (h : laidMetH Tryd.prog Rows.fnExactGraphTextRow.laid W) : LaidOK W [] := by
  rw [MakeChecks.laidMetH_plain _ _ _ (by kernel_rfl)] at h
  have h1 : laidMet Tryd.prog [("math/bits.deBruijn32tab", Rows.laid_math_bits_deBruijn32tab), ("math/bits.deBruijn64tab", Rows.laid_math_bits_deBruijn64tab), ("internal/strconv.uint64pow10", Rows.laid_internal_strconv_uint64pow10)] W := h
  rw [tab_data] at h1
  have h2 := laid_tail (laid_tail h1)
  have hg : Tryd.prog.globalNamed "internal/strconv.uint64pow10" = some tabBlock := by kernel_rfl
  have ht := Lib.tabIs_of_head (g := tabBlock) hg (t := 135) (by kernel_rfl) Tryd.underlying135 Tryd.underlying121 (by kernel_rfl) (by kernel_rfl) h2
  have hv : (Tryd.prog.globalNamed "internal/strconv.uint64pow10").bind (fun g => match W.heap[g]? with | some (.cells cs _ _) => some cs | _ => none) = some (Lib.pow10Tab.map fun z => Value.int .u64 z).toArray := ht
  rw [hg, Option.bind_some] at hv
  cases hb : W.heap[tabBlock]? with
  | none => rw [hb] at hv; cases hv
  | some o =>
    rw [hb] at hv
    cases o <;> simp only [Option.some.injEq, reduceCtorEq] at hv
    rename_i cs t z
    refine ⟨?_, fun v hv => (by cases hv), t, z, by rw [hb, hv]⟩
    by_cases hl : tabBlock < W.heap.size
    · exact hl
    · rw [Array.getElem?_eq_none (by omega)] at hb; cases hb

end Go.AI
