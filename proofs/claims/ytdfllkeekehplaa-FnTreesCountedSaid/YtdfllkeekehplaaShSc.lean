/- From the library's contract of the sort to the interpreter's. -/
import Derived.Test.YtdfllkeekehplaaShS8
import Derived.Test.YtdfllkeekehplaaAiSh2
import Derived.Test.YtdfllkeekehplaaSIds
import Derived.Test.YtdfllkeekehplaaFt
set_option autoImplicit false
set_option linter.unusedVariables false
set_option maxRecDepth 100000
namespace Go.AI
open Go.Proofs

theorem rows_mk_strs {w : World} {B : Nat → Prop} : ∀ l : List ByteArray, RowsOf (RepK w B .str) l (l.map Value.string)
  | [] => rfl
  | x :: l => ⟨[.string x], l.map Value.string, rfl, rfl, rows_mk_strs l⟩

theorem sortT_len (l : List ByteArray) : (sortT l).length = l.length := by unfold sortT; rw [List.length_map, List.length_mergeSort, List.length_map]

theorem slices_Sort_SC (l : List ByteArray) (hl : l ≠ []) (hn : l.length ≤ 2 ^ 40) :
    SC cfg.P i_slices_Sort [.s (.msl t_string .str l)] (.tup []) [.row t_string .str (sortT l)] := by
  refine ⟨⟨_, get_slices_Sort, rfl, by decide⟩, fun w B vs mv hB hd hA => ?_⟩
  obtain ⟨u, us, m, rfl, rfl, ⟨flat, ⟨h1, h2⟩, hr⟩, rfl, rfl⟩ := hA
  have hf := rows_strs hr
  have hl0 : 0 < l.length := List.length_pos_iff.2 hl
  rcases h2 with ⟨_, h0⟩ | ⟨g, cap, cur, rfl, _, hg, hcap, hmax, hsz, htake⟩
  · omega
  have hk : Kd.str.n = 1 := rfl
  rw [hk, Nat.mul_one] at hsz htake h1
  have hgl : g < w.heap.size := by
    by_cases h : g < w.heap.size
    · exact h
    · rw [Array.getElem?_eq_none (by omega)] at hg; cases hg
  have hcell : ∀ j, j < l.length → cur[j]? = some (Value.string (l.getD j ⟨#[]⟩)) := fun j hj => by
    have e1 : (cur.toList.take l.length)[j]? = flat[j]? := by rw [htake]
    rw [List.getElem?_take_of_lt hj, hf, List.getElem?_map, List.getElem?_eq_getElem hj] at e1
    rw [← Array.getElem?_toList, e1, List.getD_eq_getElem?_getD, List.getElem?_eq_getElem hj]
    rfl
  have hH : Sort.Holds encStr w g 0 (l.map fun s => s.data.toList).toArray := by
    intro j hj
    simp only [List.size_toArray, List.length_map] at hj
    rw [Nat.zero_add]
    refine ⟨?_, ?_⟩
    · have hc0 : w.cell? ⟨g, j, none⟩ = cur[j]? := by unfold World.cell?; simp [hg]
      rw [hc0, hcell j hj]
      have e : ((l.map fun s => s.data.toList).toArray)[j]! = (l.getD j ⟨#[]⟩).data.toList := by
        rw [getElem!_pos _ j (by simpa using hj), List.getElem_toArray, List.getElem_map, List.getD_eq_getElem?_getD, List.getElem?_eq_getElem hj]
        rfl
      rw [e]
    · show (match w.heap[g]? with | some (.cells _ _ (lo, hi)) => decide (lo ≤ j) && decide (j < hi) | _ => false) = false
      rw [hg]
      simp
  have hcall := Try.slices_Sort g 0 cap (l.map fun s => s.data.toList) w hH hgl (by rw [List.length_map]; omega)
  rw [List.length_map] at hcall
  refine hcall.mono fun e w' ⟨he, n, os, hw⟩ => ?_
  have hsl : (sortT l).length = l.length := sortT_len l
  refine ⟨.tuple #[], [], he, ⟨?_, ?_, ?_, ?_, ?_⟩, List.nodup_nil, (fun b hb => by cases hb), ⟨[], rfl, rfl, rfl⟩, ⟨_, [], rfl, ?_, rfl⟩⟩
  · rw [hw]; rfl
  · rw [hw]; rfl
  · rw [hw]; rfl
  · rw [hw]
    show w.heap.size ≤ ((w.heap.modify g _) ++ os).size
    rw [Array.size_append, Array.size_modify]; omega
  · intro k hk hne
    have hkg : g ≠ k := fun e => hne _ (List.mem_singleton.2 rfl) (by rw [e]; rfl)
    rw [hw]
    show ((w.heap.modify g _) ++ os)[k]? = _
    rw [Array.getElem?_append_left (by rw [Array.size_modify]; exact hk), Array.getElem?_modify, if_neg hkg]
  · have hd2 : ((l.map fun s => s.data.toList).mergeSort fun x y => decide (x ≤ y)).length = l.length := by rw [List.length_mergeSort, List.length_map]
    refine ⟨(sortT l).map Value.string, ⟨by rw [List.length_map, hk, Nat.mul_one], .inr ⟨g, cap, Sort.putCells encStr 0 ((l.map fun s => s.data.toList).mergeSort fun x y => decide (x ≤ y)).toArray cur, by rw [hsl], Nat.zero_le _, ?_, by rw [hsl]; exact hcap, hmax, ?_, ?_⟩⟩, rows_mk_strs _⟩
    · rw [hw]
      show ((w.heap.modify g _) ++ os)[g]? = _
      rw [Array.getElem?_append_left (by rw [Array.size_modify]; exact hgl), Array.getElem?_modify, if_pos rfl, hg]
      rfl
    · rw [hk, Nat.mul_one]
      unfold Sort.putCells
      rw [Array.size_mapIdx]; exact hsz
    · rw [hk, Nat.mul_one, hsl]
      apply List.ext_getElem?
      intro j
      by_cases hj : j < l.length
      · rw [List.getElem?_take_of_lt hj, Array.getElem?_toList]
        unfold Sort.putCells
        rw [Array.getElem?_mapIdx, hcell j hj]
        simp only [Option.map_some]
        have hj2 : j < ((l.map fun s => s.data.toList).mergeSort fun x y => decide (x ≤ y)).length := by omega
        rw [if_pos ⟨Nat.zero_le _, by rw [List.size_toArray]; omega⟩, Nat.sub_zero, getElem!_pos _ j (by simpa using hj2), List.getElem_toArray]
        unfold sortT
        rw [List.getElem?_map, List.getElem?_map, List.getElem?_eq_getElem hj2]
        rfl
      · rw [List.getElem?_eq_none (by rw [List.length_take]; omega), List.getElem?_eq_none (by rw [List.length_map]; omega)]

end Go.AI
