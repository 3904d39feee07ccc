/- A part of the road: what it proves stands in its last texts. -/
import Derived.Test.YtndnckjnnfnnnaaDoorAiG
import Derived.WalkKit
import Derived.ProofKit
import Derived.OpenShut
import Derived.ShutString
import Derived.Lib.SmallJoins
import Derived.Carry
import Derived.SliceStrings
import Derived.ChangeSlices
section
/- From a contract to a row. -/
set_option autoImplicit false
set_option linter.unusedVariables false
namespace Go.AI

theorem Fr.kept {w w' : World} (h : Fr w [] w') : w.keptBut w' (fun _ => False) := by
  refine ⟨h.os, h.output, fun i hi => ?_⟩
  have e := h.block i hi (fun v hv => by cases hv)
  rw [e]
  cases w.heap[i]? with
  | none => rfl
  | some o =>
    cases o <;> first | exact ⟨rfl, rfl, rfl, fun _ _ => rfl⟩ | exact Or.inr ⟨rfl, rfl⟩ | rfl

/-- The call of a law over plain arguments. -/
theorem SC.law {P : Program} {f : FuncId} {args : List AV} {vs : List Value} {w : World} (h : SC P f args (.s (.v .bool true)) []) (ha : ArgRep w (fun b => b < w.heap.size) args vs []) :
    Calls P f vs.toArray w fun e w' => e = .returned (.bool true) ∧ Fr w [] w' :=
  (h.2 w (fun b => b < w.heap.size) vs [] (fun b hb v hv => by cases hv) List.Pairwise.nil ha).mono fun e w' ⟨v, os, he, hf, _, _, hr, _⟩ => by
    have : v = .bool true := RepV.bool hr.1
    subst this
    exact ⟨he, hf⟩

theorem post_of_kept {H : Type} {enc : TypeId × Value → H} {P : Program} {f : Func} {s : ChangeSpec} {apart fresh handsOn : Bool} {W W' : World} {args : Array Value} {v : Value} {ds gs : List (DataW H)} {before pa pv : List MemPlace}
    (hW : DataW.Whole enc P f.params.toList s.vars apart W args.toList ds gs before)
    (hres : ∀ (b : Nat) (sp : Nat → Bool) (hd : Bool), DataW.TrodAll enc P W' b sp hd f.resultTypes.toList (v.resultList f.resultTypes.size) (s.fn H (ds ++ gs)).results [])
    (hargs : ∀ sp : Nat → Bool, (∀ p ∈ before, sp p.block = true) → DataW.TrodAll enc P W' 0 sp true f.params.toList args.toList (s.fn H (ds ++ gs)).args pa)
    (hvars : ∀ sp : Nat → Bool, (∀ p ∈ before, sp p.block = true) → DataW.TrodVars enc P W' sp s.vars (s.fn H (ds ++ gs)).vars pv)
    (hps : before = pa ++ pv) (hk : W.keptBut W' (fun _ => False)) :
    s.post enc P f apart fresh handsOn false W args v W' := by
  have hold : ∀ p ∈ before, (fun b => decide (b < W.heap.size)) p.block = true := fun p hp => by simpa using hW.lt p hp
  exact ⟨ds, gs, before, [], pa, pv, hW, hres _ _ _, hargs _ hold, hvars _ hold, World.keptBut_mono (fun p hp => hp.elim) hk, fun h => by cases h⟩

theorem RepV.mk_ss {w : World} {B : Nat → Prop} (a b : ByteArray) : RepV w B (.pr .str .str) (a, b) (.agg #[.string a, .string b]) := ⟨[.string a, .string b], ⟨[.string a], [.string b], rfl, rfl, rfl⟩, rfl⟩

end Go.AI
end

section
/- From a contract to a row: arguments that are slices. -/
set_option autoImplicit false
set_option linter.unusedVariables false
namespace Go.AI
open Go.ChangeShapes Go.WideShapes Go.ChangeAt Go.RowKit

theorem Fr.below {w w' : World} (h : Fr w [] w') : Below w.heap.size w w' :=
  ⟨h.os, h.tape, h.output, h.size, fun k hk => h.block k hk (fun v hv => by cases hv)⟩

theorem post_of_below {H : Type} {enc : TypeId × Value → H} {P : Program} {f : Func} {s : ChangeSpec} {apart fresh handsOn : Bool} {W W' : World} {args : Array Value} {v : Value} {ds gs : List (DataW H)} {before pa pv : List MemPlace}
    (hW : DataW.Whole enc P f.params.toList s.vars apart W args.toList ds gs before)
    (hres : ∀ (b : Nat) (sp : Nat → Bool) (hd : Bool), DataW.TrodAll enc P W' b sp hd f.resultTypes.toList (v.resultList f.resultTypes.size) (s.fn H (ds ++ gs)).results [])
    (hargs : DataW.TrodAll enc P W' 0 (fun b => decide (b < W.heap.size)) true f.params.toList args.toList (s.fn H (ds ++ gs)).args pa)
    (hvars : ∀ sp : Nat → Bool, (∀ p ∈ before, sp p.block = true) → DataW.TrodVars enc P W' sp s.vars (s.fn H (ds ++ gs)).vars pv)
    (hps : before = pa ++ pv) (hk : W.keptBut W' (fun _ => False)) :
    s.post enc P f apart fresh handsOn false W args v W' := by
  have hold : ∀ p ∈ before, (fun b => decide (b < W.heap.size)) p.block = true := fun p hp => by simpa using hW.lt p hp
  exact ⟨ds, gs, before, [], pa, pv, hW, hres _ _ _, hargs, hvars _ hold, World.keptBut_mono (fun p hp => hp.elim) hk, fun h => by cases h⟩

variable {H : Type} {enc : TypeId × Value → H} {P : Program} {W : World}

theorem rows_one {k : Kd} {B : Nat → Prop} {l : List k.ty} (f : k.ty → Value) (hf : ∀ x, RepK W B k x [f x]) : RowsOf (RepK W B k) l (l.map f) := by
  induction l with
  | nil => rfl
  | cons x l ih => exact ⟨[f x], l.map f, rfl, hf x, ih⟩

theorem slice_rep {k : Kd} {l : List k.ty} {a : Addr} {cap : Nat} (f : k.ty → Value) (hf : ∀ B x, RepK W B k x [f x]) (hl : l.length ≤ cap) (hsp : a.spot = none)
    (hc : ∀ (i : Nat) x, l[i]? = some x → W.cell? (a.add i) = some (f x)) : RepV W (fun b => b < W.heap.size) (.sl k) l (.slice (some a) l.length cap) := by
  refine ⟨[.slice (some a) l.length cap], ⟨some a, cap, l.map f, rfl, hl, rows_one f (hf _), (fun e => by cases e), fun ad e => ?_⟩, rfl⟩
  cases e
  refine ⟨hsp, fun j u hj => ?_, fun hne => ?_⟩
  · rw [List.getElem?_map] at hj
    cases hx : l[j]? with
    | none => rw [hx] at hj; cases hj
    | some x =>
      rw [hx] at hj
      cases hj
      exact hc j x hx
  · cases l with
    | nil => exact absurd rfl hne
    | cons x l =>
      have h0 := hc 0 x rfl
      have := World.block_lt_of_cell? _ _ h0
      rwa [Addr.add_block] at this

theorem nil_rep (k : Kd) : RepV W (fun b => b < W.heap.size) (.sl k) ([] : List k.ty) (.slice none 0 0) :=
  ⟨[.slice none 0 0], ⟨none, 0, [], rfl, Nat.le_refl _, rfl, (fun _ => rfl), (fun ad e => by cases e)⟩, rfl⟩

theorem spot_of_okWide {t e : TypeId} {a : Addr} {len cap base : Nat} (ht : P.underlying t = some (.slice e)) (hv : Value.okWide P W .any base t (.slice (some a) len cap)) : a.spot = none := by
  simp only [Value.okWide, ht, Cell.okWide, Cell.ok, World.has] at hv
  exact hv.2.2.2.1

/-- A []string that came in. -/
theorem arg_strs {t e : TypeId} {v : Value} {d : DataW H} {ps : List MemPlace} {base : Nat} (ht : P.underlying t = some (.slice e)) (he : P.underlying e = some .string) (hc : P.cellsOf e = 1)
    (hv : Value.okWide P W .any base t v) (h : DataW.Trod enc P W 0 (fun _ => true) true t v d ps) :
    ∃ l : List ByteArray, RepV W (fun b => b < W.heap.size) (.sl .str) l v ∧ l.length ≤ maxLen ∧ ∀ s ∈ l, s.size ≤ maxLen := by
  obtain ⟨a0, len, cap, rfl⟩ := okWide_slice ht hv
  obtain ⟨fuel, hf⟩ := h
  rcases open_strings ht he hc hf with ⟨hcs, hx⟩ | ⟨a, len', cap', ss, hcs, _, hl, hm, hz, hx, hcell, hsz⟩
  · simp [Value.cells] at hcs
    obtain ⟨rfl, rfl, rfl⟩ := hcs
    exact ⟨[], nil_rep .str, Nat.zero_le _, fun s hs => by cases hs⟩
  · simp [Value.cells] at hcs
    obtain ⟨rfl, rfl, rfl⟩ := hcs
    simp only [if_true] at hz
    have hlen : (ss.take len).length = len := by rw [List.length_take]; omega
    have key := slice_rep (W := W) (k := .str) (l := ss.take len) (a := a) (cap := cap) Value.string (fun B x => rfl) (by rw [hlen]; exact hl) (spot_of_okWide ht hv) (fun i x hi => by
      have hi' : i < len := by
        have := (List.getElem?_eq_some_iff.1 hi).1
        omega
      rw [List.getElem?_take_of_lt hi'] at hi
      rw [hcell i (by omega), List.getD, hi]
      rfl)
    rw [hlen] at key
    exact ⟨ss.take len, key, by omega, fun s hs => hsz s (List.mem_of_mem_take hs)⟩

/-- A []int that came in. -/
theorem arg_ints {t e : TypeId} {v : Value} {d : DataW H} {ps : List MemPlace} {base : Nat} (ht : P.underlying t = some (.slice e)) (he : P.underlying e = some (.int .i64)) (hc : P.cellsOf e = 1)
    (hv : Value.okWide P W .any base t v) (h : DataW.Trod enc P W 0 (fun _ => true) true t v d ps) :
    ∃ l : List Int, RepV W (fun b => b < W.heap.size) (.sl (.int .i64)) l v ∧ l.length ≤ maxLen ∧ ∀ n ∈ l, (Lit.int .i64 n).wf = true := by
  obtain ⟨a0, len, cap, rfl⟩ := okWide_slice ht hv
  obtain ⟨fuel, hf⟩ := h
  rcases open_ints ht he hc hf with ⟨hcs, hx⟩ | ⟨a, len', cap', ss, hcs, _, hl, hm, hz, hx, hcell, hsz⟩
  · simp [Value.cells] at hcs
    obtain ⟨rfl, rfl, rfl⟩ := hcs
    exact ⟨[], nil_rep (.int .i64), Nat.zero_le _, fun s hs => by cases hs⟩
  · simp [Value.cells] at hcs
    obtain ⟨rfl, rfl, rfl⟩ := hcs
    simp only [if_true] at hz
    have hlen : (ss.take len).length = len := by rw [List.length_take]; omega
    have key := slice_rep (W := W) (k := .int .i64) (l := ss.take len) (a := a) (cap := cap) (Value.int .i64) (fun B x => rfl) (by rw [hlen]; exact hl) (spot_of_okWide ht hv) (fun i x hi => by
      have hi' : i < len := by
        have := (List.getElem?_eq_some_iff.1 hi).1
        omega
      rw [List.getElem?_take_of_lt hi'] at hi
      rw [hcell i (by omega), List.getD, hi]
      rfl)
    rw [hlen] at key
    exact ⟨ss.take len, key, by omega, fun s hs => hsz s (List.mem_of_mem_take hs)⟩

end Go.AI
end
