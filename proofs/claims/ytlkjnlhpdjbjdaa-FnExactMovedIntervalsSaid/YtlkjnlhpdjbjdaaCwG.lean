/- Walks by hand: all intervals that are fixed; marks. -/
import Derived.Test.YtlkjnlhpdjbjdaaCwS
import Derived.Test.YtlkjnlhpdjbjdaaCD
import Derived.Test.YtlkjnlhpdjbjdaaAiH
set_option autoImplicit false
set_option maxRecDepth 100000
set_option linter.unusedVariables false
namespace Go.AI
open Go.Proofs Go.RowKit

def fiV (a b : List UInt8) : List Iv := if isPair a b then fxL (treeOf a, treeOf b) else []

theorem repT_ptr {w : World} {B : Nat → Prop} {t : Tr} {v : Value} (h : RepT w B t v) : ∃ u, v = .pointer u := by
  cases t with
  | leaf => exact ⟨_, h⟩
  | node l r => obtain ⟨b, o, vl, vr, e, _⟩ := h; exact ⟨_, e⟩

theorem pair_ptr {w : World} {B : Nat → Prop} {p : PT} {u : Value} (h : RepV w B (.pr .tree .tree) p u) : ∃ v1 v2, u = .agg #[.pointer v1, .pointer v2] := by
  obtain ⟨cs, ⟨c1, c2, rfl, ⟨x, rfl, h1⟩, ⟨y, rfl, h2⟩⟩, rfl⟩ := h
  obtain ⟨a, rfl⟩ := repT_ptr h1
  obtain ⟨b, rfl⟩ := repT_ptr h2
  exact ⟨a, b, rfl⟩

theorem pairOf_C (a b : List UInt8) (ha : a.length ≤ 2 ^ 40) (hb : b.length ≤ 2 ^ 40) (w : World) :
    Calls Try.prog i_impl_pairOf #[.agg #[.string (bs a), .string (bs b)]] w fun e w' => ∃ v1 v2, e = .returned (.tuple #[.agg #[.pointer v1, .pointer v2], .bool (isPair a b)]) ∧ Fr w [] w' ∧ ∃ B, RepV w' B (.pr .tree .tree) (treeOf a, treeOf b) (.agg #[.pointer v1, .pointer v2]) := by
  have hS := (pairOf_SC a b ha hb).2 w (fun _ => False) [.agg #[.string (bs a), .string (bs b)]] [] (fun _ _ v hv => by cases hv) List.Pairwise.nil ⟨_, [], rfl, RepV.mk_ss _ _, rfl, rfl⟩
  refine hS.mono ?_
  rintro e w' ⟨v, os, he, hf, hnd, hos, ⟨vs, rfl, hres⟩, _⟩
  obtain ⟨u, us, o1, o2, rfl, rfl, ⟨hu, _⟩, u2, us2, o3, o4, rfl, rfl, ⟨hb, _⟩, rfl, rfl⟩ := hres
  obtain ⟨cs, hcs, rfl⟩ := hb
  have : cs = [.bool (isPair a b)] := hcs
  subst this
  obtain ⟨v1, v2, rfl⟩ := pair_ptr hu
  exact ⟨v1, v2, he, hf, _, hu⟩

def FIpost (w : World) (ok : Bool) (l : List Iv) (e : Ending) (w' : World) : Prop := ∃ (v : Value) (us : List Value), e = .returned (.tuple #[v, .bool ok]) ∧ Fr w [] w' ∧ RR w' w.heap.size v l us

theorem Fr.set' {w w1 : World} (h : Fr w [] w1) {a : Addr} (ha : w.heap.size ≤ a.block) (v : Value) : Fr w [] (w1.setCell a v) :=
  ⟨h.os, h.tape, h.output, by rw [World.size_setCell]; exact h.size, fun k hk hm => by rw [heap_setCell_other _ _ _ _ (by omega)]; exact h.block k hk hm⟩

theorem RR.lift {w : World} {N : Nat} {v : Value} {l : List Iv} {us : List Value} (h : RR w N v l us) {M : Nat} (hM : M ≤ N) : RR w M v l us :=
  ⟨own_base h.out hM, fun j x u hx hu => own_base (h.inn j x u hx hu) hM, h.dj⟩

set_option maxHeartbeats 1600000 in
set_option maxRecDepth 1000000 in
theorem FI_C (a b : List UInt8) (ha : a.length ≤ 2 ^ 40) (hb : b.length ≤ 2 ^ 40) (w : World) :
    Calls Try.prog i_impl_FixedIntervals #[.agg #[.string (bs a), .string (bs b)]] w (FIpost w (isPair a b) (fiV a b)) := by
  have hc := fun w => pairOf_C a b ha hb w
  have HC := Lib.hid hc
  clear hc ha hb
  unfold fiV
  cases hp : isPair a b
  · rw [hp] at HC
    clear hp
    go_enter Try.func12, Try.ntmps12
    go_wp2_with (fail)
    refine (HC.out _).mono ?_
    rintro e w1 ⟨v1, v2, rfl, hf1, hB⟩
    have HF1 := Lib.hid hf1
    clear hf1 hB
    go_wp2_with (fail)
    go_ret2
    exact ⟨_, [], rfl, (((Fr.refl' w).alloc' _).trans' HF1.out).alloc' _ , RR.nil _ _⟩
  · rw [hp] at HC
    have hq := isPair_trees hp
    have HQ := Lib.hid hq
    clear hp hq
    go_enter Try.func12, Try.ntmps12
    go_wp2_with (fail)
    refine (HC.out _).mono ?_
    rintro e w1 ⟨v1, v2, rfl, hf1, hB⟩
    have HF1 := Lib.hid hf1
    have HB := Lib.hid hB
    clear hf1 hB
    go_wp2_with (fail)
    obtain ⟨B, hB⟩ := HB.out
    clear HB
    have HB := Lib.hid hB
    clear hB
    refine (fixed_RR (treeOf a, treeOf b) ?_ ?_ _ B _ ?_).mono ?_
    · exact HQ.out.2.2.1
    · exact HQ.out.2.2.2.2
    · exact HB.out.fr ((Fr.refl' w1).alloc' _)
    rintro e w2 ⟨v, us, rfl, hf2, hr⟩
    have HF2 := Lib.hid hf2
    have HR := Lib.hid hr
    clear hf2 hr
    go_wp2_with (fail)
    go_ret2
    have hf := ((((Fr.refl' w).alloc' _).trans' HF1.out).alloc' _).trans' HF2.out
    exact ⟨v, us, rfl, hf, HR.out.lift (by have := (((Fr.refl' w).alloc' (.cells #[.string (bs a), .string (bs b)] 27)).trans' HF1.out).size; simp; omega)⟩

end Go.AI
