/- What contracts say, for the walks of two laws. -/
import Derived.Test.YtlkjnlhpdjbjdaaCwN
import Derived.Test.YtlkjnlhpdjbjdaaCmv
import Derived.Test.YtlkjnlhpdjbjdaaGD
set_option autoImplicit false
set_option maxRecDepth 100000
set_option linter.unusedVariables false
namespace Go.AI
open Go.Proofs Go.RowKit

theorem flat1 {w' : World} {B : Nat → Prop} {k : IntKind} {x : Int} {v : Value} (h : RepV w' B (.int k) x v) : v = .int k x := by
  obtain ⟨cs, hcs, rfl⟩ := h
  have : cs = [.int k x] := hcs
  subst this
  rfl

theorem flatB {w' : World} {B : Nat → Prop} {x : Bool} {v : Value} (h : RepV w' B .bool x v) : v = .bool x := by
  obtain ⟨cs, hcs, rfl⟩ := h
  have : cs = [.bool x] := hcs
  subst this
  rfl

theorem szPair_C (x y : ByteArray) (c : Int) (hS : SC cfg.P i_laws_szPair [.s (.v (.pr .str .str) (x, y)), .s (.v (.int .i64) (1048576 : Int))] (.s (.v (.int .i64) c)) []) (w : World) :
    Calls Try.prog i_laws_szPair #[.agg #[.string x, .string y], .int .i64 1048576] w fun e w' => e = .returned (.int .i64 c) ∧ Fr w [] w' := by
  refine (hS.2 w (fun _ => False) [.agg #[.string x, .string y], .int .i64 1048576] [] (fun _ _ v hv => by cases hv) List.Pairwise.nil ⟨_, _, rfl, RepV.mk_ss _ _, _, [], rfl, ⟨[.int .i64 1048576], rfl, rfl⟩, rfl, rfl⟩).mono ?_
  rintro e w' ⟨v, os, he, hf, _, _, ⟨hv, _⟩, _⟩
  rw [flat1 hv] at he
  exact ⟨he, hf⟩

theorem toPair_C (x y : ByteArray) (w : World) : Calls Try.prog i_laws_toPair #[.agg #[.string x, .string y]] w fun e w' => e = .returned (.agg #[.string x, .string y]) ∧ Fr w [] w' := by
  refine ((laws_toPair_p1 (x, y)).2 w (fun _ => False) [.agg #[.string x, .string y]] [] (fun _ _ v hv => by cases hv) List.Pairwise.nil ⟨_, _, rfl, RepV.mk_ss _ _, rfl, rfl⟩).mono ?_
  rintro e w' ⟨v, os, he, hf, _, _, ⟨⟨cs, ⟨c1, c2, rfl, h1, h2⟩, rfl⟩, _⟩, _⟩
  have e1 : c1 = [.string x] := h1
  have e2 : c2 = [.string y] := h2
  subst e1 e2
  exact ⟨he, hf⟩

abbrev SSK : Kd := .sl (.sl RK)

theorem rep_lt {w : World} {B : Nat → Prop} {k : Kd} {x : k.ty} {v : Value} (h : RepV w B k x v) : RepV w (fun b => b < w.heap.size) k x v := RepV.keep ⟨fun b _ hl => ⟨hl, rfl⟩⟩ h
theorem rep_top {w : World} {B : Nat → Prop} {k : Kd} {x : k.ty} {v : Value} (h : RepV w B k x v) : RepV w (fun _ => True) k x v := RepV.keep ⟨fun b _ hl => ⟨trivial, rfl⟩⟩ h

/-- Kept by what turns newer blocks alone. -/
theorem rep_keepS {w w' : World} {M : Nat} {S : List Value} {k : Kd} {x : k.ty} {v : Value} (h : RepV w (fun b => b < M) k x v) (hf : Fr w S w') (hS : ∀ u ∈ S, ∀ b, blk u = some b → M ≤ b) : RepV w' (fun b => b < M) k x v :=
  RepV.keep ⟨fun b hb hl => ⟨hb, hf.block b hl fun u hu e => by have := hS u hu b e; omega⟩⟩ h

theorem specTup_C {f : FuncId} (x y : ByteArray) (l : List Iv) (ok : Bool) (hS : SC cfg.P f [.s (.v (.pr .str .str) (x, y))] (.tup [.own t_Simpl_Ratio (.sl RK) (ivL l), .v .bool ok]) []) (w : World) :
    Calls Try.prog f #[.agg #[.string x, .string y]] w fun e w' => ∃ v, e = .returned (.tuple #[v, .bool ok]) ∧ Fr w [] w' ∧ RepV w' (fun b => b < w'.heap.size) SSK (ivL l) v := by
  refine (hS.2 w (fun _ => False) [.agg #[.string x, .string y]] [] (fun _ _ v hv => by cases hv) List.Pairwise.nil ⟨_, _, rfl, RepV.mk_ss _ _, rfl, rfl⟩).mono ?_
  rintro e w' ⟨v, os, he, hf, _, _, ⟨vs, rfl, hres⟩, _⟩
  obtain ⟨u, us, o1, o2, rfl, rfl, ⟨hown, _⟩, u2, us2, o3, o4, rfl, rfl, ⟨hb, _⟩, rfl, rfl⟩ := hres
  rw [flatB hb] at he
  exact ⟨u, he, hf, rep_lt (OwnRow.view hown (B' := fun _ => True) (fun _ _ => trivial) (fun _ _ => trivial))⟩

theorem eqSS_C (l : List Iv) (hl : l.length ≤ 2 ^ 30) (w : World) (u v : Value) (h1 : RepV w (fun _ => True) SSK (ivL l) u) (h2 : RepV w (fun _ => True) SSK (ivL l) v) :
    Calls Try.prog i_laws_eqRatioSS #[u, v] w fun e w' => e = .returned (.bool true) ∧ Fr w [] w' := by
  refine ((eqRatioSS_SC l hl).2 w (fun _ => True) [u, v] [] (fun _ _ v hv => by cases hv) List.Pairwise.nil ⟨_, _, rfl, h1, _, _, rfl, h2, rfl, rfl⟩).mono ?_
  rintro e w' ⟨v, os, he, hf, _, _, ⟨hv, _⟩, _⟩
  rw [flatB hv] at he
  exact ⟨he, hf⟩

theorem heldSS_C (n : Nat) (hn : n ≤ 2 ^ 30) (w : World) (u : Value) (h1 : RepV w (fun _ => True) SSK (ivL (mkRows 1 n)) u) :
    Calls Try.prog i_laws_heldRatioSS #[u, .int .i64 1] w fun e w' => e = .returned (.int .i64 ((1 + 4 * n : Nat) : Int)) ∧ Fr w [] w' := by
  refine ((heldRatioSS_SC n hn).2 w (fun _ => True) [u, .int .i64 1] [] (fun _ _ v hv => by cases hv) List.Pairwise.nil ⟨_, _, rfl, h1, _, [], rfl, ⟨[.int .i64 1], rfl, rfl⟩, rfl, rfl⟩).mono ?_
  rintro e w' ⟨v, os, he, hf, _, _, ⟨hv, _⟩, _⟩
  rw [flat1 hv] at he
  exact ⟨he, hf⟩

theorem RR.rep {w : World} {N : Nat} {v : Value} {l : List Iv} {us : List Value} (h : RR w N v l us) : RepV w (fun _ => True) SSK (ivL l) v :=
  OwnRow.view (h.view (B := fun _ => True) (fun _ _ _ => trivial)) (fun _ _ => trivial) (fun _ _ => trivial)

/-- The parameter's box. -/
def BoxIn (w : World) (b : Nat) (x y : ByteArray) : Prop := w.heap[b]? = some (.cells #[.string x, .string y] 23 (0, 0))

theorem BoxIn.lt {w : World} {b : Nat} {x y : ByteArray} (h : BoxIn w b x y) : b < w.heap.size := (Array.getElem?_eq_some_iff.1 h).1
theorem BoxIn.c0 {w : World} {b : Nat} {x y : ByteArray} (h : BoxIn w b x y) : w.cell? ⟨b, 0, none⟩ = some (.string x) := by rw [cell_of_row w b 0 _ _ (0, 0) h]; rfl
theorem BoxIn.c1 {w : World} {b : Nat} {x y : ByteArray} (h : BoxIn w b x y) : w.cell? ⟨b, 1, none⟩ = some (.string y) := by rw [cell_of_row w b 1 _ _ (0, 0) h]; rfl
theorem BoxIn.fr {w w' : World} {b : Nat} {x y : ByteArray} (h : BoxIn w b x y) {S : List Value} (hf : Fr w S w') (hS : ∀ u ∈ S, ∀ c, blk u = some c → b < c) : BoxIn w' b x y := by
  unfold BoxIn
  rw [hf.block b h.lt fun u hu e => by have := hS u hu b e; omega]
  exact h

theorem specFI_SC (a b : List UInt8) (ha : a.length ≤ 2 ^ 40) (hb : b.length ≤ 2 ^ 40) : SC cfg.P i_spec_FixedIntervals [.s (.v (.pr .str .str) (bs a, bs b))] (.tup [.own t_Simpl_Ratio (.sl RK) (ivL (fiV a b)), .v .bool (isPair a b)]) [] := by
  have h := prGood_SC a b ha hb
  unfold fiV
  cases c : isPair a b
  · rw [c] at h
    exact spec_FixedIntervals_p2 _ h
  · rw [c] at h
    obtain ⟨a1, a2, a3, a4, a5⟩ := isPair_trees c
    have hM := obFixed_SC (treeOf a, treeOf b) a3 a5
    simp only [← a1, ← a2] at hM
    exact spec_FixedIntervals_p1 _ _ h hM

theorem fiV_len (a b : List UInt8) : (fiV a b).length ≤ 2 ^ 30 := by
  unfold fiV
  split
  · rename_i c
    obtain ⟨a1, a2, a3, a4, a5⟩ := isPair_trees c
    have := fxL_len (treeOf a, treeOf b)
    rw [adL_len] at this
    simp only at this
    omega
  · simp

/-- Kept but for rows of a call's own: what has been made before stays. -/
theorem us_ge {w : World} {N : Nat} {v : Value} {l : List Iv} {us : List Value} (h : RR w N v l us) : ∀ u ∈ us, ∀ b, blk u = some b → N ≤ b := fun u hu b hb => by
  obtain ⟨j, hj, rfl⟩ := List.mem_iff_getElem.1 hu
  have hl := h.len
  have hi := h.inn j _ _ (List.getElem?_eq_getElem (by omega)) (List.getElem?_eq_getElem hj)
  rw [own_form hi] at hb
  exact (own_lt hi hb).1

end Go.AI
