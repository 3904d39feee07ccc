/- Walk by hand: a tree of the call's own that is given a place. -/
import Derived.Test.YtndnckjnnfnnnaaDoorGZ
import Derived.Test.YtndnckjnnfnnnaaDoorSIds
import Derived.Test.YtndnckjnnfnnnaaDoorCT
import Derived.WalkKit
import Derived.Deep.RegionWith
import Derived.Lib.Strings
set_option autoImplicit false
set_option linter.unusedVariables false
namespace Go.AI
open Go.Proofs

/-- A tree of one's own: its nodes' blocks. -/
inductive LT where
  | nil
  | node (b : Nat) (l r : LT)

def LT.ptr : LT → Value
  | .nil => .pointer none
  | .node b _ _ => .pointer (some ⟨b, 0, none⟩)

def LT.bl : LT → List Nat
  | .nil => []
  | .node b l r => b :: (l.bl ++ r.bl)

def LT.tr : LT → Tr
  | .nil => .leaf
  | .node _ l r => .node l.tr r.tr

def LT.In (w : World) : LT → Prop
  | .nil => True
  | .node b l r => (∃ t, w.heap[b]? = some (.cells #[l.ptr, r.ptr] t (0, 0))) ∧ l.In w ∧ r.In w

/-- A tree with a place of an address. -/
def putT : Tr → List UInt8 → Tr
  | t, [] => t
  | .leaf, c :: a => if c = 48 then .node (putT .leaf a) .leaf else .node .leaf (putT .leaf a)
  | .node l r, c :: a => if c = 48 then .node (putT l a) r else .node l (putT r a)

/-- All but these blocks are as they were. -/
structure Kp (w w' : World) (S : List Nat) : Prop where
  os : w'.os = w.os
  tape : w'.tape = w.tape
  output : w'.output = w.output
  size : w.heap.size ≤ w'.heap.size
  block : ∀ k, k < w.heap.size → k ∉ S → w'.heap[k]? = w.heap[k]?

/-- What giving a place leaves. -/
structure Wr (w w' : World) (T T' : LT) (t : Tr) : Prop where
  lies : T'.In w'
  nd : T'.bl.Nodup
  sub : ∀ b ∈ T'.bl, b ∈ T.bl ∨ w.heap.size ≤ b
  kp : Kp w w' T.bl
  tr : T'.tr = t

theorem LT.ptr_pointer (T : LT) : ∃ u, T.ptr = .pointer u := by cases T <;> exact ⟨_, rfl⟩

theorem bsl (a : List UInt8) : (bs a).toList = a := by
  rw [Lib.toList_data]; simp [bs]

theorem bse_nil : (bs []).toList.isEmpty = true := by rw [bsl]; rfl
theorem bse_cons (c : UInt8) (a : List UInt8) : (bs (c :: a)).toList.isEmpty = false := by rw [bsl]; rfl

theorem kp_refl (w : World) (S : List Nat) : Kp w w S := ⟨rfl, rfl, rfl, Nat.le_refl _, fun _ _ _ => rfl⟩

theorem LT.In_keep : ∀ {T : LT} {w w' : World}, T.In w → (∀ b ∈ T.bl, w'.heap[b]? = w.heap[b]?) → T.In w'
  | .nil, _, _, _, _ => trivial
  | .node b l r, w, w', ⟨⟨t, h⟩, hl, hr⟩, hk => ⟨⟨t, by rw [hk b (by simp [LT.bl])]; exact h⟩, LT.In_keep hl fun x hx => hk x (by simp [LT.bl, hx]), LT.In_keep hr fun x hx => hk x (by simp [LT.bl, hx])⟩

theorem LT.In_lt : ∀ {T : LT} {w : World}, T.In w → ∀ b ∈ T.bl, b < w.heap.size
  | .nil, _, _, b, hb => by simp [LT.bl] at hb
  | .node b l r, w, ⟨⟨t, h⟩, hl, hr⟩, x, hx => by
    simp only [LT.bl, List.mem_cons, List.mem_append] at hx
    rcases hx with rfl | hx | hx
    · exact (Array.getElem?_eq_some_iff.1 h).1
    · exact LT.In_lt hl x hx
    · exact LT.In_lt hr x hx

/-- The step, left. -/
theorem wr_left {w w1 : World} {b : Nat} {l r T' : LT} {t : Tr} (hin : (LT.node b l r).In w) (hnd : (LT.node b l r).bl.Nodup) (h : Wr w w1 l T' t) :
    Wr w (w1.setCell ⟨b, 0, none⟩ T'.ptr) (.node b l r) (.node b T' r) (.node t r.tr) := by
  obtain ⟨⟨ty, hb⟩, hl, hr⟩ := hin
  have hbs : b < w.heap.size := (Array.getElem?_eq_some_iff.1 hb).1
  simp only [LT.bl, List.nodup_cons, List.nodup_append, List.mem_append] at hnd
  obtain ⟨hbn, ndl, ndr, hlr⟩ := hnd
  have hb1 : w1.heap[b]? = some (.cells #[l.ptr, r.ptr] ty (0, 0)) := by rw [h.kp.block b hbs (fun x => hbn (.inl x))]; exact hb
  have hbT : b ∉ T'.bl := fun x => by
    rcases h.sub b x with y | y
    · exact hbn (.inl y)
    · omega
  have hrb : b ∉ r.bl := fun x => hbn (.inr x)
  have ho : ∀ k, k ≠ b → (w1.setCell ⟨b, 0, none⟩ T'.ptr).heap[k]? = w1.heap[k]? := fun k hk => heap_setCell_other _ _ _ _ hk
  have hrl : ∀ x ∈ r.bl, x ∉ l.bl := fun x hx hy => hlr x hy x hx rfl
  refine ⟨⟨⟨ty, ?_⟩, LT.In_keep h.lies fun x hx => ho x (fun e => hbT (e ▸ hx)), LT.In_keep hr fun x hx => ?_⟩, ?_, fun x hx => ?_, ⟨h.kp.os, h.kp.tape, h.kp.output, ?_, fun k hk hks => ?_⟩, ?_⟩
  · rw [heap_setCell_same _ _ _ _ _ _ hb1]; rfl
  · rw [ho x (fun e => hrb (e ▸ hx)), h.kp.block x (LT.In_lt hr x hx) (hrl x hx)]
  · simp only [LT.bl, List.nodup_cons, List.nodup_append, List.mem_append]
    refine ⟨fun x => x.elim hbT hrb, h.nd, ndr, fun x hx y hy e => ?_⟩
    subst e
    rcases h.sub x hx with z | z
    · exact hrl x hy z
    · have := LT.In_lt hr x hy; omega
  · simp only [LT.bl, List.mem_cons, List.mem_append] at hx ⊢
    rcases hx with rfl | hx | hx
    · exact .inl (.inl rfl)
    · rcases h.sub x hx with z | z
      · exact .inl (.inr (.inl z))
      · exact .inr z
    · exact .inl (.inr (.inr hx))
  · rw [World.size_setCell]; exact h.kp.size
  · simp only [LT.bl, List.mem_cons, List.mem_append, not_or] at hks
    rw [ho k hks.1]
    exact h.kp.block k hk hks.2.1
  · show Tr.node T'.tr r.tr = _
    rw [h.tr]

/-- The step, right. -/
theorem wr_right {w w1 : World} {b : Nat} {l r T' : LT} {t : Tr} (hin : (LT.node b l r).In w) (hnd : (LT.node b l r).bl.Nodup) (h : Wr w w1 r T' t) :
    Wr w (w1.setCell ⟨b, 1, none⟩ T'.ptr) (.node b l r) (.node b l T') (.node l.tr t) := by
  obtain ⟨⟨ty, hb⟩, hl, hr⟩ := hin
  have hbs : b < w.heap.size := (Array.getElem?_eq_some_iff.1 hb).1
  simp only [LT.bl, List.nodup_cons, List.nodup_append, List.mem_append] at hnd
  obtain ⟨hbn, ndl, ndr, hlr⟩ := hnd
  have hb1 : w1.heap[b]? = some (.cells #[l.ptr, r.ptr] ty (0, 0)) := by rw [h.kp.block b hbs (fun x => hbn (.inr x))]; exact hb
  have hbT : b ∉ T'.bl := fun x => by
    rcases h.sub b x with y | y
    · exact hbn (.inr y)
    · omega
  have hlb : b ∉ l.bl := fun x => hbn (.inl x)
  have ho : ∀ k, k ≠ b → (w1.setCell ⟨b, 1, none⟩ T'.ptr).heap[k]? = w1.heap[k]? := fun k hk => heap_setCell_other _ _ _ _ hk
  have hrl : ∀ x ∈ l.bl, x ∉ r.bl := fun x hx hy => hlr x hx x hy rfl
  refine ⟨⟨⟨ty, ?_⟩, LT.In_keep hl fun x hx => ?_, LT.In_keep h.lies fun x hx => ho x (fun e => hbT (e ▸ hx))⟩, ?_, fun x hx => ?_, ⟨h.kp.os, h.kp.tape, h.kp.output, ?_, fun k hk hks => ?_⟩, ?_⟩
  · rw [heap_setCell_same _ _ _ _ _ _ hb1]; rfl
  · rw [ho x (fun e => hlb (e ▸ hx)), h.kp.block x (LT.In_lt hl x hx) (hrl x hx)]
  · simp only [LT.bl, List.nodup_cons, List.nodup_append, List.mem_append]
    refine ⟨fun x => x.elim hlb hbT, ndl, h.nd, fun x hx y hy e => ?_⟩
    subst e
    rcases h.sub x hy with z | z
    · exact hrl x hx z
    · have := LT.In_lt hl x hx; omega
  · simp only [LT.bl, List.mem_cons, List.mem_append] at hx ⊢
    rcases hx with rfl | hx | hx
    · exact .inl (.inl rfl)
    · exact .inl (.inr (.inl hx))
    · rcases h.sub x hx with z | z
      · exact .inl (.inr (.inr z))
      · exact .inr z
  · rw [World.size_setCell]; exact h.kp.size
  · simp only [LT.bl, List.mem_cons, List.mem_append, not_or] at hks
    rw [ho k hks.1]
    exact h.kp.block k hk hks.2.2
  · show Tr.node l.tr T'.tr = _
    rw [h.tr]

theorem Wr.undrew {w w1 : World} {T T' : LT} {t : Tr} (h : Wr w.drew w1 T T' t) : Wr w w1 T T' t :=
  ⟨h.lies, h.nd, h.sub, ⟨h.kp.os, h.kp.tape, h.kp.output, h.kp.size, h.kp.block⟩, h.tr⟩

theorem bs_tail (c : UInt8) (a : List UInt8) : (bs (c :: a)).extract 1 (bs (c :: a)).size = bs a := by
  rw [bs_size, bs_extract]
  congr 1
  simp

theorem bs_head (c : UInt8) (a : List UInt8) (h : 0 < (bs (c :: a)).size) : (bs (c :: a))[0] = c := rfl

theorem Wr.fresh {w w2 : World} {ty : TypeId} {T' : LT} {t : Tr} (h : Wr (w.alloc (.cells #[.pointer none, .pointer none] ty)) w2 (.node w.heap.size .nil .nil) T' t) : Wr w w2 .nil T' t := by
  have hs : (w.alloc (.cells #[.pointer none, .pointer none] ty)).heap.size = w.heap.size + 1 := by show (w.heap.push _).size = _; exact Array.size_push ..
  refine ⟨h.lies, h.nd, fun b hb => .inr ?_, ⟨h.kp.os, h.kp.tape, h.kp.output, ?_, fun k hk _ => ?_⟩, h.tr⟩
  · rcases h.sub b hb with x | x
    · simp only [LT.bl, List.append_nil, List.mem_singleton] at x; omega
    · omega
  · have := h.kp.size; omega
  · rw [h.kp.block k (by omega) (by simp [LT.bl]; omega)]
    exact heap_alloc_old w _ (by omega)

theorem head_eq (c : UInt8) (a : List UInt8) (t u : Tr) {h : 0 < (bs (c :: a)).size} (hc : (((bs (c :: a))[0].toNat : Int) == 48) = true) : putT (.node t u) (c :: a) = .node (putT t a) u := by
  have h1 : (c.toNat : Int) = 48 := beq_iff_eq.1 hc
  have h2 : c = 48 := UInt8.toNat_inj.1 (by show c.toNat = 48; omega)
  rw [putT, if_pos h2]

theorem head_ne (c : UInt8) (a : List UInt8) (t u : Tr) {h : 0 < (bs (c :: a)).size} (hc : (((bs (c :: a))[0].toNat : Int) == 48) = false) : putT (.node t u) (c :: a) = .node t (putT u a) := by
  have h2 : c ≠ 48 := fun e => by
    have := beq_eq_false_iff_ne.1 hc
    apply this
    show ((c.toNat : Nat) : Int) = 48
    rw [e]; rfl
  rw [putT, if_neg h2]

theorem head_nil_eq (c : UInt8) (a : List UInt8) {h : 0 < (bs (c :: a)).size} (hc : (((bs (c :: a))[0].toNat : Int) == 48) = true) : putT .leaf (c :: a) = .node (putT .leaf a) .leaf := by
  have h1 : (c.toNat : Int) = 48 := beq_iff_eq.1 hc
  have h2 : c = 48 := UInt8.toNat_inj.1 (by show c.toNat = 48; omega)
  rw [putT, if_pos h2]

theorem head_nil_ne (c : UInt8) (a : List UInt8) {h : 0 < (bs (c :: a)).size} (hc : (((bs (c :: a))[0].toNat : Int) == 48) = false) : putT .leaf (c :: a) = .node .leaf (putT .leaf a) := by
  have h2 : c ≠ 48 := fun e => by
    have := beq_eq_false_iff_ne.1 hc
    apply this
    show ((c.toNat : Nat) : Int) = 48
    rw [e]; rfl
  rw [putT, if_neg h2]

set_option maxHeartbeats 1600000 in
set_option maxRecDepth 1000000 in
theorem put_any : ∀ (a : List UInt8) (T : LT) (w : World), a.length ≤ 2 ^ 20 → T.In w → T.bl.Nodup →
    Calls Tryd.prog i_impl_node_put #[T.ptr, .string (bs a)] w fun e w' => ∃ T' : LT, e = .returned T'.ptr ∧ Wr w w' T T' (putT T.tr a) := by
  intro a
  induction a with
  | nil =>
    intro T w ha hin hnd
    obtain ⟨u, hu⟩ := LT.ptr_pointer T
    have e0 := bse_nil
    rw [hu]
    go_enter Tryd.func44, Tryd.ntmps44
    go_wp2
    go_ret
    refine ⟨T, by rw [hu]; rfl, hin, hnd, fun b hb => .inl hb, kp_refl _ _, by cases T.tr <;> rfl⟩
  | cons c a ih =>
    intro T w ha hin hnd
    have hpos : 0 < (bs (c :: a)).size := by rw [bs_size, List.length_cons]; omega
    have e0 := bse_cons c a
    have ha' : a.length ≤ 2 ^ 20 := by rw [List.length_cons] at ha; omega
    have hx := bs_tail c a
    cases T with
    | nil =>
      have hb : (w.alloc (.cells #[.pointer none, .pointer none] 89)).heap[w.heap.size]? = some (.cells #[.pointer none, .pointer none] 89 (0, 0)) := heap_alloc_new _ _
      have hbs : w.heap.size < (w.alloc (.cells #[.pointer none, .pointer none] 89)).heap.size := (Array.getElem?_eq_some_iff.1 hb).1
      have hin0 : (LT.node w.heap.size .nil .nil).In (w.alloc (.cells #[.pointer none, .pointer none] 89)) := ⟨⟨89, hb⟩, trivial, trivial⟩
      have hnd0 : (LT.node w.heap.size .nil .nil).bl.Nodup := by simp [LT.bl]
      have il := ih .nil (w.alloc (.cells #[.pointer none, .pointer none] 89)).drew ha' trivial hnd
      clear ih
      show Calls Tryd.prog _ #[.pointer none, .string (bs (c :: a))] w _
      go_enter Tryd.func44, Tryd.ntmps44
      go_wp2
      · rename_i hc
        have hc' := head_nil_eq c a hc
        clear hc
        go_region_with (first
          | (go_at_call 44
             refine il.mono ?_
             rintro e w1 ⟨T', rfl, hw⟩
             have hw2 := hw.undrew
             have hb1 : w1.heap[w.heap.size]? = some (.cells #[.pointer none, .pointer none] 89 (0, 0)) := by rw [hw2.kp.block w.heap.size hbs (by simp [LT.bl])]; exact hb
             have k0 : w1.cell? ⟨w.heap.size, 0, none⟩ = some (.pointer none) := by rw [cell_of_row w1 w.heap.size 0 _ 89 (0, 0) hb1]; rfl
             have k1 : w1.frozen? ⟨w.heap.size, 0, none⟩ = false := frozen_of_row w1 w.heap.size 0 _ 89 hb1
             have step := (wr_left hin0 hnd0 hw2).fresh
             obtain ⟨u', hu'⟩ := LT.ptr_pointer T'
             rw [hu'] at step ⊢
             clear hb1))
        all_goals
          go_wp2
          go_ret
          exact ⟨.node w.heap.size T' .nil, rfl, by show Wr _ _ _ _ (putT .leaf (c :: a)); rw [hc']; exact step⟩
      · rename_i hc
        have hc' := head_nil_ne c a hc
        clear hc
        go_region_with (first
          | (go_at_call 44
             refine il.mono ?_
             rintro e w1 ⟨T', rfl, hw⟩
             have hw2 := hw.undrew
             have hb1 : w1.heap[w.heap.size]? = some (.cells #[.pointer none, .pointer none] 89 (0, 0)) := by rw [hw2.kp.block w.heap.size hbs (by simp [LT.bl])]; exact hb
             have k0 : w1.cell? ⟨w.heap.size, 1, none⟩ = some (.pointer none) := by rw [cell_of_row w1 w.heap.size 1 _ 89 (0, 0) hb1]; rfl
             have k1 : w1.frozen? ⟨w.heap.size, 1, none⟩ = false := frozen_of_row w1 w.heap.size 1 _ 89 hb1
             have step := (wr_right hin0 hnd0 hw2).fresh
             obtain ⟨u', hu'⟩ := LT.ptr_pointer T'
             rw [hu'] at step ⊢
             clear hb1))
        all_goals
          go_wp2
          go_ret
          exact ⟨.node w.heap.size .nil T', rfl, by show Wr _ _ _ _ (putT .leaf (c :: a)); rw [hc']; exact step⟩
    | node b l r =>
      have hin0 := hin
      obtain ⟨⟨t, hb⟩, hl, hr⟩ := hin
      have hbs : b < w.heap.size := (Array.getElem?_eq_some_iff.1 hb).1
      have hnd0 := hnd
      simp only [LT.bl, List.nodup_cons, List.nodup_append, List.mem_append] at hnd0
      obtain ⟨hbn, ndl, ndr, _⟩ := hnd0
      obtain ⟨ul, hul⟩ := LT.ptr_pointer l
      obtain ⟨ur, hur⟩ := LT.ptr_pointer r
      have hb' := hb
      rw [hul, hur] at hb'
      have g0 : w.cell? ⟨b, 0, none⟩ = some (.pointer ul) := by rw [cell_of_row w b 0 _ t (0, 0) hb']; rfl
      have g1 : w.cell? ⟨b, 1, none⟩ = some (.pointer ur) := by rw [cell_of_row w b 1 _ t (0, 0) hb']; rfl
      have il := ih l w.drew ha' (LT.In_keep hl fun _ _ => rfl) ndl
      have ir := ih r w.drew ha' (LT.In_keep hr fun _ _ => rfl) ndr
      rw [hul] at il
      rw [hur] at ir
      clear ih
      show Calls Tryd.prog _ #[.pointer (some ⟨b, 0, none⟩), .string (bs (c :: a))] w _
      go_enter Tryd.func44, Tryd.ntmps44
      go_wp2
      · rename_i hc
        have hc' := head_eq c a l.tr r.tr hc
        clear hc
        go_region_with (first
          | (go_at_call 44
             refine il.mono ?_
             rintro e w1 ⟨T', rfl, hw⟩
             have hw2 := hw.undrew
             have hb1 : w1.heap[b]? = some (.cells #[l.ptr, r.ptr] t (0, 0)) := by rw [hw2.kp.block b hbs (fun x => hbn (.inl x))]; exact hb
             have k0 : w1.cell? ⟨b, 0, none⟩ = some l.ptr := by rw [cell_of_row w1 b 0 _ t (0, 0) hb1]; rfl
             have k1 : w1.frozen? ⟨b, 0, none⟩ = false := frozen_of_row w1 b 0 _ t hb1
             have step := wr_left hin0 hnd hw2
             obtain ⟨u', hu'⟩ := LT.ptr_pointer T'
             rw [hu'] at step ⊢
             clear hb1))
        all_goals
          go_wp2
          go_ret
          exact ⟨.node b T' r, rfl, by show Wr _ _ _ _ (putT (.node l.tr r.tr) (c :: a)); rw [hc']; exact step⟩
      · rename_i hc
        have hc' := head_ne c a l.tr r.tr hc
        clear hc
        go_region_with (first
          | (go_at_call 44
             refine ir.mono ?_
             rintro e w1 ⟨T', rfl, hw⟩
             have hw2 := hw.undrew
             have hb1 : w1.heap[b]? = some (.cells #[l.ptr, r.ptr] t (0, 0)) := by rw [hw2.kp.block b hbs (fun x => hbn (.inr x))]; exact hb
             have k0 : w1.cell? ⟨b, 1, none⟩ = some r.ptr := by rw [cell_of_row w1 b 1 _ t (0, 0) hb1]; rfl
             have k1 : w1.frozen? ⟨b, 1, none⟩ = false := frozen_of_row w1 b 1 _ t hb1
             have step := wr_right hin0 hnd hw2
             obtain ⟨u', hu'⟩ := LT.ptr_pointer T'
             rw [hu'] at step ⊢
             clear hb1))
        all_goals
          go_wp2
          go_ret
          exact ⟨.node b l T', rfl, by show Wr _ _ _ _ (putT (.node l.tr r.tr) (c :: a)); rw [hc']; exact step⟩

end Go.AI
