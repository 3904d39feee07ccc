/- Walk by hand: all intervals that are moved; rows of the call's own. -/
import Derived.Test.YtlkjnlhpdjbjdaaCwO
set_option autoImplicit false
set_option maxRecDepth 100000
set_option linter.unusedVariables false
namespace Go.AI
open Go.Proofs Go.RowKit

/-- The loop's relation. -/
structure VRel (w w1 : World) (L : List Iv) (vl : Value) (ul : List Value) (k : Nat) (vo : Value) (wr : World) (uo : List Value) : Prop where
  one : 1 ≤ k
  le : k ≤ L.length ∨ k = 1
  fr : Fr w [] wr
  fr1 : Fr w1 [] wr
  ll : RR wr w.heap.size vl L ul
  oo : RR wr w1.heap.size vo (mvL (L.take k)) uo

def VRelX (w w1 : World) (L : List Iv) (vl : Value) (ul : List Value) (vo i : Value) (wr : World) : Prop := ∃ (k : Nat) (uo : List Value), i = .int .i64 k ∧ VRel w w1 L vl ul k vo wr uo

def VPost (w : World) (l : List Iv) (e : Ending) (w' : World) : Prop := ∃ (v : Value) (us : List Value), e = .returned v ∧ Fr w [] w' ∧ RR w' w.heap.size v l us

theorem take1 (L : List Iv) : mvL (L.take 1) = [] := by
  cases L with
  | nil => rfl
  | cons x r => rfl

theorem RR.push' {w W w5 : World} {N : Nat} {v : Value} {l : List Iv} {us : List Value} (h : RR w N v l us) {ur : Value} {x : Iv} {g5 cap5 : Nat} (hf : Fr w [] W) (hN : N ≤ w.heap.size) (hu : W.ownsRow w.heap.size t_impl_Ratio 2 ur 2 (ivC x))
    (hown : w5.ownsRow N t_Simpl_Ratio 1 (.slice (some ⟨g5, 0, none⟩) (l.length + 1) cap5) (l.length + 1) (us ++ [ur])) (hg : W.grownBy w5 v.ownBlock) (ha : v.ownBlock = some g5 ∨ g5 = W.heap.size) :
    RR w5 N (.slice (some ⟨g5, 0, none⟩) (l.length + 1) cap5) (l ++ [x]) (us ++ [ur]) := by
  have hW := h.fr hf
  obtain ⟨bu, capu, curu, rfl, hbu, hbk, _⟩ := own2 hu
  refine hW.push x (own_base hu hN) (fun y hy he => ?_) hown hg ?_
  · have := (h.blocks y hy bu he).2
    omega
  · rcases ha with ha | ha
    · exact .inl ha.symm
    · exact .inr ⟨g5, rfl, by omega⟩

theorem row2_new (w : World) (a b c d : Int) (o : Obj) : ((w.alloc (.cells #[.int .i64 a, .int .i64 b, .int .i64 c, .int .i64 d] t_impl_Ratio)).alloc o).ownsRow w.heap.size t_impl_Ratio 2 (.slice (some ⟨w.heap.size, 0, none⟩) 2 2) 2 (ivC ((a, b), (c, d))) := by
  refine ⟨rfl, .inr ⟨w.heap.size, 2, #[.int .i64 a, .int .i64 b, .int .i64 c, .int .i64 d], rfl, Nat.le_refl _, ?_, Nat.le_refl _, by unfold maxLen; omega, rfl, rfl⟩⟩
  rw [heap_alloc_old _ _ (by simp)]
  exact heap_alloc_new _ _

set_option maxHeartbeats 3200000 in
set_option maxRecDepth 1000000 in
theorem moved_any (p : Tr × Tr) (h1 : p.1.c ≤ 8) (h2 : p.1.c = p.2.c) (w : World) (B : Nat → Prop) (v1 v2 : Value) (hr : ∀ w' : World, Fr w [] w' → RepV w' B (.pr .tree .tree) p (.agg #[v1, v2])) :
    Calls Try.prog i_impl_pair_moved #[.agg #[v1, v2]] w (VPost w (mvP p)) := by
  have hfx := fixed_RR p h1 h2 (w.alloc (.cells #[v1, v2] 49)) B _ (hr _ ((Fr.refl' w).alloc' _))
  have hlen : (fxL p).length ≤ 9 := by have := fxL_len p; rw [adL_len] at this; omega
  obtain ⟨i0, hi, hz0, hz1, hz2⟩ := info_parts Try.info43'
  show Calls Try.prog _ _ _ (VPost w (mvL (fxL p)))
  generalize fxL p = L at *
  clear hr h1 h2
  go_enter Try.func28, Try.ntmps28
  go_wp2_with (fail)
  refine hfx.mono ?_
  clear hfx
  rintro e w1 ⟨vl, ul, rfl, hf, hr⟩
  have HF := Lib.hid (((Fr.refl' w).alloc' (.cells #[v1, v2] 49)).trans' hf)
  have HR := Lib.hid (hr.lift (M := w.heap.size) (by simp))
  clear hf hr
  obtain ⟨al, capl, hvl⟩ : ∃ al capl, vl = .slice al L.length capl := by
    rcases HR.out.out.2 with ⟨h, h2⟩ | ⟨g, cap, cur, h, _⟩
    · exact ⟨none, 0, by rw [h, h2]⟩
    · exact ⟨_, _, h⟩
  subst hvl
  go_wp2_with (fail)
  go_loopw [3, 5] (fun vo i wr => VRelX w w1 L (.slice al L.length capl) ul vo i wr) (fun _ i _ => L.length - (intOf i).toNat)
  case atStart => exact ⟨1, [], rfl, by omega, .inr rfl, HF.out, Fr.refl' _, HR.out, by rw [take1]; exact RR.nil _ _⟩
  case round =>
    obtain ⟨k, uo, rfl, hR⟩ := hrel
    have hk1 := hR.one
    by_cases hlt : k < L.length
    · obtain ⟨j, rfl⟩ : ∃ j, k = j + 1 := ⟨k - 1, by omega⟩
      have hll := hR.ll
      have hul := hll.len
      have hout := hll.out
      obtain ⟨gl, curl, rfl, hgl, hglk, hglc⟩ : ∃ gl curl, al = some ⟨gl, 0, none⟩ ∧ w.heap.size ≤ gl ∧ wr.heap[gl]? = some (.cells curl t_Simpl_Ratio (0, 0)) ∧ ∀ q, q < L.length → curl[q]? = ul[q]? := by
        rcases hout.2 with ⟨_, h⟩ | ⟨g1, cap1, cur1, h, ha, hb, _, _, _, hc⟩
        · omega
        · cases h
          refine ⟨g1, cur1, rfl, ha, hb, fun q hq => ?_⟩
          rw [← hc, List.getElem?_take, if_pos (by omega), Array.getElem?_toList]
      obtain ⟨x0, hx0⟩ : ∃ x, L[j]? = some x := ⟨_, List.getElem?_eq_getElem (by omega)⟩
      obtain ⟨x1, hx1⟩ : ∃ x, L[j + 1]? = some x := ⟨_, List.getElem?_eq_getElem (by omega)⟩
      obtain ⟨u0, hu0⟩ : ∃ x, ul[j]? = some x := ⟨_, List.getElem?_eq_getElem (by omega)⟩
      obtain ⟨u1, hu1⟩ : ∃ x, ul[j + 1]? = some x := ⟨_, List.getElem?_eq_getElem (by omega)⟩
      have e0 := hll.inn j _ _ hx0 hu0
      have e1 := hll.inn (j + 1) _ _ hx1 hu1
      have q0 : wr.cell? ⟨gl, j, none⟩ = some u0 := by rw [cell_of_row wr gl _ _ _ (0, 0) hglk, hglc j (by omega)]; exact hu0
      have q1 : wr.cell? ⟨gl, j + 1, none⟩ = some u1 := by rw [cell_of_row wr gl _ _ _ (0, 0) hglk, hglc (j + 1) (by omega)]; exact hu1
      have dl0 := List.mem_of_getElem? hu0
      have dl1 := List.mem_of_getElem? hu1
      obtain ⟨b0, cp0, cu0, rfl, kb0, hbk0, _, _, z0, z1⟩ := own2 e0
      obtain ⟨b1, cp1, cu1, rfl, kb1, hbk1, y0, y1, _, _⟩ := own2 e1
      have p0 : wr.cell? ⟨b0, 2, none⟩ = some (.int .i64 x0.2.1) := by rw [cell_of_row wr b0 _ _ _ (0, 0) hbk0]; exact z0
      have p1 : wr.cell? ⟨b0, 3, none⟩ = some (.int .i64 x0.2.2) := by rw [cell_of_row wr b0 _ _ _ (0, 0) hbk0]; exact z1
      have p2 : wr.cell? ⟨b1, 0, none⟩ = some (.int .i64 x1.1.1) := by rw [cell_of_row wr b1 _ _ _ (0, 0) hbk1]; exact y0
      have p3 : wr.cell? ⟨b1, 1, none⟩ = some (.int .i64 x1.1.2) := by rw [cell_of_row wr b1 _ _ _ (0, 0) hbk1]; exact y1
      have n1 : IntKind.i64.wrap ((j : Int) + 1 - 1) = (j : Int) := by rw [w64 (by omega) (by omega)]; omega
      have n2 : IntKind.i64.wrap ((j : Int)) = (j : Int) := by rw [w64 (by omega) (by omega)]
      have n3 : (0 : Int) ≤ (j : Int) := by omega
      have n4 : (j : Int) < (L.length : Int) := by omega
      have n5 : (0 : Int) ≤ (j : Int) + 1 := by omega
      have n6 : (j : Int) + 1 < (L.length : Int) := by omega
      have ht := mvL_take L j (by omega)
      rw [(List.getElem?_eq_some_iff.1 hx0).2, (List.getElem?_eq_some_iff.1 hx1).2] at ht
      have HT := Lib.hid ht
      have HD0 := Lib.hid dl0
      have HD1 := Lib.hid dl1
      have HRel := Lib.hid hR
      clear hR hout hglk hglc hx0 hx1 hu0 hu1 e0 e1 dl0 dl1 hbk0 hbk1 z0 z1 y0 y1 ht hll hul
      have fb : ∀ y ∈ (Value.slice (some ⟨gl, 0, none⟩) L.length capl) :: ul, ∀ b, y.ownBlock = some b → u3.ownBlock ≠ some b := fun y hy b hb e => by
        have k1 := (HR.out.blocks y hy b hb).2
        have k2 := (HRel.out.oo.blocks u3 (by simp) b e).1
        omega
      have ag : u3.ownBlock ≠ some gl := fb (.slice (some ⟨gl, 0, none⟩) L.length capl) (by simp) gl rfl
      have a0 : u3.ownBlock ≠ some b0 := fb (.slice (some ⟨b0, 0, none⟩) 2 cp0) (List.mem_cons_of_mem _ HD0.out) b0 rfl
      have a1 : u3.ownBlock ≠ some b1 := fb (.slice (some ⟨b1, 0, none⟩) 2 cp1) (List.mem_cons_of_mem _ HD1.out) b1 rfl
      have lg := World.block_lt_of_cell? wr _ q0
      have l0 := World.block_lt_of_cell? wr _ p0
      have l1 := World.block_lt_of_cell? wr _ p2
      simp only at lg l0 l1
      have hmv := mvL_len (L.take (j + 1))
      rw [List.length_take] at hmv
      have hbase := HRel.out.fr1.size
      have hown : ∀ w' : World, Fr wr [] w' → w'.ownsRow w1.heap.size t_Simpl_Ratio 1 u3 (mvL (L.take (j + 1))).length uo := fun w' hf => (HRel.out.oo.fr hf).out
      have HOWN := Lib.hid hown
      have HFB := Lib.hid fb
      clear hown fb
      generalize hM : (mvL (L.take (j + 1))).length = M at *
      have hM9 : M ≤ 9 := by omega
      have HM := Lib.hid hM
      have HMV := Lib.hid hmv
      clear hM hmv
      go_wp2_with (fail)
      go_region_held3 (fun w' => w'.cell? ⟨gl, j, none⟩ = some (.slice (some ⟨b0, 0, none⟩) 2 cp0) ∧ w'.cell? ⟨gl, j + 1, none⟩ = some (.slice (some ⟨b1, 0, none⟩) 2 cp1) ∧ w'.cell? ⟨b0, 2, none⟩ = some (.int .i64 x0.2.1) ∧ w'.cell? ⟨b0, 3, none⟩ = some (.int .i64 x0.2.2) ∧ w'.cell? ⟨b1, 0, none⟩ = some (.int .i64 x1.1.1) ∧ w'.cell? ⟨b1, 1, none⟩ = some (.int .i64 x1.1.2))
        (first
          | go_keep
          | (go_split_ands
             refine ⟨?_, ?_, ?_, ?_, ?_, ?_⟩
             · (rw [hgrow.cell_far _ (by simp; omega) (Ne.symm ag)]; assumption)
             · (rw [hgrow.cell_far _ (by simp; omega) (Ne.symm ag)]; assumption)
             · (rw [hgrow.cell_far _ (by simp; omega) (Ne.symm a0)]; assumption)
             · (rw [hgrow.cell_far _ (by simp; omega) (Ne.symm a0)]; assumption)
             · (rw [hgrow.cell_far _ (by simp; omega) (Ne.symm a1)]; assumption)
             · (rw [hgrow.cell_far _ (by simp; omega) (Ne.symm a1)]; assumption)))
        ((refine step_append_lies _ (by rfl) _ _ _ (by rfl) w1.heap.size t_Simpl_Ratio i0 _ 1 24 Try.underlying30 hi hz0 hz1 hz2 rfl (by omega) u3 M uo (by rfl) (HOWN.out _ (by first | exact (((Fr.refl' wr).alloc' _).alloc' _).drew' | exact (((Fr.refl' wr).drew').alloc' _).alloc' _ | exact (((Fr.refl' wr).alloc' _).drew').alloc' _))
            ⟨wr.heap.size + 1, 0, none⟩ 1 1 [.slice (some ⟨wr.heap.size, 0, none⟩) 2 2] (by rfl) (by rfl) (fun k u hk => by match k, hk with | 0, hk => simp at hk; subst hk; simp [Addr.add]) (by simp [Value.oneCell'])
            (by omega) (by unfold maxLen; omega) (by omega) (by simp; omega) (wr.heap.size + 2) (by simp) ?_; intro gg cap w5 hown5 hgrow hat hlt5))
      have HH := Lib.hid (And.intro hown5 (And.intro hgrow hat))
      clear hown5 hgrow hat hlt5
      go_wp2_with (fail)
      go_roundw
      case rel =>
        obtain ⟨hown5, hgrow, hat⟩ := HH.out
        have hFW := (((Fr.refl' wr).alloc' (.cells #[.int .i64 x0.2.1, .int .i64 x0.2.2, .int .i64 x1.1.1, .int .i64 x1.1.2] t_impl_Ratio)).alloc' (.cells #[.slice (some ⟨wr.heap.size, 0, none⟩) 2 2] t_Simpl_Ratio)).drew'
        have hu := row2_new wr x0.2.1 x0.2.2 x1.1.1 x1.1.2 (.cells #[.slice (some ⟨wr.heap.size, 0, none⟩) 2 2] t_Simpl_Ratio)
        have hoo := HRel.out.oo
        have hMl := HM.out
        have hp := hoo.push' hFW HRel.out.fr1.size (x := (x0.2, x1.1)) (ur := .slice (some ⟨wr.heap.size, 0, none⟩) 2 2) (g5 := gg) (cap5 := cap) hu (by rw [hMl]; exact hown5) hgrow (by simpa using hat)
        rw [hMl, ← HT.out] at hp
        have hf5 : ∀ w0 : World, Fr w0 [] wr → w0.heap.size ≤ w1.heap.size → Fr w0 [] w5 := fun w0 h0 hle => (h0.trans' hFW).grown' hgrow fun b hb => by
          have := (hoo.blocks u3 (by simp) b hb).1
          omega
        have hll : RR w5 w.heap.size (.slice (some ⟨gl, 0, none⟩) L.length capl) L ul := by
          refine (HRel.out.ll.fr hFW).keep fun y hy b hb => hgrow.block b ((HRel.out.ll.fr hFW).blocks y hy b hb).2 fun e => ?_
          exact HFB.out y hy b hb e.symm
        refine ⟨j + 2, uo ++ [.slice (some ⟨wr.heap.size, 0, none⟩) 2 2], by go_num, by omega, .inl (by omega), hf5 w HRel.out.fr HF.out.size, hf5 w1 HRel.out.fr1 (Nat.le_refl _), hll, hp⟩
      case measure => simp [intOf]; omega
    · have HRel := Lib.hid hR
      clear hR
      go_wp2_with (fail)
      go_ret
      have h := HRel.out
      have hoo := h.oo
      rw [show mvL (L.take k) = mvL L by
        rcases h.le with h | h
        · rw [List.take_of_length_le (by omega)]
        · subst h
          rw [take1]
          cases L with
          | nil => rfl
          | cons x r => cases r with
            | nil => rfl
            | cons y r => simp at hlt] at hoo
      exact ⟨_, uo, rfl, h.fr, hoo.lift HF.out.size⟩

def miV (a b : List UInt8) : List Iv := if isPair a b then mvP (treeOf a, treeOf b) else []

theorem moved_V (p : PT) (h1 : p.1.c ≤ 8) (h2 : p.1.c = p.2.c) (w : World) (B : Nat → Prop) (u : Value) (hu : RepV w B (.pr .tree .tree) p u) :
    Calls Try.prog i_impl_pair_moved #[u] w fun e w' => ∃ (v : Value) (us : List Value), e = .returned v ∧ Fr w [] w' ∧ RR w' w.heap.size v (mvP p) us := by
  obtain ⟨v1, v2, rfl⟩ := pair_agg hu
  exact moved_any p h1 h2 w B v1 v2 fun w' hf => hu.fr hf

set_option maxHeartbeats 1600000 in
set_option maxRecDepth 1000000 in
theorem MI_C (a b : List UInt8) (ha : a.length ≤ 2 ^ 40) (hb : b.length ≤ 2 ^ 40) (w : World) :
    Calls Try.prog i_impl_MovedIntervals #[.agg #[.string (bs a), .string (bs b)]] w (FIpost w (isPair a b) (miV a b)) := by
  have hc := fun w => pairOf_C a b ha hb w
  have HC := Lib.hid hc
  clear hc ha hb
  unfold miV
  cases hp : isPair a b
  · rw [hp] at HC
    clear hp
    go_enter Try.func17, Try.ntmps17
    go_wp2_with (fail)
    refine (HC.out _).mono ?_
    rintro e w1 ⟨v1, v2, rfl, hf1, hB⟩
    have HF1 := Lib.hid hf1
    clear hf1 hB
    go_wp2_with (fail)
    go_ret2
    exact ⟨_, [], rfl, (((Fr.refl' w).alloc' _).trans' HF1.out).alloc' _ , RR.nil _ _⟩
  · rw [hp] at HC
    have hq := isPair_trees hp
    have HQ := Lib.hid hq
    clear hp hq
    go_enter Try.func17, Try.ntmps17
    go_wp2_with (fail)
    refine (HC.out _).mono ?_
    rintro e w1 ⟨v1, v2, rfl, hf1, hB⟩
    have HF1 := Lib.hid hf1
    have HB := Lib.hid hB
    clear hf1 hB
    go_wp2_with (fail)
    obtain ⟨B, hB⟩ := HB.out
    clear HB
    have HB := Lib.hid hB
    clear hB
    refine (moved_V (treeOf a, treeOf b) ?_ ?_ _ B _ ?_).mono ?_
    · exact HQ.out.2.2.1
    · exact HQ.out.2.2.2.2
    · exact HB.out.fr ((Fr.refl' w1).alloc' _)
    rintro e w2 ⟨v, us, rfl, hf2, hr⟩
    have HF2 := Lib.hid hf2
    have HR := Lib.hid hr
    clear hf2 hr
    go_wp2_with (fail)
    go_ret2
    have hf := ((((Fr.refl' w).alloc' _).trans' HF1.out).alloc' _).trans' HF2.out
    exact ⟨v, us, rfl, hf, HR.out.lift (by have := (((Fr.refl' w).alloc' (.cells #[.string (bs a), .string (bs b)] 27)).trans' HF1.out).size; simp; omega)⟩

theorem specMI_SC (a b : List UInt8) (ha : a.length ≤ 2 ^ 40) (hb : b.length ≤ 2 ^ 40) : SC cfg.P i_spec_MovedIntervals [.s (.v (.pr .str .str) (bs a, bs b))] (.tup [.own t_Simpl_Ratio (.sl RK) (ivL (miV a b)), .v .bool (isPair a b)]) [] := by
  have h := prGood_SC a b ha hb
  unfold miV
  cases c : isPair a b
  · rw [c] at h
    exact spec_MovedIntervals_p2 _ h
  · rw [c] at h
    obtain ⟨a1, a2, a3, a4, a5⟩ := isPair_trees c
    have hM := obMoved_SC (treeOf a, treeOf b) a3 a5
    simp only [← a1, ← a2] at hM
    exact spec_MovedIntervals_p1 _ _ h hM

theorem miV_len (a b : List UInt8) : (miV a b).length ≤ 2 ^ 30 := by
  unfold miV
  split
  · rename_i c
    obtain ⟨a1, a2, a3, a4, a5⟩ := isPair_trees c
    exact mvP_len _ a3
  · simp

end Go.AI
