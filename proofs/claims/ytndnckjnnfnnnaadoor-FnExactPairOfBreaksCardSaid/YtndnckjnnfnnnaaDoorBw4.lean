/- Walk by hand: what is made of spots. -/
import Derived.Test.YtndnckjnnfnnnaaDoorBw3
set_option autoImplicit false
set_option maxRecDepth 100000
set_option linter.unusedVariables false
namespace Go.AI
open Go.Proofs Go.RowKit

theorem okSt_up {p q : Nat × Nat} (h : okSt p q = true) : Up p q := by
  unfold okSt at h
  simp only [Bool.and_eq_true, decide_eq_true_eq] at h
  exact ⟨h.1, h.2.1⟩

theorem mdOk_step (S : List (Nat × Nat)) : ∀ (m i : Nat), mdOk S m i = true → ∀ j, i ≤ j → j < i + m → okSt (gS S (j - 1)) (gS S j) = true
  | 0, i, _, j, h1, h2 => by omega
  | m + 1, i, h, j, h1, h2 => by
    rw [mdOk, Bool.and_eq_true] at h
    by_cases e : j = i
    · subst e; exact h.1
    · exact mdOk_step S m (i + 1) h.2 j (by omega) (by omega)

theorem mdOk_fail (S : List (Nat × Nat)) : ∀ (m i j : Nat), i ≤ j → j < i + m → okSt (gS S (j - 1)) (gS S j) = false → mdOk S m i = false
  | 0, i, j, h1, h2, _ => by omega
  | m + 1, i, j, h1, h2, h => by
    rw [mdOk]
    by_cases e : j = i
    · subst e; rw [h]; rfl
    · rw [mdOk_fail S m (i + 1) j (by omega) (by omega) h, Bool.and_false]

theorem mdOk_all (S : List (Nat × Nat)) : ∀ (m i : Nat), (∀ j, i ≤ j → j < i + m → okSt (gS S (j - 1)) (gS S j) = true) → mdOk S m i = true
  | 0, i, _ => rfl
  | m + 1, i, h => by
    rw [mdOk, h i (Nat.le_refl _) (by omega), mdOk_all S m (i + 1) (fun j h1 h2 => h j (by omega) (by omega))]
    rfl

/-- What the loop keeps. -/
structure MRel (w : World) (S : List (Nat × Nat)) (k : Nat) (wr : World) : Prop where
  le : k + 1 ≤ S.length
  fr : Fr (w.alloc (.cells #[.pointer none, .pointer none] 45)) [] wr
  ok : ∀ j, 1 ≤ j → j < k + 1 → okSt (gS S (j - 1)) (gS S j) = true

def MRelX (w : World) (S : List (Nat × Nat)) (i : Value) (wr : World) : Prop := ∃ k : Nat, i = .int .i64 ((k : Int) + 1) ∧ MRel w S k wr

theorem gS_get (S : List (Nat × Nat)) (k : Nat) (h : k < S.length) : S[k]? = some (gS S k) := by
  rw [gS, List.getD_eq_getElem?_getD, List.getElem?_eq_getElem h]; rfl

noncomputable def okW (L : LL) : Bool := decide (strs' (adL (L.foldl putT .leaf) []) = strs' L)

noncomputable def mdR (S : List (Nat × Nat)) (acc : List UInt8 → Option (List UInt8)) : (Tr × Tr) × Bool :=
  if mdOk S (S.length - 1) 1 = true then
    if (cutI acc 9 [] ([], [])).2 = true then (((cutI acc 9 [] ([], [])).1.1.foldl putT .leaf, (cutI acc 9 [] ([], [])).1.2.foldl putT .leaf), okW (cutI acc 9 [] ([], [])).1.1 && okW (cutI acc 9 [] ([], [])).1.2)
    else ((.leaf, .leaf), false)
  else ((.leaf, .leaf), false)

set_option maxHeartbeats 1600000 in
set_option maxRecDepth 1000000 in
theorem made_any (S : List (Nat × Nat)) (acc : List UInt8 → Option (List UInt8)) (hacc : mdOk S (S.length - 1) 1 = true → SaysOf (bntS S) acc ∧ ∀ a b, a.length ≤ 2 ^ 8 → acc a = some b → b.length ≤ 2 ^ 9) (hS2 : 2 ≤ S.length) (hS : S.length ≤ 2 ^ 9) (hb : ∀ i, i < S.length → (gS S i).1 ≤ 2 ^ 40 ∧ (gS S i).2 ≤ 2 ^ 40) (w : World) (B : Nat → Prop) (u : Value) (hu : RepV w B (.sl (.pr (.int .i64) (.int .i64))) (spN S) u) :
    Calls Tryd.prog i_impl_made #[u] w (MPost w (mdR S acc).1 (mdR S acc).2) := by
  obtain ⟨ao, cap, rfl, hcell⟩ := spots_cells hu
  obtain ⟨bl, o, rfl, hc⟩ : ∃ b o, ao = some ⟨b, o, none⟩ ∧ ∀ (j : Nat) (p : Nat × Nat), S[j]? = some p → w.cell? ⟨b, o + j * 2, none⟩ = some (.int .i64 (p.1 : Int)) ∧ w.cell? ⟨b, o + j * 2 + 1, none⟩ = some (.int .i64 (p.2 : Int)) := by
    rcases hcell with h | h
    · omega
    · exact h
  have HU := Lib.hid (rep_lt hu)
  have HC := Lib.hid hc
  have HB := Lib.hid hb
  have HACC := Lib.hid hacc
  clear hu hcell hc hb hacc
  go_enter Tryd.func15, Tryd.ntmps15
  go_wp2_with (fail)
  go_loopw [4] (fun i wr => MRelX w S i wr) (fun i _ => S.length - (intOf i).toNat)
  case atStart => exact ⟨0, rfl, ⟨by omega, Fr.refl' _, fun j h1 h2 => by omega⟩⟩
  case round =>
    obtain ⟨k, rfl, hR⟩ := hrel
    by_cases hlt : (k : Int) + 1 < (S.length : Int)
    · have hbl : bl < w.heap.size := World.block_lt_of_cell? w _ (HC.out 0 (gS S 0) (gS_get S 0 (by omega))).1
      have ck : ∀ (j : Nat), j < S.length → wr.cell? ⟨bl, o + j * 2, none⟩ = some (.int .i64 ((gS S j).1 : Int)) ∧ wr.cell? ⟨bl, o + j * 2 + 1, none⟩ = some (.int .i64 ((gS S j).2 : Int)) := fun j hj => by
        have h := HC.out j _ (gS_get S j hj)
        have e1 : wr.heap[bl]? = w.heap[bl]? := by rw [hR.fr.block bl (by show bl < (w.heap.push _).size; rw [Array.size_push]; omega) (fun _ hv => by cases hv)]; exact heap_alloc_old w _ hbl
        exact ⟨by rw [World.cell?_of_block (a := ⟨bl, o + j * 2, none⟩) e1]; exact h.1, by rw [World.cell?_of_block (a := ⟨bl, o + j * 2 + 1, none⟩) e1]; exact h.2⟩
      obtain ⟨x0, x1⟩ := ck k (by omega)
      obtain ⟨y0, y1⟩ := ck (k + 1) (by omega)
      have hbx : wr.heap[w.heap.size]? = some (.cells #[.pointer none, .pointer none] 45 (0, 0)) := by
        rw [hR.fr.block w.heap.size (by show w.heap.size < (w.heap.push _).size; rw [Array.size_push]; omega) (fun _ hv => by cases hv)]
        exact heap_alloc_new w _
      obtain ⟨b1, b2⟩ := HB.out k (by omega)
      obtain ⟨c1, c2⟩ := HB.out (k + 1) (by omega)
      obtain ⟨pa, pb, hp⟩ : ∃ a b, gS S k = (a, b) := ⟨_, _, rfl⟩
      obtain ⟨qa, qb, hq⟩ : ∃ a b, gS S (k + 1) = (a, b) := ⟨_, _, rfl⟩
      rw [hp] at x0 x1 b1 b2
      rw [hq] at y0 y1 c1 c2
      have HR := Lib.hid hR
      have HP := Lib.hid hp
      have HQ := Lib.hid hq
      have HBX := Lib.hid hbx
      clear hR ck hp hq hbx
      dsimp only at x0 x1 y0 y1 b1 b2 c1 c2
      go_wp2_with (fail)
      have n1 : IntKind.i64.wrap ((k : Int) + 1 - 1) = (k : Int) := by rw [w64 (by omega) (by omega)]; omega
      have n2 : ¬ ((k : Int) < 0) := by omega
      have n3 : (k : Int) < (S.length : Int) := by omega
      have n4 : ¬ ((k : Int) + 1 < 0) := by omega
      have e1 : IntKind.i64.wrap ((qa : Int) - (pa : Int)) = (qa : Int) - (pa : Int) := by rw [w64 (by omega) (by omega)]
      have e2 : IntKind.i64.wrap ((qb : Int) - (pb : Int)) = (qb : Int) - (pb : Int) := by rw [w64 (by omega) (by omega)]
      go_quiet (fail)
      have hbx2 : (wr.drewN nq).heap[w.heap.size]? = some (.cells #[.pointer none, .pointer none] 45 (0, 0)) := HBX.out
      obtain ⟨f1, f2, f3, f4, f5⟩ := box_facts hbx2 (.pointer none) (.pointer none)
      have HF5 := Lib.hid f5
      clear f5 hbx2
      by_cases u1 : (qa : Int) - (pa : Int) ≤ 0
      · have hno : okSt (gS S (k + 1 - 1)) (gS S (k + 1)) = false := by
          rw [show k + 1 - 1 = k by omega, HP.out, HQ.out]
          unfold okSt
          rw [decide_eq_false (by show ¬ (pa < qa); omega), Bool.false_and]
        have HNO := Lib.hid hno
        clear hno
        go_wp2_with (fail)
        refine bodyPost_ret (results_cell_row_tmp rfl _ _ w.heap.size 45 #[.pointer none, .pointer none] (0, 0) _ rfl HF5.out Tryd.underlying45 rfl (by kernel_rfl)) rfl ?_
        have hm : mdOk S (S.length - 1) 1 = false := mdOk_fail S _ 1 (k + 1) (by omega) (by omega) HNO.out
        unfold mdR
        rw [if_neg (by rw [hm]; decide)]
        exact ⟨_, _, rfl, ((((Fr.refl' w).alloc' _).trans' HR.out.fr).drewN' nq |>.set' (Nat.le_refl _) _).set' (Nat.le_refl _) _, rfl, rfl⟩
      · by_cases u2 : (qb : Int) - (pb : Int) ≤ 0
        · have hno : okSt (gS S (k + 1 - 1)) (gS S (k + 1)) = false := by
            rw [show k + 1 - 1 = k by omega, HP.out, HQ.out]
            unfold okSt
            rw [decide_eq_false (show ¬ ((pa, pb).2 < (qa, qb).2) by show ¬ (pb < qb); omega), Bool.false_and, Bool.and_false]
          have HNO := Lib.hid hno
          clear hno
          go_wp2_with (fail)
          refine bodyPost_ret (results_cell_row_tmp rfl _ _ w.heap.size 45 #[.pointer none, .pointer none] (0, 0) _ rfl HF5.out Tryd.underlying45 rfl (by kernel_rfl)) rfl ?_
          have hm : mdOk S (S.length - 1) 1 = false := mdOk_fail S _ 1 (k + 1) (by omega) (by omega) HNO.out
          unfold mdR
          rw [if_neg (by rw [hm]; decide)]
          exact ⟨_, _, rfl, ((((Fr.refl' w).alloc' _).trans' HR.out.fr).drewN' nq |>.set' (Nat.le_refl _) _).set' (Nat.le_refl _) _, rfl, rfl⟩
        · have hL := low_C (pa, pb) (qa, qb) ⟨by show pa < qa; omega, by show pb < qb; omega⟩ c1 c2 (wr.drewN nq)
          have hS1 := Lib.hid (rfl : slp (pa, pb) (qa, qb) = slp (pa, pb) (qa, qb))
          have hok : okSt (gS S (k + 1 - 1)) (gS S (k + 1)) = (decide (popC (IntKind.wrap .u64 ((slp (pa, pb) (qa, qb)).1 : Int)) = 1) && decide (popC (IntKind.wrap .u64 ((slp (pa, pb) (qa, qb)).2 : Int)) = 1)) := by
            rw [show k + 1 - 1 = k by omega, HP.out, HQ.out]
            unfold okSt
            rw [decide_eq_true (show (pa, pb).1 < (qa, qb).1 by show pa < qa; omega), decide_eq_true (show (pa, pb).2 < (qa, qb).2 by show pb < qb; omega), Bool.true_and, Bool.true_and]
          clear hS1
          generalize (slp (pa, pb) (qa, qb)).1 = s1 at hL hok
          generalize (slp (pa, pb) (qa, qb)).2 = s2 at hL hok
          have HL := Lib.hid hL
          have HOK := Lib.hid hok
          clear hL hok f1 f2 f3 f4 HF5
          go_wp2_with (fail)
          refine HL.out.mono ?_
          rintro e w1 ⟨rfl, hf1⟩
          have HF1 := Lib.hid hf1
          clear hf1
          go_wp2_with (fail)
          have hp1 := pop_C (IntKind.u64.wrap (s1 : Int)) w1
          have HOK := HOK
          have hok := HOK.out
          clear HOK
          generalize popC (IntKind.u64.wrap (s1 : Int)) = r1 at hp1 hok
          have HP1 := Lib.hid hp1
          have HOK := Lib.hid hok
          clear hp1 hok
          refine HP1.out.mono ?_
          rintro e w2 ⟨rfl, hf2⟩
          have HFN := Lib.hid ((((Fr.refl' wr).drewN' nq).trans' HF1.out).trans' hf2)
          clear hf2
          by_cases v1 : r1 = 1
          · go_wp2_with (fail)
            have hp2 := pop_C (IntKind.u64.wrap (s2 : Int)) w2
            have hok := HOK.out
            clear HOK
            generalize popC (IntKind.u64.wrap (s2 : Int)) = r2 at hp2 hok
            have HP2 := Lib.hid hp2
            have HOK := Lib.hid hok
            clear hp2 hok
            refine HP2.out.mono ?_
            rintro e w3 ⟨rfl, hf3⟩
            have HFM := Lib.hid (HFN.out.trans' hf3)
            clear hf3 HFN
            have HFN := HFM
            clear HFM
            by_cases v2 : r2 = 1
            · have HV := Lib.hid (And.intro v1 v2)
              go_wp2_with (fail)
              go_roundw
              case rel =>
                refine ⟨k + 1, by go_num, ⟨by omega, HR.out.fr.trans' HFN.out, fun j h1 h2 => ?_⟩⟩
                by_cases e : j = k + 1
                · subst e
                  rw [HOK.out, HV.out.1, HV.out.2]; rfl
                · exact HR.out.ok j h1 (by omega)
              case measure => simp [intOf]; omega
            · have hno : okSt (gS S (k + 1 - 1)) (gS S (k + 1)) = false := by rw [HOK.out, decide_eq_false v2, Bool.and_false]
              have HNO := Lib.hid hno
              clear hno
              have hbx2 : w3.heap[w.heap.size]? = some (.cells #[.pointer none, .pointer none] 45 (0, 0)) := by rw [HFN.out.block _ (cell_lt' HBX.out) (fun _ hv => by cases hv)]; exact HBX.out
              obtain ⟨f1, f2, f3, f4, f5⟩ := box_facts hbx2 (.pointer none) (.pointer none)
              have HF5 := Lib.hid f5
              clear f5 hbx2
              go_wp2_with (fail)
              refine bodyPost_ret (results_cell_row_tmp rfl _ _ w.heap.size 45 #[.pointer none, .pointer none] (0, 0) _ rfl HF5.out Tryd.underlying45 rfl (by kernel_rfl)) rfl ?_
              have hm : mdOk S (S.length - 1) 1 = false := mdOk_fail S _ 1 (k + 1) (by omega) (by omega) HNO.out
              unfold mdR
              rw [if_neg (by rw [hm]; decide)]
              exact ⟨_, _, rfl, (((((Fr.refl' w).alloc' _).trans' HR.out.fr).trans' HFN.out).set' (Nat.le_refl _) _).set' (Nat.le_refl _) _, rfl, rfl⟩
          · have hno : okSt (gS S (k + 1 - 1)) (gS S (k + 1)) = false := by rw [HOK.out, decide_eq_false v1, Bool.false_and]
            have HNO := Lib.hid hno
            clear hno
            have hbx2 : w2.heap[w.heap.size]? = some (.cells #[.pointer none, .pointer none] 45 (0, 0)) := by rw [HFN.out.block _ (cell_lt' HBX.out) (fun _ hv => by cases hv)]; exact HBX.out
            obtain ⟨f1, f2, f3, f4, f5⟩ := box_facts hbx2 (.pointer none) (.pointer none)
            have HF5 := Lib.hid f5
            clear f5 hbx2
            go_wp2_with (fail)
            refine bodyPost_ret (results_cell_row_tmp rfl _ _ w.heap.size 45 #[.pointer none, .pointer none] (0, 0) _ rfl HF5.out Tryd.underlying45 rfl (by kernel_rfl)) rfl ?_
            have hm : mdOk S (S.length - 1) 1 = false := mdOk_fail S _ 1 (k + 1) (by omega) (by omega) HNO.out
            unfold mdR
            rw [if_neg (by rw [hm]; decide)]
            exact ⟨_, _, rfl, (((((Fr.refl' w).alloc' _).trans' HR.out.fr).trans' HFN.out).set' (Nat.le_refl _) _).set' (Nat.le_refl _) _, rfl, rfl⟩
    · have hk : k + 1 = S.length := by have := hR.le; omega
      have hmd : mdOk S (S.length - 1) 1 = true := mdOk_all S _ 1 (fun j h1 h2 => hR.ok j h1 (by omega))
      obtain ⟨hsays, hal⟩ := HACC.out hmd
      have hbl : bl < w.heap.size := World.block_lt_of_cell? w _ (HC.out 0 (gS S 0) (gS_get S 0 (by omega))).1
      have hbx : wr.heap[w.heap.size]? = some (.cells #[.pointer none, .pointer none] 45 (0, 0)) := by
        rw [hR.fr.block w.heap.size (by show w.heap.size < (w.heap.push _).size; rw [Array.size_push]; omega) (fun _ hv => by cases hv)]
        exact heap_alloc_new w _
      have hur := RepV.fr (RepV.fr HU.out ((Fr.refl' w).alloc' (.cells #[.pointer none, .pointer none] 45))) hR.fr
      have hbent : Calls Tryd.prog i_impl_bent #[.slice (some ⟨bl, o, none⟩) S.length cap] wr fun e w' => ∃ v, e = .returned v ∧ Fr wr [] w' ∧ RepV w' (fun b => b < w'.heap.size) (.sl (.pr (.int .i64) (.int .i64))) (spN (bntS S)) v := by
        have hups : ∀ j, 1 ≤ j → j < S.length → Up (gS S (j - 1)) (gS S j) := fun j h1 h2 => okSt_up (hR.ok j h1 (by omega))
        cases S with
        | nil => simp at hS2
        | cons p rest =>
          obtain ⟨i1, i2⟩ := ups_pairwise rest p hups
          refine bent_C p rest (by simp only [List.length_cons] at hS; omega) (fun x hx => ?_) i2 wr _ _ hur
          obtain ⟨i, hi, e⟩ := mem_gS (List.mem_cons_of_mem p hx)
          have := HB.out i hi
          rw [e] at this
          exact ⟨i1 x hx, this⟩
      have HR := Lib.hid hR
      have HMD := Lib.hid hmd
      have HSY := Lib.hid hsays
      have HAL := Lib.hid hal
      have HBX := Lib.hid hbx
      have HBN := Lib.hid hbent
      clear hR hmd hsays hal hbx hur hbent
      go_wp2_with (fail)
      refine HBN.out.mono ?_
      rintro e w2 ⟨v, rfl, hf2, hv2⟩
      obtain ⟨ao2, cp2, rfl, _⟩ := spots_cells hv2
      have HF2 := Lib.hid hf2
      have HV2 := Lib.hid hv2
      clear hf2 hv2
      have hcu : CuR ((w2.alloc (.cells #[.slice none 0 0] 54)).alloc (.cells #[.slice none 0 0] 54)) w2.heap.size w2.heap.size (w2.heap.size + 1) (.slice none 0 0) (.slice none 0 0) [] [] :=
        ⟨⟨heap_alloc2_old w2 _ _, World.ownsRow_nil _ _ _ _⟩, ⟨heap_alloc2_new w2 _ _, World.ownsRow_nil _ _ _ _⟩, Nat.le_refl _, by omega, by omega, (fun b hb => by cases hb), (fun b hb => by cases hb), (fun b hb => by cases hb)⟩
      have hold : ∀ k, k < w2.heap.size → ((w2.alloc (.cells #[.slice none 0 0] 54)).alloc (.cells #[.slice none 0 0] 54)).heap[k]? = w2.heap[k]? := fun k hk => by
        rw [heap_alloc_old _ _ (by show k < (w2.heap.push _).size; rw [Array.size_push]; omega), heap_alloc_old _ _ hk]
      have hcut := cutUp_any (bntS S) acc HSY.out w2.heap.size w2.heap.size (w2.heap.size + 1) ((w2.alloc (.cells #[.slice none 0 0] 54)).alloc (.cells #[.slice none 0 0] 54)) ao2 (bntS S).length cp2
        (fun w' hw' => RepV.keep (w := w2) (B := fun b => b < w2.heap.size) ⟨fun b hb hl => ⟨hb, (hw' b hb).trans (hold b hb)⟩⟩ HV2.out)
        9 [] [] [] _ _ _ rfl bits01_nil rfl (by simp) (by show w2.heap.size ≤ ((w2.heap.push _).push _).size; rw [Array.size_push, Array.size_push]; omega) (FrN.refl _ _) hcu
      change Calls Tryd.prog i_impl_cutUp #[_, .string ⟨#[]⟩, _, _] _ _ at hcut
      have hmem := cutI_mem acc HAL.out 9 [] ([], []) (by simp) (fun x hx => by cases hx) (fun x hx => by cases hx)
      have hlen := cutI_len acc 9 [] ([], []) rfl (by simp)
      have hres : mdR S acc = if (cutI acc 9 [] ([], [])).2 = true then (((cutI acc 9 [] ([], [])).1.1.foldl putT .leaf, (cutI acc 9 [] ([], [])).1.2.foldl putT .leaf), okW (cutI acc 9 [] ([], [])).1.1 && okW (cutI acc 9 [] ([], [])).1.2) else ((.leaf, .leaf), false) := by
        unfold mdR; rw [if_pos HMD.out]
      generalize cutI acc 9 [] ([], []) = c at hcut hmem hlen hres
      obtain ⟨⟨F, T⟩, ok⟩ := c
      have HCUT := Lib.hid hcut
      have HMEM := Lib.hid hmem
      have HLEN := Lib.hid hlen
      have HOLD := Lib.hid hold
      have HRES := Lib.hid hres
      clear hcut hmem hlen hold hcu hres
      go_wp2_with (fail)
      refine HCUT.out.mono ?_
      rintro e w5 ⟨v', u', rfl, hf5, hc5⟩
      dsimp only at hf5 hc5 ⊢
      obtain ⟨av, cv, rfl⟩ := own_form hc5.f.own
      obtain ⟨au, cu, rfl⟩ := own_form hc5.t.own
      have hbx2 : w2.heap[w.heap.size]? = some (.cells #[.pointer none, .pointer none] 45 (0, 0)) := by rw [HF2.out.block _ (cell_lt' HBX.out) (fun _ hv => by cases hv)]; exact HBX.out
      have hsw : w.heap.size < w2.heap.size := cell_lt' hbx2
      have hbx5 : w5.heap[w.heap.size]? = some (.cells #[.pointer none, .pointer none] 45 (0, 0)) := by rw [hf5.block _ hsw, HOLD.out _ hsw]; exact hbx2
      have hFr5 : Fr w [] w5 := by
        have h0 := (((Fr.refl' w).alloc' (.cells #[.pointer none, .pointer none] 45)).trans' HR.out.fr).trans' HF2.out
        refine ⟨hf5.os.trans h0.os, hf5.tape.trans h0.tape, hf5.output.trans h0.output, ?_, fun k hk hm => ?_⟩
        · have h1 := hf5.size
          have h2 := h0.size
          have h3 : ((w2.alloc (.cells #[.slice none 0 0] 54)).alloc (.cells #[.slice none 0 0] 54)).heap.size = w2.heap.size + 1 + 1 := by show ((w2.heap.push _).push _).size = _; rw [Array.size_push, Array.size_push]
          omega
        · rw [hf5.block k (by omega), HOLD.out k (by omega)]
          exact h0.block k hk hm
      have hs5 : w2.heap.size + 2 ≤ w5.heap.size := by
        have h1 := hf5.size
        have h3 : ((w2.alloc (.cells #[.slice none 0 0] 54)).alloc (.cells #[.slice none 0 0] 54)).heap.size = w2.heap.size + 1 + 1 := by show ((w2.heap.push _).push _).size = _; rw [Array.size_push, Array.size_push]
        omega
      have HC5 := Lib.hid hc5
      have HBX5 := Lib.hid hbx5
      have HFR5 := Lib.hid hFr5
      have k5 : w5.cell? ⟨w2.heap.size, 0, none⟩ = some (.slice av F.length cv) := by rw [cell_of_row w5 _ 0 _ _ (0, 0) hc5.f.cell]; rfl
      clear hf5 hc5 hbx2 hbx5 hFr5
      cases ok with
      | false =>
        obtain ⟨f1, f2, f3, f4, f5⟩ := box_facts HBX5.out (.pointer none) (.pointer none)
        have HF5 := Lib.hid f5
        clear f5
        go_wp2_with (fail)
        refine bodyPost_ret (results_cell_row_tmp rfl _ _ w.heap.size 45 #[.pointer none, .pointer none] (0, 0) _ rfl HF5.out Tryd.underlying45 rfl (by kernel_rfl)) rfl ?_
        rw [HRES.out]
        exact ⟨_, _, rfl, (HFR5.out.set' (Nat.le_refl _) _).set' (Nat.le_refl _) _, rfl, rfl⟩
      | true =>
        have hmF := HMEM.out.1
        have hmT := HMEM.out.2
        have hlF := HLEN.out
        have hTW := treeWith_any F (by omega) hmF w5 (fun _ => True) _ (strs_view HC5.out.f.own)
        have HTW := Lib.hid hTW
        have HMT := Lib.hid hmT
        have HLF := Lib.hid hlF
        clear hTW hmF hmT hlF
        go_wp2_with (fail)
        refine HTW.out.mono ?_
        rintro e w6 ⟨T1, b1, rfl, hf6, hin6, hnew6, htr6, hb6⟩
        obtain ⟨pt1, hpt1⟩ := LT.ptr_pointer T1
        rw [hpt1]
        have hc6 := HC5.out.fr hf6
        have k6 : w6.cell? ⟨w2.heap.size + 1, 0, none⟩ = some (.slice au T.length cu) := by rw [cell_of_row w6 _ 0 _ _ (0, 0) hc6.t.cell]; rfl
        have hTW2 := treeWith_any T (by have := HLF.out; omega) HMT.out w6 (fun _ => True) _ (strs_view hc6.t.own)
        have HTW2 := Lib.hid hTW2
        have HF6 := Lib.hid hf6
        have HIN6 := Lib.hid hin6
        have HNEW6 := Lib.hid hnew6
        have HTR6 := Lib.hid htr6
        have HB6 := Lib.hid hb6
        have HPT1 := Lib.hid hpt1
        clear hc6 hTW2 hf6 hin6 hnew6 htr6 hb6 hpt1 k5
        go_wp2_with (fail)
        refine HTW2.out.mono ?_
        rintro e w7 ⟨T2, b2, rfl, hf7, hin7, hnew7, htr7, hb7⟩
        obtain ⟨pt2, hpt2⟩ := LT.ptr_pointer T2
        rw [hpt2]
        have hF57 := HF6.out.trans' hf7
        have hbx7 : w7.heap[w.heap.size]? = some (.cells #[.pointer none, .pointer none] 45 (0, 0)) := by rw [hF57.block _ (by omega) (fun _ hv => by cases hv)]; exact HBX5.out
        obtain ⟨f1, f2, f3, f4, f5⟩ := box_facts hbx7 (.pointer pt1) (.pointer pt2)
        have HF8 := Lib.hid f5
        have HF57 := Lib.hid hF57
        have HF7 := Lib.hid hf7
        have HIN7 := Lib.hid hin7
        have HNEW7 := Lib.hid hnew7
        have HTR7 := Lib.hid htr7
        have HB7 := Lib.hid hb7
        have HPT2 := Lib.hid hpt2
        clear f5 hF57 hbx7 hf7 hin7 hnew7 htr7 hb7 hpt2 k6
        have fin : ∀ w8 : World, w8 = (w7.setCell ⟨w.heap.size, 0, none⟩ (.pointer pt1)).setCell ⟨w.heap.size, 1, none⟩ (.pointer pt2) → MPost w (mdR S acc).1 (mdR S acc).2 (.returned (.tuple #[.agg #[.pointer pt1, .pointer pt2], .bool (b1 && b2)])) w8 := by
          rintro w8 rfl
          have ho : ∀ k, k ≠ w.heap.size → ((w7.setCell ⟨w.heap.size, 0, none⟩ (.pointer pt1)).setCell ⟨w.heap.size, 1, none⟩ (.pointer pt2)).heap[k]? = w7.heap[k]? := fun k hk => by
            rw [heap_setCell_other _ _ _ _ hk, heap_setCell_other _ _ _ _ hk]
          have h5 := HFR5.out.size
          have h6 := HF6.out.size
          have i1 : T1.In ((w7.setCell ⟨w.heap.size, 0, none⟩ (.pointer pt1)).setCell ⟨w.heap.size, 1, none⟩ (.pointer pt2)) := LT.In_keep HIN6.out fun b hb => by
            rw [ho b (by have := HNEW6.out b hb; omega), HF7.out.block b (LT.In_lt HIN6.out b hb) (fun _ hv => by cases hv)]
          have i2 : T2.In ((w7.setCell ⟨w.heap.size, 0, none⟩ (.pointer pt1)).setCell ⟨w.heap.size, 1, none⟩ (.pointer pt2)) := LT.In_keep HIN7.out fun b hb => by
            rw [ho b (by have := HNEW7.out b hb; omega)]
          have r1 := LT.repT i1 (B := fun x => w.heap.size ≤ x) fun b hb => by have := HNEW6.out b hb; omega
          have r2 := LT.repT i2 (B := fun x => w.heap.size ≤ x) fun b hb => by have := HNEW7.out b hb; omega
          rw [HTR6.out, HPT1.out] at r1
          rw [HTR7.out, HPT2.out] at r2
          rw [HRES.out, HB6.out, HB7.out]
          exact ⟨_, _, rfl, ((HFR5.out.trans' HF57.out).set' (Nat.le_refl _) _).set' (Nat.le_refl _) _, r1, r2⟩
        have FIN := Lib.hid fin
        clear fin
        cases b1 with
        | true =>
          go_wp2_with (fail)
          refine bodyPost_ret (results_cell_row_tmp rfl _ _ w.heap.size 45 #[.pointer pt1, .pointer pt2] (0, 0) _ rfl HF8.out Tryd.underlying45 rfl (by kernel_rfl)) rfl ?_
          exact FIN.out _ rfl
        | false =>
          go_wp2_with (fail)
          refine bodyPost_ret (results_cell_row_tmp rfl _ _ w.heap.size 45 #[.pointer pt1, .pointer pt2] (0, 0) _ rfl HF8.out Tryd.underlying45 rfl (by kernel_rfl)) rfl ?_
          exact FIN.out _ rfl
end Go.AI
