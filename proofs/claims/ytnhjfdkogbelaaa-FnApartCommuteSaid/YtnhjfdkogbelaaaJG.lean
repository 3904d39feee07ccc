/- A part of the road: what it proves stands in its last texts. -/
import Derived.Test.YtnhjfdkogbelaaaJB
import Derived.Test.YtnhjfdkogbelaaaJC
section
/- Walk by hand: all that is fixed, in order; rows of the call's own that are written into. -/
set_option autoImplicit false
set_option linter.unusedVariables false
namespace Go.AI
open Go.Proofs Go.RowKit

theorem pcs_get (F T : List (List UInt8)) (hl : F.length = T.length) (cur : Array Value) (m : Nat) (hm : F.length = m) (h : cur.toList.take (m * 4) = (List.zipWith pc F T).flatMap pcC) (k : Nat) (hk : k < m) :
    ∃ f t a b c d, (F.zip T)[k]? = some (f, t) ∧ (a, (b, (c, d))) = pc f t ∧ cur[k * 4]? = some (.int .i64 a) ∧ cur[k * 4 + 1]? = some (.int .i64 b) ∧ cur[k * 4 + 2]? = some (.int .i64 c) ∧ cur[k * 4 + 3]? = some (.int .i64 d) := by
  have key : ∀ (L : List Pc) (k j : Nat), j < 4 → k < L.length → (L.flatMap pcC)[k * 4 + j]? = (pcC (L.getD k (0, 0, 0, 0)))[j]? := by
    intro L
    induction L with
    | nil => intro k j _ hk; simp at hk
    | cons x r ih =>
      intro k j hj hk
      rw [List.flatMap_cons]
      cases k with
      | zero => rw [Nat.zero_mul, Nat.zero_add, List.getElem?_append_left (by simpa [pcC] using hj)]; rfl
      | succ k =>
        rw [List.getElem?_append_right (by simp [pcC]; omega)]
        have := ih k j hj (by simpa using hk)
        rw [show (k + 1) * 4 + j - (pcC x).length = k * 4 + j by simp [pcC]; omega, this]
        rfl
  have hlz : (List.zipWith pc F T).length = m := by rw [List.length_zipWith]; omega
  have hg : (List.zipWith pc F T).getD k (0, 0, 0, 0) = pc F[k] T[k] := by
    rw [List.getD_eq_getElem?_getD, List.getElem?_eq_getElem (by omega), List.getElem_zipWith]; rfl
  refine ⟨F[k], T[k], (pc F[k] T[k]).1, (pc F[k] T[k]).2.1, (pc F[k] T[k]).2.2.1, (pc F[k] T[k]).2.2.2, by rw [List.getElem?_eq_getElem (by rw [List.length_zip]; omega), List.getElem_zip], rfl, ?_, ?_, ?_, ?_⟩
  all_goals
    rw [← Array.getElem?_toList]
  · have := key (List.zipWith pc F T) k 0 (by omega) (by omega)
    rw [← h, List.getElem?_take, if_pos (by omega), hg] at this
    exact this
  · have := key (List.zipWith pc F T) k 1 (by omega) (by omega)
    rw [← h, List.getElem?_take, if_pos (by omega), hg] at this
    exact this
  · have := key (List.zipWith pc F T) k 2 (by omega) (by omega)
    rw [← h, List.getElem?_take, if_pos (by omega), hg] at this
    exact this
  · have := key (List.zipWith pc F T) k 3 (by omega) (by omega)
    rw [← h, List.getElem?_take, if_pos (by omega), hg] at this
    exact this

theorem Try.info43' : (Try.prog.info? t_Simpl_Ratio).map (fun i => (i.zero, i.size, i.bytes)) = some (some (.slice none 0 0), 1, 24) := by kernel_rfl

theorem zip_mem {F T : List (List UInt8)} {k : Nat} {f t : List UInt8} (h : (F.zip T)[k]? = some (f, t)) : f ∈ F ∧ t ∈ T := List.of_mem_zip (List.mem_of_getElem? h)

set_option maxHeartbeats 1600000 in
set_option maxRecDepth 1000000 in
theorem fixed_any (p : Tr × Tr) (h1 : p.1.c ≤ 8) (h2 : p.1.c = p.2.c) (w : World) (B : Nat → Prop) (v1 v2 : Value) (hr : ∀ w' : World, Fr w [] w' → RepV w' B (.pr .tree .tree) p (.agg #[v1, v2])) :
    Calls Try.prog i_impl_pair_fixed #[.agg #[v1, v2]] w fun e w' => ∃ (v : Value) (us : List Value), e = .returned v ∧ Fr w [] w' ∧ RR w' w.heap.size v (FX ((adL p.1 []).zip (adL p.2 []))) us := by
  have hp := hr (w.alloc (.cells #[v1, v2] 34)) ⟨rfl, rfl, rfl, by simp, fun k hk _ => heap_alloc_old w _ hk⟩
  have hF : (adL p.1 []).length = p.1.c + 1 := adL_len _ _
  have hT : (adL p.2 []).length = p.1.c + 1 := by rw [h2]; exact adL_len _ _
  have hFb : ∀ a ∈ adL p.1 [], a.length ≤ 8 := fun a ha => by have := adL_bound _ _ _ ha; simp at this; omega
  have hTb : ∀ a ∈ adL p.2 [], a.length ≤ 8 := fun a ha => by have := adL_bound _ _ _ ha; simp at this; omega
  have hpc := pieces_C p (by omega) h2 _ B _ hp
  obtain ⟨i0, hi, hz0, hz1, hz2⟩ := info_parts Try.info43'
  have hm : p.1.c + 1 ≤ 9 := by omega
  clear hp
  generalize adL p.1 [] = F at *
  generalize adL p.2 [] = T at *
  generalize p.1.c + 1 = m at *
  have HF := Lib.hid hF
  have HT := Lib.hid hT
  have HFb := Lib.hid hFb
  have HTb := Lib.hid hTb
  clear hF hT hFb hTb h1 h2
  go_enter Try.func30, Try.ntmps30
  go_wp2_with (fail)
  refine hpc.mono ?_
  clear hpc
  rintro e w1 ⟨g, cap, cur, rfl, hf1, hg1, hb1, hc1⟩
  have HR := Lib.hid hr
  have HC := Lib.hid hc1
  have HB := Lib.hid hb1
  have HG := Lib.hid hg1
  have HF1 := Lib.hid hf1
  clear hr hc1 hb1 hg1 hf1
  go_wp2_with (fail)
  go_loopw [3, 12] (fun v i wr => RelX w (F.zip T) m g cur v i wr) (fun _ i _ => m - (intOf i).toNat)
  case atStart =>
    have hf0 := ((Fr.refl' w).alloc' (.cells #[v1, v2] 34)).trans' HF1.out
    refine ⟨0, [], rfl, by omega, hf0, HB.out, RR.nil _ _, fun u hu => ?_, by have := HG.out; simp at this; omega⟩
    simp only [List.mem_singleton] at hu
    subst hu
    simp [Value.ownBlock]
  case round =>
    obtain ⟨k, us, rfl, hR⟩ := hrel
    by_cases hlt : k < m
    · obtain ⟨f, t, a, b, c, d, hft, hpcE, c0, c1, c2, c3⟩ := pcs_get F T (by rw [HF.out, HT.out]) cur m HF.out HC.out k hlt
      have x0 : wr.cell? ⟨g, k * 4, none⟩ = some (.int .i64 a) := by rw [cell_of_row wr g (k * 4) _ _ (0, 0) hR.pc]; exact c0
      have x1 : wr.cell? ⟨g, k * 4 + 1, none⟩ = some (.int .i64 b) := by rw [cell_of_row wr g _ _ _ (0, 0) hR.pc]; exact c1
      have x2 : wr.cell? ⟨g, k * 4 + 2, none⟩ = some (.int .i64 c) := by rw [cell_of_row wr g _ _ _ (0, 0) hR.pc]; exact c2
      have x3 : wr.cell? ⟨g, k * 4 + 3, none⟩ = some (.int .i64 d) := by rw [cell_of_row wr g _ _ _ (0, 0) hR.pc]; exact c3
      have HP := Lib.hid hpcE
      have fl := HFb.out f (zip_mem hft).1
      have tl := HTb.out t (zip_mem hft).2
      have HZ := Lib.hid hft
      have HRel := Lib.hid hR
      have HSM := Lib.hid (smalls_FX (F.zip T) (fun a ha => ⟨HFb.out _ (List.of_mem_zip ha).1, HTb.out _ (List.of_mem_zip ha).2⟩) k)
      clear hpcE hft hR c0 c1 c2 c3
      go_wp2_with (fail)
      cases hk : (fixI f t).2
      · refine (fixedIn_no f t fl tl hk _ a b c d HP.out).mono ?_
        rintro e w2 ⟨r, rfl, hfr⟩
        have HFR := Lib.hid hfr
        have HK := Lib.hid hk
        clear hfr hk
        go_wp2_with (fail)
        go_roundw
        case rel =>
          have e1 := FX_stp _ _ _ _ HZ.out
          rw [show stp (FX ((F.zip T).take k)) (f, t) = FX ((F.zip T).take k) by unfold stp; rw [show fixP (f, t).1 (f, t).2 = none from fixI_not f t HK.out]] at e1
          exact ⟨k + 1, us, by go_num, ((HRel.out.fr' ((Fr.refl' wr).alloc' _)).fr' HFR.out).same (by rw [List.length_zip, HF.out, HT.out]; omega) hlt e1⟩
        case measure => simp [intOf]; omega
      · refine (fixedIn_C f t fl tl hk _ a b c d HP.out).mono ?_
        obtain ⟨ra, rb, el, hfp, sa, sb⟩ := fixI_yes f t fl tl hk
        rw [el]
        rintro e w2 ⟨r, rfl, hfr, hro⟩
        obtain ⟨br, capr, curr, rfl, hbr, hbk, y0, y1, y2, y3⟩ := own2 (x := (ra, rb)) hro
        have hR2 := (HRel.out.fr' ((Fr.refl' wr).alloc' _)).fr' hfr
        rcases List.eq_nil_or_concat (FX ((F.zip T).take k)) with hn | ⟨l, x, hn⟩
        · have hv : ∃ ao cap, u3 = .slice ao 0 cap := by
            have := hR2.rr.out
            rw [hn] at this
            rcases this.2 with ⟨h, _⟩ | ⟨g1, cap1, cur1, h, _⟩
            · exact ⟨none, 0, h⟩
            · exact ⟨_, _, h⟩
          obtain ⟨ao, capo, rfl⟩ := hv
          have HFR := Lib.hid hfr
          have HK := Lib.hid hk
          have HBK := Lib.hid hbk
          have HR2 := Lib.hid hR2
          have HN := Lib.hid hn
          have HEL := Lib.hid el
          have HRO := Lib.hid hro
          have HFP := Lib.hid hfp
          have hown : ∀ nq : Nat, ((w2.drewN nq).alloc (.cells #[.slice (some ⟨br, 0, none⟩) 2 capr] t_Simpl_Ratio)).ownsRow w.heap.size t_Simpl_Ratio 1 (.slice ao 0 capo) 0 us := fun nq => by
            have := (hR2.rr.fr (((Fr.refl' w2).drewN' nq).alloc' (.cells #[.slice (some ⟨br, 0, none⟩) 2 capr] t_Simpl_Ratio))).out
            rw [hn] at this
            exact this
          have HOWN := Lib.hid hown
          clear hfr hk hbk hR2 y0 y1 y2 y3 hn el hro hfp hown
          go_wp2_with (fail)
          go_quiet (fail)
          go_wp2_with (first | (at_builtin; refine wpList_append_lies _ rfl _ _ 38 rfl w.heap.size t_Simpl_Ratio i0 (.slice none 0 0) 1 24 Try.underlying38 hi hz0 hz1 hz2 rfl (by decide) _ _ _ rfl (HOWN.out _) ⟨w2.heap.size, 0, none⟩ 1 1 [.slice (some ⟨br, 0, none⟩) 2 capr] rfl rfl ?c1 ?c2 (by omega) ?c3 ?c4 ?c5 (w2.heap.size + 1) ?c6 ?_))
          case c1 =>
            intro j u hj
            match j, hj with
            | 0, hj =>
              simp at hj; subst hj
              have e0 := heap_alloc_new (w2.drewN nq) (.cells #[.slice (some ⟨br, 0, none⟩) 2 capr] t_Simpl_Ratio)
              show World.cell? _ ⟨w2.heap.size, 0, none⟩ = _
              rw [cell_of_row _ w2.heap.size 0 _ _ (0, 0) e0]; rfl
          case c2 => intro u hu; simp at hu; subst hu; rfl
          case c3 => unfold maxLen; omega
          case c4 => omega
          case c5 => have := HR2.out.fr.size; simp; omega
          case c6 => simp
          intro g5 cap5 w5 hown5 hgrow hat hlt5
          have HH := Lib.hid (And.intro hown5 (And.intro hgrow hat))
          clear hown5 hgrow hat hlt5
          go_wp2_with (fail)
          go_roundw
          case rel =>
            obtain ⟨hown5, hgrow, hat⟩ := HH.out
            have e1 := FX_stp _ _ _ _ HZ.out
            rw [show stp (FX ((F.zip T).take k)) (f, t) = mrg (FX ((F.zip T).take k)) (ra, rb) by unfold stp; rw [show fixP (f, t).1 (f, t).2 = some (ra, rb) from HFP.out], HN.out, mrg_nil] at e1
            have hFr := ((HFR.out.drewN' nq).alloc' (.cells #[.slice (some ⟨br, 0, none⟩) 2 capr] t_Simpl_Ratio))
            have hFr0 := ((Fr.refl' wr).alloc' (.cells #[.int .i64 a, .int .i64 b, .int .i64 c, .int .i64 d] 84)).trans' hFr
            have := Rel.push HRel.out hlt hFr0 (x := (ra, rb)) (ur := .slice (some ⟨br, 0, none⟩) 2 capr) (own_base (own_keep HRO.out fun b hb => by have := own_lt HRO.out hb; exact (((Fr.refl' w2).drewN' nq).alloc' _).block b this.2 (fun _ hv => by cases hv)) (by simp)) (by rw [e1, HN.out]; rfl)
              (by rw [HN.out]; exact hown5) hgrow (by simpa using hat)
            rw [HN.out] at this
            exact ⟨k + 1, _, by go_num, this⟩
          case measure => simp [intOf]; omega
        · rw [List.concat_eq_append] at hn
          have hR3 := hR2.rr
          rw [hn] at hR3
          have hlen := hR3.len
          rw [List.length_append, List.length_singleton] at hlen
          obtain ⟨us', u, rfl⟩ : ∃ us' u, us = us' ++ [u] := by
            rcases List.eq_nil_or_concat us with h | ⟨us', u, h⟩
            · rw [h] at hlen; simp at hlen
            · exact ⟨us', u, by rw [h, List.concat_eq_append]⟩
          rw [List.length_append, List.length_singleton] at hlen
          obtain ⟨bl, capl, curl, rfl, hbl, hblk, z0, z1, z2, z3⟩ := own2 (hR3.inn l.length x u (by simp) (by rw [List.getElem?_append_right (by omega)]; simp [show us'.length = l.length by omega]))
          have hout := hR3.out
          rw [List.length_append, List.length_singleton] at hout
          obtain ⟨go, capo, curo, rfl, hgo, hgok, hgc⟩ : ∃ go capo curo, u3 = .slice (some ⟨go, 0, none⟩) (l.length + 1) capo ∧ w.heap.size ≤ go ∧ w2.heap[go]? = some (.cells curo t_Simpl_Ratio (0, 0)) ∧ curo[l.length]? = some (.slice (some ⟨bl, 0, none⟩) 2 capl) := by
            rcases hout.2 with ⟨_, h⟩ | ⟨g1, cap1, cur1, h, ha, hb, _, _, _, hc⟩
            · omega
            · refine ⟨g1, cap1, cur1, h, ha, hb, ?_⟩
              rw [← Array.getElem?_toList]
              have : (cur1.toList.take ((l.length + 1) * 1))[l.length]? = some (.slice (some ⟨bl, 0, none⟩) 2 capl) := by rw [hc, List.getElem?_append_right (by omega)]; simp [show us'.length = l.length by omega]
              rw [List.getElem?_take, if_pos (by omega)] at this
              exact this
          have q0 : w2.cell? ⟨go, l.length, none⟩ = some (.slice (some ⟨bl, 0, none⟩) 2 capl) := by rw [cell_of_row w2 go _ _ _ (0, 0) hgok]; exact hgc
          have q1 : w2.cell? ⟨bl, 0, none⟩ = some (.int .i64 x.1.1) := by rw [cell_of_row w2 bl _ _ _ (0, 0) hblk]; exact z0
          have q2 : w2.cell? ⟨bl, 1, none⟩ = some (.int .i64 x.1.2) := by rw [cell_of_row w2 bl _ _ _ (0, 0) hblk]; exact z1
          have q3 : w2.cell? ⟨bl, 2, none⟩ = some (.int .i64 x.2.1) := by rw [cell_of_row w2 bl _ _ _ (0, 0) hblk]; exact z2
          have q4 : w2.cell? ⟨bl, 3, none⟩ = some (.int .i64 x.2.2) := by rw [cell_of_row w2 bl _ _ _ (0, 0) hblk]; exact z3
          have p0 : w2.cell? ⟨br, 0, none⟩ = some (.int .i64 ra.1) := by rw [cell_of_row w2 br _ _ _ (0, 0) hbk]; exact y0
          have p1 : w2.cell? ⟨br, 1, none⟩ = some (.int .i64 ra.2) := by rw [cell_of_row w2 br _ _ _ (0, 0) hbk]; exact y1
          have p2 : w2.cell? ⟨br, 2, none⟩ = some (.int .i64 rb.1) := by rw [cell_of_row w2 br _ _ _ (0, 0) hbk]; exact y2
          have p3 : w2.cell? ⟨br, 3, none⟩ = some (.int .i64 rb.2) := by rw [cell_of_row w2 br _ _ _ (0, 0) hbk]; exact y3
          have hl9 : l.length ≤ 9 := by have := FX_len (F.zip T) k; rw [hn] at this; simp at this; omega
          have HFR := Lib.hid hfr
          have HK := Lib.hid hk
          have HBK := Lib.hid hbk
          have HR2 := Lib.hid hR2
          have HN := Lib.hid hn
          have HEL := Lib.hid el
          have HFP := Lib.hid hfp
          have HBL := Lib.hid hblk
          have HGO := Lib.hid hgok
          have HRO := Lib.hid hro
          clear hfr hk hbk hR2 y0 y1 y2 y3 z0 z1 z2 z3 hn el hfp hblk hgok hro hgc hR3 hlen hout
          go_wp2_with (fail)
          have sx : small x.2 := (HSM.out x (by rw [HN.out]; simp)).2
          have n1 : IntKind.i64.wrap ((l.length : Int) + 1 - 1) = (l.length : Int) := by rw [w64 (by omega) (by omega)]; omega
          have n2 : (0 : Int) ≤ (l.length : Int) := by omega
          have n3 : (l.length : Int) < (l.length : Int) + 1 := by omega
          have n4 : IntKind.i64.wrap ((l.length : Int)) = (l.length : Int) := by rw [w64 (by omega) (by omega)]
          have n5 : ¬ ((l.length : Int) < 0) := by omega
          cases hl1 : rlt x.2 ra
          · go_region_held3 (fun w' => w'.cell? ⟨go, l.length, none⟩ = some (.slice (some ⟨bl, 0, none⟩) 2 capl) ∧ w'.cell? ⟨bl, 2, none⟩ = some (.int .i64 x.2.1) ∧ w'.cell? ⟨bl, 3, none⟩ = some (.int .i64 x.2.2) ∧ w'.cell? ⟨br, 0, none⟩ = some (.int .i64 ra.1) ∧ w'.cell? ⟨br, 1, none⟩ = some (.int .i64 ra.2)) (go_keep)
              (first | (go_at_call 17; refine (less_CC x.2 ra sx sa false hl1 _).mono ?_; rintro e w3 ⟨rfl, hcs, hf3⟩))
            rename_i hS3
            obtain ⟨t0, t1, t2, _, _⟩ := hS3
            have t3 := hcs ⟨br, 2, none⟩ _ p2
            have t4 := hcs ⟨br, 3, none⟩ _ p3
            have HF3 := Lib.hid hf3.undrew'
            clear q0 q1 q2 q3 q4 p0 p1 p2 p3 hcs hf3
            go_wp2_with (fail)
            have HL1 := Lib.hid hl1
            clear hl1
            cases hl2 : rlt x.2 rb
            · have HL2 := Lib.hid hl2
              go_region_held3 (fun w' => w'.cell? ⟨go, l.length, none⟩ = some (.slice (some ⟨bl, 0, none⟩) 2 capl) ∧ w'.cell? ⟨bl, 2, none⟩ = some (.int .i64 x.2.1) ∧ w'.cell? ⟨bl, 3, none⟩ = some (.int .i64 x.2.2) ∧ w'.cell? ⟨br, 2, none⟩ = some (.int .i64 rb.1) ∧ w'.cell? ⟨br, 3, none⟩ = some (.int .i64 rb.2)) (go_keep)
                (first | (go_at_call 17; refine (less_CC x.2 rb sx sb false hl2 _).mono ?_; rintro e w4 ⟨rfl, hcs, hf4⟩))
              have HF4 := Lib.hid hf4.undrew'
              clear hf4
              go_wp2_with (fail)
              go_roundw
              case rel =>
                have e1 := FX_stp _ _ _ _ HZ.out
                rw [show stp (FX ((F.zip T).take k)) (f, t) = FX ((F.zip T).take k) by unfold stp; rw [show fixP (f, t).1 (f, t).2 = some (ra, rb) from HFP.out]; show mrg _ _ = _; rw [HN.out, mrg_app, if_neg (by rw [HL1.out]; exact Bool.false_ne_true), if_neg (by rw [HL2.out]; exact Bool.false_ne_true)]] at e1
                exact ⟨k + 1, _, by go_num, ((HR2.out.fr' HF3.out).fr' HF4.out).same (by rw [List.length_zip, HF.out, HT.out]; omega) hlt e1⟩
              case measure => simp [intOf]; omega
            · go_region_held3 (fun w' => w'.cell? ⟨go, l.length, none⟩ = some (.slice (some ⟨bl, 0, none⟩) 2 capl) ∧ w'.cell? ⟨bl, 2, none⟩ = some (.int .i64 x.2.1) ∧ w'.cell? ⟨bl, 3, none⟩ = some (.int .i64 x.2.2) ∧ w'.cell? ⟨br, 2, none⟩ = some (.int .i64 rb.1) ∧ w'.cell? ⟨br, 3, none⟩ = some (.int .i64 rb.2)) (go_keep)
                (first | (go_at_call 17; refine (less_CC x.2 rb sx sb true hl2 _).mono ?_; rintro e w4 ⟨rfl, hcs, hf4⟩))
              rename_i hS4
              obtain ⟨t0', t1', t2', t3', t4'⟩ := hS4
              have HF4 := Lib.hid hf4.undrew'
              have hb4 : w4.heap[bl]? = some (.cells curl t_impl_Ratio (0, 0)) := by
                have k3 := HF3.out.block bl (Array.getElem?_eq_some_iff.1 HBL.out).1 (fun _ hv => by cases hv)
                have k4 := HF4.out.block bl (by have := (Array.getElem?_eq_some_iff.1 HBL.out).1; have := HF3.out.size; omega) (fun _ hv => by cases hv)
                rw [k4, k3]; exact HBL.out
              have fz2 : w4.frozen? ⟨bl, 2, none⟩ = false := frozen_of_row w4 bl 2 _ _ hb4
              have fz3 : w4.frozen? ⟨bl, 3, none⟩ = false := frozen_of_row w4 bl 3 _ _ hb4
              have HL2 := Lib.hid hl2
              have HB4 := Lib.hid hb4
              clear hf4 hcs t0 t1 t2 t3 t4 hb4 hl2
              have ne1 : bl ≠ go := fun e => by
                have e' : go = bl := e.symm
                have hd := HR2.out.rr.dj
                rw [List.pairwise_cons] at hd
                rcases hd.1 (.slice (some ⟨bl, 0, none⟩) 2 capl) (by simp) with h | h
                · cases h
                · exact h (by rw [e']; rfl)
              have ne2 : bl ≠ br := fun e => by
                have := (HRel.out.rr.blocks (.slice (some ⟨bl, 0, none⟩) 2 capl) (by simp) bl rfl).2
                simp at hbr
                omega
              go_wp2_with (fail)
              go_region_held3 (fun w' => w'.cell? ⟨go, l.length, none⟩ = some (.slice (some ⟨bl, 0, none⟩) 2 capl) ∧ w'.cell? ⟨br, 2, none⟩ = some (.int .i64 rb.1) ∧ w'.cell? ⟨br, 3, none⟩ = some (.int .i64 rb.2)) (go_keep) (first | fail)
              go_wp2_with (fail)
              go_roundw
              case rel =>
                have e1 := FX_stp _ _ _ _ HZ.out
                rw [show stp (FX ((F.zip T).take k)) (f, t) = mrg (FX ((F.zip T).take k)) (ra, rb) by unfold stp; rw [show fixP (f, t).1 (f, t).2 = some (ra, rb) from HFP.out], HN.out, mrg_app, if_neg (by rw [HL1.out]; exact Bool.false_ne_true), if_pos HL2.out] at e1
                have hq := HRel.out.set hlt HN.out e1 ((((Fr.refl' wr).alloc' (.cells #[.int .i64 a, .int .i64 b, .int .i64 c, .int .i64 d] 84)).trans' HFR.out).trans' (HF3.out.trans' HF4.out)) HB4.out
                exact ⟨k + 1, _, by go_num, hq.fr' (Fr.refl' _).drew'⟩
              case measure => simp [intOf]; omega
          · have HL1 := Lib.hid hl1
            have hown : ∀ w3 : World, Fr w2 [] w3 → (w3.alloc (.cells #[.slice (some ⟨br, 0, none⟩) 2 capr] t_Simpl_Ratio)).ownsRow w.heap.size t_Simpl_Ratio 1 (.slice (some ⟨go, 0, none⟩) (l.length + 1) capo) (l.length + 1) (us' ++ [.slice (some ⟨bl, 0, none⟩) 2 capl]) := fun w3 h3 => by
              have := (HR2.out.rr.fr (h3.alloc' (.cells #[.slice (some ⟨br, 0, none⟩) 2 capr] t_Simpl_Ratio))).out
              rw [HN.out, List.length_append, List.length_singleton] at this
              exact this
            have HOWN := Lib.hid hown
            clear hown
            go_region_held3 (fun w' => w'.cell? ⟨go, l.length, none⟩ = some (.slice (some ⟨bl, 0, none⟩) 2 capl) ∧ w'.cell? ⟨bl, 2, none⟩ = some (.int .i64 x.2.1) ∧ w'.cell? ⟨bl, 3, none⟩ = some (.int .i64 x.2.2) ∧ w'.cell? ⟨br, 0, none⟩ = some (.int .i64 ra.1) ∧ w'.cell? ⟨br, 1, none⟩ = some (.int .i64 ra.2)) (go_keep)
              (first | (go_at_call 17; refine (less_CC x.2 ra sx sa true hl1 _).mono ?_; rintro e w3 ⟨rfl, hcs, hf3⟩))
            have HF3 := Lib.hid hf3.undrew'
            clear q0 q1 q2 q3 q4 p0 p1 p2 p3 hcs hf3 hl1
            go_wp2_with (first | (at_builtin; refine wpList_append_lies _ rfl _ _ 38 rfl w.heap.size t_Simpl_Ratio i0 (.slice none 0 0) 1 24 Try.underlying38 hi hz0 hz1 hz2 rfl (by decide) _ _ _ rfl (HOWN.out _ HF3.out) ⟨w3.heap.size, 0, none⟩ 1 1 [.slice (some ⟨br, 0, none⟩) 2 capr] rfl rfl ?c1 ?c2 (by omega) ?c3 ?c4 ?c5 (w3.heap.size + 1) ?c6 ?_))
            case c1 =>
              intro j u hj
              match j, hj with
              | 0, hj =>
                simp at hj; subst hj
                have e0 := heap_alloc_new w3 (.cells #[.slice (some ⟨br, 0, none⟩) 2 capr] t_Simpl_Ratio)
                show World.cell? _ ⟨w3.heap.size, 0, none⟩ = _
                rw [cell_of_row _ w3.heap.size 0 _ _ (0, 0) e0]; rfl
            case c2 => intro u hu; simp at hu; subst hu; rfl
            case c3 => unfold maxLen; omega
            case c4 => omega
            case c5 => have := HR2.out.fr.size; have := HF3.out.size; simp; omega
            case c6 => simp
            intro g5 cap5 w5 hown5 hgrow hat hlt5
            have HH := Lib.hid (And.intro hown5 (And.intro hgrow hat))
            clear hown5 hgrow hat hlt5
            go_wp2_with (fail)
            go_roundw
            case rel =>
              obtain ⟨hown5, hgrow, hat⟩ := HH.out
              have e1 := FX_stp _ _ _ _ HZ.out
              rw [show stp (FX ((F.zip T).take k)) (f, t) = mrg (FX ((F.zip T).take k)) (ra, rb) by unfold stp; rw [show fixP (f, t).1 (f, t).2 = some (ra, rb) from HFP.out], HN.out, mrg_app, if_pos HL1.out] at e1
              have hFr := ((HFR.out.trans' HF3.out).alloc' (.cells #[.slice (some ⟨br, 0, none⟩) 2 capr] t_Simpl_Ratio))
              have hFr0 := ((Fr.refl' wr).alloc' (.cells #[.int .i64 a, .int .i64 b, .int .i64 c, .int .i64 d] 84)).trans' hFr
              have := Rel.push HRel.out hlt hFr0 (x := (ra, rb)) (ur := .slice (some ⟨br, 0, none⟩) 2 capr) (own_base (own_keep HRO.out fun b hb => by have := own_lt HRO.out hb; exact (HF3.out.alloc' _).block b this.2 (fun _ hv => by cases hv)) (by simp)) (by rw [e1, HN.out])
                (by rw [HN.out, List.length_append, List.length_singleton, List.append_assoc]; exact hown5) hgrow (by simpa using hat)
              rw [HN.out, List.length_append, List.length_singleton] at this
              exact ⟨k + 1, _, by go_num, this⟩
            case measure => simp [intOf]; omega
    · have HRel := Lib.hid hR
      clear hR
      go_wp2_with (fail)
      go_ret
      have h := HRel.out
      have hk : k = m := by have := h.le; omega
      subst hk
      have hrr := h.rr
      rw [List.take_of_length_le (by rw [List.length_zip, HF.out, HT.out]; omega)] at hrr
      exact ⟨_, us, rfl, h.fr, hrr⟩
end Go.AI
end

section
/- Contract: all that is fixed, looked at only. -/
set_option autoImplicit false
set_option maxRecDepth 100000
set_option linter.unusedVariables false
namespace Go.AI
open Go.Proofs



theorem own2_view {w : World} {N : Nat} {B : Nat → Prop} {u : Value} {x : Iv} (h : w.ownsRow N t_impl_Ratio 2 u 2 (ivC x)) (hB : ∀ b, u.ownBlock = some b → B b) : RepK w B (.sl RK) [x.1, x.2] [u] := by
  rcases h.2 with ⟨_, h0⟩ | ⟨g, cap, cur, rfl, hg, hh, hc1, hc2, hc3, hc⟩
  · omega
  · refine ⟨some ⟨g, 0, none⟩, cap, ivC x, rfl, hc1, ⟨_, _, rfl, ⟨[_], [_], rfl, rfl, rfl⟩, ⟨_, _, rfl, ⟨[_], [_], rfl, rfl, rfl⟩, rfl⟩⟩, (fun h => by cases h), fun ad had => ?_⟩
    cases had
    refine ⟨rfl, fun j q hq => ?_, fun _ => hB g rfl⟩
    have hj : j < 4 := by
      have := (List.getElem?_eq_some_iff.1 hq).1
      simpa [ivC] using this
    rw [show (⟨g, 0, none⟩ : Addr).add j = ⟨g, j, none⟩ by unfold Addr.add; split <;> simp_all, cell_of_row w g j _ _ (0, 0) hh, ← Array.getElem?_toList, ← hq, ← hc, List.getElem?_take, if_pos (by omega)]

theorem RR.view {w : World} {N : Nat} {B : Nat → Prop} {v : Value} {l : List Iv} {us : List Value} (h : RR w N v l us) (hB : ∀ b, N ≤ b → v.ownBlock ≠ some b → B b) : OwnRow w B N t_Simpl_Ratio (.sl RK) (ivL l) v := by
  have hdj := h.dj
  rw [List.pairwise_cons] at hdj
  refine ⟨us, by rw [List.length_map]; exact h.out, ?_⟩
  have key : ∀ (l : List Iv) (us : List Value), us.length = l.length → (∀ (j : Nat) (x : Iv) (u : Value), l[j]? = some x → us[j]? = some u → w.ownsRow N t_impl_Ratio 2 u 2 (ivC x)) → (∀ u ∈ us, ∀ b, u.ownBlock = some b → B b) → RowsOf (RepK w B (.sl RK)) (ivL l) us := by
    intro l
    induction l with
    | nil => intro us hl _ _; exact List.length_eq_zero_iff.1 hl
    | cons x l ih =>
      intro us hl hi hb
      cases us with
      | nil => simp at hl
      | cons u us => exact ⟨[u], us, rfl, own2_view (hi 0 x u rfl rfl) (hb u (by simp)), ih us (by simpa using hl) (fun j y q hy hq => hi (j + 1) y q hy hq) (fun q hq => hb q (List.mem_cons_of_mem _ hq))⟩
  refine key l us h.len h.inn fun u hu b hb => hB b (h.blocks u (List.mem_cons_of_mem _ hu) b hb).1 fun e => ?_
  rcases hdj.1 u hu with hn | hn
  · rw [hn] at e; cases e
  · exact hn (by rw [e, hb])

theorem own_form {w : World} {N s n : Nat} {e : TypeId} {v : Value} {xs : List Value} (h : w.ownsRow N e s v n xs) : blk v = v.ownBlock := by
  rcases h.2 with ⟨rfl, _⟩ | ⟨g, cap, cur, rfl, _⟩ <;> rfl




theorem pair_agg {w : World} {B : Nat → Prop} {p : PT} {u : Value} (h : RepV w B (.pr .tree .tree) p u) : ∃ v1 v2, u = .agg #[v1, v2] := by
  obtain ⟨cs, ⟨c1, c2, rfl, ⟨x, rfl, _⟩, ⟨y, rfl, _⟩⟩, rfl⟩ := h
  exact ⟨x, y, rfl⟩

theorem RepV.fr {w w' : World} {B : Nat → Prop} {k : Kd} {x : k.ty} {u : Value} (h : RepV w B k x u) (hf : Fr w [] w') : RepV w' B k x u :=
  RepV.keep ⟨fun b hb hl => ⟨hb, hf.block b hl (fun _ hv => by cases hv)⟩⟩ h

theorem fixed_RR (p : PT) (h1 : p.1.c ≤ 8) (h2 : p.1.c = p.2.c) (w : World) (B : Nat → Prop) (u : Value) (hu : RepV w B (.pr .tree .tree) p u) :
    Calls Try.prog i_impl_pair_fixed #[u] w fun e w' => ∃ (v : Value) (us : List Value), e = .returned v ∧ Fr w [] w' ∧ RR w' w.heap.size v (fxL p) us := by
  obtain ⟨v1, v2, rfl⟩ := pair_agg hu
  exact fixed_any p h1 h2 w B v1 v2 fun w' hf => hu.fr hf

theorem fixed_SC (p : PT) (h1 : p.1.c ≤ 8) (h2 : p.1.c = p.2.c) : SC cfg.P i_impl_pair_fixed [.s (.v (.pr .tree .tree) p)] (.s (.own t_Simpl_Ratio (.sl RK) (ivL (fxL p)))) [] := by
  refine ⟨⟨P_impl_pair_fixed, get_impl_pair_fixed, rfl, by decide⟩, ?_⟩
  rintro w B vs mv hB hd ⟨u, us, rfl, hu, rfl, rfl⟩
  refine (fixed_RR p h1 h2 w B u hu).mono ?_
  rintro e w' ⟨v, us, rfl, hf, hr⟩
  refine ⟨v, (blk v).toList, rfl, hf, by cases blk v <;> simp, fun b hb => ?_, ⟨?_, rfl⟩, rfl⟩
  · rw [own_form hr.out, Option.mem_toList] at hb
    exact (own_lt hr.out hb).1
  · refine hr.view fun b hb hne => ⟨.inr hb, fun hm => hne ?_⟩
    rw [own_form hr.out, Option.mem_toList] at hm
    exact hm

end Go.AI
end
