/- Walk by hand: rows of rows marked. -/
import Derived.Test.YtlkjnlhpdjbjdaaCwM
import Derived.Test.YtlkjnlhpdjbjdaaCwG
set_option autoImplicit false
set_option maxRecDepth 100000
set_option linter.unusedVariables false
namespace Go.AI
open Go.Proofs Go.RowKit

theorem ivC_rt (x : Iv) : ([x.1, x.2] : List Rt).flatMap rtC = ivC x := rfl

theorem own_rebase {w w' : World} {N s n n' : Nat} {e e' : TypeId} {v : Value} {xs ys : List Value} (h : w'.ownsRow 0 e s v n xs) (h0 : w.ownsRow N e' s v n' ys) : w'.ownsRow N e s v n xs := by
  refine ⟨h.1, ?_⟩
  rcases h.2 with h1 | ⟨g, cap, cur, rfl, hg, hh, r⟩
  · exact .inl h1
  · exact .inr ⟨g, cap, cur, rfl, (own_lt h0 rfl).1, hh, r⟩

theorem mark1_C (x : Iv) (k : Nat) (hk : k ≤ 2 ^ 38) (w : World) (u : Value) (N : Nat) (hu : w.ownsRow N t_impl_Ratio 2 u 2 (ivC x)) :
    Calls Try.prog i_laws_markRatioS #[u, .int .i64 (k : Int)] w fun e w' => e = .returned (.int .i64 ((k + 4 : Nat) : Int)) ∧ Fr w [u] w' ∧ w'.ownsRow N t_impl_Ratio 2 u 2 (ivC (mkR k)) := by
  have hS := (markRatioS_SC x k hk).2 w (fun _ => False) [u, .int .i64 (k : Int)] [u] (fun _ hb => by cases hb) (by simp)
    ⟨u, [.int .i64 (k : Int)], [], rfl, rfl, ⟨ivC x, own_base hu (Nat.zero_le _), rt_rows [x.1, x.2]⟩, _, [], rfl, ⟨[.int .i64 (k : Int)], rfl, rfl⟩, rfl, rfl⟩
  refine hS.mono ?_
  rintro e w' ⟨v, os, he, hf, hnd, hos, ⟨⟨cs, hcs, hv⟩, _⟩, u', us', hus, ⟨flat, hown, hrow⟩, _⟩
  have : cs = [.int .i64 ((k + 4 : Nat) : Int)] := hcs
  subst this
  subst hv
  cases hus
  have hfl := rows_rt hrow
  rw [ivC_rt] at hfl
  subst hfl
  exact ⟨he, hf, own_rebase hown hu⟩

theorem mark1_C' (x : Iv) (k : Nat) (hk : k ≤ 2 ^ 38) (w : World) (u : Value) (N : Nat) (hu : w.ownsRow N t_impl_Ratio 2 u 2 (ivC x)) (kk : Int) (hkk : kk = (k : Int)) :
    Calls Try.prog i_laws_markRatioS #[u, .int .i64 kk] w fun e w' => e = .returned (.int .i64 ((k + 4 : Nat) : Int)) ∧ Fr w [u] w' ∧ w'.ownsRow N t_impl_Ratio 2 u 2 (ivC (mkR k)) := by
  rw [hkk]; exact mark1_C x k hk w u N hu

theorem RR.mark {w w' : World} {N : Nat} {v u : Value} {l : List Iv} {us : List Value} (h : RR w N v l us) (i : Nat) (y : Iv) (hi : us[i]? = some u) (hf : Fr w [u] w') (hu : w'.ownsRow N t_impl_Ratio 2 u 2 (ivC y)) : RR w' N v (l.set i y) us := by
  have hil : i < us.length := (List.getElem?_eq_some_iff.1 hi).1
  have hlen := h.len
  have hdj := h.dj
  rw [List.pairwise_cons] at hdj
  obtain ⟨d1, d2⟩ := hdj
  have hub : ∃ b, u.ownBlock = some b := by obtain ⟨b, cap, cur, rfl, _⟩ := own2 hu; exact ⟨b, rfl⟩
  obtain ⟨bu, hbu⟩ := hub
  have hblk : blk u = some bu := by rw [own_form hu]; exact hbu
  have keep : ∀ q ∈ v :: us, q.ownBlock ≠ some bu → ∀ b, q.ownBlock = some b → w'.heap[b]? = w.heap[b]? := fun q hq hne b hb => by
    refine hf.block b (h.blocks q hq b hb).2 fun z hz => ?_
    simp only [List.mem_singleton] at hz
    subst hz
    rw [hblk]
    intro e
    exact hne (by rw [hb]; exact e.symm)
  refine ⟨?_, fun j x q hx hq => ?_, h.dj⟩
  · rw [List.length_set]
    refine own_keep h.out (keep v (by simp) ?_)
    rcases d1 u (List.mem_of_getElem? hi) with hn | hn
    · rw [hn]; simp
    · rw [hbu] at hn; exact hn
  · by_cases e : j = i
    · subst e
      rw [hi] at hq
      cases hq
      rw [List.getElem?_set_self (by omega)] at hx
      cases hx
      exact hu
    · rw [List.getElem?_set_ne (Ne.symm e)] at hx
      refine own_keep (h.inn j x q hx hq) (keep q (List.mem_cons_of_mem _ (List.mem_of_getElem? hq)) ?_)
      have hjl : j < us.length := (List.getElem?_eq_some_iff.1 hq).1
      have gq : us[j] = q := (List.getElem?_eq_some_iff.1 hq).2
      have gu : us[i] = u := (List.getElem?_eq_some_iff.1 hi).2
      rw [List.pairwise_iff_getElem] at d2
      rcases Nat.lt_or_gt_of_ne e with hlt | hgt
      · have := d2 j i hjl hil hlt
        rw [gq, gu] at this
        rcases this with hn | hn
        · rw [hn]; simp
        · rw [hbu] at hn; exact hn
      · have := d2 i j hil hjl hgt
        rw [gq, gu] at this
        rcases this with hn | hn
        · rw [hn] at hbu; cases hbu
        · rw [hbu] at hn; exact fun e => hn e.symm

theorem Fr.transS {w w1 w2 : World} {S : List Value} {u : Value} (h : Fr w S w1) (h' : Fr w1 [u] w2) (hu : u ∈ S) : Fr w S w2 :=
  ⟨h'.os.trans h.os, h'.tape.trans h.tape, h'.output.trans h.output, Nat.le_trans h.size h'.size, fun k hk hm => by
    rw [h'.block k (Nat.lt_of_lt_of_le hk h.size) (fun v hv => by simp only [List.mem_singleton] at hv; subst hv; exact hm v hu)]
    exact h.block k hk hm⟩

theorem Fr.transD {w w1 w2 : World} {S : List Value} (h : Fr w S w1) (h' : Fr w1 [] w2) : Fr w S w2 :=
  ⟨h'.os.trans h.os, h'.tape.trans h.tape, h'.output.trans h.output, Nat.le_trans h.size h'.size, fun k hk hm => by
    rw [h'.block k (Nat.lt_of_lt_of_le hk h.size) (fun v hv => by cases hv)]
    exact h.block k hk hm⟩

theorem mk_set (n i : Nat) (l : List Iv) (hl : l.length = n) (hi : i < n) : ((mkRows 1 n).take i ++ l.drop i).set i (mkR (1 + 4 * i)) = (mkRows 1 n).take (i + 1) ++ l.drop (i + 1) := by
  have h1 : ((mkRows 1 n).take i).length = i := by rw [List.length_take, mkRows_len]; omega
  rw [List.set_append_right _ _ (by omega), h1, Nat.sub_self, List.drop_eq_getElem_cons (by omega), List.set_cons_zero, List.take_succ_eq_append_getElem (by rw [mkRows_len]; omega), mkRows_get, List.append_assoc]
  rfl

def MRel (w : World) (N : Nat) (v : Value) (l : List Iv) (us : List Value) (k i : Value) (wr : World) : Prop :=
  ∃ j : Nat, j ≤ l.length ∧ i = .int .i64 j ∧ k = .int .i64 ((1 + 4 * j : Nat) : Int) ∧ Fr w us wr ∧ RR wr N v ((mkRows 1 l.length).take j ++ l.drop j) us

def MPost (w : World) (N : Nat) (v : Value) (n : Nat) (us : List Value) (e : Ending) (w' : World) : Prop := e = .returned (.int .i64 ((1 + 4 * n : Nat) : Int)) ∧ Fr w us w' ∧ RR w' N v (mkRows 1 n) us

set_option maxHeartbeats 1600000 in
set_option maxRecDepth 1000000 in
theorem markSS_C (l : List Iv) (hl : l.length ≤ 2 ^ 30) (w : World) (N : Nat) (v : Value) (us : List Value) (hr : RR w N v l us) :
    Calls Try.prog i_laws_markRatioSS #[v, .int .i64 1] w (MPost w N v l.length us) := by
  have hform : ∃ ao cap, v = .slice ao l.length cap := by
    rcases hr.out.2 with ⟨h, h2⟩ | ⟨g, cap, cur, h, _⟩
    · exact ⟨none, 0, by rw [h, h2]⟩
    · exact ⟨_, _, h⟩
  obtain ⟨ao, cap, rfl⟩ := hform
  have HR := Lib.hid hr
  clear hr
  go_enter Try.func14, Try.ntmps14
  go_wp2_with (fail)
  go_loopw [1, 5] (fun k i wr => MRel w N (.slice ao l.length cap) l us k i wr) (fun _ i _ => l.length - (intOf i).toNat)
  case atStart => exact ⟨0, Nat.zero_le _, rfl, rfl, ⟨rfl, rfl, rfl, Nat.le_refl _, fun _ _ _ => rfl⟩, by simpa using HR.out⟩
  case round =>
    obtain ⟨j, hj, rfl, rfl, hf, hrr⟩ := hrel
    by_cases hlt : j < l.length
    · have hlen := hrr.len
      have hll : ((mkRows 1 l.length).take j ++ l.drop j).length = l.length := by rw [List.length_append, List.length_take, List.length_drop, mkRows_len]; omega
      rw [hll] at hlen
      have hu : us[j]? = some us[j] := List.getElem?_eq_getElem (by omega)
      have hx : ((mkRows 1 l.length).take j ++ l.drop j)[j]? = some ((mkRows 1 l.length).take j ++ l.drop j)[j] := List.getElem?_eq_getElem (by omega)
      have hin := hrr.inn j _ _ hx hu
      have hout := hrr.out
      rw [hll] at hout
      obtain ⟨bo, hao, hcell⟩ : ∃ bo, ao = some ⟨bo, 0, none⟩ ∧ wr.cell? ⟨bo, j, none⟩ = some us[j] := by
        rcases hout.2 with ⟨_, h⟩ | ⟨g1, cap1, cur1, h, ha, hb, _, _, _, hc⟩
        · omega
        · cases h
          refine ⟨g1, rfl, ?_⟩
          rw [cell_of_row wr g1 _ _ _ (0, 0) hb, ← Array.getElem?_toList]
          have : (cur1.toList.take (l.length * 1))[j]? = some us[j] := by rw [hc]; exact hu
          rw [List.getElem?_take, if_pos (by omega)] at this
          exact this
      subst hao
      have hmk := mark1_C' _ (1 + 4 * j) (by omega) wr us[j] N hin
      generalize hq : us[j] = q at *
      obtain ⟨bq, capq, rfl⟩ : ∃ bq capq, q = .slice (some ⟨bq, 0, none⟩) 2 capq := by
        obtain ⟨bq, capq, curq, e, _⟩ := own2 hin
        exact ⟨bq, capq, e⟩
      have HF := Lib.hid hf
      have HRR := Lib.hid hrr
      have HU := Lib.hid hu
      have HL := Lib.hid hll
      have HMK := Lib.hid hmk
      clear hf hrr hu hll hx hin hout hmk hlen hq
      go_wp2_with (fail)
      refine (HMK.out _ ?_).mono ?_
      · push_cast; rfl
      rintro e w1 ⟨rfl, hf1, hq1⟩
      have HF1 := Lib.hid hf1
      have HQ1 := Lib.hid hq1
      clear hf1 hq1
      go_wp2_with (fail)
      go_roundw
      case rel =>
        have hm := HRR.out.mark j (mkR (1 + 4 * j)) HU.out HF1.out HQ1.out
        rw [mk_set l.length j l rfl hlt] at hm
        exact ⟨j + 1, by omega, by go_num, by go_num, HF.out.transS HF1.out (List.mem_of_getElem? HU.out), hm⟩
      case measure => simp [intOf]; omega
    · have e : j = l.length := by omega
      subst e
      have HF := Lib.hid hf
      have HRR := Lib.hid hrr
      clear hf hrr
      go_wp2_with (fail)
      go_ret
      have h := HRR.out
      rw [List.drop_length, List.append_nil, List.take_of_length_le (by rw [mkRows_len]; omega)] at h
      exact ⟨by go_num, HF.out, h⟩

end Go.AI
