/- The law of TreesByAddresses. -/
import Derived.Test.YtpfaelacdnmeaaaCtz
import Derived.Test.YtpfaelacdnmeaaaGL
import Derived.Test.YtpfaelacdnmeaaaAiH
set_option autoImplicit false
set_option maxRecDepth 100000
set_option linter.unusedVariables false
namespace Go.AI
open Go.Proofs

def shl (L : List (List UInt8)) : List Nat := L.map fun a => 2 ^ (8 - a.length)

theorem sum_take (l : List Nat) (i : Nat) (h : i < l.length) : (l.take (i + 1)).sum = (l.take i).sum + l[i] := by
  rw [List.take_add_one, List.getElem?_eq_getElem h, List.sum_append]
  simp

theorem sum_take_le (l : List Nat) (i : Nat) : (l.take i).sum ≤ l.sum := by
  have := congrArg List.sum (List.take_append_drop i l)
  rw [List.sum_append] at this
  omega

theorem pow_le (k : Nat) (h : k ≤ 8) : 2 ^ k ≤ 256 := Nat.pow_le_pow_right (n := 2) (by omega) h

theorem tb_L0 (x1 : List Int) (t : Tr) (h : t.c ≤ 8) (x5 : ByteArray) (xo77 : List Int) : ∀ (m i : Nat), (t.c + 1) - i = m → i ≤ t.c + 1 →
    LoopSC cfg.P 2 (lb P_laws_FnTreesByAddresses 0) (laws_FnTreesByAddresses_L0a x1 x5 (((shl (adL t [])).take i).sum : Nat) ((List.length (strs' (adL t [])) : Nat) : Int) (i : Int) (strs' (adL t [])) ((strs' (adL t [])).map fun x => (x.size : Int)) xo77) (.exit 0)
      (laws_FnTreesByAddresses_L0X2 x1 x5 256 ((List.length (strs' (adL t [])) : Nat) : Int) ((t.c + 1 : Nat) : Int) false (strs' (adL t [])) ((strs' (adL t [])).map fun x => (x.size : Int)) xo77) := by
  have hn := adL_len t []
  have hL : List.length (strs' (adL t [])) = t.c + 1 := by rw [List.length_map]; exact hn
  have hS : (shl (adL t [])).length = t.c + 1 := by unfold shl; rw [List.length_map]; exact hn
  have hD : List.length ((strs' (adL t [])).map fun x => (x.size : Int)) = t.c + 1 := by rw [List.length_map]; exact hL
  have tot : (shl (adL t [])).sum = 256 := share t [] (by simp; omega)
  intro m
  induction m with
  | zero =>
    intro i hm hi
    have e : i = t.c + 1 := by omega
    subst e
    rw [List.take_of_length_le (by omega), tot]
    exact laws_FnTreesByAddresses_L0a_x5 _ _ _ _ _ _ _ _ (by omega)
  | succ m ih =>
    intro i hm hi
    have hlt : i < t.c + 1 := by omega
    have k1 := ih (i + 1) (by omega) (by omega)
    have hi' : i < (adL t []).length := by omega
    have hg := strs_get (adL t []) i hi'
    have ha : (adL t [])[i].length ≤ 8 := adL_h t [] _ (List.getElem_mem _) (by simp; omega)
    have hz : ((List.getD (strs' (adL t [])) ((i : Int)).toNat (⟨#[]⟩ : ByteArray)).size : Int) = ((adL t [])[i].length : Int) := by rw [hg, bs_size]
    have w8 : IntKind.wrap .i64 ((8 : Int) - ((List.getD (strs' (adL t [])) ((i : Int)).toNat (⟨#[]⟩ : ByteArray)).size : Int)) = ((8 - (adL t [])[i].length : Nat) : Int) := by rw [hz, w64] <;> omega
    have hp := pow_le (8 - (adL t [])[i].length) (by omega)
    have hsi := sum_take (shl (adL t [])) i (by omega)
    have hgi : (shl (adL t []))[i]'(by omega) = 2 ^ (8 - (adL t [])[i].length) := by simp [shl]
    rw [hgi] at hsi
    have hle := sum_take_le (shl (adL t [])) (i + 1)
    have wm : min (8 - (adL t [])[i].length) (IntKind.bits .i64) = 8 - (adL t [])[i].length := Nat.min_eq_left (by show _ ≤ 64; omega)
    have wp : IntKind.wrap .i64 ((1 : Int) * 2 ^ (min ((IntKind.wrap .i64 ((8 : Int) - ((List.getD (strs' (adL t [])) ((i : Int)).toNat (⟨#[]⟩ : ByteArray)).size : Int)))).toNat (IntKind.bits .i64))) = ((2 ^ (8 - (adL t [])[i].length) : Nat) : Int) := by
      rw [w8, Int.toNat_natCast, wm]
      have e : (1 : Int) * 2 ^ (8 - (adL t [])[i].length) = ((2 ^ (8 - (adL t [])[i].length) : Nat) : Int) := by push_cast; omega
      rw [e, w64] <;> omega
    have ws : IntKind.wrap .i64 ((((shl (adL t [])).take i).sum : Nat) + IntKind.wrap .i64 ((1 : Int) * 2 ^ (min ((IntKind.wrap .i64 ((8 : Int) - ((List.getD (strs' (adL t [])) ((i : Int)).toNat (⟨#[]⟩ : ByteArray)).size : Int)))).toNat (IntKind.bits .i64)))) = (((shl (adL t [])).take (i + 1)).sum : Nat) := by
      rw [wp, w64] <;> omega
    rw [← wrap_succ (by omega), ← ws] at k1
    have hd : List.getD ((strs' (adL t [])).map fun x => (x.size : Int)) ((i : Int)).toNat (0 : Int) = ((List.getD (strs' (adL t [])) ((i : Int)).toNat (⟨#[]⟩ : ByteArray)).size : Int) := by
      rw [Int.toNat_natCast]
      rw [List.getD_eq_getElem?_getD, List.getD_eq_getElem?_getD, List.getElem?_map, List.getElem?_eq_getElem (by omega : i < (strs' (adL t [])).length)]
      rfl
    by_cases h0 : (i : Int) > (0 : Int)
    · obtain ⟨j, rfl⟩ : ∃ j, i = j + 1 := ⟨i - 1, by omega⟩
      have wj : IntKind.wrap .i64 (((j + 1 : Nat) : Int) - (1 : Int)) = (j : Int) := by rw [w64] <;> omega
      refine laws_FnTreesByAddresses_L0a_i3 _ _ _ _ _ _ _ _ (by omega) (by omega) (by omega) (by omega) (by rw [w8]; omega) (by omega) (by omega) hd h0 (by rw [wj]; omega) (by rw [wj]; omega) (by rw [wj]; omega) ?_ k1
      have hgj := strs_get (adL t []) j (by omega)
      rw [wj, hg, hgj, bs_toList, bs_toList]
      have := List.pairwise_iff_getElem.1 (adL_pw t []) j (j + 1) (by omega) hi' (by omega)
      rw [this]
      rfl
    · exact laws_FnTreesByAddresses_L0a_i4 _ _ _ _ _ _ _ _ (by omega) (by omega) (by omega) (by omega) (by rw [w8]; omega) (by omega) (by omega) hd h0 k1

theorem tb_L1 (x1 : List Int) (t : Tr) (h : t.c ≤ 8) : ∀ (m i : Nat), (exL t 0).length - i = m → i ≤ (exL t 0).length →
    LoopSC cfg.P 2 (lb P_laws_FnTreesByAddresses 1) (laws_FnTreesByAddresses_L1a x1 (bs (txt t)) ((List.length (ints (exL t 0)) : Nat) : Int) (i : Int) (ints (exL t 0))) (.exit 2)
      (laws_FnTreesByAddresses_L1X2 x1 (bs (txt t)) ((List.length (ints (exL t 0)) : Nat) : Int) ((exL t 0).length : Int) false (ints (exL t 0))) := by
  have hL : List.length (ints (exL t 0)) = (exL t 0).length := List.length_map ..
  have hel := exL_len t 0
  obtain ⟨ht, et⟩ := treeOf_self h
  have hl := txt_len t
  intro m
  induction m with
  | zero =>
    intro i hm hi
    have e : i = (exL t 0).length := by omega
    subst e
    exact laws_FnTreesByAddresses_L1a_x5 _ _ _ _ _ (by omega)
  | succ m ih =>
    intro i hm hi
    have hlt : i < (exL t 0).length := by omega
    have k1 := ih (i + 1) (by omega) (by omega)
    rw [← wrap_succ (by omega)] at k1
    have hmem : (exL t 0)[i] ∈ exL t 0 := List.getElem_mem _
    have hd : List.getD (ints (exL t 0)) ((i : Int)).toNat (0 : Int) = ((exL t 0)[i] : Int) := by
      rw [Int.toNat_natCast, List.getD_eq_getElem?_getD, List.getElem?_map, List.getElem?_eq_getElem hlt]; rfl
    have hk := exL_range t 0 _ hmem
    have hw := wo_c t _ hmem
    have ex : exO (txt t) = ints (exL t 0) := by unfold exO; rw [if_pos ht, et]
    have gB : drB (txt t) ((exL t 0)[i] : Int) = true := by
      unfold drB
      rw [ht, Bool.true_and, ex, List.contains_iff_mem]
      exact List.mem_map.2 ⟨_, hmem, rfl⟩
    have gV : drV (txt t) ((exL t 0)[i] : Int) = bs (txt (wo t (exL t 0)[i])) := by
      unfold drV
      rw [if_pos gB, et, Int.toNat_natCast]
    have a1 := imDr_SC (txt t) ((exL t 0)[i] : Int) (by omega)
    rw [gB, gV, ← hd] at a1
    obtain ⟨hu, eu⟩ := treeOf_self (t := wo t (exL t 0)[i]) (by omega)
    obtain ⟨hc, ec⟩ := treeOf_self (t := Tr.node .leaf .leaf) (by decide)
    have cc : (Tr.node .leaf .leaf).c = 1 := rfl
    have lw := txt_len (wo t (exL t 0)[i])
    have a2 := implGr_SC (txt (wo t (exL t 0)[i])) ((exL t 0)[i] : Int) (txt (.node .leaf .leaf)) (by omega) (by decide)
    have qB : grB (txt (wo t (exL t 0)[i])) ((exL t 0)[i] : Int) (txt (.node .leaf .leaf)) = true := by
      unfold grB grQ both
      rw [hu, hc, eu, ec, cc, decide_eq_true (by omega), decide_eq_true (by omega)]
      rfl
    have qV : grV (txt (wo t (exL t 0)[i])) ((exL t 0)[i] : Int) (txt (.node .leaf .leaf)) = bs (txt t) := by
      unfold grV
      rw [if_pos qB, eu, ec, Int.toNat_natCast, grf_wo t _ hmem]
    rw [qB, qV, ← hd] at a2
    exact laws_FnTreesByAddresses_L1a_i2 _ _ _ _ _ _ _ (by omega) (by omega) (by omega) (by omega) a1 a2 rfl k1

theorem tb18 {l : List Int} (h : ∀ x ∈ l, 0 ≤ x ∧ x ≤ 255) (hl : l.length ≤ 2 ^ 20) : ∃ (L : List ByteArray) (v : ByteArray) (b : Bool) (u : ByteArray) (k : Int) (v' : ByteArray) (b' : Bool),
    SC cfg.P i_spec_DrawTreeWith [.s (.v (.sl (.int .u8)) l)] (.s (.v (.sl .str) L)) [] ∧
    SC cfg.P i_impl_TreeWith [.s (.v (.sl .str) L)] (.tup [.v .str v, .v .bool b]) [] ∧
    SC cfg.P i_spec_TreeWith [.s (.v (.sl .str) L)] (.tup [.v .str v, .v .bool b]) [] ∧
    SC cfg.P i_spec_DrawDropExposed [.s (.v (.sl (.int .u8)) l)] (.tup [.v .str u, .v (.int .i64) k]) [] ∧
    SC cfg.P i_impl_DropExposed [.s (.v .str u), .s (.v (.int .i64) k)] (.tup [.v .str v', .v .bool b']) [] ∧
    SC cfg.P i_spec_DropExposed [.s (.v .str u), .s (.v (.int .i64) k)] (.tup [.v .str v', .v .bool b']) [] := by
  obtain ⟨L, hL, s1⟩ := drawTw_SC h hl
  obtain ⟨t, k, ht, s2⟩ := drawDr_SC h hl
  exact ⟨_, _, _, _, _, _, _, s1, imTW_SC L hL, spTW_SC L hL, s2, imDr_SC t k (by omega), spDr_SC t k (by omega)⟩

theorem tb3 {x0 x1 : List Int} (h0 : ∀ x ∈ x0, 0 ≤ x ∧ x ≤ 255) (h1 : ∀ x ∈ x1, 0 ≤ x ∧ x ≤ 255) (l0 : x0.length ≤ 2 ^ 20) (l1 : x1.length ≤ 2 ^ 20) (q : Bool) :
    RestSC cfg.P 2 (rest P_laws_FnTreesByAddresses 3) (laws_FnTreesByAddresses_C3a x0 x1 q) .ret (laws_FnTreesByAddresses_R1 true) := by
  obtain ⟨a, ha, sD⟩ := drawAd_SC x0 l0 h0
  obtain ⟨a, rfl⟩ := bs_ex a
  rw [bs_size] at ha
  obtain ⟨L, v, b, u, k, v', b', d1, d2, d3, d4, d5, d6⟩ := tb18 h1 l1
  have hA := adO_len a
  have hD : (deO a).length ≤ 9 := by unfold deO; rw [List.length_map]; exact hA
  have hE := exO_len a
  have bb : ∀ b : Bool, (!(b == b)) = false := by intro b; cases b <;> rfl
  refine laws_FnTreesByAddresses_C3a_i1 _ _ _ _ _ _ _ _ _ _ _ _ _ _ _ _ _ _ _ _ _ _ _ _ _ sD (imAd_SC a (by omega)) (spAd_SC a (by omega)) (imDe_SC a (by omega)) (spDe_SC a (by omega)) (imEx_SC a (by omega)) (spEx_SC a (by omega)) (imCa_SC a (by omega)) (spCa_SC a (by omega)) (imMi_SC a (by omega)) (spMi_SC a (by omega)) (bb _) (fTexts_SC _ (by omega)) (bb _) (fSame_SC _ (by omega)) (bb _) (fSame_SC _ (by omega)) (bb _) rfl (bb _) rfl (imIs_SC a (by omega)) (bb _) (bb _) (bb _) (bb _) (bb _) ?_
  cases g : isTree a with
  | false => exact laws_FnTreesByAddresses_C16a_i7 _ _ _ _ _ _ _ _ (laws_FnTreesByAddresses_C18b_x1 _ _ _ _ _ _ _ _ _ _ _ _ _ _ _ _ _ _ _ d1 d2 d3 d4 d5 d6 rfl rfl rfl rfl)
  | true =>
    obtain ⟨e, hc⟩ := treeOf_txt g
    have eA : adO a = strs' (adL (treeOf a) []) := by unfold adO; rw [if_pos g]
    have eD : deO a = (strs' (adL (treeOf a) [])).map fun x => (x.size : Int) := by unfold deO; rw [eA]
    have eE : exO a = ints (exL (treeOf a) 0) := by unfold exO; rw [if_pos g]
    have eM : miO a = bs (txt (mir (treeOf a))) := by unfold miO; rw [if_pos g]
    have eb : bs a = bs (txt (treeOf a)) := congrArg bs e
    obtain ⟨t1, t2⟩ := twV_self hc
    have hn := adL_len (treeOf a) []
    have hn' : List.length (strs' (adL (treeOf a) [])) = (treeOf a).c + 1 := by rw [List.length_map]; exact hn
    have b1 := imTW_SC (adL (treeOf a) []) (by omega)
    rw [t1, t2] at b1
    have hm := mir_c (treeOf a)
    have lm := txt_len (mir (treeOf a))
    obtain ⟨m1, m2⟩ := treeOf_self (t := mir (treeOf a)) (by omega)
    have b2 := imMi_SC (txt (mir (treeOf a))) (by omega)
    have eMM : miO (txt (mir (treeOf a))) = bs (txt (treeOf a)) := by unfold miO; rw [if_pos m1, m2, mir_mir]
    rw [m1, eMM] at b2
    have lt := txt_len (treeOf a)
    have p0 := tb_L0 x1 (treeOf a) hc (bs (txt (treeOf a))) (ints (exL (treeOf a) 0)) _ 0 rfl (by omega)
    have p1 := tb_L1 x1 (treeOf a) hc _ 0 rfl (by omega)
    have k18 := laws_FnTreesByAddresses_C18a_x1 x1 (bs (txt (treeOf a))) ((List.length (ints (exL (treeOf a) 0)) : Nat) : Int) ((exL (treeOf a) 0).length : Int) false (ints (exL (treeOf a) 0)) _ _ _ _ _ _ _ _ _ _ _ d1 d2 d3 d4 d5 d6 rfl rfl rfl rfl
    rw [eA, eD, eE, eM, eb]
    have q1 : ((List.length (strs' (adL (treeOf a) [])) : Nat) : Int) = IntKind.wrap .i64 (caO a + (1 : Int)) := by unfold caO; rw [w64] <;> omega
    have q2 : (((bs (txt (treeOf a)))).size : Int) = IntKind.wrap .i64 (IntKind.wrap .i64 ((3 : Int) * caO a) + (1 : Int)) := by
      unfold caO
      have w3 : IntKind.wrap .i64 ((3 : Int) * ((treeOf a).c : Int)) = 3 * ((treeOf a).c : Int) := by rw [w64] <;> omega
      rw [w3, bs_size, w64] <;> omega
    by_cases c0 : caO a > (0 : Int)
    · have ne : ((List.length (ints (exL (treeOf a) 0)) : Nat) : Int) ≠ (0 : Int) := by
        have := exL_ne (treeOf a) 0 (by unfold caO at c0; omega)
        rw [List.length_map]
        intro hz
        exact this (List.length_eq_zero_iff.1 (by omega))
      exact laws_FnTreesByAddresses_C16a_i3 _ _ _ _ _ _ _ _ _ _ _ _ _ _ _ _ _ _ _ _ _ _ _ _ _ b1 b2 rfl rfl q1 q2 c0 ne p0 rfl p1 k18
    · exact laws_FnTreesByAddresses_C16a_i6 _ _ _ _ _ _ _ _ _ _ _ _ _ _ _ _ _ _ _ _ _ _ _ _ _ b1 b2 rfl rfl q1 q2 c0 p0 rfl p1 k18

/-- The law of TreesByAddresses. -/
theorem law_Tb (a b : List Int) (_ha : a.length ≤ 2 ^ 63 - 1) (h1 : ∀ n ∈ a, (Lit.int .u8 n).wf = true) (_hb : b.length ≤ 2 ^ 63 - 1) (h2 : ∀ n ∈ b, (Lit.int .u8 n).wf = true) :
    SC cfg.P i_laws_FnTreesByAddresses [.s (.v (.sl (.int .u8)) a), .s (.v (.sl (.int .u8)) b)] (.s (.v .bool true)) [] := by
  by_cases g1 : a.length ≤ 1048576
  · have w : IntKind.wrap .i64 (1048576 - ((a.length : Nat) : Int)) = 1048576 - ((a.length : Nat) : Int) := by rw [w64] <;> omega
    by_cases g2 : a.length + b.length ≤ 1048576
    · have hbig : SC cfg.P i_laws_big [.s (.v (.sl (.int .u8)) a), .s (.v (.sl (.int .u8)) b)] (.s (.v .bool false)) [] := laws_big_p3 _ _ (by omega) (by rw [w]; omega)
      exact laws_FnTreesByAddresses_R1_of _ _ _ (laws_FnTreesByAddresses_C0a_i2 _ _ hbig (tb3 (fun x hx => byte_wf (h1 x hx)) (fun x hx => byte_wf (h2 x hx)) (by omega) (by omega) _))
    · exact laws_FnTreesByAddresses_R1_of _ _ _ (laws_FnTreesByAddresses_C0a_x1 _ _ (laws_big_p2 _ _ (by omega) (by rw [w]; omega)))
  · exact laws_FnTreesByAddresses_R1_of _ _ _ (laws_FnTreesByAddresses_C0a_x1 _ _ (laws_big_p1 _ _ (by omega)))

end Go.AI
