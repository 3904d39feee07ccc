/- Contracts: drops. -/
import Derived.Test.YtcbhdileamhklaaJF
import Derived.Test.YtcbhdileamhklaaWd
set_option autoImplicit false
set_option maxRecDepth 100000
set_option linter.unusedVariables false
namespace Go.AI
open Go.Proofs

theorem indexI_SC (l : List Int) (hl : l.length ≤ 2 ^ 40) (x : Int) : SC cfg.P i_slices_Contains [.s (.v (.sl (.int .i64)) l), .s (.v (.int .i64) x)] (.s (.v .bool (l.contains x))) [] := by
  have key : ∀ (m i : Nat), l.length - i = m → i ≤ l.length →
      ((l.drop i).contains x = true → ∃ j : Nat, LoopSC cfg.P 2 (lb P_slices_Index 0) (slices_Index_L0a l x ((List.length l : Nat) : Int) (i : Int)) .ret (slices_Index_L0X1 (j : Int))) ∧
      ((l.drop i).contains x = false → LoopSC cfg.P 2 (lb P_slices_Index 0) (slices_Index_L0a l x ((List.length l : Nat) : Int) (i : Int)) (.exit 0) (slices_Index_L0X2 l x ((List.length l : Nat) : Int) (l.length : Int) false)) := by
    have hle : List.length l = l.length := rfl
    intro m
    induction m with
    | zero =>
      intro i hm hi
      have e : i = l.length := by omega
      subst e
      refine ⟨fun h => ?_, fun _ => slices_Index_L0a_x3 _ _ _ _ (by rw [hle]; omega)⟩
      rw [List.drop_length] at h
      cases h
    | succ m ih =>
      intro i hm hi
      have hlt : i < l.length := by omega
      obtain ⟨h1, h2⟩ := ih (i + 1) (by omega) (by omega)
      have e1 : IntKind.wrap .i64 ((i : Int) + 1) = ((i + 1 : Nat) : Int) := by rw [w64] <;> omega
      have hg : List.getD l ((i : Int)).toNat (0 : Int) = l[i] := by
        rw [Int.toNat_natCast, List.getD_eq_getElem?_getD, List.getElem?_eq_getElem hlt]; rfl
      have hd : (l.drop i).contains x = (x == l[i] || (l.drop (i + 1)).contains x) := by
        rw [List.drop_eq_getElem_cons hlt, List.contains_cons]
      rw [hd]
      by_cases hx : x = l[i]
      · have hb : (x == l[i]) = true := by rw [beq_iff_eq]; exact hx
        rw [hb]
        exact ⟨fun _ => ⟨i, slices_Index_L0a_x1 _ _ _ _ (by rw [hle]; omega) (by omega) (by rw [hle]; omega) (by rw [hg, ← hx])⟩, fun h => by simp at h⟩
      · have hb : (x == l[i]) = false := by rw [beq_eq_false_iff_ne]; exact hx
        have hne : x ≠ List.getD l ((i : Int)).toNat (0 : Int) := by rw [hg]; first | exact hx | exact fun e => hx e.symm
        rw [hb, Bool.false_or]
        refine ⟨fun h => ?_, fun h => ?_⟩
        · obtain ⟨j, hj⟩ := h1 h
          rw [← e1] at hj
          exact ⟨j, slices_Index_L0a_i2 _ _ _ _ (by rw [hle]; omega) (by omega) (by rw [hle]; omega) hne hj⟩
        · have hj := h2 h
          rw [← e1] at hj
          exact slices_Index_L0a_i2 _ _ _ _ (by rw [hle]; omega) (by omega) (by rw [hle]; omega) hne hj
  obtain ⟨h1, h2⟩ := key l.length 0 (by omega) (by omega)
  rw [List.drop_zero] at h1 h2
  cases h : l.contains x with
  | true =>
    obtain ⟨j, hj⟩ := h1 h
    exact slices_Contains_p1 _ _ _ (slices_Index_p1 _ _ _ hj) (by omega)
  | false => exact slices_Contains_p2 _ _ _ (slices_Index_p2 _ _ _ _ _ _ _ (h2 h)) (by omega)

theorem hasI_SC (l : List Int) (hl : l.length ≤ 2 ^ 40) (x : Int) : SC cfg.P i_spec_l1Has [.s (.v (.sl (.int .i64)) l), .s (.v (.int .i64) x)] (.s (.v .bool (l.contains x))) [] := by
  have key : ∀ (m i : Nat), l.length - i = m → i ≤ l.length →
      ((l.drop i).contains x = true → LoopSC cfg.P 2 (lb P_spec_l1Has 0) (spec_l1Has_L0a x l ((List.length l : Nat) : Int) (i : Int)) .ret (spec_l1Has_L0X1 true)) ∧
      ((l.drop i).contains x = false → LoopSC cfg.P 2 (lb P_spec_l1Has 0) (spec_l1Has_L0a x l ((List.length l : Nat) : Int) (i : Int)) (.exit 0) (spec_l1Has_L0X2 x l ((List.length l : Nat) : Int) (l.length : Int) false)) := by
    have hle : List.length l = l.length := rfl
    intro m
    induction m with
    | zero =>
      intro i hm hi
      have e : i = l.length := by omega
      subst e
      refine ⟨fun h => ?_, fun _ => spec_l1Has_L0a_x3 _ _ _ _ (by rw [hle]; omega)⟩
      rw [List.drop_length] at h
      cases h
    | succ m ih =>
      intro i hm hi
      have hlt : i < l.length := by omega
      obtain ⟨h1, h2⟩ := ih (i + 1) (by omega) (by omega)
      have e1 : IntKind.wrap .i64 ((i : Int) + 1) = ((i + 1 : Nat) : Int) := by rw [w64] <;> omega
      have hg : List.getD l ((i : Int)).toNat (0 : Int) = l[i] := by
        rw [Int.toNat_natCast, List.getD_eq_getElem?_getD, List.getElem?_eq_getElem hlt]; rfl
      have hd : (l.drop i).contains x = (x == l[i] || (l.drop (i + 1)).contains x) := by
        rw [List.drop_eq_getElem_cons hlt, List.contains_cons]
      rw [hd]
      by_cases hx : x = l[i]
      · have hb : (x == l[i]) = true := by rw [beq_iff_eq]; exact hx
        rw [hb]
        exact ⟨fun _ => spec_l1Has_L0a_x1 _ _ _ _ (by rw [hle]; omega) (by omega) (by rw [hle]; omega) (by rw [hg, ← hx]), fun h => by simp at h⟩
      · have hb : (x == l[i]) = false := by rw [beq_eq_false_iff_ne]; exact hx
        have hne : List.getD l ((i : Int)).toNat (0 : Int) ≠ x := by rw [hg]; first | exact hx | exact fun e => hx e.symm
        rw [hb, Bool.false_or]
        refine ⟨fun h => ?_, fun h => ?_⟩
        · have hj := h1 h
          rw [← e1] at hj
          exact spec_l1Has_L0a_i2 _ _ _ _ (by rw [hle]; omega) (by omega) (by rw [hle]; omega) hne hj
        · have hj := h2 h
          rw [← e1] at hj
          exact spec_l1Has_L0a_i2 _ _ _ _ (by rw [hle]; omega) (by omega) (by rw [hle]; omega) hne hj
  obtain ⟨h1, h2⟩ := key l.length 0 (by omega) (by omega)
  rw [List.drop_zero] at h1 h2
  cases h : l.contains x with
  | true => exact spec_l1Has_p1 _ _ _ (h1 h)
  | false => exact spec_l1Has_p2 _ _ _ _ _ _ _ (h2 h)


theorem index_at (w B C : List Int) (x : Int) (e : w = B ++ x :: C) (hn : x ∉ B) (hl : w.length ≤ 2 ^ 20) : SC cfg.P i_slices_Index [.s (.v (.sl (.int .i64)) w), .s (.v (.int .i64) x)] (.s (.v (.int .i64) (B.length : Int))) [] := by
  have hle : B.length < w.length := by rw [e]; simp
  have key : ∀ (m i : Nat), B.length - i = m → i ≤ B.length → LoopSC cfg.P 2 (lb P_slices_Index 0) (slices_Index_L0a w x ((List.length w : Nat) : Int) (i : Int)) .ret (slices_Index_L0X1 (B.length : Int)) := by
    intro m
    induction m with
    | zero =>
      intro i hm hi
      have ei : i = B.length := by omega
      subst ei
      exact slices_Index_L0a_x1 _ _ _ _ (by omega) (by omega) (by omega) (by rw [e, get_mid])
    | succ m ih =>
      intro i hm hi
      have k := ih (i + 1) (by omega) (by omega)
      rw [← wrap_succ (by omega)] at k
      have hb : i < B.length := by omega
      have hg : List.getD w ((i : Int)).toNat (0 : Int) = B[i] := by
        rw [Int.toNat_natCast, List.getD_eq_getElem?_getD, e, List.getElem?_append_left hb, List.getElem?_eq_getElem hb]; rfl
      exact slices_Index_L0a_i2 _ _ _ _ (by omega) (by omega) (by omega) (by rw [hg]; exact fun e2 => hn (by rw [e2]; exact List.getElem_mem hb)) k
  exact slices_Index_p1 _ _ _ (key _ 0 rfl (by omega))

theorem getD_gt {w A W : List Int} {n : Int} {i : Nat} (e : w = A ++ n :: W) (h : A.length < i) (hl : i < w.length) : List.getD w i (0 : Int) ∈ W := by
  obtain ⟨j, rfl⟩ : ∃ j, i = A.length + (j + 1) := ⟨i - A.length - 1, by omega⟩
  subst e
  have hj : j < W.length := by simp at hl; omega
  rw [List.getD_eq_getElem?_getD, List.getElem?_append_right (by omega), Nat.add_sub_cancel_left, List.getElem?_cons_succ, List.getElem?_eq_getElem hj]
  exact List.getElem_mem hj

theorem ilast_L (w A W : List Int) (n : Int) (e : w = A ++ n :: W) (hn : n ∉ W) (hl : w.length ≤ 2 ^ 20) (x6 : Int) : ∀ (m i : Nat) (f : Int), w.length - i = m → i ≤ w.length → (i ≤ A.length ∨ f = (A.length : Int)) →
    LoopSC cfg.P 2 (lb P_impl_dropped 0) (impl_dropped_L0a w n f x6 w ((List.length w : Nat) : Int) (i : Int)) (.exit 0) (impl_dropped_L0X1 w n (A.length : Int) x6 w ((List.length w : Nat) : Int) (w.length : Int) false) := by
  have hle : A.length < w.length := by rw [e]; simp
  intro m
  induction m with
  | zero =>
    intro i f hm hi hf
    have ei : i = w.length := by omega
    subst ei
    have : f = (A.length : Int) := by omega
    subst this
    exact impl_dropped_L0a_x3 _ _ _ _ _ _ _ (by omega)
  | succ m ih =>
    intro i f hm hi hf
    have hlt : i < w.length := by omega
    by_cases hg : List.getD w ((i : Int)).toNat (0 : Int) = n
    · have hi2 : i ≤ A.length := by
        apply Classical.byContradiction
        intro hc
        exact hn (by rw [← hg, Int.toNat_natCast]; exact getD_gt e (by omega) hlt)
      have k := ih (i + 1) (i : Int) (by omega) (by omega) (by omega)
      rw [← wrap_succ (by omega)] at k
      exact impl_dropped_L0a_i1 _ _ _ _ _ _ _ (by omega) (by omega) (by omega) hg k
    · have hi2 : i ≠ A.length := fun e2 => hg (by rw [e2, e]; exact get_mid A n W)
      have k := ih (i + 1) f (by omega) (by omega) (by omega)
      rw [← wrap_succ (by omega)] at k
      exact impl_dropped_L0a_i2 _ _ _ _ _ _ _ (by omega) (by omega) (by omega) hg k

theorem slast_L (w A W : List Int) (n : Int) (e : w = A ++ n :: W) (hn : n ∉ W) (hl : w.length ≤ 2 ^ 20) (x6 : Int) : ∀ (m i : Nat) (f : Int), w.length - i = m → i ≤ w.length → (i ≤ A.length ∨ f = (A.length : Int)) →
    LoopSC cfg.P 1 (lb P_spec_wdDrop 1) (spec_wdDrop_L1a w n f x6 w ((List.length w : Nat) : Int) (i : Int)) (.exit 2) (spec_wdDrop_L1X1 w n (A.length : Int) x6 w ((List.length w : Nat) : Int) (w.length : Int) false) := by
  have hle : A.length < w.length := by rw [e]; simp
  intro m
  induction m with
  | zero =>
    intro i f hm hi hf
    have ei : i = w.length := by omega
    subst ei
    have : f = (A.length : Int) := by omega
    subst this
    exact spec_wdDrop_L1a_x3 _ _ _ _ _ _ _ (by omega)
  | succ m ih =>
    intro i f hm hi hf
    have hlt : i < w.length := by omega
    by_cases hg : List.getD w ((i : Int)).toNat (0 : Int) = n
    · have hi2 : i ≤ A.length := by
        apply Classical.byContradiction
        intro hc
        exact hn (by rw [← hg, Int.toNat_natCast]; exact getD_gt e (by omega) hlt)
      have k := ih (i + 1) (i : Int) (by omega) (by omega) (by omega)
      rw [← wrap_succ (by omega)] at k
      exact spec_wdDrop_L1a_i1 _ _ _ _ _ _ _ (by omega) (by omega) (by omega) hg k
    · have hi2 : i ≠ A.length := fun e2 => hg (by rw [e2, e]; exact get_mid A n W)
      have k := ih (i + 1) f (by omega) (by omega) (by omega)
      rw [← wrap_succ (by omega)] at k
      exact spec_wdDrop_L1a_i2 _ _ _ _ _ _ _ (by omega) (by omega) (by omega) hg k

theorem imap_L (w : List Int) (x6 : Int) (M base : List Int) (hM : Al Sm M) (hl : M.length + base.length ≤ 2 ^ 20) : ∀ (m i : Nat), M.length - i = m → i ≤ M.length →
    LoopSC cfg.P 2 (lb P_impl_dropped 1) (impl_dropped_L1a w x6 M ((List.length M : Nat) : Int) (i : Int) (base ++ (M.map dm).take i)) (.exit 2) (impl_dropped_L1X1 w x6 M ((List.length M : Nat) : Int) (M.length : Int) false (base ++ M.map dm)) := by
  intro m
  induction m with
  | zero =>
    intro i hm hi
    have ei : i = M.length := by omega
    subst ei
    rw [List.take_of_length_le (by simp)]
    exact impl_dropped_L1a_x3 _ _ _ _ _ _ (by omega)
  | succ m ih =>
    intro i hm hi
    have hlt : i < M.length := by omega
    have k := ih (i + 1) (by omega) (by omega)
    have hg : List.getD M ((i : Int)).toNat (0 : Int) = M[i] := by
      rw [Int.toNat_natCast, List.getD_eq_getElem?_getD, List.getElem?_eq_getElem hlt]; rfl
    have hs := hM M[i] (List.getElem_mem hlt)
    obtain ⟨_, w1, w2⟩ := neg_w hs
    have et : (M.map dm).take (i + 1) = (M.map dm).take i ++ [dm M[i]] := by
      rw [List.take_add_one, List.getElem?_map, List.getElem?_eq_getElem hlt]; rfl
    rw [et, ← List.append_assoc, ← wrap_succ (by omega)] at k
    by_cases hp : M[i] > 0
    · have ed : dm M[i] = IntKind.wrap .i64 (List.getD M ((i : Int)).toNat (0 : Int) - (1 : Int)) := by rw [hg, w2]; unfold dm; rw [if_pos hp]
      rw [ed] at k
      exact impl_dropped_L1a_i1 _ _ _ _ _ _ (by omega) (by omega) (by omega) (by rw [hg]; exact hp) (zI _ _ (by simp; omega)) k
    · have ed : dm M[i] = IntKind.wrap .i64 (List.getD M ((i : Int)).toNat (0 : Int) + (1 : Int)) := by rw [hg, w1]; unfold dm; rw [if_neg hp]
      rw [ed] at k
      exact impl_dropped_L1a_i2 _ _ _ _ _ _ (by omega) (by omega) (by omega) (by rw [hg]; exact hp) (zI _ _ (by simp; omega)) k

theorem smap_L (w : List Int) (x6 : Int) (M base : List Int) (hM : Al Sm M) (hl : M.length + base.length ≤ 2 ^ 20) : ∀ (m i : Nat), M.length - i = m → i ≤ M.length →
    LoopSC cfg.P 1 (lb P_spec_wdDrop 3) (spec_wdDrop_L3a w x6 M ((List.length M : Nat) : Int) (i : Int) (base ++ (M.map dm).take i)) (.exit 6) (spec_wdDrop_L3X1 w x6 M ((List.length M : Nat) : Int) (M.length : Int) false (base ++ M.map dm)) := by
  intro m
  induction m with
  | zero =>
    intro i hm hi
    have ei : i = M.length := by omega
    subst ei
    rw [List.take_of_length_le (by simp)]
    exact spec_wdDrop_L3a_x3 _ _ _ _ _ _ (by omega)
  | succ m ih =>
    intro i hm hi
    have hlt : i < M.length := by omega
    have k := ih (i + 1) (by omega) (by omega)
    have hg : List.getD M ((i : Int)).toNat (0 : Int) = M[i] := by
      rw [Int.toNat_natCast, List.getD_eq_getElem?_getD, List.getElem?_eq_getElem hlt]; rfl
    have hs := hM M[i] (List.getElem_mem hlt)
    obtain ⟨_, w1, w2⟩ := neg_w hs
    have et : (M.map dm).take (i + 1) = (M.map dm).take i ++ [dm M[i]] := by
      rw [List.take_add_one, List.getElem?_map, List.getElem?_eq_getElem hlt]; rfl
    rw [et, ← List.append_assoc, ← wrap_succ (by omega)] at k
    by_cases hp : M[i] > 0
    · have ed : dm M[i] = IntKind.wrap .i64 (List.getD M ((i : Int)).toNat (0 : Int) - (1 : Int)) := by rw [hg, w2]; unfold dm; rw [if_pos hp]
      rw [ed] at k
      exact spec_wdDrop_L3a_i1 _ _ _ _ _ _ (by omega) (by omega) (by omega) (by rw [hg]; exact hp) (zI _ _ (by simp; omega)) k
    · have ed : dm M[i] = IntKind.wrap .i64 (List.getD M ((i : Int)).toNat (0 : Int) + (1 : Int)) := by rw [hg, w1]; unfold dm; rw [if_neg hp]
      rw [ed] at k
      exact spec_wdDrop_L3a_i2 _ _ _ _ _ _ (by omega) (by omega) (by omega) (by rw [hg]; exact hp) (zI _ _ (by simp; omega)) k

theorem sfirst_L (w B C : List Int) (n : Int) (e : w = B ++ -n :: C) (hn : -n ∉ B) (sn : Sm n) (hl : w.length ≤ 2 ^ 20) (x5 : Int) : ∀ (i : Nat) (f : Int), i ≤ w.length → (B.length < i ∨ f = (B.length : Int)) →
    LoopSC cfg.P 1 (lb P_spec_wdDrop 2) (spec_wdDrop_L2a w n x5 f ((i : Int) - 1)) (.exit 4) (spec_wdDrop_L2X1 w n x5 (B.length : Int) (-1 : Int) false) := by
  obtain ⟨wn, _, _⟩ := neg_w sn
  intro i
  induction i with
  | zero =>
    intro f hi hf
    have : f = (B.length : Int) := by omega
    subst this
    exact spec_wdDrop_L2a_x3 _ _ _ _ _ (by omega)
  | succ i ih =>
    intro f hi hf
    have e1 : ((i + 1 : Nat) : Int) - 1 = (i : Int) := by omega
    have w1 : IntKind.wrap .i64 ((i : Int) - (1 : Int)) = (i : Int) - 1 := by rw [w64] <;> omega
    rw [e1]
    by_cases hg : List.getD w ((i : Int)).toNat (0 : Int) = -n
    · have hi2 : B.length ≤ i := by
        apply Classical.byContradiction
        intro hc
        have hb : i < B.length := by omega
        rw [Int.toNat_natCast, List.getD_eq_getElem?_getD, e, List.getElem?_append_left hb, List.getElem?_eq_getElem hb] at hg
        exact hn (by rw [← hg]; exact List.getElem_mem hb)
      have k := ih (i : Int) (by omega) (by omega)
      rw [← w1] at k
      exact spec_wdDrop_L2a_i1 _ _ _ _ _ (by omega) (by omega) (by omega) (by rw [hg, wn]) k
    · have hi2 : i ≠ B.length := fun e2 => hg (by rw [e2, e]; exact get_mid B (-n) C)
      have k := ih f (by omega) (by omega)
      rw [← w1] at k
      exact spec_wdDrop_L2a_i2 _ _ _ _ _ (by omega) (by omega) (by omega) (by rw [wn]; exact hg) k

theorem cut_m (A M r : List Int) (n : Int) : cutL (A ++ n :: (M ++ r)) ((A.length + 1 : Nat) : Int) ((A.length + 1 + M.length : Nat) : Int) = M := by
  unfold cutL
  rw [Int.toNat_natCast, Int.toNat_natCast]
  have e : A ++ n :: (M ++ r) = ((A ++ [n]) ++ M) ++ r := by simp
  rw [e, List.take_append_of_le_length (by simp; omega), List.take_of_length_le (by simp; omega), List.drop_append_of_le_length (by simp), List.drop_of_length_le (by simp), List.nil_append]

theorem cut_t (B C : List Int) (x : Int) : cutL (B ++ x :: C) ((B.length + 1 : Nat) : Int) (((B ++ x :: C).length : Nat) : Int) = C := by
  unfold cutL
  rw [Int.toNat_natCast, Int.toNat_natCast, List.take_of_length_le (Nat.le_refl _)]
  have e : B ++ x :: C = (B ++ [x]) ++ C := by simp
  rw [e, List.drop_append_of_le_length (by simp), List.drop_of_length_le (by simp), List.nil_append]

theorem dec_more {v : List Int} {n : Int} {A M C : List Int} (d : Dec v n A M C) : n ∉ M ++ -n :: C ∧ -n ∉ A ++ n :: M ∧ v = (A ++ n :: M) ++ -n :: C := by
  have hp := d.pos
  refine ⟨fun h => ?_, fun h => ?_, by rw [d.eq]; simp⟩
  · rcases List.mem_append.1 h with h | h
    · have := d.m n h; omega
    · rcases List.mem_cons.1 h with h | h
      · omega
      · have := d.c n h; omega
  · rcases List.mem_append.1 h with h | h
    · have := d.a _ h; omega
    · rcases List.mem_cons.1 h with h | h
      · omega
      · have := d.m _ h; omega

theorem dropped_SC (v A M C : List Int) (n : Int) (d : Dec v n A M C) (hb : Al Sm v) (hl : v.length ≤ 2 ^ 19) : SC cfg.P i_impl_dropped [.s (.v (.sl (.int .i64)) v), .s (.v (.int .i64) n)] (.s (.v (.sl (.int .i64)) (drp A M C))) [] := by
  obtain ⟨h1, h2, h3⟩ := dec_more d
  have sn : Sm n := hb n (by rw [d.eq]; simp)
  obtain ⟨wn, _, _⟩ := neg_w sn
  have sM : Al Sm M := fun x hx => hb x (by rw [d.eq]; simp [hx])
  have hlen : v.length = A.length + 1 + M.length + 1 + C.length := by rw [d.eq]; simp; omega
  have hB : (A ++ n :: M).length = A.length + 1 + M.length := by simp; omega
  have a1 := index_at v (A ++ n :: M) C (-n) h3 h2 (by omega)
  rw [hB] at a1
  have a2 := ilast_L v A (M ++ -n :: C) n d.eq h1 (by omega) ((A.length + 1 + M.length : Nat) : Int) v.length 0 0 rfl (by omega) (by omega)
  have w1 : IntKind.wrap .i64 ((A.length : Int) + (1 : Int)) = ((A.length + 1 : Nat) : Int) := by rw [w64] <;> omega
  have w2 : IntKind.wrap .i64 (((A.length + 1 + M.length : Nat) : Int) + (1 : Int)) = ((A.length + 1 + M.length + 1 : Nat) : Int) := by rw [w64] <;> omega
  have c1 : cutL v (0 : Int) (A.length : Int) = A := by rw [d.eq]; exact cut_l A _
  have c2 : cutL v ((A.length + 1 : Nat) : Int) ((A.length + 1 + M.length : Nat) : Int) = M := by rw [d.eq]; exact cut_m A M _ n
  have c3 : cutL v ((A.length + 1 + M.length + 1 : Nat) : Int) ((v.length : Nat) : Int) = C := by
    have := cut_t (A ++ n :: M) C (-n)
    rw [← h3, hB] at this
    exact this
  have a3 := imap_L v ((A.length + 1 + M.length : Nat) : Int) M A sM (by omega) M.length 0 rfl (by omega)
  rw [List.take_zero, List.append_nil] at a3
  have := impl_dropped_p1 v n _ _ _ _ _ _ _ _ _ A _ _ _ _ _ _ _ (by rw [wn]; exact a1) a2 (by omega) (by omega) (by rw [c1]; exact slices_Clone_SC A (by omega)) (by rw [w1]; omega) (by rw [w1]; omega) (by omega) (by rw [w1, c2]; exact a3) (by rw [w2]; omega) (by rw [w2]; omega) (by rw [w2, c3]; exact zI _ _ (by simp; omega))
  rw [w2, c3, List.append_assoc] at this
  exact this.view

/-! ### Which letter -/

theorem dq_facts (v : List Int) (k : Nat) (hk : k ≤ 50) : IntKind.wrap .i64 (0 - (k : Int)) = -(k : Int) ∧ IntKind.wrap .i64 ((k : Int) + 1) = (k : Int) + 1 ∧ IntKind.wrap .i64 (-(k : Int) - 1) = -(k : Int) - 1 ∧ IntKind.wrap .i64 ((k : Int) - 1) = (k : Int) - 1 := by
  refine ⟨?_, ?_, ?_, ?_⟩ <;> rw [w64] <;> omega

theorem droppable_L (v : List Int) (hl : v.length ≤ 2 ^ 40) : ∀ k : Nat, k ≤ 50 →
    (dpF k v ≠ 0 → LoopSC cfg.P 1 (lb P_impl_droppable 0) (impl_droppable_L0a v (k : Int)) .ret (impl_droppable_L0X1 (dpF k v : Int))) ∧
    (dpF k v = 0 → LoopSC cfg.P 1 (lb P_impl_droppable 0) (impl_droppable_L0a v (k : Int)) (.exit 0) (impl_droppable_L0X2 v (0 : Int) false))
  | 0, _ => ⟨fun h => absurd rfl h, fun _ => impl_droppable_L0a_x6 _ _ (by decide)⟩
  | k + 1, hk => by
    obtain ⟨i1, i2⟩ := droppable_L v hl k (by omega)
    obtain ⟨w1, w2, w3, w4⟩ := dq_facts v (k + 1) hk
    have w4 : IntKind.wrap .i64 (((k + 1 : Nat) : Int) - 1) = (k : Int) := by rw [w4]; omega
    have h1 := indexI_SC v hl ((k + 1 : Nat) : Int)
    have h2 := indexI_SC v hl (-((k + 1 : Nat) : Int))
    have h3 := indexI_SC v hl (((k + 1 : Nat) : Int) + 1)
    have h4 := indexI_SC v hl (-((k + 1 : Nat) : Int) - 1)
    have go : ∀ (e : AEx) (s : St), dq v ((k + 1 : Nat) : Int) = false → LoopSC cfg.P 1 (lb P_impl_droppable 0) (impl_droppable_L0a v (k : Int)) e s → LoopSC cfg.P 1 (lb P_impl_droppable 0) (impl_droppable_L0a v ((k + 1 : Nat) : Int)) e s := by
      intro e s hq hn
      unfold dq at hq
      rw [← w4] at hn
      cases b1 : v.contains ((k + 1 : Nat) : Int) with
      | false => rw [b1] at h1; exact impl_droppable_L0a_i5 _ _ (by omega) h1 hn
      | true =>
        rw [b1] at h1 hq
        cases b2 : v.contains (-((k + 1 : Nat) : Int)) with
        | false => rw [b2] at h2; exact impl_droppable_L0a_i4 _ _ (by omega) h1 (by rw [w1]; exact h2) hn
        | true =>
          rw [b2] at h2 hq
          cases b3 : v.contains (((k + 1 : Nat) : Int) + 1) with
          | true => rw [b3] at h3; exact impl_droppable_L0a_i1 _ _ (by omega) h1 (by rw [w1]; exact h2) (by rw [w2]; exact h3) hn
          | false =>
            rw [b3] at h3 hq
            cases b4 : v.contains (-((k + 1 : Nat) : Int) - 1) with
            | true => rw [b4] at h4; exact impl_droppable_L0a_i2 _ _ (by omega) h1 (by rw [w1]; exact h2) (by rw [w2]; exact h3) (by rw [w1, w3]; exact h4) hn
            | false => rw [b4] at hq; cases hq
    rw [dpF]
    cases hq : dq v ((k + 1 : Nat) : Int) with
    | false =>
      rw [if_neg (by simp)]
      exact ⟨fun h => go _ _ hq (i1 h), fun h => go _ _ hq (i2 h)⟩
    | true =>
      rw [if_pos rfl]
      refine ⟨fun _ => ?_, fun h => absurd h (by omega)⟩
      unfold dq at hq
      simp only [Bool.and_eq_true, Bool.not_eq_true'] at hq
      obtain ⟨⟨⟨b1, b2⟩, b3⟩, b4⟩ := hq
      rw [b1] at h1; rw [b2] at h2; rw [b3] at h3; rw [b4] at h4
      exact impl_droppable_L0a_x3 _ _ (by omega) h1 (by rw [w1]; exact h2) (by rw [w2]; exact h3) (by rw [w1, w3]; exact h4)

theorem droppable_SC (v : List Int) (hl : v.length ≤ 2 ^ 40) : SC cfg.P i_impl_droppable [.s (.v (.sl (.int .i64)) v)] (.s (.v (.int .i64) (dpF 21 v : Int))) [] := by
  obtain ⟨k1, k2⟩ := droppable_L v hl 21 (by omega)
  by_cases h : dpF 21 v = 0
  · rw [h]; exact impl_droppable_p2 _ _ _ _ (k2 h)
  · exact impl_droppable_p1 _ _ (k1 h)

theorem wdDrop_found (v A M C : List Int) (k : Nat) (d : Dec v (k : Int) A M C) (hq : dq v (k : Int) = true) (hk : k ≤ 50) (hb : Al Sm v) (hl : v.length ≤ 2 ^ 19) :
    LoopSC cfg.P 1 (lb P_spec_wdDrop 0) (spec_wdDrop_L0a v (k : Int)) .ret (spec_wdDrop_L0X1 true (drp A M C)) := by
  obtain ⟨h1, h2, h3⟩ := dec_more d
  have hpos := d.pos
  have sn : Sm (k : Int) := hb _ (by rw [d.eq]; simp)
  have sM : Al Sm M := fun x hx => hb x (by rw [d.eq]; simp [hx])
  have hlen : v.length = A.length + 1 + M.length + 1 + C.length := by rw [d.eq]; simp; omega
  have hB : (A ++ (k : Int) :: M).length = A.length + 1 + M.length := by simp; omega
  obtain ⟨w1, w2, w3, w4⟩ := dq_facts v k hk
  have g1 := hasI_SC v (by omega) (k : Int)
  have g2 := hasI_SC v (by omega) (-(k : Int))
  have g3 := hasI_SC v (by omega) ((k : Int) + 1)
  have g4 := hasI_SC v (by omega) (-(k : Int) - 1)
  unfold dq at hq
  simp only [Bool.and_eq_true, Bool.not_eq_true'] at hq
  obtain ⟨⟨⟨b1, b2⟩, b3⟩, b4⟩ := hq
  rw [b1] at g1; rw [b2] at g2; rw [b3] at g3; rw [b4] at g4
  have a2 := slast_L v A (M ++ -(k : Int) :: C) (k : Int) d.eq h1 (by omega) (0 : Int) v.length 0 0 rfl (by omega) (by omega)
  have wl : IntKind.wrap .i64 (((List.length v : Nat) : Int) - (1 : Int)) = (v.length : Int) - 1 := by rw [w64] <;> omega
  have a4 := sfirst_L v (A ++ (k : Int) :: M) C (k : Int) h3 h2 sn (by omega) (A.length : Int) v.length 0 (by omega) (by omega)
  rw [hB] at a4
  have u1 : IntKind.wrap .i64 ((A.length : Int) + (1 : Int)) = ((A.length + 1 : Nat) : Int) := by rw [w64] <;> omega
  have u2 : IntKind.wrap .i64 (((A.length + 1 + M.length : Nat) : Int) + (1 : Int)) = ((A.length + 1 + M.length + 1 : Nat) : Int) := by rw [w64] <;> omega
  have c1 : cutL v (0 : Int) (A.length : Int) = A := by rw [d.eq]; exact cut_l A _
  have c2 : cutL v ((A.length + 1 : Nat) : Int) ((A.length + 1 + M.length : Nat) : Int) = M := by rw [d.eq]; exact cut_m A M _ _
  have c3 : cutL v ((A.length + 1 + M.length + 1 : Nat) : Int) ((v.length : Nat) : Int) = C := by
    have := cut_t (A ++ (k : Int) :: M) C (-(k : Int))
    rw [← h3, hB] at this
    exact this
  have a3 := smap_L v ((A.length + 1 + M.length : Nat) : Int) M A sM (by omega) M.length 0 rfl (by omega)
  rw [List.take_zero, List.append_nil] at a3
  have := spec_wdDrop_L0a_x3 v (k : Int) _ _ _ _ _ _ _ _ _ _ _ _ _ _ A _ _ _ _ _ _ _ (by omega) g1 (by rw [w1]; exact g2) (by rw [w2]; exact g3) (by rw [w1, w3]; exact g4) a2 (by rw [wl]; exact a4) (by omega) (by omega) (by rw [c1]; exact own_SC A (by omega)) (by rw [u1]; omega) (by rw [u1]; omega) (by omega) (by rw [u1, c2]; exact a3) (by rw [u2]; omega) (by rw [u2]; omega) (by rw [u2, c3]; exact zI _ _ (by simp; omega))
  rw [u2, c3, List.append_assoc] at this
  exact this

theorem wdDrop_L (v : List Int) (hs : So v) (nz : Al Nz v) (hb : Al Sm v) (hl : v.length ≤ 2 ^ 19) : ∀ k : Nat, k ≤ 50 →
    (∀ A M C, dpF k v ≠ 0 → Dec v (dpF k v : Int) A M C → LoopSC cfg.P 1 (lb P_spec_wdDrop 0) (spec_wdDrop_L0a v (k : Int)) .ret (spec_wdDrop_L0X1 true (drp A M C))) ∧
    (dpF k v = 0 → LoopSC cfg.P 1 (lb P_spec_wdDrop 0) (spec_wdDrop_L0a v (k : Int)) (.exit 0) (spec_wdDrop_L0X2 v (0 : Int) false))
  | 0, _ => ⟨fun _ _ _ h => absurd rfl h, fun _ => spec_wdDrop_L0a_x6 _ _ (by decide)⟩
  | k + 1, hk => by
    obtain ⟨i1, i2⟩ := wdDrop_L v hs nz hb hl k (by omega)
    obtain ⟨w1, w2, w3, w4⟩ := dq_facts v (k + 1) hk
    have w4 : IntKind.wrap .i64 (((k + 1 : Nat) : Int) - 1) = (k : Int) := by rw [w4]; omega
    have h1 := hasI_SC v (by omega) ((k + 1 : Nat) : Int)
    have h2 := hasI_SC v (by omega) (-((k + 1 : Nat) : Int))
    have h3 := hasI_SC v (by omega) (((k + 1 : Nat) : Int) + 1)
    have h4 := hasI_SC v (by omega) (-((k + 1 : Nat) : Int) - 1)
    have go : ∀ (e : AEx) (s : St), dq v ((k + 1 : Nat) : Int) = false → LoopSC cfg.P 1 (lb P_spec_wdDrop 0) (spec_wdDrop_L0a v (k : Int)) e s → LoopSC cfg.P 1 (lb P_spec_wdDrop 0) (spec_wdDrop_L0a v ((k + 1 : Nat) : Int)) e s := by
      intro e s hq hn
      unfold dq at hq
      rw [← w4] at hn
      cases b1 : v.contains ((k + 1 : Nat) : Int) with
      | false => rw [b1] at h1; exact spec_wdDrop_L0a_i5 _ _ (by omega) h1 hn
      | true =>
        rw [b1] at h1 hq
        cases b2 : v.contains (-((k + 1 : Nat) : Int)) with
        | false => rw [b2] at h2; exact spec_wdDrop_L0a_i4 _ _ (by omega) h1 (by rw [w1]; exact h2) hn
        | true =>
          rw [b2] at h2 hq
          cases b3 : v.contains (((k + 1 : Nat) : Int) + 1) with
          | true => rw [b3] at h3; exact spec_wdDrop_L0a_i1 _ _ (by omega) h1 (by rw [w1]; exact h2) (by rw [w2]; exact h3) hn
          | false =>
            rw [b3] at h3 hq
            cases b4 : v.contains (-((k + 1 : Nat) : Int) - 1) with
            | true => rw [b4] at h4; exact spec_wdDrop_L0a_i2 _ _ (by omega) h1 (by rw [w1]; exact h2) (by rw [w2]; exact h3) (by rw [w1, w3]; exact h4) hn
            | false => rw [b4] at hq; cases hq
    rw [dpF]
    cases hq : dq v ((k + 1 : Nat) : Int) with
    | false =>
      rw [if_neg (by simp)]
      exact ⟨fun A M C h d => go _ _ hq (i1 A M C h d), fun h => go _ _ hq (i2 h)⟩
    | true =>
      rw [if_pos rfl]
      exact ⟨fun A M C _ d => wdDrop_found v A M C (k + 1) d hq hk hb hl, fun h => absurd h (by omega)⟩

/-- The word behind one drop, or the word itself. -/
theorem wdDrop_yes (v A M C : List Int) (hs : So v) (nz : Al Nz v) (hg : Al Gd v) (hl : v.length ≤ 2 ^ 19) (h : dpF 21 v ≠ 0) (d : Dec v (dpF 21 v : Int) A M C) : SC cfg.P i_spec_wdDrop [.s (.v (.sl (.int .i64)) v)] (.tup [.v (.sl (.int .i64)) (drp A M C), .v .bool true]) [] := by
  have e := dpF_great v hg 19
  have := (wdDrop_L v hs nz (gd_sm hg) hl 40 (by omega)).1 A M C (by rw [e]; exact h) (by rw [e]; exact d)
  exact (spec_wdDrop_p1 _ _ _ this).viewT

theorem wdDrop_no (v : List Int) (hs : So v) (nz : Al Nz v) (hg : Al Gd v) (hl : v.length ≤ 2 ^ 19) (h : dpF 21 v = 0) : SC cfg.P i_spec_wdDrop [.s (.v (.sl (.int .i64)) v)] (.tup [.v (.sl (.int .i64)) v, .v .bool false]) [] := by
  have e := dpF_great v hg 19
  exact spec_wdDrop_p2 _ _ _ _ ((wdDrop_L v hs nz (gd_sm hg) hl 40 (by omega)).2 (by rw [e]; exact h))

end Go.AI
