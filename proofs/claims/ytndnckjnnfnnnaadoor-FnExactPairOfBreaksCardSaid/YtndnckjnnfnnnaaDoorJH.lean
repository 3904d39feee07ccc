/- A part of the road: what it proves stands in its last texts. -/
import Derived.Test.YtndnckjnnfnnnaaDoorJF
section
/- Contracts: the reference's parting of an interval, whole. -/
set_option autoImplicit false
set_option maxRecDepth 100000
set_option linter.unusedVariables false
namespace Go.AI
open Go.Proofs

theorem cutR_len (acc : List UInt8 → Option (List UInt8)) : ∀ (f : Nat) (a : List UInt8) (x y : List (List UInt8)), cutR acc f a = some (x, y) → x.length = y.length ∧ x.length ≤ 9
  | 0, a, x, y, h => by simp [cutR] at h
  | f + 1, a, x, y, h => by
    unfold cutR at h
    split at h
    · simp only [Option.some.injEq, Prod.mk.injEq] at h
      rw [← h.1, ← h.2]
      simp
    · split at h
      · cases h
      · rename_i x1 y1 h1
        split at h
        · cases h
        · rename_i x2 y2 h2
          split at h
          · cases h
          · simp only [Option.some.injEq, Prod.mk.injEq] at h
            have i1 := cutR_len acc f _ _ _ h1
            have i2 := cutR_len acc f _ _ _ h2
            rw [← h.1, ← h.2]
            simp only [List.length_append]
            omega

theorem cutR_some (acc : List UInt8 → Option (List UInt8)) (f : Nat) (a : List UInt8) {b : List UInt8} (h : acc a = some b) : cutR acc (f + 1) a = some ([a], [b]) := by
  unfold cutR
  rw [h]

abbrev splitRes (R : Option (List (List UInt8) × List (List UInt8))) : AV := .tup [.own t_string .str (sp1 R), .own t_string .str (sp2 R), .v .bool R.isSome]

theorem mpSplit_SC (X Y : List (Int × Int)) (L : List Int) (h : SplitOK X Y L) : ∀ (f : Nat) (a : List UInt8), bits01 a → a.length + f = 9 →
    SC cfg.P i_spec_mpSplit [.s (.v (.sl FrK) X), .s (.v (.sl FrK) Y), .s (.v (.sl (.int .i64)) L), .s (.v .str (bs a))] (splitRes (cutR (accR X Y L) f a)) []
  | 0, a, h01, hf => by
    exact spec_mpSplit_p1 X Y L (bs a) (by rw [bs_size]; omega)
  | f + 1, a, h01, hf => by
    have hn : a.length ≤ 8 := by omega
    have i48 := mpSplit_SC X Y L h f (a ++ [48]) (fun c hc => by rcases List.mem_append.1 hc with hc | hc; exact h01 c hc; exact .inl (List.mem_singleton.1 hc)) (by simp; omega)
    have i49 := mpSplit_SC X Y L h f (a ++ [49]) (fun c hc => by rcases List.mem_append.1 hc with hc | hc; exact h01 c hc; exact .inr (List.mem_singleton.1 hc)) (by simp; omega)
    rw [← bs_append] at i48 i49
    obtain ⟨b1, b2, b3, b4⟩ := frA_bd a hn
    have sFB : FB (frA a) := ⟨b1, by omega, b3, by omega⟩
    have H1 : ¬ (((bs a).size : Int) > (8 : Int)) := by rw [bs_size]; omega
    have H2 : SC cfg.P i_spec_mpOf [.s (.v .str (bs a))] (.s (.v FrK (frA a))) [] := mpOf_SC a (by omega) h01
    have H3 : LoopSC cfg.P 4 (lb P_spec_mpSplit 0) (spec_mpSplit_L0a X Y L (bs a) (0 : Int) (frA a)) (.exit 0) (spec_mpSplit_L0X1 X Y L (bs a) ((kS X L.length (frA a) L.length 0 : Nat) : Int) false (frA a)) :=
      splitK_L X Y L (bs a) (frA a) sFB (fun x hx => (h.hX x hx).fb) h.lX h.l1 L.length 0 (by omega) h.l0
    have hk := kS_lt X L.length (frA a) L.length 0 h.l0
    have hge := kS_ge X L.length (frA a) L.length 0 (by rw [h.h0]; show (0 : Int) * _ ≤ _ * 1; omega)
    have hl1 := h.l1
    have hlX := h.lX
    have hlY := h.lY
    generalize hkk : kS X L.length (frA a) L.length 0 = k at *
    have w : IntKind.wrap .i64 ((k : Int) + (1 : Int)) = ((k + 1 : Nat) : Int) := wrap_succ (by omega)
    have H4 : (0 : Int) ≤ (k : Int) := by omega
    have H5 : (k : Int) < (L.length : Int) := by omega
    have H6 : (0 : Int) ≤ ((bs a).size : Int) := by omega
    have H7 : (frA a).2 ≠ 0 := by omega
    have H8 : 0 ≤ (IntKind.wrap .i64 ((k : Int) + (1 : Int))) := by rw [w]; omega
    have H9 : (IntKind.wrap .i64 ((k : Int) + (1 : Int))) < (List.length X : Int) := by rw [w]; omega
    have H10 := lessB_SC (List.getD X (k + 1) (0, 0)) (endF a) (getD_mem' h.hX _ _ (by omega)).fb (endF_FB a hn)
    rw [show List.getD X (k + 1) (0, 0) = List.getD X (IntKind.wrap .i64 ((k : Int) + (1 : Int))).toNat ((0 : Int), (0 : Int)) by rw [w, Int.toNat_natCast]] at H10
    have hgx : List.getD X (IntKind.wrap .i64 ((k : Int) + (1 : Int))).toNat ((0 : Int), (0 : Int)) = List.getD X (k + 1) (0, 0) := by rw [w, Int.toNat_natCast]
    have Z8 : (bs a).size + ((⟨#[48]⟩ : ByteArray)).size ≤ 2 ^ 62 := by rw [bs_size]; show a.length + 1 ≤ 2 ^ 62; omega
    have Z9 : (bs a).size + ((⟨#[49]⟩ : ByteArray)).size ≤ 2 ^ 62 := by rw [bs_size]; show a.length + 1 ≤ 2 ^ 62; omega
    have hsl := getD_mem' h.hL 0 k hk
    have wlen : IntKind.wrap .i64 (((bs a).size : Int) - (List.getD L ((k : Int)).toNat (0 : Int))) = (a.length : Int) - List.getD L k 0 := by
      rw [Int.toNat_natCast, bs_size]
      generalize List.getD L k 0 = sl at hsl
      rw [w64] <;> omega
    have H11 := l1In_SC ((a.length : Int) - List.getD L k 0) 0 8
    rw [← wlen] at H11
    rw [← endF_eq a hn] at H10
    have accD : accR X Y L a = if fLt (List.getD X (k + 1) (0, 0)) (endF a) = true then none
        else if 0 ≤ (a.length : Int) - List.getD L k 0 ∧ (a.length : Int) - List.getD L k 0 ≤ 8 then
          if (shortF (nV (frA a) (List.getD X k (0, 0)) (List.getD Y k (0, 0)) (max 0 (List.getD L k 0)).toNat (max 0 (0 - List.getD L k 0)).toNat) (dV (frA a) (List.getD X k (0, 0)) (List.getD Y k (0, 0)) (max 0 (0 - List.getD L k 0)).toNat)).2 ≤ ((2 ^ ((a.length : Int) - List.getD L k 0).toNat : Nat) : Int) then some (adrF (shortF (nV (frA a) (List.getD X k (0, 0)) (List.getD Y k (0, 0)) (max 0 (List.getD L k 0)).toNat (max 0 (0 - List.getD L k 0)).toNat) (dV (frA a) (List.getD X k (0, 0)) (List.getD Y k (0, 0)) (max 0 (0 - List.getD L k 0)).toNat)) ((a.length : Int) - List.getD L k 0).toNat).1 else none
        else none := by unfold accR; rw [← hkk]
    rw [hgx, endF_eq a hn] at H10
    cases q1 : fLt (List.getD X (k + 1) (0, 0)) (endF a) with
    | true =>
      have hacc : accR X Y L a = none := by rw [accD, if_pos q1]
      rw [q1, ← hgx, ← endF_eq a hn] at H10
      cases r1 : cutR (accR X Y L) f (a ++ [48]) with
      | none =>
        have hR : cutR (accR X Y L) (f + 1) a = none := by simp only [cutR, hacc, r1]
        rw [hR]; rw [r1] at i48
        exact spec_mpSplit_p5 _ _ _ _ _ _ _ _ _ _ _ _ _ _ H1 H2 H3 H4 H5 H6 H7 H8 H9 H10 Z8 i48
      | some xy =>
        obtain ⟨x, y⟩ := xy
        rw [r1] at i48
        cases r2 : cutR (accR X Y L) f (a ++ [49]) with
        | none =>
          have hR : cutR (accR X Y L) (f + 1) a = none := by simp only [cutR, hacc, r1, r2]
          rw [hR]; rw [r2] at i49
          exact spec_mpSplit_p4 _ _ _ _ _ _ _ _ _ _ _ _ _ _ _ _ H1 H2 H3 H4 H5 H6 H7 H8 H9 H10 Z8 i48 Z9 i49
        | some zw =>
          obtain ⟨z, v⟩ := zw
          rw [r2] at i49
          have l1 := cutR_len _ _ _ _ _ r1
          have l2 := cutR_len _ _ _ _ _ r2
          have wl : IntKind.wrap .i64 (((List.length (x.map bs) : Nat) : Int) + ((List.length (z.map bs) : Nat) : Int)) = ((x.length + z.length : Nat) : Int) := by
            rw [List.length_map, List.length_map, w64] <;> omega
          by_cases hm : x.length + z.length > 9
          · have hR : cutR (accR X Y L) (f + 1) a = none := by simp only [cutR, hacc, r1, r2, if_pos hm]
            rw [hR]
            exact spec_mpSplit_p2 _ _ _ _ _ _ _ _ _ _ _ _ _ _ _ _ H1 H2 H3 H4 H5 H6 H7 H8 H9 H10 Z8 i48 Z9 i49 (by show IntKind.wrap .i64 (((List.length (x.map bs) : Nat) : Int) + ((List.length (z.map bs) : Nat) : Int)) > 9; rw [wl]; omega)
          · have hR : cutR (accR X Y L) (f + 1) a = some (x ++ z, y ++ v) := by simp only [cutR, hacc, r1, r2, if_neg hm]
            have e1 : sp1 (some (x ++ z, y ++ v)) = x.map bs ++ z.map bs := List.map_append ..
            have e2 : sp2 (some (x ++ z, y ++ v)) = y.map bs ++ v.map bs := List.map_append ..
            rw [hR, splitRes, e1, e2]
            exact spec_mpSplit_p3 _ _ _ _ _ _ _ _ _ _ _ _ _ _ _ _ H1 H2 H3 H4 H5 H6 H7 H8 H9 H10 Z8 i48 Z9 i49 (by show ¬ (IntKind.wrap .i64 (((List.length (x.map bs) : Nat) : Int) + ((List.length (z.map bs) : Nat) : Int)) > 9); rw [wl]; omega) (by show (x.map bs).length + (z.map bs).length ≤ 2 ^ 40; simp only [List.length_map]; omega) (by show (y.map bs).length + (v.map bs).length ≤ 2 ^ 40; simp only [List.length_map]; omega)
    | false =>
      rw [q1, ← hgx, ← endF_eq a hn] at H10
      by_cases q2 : 0 ≤ (a.length : Int) - List.getD L k 0 ∧ (a.length : Int) - List.getD L k 0 ≤ 8
      · rw [decide_eq_true (by omega)] at H11
        obtain ⟨xa, xb, xc, xd⟩ := getD_mem' h.hX ((0, 0) : Int × Int) k (by omega)
        obtain ⟨ya, yb, yc, yd⟩ := getD_mem' h.hY ((0, 0) : Int × Int) k (by omega)
        have H12 : (k : Int) < (List.length X : Int) := by omega
        have H13 : (k : Int) < (List.length Y : Int) := by omega
        have H14 : SC cfg.P i_spec_l1Most [.s (.v (.int .i64) (0 : Int)), .s (.v (.int .i64) (List.getD L ((k : Int)).toNat (0 : Int)))] (.s (.v (.int .i64) (max 0 (List.getD L k 0)))) [] := l1Most_SC 0 _
        have H15 : (0 : Int) ≤ max 0 (List.getD L k 0) := by omega
        have wneg : IntKind.wrap .i64 (0 - (List.getD L ((k : Int)).toNat (0 : Int))) = 0 - List.getD L k 0 := by
          rw [Int.toNat_natCast]
          generalize List.getD L k 0 = sl at hsl
          rw [w64] <;> omega
        have H16 : SC cfg.P i_spec_l1Most [.s (.v (.int .i64) (0 : Int)), .s (.v (.int .i64) (IntKind.wrap .i64 (0 - (List.getD L ((k : Int)).toNat (0 : Int)))))] (.s (.v (.int .i64) (max 0 (0 - List.getD L k 0)))) [] := by rw [wneg]; exact l1Most_SC 0 _
        have H17 : (0 : Int) ≤ max 0 (0 - List.getD L k 0) := by omega
        have H18 := shortV (frA a) (List.getD X ((k : Int)).toNat (0, 0)) (List.getD Y ((k : Int)).toNat (0, 0)) (max 0 (List.getD L k 0)) (max 0 (0 - List.getD L k 0)) H15 (by omega) H17 (by omega) b1 b2 b3 b4 xa xb xc xd ya yb yc yd hge
        have H19 : 0 ≤ (IntKind.wrap .i64 (((bs a).size : Int) - (List.getD L ((k : Int)).toNat (0 : Int)))) := by rw [wlen]; exact q2.1
        have pl : IntKind.wrap .i64 ((1 : Int) * 2 ^ (min ((IntKind.wrap .i64 (((bs a).size : Int) - (List.getD L ((k : Int)).toNat (0 : Int))))).toNat (IntKind.bits .i64))) = ((2 ^ ((a.length : Int) - List.getD L k 0).toNat : Nat) : Int) := by
          rw [wlen]; exact pw_wrap _ q2.1 (by omega)
        by_cases q3 : (shortF (nV (frA a) (List.getD X k (0, 0)) (List.getD Y k (0, 0)) (max 0 (List.getD L k 0)).toNat (max 0 (0 - List.getD L k 0)).toNat) (dV (frA a) (List.getD X k (0, 0)) (List.getD Y k (0, 0)) (max 0 (0 - List.getD L k 0)).toNat)).2 ≤ ((2 ^ ((a.length : Int) - List.getD L k 0).toNat : Nat) : Int)
        · have H20 := q3
          rw [← pl] at H20
          have H21 : SC cfg.P i_spec_AddressOf [.s (.v FrK (shortF (nV (frA a) (List.getD X k (0, 0)) (List.getD Y k (0, 0)) (max 0 (List.getD L k 0)).toNat (max 0 (0 - List.getD L k 0)).toNat) (dV (frA a) (List.getD X k (0, 0)) (List.getD Y k (0, 0)) (max 0 (0 - List.getD L k 0)).toNat))), .s (.v (.int .i64) (IntKind.wrap .i64 (((bs a).size : Int) - (List.getD L ((k : Int)).toNat (0 : Int)))))] (.tup [.v .str (bs (adrF (shortF (nV (frA a) (List.getD X k (0, 0)) (List.getD Y k (0, 0)) (max 0 (List.getD L k 0)).toNat (max 0 (0 - List.getD L k 0)).toNat) (dV (frA a) (List.getD X k (0, 0)) (List.getD Y k (0, 0)) (max 0 (0 - List.getD L k 0)).toNat)) ((a.length : Int) - List.getD L k 0).toNat).1), .v .bool (adrF (shortF (nV (frA a) (List.getD X k (0, 0)) (List.getD Y k (0, 0)) (max 0 (List.getD L k 0)).toNat (max 0 (0 - List.getD L k 0)).toNat) (dV (frA a) (List.getD X k (0, 0)) (List.getD Y k (0, 0)) (max 0 (0 - List.getD L k 0)).toNat)) ((a.length : Int) - List.getD L k 0).toNat).2]) [] := by
            rw [wlen]
            have := adrF_SC (shortF (nV (frA a) (List.getD X k (0, 0)) (List.getD Y k (0, 0)) (max 0 (List.getD L k 0)).toNat (max 0 (0 - List.getD L k 0)).toNat) (dV (frA a) (List.getD X k (0, 0)) (List.getD Y k (0, 0)) (max 0 (0 - List.getD L k 0)).toNat)) ((a.length : Int) - List.getD L k 0).toNat (by omega)
            rw [Int.toNat_of_nonneg q2.1] at this
            exact this
          have hacc := accD
          rw [if_neg (by rw [q1]; decide), if_pos q2, if_pos q3] at hacc
          rw [cutR_some _ f a hacc]
          exact spec_mpSplit_p6 _ _ _ _ _ _ _ _ _ _ _ _ _ _ _ _ _ H1 H2 H3 H4 H5 H6 H7 H8 H9 H10 H11 H12 H13 H14 H15 H16 H17 H18 H19 H20 H21
        · have H20 := q3
          rw [← pl] at H20
          have hacc : accR X Y L a = none := by rw [accD, if_neg (by rw [q1]; decide), if_pos q2, if_neg q3]
          cases r1 : cutR (accR X Y L) f (a ++ [48]) with
          | none =>
            have hR : cutR (accR X Y L) (f + 1) a = none := by simp only [cutR, hacc, r1]
            rw [hR]; rw [r1] at i48
            exact spec_mpSplit_p10 _ _ _ _ _ _ _ _ _ _ _ _ _ _ _ _ _ H1 H2 H3 H4 H5 H6 H7 H8 H9 H10 H11 H12 H13 H14 H15 H16 H17 H18 H19 H20 Z8 i48
          | some xy =>
            obtain ⟨x, y⟩ := xy
            rw [r1] at i48
            cases r2 : cutR (accR X Y L) f (a ++ [49]) with
            | none =>
              have hR : cutR (accR X Y L) (f + 1) a = none := by simp only [cutR, hacc, r1, r2]
              rw [hR]; rw [r2] at i49
              exact spec_mpSplit_p9 _ _ _ _ _ _ _ _ _ _ _ _ _ _ _ _ _ _ _ H1 H2 H3 H4 H5 H6 H7 H8 H9 H10 H11 H12 H13 H14 H15 H16 H17 H18 H19 H20 Z8 i48 Z9 i49
            | some zw =>
              obtain ⟨z, v⟩ := zw
              rw [r2] at i49
              have l1 := cutR_len _ _ _ _ _ r1
              have l2 := cutR_len _ _ _ _ _ r2
              have wl : IntKind.wrap .i64 (((List.length (x.map bs) : Nat) : Int) + ((List.length (z.map bs) : Nat) : Int)) = ((x.length + z.length : Nat) : Int) := by
                rw [List.length_map, List.length_map, w64] <;> omega
              by_cases hm : x.length + z.length > 9
              · have hR : cutR (accR X Y L) (f + 1) a = none := by simp only [cutR, hacc, r1, r2, if_pos hm]
                rw [hR]
                exact spec_mpSplit_p7 _ _ _ _ _ _ _ _ _ _ _ _ _ _ _ _ _ _ _ H1 H2 H3 H4 H5 H6 H7 H8 H9 H10 H11 H12 H13 H14 H15 H16 H17 H18 H19 H20 Z8 i48 Z9 i49 (by show IntKind.wrap .i64 (((List.length (x.map bs) : Nat) : Int) + ((List.length (z.map bs) : Nat) : Int)) > 9; rw [wl]; omega)
              · have hR : cutR (accR X Y L) (f + 1) a = some (x ++ z, y ++ v) := by simp only [cutR, hacc, r1, r2, if_neg hm]
                have e1 : sp1 (some (x ++ z, y ++ v)) = x.map bs ++ z.map bs := List.map_append ..
                have e2 : sp2 (some (x ++ z, y ++ v)) = y.map bs ++ v.map bs := List.map_append ..
                rw [hR, splitRes, e1, e2]
                exact spec_mpSplit_p8 _ _ _ _ _ _ _ _ _ _ _ _ _ _ _ _ _ _ _ H1 H2 H3 H4 H5 H6 H7 H8 H9 H10 H11 H12 H13 H14 H15 H16 H17 H18 H19 H20 Z8 i48 Z9 i49 (by show ¬ (IntKind.wrap .i64 (((List.length (x.map bs) : Nat) : Int) + ((List.length (z.map bs) : Nat) : Int)) > 9); rw [wl]; omega) (by show (x.map bs).length + (z.map bs).length ≤ 2 ^ 40; simp only [List.length_map]; omega) (by show (y.map bs).length + (v.map bs).length ≤ 2 ^ 40; simp only [List.length_map]; omega)
      · have hacc : accR X Y L a = none := by rw [accD, if_neg (by rw [q1]; decide), if_neg q2]
        rw [decide_eq_false (by omega)] at H11
        cases r1 : cutR (accR X Y L) f (a ++ [48]) with
        | none =>
          have hR : cutR (accR X Y L) (f + 1) a = none := by simp only [cutR, hacc, r1]
          rw [hR]; rw [r1] at i48
          exact spec_mpSplit_p14 _ _ _ _ _ _ _ _ _ _ _ _ _ _ H1 H2 H3 H4 H5 H6 H7 H8 H9 H10 H11 Z8 i48
        | some xy =>
          obtain ⟨x, y⟩ := xy
          rw [r1] at i48
          cases r2 : cutR (accR X Y L) f (a ++ [49]) with
          | none =>
            have hR : cutR (accR X Y L) (f + 1) a = none := by simp only [cutR, hacc, r1, r2]
            rw [hR]; rw [r2] at i49
            exact spec_mpSplit_p13 _ _ _ _ _ _ _ _ _ _ _ _ _ _ _ _ H1 H2 H3 H4 H5 H6 H7 H8 H9 H10 H11 Z8 i48 Z9 i49
          | some zw =>
            obtain ⟨z, v⟩ := zw
            rw [r2] at i49
            have l1 := cutR_len _ _ _ _ _ r1
            have l2 := cutR_len _ _ _ _ _ r2
            have wl : IntKind.wrap .i64 (((List.length (x.map bs) : Nat) : Int) + ((List.length (z.map bs) : Nat) : Int)) = ((x.length + z.length : Nat) : Int) := by
              rw [List.length_map, List.length_map, w64] <;> omega
            by_cases hm : x.length + z.length > 9
            · have hR : cutR (accR X Y L) (f + 1) a = none := by simp only [cutR, hacc, r1, r2, if_pos hm]
              rw [hR]
              exact spec_mpSplit_p11 _ _ _ _ _ _ _ _ _ _ _ _ _ _ _ _ H1 H2 H3 H4 H5 H6 H7 H8 H9 H10 H11 Z8 i48 Z9 i49 (by show IntKind.wrap .i64 (((List.length (x.map bs) : Nat) : Int) + ((List.length (z.map bs) : Nat) : Int)) > 9; rw [wl]; omega)
            · have hR : cutR (accR X Y L) (f + 1) a = some (x ++ z, y ++ v) := by simp only [cutR, hacc, r1, r2, if_neg hm]
              have e1 : sp1 (some (x ++ z, y ++ v)) = x.map bs ++ z.map bs := List.map_append ..
              have e2 : sp2 (some (x ++ z, y ++ v)) = y.map bs ++ v.map bs := List.map_append ..
              rw [hR, splitRes, e1, e2]
              exact spec_mpSplit_p12 _ _ _ _ _ _ _ _ _ _ _ _ _ _ _ _ H1 H2 H3 H4 H5 H6 H7 H8 H9 H10 H11 Z8 i48 Z9 i49 (by show ¬ (IntKind.wrap .i64 (((List.length (x.map bs) : Nat) : Int) + ((List.length (z.map bs) : Nat) : Int)) > 9); rw [wl]; omega) (by show (x.map bs).length + (z.map bs).length ≤ 2 ^ 40; simp only [List.length_map]; omega) (by show (y.map bs).length + (v.map bs).length ≤ 2 ^ 40; simp only [List.length_map]; omega)

end Go.AI
end

section
/- Contracts: the slope between two breaks. -/
set_option autoImplicit false
set_option maxRecDepth 100000
set_option linter.unusedVariables false
namespace Go.AI
open Go.Proofs

/-- How far y lies over z, times the denominators of x and w. -/
def numI (y z x w : Int × Int) : Int := (y.1 * z.2 - z.1 * y.2) * x.2 * w.2

theorem numI_wrap (y z x w : Int × Int) (hy : FS y) (hz : FS z) (hx : FS x) (hw : FS w) (hlt : fLt z y = true) :
    IntKind.wrap .i64 ((IntKind.wrap .i64 ((IntKind.wrap .i64 ((IntKind.wrap .i64 (y.1 * z.2)) - (IntKind.wrap .i64 (z.1 * y.2)))) * x.2)) * w.2) = ((numI y z x w).toNat : Int) ∧ 0 < (numI y z x w).toNat ∧ (numI y z x w).toNat ≤ 2 ^ 45 := by
  obtain ⟨y1, y2, y3, y4⟩ := hy
  obtain ⟨z1, z2, z3, z4⟩ := hz
  obtain ⟨x1, x2, x3, x4⟩ := hx
  obtain ⟨w1, w2, w3, w4⟩ := hw
  unfold fLt at hlt
  rw [decide_eq_true_eq] at hlt
  unfold numI
  obtain ⟨a1, a2⟩ := mulBd y1 y2 (by omega : 0 ≤ z.2) z4
  obtain ⟨b1, b2⟩ := mulBd z1 z2 (by omega : 0 ≤ y.2) y4
  generalize y.1 * z.2 = A at *
  generalize z.1 * y.2 = B at *
  have wA : IntKind.wrap .i64 A = A := by rw [w64] <;> omega
  have wB : IntKind.wrap .i64 B = B := by rw [w64] <;> omega
  rw [wA, wB]
  have wAB : IntKind.wrap .i64 (A - B) = A - B := by rw [w64] <;> omega
  rw [wAB]
  obtain ⟨c1, c2⟩ := mulBd (by omega : 0 ≤ A - B) (by omega : A - B ≤ 2 ^ 20) (by omega : 0 ≤ x.2) x4
  have c3 : 0 < (A - B) * x.2 := Int.mul_pos (by omega) (by omega)
  generalize (A - B) * x.2 = C at *
  have wC : IntKind.wrap .i64 C = C := by rw [w64] <;> omega
  rw [wC]
  obtain ⟨d1, d2⟩ := mulBd (by omega : 0 ≤ C) c2 (by omega : 0 ≤ w.2) w4
  have d3 : 0 < C * w.2 := Int.mul_pos c3 (by omega)
  generalize C * w.2 = D at *
  have wD : IntKind.wrap .i64 D = D := by rw [w64] <;> omega
  rw [wD]
  omega

/-- The reference's slope, chosen. -/
theorem slq_ex (num den : Nat) : ∃ r : Int × Bool, (0 < num → 0 < den → num ≤ 2 ^ 45 → den ≤ 2 ^ 45 →
    SC cfg.P i_spec_mpSlope [.s (.v (.int .i64) (num : Int)), .s (.v (.int .i64) (den : Int))] (.tup [.v (.int .i64) r.1, .v .bool r.2]) [] ∧
    (r.2 = true → (0 ≤ r.1 ∧ num = den * 2 ^ r.1.toNat) ∨ (r.1 ≤ 0 ∧ den = num * 2 ^ (-r.1).toNat)) ∧ ((∃ e : Nat, num = den * 2 ^ e ∨ den = num * 2 ^ e) → r.2 = true)) := by
  by_cases h : 0 < num ∧ 0 < den ∧ num ≤ 2 ^ 45 ∧ den ≤ 2 ^ 45
  · obtain ⟨k, b, hk⟩ := mpSlope_SC num den h.1 h.2.1 h.2.2.1 h.2.2.2
    exact ⟨(k, b), fun _ _ _ _ => hk⟩
  · exact ⟨(0, false), fun a b c d => absurd ⟨a, b, c, d⟩ h⟩

noncomputable def slq (num den : Nat) : Int × Bool := Classical.choose (slq_ex num den)

theorem slq_spec (num den : Nat) (h1 : 0 < num) (h2 : 0 < den) (h3 : num ≤ 2 ^ 45) (h4 : den ≤ 2 ^ 45) :
    SC cfg.P i_spec_mpSlope [.s (.v (.int .i64) (num : Int)), .s (.v (.int .i64) (den : Int))] (.tup [.v (.int .i64) (slq num den).1, .v .bool (slq num den).2]) [] ∧
    ((slq num den).2 = true → (0 ≤ (slq num den).1 ∧ num = den * 2 ^ (slq num den).1.toNat) ∨ ((slq num den).1 ≤ 0 ∧ den = num * 2 ^ (-(slq num den).1).toNat)) ∧ ((∃ e : Nat, num = den * 2 ^ e ∨ den = num * 2 ^ e) → (slq num den).2 = true) :=
  Classical.choose_spec (slq_ex num den) h1 h2 h3 h4

end Go.AI
end

section
/- Plain law: equal ratios have one slope. -/
set_option autoImplicit false
set_option maxRecDepth 100000
set_option linter.unusedVariables false
namespace Go.AI

/-- A slope k of a ratio. -/
def IsSl (num den : Nat) (k : Int) : Prop := (0 ≤ k ∧ num = den * 2 ^ k.toNat) ∨ (k ≤ 0 ∧ den = num * 2 ^ (-k).toNat)

theorem IsSl.two {num den : Nat} {k : Int} (h : IsSl num den k) : num * 2 ^ (-k).toNat = den * 2 ^ k.toNat := by
  rcases h with ⟨h1, h2⟩ | ⟨h1, h2⟩
  · rw [show (-k).toNat = 0 by omega, Nat.pow_zero, Nat.mul_one]; exact h2
  · rw [show k.toNat = 0 by omega, Nat.pow_zero, Nat.mul_one]; exact h2.symm

theorem IsSl.uniq {n d n' d' : Nat} {k k' : Int} (hn : 0 < n) (hd : 0 < d) (hn' : 0 < n') (hd' : 0 < d') (h : IsSl n d k) (h' : IsSl n' d' k') (e : n * d' = n' * d) : k = k' := by
  have t := h.two
  have t' := h'.two
  have key : n * d' * (2 ^ (-k).toNat * 2 ^ k'.toNat) = n * d' * (2 ^ k.toNat * 2 ^ (-k').toNat) := by
    calc n * d' * (2 ^ (-k).toNat * 2 ^ k'.toNat) = (n * 2 ^ (-k).toNat) * (d' * 2 ^ k'.toNat) := by ac_rfl
      _ = (d * 2 ^ k.toNat) * (n' * 2 ^ (-k').toNat) := by rw [t, t']
      _ = n' * d * (2 ^ k.toNat * 2 ^ (-k').toNat) := by ac_rfl
      _ = _ := by rw [e]
  have := Nat.eq_of_mul_eq_mul_left (Nat.mul_pos hn hd') key
  rw [← Nat.pow_add, ← Nat.pow_add] at this
  have inj : ∀ a b : Nat, 2 ^ a = 2 ^ b → a = b := fun a b hab => by
    rcases Nat.lt_trichotomy a b with hl | hl | hl
    · have := Nat.pow_lt_pow_right (a := 2) (by omega) hl; omega
    · exact hl
    · have := Nat.pow_lt_pow_right (a := 2) (by omega) hl; omega
  have := inj _ _ this
  omega

end Go.AI
end
