/- The cursor that draws. -/
import Derived.Test.YtpfaelacdnmeaaaGV
import Derived.Test.YtpfaelacdnmeaaaCJx
import Derived.Test.YtpfaelacdnmeaaaFgr
import Derived.Test.YtpfaelacdnmeaaaCU
set_option autoImplicit false
set_option maxRecDepth 100000
set_option linter.unusedVariables false
namespace Go.AI
open Go.Proofs

abbrev CurK : Kd := .pr (.sl (.int .u8)) (.pr (.int .i64) (.int .u64))
abbrev Cur : Type := List Int × (Int × Int)

/-- A cursor that has gone n steps at most. -/
structure CurOk (n : Nat) (c : Cur) : Prop where
  lo : 0 ≤ c.2.1
  hi : c.2.1 ≤ (n : Int)
  len : c.1.length ≤ 2 ^ 40
  by_ : ∀ x ∈ c.1, 0 ≤ x ∧ x ≤ 255

theorem CurOk.mono {n m : Nat} {c : Cur} (h : CurOk n c) (hm : n ≤ m) : CurOk m c := ⟨h.lo, by have := h.hi; omega, h.len, h.by_⟩

theorem and255 (x : Int) : 0 ≤ IntKind.wrap .i64 (IntKind.wrap .u64 ((BitVec.ofInt (IntKind.bits .u64) x &&& BitVec.ofInt (IntKind.bits .u64) 255).toNat : Int)) ∧ IntKind.wrap .i64 (IntKind.wrap .u64 ((BitVec.ofInt (IntKind.bits .u64) x &&& BitVec.ofInt (IntKind.bits .u64) 255).toNat : Int)) ≤ 255 := by
  have h : (BitVec.ofInt (IntKind.bits .u64) x &&& BitVec.ofInt (IntKind.bits .u64) 255).toNat ≤ 255 := by
    rw [BitVec.toNat_and]
    exact Nat.le_trans Nat.and_le_right (by decide)
  generalize (BitVec.ofInt (IntKind.bits .u64) x &&& BitVec.ofInt (IntKind.bits .u64) 255).toNat = y at h
  have hw : IntKind.wrap .u64 (y : Int) = (y : Int) := IntWalk.u64_in (y : Int) ⟨by omega, by omega⟩
  rw [hw, w64] <;> omega

theorem next_SC {n : Nat} {c : Cur} (h : CurOk n c) (hn : n ≤ 2 ^ 50) : ∃ (r : Int) (c' : Cur), 0 ≤ r ∧ r ≤ 255 ∧ CurOk (n + 1) c' ∧ SC cfg.P i_spec_l1Cur_next [.s (.mbx CurK c)] (.s (.v (.int .i64) r)) [.box CurK c'] := by
  have hl := h.lo
  have hh := h.hi
  have w : IntKind.wrap .i64 (c.2.1 + 1) = c.2.1 + 1 := by rw [w64] <;> omega
  have ok : ∀ s : Int, CurOk (n + 1) (c.1, (IntKind.wrap .i64 (c.2.1 + 1), s)) := fun s => ⟨by rw [w]; show 0 ≤ c.2.1 + 1; omega, by rw [w]; show c.2.1 + 1 ≤ _; omega, h.len, h.by_⟩
  by_cases h1 : c.2.1 < ((c.1.length : Nat) : Int)
  · have hb : 0 ≤ IntKind.wrap .i64 (List.getD c.1 (c.2.1).toNat 0) ∧ IntKind.wrap .i64 (List.getD c.1 (c.2.1).toNat 0) ≤ 255 := by
      have hk : (c.2.1).toNat < c.1.length := by omega
      have hm : List.getD c.1 (c.2.1).toNat 0 ∈ c.1 := by
        rw [List.getD_eq_getElem?_getD, List.getElem?_eq_getElem hk]; exact List.getElem_mem hk
      have := h.by_ _ hm
      rw [w64 (by omega) (by omega)]
      exact this
    exact ⟨_, _, hb.1, hb.2, ok _, spec_l1Cur_next_p1 c h1 hl h1 (by rw [w]; omega)⟩
  · have hx : ¬ IntKind.wrap .i64 (c.2.1 + 1) ≤ ((c.1.length : Nat) : Int) := by rw [w]; omega
    exact ⟨_, _, (and255 _).1, (and255 _).2, ok _, spec_l1Cur_next_p4 c h1 hx⟩

theorem pick_SC {n : Nat} {c : Cur} (h : CurOk n c) (hn : n ≤ 2 ^ 40) (k : Int) (hk : k ≤ 2 ^ 40) : ∃ (r : Nat) (c' : Cur), (r : Int) < max k 1 ∧ CurOk (n + 2) c' ∧ SC cfg.P i_spec_l1Cur_pick [.s (.mbx CurK c), .s (.v (.int .i64) k)] (.s (.v (.int .i64) (r : Int))) [.box CurK c'] := by
  by_cases h1 : k ≤ 1
  · exact ⟨0, c, by omega, h.mono (by omega), spec_l1Cur_pick_p1 c k h1⟩
  · obtain ⟨x, c1, x0, x1, hc1, s1⟩ := next_SC h (by omega)
    have fin : ∀ (y : Int), 0 ≤ y → ∃ r : Nat, (r : Int) = Int.tmod y k ∧ (r : Int) < max k 1 := fun y hy => by
      have a := Int.tmod_nonneg k hy
      have b := Int.tmod_lt_of_pos y (b := k) (by omega)
      exact ⟨(Int.tmod y k).toNat, by omega, by omega⟩
    by_cases h2 : k > 200
    · obtain ⟨y, c2, y0, y1, hc2, s2⟩ := next_SC hc1 (by omega)
      have w1 : IntKind.wrap .i64 (x * 256) = x * 256 := by rw [w64] <;> omega
      have w2 : IntKind.wrap .i64 (IntKind.wrap .i64 (x * 256) + y) = x * 256 + y := by rw [w1, w64] <;> omega
      obtain ⟨r, e, hr⟩ := fin (IntKind.wrap .i64 (IntKind.wrap .i64 (x * 256) + y)) (by rw [w2]; omega)
      have st := spec_l1Cur_pick_p2 c k x c1 y c2 h1 s1 h2 s2 (by omega)
      have hw : IntKind.wrap .i64 (Int.tmod (IntKind.wrap .i64 (IntKind.wrap .i64 (x * 256) + y)) k) = Int.tmod (IntKind.wrap .i64 (IntKind.wrap .i64 (x * 256) + y)) k := by
        rw [← e, w64] <;> omega
      exact ⟨r, c2, hr, hc2.mono (by omega), e ▸ st⟩
    · obtain ⟨r, e, hr⟩ := fin x x0
      have st := spec_l1Cur_pick_p3 c k x c1 h1 s1 h2 (by omega)
      exact ⟨r, c1, hr, hc1.mono (by omega), e ▸ st⟩

theorem one_SC {n : Nat} {c : Cur} (h : CurOk n c) (hn : n ≤ 2 ^ 40) (k : Int) (hk : k ≤ 2 ^ 40) : ∃ (b : Bool) (c' : Cur), CurOk (n + 2) c' ∧ SC cfg.P i_spec_l1Cur_one [.s (.mbx CurK c), .s (.v (.int .i64) k)] (.s (.v .bool b)) [.box CurK c'] := by
  obtain ⟨r, c', hr, hc, s⟩ := pick_SC h hn k hk
  by_cases e : (r : Int) = 0
  · exact ⟨true, c', hc, spec_l1Cur_one_p1 c k _ c' s e⟩
  · exact ⟨false, c', hc, spec_l1Cur_one_p2 c k _ c' s e⟩

theorem of_SC {n : Nat} {c : Cur} (h : CurOk n c) (hn : n ≤ 2 ^ 40) (l : List ByteArray) (hl : l.length ≤ 2 ^ 20) (h0 : 0 < l.length) : ∃ (s : ByteArray) (c' : Cur), s ∈ l ∧ CurOk (n + 2) c' ∧ SC cfg.P i_spec_l1Cur_of [.s (.mbx CurK c), .s (.v (.sl .str) l)] (.s (.v .str s)) [.box CurK c'] := by
  obtain ⟨r, c', hr, hc, s⟩ := pick_SC h hn (l.length : Int) (by omega)
  have hr2 : r < l.length := by omega
  have st := spec_l1Cur_of_p1 c l (r : Int) c' s (by omega) (by omega)
  rw [Int.toNat_natCast] at st
  refine ⟨_, c', ?_, hc, st⟩
  rw [List.getD_eq_getElem?_getD, List.getElem?_eq_getElem hr2]; exact List.getElem_mem hr2

/-- A tree of so many carets. -/
theorem sureTree_SC {n : Nat} {c : Cur} (h : CurOk n c) (k : Nat) (hk : k ≤ 2 ^ 10) (hn : n + 2 * k ≤ 2 ^ 40) : ∃ (t : Tr) (c' : Cur), t.c = k ∧ CurOk (n + 2 * k) c' ∧ SC cfg.P i_spec_l1Cur_sureTree [.s (.mbx CurK c), .s (.v (.int .i64) (k : Int))] (.s (.v .str (bs (txt t)))) [.box CurK c'] := by
  have key : ∀ (m i : Nat) (t : Tr) (c : Cur), k - i = m → i ≤ k → t.c = i → CurOk (n + 2 * i) c →
      ∃ (t' : Tr) (c' : Cur), t'.c = k ∧ CurOk (n + 2 * k) c' ∧ LoopSC cfg.P 2 (lb P_spec_l1Cur_sureTree 0) (spec_l1Cur_sureTree_L0a (k : Int) (bs (txt t)) (i : Int) c) (.exit 0) (spec_l1Cur_sureTree_L0X1 (k : Int) (bs (txt t')) (k : Int) false c') := by
    intro m
    induction m with
    | zero =>
      intro i t c hm hi ht hc
      have e : i = k := by omega
      subst e
      exact ⟨t, c, ht, hc, spec_l1Cur_sureTree_L0a_x2 _ _ _ _ (by omega)⟩
    | succ m ih =>
      intro i t c hm hi ht hc
      have w := wrap_succ (i := i) (by omega)
      obtain ⟨r, c1, hr, hc1, s1⟩ := pick_SC hc (by omega) (IntKind.wrap .i64 ((i : Int) + 1)) (by rw [w]; omega)
      rw [w] at hr
      have hrt : r ≤ t.c := by omega
      have g := trGraft_SC t r (.node .leaf .leaf) hrt (by omega) (by decide)
      obtain ⟨t', c', k1, k2, k3⟩ := ih (i + 1) (grf t r (.node .leaf .leaf)) c1 (by omega) (by omega) (by rw [grf_c t r _ hrt, ht]; rfl) (hc1.mono (by omega))
      rw [← w] at k3
      exact ⟨t', c', k1, k2, spec_l1Cur_sureTree_L0a_i1 _ _ _ _ _ _ _ (by omega) s1 g k3⟩
  obtain ⟨t', c', k1, k2, k3⟩ := key k 0 .leaf c rfl (by omega) rfl (h.mono (by omega))
  exact ⟨t', c', k1, k2, spec_l1Cur_sureTree_p1 _ _ _ _ _ _ _ k3⟩

theorem ext_len (s : ByteArray) (a b : Nat) : (s.extract a b).size = min b s.size - a := ByteArray.size_extract

theorem strOf_one (x : Int) : (strOf ([x] : List Int)).size ≤ 1 := by
  unfold strOf
  simp [ByteArray.size]

/-- A text with one or two edits. -/
theorem spoilt_SC {n : Nat} {c : Cur} (h : CurOk n c) (hn : n ≤ 2 ^ 39) (t w : ByteArray) (ht : t.size ≤ 2 ^ 20) (hw : 0 < w.size) (hw2 : w.size ≤ 2 ^ 20) : ∃ (t' : ByteArray) (c' : Cur), t'.size ≤ t.size + 2 ∧ CurOk (n + 20) c' ∧ SC cfg.P i_spec_l1Cur_spoilt [.s (.mbx CurK c), .s (.v .str t), .s (.v .str w)] (.s (.v .str t')) [.box CurK c'] := by
  have key : ∀ (m : Nat) (t : ByteArray) (n : Nat) (c : Cur), m ≤ 2 → t.size + m ≤ 2 ^ 20 + 4 → n + 6 * m ≤ 2 ^ 39 + 40 → CurOk n c →
      ∃ (t' : ByteArray) (m' : Int) (c' : Cur), t'.size ≤ t.size + m ∧ CurOk (n + 6 * m) c' ∧ LoopSC cfg.P 3 (lb P_spec_l1Cur_spoilt 0) (spec_l1Cur_spoilt_L0a t w (m : Int) c) (.exit 0) (spec_l1Cur_spoilt_L0X1 t' w m' false c') := by
    intro m
    induction m with
    | zero =>
      intro t n c hm ht hn h
      exact ⟨t, 0, c, by omega, h, spec_l1Cur_spoilt_L0a_x5 _ _ _ _ (by omega)⟩
    | succ m ih =>
      intro t n c hm ht hn h
      have w1 : IntKind.wrap .i64 (((m + 1 : Nat) : Int) - 1) = (m : Int) := by rw [w64] <;> omega
      by_cases hz : ((t.size : Nat) : Int) > 0
      · obtain ⟨i, c1, hi, hc1, s1⟩ := pick_SC h (by omega) (t.size : Int) (by omega)
        obtain ⟨j, c2, hj, hc2, s2⟩ := pick_SC hc1 (by omega) (w.size : Int) (by omega)
        obtain ⟨k, c3, hk, hc3, s3⟩ := pick_SC hc2 (by omega) 3 (by decide)
        have hi2 : i < t.size := by omega
        have hso := strOf_one (bt w (j : Int))
        have wi : IntKind.wrap .i64 ((i : Int) + 1) = ((i + 1 : Nat) : Int) := by rw [w64] <;> omega
        by_cases k0 : (k : Int) = 0
        · have hsz : ((ByteArray.extract t ((0 : Int)).toNat ((i : Int)).toNat) ++ strOf ([bt w (j : Int)] : List Int) ++ ByteArray.extract t ((i : Int)).toNat ((t.size : Int)).toNat).size ≤ t.size + 1 := by
            rw [ByteArray.size_append, ByteArray.size_append, ext_len, ext_len]
            simp only [Int.toNat_natCast]
            omega
          obtain ⟨t', m', c', k1, k2, k3⟩ := ih _ (n + 6) c3 (by omega) (Nat.le_trans (Nat.add_le_add_right hsz m) (by omega)) (by omega) (hc3.mono (by omega))
          rw [← w1] at k3
          refine ⟨t', m', c', by omega, k2.mono (by omega), spec_l1Cur_spoilt_L0a_i1 _ _ _ _ _ _ _ _ _ _ (by omega) hz s1 s2 (by omega) (by omega) s3 k0 (by omega) (by omega) ?_ ?_ k3⟩
          · rw [ext_len]; omega
          · rw [ByteArray.size_append, ext_len, ext_len]; omega
        · by_cases k1 : (k : Int) = 1
          · have hsz : ((ByteArray.extract t ((0 : Int)).toNat ((i : Int)).toNat) ++ strOf ([bt w (j : Int)] : List Int) ++ ByteArray.extract t (IntKind.wrap .i64 ((i : Int) + 1)).toNat ((t.size : Int)).toNat).size ≤ t.size + 1 := by
              rw [ByteArray.size_append, ByteArray.size_append, ext_len, ext_len, wi]
              simp only [Int.toNat_natCast]
              omega
            obtain ⟨t', m', c', g1, g2, g3⟩ := ih _ (n + 6) c3 (by omega) (Nat.le_trans (Nat.add_le_add_right hsz m) (by omega)) (by omega) (hc3.mono (by omega))
            rw [← w1] at g3
            refine ⟨t', m', c', by omega, g2.mono (by omega), spec_l1Cur_spoilt_L0a_i2 _ _ _ _ _ _ _ _ _ _ (by omega) hz s1 s2 (by omega) (by omega) s3 k0 k1 (by omega) (by omega) ?_ (by rw [wi]; omega) (by rw [wi]; omega) ?_ g3⟩
            · rw [ext_len]; omega
            · rw [ByteArray.size_append, ext_len, ext_len]; omega
          · have hsz : ((ByteArray.extract t ((0 : Int)).toNat ((i : Int)).toNat) ++ ByteArray.extract t (IntKind.wrap .i64 ((i : Int) + 1)).toNat ((t.size : Int)).toNat).size ≤ t.size + 1 := by
              rw [ByteArray.size_append, ext_len, ext_len, wi]
              simp only [Int.toNat_natCast]
              omega
            obtain ⟨t', m', c', g1, g2, g3⟩ := ih _ (n + 6) c3 (by omega) (Nat.le_trans (Nat.add_le_add_right hsz m) (by omega)) (by omega) (hc3.mono (by omega))
            rw [← w1] at g3
            refine ⟨t', m', c', by omega, g2.mono (by omega), spec_l1Cur_spoilt_L0a_i3 _ _ _ _ _ _ _ _ _ _ (by omega) hz s1 s2 (by omega) (by omega) s3 k0 k1 (by omega) (by omega) (by rw [wi]; omega) (by rw [wi]; omega) ?_ g3⟩
            rw [ext_len, ext_len]; omega
      · exact ⟨t, _, c, by omega, h.mono (by omega), spec_l1Cur_spoilt_L0a_x4 _ _ _ _ (by omega) hz⟩
  obtain ⟨r, c1, hr, hc1, s1⟩ := pick_SC h (by omega) 2 (by decide)
  have wr : IntKind.wrap .i64 (1 + (r : Int)) = ((1 + r : Nat) : Int) := by rw [w64] <;> omega
  obtain ⟨t', m', c', k1, k2, k3⟩ := key (1 + r) t (n + 2) c1 (by omega) (by omega) (by omega) hc1
  rw [← wr] at k3
  exact ⟨t', c', by omega, k2.mono (by omega), spec_l1Cur_spoilt_p1 _ _ _ _ _ _ _ _ _ _ s1 k3⟩

/-- A text that is a tree's, mostly. -/
theorem tree_SC {n : Nat} {c : Cur} (h : CurOk n c) (hn : n ≤ 2 ^ 30) (k : Nat) (hk : k ≤ 100) : ∃ (t : ByteArray) (c' : Cur), t.size ≤ 2 ^ 10 ∧ CurOk (n + 1000) c' ∧ SC cfg.P i_spec_l1Cur_tree [.s (.mbx CurK c), .s (.v (.int .i64) (k : Int))] (.s (.v .str t)) [.box CurK c'] := by
  have wk := wrap_succ (i := k) (by omega)
  obtain ⟨r, c1, hr, hc1, s1⟩ := pick_SC h (by omega) (IntKind.wrap .i64 ((k : Int) + 1)) (by rw [wk]; omega)
  rw [wk] at hr
  obtain ⟨t, c2, ht, hc2, s2⟩ := sureTree_SC hc1 r (by omega) (by omega)
  have lt := txt_len t
  obtain ⟨q, c3, hq, hc3, s3⟩ := pick_SC hc2 (by omega) 14 (by decide)
  by_cases q0 : (q : Int) = 0
  · obtain ⟨t', c4, h4, hc4, s4⟩ := spoilt_SC hc3 (by omega) (bs (txt t)) (⟨#[40, 46, 41]⟩ : ByteArray) (by rw [bs_size]; omega) (by decide) (by decide)
    rw [bs_size] at h4
    exact ⟨t', c4, by omega, hc4.mono (by omega), spec_l1Cur_tree_p1 _ _ _ _ _ _ _ _ _ _ s1 s2 s3 q0 s4⟩
  · by_cases q1 : (q : Int) = 1
    · obtain ⟨p, c4, hp, hc4, s4⟩ := pick_SC hc3 (by omega) 2 (by decide)
      have wp : IntKind.wrap .i64 (8 + (p : Int)) = ((8 + p : Nat) : Int) := by rw [w64] <;> omega
      obtain ⟨u, c5, hu, hc5, s5⟩ := sureTree_SC hc4 (8 + p) (by omega) (by omega)
      rw [← wp] at s5
      have lu := txt_len u
      exact ⟨_, c5, by rw [bs_size]; omega, hc5.mono (by omega), spec_l1Cur_tree_p2 _ _ _ _ _ _ _ _ _ _ _ _ s1 s2 s3 q0 q1 s4 s5⟩
    · exact ⟨_, c3, by rw [bs_size]; omega, hc3.mono (by omega), spec_l1Cur_tree_p3 _ _ _ _ _ _ _ _ s1 s2 s3 q0 q1⟩

end Go.AI
