/- A part of the road: what it proves stands in its last texts. -/
import Derived.Test.YtnhjfdkogbelaaaCT
import Derived.Test.YtnhjfdkogbelaaaJF
import Derived.Test.YtnhjfdkogbelaaaGV
import Derived.Test.YtnhjfdkogbelaaaGZ
import Derived.Test.YtnhjfdkogbelaaaJI
section
/- A tree in the place of a leaf. -/
set_option autoImplicit false
set_option maxRecDepth 100000
set_option linter.unusedVariables false
namespace Go.AI
open Go.Proofs

def grf : Tr → Nat → Tr → Tr
  | .leaf, _, u => u
  | .node l r, k, u => if k ≤ l.c then .node (grf l k u) r else .node l (grf r (k - (l.c + 1)) u)

theorem grf_c : ∀ (t : Tr) (k : Nat) (u : Tr), k ≤ t.c → (grf t k u).c = t.c + u.c
  | .leaf, k, u, h => by simp [grf, Tr.c]
  | .node l r, k, u, h => by
    simp only [Tr.c] at h
    rw [grf]
    split
    · rename_i h1
      have := grf_c l k u h1
      simp only [Tr.c]; omega
    · have := grf_c r (k - (l.c + 1)) u (by omega)
      simp only [Tr.c]; omega

theorem count46 : ∀ t : Tr, (txt t).count 46 = t.c + 1
  | .leaf => rfl
  | .node l r => by
    have h1 := count46 l
    have h2 := count46 r
    simp only [txt, List.count_cons, List.count_append, h1, h2, Tr.c]
    simp
    omega

theorem grf_txt : ∀ (t : Tr) (k : Nat) (u : Tr), k ≤ t.c → ∃ pre post, txt t = pre ++ 46 :: post ∧ pre.count 46 = k ∧ txt (grf t k u) = pre ++ txt u ++ post
  | .leaf, k, u, h => ⟨[], [], rfl, by simp [Tr.c] at h; simp [h], by simp [grf]⟩
  | .node l r, k, u, h => by
    simp only [Tr.c] at h
    rw [grf]
    split
    · rename_i h1
      obtain ⟨pre, post, e1, e2, e3⟩ := grf_txt l k u h1
      refine ⟨40 :: pre, post ++ txt r ++ [41], by simp [txt, e1], by rw [List.count_cons, e2]; simp, by simp [txt, e3]⟩
    · obtain ⟨pre, post, e1, e2, e3⟩ := grf_txt r (k - (l.c + 1)) u (by omega)
      refine ⟨40 :: (txt l ++ pre), post ++ [41], by simp [txt, e1], ?_, by simp [txt, e3]⟩
      rw [List.count_cons, List.count_append, e2, count46]; simp; omega

end Go.AI
end

section
/- A tree in the place of a leaf, in texts. -/
set_option autoImplicit false
set_option maxRecDepth 100000
set_option linter.unusedVariables false
namespace Go.AI
open Go.Proofs

theorem trGraft_SC (t : Tr) (k : Nat) (u : Tr) (hk : k ≤ t.c) (ht : t.c ≤ 2 ^ 20) (hu : u.c ≤ 2 ^ 20) :
    SC cfg.P i_spec_trGraft [.s (.v .str (bs (txt t))), .s (.v (.int .i64) (k : Int)), .s (.v .str (bs (txt u)))] (.s (.v .str (bs (txt (grf t k u))))) [] := by
  obtain ⟨pre, post, e1, e2, e3⟩ := grf_txt t k u hk
  have lt := txt_len t
  have lu := txt_len u
  have hl : (txt t).length = pre.length + (post.length + 1) := by rw [e1, List.length_append, List.length_cons]
  have hbyte : ∀ i, i < pre.length → bt (bs (txt t)) (i : Int) = ((pre.getD i 0).toNat : Int) := fun i hi => by
    rw [bs_bt, Int.toNat_natCast, e1, List.getD_eq_getElem?_getD, List.getElem?_append_left hi, List.getD_eq_getElem?_getD]
  have key : ∀ (m i : Nat), pre.length - i = m → i ≤ pre.length →
      LoopSC cfg.P 3 (lb P_spec_trGraft 0) (spec_trGraft_L0a (bs (txt t)) (k : Int) (bs (txt u)) ((((pre.take i).count 46 : Nat) : Int) - 1) (i : Int)) .ret (spec_trGraft_L0X1 (bs (txt (grf t k u)))) := by
    intro m
    induction m with
    | zero =>
      intro i hm hi
      have e : i = pre.length := by omega
      subst e
      rw [List.take_length, e2]
      have hb : bt (bs (txt t)) (pre.length : Int) = 46 := by
        rw [bs_bt, Int.toNat_natCast, e1, List.getD_eq_getElem?_getD, List.getElem?_append_right (Nat.le_refl _), Nat.sub_self]; rfl
      have x1 : ByteArray.extract (bs (txt t)) ((0 : Int)).toNat ((pre.length : Int)).toNat = bs pre := by
        rw [Int.toNat_natCast, bs_extract, e1]
        simp
      have w : IntKind.wrap .i64 ((pre.length : Int) + 1) = ((pre.length + 1 : Nat) : Int) := by rw [w64] <;> omega
      have x2 : ByteArray.extract (bs (txt t)) (IntKind.wrap .i64 ((pre.length : Int) + 1)).toNat (((bs (txt t)).size : Int)).toNat = bs post := by
        rw [w, Int.toNat_natCast, Int.toNat_natCast, bs_size, bs_extract, hl, e1]
        have ed : (pre ++ 46 :: post).drop (pre.length + 1) = post := by
          have e0 : pre ++ 46 :: post = (pre ++ [46]) ++ post := by simp
          rw [e0]
          exact List.drop_left' (by simp)
        rw [ed]
        congr 1
        apply List.take_of_length_le
        omega
      have st := spec_trGraft_L0a_x1 (bs (txt t)) (k : Int) (bs (txt u)) ((k : Int) - 1) (pre.length : Int) (by rw [bs_size]; omega) (by omega) hb (by rw [w64] <;> omega) (by rw [bs_size]; omega) (by rw [x1, bs_size, bs_size]; omega) (by rw [w]; omega) (by rw [w, bs_size]; omega) (by rw [x1, x2, bs_append, bs_size, bs_size, List.length_append]; omega)
      rw [x1, x2, bs_append, bs_append, ← e3] at st
      exact st
    | succ m ih =>
      intro i hm hi
      have hlt : i < pre.length := by omega
      have k1 := ih (i + 1) (by omega) (by omega)
      have htk : pre.take (i + 1) = pre.take i ++ [pre.getD i 0] := by
        rw [List.getD_eq_getElem?_getD, List.getElem?_eq_getElem hlt]
        exact (List.take_append_getElem hlt).symm
      have hcle : (pre.take (i + 1)).count 46 ≤ k := by
        rw [← e2]
        exact List.Sublist.count_le 46 (List.take_sublist _ _)
      have hcl2 : (pre.take i).count 46 ≤ i := Nat.le_trans List.count_le_length (by rw [List.length_take]; omega)
      rw [htk, List.count_append, ← wrap_succ (i := i) (by omega)] at k1
      rw [htk, List.count_append] at hcle
      by_cases h : pre.getD i 0 = 46
      · rw [h] at k1 hcle
        have e : [(46 : UInt8)].count 46 = 1 := by decide
        rw [e] at k1 hcle
        have w : IntKind.wrap .i64 ((((pre.take i).count 46 : Nat) : Int) - 1 + 1) = ((((pre.take i).count 46 + 1 : Nat) : Int) - 1) := by rw [w64] <;> omega
        rw [← w] at k1
        exact spec_trGraft_L0a_i2 _ _ _ _ _ (by rw [bs_size]; omega) (by omega) (by rw [hbyte i hlt, h]; rfl) (by rw [w]; omega) k1
      · have e : [pre.getD i 0].count 46 = 0 := List.count_eq_zero.2 fun hm => h (List.mem_singleton.1 hm).symm
        rw [e] at k1 hcle
        exact spec_trGraft_L0a_i4 _ _ _ _ _ (by rw [bs_size]; omega) (by omega) (by rw [hbyte i hlt]; intro g; exact h ((byte_eq _ 46).1 g)) (by omega) k1
  have h0 := key _ 0 rfl (by omega)
  exact spec_trGraft_p1 _ _ _ _ h0

end Go.AI
end

section
/- The cursor that draws. -/
set_option autoImplicit false
set_option maxRecDepth 100000
set_option linter.unusedVariables false
namespace Go.AI
open Go.Proofs

abbrev CurK : Kd := .pr (.sl (.int .u8)) (.pr (.int .i64) (.int .u64))
abbrev Cur : Type := List Int × (Int × Int)

/-- A cursor that has gone n steps at most. -/
structure CurOk (n : Nat) (c : Cur) : Prop where
  lo : 0 ≤ c.2.1
  hi : c.2.1 ≤ (n : Int)
  len : c.1.length ≤ 2 ^ 40
  by_ : ∀ x ∈ c.1, 0 ≤ x ∧ x ≤ 255

theorem CurOk.mono {n m : Nat} {c : Cur} (h : CurOk n c) (hm : n ≤ m) : CurOk m c := ⟨h.lo, by have := h.hi; omega, h.len, h.by_⟩

theorem and255 (x : Int) : 0 ≤ IntKind.wrap .i64 (IntKind.wrap .u64 ((BitVec.ofInt (IntKind.bits .u64) x &&& BitVec.ofInt (IntKind.bits .u64) 255).toNat : Int)) ∧ IntKind.wrap .i64 (IntKind.wrap .u64 ((BitVec.ofInt (IntKind.bits .u64) x &&& BitVec.ofInt (IntKind.bits .u64) 255).toNat : Int)) ≤ 255 := by
  have h : (BitVec.ofInt (IntKind.bits .u64) x &&& BitVec.ofInt (IntKind.bits .u64) 255).toNat ≤ 255 := by
    rw [BitVec.toNat_and]
    exact Nat.le_trans Nat.and_le_right (by decide)
  generalize (BitVec.ofInt (IntKind.bits .u64) x &&& BitVec.ofInt (IntKind.bits .u64) 255).toNat = y at h
  have hw : IntKind.wrap .u64 (y : Int) = (y : Int) := IntWalk.u64_in (y : Int) ⟨by omega, by omega⟩
  rw [hw, w64] <;> omega

theorem next_SC {n : Nat} {c : Cur} (h : CurOk n c) (hn : n ≤ 2 ^ 50) : ∃ (r : Int) (c' : Cur), 0 ≤ r ∧ r ≤ 255 ∧ CurOk (n + 1) c' ∧ SC cfg.P i_spec_l1Cur_next [.s (.mbx CurK c)] (.s (.v (.int .i64) r)) [.box CurK c'] := by
  have hl := h.lo
  have hh := h.hi
  have w : IntKind.wrap .i64 (c.2.1 + 1) = c.2.1 + 1 := by rw [w64] <;> omega
  have ok : ∀ s : Int, CurOk (n + 1) (c.1, (IntKind.wrap .i64 (c.2.1 + 1), s)) := fun s => ⟨by rw [w]; show 0 ≤ c.2.1 + 1; omega, by rw [w]; show c.2.1 + 1 ≤ _; omega, h.len, h.by_⟩
  by_cases h1 : c.2.1 < ((c.1.length : Nat) : Int)
  · have hb : 0 ≤ IntKind.wrap .i64 (List.getD c.1 (c.2.1).toNat 0) ∧ IntKind.wrap .i64 (List.getD c.1 (c.2.1).toNat 0) ≤ 255 := by
      have hk : (c.2.1).toNat < c.1.length := by omega
      have hm : List.getD c.1 (c.2.1).toNat 0 ∈ c.1 := by
        rw [List.getD_eq_getElem?_getD, List.getElem?_eq_getElem hk]; exact List.getElem_mem hk
      have := h.by_ _ hm
      rw [w64 (by omega) (by omega)]
      exact this
    exact ⟨_, _, hb.1, hb.2, ok _, spec_l1Cur_next_p1 c h1 hl h1 (by rw [w]; omega)⟩
  · have hx : ¬ IntKind.wrap .i64 (c.2.1 + 1) ≤ ((c.1.length : Nat) : Int) := by rw [w]; omega
    exact ⟨_, _, (and255 _).1, (and255 _).2, ok _, spec_l1Cur_next_p4 c h1 hx⟩

theorem pick_SC {n : Nat} {c : Cur} (h : CurOk n c) (hn : n ≤ 2 ^ 40) (k : Int) (hk : k ≤ 2 ^ 40) : ∃ (r : Nat) (c' : Cur), (r : Int) < max k 1 ∧ CurOk (n + 2) c' ∧ SC cfg.P i_spec_l1Cur_pick [.s (.mbx CurK c), .s (.v (.int .i64) k)] (.s (.v (.int .i64) (r : Int))) [.box CurK c'] := by
  by_cases h1 : k ≤ 1
  · exact ⟨0, c, by omega, h.mono (by omega), spec_l1Cur_pick_p1 c k h1⟩
  · obtain ⟨x, c1, x0, x1, hc1, s1⟩ := next_SC h (by omega)
    have fin : ∀ (y : Int), 0 ≤ y → ∃ r : Nat, (r : Int) = Int.tmod y k ∧ (r : Int) < max k 1 := fun y hy => by
      have a := Int.tmod_nonneg k hy
      have b := Int.tmod_lt_of_pos y (b := k) (by omega)
      exact ⟨(Int.tmod y k).toNat, by omega, by omega⟩
    by_cases h2 : k > 200
    · obtain ⟨y, c2, y0, y1, hc2, s2⟩ := next_SC hc1 (by omega)
      have w1 : IntKind.wrap .i64 (x * 256) = x * 256 := by rw [w64] <;> omega
      have w2 : IntKind.wrap .i64 (IntKind.wrap .i64 (x * 256) + y) = x * 256 + y := by rw [w1, w64] <;> omega
      obtain ⟨r, e, hr⟩ := fin (IntKind.wrap .i64 (IntKind.wrap .i64 (x * 256) + y)) (by rw [w2]; omega)
      have st := spec_l1Cur_pick_p2 c k x c1 y c2 h1 s1 h2 s2 (by omega)
      have hw : IntKind.wrap .i64 (Int.tmod (IntKind.wrap .i64 (IntKind.wrap .i64 (x * 256) + y)) k) = Int.tmod (IntKind.wrap .i64 (IntKind.wrap .i64 (x * 256) + y)) k := by
        rw [← e, w64] <;> omega
      exact ⟨r, c2, hr, hc2.mono (by omega), e ▸ st⟩
    · obtain ⟨r, e, hr⟩ := fin x x0
      have st := spec_l1Cur_pick_p3 c k x c1 h1 s1 h2 (by omega)
      exact ⟨r, c1, hr, hc1.mono (by omega), e ▸ st⟩

theorem one_SC {n : Nat} {c : Cur} (h : CurOk n c) (hn : n ≤ 2 ^ 40) (k : Int) (hk : k ≤ 2 ^ 40) : ∃ (b : Bool) (c' : Cur), CurOk (n + 2) c' ∧ SC cfg.P i_spec_l1Cur_one [.s (.mbx CurK c), .s (.v (.int .i64) k)] (.s (.v .bool b)) [.box CurK c'] := by
  obtain ⟨r, c', hr, hc, s⟩ := pick_SC h hn k hk
  by_cases e : (r : Int) = 0
  · exact ⟨true, c', hc, spec_l1Cur_one_p1 c k _ c' s e⟩
  · exact ⟨false, c', hc, spec_l1Cur_one_p2 c k _ c' s e⟩

/-- A tree of so many carets. -/
theorem sureTree_SC {n : Nat} {c : Cur} (h : CurOk n c) (k : Nat) (hk : k ≤ 2 ^ 10) (hn : n + 2 * k ≤ 2 ^ 40) : ∃ (t : Tr) (c' : Cur), t.c = k ∧ CurOk (n + 2 * k) c' ∧ SC cfg.P i_spec_l1Cur_sureTree [.s (.mbx CurK c), .s (.v (.int .i64) (k : Int))] (.s (.v .str (bs (txt t)))) [.box CurK c'] := by
  have key : ∀ (m i : Nat) (t : Tr) (c : Cur), k - i = m → i ≤ k → t.c = i → CurOk (n + 2 * i) c →
      ∃ (t' : Tr) (c' : Cur), t'.c = k ∧ CurOk (n + 2 * k) c' ∧ LoopSC cfg.P 2 (lb P_spec_l1Cur_sureTree 0) (spec_l1Cur_sureTree_L0a (k : Int) (bs (txt t)) (i : Int) c) (.exit 0) (spec_l1Cur_sureTree_L0X1 (k : Int) (bs (txt t')) (k : Int) false c') := by
    intro m
    induction m with
    | zero =>
      intro i t c hm hi ht hc
      have e : i = k := by omega
      subst e
      exact ⟨t, c, ht, hc, spec_l1Cur_sureTree_L0a_x2 _ _ _ _ (by omega)⟩
    | succ m ih =>
      intro i t c hm hi ht hc
      have w := wrap_succ (i := i) (by omega)
      obtain ⟨r, c1, hr, hc1, s1⟩ := pick_SC hc (by omega) (IntKind.wrap .i64 ((i : Int) + 1)) (by rw [w]; omega)
      rw [w] at hr
      have hrt : r ≤ t.c := by omega
      have g := trGraft_SC t r (.node .leaf .leaf) hrt (by omega) (by decide)
      obtain ⟨t', c', k1, k2, k3⟩ := ih (i + 1) (grf t r (.node .leaf .leaf)) c1 (by omega) (by omega) (by rw [grf_c t r _ hrt, ht]; rfl) (hc1.mono (by omega))
      rw [← w] at k3
      exact ⟨t', c', k1, k2, spec_l1Cur_sureTree_L0a_i1 _ _ _ _ _ _ _ (by omega) s1 g k3⟩
  obtain ⟨t', c', k1, k2, k3⟩ := key k 0 .leaf c rfl (by omega) rfl (h.mono (by omega))
  exact ⟨t', c', k1, k2, spec_l1Cur_sureTree_p1 _ _ _ _ _ _ _ k3⟩

theorem ext_len (s : ByteArray) (a b : Nat) : (s.extract a b).size = min b s.size - a := ByteArray.size_extract

theorem strOf_one (x : Int) : (strOf ([x] : List Int)).size ≤ 1 := by
  unfold strOf
  simp [ByteArray.size]

/-- A text with one or two edits. -/
theorem spoilt_SC {n : Nat} {c : Cur} (h : CurOk n c) (hn : n ≤ 2 ^ 39) (t w : ByteArray) (ht : t.size ≤ 2 ^ 20) (hw : 0 < w.size) (hw2 : w.size ≤ 2 ^ 20) : ∃ (t' : ByteArray) (c' : Cur), t'.size ≤ t.size + 2 ∧ CurOk (n + 20) c' ∧ SC cfg.P i_spec_l1Cur_spoilt [.s (.mbx CurK c), .s (.v .str t), .s (.v .str w)] (.s (.v .str t')) [.box CurK c'] := by
  have key : ∀ (m : Nat) (t : ByteArray) (n : Nat) (c : Cur), m ≤ 2 → t.size + m ≤ 2 ^ 20 + 4 → n + 6 * m ≤ 2 ^ 39 + 40 → CurOk n c →
      ∃ (t' : ByteArray) (m' : Int) (c' : Cur), t'.size ≤ t.size + m ∧ CurOk (n + 6 * m) c' ∧ LoopSC cfg.P 3 (lb P_spec_l1Cur_spoilt 0) (spec_l1Cur_spoilt_L0a t w (m : Int) c) (.exit 0) (spec_l1Cur_spoilt_L0X1 t' w m' false c') := by
    intro m
    induction m with
    | zero =>
      intro t n c hm ht hn h
      exact ⟨t, 0, c, by omega, h, spec_l1Cur_spoilt_L0a_x5 _ _ _ _ (by omega)⟩
    | succ m ih =>
      intro t n c hm ht hn h
      have w1 : IntKind.wrap .i64 (((m + 1 : Nat) : Int) - 1) = (m : Int) := by rw [w64] <;> omega
      by_cases hz : ((t.size : Nat) : Int) > 0
      · obtain ⟨i, c1, hi, hc1, s1⟩ := pick_SC h (by omega) (t.size : Int) (by omega)
        obtain ⟨j, c2, hj, hc2, s2⟩ := pick_SC hc1 (by omega) (w.size : Int) (by omega)
        obtain ⟨k, c3, hk, hc3, s3⟩ := pick_SC hc2 (by omega) 3 (by decide)
        have hi2 : i < t.size := by omega
        have hso := strOf_one (bt w (j : Int))
        have wi : IntKind.wrap .i64 ((i : Int) + 1) = ((i + 1 : Nat) : Int) := by rw [w64] <;> omega
        by_cases k0 : (k : Int) = 0
        · have hsz : ((ByteArray.extract t ((0 : Int)).toNat ((i : Int)).toNat) ++ strOf ([bt w (j : Int)] : List Int) ++ ByteArray.extract t ((i : Int)).toNat ((t.size : Int)).toNat).size ≤ t.size + 1 := by
            rw [ByteArray.size_append, ByteArray.size_append, ext_len, ext_len]
            simp only [Int.toNat_natCast]
            omega
          obtain ⟨t', m', c', k1, k2, k3⟩ := ih _ (n + 6) c3 (by omega) (Nat.le_trans (Nat.add_le_add_right hsz m) (by omega)) (by omega) (hc3.mono (by omega))
          rw [← w1] at k3
          refine ⟨t', m', c', by omega, k2.mono (by omega), spec_l1Cur_spoilt_L0a_i1 _ _ _ _ _ _ _ _ _ _ (by omega) hz s1 s2 (by omega) (by omega) s3 k0 (by omega) (by omega) ?_ ?_ k3⟩
          · rw [ext_len]; omega
          · rw [ByteArray.size_append, ext_len, ext_len]; omega
        · by_cases k1 : (k : Int) = 1
          · have hsz : ((ByteArray.extract t ((0 : Int)).toNat ((i : Int)).toNat) ++ strOf ([bt w (j : Int)] : List Int) ++ ByteArray.extract t (IntKind.wrap .i64 ((i : Int) + 1)).toNat ((t.size : Int)).toNat).size ≤ t.size + 1 := by
              rw [ByteArray.size_append, ByteArray.size_append, ext_len, ext_len, wi]
              simp only [Int.toNat_natCast]
              omega
            obtain ⟨t', m', c', g1, g2, g3⟩ := ih _ (n + 6) c3 (by omega) (Nat.le_trans (Nat.add_le_add_right hsz m) (by omega)) (by omega) (hc3.mono (by omega))
            rw [← w1] at g3
            refine ⟨t', m', c', by omega, g2.mono (by omega), spec_l1Cur_spoilt_L0a_i2 _ _ _ _ _ _ _ _ _ _ (by omega) hz s1 s2 (by omega) (by omega) s3 k0 k1 (by omega) (by omega) ?_ (by rw [wi]; omega) (by rw [wi]; omega) ?_ g3⟩
            · rw [ext_len]; omega
            · rw [ByteArray.size_append, ext_len, ext_len]; omega
          · have hsz : ((ByteArray.extract t ((0 : Int)).toNat ((i : Int)).toNat) ++ ByteArray.extract t (IntKind.wrap .i64 ((i : Int) + 1)).toNat ((t.size : Int)).toNat).size ≤ t.size + 1 := by
              rw [ByteArray.size_append, ext_len, ext_len, wi]
              simp only [Int.toNat_natCast]
              omega
            obtain ⟨t', m', c', g1, g2, g3⟩ := ih _ (n + 6) c3 (by omega) (Nat.le_trans (Nat.add_le_add_right hsz m) (by omega)) (by omega) (hc3.mono (by omega))
            rw [← w1] at g3
            refine ⟨t', m', c', by omega, g2.mono (by omega), spec_l1Cur_spoilt_L0a_i3 _ _ _ _ _ _ _ _ _ _ (by omega) hz s1 s2 (by omega) (by omega) s3 k0 k1 (by omega) (by omega) (by rw [wi]; omega) (by rw [wi]; omega) ?_ g3⟩
            rw [ext_len, ext_len]; omega
      · exact ⟨t, _, c, by omega, h.mono (by omega), spec_l1Cur_spoilt_L0a_x4 _ _ _ _ (by omega) hz⟩
  obtain ⟨r, c1, hr, hc1, s1⟩ := pick_SC h (by omega) 2 (by decide)
  have wr : IntKind.wrap .i64 (1 + (r : Int)) = ((1 + r : Nat) : Int) := by rw [w64] <;> omega
  obtain ⟨t', m', c', k1, k2, k3⟩ := key (1 + r) t (n + 2) c1 (by omega) (by omega) (by omega) hc1
  rw [← wr] at k3
  exact ⟨t', c', by omega, k2.mono (by omega), spec_l1Cur_spoilt_p1 _ _ _ _ _ _ _ _ _ _ s1 k3⟩

/-- A text that is a tree's, mostly. -/
theorem tree_SC {n : Nat} {c : Cur} (h : CurOk n c) (hn : n ≤ 2 ^ 30) (k : Nat) (hk : k ≤ 100) : ∃ (t : ByteArray) (c' : Cur), t.size ≤ 2 ^ 10 ∧ CurOk (n + 1000) c' ∧ SC cfg.P i_spec_l1Cur_tree [.s (.mbx CurK c), .s (.v (.int .i64) (k : Int))] (.s (.v .str t)) [.box CurK c'] := by
  have wk := wrap_succ (i := k) (by omega)
  obtain ⟨r, c1, hr, hc1, s1⟩ := pick_SC h (by omega) (IntKind.wrap .i64 ((k : Int) + 1)) (by rw [wk]; omega)
  rw [wk] at hr
  obtain ⟨t, c2, ht, hc2, s2⟩ := sureTree_SC hc1 r (by omega) (by omega)
  have lt := txt_len t
  obtain ⟨q, c3, hq, hc3, s3⟩ := pick_SC hc2 (by omega) 14 (by decide)
  by_cases q0 : (q : Int) = 0
  · obtain ⟨t', c4, h4, hc4, s4⟩ := spoilt_SC hc3 (by omega) (bs (txt t)) (⟨#[40, 46, 41]⟩ : ByteArray) (by rw [bs_size]; omega) (by decide) (by decide)
    rw [bs_size] at h4
    exact ⟨t', c4, by omega, hc4.mono (by omega), spec_l1Cur_tree_p1 _ _ _ _ _ _ _ _ _ _ s1 s2 s3 q0 s4⟩
  · by_cases q1 : (q : Int) = 1
    · obtain ⟨p, c4, hp, hc4, s4⟩ := pick_SC hc3 (by omega) 2 (by decide)
      have wp : IntKind.wrap .i64 (8 + (p : Int)) = ((8 + p : Nat) : Int) := by rw [w64] <;> omega
      obtain ⟨u, c5, hu, hc5, s5⟩ := sureTree_SC hc4 (8 + p) (by omega) (by omega)
      rw [← wp] at s5
      have lu := txt_len u
      exact ⟨_, c5, by rw [bs_size]; omega, hc5.mono (by omega), spec_l1Cur_tree_p2 _ _ _ _ _ _ _ _ _ _ _ _ s1 s2 s3 q0 q1 s4 s5⟩
    · exact ⟨_, c3, by rw [bs_size]; omega, hc3.mono (by omega), spec_l1Cur_tree_p3 _ _ _ _ _ _ _ _ s1 s2 s3 q0 q1⟩

end Go.AI
end

section
/- The draws of pairs. -/
set_option autoImplicit false
set_option maxRecDepth 100000
set_option linter.unusedVariables false
namespace Go.AI
open Go.Proofs

def combN : Nat → Tr → Tr
  | 0, t => t
  | n + 1, t => combN n (.node .leaf t)

theorem combN_c : ∀ (n : Nat) (t : Tr), (combN n t).c = t.c + n
  | 0, t => rfl
  | n + 1, t => by rw [combN, combN_c n]; simp only [Tr.c]; omega

theorem trRight_SC (k : Nat) (hk : k ≤ 100) : SC cfg.P i_spec_trRight [.s (.v (.int .i64) (k : Int))] (.s (.v .str (bs (txt (combN k .leaf))))) [] := by
  have key : ∀ (m : Nat) (t : Tr), m ≤ 100 → t.c ≤ 2 ^ 20 - m → LoopSC cfg.P 1 (lb P_spec_trRight 0) (spec_trRight_L0a (m : Int) (bs (txt t))) (.exit 0) (spec_trRight_L0X1 0 (bs (txt (combN m t))) false) := by
    intro m
    induction m with
    | zero => exact fun t _ _ => spec_trRight_L0a_x2 _ _ (by omega)
    | succ m ih =>
      intro t hm ht
      have e : IntKind.wrap .i64 (((m + 1 : Nat) : Int) - 1) = (m : Int) := by rw [w64] <;> omega
      have n1 := ih (.node .leaf t) (by omega) (by simp only [Tr.c]; omega)
      rw [← e] at n1
      exact spec_trRight_L0a_i1 _ _ _ (by omega) (trOf_SC .leaf t (by simp only [Tr.c]; omega) (by omega)) n1
  exact spec_trRight_p1 _ _ _ _ (key k .leaf hk (by simp only [Tr.c]; omega))

theorem prGenerator_SC (k : Nat) (hk : k ≤ 20) : ∃ p : Tr × Tr, p.1.c = k + 2 ∧ p.2.c = k + 2 ∧ SC cfg.P i_spec_prGenerator [.s (.v (.int .i64) (k : Int))] (.s (.v (.pr .str .str) (pt p))) [] := by
  have h1 := trRight_SC k (by omega)
  have c1 := combN_c k .leaf
  have c2 := combN_c (k + 2) .leaf
  have z : Tr.leaf.c = 0 := rfl
  have h2 := trGraft_SC (combN k .leaf) k (.node (.node .leaf .leaf) .leaf) (by omega) (by omega) (by decide)
  have e : IntKind.wrap .i64 ((k : Int) + 2) = ((k + 2 : Nat) : Int) := by rw [w64] <;> omega
  have h3 := trRight_SC (k + 2) (by omega)
  rw [← e] at h3
  refine ⟨(grf (combN k .leaf) k (.node (.node .leaf .leaf) .leaf), combN (k + 2) .leaf), ?_, ?_, spec_prGenerator_p1 _ _ _ _ h1 h2 h3⟩
  · show (grf (combN k .leaf) k (.node (.node .leaf .leaf) .leaf)).c = _
    rw [grf_c _ _ _ (by omega), c1]; simp only [Tr.c]; omega
  · show (combN (k + 2) .leaf).c = _
    rw [c2]; omega

theorem surePair_SC {n : Nat} {c : Cur} (h : CurOk n c) (k : Nat) (hk : k ≤ 2 ^ 9) (hn : n + 4 * k ≤ 2 ^ 40) : ∃ (p : Tr × Tr) (c' : Cur), p.1.c = k ∧ p.2.c = k ∧ CurOk (n + 4 * k) c' ∧ SC cfg.P i_spec_l1Cur_surePair [.s (.mbx CurK c), .s (.v (.int .i64) (k : Int))] (.s (.v (.pr .str .str) (pt p))) [.box CurK c'] := by
  obtain ⟨t, c1, h1, h2, s1⟩ := sureTree_SC h k (by omega) (by omega)
  obtain ⟨u, c2, h3, h4, s2⟩ := sureTree_SC h2 k (by omega) (by omega)
  exact ⟨(t, u), c2, h1, h3, h4.mono (by omega), spec_l1Cur_surePair_p1 _ _ _ _ _ _ s1 s2⟩

theorem pt_size (p : Tr × Tr) (b : Nat) (h1 : p.1.c ≤ b) (h2 : p.2.c ≤ b) : (pt p).1.size ≤ 3 * b + 1 ∧ (pt p).2.size ≤ 3 * b + 1 := by
  have l1 := txt_len p.1
  have l2 := txt_len p.2
  refine ⟨?_, ?_⟩
  · show (bs (txt p.1)).size ≤ _; rw [bs_size]; omega
  · show (bs (txt p.2)).size ≤ _; rw [bs_size]; omega

theorem pair_SC {n : Nat} {c : Cur} (h : CurOk n c) (hn : n ≤ 2 ^ 29) (most : Nat) (hm : most ≤ 10) : ∃ (a b : ByteArray) (c' : Cur), a.size ≤ 2 ^ 11 ∧ b.size ≤ 2 ^ 11 ∧ CurOk (n + 2000) c' ∧
    SC cfg.P i_spec_l1Cur_pair [.s (.mbx CurK c), .s (.v (.int .i64) (most : Int))] (.s (.v (.pr .str .str) (a, b))) [.box CurK c'] := by
  have e1 : IntKind.wrap .i64 ((most : Int) + 1) = ((most + 1 : Nat) : Int) := by rw [w64] <;> omega
  obtain ⟨r, c1, hr, h1, s1⟩ := pick_SC h (by omega) ((most + 1 : Nat) : Int) (by omega)
  rw [← e1] at s1
  have hr2 : r ≤ most := by omega
  obtain ⟨p, c2, p1, p2, h2, s2⟩ := surePair_SC h1 r (by omega) (by omega)
  obtain ⟨q1, q2⟩ := pt_size p 10 (by omega) (by omega)
  obtain ⟨k, c3, hk, h3, s3⟩ := pick_SC h2 (by omega) 14 (by omega)
  by_cases k0 : k = 0
  · obtain ⟨t, c4, ht, h4, s4⟩ := tree_SC h3 (by omega) most (by omega)
    exact ⟨(pt p).1, t, c4, by omega, by omega, h4.mono (by omega), spec_l1Cur_pair_p1 _ _ _ _ _ _ _ _ _ _ s1 s2 s3 (by omega) s4⟩
  · by_cases k1 : k = 1
    · obtain ⟨t, c4, ht, h4, s4⟩ := spoilt_SC h3 (by omega) (pt p).1 (⟨#[40, 46, 41]⟩ : ByteArray) (by omega) (by decide) (by decide)
      exact ⟨t, (pt p).2, c4, by omega, by omega, h4.mono (by omega), spec_l1Cur_pair_p2 _ _ _ _ _ _ _ _ _ _ s1 s2 s3 (by omega) (by omega) s4⟩
    · by_cases k2 : k = 2
      · obtain ⟨x, c4, hx, h4, s4⟩ := pick_SC h3 (by omega) 2 (by omega)
        have e2 : IntKind.wrap .i64 (8 + (x : Int)) = ((8 + x : Nat) : Int) := by rw [w64] <;> omega
        obtain ⟨p', c5, p3, p4, h5, s5⟩ := surePair_SC h4 (8 + x) (by omega) (by omega)
        obtain ⟨q3, q4⟩ := pt_size p' 10 (by omega) (by omega)
        rw [← e2] at s5
        exact ⟨(pt p').1, (pt p').2, c5, by omega, by omega, h5.mono (by omega), spec_l1Cur_pair_p3 _ _ _ _ _ _ _ _ _ _ _ _ s1 s2 s3 (by omega) (by omega) (by omega) s4 s5⟩
      · by_cases k3 : k = 3
        · obtain ⟨x, c4, hx, h4, s4⟩ := pick_SC h3 (by omega) 4 (by omega)
          obtain ⟨p', p3, p4, s5⟩ := prGenerator_SC x (by omega)
          obtain ⟨q3, q4⟩ := pt_size p' 10 (by omega) (by omega)
          exact ⟨(pt p').1, (pt p').2, c4, by omega, by omega, h4.mono (by omega), spec_l1Cur_pair_p4 _ _ _ _ _ _ _ _ _ _ _ s1 s2 s3 (by omega) (by omega) (by omega) (by omega) s4 s5⟩
        · exact ⟨(pt p).1, (pt p).2, c3, by omega, by omega, h3.mono (by omega), spec_l1Cur_pair_p5 _ _ _ _ _ _ _ _ s1 s2 s3 (by omega) (by omega) (by omega) (by omega)⟩


end Go.AI
end
