/- The cursor that draws. -/
import Derived.Test.YtcbhdileamhklaaGZ
import Derived.Test.YtcbhdileamhklaaCU
set_option autoImplicit false
set_option maxRecDepth 100000
set_option linter.unusedVariables false
namespace Go.AI
open Go.Proofs

abbrev CurK : Kd := .pr (.sl (.int .u8)) (.pr (.int .i64) (.int .u64))
abbrev Cur : Type := List Int × (Int × Int)

/-- A cursor that has gone n steps at most. -/
structure CurOk (n : Nat) (c : Cur) : Prop where
  lo : 0 ≤ c.2.1
  hi : c.2.1 ≤ (n : Int)
  len : c.1.length ≤ 2 ^ 40
  by_ : ∀ x ∈ c.1, 0 ≤ x ∧ x ≤ 255

theorem CurOk.mono {n m : Nat} {c : Cur} (h : CurOk n c) (hm : n ≤ m) : CurOk m c := ⟨h.lo, by have := h.hi; omega, h.len, h.by_⟩

theorem and255 (x : Int) : 0 ≤ IntKind.wrap .i64 (IntKind.wrap .u64 ((BitVec.ofInt (IntKind.bits .u64) x &&& BitVec.ofInt (IntKind.bits .u64) 255).toNat : Int)) ∧ IntKind.wrap .i64 (IntKind.wrap .u64 ((BitVec.ofInt (IntKind.bits .u64) x &&& BitVec.ofInt (IntKind.bits .u64) 255).toNat : Int)) ≤ 255 := by
  have h : (BitVec.ofInt (IntKind.bits .u64) x &&& BitVec.ofInt (IntKind.bits .u64) 255).toNat ≤ 255 := by
    rw [BitVec.toNat_and]
    exact Nat.le_trans Nat.and_le_right (by decide)
  generalize (BitVec.ofInt (IntKind.bits .u64) x &&& BitVec.ofInt (IntKind.bits .u64) 255).toNat = y at h
  have hw : IntKind.wrap .u64 (y : Int) = (y : Int) := IntWalk.u64_in (y : Int) ⟨by omega, by omega⟩
  rw [hw, w64] <;> omega

theorem next_SC {n : Nat} {c : Cur} (h : CurOk n c) (hn : n ≤ 2 ^ 50) : ∃ (r : Int) (c' : Cur), 0 ≤ r ∧ r ≤ 255 ∧ CurOk (n + 1) c' ∧ SC cfg.P i_spec_l1Cur_next [.s (.mbx CurK c)] (.s (.v (.int .i64) r)) [.box CurK c'] := by
  have hl := h.lo
  have hh := h.hi
  have w : IntKind.wrap .i64 (c.2.1 + 1) = c.2.1 + 1 := by rw [w64] <;> omega
  have ok : ∀ s : Int, CurOk (n + 1) (c.1, (IntKind.wrap .i64 (c.2.1 + 1), s)) := fun s => ⟨by rw [w]; show 0 ≤ c.2.1 + 1; omega, by rw [w]; show c.2.1 + 1 ≤ _; omega, h.len, h.by_⟩
  by_cases h1 : c.2.1 < ((c.1.length : Nat) : Int)
  · have hb : 0 ≤ IntKind.wrap .i64 (List.getD c.1 (c.2.1).toNat 0) ∧ IntKind.wrap .i64 (List.getD c.1 (c.2.1).toNat 0) ≤ 255 := by
      have hk : (c.2.1).toNat < c.1.length := by omega
      have hm : List.getD c.1 (c.2.1).toNat 0 ∈ c.1 := by
        rw [List.getD_eq_getElem?_getD, List.getElem?_eq_getElem hk]; exact List.getElem_mem hk
      have := h.by_ _ hm
      rw [w64 (by omega) (by omega)]
      exact this
    exact ⟨_, _, hb.1, hb.2, ok _, spec_l1Cur_next_p1 c h1 hl h1 (by rw [w]; omega)⟩
  · have hx : ¬ IntKind.wrap .i64 (c.2.1 + 1) ≤ ((c.1.length : Nat) : Int) := by rw [w]; omega
    exact ⟨_, _, (and255 _).1, (and255 _).2, ok _, spec_l1Cur_next_p4 c h1 hx⟩

theorem pick_SC {n : Nat} {c : Cur} (h : CurOk n c) (hn : n ≤ 2 ^ 40) (k : Int) (hk : k ≤ 2 ^ 40) : ∃ (r : Nat) (c' : Cur), (r : Int) < max k 1 ∧ CurOk (n + 2) c' ∧ SC cfg.P i_spec_l1Cur_pick [.s (.mbx CurK c), .s (.v (.int .i64) k)] (.s (.v (.int .i64) (r : Int))) [.box CurK c'] := by
  by_cases h1 : k ≤ 1
  · exact ⟨0, c, by omega, h.mono (by omega), spec_l1Cur_pick_p1 c k h1⟩
  · obtain ⟨x, c1, x0, x1, hc1, s1⟩ := next_SC h (by omega)
    have fin : ∀ (y : Int), 0 ≤ y → ∃ r : Nat, (r : Int) = Int.tmod y k ∧ (r : Int) < max k 1 := fun y hy => by
      have a := Int.tmod_nonneg k hy
      have b := Int.tmod_lt_of_pos y (b := k) (by omega)
      exact ⟨(Int.tmod y k).toNat, by omega, by omega⟩
    by_cases h2 : k > 200
    · obtain ⟨y, c2, y0, y1, hc2, s2⟩ := next_SC hc1 (by omega)
      have w1 : IntKind.wrap .i64 (x * 256) = x * 256 := by rw [w64] <;> omega
      have w2 : IntKind.wrap .i64 (IntKind.wrap .i64 (x * 256) + y) = x * 256 + y := by rw [w1, w64] <;> omega
      obtain ⟨r, e, hr⟩ := fin (IntKind.wrap .i64 (IntKind.wrap .i64 (x * 256) + y)) (by rw [w2]; omega)
      have st := spec_l1Cur_pick_p2 c k x c1 y c2 h1 s1 h2 s2 (by omega)
      have hw : IntKind.wrap .i64 (Int.tmod (IntKind.wrap .i64 (IntKind.wrap .i64 (x * 256) + y)) k) = Int.tmod (IntKind.wrap .i64 (IntKind.wrap .i64 (x * 256) + y)) k := by
        rw [← e, w64] <;> omega
      exact ⟨r, c2, hr, hc2.mono (by omega), e ▸ st⟩
    · obtain ⟨r, e, hr⟩ := fin x x0
      have st := spec_l1Cur_pick_p3 c k x c1 h1 s1 h2 (by omega)
      exact ⟨r, c1, hr, hc1.mono (by omega), e ▸ st⟩

theorem one_SC {n : Nat} {c : Cur} (h : CurOk n c) (hn : n ≤ 2 ^ 40) (k : Int) (hk : k ≤ 2 ^ 40) : ∃ (b : Bool) (c' : Cur), CurOk (n + 2) c' ∧ SC cfg.P i_spec_l1Cur_one [.s (.mbx CurK c), .s (.v (.int .i64) k)] (.s (.v .bool b)) [.box CurK c'] := by
  obtain ⟨r, c', hr, hc, s⟩ := pick_SC h hn k hk
  by_cases e : (r : Int) = 0
  · exact ⟨true, c', hc, spec_l1Cur_one_p1 c k _ c' s e⟩
  · exact ⟨false, c', hc, spec_l1Cur_one_p2 c k _ c' s e⟩

theorem among_SC {n : Nat} {c : Cur} (h : CurOk n c) (hn : n ≤ 2 ^ 40) (l : List Int) (hl : l.length ≤ 2 ^ 20) (h0 : 0 < l.length) : ∃ (s : Int) (c' : Cur), s ∈ l ∧ CurOk (n + 2) c' ∧ SC cfg.P i_spec_l1Cur_among [.s (.mbx CurK c), .s (.v (.sl (.int .i64)) l)] (.s (.v (.int .i64) s)) [.box CurK c'] := by
  obtain ⟨r, c', hr, hc, s⟩ := pick_SC h hn (l.length : Int) (by omega)
  have hr2 : r < l.length := by omega
  have st := spec_l1Cur_among_p1 c l (r : Int) c' s (by omega) (by omega)
  rw [Int.toNat_natCast] at st
  refine ⟨_, c', ?_, hc, st⟩
  rw [List.getD_eq_getElem?_getD, List.getElem?_eq_getElem hr2]; exact List.getElem_mem hr2

theorem ext_len (s : ByteArray) (a b : Nat) : (s.extract a b).size = min b s.size - a := ByteArray.size_extract

theorem strOf_one (x : Int) : (strOf ([x] : List Int)).size ≤ 1 := by
  unfold strOf
  simp [ByteArray.size]

end Go.AI
