/- The draws of pairs that can be reduced, and of choices. -/
import Derived.Test.YtdfllkeekehplaaDd
import Derived.Test.YtdfllkeekehplaaGO
set_option autoImplicit false
set_option maxRecDepth 100000
set_option linter.unusedVariables false
namespace Go.AI
open Go.Proofs

theorem loose_SC {n : Nat} {c : Cur} (h : CurOk n c) (hn : n ≤ 2 ^ 29) : ∃ (p : Tr × Tr) (c' : Cur), p.1.c = p.2.c ∧ p.1.c ≤ 8 ∧ CurOk (n + 100) c' ∧
    SC cfg.P i_spec_l1Cur_loose [.s (.mbx CurK c)] (.s (.v (.pr .str .str) (pt p))) [.box CurK c'] := by
  obtain ⟨r, c1, hr, h1, s1⟩ := pick_SC h (by omega) 4 (by omega)
  obtain ⟨p, c2, p1, p2, h2, s2⟩ := surePair_SC h1 r (by omega) (by omega)
  obtain ⟨k, c3, hk, h3, s3⟩ := pick_SC h2 (by omega) 5 (by omega)
  have key : ∀ (m : Nat) (q : Tr × Tr) (c : Cur) (N : Nat), m ≤ 5 → N + 2 * m ≤ 2 ^ 30 → q.1.c = q.2.c → q.1.c + m ≤ 8 → CurOk N c → ∃ (q' : Tr × Tr) (c' : Cur), q'.1.c = q'.2.c ∧ q'.1.c ≤ 8 ∧ CurOk (N + 2 * m) c' ∧
      LoopSC cfg.P 1 (lb P_spec_l1Cur_loose 0) (spec_l1Cur_loose_L0a (m : Int) c ((⟨#[]⟩ : ByteArray), (⟨#[]⟩ : ByteArray)) (pt q)) (.exit 0) (spec_l1Cur_loose_L0X1 0 false c' ((⟨#[]⟩ : ByteArray), (⟨#[]⟩ : ByteArray)) (pt q')) := by
    intro m
    induction m with
    | zero => exact fun q c N _ _ hq hc hN => ⟨q, c, hq, by omega, hN.mono (by omega), spec_l1Cur_loose_L0a_x2 _ _ _ _ (by omega)⟩
    | succ m ih =>
      intro q c N hm hN hq hc hok
      have e : IntKind.wrap .i64 (((m + 1 : Nat) : Int) - 1) = (m : Int) := by rw [w64] <;> omega
      have l1 := txt_len q.1
      have t1 := trCarets_SC (txt q.1) (by omega)
      rw [txt_count] at t1
      have e1 : IntKind.wrap .i64 (((q.1.c : Nat) : Int) + 1) = ((q.1.c + 1 : Nat) : Int) := by rw [w64] <;> omega
      obtain ⟨x, d1, hx, g1, s4⟩ := pick_SC hok (by omega) ((q.1.c + 1 : Nat) : Int) (by omega)
      rw [← e1] at s4
      have hx1 : x ≤ q.1.c := by omega
      have a1 := trGraft_SC q.1 x (.node .leaf .leaf) hx1 (by omega) (by decide)
      have a2 := trGraft_SC q.2 x (.node .leaf .leaf) (by omega) (by omega) (by decide)
      have b1 := grf_c q.1 x (.node .leaf .leaf) hx1
      have b2 := grf_c q.2 x (.node .leaf .leaf) (by omega)
      have z : (Tr.node .leaf .leaf).c = 1 := rfl
      obtain ⟨q', c', r1, r2, r3, r4⟩ := ih (grf q.1 x (.node .leaf .leaf), grf q.2 x (.node .leaf .leaf)) d1 (N + 2) (by omega) (by omega) (by show (grf q.1 x _).c = (grf q.2 x _).c; omega) (by show (grf q.1 x _).c + m ≤ 8; omega) g1
      rw [← e] at r4
      exact ⟨q', c', r1, r2, r3.mono (by omega), spec_l1Cur_loose_L0a_i1 _ _ _ _ _ _ _ _ _ (by omega) t1 s4 a1 a2 r4⟩
  obtain ⟨q', c', r1, r2, r3, r4⟩ := key k p c3 (n + 2 + 4 * r + 2) (by omega) (by omega) (by omega) (by omega) h3
  exact ⟨q', c', r1, r2, r3.mono (by omega), spec_l1Cur_loose_p1 _ _ _ _ _ _ _ _ _ _ _ _ s1 s2 s3 r4⟩

theorem choices_SC {n : Nat} {c : Cur} (h : CurOk n c) (hn : n ≤ 2 ^ 29) : ∃ (l : List Int) (c' : Cur), l.length ≤ 8 ∧
    SC cfg.P i_spec_l1Cur_choices [.s (.mbx CurK c)] (.s (.own t_int (.int .i64) l)) [.box CurK c'] := by
  obtain ⟨k, c1, hk, h1, s1⟩ := pick_SC h (by omega) 7 (by omega)
  have key : ∀ (m : Nat) (l : List Int) (c : Cur) (N : Nat), m ≤ 7 → N + 2 * m ≤ 2 ^ 30 → l.length + m ≤ 7 → CurOk N c → ∃ (l' : List Int) (c' : Cur), l'.length ≤ 7 ∧ CurOk (N + 2 * m) c' ∧
      LoopSC cfg.P 1 (lb P_spec_l1Cur_choices 0) (spec_l1Cur_choices_L0a (m : Int) c l) (.exit 0) (spec_l1Cur_choices_L0X1 0 false c' l') := by
    intro m
    induction m with
    | zero => exact fun l c N _ _ hl hN => ⟨l, c, by omega, hN.mono (by omega), spec_l1Cur_choices_L0a_x2 _ _ _ (by omega)⟩
    | succ m ih =>
      intro l c N hm hN hl hok
      have e : IntKind.wrap .i64 (((m + 1 : Nat) : Int) - 1) = (m : Int) := by rw [w64] <;> omega
      obtain ⟨x, d1, hx, g1, s4⟩ := pick_SC hok (by omega) 5 (by omega)
      obtain ⟨l', c', r1, r2, r3⟩ := ih (l ++ [(x : Int)]) d1 (N + 2) (by omega) (by omega) (by rw [List.length_append, List.length_singleton]; omega) g1
      rw [← e] at r3
      exact ⟨l', c', r1, r2.mono (by omega), spec_l1Cur_choices_L0a_i1 _ _ _ _ _ (by omega) s4 (sizeOK_one (by omega)) r3⟩
  obtain ⟨l, c2, r1, r2, r3⟩ := key k [] c1 (n + 2) (by omega) (by omega) (by simp; omega) h1
  obtain ⟨b, c3, h3, s3⟩ := one_SC r2 (by omega) 14 (by omega)
  cases b with
  | true =>
    obtain ⟨x, c4, hx, h4, s4⟩ := among_SC h3 (by omega) ([-1, 4611686018427387904] : List Int) (by decide) (by decide)
    exact ⟨l ++ [x], c4, by rw [List.length_append, List.length_singleton]; omega, spec_l1Cur_choices_p1 _ _ _ _ _ _ _ _ _ _ s1 r3 s3 s4 (sizeOK_one (by omega))⟩
  | false => exact ⟨l, c3, by omega, spec_l1Cur_choices_p2 _ _ _ _ _ _ _ _ s1 r3 s3⟩

theorem choices0_SC {n : Nat} {c : Cur} (h : CurOk n c) (hn : n ≤ 2 ^ 29) : ∃ (l : List Nat) (c' : Cur), l.length ≤ 8 ∧
    SC cfg.P i_spec_l1Cur_choices0 [.s (.mbx CurK c)] (.s (.own t_int (.int .i64) (ints l))) [.box CurK c'] := by
  obtain ⟨k, c1, hk, h1, s1⟩ := pick_SC h (by omega) 4 (by omega)
  have key : ∀ (m : Nat) (l : List Nat) (c : Cur) (N : Nat), m ≤ 7 → N + 2 * m ≤ 2 ^ 30 → l.length + m ≤ 7 → CurOk N c → ∃ (l' : List Nat) (c' : Cur), l'.length ≤ 7 ∧
      LoopSC cfg.P 1 (lb P_spec_l1Cur_choices0 0) (spec_l1Cur_choices0_L0a (m : Int) c (ints l)) (.exit 0) (spec_l1Cur_choices0_L0X1 0 false c' (ints l')) := by
    intro m
    induction m with
    | zero => exact fun l c N _ _ hl hN => ⟨l, c, by omega, spec_l1Cur_choices0_L0a_x2 _ _ _ (by omega)⟩
    | succ m ih =>
      intro l c N hm hN hl hok
      have e : IntKind.wrap .i64 (((m + 1 : Nat) : Int) - 1) = (m : Int) := by rw [w64] <;> omega
      obtain ⟨x, d1, hx, g1, s4⟩ := pick_SC hok (by omega) 5 (by omega)
      obtain ⟨l', c', r1, r3⟩ := ih (l ++ [x]) d1 (N + 2) (by omega) (by omega) (by rw [List.length_append, List.length_singleton]; omega) g1
      have em : ints (l ++ [x]) = ints l ++ [(x : Int)] := by rw [ints, List.map_append]; rfl
      rw [← e, em] at r3
      have li : (ints l).length = l.length := List.length_map ..
      exact ⟨l', c', r1, spec_l1Cur_choices0_L0a_i1 _ _ _ _ _ (by omega) s4 (sizeOK_one (by omega)) r3⟩
  obtain ⟨l, c2, r1, r3⟩ := key k [] c1 (n + 2) (by omega) (by omega) (by simp; omega) h1
  exact ⟨l, c2, by omega, spec_l1Cur_choices0_p1 _ _ _ _ _ _ _ s1 r3⟩

end Go.AI
