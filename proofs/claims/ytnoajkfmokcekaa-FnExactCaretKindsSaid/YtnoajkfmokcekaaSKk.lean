/- Contracts: kinds of carets. -/
import Derived.Test.YtnoajkfmokcekaaSKt
set_option autoImplicit false
set_option maxRecDepth 100000
set_option linter.unusedVariables false
namespace Go.AI
open Go.Proofs

abbrev Mk : Type := Int × Bool

/-- All carets' marks. -/
def mkT : Tr → Int → Bool → List Mk
  | .leaf, _, _ => []
  | .node l r, s, wh => mkT l (if s = 0 then 0 else 2) false ++ [(s, r.isLeaf)] ++ mkT r (if wh = true ∨ s = 1 then 1 else 2) false

theorem mkT_len : ∀ (t : Tr) (s : Int) (wh : Bool), (mkT t s wh).length = t.c
  | .leaf, _, _ => rfl
  | .node l r, s, wh => by
    simp only [mkT, List.length_append, mkT_len l, mkT_len r, List.length_cons, List.length_nil, Tr.c]; omega

theorem mkT_sides : ∀ (t : Tr) (s : Int) (wh : Bool), (s = 0 ∨ s = 1 ∨ s = 2) → ∀ m ∈ mkT t s wh, m.1 = 0 ∨ m.1 = 1 ∨ m.1 = 2
  | .leaf, _, _, _, m, h => by simp [mkT] at h
  | .node l r, s, wh, hs, m, h => by
    simp only [mkT, List.mem_append, List.mem_cons, List.not_mem_nil, or_false] at h
    rcases h with (h | h) | h
    · exact mkT_sides l _ _ (by split <;> simp) m h
    · subst h; exact hs
    · exact mkT_sides r _ _ (by split <;> simp) m h

theorem marks_SC : ∀ (t : Tr) (s : Int) (wh : Bool), t.c ≤ 2 ^ 30 → SC cfg.P i_impl_node_marks [.s (.v .tree t), .s (.v (.int .i64) s), .s (.v .bool wh)] (.s (.own t_impl_mark (.pr (.int .i64) .bool) (mkT t s wh))) []
  | .leaf, s, wh, _ => impl_node_marks_p1 s wh
  | .node l r, s, wh, hc => by
    simp only [Tr.c] at hc
    have h1 := marks_SC l (if s = 0 then 0 else 2) false (by omega)
    have h2 := marks_SC r (if wh = true ∨ s = 1 then 1 else 2) false (by omega)
    have z1 : sizeOK (List.length (mkT l (if s = 0 then 0 else 2) false) + List.length ([(s, r.isLeaf)] : List (Int × Bool))) := by
      unfold sizeOK lim; rw [mkT_len]; simp; omega
    have z2 : sizeOK (List.length (mkT l (if s = 0 then 0 else 2) false ++ ([(s, r.isLeaf)] : List (Int × Bool))) + List.length (mkT r (if wh = true ∨ s = 1 then 1 else 2) false)) := by
      unfold sizeOK lim; rw [List.length_append, mkT_len, mkT_len]; simp; omega
    have e : mkT (.node l r) s wh = (mkT l (if s = 0 then 0 else 2) false ++ [(s, r.isLeaf)]) ++ mkT r (if wh = true ∨ s = 1 then 1 else 2) false := rfl
    rw [e]
    by_cases h0 : s = 0
    · subst h0
      simp only [if_true] at h1 z1 z2 ⊢
      cases wh with
      | true =>
        simp only [true_or, if_true] at h2 z2 ⊢
        cases r with
        | leaf => exact impl_node_marks_p2 _ _ _ _ rfl h1 z1 h2 z2
        | node rl rr => exact impl_node_marks_p3 _ _ _ _ _ _ rfl h1 z1 h2 z2
      | false =>
        have e2 : (if (false = true ∨ (0 : Int) = 1) then (1 : Int) else 2) = 2 := by decide
        rw [e2] at h2 z2 ⊢
        cases r with
        | leaf => exact impl_node_marks_p6 _ _ _ _ rfl (by decide) h1 z1 h2 z2
        | node rl rr => exact impl_node_marks_p7 _ _ _ _ _ _ rfl (by decide) h1 z1 h2 z2
    · rw [if_neg h0] at h1 z1 z2 ⊢
      cases wh with
      | true =>
        simp only [true_or, if_true] at h2 z2 ⊢
        cases r with
        | leaf => exact impl_node_marks_p8 _ _ _ _ h0 h1 z1 h2 z2
        | node rl rr => exact impl_node_marks_p9 _ _ _ _ _ _ h0 h1 z1 h2 z2
      | false =>
        by_cases h1s : s = 1
        · have e2 : (if (false = true ∨ s = 1) then (1 : Int) else 2) = 1 := by simp [h1s]
          rw [e2] at h2 z2 ⊢
          cases r with
          | leaf => exact impl_node_marks_p10 _ _ _ _ h0 h1s h1 z1 h2 z2
          | node rl rr => exact impl_node_marks_p11 _ _ _ _ _ _ h0 h1s h1 z1 h2 z2
        · have e2 : (if (false = true ∨ s = 1) then (1 : Int) else 2) = 2 := by simp [h1s]
          rw [e2] at h2 z2 ⊢
          cases r with
          | leaf => exact impl_node_marks_p12 _ _ _ _ h0 h1s h1 z1 h2 z2
          | node rl rr => exact impl_node_marks_p13 _ _ _ _ _ _ h0 h1s h1 z1 h2 z2

/-! ### The kinds -/

abbrev sL0 : ByteArray := ⟨#[76, 48]⟩
abbrev sLL : ByteArray := ⟨#[76, 76]⟩
abbrev sR : ByteArray := ⟨#[82]⟩
abbrev sR0 : ByteArray := ⟨#[82, 48]⟩
abbrev sRI : ByteArray := ⟨#[82, 73]⟩
abbrev sRN : ByteArray := ⟨#[82, 78]⟩
abbrev sI0 : ByteArray := ⟨#[73, 48]⟩
abbrev sIR : ByteArray := ⟨#[73, 82]⟩

def notR (M : List Mk) : Bool := M.any fun m => !(m.1 == 1)

def kindAt (M : List Mk) (i : Nat) : ByteArray :=
  if i = 0 then sL0 else
  if (M.getD i (0, false)).1 = 0 then sLL else
  if (M.getD i (0, false)).1 = 1 then (if notR (M.drop i) = true then (if (M.getD (i + 1) (0, false)).1 = 2 then sRI else sRN) else sR0) else
  if (M.getD i (0, false)).2 = true then sI0 else sIR

def kindsL (M : List Mk) : List ByteArray := (List.range M.length).map (kindAt M)

theorem kindsL_length (M : List Mk) : (kindsL M).length = M.length := by simp [kindsL]

theorem kindsL_get (M : List Mk) (i : Nat) (h : i < M.length) : (kindsL M).getD i ⟨#[]⟩ = kindAt M i := by
  simp [kindsL, List.getD_eq_getElem?_getD, h]

theorem take_kinds (M : List Mk) (i : Nat) (h : i < M.length) : (kindsL M).take (i + 1) = (kindsL M).take i ++ [kindAt M i] := by
  have hl : i < (kindsL M).length := by rw [kindsL_length]; exact h
  rw [← List.take_append_getElem hl]
  congr 2
  have := kindsL_get M i h
  rw [List.getD_eq_getElem?_getD, List.getElem?_eq_getElem hl] at this
  exact this

theorem notR_drop (M : List Mk) (i : Nat) (h : i < M.length) : notR (M.drop i) = (!((M.getD i (0, false)).1 == 1) || notR (M.drop (i + 1))) := by
  rw [List.drop_eq_getElem_cons h]
  simp only [notR, List.any_cons, List.getD_eq_getElem?_getD, List.getElem?_eq_getElem h, Option.getD]

theorem index_L (M : List Mk) (hM : M.length ≤ 2 ^ 40) : ∀ (m i : Nat), M.length - i = m → i ≤ M.length →
    (notR (M.drop i) = true → ∃ j : Nat, LoopSC cfg.P 2 (lb P_slices_IndexFunc 0) (slices_IndexFunc_L0a M (M.length : Int) (i : Int)) .ret (slices_IndexFunc_L0X1 (j : Int))) ∧
    (notR (M.drop i) = false → LoopSC cfg.P 2 (lb P_slices_IndexFunc 0) (slices_IndexFunc_L0a M (M.length : Int) (i : Int)) (.exit 0) (slices_IndexFunc_L0X2 M (M.length : Int) (M.length : Int) false)) := by
  intro m
  induction m with
  | zero =>
    intro i hm hi
    have e : i = M.length := by omega
    subst e
    refine ⟨fun h => ?_, fun _ => slices_IndexFunc_L0a_x3 _ _ _ (by omega)⟩
    rw [List.drop_length] at h
    cases h
  | succ m ih =>
    intro i hm hi
    have hlt : i < M.length := by omega
    obtain ⟨h1, h2⟩ := ih (i + 1) (by omega) (by omega)
    have e1 : IntKind.wrap .i64 ((i : Int) + 1) = ((i + 1 : Nat) : Int) := by rw [w64] <;> omega
    rw [notR_drop M i hlt]
    by_cases hs : (M.getD i (0, false)).1 = 1
    · have hk : SC cfg.P i_impl_node_kinds_k1 [.s (.v (.pr (.int .i64) .bool) (List.getD M ((i : Int)).toNat ((0 : Int), false)))] (.s (.v .bool false)) [] :=
        impl_node_kinds_k1_p2 _ (by rw [Int.toNat_natCast]; exact hs)
      rw [hs]
      refine ⟨fun h => ?_, fun h => ?_⟩
      · obtain ⟨j, hj⟩ := h1 (by simpa using h)
        rw [← e1] at hj
        exact ⟨j, slices_IndexFunc_L0a_i2 _ _ _ (by omega) (by omega) (by omega) hk hj⟩
      · have hj := h2 (by simpa using h)
        rw [← e1] at hj
        exact slices_IndexFunc_L0a_i2 _ _ _ (by omega) (by omega) (by omega) hk hj
    · have hk : SC cfg.P i_impl_node_kinds_k1 [.s (.v (.pr (.int .i64) .bool) (List.getD M ((i : Int)).toNat ((0 : Int), false)))] (.s (.v .bool true)) [] :=
        impl_node_kinds_k1_p1 _ (by rw [Int.toNat_natCast]; exact hs)
      have hb : ((M.getD i (0, false)).1 == 1) = false := beq_f hs
      rw [hb]
      refine ⟨fun _ => ⟨i, slices_IndexFunc_L0a_x1 _ _ _ (by omega) (by omega) (by omega) hk⟩, fun h => ?_⟩
      simp at h

theorem contains_SC (M : List Mk) (hM : M.length ≤ 2 ^ 40) : SC cfg.P i_slices_ContainsFunc [.s (.v (.sl (.pr (.int .i64) .bool)) M), .fn i_impl_node_kinds_k1 [] []] (.s (.v .bool (notR M))) [] := by
  obtain ⟨h1, h2⟩ := index_L M hM M.length 0 (by omega) (by omega)
  rw [List.drop_zero] at h1 h2
  cases h : notR M with
  | true =>
    obtain ⟨j, hj⟩ := h1 h
    exact slices_ContainsFunc_p1 _ _ (slices_IndexFunc_p1 _ _ hj) (by omega)
  | false => exact slices_ContainsFunc_p2 _ _ (slices_IndexFunc_p2 _ _ _ _ _ (h2 h)) (by omega)

theorem kinds_L (M : List Mk) (hM : M.length ≤ 2 ^ 39) : ∀ (m i : Nat), M.length - i = m → 1 ≤ i → i ≤ M.length →
    LoopSC cfg.P 1 (lb P_impl_node_kinds 0) (impl_node_kinds_L0b M M (M.length : Int) (i : Int) ((kindsL M).take i)) (.exit 0) (impl_node_kinds_L0X2 M M (M.length : Int) (M.length : Int) false (kindsL M)) := by
  intro m
  induction m with
  | zero =>
    intro i hm h1 hi
    have e : i = M.length := by omega
    subst e
    have e2 : (kindsL M).take M.length = kindsL M := by rw [← kindsL_length M]; exact List.take_length
    rw [e2]
    exact impl_node_kinds_L0b_x8 _ _ _ _ _ (by omega)
  | succ m ih =>
    intro i hm h1 hi
    have hlt : i < M.length := by omega
    have hn := ih (i + 1) (by omega) (by omega) (by omega)
    have e1 : IntKind.wrap .i64 ((i : Int) + 1) = ((i + 1 : Nat) : Int) := by rw [w64] <;> omega
    rw [take_kinds M i hlt, ← e1] at hn
    have hz : ∀ x : ByteArray, sizeOK (List.length ((kindsL M).take i) + List.length ([x] : List ByteArray)) := fun x => by
      unfold sizeOK lim
      rw [List.length_take, kindsL_length]
      simp
      omega
    have g1 : (i : Int) < ((List.length M : Nat) : Int) := by omega
    have g2 : (0 : Int) ≤ (i : Int) := by omega
    have g4 : (i : Int) ≠ 0 := by omega
    have hkA : kindAt M i = if (M.getD i (0, false)).1 = 0 then sLL else if (M.getD i (0, false)).1 = 1 then (if notR (M.drop i) = true then (if (M.getD (i + 1) (0, false)).1 = 2 then sRI else sRN) else sR0) else
        if (M.getD i (0, false)).2 = true then sI0 else sIR := by
      unfold kindAt
      rw [if_neg (by omega)]
    by_cases s0 : (M.getD i (0, false)).1 = 0
    · rw [hkA, if_pos s0] at hn
      exact impl_node_kinds_L0b_i2 _ _ _ _ _ g1 g2 g1 g4 (by rw [Int.toNat_natCast]; exact s0) (hz _) hn
    · rw [if_neg s0] at hkA
      by_cases s1 : (M.getD i (0, false)).1 = 1
      · rw [if_pos s1] at hkA
        have hcut : cutL M (i : Int) ((List.length M : Nat) : Int) = M.drop i := by simp [cutL]
        have hc := contains_SC (M.drop i) (by simp; omega)
        rw [← hcut] at hc
        cases hnr : notR (M.drop i) with
        | true =>
          rw [hcut, hnr, ← hcut] at hc
          rw [hnr, if_pos rfl] at hkA
          have hi1 : i + 1 < M.length := by
            rcases Nat.lt_or_ge (i + 1) M.length with h | h
            · exact h
            · rw [notR_drop M i hlt, s1, List.drop_eq_nil_of_le h] at hnr
              simp [notR] at hnr
          have g5 : 0 ≤ IntKind.wrap .i64 ((i : Int) + 1) := by rw [e1]; omega
          have g6 : IntKind.wrap .i64 ((i : Int) + 1) < (List.length M : Int) := by rw [e1]; omega
          by_cases s2 : (M.getD (i + 1) (0, false)).1 = 2
          · rw [hkA, if_pos s2] at hn
            exact impl_node_kinds_L0b_i3 _ _ _ _ _ g1 g2 g1 g4 (by rw [Int.toNat_natCast]; exact s0) (by rw [Int.toNat_natCast]; exact s1) (by omega) hc g5 g6 (by rw [e1, Int.toNat_natCast]; exact s2) (hz _) hn
          · rw [hkA, if_neg s2] at hn
            exact impl_node_kinds_L0b_i4 _ _ _ _ _ g1 g2 g1 g4 (by rw [Int.toNat_natCast]; exact s0) (by rw [Int.toNat_natCast]; exact s1) (by omega) hc g5 g6 (by rw [e1, Int.toNat_natCast]; exact s2) (hz _) hn
        | false =>
          rw [hcut, hnr, ← hcut] at hc
          rw [hnr, if_neg (by decide)] at hkA
          rw [hkA] at hn
          exact impl_node_kinds_L0b_i5 _ _ _ _ _ g1 g2 g1 g4 (by rw [Int.toNat_natCast]; exact s0) (by rw [Int.toNat_natCast]; exact s1) (by omega) hc (hz _) hn
      · rw [if_neg s1] at hkA
        by_cases sl : (M.getD i (0, false)).2 = true
        · rw [hkA, if_pos sl] at hn
          exact impl_node_kinds_L0b_i6 _ _ _ _ _ g1 g2 g1 g4 (by rw [Int.toNat_natCast]; exact s0) (by rw [Int.toNat_natCast]; exact s1) (by rw [Int.toNat_natCast]; exact sl) (hz _) hn
        · rw [hkA, if_neg sl] at hn
          exact impl_node_kinds_L0b_i7 _ _ _ _ _ g1 g2 g1 g4 (by rw [Int.toNat_natCast]; exact s0) (by rw [Int.toNat_natCast]; exact s1) (by rw [Int.toNat_natCast]; simpa using sl) (hz _) hn

theorem kinds_SC (t : Tr) (h : t.c ≤ 2 ^ 30) : SC cfg.P i_impl_node_kinds [.s (.v .tree t)] (.s (.own t_string .str (kindsL (mkT t 0 true)))) [] := by
  have hm := (marks_SC t 0 true h).view
  have hlen := mkT_len t 0 true
  cases t with
  | leaf => exact impl_node_kinds_p1 _ _ _ _ _ _ _ hm (impl_node_kinds_L0a_x8 _ _ _ _ (by simp [mkT]))
  | node l r =>
    have hpos : 1 ≤ (mkT (.node l r) 0 true).length := by rw [hlen]; simp only [Tr.c]; omega
    have hL := kinds_L (mkT (.node l r) 0 true) (by rw [hlen]; omega) _ 1 rfl (by omega) hpos
    have e0 : (kindsL (mkT (.node l r) 0 true)).take 1 = [sL0] := by
      rw [take_kinds _ 0 (by omega), List.take_zero]
      rfl
    rw [e0] at hL
    have e1 : IntKind.wrap .i64 ((0 : Int) + 1) = ((1 : Nat) : Int) := by rw [w64] <;> omega
    rw [← e1] at hL
    exact impl_node_kinds_p2 _ _ _ _ _ _ _ _ hm (impl_node_kinds_L0a_i1 _ _ _ _ (by omega) (by omega) (by omega) rfl (by unfold sizeOK lim; simp) hL)

end Go.AI
