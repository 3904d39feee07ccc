/- Contracts: kinds of carets. -/
import Derived.Test.YtdfllkeekehplaaGM
import Derived.Test.YtdfllkeekehplaaCT
set_option autoImplicit false
set_option maxRecDepth 100000
set_option linter.unusedVariables false
namespace Go.AI
open Go.Proofs

abbrev Mk : Type := Int × Bool

/-- All carets' marks. -/
def mkT : Tr → Int → Bool → List Mk
  | .leaf, _, _ => []
  | .node l r, s, wh => mkT l (if s = 0 then 0 else 2) false ++ [(s, r.isLeaf)] ++ mkT r (if wh = true ∨ s = 1 then 1 else 2) false

theorem mkT_len : ∀ (t : Tr) (s : Int) (wh : Bool), (mkT t s wh).length = t.c
  | .leaf, _, _ => rfl
  | .node l r, s, wh => by
    simp only [mkT, List.length_append, mkT_len l, mkT_len r, List.length_cons, List.length_nil, Tr.c]; omega

theorem mkT_sides : ∀ (t : Tr) (s : Int) (wh : Bool), (s = 0 ∨ s = 1 ∨ s = 2) → ∀ m ∈ mkT t s wh, m.1 = 0 ∨ m.1 = 1 ∨ m.1 = 2
  | .leaf, _, _, _, m, h => by simp [mkT] at h
  | .node l r, s, wh, hs, m, h => by
    simp only [mkT, List.mem_append, List.mem_cons, List.not_mem_nil, or_false] at h
    rcases h with (h | h) | h
    · exact mkT_sides l _ _ (by split <;> simp) m h
    · subst h; exact hs
    · exact mkT_sides r _ _ (by split <;> simp) m h

theorem marks_SC : ∀ (t : Tr) (s : Int) (wh : Bool), t.c ≤ 2 ^ 30 → SC cfg.P i_impl_node_marks [.s (.v .tree t), .s (.v (.int .i64) s), .s (.v .bool wh)] (.s (.own t_impl_mark (.pr (.int .i64) .bool) (mkT t s wh))) []
  | .leaf, s, wh, _ => impl_node_marks_p1 s wh
  | .node l r, s, wh, hc => by
    simp only [Tr.c] at hc
    have h1 := marks_SC l (if s = 0 then 0 else 2) false (by omega)
    have h2 := marks_SC r (if wh = true ∨ s = 1 then 1 else 2) false (by omega)
    have z1 : sizeOK (List.length (mkT l (if s = 0 then 0 else 2) false) + List.length ([(s, r.isLeaf)] : List (Int × Bool))) := by
      unfold sizeOK lim; rw [mkT_len]; simp; omega
    have z2 : sizeOK (List.length (mkT l (if s = 0 then 0 else 2) false ++ ([(s, r.isLeaf)] : List (Int × Bool))) + List.length (mkT r (if wh = true ∨ s = 1 then 1 else 2) false)) := by
      unfold sizeOK lim; rw [List.length_append, mkT_len, mkT_len]; simp; omega
    have e : mkT (.node l r) s wh = (mkT l (if s = 0 then 0 else 2) false ++ [(s, r.isLeaf)]) ++ mkT r (if wh = true ∨ s = 1 then 1 else 2) false := rfl
    rw [e]
    by_cases h0 : s = 0
    · subst h0
      simp only [if_true] at h1 z1 z2 ⊢
      cases wh with
      | true =>
        simp only [true_or, if_true] at h2 z2 ⊢
        cases r with
        | leaf => exact impl_node_marks_p2 _ _ _ _ rfl h1 z1 h2 z2
        | node rl rr => exact impl_node_marks_p3 _ _ _ _ _ _ rfl h1 z1 h2 z2
      | false =>
        have e2 : (if (false = true ∨ (0 : Int) = 1) then (1 : Int) else 2) = 2 := by decide
        rw [e2] at h2 z2 ⊢
        cases r with
        | leaf => exact impl_node_marks_p6 _ _ _ _ rfl (by decide) h1 z1 h2 z2
        | node rl rr => exact impl_node_marks_p7 _ _ _ _ _ _ rfl (by decide) h1 z1 h2 z2
    · rw [if_neg h0] at h1 z1 z2 ⊢
      cases wh with
      | true =>
        simp only [true_or, if_true] at h2 z2 ⊢
        cases r with
        | leaf => exact impl_node_marks_p8 _ _ _ _ h0 h1 z1 h2 z2
        | node rl rr => exact impl_node_marks_p9 _ _ _ _ _ _ h0 h1 z1 h2 z2
      | false =>
        by_cases h1s : s = 1
        · have e2 : (if (false = true ∨ s = 1) then (1 : Int) else 2) = 1 := by simp [h1s]
          rw [e2] at h2 z2 ⊢
          cases r with
          | leaf => exact impl_node_marks_p10 _ _ _ _ h0 h1s h1 z1 h2 z2
          | node rl rr => exact impl_node_marks_p11 _ _ _ _ _ _ h0 h1s h1 z1 h2 z2
        · have e2 : (if (false = true ∨ s = 1) then (1 : Int) else 2) = 2 := by simp [h1s]
          rw [e2] at h2 z2 ⊢
          cases r with
          | leaf => exact impl_node_marks_p12 _ _ _ _ h0 h1s h1 z1 h2 z2
          | node rl rr => exact impl_node_marks_p13 _ _ _ _ _ _ h0 h1s h1 z1 h2 z2

abbrev sL0 : ByteArray := ⟨#[76, 48]⟩

abbrev sLL : ByteArray := ⟨#[76, 76]⟩

abbrev sR : ByteArray := ⟨#[82]⟩

abbrev sR0 : ByteArray := ⟨#[82, 48]⟩

abbrev sRI : ByteArray := ⟨#[82, 73]⟩

abbrev sRN : ByteArray := ⟨#[82, 78]⟩

abbrev sI0 : ByteArray := ⟨#[73, 48]⟩

abbrev sIR : ByteArray := ⟨#[73, 82]⟩

def notR (M : List Mk) : Bool := M.any fun m => !(m.1 == 1)

def kindAt (M : List Mk) (i : Nat) : ByteArray :=
  if i = 0 then sL0 else
  if (M.getD i (0, false)).1 = 0 then sLL else
  if (M.getD i (0, false)).1 = 1 then (if notR (M.drop i) = true then (if (M.getD (i + 1) (0, false)).1 = 2 then sRI else sRN) else sR0) else
  if (M.getD i (0, false)).2 = true then sI0 else sIR

def kindsL (M : List Mk) : List ByteArray := (List.range M.length).map (kindAt M)

theorem kindsL_length (M : List Mk) : (kindsL M).length = M.length := by simp [kindsL]

theorem kindsL_get (M : List Mk) (i : Nat) (h : i < M.length) : (kindsL M).getD i ⟨#[]⟩ = kindAt M i := by
  simp [kindsL, List.getD_eq_getElem?_getD, h]

theorem take_kinds (M : List Mk) (i : Nat) (h : i < M.length) : (kindsL M).take (i + 1) = (kindsL M).take i ++ [kindAt M i] := by
  have hl : i < (kindsL M).length := by rw [kindsL_length]; exact h
  rw [← List.take_append_getElem hl]
  congr 2
  have := kindsL_get M i h
  rw [List.getD_eq_getElem?_getD, List.getElem?_eq_getElem hl] at this
  exact this

theorem notR_drop (M : List Mk) (i : Nat) (h : i < M.length) : notR (M.drop i) = (!((M.getD i (0, false)).1 == 1) || notR (M.drop (i + 1))) := by
  rw [List.drop_eq_getElem_cons h]
  simp only [notR, List.any_cons, List.getD_eq_getElem?_getD, List.getElem?_eq_getElem h, Option.getD]

theorem index_L (M : List Mk) (hM : M.length ≤ 2 ^ 40) : ∀ (m i : Nat), M.length - i = m → i ≤ M.length →
    (notR (M.drop i) = true → ∃ j : Nat, LoopSC cfg.P 2 (lb P_slices_IndexFunc_loopexampleg01161implmark 0) (slices_IndexFunc_loopexampleg01161implmark_L0a M (M.length : Int) (i : Int)) .ret (slices_IndexFunc_loopexampleg01161implmark_L0X1 (j : Int))) ∧
    (notR (M.drop i) = false → LoopSC cfg.P 2 (lb P_slices_IndexFunc_loopexampleg01161implmark 0) (slices_IndexFunc_loopexampleg01161implmark_L0a M (M.length : Int) (i : Int)) (.exit 0) (slices_IndexFunc_loopexampleg01161implmark_L0X2 M (M.length : Int) (M.length : Int) false)) := by
  intro m
  induction m with
  | zero =>
    intro i hm hi
    have e : i = M.length := by omega
    subst e
    refine ⟨fun h => ?_, fun _ => slices_IndexFunc_loopexampleg01161implmark_L0a_x3 _ _ _ (by omega)⟩
    rw [List.drop_length] at h
    cases h
  | succ m ih =>
    intro i hm hi
    have hlt : i < M.length := by omega
    obtain ⟨h1, h2⟩ := ih (i + 1) (by omega) (by omega)
    have e1 : IntKind.wrap .i64 ((i : Int) + 1) = ((i + 1 : Nat) : Int) := by rw [w64] <;> omega
    rw [notR_drop M i hlt]
    by_cases hs : (M.getD i (0, false)).1 = 1
    · have hk : SC cfg.P i_impl_node_kinds_k1 [.s (.v (.pr (.int .i64) .bool) (List.getD M ((i : Int)).toNat ((0 : Int), false)))] (.s (.v .bool false)) [] :=
        impl_node_kinds_k1_p2 _ (by rw [Int.toNat_natCast]; exact hs)
      rw [hs]
      refine ⟨fun h => ?_, fun h => ?_⟩
      · obtain ⟨j, hj⟩ := h1 (by simpa using h)
        rw [← e1] at hj
        exact ⟨j, slices_IndexFunc_loopexampleg01161implmark_L0a_i2 _ _ _ (by omega) (by omega) (by omega) hk hj⟩
      · have hj := h2 (by simpa using h)
        rw [← e1] at hj
        exact slices_IndexFunc_loopexampleg01161implmark_L0a_i2 _ _ _ (by omega) (by omega) (by omega) hk hj
    · have hk : SC cfg.P i_impl_node_kinds_k1 [.s (.v (.pr (.int .i64) .bool) (List.getD M ((i : Int)).toNat ((0 : Int), false)))] (.s (.v .bool true)) [] :=
        impl_node_kinds_k1_p1 _ (by rw [Int.toNat_natCast]; exact hs)
      have hb : ((M.getD i (0, false)).1 == 1) = false := beq_f hs
      rw [hb]
      refine ⟨fun _ => ⟨i, slices_IndexFunc_loopexampleg01161implmark_L0a_x1 _ _ _ (by omega) (by omega) (by omega) hk⟩, fun h => ?_⟩
      simp at h

theorem contains_SC (M : List Mk) (hM : M.length ≤ 2 ^ 40) : SC cfg.P i_slices_ContainsFunc_loopexampleg01161implmark [.s (.v (.sl (.pr (.int .i64) .bool)) M), .fn i_impl_node_kinds_k1 [] []] (.s (.v .bool (notR M))) [] := by
  obtain ⟨h1, h2⟩ := index_L M hM M.length 0 (by omega) (by omega)
  rw [List.drop_zero] at h1 h2
  cases h : notR M with
  | true =>
    obtain ⟨j, hj⟩ := h1 h
    exact slices_ContainsFunc_loopexampleg01161implmark_p1 _ _ (slices_IndexFunc_loopexampleg01161implmark_p1 _ _ hj) (by omega)
  | false => exact slices_ContainsFunc_loopexampleg01161implmark_p2 _ _ (slices_IndexFunc_loopexampleg01161implmark_p2 _ _ _ _ _ (h2 h)) (by omega)

theorem kinds_L (M : List Mk) (hM : M.length ≤ 2 ^ 39) : ∀ (m i : Nat), M.length - i = m → 1 ≤ i → i ≤ M.length →
    LoopSC cfg.P 1 (lb P_impl_node_kinds 0) (impl_node_kinds_L0a M M (M.length : Int) (i : Int) ((kindsL M).take i)) (.exit 0) (impl_node_kinds_L0X1 M M (M.length : Int) (M.length : Int) false (kindsL M)) := by
  intro m
  induction m with
  | zero =>
    intro i hm h1 hi
    have e : i = M.length := by omega
    subst e
    have e2 : (kindsL M).take M.length = kindsL M := by rw [← kindsL_length M]; exact List.take_length
    rw [e2]
    exact impl_node_kinds_L0a_x8 _ _ _ _ _ (by omega)
  | succ m ih =>
    intro i hm h1 hi
    have hlt : i < M.length := by omega
    have hn := ih (i + 1) (by omega) (by omega) (by omega)
    have e1 : IntKind.wrap .i64 ((i : Int) + 1) = ((i + 1 : Nat) : Int) := by rw [w64] <;> omega
    rw [take_kinds M i hlt, ← e1] at hn
    have hz : ∀ x : ByteArray, sizeOK (List.length ((kindsL M).take i) + List.length ([x] : List ByteArray)) := fun x => by
      unfold sizeOK lim
      rw [List.length_take, kindsL_length]
      simp
      omega
    have g1 : (i : Int) < ((List.length M : Nat) : Int) := by omega
    have g2 : (0 : Int) ≤ (i : Int) := by omega
    have g4 : (i : Int) ≠ 0 := by omega
    have hkA : kindAt M i = if (M.getD i (0, false)).1 = 0 then sLL else if (M.getD i (0, false)).1 = 1 then (if notR (M.drop i) = true then (if (M.getD (i + 1) (0, false)).1 = 2 then sRI else sRN) else sR0) else
        if (M.getD i (0, false)).2 = true then sI0 else sIR := by
      unfold kindAt
      rw [if_neg (by omega)]
    by_cases s0 : (M.getD i (0, false)).1 = 0
    · rw [hkA, if_pos s0] at hn
      exact impl_node_kinds_L0a_i2 _ _ _ _ _ g1 g2 g1 g4 (by rw [Int.toNat_natCast]; exact s0) (hz _) hn
    · rw [if_neg s0] at hkA
      by_cases s1 : (M.getD i (0, false)).1 = 1
      · rw [if_pos s1] at hkA
        have hcut : cutL M (i : Int) ((List.length M : Nat) : Int) = M.drop i := by simp [cutL]
        have hc := contains_SC (M.drop i) (by simp; omega)
        rw [← hcut] at hc
        cases hnr : notR (M.drop i) with
        | true =>
          rw [hcut, hnr, ← hcut] at hc
          rw [hnr, if_pos rfl] at hkA
          have hi1 : i + 1 < M.length := by
            rcases Nat.lt_or_ge (i + 1) M.length with h | h
            · exact h
            · rw [notR_drop M i hlt, s1, List.drop_eq_nil_of_le h] at hnr
              simp [notR] at hnr
          have g5 : 0 ≤ IntKind.wrap .i64 ((i : Int) + 1) := by rw [e1]; omega
          have g6 : IntKind.wrap .i64 ((i : Int) + 1) < (List.length M : Int) := by rw [e1]; omega
          by_cases s2 : (M.getD (i + 1) (0, false)).1 = 2
          · rw [hkA, if_pos s2] at hn
            exact impl_node_kinds_L0a_i3 _ _ _ _ _ g1 g2 g1 g4 (by rw [Int.toNat_natCast]; exact s0) (by rw [Int.toNat_natCast]; exact s1) (by omega) hc g5 g6 (by rw [e1, Int.toNat_natCast]; exact s2) (hz _) hn
          · rw [hkA, if_neg s2] at hn
            exact impl_node_kinds_L0a_i4 _ _ _ _ _ g1 g2 g1 g4 (by rw [Int.toNat_natCast]; exact s0) (by rw [Int.toNat_natCast]; exact s1) (by omega) hc g5 g6 (by rw [e1, Int.toNat_natCast]; exact s2) (hz _) hn
        | false =>
          rw [hcut, hnr, ← hcut] at hc
          rw [hnr, if_neg (by decide)] at hkA
          rw [hkA] at hn
          exact impl_node_kinds_L0a_i5 _ _ _ _ _ g1 g2 g1 g4 (by rw [Int.toNat_natCast]; exact s0) (by rw [Int.toNat_natCast]; exact s1) (by omega) hc (hz _) hn
      · rw [if_neg s1] at hkA
        by_cases sl : (M.getD i (0, false)).2 = true
        · rw [hkA, if_pos sl] at hn
          exact impl_node_kinds_L0a_i6 _ _ _ _ _ g1 g2 g1 g4 (by rw [Int.toNat_natCast]; exact s0) (by rw [Int.toNat_natCast]; exact s1) (by rw [Int.toNat_natCast]; exact sl) (hz _) hn
        · rw [hkA, if_neg sl] at hn
          exact impl_node_kinds_L0a_i7 _ _ _ _ _ g1 g2 g1 g4 (by rw [Int.toNat_natCast]; exact s0) (by rw [Int.toNat_natCast]; exact s1) (by rw [Int.toNat_natCast]; simpa using sl) (hz _) hn

theorem kinds_SC (t : Tr) (h : t.c ≤ 2 ^ 30) : SC cfg.P i_impl_node_kinds [.s (.v .tree t)] (.s (.own t_string .str (kindsL (mkT t 0 true)))) [] := by
  have hm := (marks_SC t 0 true h).view
  have hlen := mkT_len t 0 true
  cases t with
  | leaf => exact impl_node_kinds_p1 _ _ _ _ _ _ _ _ hm (impl_node_kinds_L0a_x8 _ _ _ _ _ (by simp [mkT]))
  | node l r =>
    have hpos : 1 ≤ (mkT (.node l r) 0 true).length := by rw [hlen]; simp only [Tr.c]; omega
    have hL := kinds_L (mkT (.node l r) 0 true) (by rw [hlen]; omega) _ 1 rfl (by omega) hpos
    have e0 : (kindsL (mkT (.node l r) 0 true)).take 1 = [sL0] := by
      rw [take_kinds _ 0 (by omega), List.take_zero]
      rfl
    rw [e0] at hL
    have e1 : IntKind.wrap .i64 ((0 : Int) + 1) = ((1 : Nat) : Int) := by rw [w64] <;> omega
    rw [← e1] at hL
    exact impl_node_kinds_p1 _ _ _ _ _ _ _ _ hm (impl_node_kinds_L0a_i1 _ _ _ _ _ (by omega) (by omega) (by omega) rfl (by unfold sizeOK lim; simp) hL)

def f0 (m : Mk) : ByteArray := if m.1 = 0 then sLL else if m.1 = 1 then sR else if m.2 = true then sI0 else sIR

theorem zok (l m : List ByteArray) (h : l.length + m.length ≤ 2 ^ 40) : sizeOK (List.length l + List.length m) := h

theorem lnInner_SC : ∀ (t : Tr), t.c ≤ 50 → SC cfg.P i_spec_lnInner [.s (.v .str (bs (txt t)))] (.s (.own t_string .str ((mkT t 2 false).map f0))) []
  | .leaf, _ => spec_lnInner_p1 _ trLeaf_leaf
  | .node l r, h => by
    have h' := h
    simp only [Tr.c] at h
    have h1 := lnInner_SC l (by omega)
    have h2 := lnInner_SC r (by omega)
    have e : (mkT (.node l r) 2 false).map f0 = ((mkT l 2 false).map f0 ++ [if r.isLeaf = true then sI0 else sIR]) ++ (mkT r 2 false).map f0 := by
      simp [mkT, f0]
    rw [e]
    have z1 : ∀ x, sizeOK (List.length ((mkT l 2 false).map f0) + List.length ([x] : List ByteArray)) := fun x => zok _ _ (by simp [mkT_len]; omega)
    have z2 : ∀ x, sizeOK (List.length ((mkT l 2 false).map f0 ++ ([x] : List ByteArray)) + List.length ((mkT r 2 false).map f0)) := fun x => zok _ _ (by simp [mkT_len]; omega)
    cases r with
    | leaf => exact spec_lnInner_p2 _ _ _ _ _ (trLeaf_node _ _) (trSides_SC _ _ h') trLeaf_leaf h1 (z1 _) h2 (z2 _)
    | node rl rr => exact spec_lnInner_p3 _ _ _ _ _ (trLeaf_node _ _) (trSides_SC _ _ h') (trLeaf_node _ _) h1 (z1 _) h2 (z2 _)

theorem lnLeft_SC : ∀ (t : Tr), t.c ≤ 50 → SC cfg.P i_spec_lnLeft [.s (.v .str (bs (txt t)))] (.s (.own t_string .str ((mkT t 0 false).map f0))) []
  | .leaf, _ => spec_lnLeft_p1 _ trLeaf_leaf
  | .node l r, h => by
    have h' := h
    simp only [Tr.c] at h
    have h1 := lnLeft_SC l (by omega)
    have h2 := lnInner_SC r (by omega)
    have e : (mkT (.node l r) 0 false).map f0 = ((mkT l 0 false).map f0 ++ [sLL]) ++ (mkT r 2 false).map f0 := by
      simp [mkT, f0]
    rw [e]
    exact spec_lnLeft_p2 _ _ _ _ _ (trLeaf_node _ _) (trSides_SC _ _ h') h1 (zok _ _ (by simp [mkT_len]; omega)) h2 (zok _ _ (by simp [mkT_len]; omega))

theorem lnRight_SC : ∀ (t : Tr), t.c ≤ 50 → SC cfg.P i_spec_lnRight [.s (.v .str (bs (txt t)))] (.s (.own t_string .str ((mkT t 1 false).map f0))) []
  | .leaf, _ => spec_lnRight_p1 _ trLeaf_leaf
  | .node l r, h => by
    have h' := h
    simp only [Tr.c] at h
    have h1 := lnInner_SC l (by omega)
    have h2 := lnRight_SC r (by omega)
    have e : (mkT (.node l r) 1 false).map f0 = ((mkT l 2 false).map f0 ++ [sR]) ++ (mkT r 1 false).map f0 := by
      simp [mkT, f0]
    rw [e]
    exact spec_lnRight_p2 _ _ _ _ _ (trLeaf_node _ _) (trSides_SC _ _ h') h1 (zok _ _ (by simp [mkT_len]; omega)) h2 (zok _ _ (by simp [mkT_len]; omega))

def base (M : List Mk) : List ByteArray := (M.map f0).set 0 sL0

theorem base_length (M : List Mk) : (base M).length = M.length := by simp [base]

theorem base_get (M : List Mk) (i : Nat) (h : i < M.length) : (base M)[i]'(by rw [base_length]; exact h) = if i = 0 then sL0 else f0 (M.getD i (0, false)) := by
  simp only [base, List.getElem_set, List.getElem_map, List.getD_eq_getElem?_getD, List.getElem?_eq_getElem h, Option.getD]
  by_cases e : i = 0
  · subst e; simp
  · simp [e, Ne.symm e]

def cur (M : List Mk) (j : Nat) : List ByteArray := (base M).take j ++ (kindsL M).drop j

theorem cur_length (M : List Mk) (j : Nat) (h : j ≤ M.length) : (cur M j).length = M.length := by
  simp [cur, base_length, kindsL_length]; omega

theorem cur_low (M : List Mk) (i : Nat) (h : i < M.length) : (cur M (i + 1)).getD i ⟨#[]⟩ = if i = 0 then sL0 else f0 (M.getD i (0, false)) := by
  have hl : i < ((base M).take (i + 1)).length := by simp [base_length]; omega
  rw [cur, List.getD_eq_getElem?_getD, List.getElem?_append_left hl, List.getElem?_eq_getElem hl]
  simp only [Option.getD, List.getElem_take]
  exact base_get M i h

theorem cur_high (M : List Mk) (i : Nat) (h : i + 1 < M.length) : (cur M (i + 1)).getD (i + 1) ⟨#[]⟩ = kindAt M (i + 1) := by
  have hl : ((base M).take (i + 1)).length = i + 1 := by simp [base_length]; omega
  rw [cur, List.getD_eq_getElem?_getD, List.getElem?_append_right (by omega), hl, Nat.sub_self, List.getElem?_drop, Nat.add_zero]
  have := kindsL_get M (i + 1) h
  rw [List.getD_eq_getElem?_getD] at this
  exact this

theorem cur_set (M : List Mk) (i : Nat) (h : i < M.length) : (cur M (i + 1)).set i (kindAt M i) = cur M i := by
  have hb : i < (base M).length := by rw [base_length]; exact h
  have hk : i < (kindsL M).length := by rw [kindsL_length]; exact h
  have hl : ((base M).take i).length = i := by simp [base_length]; omega
  have e1 : (base M).take (i + 1) = (base M).take i ++ [(base M)[i]] := (List.take_append_getElem hb).symm
  have e2 : (kindsL M).drop i = (kindsL M)[i] :: (kindsL M).drop (i + 1) := List.drop_eq_getElem_cons hk
  have e3 : (kindsL M)[i] = kindAt M i := by
    have := kindsL_get M i h
    rw [List.getD_eq_getElem?_getD, List.getElem?_eq_getElem hk] at this
    exact this
  unfold cur
  rw [e1, e2, e3, List.append_assoc, List.set_append_right _ _ (by omega), hl, Nat.sub_self]
  rfl

theorem cur_same (M : List Mk) (i : Nat) (h : i < M.length) (he : (if i = 0 then sL0 else f0 (M.getD i (0, false))) = kindAt M i) : cur M (i + 1) = cur M i := by
  rw [← cur_set M i h, ← he, ← cur_low M i h]
  apply List.ext_getElem?
  intro k
  rw [List.getElem?_set]
  have hl : i < (cur M (i + 1)).length := by rw [cur_length M _ (by omega)]; exact h
  by_cases e : i = k
  · subst e
    simp [hl, List.getD_eq_getElem?_getD]
  · simp [e]

theorem back_L (M : List Mk) (hn : M.length ≤ 2 ^ 39) (hs : ∀ m ∈ M, m.1 = 0 ∨ m.1 = 1 ∨ m.1 = 2) : ∀ (j : Nat) (b : Bool), j ≤ M.length → (1 ≤ j → b = !notR (M.drop j)) →
    ∃ y6, LoopSC cfg.P 1 (lb P_spec_lnKinds 0) (spec_lnKinds_L0a b ((j : Int) - 1) (cur M j)) (.exit 0) (spec_lnKinds_L0X1 y6 (-1) false (kindsL M)) := by
  intro j
  induction j with
  | zero =>
    intro b _ _
    have e : cur M 0 = kindsL M := by simp [cur]
    rw [e]
    exact ⟨b, spec_lnKinds_L0a_x6 _ _ _ (by omega)⟩
  | succ i ih =>
    intro b hi hb
    have hlt : i < M.length := by omega
    have hb := hb (by omega)
    have e0 : (((i + 1 : Nat) : Int) - 1) = (i : Int) := by omega
    have e1 : IntKind.wrap .i64 ((i : Int) - 1) = (i : Int) - 1 := by rw [w64] <;> omega
    have e2 : IntKind.wrap .i64 ((i : Int) + 1) = ((i + 1 : Nat) : Int) := by rw [w64] <;> omega
    have hcl := cur_length M (i + 1) (by omega)
    have hlow := cur_low M i hlt
    rw [e0]
    have g3 : (i : Int) < (List.length (cur M (i + 1)) : Int) := by rw [hcl]; omega
    have g4 : ((i : Int)).toNat < List.length (cur M (i + 1)) := by rw [hcl]; omega
    have hkA : ∀ h : i ≠ 0, kindAt M i = if (M.getD i (0, false)).1 = 0 then sLL else if (M.getD i (0, false)).1 = 1 then (if notR (M.drop i) = true then (if (M.getD (i + 1) (0, false)).1 = 2 then sRI else sRN) else sR0) else
        if (M.getD i (0, false)).2 = true then sI0 else sIR := fun h => by
      unfold kindAt
      rw [if_neg h]
    by_cases hR : (if i = 0 then sL0 else f0 (M.getD i (0, false))) = sR
    · -- on the right side
      have hi0 : i ≠ 0 := by
        intro e
        rw [if_pos e] at hR
        exact absurd hR (by decide)
      rw [if_neg hi0] at hR
      have n0 : (M.getD i (0, false)).1 ≠ 0 := by
        intro e
        rw [f0, if_pos e] at hR
        exact absurd hR (by decide)
      have y1 : (M.getD i (0, false)).1 = 1 := by
        rw [f0, if_neg n0] at hR
        by_cases e : (M.getD i (0, false)).1 = 1
        · exact e
        · rw [if_neg e] at hR
          split at hR
          · exact absurd hR (by decide)
          · exact absurd hR (by decide)
      have hk := hkA hi0
      rw [if_neg n0, if_pos y1] at hk
      have hnr : notR (M.drop i) = notR (M.drop (i + 1)) := by rw [notR_drop M i hlt, y1]; simp
      rw [if_neg hi0] at hlow
      have hget : List.getD (cur M (i + 1)) ((i : Int)).toNat ⟨#[]⟩ = sR := by rw [Int.toNat_natCast, hlow, hR]
      cases hnj : notR (M.drop (i + 1)) with
      | false =>
        rw [hnr, hnj, if_neg (by decide)] at hk
        rw [hnj] at hb
        have hb' : b = true := hb
        subst hb'
        obtain ⟨y6, hn⟩ := ih true (by omega) (fun _ => by rw [hnr, hnj]; rfl)
        rw [← cur_set M i hlt, hk, ← e1] at hn
        refine ⟨y6, spec_lnKinds_L0a_i2 _ _ (by omega) (by omega) g3 g4 hget ?_⟩
        rw [Int.toNat_natCast]
        exact hn
      | true =>
        rw [hnr, hnj, if_pos rfl] at hk
        rw [hnj] at hb
        have hb' : b = false := hb
        subst hb'
        have hi1 : i + 1 < M.length := by
          rcases Nat.lt_or_ge (i + 1) M.length with h | h
          · exact h
          · rw [List.drop_eq_nil_of_le h] at hnj
            simp [notR] at hnj
        obtain ⟨y6, hn⟩ := ih false (by omega) (fun _ => by rw [hnr, hnj]; rfl)
        rw [← cur_set M i hlt, hk, ← e1] at hn
        have g6 : 0 ≤ IntKind.wrap .i64 ((i : Int) + 1) := by rw [e2]; omega
        have g7 : IntKind.wrap .i64 ((i : Int) + 1) < (List.length (cur M (i + 1)) : Int) := by rw [e2, hcl]; omega
        have g8 : (IntKind.wrap .i64 ((i : Int) + 1)).toNat < List.length (cur M (i + 1)) := by rw [e2, hcl]; omega
        have hhigh : List.getD (cur M (i + 1)) (IntKind.wrap .i64 ((i : Int) + 1)).toNat ⟨#[]⟩ = kindAt M (i + 1) := by
          rw [e2, Int.toNat_natCast]; exact cur_high M i hi1
        have hk1 : kindAt M (i + 1) = if (M.getD (i + 1) (0, false)).1 = 0 then sLL else if (M.getD (i + 1) (0, false)).1 = 1 then (if notR (M.drop (i + 1)) = true then (if (M.getD (i + 1 + 1) (0, false)).1 = 2 then sRI else sRN) else sR0) else
            if (M.getD (i + 1) (0, false)).2 = true then sI0 else sIR := by
          unfold kindAt
          rw [if_neg (by omega)]
        have hmem : M.getD (i + 1) (0, false) ∈ M := by
          rw [List.getD_eq_getElem?_getD, List.getElem?_eq_getElem hi1]
          exact List.getElem_mem hi1
        by_cases s2 : (M.getD (i + 1) (0, false)).1 = 2
        · rw [if_pos s2] at hn
          rw [if_neg (by omega), if_neg (by omega)] at hk1
          by_cases sl : (M.getD (i + 1) (0, false)).2 = true
          · rw [if_pos sl] at hk1
            refine ⟨y6, spec_lnKinds_L0a_i3 _ _ (by omega) (by omega) g3 g4 hget g6 g7 g8 (by rw [hhigh, hk1]) ?_⟩
            rw [Int.toNat_natCast]
            exact hn
          · rw [if_neg sl] at hk1
            refine ⟨y6, spec_lnKinds_L0a_i4 _ _ (by omega) (by omega) g3 g4 hget g6 g7 g8 (by rw [hhigh, hk1]; decide) (by rw [hhigh, hk1]) ?_⟩
            rw [Int.toNat_natCast]
            exact hn
        · rw [if_neg s2] at hn
          have hne : kindAt M (i + 1) ≠ sI0 ∧ kindAt M (i + 1) ≠ sIR := by
            rw [hk1]
            rcases hs _ hmem with h | h | h
            · rw [if_pos h]; decide
            · rw [if_neg (by omega), if_pos h]
              rw [hnj, if_pos rfl]
              by_cases q : (M.getD (i + 1 + 1) (0, false)).1 = 2
              · rw [if_pos q]; exact ⟨by decide, by decide⟩
              · rw [if_neg q]; exact ⟨by decide, by decide⟩
            · exact absurd h s2
          refine ⟨y6, spec_lnKinds_L0a_i5 _ _ (by omega) (by omega) g3 g4 hget g6 g7 g8 (by rw [hhigh]; exact hne.1) (by rw [hhigh]; exact hne.2) ?_⟩
          rw [Int.toNat_natCast]
          exact hn
    · -- elsewhere
      have hsame : (if i = 0 then sL0 else f0 (M.getD i (0, false))) = kindAt M i ∧ (1 ≤ i → notR (M.drop i) = true) := by
        by_cases hi0 : i = 0
        · refine ⟨by simp [hi0, kindAt], fun h => by omega⟩
        · rw [if_neg hi0] at hR ⊢
          have n1 : (M.getD i (0, false)).1 ≠ 1 := by
            intro e
            apply hR
            rw [f0, if_neg (by omega), if_pos e]
          refine ⟨?_, fun _ => ?_⟩
          · rw [hkA hi0, f0]
            split
            · rfl
            · first | rfl | (rw [if_neg n1]; done)
          · rw [notR_drop M i hlt, beq_f n1]; rfl
      obtain ⟨y6, hn⟩ := ih false (by omega) (fun h => by rw [hsame.2 h]; rfl)
      rw [← cur_same M i hlt hsame.1, ← e1] at hn
      exact ⟨y6, spec_lnKinds_L0a_i1 _ _ _ (by omega) (by omega) g3 g4 (by rw [Int.toNat_natCast, hlow]; exact hR) hn⟩

theorem lnKinds_SC (t : Tr) (h : t.c ≤ 50) : SC cfg.P i_spec_lnKinds [.s (.v .str (bs (txt t)))] (.s (.own t_string .str (kindsL (mkT t 0 true)))) [] := by
  cases t with
  | leaf => exact spec_lnKinds_p1 _ trLeaf_leaf
  | node l r =>
    have h' := h
    simp only [Tr.c] at h
    have h1 := lnLeft_SC l (by omega)
    have h2 := lnRight_SC r (by omega)
    have e : (mkT (.node l r) 0 true).map f0 = ((mkT l 0 false).map f0 ++ [sLL]) ++ (mkT r 1 false).map f0 := by
      simp [mkT, f0]
    have hlen := mkT_len (.node l r) 0 true
    simp only [Tr.c] at hlen
    obtain ⟨y6, hL⟩ := back_L (mkT (.node l r) 0 true) (by rw [hlen]; omega) (mkT_sides _ _ _ (.inl rfl)) (mkT (.node l r) 0 true).length true (Nat.le_refl _) (fun _ => by rw [List.drop_length]; rfl)
    have ec : cur (mkT (.node l r) 0 true) (mkT (.node l r) 0 true).length = List.set (((mkT l 0 false).map f0 ++ [sLL]) ++ (mkT r 1 false).map f0) ((0 : Int)).toNat sL0 := by
      have hk : (kindsL (mkT (.node l r) 0 true)).drop (mkT (.node l r) 0 true).length = [] := List.drop_eq_nil_of_le (by rw [kindsL_length]; exact Nat.le_refl _)
      have hb : (base (mkT (.node l r) 0 true)).take (mkT (.node l r) 0 true).length = base (mkT (.node l r) 0 true) := by rw [← base_length]; exact List.take_length
      rw [cur, hk, hb, List.append_nil, base, e]
      rfl
    rw [ec] at hL
    have ew : IntKind.wrap .i64 (((List.length (List.set (((mkT l 0 false).map f0 ++ [sLL]) ++ (mkT r 1 false).map f0) ((0 : Int)).toNat sL0) : Nat) : Int) - 1) = ((mkT (.node l r) 0 true).length : Int) - 1 := by
      have : List.length (List.set (((mkT l 0 false).map f0 ++ [sLL]) ++ (mkT r 1 false).map f0) ((0 : Int)).toNat sL0) = (mkT (.node l r) 0 true).length := by
        rw [List.length_set, ← e, List.length_map]
      rw [this, w64] <;> omega
    rw [← ew] at hL
    have hpos : 0 < List.length (((mkT l 0 false).map f0 ++ [sLL]) ++ (mkT r 1 false).map f0) := by simp; omega
    exact spec_lnKinds_p2 _ _ _ _ _ _ _ _ _ (trLeaf_node _ _) (trSides_SC _ _ h') h1 (zok _ _ (by simp [mkT_len]; omega)) h2 (zok _ _ (by simp [mkT_len]; omega)) (by exact_mod_cast hpos) hpos hL

end Go.AI
