/- Contracts: the reference's kinds. -/
import Derived.Test.YtnoajkfmokcekaaSKk
set_option autoImplicit false
set_option maxRecDepth 100000
set_option linter.unusedVariables false
namespace Go.AI
open Go.Proofs

def f0 (m : Mk) : ByteArray := if m.1 = 0 then sLL else if m.1 = 1 then sR else if m.2 = true then sI0 else sIR

theorem zok (l m : List ByteArray) (h : l.length + m.length ≤ 2 ^ 40) : sizeOK (List.length l + List.length m) := h

theorem lnInner_SC : ∀ (t : Tr), t.c ≤ 50 → SC cfg.P i_spec_lnInner [.s (.v .str (bs (txt t)))] (.s (.own t_string .str ((mkT t 2 false).map f0))) []
  | .leaf, _ => spec_lnInner_p1 _ trLeaf_leaf
  | .node l r, h => by
    have h' := h
    simp only [Tr.c] at h
    have h1 := lnInner_SC l (by omega)
    have h2 := lnInner_SC r (by omega)
    have e : (mkT (.node l r) 2 false).map f0 = ((mkT l 2 false).map f0 ++ [if r.isLeaf = true then sI0 else sIR]) ++ (mkT r 2 false).map f0 := by
      simp [mkT, f0]
    rw [e]
    have z1 : ∀ x, sizeOK (List.length ((mkT l 2 false).map f0) + List.length ([x] : List ByteArray)) := fun x => zok _ _ (by simp [mkT_len]; omega)
    have z2 : ∀ x, sizeOK (List.length ((mkT l 2 false).map f0 ++ ([x] : List ByteArray)) + List.length ((mkT r 2 false).map f0)) := fun x => zok _ _ (by simp [mkT_len]; omega)
    cases r with
    | leaf => exact spec_lnInner_p2 _ _ _ _ _ (trLeaf_node _ _) (trSides_SC _ _ h') trLeaf_leaf h1 (z1 _) h2 (z2 _)
    | node rl rr => exact spec_lnInner_p3 _ _ _ _ _ (trLeaf_node _ _) (trSides_SC _ _ h') (trLeaf_node _ _) h1 (z1 _) h2 (z2 _)

theorem lnLeft_SC : ∀ (t : Tr), t.c ≤ 50 → SC cfg.P i_spec_lnLeft [.s (.v .str (bs (txt t)))] (.s (.own t_string .str ((mkT t 0 false).map f0))) []
  | .leaf, _ => spec_lnLeft_p1 _ trLeaf_leaf
  | .node l r, h => by
    have h' := h
    simp only [Tr.c] at h
    have h1 := lnLeft_SC l (by omega)
    have h2 := lnInner_SC r (by omega)
    have e : (mkT (.node l r) 0 false).map f0 = ((mkT l 0 false).map f0 ++ [sLL]) ++ (mkT r 2 false).map f0 := by
      simp [mkT, f0]
    rw [e]
    exact spec_lnLeft_p2 _ _ _ _ _ (trLeaf_node _ _) (trSides_SC _ _ h') h1 (zok _ _ (by simp [mkT_len]; omega)) h2 (zok _ _ (by simp [mkT_len]; omega))

theorem lnRight_SC : ∀ (t : Tr), t.c ≤ 50 → SC cfg.P i_spec_lnRight [.s (.v .str (bs (txt t)))] (.s (.own t_string .str ((mkT t 1 false).map f0))) []
  | .leaf, _ => spec_lnRight_p1 _ trLeaf_leaf
  | .node l r, h => by
    have h' := h
    simp only [Tr.c] at h
    have h1 := lnInner_SC l (by omega)
    have h2 := lnRight_SC r (by omega)
    have e : (mkT (.node l r) 1 false).map f0 = ((mkT l 2 false).map f0 ++ [sR]) ++ (mkT r 1 false).map f0 := by
      simp [mkT, f0]
    rw [e]
    exact spec_lnRight_p2 _ _ _ _ _ (trLeaf_node _ _) (trSides_SC _ _ h') h1 (zok _ _ (by simp [mkT_len]; omega)) h2 (zok _ _ (by simp [mkT_len]; omega))

/-! ### The loop backwards -/

def base (M : List Mk) : List ByteArray := (M.map f0).set 0 sL0

theorem base_length (M : List Mk) : (base M).length = M.length := by simp [base]

theorem base_get (M : List Mk) (i : Nat) (h : i < M.length) : (base M)[i]'(by rw [base_length]; exact h) = if i = 0 then sL0 else f0 (M.getD i (0, false)) := by
  simp only [base, List.getElem_set, List.getElem_map, List.getD_eq_getElem?_getD, List.getElem?_eq_getElem h, Option.getD]
  by_cases e : i = 0
  · subst e; simp
  · simp [e, Ne.symm e]

def cur (M : List Mk) (j : Nat) : List ByteArray := (base M).take j ++ (kindsL M).drop j

theorem cur_length (M : List Mk) (j : Nat) (h : j ≤ M.length) : (cur M j).length = M.length := by
  simp [cur, base_length, kindsL_length]; omega

theorem cur_low (M : List Mk) (i : Nat) (h : i < M.length) : (cur M (i + 1)).getD i ⟨#[]⟩ = if i = 0 then sL0 else f0 (M.getD i (0, false)) := by
  have hl : i < ((base M).take (i + 1)).length := by simp [base_length]; omega
  rw [cur, List.getD_eq_getElem?_getD, List.getElem?_append_left hl, List.getElem?_eq_getElem hl]
  simp only [Option.getD, List.getElem_take]
  exact base_get M i h

theorem cur_high (M : List Mk) (i : Nat) (h : i + 1 < M.length) : (cur M (i + 1)).getD (i + 1) ⟨#[]⟩ = kindAt M (i + 1) := by
  have hl : ((base M).take (i + 1)).length = i + 1 := by simp [base_length]; omega
  rw [cur, List.getD_eq_getElem?_getD, List.getElem?_append_right (by omega), hl, Nat.sub_self, List.getElem?_drop, Nat.add_zero]
  have := kindsL_get M (i + 1) h
  rw [List.getD_eq_getElem?_getD] at this
  exact this

theorem cur_set (M : List Mk) (i : Nat) (h : i < M.length) : (cur M (i + 1)).set i (kindAt M i) = cur M i := by
  have hb : i < (base M).length := by rw [base_length]; exact h
  have hk : i < (kindsL M).length := by rw [kindsL_length]; exact h
  have hl : ((base M).take i).length = i := by simp [base_length]; omega
  have e1 : (base M).take (i + 1) = (base M).take i ++ [(base M)[i]] := (List.take_append_getElem hb).symm
  have e2 : (kindsL M).drop i = (kindsL M)[i] :: (kindsL M).drop (i + 1) := List.drop_eq_getElem_cons hk
  have e3 : (kindsL M)[i] = kindAt M i := by
    have := kindsL_get M i h
    rw [List.getD_eq_getElem?_getD, List.getElem?_eq_getElem hk] at this
    exact this
  unfold cur
  rw [e1, e2, e3, List.append_assoc, List.set_append_right _ _ (by omega), hl, Nat.sub_self]
  rfl

theorem cur_same (M : List Mk) (i : Nat) (h : i < M.length) (he : (if i = 0 then sL0 else f0 (M.getD i (0, false))) = kindAt M i) : cur M (i + 1) = cur M i := by
  rw [← cur_set M i h, ← he, ← cur_low M i h]
  apply List.ext_getElem?
  intro k
  rw [List.getElem?_set]
  have hl : i < (cur M (i + 1)).length := by rw [cur_length M _ (by omega)]; exact h
  by_cases e : i = k
  · subst e
    simp [hl, List.getD_eq_getElem?_getD]
  · simp [e]

theorem back_L (M : List Mk) (hn : M.length ≤ 2 ^ 39) (hs : ∀ m ∈ M, m.1 = 0 ∨ m.1 = 1 ∨ m.1 = 2) : ∀ (j : Nat) (b : Bool), j ≤ M.length → (1 ≤ j → b = !notR (M.drop j)) →
    ∃ y6, LoopSC cfg.P 1 (lb P_spec_lnKinds 0) (spec_lnKinds_L0a b ((j : Int) - 1) (cur M j)) (.exit 0) (spec_lnKinds_L0X1 y6 (-1) false (kindsL M)) := by
  intro j
  induction j with
  | zero =>
    intro b _ _
    have e : cur M 0 = kindsL M := by simp [cur]
    rw [e]
    exact ⟨b, spec_lnKinds_L0a_x6 _ _ _ (by omega)⟩
  | succ i ih =>
    intro b hi hb
    have hlt : i < M.length := by omega
    have hb := hb (by omega)
    have e0 : (((i + 1 : Nat) : Int) - 1) = (i : Int) := by omega
    have e1 : IntKind.wrap .i64 ((i : Int) - 1) = (i : Int) - 1 := by rw [w64] <;> omega
    have e2 : IntKind.wrap .i64 ((i : Int) + 1) = ((i + 1 : Nat) : Int) := by rw [w64] <;> omega
    have hcl := cur_length M (i + 1) (by omega)
    have hlow := cur_low M i hlt
    rw [e0]
    have g3 : (i : Int) < (List.length (cur M (i + 1)) : Int) := by rw [hcl]; omega
    have g4 : ((i : Int)).toNat < List.length (cur M (i + 1)) := by rw [hcl]; omega
    have hkA : ∀ h : i ≠ 0, kindAt M i = if (M.getD i (0, false)).1 = 0 then sLL else if (M.getD i (0, false)).1 = 1 then (if notR (M.drop i) = true then (if (M.getD (i + 1) (0, false)).1 = 2 then sRI else sRN) else sR0) else
        if (M.getD i (0, false)).2 = true then sI0 else sIR := fun h => by
      unfold kindAt
      rw [if_neg h]
    by_cases hR : (if i = 0 then sL0 else f0 (M.getD i (0, false))) = sR
    · -- on the right side
      have hi0 : i ≠ 0 := by
        intro e
        rw [if_pos e] at hR
        exact absurd hR (by decide)
      rw [if_neg hi0] at hR
      have n0 : (M.getD i (0, false)).1 ≠ 0 := by
        intro e
        rw [f0, if_pos e] at hR
        exact absurd hR (by decide)
      have y1 : (M.getD i (0, false)).1 = 1 := by
        rw [f0, if_neg n0] at hR
        by_cases e : (M.getD i (0, false)).1 = 1
        · exact e
        · rw [if_neg e] at hR
          split at hR
          · exact absurd hR (by decide)
          · exact absurd hR (by decide)
      have hk := hkA hi0
      rw [if_neg n0, if_pos y1] at hk
      have hnr : notR (M.drop i) = notR (M.drop (i + 1)) := by rw [notR_drop M i hlt, y1]; simp
      rw [if_neg hi0] at hlow
      have hget : List.getD (cur M (i + 1)) ((i : Int)).toNat ⟨#[]⟩ = sR := by rw [Int.toNat_natCast, hlow, hR]
      cases hnj : notR (M.drop (i + 1)) with
      | false =>
        rw [hnr, hnj, if_neg (by decide)] at hk
        rw [hnj] at hb
        have hb' : b = true := hb
        subst hb'
        obtain ⟨y6, hn⟩ := ih true (by omega) (fun _ => by rw [hnr, hnj]; rfl)
        rw [← cur_set M i hlt, hk, ← e1] at hn
        refine ⟨y6, spec_lnKinds_L0a_i2 _ _ (by omega) (by omega) g3 g4 hget ?_⟩
        rw [Int.toNat_natCast]
        exact hn
      | true =>
        rw [hnr, hnj, if_pos rfl] at hk
        rw [hnj] at hb
        have hb' : b = false := hb
        subst hb'
        have hi1 : i + 1 < M.length := by
          rcases Nat.lt_or_ge (i + 1) M.length with h | h
          · exact h
          · rw [List.drop_eq_nil_of_le h] at hnj
            simp [notR] at hnj
        obtain ⟨y6, hn⟩ := ih false (by omega) (fun _ => by rw [hnr, hnj]; rfl)
        rw [← cur_set M i hlt, hk, ← e1] at hn
        have g6 : 0 ≤ IntKind.wrap .i64 ((i : Int) + 1) := by rw [e2]; omega
        have g7 : IntKind.wrap .i64 ((i : Int) + 1) < (List.length (cur M (i + 1)) : Int) := by rw [e2, hcl]; omega
        have g8 : (IntKind.wrap .i64 ((i : Int) + 1)).toNat < List.length (cur M (i + 1)) := by rw [e2, hcl]; omega
        have hhigh : List.getD (cur M (i + 1)) (IntKind.wrap .i64 ((i : Int) + 1)).toNat ⟨#[]⟩ = kindAt M (i + 1) := by
          rw [e2, Int.toNat_natCast]; exact cur_high M i hi1
        have hk1 : kindAt M (i + 1) = if (M.getD (i + 1) (0, false)).1 = 0 then sLL else if (M.getD (i + 1) (0, false)).1 = 1 then (if notR (M.drop (i + 1)) = true then (if (M.getD (i + 1 + 1) (0, false)).1 = 2 then sRI else sRN) else sR0) else
            if (M.getD (i + 1) (0, false)).2 = true then sI0 else sIR := by
          unfold kindAt
          rw [if_neg (by omega)]
        have hmem : M.getD (i + 1) (0, false) ∈ M := by
          rw [List.getD_eq_getElem?_getD, List.getElem?_eq_getElem hi1]
          exact List.getElem_mem hi1
        by_cases s2 : (M.getD (i + 1) (0, false)).1 = 2
        · rw [if_pos s2] at hn
          rw [if_neg (by omega), if_neg (by omega)] at hk1
          by_cases sl : (M.getD (i + 1) (0, false)).2 = true
          · rw [if_pos sl] at hk1
            refine ⟨y6, spec_lnKinds_L0a_i3 _ _ (by omega) (by omega) g3 g4 hget g6 g7 g8 (by rw [hhigh, hk1]) ?_⟩
            rw [Int.toNat_natCast]
            exact hn
          · rw [if_neg sl] at hk1
            refine ⟨y6, spec_lnKinds_L0a_i4 _ _ (by omega) (by omega) g3 g4 hget g6 g7 g8 (by rw [hhigh, hk1]; decide) (by rw [hhigh, hk1]) ?_⟩
            rw [Int.toNat_natCast]
            exact hn
        · rw [if_neg s2] at hn
          have hne : kindAt M (i + 1) ≠ sI0 ∧ kindAt M (i + 1) ≠ sIR := by
            rw [hk1]
            rcases hs _ hmem with h | h | h
            · rw [if_pos h]; decide
            · rw [if_neg (by omega), if_pos h]
              rw [hnj, if_pos rfl]
              by_cases q : (M.getD (i + 1 + 1) (0, false)).1 = 2
              · rw [if_pos q]; exact ⟨by decide, by decide⟩
              · rw [if_neg q]; exact ⟨by decide, by decide⟩
            · exact absurd h s2
          refine ⟨y6, spec_lnKinds_L0a_i5 _ _ (by omega) (by omega) g3 g4 hget g6 g7 g8 (by rw [hhigh]; exact hne.1) (by rw [hhigh]; exact hne.2) ?_⟩
          rw [Int.toNat_natCast]
          exact hn
    · -- elsewhere
      have hsame : (if i = 0 then sL0 else f0 (M.getD i (0, false))) = kindAt M i ∧ (1 ≤ i → notR (M.drop i) = true) := by
        by_cases hi0 : i = 0
        · refine ⟨by simp [hi0, kindAt], fun h => by omega⟩
        · rw [if_neg hi0] at hR ⊢
          have n1 : (M.getD i (0, false)).1 ≠ 1 := by
            intro e
            apply hR
            rw [f0, if_neg (by omega), if_pos e]
          refine ⟨?_, fun _ => ?_⟩
          · rw [hkA hi0, f0]
            split
            · rfl
            · first | rfl | (rw [if_neg n1]; done)
          · rw [notR_drop M i hlt, beq_f n1]; rfl
      obtain ⟨y6, hn⟩ := ih false (by omega) (fun h => by rw [hsame.2 h]; rfl)
      rw [← cur_same M i hlt hsame.1, ← e1] at hn
      exact ⟨y6, spec_lnKinds_L0a_i1 _ _ _ (by omega) (by omega) g3 g4 (by rw [Int.toNat_natCast, hlow]; exact hR) hn⟩

theorem lnKinds_SC (t : Tr) (h : t.c ≤ 50) : SC cfg.P i_spec_lnKinds [.s (.v .str (bs (txt t)))] (.s (.own t_string .str (kindsL (mkT t 0 true)))) [] := by
  cases t with
  | leaf => exact spec_lnKinds_p1 _ trLeaf_leaf
  | node l r =>
    have h' := h
    simp only [Tr.c] at h
    have h1 := lnLeft_SC l (by omega)
    have h2 := lnRight_SC r (by omega)
    have e : (mkT (.node l r) 0 true).map f0 = ((mkT l 0 false).map f0 ++ [sLL]) ++ (mkT r 1 false).map f0 := by
      simp [mkT, f0]
    have hlen := mkT_len (.node l r) 0 true
    simp only [Tr.c] at hlen
    obtain ⟨y6, hL⟩ := back_L (mkT (.node l r) 0 true) (by rw [hlen]; omega) (mkT_sides _ _ _ (.inl rfl)) (mkT (.node l r) 0 true).length true (Nat.le_refl _) (fun _ => by rw [List.drop_length]; rfl)
    have ec : cur (mkT (.node l r) 0 true) (mkT (.node l r) 0 true).length = List.set (((mkT l 0 false).map f0 ++ [sLL]) ++ (mkT r 1 false).map f0) ((0 : Int)).toNat sL0 := by
      have hk : (kindsL (mkT (.node l r) 0 true)).drop (mkT (.node l r) 0 true).length = [] := List.drop_eq_nil_of_le (by rw [kindsL_length]; exact Nat.le_refl _)
      have hb : (base (mkT (.node l r) 0 true)).take (mkT (.node l r) 0 true).length = base (mkT (.node l r) 0 true) := by rw [← base_length]; exact List.take_length
      rw [cur, hk, hb, List.append_nil, base, e]
      rfl
    rw [ec] at hL
    have ew : IntKind.wrap .i64 (((List.length (List.set (((mkT l 0 false).map f0 ++ [sLL]) ++ (mkT r 1 false).map f0) ((0 : Int)).toNat sL0) : Nat) : Int) - 1) = ((mkT (.node l r) 0 true).length : Int) - 1 := by
      have : List.length (List.set (((mkT l 0 false).map f0 ++ [sLL]) ++ (mkT r 1 false).map f0) ((0 : Int)).toNat sL0) = (mkT (.node l r) 0 true).length := by
        rw [List.length_set, ← e, List.length_map]
      rw [this, w64] <;> omega
    rw [← ew] at hL
    have hpos : 0 < List.length (((mkT l 0 false).map f0 ++ [sLL]) ++ (mkT r 1 false).map f0) := by simp; omega
    exact spec_lnKinds_p2 _ _ _ _ _ _ _ _ _ (trLeaf_node _ _) (trSides_SC _ _ h') h1 (zok _ _ (by simp [mkT_len]; omega)) h2 (zok _ _ (by simp [mkT_len]; omega)) (by exact_mod_cast hpos) hpos hL

end Go.AI
