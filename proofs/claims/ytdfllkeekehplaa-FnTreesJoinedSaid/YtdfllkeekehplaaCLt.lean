/- Lengths. -/
import Derived.Test.YtdfllkeekehplaaCK
import Derived.Test.YtdfllkeekehplaaCE
set_option autoImplicit false
set_option maxRecDepth 100000
set_option linter.unusedVariables false
namespace Go.AI
open Go.Proofs

/-- Where a text first stands in a row, from a number on; -1 if nowhere. -/
def idxF (x : ByteArray) : List ByteArray → Nat → Int
  | [], _ => -1
  | y :: r, i => if y = x then (i : Int) else idxF x r (i + 1)

theorem idxF_range (x : ByteArray) : ∀ (l : List ByteArray) (i : Nat), idxF x l i = -1 ∨ ((i : Int) ≤ idxF x l i ∧ idxF x l i < (i : Int) + l.length)
  | [], i => .inl rfl
  | y :: r, i => by
    rw [idxF]
    split
    · exact .inr ⟨Int.le_refl _, by simp only [List.length_cons]; omega⟩
    · rcases idxF_range x r (i + 1) with h | h
      · exact .inl h
      · exact .inr (by simp only [List.length_cons]; omega)

theorem index_loop (l : List ByteArray) (x : ByteArray) (hl : l.length ≤ 2 ^ 40) : ∀ (m i : Nat), l.length - i = m → i ≤ l.length →
    (0 ≤ idxF x (l.drop i) i → LoopSC cfg.P 2 (lb P_slices_Index_string 0) (slices_Index_string_L0a l x (l.length : Int) (i : Int)) .ret (slices_Index_string_L0X1 (idxF x (l.drop i) i))) ∧
    (idxF x (l.drop i) i < 0 → LoopSC cfg.P 2 (lb P_slices_Index_string 0) (slices_Index_string_L0a l x (l.length : Int) (i : Int)) (.exit 0) (slices_Index_string_L0X2 l x (l.length : Int) (l.length : Int) false)) := by
  intro m
  induction m with
  | zero =>
    intro i hm hi
    have e : i = l.length := by omega
    subst e
    rw [List.drop_length]
    exact ⟨fun h => by simp [idxF] at h, fun _ => slices_Index_string_L0a_x3 _ _ _ _ (by omega)⟩
  | succ m ih =>
    intro i hm hi
    have hlt : i < l.length := by omega
    have hd : l.drop i = l[i] :: l.drop (i + 1) := List.drop_eq_getElem_cons hlt
    have hg : List.getD l ((i : Int)).toNat ⟨#[]⟩ = l[i] := by rw [Int.toNat_natCast, List.getD_eq_getElem?_getD, List.getElem?_eq_getElem hlt]; rfl
    have ew : IntKind.wrap .i64 ((i : Int) + 1) = ((i + 1 : Nat) : Int) := by rw [w64] <;> omega
    obtain ⟨h1, h2⟩ := ih (i + 1) (by omega) (by omega)
    rw [← ew] at h1 h2
    rw [hd, idxF]
    by_cases h : l[i] = x
    · rw [if_pos h]
      exact ⟨fun _ => slices_Index_string_L0a_x1 _ _ _ _ (by omega) (by omega) (by omega) (by rw [hg, h]), fun hh => by omega⟩
    · rw [if_neg h]
      have hne : x ≠ List.getD l ((i : Int)).toNat ⟨#[]⟩ := by rw [hg]; exact fun e => h e.symm
      exact ⟨fun hh => slices_Index_string_L0a_i2 _ _ _ _ (by omega) (by omega) (by omega) hne (h1 hh), fun hh => slices_Index_string_L0a_i2 _ _ _ _ (by omega) (by omega) (by omega) hne (h2 hh)⟩

theorem indexS_SC (l : List ByteArray) (x : ByteArray) (hl : l.length ≤ 2 ^ 40) : SC cfg.P i_slices_Index_string [.s (.v (.sl .str) l), .s (.v .str x)] (.s (.v (.int .i64) (idxF x l 0))) [] := by
  obtain ⟨h1, h2⟩ := index_loop l x hl _ 0 rfl (by omega)
  rw [List.drop_zero] at h1 h2
  rcases idxF_range x l 0 with h | h
  · rw [h] at h2 ⊢
    exact slices_Index_string_p2 _ _ _ _ _ _ _ (h2 (by omega))
  · exact slices_Index_string_p1 _ _ _ (h1 (by omega))

def names : List ByteArray := [sR0, sRN, sRI, sLL, sI0, sIR]

theorem lnRow_loop (x : ByteArray) : ∀ (m i : Nat), names.length - i = m → i ≤ names.length →
    (0 ≤ idxF x (names.drop i) i → LoopSC cfg.P 1 (lb P_spec_lnRow 0) (spec_lnRow_L0a x (names.length : Int) (i : Int) names) .ret (spec_lnRow_L0X1 (idxF x (names.drop i) i))) ∧
    (idxF x (names.drop i) i < 0 → LoopSC cfg.P 1 (lb P_spec_lnRow 0) (spec_lnRow_L0a x (names.length : Int) (i : Int) names) (.exit 0) (spec_lnRow_L0X2 x (names.length : Int) (names.length : Int) false names)) := by
  have hl : names.length = 6 := rfl
  generalize names = l at *
  intro m
  induction m with
  | zero =>
    intro i hm hi
    have e : i = l.length := by omega
    subst e
    rw [List.drop_length]
    exact ⟨fun h => by simp [idxF] at h, fun _ => spec_lnRow_L0a_x3 _ _ _ _ (by omega)⟩
  | succ m ih =>
    intro i hm hi
    have hlt : i < l.length := by omega
    have hd : l.drop i = l[i] :: l.drop (i + 1) := List.drop_eq_getElem_cons hlt
    have hg : List.getD l ((i : Int)).toNat ⟨#[]⟩ = l[i] := by rw [Int.toNat_natCast, List.getD_eq_getElem?_getD, List.getElem?_eq_getElem hlt]; rfl
    have ew : IntKind.wrap .i64 ((i : Int) + 1) = ((i + 1 : Nat) : Int) := by rw [w64] <;> omega
    obtain ⟨h1, h2⟩ := ih (i + 1) (by omega) (by omega)
    rw [← ew] at h1 h2
    rw [hd, idxF]
    by_cases h : l[i] = x
    · rw [if_pos h]
      exact ⟨fun _ => spec_lnRow_L0a_x1 _ _ _ _ (by omega) (by omega) (by omega) (by omega) (by rw [hg, h]), fun hh => by omega⟩
    · rw [if_neg h]
      have hne : List.getD l ((i : Int)).toNat ⟨#[]⟩ ≠ x := by rw [hg]; exact h
      exact ⟨fun hh => spec_lnRow_L0a_i2 _ _ _ _ (by omega) (by omega) (by omega) (by omega) hne (h1 hh), fun hh => spec_lnRow_L0a_i2 _ _ _ _ (by omega) (by omega) (by omega) (by omega) hne (h2 hh)⟩

theorem lnRow_SC (x : ByteArray) : SC cfg.P i_spec_lnRow [.s (.v .str x)] (.s (.v (.int .i64) (idxF x names 0))) [] := by
  obtain ⟨h1, h2⟩ := lnRow_loop x _ 0 rfl (by omega)
  rw [List.drop_zero] at h1 h2
  rcases idxF_range x names 0 with h | h
  · rw [h] at h2 ⊢
    exact spec_lnRow_p2 _ _ _ _ _ _ (h2 (by omega))
  · exact spec_lnRow_p1 _ _ (h1 (by omega))

def tabL : List (List Int) := [([0, 2, 2, 1, 1, 3] : List Int), ([2, 2, 2, 1, 1, 3] : List Int), ([2, 2, 2, 1, 3, 3] : List Int), ([1, 1, 1, 2, 2, 2] : List Int), ([1, 1, 3, 2, 2, 4] : List Int), ([3, 3, 3, 2, 4, 4] : List Int)]

/-- The number of two kinds in the table, and whether there is one. -/
def tabQ (a b : ByteArray) : Bool := (decide (a = sL0) && decide (b = sL0)) || (decide (0 ≤ idxF a names 0) && decide (0 ≤ idxF b names 0))

def tabV (a b : ByteArray) : Int := if a = sL0 ∧ b = sL0 then 0 else if 0 ≤ idxF a names 0 ∧ 0 ≤ idxF b names 0 then (tabL.getD (idxF a names 0).toNat []).getD (idxF b names 0).toNat 0 else 0

theorem tab_bound (i j : Nat) : 0 ≤ (tabL.getD i []).getD j 0 ∧ (tabL.getD i []).getD j 0 ≤ 4 := by
  have key : ∀ r ∈ tabL, ∀ x ∈ r, (0 : Int) ≤ x ∧ x ≤ 4 := by decide
  rw [List.getD_eq_getElem?_getD (l := tabL)]
  by_cases h : i < tabL.length
  · rw [List.getElem?_eq_getElem h, Option.getD_some, List.getD_eq_getElem?_getD]
    by_cases h2 : j < tabL[i].length
    · rw [List.getElem?_eq_getElem h2, Option.getD_some]
      exact key _ (List.getElem_mem h) _ (List.getElem_mem h2)
    · rw [List.getElem?_eq_none (by omega)]; simp
  · rw [List.getElem?_eq_none (by omega)]; simp

theorem tabV_bound (a b : ByteArray) : 0 ≤ tabV a b ∧ tabV a b ≤ 4 := by
  unfold tabV
  split
  · omega
  · split
    · exact tab_bound _ _
    · omega

theorem lnTable_SC (a b : ByteArray) : SC cfg.P i_spec_lnTable [.s (.v .str a), .s (.v .str b)] (.tup [.v (.int .i64) (tabV a b), .v .bool (tabQ a b)]) [] := by
  have ha := lnRow_SC a
  have hb := lnRow_SC b
  have hl : tabL.length = 6 := rfl
  have hn : names.length = 6 := rfl
  have hrow : ∀ i, i < 6 → (tabL.getD i []).length = 6 := by decide
  have ra := idxF_range a names 0
  have rb := idxF_range b names 0
  unfold tabV tabQ
  by_cases h0 : a = sL0
  · by_cases h1 : b = sL0
    · rw [if_pos ⟨h0, h1⟩, decide_eq_true h0, decide_eq_true h1]
      exact spec_lnTable_p1 _ _ h0 h1
    · rw [if_neg (fun h => h1 h.2), decide_eq_false h1, Bool.and_false, Bool.false_or]
      by_cases g1 : 0 ≤ idxF a names 0
      · by_cases g2 : 0 ≤ idxF b names 0
        · rw [if_pos ⟨g1, g2⟩, decide_eq_true g1, decide_eq_true g2]
          have := hrow (idxF a names 0).toNat (by omega)
          exact spec_lnTable_p4 _ _ _ _ h0 h1 ha hb (by omega) (by omega) g1 (by show _ < ((tabL.length : Nat) : Int); omega) (by show _ < tabL.length; omega) g2 (by show _ < (((tabL.getD (idxF a names 0).toNat []).length : Nat) : Int); omega)
        · rw [if_neg (fun h => g2 h.2), decide_eq_false g2, Bool.and_false]
          exact spec_lnTable_p3 _ _ _ _ h0 h1 ha hb (by omega) (by omega)
      · rw [if_neg (fun h => g1 h.1), decide_eq_false g1, Bool.false_and]
        exact spec_lnTable_p2 _ _ _ _ h0 h1 ha hb (by omega)
  · rw [if_neg (fun h => h0 h.1), decide_eq_false h0, Bool.false_and, Bool.false_or]
    by_cases g1 : 0 ≤ idxF a names 0
    · by_cases g2 : 0 ≤ idxF b names 0
      · rw [if_pos ⟨g1, g2⟩, decide_eq_true g1, decide_eq_true g2]
        have := hrow (idxF a names 0).toNat (by omega)
        exact spec_lnTable_p7 _ _ _ _ h0 ha hb (by omega) (by omega) g1 (by show _ < ((tabL.length : Nat) : Int); omega) (by show _ < tabL.length; omega) g2 (by show _ < (((tabL.getD (idxF a names 0).toNat []).length : Nat) : Int); omega)
      · rw [if_neg (fun h => g2 h.2), decide_eq_false g2, Bool.and_false]
        exact spec_lnTable_p6 _ _ _ _ h0 ha hb (by omega) (by omega)
    · rw [if_neg (fun h => g1 h.1), decide_eq_false g1, Bool.false_and]
      exact spec_lnTable_p5 _ _ _ _ h0 ha hb (by omega)

theorem getD_in {α : Type} {l : List α} {i : Nat} (h : i < l.length) (d e : α) : l.getD i d = l.getD i e := by
  rw [List.getD_eq_getElem?_getD, List.getD_eq_getElem?_getD, List.getElem?_eq_getElem h]; rfl

theorem kindLength_SC (a b : ByteArray) : SC cfg.P i_impl_KindLength [.s (.v .str a), .s (.v .str b)] (.tup [.v (.int .i64) (tabV a b), .v .bool (tabQ a b)]) [] := by
  have hn : names.length = 6 := rfl
  have ha := indexS_SC names a (by omega)
  have hb := indexS_SC names b (by omega)
  have hl : tabL.length = 6 := rfl
  have ra := idxF_range a names 0
  have rb := idxF_range b names 0
  unfold tabV tabQ
  have hd : ∀ i, i < 6 → tabL.getD i [] = tabL.getD i (List.replicate 6 (0 : Int)) := fun i hi => getD_in (by omega) _ _
  by_cases h0 : a = sL0
  · by_cases h1 : b = sL0
    · rw [if_pos ⟨h0, h1⟩, decide_eq_true h0, decide_eq_true h1]
      exact impl_KindLength_p1 _ _ h0 h1
    · rw [if_neg (fun h => h1 h.2), decide_eq_false h1, Bool.and_false, Bool.false_or]
      by_cases g1 : 0 ≤ idxF a names 0
      · by_cases g2 : 0 ≤ idxF b names 0
        · rw [if_pos ⟨g1, g2⟩, decide_eq_true g1, decide_eq_true g2, hd _ (by omega)]
          exact impl_KindLength_p4 _ _ _ _ h0 h1 ha hb (by omega) (by omega) g1 (by omega) g2 (by omega)
        · rw [if_neg (fun h => g2 h.2), decide_eq_false g2, Bool.and_false]
          exact impl_KindLength_p3 _ _ _ _ h0 h1 ha hb (by omega) (by omega)
      · rw [if_neg (fun h => g1 h.1), decide_eq_false g1, Bool.false_and]
        exact impl_KindLength_p2 _ _ _ _ h0 h1 ha hb (by omega)
  · rw [if_neg (fun h => h0 h.1), decide_eq_false h0, Bool.false_and, Bool.false_or]
    by_cases g1 : 0 ≤ idxF a names 0
    · by_cases g2 : 0 ≤ idxF b names 0
      · rw [if_pos ⟨g1, g2⟩, decide_eq_true g1, decide_eq_true g2, hd _ (by omega)]
        exact impl_KindLength_p7 _ _ _ _ h0 ha hb (by omega) (by omega) g1 (by omega) g2 (by omega)
      · rw [if_neg (fun h => g2 h.2), decide_eq_false g2, Bool.and_false]
        exact impl_KindLength_p6 _ _ _ _ h0 ha hb (by omega) (by omega)
    · rw [if_neg (fun h => g1 h.1), decide_eq_false g1, Bool.false_and]
      exact impl_KindLength_p5 _ _ _ _ h0 ha hb (by omega)

/-- The sum of the table's numbers over two rows of kinds. -/
def lenK (A B : List ByteArray) : Int := itr (fun i a => a + tabV (A.getD i ⟨#[]⟩) (B.getD i ⟨#[]⟩)) 0 A.length 0

/-- The length of a pair, by the table. -/
def lenT (p : Tr × Tr) : Int := lenK (kindsL (mkT p.1 0 true)) (kindsL (mkT p.2 0 true))

theorem length_loop (A B : List ByteArray) (h : A.length = B.length) (hA : A.length ≤ 2 ^ 40) :
    LoopSC cfg.P 1 (lb P_impl_pair_length 0) (impl_pair_length_L0a 0 (A.length : Int) 0 B A) (.exit 0) (impl_pair_length_L0X1 (lenK A B) (A.length : Int) (A.length : Int) false B A) := by
  obtain ⟨h1, h2⟩ := loop_up (P := cfg.P) (np := 1) (c := lb P_impl_pair_length 0) (fun i a => impl_pair_length_L0a a (A.length : Int) (i : Int) B A) (fun a => impl_pair_length_L0X1 a (A.length : Int) (A.length : Int) false B A)
    (fun i a => a + tabV (A.getD i ⟨#[]⟩) (B.getD i ⟨#[]⟩)) (fun i a => 0 ≤ a ∧ a ≤ 4 * (i : Int)) A.length
    (fun i a hi ⟨g1, g2⟩ => by
      have hb := tabV_bound (A.getD i ⟨#[]⟩) (B.getD i ⟨#[]⟩)
      refine ⟨⟨by omega, by omega⟩, fun e st hn => ?_⟩
      have e1 : IntKind.wrap .i64 ((i : Int) + 1) = ((i + 1 : Nat) : Int) := by rw [w64] <;> omega
      have e2 : IntKind.wrap .i64 (a + tabV (A.getD i ⟨#[]⟩) (B.getD i ⟨#[]⟩)) = a + tabV (A.getD i ⟨#[]⟩) (B.getD i ⟨#[]⟩) := by rw [w64] <;> omega
      rw [← e1, ← e2] at hn
      have ht := kindLength_SC (A.getD i ⟨#[]⟩) (B.getD i ⟨#[]⟩)
      exact impl_pair_length_L0a_i1 _ _ _ _ _ _ _ (by omega) (by omega) (by omega) (by omega) (by omega) (by omega) ht hn)
    (fun a _ => impl_pair_length_L0a_x2 _ _ _ _ _ (by omega)) A.length 0 0 (by omega) (by simp)
  exact h1

theorem kindsL_len (t : Tr) : (kindsL (mkT t 0 true)).length = t.c := by rw [kindsL_length, mkT_len]

theorem length_SC (p : Tr × Tr) (hp : p.1.c = p.2.c) (h : p.1.c ≤ 2 ^ 20) : SC cfg.P i_impl_pair_length [.s (.v (.pr .tree .tree) p)] (.s (.v (.int .i64) (lenT (red p.1.c p)))) [] := by
  have hr := red_c p.1.c p
  have he := red_eqc p.1.c p hp
  have l1 := kindsL_len (red p.1.c p).1
  have l2 := kindsL_len (red p.1.c p).2
  exact impl_pair_length_p1 _ _ _ _ _ _ _ _ _ _ (reduced_SC p (by omega) (by omega)) (kinds_SC _ (by omega)) (kinds_SC _ (by omega)) (length_loop _ _ (by omega) (by omega))

end Go.AI
