/- Plain: rows of all trees in order: what is first and last, and how many there are. -/
import Derived.Test.YtdfllkeekehplaaFt
import Derived.Test.YtdfllkeekehplaaFpm
set_option autoImplicit false
set_option maxRecDepth 100000
set_option linter.unusedVariables false
namespace Go.AI

theorem srt_uniq : ∀ {L M : List ByteArray}, Srt L → Srt M → (∀ s, s ∈ L ↔ s ∈ M) → L = M
  | [], [], _, _, _ => rfl
  | [], b :: M, _, _, h => by have := (h b).2 (by simp); simp at this
  | a :: L, [], _, _, h => by have := (h a).1 (by simp); simp at this
  | a :: L, b :: M, hL, hM, h => by
    obtain ⟨l1, l2⟩ := List.pairwise_cons.1 hL
    obtain ⟨m1, m2⟩ := List.pairwise_cons.1 hM
    have e : a = b := by
      rcases List.mem_cons.1 ((h a).1 (by simp)) with e | ha
      · exact e
      · rcases List.mem_cons.1 ((h b).2 (by simp)) with e | hb
        · exact e.symm
        · exact absurd ((m1 a ha).tr (l1 b hb)) (Lt.irr _)
    subst e
    have e2 : L = M := srt_uniq l2 m2 fun s => by
      constructor
      · intro hs
        rcases List.mem_cons.1 ((h s).1 (List.mem_cons_of_mem _ hs)) with e | hs'
        · subst e; exact absurd (l1 _ hs) (Lt.irr _)
        · exact hs'
      · intro hs
        rcases List.mem_cons.1 ((h s).2 (List.mem_cons_of_mem _ hs)) with e | hs'
        · subst e; exact absurd (m1 _ hs) (Lt.irr _)
        · exact hs'
    rw [e2]

theorem all_uniq {n : Nat} {L M : List ByteArray} (aL : AllT n L) (sL : Srt L) (aM : AllT n M) (sM : Srt M) : L = M :=
  srt_uniq sL sM fun s => (aL.mem s).trans (aM.mem s).symm

theorem all_len {n : Nat} {L M : List ByteArray} (aL : AllT n L) (aM : AllT n M) : L.length = M.length :=
  Nat.le_antisymm (len_of_mem _ _ aL.nd fun x hx => (aM.mem x).2 ((aL.mem x).1 hx)) (len_of_mem _ _ aM.nd fun x hx => (aL.mem x).2 ((aM.mem x).1 hx))

/-! ### How many -/

def catV (n : Nat) : Nat := [1, 1, 2, 5, 14, 42, 132, 429, 1430].getD n 0

def catS (n : Nat) : Nat := ((List.range' 0 n).map fun i => catV i * catV (n - 1 - i)).sum

theorem cat_step : ∀ n : Fin 8, catS (n.val + 1) = catV (n.val + 1) := by decide

theorem cat_len : ∀ n : Nat, n ≤ 8 → (∀ i, i ≤ n → ∃ L, AllT i L) → ∀ L, AllT n L → L.length = catV n := by
  intro n
  induction n using Nat.strongRecOn with
  | ind n ih =>
    intro hn hex L hL
    cases n with
    | zero => rw [all_len hL AllT.zero]; rfl
    | succ n =>
      obtain ⟨f, hf⟩ : ∃ f : Nat → List ByteArray, ∀ i, i ≤ n → AllT i (f i) := by
        have hx : ∀ i, ∃ L, i ≤ n → AllT i L := fun i => by
          by_cases h : i ≤ n
          · obtain ⟨L, h1⟩ := hex i (by omega)
            exact ⟨L, fun _ => h1⟩
          · exact ⟨[], fun g => absurd g h⟩
        exact ⟨fun i => Classical.choose (hx i), fun i hi => Classical.choose_spec (hx i) hi⟩
      have hw := AllT.whole f n (by omega) hf
      rw [all_len hL hw]
      have e : (wholeL f (n + 1)).length = catS (n + 1) := by
        unfold wholeL catS
        rw [List.length_flatMap]
        congr 1
        apply List.map_congr_left
        intro i hi
        rw [List.mem_range'_1] at hi
        rw [prodL_len, ih i (by omega) (by omega) (fun j hj => hex j (by omega)) _ (hf i (by omega)), ih (n + 1 - 1 - i) (by omega) (by omega) (fun j hj => hex j (by omega)) _ (hf _ (by omega))]
      rw [e]
      exact cat_step ⟨n, by omega⟩

/-! ### Combs -/

def rcb : Nat → Tr
  | 0 => .leaf
  | n + 1 => .node .leaf (rcb n)

def lcb : Nat → Tr
  | 0 => .leaf
  | n + 1 => .node (lcb n) .leaf

theorem rcb_c : ∀ n, (rcb n).c = n
  | 0 => rfl
  | n + 1 => by simp only [rcb, Tr.c, rcb_c n]; omega

theorem lcb_c : ∀ n, (lcb n).c = n
  | 0 => rfl
  | n + 1 => by simp only [lcb, Tr.c, lcb_c n]; omega

theorem mir_rcb : ∀ n, mir (rcb n) = lcb n
  | 0 => rfl
  | n + 1 => by simp only [rcb, mir, lcb, mir_rcb n]

theorem bl_cons (c : UInt8) (x y : List UInt8) (h : Op.bytesLess x y = true) : Op.bytesLess (c :: x) (c :: y) = true := by
  rw [Op.bytesLess, h]; simp

theorem bl_head (c d : UInt8) (x y : List UInt8) (h : c < d) : Op.bytesLess (c :: x) (d :: y) = true := by
  rw [Op.bytesLess, decide_eq_true h]; rfl

theorem txt_node (l r : Tr) (a : List UInt8) : txt (.node l r) ++ a = 40 :: (txt l ++ (txt r ++ (41 :: a))) := by
  simp [txt]

theorem bl_rcb : ∀ (t : Tr) (a b : List UInt8), t ≠ rcb t.c → Op.bytesLess (txt t ++ a) (txt (rcb t.c) ++ b) = true
  | .leaf, a, b, h => absurd rfl h
  | .node l r, a, b, h => by
    have e : (Tr.node l r).c = (l.c + r.c) + 1 := by simp only [Tr.c]; omega
    rw [e, rcb, txt_node, txt_node]
    refine bl_cons _ _ _ ?_
    cases l with
    | leaf =>
      have z : Tr.leaf.c = 0 := rfl
      rw [z, Nat.zero_add]
      have hr : r ≠ rcb r.c := fun g => h (by rw [e, z, Nat.zero_add, rcb, ← g])
      show Op.bytesLess (46 :: (txt r ++ (41 :: a))) (46 :: (txt (rcb r.c) ++ (41 :: b))) = true
      exact bl_cons _ _ _ (bl_rcb r _ _ hr)
    | node u v =>
      rw [txt_node]
      exact bl_head _ _ _ _ (by decide)

theorem bl_lcb_small : ∀ (t : Tr) (m : Nat) (a b : List UInt8), t.c < m → Op.bytesLess (txt (lcb m) ++ a) (txt t ++ b) = true
  | .leaf, m, a, b, h => by
    obtain ⟨k, rfl⟩ : ∃ k, m = k + 1 := ⟨m - 1, by simp only [Tr.c] at h; omega⟩
    rw [lcb, txt_node]
    exact bl_head _ _ _ _ (by decide)
  | .node l r, m, a, b, h => by
    have e : (Tr.node l r).c = (l.c + r.c) + 1 := by simp only [Tr.c]; omega
    obtain ⟨k, rfl⟩ : ∃ k, m = k + 1 := ⟨m - 1, by omega⟩
    rw [lcb, txt_node, txt_node]
    exact bl_cons _ _ _ (bl_lcb_small l k _ _ (by omega))

theorem bl_lcb : ∀ (t : Tr) (a b : List UInt8), t ≠ lcb t.c → Op.bytesLess (txt (lcb t.c) ++ a) (txt t ++ b) = true
  | .leaf, a, b, h => absurd rfl h
  | .node l r, a, b, h => by
    have e : (Tr.node l r).c = (l.c + r.c) + 1 := by simp only [Tr.c]; omega
    rw [e, lcb, txt_node, txt_node]
    refine bl_cons _ _ _ ?_
    cases r with
    | leaf =>
      have z : Tr.leaf.c = 0 := rfl
      rw [z, Nat.add_zero]
      have hl : l ≠ lcb l.c := fun g => h (by rw [e, z, Nat.add_zero, lcb, ← g])
      exact bl_lcb l _ _ hl
    | node u v =>
      exact bl_lcb_small l _ _ _ (by simp only [Tr.c]; omega)

theorem lt_txt {t u : Tr} (h : Op.bytesLess (txt t ++ []) (txt u ++ []) = true) : Lt (bs (txt t)) (bs (txt u)) := by
  unfold Lt
  rw [Lib.toList_data, Lib.toList_data]
  rw [List.append_nil, List.append_nil] at h
  exact h

theorem first_lcb {n : Nat} {L : List ByteArray} (aL : AllT n L) (sL : Srt L) : ∃ R, L = bs (txt (lcb n)) :: R := by
  have hm := (aL.mem _).2 ⟨lcb n, lcb_c n, rfl⟩
  obtain ⟨A, B, rfl, hA, hB⟩ := rank_split sL hm
  cases A with
  | nil => exact ⟨B, rfl⟩
  | cons x A =>
    exfalso
    have hx := hA x (by simp)
    obtain ⟨t, tc, rfl⟩ := (aL.mem x).1 (by simp)
    by_cases e : t = lcb t.c
    · rw [tc] at e; rw [← e] at hx; exact Lt.irr _ hx
    · have := lt_txt (bl_lcb t [] [] e)
      rw [tc] at this
      exact Lt.irr _ (hx.tr this)

theorem last_rcb {n : Nat} {L : List ByteArray} (aL : AllT n L) (sL : Srt L) : ∃ R, L = R ++ [bs (txt (rcb n))] := by
  have hm := (aL.mem _).2 ⟨rcb n, rcb_c n, rfl⟩
  obtain ⟨A, B, rfl, hA, hB⟩ := rank_split sL hm
  cases B with
  | nil => exact ⟨A, rfl⟩
  | cons x B =>
    exfalso
    have hx : Lt (bs (txt (rcb n))) x := by
      have := (List.pairwise_cons.1 (List.pairwise_append.1 sL).2.1).1 x (by simp)
      exact this
    obtain ⟨t, tc, rfl⟩ := (aL.mem x).1 (by simp)
    by_cases e : t = rcb t.c
    · rw [tc] at e; rw [← e] at hx; exact Lt.irr _ hx
    · have := lt_txt (bl_rcb t [] [] e)
      rw [tc] at this
      exact Lt.irr _ (hx.tr this)

end Go.AI
