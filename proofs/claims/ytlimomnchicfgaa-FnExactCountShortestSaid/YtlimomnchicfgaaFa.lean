/- Lengths by the table, from the right: what a rotation and what an added caret make of them. -/
import Derived.Test.YtlimomnchicfgaaCLt
import Derived.Test.YtlimomnchicfgaaCWp
set_option autoImplicit false
set_option maxRecDepth 100000
set_option linter.unusedVariables false
namespace Go.AI

/-- The kind of a caret, with those behind it. -/
def kd (m : Mk) (r : List Mk) : ByteArray :=
  if m.1 = 0 then sLL else if m.1 = 1 then (if notR r = true then (if (r.getD 0 (0, false)).1 = 2 then sRI else sRN) else sR0) else if m.2 = true then sI0 else sIR

/-- The table's numbers, but for the first carets. -/
def ls : List Mk → List Mk → Int
  | m :: M, n :: N => tabV (kd m M) (kd n N) + ls M N
  | _, _ => 0

theorem ls_cons (m n : Mk) (M N : List Mk) : ls (m :: M) (n :: N) = tabV (kd m M) (kd n N) + ls M N := rfl

theorem kindAt_kd (M : List Mk) (i : Nat) (h0 : 1 ≤ i) (h : i < M.length) : kindAt M i = kd (M[i]) (M.drop (i + 1)) := by
  have hg : M.getD i (0, false) = M[i] := by rw [List.getD_eq_getElem?_getD, List.getElem?_eq_getElem h]; rfl
  have hn : (M.drop (i + 1)).getD 0 (0, false) = M.getD (i + 1) (0, false) := by
    rw [List.getD_eq_getElem?_getD, List.getD_eq_getElem?_getD, List.getElem?_drop, Nat.add_zero]
  unfold kindAt kd
  rw [if_neg (by omega), hg, hn]
  by_cases e : M[i].1 = 1
  · rw [notR_drop M i h, hg, e]
    simp
  · simp only [if_neg e]

theorem itr_ls (M N : List Mk) (h : M.length = N.length) : ∀ (m i : Nat) (a : Int), i + m = M.length → 1 ≤ i →
    itr (fun i a => a + tabV ((kindsL M).getD i ⟨#[]⟩) ((kindsL N).getD i ⟨#[]⟩)) i m a = a + ls (M.drop i) (N.drop i)
  | 0, i, a, hi, h1 => by
    rw [List.drop_eq_nil_of_le (by omega)]
    simp [itr, ls]
  | m + 1, i, a, hi, h1 => by
    have hM : i < M.length := by omega
    have hN : i < N.length := by omega
    rw [itr, itr_ls M N h m (i + 1) _ (by omega) (by omega), kindsL_get M i hM, kindsL_get N i hN, kindAt_kd M i h1 hM, kindAt_kd N i h1 hN,
      List.drop_eq_getElem_cons hM, List.drop_eq_getElem_cons hN, ls_cons]
    omega

theorem lenT_ls (p : Tr × Tr) (h : p.1.c = p.2.c) : lenT p = ls (mkT p.1 0 true).tail (mkT p.2 0 true).tail := by
  have l1 := mkT_len p.1 0 true
  have l2 := mkT_len p.2 0 true
  unfold lenT lenK
  rw [kindsL_length]
  cases hn : (mkT p.1 0 true).length with
  | zero =>
    have e : mkT p.1 0 true = [] := List.length_eq_zero_iff.1 hn
    rw [e]
    rfl
  | succ n =>
    have t0 : tabV ((kindsL (mkT p.1 0 true)).getD 0 ⟨#[]⟩) ((kindsL (mkT p.2 0 true)).getD 0 ⟨#[]⟩) = 0 := by
      rw [kindsL_get _ 0 (by omega), kindsL_get _ 0 (by omega)]
      show tabV sL0 sL0 = 0
      unfold tabV
      rw [if_pos ⟨rfl, rfl⟩]
    rw [itr, itr_ls _ _ (by omega) n 1 _ (by omega) (Nat.le_refl _), t0, List.drop_one, List.drop_one]
    omega

/-! ### Kinds in the table -/

def six : List ByteArray := [sLL, sRI, sRN, sR0, sI0, sIR]

theorem kd_six (m : Mk) (r : List Mk) : kd m r ∈ six := by
  unfold kd six
  split
  · simp
  · split
    · split
      · split <;> simp
      · simp
    · split <;> simp

theorem kd_right (m : Mk) (r : List Mk) (h : m.1 = 1) : kd m r ∈ [sRI, sRN, sR0] := by
  unfold kd
  rw [if_neg (by omega), if_pos h]
  split
  · split <;> simp
  · simp

theorem tab_LR : ∀ x ∈ [sRI, sRN, sR0], ∀ y ∈ six, -1 ≤ tabV x y - tabV sLL y ∧ tabV x y - tabV sLL y ≤ 1 := by decide +kernel
theorem tab_I0 : ∀ x ∈ [sRN, sR0], ∀ y ∈ six, -1 ≤ tabV x y - tabV sI0 y ∧ tabV x y - tabV sI0 y ≤ 1 := by decide +kernel
theorem tab_IR : ∀ y ∈ six, -1 ≤ tabV sRI y - tabV sIR y ∧ tabV sRI y - tabV sIR y ≤ 1 := by decide +kernel
theorem tab_RL : ∀ x ∈ [sRI, sRN, sR0], tabV x sLL = 1 ∧ tabV sLL x = 1 := by decide +kernel
theorem tab_LI : tabV sLL sI0 = 2 ∧ tabV sLL sIR = 2 := by decide +kernel
theorem tab_RI0 : ∀ x ∈ [sRN, sR0], tabV x sI0 = 1 := by decide +kernel
theorem tab_NR : ∀ x ∈ [sLL, sI0, sIR], tabV x sRN = tabV x sR0 := by decide +kernel
theorem tab_pos : ∀ x ∈ six, ∀ y ∈ six, 0 ≤ tabV x y ∧ (tabV x y = 0 → x = sR0 ∧ y = sR0) := by decide +kernel
theorem tab_R00 : tabV sR0 sR0 = 0 := by decide +kernel
theorem tab_sym : ∀ x ∈ six, ∀ y ∈ six, tabV x y = tabV y x := by decide +kernel

theorem kd_left (m : Mk) (r r' : List Mk) (h : m.1 ≠ 1) : kd m r = kd m r' := by
  unfold kd
  split
  · rfl
  · simp only [if_neg h]

theorem kd_zero (m : Mk) (r : List Mk) (h : m.1 = 0) : kd m r = sLL := by unfold kd; rw [if_pos h]

/-- Nothing looks behind it. -/
def sm (m m' : Mk) : Prop := (m.1 = 0 ∧ m'.1 = 0) ∨ (m = m' ∧ m.1 ≠ 1)

theorem sm_kd {m m' : Mk} (h : sm m m') (r r' : List Mk) : kd m r = kd m' r' := by
  rcases h with ⟨h1, h2⟩ | ⟨rfl, h⟩
  · rw [kd_zero _ _ h1, kd_zero _ _ h2]
  · exact kd_left _ _ _ h

def Sm : List Mk → List Mk → Prop
  | [], [] => True
  | m :: P, m' :: P' => sm m m' ∧ Sm P P'
  | _, _ => False

theorem Sm.length : ∀ {P P' : List Mk}, Sm P P' → P.length = P'.length
  | [], [], _ => rfl
  | _ :: _, _ :: _, h => by simp only [List.length_cons, h.2.length]

theorem Sm.append : ∀ {P P' Q Q' : List Mk}, Sm P P' → Sm Q Q' → Sm (P ++ Q) (P' ++ Q')
  | [], [], _, _, _, h => h
  | _ :: _, _ :: _, _, _, h, h' => ⟨h.1, h.2.append h'⟩

theorem Sm.tail : ∀ {P P' : List Mk}, Sm P P' → Sm P.tail P'.tail
  | [], [], _ => trivial
  | _ :: _, _ :: _, h => h.2

theorem Sm.refl : ∀ {P : List Mk}, (∀ m ∈ P, m.1 ≠ 1) → Sm P P
  | [], _ => trivial
  | m :: P, h => ⟨.inr ⟨rfl, h m (by simp)⟩, Sm.refl fun x hx => h x (by simp [hx])⟩

theorem ls_pre : ∀ {P P' : List Mk} (N X X' : List Mk), Sm P P' → P.length ≤ N.length → ls (P ++ X) N - ls (P' ++ X') N = ls X (N.drop P.length) - ls X' (N.drop P.length)
  | [], [], N, X, X', _, _ => rfl
  | m :: P, m' :: P', [], X, X', _, h => by simp at h
  | m :: P, m' :: P', n :: N, X, X', h, hl => by
    have := ls_pre N X X' h.2 (by simpa using hl)
    simp only [List.cons_append, ls_cons, List.length_cons, List.drop_succ_cons]
    rw [sm_kd h.1 (P ++ X) (P' ++ X')]
    omega

/-! ### Marks -/

theorem mkT_no1 : ∀ (t : Tr) (s : Int), s ≠ 1 → ∀ m ∈ mkT t s false, m.1 ≠ 1
  | .leaf, _, _, m, h => by simp [mkT] at h
  | .node l r, s, hs, m, h => by
    simp only [mkT, List.mem_append, List.mem_cons, List.not_mem_nil, or_false] at h
    have e : (if false = true ∨ s = 1 then (1 : Int) else 2) = 2 := by simp [hs]
    rw [e] at h
    rcases h with (h | h) | h
    · exact mkT_no1 l _ (by split <;> decide) m h
    · subst h; exact hs
    · exact mkT_no1 r _ (by decide) m h

theorem mkT_2 : ∀ (t : Tr), ∀ m ∈ mkT t 2 false, m.1 = 2
  | .leaf, m, h => by simp [mkT] at h
  | .node l r, m, h => by
    simp only [mkT, List.mem_append, List.mem_cons, List.not_mem_nil, or_false] at h
    have e : (if false = true ∨ (2 : Int) = 1 then (1 : Int) else 2) = 2 := by decide
    have e0 : (if (2 : Int) = 0 then (0 : Int) else 2) = 2 := by decide
    rw [e, e0] at h
    rcases h with (h | h) | h
    · exact mkT_2 l m h
    · subst h; rfl
    · exact mkT_2 r m h

theorem mk_root (l r : Tr) : mkT (.node l r) 0 true = mkT l 0 false ++ [((0 : Int), r.isLeaf)] ++ mkT r 1 false := by
  simp [mkT]
theorem mk_left (l r : Tr) : mkT (.node l r) 0 false = mkT l 0 false ++ [((0 : Int), r.isLeaf)] ++ mkT r 2 false := by
  simp [mkT]
theorem mk_right (l r : Tr) : mkT (.node l r) 1 false = mkT l 2 false ++ [((1 : Int), r.isLeaf)] ++ mkT r 1 false := by
  simp [mkT]
theorem mk_in (l r : Tr) : mkT (.node l r) 2 false = mkT l 2 false ++ [((2 : Int), r.isLeaf)] ++ mkT r 2 false := by
  simp [mkT]

theorem tail_app {α : Type} {P X : List α} (h : P ≠ []) : (P ++ X).tail = P.tail ++ X := by
  cases P with
  | nil => exact absurd rfl h
  | cons a P => rfl

theorem tail3 {α : Type} (A B X : List α) (x : α) : (A ++ [x] ++ B ++ X).tail = (A ++ [x] ++ B).tail ++ X := tail_app (by simp)

theorem Sm.one {m m' : Mk} (h : sm m m') : Sm [m] [m'] := ⟨h, trivial⟩

/-- A rotation at the root. -/
theorem rot0 (a b c T : Tr) (h : (Tr.node a (.node b c)).c = T.c) :
    -1 ≤ lenT (.node a (.node b c), T) - lenT (.node (.node a b) c, T) ∧ lenT (.node a (.node b c), T) - lenT (.node (.node a b) c, T) ≤ 1 := by
  have hl := mkT_len T 0 true
  simp only [Tr.c] at h
  have la := mkT_len a 0 false
  have lb := mkT_len b 2 false
  rw [lenT_ls _ (by simp only [Tr.c]; omega), lenT_ls _ (by simp only [Tr.c]; omega)]
  simp only [mk_root, mk_right, mk_left]
  have e1 : mkT a 0 false ++ [((0 : Int), (Tr.node b c).isLeaf)] ++ (mkT b 2 false ++ [((1 : Int), c.isLeaf)] ++ mkT c 1 false) =
      (mkT a 0 false ++ [((0 : Int), (Tr.node b c).isLeaf)] ++ mkT b 2 false) ++ (((1 : Int), c.isLeaf) :: mkT c 1 false) := by simp
  have e2 : mkT a 0 false ++ [((0 : Int), b.isLeaf)] ++ mkT b 2 false ++ [((0 : Int), c.isLeaf)] ++ mkT c 1 false =
      (mkT a 0 false ++ [((0 : Int), b.isLeaf)] ++ mkT b 2 false) ++ (((0 : Int), c.isLeaf) :: mkT c 1 false) := by simp
  rw [e1, e2, tail3, tail3]
  have hS : Sm (mkT a 0 false ++ [((0 : Int), (Tr.node b c).isLeaf)] ++ mkT b 2 false) (mkT a 0 false ++ [((0 : Int), b.isLeaf)] ++ mkT b 2 false) :=
    ((Sm.refl (mkT_no1 a 0 (by decide))).append (Sm.one (.inl ⟨rfl, rfl⟩))).append (Sm.refl (mkT_no1 b 2 (by decide)))
  have hlen : (mkT a 0 false ++ [((0 : Int), (Tr.node b c).isLeaf)] ++ mkT b 2 false).tail.length = a.c + b.c := by simp; omega
  have hN : (mkT T 0 true).tail.length = T.c - 1 := by simp [hl]
  rw [ls_pre _ _ _ hS.tail (by omega), hlen]
  obtain ⟨n, N, e⟩ : ∃ n N, (mkT T 0 true).tail.drop (a.c + b.c) = n :: N := by
    cases hd : (mkT T 0 true).tail.drop (a.c + b.c) with
    | nil =>
      have := congrArg List.length hd
      rw [List.length_drop, hN] at this
      simp at this
      omega
    | cons n N => exact ⟨n, N, rfl⟩
  rw [e, ls_cons, ls_cons, kd_zero (0, c.isLeaf) _ rfl]
  have := tab_LR _ (kd_right (1, c.isLeaf) (mkT c 1 false) rfl) _ (kd_six n N)
  omega

/-- A rotation at the right side of the root. -/
theorem rot1 (a b c d T : Tr) (h : (Tr.node a (.node b (.node c d))).c = T.c) :
    -1 ≤ lenT (.node a (.node b (.node c d)), T) - lenT (.node a (.node (.node b c) d), T) ∧ lenT (.node a (.node b (.node c d)), T) - lenT (.node a (.node (.node b c) d), T) ≤ 1 := by
  have hl := mkT_len T 0 true
  simp only [Tr.c] at h
  have la := mkT_len a 0 false
  have lb := mkT_len b 2 false
  rw [lenT_ls _ (by simp only [Tr.c]; omega), lenT_ls _ (by simp only [Tr.c]; omega)]
  simp only [mk_root, mk_right, mk_in]
  have f1 : (Tr.node b (.node c d)).isLeaf = false := rfl
  have f2 : (Tr.node (.node b c) d).isLeaf = false := rfl
  have f3 : (Tr.node c d).isLeaf = false := rfl
  rw [f1, f2, f3]
  have e1 : mkT a 0 false ++ [((0 : Int), false)] ++ (mkT b 2 false ++ [((1 : Int), false)] ++ (mkT c 2 false ++ [((1 : Int), d.isLeaf)] ++ mkT d 1 false)) =
      (mkT a 0 false ++ [((0 : Int), false)] ++ mkT b 2 false) ++ (((1 : Int), false) :: (mkT c 2 false ++ [((1 : Int), d.isLeaf)] ++ mkT d 1 false)) := by simp
  have e2 : mkT a 0 false ++ [((0 : Int), false)] ++ (mkT b 2 false ++ [((2 : Int), c.isLeaf)] ++ mkT c 2 false ++ [((1 : Int), d.isLeaf)] ++ mkT d 1 false) =
      (mkT a 0 false ++ [((0 : Int), false)] ++ mkT b 2 false) ++ (((2 : Int), c.isLeaf) :: (mkT c 2 false ++ [((1 : Int), d.isLeaf)] ++ mkT d 1 false)) := by simp
  rw [e1, e2, tail3, tail3]
  have hS : Sm (mkT a 0 false ++ [((0 : Int), false)] ++ mkT b 2 false) (mkT a 0 false ++ [((0 : Int), false)] ++ mkT b 2 false) :=
    ((Sm.refl (mkT_no1 a 0 (by decide))).append (Sm.one (.inl ⟨rfl, rfl⟩))).append (Sm.refl (mkT_no1 b 2 (by decide)))
  have hlen : (mkT a 0 false ++ [((0 : Int), false)] ++ mkT b 2 false).tail.length = a.c + b.c := by simp; omega
  have hN : (mkT T 0 true).tail.length = T.c - 1 := by simp [hl]
  rw [ls_pre _ _ _ hS.tail (by omega), hlen]
  obtain ⟨n, N, e⟩ : ∃ n N, (mkT T 0 true).tail.drop (a.c + b.c) = n :: N := by
    cases hd : (mkT T 0 true).tail.drop (a.c + b.c) with
    | nil =>
      have := congrArg List.length hd
      rw [List.length_drop, hN] at this
      simp at this
      omega
    | cons n N => exact ⟨n, N, rfl⟩
  rw [e, ls_cons, ls_cons]
  have h6 := kd_six n N
  cases c with
  | leaf =>
    have k1 : kd (2, Tr.leaf.isLeaf) (mkT .leaf 2 false ++ [((1 : Int), d.isLeaf)] ++ mkT d 1 false) = sI0 := by simp [kd, Tr.isLeaf]
    have k2 : kd (1, false) (mkT .leaf 2 false ++ [((1 : Int), d.isLeaf)] ++ mkT d 1 false) ∈ [sRN, sR0] := by
      unfold kd
      rw [if_neg (by decide), if_pos rfl]
      split
      · simp [mkT]
      · simp
    have := tab_I0 _ k2 _ h6
    rw [k1]
    omega
  | node x y =>
    have hne : mkT (.node x y) 2 false ≠ [] := by
      intro e
      have := congrArg List.length e
      rw [mkT_len] at this
      simp [Tr.c] at this
    obtain ⟨m, Y, hY⟩ : ∃ m Y, mkT (.node x y) 2 false = m :: Y := by
      cases hq : mkT (.node x y) 2 false with
      | nil => exact absurd hq hne
      | cons m Y => exact ⟨m, Y, rfl⟩
    have hm : m.1 = 2 := mkT_2 (.node x y) m (by rw [hY]; simp)
    have k1 : kd (2, (Tr.node x y).isLeaf) (mkT (.node x y) 2 false ++ [((1 : Int), d.isLeaf)] ++ mkT d 1 false) = sIR := by simp [kd, Tr.isLeaf]
    have k2 : kd (1, false) (mkT (.node x y) 2 false ++ [((1 : Int), d.isLeaf)] ++ mkT d 1 false) = sRI := by
      rw [hY]
      simp [kd, notR, hm]
    have := tab_IR _ h6
    rw [k1, k2]
    omega

end Go.AI
