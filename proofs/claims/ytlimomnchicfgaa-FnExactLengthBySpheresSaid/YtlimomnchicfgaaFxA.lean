/- A part of the road: what it proves stands in its last texts. -/
import Derived.Test.YtlimomnchicfgaaCLt
import Derived.Test.YtlimomnchicfgaaCWp
section
/- Lengths by the table, from the right: what a rotation and what an added caret make of them. -/
set_option autoImplicit false
set_option maxRecDepth 100000
set_option linter.unusedVariables false
namespace Go.AI

/-- The kind of a caret, with those behind it. -/
def kd (m : Mk) (r : List Mk) : ByteArray :=
  if m.1 = 0 then sLL else if m.1 = 1 then (if notR r = true then (if (r.getD 0 (0, false)).1 = 2 then sRI else sRN) else sR0) else if m.2 = true then sI0 else sIR

/-- The table's numbers, but for the first carets. -/
def ls : List Mk → List Mk → Int
  | m :: M, n :: N => tabV (kd m M) (kd n N) + ls M N
  | _, _ => 0

theorem ls_cons (m n : Mk) (M N : List Mk) : ls (m :: M) (n :: N) = tabV (kd m M) (kd n N) + ls M N := rfl

theorem kindAt_kd (M : List Mk) (i : Nat) (h0 : 1 ≤ i) (h : i < M.length) : kindAt M i = kd (M[i]) (M.drop (i + 1)) := by
  have hg : M.getD i (0, false) = M[i] := by rw [List.getD_eq_getElem?_getD, List.getElem?_eq_getElem h]; rfl
  have hn : (M.drop (i + 1)).getD 0 (0, false) = M.getD (i + 1) (0, false) := by
    rw [List.getD_eq_getElem?_getD, List.getD_eq_getElem?_getD, List.getElem?_drop, Nat.add_zero]
  unfold kindAt kd
  rw [if_neg (by omega), hg, hn]
  by_cases e : M[i].1 = 1
  · rw [notR_drop M i h, hg, e]
    simp
  · simp only [if_neg e]

theorem itr_ls (M N : List Mk) (h : M.length = N.length) : ∀ (m i : Nat) (a : Int), i + m = M.length → 1 ≤ i →
    itr (fun i a => a + tabV ((kindsL M).getD i ⟨#[]⟩) ((kindsL N).getD i ⟨#[]⟩)) i m a = a + ls (M.drop i) (N.drop i)
  | 0, i, a, hi, h1 => by
    rw [List.drop_eq_nil_of_le (by omega)]
    simp [itr, ls]
  | m + 1, i, a, hi, h1 => by
    have hM : i < M.length := by omega
    have hN : i < N.length := by omega
    rw [itr, itr_ls M N h m (i + 1) _ (by omega) (by omega), kindsL_get M i hM, kindsL_get N i hN, kindAt_kd M i h1 hM, kindAt_kd N i h1 hN,
      List.drop_eq_getElem_cons hM, List.drop_eq_getElem_cons hN, ls_cons]
    omega

theorem lenT_ls (p : Tr × Tr) (h : p.1.c = p.2.c) : lenT p = ls (mkT p.1 0 true).tail (mkT p.2 0 true).tail := by
  have l1 := mkT_len p.1 0 true
  have l2 := mkT_len p.2 0 true
  unfold lenT lenK
  rw [kindsL_length]
  cases hn : (mkT p.1 0 true).length with
  | zero =>
    have e : mkT p.1 0 true = [] := List.length_eq_zero_iff.1 hn
    rw [e]
    rfl
  | succ n =>
    have t0 : tabV ((kindsL (mkT p.1 0 true)).getD 0 ⟨#[]⟩) ((kindsL (mkT p.2 0 true)).getD 0 ⟨#[]⟩) = 0 := by
      rw [kindsL_get _ 0 (by omega), kindsL_get _ 0 (by omega)]
      show tabV sL0 sL0 = 0
      unfold tabV
      rw [if_pos ⟨rfl, rfl⟩]
    rw [itr, itr_ls _ _ (by omega) n 1 _ (by omega) (Nat.le_refl _), t0, List.drop_one, List.drop_one]
    omega

/-! ### Kinds in the table -/

def six : List ByteArray := [sLL, sRI, sRN, sR0, sI0, sIR]

theorem kd_six (m : Mk) (r : List Mk) : kd m r ∈ six := by
  unfold kd six
  split
  · simp
  · split
    · split
      · split <;> simp
      · simp
    · split <;> simp

theorem kd_right (m : Mk) (r : List Mk) (h : m.1 = 1) : kd m r ∈ [sRI, sRN, sR0] := by
  unfold kd
  rw [if_neg (by omega), if_pos h]
  split
  · split <;> simp
  · simp

theorem tab_LR : ∀ x ∈ [sRI, sRN, sR0], ∀ y ∈ six, -1 ≤ tabV x y - tabV sLL y ∧ tabV x y - tabV sLL y ≤ 1 := by decide +kernel
theorem tab_I0 : ∀ x ∈ [sRN, sR0], ∀ y ∈ six, -1 ≤ tabV x y - tabV sI0 y ∧ tabV x y - tabV sI0 y ≤ 1 := by decide +kernel
theorem tab_IR : ∀ y ∈ six, -1 ≤ tabV sRI y - tabV sIR y ∧ tabV sRI y - tabV sIR y ≤ 1 := by decide +kernel
theorem tab_RL : ∀ x ∈ [sRI, sRN, sR0], tabV x sLL = 1 ∧ tabV sLL x = 1 := by decide +kernel
theorem tab_LI : tabV sLL sI0 = 2 ∧ tabV sLL sIR = 2 := by decide +kernel
theorem tab_RI0 : ∀ x ∈ [sRN, sR0], tabV x sI0 = 1 := by decide +kernel
theorem tab_NR : ∀ x ∈ [sLL, sI0, sIR], tabV x sRN = tabV x sR0 := by decide +kernel
theorem tab_pos : ∀ x ∈ six, ∀ y ∈ six, 0 ≤ tabV x y ∧ (tabV x y = 0 → x = sR0 ∧ y = sR0) := by decide +kernel
theorem tab_R00 : tabV sR0 sR0 = 0 := by decide +kernel
theorem tab_sym : ∀ x ∈ six, ∀ y ∈ six, tabV x y = tabV y x := by decide +kernel

theorem kd_left (m : Mk) (r r' : List Mk) (h : m.1 ≠ 1) : kd m r = kd m r' := by
  unfold kd
  split
  · rfl
  · simp only [if_neg h]

theorem kd_zero (m : Mk) (r : List Mk) (h : m.1 = 0) : kd m r = sLL := by unfold kd; rw [if_pos h]

/-- Nothing looks behind it. -/
def sm (m m' : Mk) : Prop := (m.1 = 0 ∧ m'.1 = 0) ∨ (m = m' ∧ m.1 ≠ 1)

theorem sm_kd {m m' : Mk} (h : sm m m') (r r' : List Mk) : kd m r = kd m' r' := by
  rcases h with ⟨h1, h2⟩ | ⟨rfl, h⟩
  · rw [kd_zero _ _ h1, kd_zero _ _ h2]
  · exact kd_left _ _ _ h

def Sm : List Mk → List Mk → Prop
  | [], [] => True
  | m :: P, m' :: P' => sm m m' ∧ Sm P P'
  | _, _ => False

theorem Sm.length : ∀ {P P' : List Mk}, Sm P P' → P.length = P'.length
  | [], [], _ => rfl
  | _ :: _, _ :: _, h => by simp only [List.length_cons, h.2.length]

theorem Sm.append : ∀ {P P' Q Q' : List Mk}, Sm P P' → Sm Q Q' → Sm (P ++ Q) (P' ++ Q')
  | [], [], _, _, _, h => h
  | _ :: _, _ :: _, _, _, h, h' => ⟨h.1, h.2.append h'⟩

theorem Sm.tail : ∀ {P P' : List Mk}, Sm P P' → Sm P.tail P'.tail
  | [], [], _ => trivial
  | _ :: _, _ :: _, h => h.2

theorem Sm.refl : ∀ {P : List Mk}, (∀ m ∈ P, m.1 ≠ 1) → Sm P P
  | [], _ => trivial
  | m :: P, h => ⟨.inr ⟨rfl, h m (by simp)⟩, Sm.refl fun x hx => h x (by simp [hx])⟩

theorem ls_pre : ∀ {P P' : List Mk} (N X X' : List Mk), Sm P P' → P.length ≤ N.length → ls (P ++ X) N - ls (P' ++ X') N = ls X (N.drop P.length) - ls X' (N.drop P.length)
  | [], [], N, X, X', _, _ => rfl
  | m :: P, m' :: P', [], X, X', _, h => by simp at h
  | m :: P, m' :: P', n :: N, X, X', h, hl => by
    have := ls_pre N X X' h.2 (by simpa using hl)
    simp only [List.cons_append, ls_cons, List.length_cons, List.drop_succ_cons]
    rw [sm_kd h.1 (P ++ X) (P' ++ X')]
    omega

/-! ### Marks -/

theorem mkT_no1 : ∀ (t : Tr) (s : Int), s ≠ 1 → ∀ m ∈ mkT t s false, m.1 ≠ 1
  | .leaf, _, _, m, h => by simp [mkT] at h
  | .node l r, s, hs, m, h => by
    simp only [mkT, List.mem_append, List.mem_cons, List.not_mem_nil, or_false] at h
    have e : (if false = true ∨ s = 1 then (1 : Int) else 2) = 2 := by simp [hs]
    rw [e] at h
    rcases h with (h | h) | h
    · exact mkT_no1 l _ (by split <;> decide) m h
    · subst h; exact hs
    · exact mkT_no1 r _ (by decide) m h

theorem mkT_2 : ∀ (t : Tr), ∀ m ∈ mkT t 2 false, m.1 = 2
  | .leaf, m, h => by simp [mkT] at h
  | .node l r, m, h => by
    simp only [mkT, List.mem_append, List.mem_cons, List.not_mem_nil, or_false] at h
    have e : (if false = true ∨ (2 : Int) = 1 then (1 : Int) else 2) = 2 := by decide
    have e0 : (if (2 : Int) = 0 then (0 : Int) else 2) = 2 := by decide
    rw [e, e0] at h
    rcases h with (h | h) | h
    · exact mkT_2 l m h
    · subst h; rfl
    · exact mkT_2 r m h

theorem mk_root (l r : Tr) : mkT (.node l r) 0 true = mkT l 0 false ++ [((0 : Int), r.isLeaf)] ++ mkT r 1 false := by
  simp [mkT]
theorem mk_left (l r : Tr) : mkT (.node l r) 0 false = mkT l 0 false ++ [((0 : Int), r.isLeaf)] ++ mkT r 2 false := by
  simp [mkT]
theorem mk_right (l r : Tr) : mkT (.node l r) 1 false = mkT l 2 false ++ [((1 : Int), r.isLeaf)] ++ mkT r 1 false := by
  simp [mkT]
theorem mk_in (l r : Tr) : mkT (.node l r) 2 false = mkT l 2 false ++ [((2 : Int), r.isLeaf)] ++ mkT r 2 false := by
  simp [mkT]

theorem tail_app {α : Type} {P X : List α} (h : P ≠ []) : (P ++ X).tail = P.tail ++ X := by
  cases P with
  | nil => exact absurd rfl h
  | cons a P => rfl

theorem tail3 {α : Type} (A B X : List α) (x : α) : (A ++ [x] ++ B ++ X).tail = (A ++ [x] ++ B).tail ++ X := tail_app (by simp)

theorem Sm.one {m m' : Mk} (h : sm m m') : Sm [m] [m'] := ⟨h, trivial⟩

/-- A rotation at the root. -/
theorem rot0 (a b c T : Tr) (h : (Tr.node a (.node b c)).c = T.c) :
    -1 ≤ lenT (.node a (.node b c), T) - lenT (.node (.node a b) c, T) ∧ lenT (.node a (.node b c), T) - lenT (.node (.node a b) c, T) ≤ 1 := by
  have hl := mkT_len T 0 true
  simp only [Tr.c] at h
  have la := mkT_len a 0 false
  have lb := mkT_len b 2 false
  rw [lenT_ls _ (by simp only [Tr.c]; omega), lenT_ls _ (by simp only [Tr.c]; omega)]
  simp only [mk_root, mk_right, mk_left]
  have e1 : mkT a 0 false ++ [((0 : Int), (Tr.node b c).isLeaf)] ++ (mkT b 2 false ++ [((1 : Int), c.isLeaf)] ++ mkT c 1 false) =
      (mkT a 0 false ++ [((0 : Int), (Tr.node b c).isLeaf)] ++ mkT b 2 false) ++ (((1 : Int), c.isLeaf) :: mkT c 1 false) := by simp
  have e2 : mkT a 0 false ++ [((0 : Int), b.isLeaf)] ++ mkT b 2 false ++ [((0 : Int), c.isLeaf)] ++ mkT c 1 false =
      (mkT a 0 false ++ [((0 : Int), b.isLeaf)] ++ mkT b 2 false) ++ (((0 : Int), c.isLeaf) :: mkT c 1 false) := by simp
  rw [e1, e2, tail3, tail3]
  have hS : Sm (mkT a 0 false ++ [((0 : Int), (Tr.node b c).isLeaf)] ++ mkT b 2 false) (mkT a 0 false ++ [((0 : Int), b.isLeaf)] ++ mkT b 2 false) :=
    ((Sm.refl (mkT_no1 a 0 (by decide))).append (Sm.one (.inl ⟨rfl, rfl⟩))).append (Sm.refl (mkT_no1 b 2 (by decide)))
  have hlen : (mkT a 0 false ++ [((0 : Int), (Tr.node b c).isLeaf)] ++ mkT b 2 false).tail.length = a.c + b.c := by simp; omega
  have hN : (mkT T 0 true).tail.length = T.c - 1 := by simp [hl]
  rw [ls_pre _ _ _ hS.tail (by omega), hlen]
  obtain ⟨n, N, e⟩ : ∃ n N, (mkT T 0 true).tail.drop (a.c + b.c) = n :: N := by
    cases hd : (mkT T 0 true).tail.drop (a.c + b.c) with
    | nil =>
      have := congrArg List.length hd
      rw [List.length_drop, hN] at this
      simp at this
      omega
    | cons n N => exact ⟨n, N, rfl⟩
  rw [e, ls_cons, ls_cons, kd_zero (0, c.isLeaf) _ rfl]
  have := tab_LR _ (kd_right (1, c.isLeaf) (mkT c 1 false) rfl) _ (kd_six n N)
  omega

/-- A rotation at the right side of the root. -/
theorem rot1 (a b c d T : Tr) (h : (Tr.node a (.node b (.node c d))).c = T.c) :
    -1 ≤ lenT (.node a (.node b (.node c d)), T) - lenT (.node a (.node (.node b c) d), T) ∧ lenT (.node a (.node b (.node c d)), T) - lenT (.node a (.node (.node b c) d), T) ≤ 1 := by
  have hl := mkT_len T 0 true
  simp only [Tr.c] at h
  have la := mkT_len a 0 false
  have lb := mkT_len b 2 false
  rw [lenT_ls _ (by simp only [Tr.c]; omega), lenT_ls _ (by simp only [Tr.c]; omega)]
  simp only [mk_root, mk_right, mk_in]
  have f1 : (Tr.node b (.node c d)).isLeaf = false := rfl
  have f2 : (Tr.node (.node b c) d).isLeaf = false := rfl
  have f3 : (Tr.node c d).isLeaf = false := rfl
  rw [f1, f2, f3]
  have e1 : mkT a 0 false ++ [((0 : Int), false)] ++ (mkT b 2 false ++ [((1 : Int), false)] ++ (mkT c 2 false ++ [((1 : Int), d.isLeaf)] ++ mkT d 1 false)) =
      (mkT a 0 false ++ [((0 : Int), false)] ++ mkT b 2 false) ++ (((1 : Int), false) :: (mkT c 2 false ++ [((1 : Int), d.isLeaf)] ++ mkT d 1 false)) := by simp
  have e2 : mkT a 0 false ++ [((0 : Int), false)] ++ (mkT b 2 false ++ [((2 : Int), c.isLeaf)] ++ mkT c 2 false ++ [((1 : Int), d.isLeaf)] ++ mkT d 1 false) =
      (mkT a 0 false ++ [((0 : Int), false)] ++ mkT b 2 false) ++ (((2 : Int), c.isLeaf) :: (mkT c 2 false ++ [((1 : Int), d.isLeaf)] ++ mkT d 1 false)) := by simp
  rw [e1, e2, tail3, tail3]
  have hS : Sm (mkT a 0 false ++ [((0 : Int), false)] ++ mkT b 2 false) (mkT a 0 false ++ [((0 : Int), false)] ++ mkT b 2 false) :=
    ((Sm.refl (mkT_no1 a 0 (by decide))).append (Sm.one (.inl ⟨rfl, rfl⟩))).append (Sm.refl (mkT_no1 b 2 (by decide)))
  have hlen : (mkT a 0 false ++ [((0 : Int), false)] ++ mkT b 2 false).tail.length = a.c + b.c := by simp; omega
  have hN : (mkT T 0 true).tail.length = T.c - 1 := by simp [hl]
  rw [ls_pre _ _ _ hS.tail (by omega), hlen]
  obtain ⟨n, N, e⟩ : ∃ n N, (mkT T 0 true).tail.drop (a.c + b.c) = n :: N := by
    cases hd : (mkT T 0 true).tail.drop (a.c + b.c) with
    | nil =>
      have := congrArg List.length hd
      rw [List.length_drop, hN] at this
      simp at this
      omega
    | cons n N => exact ⟨n, N, rfl⟩
  rw [e, ls_cons, ls_cons]
  have h6 := kd_six n N
  cases c with
  | leaf =>
    have k1 : kd (2, Tr.leaf.isLeaf) (mkT .leaf 2 false ++ [((1 : Int), d.isLeaf)] ++ mkT d 1 false) = sI0 := by simp [kd, Tr.isLeaf]
    have k2 : kd (1, false) (mkT .leaf 2 false ++ [((1 : Int), d.isLeaf)] ++ mkT d 1 false) ∈ [sRN, sR0] := by
      unfold kd
      rw [if_neg (by decide), if_pos rfl]
      split
      · simp [mkT]
      · simp
    have := tab_I0 _ k2 _ h6
    rw [k1]
    omega
  | node x y =>
    have hne : mkT (.node x y) 2 false ≠ [] := by
      intro e
      have := congrArg List.length e
      rw [mkT_len] at this
      simp [Tr.c] at this
    obtain ⟨m, Y, hY⟩ : ∃ m Y, mkT (.node x y) 2 false = m :: Y := by
      cases hq : mkT (.node x y) 2 false with
      | nil => exact absurd hq hne
      | cons m Y => exact ⟨m, Y, rfl⟩
    have hm : m.1 = 2 := mkT_2 (.node x y) m (by rw [hY]; simp)
    have k1 : kd (2, (Tr.node x y).isLeaf) (mkT (.node x y) 2 false ++ [((1 : Int), d.isLeaf)] ++ mkT d 1 false) = sIR := by simp [kd, Tr.isLeaf]
    have k2 : kd (1, false) (mkT (.node x y) 2 false ++ [((1 : Int), d.isLeaf)] ++ mkT d 1 false) = sRI := by
      rw [hY]
      simp [kd, notR, hm]
    have := tab_IR _ h6
    rw [k1, k2]
    omega

end Go.AI
end

section
/- Carets added at a leaf: marks, lengths, exposed carets. -/
set_option autoImplicit false
set_option maxRecDepth 100000
set_option linter.unusedVariables false
namespace Go.AI

/-- A caret in place of a leaf. -/
def addC : Tr → Nat → Tr
  | .leaf, k => if k = 0 then .node .leaf .leaf else .leaf
  | .node l r, k => if k < l.c + 1 then .node (addC l k) r else .node l (addC r (k - (l.c + 1)))

theorem addC_c : ∀ (t : Tr) (k : Nat), k ≤ t.c → (addC t k).c = t.c + 1
  | .leaf, k, h => by
    simp only [Tr.c] at h
    have : k = 0 := by omega
    subst this; rfl
  | .node l r, k, h => by
    simp only [Tr.c] at h
    rw [addC]
    split
    · have := addC_c l k (by omega); simp only [Tr.c]; omega
    · have := addC_c r (k - (l.c + 1)) (by omega); simp only [Tr.c]; omega

theorem addC_leaf (t : Tr) (k : Nat) (h : k ≤ t.c) : (addC t k).isLeaf = false := by
  have := addC_c t k h
  cases e : addC t k with
  | leaf => rw [e] at this; simp [Tr.c] at this
  | node l r => rfl

theorem grow_addC : ∀ (t : Tr) (k n m : Nat), k ≤ t.c → m = n + k → growT (caretAt m) t n = addC t k
  | .leaf, k, n, m, h, e => by
    simp only [Tr.c] at h
    have h0 : k = 0 := by omega
    subst h0
    rw [growT, caretAt_at, if_pos (by omega)]; rfl
  | .node l r, k, n, m, h, e => by
    simp only [Tr.c] at h
    rw [growT, addC]
    by_cases hk : k < l.c + 1
    · rw [if_pos hk, grow_addC l k n m (by omega) e, grow_none (caretAt m) r _ (fun i h1 h2 => by rw [caretAt_at, if_neg (by omega)])]
    · rw [if_neg hk, grow_none (caretAt m) l n (fun i h1 h2 => by rw [caretAt_at, if_neg (by omega)]), grow_addC r (k - (l.c + 1)) (n + (l.c + 1)) m (by omega) (by omega)]

theorem fOf_addC (a b : Tr) (k : Nat) (h : a.c = b.c) (hk : k ≤ a.c) : fOf (addC a k, addC b k) = fOf (a, b) := by
  funext s
  rw [← fOf_grow (caretAt k) a b h s, grow_addC a k 0 k hk (by omega), grow_addC b k 0 k (by omega) (by omega)]

/-- On which side a leaf is. -/
def sdC : Tr → Int → Bool → Nat → Int
  | .leaf, s, _, _ => s
  | .node l r, s, wh, k => if k < l.c + 1 then sdC l (if s = 0 then 0 else 2) false k else sdC r (if wh = true ∨ s = 1 then 1 else 2) false (k - (l.c + 1))

/-- The same, or the last one's flag is down. -/
def lastF (Q Q0 : List Mk) : Prop := Q = Q0 ∨ ∃ Z x, Q0 = Z ++ [(x, true)] ∧ Q = Z ++ [(x, false)]

theorem lastF.app {Q Q0 : List Mk} (A : List Mk) (h : lastF Q Q0) : lastF (A ++ Q) (A ++ Q0) := by
  rcases h with rfl | ⟨Z, x, rfl, rfl⟩
  · exact .inl rfl
  · exact .inr ⟨A ++ Z, x, by rw [List.append_assoc], by rw [List.append_assoc]⟩

theorem ins : ∀ (t : Tr) (s : Int) (wh : Bool) (k : Nat), k ≤ t.c →
    ∃ Q Q0 R, mkT t s wh = Q0 ++ R ∧ mkT (addC t k) s wh = Q ++ (sdC t s wh k, true) :: R ∧ Q0.length = k ∧ lastF Q Q0
  | .leaf, s, wh, k, h => by
    simp only [Tr.c] at h
    have : k = 0 := by omega
    subst this
    exact ⟨[], [], [], rfl, by simp [addC, mkT, sdC, Tr.isLeaf], rfl, .inl rfl⟩
  | .node l r, s, wh, k, h => by
    simp only [Tr.c] at h
    by_cases hk : k < l.c + 1
    · obtain ⟨Q, Q0, R, e1, e2, e3, e4⟩ := ins l (if s = 0 then 0 else 2) false k (by omega)
      refine ⟨Q, Q0, R ++ [(s, r.isLeaf)] ++ mkT r (if wh = true ∨ s = 1 then 1 else 2) false, ?_, ?_, e3, e4⟩
      · rw [mkT, e1]; simp
      · rw [addC, if_pos hk, mkT, e2, sdC, if_pos hk]; simp
    · obtain ⟨Q, Q0, R, e1, e2, e3, e4⟩ := ins r (if wh = true ∨ s = 1 then 1 else 2) false (k - (l.c + 1)) (by omega)
      have hl := mkT_len l (if s = 0 then 0 else 2) false
      have hadd := addC_leaf r (k - (l.c + 1)) (by omega)
      rw [addC, if_neg hk, sdC, if_neg hk, mkT, mkT, hadd, e2, e1]
      cases r with
      | leaf =>
        have e0 : Q0 = [] ∧ R = [] := by
          simp only [mkT] at e1
          exact List.append_eq_nil_iff.1 e1.symm
        obtain ⟨rfl, rfl⟩ := e0
        have hQ : Q = [] := by
          rcases e4 with h | ⟨Z, x, h, _⟩
          · exact h
          · simp at h
        subst hQ
        refine ⟨mkT l (if s = 0 then 0 else 2) false ++ [(s, false)], mkT l (if s = 0 then 0 else 2) false ++ [(s, true)], [], by simp [Tr.isLeaf], by simp, ?_, .inr ⟨_, s, rfl, rfl⟩⟩
        simp only [List.length_append, List.length_singleton, hl]
        simp only [Tr.c] at h
        omega
      | node x y =>
        refine ⟨(mkT l (if s = 0 then 0 else 2) false ++ [(s, false)]) ++ Q, (mkT l (if s = 0 then 0 else 2) false ++ [(s, false)]) ++ Q0, R, by simp [Tr.isLeaf], by simp, ?_, e4.app _⟩
        simp only [List.length_append, List.length_singleton, hl, e3]
        omega

theorem sd2 : ∀ (t : Tr) (k : Nat), sdC t 2 false k = 2
  | .leaf, _ => rfl
  | .node l r, k => by
    rw [sdC]
    have e1 : (if (2 : Int) = 0 then (0 : Int) else 2) = 2 := by decide
    have e2 : (if false = true ∨ (2 : Int) = 1 then (1 : Int) else 2) = 2 := by decide
    rw [e1, e2, sd2 l, sd2 r]
    simp

theorem sd1 : ∀ (t : Tr) (k : Nat), k ≤ t.c → sdC t 1 false k = if k = t.c then 1 else 2
  | .leaf, k, h => by
    simp only [Tr.c] at h
    rw [if_pos (by simp only [Tr.c]; omega)]; rfl
  | .node l r, k, h => by
    simp only [Tr.c] at h
    rw [sdC]
    have e1 : (if (1 : Int) = 0 then (0 : Int) else 2) = 2 := by decide
    have e2 : (if false = true ∨ (1 : Int) = 1 then (1 : Int) else 2) = 1 := by decide
    rw [e1, e2, sd2 l]
    by_cases hk : k < l.c + 1
    · rw [if_pos hk, if_neg (by simp only [Tr.c]; omega)]
    · rw [if_neg hk, sd1 r _ (by omega)]
      by_cases he : k - (l.c + 1) = r.c
      · rw [if_pos he, if_pos (by simp only [Tr.c]; omega)]
      · rw [if_neg he, if_neg (by simp only [Tr.c]; omega)]

theorem sd0 : ∀ (t : Tr) (k : Nat), k ≤ t.c → sdC t 0 false k = if k = 0 then 0 else 2
  | .leaf, k, h => by
    simp only [Tr.c] at h
    rw [if_pos (by omega)]; rfl
  | .node l r, k, h => by
    simp only [Tr.c] at h
    rw [sdC]
    have e1 : (if (0 : Int) = 0 then (0 : Int) else 2) = 0 := by decide
    have e2 : (if false = true ∨ (0 : Int) = 1 then (1 : Int) else 2) = 2 := by decide
    rw [e1, e2, sd2 r]
    by_cases hk : k < l.c + 1
    · rw [if_pos hk, sd0 l k (by omega)]
    · rw [if_neg hk, if_neg (by omega)]

/-- On which side a leaf of a whole tree is. -/
theorem sdT (l r : Tr) (k : Nat) (h : k ≤ (Tr.node l r).c) : sdC (.node l r) 0 true k = if k = 0 then 0 else if k = (Tr.node l r).c then 1 else 2 := by
  simp only [Tr.c] at h
  rw [sdC]
  have e1 : (if (0 : Int) = 0 then (0 : Int) else 2) = 0 := by decide
  have e2 : (if true = true ∨ (0 : Int) = 1 then (1 : Int) else 2) = 1 := by decide
  rw [e1, e2]
  by_cases hk : k < l.c + 1
  · rw [if_pos hk, sd0 l k (by omega)]
    by_cases h0 : k = 0
    · rw [if_pos h0, if_pos h0]
    · rw [if_neg h0, if_neg h0, if_neg (by simp only [Tr.c]; omega)]
  · have h0 : k ≠ 0 := by omega
    rw [if_neg hk, sd1 r _ (by omega), if_neg h0]
    by_cases he : k - (l.c + 1) = r.c
    · rw [if_pos he, if_pos (by simp only [Tr.c]; omega)]
    · rw [if_neg he, if_neg (by simp only [Tr.c]; omega)]

/-! ### Lengths -/

/-- Flags of carets at the sides do not matter. -/
def nrm (m : Mk) : Mk := if m.1 = 0 ∨ m.1 = 1 then (m.1, true) else m

theorem nrm_1 (m : Mk) : (nrm m).1 = m.1 := by unfold nrm; split <;> rfl

theorem notR_nrm (r : List Mk) : notR (r.map nrm) = notR r := by
  unfold notR
  rw [List.any_map]
  congr 1
  funext m
  simp only [Function.comp, nrm_1]

theorem kd_nrm (m : Mk) (r : List Mk) : kd (nrm m) (r.map nrm) = kd m r := by
  have h0 : ((r.map nrm).getD 0 (0, false)).1 = (r.getD 0 (0, false)).1 := by
    cases r with
    | nil => rfl
    | cons x r => exact nrm_1 x
  unfold kd
  rw [nrm_1, notR_nrm, h0]
  by_cases h1 : m.1 = 0
  · rw [if_pos h1, if_pos h1]
  · by_cases h2 : m.1 = 1
    · rw [if_neg h1, if_neg h1, if_pos h2, if_pos h2]
    · have : nrm m = m := by unfold nrm; rw [if_neg (by omega)]
      rw [this]

theorem ls_nrm : ∀ M N : List Mk, ls (M.map nrm) (N.map nrm) = ls M N
  | [], _ => by cases ‹List Mk› <;> rfl
  | _ :: _, [] => rfl
  | m :: M, n :: N => by
    rw [List.map_cons, List.map_cons, ls_cons, ls_cons, kd_nrm, kd_nrm, ls_nrm M N]

theorem notR_app (M X : List Mk) : notR (M ++ X) = (notR M || notR X) := by unfold notR; rw [List.any_append]

theorem kd_app1 (m : Mk) (r : List Mk) : kd m (r ++ [((1 : Int), true)]) = kd m r := by
  have hn : notR (r ++ [((1 : Int), true)]) = notR r := by
    rw [notR_app]
    have : notR [((1 : Int), true)] = false := by decide
    rw [this, Bool.or_false]
  unfold kd
  rw [hn]
  cases r with
  | nil =>
    have : notR ([] : List Mk) = false := rfl
    rw [this]
    simp
  | cons x r => rfl

/-- A caret at the right end of both. -/
theorem ls_app1 : ∀ M N : List Mk, M.length = N.length → ls (M ++ [((1 : Int), true)]) (N ++ [((1 : Int), true)]) = ls M N
  | [], [], _ => by
    show tabV (kd (1, true) []) (kd (1, true) []) + 0 = 0
    have : kd (1, true) [] = sR0 := by decide +kernel
    rw [this, tab_R00]; rfl
  | m :: M, n :: N, h => by
    rw [List.cons_append, List.cons_append, ls_cons, ls_cons, kd_app1, kd_app1, ls_app1 M N (by simpa using h)]

/-- The side of the last caret. -/
theorem last_side : ∀ (l r : Tr) (s : Int) (wh : Bool), (wh = true ∨ s = 1) → (s = 0 ∨ s = 1) → ∀ Z x, mkT (.node l r) s wh = Z ++ [x] → x.1 = 0 ∨ x.1 = 1
  | l, .leaf, s, wh, h, hs, Z, x, e => by
    simp only [mkT, List.append_nil] at e
    have := (List.append_inj' e rfl).2
    simp at this
    rw [← this]
    exact hs
  | l, .node a b, s, wh, h, hs, Z, x, e => by
    rw [mkT, if_pos h] at e
    have hne : mkT (.node a b) 1 false ≠ [] := by
      intro e
      have := congrArg List.length e
      rw [mkT_len] at this
      simp [Tr.c] at this
    obtain ⟨Y, y, hY⟩ : ∃ Y y, mkT (.node a b) 1 false = Y ++ [y] := by
      rcases List.eq_nil_or_concat (mkT (.node a b) 1 false) with h | ⟨Y, y, h⟩
      · exact absurd h hne
      · exact ⟨Y, y, by simpa using h⟩
    rw [hY, ← List.append_assoc] at e
    have := (List.append_inj' e rfl).2
    simp at this
    rw [← this]
    exact last_side a b 1 false (.inr rfl) (.inr rfl) Y y hY

theorem lastF_nrm {Q Q0 : List Mk} (h : lastF Q Q0) (hx : ∀ Z x, Q0 = Z ++ [x] → x.1 = 0 ∨ x.1 = 1) : Q.map nrm = Q0.map nrm := by
  rcases h with rfl | ⟨Z, x, rfl, rfl⟩
  · rfl
  · have := hx Z (x, true) rfl
    simp only at this
    rw [List.map_append, List.map_append, List.map_singleton, List.map_singleton]
    congr 2
    unfold nrm
    rw [if_pos this, if_pos this]

theorem ins_last (l r : Tr) : ∃ Q, mkT (addC (.node l r) (Tr.node l r).c) 0 true = Q ++ [((1 : Int), true)] ∧ Q.map nrm = (mkT (.node l r) 0 true).map nrm ∧ Q.length = (Tr.node l r).c := by
  obtain ⟨Q, Q0, R, e1, e2, e3, e4⟩ := ins (.node l r) 0 true _ (Nat.le_refl _)
  have hl := mkT_len (.node l r) 0 true
  have hR : R = [] := by
    rw [e1, List.length_append, e3] at hl
    exact List.length_eq_zero_iff.1 (by omega)
  subst hR
  rw [List.append_nil] at e1
  rw [sdT l r _ (Nat.le_refl _), if_neg (by simp only [Tr.c]; omega), if_pos rfl] at e2
  have hn := lastF_nrm e4 (fun Z x h => last_side l r 0 true (.inl rfl) (.inl rfl) Z x (by rw [e1, h]))
  refine ⟨Q, e2, by rw [hn, e1], ?_⟩
  have := congrArg List.length hn
  rw [List.length_map, List.length_map] at this
  omega

/-- A caret at the last leaf of both trees. -/
theorem len_last (S T : Tr) (h : S.c = T.c) (h0 : 0 < S.c) : lenT (addC S S.c, addC T T.c) = lenT (S, T) := by
  cases S with
  | leaf => simp [Tr.c] at h0
  | node l r =>
    cases T with
    | leaf => rw [h] at h0; simp [Tr.c] at h0
    | node l' r' =>
      obtain ⟨Q, e1, e2, e3⟩ := ins_last l r
      obtain ⟨P, f1, f2, f3⟩ := ins_last l' r'
      have a1 := addC_c (.node l r) _ (Nat.le_refl _)
      have a2 := addC_c (.node l' r') _ (Nat.le_refl _)
      rw [lenT_ls _ (by simp only; omega), lenT_ls _ h]
      simp only
      rw [e1, f1, tail_app (by intro e; rw [e] at e3; simp at e3; omega), tail_app (by intro e; rw [e] at f3; simp at f3; omega), ls_app1 _ _ (by simp; omega), ← ls_nrm,
        ← ls_nrm (mkT (.node l r) 0 true).tail, List.map_tail, List.map_tail, List.map_tail, List.map_tail, e2, f2]

theorem head_0 : ∀ (t : Tr) (wh : Bool) (m : Mk) (M : List Mk), mkT t 0 wh = m :: M → m.1 = 0
  | .leaf, _, _, _, h => by simp [mkT] at h
  | .node l r, wh, m, M, h => by
    rw [mkT] at h
    have e1 : (if (0 : Int) = 0 then (0 : Int) else 2) = 0 := by decide
    rw [e1] at h
    cases hl : mkT l 0 false with
    | nil =>
      rw [hl] at h
      simp at h
      rw [← h.1]
    | cons x X =>
      rw [hl] at h
      simp at h
      rw [← h.1]
      exact head_0 l false x X hl

/-- A caret at the first leaf, and one more on the right side. -/
theorem len_first (c T : Tr) (h : (Tr.node .leaf c).c = T.c) : lenT (.node .leaf (.node .leaf c), addC T 0) = lenT (.node .leaf c, T) + 1 := by
  have hT : 0 < T.c := by simp only [Tr.c] at h; omega
  have a := addC_c T 0 (by omega)
  cases T with
  | leaf => simp [Tr.c] at hT
  | node l r =>
    obtain ⟨Q, Q0, R, e1, e2, e3, e4⟩ := ins (.node l r) 0 true 0 (by omega)
    have hQ0 : Q0 = [] := List.length_eq_zero_iff.1 e3
    subst hQ0
    have hQ : Q = [] := by
      rcases e4 with h | ⟨Z, x, h, _⟩
      · exact h
      · simp at h
    subst hQ
    rw [List.nil_append] at e1 e2
    rw [lenT_ls _ (by simp only [Tr.c] at h a ⊢; omega), lenT_ls _ h]
    simp only
    rw [e2, e1, mk_root, mk_root, mk_right]
    have hl := mkT_len (.node l r) 0 true
    rw [e1] at hl
    obtain ⟨n, N, hR⟩ : ∃ n N, R = n :: N := by
      cases R with
      | nil => simp only [List.length_nil, Tr.c] at hl; omega
      | cons n N => exact ⟨n, N, rfl⟩
    have hn := head_0 (.node l r) true n N (by rw [e1, hR])
    rw [hR]
    simp only [mkT, List.nil_append, List.tail_cons, List.singleton_append]
    rw [ls_cons, kd_zero n N hn, (tab_RL _ (kd_right (1, c.isLeaf) (mkT c 1 false) rfl)).1]
    omega

theorem kd_one (n y : Mk) (Z : List Mk) (h1 : n.1 = 1) (hn : notR (y :: Z) = true) : kd n (y :: Z) = if y.1 = 2 then sRI else sRN := by
  unfold kd
  rw [if_neg (by omega), if_pos h1, if_pos hn]
  rfl

/-- The ends of two rows, the second one with something put in. -/
theorem ls_mid : ∀ (P Q Q0 : List Mk) (b : Bool) (X Y R : List Mk), (∀ m ∈ P, m.1 ≠ 1 ∧ (m.1 = 0 ∨ m.1 = 2)) → Q0.length = P.length + 1 → lastF Q Q0 →
    ls (P ++ [((0 : Int), b)] ++ Y) (Q ++ ((2 : Int), true) :: R) - ls Y (((2 : Int), true) :: R) = ls (P ++ [((0 : Int), b)] ++ X) (Q0 ++ R) - ls X R
  | [], Q, Q0, b, X, Y, R, _, hl, hf => by
    obtain ⟨n0, e0⟩ : ∃ n0, Q0 = [n0] := List.length_eq_one_iff.1 hl
    subst e0
    obtain ⟨n, e, hn⟩ : ∃ n, Q = [n] ∧ n.1 = n0.1 := by
      rcases hf with rfl | ⟨Z, x, h, rfl⟩
      · exact ⟨n0, rfl, rfl⟩
      · have hZ : Z = [] := by
          have := congrArg List.length h
          simp at this
          exact this
        subst hZ
        simp at h
        exact ⟨_, rfl, by rw [h]⟩
    subst e
    simp only [List.nil_append, List.singleton_append, ls_cons]
    rw [kd_zero (0, b) _ rfl, kd_zero (0, b) _ rfl]
    have : tabV sLL (kd n (((2 : Int), true) :: R)) = tabV sLL (kd n0 R) := by
      by_cases h0 : n.1 = 0
      · rw [kd_zero _ _ h0, kd_zero _ _ (by omega)]
      · by_cases h1 : n.1 = 1
        · rw [(tab_RL _ (kd_right n _ h1)).2, (tab_RL _ (kd_right n0 _ (by omega))).2]
        · have key : ∀ (m : Mk) (r : List Mk), m.1 ≠ 0 → m.1 ≠ 1 → tabV sLL (kd m r) = 2 := fun m r g0 g1 => by
            unfold kd
            rw [if_neg g0, if_neg g1]
            split
            · exact tab_LI.1
            · exact tab_LI.2
          rw [key n _ h0 h1, key n0 _ (by omega) (by omega)]
    omega
  | m :: P, Q, Q0, b, X, Y, R, hP, hl, hf => by
    obtain ⟨n, Q2, Q02, e1, e2, hf2⟩ : ∃ n Q2 Q02, Q = n :: Q2 ∧ Q0 = n :: Q02 ∧ lastF Q2 Q02 := by
      rcases hf with rfl | ⟨Z, x, h1, h2⟩
      · cases Q with
        | nil => simp at hl
        | cons n Q2 => exact ⟨n, Q2, Q2, rfl, rfl, .inl rfl⟩
      · cases Z with
        | nil => rw [h1] at hl; simp at hl
        | cons n Z => exact ⟨n, Z ++ [(x, false)], Z ++ [(x, true)], h2, h1, .inr ⟨Z, x, rfl, rfl⟩⟩
    subst e1; subst e2
    have hl2 : Q02.length = P.length + 1 := by simpa using hl
    have ih := ls_mid P Q2 Q02 b X Y R (fun x hx => hP x (by simp [hx])) hl2 hf2
    simp only [List.cons_append, ls_cons]
    have hm := hP m (by simp)
    rw [kd_left m (P ++ [((0 : Int), b)] ++ Y) (P ++ [((0 : Int), b)] ++ X) hm.1]
    have hk : tabV (kd m (P ++ [((0 : Int), b)] ++ X)) (kd n (Q2 ++ ((2 : Int), true) :: R)) = tabV (kd m (P ++ [((0 : Int), b)] ++ X)) (kd n (Q02 ++ R)) := by
      by_cases h1 : n.1 = 1
      · -- heads
        obtain ⟨y, y0, Y2, Y02, g1, g2, g3, g4⟩ : ∃ y y0 Y2 Y02, Q2 = y :: Y2 ∧ Q02 = y0 :: Y02 ∧ y.1 = y0.1 ∧ lastF (y :: Y2) (y0 :: Y02) := by
          rcases hf2 with rfl | ⟨Z, x, h1, h2⟩
          · cases Q2 with
            | nil => simp at hl2
            | cons y Y2 => exact ⟨y, y, Y2, Y2, rfl, rfl, rfl, .inl rfl⟩
          · cases Z with
            | nil => exact ⟨(x, false), (x, true), [], [], h2, h1, rfl, .inr ⟨[], x, rfl, rfl⟩⟩
            | cons y Z => exact ⟨y, y, Z ++ [(x, false)], Z ++ [(x, true)], h2, h1, rfl, .inr ⟨y :: Z, x, rfl, rfl⟩⟩
        subst g1; subst g2
        have n1 : notR ((y :: Y2) ++ ((2 : Int), true) :: R) = true := by
          rw [notR_app]
          have : notR (((2 : Int), true) :: R) = true := by simp [notR]
          rw [this, Bool.or_true]
        by_cases h2 : y.1 = 2
        · have n0 : notR ((y0 :: Y02) ++ R) = true := by
            have : (y0.1 == 1) = false := beq_f (by omega)
            simp [notR, this]
          have a1 : kd n ((y :: Y2) ++ ((2 : Int), true) :: R) = sRI := by
            rw [List.cons_append] at n1 ⊢; rw [kd_one n y _ h1 n1, if_pos h2]
          have a2 : kd n ((y0 :: Y02) ++ R) = sRI := by
            rw [List.cons_append] at n0 ⊢; rw [kd_one n y0 _ h1 n0, if_pos (by omega)]
          rw [a1, a2]
        · have a1 : kd n ((y :: Y2) ++ ((2 : Int), true) :: R) = sRN := by
            rw [List.cons_append] at n1 ⊢; rw [kd_one n y _ h1 n1, if_neg h2]
          have a2 : kd n ((y0 :: Y02) ++ R) = sRN ∨ kd n ((y0 :: Y02) ++ R) = sR0 := by
            cases hq : notR ((y0 :: Y02) ++ R) with
            | true => rw [List.cons_append] at hq ⊢; rw [kd_one n y0 _ h1 hq, if_neg (by omega)]; exact .inl rfl
            | false => right; unfold kd; rw [if_neg (by omega), if_pos h1, hq]; rfl
          have hx : kd m (P ++ [((0 : Int), b)] ++ X) ∈ [sLL, sI0, sIR] := by
            unfold kd
            by_cases g : m.1 = 0
            · rw [if_pos g]; simp
            · rw [if_neg g, if_neg hm.1]
              split <;> simp
          have := tab_NR _ hx
          rw [a1]
          rcases a2 with a2 | a2 <;> rw [a2]
          exact this
      · rw [kd_left n _ (Q02 ++ R) h1]
    omega

/-- A caret in the midst, and one more on the right side. -/
theorem len_mid (a d T : Tr) (h : (Tr.node a (.node .leaf d)).c = T.c) : lenT (.node a (.node .leaf (.node .leaf d)), addC T (a.c + 1)) = lenT (.node a (.node .leaf d), T) + 1 := by
  have hT : a.c + 1 < T.c := by simp only [Tr.c] at h; omega
  have ha := addC_c T (a.c + 1) (by omega)
  have la := mkT_len a 0 false
  cases T with
  | leaf => simp [Tr.c] at hT
  | node l r =>
    obtain ⟨Q, Q0, R, e1, e2, e3, e4⟩ := ins (.node l r) 0 true (a.c + 1) (by omega)
    rw [sdT l r _ (by omega), if_neg (by omega), if_neg (by omega)] at e2
    rw [lenT_ls _ (by simp only [Tr.c] at h ha ⊢; omega), lenT_ls _ h]
    simp only
    rw [e2, e1, mk_root, mk_root, mk_right, mk_right]
    have f1 : (Tr.node .leaf (.node .leaf d)).isLeaf = false := rfl
    have f2 : (Tr.node .leaf d).isLeaf = false := rfl
    rw [f1, f2]
    have e6 : mkT a 0 false ++ [((0 : Int), false)] ++ (mkT .leaf 2 false ++ [((1 : Int), d.isLeaf)] ++ mkT d 1 false) = mkT a 0 false ++ [((0 : Int), false)] ++ (((1 : Int), d.isLeaf) :: mkT d 1 false) := by
      simp [mkT]
    rw [show mkT a 0 false ++ [((0 : Int), false)] ++ (mkT .leaf 2 false ++ [((1 : Int), false)] ++ (mkT .leaf 2 false ++ [((1 : Int), d.isLeaf)] ++ mkT d 1 false)) = mkT a 0 false ++ [((0 : Int), false)] ++ (((1 : Int), false) :: ((1 : Int), d.isLeaf) :: mkT d 1 false) by simp [mkT], e6]
    -- the end of both
    have hend : ls (((1 : Int), false) :: ((1 : Int), d.isLeaf) :: mkT d 1 false) (((2 : Int), true) :: R) = ls (((1 : Int), d.isLeaf) :: mkT d 1 false) R + 1 := by
      rw [ls_cons]
      have k1 : kd (2, true) R = sI0 := by simp [kd]
      have k2 : kd (1, false) (((1 : Int), d.isLeaf) :: mkT d 1 false) ∈ [sRN, sR0] := by
        unfold kd
        rw [if_neg (by decide), if_pos rfl]
        split
        · simp
        · simp
      rw [k1, tab_RI0 _ k2]
      omega
    have hsides : ∀ m ∈ mkT a 0 false, m.1 ≠ 1 ∧ (m.1 = 0 ∨ m.1 = 2) := fun m hm => by
      have h1 := mkT_no1 a 0 (by decide) m hm
      have h2 := mkT_sides a 0 false (.inl rfl) m hm
      exact ⟨h1, by omega⟩
    cases hA : mkT a 0 false with
    | nil =>
      rw [hA] at la
      have ea : a.c = 0 := by simpa using la.symm
      rw [ea] at e3
      obtain ⟨n0, hq0⟩ : ∃ n0, Q0 = [n0] := List.length_eq_one_iff.1 e3
      subst hq0
      obtain ⟨n, hq⟩ : ∃ n, Q = [n] := by
        rcases e4 with rfl | ⟨Z, x, h, rfl⟩
        · exact ⟨n0, rfl⟩
        · have hZ : Z = [] := by
            have := congrArg List.length h
            simp at this
            exact this
          subst hZ
          exact ⟨_, rfl⟩
      subst hq
      simp only [List.nil_append, List.singleton_append, List.tail_cons]
      exact hend
    | cons m A =>
      rw [hA] at la hsides
      have hl0 : Q0.length = (m :: A).length + 1 := by rw [e3, la]
      obtain ⟨n, Q2, Q02, g1, g2, hf2⟩ : ∃ n Q2 Q02, Q = n :: Q2 ∧ Q0 = n :: Q02 ∧ lastF Q2 Q02 := by
        rcases e4 with rfl | ⟨Z, x, h1, h2⟩
        · cases Q with
          | nil => simp at hl0
          | cons n Q2 => exact ⟨n, Q2, Q2, rfl, rfl, .inl rfl⟩
        · cases Z with
          | nil => rw [h1] at hl0; simp at hl0
          | cons n Z => exact ⟨n, Z ++ [(x, false)], Z ++ [(x, true)], h2, h1, .inr ⟨Z, x, rfl, rfl⟩⟩
      subst g1; subst g2
      have := ls_mid A Q2 Q02 false (((1 : Int), d.isLeaf) :: mkT d 1 false) (((1 : Int), false) :: ((1 : Int), d.isLeaf) :: mkT d 1 false) R (fun x hx => hsides x (by simp [hx])) (by simpa using hl0) hf2
      simp only [List.cons_append, List.tail_cons]
      omega

end Go.AI
end

section
/- A letter in front changes the length by one at most. -/
set_option autoImplicit false
set_option maxRecDepth 100000
set_option linter.unusedVariables false
namespace Go.AI

/-! ### Exposed carets -/

theorem mem_ex (l r : Tr) (j : Nat) : j ∈ exL (.node l r) 0 ↔ (l.isLeaf = true ∧ r.isLeaf = true ∧ j = 0) ∨ j ∈ exL l 0 ∨ ∃ i, i ∈ exL r 0 ∧ j = i + (l.c + 1) := by
  rw [exL_node]
  have hs := exL_shift r 0 (l.c + 1)
  rw [Nat.zero_add] at hs
  have e0 : 0 + l.c + 1 = l.c + 1 := by omega
  rw [e0, hs]
  by_cases hb : l.isLeaf = true ∧ r.isLeaf = true
  · rw [if_pos hb]
    have hl : l = .leaf := by cases l <;> simp_all [Tr.isLeaf]
    have hr : r = .leaf := by cases r <;> simp_all [Tr.isLeaf]
    subst hl; subst hr
    simp [exL, Tr.isLeaf]
  · rw [if_neg hb, List.mem_append, List.mem_map]
    constructor
    · rintro (h | ⟨i, h1, rfl⟩)
      · exact .inr (.inl h)
      · exact .inr (.inr ⟨i, h1, rfl⟩)
    · rintro (⟨h1, h2, _⟩ | h | ⟨i, h1, rfl⟩)
      · exact absurd ⟨h1, h2⟩ hb
      · exact .inl h
      · exact .inr ⟨i, h1, rfl⟩

theorem ex_addC : ∀ (t : Tr) (k j : Nat), k ≤ t.c → j ∈ exL (addC t k) 0 → j = k ∨ (j + 1 < k ∧ j ∈ exL t 0) ∨ (k + 1 < j ∧ j - 1 ∈ exL t 0)
  | .leaf, k, j, h, hj => by
    simp only [Tr.c] at h
    have : k = 0 := by omega
    subst this
    rw [addC, if_pos rfl, mem_ex] at hj
    rcases hj with ⟨_, _, h⟩ | h | ⟨i, h, _⟩
    · exact .inl h
    · simp [exL] at h
    · simp [exL] at h
  | .node l r, k, j, h, hj => by
    simp only [Tr.c] at h
    rw [addC] at hj
    by_cases hk : k < l.c + 1
    · rw [if_pos hk, mem_ex] at hj
      have hc := addC_c l k (by omega)
      rcases hj with ⟨h1, _, _⟩ | h1 | ⟨i, h1, e⟩
      · rw [addC_leaf l k (by omega)] at h1; cases h1
      · rcases ex_addC l k j (by omega) h1 with g | ⟨g1, g2⟩ | ⟨g1, g2⟩
        · exact .inl g
        · exact .inr (.inl ⟨g1, (mem_ex l r j).2 (.inr (.inl g2))⟩)
        · exact .inr (.inr ⟨g1, (mem_ex l r _).2 (.inr (.inl g2))⟩)
      · exact .inr (.inr ⟨by omega, (mem_ex l r _).2 (.inr (.inr ⟨i, h1, by omega⟩))⟩)
    · rw [if_neg hk, mem_ex] at hj
      rcases hj with ⟨_, h1, _⟩ | h1 | ⟨i, h1, e⟩
      · rw [addC_leaf r _ (by omega)] at h1; cases h1
      · have := exL_range l 0 j h1
        exact .inr (.inl ⟨by omega, (mem_ex l r j).2 (.inr (.inl h1))⟩)
      · rcases ex_addC r (k - (l.c + 1)) i (by omega) h1 with g | ⟨g1, g2⟩ | ⟨g1, g2⟩
        · exact .inl (by omega)
        · exact .inr (.inl ⟨by omega, (mem_ex l r j).2 (.inr (.inr ⟨i, g2, e⟩))⟩)
        · exact .inr (.inr ⟨by omega, (mem_ex l r _).2 (.inr (.inr ⟨i - 1, g2, by omega⟩))⟩)

theorem both_nil {p : Tr × Tr} (h : ∀ j, j ∈ exL p.1 0 → j ∈ exL p.2 0 → False) : bothL p = [] := by
  cases hb : bothL p with
  | nil => rfl
  | cons j L =>
    have hm : j ∈ bothL p := by rw [hb]; simp
    exact (h j (bothL_mem hm).1 (bothL_mem hm).2).elim

theorem not_both {p : Tr × Tr} (h : bothL p = []) (j : Nat) (h1 : j ∈ exL p.1 0) (h2 : j ∈ exL p.2 0) : False := by
  have : j ∈ bothL p := by
    unfold bothL
    rw [List.mem_filter]
    exact ⟨h1, by simpa using h2⟩
  rw [h] at this
  cases this

theorem red_lt (p : Tr × Tr) (n : Nat) (hn : 0 < n) (h : bothL p ≠ []) : (red n p).1.c < p.1.c := by
  cases n with
  | zero => omega
  | succ n =>
    rw [red]
    cases hb : bothL p with
    | nil => exact absurd hb h
    | cons k L =>
      have hm : k ∈ bothL p := by rw [hb]; simp
      have hc := wo_c p.1 k (bothL_mem hm).1
      have := (red_c n (wo p.1 k, wo p.2 k)).1
      simp only at this ⊢
      omega

/-! ### Rotations are letters -/

theorem rot0_f (a b c T : Tr) (h : (Tr.node a (.node b c)).c = T.c) (s : St2) : fOf (.node (.node a b) c, T) s = fOf (.node a (.node b c), T) (fOf (genT 0) s) := by
  have e1 : growT [a, b, c] (genT 0).1 0 = .node (.node a b) c := rfl
  have e2 : growT [a, b, c] (genT 0).2 0 = .node a (.node b c) := rfl
  have hg := fOf_grow [a, b, c] (genT 0).1 (genT 0).2 rfl s
  rw [e1, e2] at hg
  have hc := fOf_comp (.node (.node a b) c) (.node a (.node b c)) T (by simp only [Tr.c]; omega) s
  rw [← hc, hg]

theorem rot1_f (a b c d T : Tr) (h : (Tr.node a (.node b (.node c d))).c = T.c) (s : St2) : fOf (.node a (.node (.node b c) d), T) s = fOf (.node a (.node b (.node c d)), T) (fOf (genT 1) s) := by
  have e1 : growT [a, b, c, d] (genT 1).1 0 = .node a (.node (.node b c) d) := rfl
  have e2 : growT [a, b, c, d] (genT 1).2 0 = .node a (.node b (.node c d)) := rfl
  have hg := fOf_grow [a, b, c, d] (genT 1).1 (genT 1).2 rfl s
  rw [e1, e2] at hg
  have hc := fOf_comp (.node a (.node (.node b c) d)) (.node a (.node b (.node c d))) T (by simp only [Tr.c]; omega) s
  rw [← hc, hg]

theorem gen_onto (i : Nat) (t : St2) : ∃ s, fOf (genT i) s = t := by
  have hc := gen_c i
  refine ⟨fOf ((genT i).2, (genT i).1) t, ?_⟩
  exact fOf_inv (genT i).2 (genT i).1 (by omega) t

/-- Two reduced pairs, the second one with a letter in front of the first one. -/
structure Nb (i : Nat) (p q : Tr × Tr) : Prop where
  pe : p.1.c = p.2.c
  qe : q.1.c = q.2.c
  pr : bothL p = []
  qr : bothL q = []
  f : ∀ s, fOf q s = fOf p (fOf (genT i) s)

def near (x y : Int) : Prop := -1 ≤ x - y ∧ x - y ≤ 1

theorem leaf_pair {p : Tr × Tr} (h : p.1.c = p.2.c) (h0 : p.1 = .leaf) : p = (.leaf, .leaf) := by
  have : p.2 = .leaf := by
    rw [h0] at h
    cases h2 : p.2 with
    | leaf => rfl
    | node l r => rw [h2] at h; simp only [Tr.c] at h; omega
  exact Prod.ext h0 this

theorem fOf_id (s : St2) : fOf (.leaf, .leaf) s = s := rfl

/-- From the identity. -/
theorem Nb.one {i : Nat} {p q : Tr × Tr} (h : Nb i p q) (h0 : p.1 = .leaf) (hg : bothL (genT i) = []) : p = (.leaf, .leaf) ∧ q = genT i := by
  have e := leaf_pair h.pe h0
  refine ⟨e, red_unique _ _ h.qe (by have := gen_c i; omega) h.qr hg fun s => ?_⟩
  rw [h.f, e, fOf_id]

theorem Nb.one' {i : Nat} {p q : Tr × Tr} (h : Nb i p q) (h0 : q.1 = .leaf) (hg : bothL ((genT i).2, (genT i).1) = []) : q = (.leaf, .leaf) ∧ p = ((genT i).2, (genT i).1) := by
  have e := leaf_pair h.qe h0
  refine ⟨e, red_unique _ _ h.pe (by have := gen_c i; simp only; omega) h.pr hg fun s => ?_⟩
  obtain ⟨t, rfl⟩ := gen_onto i s
  rw [← h.f, e, fOf_id]
  exact (fOf_inv (genT i).1 (genT i).2 (by have := gen_c i; omega) t).symm

theorem gens : bothL (genT 0) = [] ∧ bothL (genT 1) = [] ∧ bothL ((genT 0).2, (genT 0).1) = [] ∧ bothL ((genT 1).2, (genT 1).1) = [] := by decide +kernel

theorem gens_len : lenT (.leaf, .leaf) = 0 ∧ lenT (genT 0) = 1 ∧ lenT (genT 1) = 1 ∧ lenT ((genT 0).2, (genT 0).1) = 1 ∧ lenT ((genT 1).2, (genT 1).1) = 1 := by decide +kernel

/-- What comes out of the rotated pair. -/
theorem Nb.q_is {i : Nat} {p q : Tr × Tr} (h : Nb i p q) (x : Tr × Tr) (hx : x.1.c = x.2.c) (hf : ∀ s, fOf x s = fOf p (fOf (genT i) s)) : q = red x.1.c x := by
  refine red_unique _ _ h.qe (red_eqc _ _ hx) h.qr (red_done _ _ (Nat.le_refl _)) fun s => ?_
  rw [h.f, fOf_red _ _ hx, hf]

theorem Nb.p_is {i : Nat} {p q : Tr × Tr} (h : Nb i p q) (x : Tr × Tr) (hx : x.1.c = x.2.c) (hf : ∀ s, fOf q s = fOf x (fOf (genT i) s)) : p = red x.1.c x := by
  refine red_unique _ _ h.pe (red_eqc _ _ hx) h.pr (red_done _ _ (Nat.le_refl _)) fun s => ?_
  obtain ⟨t, rfl⟩ := gen_onto i s
  rw [← h.f, fOf_red _ _ hx, ← hf]

theorem red_nil (x : Tr × Tr) (n : Nat) (h : bothL x = []) : red n x = x := by
  cases n with
  | zero => rfl
  | succ n => simp only [red, h]

theorem Nb.len0 {p q : Tr × Tr} (h : Nb 0 p q) : near (lenT p) (lenT q) := by
  obtain ⟨S, T⟩ := p
  have hpe : S.c = T.c := h.pe
  cases S with
  | leaf =>
    obtain ⟨e1, e2⟩ := h.one rfl gens.1
    rw [e1, e2, gens_len.1, gens_len.2.1]
    exact ⟨by omega, by omega⟩
  | node a r =>
    cases r with
    | leaf =>
      -- a caret is added at the last leaf
      have hl := len_last (.node a .leaf) T hpe (by simp only [Tr.c]; omega)
      have eU : addC (.node a .leaf) (Tr.node a .leaf).c = .node a (.node .leaf .leaf) := by
        rw [addC, if_neg (by simp only [Tr.c]; omega)]
        simp only [Tr.c]
        rw [show 1 + a.c + 0 - (a.c + 1) = 0 by omega]; rfl
      have hT := addC_c T T.c (Nat.le_refl _)
      have hc : (Tr.node a (.node .leaf .leaf)).c = (addC T T.c).c := by rw [hT, ← hpe]; simp only [Tr.c] <;> omega
      have hadd := fOf_addC (.node a .leaf) T (Tr.node a .leaf).c hpe (Nat.le_refl _)
      rw [hpe] at hadd
      rw [← hpe, eU] at hadd
      rw [eU] at hl
      have hr : bothL (Tr.node (.node a .leaf) .leaf, addC T T.c) = [] := both_nil fun j h1 h2 => by
        simp only at h1 h2
        rw [mem_ex] at h1
        have h1' : j ∈ exL (.node a .leaf) 0 := by
          rcases h1 with ⟨g, _⟩ | g | ⟨i, g, _⟩
          · cases g
          · exact g
          · simp [exL] at g
        have hrg := exL_range _ _ _ h1'
        rcases ex_addC T T.c j (Nat.le_refl _) h2 with g | ⟨g1, g2⟩ | ⟨g1, g2⟩
        · omega
        · exact not_both h.pr j h1' g2
        · omega
      have hq := h.q_is (Tr.node (.node a .leaf) .leaf, addC T T.c) (by have g := hc; simp only [Tr.c] at g ⊢ <;> omega) (fun s => by rw [rot0_f a .leaf .leaf _ hc, ← hpe, hadd])
      rw [red_nil _ _ hr] at hq
      rw [hq]
      have := rot0 a .leaf .leaf (addC T T.c) hc
      rw [← hpe] at this hl ⊢
      rw [hl] at this
      exact this
    | node b c =>
      have hc : (Tr.node (.node a b) c).c = T.c := by simp only [Tr.c] at hpe ⊢; omega
      have hq := h.q_is (Tr.node (.node a b) c, T) hc (fun s => rot0_f a b c T hpe s)
      by_cases hr : bothL (Tr.node (.node a b) c, T) = []
      · rw [red_nil _ _ hr] at hq
        rw [hq]
        exact rot0 a b c T hpe
      · have hlt := red_lt (Tr.node (.node a b) c, T) (Tr.node (.node a b) c).c (by simp only [Tr.c]; omega) hr
        rw [← hq] at hlt
        simp only at hlt
        obtain ⟨S', T'⟩ := q
        have hqe : S'.c = T'.c := h.qe
        cases S' with
        | leaf =>
          obtain ⟨e1, e2⟩ := h.one' rfl gens.2.2.1
          rw [e1, e2, gens_len.1, gens_len.2.2.2.1]
          exact ⟨by omega, by omega⟩
        | node l c' =>
          cases l with
          | leaf =>
            have hT := addC_c T' 0 (by omega)
            have hc2 : (Tr.node .leaf (.node .leaf c')).c = (addC T' 0).c := by rw [hT, ← hqe]; simp only [Tr.c]; omega
            have hadd := fOf_addC (.node .leaf c') T' 0 hqe (by omega)
            have eU : addC (.node .leaf c') 0 = .node (.node .leaf .leaf) c' := by
              rw [addC, if_pos (by omega)]; rfl
            rw [eU] at hadd
            have hr2 : bothL (Tr.node .leaf (.node .leaf c'), addC T' 0) = [] := both_nil fun j h1 h2 => by
              simp only at h1 h2
              have h1' : 1 ≤ j ∧ (j - 1) ∈ exL (.node .leaf c') 0 := by
                rw [mem_ex] at h1
                rcases h1 with ⟨_, g, _⟩ | g | ⟨i, g, e⟩
                · cases g
                · simp [exL] at g
                · simp only [Tr.c] at e
                  exact ⟨by omega, by rw [show j - 1 = i by omega]; exact g⟩
              rcases ex_addC T' 0 j (by omega) h2 with g | ⟨g1, g2⟩ | ⟨g1, g2⟩
              · omega
              · omega
              · exact not_both h.qr (j - 1) h1'.2 g2
            have hp := h.p_is (Tr.node .leaf (.node .leaf c'), addC T' 0) hc2 (fun s => by rw [← rot0_f .leaf .leaf c' _ hc2, hadd])
            rw [red_nil _ _ hr2] at hp
            rw [hp, len_first c' T' hqe]
            exact ⟨by omega, by omega⟩
          | node a' b' =>
            exfalso
            have hc2 : (Tr.node a' (.node b' c')).c = T'.c := by simp only [Tr.c] at hqe ⊢; omega
            have hp := h.p_is (Tr.node a' (.node b' c'), T') hc2 (fun s => rot0_f a' b' c' T' hc2 s)
            have := (red_c (Tr.node a' (.node b' c')).c (Tr.node a' (.node b' c'), T')).1
            rw [← hp] at this
            simp only [Tr.c] at this hlt
            omega

/-- The first caret of a row of the right side is at the last leaf. -/
theorem ex_left {a r : Tr} {j : Nat} (h : j ∈ exL a 0) : j ∈ exL (.node a r) 0 := (mem_ex a r j).2 (.inr (.inl h))
theorem ex_right {a r : Tr} {i : Nat} (h : i ∈ exL r 0) : i + (a.c + 1) ∈ exL (.node a r) 0 := (mem_ex a r _).2 (.inr (.inr ⟨i, h, rfl⟩))

theorem ex_inv {a r : Tr} {j : Nat} (h : j ∈ exL (.node a r) 0) (hr : r.isLeaf = false) : j ∈ exL a 0 ∨ ∃ i, i ∈ exL r 0 ∧ j = i + (a.c + 1) := by
  rcases (mem_ex a r j).1 h with ⟨_, g, _⟩ | g | g
  · rw [hr] at g; cases g
  · exact .inl g
  · exact .inr g

theorem ex_c2 : ∀ i, i ∈ exL (.node (.node .leaf .leaf) .leaf) 0 → i = 0 := by decide +kernel
theorem ex_c3 : ∀ i, i ∈ exL (.node .leaf (.node .leaf .leaf)) 0 → i = 1 := by decide +kernel

theorem add_end (a : Tr) (k : Nat) (h : k = a.c + 1) : addC (.node a .leaf) k = .node a (.node .leaf .leaf) := by
  rw [addC, if_neg (by omega), show k - (a.c + 1) = 0 by omega]; rfl

theorem Nb.len1 {p q : Tr × Tr} (h : Nb 1 p q) : near (lenT p) (lenT q) := by
  obtain ⟨S, T⟩ := p
  have hpe : S.c = T.c := h.pe
  cases S with
  | leaf =>
    obtain ⟨e1, e2⟩ := h.one rfl gens.2.1
    rw [e1, e2, gens_len.1, gens_len.2.2.1]
    exact ⟨by omega, by omega⟩
  | node a r =>
    cases r with
    | leaf =>
      have hc0 : T.c = a.c + 1 := by simp only [Tr.c] at hpe; omega
      have hT := addC_c T T.c (Nat.le_refl _)
      have hT2 := addC_c (addC T T.c) (T.c + 1) (by omega)
      have eU : addC (.node a .leaf) T.c = .node a (.node .leaf .leaf) := add_end a _ hc0
      have eU2 : addC (.node a (.node .leaf .leaf)) (T.c + 1) = .node a (.node .leaf (.node .leaf .leaf)) := by
        rw [addC, if_neg (by omega), addC, if_neg (by simp only [Tr.c]; omega)]
        simp only [Tr.c]
        rw [show T.c + 1 - (a.c + 1) - (0 + 1) = 0 by omega]; rfl
      have l1 := len_last (.node a .leaf) T hpe (by simp only [Tr.c]; omega)
      rw [hpe, eU] at l1
      have l2 := len_last (.node a (.node .leaf .leaf)) (addC T T.c) (by rw [hT]; simp only [Tr.c]; omega) (by simp only [Tr.c]; omega)
      have ec : (Tr.node a (.node .leaf .leaf)).c = T.c + 1 := by simp only [Tr.c]; omega
      rw [ec, eU2, hT] at l2
      have f1 := fOf_addC (.node a .leaf) T T.c hpe (by omega)
      rw [eU] at f1
      have f2 := fOf_addC (.node a (.node .leaf .leaf)) (addC T T.c) (T.c + 1) (by omega) (by omega)
      rw [eU2] at f2
      have hc : (Tr.node a (.node .leaf (.node .leaf .leaf))).c = (addC (addC T T.c) (T.c + 1)).c := by simp only [Tr.c]; omega
      have hr : bothL (Tr.node a (.node (.node .leaf .leaf) .leaf), addC (addC T T.c) (T.c + 1)) = [] := both_nil fun j h1 h2 => by
        simp only at h1 h2
        have hj : j ∈ exL a 0 ∨ j = T.c := by
          rcases ex_inv h1 rfl with g | ⟨i, g, e⟩
          · exact .inl g
          · have := ex_c2 i g; exact .inr (by omega)
        have hlt : j ∈ exL a 0 → j < a.c := fun g => by have := exL_range _ _ _ g; omega
        rcases ex_addC _ _ j (by omega) h2 with g | ⟨g1, g2⟩ | ⟨g1, g2⟩
        · rcases hj with e | e
          · have := hlt e; omega
          · omega
        · rcases ex_addC _ _ j (by omega) g2 with k | ⟨k1, k2⟩ | ⟨k1, k2⟩
          · omega
          · rcases hj with e | e
            · exact not_both h.pr j (ex_left e) k2
            · omega
          · omega
        · rcases hj with e | e
          · have := hlt e; omega
          · omega
      have hq := h.q_is (Tr.node a (.node (.node .leaf .leaf) .leaf), addC (addC T T.c) (T.c + 1)) (by have g := hc; simp only [Tr.c] at g ⊢ <;> omega) (fun s => by rw [rot1_f a .leaf .leaf .leaf _ hc, f2, f1])
      rw [red_nil _ _ hr] at hq
      have := rot1 a .leaf .leaf .leaf (addC (addC T T.c) (T.c + 1)) hc
      rw [hq]
      rw [l2, l1] at this
      exact this
    | node b r2 =>
      cases r2 with
      | leaf =>
        have hc0 : T.c = a.c + 1 + (b.c + 1) := by simp only [Tr.c] at hpe; omega
        have hT := addC_c T T.c (Nat.le_refl _)
        have eU : addC (.node a (.node b .leaf)) T.c = .node a (.node b (.node .leaf .leaf)) := by
          rw [addC, if_neg (by omega), add_end b _ (by omega)]
        have l1 := len_last (.node a (.node b .leaf)) T hpe (by simp only [Tr.c]; omega)
        rw [hpe, eU] at l1
        have f1 := fOf_addC (.node a (.node b .leaf)) T T.c hpe (by omega)
        rw [eU] at f1
        have hc : (Tr.node a (.node b (.node .leaf .leaf))).c = (addC T T.c).c := by simp only [Tr.c]; omega
        have hr : bothL (Tr.node a (.node (.node b .leaf) .leaf), addC T T.c) = [] := both_nil fun j h1 h2 => by
          simp only at h1 h2
          have hj : j ∈ exL (.node a (.node b .leaf)) 0 := by
            rcases ex_inv h1 rfl with g | ⟨i, g, e⟩
            · exact ex_left g
            · rw [e]
              rcases (mem_ex _ _ i).1 g with ⟨g1, _⟩ | g1 | ⟨_, g1, _⟩
              · cases g1
              · exact ex_right g1
              · simp [exL] at g1
          have hrg := exL_range _ _ _ hj
          simp only [Tr.c] at hrg
          rcases ex_addC _ _ j (by omega) h2 with g | ⟨g1, g2⟩ | ⟨g1, g2⟩
          · omega
          · exact not_both h.pr j hj g2
          · omega
        have hq := h.q_is (Tr.node a (.node (.node b .leaf) .leaf), addC T T.c) (by have g := hc; simp only [Tr.c] at g ⊢ <;> omega) (fun s => by rw [rot1_f a b .leaf .leaf _ hc, f1])
        rw [red_nil _ _ hr] at hq
        have := rot1 a b .leaf .leaf (addC T T.c) hc
        rw [hq]
        rw [l1] at this
        exact this
      | node c d =>
        have hc : (Tr.node a (.node (.node b c) d)).c = T.c := by simp only [Tr.c] at hpe ⊢; omega
        have hq := h.q_is (Tr.node a (.node (.node b c) d), T) hc (fun s => rot1_f a b c d T hpe s)
        by_cases hr : bothL (Tr.node a (.node (.node b c) d), T) = []
        · rw [red_nil _ _ hr] at hq
          rw [hq]
          exact rot1 a b c d T hpe
        · have hlt := red_lt (Tr.node a (.node (.node b c) d), T) (Tr.node a (.node (.node b c) d)).c (by simp only [Tr.c]; omega) hr
          rw [← hq] at hlt
          simp only at hlt
          obtain ⟨S', T'⟩ := q
          have hqe : S'.c = T'.c := h.qe
          cases S' with
          | leaf =>
            obtain ⟨e1, e2⟩ := h.one' rfl gens.2.2.2
            rw [e1, e2, gens_len.1, gens_len.2.2.2.2]
            exact ⟨by omega, by omega⟩
          | node a' r' =>
            cases r' with
            | leaf =>
              have hc0 : T'.c = a'.c + 1 := by simp only [Tr.c] at hqe; omega
              have hT := addC_c T' T'.c (Nat.le_refl _)
              have hT2 := addC_c (addC T' T'.c) T'.c (by omega)
              have eU : addC (.node a' .leaf) T'.c = .node a' (.node .leaf .leaf) := add_end a' _ hc0
              have eU2 : addC (.node a' (.node .leaf .leaf)) T'.c = .node a' (.node (.node .leaf .leaf) .leaf) := by
                rw [addC, if_neg (by omega), addC, if_pos (by simp only [Tr.c]; omega)]
                rw [show T'.c - (a'.c + 1) = 0 by omega]; rfl
              have l1 := len_last (.node a' .leaf) T' hqe (by simp only [Tr.c]; omega)
              rw [hqe, eU] at l1
              have l2 := len_mid a' .leaf (addC T' T'.c) (by rw [hT]; simp only [Tr.c]; omega)
              rw [l1, ← hc0] at l2
              have f1 := fOf_addC (.node a' .leaf) T' T'.c hqe (by omega)
              rw [eU] at f1
              have f2 := fOf_addC (.node a' (.node .leaf .leaf)) (addC T' T'.c) T'.c (by rw [hT]; simp only [Tr.c]; omega) (by simp only [Tr.c]; omega)
              rw [eU2] at f2
              have hc2 : (Tr.node a' (.node .leaf (.node .leaf .leaf))).c = (addC (addC T' T'.c) T'.c).c := by simp only [Tr.c]; omega
              have hr2 : bothL (Tr.node a' (.node .leaf (.node .leaf .leaf)), addC (addC T' T'.c) T'.c) = [] := both_nil fun j h1 h2 => by
                simp only at h1 h2
                have hj : j ∈ exL a' 0 ∨ j = T'.c + 1 := by
                  rcases ex_inv h1 rfl with g | ⟨i, g, e⟩
                  · exact .inl g
                  · have := ex_c3 i g; exact .inr (by omega)
                have hlt : j ∈ exL a' 0 → j < a'.c := fun g => by have := exL_range _ _ _ g; omega
                rcases ex_addC _ _ j (by omega) h2 with g | ⟨g1, g2⟩ | ⟨g1, g2⟩
                · rcases hj with e | e
                  · have := hlt e; omega
                  · omega
                · rcases ex_addC _ _ j (by omega) g2 with k | ⟨k1, k2⟩ | ⟨k1, k2⟩
                  · omega
                  · rcases hj with e | e
                    · exact not_both h.qr j (ex_left e) k2
                    · omega
                  · omega
                · rcases hj with e | e
                  · have := hlt e; omega
                  · omega
              have hp := h.p_is (Tr.node a' (.node .leaf (.node .leaf .leaf)), addC (addC T' T'.c) T'.c) hc2 (fun s => by rw [← rot1_f a' .leaf .leaf .leaf _ hc2, f2, f1])
              rw [red_nil _ _ hr2] at hp
              rw [hp, l2]
              exact ⟨by omega, by omega⟩
            | node l d' =>
              cases l with
              | leaf =>
                have hk : a'.c + 1 ≤ T'.c := by simp only [Tr.c] at hqe; omega
                have hT := addC_c T' (a'.c + 1) hk
                have eU : addC (.node a' (.node .leaf d')) (a'.c + 1) = .node a' (.node (.node .leaf .leaf) d') := by
                  rw [addC, if_neg (by omega), addC, if_pos (by omega), Nat.sub_self]; rfl
                have l1 := len_mid a' d' T' hqe
                have f1 := fOf_addC (.node a' (.node .leaf d')) T' (a'.c + 1) hqe (by omega)
                rw [eU] at f1
                have hc2 : (Tr.node a' (.node .leaf (.node .leaf d'))).c = (addC T' (a'.c + 1)).c := by simp only [Tr.c] at hqe ⊢; omega
                have hr2 : bothL (Tr.node a' (.node .leaf (.node .leaf d')), addC T' (a'.c + 1)) = [] := both_nil fun j h1 h2 => by
                  simp only at h1 h2
                  have hj : (j < a'.c ∧ j ∈ exL (.node a' (.node .leaf d')) 0) ∨ (a'.c + 2 ≤ j ∧ (j - 1) ∈ exL (.node a' (.node .leaf d')) 0) := by
                    rcases ex_inv h1 rfl with g | ⟨i, g, e⟩
                    · have := exL_range _ _ _ g
                      exact .inl ⟨by omega, ex_left g⟩
                    · rcases ex_inv g rfl with k | ⟨i', k, e'⟩
                      · simp [exL] at k
                      · simp only [Tr.c] at e'
                        exact .inr ⟨by omega, by rw [show j - 1 = i' + (a'.c + 1) by omega]; exact ex_right k⟩
                  rcases ex_addC _ _ j hk h2 with g | ⟨g1, g2⟩ | ⟨g1, g2⟩
                  · rcases hj with ⟨e, _⟩ | ⟨e, _⟩ <;> omega
                  · rcases hj with ⟨e, e2⟩ | ⟨e, _⟩
                    · exact not_both h.qr j e2 g2
                    · omega
                  · rcases hj with ⟨e, _⟩ | ⟨e, e2⟩
                    · omega
                    · exact not_both h.qr (j - 1) e2 g2
                have hp := h.p_is (Tr.node a' (.node .leaf (.node .leaf d')), addC T' (a'.c + 1)) hc2 (fun s => by rw [← rot1_f a' .leaf .leaf d' _ hc2, f1])
                rw [red_nil _ _ hr2] at hp
                rw [hp, l1]
                exact ⟨by omega, by omega⟩
              | node b' c' =>
                exfalso
                have hc2 : (Tr.node a' (.node b' (.node c' d'))).c = T'.c := by simp only [Tr.c] at hqe ⊢; omega
                have hp := h.p_is (Tr.node a' (.node b' (.node c' d')), T') hc2 (fun s => rot1_f a' b' c' d' T' hc2 s)
                have := (red_c (Tr.node a' (.node b' (.node c' d'))).c (Tr.node a' (.node b' (.node c' d')), T')).1
                rw [← hp] at this
                simp only [Tr.c] at this hlt
                omega

/-- A letter in front changes the length of a reduced pair by one at most. -/
theorem len_step (p : Tr × Tr) (hp : p.1.c = p.2.c) (hr : bothL p = []) (n : Int) (hn : n = 1 ∨ n = -1 ∨ n = 2 ∨ n = -2) : near (lenT p) (lenT (timesT (letT n) p)) := by
  have hc := let_c n
  have hq := times_eqc (letT n) p (by omega) hp
  have key : ∀ i, letT n = genT i → (∀ {p q : Tr × Tr}, Nb i p q → near (lenT p) (lenT q)) → near (lenT p) (lenT (timesT (letT n) p)) := fun i e hN =>
    hN ⟨hp, hq, hr, times_red _ _, fun s => by rw [fOf_times _ _ (by omega) hp, e]⟩
  have key2 : ∀ i, letT n = ((genT i).2, (genT i).1) → (∀ {p q : Tr × Tr}, Nb i p q → near (lenT p) (lenT q)) → near (lenT p) (lenT (timesT (letT n) p)) := fun i e hN => by
    have := hN (p := timesT (letT n) p) (q := p) ⟨hq, hp, times_red _ _, hr, fun s => by
      rw [fOf_times _ _ (by omega) hp, e, fOf_inv _ _ (by have := gen_c i; omega)]⟩
    exact ⟨by have := this.2; omega, by have := this.1; omega⟩
  rcases hn with rfl | rfl | rfl | rfl
  · exact key 0 rfl Nb.len0
  · exact key2 0 rfl Nb.len0
  · exact key 1 rfl Nb.len1
  · exact key2 1 rfl Nb.len1

end Go.AI
end

section
/- Reduced pairs have few carets for their lengths. -/
set_option autoImplicit false
set_option maxRecDepth 100000
set_option linter.unusedVariables false
namespace Go.AI

/-- The last two carets are on the right side. -/
def R2 (X : List Mk) : Prop := ∃ Z a b, X = Z ++ [a, b] ∧ a.1 = 1 ∧ b.1 = 1

theorem two_ex {α : Type} (X : List α) (h : 2 ≤ X.length) : ∃ Z a b, X = Z ++ [a, b] := by
  obtain ⟨Y, b, rfl⟩ := snoc_ex X (by intro e; rw [e] at h; simp at h)
  obtain ⟨Z, a, rfl⟩ := snoc_ex Y (by intro e; rw [e] at h; simp at h)
  exact ⟨Z, a, b, by simp⟩

theorem R2.app {A B : List Mk} (hB : 2 ≤ B.length) (h : R2 (A ++ B)) : R2 B := by
  obtain ⟨Z, a, b, e, h1, h2⟩ := h
  obtain ⟨Y, u, v, rfl⟩ := two_ex B hB
  rw [← List.append_assoc] at e
  have := (List.append_inj' e rfl).2
  simp at this
  exact ⟨Y, u, v, rfl, by rw [this.1]; exact h1, by rw [this.2]; exact h2⟩

theorem R2.cons {m : Mk} {X : List Mk} (h : R2 X) : R2 (m :: X) := by
  obtain ⟨Z, a, b, rfl, h1, h2⟩ := h
  exact ⟨m :: Z, a, b, rfl, h1, h2⟩

theorem R2_of_all {X : List Mk} (h : 2 ≤ X.length) (ha : ∀ m ∈ X, m.1 = 1) : R2 X := by
  obtain ⟨Z, a, b, rfl⟩ := two_ex X h
  exact ⟨Z, a, b, rfl, ha a (by simp), ha b (by simp)⟩

/-- The last two of a row that ends with one other. -/
theorem R2_snoc {A : List Mk} {a b : Mk} (h : R2 (A ++ [a, b])) : a.1 = 1 ∧ b.1 = 1 := by
  obtain ⟨Z, u, v, e, h1, h2⟩ := h
  have := (List.append_inj' e rfl).2
  simp at this
  rw [this.1, this.2]
  exact ⟨h1, h2⟩

theorem R2_len {X : List Mk} (h : R2 X) : 2 ≤ X.length := by
  obtain ⟨Z, a, b, rfl, _⟩ := h
  simp

theorem R0_sides {m : Mk} {r : List Mk} (h : kd m r = sR0) : m.1 = 1 ∧ ∀ x ∈ r, x.1 = 1 := by
  unfold kd at h
  split at h
  · exact absurd h (by decide)
  · split at h
    · rename_i h1
      split at h
      · split at h
        · exact absurd h (by decide)
        · exact absurd h (by decide)
      · rename_i hn
        refine ⟨h1, fun x hx => ?_⟩
        by_cases e : x.1 = 1
        · exact e
        · exfalso
          apply hn
          unfold notR
          rw [List.any_eq_true]
          exact ⟨x, hx, by simp [e]⟩
    · split at h
      · exact absurd h (by decide)
      · exact absurd h (by decide)

theorem ls_low : ∀ X Y : List Mk, X.length = Y.length → ¬ (R2 X ∧ R2 Y) → (X.length : Int) - 1 ≤ ls X Y
  | [], [], _, _ => by simp [ls]
  | m :: X, n :: Y, h, hR => by
    have hl : X.length = Y.length := by simpa using h
    have ih := ls_low X Y hl fun ⟨h1, h2⟩ => hR ⟨h1.cons, h2.cons⟩
    obtain ⟨t1, t2⟩ := tab_pos _ (kd_six m X) _ (kd_six n Y)
    rw [ls_cons]
    simp only [List.length_cons]
    by_cases h0 : tabV (kd m X) (kd n Y) = 0
    · obtain ⟨e1, e2⟩ := t2 h0
      obtain ⟨a1, a2⟩ := R0_sides e1
      obtain ⟨b1, b2⟩ := R0_sides e2
      cases X with
      | nil =>
        cases Y with
        | nil => simp [ls]; omega
        | cons y Y => simp at hl
      | cons x X =>
        exfalso
        apply hR
        exact ⟨R2_of_all (by simp) (fun z hz => by rcases List.mem_cons.1 hz with e | e
                                                   · rw [e]; exact a1
                                                   · exact a2 z e),
          R2_of_all (by rw [List.length_cons, ← hl]; simp) (fun z hz => by rcases List.mem_cons.1 hz with e | e
                                                                           · rw [e]; exact b1
                                                                           · exact b2 z e)⟩
    · omega

theorem c_zero' {t : Tr} (h : t.c = 0) : t = .leaf := by
  cases t with
  | leaf => rfl
  | node l r => simp only [Tr.c] at h; omega

theorem ex_r2 : ∀ r : Tr, 2 ≤ r.c → R2 (mkT r 1 false) → (r.c - 1) ∈ exL r 0
  | .leaf, h, _ => by simp [Tr.c] at h
  | .node x y, h, hR => by
    rw [mk_right] at hR
    cases y with
    | leaf =>
      exfalso
      simp only [mkT, List.append_nil] at hR
      cases x with
      | leaf => simp only [Tr.c] at h; omega
      | node u v =>
        obtain ⟨Z, w, hZ⟩ := snoc_ex (mkT (.node u v) 2 false) (by
          intro e
          have := congrArg List.length e
          rw [mkT_len] at this
          simp [Tr.c] at this)
        have hw := mkT_2 (.node u v) w (by rw [hZ]; simp)
        rw [hZ, List.append_assoc] at hR
        have := (R2_snoc hR).1
        omega
    | node u v =>
      have hl := mkT_len (.node u v) 1 false
      by_cases hc : 2 ≤ (Tr.node u v).c
      · have := ex_r2 (.node u v) hc (hR.app (by rw [hl]; exact hc))
        have e : (Tr.node x (.node u v)).c - 1 = ((Tr.node u v).c - 1) + (x.c + 1) := by
          simp only [Tr.c] at hc ⊢; omega
        rw [e]
        exact ex_right this
      · simp only [Tr.c] at hc
        have hu : u = .leaf := c_zero' (by omega)
        have hv : v = .leaf := c_zero' (by omega)
        subst hu; subst hv
        have e : (Tr.node x (.node .leaf .leaf)).c - 1 = 0 + (x.c + 1) := by simp only [Tr.c]; omega
        rw [e]
        exact ex_right (by decide)

theorem ex_R2 (t : Tr) (h : R2 (mkT t 0 true).tail) : (t.c - 1) ∈ exL t 0 := by
  have hlen := R2_len h
  cases t with
  | leaf => simp [mkT] at hlen
  | node l r =>
    rw [mk_root] at h
    rw [tail_app (by simp)] at h
    have hl := mkT_len r 1 false
    have ll := mkT_len l 0 false
    by_cases hc : 2 ≤ r.c
    · have := ex_r2 r hc (h.app (by rw [hl]; exact hc))
      have e : (Tr.node l r).c - 1 = (r.c - 1) + (l.c + 1) := by simp only [Tr.c]; omega
      rw [e]
      exact ex_right this
    · exfalso
      have hh := R2_len h
      simp only [List.length_append, List.length_tail, List.length_singleton, hl, ll] at hh
      have hpos : 0 < l.c := by omega
      have hA : (mkT l 0 false ++ [((0 : Int), r.isLeaf)]).tail = (mkT l 0 false).tail ++ [((0 : Int), r.isLeaf)] := tail_app (by
        intro e; rw [e] at ll; simp at ll; omega)
      rw [hA] at h
      cases r with
      | leaf =>
        simp only [mkT, List.append_nil] at h
        obtain ⟨Z, a, b, e, h1, h2⟩ := h
        have e' : (mkT l 0 false).tail ++ [((0 : Int), Tr.leaf.isLeaf)] = (Z ++ [a]) ++ [b] := by rw [e]; simp
        have := (List.append_inj' e' rfl).2
        simp at this
        rw [← this] at h2
        exact absurd h2 (by decide)
      | node u v =>
        obtain ⟨y, hy⟩ : ∃ y, mkT (.node u v) 1 false = [y] := List.length_eq_one_iff.1 (by rw [hl]; simp only [Tr.c] at hc ⊢; omega)
        rw [hy, List.append_assoc] at h
        have := (R2_snoc h).1
        simp at this

/-- A reduced pair has two carets more than its length at most. -/
theorem len_low (p : Tr × Tr) (hp : p.1.c = p.2.c) (hr : bothL p = []) : (p.1.c : Int) ≤ lenT p + 2 := by
  have l1 := mkT_len p.1 0 true
  have l2 := mkT_len p.2 0 true
  have := ls_low (mkT p.1 0 true).tail (mkT p.2 0 true).tail (by simp; omega) fun ⟨h1, h2⟩ => by
    have g1 := ex_R2 _ h1
    have g2 := ex_R2 _ h2
    rw [← hp] at g2
    exact not_both hr _ g1 g2
  rw [← lenT_ls p hp] at this
  simp only [List.length_tail, l1] at this
  omega

theorem two_trees (t : Tr) (h : t.c = 2) : t = .node (.node .leaf .leaf) .leaf ∨ t = .node .leaf (.node .leaf .leaf) := by
  have key : ∀ u : Tr, u.c = 0 → u = .leaf := fun u hu => by
    cases u with
    | leaf => rfl
    | node l r => simp only [Tr.c] at hu; omega
  have key1 : ∀ u : Tr, u.c = 1 → u = .node .leaf .leaf := fun u hu => by
    cases u with
    | leaf => simp [Tr.c] at hu
    | node l r => simp only [Tr.c] at hu; rw [key l (by omega), key r (by omega)]
  cases t with
  | leaf => simp [Tr.c] at h
  | node l r =>
    simp only [Tr.c] at h
    by_cases hl : l.c = 0
    · rw [key l hl, key1 r (by omega)]; exact .inr rfl
    · rw [key1 l (by omega), key r (by omega)]; exact .inl rfl

/-- The identity alone has length 0. -/
theorem len_zero (p : Tr × Tr) (hp : p.1.c = p.2.c) (hr : bothL p = []) (h : lenT p = 0) : p = (.leaf, .leaf) := by
  have hl := len_low p hp hr
  obtain ⟨S, T⟩ := p
  simp only at hp hl
  have h3 : S.c = 0 ∨ S.c = 1 ∨ S.c = 2 := by omega
  rcases h3 with h3 | h3 | h3
  · have : S = .leaf := by
      cases S with
      | leaf => rfl
      | node l r => simp only [Tr.c] at h3; omega
    exact leaf_pair (p := (S, T)) hp this
  · exfalso
    have key1 : ∀ u : Tr, u.c = 1 → u = .node .leaf .leaf := fun u hu => by
      cases u with
      | leaf => simp [Tr.c] at hu
      | node l r =>
        simp only [Tr.c] at hu
        cases l with
        | leaf =>
          cases r with
          | leaf => rfl
          | node a b => simp only [Tr.c] at hu; omega
        | node a b => simp only [Tr.c] at hu; omega
    rw [key1 S h3, key1 T (by omega)] at hr
    exact absurd hr (by decide)
  · exfalso
    rcases two_trees S h3 with e | e <;> rcases two_trees T (by omega) with f | f <;> rw [e, f] at hr h
    · exact absurd hr (by decide)
    · exact absurd h (by decide +kernel)
    · exact absurd h (by decide +kernel)
    · exact absurd hr (by decide)

end Go.AI
end
