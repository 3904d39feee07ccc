/- Contracts: forests. -/
import Derived.Test.YtmoodcnoncipiaaGO
import Derived.Test.YtmoodcnoncipiaaCT
import Derived.Test.YtmoodcnoncipiaaCR
import Derived.Test.YtmoodcnoncipiaaCU
import Derived.Test.YtmoodcnoncipiaaCV
set_option autoImplicit false
set_option maxRecDepth 100000
set_option linter.unusedVariables false
namespace Go.AI
open Go.Proofs

/-! ### Loops that may be left -/

theorem loop_ret {α : Type} {P : Program} {np : Nat} {c : Code} (s : Nat → α → St) (X : α → St) (R : St) (f : Nat → α → α) (I : Nat → α → Prop) (p : Nat → Bool) (n : Nat)
    (hstep : ∀ i a, i < n → I i a → p i = true → I (i + 1) (f i a) ∧ ∀ e st, LoopSC P np c (s (i + 1) (f i a)) e st → LoopSC P np c (s i a) e st)
    (hret : ∀ i a, i < n → I i a → p i = false → LoopSC P np c (s i a) .ret R)
    (hexit : ∀ a, I n a → LoopSC P np c (s n a) (.exit 0) (X a)) :
    ∀ (m i : Nat) (a : α), i + m = n → I i a →
      ((List.range' i m).all p = true → LoopSC P np c (s i a) (.exit 0) (X (itr f i m a))) ∧ ((List.range' i m).all p = false → LoopSC P np c (s i a) .ret R)
  | 0, i, a, h, hI => by
    have e : i = n := by omega
    subst e
    exact ⟨fun _ => hexit a hI, fun h => by simp at h⟩
  | m + 1, i, a, h, hI => by
    rw [List.range'_succ, List.all_cons]
    cases hp : p i with
    | true =>
      obtain ⟨h1, h2⟩ := hstep i a (by omega) hI hp
      obtain ⟨h3, h4⟩ := loop_ret s X R f I p n hstep hret hexit m (i + 1) (f i a) (by omega) h1
      rw [Bool.true_and]
      exact ⟨fun h => h2 _ _ (h3 h), fun h => h2 _ _ (h4 h)⟩
    | false =>
      rw [Bool.false_and]
      exact ⟨fun h => (by cases h), fun _ => hret i a (by omega) hI hp⟩

theorem all_range' {α : Type} (l : List α) (d : α) (q : α → Bool) : (List.range' 0 l.length).all (fun i => q (l.getD i d)) = l.all q := by
  have h := map_range' l d q
  have e1 : (List.range' 0 l.length).all (fun i => q (l.getD i d)) = ((List.range' 0 l.length).map (fun i => q (l.getD i d))).all id := by rw [List.all_map]; rfl
  rw [e1, h, List.all_map]
  rfl

theorem itr_sum (g : Nat → Nat) : ∀ (m i a : Nat), itr (fun i a => a + g i) i m a = a + ((List.range' i m).map g).sum
  | 0, i, a => by simp [itr]
  | m + 1, i, a => by
    rw [itr, itr_sum g m (i + 1), List.range'_succ, List.map_cons, List.sum_cons, Nat.add_assoc]

theorem gD_map {α β : Type} (f : α → β) (l : List α) (i : Nat) (h : i < l.length) (a : α) (d : β) : List.getD (l.map f) i d = f (l.getD i a) := by
  simp [List.getD_eq_getElem?_getD, List.getElem?_map, List.getElem?_eq_getElem h]

theorem gD_mem {α : Type} {l : List α} {i : Nat} (h : i < l.length) (d : α) : l.getD i d ∈ l := by
  rw [List.getD_eq_getElem?_getD, List.getElem?_eq_getElem h]; exact List.getElem_mem h

theorem sum_le {α : Type} (g : α → Nat) (b : Nat) : ∀ l : List α, (∀ x ∈ l, g x ≤ b) → (l.map g).sum ≤ l.length * b
  | [], _ => by simp
  | x :: l, h => by
    have := sum_le g b l (fun y hy => h y (List.mem_cons_of_mem _ hy))
    have := h x (List.mem_cons_self ..)
    simp only [List.map_cons, List.sum_cons, List.length_cons, Nat.add_mul, Nat.one_mul]
    omega

/-- Texts as they come in. -/
abbrev txs (l : List (List UInt8)) : List ByteArray := l.map bs

theorem txs_ex : ∀ l : List ByteArray, ∃ fs, l = txs fs
  | [] => ⟨[], rfl⟩
  | x :: l => by
    obtain ⟨a, rfl⟩ := bs_ex x
    obtain ⟨fs, rfl⟩ := txs_ex l
    exact ⟨a :: fs, rfl⟩

theorem txs_get (l : List (List UInt8)) (i : Nat) (h : i < l.length) (d : ByteArray) : List.getD (txs l) i d = bs (l.getD i []) := gD_map bs l i h [] d

/-! ### The law's own functions over lists of texts -/

theorem szStringS_SC (fs : List (List UInt8)) (hf : fs.length ≤ 2 ^ 63 - 1) (hs : ∀ a ∈ fs, a.length ≤ 2 ^ 63 - 1) (s : Int) (h0 : 0 ≤ s) (h1 : s ≤ 2 ^ 20) :
    (∃ c : Int, 0 ≤ c ∧ c ≤ s ∧ (fs.length : Int) ≤ s ∧ (∀ a ∈ fs, (a.length : Int) ≤ s) ∧ SC cfg.P i_laws_szStringS [.s (.v (.sl .str) (txs fs)), .s (.v (.int .i64) s)] (.s (.v (.int .i64) c)) []) ∨
    SC cfg.P i_laws_szStringS [.s (.v (.sl .str) (txs fs)), .s (.v (.int .i64) s)] (.s (.v (.int .i64) (-1 : Int))) [] := by
  have hl : List.length (txs fs) = fs.length := List.length_map ..
  have ew : IntKind.wrap .i64 (s - ((List.length (txs fs) : Nat) : Int)) = s - (fs.length : Int) := by rw [hl, w64] <;> omega
  by_cases hlen : s - (fs.length : Int) < 0
  · exact .inr (laws_szStringS_p1 _ _ (by rw [ew]; exact hlen))
  · have key : ∀ (m i : Nat) (c : Int), fs.length - i = m → i ≤ fs.length → 0 ≤ c → c ≤ s →
        (∃ c', 0 ≤ c' ∧ c' ≤ s ∧ (∀ a ∈ fs.drop i, (a.length : Int) ≤ s) ∧ LoopSC cfg.P 2 (lb P_laws_szStringS 0) (laws_szStringS_L0a (txs fs) c (i : Int)) (.exit 0) (laws_szStringS_L0X2 (txs fs) c' (fs.length : Int) false)) ∨
        LoopSC cfg.P 2 (lb P_laws_szStringS 0) (laws_szStringS_L0a (txs fs) c (i : Int)) .ret (laws_szStringS_L0X1 (-1 : Int)) := by
      intro m
      induction m with
      | zero =>
        intro i c hm hi h0 hc
        have e : i = fs.length := by omega
        subst e
        refine .inl ⟨c, h0, hc, ?_, laws_szStringS_L0a_x3 _ _ _ (by omega)⟩
        rw [List.drop_length]
        intro a ha
        cases ha
      | succ m ih =>
        intro i c hm hi h0 hc
        have hi1 : i < fs.length := by omega
        have hg := txs_get fs i hi1 (⟨#[]⟩ : ByteArray)
        have hb := hs _ (gD_mem hi1 [])
        have hd : fs.drop i = fs.getD i [] :: fs.drop (i + 1) := by
          rw [List.drop_eq_getElem_cons hi1, List.getD_eq_getElem?_getD, List.getElem?_eq_getElem hi1]; rfl
        have ec : IntKind.wrap .i64 (c - (((List.getD (txs fs) ((i : Int)).toNat (⟨#[]⟩ : ByteArray))).size : Int)) = c - ((fs.getD i []).length : Int) := by
          rw [Int.toNat_natCast, hg, bs_size, w64] <;> omega
        by_cases h : c - ((fs.getD i []).length : Int) < 0
        · exact .inr (laws_szStringS_L0a_x1 _ _ _ (by omega) (by omega) (by omega) (by rw [ec]; exact h))
        · rcases ih (i + 1) (c - ((fs.getD i []).length : Int)) (by omega) (by omega) (by omega) (by omega) with ⟨c', g1, g2, g3, hn⟩ | hn
          · rw [← wrap_succ (by omega), ← ec] at hn
            refine .inl ⟨c', g1, g2, ?_, laws_szStringS_L0a_i2 _ _ _ (by omega) (by omega) (by omega) (by rw [ec]; exact h) hn⟩
            rw [hd]
            intro a ha
            rcases List.mem_cons.1 ha with rfl | ha
            · omega
            · exact g3 a ha
          · rw [← wrap_succ (by omega), ← ec] at hn
            exact .inr (laws_szStringS_L0a_i2 _ _ _ (by omega) (by omega) (by omega) (by rw [ec]; exact h) hn)
    rcases key fs.length 0 (s - (fs.length : Int)) (by omega) (by omega) (by omega) (by omega) with ⟨c', g1, g2, g3, hL⟩ | hL
    · rw [← ew] at hL
      exact .inl ⟨c', g1, g2, by omega, by simpa using g3, laws_szStringS_p3 _ _ _ _ _ _ (by rw [ew]; omega) hL⟩
    · rw [← ew] at hL
      exact .inr (laws_szStringS_p2 _ _ _ (by rw [ew]; omega) hL)

theorem itr_setR {β : Type} (g : Nat → β) : ∀ (m i : Nat) (l : List β), i + m = l.length → itr (fun i l => l.set i (g i)) i m l = l.take i ++ (List.range' i m).map g
  | 0, i, l, h => by
    have e : i = l.length := by omega
    subst e
    simp [itr]
  | m + 1, i, l, h => by
    rw [itr, itr_setR g m (i + 1) (l.set i (g i)) (by simp; omega), List.range'_succ, List.map_cons]
    have e : (l.set i (g i)).take (i + 1) = l.take i ++ [g i] := by
      apply List.ext_getElem?
      intro j
      rw [List.getElem?_take, List.getElem?_set]
      by_cases h1 : j < i
      · rw [if_pos (by omega), if_neg (by omega), List.getElem?_append_left (by simp; omega), List.getElem?_take, if_pos h1]
      · by_cases h2 : j = i
        · subst h2
          rw [if_pos (by omega), if_pos rfl, if_pos (by omega), List.getElem?_append_right (by simp; omega)]
          simp [Nat.min_eq_left (show j ≤ l.length by omega)]
        · rw [if_neg (by omega), List.getElem?_eq_none (by simp; omega)]
    rw [e, List.append_assoc, List.singleton_append]

theorem toStringS_SC (l : List ByteArray) (hl : l.length ≤ 2 ^ 30) : SC cfg.P i_laws_toStringS [.s (.v (.sl .str) l)] (.s (.own t_string .str l)) [] := by
  have key := loop_up (P := cfg.P) (np := 1) (c := lb P_laws_toStringS 0) (fun i (m : List ByteArray) => laws_toStringS_L0a l (i : Int) m) (fun m => laws_toStringS_L0X1 l (l.length : Int) false m)
    (fun i m => m.set i (l.getD i (⟨#[]⟩ : ByteArray))) (fun _ m => m.length = l.length) l.length
    (fun i m hi hm => ⟨by rw [List.length_set]; exact hm, fun e st hn => by
      rw [← wrap_succ (by omega)] at hn
      exact laws_toStringS_L0a_i1 _ _ _ (by omega) (by omega) (by omega) (by omega) (by omega) hn⟩)
    (fun m hm => laws_toStringS_L0a_x2 _ _ _ (by omega)) l.length 0 (List.replicate l.length (⟨#[]⟩ : ByteArray)) (by omega) (by simp)
  have hL := key.1
  rw [itr_setR (fun i => l.getD i (⟨#[]⟩ : ByteArray)) l.length 0 _ (by simp), List.take_zero, List.nil_append, map_range' l (⟨#[]⟩ : ByteArray) (fun x => x), List.map_id'] at hL
  exact laws_toStringS_p1 _ _ _ _ _ (by omega) (by unfold lim; omega) rfl hL

/-! ### Forests of texts and of trees -/

theorem trLeaf_SC (l : List UInt8) : SC cfg.P i_spec_trLeaf [.s (.v .str (bs l))] (.s (.v .bool (decide (l = [46])))) [] := by
  by_cases h : l = [46]
  · rw [decide_eq_true h, h]; exact spec_trLeaf_p1 _ rfl
  · rw [decide_eq_false h]
    refine spec_trLeaf_p2 _ fun e => h ?_
    have e' : bs l = bs [46] := e
    rwa [bs_inj] at e'

/-- How many carets. -/
def sumC (ts : List Tr) : Nat := (ts.map Tr.c).sum

/-- Without the leaves at the end. -/
def trim : List Tr → List Tr
  | [] => []
  | t :: ts => match trim ts with
    | [] => if t.isLeaf = true then [] else [t]
    | u :: us => t :: u :: us

theorem trim_snoc : ∀ (ts : List Tr) (t : Tr), trim (ts ++ [t]) = if t.isLeaf = true then trim ts else ts ++ [t]
  | [], t => rfl
  | x :: ts, t => by
    rw [List.cons_append, trim, trim_snoc ts t]
    by_cases h : t.isLeaf = true
    · rw [if_pos h, if_pos h, trim]
    · rw [if_neg h, if_neg h]
      cases ts <;> rfl

theorem trim_len : ∀ ts : List Tr, (trim ts).length ≤ ts.length
  | [] => Nat.le_refl _
  | t :: ts => by
    have := trim_len ts
    rw [trim]
    split
    · split <;> simp
    · rename_i u us e
      rw [e] at this
      simp only [List.length_cons] at this ⊢
      omega

theorem trim_prefix : ∀ ts : List Tr, ∃ r : List Tr, ts = trim ts ++ r ∧ ∀ t ∈ r, t.isLeaf = true
  | [] => ⟨[], rfl, fun t h => by cases h⟩
  | t :: ts => by
    obtain ⟨r, e, h⟩ := trim_prefix ts
    rw [trim]
    split
    · rename_i e2
      rw [e2, List.nil_append] at e
      subst e
      split
      · rename_i hl
        exact ⟨t :: ts, rfl, fun u hu => by rcases List.mem_cons.1 hu with rfl | hu; exact hl; exact h u hu⟩
      · exact ⟨ts, rfl, h⟩
    · rename_i u us e2
      rw [e2] at e
      exact ⟨r, by rw [e]; rfl, h⟩

theorem leaf_c {t : Tr} (h : t.isLeaf = true) : t.c = 0 := by cases t <;> simp_all [Tr.isLeaf, Tr.c]

theorem trim_sumC (ts : List Tr) : sumC (trim ts) = sumC ts := by
  obtain ⟨r, e, h⟩ := trim_prefix ts
  have h0 : sumC r = 0 := by
    unfold sumC
    induction r with
    | nil => rfl
    | cons t r ih =>
      rw [List.map_cons, List.sum_cons, leaf_c (h t (List.mem_cons_self ..))]
      have : ∀ (a b : List Tr), (∀ t ∈ a, t.isLeaf = true) → (a.map Tr.c).sum = 0 := by
        intro a b
        induction a with
        | nil => intro _; rfl
        | cons u a ih2 => intro hu; rw [List.map_cons, List.sum_cons, leaf_c (hu u (List.mem_cons_self ..)), ih2 (fun v hv => hu v (List.mem_cons_of_mem _ hv))]
      rw [this r r (fun v hv => h v (List.mem_cons_of_mem _ hv))]
  conv => rhs; rw [e]
  simp only [sumC, List.map_append, List.sum_append] at h0 ⊢
  omega

theorem trim_mem {ts : List Tr} {t : Tr} (h : t ∈ trim ts) : t ∈ ts := by
  obtain ⟨r, e, _⟩ := trim_prefix ts
  rw [e]
  exact List.mem_append_left _ h

theorem snoc_ex {α : Type} : ∀ (l : List α), l ≠ [] → ∃ m x, l = m ++ [x]
  | [], h => absurd rfl h
  | [a], _ => ⟨[], a, rfl⟩
  | a :: b :: l, _ => by
    obtain ⟨m, x, e⟩ := snoc_ex (b :: l) (by simp)
    exact ⟨a :: m, x, by rw [e]; rfl⟩

theorem getD_last {α : Type} (l : List α) (x d : α) : List.getD (l ++ [x]) l.length d = x := by
  simp [List.getD_eq_getElem?_getD]

theorem trimmed_L : ∀ (n : Nat) (ts : List Tr), ts.length = n → n ≤ 2 ^ 30 → LoopSC cfg.P 1 (lb P_impl_forest_trimmed 0) (impl_forest_trimmed_L0a ts) (.exit 0) (impl_forest_trimmed_L0X1 (trim ts) false) := by
  intro n
  induction n with
  | zero =>
    intro ts h _
    have : ts = [] := List.eq_nil_of_length_eq_zero h
    subst this
    exact impl_forest_trimmed_L0a_x3 _ (by simp)
  | succ n ih =>
    intro ts h hn
    obtain ⟨m, x, rfl⟩ := snoc_ex ts (by intro e; subst e; simp at h)
    have hm : m.length = n := by simpa using h
    have ew : IntKind.wrap .i64 (((List.length (m ++ [x]) : Nat) : Int) - 1) = ((m.length : Nat) : Int) := by
      rw [List.length_append, List.length_singleton, w64] <;> omega
    rw [trim_snoc]
    by_cases hl : x.isLeaf = true
    · rw [if_pos hl]
      have hi := ih m hm (by omega)
      have hc : cutL (m ++ [x]) (0 : Int) (IntKind.wrap .i64 (((List.length (m ++ [x]) : Nat) : Int) - 1)) = m := by
        rw [ew]
        simp [cutL]
      rw [← hc] at hi
      exact impl_forest_trimmed_L0a_i1 _ (by rw [h]; omega) (by rw [ew]; omega) (by rw [ew, h]; omega) (by rw [ew, Int.toNat_natCast, getD_last]; exact hl) (by rw [ew, h]; omega) (by rw [hc] at hi ⊢; exact hi)
    · rw [if_neg hl]
      exact impl_forest_trimmed_L0a_x2 _ (by rw [h]; omega) (by rw [ew]; omega) (by rw [ew, h]; omega) (by rw [ew, Int.toNat_natCast, getD_last]; simpa using hl)

theorem trimmed_SC (ts : List Tr) (h : ts.length ≤ 2 ^ 30) : SC cfg.P i_impl_forest_trimmed [.s (.v (.sl .tree) ts)] (.s (.v (.sl .tree) (trim ts))) [] :=
  impl_forest_trimmed_p1 _ _ _ (trimmed_L _ ts rfl h)

theorem fcarets_SC (ts : List Tr) (h : ts.length ≤ 2 ^ 20) (hc : ∀ t ∈ ts, t.c ≤ 2 ^ 20) : SC cfg.P i_impl_forest_carets [.s (.v (.sl .tree) ts)] (.s (.v (.int .i64) ((sumC ts : Nat) : Int))) [] := by
  have key := loop_up (P := cfg.P) (np := 1) (c := lb P_impl_forest_carets 0) (fun i (a : Nat) => impl_forest_carets_L0a (a : Int) ts ((ts.length : Nat) : Int) (i : Int)) (fun a => impl_forest_carets_L0X1 (a : Int) ts ((ts.length : Nat) : Int) (ts.length : Int) false)
    (fun i a => a + (ts.getD i .leaf).c) (fun i a => a ≤ i * 2 ^ 20) ts.length
    (fun i a hi hI => by
      have hb := hc _ (gD_mem hi .leaf)
      refine ⟨by rw [Nat.add_mul]; omega, fun e st hn => ?_⟩
      have hI' : i * 2 ^ 20 ≤ 2 ^ 20 * 2 ^ 20 := Nat.mul_le_mul_right _ (by omega)
      have hs := carets_SC (ts.getD i .leaf) (by omega)
      have ea : IntKind.wrap .i64 ((a : Int) + ((ts.getD i .leaf).c : Int)) = ((a + (ts.getD i .leaf).c : Nat) : Int) := by rw [w64] <;> omega
      rw [← wrap_succ (by omega), ← ea] at hn
      exact impl_forest_carets_L0a_i1 _ _ _ _ _ (by omega) (by omega) (by omega) hs hn)
    (fun a _ => impl_forest_carets_L0a_x2 _ _ _ _ (by omega)) ts.length 0 0 (by omega) (by omega)
  have hL := key.1
  rw [itr_sum (fun i => (ts.getD i .leaf).c), map_range' ts .leaf Tr.c, Nat.zero_add] at hL
  exact impl_forest_carets_p1 _ _ _ _ _ _ hL

/-- The trees of texts. -/
def treesOf (fs : List (List UInt8)) : List Tr := fs.map treeOf

/-- Is it a forest that may be? -/
def isFo (fs : List (List UInt8)) : Bool := decide (fs.length ≤ 8) && fs.all isTree && decide (sumC (treesOf fs) ≤ 8) && decide ((trim (treesOf fs)).length = fs.length)

theorem isFo_spec {fs : List (List UInt8)} (h : isFo fs = true) : fs.length ≤ 8 ∧ (∀ l ∈ fs, isTree l = true) ∧ sumC (treesOf fs) ≤ 8 ∧ trim (treesOf fs) = treesOf fs ∧ fs = (treesOf fs).map txt := by
  simp only [isFo, Bool.and_eq_true, decide_eq_true_eq, List.all_eq_true] at h
  obtain ⟨⟨⟨h1, h2⟩, h3⟩, h4⟩ := h
  refine ⟨h1, h2, h3, ?_, ?_⟩
  · obtain ⟨r, e, _⟩ := trim_prefix (treesOf fs)
    have hl := congrArg List.length e
    rw [List.length_append, h4] at hl
    have : (treesOf fs).length = fs.length := List.length_map ..
    have hr : r = [] := List.eq_nil_of_length_eq_zero (by omega)
    rw [hr, List.append_nil] at e
    exact e.symm
  · rw [treesOf, List.map_map]
    conv => lhs; rw [← List.map_id fs]
    exact List.map_congr_left fun l hl => (treeOf_txt (h2 l hl)).1

theorem treeOf_txt' (t : Tr) (h : t.c ≤ 8) : isTree (txt t) = true ∧ treeOf (txt t) = t := by
  have h1 : isTree (txt t) = true := (isTree_iff _).2 ⟨t, rfl, h⟩
  refine ⟨h1, ?_⟩
  have := (treeOf_txt h1).1
  exact (txt_inj t (treeOf (txt t)) [] [] (by rw [List.append_nil, List.append_nil]; exact this)).1.symm

theorem last_leaf (fs : List (List UInt8)) (l : List UInt8) (h : isTree l = true) : (treeOf l).isLeaf = true ↔ l = [46] := by
  obtain ⟨e, _⟩ := treeOf_txt h
  constructor
  · intro hl
    rw [e]
    generalize treeOf l = t at hl
    cases t with
    | leaf => rfl
    | node _ _ => simp [Tr.isLeaf] at hl
  · intro hl
    rw [hl] at e ⊢
    generalize treeOf [46] = t at e
    cases t with
    | leaf => rfl
    | node _ _ => simp [txt] at e

theorem trim_full (ts : List Tr) (t : Tr) : (trim (ts ++ [t])).length = ts.length + 1 ↔ t.isLeaf = false := by
  rw [trim_snoc]
  by_cases h : t.isLeaf = true
  · rw [if_pos h]
    have := trim_len ts
    constructor
    · intro e; omega
    · intro e; rw [h] at e; cases e
  · rw [if_neg h]
    simp at h
    simp [h]

end Go.AI
