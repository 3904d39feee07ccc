/- The law of WordOfForest. -/
import Derived.Test.YtmoodcnoncipiaaCMw
import Derived.Test.YtmoodcnoncipiaaCQ
import Derived.Test.YtmoodcnoncipiaaCL
set_option autoImplicit false
set_option maxRecDepth 100000
set_option linter.unusedVariables false
namespace Go.AI
open Go.Proofs

/-- How far up over left sides alone each leaf lies. -/
def clT : Tr → Nat → List Nat
  | .leaf, n => [n]
  | .node a b, n => clT a (n + 1) ++ clT b 0

theorem clT_len : ∀ (t : Tr) (n : Nat), (clT t n).length = t.c + 1
  | .leaf, _ => rfl
  | .node a b, n => by simp only [clT, List.length_append, clT_len a, clT_len b, Tr.c]; omega

theorem clT_le : ∀ (t : Tr) (n : Nat), ∀ x ∈ clT t n, x ≤ n + t.c
  | .leaf, n, x, h => by simp [clT] at h; omega
  | .node a b, n, x, h => by
    simp only [clT] at h
    simp only [Tr.c]
    rcases List.mem_append.1 h with h | h
    · have := clT_le a (n + 1) x h; omega
    · have := clT_le b 0 x h; omega

theorem ints_app (l m : List Nat) : ints (l ++ m) = ints l ++ ints m := List.map_append

theorem zokII (l m : List Nat) (h : l.length + m.length ≤ 2 ^ 40) : sizeOK (List.length (ints l) + List.length (ints m)) := by
  unfold sizeOK lim; rw [List.length_map, List.length_map]; exact h

theorem climbs_SC : ∀ (t : Tr) (n : Nat), t.c ≤ 2 ^ 20 → n + t.c ≤ 2 ^ 30 → SC cfg.P i_impl_node_climbs [.s (.v .tree t), .s (.v (.int .i64) (n : Int))] (.s (.own t_int (.int .i64) (ints (clT t n)))) []
  | .leaf, n, _, _ => impl_node_climbs_p1 _
  | .node a b, n, h, hn => by
    simp only [Tr.c] at h hn
    have h1 := climbs_SC a (n + 1) (by omega) (by omega)
    have h2 := climbs_SC b 0 (by omega) (by omega)
    rw [← wrap_succ (by omega)] at h1
    rw [clT, ints_app]
    exact impl_node_climbs_p2 _ _ _ _ _ h1 h2 (zokII _ _ (by rw [clT_len, clT_len]; omega))

theorem wdExp_SC : ∀ (t : Tr) (n : Nat), t.c ≤ 50 → n + t.c ≤ 2 ^ 30 → SC cfg.P i_spec_wdExponents [.s (.v .str (bs (txt t))), .s (.v (.int .i64) (n : Int))] (.s (.own t_int (.int .i64) (ints (clT t n)))) []
  | .leaf, n, _, _ => spec_wdExponents_p1 _ _ trLeaf_leaf
  | .node a b, n, h, hn => by
    have h' := h
    simp only [Tr.c] at h hn
    have h1 := wdExp_SC a (n + 1) (by omega) (by omega)
    have h2 := wdExp_SC b 0 (by omega) (by omega)
    rw [← wrap_succ (by omega)] at h1
    rw [clT, ints_app]
    exact spec_wdExponents_p2 _ _ _ _ _ _ (trLeaf_node a b) (trSides_SC a b h') h1 h2 (zokII _ _ (by rw [clT_len, clT_len]; omega))

/-- The letters of exponents, from a number on. -/
def woR : List Nat → Nat → List Nat
  | [], _ => []
  | n :: r, k => List.replicate n (k + 1) ++ woR r (k + 1)

theorem woR_append : ∀ (l m : List Nat) (k : Nat), woR (l ++ m) k = woR l k ++ woR m (k + l.length)
  | [], m, k => rfl
  | n :: l, m, k => by
    rw [List.cons_append, woR, woR, woR_append l m (k + 1), List.append_assoc, List.length_cons, show k + 1 + l.length = k + (l.length + 1) by omega]

theorem woR_len (b : Nat) : ∀ (l : List Nat) (k : Nat), (∀ n ∈ l, n ≤ b) → (woR l k).length ≤ l.length * b
  | [], k, _ => by simp [woR]
  | n :: l, k, h => by
    have h1 := woR_len b l (k + 1) (fun x hx => h x (List.mem_cons_of_mem _ hx))
    have h2 := h n (List.mem_cons_self ..)
    simp only [woR, List.length_append, List.length_replicate, List.length_cons, Nat.add_mul, Nat.one_mul]
    omega

theorem rep_succ (n k : Nat) : List.replicate (n + 1) k = [k] ++ List.replicate n k := rfl

theorem wordOf_SC (l : List Nat) (hl : l.length ≤ 2 ^ 10) (hb : ∀ n ∈ l, n ≤ 2 ^ 10) : SC cfg.P i_impl_wordOf [.s (.v (.sl (.int .i64)) (ints l))] (.s (.own t_int (.int .i64) (ints (woR l 0)))) [] := by
  have hil : (ints l).length = l.length := List.length_map ..
  have inner : ∀ (k n : Nat), k ≤ 2 ^ 10 → n ≤ 2 ^ 10 → ∀ (m j : Nat) (cur : List Nat), n - j = m → j ≤ n → cur.length ≤ 2 ^ 20 + j →
      LoopSC cfg.P 1 (lb P_impl_wordOf 1) (impl_wordOf_L1a (k : Int) (ints l) ((List.length (ints l) : Nat) : Int) (k : Int) (n : Int) (j : Int) (ints cur)) (.exit 2) (impl_wordOf_L1X1 (k : Int) (ints l) ((List.length (ints l) : Nat) : Int) (k : Int) (n : Int) (n : Int) false (ints (cur ++ List.replicate (n - j) (k + 1)))) := by
    intro k n hk hn m
    induction m with
    | zero =>
      intro j cur hm hj hc
      have e : j = n := by omega
      subst e
      rw [Nat.sub_self, List.replicate_zero, List.append_nil]
      exact impl_wordOf_L1a_x2 _ _ _ _ _ _ _ (by omega)
    | succ m ih =>
      intro j cur hm hj hc
      have ek : IntKind.wrap .i64 ((k : Int) + 1) = ((k + 1 : Nat) : Int) := wrap_succ (by omega)
      have hn' := ih (j + 1) (cur ++ [k + 1]) (by omega) (by omega) (by simp; omega)
      have e1 : ints (cur ++ [k + 1]) = ints cur ++ [IntKind.wrap .i64 ((k : Int) + 1)] := by rw [ints_app, ek]; rfl
      have e2 : n - j = (n - (j + 1)) + 1 := by omega
      rw [e2, rep_succ, ← List.append_assoc]
      rw [e1, ← wrap_succ (i := j) (by omega)] at hn'
      exact impl_wordOf_L1a_i1 _ _ _ _ _ _ _ (by omega) (sizeOK_one (by rw [List.length_map]; omega)) hn'
  have key : ∀ (m i : Nat) (cur : List Nat), l.length - i = m → i ≤ l.length → cur.length ≤ i * 2 ^ 10 →
      LoopSC cfg.P 1 (lb P_impl_wordOf 0) (impl_wordOf_L0a (ints l) ((List.length (ints l) : Nat) : Int) (i : Int) (ints cur)) (.exit 0) (impl_wordOf_L0X1 (ints l) ((List.length (ints l) : Nat) : Int) (l.length : Int) false (ints (cur ++ woR (l.drop i) i))) := by
    intro m
    induction m with
    | zero =>
      intro i cur hm hi hc
      have e : i = l.length := by omega
      subst e
      rw [List.drop_length, woR, List.append_nil]
      exact impl_wordOf_L0a_x2 _ _ _ _ (by omega)
    | succ m ih =>
      intro i cur hm hi hc
      have hi1 : i < l.length := by omega
      have hd : l.drop i = l.getD i 0 :: l.drop (i + 1) := by
        rw [List.drop_eq_getElem_cons hi1, List.getD_eq_getElem?_getD, List.getElem?_eq_getElem hi1]; rfl
      have hb' := hb _ (gD_mem hi1 0)
      have hbig : i * 2 ^ 10 ≤ 2 ^ 10 * 2 ^ 10 := Nat.mul_le_mul_right _ (by omega)
      have hin := inner i (l.getD i 0) (by omega) hb' _ 0 cur rfl (by omega) (by omega)
      rw [Nat.sub_zero] at hin
      have hg : List.getD (ints l) ((i : Int)).toNat (0 : Int) = ((l.getD i 0 : Nat) : Int) := by rw [Int.toNat_natCast]; exact ints_get l i hi1
      have hn := ih (i + 1) (cur ++ List.replicate (l.getD i 0) (i + 1)) (by omega) (by omega) (by rw [List.length_append, List.length_replicate, Nat.add_mul]; omega)
      rw [hd, woR, ← List.append_assoc]
      rw [← hg] at hin
      rw [← wrap_succ (by omega)] at hn
      exact impl_wordOf_L0a_i1 _ _ _ _ _ _ _ _ _ _ _ _ (by omega) (by omega) (by omega) hin hn
  have h0 := key _ 0 [] rfl (by omega) (by simp)
  rw [List.drop_zero, List.nil_append] at h0
  exact impl_wordOf_p1 _ _ _ _ _ _ h0

/-- The exponents of all trees of a forest. -/
def expsL (ts : List Tr) : List Nat := ts.flatMap fun t => clT t 0

theorem expsL_len (ts : List Tr) (b : Nat) (h : ∀ t ∈ ts, t.c ≤ b) : (expsL ts).length ≤ ts.length * (b + 1) := by
  induction ts with
  | nil => simp [expsL]
  | cons t ts ih =>
    have h1 := ih (fun x hx => h x (List.mem_cons_of_mem _ hx))
    have h2 := h t (List.mem_cons_self ..)
    simp only [expsL, List.flatMap_cons, List.length_append, clT_len, List.length_cons] at h1 ⊢
    rw [Nat.add_mul, Nat.one_mul]
    omega

theorem expsL_le (ts : List Tr) (b : Nat) (h : ∀ t ∈ ts, t.c ≤ b) : ∀ n ∈ expsL ts, n ≤ b := by
  intro n hn
  obtain ⟨t, ht, hx⟩ := List.mem_flatMap.1 hn
  have := clT_le t 0 n hx
  have := h t ht
  omega

theorem foWord_SC (ts : List Tr) (hl : ts.length ≤ 8) (hc : ∀ t ∈ ts, t.c ≤ 8) : SC cfg.P i_spec_foWord [.s (.v (.sl .str) (txs (ts.map txt)))] (.s (.own t_int (.int .i64) (ints (woR (expsL ts) 0)))) [] := by
  have hml : (txs (ts.map txt)).length = ts.length := by simp
  have hget : ∀ i, i < ts.length → List.getD (txs (ts.map txt)) ((i : Int)).toNat (⟨#[]⟩ : ByteArray) = bs (txt (ts.getD i .leaf)) := fun i hi => by
    rw [Int.toNat_natCast, txs, List.map_map, gD_map (bs ∘ txt) ts i hi .leaf]; rfl
  -- the innermost loop
  have L2 : ∀ (x9 : List ByteArray) (x10 x11 x17 x18 : Int) (es : List Int) (leaf : Nat), ∀ (a : Nat) (cur : List Nat), a ≤ 2 ^ 10 → cur.length + a ≤ 2 ^ 21 →
      LoopSC cfg.P 1 (lb P_spec_foWord 2) (spec_foWord_L2a (leaf : Int) (a : Int) x9 x10 x11 x17 x18 (ints cur) es) (.exit 4) (spec_foWord_L2X1 (leaf : Int) ((0 : Nat) : Int) x9 x10 x11 x17 x18 false (ints (cur ++ List.replicate a leaf)) es) := by
    intro x9 x10 x11 x17 x18 es leaf a
    induction a with
    | zero =>
      intro cur ha hc
      rw [List.replicate_zero, List.append_nil]
      exact spec_foWord_L2a_x2 _ _ _ _ _ _ _ _ _ (by omega)
    | succ a ih =>
      intro cur ha hc
      have hn := ih (cur ++ [leaf]) (by omega) (by simp; omega)
      have ew : IntKind.wrap .i64 (((a + 1 : Nat) : Int) - 1) = (a : Int) := by rw [w64] <;> omega
      have e1 : ints (cur ++ [leaf]) = ints cur ++ [(leaf : Int)] := by rw [ints_app]; rfl
      rw [rep_succ, ← List.append_assoc]
      rw [e1, ← ew] at hn
      exact spec_foWord_L2a_i1 _ _ _ _ _ _ _ _ _ (by omega) (sizeOK_one (by rw [List.length_map]; omega)) hn
  have L1 : ∀ (x9 : List ByteArray) (x10 x11 : Int) (es : List Nat), es.length ≤ 9 → (∀ n ∈ es, n ≤ 8) → ∀ (m j leaf : Nat) (cur : List Nat), es.length - j = m → j ≤ es.length → leaf ≤ 2 ^ 20 + j → cur.length ≤ 2 ^ 20 + j * 8 →
      LoopSC cfg.P 1 (lb P_spec_foWord 1) (spec_foWord_L1a (leaf : Int) x9 x10 x11 ((List.length (ints es) : Nat) : Int) (j : Int) (ints cur) (ints es)) (.exit 2) (spec_foWord_L1X1 ((leaf + (es.length - j) : Nat) : Int) x9 x10 x11 ((List.length (ints es) : Nat) : Int) (es.length : Int) false (ints (cur ++ woR (es.drop j) leaf)) (ints es)) := by
    intro x9 x10 x11 es hes hb m
    have hil : (ints es).length = es.length := List.length_map ..
    induction m with
    | zero =>
      intro j leaf cur hm hj hlf hcur
      have e : j = es.length := by omega
      subst e
      rw [List.drop_length, woR, List.append_nil, Nat.sub_self, Nat.add_zero]
      exact spec_foWord_L1a_x2 _ _ _ _ _ _ _ _ (by omega)
    | succ m ih =>
      intro j leaf cur hm hj hlf hcur
      have hj1 : j < es.length := by omega
      have hd : es.drop j = es.getD j 0 :: es.drop (j + 1) := by
        rw [List.drop_eq_getElem_cons hj1, List.getD_eq_getElem?_getD, List.getElem?_eq_getElem hj1]; rfl
      have hb' := hb _ (gD_mem hj1 0)
      have hg : List.getD (ints es) ((j : Int)).toNat (0 : Int) = ((es.getD j 0 : Nat) : Int) := by rw [Int.toNat_natCast]; exact ints_get es j hj1
      have hin := L2 x9 x10 x11 ((List.length (ints es) : Nat) : Int) (j : Int) (ints es) (leaf + 1) (es.getD j 0) cur (by omega) (by omega)
      have hn := ih (j + 1) (leaf + 1) (cur ++ List.replicate (es.getD j 0) (leaf + 1)) (by omega) (by omega) (by omega) (by rw [List.length_append, List.length_replicate, Nat.add_mul]; omega)
      rw [hd, woR, ← List.append_assoc]
      rw [← hg, ← wrap_succ (i := leaf) (by omega)] at hin
      rw [show leaf + 1 + (es.length - (j + 1)) = leaf + (es.length - j) by omega, ← wrap_succ (i := j) (by omega), ← wrap_succ (i := leaf) (by omega)] at hn
      exact spec_foWord_L1a_i1 _ _ _ _ _ _ _ _ _ _ _ _ _ _ _ _ _ _ (by omega) (by omega) (by omega) (by omega) hin hn
  have key : ∀ (m i leaf : Nat) (cur : List Nat), ts.length - i = m → i ≤ ts.length → leaf ≤ i * 9 → cur.length ≤ i * 100 →
      ∃ lf', LoopSC cfg.P 1 (lb P_spec_foWord 0) (spec_foWord_L0a (leaf : Int) (txs (ts.map txt)) ((List.length (txs (ts.map txt)) : Nat) : Int) (i : Int) (ints cur)) (.exit 0) (spec_foWord_L0X1 lf' (txs (ts.map txt)) ((List.length (txs (ts.map txt)) : Nat) : Int) (ts.length : Int) false (ints (cur ++ woR (expsL (ts.drop i)) leaf))) := by
    intro m
    induction m with
    | zero =>
      intro i leaf cur hm hi hlf hcur
      have e : i = ts.length := by omega
      subst e
      rw [List.drop_length]
      simp only [expsL, List.flatMap_nil, woR, List.append_nil]
      exact ⟨_, spec_foWord_L0a_x2 _ _ _ _ _ (by omega)⟩
    | succ m ih =>
      intro i leaf cur hm hi hlf hcur
      have hi1 : i < ts.length := by omega
      have hd : ts.drop i = ts.getD i .leaf :: ts.drop (i + 1) := by
        rw [List.drop_eq_getElem_cons hi1, List.getD_eq_getElem?_getD, List.getElem?_eq_getElem hi1]; rfl
      have hc' := hc _ (gD_mem hi1 .leaf)
      have hex := wdExp_SC (ts.getD i .leaf) 0 (by omega) (by omega)
      rw [← hget i hi1] at hex
      have hlen := clT_len (ts.getD i .leaf) 0
      have hcb : ∀ n ∈ clT (ts.getD i .leaf) 0, n ≤ 8 := fun n hn => by have := clT_le _ _ n hn; omega
      have hin := L1 (txs (ts.map txt)) ((List.length (txs (ts.map txt)) : Nat) : Int) (i : Int) (clT (ts.getD i .leaf) 0) (by omega) hcb _ 0 leaf cur rfl (by omega) (by omega) (by omega)
      rw [Nat.sub_zero, List.drop_zero] at hin
      have hwl := woR_len 8 (clT (ts.getD i .leaf) 0) leaf hcb
      have hwl' : (clT (ts.getD i .leaf) 0).length * 8 ≤ 9 * 8 := Nat.mul_le_mul_right _ (by omega)
      obtain ⟨lf', hn⟩ := ih (i + 1) (leaf + (clT (ts.getD i .leaf) 0).length) (cur ++ woR (clT (ts.getD i .leaf) 0) leaf) (by omega) (by omega) (by omega) (by rw [List.length_append]; omega)
      have ee : expsL (ts.drop i) = clT (ts.getD i .leaf) 0 ++ expsL (ts.drop (i + 1)) := by rw [hd, expsL, List.flatMap_cons]; rfl
      rw [ee, woR_append, ← List.append_assoc]
      rw [← wrap_succ (i := i) (by omega)] at hn
      exact ⟨lf', spec_foWord_L0a_i1 _ _ _ _ _ _ _ _ _ _ _ _ _ _ _ (by omega) (by omega) (by omega) hex hin hn⟩
  obtain ⟨lf', h0⟩ := key _ 0 0 [] rfl (by omega) (by omega) (by simp)
  rw [List.drop_zero, List.nil_append] at h0
  exact spec_foWord_p1 _ _ _ _ _ _ _ h0

def wofW (fs : List (List UInt8)) : List Int := ints (woR (expsL (treesOf fs)) 0)
def wofB (fs : List (List UInt8)) : Bool := isFo fs && isWd (wofW fs)
def wofV (fs : List (List UInt8)) : List Int := if wofB fs = true then wofW fs else []

theorem fo_factsW {fs : List (List UInt8)} (h : isFo fs = true) : fs = (treesOf fs).map txt ∧ (treesOf fs).length ≤ 8 ∧ ∀ t ∈ treesOf fs, t.c ≤ 8 := by
  obtain ⟨h1, h2, h3, h4, h5⟩ := isFo_spec h
  have hl : (treesOf fs).length = fs.length := List.length_map ..
  exact ⟨h5, by omega, fun t ht => Nat.le_trans (c_le_sum _ t ht) h3⟩

theorem wof_len {ts : List Tr} (l1 : ts.length ≤ 8) (c1 : ∀ t ∈ ts, t.c ≤ 8) : (expsL ts).length ≤ 72 ∧ (ints (woR (expsL ts) 0)).length ≤ 2 ^ 10 := by
  have h1 := expsL_len ts 8 c1
  have h2 := woR_len 8 (expsL ts) 0 (expsL_le ts 8 c1)
  have h3 : ts.length * (8 + 1) ≤ 8 * 9 := Nat.mul_le_mul_right _ l1
  have h4 : (expsL ts).length * 8 ≤ 72 * 8 := Nat.mul_le_mul_right _ (by omega)
  rw [List.length_map]
  omega

theorem implWof_SC (fs : List (List UInt8)) (hs : ∀ l ∈ fs, l.length ≤ 2 ^ 40) (hfl : fs.length ≤ 2 ^ 40) :
    SC cfg.P i_impl_WordOfForest [.s (.v (.sl .str) (txs fs))] (.tup [.own t_int (.int .i64) (wofV fs), .v .bool (wofB fs)]) [] := by
  obtain ⟨ts, h1, h2⟩ := forestOf_SC fs hs hfl
  cases hf : isFo fs with
  | false =>
    rw [hf] at h2
    have hB : wofB fs = false := by rw [wofB, hf]; rfl
    rw [wofV, hB, if_neg (by simp)]
    exact impl_WordOfForest_p3 _ _ h2
  | true =>
    rw [hf] at h2
    obtain rfl := h1 hf
    obtain ⟨_, l1, c1⟩ := fo_factsW hf
    obtain ⟨e1, e2⟩ := wof_len l1 c1
    have hL : LoopSC cfg.P 1 (lb P_impl_WordOfForest 0) (impl_WordOfForest_L0a (treesOf fs) ((List.length (treesOf fs) : Nat) : Int) (0 : Int) ([] : List Int)) (.exit 0) (impl_WordOfForest_L0X1 (treesOf fs) ((List.length (treesOf fs) : Nat) : Int) ((treesOf fs).length : Int) false (ints (expsL (treesOf fs)))) := by
      have key : ∀ (m i : Nat) (cur : List Nat), (treesOf fs).length - i = m → i ≤ (treesOf fs).length → cur.length ≤ i * 9 →
          LoopSC cfg.P 1 (lb P_impl_WordOfForest 0) (impl_WordOfForest_L0a (treesOf fs) ((List.length (treesOf fs) : Nat) : Int) (i : Int) (ints cur)) (.exit 0) (impl_WordOfForest_L0X1 (treesOf fs) ((List.length (treesOf fs) : Nat) : Int) ((treesOf fs).length : Int) false (ints (cur ++ expsL ((treesOf fs).drop i)))) := by
        intro m
        induction m with
        | zero =>
          intro i cur hm hi hcur
          have e : i = (treesOf fs).length := by omega
          subst e
          rw [List.drop_length]
          simp only [expsL, List.flatMap_nil, List.append_nil]
          exact impl_WordOfForest_L0a_x2 _ _ _ _ (by omega)
        | succ m ih =>
          intro i cur hm hi hcur
          have hi1 : i < (treesOf fs).length := by omega
          have hd : (treesOf fs).drop i = (treesOf fs).getD i .leaf :: (treesOf fs).drop (i + 1) := by
            rw [List.drop_eq_getElem_cons hi1, List.getD_eq_getElem?_getD, List.getElem?_eq_getElem hi1]; rfl
          have hc' := c1 _ (gD_mem hi1 .leaf)
          have hcl := climbs_SC ((treesOf fs).getD i .leaf) 0 (by omega) (by omega)
          have hlen := clT_len ((treesOf fs).getD i .leaf) 0
          have hn := ih (i + 1) (cur ++ clT ((treesOf fs).getD i .leaf) 0) (by omega) (by omega) (by rw [List.length_append]; omega)
          have ee : expsL ((treesOf fs).drop i) = clT ((treesOf fs).getD i .leaf) 0 ++ expsL ((treesOf fs).drop (i + 1)) := by rw [hd, expsL, List.flatMap_cons]; rfl
          rw [ee, ← List.append_assoc]
          rw [ints_app cur, ← wrap_succ (i := i) (by omega)] at hn
          exact impl_WordOfForest_L0a_i1 _ _ _ _ _ (by omega) (by omega) (by omega) hcl (zokII _ _ (by omega)) hn
      have h0 := key _ 0 [] rfl (by omega) (by simp)
      rw [List.drop_zero, List.nil_append] at h0
      exact h0
    have hW := wordOf_SC (expsL (treesOf fs)) (by omega) (fun n hn => by have := expsL_le _ 8 c1 n hn; omega)
    cases hw : isWd (wofW fs) with
    | true =>
      have hB : wofB fs = true := by rw [wofB, hf, hw]; rfl
      rw [wofV, hB, if_pos rfl]
      exact impl_WordOfForest_p1 _ _ _ _ _ _ _ _ _ h2 hL hW (madeWord_SCS _ (by show (ints _).length ≤ _; omega) hw)
    | false =>
      have hB : wofB fs = false := by rw [wofB, hw, Bool.and_false]
      rw [wofV, hB, if_neg (by simp)]
      have hI := isWord_SC (wofW fs) (by show (ints _).length ≤ _; omega)
      rw [hw] at hI
      exact impl_WordOfForest_p2 _ _ _ _ _ _ _ _ _ _ h2 hL hW (impl_madeWord_p2 _ hI)

theorem specWof_SC (fs : List (List UInt8)) (hs : ∀ l ∈ fs, l.length ≤ 2 ^ 40) (hfl : fs.length ≤ 2 ^ 40) :
    SC cfg.P i_spec_WordOfForest [.s (.v (.sl .str) (txs fs))] (.tup [.v (.sl (.int .i64)) (wofV fs), .v .bool (wofB fs)]) [] := by
  have h1 := foGood_SC fs hs hfl
  cases hf : isFo fs with
  | false =>
    rw [hf] at h1
    have hB : wofB fs = false := by rw [wofB, hf]; rfl
    rw [wofV, hB, if_neg (by simp)]
    exact (spec_WordOfForest_p2 _ h1).viewT
  | true =>
    rw [hf] at h1
    obtain ⟨e, l1, c1⟩ := fo_factsW hf
    obtain ⟨e1, e2⟩ := wof_len l1 c1
    have hW := foWord_SC (treesOf fs) l1 c1
    rw [← e] at hW
    have hI := wdGood_SC (wofW fs) (by show (ints _).length ≤ _; omega)
    cases hw : isWd (wofW fs) with
    | true =>
      rw [hw] at hI
      have hB : wofB fs = true := by rw [wofB, hf, hw]; rfl
      rw [wofV, hB, if_pos rfl]
      exact spec_WordOfForest_p1 _ _ _ _ h1 hW (spec_wdIf_p1 _ hI)
    | false =>
      rw [hw] at hI
      have hB : wofB fs = false := by rw [wofB, hw, Bool.and_false]
      rw [wofV, hB, if_neg (by simp)]
      exact spec_WordOfForest_p1 _ _ _ _ h1 hW (spec_wdIf_p2 _ hI).viewT

/-- THE LAW. -/
theorem law_Wof (x : List ByteArray) (hx : x.length ≤ 2 ^ 63 - 1) (hxs : ∀ a ∈ x, a.size ≤ 2 ^ 63 - 1) : SC cfg.P i_laws_FnExactWordOfForest [.s (.v (.sl .str) x)] (.s (.v .bool true)) [] := by
  obtain ⟨fs, rfl⟩ := txs_ex x
  have hsz : ∀ (l : List (List UInt8)), (∀ a ∈ txs l, a.size ≤ 2 ^ 63 - 1) → ∀ a ∈ l, a.length ≤ 2 ^ 63 - 1 := fun l h a ha => h (bs a) (List.mem_map.2 ⟨a, ha, rfl⟩)
  have l1 : (txs fs).length = fs.length := List.length_map ..
  rcases szStringS_SC fs (by omega) (hsz fs hxs) 1048576 (by omega) (by omega) with ⟨c, g1, g2, g3, g4, s1⟩ | s1
  · have hs : ∀ l ∈ fs, l.length ≤ 2 ^ 40 := fun l hl => by have := g4 l hl; omega
    have t1 := toStringS_SC (txs fs) (by omega)
    have e1 := eqStringS_SC (txs fs) (by omega)
    have hS := specWof_SC fs hs (by omega)
    have hI := implWof_SC fs hs (by omega)
    have hv : (wofV fs).length ≤ 2 ^ 10 := by
      rw [wofV]
      split
      · rename_i hB
        rw [wofB, Bool.and_eq_true] at hB
        obtain ⟨_, q1, q2⟩ := fo_factsW hB.1
        exact (wof_len q1 q2).2
      · simp
    have e3 := eqIntS_SC (wofV fs) (by omega)
    have m1 := markStringS_SC (txs fs) (by omega) 1 (by omega) (by omega)
    have m3 := markIntS_SC (wofV fs) (by omega)
    have h3 := heldIntS_SC (wofV fs).length (by omega)
    exact laws_FnExactWordOfForest_p2 _ _ _ _ _ _ _ _ _ _ _ _ _ _ _ _ _ _ s1 (by omega) t1 hS t1 hI e3 (by simp) t1 e1 m1 (by omega) m3 h3 (by omega) rfl t1 hI e3 (by simp) h3 (by omega) rfl
  · exact laws_FnExactWordOfForest_p1 _ _ s1 (by omega)

end Go.AI
