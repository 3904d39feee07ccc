/- The law of ForestsOfPair. -/
import Derived.Test.YtnnbjnmkkfakdaaGI
import Derived.Test.YtnnbjnmkkfakdaaCQ
import Derived.Test.YtnnbjnmkkfakdaaCE
import Derived.Test.YtnnbjnmkkfakdaaCL
set_option autoImplicit false
set_option maxRecDepth 100000
set_option linter.unusedVariables false
namespace Go.AI
open Go.Proofs

/-- What hangs at the left sides of the right side of a tree. -/
def hangT : Tr → List Tr
  | .leaf => []
  | .node l r => l :: hangT r

theorem hangT_len : ∀ t, (hangT t).length ≤ t.c
  | .leaf => Nat.le_refl _
  | .node l r => by have := hangT_len r; simp only [hangT, List.length_cons, Tr.c]; omega

theorem hangT_c : ∀ t, ∀ u ∈ hangT t, u.c ≤ t.c
  | .leaf, u, h => by simp [hangT] at h
  | .node l r, u, h => by
    simp only [Tr.c]
    rcases List.mem_cons.1 h with rfl | h
    · omega
    · have := hangT_c r u h; omega

theorem hanging_SC (t : Tr) (h : t.c ≤ 2 ^ 20) : SC cfg.P i_impl_hanging [.s (.v .tree t)] (.s (.v (.sl .tree) (trim (hangT t)))) [] := by
  have key : ∀ (t : Tr) (cur : List Tr), cur.length + t.c ≤ 2 ^ 30 → LoopSC cfg.P 1 (lb P_impl_hanging 0) (impl_hanging_L0a t cur) (.exit 0) (impl_hanging_L0X1 .leaf false (cur ++ hangT t)) := by
    intro t
    induction t with
    | leaf => intro cur _; rw [hangT, List.append_nil]; exact impl_hanging_L0a_x1 _
    | node l r _ ih =>
      intro cur hc
      simp only [Tr.c] at hc
      have hn := ih (cur ++ [l]) (by rw [List.length_append, List.length_singleton]; omega)
      rw [List.append_assoc, List.singleton_append] at hn
      exact impl_hanging_L0a_i2 _ _ _ (sizeOK_one (by omega)) hn
  have h0 := key t [] (by rw [List.length_nil]; omega)
  rw [List.nil_append] at h0
  have hl := hangT_len t
  exact impl_hanging_p1 _ _ _ _ _ h0 (trimmed_SC _ (by omega))

theorem foHanging_SC (t : Tr) (h : t.c ≤ 50) : SC cfg.P i_spec_foHanging [.s (.v .str (bs (txt t)))] (.s (.own t_string .str (txs ((trim (hangT t)).map txt)))) [] := by
  have key : ∀ (t : Tr) (cur : List Tr), t.c ≤ 50 → cur.length + t.c ≤ 2 ^ 30 → LoopSC cfg.P 1 (lb P_spec_foHanging 0) (spec_foHanging_L0a (bs (txt t)) (txs (cur.map txt))) (.exit 0) (spec_foHanging_L0X1 (bs (txt .leaf)) false (txs ((cur ++ hangT t).map txt))) := by
    intro t
    induction t with
    | leaf => intro cur _ _; rw [hangT, List.append_nil]; exact spec_foHanging_L0a_x1 _ _ trLeaf_leaf
    | node l r _ ih =>
      intro cur ht hc
      have ht' := ht
      simp only [Tr.c] at hc ht
      have hn := ih (cur ++ [l]) (by omega) (by rw [List.length_append, List.length_singleton]; omega)
      rw [List.append_assoc, List.singleton_append] at hn
      have e : txs ((cur ++ [l]).map txt) = txs (cur.map txt) ++ [bs (txt l)] := by simp
      rw [e] at hn
      exact spec_foHanging_L0a_i2 _ _ _ _ (trLeaf_node l r) (trSides_SC l r ht') (sizeOK_one (by simp; omega)) hn
  have h0 := key t [] h (by rw [List.length_nil]; omega)
  rw [List.nil_append] at h0
  have hl := hangT_len t
  exact spec_foHanging_p1 _ _ _ _ _ h0 (wdShort_SC _ (by omega))

def fopR (a b : List UInt8) : Tr × Tr := red (treeOf a).c (treeOf a, treeOf b)
def fopF (a b : List UInt8) : List Tr := trim (hangT (fopR a b).1)
def fopG (a b : List UInt8) : List Tr := trim (hangT (fopR a b).2)
def fopB (a b : List UInt8) : Bool := isPair a b && foOk (fopF a b) && foOk (fopG a b)
def fopV (a b : List UInt8) : List ByteArray := if fopB a b = true then txs (foTexts (fopF a b)) else []
def fopW (a b : List UInt8) : List ByteArray := if fopB a b = true then txs (foTexts (fopG a b)) else []

theorem fop_facts (a b : List UInt8) (h : isPair a b = true) : (fopF a b).length ≤ 8 ∧ (fopG a b).length ≤ 8 ∧ (∀ t ∈ fopF a b, t.c ≤ 8) ∧ (∀ t ∈ fopG a b, t.c ≤ 8) ∧ (fopR a b).1.c ≤ 8 ∧ (fopR a b).2.c ≤ 8 := by
  obtain ⟨a1, a2, a3, a4, a5⟩ := isPair_trees h
  have hr := red_c (treeOf a).c (treeOf a, treeOf b)
  simp only at hr
  have h1 : (fopR a b).1.c ≤ 8 := by show (red _ _).1.c ≤ 8; omega
  have h2 : (fopR a b).2.c ≤ 8 := by show (red _ _).2.c ≤ 8; omega
  have l1 := hangT_len (fopR a b).1
  have l2 := hangT_len (fopR a b).2
  have t1 := trim_len (hangT (fopR a b).1)
  have t2 := trim_len (hangT (fopR a b).2)
  refine ⟨by unfold fopF; omega, by unfold fopG; omega, fun t ht => ?_, fun t ht => ?_, h1, h2⟩
  · have := hangT_c _ _ (trim_mem ht); omega
  · have := hangT_c _ _ (trim_mem ht); omega

theorem implFop_SC (a b : List UInt8) (ha : a.length ≤ 2 ^ 40) (hb : b.length ≤ 2 ^ 40) :
    SC cfg.P i_impl_ForestsOfPair [.s (.v (.pr .str .str) (bs a, bs b))] (.tup [.own t_string .str (fopV a b), .own t_string .str (fopW a b), .v .bool (fopB a b)]) [] := by
  have h1 := pairOf_SC a b ha hb
  cases t : isPair a b with
  | false =>
    rw [t] at h1
    have hB : fopB a b = false := by rw [fopB, t]; rfl
    rw [fopV, fopW, hB, if_neg (by simp), if_neg (by simp)]
    exact impl_ForestsOfPair_p4 _ _ h1
  | true =>
    rw [t] at h1
    obtain ⟨a1, a2, a3, a4, a5⟩ := isPair_trees t
    obtain ⟨f1, f2, f3, f4, f5, f6⟩ := fop_facts a b t
    have h2 := reduced_SC (treeOf a, treeOf b) (by simp only; omega) (by simp only; omega)
    have g1 := hanging_SC (fopR a b).1 (by omega)
    have g2 := hanging_SC (fopR a b).2 (by omega)
    have x1 := texts_SC (fopF a b) (by omega) (fun t ht => by have := f3 t ht; omega)
    have x2 := texts_SC (fopG a b) (by omega) (fun t ht => by have := f4 t ht; omega)
    cases o1 : foOk (fopF a b) with
    | false =>
      rw [o1] at x1
      have hB : fopB a b = false := by rw [fopB, o1, Bool.and_false]; rfl
      rw [fopV, fopW, hB, if_neg (by simp), if_neg (by simp)]
      exact impl_ForestsOfPair_p3 _ _ _ _ _ _ _ _ h1 h2 g1 x1 g2 x2
    | true =>
      rw [o1] at x1
      cases o2 : foOk (fopG a b) with
      | false =>
        rw [o2] at x2
        have hB : fopB a b = false := by rw [fopB, o2, Bool.and_false]
        rw [fopV, fopW, hB, if_neg (by simp), if_neg (by simp)]
        exact impl_ForestsOfPair_p2 _ _ _ _ _ _ _ h1 h2 g1 x1 g2 x2
      | true =>
        rw [o2] at x2
        have hB : fopB a b = true := by rw [fopB, o1, o2, t]; rfl
        rw [fopV, fopW, hB, if_pos rfl, if_pos rfl]
        exact impl_ForestsOfPair_p1 _ _ _ _ _ _ _ h1 h2 g1 x1 g2 x2

theorem specFop_SC (a b : List UInt8) (ha : a.length ≤ 2 ^ 40) (hb : b.length ≤ 2 ^ 40) :
    SC cfg.P i_spec_ForestsOfPair [.s (.v (.pr .str .str) (bs a, bs b))] (.tup [.own t_string .str (fopV a b), .own t_string .str (fopW a b), .v .bool (fopB a b)]) [] := by
  have h1 := prGood_SC a b ha hb
  cases t : isPair a b with
  | false =>
    rw [t] at h1
    have hB : fopB a b = false := by rw [fopB, t]; rfl
    rw [fopV, fopW, hB, if_neg (by simp), if_neg (by simp)]
    exact spec_ForestsOfPair_p4 _ h1
  | true =>
    rw [t] at h1
    obtain ⟨a1, a2, a3, a4, a5⟩ := isPair_trees t
    obtain ⟨f1, f2, f3, f4, f5, f6⟩ := fop_facts a b t
    have e1 : pt (treeOf a, treeOf b) = (bs a, bs b) := by rw [pt, ← a1, ← a2]
    have h2 := prReduce_SC (treeOf a, treeOf b) (by simp only; omega) (by simp only; omega)
    rw [e1] at h2
    have g1 := foHanging_SC (fopR a b).1 (by omega)
    have g2 := foHanging_SC (fopR a b).2 (by omega)
    have x1 := foIf_SC (fopF a b) (by omega) (fun t ht => by have := f3 t ht; omega)
    have x2 := foIf_SC (fopG a b) (by omega) (fun t ht => by have := f4 t ht; omega)
    cases o1 : foOk (fopF a b) with
    | false =>
      rw [o1] at x1
      have hB : fopB a b = false := by rw [fopB, o1, Bool.and_false]; rfl
      rw [fopV, fopW, hB, if_neg (by simp), if_neg (by simp)]
      exact spec_ForestsOfPair_p3 _ _ _ _ _ _ _ h1 h2 g1 x1 g2 x2
    | true =>
      rw [o1] at x1
      cases o2 : foOk (fopG a b) with
      | false =>
        rw [o2] at x2
        have hB : fopB a b = false := by rw [fopB, o2, Bool.and_false]
        rw [fopV, fopW, hB, if_neg (by simp), if_neg (by simp)]
        exact spec_ForestsOfPair_p2 _ _ _ _ _ _ h1 h2 g1 x1 g2 x2
      | true =>
        rw [o2] at x2
        have hB : fopB a b = true := by rw [fopB, o1, o2, t]; rfl
        rw [fopV, fopW, hB, if_pos rfl, if_pos rfl]
        exact spec_ForestsOfPair_p1 _ _ _ _ _ _ h1 h2 g1 x1 g2 x2

theorem foTexts_len' (ts : List Tr) : (foTexts ts).length ≤ 8 := by
  unfold foTexts
  split
  · rename_i h; rw [List.length_map]; exact h.1
  · simp

/-- The law of ForestsOfPair. -/
theorem law_Fop (x y : ByteArray) (hx : x.size ≤ 2 ^ 63 - 1) (hy : y.size ≤ 2 ^ 63 - 1) :
    SC cfg.P i_laws_FnExactForestsOfPair [.s (.v (.pr .str .str) (x, y))] (.s (.v .bool true)) [] := by
  obtain ⟨a, rfl⟩ := bs_ex x
  obtain ⟨b, rfl⟩ := bs_ex y
  rw [bs_size] at hx hy
  by_cases h : a.length + b.length ≤ 1048576
  · have hS := specFop_SC a b (by omega) (by omega)
    have hI := implFop_SC a b (by omega) (by omega)
    have v1 : (fopV a b).length ≤ 8 := by
      unfold fopV; split
      · rw [List.length_map]; exact foTexts_len' _
      · simp
    have v2 : (fopW a b).length ≤ 8 := by
      unfold fopW; split
      · rw [List.length_map]; exact foTexts_len' _
      · simp
    have e1 := eqStringS_SC (fopV a b) (by omega)
    have e2 := eqStringS_SC (fopW a b) (by omega)
    have m1 := markStringS_SC (fopV a b) (by omega) 1 (by omega) (by omega)
    have m2 := markStringS_SC (fopW a b) (by omega) (1 + (fopV a b).length) (by omega) (by omega)
    have h3 := heldStringS_SC 1 (fopV a b).length (by omega) (by omega) (by omega)
    have h4 := heldStringS_SC (1 + (fopV a b).length) (fopW a b).length (by omega) (by omega) (by omega)
    exact laws_FnExactForestsOfPair_p2 _ _ _ _ _ _ _ _ _ _ _ _ _ _ _ _ _ _ _ _ _ _ (szPair_in a b h) (by omega) (laws_toPair_p1 _) hS (laws_toPair_p1 _) hI e1 e2 (by simp) m1 m2 h3 (by omega) h4 (by omega) rfl (laws_toPair_p1 _) hI e1 e2 (by simp) h3 (by omega) h4 (by omega) rfl
  · exact laws_FnExactForestsOfPair_p1 _ _ (szPair_out a b hx hy h) (by omega)

end Go.AI
