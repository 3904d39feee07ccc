/- Contracts: products of pairs. -/
import Derived.Test.YtdfllkeekehplaaCSm
import Derived.Test.YtdfllkeekehplaaCRr
import Derived.Test.YtdfllkeekehplaaCDr
set_option autoImplicit false
set_option maxRecDepth 100000
set_option linter.unusedVariables false
namespace Go.AI
open Go.Proofs

/-- A tree grown by a function that gives the trees of a row. -/
theorem grownP_SC (F : FuncId) (g : Tr) (h : List ByteArray) (us : List Tr) (m : Nat) (hm : m ≤ 2 ^ 30)
    (hF : ∀ k, k < m → SC cfg.P F [.s (.v (.int .i64) (k : Int)), .s (.fadr .tree g), .s (.fadr (.sl .str) h)] (.s (.v .tree (us.getD k .leaf))) []) :
    ∀ (t : Tr) (n : Nat), n + t.c + 1 ≤ m → SC cfg.P i_impl_node_grown [.s (.v .tree t), .s (.v (.int .i64) (n : Int)), .fn F [] [.fadr .tree g, .fadr (.sl .str) h]] (.s (.v .tree (growT us t n))) []
  | .leaf, n, hn => impl_node_grown_p1 _ _ _ _ _ (hF n (by simp only [Tr.c] at hn; omega))
  | .node a b, n, hn => by
    simp only [Tr.c] at hn
    have hl := leaves_SC a (by omega)
    have ea : IntKind.wrap .i64 ((n : Int) + ((a.c + 1 : Nat) : Int)) = ((n + (a.c + 1) : Nat) : Int) := by rw [w64] <;> omega
    have h2 := grownP_SC F g h us m hm hF b (n + (a.c + 1)) (by omega)
    rw [← ea] at h2
    exact impl_node_grown_p2 _ _ _ _ _ _ _ _ _ (grownP_SC F g h us m hm hF a n (by omega)) hl h2

theorem parts_SC (t u : Tr) (h : t.c ≤ 2 ^ 20) : SC cfg.P i_impl_parts [.s (.v .tree t), .s (.v .tree u)] (.fn i_impl_parts_k1 [] [.fadr .tree u, .fadr (.sl .str) (strs' (adL t []))]) [] :=
  impl_parts_p1 _ _ _ (addresses_SC t [] h (by rw [List.length_nil, Nat.zero_add]; omega))

theorem partsK_SC (t u : Tr) (hp : partB t u = true) (ht : t.c ≤ 2 ^ 20) (k : Nat) (hk : k < t.c + 1) :
    SC cfg.P i_impl_parts_k1 [.s (.v (.int .i64) (k : Int)), .s (.fadr .tree u), .s (.fadr (.sl .str) (strs' (adL t [])))] (.s (.v .tree ((partsT t u).getD k .leaf))) [] := by
  have hal := adL_len t []
  have hsl : (strs' (adL t [])).length = (adL t []).length := List.length_map ..
  have hk1 : k < (adL t []).length := by omega
  have hb := adL_bound t [] _ (List.getElem_mem hk1)
  rw [List.length_nil, Nat.zero_add] at hb
  obtain ⟨b, ha⟩ := at_SC u (adL t [])[k] (by omega)
  have hg := strs_get (adL t []) k hk1
  rw [← hg] at ha
  have e : (partsT t u).getD k .leaf = atR u (adL t [])[k] := by
    rw [← at_parts t u u [] hp (by cases u <;> rfl), List.getD_eq_getElem?_getD, List.getElem?_map, List.getElem?_eq_getElem hk1]
    rfl
  rw [e]
  exact impl_parts_k1_p1 _ _ _ _ _ (by omega) (by omega) ha

theorem times_SC (p q : Tr × Tr) (hp : p.1.c = p.2.c) (hq : q.1.c = q.2.c) (h1 : p.1.c ≤ 2 ^ 18) (h2 : q.1.c ≤ 2 ^ 18) :
    SC cfg.P i_impl_pair_times [.s (.v (.pr .tree .tree) p), .s (.v (.pr .tree .tree) q)] (.s (.v (.pr .tree .tree) (timesT p q))) [] := by
  have hj := joiT_c p.2 q.1
  have c1 := raw_c1 p q hp
  have c2 := raw_c2 p q hq
  have g1 := grownP_SC i_impl_parts_k1 (joiT p.2 q.1) (strs' (adL p.2 [])) (partsT p.2 (joiT p.2 q.1)) (p.2.c + 1) (by omega) (fun k hk => partsK_SC _ _ (partB_l _ _) (by omega) k hk) p.1 0 (by omega)
  have g2 := grownP_SC i_impl_parts_k1 (joiT p.2 q.1) (strs' (adL q.1 [])) (partsT q.1 (joiT p.2 q.1)) (q.1.c + 1) (by omega) (fun k hk => partsK_SC _ _ (partB_r _ _) (by omega) k hk) q.2 0 (by omega)
  exact impl_pair_times_p1 _ _ _ _ _ _ _ _ _ _ (join_SC p.2 q.1) (parts_SC _ _ (by omega)) g1 (parts_SC _ _ (by omega)) g2 (reduced_SC (rawT p q) (by omega) (by omega))

/-! ### The reference's products -/

theorem raw_c (p q : Tr × Tr) (hp : p.1.c = p.2.c) : (timesT p q).1.c ≤ p.1.c + q.1.c := by
  have hj := joiT_c p.2 q.1
  have c1 := raw_c1 p q hp
  have := (red_c (rawT p q).1.c (rawT p q)).1
  show (red (rawT p q).1.c (rawT p q)).1.c ≤ _
  omega

/-! ### Pairs that are told if they fit -/

theorem isTree_txt (t : Tr) : isTree (txt t) = decide (t.c ≤ 8) := by
  by_cases h : t.c ≤ 8
  · rw [decide_eq_true h]; exact (isTree_iff _).2 ⟨t, rfl, h⟩
  · rw [decide_eq_false h]
    cases hb : isTree (txt t) with
    | false => rfl
    | true =>
      obtain ⟨u, e, hu⟩ := (isTree_iff _).1 hb
      have := (txt_inj t u [] [] (by rw [List.append_nil, List.append_nil]; exact e)).1
      subst this
      exact absurd hu h

theorem isPair_txt (p : Tr × Tr) (h : p.1.c = p.2.c) : isPair (txt p.1) (txt p.2) = decide (p.1.c ≤ 8) := by
  unfold isPair
  rw [isTree_txt, isTree_txt, ← h]
  by_cases h8 : p.1.c ≤ 8
  · have t1 : isTree (txt p.1) = true := by rw [isTree_txt, decide_eq_true h8]
    have t2 : isTree (txt p.2) = true := by rw [isTree_txt, ← h, decide_eq_true h8]
    have e1 := (treeOf_txt t1).1
    have e2 := (treeOf_txt t2).1
    have f1 := (txt_inj p.1 (treeOf (txt p.1)) [] [] (by rw [List.append_nil, List.append_nil]; exact e1)).1
    have f2 := (txt_inj p.2 (treeOf (txt p.2)) [] [] (by rw [List.append_nil, List.append_nil]; exact e2)).1
    rw [← f1, ← f2, h]
    simp
  · rw [decide_eq_false h8]; rfl

def fitV (p : Tr × Tr) : ByteArray × ByteArray := if p.1.c ≤ 8 then pt p else (⟨#[]⟩, ⟨#[]⟩)

theorem fits_SC (p : Tr × Tr) (h1 : p.1.c ≤ 2 ^ 20) (h2 : p.2.c ≤ 2 ^ 20) : SC cfg.P i_impl_pair_fits [.s (.v (.pr .tree .tree) p)] (.tup [.v (.pr .str .str) (fitV p), .v .bool (decide (p.1.c ≤ 8))]) [] := by
  have hc := carets_SC p.1 (by omega)
  by_cases h : p.1.c ≤ 8
  · rw [fitV, if_pos h, decide_eq_true h]
    exact impl_pair_fits_p2 _ _ _ hc (by omega) (plain_SC p h1 h2)
  · rw [fitV, if_neg h, decide_eq_false h]
    exact impl_pair_fits_p1 _ _ hc (by omega)

def twoB (a b c d : List UInt8) : Bool := isPair a b && isPair c d

theorem two_SC (a b c d : List UInt8) (ha : a.length ≤ 2 ^ 40) (hb : b.length ≤ 2 ^ 40) (hc : c.length ≤ 2 ^ 40) (hd : d.length ≤ 2 ^ 40) :
    SC cfg.P i_impl_two [.s (.v (.pr .str .str) (bs a, bs b)), .s (.v (.pr .str .str) (bs c, bs d))] (.tup [.v (.pr .tree .tree) (treeOf a, treeOf b), .v (.pr .tree .tree) (treeOf c, treeOf d), .v .bool (twoB a b c d)]) [] := by
  have h1 := pairOf_SC a b ha hb
  have h2 := pairOf_SC c d hc hd
  unfold twoB
  cases e1 : isPair a b with
  | false => rw [e1] at h1; exact impl_two_p2 _ _ _ _ _ h1 h2
  | true => rw [e1] at h1; exact impl_two_p1 _ _ _ _ _ h1 h2

end Go.AI
