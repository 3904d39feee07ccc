/- A part of the road: what it proves stands in its last texts. -/
import Derived.Test.YtcbhdileamhklaaCR
import Derived.Test.YtcbhdileamhklaaGZ
import Derived.Test.YtcbhdileamhklaaJC
import Derived.Test.YtcbhdileamhklaaJB
section
/- Contracts: reduced pairs. -/
set_option autoImplicit false
set_option maxRecDepth 100000
set_option linter.unusedVariables false
namespace Go.AI
open Go.Proofs

theorem red_L : ∀ (n : Nat) (p z : Tr × Tr), p.1.c ≤ n → p.1.c ≤ 2 ^ 20 → p.2.c ≤ 2 ^ 20 → LoopSC cfg.P 1 (lb P_impl_pair_reduced 0) (impl_pair_reduced_L0a p z) .ret (impl_pair_reduced_L0X1 (red n p)) := by
  intro n
  induction n with
  | zero =>
    intro p z hn h1 h2
    have hb := both_SC p h1 h2
    have hl : p.1 = .leaf := by
      cases hp : p.1 with
      | leaf => rfl
      | node l r => rw [hp] at hn; simp only [Tr.c] at hn; omega
    have e : bothL p = [] := by simp [bothL, hl, exL]
    rw [e] at hb
    exact impl_pair_reduced_L0a_x1 _ _ _ hb rfl
  | succ n ih =>
    intro p z hn h1 h2
    have hb := both_SC p h1 h2
    cases hB : bothL p with
    | nil =>
      rw [hB] at hb
      have e : red (n + 1) p = p := by simp only [red, hB]
      rw [e]
      exact impl_pair_reduced_L0a_x1 _ _ _ hb rfl
    | cons k ks =>
      have hmem : k ∈ bothL p := by rw [hB]; exact List.mem_cons_self
      have hd := drop_SC p k h1 h2 hmem
      have c1 := wo_c p.1 k (bothL_mem hmem).1
      have c2 := wo_c p.2 k (bothL_mem hmem).2
      have e : red (n + 1) p = red n (wo p.1 k, wo p.2 k) := by simp only [red, hB]
      rw [e]
      rw [hB] at hb
      have hn' := ih (wo p.1 k, wo p.2 k) z (by simp only; omega) (by simp only; omega) (by simp only; omega)
      exact impl_pair_reduced_L0a_i2 _ _ _ _ hb (by simp <;> omega) (by simp <;> omega) (by simp) hd hn'

theorem reduced_SC (p : Tr × Tr) (h1 : p.1.c ≤ 2 ^ 20) (h2 : p.2.c ≤ 2 ^ 20) : SC cfg.P i_impl_pair_reduced [.s (.v (.pr .tree .tree) p)] (.s (.v (.pr .tree .tree) (red p.1.c p))) [] :=
  impl_pair_reduced_p1 _ _ (red_L _ p _ (Nat.le_refl _) h1 h2)

end Go.AI
end

section
/- Contracts: pairs reduced by the reference. -/
set_option autoImplicit false
set_option maxRecDepth 100000
set_option linter.unusedVariables false
namespace Go.AI
open Go.Proofs

end Go.AI
end

section
/- Contracts: products of pairs. -/
set_option autoImplicit false
set_option maxRecDepth 100000
set_option linter.unusedVariables false
namespace Go.AI
open Go.Proofs

theorem getD_us_c (us : List Tr) (b : Nat) (h : ∀ u ∈ us, u.c ≤ b) (i : Nat) : (us.getD i .leaf).c ≤ b := getD_leaf_c h i

/-- A tree grown by a function that gives the trees of a row. -/
theorem grownP_SC (F : FuncId) (g : Tr) (h : List ByteArray) (us : List Tr) (m : Nat) (hm : m ≤ 2 ^ 30)
    (hF : ∀ k, k < m → SC cfg.P F [.s (.v (.int .i64) (k : Int)), .s (.fadr .tree g), .s (.fadr (.sl .str) h)] (.s (.v .tree (us.getD k .leaf))) []) :
    ∀ (t : Tr) (n : Nat), n + t.c + 1 ≤ m → SC cfg.P i_impl_node_grown [.s (.v .tree t), .s (.v (.int .i64) (n : Int)), .fn F [] [.fadr .tree g, .fadr (.sl .str) h]] (.s (.v .tree (growT us t n))) []
  | .leaf, n, hn => impl_node_grown_p1 _ _ _ _ _ (hF n (by simp only [Tr.c] at hn; omega))
  | .node a b, n, hn => by
    simp only [Tr.c] at hn
    have hl := leaves_SC a (by omega)
    have ea : IntKind.wrap .i64 ((n : Int) + ((a.c + 1 : Nat) : Int)) = ((n + (a.c + 1) : Nat) : Int) := by rw [w64] <;> omega
    have h2 := grownP_SC F g h us m hm hF b (n + (a.c + 1)) (by omega)
    rw [← ea] at h2
    exact impl_node_grown_p2 _ _ _ _ _ _ _ _ _ (grownP_SC F g h us m hm hF a n (by omega)) hl h2

theorem parts_SC (t u : Tr) (h : t.c ≤ 2 ^ 20) : SC cfg.P i_impl_parts [.s (.v .tree t), .s (.v .tree u)] (.fn i_impl_parts_k1 [] [.fadr .tree u, .fadr (.sl .str) (strs' (adL t []))]) [] :=
  impl_parts_p1 _ _ _ (addresses_SC t [] h (by rw [List.length_nil, Nat.zero_add]; omega))

theorem partsK_SC (t u : Tr) (hp : partB t u = true) (ht : t.c ≤ 2 ^ 20) (k : Nat) (hk : k < t.c + 1) :
    SC cfg.P i_impl_parts_k1 [.s (.v (.int .i64) (k : Int)), .s (.fadr .tree u), .s (.fadr (.sl .str) (strs' (adL t [])))] (.s (.v .tree ((partsT t u).getD k .leaf))) [] := by
  have hal := adL_len t []
  have hsl : (strs' (adL t [])).length = (adL t []).length := List.length_map ..
  have hk1 : k < (adL t []).length := by omega
  have hb := adL_bound t [] _ (List.getElem_mem hk1)
  rw [List.length_nil, Nat.zero_add] at hb
  obtain ⟨b, ha⟩ := at_SC u (adL t [])[k] (by omega)
  have hg := strs_get (adL t []) k hk1
  rw [← hg] at ha
  have e : (partsT t u).getD k .leaf = atR u (adL t [])[k] := by
    rw [← at_parts t u u [] hp (by cases u <;> rfl), List.getD_eq_getElem?_getD, List.getElem?_map, List.getElem?_eq_getElem hk1]
    rfl
  rw [e]
  exact impl_parts_k1_p1 _ _ _ _ _ (by omega) (by omega) ha

theorem times_SC (p q : Tr × Tr) (hp : p.1.c = p.2.c) (hq : q.1.c = q.2.c) (h1 : p.1.c ≤ 2 ^ 18) (h2 : q.1.c ≤ 2 ^ 18) :
    SC cfg.P i_impl_pair_times [.s (.v (.pr .tree .tree) p), .s (.v (.pr .tree .tree) q)] (.s (.v (.pr .tree .tree) (timesT p q))) [] := by
  have hj := joiT_c p.2 q.1
  have c1 := raw_c1 p q hp
  have c2 := raw_c2 p q hq
  have g1 := grownP_SC i_impl_parts_k1 (joiT p.2 q.1) (strs' (adL p.2 [])) (partsT p.2 (joiT p.2 q.1)) (p.2.c + 1) (by omega) (fun k hk => partsK_SC _ _ (partB_l _ _) (by omega) k hk) p.1 0 (by omega)
  have g2 := grownP_SC i_impl_parts_k1 (joiT p.2 q.1) (strs' (adL q.1 [])) (partsT q.1 (joiT p.2 q.1)) (q.1.c + 1) (by omega) (fun k hk => partsK_SC _ _ (partB_r _ _) (by omega) k hk) q.2 0 (by omega)
  exact impl_pair_times_p1 _ _ _ _ _ _ _ _ _ _ (join_SC p.2 q.1) (parts_SC _ _ (by omega)) g1 (parts_SC _ _ (by omega)) g2 (reduced_SC (rawT p q) (by omega) (by omega))

/-! ### The reference's products -/

theorem raw_c (p q : Tr × Tr) (hp : p.1.c = p.2.c) : (timesT p q).1.c ≤ p.1.c + q.1.c := by
  have hj := joiT_c p.2 q.1
  have c1 := raw_c1 p q hp
  have := (red_c (rawT p q).1.c (rawT p q)).1
  show (red (rawT p q).1.c (rawT p q)).1.c ≤ _
  omega

/-! ### Pairs that are told if they fit -/

theorem isTree_txt (t : Tr) : isTree (txt t) = decide (t.c ≤ 8) := by
  by_cases h : t.c ≤ 8
  · rw [decide_eq_true h]; exact (isTree_iff _).2 ⟨t, rfl, h⟩
  · rw [decide_eq_false h]
    cases hb : isTree (txt t) with
    | false => rfl
    | true =>
      obtain ⟨u, e, hu⟩ := (isTree_iff _).1 hb
      have := (txt_inj t u [] [] (by rw [List.append_nil, List.append_nil]; exact e)).1
      subst this
      exact absurd hu h

theorem isPair_txt (p : Tr × Tr) (h : p.1.c = p.2.c) : isPair (txt p.1) (txt p.2) = decide (p.1.c ≤ 8) := by
  unfold isPair
  rw [isTree_txt, isTree_txt, ← h]
  by_cases h8 : p.1.c ≤ 8
  · have t1 : isTree (txt p.1) = true := by rw [isTree_txt, decide_eq_true h8]
    have t2 : isTree (txt p.2) = true := by rw [isTree_txt, ← h, decide_eq_true h8]
    have e1 := (treeOf_txt t1).1
    have e2 := (treeOf_txt t2).1
    have f1 := (txt_inj p.1 (treeOf (txt p.1)) [] [] (by rw [List.append_nil, List.append_nil]; exact e1)).1
    have f2 := (txt_inj p.2 (treeOf (txt p.2)) [] [] (by rw [List.append_nil, List.append_nil]; exact e2)).1
    rw [← f1, ← f2, h]
    simp
  · rw [decide_eq_false h8]; rfl

def fitV (p : Tr × Tr) : ByteArray × ByteArray := if p.1.c ≤ 8 then pt p else (⟨#[]⟩, ⟨#[]⟩)

def twoB (a b c d : List UInt8) : Bool := isPair a b && isPair c d

end Go.AI
end

section
/- Contracts: forests hung at a right comb; their pairs. -/
set_option autoImplicit false
set_option maxRecDepth 100000
set_option linter.unusedVariables false
namespace Go.AI
open Go.Proofs

/-- The right comb. -/
def combR : Nat → Tr
  | 0 => .leaf
  | n + 1 => .node .leaf (combR n)

theorem combR_c : ∀ n, (combR n).c = n
  | 0 => rfl
  | n + 1 => by simp only [combR, Tr.c, combR_c n]; omega

/-- The right comb with trees in place of its first leaves. -/
def combT : List Tr → Tr
  | [] => .leaf
  | t :: ts => .node t (combT ts)

theorem combT_c : ∀ ts, (combT ts).c = ts.length + sumC ts
  | [] => rfl
  | t :: ts => by
    have := combT_c ts
    have e : sumC (t :: ts) = t.c + sumC ts := by simp [sumC]
    simp only [combT, Tr.c, List.length_cons, e, this]
    omega

theorem grow_comb (ts : List Tr) : ∀ (n k : Nat), k + n = ts.length → growT ts (combR n) k = combT (ts.drop k)
  | 0, k, h => by
    have e : k = ts.length := by omega
    subst e
    rw [List.drop_length, combR, growT, combT, List.getD_eq_getElem?_getD, List.getElem?_eq_none (Nat.le_refl _)]
    rfl
  | n + 1, k, h => by
    have hk : k < ts.length := by omega
    rw [combR, growT, growT, Tr.c, grow_comb ts n (k + (0 + 1)) (by omega), List.drop_eq_getElem_cons hk, combT, List.getD_eq_getElem?_getD, List.getElem?_eq_getElem hk]
    rfl

theorem combR_succ : ∀ n, combR (n + 1) = .node .leaf (combR n) := fun _ => rfl

theorem rightComb_SC (n : Nat) (h : n ≤ 2 ^ 30) : SC cfg.P i_impl_rightComb [.s (.v (.int .i64) (n : Int))] (.s (.v .tree (combR n))) [] := by
  have key : ∀ (m i : Nat), i + m = n → LoopSC cfg.P 1 (lb P_impl_rightComb 0) (impl_rightComb_L0a (combR i) (n : Int) (i : Int)) (.exit 0) (impl_rightComb_L0X1 (combR n) (n : Int) (n : Int) false) := by
    intro m
    induction m with
    | zero =>
      intro i hi
      have e : i = n := by omega
      subst e
      exact impl_rightComb_L0a_x2 _ _ _ (by omega)
    | succ m ih =>
      intro i hi
      have hn := ih (i + 1) (by omega)
      rw [← wrap_succ (by omega), combR_succ] at hn
      exact impl_rightComb_L0a_i1 _ _ _ (by omega) hn
  exact impl_rightComb_p1 _ _ _ _ _ (key n 0 (by omega))

theorem drop_last (ts : List Tr) (k : Nat) (h : k < ts.length) : combT (ts.drop k) = .node (ts.getD k .leaf) (combT (ts.drop (k + 1))) := by
  rw [List.drop_eq_getElem_cons h, combT, List.getD_eq_getElem?_getD, List.getElem?_eq_getElem h]
  rfl

theorem sum_drop (ts : List Tr) (k : Nat) : sumC (ts.drop k) ≤ sumC ts := by
  have e : ts = ts.take k ++ ts.drop k := (List.take_append_drop k ts).symm
  have h2 : sumC (ts.take k ++ ts.drop k) = sumC (ts.take k) + sumC (ts.drop k) := by rw [sumC, List.map_append, List.sum_append]; rfl
  rw [← e] at h2
  omega

/-- A forest's pair. -/
def fpP (ts : List Tr) : Tr × Tr := red (combT ts).c (combT ts, combR (combT ts).c)

theorem fp_eqc (ts : List Tr) : (fpP ts).1.c = (fpP ts).2.c := red_eqc _ _ (by simp only [combR_c])

theorem fp_c (ts : List Tr) : (fpP ts).1.c ≤ ts.length + sumC ts := by
  have := (red_c (combT ts).c (combT ts, combR (combT ts).c)).1
  rw [← combT_c]
  exact this

theorem fo_facts2 {fs : List (List UInt8)} (h : isFo fs = true) : fs = (treesOf fs).map txt ∧ (treesOf fs).length ≤ 8 ∧ sumC (treesOf fs) ≤ 8 ∧ trim (treesOf fs) = treesOf fs := by
  obtain ⟨h1, h2, h3, h4, h5⟩ := isFo_spec h
  have hl : (treesOf fs).length = fs.length := List.length_map ..
  exact ⟨h5, by omega, h3, h4⟩

end Go.AI
end
