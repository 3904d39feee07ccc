/- A part of the road: what it proves stands in its last texts. -/
import Derived.Test.YtnhjfdkogbelaaaJE
import Derived.Test.YtnhjfdkogbelaaaGZ
import Derived.Test.YtnhjfdkogbelaaaCSm
section
/- Contracts: reduced pairs. -/
set_option autoImplicit false
set_option maxRecDepth 100000
set_option linter.unusedVariables false
namespace Go.AI
open Go.Proofs

theorem red_L : ∀ (n : Nat) (p z : Tr × Tr), p.1.c ≤ n → p.1.c ≤ 2 ^ 20 → p.2.c ≤ 2 ^ 20 → LoopSC cfg.P 1 (lb P_impl_pair_reduced 0) (impl_pair_reduced_L0a p z) .ret (impl_pair_reduced_L0X1 (red n p)) := by
  intro n
  induction n with
  | zero =>
    intro p z hn h1 h2
    have hb := both_SC p h1 h2
    have hl : p.1 = .leaf := by
      cases hp : p.1 with
      | leaf => rfl
      | node l r => rw [hp] at hn; simp only [Tr.c] at hn; omega
    have e : bothL p = [] := by simp [bothL, hl, exL]
    rw [e] at hb
    exact impl_pair_reduced_L0a_x1 _ _ _ hb rfl
  | succ n ih =>
    intro p z hn h1 h2
    have hb := both_SC p h1 h2
    cases hB : bothL p with
    | nil =>
      rw [hB] at hb
      have e : red (n + 1) p = p := by simp only [red, hB]
      rw [e]
      exact impl_pair_reduced_L0a_x1 _ _ _ hb rfl
    | cons k ks =>
      have hmem : k ∈ bothL p := by rw [hB]; exact List.mem_cons_self
      have hd := drop_SC p k h1 h2 hmem
      have c1 := wo_c p.1 k (bothL_mem hmem).1
      have c2 := wo_c p.2 k (bothL_mem hmem).2
      have e : red (n + 1) p = red n (wo p.1 k, wo p.2 k) := by simp only [red, hB]
      rw [e]
      rw [hB] at hb
      have hn' := ih (wo p.1 k, wo p.2 k) z (by simp only; omega) (by simp only; omega) (by simp only; omega)
      exact impl_pair_reduced_L0a_i2 _ _ _ _ hb (by simp <;> omega) (by simp <;> omega) (by simp) hd hn'

theorem reduced_SC (p : Tr × Tr) (h1 : p.1.c ≤ 2 ^ 20) (h2 : p.2.c ≤ 2 ^ 20) : SC cfg.P i_impl_pair_reduced [.s (.v (.pr .tree .tree) p)] (.s (.v (.pr .tree .tree) (red p.1.c p))) [] :=
  impl_pair_reduced_p1 _ _ (red_L _ p _ (Nat.le_refl _) h1 h2)

end Go.AI
end

section
/- Contracts: pairs reduced by the reference. -/
set_option autoImplicit false
set_option maxRecDepth 100000
set_option linter.unusedVariables false
namespace Go.AI
open Go.Proofs

theorem prReduce_L : ∀ (n : Nat) (p : Tr × Tr) (z : ByteArray × ByteArray) (st : Nat), p.1.c ≤ n → p.1.c ≤ 2 ^ 20 → p.2.c ≤ 2 ^ 20 → st + n ≤ 2 ^ 30 →
    ∃ st' : Nat, LoopSC cfg.P 2 (lb P_spec_prReduce 0) (spec_prReduce_L0b ([] : List Int) (st : Int) (pt p) z (ints (bothL p))) (.exit 0) (spec_prReduce_L0X2 ([] : List Int) (st' : Int) false (pt (red n p)) z (ints (bothL (red n p)))) := by
  intro n
  induction n with
  | zero =>
    intro p z st hn h1 h2 hs
    have hl : p.1 = .leaf := by
      cases hp : p.1 with
      | leaf => rfl
      | node l r => rw [hp] at hn; simp only [Tr.c] at hn; omega
    have e : bothL p = [] := by simp [bothL, hl, exL]
    refine ⟨st, ?_⟩
    show LoopSC cfg.P 2 (lb P_spec_prReduce 0) (spec_prReduce_L0b ([] : List Int) (st : Int) (pt p) z (ints (bothL p))) (.exit 0) (spec_prReduce_L0X2 ([] : List Int) (st : Int) false (pt p) z (ints (bothL p)))
    exact spec_prReduce_L0b_x3 _ _ _ _ _ (by rw [e]; simp)
  | succ n ih =>
    intro p z st hn h1 h2 hs
    cases hB : bothL p with
    | nil =>
      have e : red (n + 1) p = p := by simp only [red, hB]
      rw [e, hB]
      exact ⟨st, spec_prReduce_L0b_x3 _ _ _ _ _ (by simp)⟩
    | cons k ks =>
      have hmem : k ∈ bothL p := by rw [hB]; exact List.mem_cons_self
      have c1 := wo_c p.1 k (bothL_mem hmem).1
      have c2 := wo_c p.2 k (bothL_mem hmem).2
      have e : red (n + 1) p = red n (wo p.1 k, wo p.2 k) := by simp only [red, hB]
      rw [e]
      obtain ⟨st', hn'⟩ := ih (wo p.1 k, wo p.2 k) z (st + 1) (by simp only; omega) (by simp only; omega) (by simp only; omega) (by omega)
      have ew : IntKind.wrap .i64 ((st : Int) + 1) = ((st + 1 : Nat) : Int) := by rw [w64] <;> omega
      rw [← ew] at hn'
      exact ⟨st', spec_prReduce_L0b_i2 _ _ _ _ _ _ _ _ (by simp <;> omega) (by simp) (by simp <;> omega) (by simp) (trDrop_SC p.1 k h1 (bothL_mem hmem).1) (trDrop_SC p.2 k h2 (bothL_mem hmem).2) (prBoth_SC (wo p.1 k, wo p.2 k) (by simp only; omega) (by simp only; omega)) hn'⟩

theorem prReduce_SC (p : Tr × Tr) (h1 : p.1.c ≤ 2 ^ 20) (h2 : p.2.c ≤ 2 ^ 20) : SC cfg.P i_spec_prReduce [.s (.v (.pr .str .str) (pt p)), .s (.v (.sl (.int .i64)) ([] : List Int))] (.s (.v (.pr .str .str) (pt (red p.1.c p)))) [] := by
  have hb := prBoth_SC p h1 h2
  cases hB : bothL p with
  | nil =>
    have e : red p.1.c p = p := by
      cases p.1.c with
      | zero => rfl
      | succ n => simp only [red, hB]
    rw [e]
    rw [hB] at hb
    exact spec_prReduce_p1 _ _ _ _ _ _ _ _ _ hb (spec_prReduce_L0a_x3 _ _ _ _ _ (by simp))
  | cons k ks =>
    have hmem : k ∈ bothL p := by rw [hB]; exact List.mem_cons_self
    have c1 := wo_c p.1 k (bothL_mem hmem).1
    have c2 := wo_c p.2 k (bothL_mem hmem).2
    obtain ⟨n, hc⟩ : ∃ n, p.1.c = n + 1 := ⟨(wo p.1 k).c, c1.symm⟩
    have e : red p.1.c p = red n (wo p.1 k, wo p.2 k) := by rw [hc]; simp only [red, hB]
    rw [e]
    rw [hB] at hb
    obtain ⟨st', hn'⟩ := prReduce_L n (wo p.1 k, wo p.2 k) ((⟨#[]⟩ : ByteArray), (⟨#[]⟩ : ByteArray)) 1 (by simp only; omega) (by simp only; omega) (by simp only; omega) (by omega)
    have ew : IntKind.wrap .i64 ((0 : Int) + 1) = ((1 : Nat) : Int) := by rw [w64] <;> omega
    rw [← ew] at hn'
    exact spec_prReduce_p2 _ _ _ _ _ _ _ _ _ hb (spec_prReduce_L0a_i2 _ _ _ _ _ _ _ _ (by simp <;> omega) (by simp) (by simp <;> omega) (by simp) (trDrop_SC p.1 k h1 (bothL_mem hmem).1) (trDrop_SC p.2 k h2 (bothL_mem hmem).2) (prBoth_SC (wo p.1 k, wo p.2 k) (by simp only; omega) (by simp only; omega)) hn')

end Go.AI
end

section
/- Contracts: products of pairs. -/
set_option autoImplicit false
set_option maxRecDepth 100000
set_option linter.unusedVariables false
namespace Go.AI
open Go.Proofs

theorem getD_us_c (us : List Tr) (b : Nat) (h : ∀ u ∈ us, u.c ≤ b) (i : Nat) : (us.getD i .leaf).c ≤ b := getD_leaf_c h i

/-- A tree grown by a function that gives the trees of a row. -/
theorem grownP_SC (F : FuncId) (g : Tr) (h : List ByteArray) (us : List Tr) (m : Nat) (hm : m ≤ 2 ^ 30)
    (hF : ∀ k, k < m → SC cfg.P F [.s (.v (.int .i64) (k : Int)), .s (.fadr .tree g), .s (.fadr (.sl .str) h)] (.s (.v .tree (us.getD k .leaf))) []) :
    ∀ (t : Tr) (n : Nat), n + t.c + 1 ≤ m → SC cfg.P i_impl_node_grown [.s (.v .tree t), .s (.v (.int .i64) (n : Int)), .fn F [] [.fadr .tree g, .fadr (.sl .str) h]] (.s (.v .tree (growT us t n))) []
  | .leaf, n, hn => impl_node_grown_p1 _ _ _ _ _ (hF n (by simp only [Tr.c] at hn; omega))
  | .node a b, n, hn => by
    simp only [Tr.c] at hn
    have hl := leaves_SC a (by omega)
    have ea : IntKind.wrap .i64 ((n : Int) + ((a.c + 1 : Nat) : Int)) = ((n + (a.c + 1) : Nat) : Int) := by rw [w64] <;> omega
    have h2 := grownP_SC F g h us m hm hF b (n + (a.c + 1)) (by omega)
    rw [← ea] at h2
    exact impl_node_grown_p2 _ _ _ _ _ _ _ _ _ (grownP_SC F g h us m hm hF a n (by omega)) hl h2

theorem parts_SC (t u : Tr) (h : t.c ≤ 2 ^ 20) : SC cfg.P i_impl_parts [.s (.v .tree t), .s (.v .tree u)] (.fn i_impl_parts_k1 [] [.fadr .tree u, .fadr (.sl .str) (strs' (adL t []))]) [] :=
  impl_parts_p1 _ _ _ (addresses_SC t [] h (by rw [List.length_nil, Nat.zero_add]; omega))

theorem partsK_SC (t u : Tr) (hp : partB t u = true) (ht : t.c ≤ 2 ^ 20) (k : Nat) (hk : k < t.c + 1) :
    SC cfg.P i_impl_parts_k1 [.s (.v (.int .i64) (k : Int)), .s (.fadr .tree u), .s (.fadr (.sl .str) (strs' (adL t [])))] (.s (.v .tree ((partsT t u).getD k .leaf))) [] := by
  have hal := adL_len t []
  have hsl : (strs' (adL t [])).length = (adL t []).length := List.length_map ..
  have hk1 : k < (adL t []).length := by omega
  have hb := adL_bound t [] _ (List.getElem_mem hk1)
  rw [List.length_nil, Nat.zero_add] at hb
  obtain ⟨b, ha⟩ := at_SC u (adL t [])[k] (by omega)
  have hg := strs_get (adL t []) k hk1
  rw [← hg] at ha
  have e : (partsT t u).getD k .leaf = atR u (adL t [])[k] := by
    rw [← at_parts t u u [] hp (by cases u <;> rfl), List.getD_eq_getElem?_getD, List.getElem?_map, List.getElem?_eq_getElem hk1]
    rfl
  rw [e]
  exact impl_parts_k1_p1 _ _ _ _ _ (by omega) (by omega) ha

theorem times_SC (p q : Tr × Tr) (hp : p.1.c = p.2.c) (hq : q.1.c = q.2.c) (h1 : p.1.c ≤ 2 ^ 18) (h2 : q.1.c ≤ 2 ^ 18) :
    SC cfg.P i_impl_pair_times [.s (.v (.pr .tree .tree) p), .s (.v (.pr .tree .tree) q)] (.s (.v (.pr .tree .tree) (timesT p q))) [] := by
  have hj := joiT_c p.2 q.1
  have c1 := raw_c1 p q hp
  have c2 := raw_c2 p q hq
  have g1 := grownP_SC i_impl_parts_k1 (joiT p.2 q.1) (strs' (adL p.2 [])) (partsT p.2 (joiT p.2 q.1)) (p.2.c + 1) (by omega) (fun k hk => partsK_SC _ _ (partB_l _ _) (by omega) k hk) p.1 0 (by omega)
  have g2 := grownP_SC i_impl_parts_k1 (joiT p.2 q.1) (strs' (adL q.1 [])) (partsT q.1 (joiT p.2 q.1)) (q.1.c + 1) (by omega) (fun k hk => partsK_SC _ _ (partB_r _ _) (by omega) k hk) q.2 0 (by omega)
  exact impl_pair_times_p1 _ _ _ _ _ _ _ _ _ _ (join_SC p.2 q.1) (parts_SC _ _ (by omega)) g1 (parts_SC _ _ (by omega)) g2 (reduced_SC (rawT p q) (by omega) (by omega))

/-! ### The reference's products -/

theorem prFill_SC (us : List Tr) (t : Tr) (ht : t.c ≤ 2 ^ 10) (hu : ∀ u ∈ us, u.c ≤ 2 ^ 10) (hl : us.length = t.c + 1) :
    SC cfg.P i_spec_prFill [.s (.v .str (bs (txt t))), .s (.v (.sl .str) (txs (us.map txt)))] (.s (.v .str (bs (txt (growT us t 0))))) [] := by
  have hm : (txs (us.map txt)).length = us.length := by simp
  have hlen := txt_len t
  have hd46 := txt_dots' t
  have key : ∀ (m i : Nat) (cur : List UInt8), (txt t).length - i = m → i ≤ (txt t).length → cur.length ≤ i * 2 ^ 20 →
      LoopSC cfg.P 2 (lb P_spec_prFill 0) (spec_prFill_L0a (bs (txt t)) (txs (us.map txt)) (bs cur) ((((txt t).take i).count 46 : Nat) : Int) (i : Int)) (.exit 0)
        (spec_prFill_L0X1 (bs (txt t)) (txs (us.map txt)) (bs (cur ++ subS us ((txt t).drop i) (((txt t).take i).count 46))) (((txt t).count 46 : Nat) : Int) ((txt t).length : Int) false) := by
    intro m
    induction m with
    | zero =>
      intro i cur hm' hi hcur
      have e : i = (txt t).length := by omega
      subst e
      rw [List.drop_length, subS, List.append_nil, List.take_length]
      exact spec_prFill_L0a_x3 _ _ _ _ _ (by rw [bs_size]; omega)
    | succ m ih =>
      intro i cur hm' hi hcur
      have hi1 : i < (txt t).length := by omega
      have hd : (txt t).drop i = (txt t)[i] :: (txt t).drop (i + 1) := List.drop_eq_getElem_cons hi1
      have htk : (txt t).take (i + 1) = (txt t).take i ++ [(txt t)[i]] := (List.take_append_getElem hi1).symm
      have hg : bt (bs (txt t)) (i : Int) = ((txt t)[i].toNat : Int) := by rw [bs_bt, Int.toNat_natCast, List.getD_eq_getElem?_getD, List.getElem?_eq_getElem hi1]; rfl
      have hbig : i * 2 ^ 20 ≤ 2 ^ 20 * 2 ^ 20 := Nat.mul_le_mul_right _ (by omega)
      have ew := wrap_succ (i := i) (by omega)
      have hsub : ((txt t).take (i + 1)).count 46 ≤ (txt t).count 46 := (List.take_sublist _ _).count_le _
      rw [hd, subS]
      by_cases h : (txt t)[i] = 46
      · have hcnt : ((txt t).take (i + 1)).count 46 = ((txt t).take i).count 46 + 1 := by rw [htk, List.count_append, h]; rfl
        rw [if_pos h]
        have hn : ((txt t).take i).count 46 < us.length := by omega
        have hgd : List.getD (txs (us.map txt)) (((((txt t).take i).count 46 : Nat) : Int)).toNat (⟨#[]⟩ : ByteArray) = bs (txt (us.getD (((txt t).take i).count 46) .leaf)) := by
          rw [Int.toNat_natCast, txs, List.map_map, gD_map (bs ∘ txt) us _ hn .leaf]; rfl
        have hb := getD_us_c us _ hu (((txt t).take i).count 46)
        have hlt := txt_len (us.getD (((txt t).take i).count 46) .leaf)
        have hn' := ih (i + 1) (cur ++ txt (us.getD (((txt t).take i).count 46) .leaf)) (by omega) (by omega) (by rw [List.length_append, Nat.add_mul]; omega)
        have ec : IntKind.wrap .i64 ((((txt t).take i).count 46 : Nat) + 1 : Int) = ((((txt t).take (i + 1)).count 46 : Nat) : Int) := by rw [hcnt, w64] <;> omega
        rw [← ew, ← bs_append, ← hgd, List.append_assoc, ← ec] at hn'
        rw [hcnt] at hn'
        exact spec_prFill_L0a_i1 _ _ _ _ _ (by rw [bs_size]; omega) (by omega) (by rw [hg, h]; rfl) (by omega) (by omega) (by rw [hgd, bs_size, bs_size]; omega) hn'
      · have hcnt : ((txt t).take (i + 1)).count 46 = ((txt t).take i).count 46 := by
          rw [htk, List.count_append, List.count_cons_of_ne h]; simp
        rw [if_neg h]
        have hx : ByteArray.extract (bs (txt t)) ((i : Int)).toNat ((IntKind.wrap .i64 ((i : Int) + 1))).toNat = bs [(txt t)[i]] := by
          rw [ew, Int.toNat_natCast, Int.toNat_natCast, bs_extract, hd, show i + 1 - i = 1 by omega]; rfl
        have hn' := ih (i + 1) (cur ++ [(txt t)[i]]) (by omega) (by omega) (by rw [List.length_append, Nat.add_mul, List.length_singleton]; omega)
        rw [hcnt] at hn'
        rw [← ew, ← bs_append, ← hx, List.append_assoc, List.singleton_append] at hn'
        exact spec_prFill_L0a_i2 _ _ _ _ _ (by rw [bs_size]; omega) (by omega) (by rw [hg]; intro e; exact h ((byte_eq _ 46).1 e)) (by rw [ew]; omega) (by rw [ew, bs_size]; omega) (by rw [hx, bs_size, bs_size]; simp; omega) hn'
  have h0 := key _ 0 [] rfl (by omega) (by simp)
  rw [List.take_zero, List.count_nil, List.drop_zero, List.nil_append] at h0
  have hs := subS_txt us t [] 0
  rw [List.append_nil, subS, List.append_nil] at hs
  rw [hs] at h0
  exact spec_prFill_p1 _ _ _ _ _ _ _ _ h0

theorem prTimes_SC (p q : Tr × Tr) (hp : p.1.c = p.2.c) (hq : q.1.c = q.2.c) (h1 : p.1.c + q.1.c ≤ 50) :
    SC cfg.P i_spec_prTimes [.s (.v (.pr .str .str) (pt p)), .s (.v (.pr .str .str) (pt q))] (.s (.v (.pr .str .str) (pt (timesT p q)))) [] := by
  have hj := joiT_c p.2 q.1
  have c1 := raw_c1 p q hp
  have c2 := raw_c2 p q hq
  have u1 := partsT_c p.2 (joiT p.2 q.1)
  have u2 := partsT_c q.1 (joiT p.2 q.1)
  have l1 := partsT_len p.2 (joiT p.2 q.1) (partB_l _ _)
  have l2 := partsT_len q.1 (joiT p.2 q.1) (partB_r _ _)
  exact spec_prTimes_p1 _ _ _ _ _ _ _ _ (trJoin_SC p.2 q.1 (by omega) (by omega)) (prParts_SC p.2 (joiT p.2 q.1) (by omega) (by omega) (partB_l _ _)).view
    (prFill_SC (partsT p.2 (joiT p.2 q.1)) p.1 (by omega) (fun x hx => by have := u1 x hx; omega) (by omega)) (prParts_SC q.1 (joiT p.2 q.1) (by omega) (by omega) (partB_r _ _)).view
    (prFill_SC (partsT q.1 (joiT p.2 q.1)) q.2 (by omega) (fun x hx => by have := u2 x hx; omega) (by omega)) (prReduce_SC (rawT p q) (by omega) (by omega))

theorem raw_c (p q : Tr × Tr) (hp : p.1.c = p.2.c) : (timesT p q).1.c ≤ p.1.c + q.1.c := by
  have hj := joiT_c p.2 q.1
  have c1 := raw_c1 p q hp
  have := (red_c (rawT p q).1.c (rawT p q)).1
  show (red (rawT p q).1.c (rawT p q)).1.c ≤ _
  omega

/-! ### Pairs that are told if they fit -/

theorem isTree_txt (t : Tr) : isTree (txt t) = decide (t.c ≤ 8) := by
  by_cases h : t.c ≤ 8
  · rw [decide_eq_true h]; exact (isTree_iff _).2 ⟨t, rfl, h⟩
  · rw [decide_eq_false h]
    cases hb : isTree (txt t) with
    | false => rfl
    | true =>
      obtain ⟨u, e, hu⟩ := (isTree_iff _).1 hb
      have := (txt_inj t u [] [] (by rw [List.append_nil, List.append_nil]; exact e)).1
      subst this
      exact absurd hu h

theorem isPair_txt (p : Tr × Tr) (h : p.1.c = p.2.c) : isPair (txt p.1) (txt p.2) = decide (p.1.c ≤ 8) := by
  unfold isPair
  rw [isTree_txt, isTree_txt, ← h]
  by_cases h8 : p.1.c ≤ 8
  · have t1 : isTree (txt p.1) = true := by rw [isTree_txt, decide_eq_true h8]
    have t2 : isTree (txt p.2) = true := by rw [isTree_txt, ← h, decide_eq_true h8]
    have e1 := (treeOf_txt t1).1
    have e2 := (treeOf_txt t2).1
    have f1 := (txt_inj p.1 (treeOf (txt p.1)) [] [] (by rw [List.append_nil, List.append_nil]; exact e1)).1
    have f2 := (txt_inj p.2 (treeOf (txt p.2)) [] [] (by rw [List.append_nil, List.append_nil]; exact e2)).1
    rw [← f1, ← f2, h]
    simp
  · rw [decide_eq_false h8]; rfl

def fitV (p : Tr × Tr) : ByteArray × ByteArray := if p.1.c ≤ 8 then pt p else (⟨#[]⟩, ⟨#[]⟩)

theorem fits_SC (p : Tr × Tr) (h1 : p.1.c ≤ 2 ^ 20) (h2 : p.2.c ≤ 2 ^ 20) : SC cfg.P i_impl_pair_fits [.s (.v (.pr .tree .tree) p)] (.tup [.v (.pr .str .str) (fitV p), .v .bool (decide (p.1.c ≤ 8))]) [] := by
  have hc := carets_SC p.1 (by omega)
  by_cases h : p.1.c ≤ 8
  · rw [fitV, if_pos h, decide_eq_true h]
    exact impl_pair_fits_p2 _ _ _ hc (by omega) (plain_SC p h1 h2)
  · rw [fitV, if_neg h, decide_eq_false h]
    exact impl_pair_fits_p1 _ _ hc (by omega)

theorem prIf_SC (p : Tr × Tr) (hp : p.1.c = p.2.c) (h1 : p.1.c ≤ 2 ^ 20) : SC cfg.P i_spec_prIf [.s (.v (.pr .str .str) (pt p))] (.tup [.v (.pr .str .str) (fitV p), .v .bool (decide (p.1.c ≤ 8))]) [] := by
  have l1 := txt_len p.1
  have l2 := txt_len p.2
  have hg := prGood_SC (txt p.1) (txt p.2) (by omega) (by omega)
  rw [isPair_txt p hp] at hg
  by_cases h : p.1.c ≤ 8
  · rw [decide_eq_true h] at hg
    rw [fitV, if_pos h, decide_eq_true h]
    exact spec_prIf_p1 _ hg
  · rw [decide_eq_false h] at hg
    rw [fitV, if_neg h, decide_eq_false h]
    exact spec_prIf_p2 _ hg

def twoB (a b c d : List UInt8) : Bool := isPair a b && isPair c d

theorem two_SC (a b c d : List UInt8) (ha : a.length ≤ 2 ^ 40) (hb : b.length ≤ 2 ^ 40) (hc : c.length ≤ 2 ^ 40) (hd : d.length ≤ 2 ^ 40) :
    SC cfg.P i_impl_two [.s (.v (.pr .str .str) (bs a, bs b)), .s (.v (.pr .str .str) (bs c, bs d))] (.tup [.v (.pr .tree .tree) (treeOf a, treeOf b), .v (.pr .tree .tree) (treeOf c, treeOf d), .v .bool (twoB a b c d)]) [] := by
  have h1 := pairOf_SC a b ha hb
  have h2 := pairOf_SC c d hc hd
  unfold twoB
  cases e1 : isPair a b with
  | false => rw [e1] at h1; exact impl_two_p2 _ _ _ _ _ h1 h2
  | true => rw [e1] at h1; exact impl_two_p1 _ _ _ _ _ h1 h2

end Go.AI
end

section
/- The law of DoCommute. -/
set_option autoImplicit false
set_option maxRecDepth 100000
set_option linter.unusedVariables false
namespace Go.AI
open Go.Proofs

theorem ptext_SC (p : Tr × Tr) (h1 : p.1.c ≤ 2 ^ 20) (h2 : p.2.c ≤ 2 ^ 20) : SC cfg.P i_impl_pair_text [.s (.v (.pr .tree .tree) p)] (.s (.v .str (bs (txt p.1 ++ 62 :: txt p.2)))) [] := by
  have l1 := txt_len p.1
  have l2 := txt_len p.2
  have s1 : ((⟨#[62]⟩ : ByteArray)).size = 1 := rfl
  have e1 : bs (txt p.1) ++ (⟨#[62]⟩ : ByteArray) = bs (txt p.1 ++ [62]) := by show bs (txt p.1) ++ bs [62] = _; rw [bs_append]
  have e2 : bs (txt p.1) ++ (⟨#[62]⟩ : ByteArray) ++ bs (txt p.2) = bs (txt p.1 ++ 62 :: txt p.2) := by rw [e1, bs_append, List.append_assoc]; rfl
  have := impl_pair_text_p1 p _ _ (text_SC p.1 (by omega)) (by rw [bs_size, s1]; omega) (text_SC p.2 (by omega)) (by rw [e1, bs_size, bs_size]; simp; omega)
  rw [e2] at this
  exact this

theorem ptext_inj (p q : Tr × Tr) : bs (txt p.1 ++ 62 :: txt p.2) = bs (txt q.1 ++ 62 :: txt q.2) ↔ p = q := by
  rw [bs_inj]
  constructor
  · intro h
    obtain ⟨h1, h2⟩ := txt_inj p.1 q.1 _ _ h
    have h3 := (List.cons.inj h2).2
    have h4 := (txt_inj p.2 q.2 [] [] (by rw [List.append_nil, List.append_nil]; exact h3)).1
    exact Prod.ext h1 h4
  · rintro rfl; rfl

theorem pt_eq (p q : Tr × Tr) : ((((pt p).1).toList == ((pt q).1).toList) && (((pt p).2).toList == ((pt q).2).toList)) = decide (p = q) := by
  have key : ∀ a b : Tr, ((bs (txt a)).toList == (bs (txt b)).toList) = decide (a = b) := by
    intro a b
    by_cases h : a = b
    · subst h; simp
    · rw [decide_eq_false h]
      exact seq_f fun h1 => h (txt_inj a b [] [] (by rw [List.append_nil, List.append_nil]; exact bs_inj.1 h1)).1
  show (((bs (txt p.1)).toList == (bs (txt q.1)).toList) && ((bs (txt p.2)).toList == (bs (txt q.2)).toList)) = _
  rw [key, key]
  by_cases h1 : p.1 = q.1
  · by_cases h2 : p.2 = q.2
    · rw [decide_eq_true h1, decide_eq_true h2, decide_eq_true (Prod.ext h1 h2)]; rfl
    · rw [decide_eq_false h2, decide_eq_false (show ¬ (p = q) from fun e => h2 (congrArg Prod.snd e)), Bool.and_false]
  · rw [decide_eq_false h1, decide_eq_false (show ¬ (p = q) from fun e => h1 (congrArg Prod.fst e)), Bool.false_and]

def dcG (a b e f : List UInt8) : Bool := twoB a b e f && decide ((timesT (treeOf a, treeOf b) (treeOf e, treeOf f)).1.c ≤ 8) && decide ((timesT (treeOf e, treeOf f) (treeOf a, treeOf b)).1.c ≤ 8)
def dcB (a b e f : List UInt8) : Bool := dcG a b e f && decide (timesT (treeOf a, treeOf b) (treeOf e, treeOf f) = timesT (treeOf e, treeOf f) (treeOf a, treeOf b))

theorem specDC_SC (a b e f : List UInt8) (ha : a.length ≤ 2 ^ 40) (hb : b.length ≤ 2 ^ 40) (he : e.length ≤ 2 ^ 40) (hf : f.length ≤ 2 ^ 40) :
    SC cfg.P i_spec_DoCommute [.s (.v (.pr .str .str) (bs a, bs b)), .s (.v (.pr .str .str) (bs e, bs f))] (.tup [.v .bool (dcB a b e f), .v .bool (dcG a b e f)]) [] := by
  have h1 := prGood_SC a b ha hb
  have h2 := prGood_SC e f he hf
  unfold dcB dcG twoB
  cases t1 : isPair a b with
  | false => rw [t1] at h1; exact spec_DoCommute_p6 _ _ h1
  | true =>
    rw [t1] at h1
    cases t2 : isPair e f with
    | false => rw [t2] at h2; exact spec_DoCommute_p5 _ _ h1 h2
    | true =>
      rw [t2] at h2
      obtain ⟨a1, a2, a3, a4, a5⟩ := isPair_trees t1
      obtain ⟨b1, b2, b3, b4, b5⟩ := isPair_trees t2
      have e1 : pt (treeOf a, treeOf b) = (bs a, bs b) := by rw [pt, ← a1, ← a2]
      have e2 : pt (treeOf e, treeOf f) = (bs e, bs f) := by rw [pt, ← b1, ← b2]
      have ht := prTimes_SC (treeOf a, treeOf b) (treeOf e, treeOf f) a5 b5 (by simp only; omega)
      have hu := prTimes_SC (treeOf e, treeOf f) (treeOf a, treeOf b) b5 a5 (by simp only; omega)
      have c1 := raw_c (treeOf a, treeOf b) (treeOf e, treeOf f) a5
      have c2 := raw_c (treeOf e, treeOf f) (treeOf a, treeOf b) b5
      have q1 := times_eqc (treeOf a, treeOf b) (treeOf e, treeOf f) a5 b5
      have q2 := times_eqc (treeOf e, treeOf f) (treeOf a, treeOf b) b5 a5
      simp only at c1 c2
      rw [e1, e2] at ht
      rw [e1, e2] at hu
      generalize timesT (treeOf a, treeOf b) (treeOf e, treeOf f) = x at *
      generalize timesT (treeOf e, treeOf f) (treeOf a, treeOf b) = y at *
      have i1 := prIf_SC x q1 (by omega)
      have i2 := prIf_SC y q2 (by omega)
      by_cases g1 : x.1.c ≤ 8
      · rw [decide_eq_true g1] at i1 ⊢
        rw [fitV, if_pos g1] at i1
        by_cases g2 : y.1.c ≤ 8
        · rw [decide_eq_true g2] at i2 ⊢
          rw [fitV, if_pos g2] at i2
          by_cases hxy : x = y
          · rw [decide_eq_true hxy]
            exact spec_DoCommute_p1 _ _ _ _ _ _ h1 h2 ht i1 hu i2 (by rw [pt_eq, decide_eq_true hxy])
          · rw [decide_eq_false hxy]
            exact spec_DoCommute_p2 _ _ _ _ _ _ h1 h2 ht i1 hu i2 (by rw [pt_eq, decide_eq_false hxy])
        · rw [decide_eq_false g2] at i2 ⊢
          exact spec_DoCommute_p3 _ _ _ _ _ _ h1 h2 ht i1 hu i2
      · rw [decide_eq_false g1] at i1 ⊢
        exact spec_DoCommute_p4 _ _ _ _ _ _ _ h1 h2 ht i1 hu i2

theorem implDC_SC (a b e f : List UInt8) (ha : a.length ≤ 2 ^ 40) (hb : b.length ≤ 2 ^ 40) (he : e.length ≤ 2 ^ 40) (hf : f.length ≤ 2 ^ 40) :
    SC cfg.P i_impl_DoCommute [.s (.v (.pr .str .str) (bs a, bs b)), .s (.v (.pr .str .str) (bs e, bs f))] (.tup [.v .bool (dcB a b e f), .v .bool (dcG a b e f)]) [] := by
  have h1 := two_SC a b e f ha hb he hf
  unfold dcB dcG
  cases t : twoB a b e f with
  | false => rw [t] at h1; exact impl_DoCommute_p5 _ _ _ _ h1
  | true =>
    rw [t] at h1
    have t' := t
    simp only [twoB, Bool.and_eq_true] at t'
    obtain ⟨a1, a2, a3, a4, a5⟩ := isPair_trees t'.1
    obtain ⟨b1, b2, b3, b4, b5⟩ := isPair_trees t'.2
    have ht := times_SC (treeOf a, treeOf b) (treeOf e, treeOf f) a5 b5 (by simp only; omega) (by simp only; omega)
    have hu := times_SC (treeOf e, treeOf f) (treeOf a, treeOf b) b5 a5 (by simp only; omega) (by simp only; omega)
    have c1 := raw_c (treeOf a, treeOf b) (treeOf e, treeOf f) a5
    have c2 := raw_c (treeOf e, treeOf f) (treeOf a, treeOf b) b5
    have q1 := times_eqc (treeOf a, treeOf b) (treeOf e, treeOf f) a5 b5
    have q2 := times_eqc (treeOf e, treeOf f) (treeOf a, treeOf b) b5 a5
    simp only at c1 c2
    generalize timesT (treeOf a, treeOf b) (treeOf e, treeOf f) = x at *
    generalize timesT (treeOf e, treeOf f) (treeOf a, treeOf b) = y at *
    have k1 := carets_SC x.1 (by omega)
    have k2 := carets_SC y.1 (by omega)
    by_cases g1 : x.1.c ≤ 8
    · rw [decide_eq_true g1]
      by_cases g2 : y.1.c ≤ 8
      · rw [decide_eq_true g2]
        have t1 := ptext_SC x (by omega) (by omega)
        have t2 := ptext_SC y (by omega) (by omega)
        by_cases hxy : x = y
        · rw [decide_eq_true hxy]
          exact impl_DoCommute_p3 _ _ _ _ _ _ _ _ _ _ h1 ht hu k1 (by omega) k2 (by omega) t1 t2 ((ptext_inj x y).2 hxy)
        · rw [decide_eq_false hxy]
          exact impl_DoCommute_p4 _ _ _ _ _ _ _ _ _ _ h1 ht hu k1 (by omega) k2 (by omega) t1 t2 (fun h => hxy ((ptext_inj x y).1 h))
      · rw [decide_eq_false g2]
        exact impl_DoCommute_p2 _ _ _ _ _ _ _ _ h1 ht hu k1 (by omega) k2 (by omega)
    · rw [decide_eq_false g1]
      exact impl_DoCommute_p1 _ _ _ _ _ _ _ h1 ht hu k1 (by omega)

end Go.AI
end

section
/- The law of ProductPair. -/
set_option autoImplicit false
set_option maxRecDepth 100000
set_option linter.unusedVariables false
namespace Go.AI
open Go.Proofs

/-- The product that is told. -/
def prodP (a b e f : List UInt8) : Tr × Tr := timesT (treeOf a, treeOf b) (treeOf e, treeOf f)
def ppB (a b e f : List UInt8) : Bool := twoB a b e f && decide ((prodP a b e f).1.c ≤ 8)
def ppV (a b e f : List UInt8) : ByteArray × ByteArray := if twoB a b e f = true then fitV (prodP a b e f) else (⟨#[]⟩, ⟨#[]⟩)

theorem implPP_SC (a b e f : List UInt8) (ha : a.length ≤ 2 ^ 40) (hb : b.length ≤ 2 ^ 40) (he : e.length ≤ 2 ^ 40) (hf : f.length ≤ 2 ^ 40) :
    SC cfg.P i_impl_ProductPair [.s (.v (.pr .str .str) (bs a, bs b)), .s (.v (.pr .str .str) (bs e, bs f))] (.tup [.v (.pr .str .str) (ppV a b e f), .v .bool (ppB a b e f)]) [] := by
  have h1 := two_SC a b e f ha hb he hf
  unfold ppV ppB
  cases t : twoB a b e f with
  | false => rw [t] at h1; exact impl_ProductPair_p2 _ _ _ _ h1
  | true =>
    rw [t] at h1
    have t' := t
    simp only [twoB, Bool.and_eq_true] at t'
    obtain ⟨a1, a2, a3, a4, a5⟩ := isPair_trees t'.1
    obtain ⟨b1, b2, b3, b4, b5⟩ := isPair_trees t'.2
    have hc := raw_c (treeOf a, treeOf b) (treeOf e, treeOf f) a5
    have hq := times_eqc (treeOf a, treeOf b) (treeOf e, treeOf f) a5 b5
    simp only at hc
    exact impl_ProductPair_p1 _ _ _ _ _ _ _ h1 (times_SC _ _ a5 b5 (by simp only; omega) (by simp only; omega)) (fits_SC _ (by omega) (by omega))


end Go.AI
end
