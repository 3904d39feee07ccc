/- A part of the road: what it proves stands in its last texts. -/
import Derived.Test.YtdfllkeekehplaaGreatCR
import Derived.Test.YtdfllkeekehplaaGreatGN
import Derived.Test.YtdfllkeekehplaaGreatJC
import Derived.Test.YtdfllkeekehplaaGreatJA
import Derived.Test.YtdfllkeekehplaaGreatJB
section
/- Contracts: reduced pairs. -/
set_option autoImplicit false
set_option maxRecDepth 100000
set_option linter.unusedVariables false
namespace Go.AI
open Go.Proofs

theorem red_L : ∀ (n : Nat) (p z : Tr × Tr), p.1.c ≤ n → p.1.c ≤ 2 ^ 20 → p.2.c ≤ 2 ^ 20 → LoopSC cfg.P 1 (lb P_impl_pair_reduced 0) (impl_pair_reduced_L0a p z) .ret (impl_pair_reduced_L0X1 (red n p)) := by
  intro n
  induction n with
  | zero =>
    intro p z hn h1 h2
    have hb := both_SC p h1 h2
    have hl : p.1 = .leaf := by
      cases hp : p.1 with
      | leaf => rfl
      | node l r => rw [hp] at hn; simp only [Tr.c] at hn; omega
    have e : bothL p = [] := by simp [bothL, hl, exL]
    rw [e] at hb
    exact impl_pair_reduced_L0a_x1 _ _ _ hb rfl
  | succ n ih =>
    intro p z hn h1 h2
    have hb := both_SC p h1 h2
    cases hB : bothL p with
    | nil =>
      rw [hB] at hb
      have e : red (n + 1) p = p := by simp only [red, hB]
      rw [e]
      exact impl_pair_reduced_L0a_x1 _ _ _ hb rfl
    | cons k ks =>
      have hmem : k ∈ bothL p := by rw [hB]; exact List.mem_cons_self
      have hd := drop_SC p k h1 h2 hmem
      have c1 := wo_c p.1 k (bothL_mem hmem).1
      have c2 := wo_c p.2 k (bothL_mem hmem).2
      have e : red (n + 1) p = red n (wo p.1 k, wo p.2 k) := by simp only [red, hB]
      rw [e]
      rw [hB] at hb
      have hn' := ih (wo p.1 k, wo p.2 k) z (by simp only; omega) (by simp only; omega) (by simp only; omega)
      exact impl_pair_reduced_L0a_i2 _ _ _ _ hb (by simp <;> omega) (by simp <;> omega) (by simp) hd hn'

theorem reduced_SC (p : Tr × Tr) (h1 : p.1.c ≤ 2 ^ 20) (h2 : p.2.c ≤ 2 ^ 20) : SC cfg.P i_impl_pair_reduced [.s (.v (.pr .tree .tree) p)] (.s (.v (.pr .tree .tree) (red p.1.c p))) [] :=
  impl_pair_reduced_p1 _ _ (red_L _ p _ (Nat.le_refl _) h1 h2)

end Go.AI
end

section
/- Contracts: pairs reduced by the reference. -/
set_option autoImplicit false
set_option maxRecDepth 100000
set_option linter.unusedVariables false
namespace Go.AI
open Go.Proofs

theorem prReduce_L : ∀ (n : Nat) (p : Tr × Tr) (z : ByteArray × ByteArray) (st : Nat), p.1.c ≤ n → p.1.c ≤ 2 ^ 20 → p.2.c ≤ 2 ^ 20 → st + n ≤ 2 ^ 30 →
    ∃ st' : Nat, LoopSC cfg.P 2 (lb P_spec_prReduce 0) (spec_prReduce_L0b ([] : List Int) (st : Int) (pt p) z (ints (bothL p))) (.exit 0) (spec_prReduce_L0X2 ([] : List Int) (st' : Int) false (pt (red n p)) z (ints (bothL (red n p)))) := by
  intro n
  induction n with
  | zero =>
    intro p z st hn h1 h2 hs
    have hl : p.1 = .leaf := by
      cases hp : p.1 with
      | leaf => rfl
      | node l r => rw [hp] at hn; simp only [Tr.c] at hn; omega
    have e : bothL p = [] := by simp [bothL, hl, exL]
    refine ⟨st, ?_⟩
    show LoopSC cfg.P 2 (lb P_spec_prReduce 0) (spec_prReduce_L0b ([] : List Int) (st : Int) (pt p) z (ints (bothL p))) (.exit 0) (spec_prReduce_L0X2 ([] : List Int) (st : Int) false (pt p) z (ints (bothL p)))
    exact spec_prReduce_L0b_x3 _ _ _ _ _ (by rw [e]; simp)
  | succ n ih =>
    intro p z st hn h1 h2 hs
    cases hB : bothL p with
    | nil =>
      have e : red (n + 1) p = p := by simp only [red, hB]
      rw [e, hB]
      exact ⟨st, spec_prReduce_L0b_x3 _ _ _ _ _ (by simp)⟩
    | cons k ks =>
      have hmem : k ∈ bothL p := by rw [hB]; exact List.mem_cons_self
      have c1 := wo_c p.1 k (bothL_mem hmem).1
      have c2 := wo_c p.2 k (bothL_mem hmem).2
      have e : red (n + 1) p = red n (wo p.1 k, wo p.2 k) := by simp only [red, hB]
      rw [e]
      obtain ⟨st', hn'⟩ := ih (wo p.1 k, wo p.2 k) z (st + 1) (by simp only; omega) (by simp only; omega) (by simp only; omega) (by omega)
      have ew : IntKind.wrap .i64 ((st : Int) + 1) = ((st + 1 : Nat) : Int) := by rw [w64] <;> omega
      rw [← ew] at hn'
      exact ⟨st', spec_prReduce_L0b_i2 _ _ _ _ _ _ _ _ (by simp <;> omega) (by simp) (by simp <;> omega) (by simp) (trDrop_SC p.1 k h1 (bothL_mem hmem).1) (trDrop_SC p.2 k h2 (bothL_mem hmem).2) (prBoth_SC (wo p.1 k, wo p.2 k) (by simp only; omega) (by simp only; omega)) hn'⟩

theorem prReduce_SC (p : Tr × Tr) (h1 : p.1.c ≤ 2 ^ 20) (h2 : p.2.c ≤ 2 ^ 20) : SC cfg.P i_spec_prReduce [.s (.v (.pr .str .str) (pt p)), .s (.v (.sl (.int .i64)) ([] : List Int))] (.s (.v (.pr .str .str) (pt (red p.1.c p)))) [] := by
  have hb := prBoth_SC p h1 h2
  cases hB : bothL p with
  | nil =>
    have e : red p.1.c p = p := by
      cases p.1.c with
      | zero => rfl
      | succ n => simp only [red, hB]
    rw [e]
    rw [hB] at hb
    exact spec_prReduce_p1 _ _ _ _ _ _ _ _ _ hb (spec_prReduce_L0a_x3 _ _ _ _ _ (by simp))
  | cons k ks =>
    have hmem : k ∈ bothL p := by rw [hB]; exact List.mem_cons_self
    have c1 := wo_c p.1 k (bothL_mem hmem).1
    have c2 := wo_c p.2 k (bothL_mem hmem).2
    obtain ⟨n, hc⟩ : ∃ n, p.1.c = n + 1 := ⟨(wo p.1 k).c, c1.symm⟩
    have e : red p.1.c p = red n (wo p.1 k, wo p.2 k) := by rw [hc]; simp only [red, hB]
    rw [e]
    rw [hB] at hb
    obtain ⟨st', hn'⟩ := prReduce_L n (wo p.1 k, wo p.2 k) ((⟨#[]⟩ : ByteArray), (⟨#[]⟩ : ByteArray)) 1 (by simp only; omega) (by simp only; omega) (by simp only; omega) (by omega)
    have ew : IntKind.wrap .i64 ((0 : Int) + 1) = ((1 : Nat) : Int) := by rw [w64] <;> omega
    rw [← ew] at hn'
    exact spec_prReduce_p2 _ _ _ _ _ _ _ _ _ hb (spec_prReduce_L0a_i2 _ _ _ _ _ _ _ _ (by simp <;> omega) (by simp) (by simp <;> omega) (by simp) (trDrop_SC p.1 k h1 (bothL_mem hmem).1) (trDrop_SC p.2 k h2 (bothL_mem hmem).2) (prBoth_SC (wo p.1 k, wo p.2 k) (by simp only; omega) (by simp only; omega)) hn')

end Go.AI
end

section
/- Contracts: products of pairs. -/
set_option autoImplicit false
set_option maxRecDepth 100000
set_option linter.unusedVariables false
namespace Go.AI
open Go.Proofs

theorem getD_us_c (us : List Tr) (b : Nat) (h : ∀ u ∈ us, u.c ≤ b) (i : Nat) : (us.getD i .leaf).c ≤ b := getD_leaf_c h i

/-- A tree grown by a function that gives the trees of a row. -/
theorem grownP_SC (F : FuncId) (g : Tr) (h : List ByteArray) (us : List Tr) (m : Nat) (hm : m ≤ 2 ^ 30)
    (hF : ∀ k, k < m → SC cfg.P F [.s (.v (.int .i64) (k : Int)), .s (.fadr .tree g), .s (.fadr (.sl .str) h)] (.s (.v .tree (us.getD k .leaf))) []) :
    ∀ (t : Tr) (n : Nat), n + t.c + 1 ≤ m → SC cfg.P i_impl_node_grown [.s (.v .tree t), .s (.v (.int .i64) (n : Int)), .fn F [] [.fadr .tree g, .fadr (.sl .str) h]] (.s (.v .tree (growT us t n))) []
  | .leaf, n, hn => impl_node_grown_p1 _ _ _ _ _ (hF n (by simp only [Tr.c] at hn; omega))
  | .node a b, n, hn => by
    simp only [Tr.c] at hn
    have hl := leaves_SC a (by omega)
    have ea : IntKind.wrap .i64 ((n : Int) + ((a.c + 1 : Nat) : Int)) = ((n + (a.c + 1) : Nat) : Int) := by rw [w64] <;> omega
    have h2 := grownP_SC F g h us m hm hF b (n + (a.c + 1)) (by omega)
    rw [← ea] at h2
    exact impl_node_grown_p2 _ _ _ _ _ _ _ _ _ (grownP_SC F g h us m hm hF a n (by omega)) hl h2

theorem parts_SC (t u : Tr) (h : t.c ≤ 2 ^ 20) : SC cfg.P i_impl_parts [.s (.v .tree t), .s (.v .tree u)] (.fn i_impl_parts_k1 [] [.fadr .tree u, .fadr (.sl .str) (strs' (adL t []))]) [] :=
  impl_parts_p1 _ _ _ (addresses_SC t [] h (by rw [List.length_nil, Nat.zero_add]; omega))

theorem partsK_SC (t u : Tr) (hp : partB t u = true) (ht : t.c ≤ 2 ^ 20) (k : Nat) (hk : k < t.c + 1) :
    SC cfg.P i_impl_parts_k1 [.s (.v (.int .i64) (k : Int)), .s (.fadr .tree u), .s (.fadr (.sl .str) (strs' (adL t [])))] (.s (.v .tree ((partsT t u).getD k .leaf))) [] := by
  have hal := adL_len t []
  have hsl : (strs' (adL t [])).length = (adL t []).length := List.length_map ..
  have hk1 : k < (adL t []).length := by omega
  have hb := adL_bound t [] _ (List.getElem_mem hk1)
  rw [List.length_nil, Nat.zero_add] at hb
  obtain ⟨b, ha⟩ := at_SC u (adL t [])[k] (by omega)
  have hg := strs_get (adL t []) k hk1
  rw [← hg] at ha
  have e : (partsT t u).getD k .leaf = atR u (adL t [])[k] := by
    rw [← at_parts t u u [] hp (by cases u <;> rfl), List.getD_eq_getElem?_getD, List.getElem?_map, List.getElem?_eq_getElem hk1]
    rfl
  rw [e]
  exact impl_parts_k1_p1 _ _ _ _ _ (by omega) (by omega) ha

theorem times_SC (p q : Tr × Tr) (hp : p.1.c = p.2.c) (hq : q.1.c = q.2.c) (h1 : p.1.c ≤ 2 ^ 18) (h2 : q.1.c ≤ 2 ^ 18) :
    SC cfg.P i_impl_pair_times [.s (.v (.pr .tree .tree) p), .s (.v (.pr .tree .tree) q)] (.s (.v (.pr .tree .tree) (timesT p q))) [] := by
  have hj := joiT_c p.2 q.1
  have c1 := raw_c1 p q hp
  have c2 := raw_c2 p q hq
  have g1 := grownP_SC i_impl_parts_k1 (joiT p.2 q.1) (strs' (adL p.2 [])) (partsT p.2 (joiT p.2 q.1)) (p.2.c + 1) (by omega) (fun k hk => partsK_SC _ _ (partB_l _ _) (by omega) k hk) p.1 0 (by omega)
  have g2 := grownP_SC i_impl_parts_k1 (joiT p.2 q.1) (strs' (adL q.1 [])) (partsT q.1 (joiT p.2 q.1)) (q.1.c + 1) (by omega) (fun k hk => partsK_SC _ _ (partB_r _ _) (by omega) k hk) q.2 0 (by omega)
  exact impl_pair_times_p1 _ _ _ _ _ _ _ _ _ _ (join_SC p.2 q.1) (parts_SC _ _ (by omega)) g1 (parts_SC _ _ (by omega)) g2 (reduced_SC (rawT p q) (by omega) (by omega))

/-! ### The reference's products -/

theorem prFill_SC (us : List Tr) (t : Tr) (ht : t.c ≤ 2 ^ 10) (hu : ∀ u ∈ us, u.c ≤ 2 ^ 10) (hl : us.length = t.c + 1) :
    SC cfg.P i_spec_prFill [.s (.v .str (bs (txt t))), .s (.v (.sl .str) (txs (us.map txt)))] (.s (.v .str (bs (txt (growT us t 0))))) [] := by
  have hm : (txs (us.map txt)).length = us.length := by simp
  have hlen := txt_len t
  have hd46 := txt_dots' t
  have key : ∀ (m i : Nat) (cur : List UInt8), (txt t).length - i = m → i ≤ (txt t).length → cur.length ≤ i * 2 ^ 20 →
      LoopSC cfg.P 2 (lb P_spec_prFill 0) (spec_prFill_L0a (bs (txt t)) (txs (us.map txt)) (bs cur) ((((txt t).take i).count 46 : Nat) : Int) (i : Int)) (.exit 0)
        (spec_prFill_L0X1 (bs (txt t)) (txs (us.map txt)) (bs (cur ++ subS us ((txt t).drop i) (((txt t).take i).count 46))) (((txt t).count 46 : Nat) : Int) ((txt t).length : Int) false) := by
    intro m
    induction m with
    | zero =>
      intro i cur hm' hi hcur
      have e : i = (txt t).length := by omega
      subst e
      rw [List.drop_length, subS, List.append_nil, List.take_length]
      exact spec_prFill_L0a_x3 _ _ _ _ _ (by rw [bs_size]; omega)
    | succ m ih =>
      intro i cur hm' hi hcur
      have hi1 : i < (txt t).length := by omega
      have hd : (txt t).drop i = (txt t)[i] :: (txt t).drop (i + 1) := List.drop_eq_getElem_cons hi1
      have htk : (txt t).take (i + 1) = (txt t).take i ++ [(txt t)[i]] := (List.take_append_getElem hi1).symm
      have hg : bt (bs (txt t)) (i : Int) = ((txt t)[i].toNat : Int) := by rw [bs_bt, Int.toNat_natCast, List.getD_eq_getElem?_getD, List.getElem?_eq_getElem hi1]; rfl
      have hbig : i * 2 ^ 20 ≤ 2 ^ 20 * 2 ^ 20 := Nat.mul_le_mul_right _ (by omega)
      have ew := wrap_succ (i := i) (by omega)
      have hsub : ((txt t).take (i + 1)).count 46 ≤ (txt t).count 46 := (List.take_sublist _ _).count_le _
      rw [hd, subS]
      by_cases h : (txt t)[i] = 46
      · have hcnt : ((txt t).take (i + 1)).count 46 = ((txt t).take i).count 46 + 1 := by rw [htk, List.count_append, h]; rfl
        rw [if_pos h]
        have hn : ((txt t).take i).count 46 < us.length := by omega
        have hgd : List.getD (txs (us.map txt)) (((((txt t).take i).count 46 : Nat) : Int)).toNat (⟨#[]⟩ : ByteArray) = bs (txt (us.getD (((txt t).take i).count 46) .leaf)) := by
          rw [Int.toNat_natCast, txs, List.map_map, gD_map (bs ∘ txt) us _ hn .leaf]; rfl
        have hb := getD_us_c us _ hu (((txt t).take i).count 46)
        have hlt := txt_len (us.getD (((txt t).take i).count 46) .leaf)
        have hn' := ih (i + 1) (cur ++ txt (us.getD (((txt t).take i).count 46) .leaf)) (by omega) (by omega) (by rw [List.length_append, Nat.add_mul]; omega)
        have ec : IntKind.wrap .i64 ((((txt t).take i).count 46 : Nat) + 1 : Int) = ((((txt t).take (i + 1)).count 46 : Nat) : Int) := by rw [hcnt, w64] <;> omega
        rw [← ew, ← bs_append, ← hgd, List.append_assoc, ← ec] at hn'
        rw [hcnt] at hn'
        exact spec_prFill_L0a_i1 _ _ _ _ _ (by rw [bs_size]; omega) (by omega) (by rw [hg, h]; rfl) (by omega) (by omega) (by rw [hgd, bs_size, bs_size]; omega) hn'
      · have hcnt : ((txt t).take (i + 1)).count 46 = ((txt t).take i).count 46 := by
          rw [htk, List.count_append, List.count_cons_of_ne h]; simp
        rw [if_neg h]
        have hx : ByteArray.extract (bs (txt t)) ((i : Int)).toNat ((IntKind.wrap .i64 ((i : Int) + 1))).toNat = bs [(txt t)[i]] := by
          rw [ew, Int.toNat_natCast, Int.toNat_natCast, bs_extract, hd, show i + 1 - i = 1 by omega]; rfl
        have hn' := ih (i + 1) (cur ++ [(txt t)[i]]) (by omega) (by omega) (by rw [List.length_append, Nat.add_mul, List.length_singleton]; omega)
        rw [hcnt] at hn'
        rw [← ew, ← bs_append, ← hx, List.append_assoc, List.singleton_append] at hn'
        exact spec_prFill_L0a_i2 _ _ _ _ _ (by rw [bs_size]; omega) (by omega) (by rw [hg]; intro e; exact h ((byte_eq _ 46).1 e)) (by rw [ew]; omega) (by rw [ew, bs_size]; omega) (by rw [hx, bs_size, bs_size]; simp; omega) hn'
  have h0 := key _ 0 [] rfl (by omega) (by simp)
  rw [List.take_zero, List.count_nil, List.drop_zero, List.nil_append] at h0
  have hs := subS_txt us t [] 0
  rw [List.append_nil, subS, List.append_nil] at hs
  rw [hs] at h0
  exact spec_prFill_p1 _ _ _ _ _ _ _ _ h0

theorem prTimes_SC (p q : Tr × Tr) (hp : p.1.c = p.2.c) (hq : q.1.c = q.2.c) (h1 : p.1.c + q.1.c ≤ 50) :
    SC cfg.P i_spec_prTimes [.s (.v (.pr .str .str) (pt p)), .s (.v (.pr .str .str) (pt q))] (.s (.v (.pr .str .str) (pt (timesT p q)))) [] := by
  have hj := joiT_c p.2 q.1
  have c1 := raw_c1 p q hp
  have c2 := raw_c2 p q hq
  have u1 := partsT_c p.2 (joiT p.2 q.1)
  have u2 := partsT_c q.1 (joiT p.2 q.1)
  have l1 := partsT_len p.2 (joiT p.2 q.1) (partB_l _ _)
  have l2 := partsT_len q.1 (joiT p.2 q.1) (partB_r _ _)
  exact spec_prTimes_p1 _ _ _ _ _ _ _ _ (trJoin_SC p.2 q.1 (by omega) (by omega)) (prParts_SC p.2 (joiT p.2 q.1) (by omega) (by omega) (partB_l _ _)).view
    (prFill_SC (partsT p.2 (joiT p.2 q.1)) p.1 (by omega) (fun x hx => by have := u1 x hx; omega) (by omega)) (prParts_SC q.1 (joiT p.2 q.1) (by omega) (by omega) (partB_r _ _)).view
    (prFill_SC (partsT q.1 (joiT p.2 q.1)) q.2 (by omega) (fun x hx => by have := u2 x hx; omega) (by omega)) (prReduce_SC (rawT p q) (by omega) (by omega))

theorem raw_c (p q : Tr × Tr) (hp : p.1.c = p.2.c) : (timesT p q).1.c ≤ p.1.c + q.1.c := by
  have hj := joiT_c p.2 q.1
  have c1 := raw_c1 p q hp
  have := (red_c (rawT p q).1.c (rawT p q)).1
  show (red (rawT p q).1.c (rawT p q)).1.c ≤ _
  omega

/-! ### Pairs that are told if they fit -/

theorem isTree_txt (t : Tr) : isTree (txt t) = decide (t.c ≤ 8) := by
  by_cases h : t.c ≤ 8
  · rw [decide_eq_true h]; exact (isTree_iff _).2 ⟨t, rfl, h⟩
  · rw [decide_eq_false h]
    cases hb : isTree (txt t) with
    | false => rfl
    | true =>
      obtain ⟨u, e, hu⟩ := (isTree_iff _).1 hb
      have := (txt_inj t u [] [] (by rw [List.append_nil, List.append_nil]; exact e)).1
      subst this
      exact absurd hu h

theorem isPair_txt (p : Tr × Tr) (h : p.1.c = p.2.c) : isPair (txt p.1) (txt p.2) = decide (p.1.c ≤ 8) := by
  unfold isPair
  rw [isTree_txt, isTree_txt, ← h]
  by_cases h8 : p.1.c ≤ 8
  · have t1 : isTree (txt p.1) = true := by rw [isTree_txt, decide_eq_true h8]
    have t2 : isTree (txt p.2) = true := by rw [isTree_txt, ← h, decide_eq_true h8]
    have e1 := (treeOf_txt t1).1
    have e2 := (treeOf_txt t2).1
    have f1 := (txt_inj p.1 (treeOf (txt p.1)) [] [] (by rw [List.append_nil, List.append_nil]; exact e1)).1
    have f2 := (txt_inj p.2 (treeOf (txt p.2)) [] [] (by rw [List.append_nil, List.append_nil]; exact e2)).1
    rw [← f1, ← f2, h]
    simp
  · rw [decide_eq_false h8]; rfl

def fitV (p : Tr × Tr) : ByteArray × ByteArray := if p.1.c ≤ 8 then pt p else (⟨#[]⟩, ⟨#[]⟩)

theorem fits_SC (p : Tr × Tr) (h1 : p.1.c ≤ 2 ^ 20) (h2 : p.2.c ≤ 2 ^ 20) : SC cfg.P i_impl_pair_fits [.s (.v (.pr .tree .tree) p)] (.tup [.v (.pr .str .str) (fitV p), .v .bool (decide (p.1.c ≤ 8))]) [] := by
  have hc := carets_SC p.1 (by omega)
  by_cases h : p.1.c ≤ 8
  · rw [fitV, if_pos h, decide_eq_true h]
    exact impl_pair_fits_p2 _ _ _ hc (by omega) (plain_SC p h1 h2)
  · rw [fitV, if_neg h, decide_eq_false h]
    exact impl_pair_fits_p1 _ _ hc (by omega)

theorem prIf_SC (p : Tr × Tr) (hp : p.1.c = p.2.c) (h1 : p.1.c ≤ 2 ^ 20) : SC cfg.P i_spec_prIf [.s (.v (.pr .str .str) (pt p))] (.tup [.v (.pr .str .str) (fitV p), .v .bool (decide (p.1.c ≤ 8))]) [] := by
  have l1 := txt_len p.1
  have l2 := txt_len p.2
  have hg := prGood_SC (txt p.1) (txt p.2) (by omega) (by omega)
  rw [isPair_txt p hp] at hg
  by_cases h : p.1.c ≤ 8
  · rw [decide_eq_true h] at hg
    rw [fitV, if_pos h, decide_eq_true h]
    exact spec_prIf_p1 _ hg
  · rw [decide_eq_false h] at hg
    rw [fitV, if_neg h, decide_eq_false h]
    exact spec_prIf_p2 _ hg

end Go.AI
end

section
/- Contracts: stacked forests; the law of StackForests. -/
set_option autoImplicit false
set_option maxRecDepth 100000
set_option linter.unusedVariables false
namespace Go.AI
open Go.Proofs

theorem getD_le_c {ts : List Tr} {b : Nat} (h : ∀ t ∈ ts, t.c ≤ b) (i : Nat) : (ts.getD i .leaf).c ≤ b := by
  by_cases hi : i < ts.length
  · exact h _ (gD_mem hi .leaf)
  · rw [List.getD_eq_getElem?_getD, List.getElem?_eq_none (by omega)]
    simp [Tr.c]

theorem grown_SC (us : List Tr) : ∀ (t : Tr) (n : Nat), t.c ≤ 2 ^ 20 → n ≤ 2 ^ 40 → SC cfg.P i_impl_node_grown [.s (.v .tree t), .s (.v (.int .i64) (n : Int)), .fn i_impl_forest_tree [.v (.sl .tree) us] []] (.s (.v .tree (growT us t n))) []
  | .leaf, n, _, _ => impl_node_grownB_p1 _ _ _ _ (ftree_SC us n)
  | .node a b, n, h, hn => by
    simp only [Tr.c] at h
    have hl := leaves_SC a (by omega)
    have ea : IntKind.wrap .i64 ((n : Int) + ((a.c + 1 : Nat) : Int)) = ((n + (a.c + 1) : Nat) : Int) := by rw [w64] <;> omega
    have h2 := grown_big us b (n + (a.c + 1)) (by omega) (by omega)
    rw [← ea] at h2
    exact impl_node_grownB_p2 _ _ _ _ _ _ _ _ (grown_SC us a n (by omega) hn) hl h2
where
  grown_big (us : List Tr) : ∀ (t : Tr) (n : Nat), t.c ≤ 2 ^ 20 → n + t.c ≤ 2 ^ 41 → SC cfg.P i_impl_node_grown [.s (.v .tree t), .s (.v (.int .i64) (n : Int)), .fn i_impl_forest_tree [.v (.sl .tree) us] []] (.s (.v .tree (growT us t n))) []
    | .leaf, n, _, _ => impl_node_grownB_p1 _ _ _ _ (ftree_SC us n)
    | .node a b, n, h, hn => by
      simp only [Tr.c] at h hn
      have hl := leaves_SC a (by omega)
      have ea : IntKind.wrap .i64 ((n : Int) + ((a.c + 1 : Nat) : Int)) = ((n + (a.c + 1) : Nat) : Int) := by rw [w64] <;> omega
      have h2 := grown_big us b (n + (a.c + 1)) (by omega) (by omega)
      rw [← ea] at h2
      exact impl_node_grownB_p2 _ _ _ _ _ _ _ _ (grown_big us a n (by omega) (by omega)) hl h2

/-- The stacked trees, from a root and a leaf on. -/
def stk (ts us : List Tr) : Nat → Nat → Nat → List Tr
  | 0, _, _ => []
  | n + 1, k, at' => if k < ts.length ∨ at' < us.length then growT us (ts.getD k .leaf) at' :: stk ts us n (k + 1) (at' + ((ts.getD k .leaf).c + 1)) else []

/-- One forest stacked on another one. -/
def stackL (ts us : List Tr) : List Tr := stk ts us (ts.length + us.length) 0 0

theorem stk_len (ts us : List Tr) : ∀ n k a, (stk ts us n k a).length ≤ n
  | 0, _, _ => Nat.le_refl _
  | n + 1, k, a => by
    rw [stk]
    split
    · have := stk_len ts us n (k + 1) (a + ((ts.getD k .leaf).c + 1)); rw [List.length_cons]; omega
    · simp

theorem stk_c (ts us : List Tr) (b c : Nat) (h1 : ∀ t ∈ ts, t.c ≤ b) (h2 : ∀ u ∈ us, u.c ≤ c) : ∀ n k a, ∀ t ∈ stk ts us n k a, t.c ≤ b + (b + 1) * c
  | 0, _, _, t, h => by cases h
  | n + 1, k, a, t, h => by
    rw [stk] at h
    split at h
    · rcases List.mem_cons.1 h with rfl | h
      · have g1 := growT_c us c h2 (ts.getD k .leaf) a
        have g2 := getD_le_c h1 k
        have : ((ts.getD k .leaf).c + 1) * c ≤ (b + 1) * c := Nat.mul_le_mul_right _ (by omega)
        omega
      · exact stk_c ts us b c h1 h2 n _ _ t h
    · cases h

theorem stack_L (ts us : List Tr) (h1 : ts.length ≤ 2 ^ 20) (h2 : us.length ≤ 2 ^ 20) (hc : ∀ t ∈ ts, t.c ≤ 2 ^ 10) : ∀ (n k a : Nat) (cur : List Tr), (ts.length - k) + (us.length - a) ≤ n → k ≤ 2 ^ 21 → cur.length ≤ k → a ≤ k * 2 ^ 11 → n + k ≤ 2 ^ 21 →
    ∃ k' a', LoopSC cfg.P 2 (lb P_impl_forest_stack 0) (impl_forest_stack_L0a ts us (a : Int) (k : Int) cur) (.exit 0) (impl_forest_stack_L0X1 ts us a' k' false (cur ++ stk ts us n k a)) := by
  intro n
  induction n with
  | zero =>
    intro k a cur hm hk hcur ha hn
    rw [stk, List.append_nil]
    exact ⟨_, _, impl_forest_stack_L0a_x3 _ _ _ _ _ (by omega) (by omega)⟩
  | succ n ih =>
    intro k a cur hm hk hcur ha hn
    by_cases h : k < ts.length ∨ a < us.length
    · have hb := getD_le_c hc k
      have hbig : k * 2 ^ 11 ≤ 2 ^ 21 * 2 ^ 11 := Nat.mul_le_mul_right _ hk
      obtain ⟨k', a', hn'⟩ := ih (k + 1) (a + ((ts.getD k .leaf).c + 1)) (cur ++ [growT us (ts.getD k .leaf) a]) (by omega) (by omega) (by simp; omega) (by rw [Nat.add_mul]; omega) (by omega)
      have ew : IntKind.wrap .i64 ((a : Int) + (((ts.getD k .leaf).c + 1 : Nat) : Int)) = ((a + ((ts.getD k .leaf).c + 1) : Nat) : Int) := by rw [w64] <;> omega
      rw [stk, if_pos h]
      rw [List.append_assoc, List.singleton_append, ← wrap_succ (by omega), ← ew] at hn'
      have ht := ftree_SC ts k
      have hg := grown_SC us (ts.getD k .leaf) a (by omega) (by omega)
      have hl := leaves_SC (ts.getD k .leaf) (by omega)
      by_cases hk1 : k < ts.length
      · exact ⟨k', a', impl_forest_stack_L0a_i1 _ _ _ _ _ _ _ _ (by omega) ht hg (sizeOK_one (by omega)) hl hn'⟩
      · exact ⟨k', a', impl_forest_stack_L0a_i2 _ _ _ _ _ _ _ _ (by omega) (by omega) ht hg (sizeOK_one (by omega)) hl hn'⟩
    · rw [stk, if_neg h, List.append_nil]
      exact ⟨_, _, impl_forest_stack_L0a_x3 _ _ _ _ _ (by omega) (by omega)⟩

theorem stack_SC (ts us : List Tr) (h1 : ts.length ≤ 2 ^ 19) (h2 : us.length ≤ 2 ^ 19) (hc : ∀ t ∈ ts, t.c ≤ 2 ^ 10) : SC cfg.P i_impl_forest_stack [.s (.v (.sl .tree) ts), .s (.v (.sl .tree) us)] (.s (.own t_pimpl_node .tree (stackL ts us))) [] := by
  obtain ⟨k', a', hL⟩ := stack_L ts us (by omega) (by omega) hc (ts.length + us.length) 0 0 [] (by omega) (by omega) (by simp) (by omega) (by omega)
  rw [List.nil_append] at hL
  exact impl_forest_stack_p1 _ _ _ _ _ _ _ _ hL

/-! ### The reference's side: texts in place of points -/

theorem fo_facts' {fs : List (List UInt8)} (h : isFo fs = true) : fs = (treesOf fs).map txt ∧ (treesOf fs).length ≤ 8 ∧ ∀ t ∈ treesOf fs, t.c ≤ 8 := by
  obtain ⟨h1, h2, h3, h4, h5⟩ := isFo_spec h
  have hl : (treesOf fs).length = fs.length := List.length_map ..
  exact ⟨h5, by omega, fun t ht => Nat.le_trans (c_le_sum _ t ht) h3⟩

def stackV (fs gs : List (List UInt8)) : List (List UInt8) := if (isFo fs && isFo gs) = true then foTexts (stackL (treesOf fs) (treesOf gs)) else []
def stackB (fs gs : List (List UInt8)) : Bool := (isFo fs && isFo gs) && foOk (stackL (treesOf fs) (treesOf gs))

theorem implStack_SC (fs gs : List (List UInt8)) (hs : ∀ l ∈ fs, l.length ≤ 2 ^ 40) (hfl : fs.length ≤ 2 ^ 40) (hs' : ∀ l ∈ gs, l.length ≤ 2 ^ 40) (hgl : gs.length ≤ 2 ^ 40) :
    SC cfg.P i_impl_StackForests [.s (.v (.sl .str) (txs fs)), .s (.v (.sl .str) (txs gs))] (.tup [.own t_string .str (txs (stackV fs gs)), .v .bool (stackB fs gs)]) [] := by
  obtain ⟨ts, us, h1, h2⟩ := twoForests_SC fs gs hs hfl hs' hgl
  cases hb : (isFo fs && isFo gs) with
  | false =>
    rw [hb] at h2
    rw [stackV, stackB, hb, if_neg (by simp), Bool.false_and]
    exact impl_StackForests_p2 _ _ _ _ h2
  | true =>
    rw [hb] at h2
    have hb' := Bool.and_eq_true_iff.1 hb
    obtain ⟨rfl, rfl⟩ := h1 hb'
    obtain ⟨_, l1, c1⟩ := fo_facts' hb'.1
    obtain ⟨_, l2, c2⟩ := fo_facts' hb'.2
    have hE := stack_SC (treesOf fs) (treesOf gs) (by omega) (by omega) (fun t ht => by have := c1 t ht; omega)
    have hl := stk_len (treesOf fs) (treesOf gs) ((treesOf fs).length + (treesOf gs).length) 0 0
    have hT := texts_SC (stackL (treesOf fs) (treesOf gs)) (by show (stk _ _ _ 0 0).length ≤ _; omega) (fun t ht => by have := stk_c _ _ 8 8 c1 c2 _ 0 0 t ht; omega)
    rw [stackV, stackB, hb, if_pos rfl, Bool.true_and]
    exact impl_StackForests_p1 _ _ _ _ _ _ _ h2 hE hT

end Go.AI
end

section
/- Forests of words. -/
set_option autoImplicit false
set_option maxRecDepth 100000
set_option linter.unusedVariables false
namespace Go.AI
open Go.Proofs

/-! ### Forests but for leaves at the end -/

theorem trim_getD : ∀ (ts : List Tr) (i : Nat), (trim ts).getD i .leaf = ts.getD i .leaf := by
  intro ts i
  obtain ⟨r, e, h⟩ := trim_prefix ts
  by_cases hi : i < (trim ts).length
  · conv => rhs; rw [e]
    rw [List.getD_eq_getElem?_getD, List.getD_eq_getElem?_getD, List.getElem?_append_left hi]
  · have e1 : (trim ts).getD i .leaf = .leaf := by rw [List.getD_eq_getElem?_getD, List.getElem?_eq_none (by omega)]; rfl
    rw [e1]
    by_cases hj : i < ts.length
    · have hm : ts.getD i .leaf ∈ r := by
        have hl := congrArg List.length e
        rw [List.length_append] at hl
        have e2 : ts.getD i .leaf = r.getD (i - (trim ts).length) .leaf := by
          conv => lhs; rw [e]
          rw [List.getD_eq_getElem?_getD, List.getElem?_append_right (by omega), ← List.getD_eq_getElem?_getD]
        rw [e2]
        exact gD_mem (by omega) _
      have := h _ hm
      cases hx : ts.getD i .leaf with
      | leaf => rfl
      | node a b => rw [hx] at this; simp [Tr.isLeaf] at this
    · rw [List.getD_eq_getElem?_getD, List.getElem?_eq_none (by omega)]; rfl

theorem trim_last (ts : List Tr) (h : trim ts = ts) (i : Nat) (hi : i + 1 = ts.length) : (ts.getD i .leaf).isLeaf = false := by
  obtain ⟨m, x, rfl⟩ := snoc_ex ts (by intro e; subst e; simp at hi)
  have hm : m.length = i := by simpa using hi.symm
  have h2 := congrArg List.length h
  rw [List.length_append, List.length_singleton, trim_full] at h2
  rw [← hm, getD_last]
  exact h2

theorem trim_ext : ∀ (a b : List Tr), (∀ i, a.getD i .leaf = b.getD i .leaf) → trim a = trim b := by
  have key : ∀ (a b : List Tr), trim a = a → trim b = b → (∀ i, a.getD i .leaf = b.getD i .leaf) → a.length ≤ b.length := by
    intro a b ha hb h
    apply Nat.le_of_not_lt
    intro hlt
    have h1 := trim_last a ha (a.length - 1) (by omega)
    rw [h, List.getD_eq_getElem?_getD, List.getElem?_eq_none (by omega)] at h1
    cases h1
  intro a b h
  have h' : ∀ i, (trim a).getD i .leaf = (trim b).getD i .leaf := fun i => by rw [trim_getD, trim_getD, h]
  have l1 := key _ _ (trim_trim a) (trim_trim b) h'
  have l2 := key _ _ (trim_trim b) (trim_trim a) (fun i => (h' i).symm)
  apply List.ext_getElem?
  intro i
  by_cases hi : i < (trim a).length
  · have := h' i
    rw [List.getD_eq_getElem?_getD, List.getD_eq_getElem?_getD, List.getElem?_eq_getElem hi, List.getElem?_eq_getElem (by omega : i < (trim b).length)] at this
    rw [List.getElem?_eq_getElem hi, List.getElem?_eq_getElem (by omega : i < (trim b).length)]
    simpa using this
  · rw [List.getElem?_eq_none (by omega), List.getElem?_eq_none (by omega)]

/-- The number of the first leaf of a root. -/
def offS (ts : List Tr) : Nat → Nat
  | 0 => 0
  | k + 1 => offS ts k + ((ts.getD k .leaf).c + 1)

theorem offS_ext {a b : List Tr} (h : ∀ i, a.getD i .leaf = b.getD i .leaf) : ∀ k, offS a k = offS b k
  | 0 => rfl
  | k + 1 => by rw [offS, offS, offS_ext h k, h]

theorem offS_ge (ts : List Tr) : ∀ k, k ≤ offS ts k
  | 0 => Nat.le_refl _
  | k + 1 => by have := offS_ge ts k; rw [offS]; omega

theorem growT_leaf (us : List Tr) (n : Nat) (h : us.length ≤ n) : growT us .leaf n = .leaf := by
  rw [growT, List.getD_eq_getElem?_getD, List.getElem?_eq_none h]; rfl

theorem stk_get (ts us : List Tr) : ∀ (n k : Nat), (ts.length - k) + (us.length - offS ts k) ≤ n → ∀ i, (stk ts us n k (offS ts k)).getD i .leaf = growT us (ts.getD (k + i) .leaf) (offS ts (k + i)) := by
  intro n
  induction n with
  | zero =>
    intro k hm i
    have h1 := offS_ge ts (k + i)
    have hoff : offS ts k ≤ offS ts (k + i) := by
      clear hm h1
      induction i with
      | zero => exact Nat.le_refl _
      | succ i ih => rw [← Nat.add_assoc, offS]; omega
    have e : ts.getD (k + i) .leaf = .leaf := by rw [List.getD_eq_getElem?_getD, List.getElem?_eq_none (by omega)]; rfl
    rw [stk, e, growT_leaf us _ (by omega)]
    rfl
  | succ n ih =>
    intro k hm i
    rw [stk]
    by_cases h : k < ts.length ∨ offS ts k < us.length
    · rw [if_pos h]
      cases i with
      | zero => rfl
      | succ i =>
        have h2 := ih (k + 1) (by rw [offS]; omega) i
        rw [List.getD_cons_succ, show k + (i + 1) = k + 1 + i by omega, ← h2]
        rfl
    · rw [if_neg h]
      have hoff : offS ts k ≤ offS ts (k + i) := by
        clear hm h ih
        induction i with
        | zero => exact Nat.le_refl _
        | succ i ih => rw [← Nat.add_assoc, offS]; omega
      have e : ts.getD (k + i) .leaf = .leaf := by rw [List.getD_eq_getElem?_getD, List.getElem?_eq_none (by omega)]; rfl
      rw [e, growT_leaf us _ (by omega)]
      rfl

theorem stackL_get (ts us : List Tr) (i : Nat) : (stackL ts us).getD i .leaf = growT us (ts.getD i .leaf) (offS ts i) := by
  have := stk_get ts us (ts.length + us.length) 0 (by simp [offS]) i
  simpa [offS, stackL] using this

/-! ### Letters -/

end Go.AI
end
