/- The law of LeftQuotient. -/
import Derived.Test.YtdfllkeekehplaaCJk
import Derived.Test.YtdfllkeekehplaaC7p
import Derived.Test.YtdfllkeekehplaaCE
set_option autoImplicit false
set_option maxRecDepth 100000
set_option linter.unusedVariables false
namespace Go.AI
open Go.Proofs

theorem itr_flat {β : Type} (g : Nat → List β) : ∀ (m i : Nat) (cur : List β), itr (fun i cur => cur ++ g i) i m cur = cur ++ (List.range' i m).flatMap g
  | 0, i, cur => by simp [itr]
  | m + 1, i, cur => by
    rw [itr, itr_flat g m (i + 1), List.range'_succ, List.flatMap_cons, List.append_assoc]

/-- Is each tree part of the other forest's? -/
def fpart (ts us : List Tr) : Bool := (List.range' 0 ts.length).all fun i => partB (ts.getD i .leaf) (us.getD i .leaf)

theorem fpart_all {ts us : List Tr} (h : fpart ts us = true) (i : Nat) : partB (ts.getD i .leaf) (us.getD i .leaf) = true := by
  by_cases hi : i < ts.length
  · exact List.all_eq_true.1 h i (by rw [List.mem_range'_1]; omega)
  · rw [List.getD_eq_getElem?_getD, List.getElem?_eq_none (by omega)]
    rfl

theorem isPartOf_SC (ts us : List Tr) (h : ts.length ≤ 2 ^ 20) : SC cfg.P i_impl_isPartOf [.s (.v (.sl .tree) ts), .s (.v (.sl .tree) us)] (.s (.v .bool (fpart ts us))) [] := by
  have key := loop_ret (P := cfg.P) (np := 2) (c := lb P_impl_isPartOf 0) (fun i (a : Unit) => impl_isPartOf_L0a us ts ((List.length ts : Nat) : Int) (i : Int)) (fun a => impl_isPartOf_L0X2 us ts ((List.length ts : Nat) : Int) (ts.length : Int) false) (impl_isPartOf_L0X1 false)
    (fun i a => a) (fun i a => True) (fun i => partB (ts.getD i .leaf) (us.getD i .leaf)) ts.length
    (fun i a hi hI hp => by
      refine ⟨trivial, fun e st hn => ?_⟩
      have hq := isPart_SC (ts.getD i .leaf) (us.getD i .leaf)
      rw [hp] at hq
      rw [← wrap_succ (by omega)] at hn
      exact impl_isPartOf_L0a_i1 _ _ _ _ _ (by omega) (by omega) (by omega) (ftree_SC us i) hq hn)
    (fun i a hi hI hp => by
      have hq := isPart_SC (ts.getD i .leaf) (us.getD i .leaf)
      rw [hp] at hq
      exact impl_isPartOf_L0a_x2 _ _ _ _ _ (by omega) (by omega) (by omega) (ftree_SC us i) hq)
    (fun a _ => impl_isPartOf_L0a_x3 _ _ _ _ (by omega)) ts.length 0 () (by omega) trivial
  cases hf : fpart ts us with
  | true => exact impl_isPartOf_p2 _ _ _ _ _ _ _ (key.1 hf)
  | false => exact impl_isPartOf_p1 _ _ _ (key.2 hf)

theorem foPart_SC (ts us : List Tr) (h : ts.length ≤ 2 ^ 20) (h1 : ∀ t ∈ ts, t.c ≤ 20) (h2 : ∀ t ∈ us, t.c ≤ 20) : SC cfg.P i_spec_foPart [.s (.v (.sl .str) (txs (ts.map txt))), .s (.v (.sl .str) (txs (us.map txt)))] (.s (.v .bool (fpart ts us))) [] := by
  have m1 : (txs (ts.map txt)).length = ts.length := by simp
  have hget : ∀ i, i < ts.length → List.getD (txs (ts.map txt)) ((i : Int)).toNat (⟨#[]⟩ : ByteArray) = bs (txt (ts.getD i .leaf)) := fun i hi => by
    rw [Int.toNat_natCast, txs, List.map_map, gD_map (bs ∘ txt) ts i hi .leaf]; rfl
  have key := loop_ret (P := cfg.P) (np := 2) (c := lb P_spec_foPart 0) (fun i (a : Unit) => spec_foPart_L0a (txs (us.map txt)) (txs (ts.map txt)) ((List.length (txs (ts.map txt)) : Nat) : Int) (i : Int)) (fun a => spec_foPart_L0X2 (txs (us.map txt)) (txs (ts.map txt)) ((List.length (txs (ts.map txt)) : Nat) : Int) (ts.length : Int) false) (spec_foPart_L0X1 false)
    (fun i a => a) (fun i a => True) (fun i => partB (ts.getD i .leaf) (us.getD i .leaf)) ts.length
    (fun i a hi hI hp => by
      refine ⟨trivial, fun e st hn => ?_⟩
      have hq := trJoin_SC (ts.getD i .leaf) (us.getD i .leaf) (by have := getD_leaf_c h1 i; omega) (by have := getD_leaf_c h2 i; omega)
      rw [(joiT_eq _ _).2 hp, ← hget i hi] at hq
      rw [← wrap_succ (by omega)] at hn
      exact spec_foPart_L0a_i2 _ _ _ _ _ _ _ (by omega) (by omega) (by omega) (foTree_SC us i) hq (foTree_SC us i) rfl hn)
    (fun i a hi hI hp => by
      have hq := trJoin_SC (ts.getD i .leaf) (us.getD i .leaf) (by have := getD_leaf_c h1 i; omega) (by have := getD_leaf_c h2 i; omega)
      rw [← hget i hi] at hq
      exact spec_foPart_L0a_x1 _ _ _ _ _ _ _ (by omega) (by omega) (by omega) (foTree_SC us i) hq (foTree_SC us i) (by
        rw [Ne, bs_inj]
        intro e
        have e' := (txt_inj (joiT (ts.getD i .leaf) (us.getD i .leaf)) (us.getD i .leaf) [] [] (by rw [List.append_nil, List.append_nil]; exact e)).1
        rw [(joiT_eq _ _).1 e'] at hp
        cases hp))
    (fun a _ => spec_foPart_L0a_x3 _ _ _ _ (by omega)) ts.length 0 () (by omega) trivial
  cases hf : fpart ts us with
  | true => exact spec_foPart_p2 _ _ _ _ _ _ _ (key.1 hf)
  | false => exact spec_foPart_p1 _ _ _ (key.2 hf)

/-- What is left of a forest behind a part of it. -/
def quoL (ts us : List Tr) : List Tr := (List.range' 0 (max ts.length us.length)).flatMap fun i => partsT (ts.getD i .leaf) (us.getD i .leaf)

theorem flat_len {α : Type} (g : Nat → List α) (b : Nat) (h : ∀ i, (g i).length ≤ b) : ∀ m i, ((List.range' i m).flatMap g).length ≤ m * b
  | 0, i => by simp
  | m + 1, i => by
    rw [List.range'_succ, List.flatMap_cons, List.length_append, Nat.add_mul, Nat.one_mul]
    have := flat_len g b h m (i + 1)
    have := h i
    omega

def quoG (fs gs : List (List UInt8)) : Bool := (isFo fs && isFo gs) && fpart (treesOf fs) (treesOf gs)
def quoV (fs gs : List (List UInt8)) : List (List UInt8) := if quoG fs gs = true then foTexts (quoL (treesOf fs) (treesOf gs)) else []
def quoB (fs gs : List (List UInt8)) : Bool := quoG fs gs && foOk (quoL (treesOf fs) (treesOf gs))

section
variable {fs gs : List (List UInt8)}

theorem quo_bounds (l1 : (treesOf fs).length ≤ 8) (l2 : (treesOf gs).length ≤ 8) (c1 : ∀ t ∈ treesOf fs, t.c ≤ 8) (c2 : ∀ t ∈ treesOf gs, t.c ≤ 8) (hp : fpart (treesOf fs) (treesOf gs) = true) :
    (quoL (treesOf fs) (treesOf gs)).length ≤ 2 ^ 20 ∧ ∀ t ∈ quoL (treesOf fs) (treesOf gs), t.c ≤ 2 ^ 20 := by
  constructor
  · have := flat_len (fun i => partsT ((treesOf fs).getD i .leaf) ((treesOf gs).getD i .leaf)) 9 (fun i => by
      rw [partsT_len _ _ (fpart_all hp i)]
      have := getD_leaf_c c1 i
      omega) (max (treesOf fs).length (treesOf gs).length) 0
    show ((List.range' 0 (max (treesOf fs).length (treesOf gs).length)).flatMap _).length ≤ _
    omega
  · intro t ht
    obtain ⟨i, _, hi⟩ := List.mem_flatMap.1 ht
    have := partsT_c _ _ t hi
    have := getD_leaf_c c2 i
    omega
end

theorem implQuo_SC (fs gs : List (List UInt8)) (hs : ∀ l ∈ fs, l.length ≤ 2 ^ 40) (hfl : fs.length ≤ 2 ^ 40) (hs' : ∀ l ∈ gs, l.length ≤ 2 ^ 40) (hgl : gs.length ≤ 2 ^ 40) :
    SC cfg.P i_impl_LeftQuotient [.s (.v (.sl .str) (txs fs)), .s (.v (.sl .str) (txs gs))] (.tup [.own t_string .str (txs (quoV fs gs)), .v .bool (quoB fs gs)]) [] := by
  obtain ⟨ts, us, h1, h2⟩ := twoForests_SC fs gs hs hfl hs' hgl
  cases hb : (isFo fs && isFo gs) with
  | false =>
    rw [hb] at h2
    have hq : quoG fs gs = false := by rw [quoG, hb, Bool.false_and]
    rw [quoV, quoB, hq, if_neg (by simp), Bool.false_and]
    exact impl_LeftQuotient_p3 _ _ _ _ h2
  | true =>
    rw [hb] at h2
    have hb' := Bool.and_eq_true_iff.1 hb
    obtain ⟨rfl, rfl⟩ := h1 hb'
    obtain ⟨_, l1, c1⟩ := fo_facts hb'.1
    obtain ⟨_, l2, c2⟩ := fo_facts hb'.2
    have hP := isPartOf_SC (treesOf fs) (treesOf gs) (by omega)
    cases hp : fpart (treesOf fs) (treesOf gs) with
    | false =>
      rw [hp] at hP
      have hq : quoG fs gs = false := by rw [quoG, hp, Bool.and_false]
      rw [quoV, quoB, hq, if_neg (by simp), Bool.false_and]
      exact impl_LeftQuotient_p2 _ _ _ _ h2 hP
    | true =>
      rw [hp] at hP
      have hq : quoG fs gs = true := by rw [quoG, hp, hb]; rfl
      rw [quoV, quoB, hq, if_pos rfl, Bool.true_and]
      obtain ⟨b1, b2⟩ := quo_bounds l1 l2 c1 c2 hp
      have hT := texts_SC (quoL (treesOf fs) (treesOf gs)) b1 b2
      generalize treesOf fs = ts at *
      generalize treesOf gs = us at *
      have em : maxI ((List.length ts : Nat) : Int) ((List.length us : Nat) : Int) = ((max ts.length us.length : Nat) : Int) := by
        unfold maxI; split <;> omega
      have inner : ∀ (i : Nat) (k : Int) (cur : List Tr), cur.length ≤ 2 ^ 20 → LoopSC cfg.P 2 (lb P_impl_LeftQuotient 1) (impl_LeftQuotient_L1a ts us (us.getD i .leaf) ((max ts.length us.length : Nat) : Int) k ((List.length (strs' (adL (ts.getD i .leaf) [])) : Nat) : Int) (0 : Int) cur (strs' (adL (ts.getD i .leaf) []))) (.exit 2)
          (impl_LeftQuotient_L1X1 ts us (us.getD i .leaf) ((max ts.length us.length : Nat) : Int) k ((List.length (strs' (adL (ts.getD i .leaf) [])) : Nat) : Int) ((adL (ts.getD i .leaf) []).length : Int) false (cur ++ partsT (ts.getD i .leaf) (us.getD i .leaf)) (strs' (adL (ts.getD i .leaf) []))) := by
        intro i k cur hcur
        have hpi := fpart_all hp i
        have hc := getD_leaf_c c1 i
        have hal := adL_len (ts.getD i .leaf) []
        have hsl : (strs' (adL (ts.getD i .leaf) [])).length = (adL (ts.getD i .leaf) []).length := List.length_map ..
        have key : ∀ (m j : Nat) (cur : List Tr), (adL (ts.getD i .leaf) []).length - j = m → j ≤ (adL (ts.getD i .leaf) []).length → cur.length ≤ 2 ^ 20 + j →
            LoopSC cfg.P 2 (lb P_impl_LeftQuotient 1) (impl_LeftQuotient_L1a ts us (us.getD i .leaf) ((max ts.length us.length : Nat) : Int) k ((List.length (strs' (adL (ts.getD i .leaf) [])) : Nat) : Int) (j : Int) cur (strs' (adL (ts.getD i .leaf) []))) (.exit 2)
              (impl_LeftQuotient_L1X1 ts us (us.getD i .leaf) ((max ts.length us.length : Nat) : Int) k ((List.length (strs' (adL (ts.getD i .leaf) [])) : Nat) : Int) ((adL (ts.getD i .leaf) []).length : Int) false (cur ++ ((adL (ts.getD i .leaf) []).drop j).map (atR (us.getD i .leaf))) (strs' (adL (ts.getD i .leaf) []))) := by
          intro m
          induction m with
          | zero =>
            intro j cur hm hj hcur
            have e : j = (adL (ts.getD i .leaf) []).length := by omega
            subst e
            rw [List.drop_length, List.map_nil, List.append_nil]
            exact impl_LeftQuotient_L1a_x2 _ _ _ _ _ _ _ _ _ (by omega)
          | succ m ih =>
            intro j cur hm hj hcur
            have hj1 : j < (adL (ts.getD i .leaf) []).length := by omega
            have hg := strs_get (adL (ts.getD i .leaf) []) j hj1
            have hb2 := adL_bound _ _ _ (List.getElem_mem hj1)
            rw [List.length_nil, Nat.zero_add] at hb2
            obtain ⟨bb, ha⟩ := at_SC (us.getD i .leaf) (adL (ts.getD i .leaf) [])[j] (by omega)
            rw [← hg] at ha
            have hn := ih (j + 1) (cur ++ [atR (us.getD i .leaf) (adL (ts.getD i .leaf) [])[j]]) (by omega) (by omega) (by simp; omega)
            rw [List.drop_eq_getElem_cons hj1, List.map_cons]
            rw [List.append_assoc, List.singleton_append, ← wrap_succ (by omega)] at hn
            exact impl_LeftQuotient_L1a_i1 _ _ _ _ _ _ _ _ _ _ bb (by omega) (by omega) (by omega) (by omega) ha (sizeOK_one (by omega)) hn
        have h0 := key _ 0 cur rfl (by omega) (by omega)
        rw [List.drop_zero, at_parts _ _ _ [] hpi (by cases us.getD i .leaf <;> rfl)] at h0
        exact h0
      have key := loop_up (P := cfg.P) (np := 2) (c := lb P_impl_LeftQuotient 0) (fun i (a : List Tr) => impl_LeftQuotient_L0a ts us ((max ts.length us.length : Nat) : Int) (i : Int) a) (fun a => impl_LeftQuotient_L0X1 ts us ((max ts.length us.length : Nat) : Int) ((max ts.length us.length : Nat) : Int) false a)
        (fun i a => a ++ partsT (ts.getD i .leaf) (us.getD i .leaf)) (fun i a => a.length ≤ i * 9) (max ts.length us.length)
        (fun i a hi hI => by
          have hc := getD_leaf_c c1 i
          have hpl := partsT_len _ _ (fpart_all hp i)
          refine ⟨by rw [List.length_append, hpl, Nat.add_mul]; omega, fun e st hn => ?_⟩
          rw [← wrap_succ (by omega)] at hn
          exact impl_LeftQuotient_L0a_i1 _ _ _ _ _ _ _ _ _ _ _ _ _ _ _ _ _ _ (by omega) (ftree_SC ts i) (ftree_SC us i) (addresses_SC (ts.getD i .leaf) [] (by omega) (by rw [List.length_nil, Nat.zero_add]; omega)) (inner i (i : Int) a (by omega)) hn)
        (fun a _ => impl_LeftQuotient_L0a_x2 _ _ _ _ _ (by omega)) (max ts.length us.length) 0 [] (by omega) (by simp)
      have hL := key.1
      rw [itr_flat (fun i => partsT (ts.getD i .leaf) (us.getD i .leaf)), List.nil_append, ← em] at hL
      exact impl_LeftQuotient_p1 _ _ _ _ _ _ _ _ _ _ _ _ h2 hP hL hT

theorem specQuo_SC (fs gs : List (List UInt8)) (hs : ∀ l ∈ fs, l.length ≤ 2 ^ 40) (hfl : fs.length ≤ 2 ^ 40) (hs' : ∀ l ∈ gs, l.length ≤ 2 ^ 40) (hgl : gs.length ≤ 2 ^ 40) :
    SC cfg.P i_spec_LeftQuotient [.s (.v (.sl .str) (txs fs)), .s (.v (.sl .str) (txs gs))] (.tup [.own t_string .str (txs (quoV fs gs)), .v .bool (quoB fs gs)]) [] := by
  have h1 := foGood_SC fs hs hfl
  have h2 := foGood_SC gs hs' hgl
  cases hf : isFo fs with
  | false =>
    rw [hf] at h1
    have hq : quoG fs gs = false := by rw [quoG, hf]; rfl
    rw [quoV, quoB, hq, if_neg (by simp), Bool.false_and]
    exact spec_LeftQuotient_p4 _ _ h1
  | true =>
    rw [hf] at h1
    cases hg : isFo gs with
    | false =>
      rw [hg] at h2
      have hq : quoG fs gs = false := by rw [quoG, hg, Bool.and_false, Bool.false_and]
      rw [quoV, quoB, hq, if_neg (by simp), Bool.false_and]
      exact spec_LeftQuotient_p3 _ _ h1 h2
    | true =>
      rw [hg] at h2
      obtain ⟨e1, l1, c1⟩ := fo_facts hf
      obtain ⟨e2, l2, c2⟩ := fo_facts hg
      have hP := foPart_SC (treesOf fs) (treesOf gs) (by omega) (fun t ht => by have := c1 t ht; omega) (fun t ht => by have := c2 t ht; omega)
      rw [← e1, ← e2] at hP
      cases hp : fpart (treesOf fs) (treesOf gs) with
      | false =>
        rw [hp] at hP
        have hq : quoG fs gs = false := by rw [quoG, hp, Bool.and_false]
        rw [quoV, quoB, hq, if_neg (by simp), Bool.false_and]
        exact spec_LeftQuotient_p2 _ _ h1 h2 hP
      | true =>
        rw [hp] at hP
        have hq : quoG fs gs = true := by rw [quoG, hp, hf, hg]; rfl
        rw [quoV, quoB, hq, if_pos rfl, Bool.true_and]
        obtain ⟨b1, b2⟩ := quo_bounds l1 l2 c1 c2 hp
        have hT := foIf_SC (quoL (treesOf fs) (treesOf gs)) b1 b2
        have m1 : (txs fs).length = (treesOf fs).length := by simp [treesOf]
        have m2 : (txs gs).length = (treesOf gs).length := by simp [treesOf]
        have key := loop_up (P := cfg.P) (np := 2) (c := lb P_spec_LeftQuotient 0) (fun i (a : List ByteArray) => spec_LeftQuotient_L0a (txs fs) (txs gs) (i : Int) a) (fun a => spec_LeftQuotient_L0X1 (txs fs) (txs gs) ((max (treesOf fs).length (treesOf gs).length : Nat) : Int) false a)
          (fun i a => a ++ txs ((partsT ((treesOf fs).getD i .leaf) ((treesOf gs).getD i .leaf)).map txt)) (fun i a => a.length ≤ i * 9) (max (treesOf fs).length (treesOf gs).length)
          (fun i a hi hI => by
            have d1 := getD_leaf_c c1 i
            have d2 := getD_leaf_c c2 i
            have hpl := partsT_len _ _ (fpart_all hp i)
            have hpl' : (txs ((partsT ((treesOf fs).getD i .leaf) ((treesOf gs).getD i .leaf)).map txt)).length = ((treesOf fs).getD i .leaf).c + 1 := by rw [List.length_map, List.length_map, hpl]
            refine ⟨by rw [List.length_append, hpl', Nat.add_mul]; omega, fun e st hn => ?_⟩
            rw [← wrap_succ (by omega)] at hn
            have t1 := foTree_SC (treesOf fs) i
            have t2 := foTree_SC (treesOf gs) i
            rw [← e1] at t1
            rw [← e2] at t2
            have hc := prParts_SC ((treesOf fs).getD i .leaf) ((treesOf gs).getD i .leaf) (by omega) (by omega) (fpart_all hp i)
            by_cases hlt : i < (treesOf fs).length
            · exact spec_LeftQuotient_L0a_i1 _ _ _ _ _ _ _ (by omega) t1 t2 hc (by unfold sizeOK lim; rw [hpl']; omega) hn
            · exact spec_LeftQuotient_L0a_i2 _ _ _ _ _ _ _ (by omega) (by omega) t1 t2 hc (by unfold sizeOK lim; rw [hpl']; omega) hn)
          (fun a _ => spec_LeftQuotient_L0a_x3 _ _ _ _ (by omega) (by omega)) (max (treesOf fs).length (treesOf gs).length) 0 [] (by omega) (by simp)
        have hL := key.1
        rw [itr_flat (fun i => txs ((partsT ((treesOf fs).getD i .leaf) ((treesOf gs).getD i .leaf)).map txt)), List.nil_append] at hL
        have he : (List.range' 0 (max (treesOf fs).length (treesOf gs).length)).flatMap (fun i => txs ((partsT ((treesOf fs).getD i .leaf) ((treesOf gs).getD i .leaf)).map txt)) = txs ((quoL (treesOf fs) (treesOf gs)).map txt) := by
          simp only [quoL, txs, List.map_flatMap]
        rw [he] at hL
        exact spec_LeftQuotient_p1 _ _ _ _ _ _ _ _ _ h1 h2 hP hL hT

end Go.AI
