/- The law of CountShortest. -/
import Derived.Test.YtlimomnchicfgaaFe
import Derived.Test.YtlimomnchicfgaaGD
set_option autoImplicit false
set_option maxRecDepth 100000
set_option linter.unusedVariables false
namespace Go.AI
open Go.Proofs

theorem mget_mput {α : Type} (s t : ByteArray) (y : α) : ∀ l : List (ByteArray × α), mget (mput l s y) t = if t = s then some y else mget l t
  | [] => rfl
  | p :: l => by
    rw [mput]
    by_cases h : s = p.1
    · rw [if_pos h]
      simp only [mget]
      by_cases h1 : t = s
      · rw [if_pos h1, if_pos (h1.trans h)]
      · rw [if_neg h1, if_neg fun g => h1 (g.trans h.symm), if_neg fun g => h1 (g.trans h.symm)]
    · rw [if_neg h]
      simp only [mget]
      rw [mget_mput s t y l]
      by_cases h1 : t = p.1
      · rw [if_pos h1, if_neg fun g => h (g.symm.trans h1), if_pos h1]
      · rw [if_neg h1, if_neg h1]

/-- A pair's text. -/
def prT (p : Tr × Tr) : ByteArray := bs (txt p.1 ++ [62] ++ txt p.2)

theorem prT_inj {p q : Tr × Tr} (h : prT p = prT q) : p = q := by
  have h := bs_inj.1 h
  rw [List.append_assoc, List.append_assoc] at h
  obtain ⟨e1, h2⟩ := txt_inj _ _ _ _ h
  rw [List.singleton_append, List.singleton_append] at h2
  have h3 : txt p.2 = txt q.2 := (List.cons.inj h2).2
  obtain ⟨e2, _⟩ := txt_inj p.2 q.2 [] [] (by rw [List.append_nil, List.append_nil]; exact h3)
  exact Prod.ext e1 e2

theorem prT_SC (p : Tr × Tr) (h1 : p.1.c ≤ 2 ^ 20) (h2 : p.2.c ≤ 2 ^ 20) : SC cfg.P i_impl_pair_text [.s (.v (.pr .tree .tree) p)] (.s (.v .str (prT p))) [] := by
  have l1 := txt_len p.1
  have l2 := txt_len p.2
  have e : prT p = (bs (txt p.1) ++ (⟨#[62]⟩ : ByteArray)) ++ bs (txt p.2) := by
    show _ = (bs (txt p.1) ++ bs [62]) ++ bs (txt p.2)
    rw [bs_append, bs_append]; rfl
  rw [e]
  have e2 : (bs (txt p.1) ++ (⟨#[62]⟩ : ByteArray)) = bs (txt p.1 ++ [62]) := bs_append _ _
  refine impl_pair_text_p1 p _ _ (text_SC _ (by omega)) ?_ (text_SC _ (by omega)) ?_
  · show (bs (txt p.1)).size + (bs [62]).size ≤ _
    rw [bs_size, bs_size]; simp; omega
  · rw [e2, bs_size, bs_size]; simp; omega

/-! ### The reference's -/

def stL (n : Nat) (p : Tr × Tr) (l : Int) : Int := if lenT (timesT (letT (-l)) p) < ((n + 1 : Nat) : Int) then cA n (timesT (letT (-l)) p) else 0
def stR (N : Nat) (p : Tr × Tr) (l : Int) : Int := if lenT (timesT p (letT l)) < (N : Int) then cA (N - 1) (timesT p (letT l)) else 0

theorem pow_bd {n : Nat} (h : n ≤ 20) : (4 : Int) ^ n ≤ 2 ^ 40 := by
  have h0 : (4 : Nat) ^ n ≤ 4 ^ 20 := Nat.pow_le_pow_right (by decide) h
  have h1 : (4 : Int) ^ n ≤ 4 ^ 20 := by exact_mod_cast h0
  have h2 : (4 : Int) ^ 20 = 2 ^ 40 := by decide
  omega

theorem stL_bd {n : Nat} (h : n ≤ 20) (p : Tr × Tr) (l : Int) : 0 ≤ stL n p l ∧ stL n p l ≤ 2 ^ 40 := by
  have := pow_bd h
  have := cA_bd n (timesT (letT (-l)) p)
  unfold stL
  split <;> omega

theorem stR_bd {n : Nat} (h : n ≤ 21) (p : Tr × Tr) (l : Int) : 0 ≤ stR n p l ∧ stR n p l ≤ 2 ^ 40 := by
  have := pow_bd (n := n - 1) (by omega)
  have := cA_bd (n - 1) (timesT p (letT l))
  unfold stR
  split <;> omega

theorem sum_ltrs (g : Int → Int) : (ltrs.map g).sum = sum4 g := by
  show g 1 + (g (-1) + (g 2 + (g (-2) + 0))) = g 1 + g (-1) + g 2 + g (-2)
  omega

theorem Gd.c {p : Tr × Tr} (h : Gd p) {n : Nat} (hn : n ≤ 21) (hl : lenT p ≤ (n : Int)) : p.1.c ≤ 23 := by
  have := len_low p h.e h.r
  omega

theorem slc_L (L : List Int) (hl : L.length = 4) (hL : ∀ l ∈ L, l ∈ ltrs) (n : Nat) (hn : n ≤ 20) (p : Tr × Tr) (hp : Gd p) (h : lenT p = ((n + 1 : Nat) : Int))
    (ih : ∀ q : Tr × Tr, Gd q → lenT q = (n : Int) → SC cfg.P i_spec_lnCount [.s (.v (.pr .str .str) (pt q))] (.s (.v (.int .i64) (cA n q))) []) :
    ∀ (m i : Nat) (a : Int), 4 - i = m → i ≤ 4 → 0 ≤ a → a ≤ (i : Int) * 2 ^ 40 →
    LoopSC cfg.P 1 (lb P_spec_lnCount 0) (spec_lnCount_L0a ((n + 1 : Nat) : Int) a L ((L.length : Nat) : Int) (i : Int) (pt p)) (.exit 0) (spec_lnCount_L0X1 ((n + 1 : Nat) : Int) (a + ((L.drop i).map (stL n p)).sum) L ((L.length : Nat) : Int) 4 false (pt p)) := by
  intro m
  induction m with
  | zero =>
    intro i a hm hi ha hb
    have e : i = 4 := by omega
    subst e
    rw [List.drop_eq_nil_of_le (by omega)]
    have e : a + ((([] : List Int).map (stL n p))).sum = a := by simp
    rw [e]
    exact spec_lnCount_L0a_x3 _ _ _ _ _ _ (by omega)
  | succ m IH =>
    intro i a hm hi ha hb
    have hlt : i < L.length := by omega
    have hd : L.drop i = L[i] :: L.drop (i + 1) := List.drop_eq_getElem_cons hlt
    have hg : List.getD L ((i : Int)).toNat (0 : Int) = L[i] := by rw [Int.toNat_natCast, List.getD_eq_getElem?_getD, List.getElem?_eq_getElem hlt]; rfl
    have hmem := hL _ (List.getElem_mem hlt)
    obtain ⟨g0, g1, g2, g3⟩ := ltrs_neg _ hmem
    have hlc := let_c (-L[i])
    have hpc := hp.c (n := n + 1) (by omega) (by omega)
    have ht := prTimes_SC (letT (-L[i])) p (by omega) hp.e (by omega)
    have hq := gdA hp (-L[i])
    have hc := raw_c (letT (-L[i])) p (by omega)
    have hs := lnOf_SC (timesT (letT (-L[i])) p) hq.e (by omega)
    have q1 : SC cfg.P i_spec_wdLetter [.s (.v (.int .i64) (IntKind.wrap .i64 (0 - (List.getD L ((i : Int)).toNat (0 : Int)))))] (.s (.v (.pr .str .str) (pt (letT (-L[i]))))) [] := by
      rw [hg, g3]; exact wdLetter_SC (-L[i]) g1 (by omega)
    have hbd := stL_bd hn p L[i]
    have es : a + ((L.drop i).map (stL n p)).sum = (a + stL n p L[i]) + ((L.drop (i + 1)).map (stL n p)).sum := by
      rw [hd, List.map_cons, List.sum_cons]; omega
    rw [es]
    have i1 := IH (i + 1) (a + stL n p L[i]) (by omega) (by omega) (by omega) (by push_cast; omega)
    rw [← wrap_succ (i := i) (by omega)] at i1
    by_cases hlt2 : lenT (timesT (letT (-L[i])) p) < ((n + 1 : Nat) : Int)
    · have e : stL n p L[i] = cA n (timesT (letT (-L[i])) p) := if_pos hlt2
      have hr := ih _ hq (by have := lessA hp hmem (by omega); omega)
      rw [← e] at hr
      rw [← w64 (n := a + stL n p L[i]) (by omega) (by omega)] at i1
      rw [w64 (n := a + stL n p L[i]) (by omega) (by omega)] at i1
      have ew : IntKind.wrap .i64 (a + stL n p L[i]) = a + stL n p L[i] := by rw [w64] <;> omega
      have st := fun {e : AEx} {st : St} => spec_lnCount_L0a_i1 ((n + 1 : Nat) : Int) a L ((L.length : Nat) : Int) (i : Int) (pt p) (pt (letT (-L[i]))) (pt (timesT (letT (-L[i])) p)) (lenT (timesT (letT (-L[i])) p)) (stL n p L[i]) (by omega) (by omega) (by omega) q1 ht hs hlt2 hr (e := e) (st := st)
      rw [ew] at st
      exact st i1
    · have e : stL n p L[i] = 0 := if_neg hlt2
      rw [e] at i1 ⊢
      rw [Int.add_zero] at i1 ⊢
      exact spec_lnCount_L0a_i2 ((n + 1 : Nat) : Int) a L ((L.length : Nat) : Int) (i : Int) (pt p) (pt (letT (-L[i]))) (pt (timesT (letT (-L[i])) p)) (lenT (timesT (letT (-L[i])) p)) (by omega) (by omega) (by omega) q1 ht hs hlt2 i1

theorem lnCount_SC : ∀ (n : Nat) (p : Tr × Tr), n ≤ 21 → Gd p → lenT p = (n : Int) → SC cfg.P i_spec_lnCount [.s (.v (.pr .str .str) (pt p))] (.s (.v (.int .i64) (cA n p))) []
  | 0, p, hn, hp, h => by
    have hpc := hp.c (n := 0) (by omega) (by omega)
    have e : cA 0 p = 1 := by
      show dlt p = 1
      unfold dlt
      exact if_pos h
    rw [e]
    have hs := lnOf_SC p hp.e (by omega)
    exact spec_lnCount_p1 _ _ hs h
  | n + 1, p, hn, hp, h => by
    have hpc := hp.c (n := n + 1) (by omega) (by omega)
    have hs := lnOf_SC p hp.e (by omega)
    rw [h] at hs
    have hL := slc_L ltrs rfl (fun l hl => hl) n (by omega) p hp h (fun q hq hl => lnCount_SC n q (by omega) hq hl) 4 0 0 rfl (by omega) (by omega) (by omega)
    rw [List.drop_zero, sum_ltrs, Int.zero_add] at hL
    have e : sum4 (stL n p) = cA (n + 1) p := by
      rw [cA_step n hp h, h]
      rfl
    rw [e] at hL
    exact spec_lnCount_p2 _ _ _ _ _ _ _ _ _ _ hs (by omega) lnLetters_SC.view hL

/-! ### The program's -/

/-- What the map has is right. -/
def MpOk (l : List (ByteArray × Int)) : Prop := ∀ q x, Gd q → mget l (prT q) = some x → x = cA (lenT q).toNat q

theorem MpOk.put {l : List (ByteArray × Int)} (h : MpOk l) (p : Tr × Tr) : MpOk (mput l (prT p) (cA (lenT p).toNat p)) := by
  intro q x hq hx
  rw [mget_mput] at hx
  split at hx
  · rename_i e
    rw [prT_inj e]
    exact (Option.some.inj hx).symm
  · exact h q x hq hx

theorem slr_L (L : List Int) (hl : L.length = 4) (hL : ∀ l ∈ L, l ∈ ltrs) (n : Nat) (hn : n ≤ 21) (p : Tr × Tr) (hp : Gd p) (h : lenT p = (n : Int)) (tx : ByteArray)
    (ih : ∀ (q : Tr × Tr) (mp : List (ByteArray × Int)), Gd q → lenT q = (n : Int) - 1 → MpOk mp → ∃ mp', MpOk mp' ∧ SC cfg.P i_impl_pair_shortest [.s (.v (.pr .tree .tree) q), .s (.mmp (.int .i64) mp)] (.s (.v (.int .i64) (cA (n - 1) q))) [.mp (.int .i64) mp']) :
    ∀ (m i : Nat) (a : Int) (mp : List (ByteArray × Int)), 4 - i = m → i ≤ 4 → 0 ≤ a → a ≤ (i : Int) * 2 ^ 40 → MpOk mp →
    ∃ mp', MpOk mp' ∧ LoopSC cfg.P 2 (lb P_impl_pair_shortest 0) (impl_pair_shortest_L0a tx (n : Int) a L (i : Int) mp p) (.exit 0) (impl_pair_shortest_L0X1 tx (n : Int) (a + ((L.drop i).map (stR n p)).sum) L 4 false mp' p) := by
  intro m
  induction m with
  | zero =>
    intro i a mp hm hi ha hb hmp
    have e : i = 4 := by omega
    subst e
    rw [List.drop_eq_nil_of_le (by omega)]
    have e : a + ((([] : List Int).map (stR n p))).sum = a := by simp
    rw [e]
    exact ⟨mp, hmp, impl_pair_shortest_L0a_x3 _ _ _ _ _ _ _ (by omega)⟩
  | succ m IH =>
    intro i a mp hm hi ha hb hmp
    have hlt : i < L.length := by omega
    have hd : L.drop i = L[i] :: L.drop (i + 1) := List.drop_eq_getElem_cons hlt
    have hg : List.getD L ((i : Int)).toNat (0 : Int) = L[i] := by rw [Int.toNat_natCast, List.getD_eq_getElem?_getD, List.getElem?_eq_getElem hlt]; rfl
    have hmem := hL _ (List.getElem_mem hlt)
    have hne : L[i] ≠ 0 ∧ L[i].natAbs ≤ 2 := by
      have := ltrs_neg _ hmem
      omega
    have hlc := let_c L[i]
    have hpc := hp.c (n := n) (by omega) (by omega)
    have ht := times_SC p (letT L[i]) hp.e (by omega) (by omega) (by omega)
    have hq := gdB hp L[i]
    have hc := raw_c p (letT L[i]) hp.e
    have hs := length_SC (timesT p (letT L[i])) hq.e (by omega)
    rw [red_self _ (times_red _ _)] at hs
    have q1 : SC cfg.P i_impl_letter [.s (.v (.int .i64) (List.getD L ((i : Int)).toNat (0 : Int)))] (.s (.v (.pr .tree .tree) (letT L[i]))) [] := by
      rw [hg]; exact letter_SC L[i] hne.1 (by omega)
    have hbd := stR_bd hn p L[i]
    have es : a + ((L.drop i).map (stR n p)).sum = (a + stR n p L[i]) + ((L.drop (i + 1)).map (stR n p)).sum := by
      rw [hd, List.map_cons, List.sum_cons]; omega
    rw [es]
    have i1 := fun mp h => IH (i + 1) (a + stR n p L[i]) mp (by omega) (by omega) (by omega) (by push_cast; omega) h
    rw [← wrap_succ (i := i) (by omega)] at i1
    by_cases hlt2 : lenT (timesT p (letT L[i])) < (n : Int)
    · have e : stR n p L[i] = cA (n - 1) (timesT p (letT L[i])) := if_pos hlt2
      obtain ⟨mp1, hm1, hr⟩ := ih _ mp hq (by have := lessB hp hmem (by omega); omega) hmp
      rw [← e] at hr
      obtain ⟨mp2, hm2, i2⟩ := i1 mp1 hm1
      have ew : IntKind.wrap .i64 (a + stR n p L[i]) = a + stR n p L[i] := by rw [w64] <;> omega
      have st := fun {e : AEx} {st : St} => impl_pair_shortest_L0a_i1 tx (n : Int) a L (i : Int) mp p (letT L[i]) (timesT p (letT L[i])) (lenT (timesT p (letT L[i]))) (stR n p L[i]) mp1 (by omega) (by omega) (by omega) q1 ht hs hlt2 hr (e := e) (st := st)
      rw [ew] at st
      exact ⟨mp2, hm2, st i2⟩
    · have e : stR n p L[i] = 0 := if_neg hlt2
      rw [e] at i1 ⊢
      rw [Int.add_zero] at i1 ⊢
      obtain ⟨mp2, hm2, i2⟩ := i1 mp hmp
      exact ⟨mp2, hm2, impl_pair_shortest_L0a_i2 tx (n : Int) a L (i : Int) mp p (letT L[i]) (timesT p (letT L[i])) (lenT (timesT p (letT L[i]))) (by omega) (by omega) (by omega) q1 ht hs hlt2 i2⟩

theorem shortest_SC : ∀ (n : Nat) (p : Tr × Tr) (mp : List (ByteArray × Int)), n ≤ 21 → Gd p → lenT p = (n : Int) → MpOk mp →
    ∃ mp', MpOk mp' ∧ SC cfg.P i_impl_pair_shortest [.s (.v (.pr .tree .tree) p), .s (.mmp (.int .i64) mp)] (.s (.v (.int .i64) (cA n p))) [.mp (.int .i64) mp']
  | n, p, mp, hn, hp, h, hmp => by
    have hpc := hp.c (n := n) (by omega) (by omega)
    have e2 := hp.e
    have h1 := prT_SC p (by omega) (by omega)
    cases hm : mget mp (prT p) with
    | some x =>
      have e := hmp p x hp hm
      rw [h, Int.toNat_natCast] at e
      have q := impl_pair_shortest_p1 p mp (prT p) h1 (by rw [hm]; rfl)
      rw [hm, Option.getD_some, e] at q
      exact ⟨mp, hmp, q⟩
    | none =>
      have hs := length_SC p hp.e (by omega)
      rw [red_self _ hp.r, h] at hs
      obtain ⟨mp1, hm1, hL⟩ := slr_L ltrs rfl (fun l hl => hl) n hn p hp h (prT p) (fun q mq hq hl hmq => by
        match n, h, hl with
        | 0, h, hl => have := (lenT_bound q hq.e (by have := hq.c (n := 0) (by omega) (by omega); omega)).1; omega
        | k + 1, h, hl => exact shortest_SC k q mq (by omega) hq (by omega) hmq) 4 0 0 mp rfl (by omega) (by omega) (by omega) hmp
      rw [List.drop_zero, sum_ltrs, Int.zero_add] at hL
      have hk := hm1.put p
      rw [h, Int.toNat_natCast] at hk
      match n, h, hL, hs, hk with
      | 0, h, hL, hs, hk =>
        have e : cA 0 p = 1 := by
          show dlt p = 1
          unfold dlt
          exact if_pos h
        rw [e] at hk ⊢
        exact ⟨_, hk, impl_pair_shortest_p2 p mp (prT p) _ _ _ _ _ _ _ _ _ _ h1 (by rw [hm]; rfl) hs letters_SC hL rfl⟩
      | k + 1, h, hL, hs, hk =>
        have e : sum4 (stR (k + 1) p) = cA (k + 1) p := by
          rw [cB_step k hp h, h]
          rfl
        rw [e] at hL
        exact ⟨_, hk, impl_pair_shortest_p3 p mp (prT p) _ _ _ _ _ _ _ _ _ _ h1 (by rw [hm]; rfl) hs letters_SC hL (by omega)⟩
  termination_by n => n

/-! ### The law -/

def csV (a b : List UInt8) : Int := if isPair a b = true then (if (treeOf a).c > 5 then 0 else cA (lenT (swR a b)).toNat (swR a b)) else 0
def csB (a b : List UInt8) : Bool := isPair a b && decide ((treeOf a).c ≤ 5)

theorem csR_facts {a b : List UInt8} (t : isPair a b = true) (h : (treeOf a).c ≤ 5) : Gd (swR a b) ∧ (lenT (swR a b)).toNat ≤ 21 ∧ lenT (swR a b) = (((lenT (swR a b)).toNat : Nat) : Int) := by
  obtain ⟨f1, f2, f3⟩ := swR_facts t
  have hr := (red_c (treeOf a).c (treeOf a, treeOf b)).1
  have hc : (swR a b).1.c ≤ 5 := by have : (swR a b).1.c ≤ (treeOf a).c := hr; omega
  have hb := lenT_bound (swR a b) f1.e (by omega)
  exact ⟨⟨f1.e, f1.r⟩, by omega, f3.symm⟩

theorem implCs_SC (a b : List UInt8) (ha : a.length ≤ 2 ^ 40) (hb : b.length ≤ 2 ^ 40) :
    SC cfg.P i_impl_CountShortest [.s (.v (.pr .str .str) (bs a, bs b))] (.tup [.v (.int .i64) (csV a b), .v .bool (csB a b)]) [] := by
  have h1 := pairOf_SC a b ha hb
  unfold csV csB
  cases t : isPair a b with
  | false => rw [t] at h1; exact impl_CountShortest_p3 _ _ h1
  | true =>
    rw [t] at h1
    obtain ⟨a1, a2, a3, a4, a5⟩ := isPair_trees t
    have hc := carets_SC (treeOf a) (by omega)
    rw [if_pos rfl]
    by_cases h : (treeOf a).c ≤ 5
    · obtain ⟨f1, f2, f3⟩ := csR_facts t h
      have hr := reduced_SC (treeOf a, treeOf b) (by simp only; omega) (by simp only; omega)
      obtain ⟨mp, _, hs⟩ := shortest_SC (lenT (swR a b)).toNat (swR a b) [] f2 f1 f3 (fun q x _ h => by cases h)
      rw [if_neg (by omega), decide_eq_true h]
      exact impl_CountShortest_p2 _ _ _ _ _ _ h1 hc (by omega) hr hs
    · rw [if_pos (by omega), decide_eq_false h]
      exact impl_CountShortest_p1 _ _ _ h1 hc (by omega)

theorem specCs_SC (a b : List UInt8) (ha : a.length ≤ 2 ^ 40) (hb : b.length ≤ 2 ^ 40) :
    SC cfg.P i_spec_CountShortest [.s (.v (.pr .str .str) (bs a, bs b))] (.tup [.v (.int .i64) (csV a b), .v .bool (csB a b)]) [] := by
  have h1 := prGood_SC a b ha hb
  unfold csV csB
  cases t : isPair a b with
  | false => rw [t] at h1; exact spec_CountShortest_p3 _ h1
  | true =>
    rw [t] at h1
    obtain ⟨a1, a2, a3, a4, a5⟩ := isPair_trees t
    have e1 : pt (treeOf a, treeOf b) = (bs a, bs b) := by rw [pt, ← a1, ← a2]
    have hc := trCarets_SC a ha
    have ec : a.count 40 = (treeOf a).c := by
      rw [← txt_count, ← a1]
    rw [ec] at hc
    rw [if_pos rfl]
    by_cases h : (treeOf a).c ≤ 5
    · obtain ⟨f1, f2, f3⟩ := csR_facts t h
      have h2 : SC cfg.P i_spec_prReduce [.s (.v (.pr .str .str) (pt (treeOf a, treeOf b))), .s (.v (.sl (.int .i64)) ([] : List Int))] (.s (.v (.pr .str .str) (pt (swR a b)))) [] := prReduce_SC (treeOf a, treeOf b) (by simp only; omega) (by simp only; omega)
      rw [e1] at h2
      have hs := lnCount_SC (lenT (swR a b)).toNat (swR a b) f2 f1 f3
      rw [if_neg (by omega), decide_eq_true h]
      exact spec_CountShortest_p2 _ _ _ _ h1 hc (by omega) h2 hs
    · rw [if_pos (by omega), decide_eq_false h]
      exact spec_CountShortest_p1 _ _ h1 hc (by omega)

/-- The law of CountShortest. -/
theorem law_Cs (x y : ByteArray) (hx : x.size ≤ 2 ^ 63 - 1) (hy : y.size ≤ 2 ^ 63 - 1) :
    SC cfg.P i_laws_FnExactCountShortest [.s (.v (.pr .str .str) (x, y))] (.s (.v .bool true)) [] := by
  obtain ⟨a, rfl⟩ := bs_ex x
  obtain ⟨b, rfl⟩ := bs_ex y
  rw [bs_size] at hx hy
  by_cases h : a.length + b.length ≤ 1048576
  · have hS := specCs_SC a b (by omega) (by omega)
    have hI := implCs_SC a b (by omega) (by omega)
    exact laws_FnExactCountShortest_p2 _ _ _ _ _ _ _ _ (szPair_in a b h) (by omega) (laws_toPair_p1 _) hS (laws_toPair_p1 _) hI rfl (by simp)
  · exact laws_FnExactCountShortest_p1 _ _ (szPair_out a b hx hy h) (by omega)

end Go.AI
