/- The law of ForestOfWord. -/
import Derived.Test.YtmoodcnoncipiaaC9
import Derived.Test.YtmoodcnoncipiaaCZ
set_option autoImplicit false
set_option maxRecDepth 100000
set_option linter.unusedVariables false
namespace Go.AI
open Go.Proofs

/-- A letter's number of leaves ahead. -/
def lt0 (n : Int) : Nat := (n - 1).toNat

theorem stackL_len (ts us : List Tr) : (stackL ts us).length ≤ ts.length + us.length := stk_len ts us _ 0 0

theorem split_SC (ts : List Tr) (n : Nat) (hn : n ≤ 2 ^ 10) (h1 : ts.length ≤ 2 ^ 19) (hc : ∀ t ∈ ts, t.c ≤ 2 ^ 10) :
    SC cfg.P i_impl_forest_split [.s (.v (.sl .tree) ts), .s (.v (.int .i64) (n : Int))] (.s (.own t_pimpl_node .tree (stackL ts (letF n)))) [] := by
  have ew : IntKind.wrap .i64 ((n : Int) + 1) = ((n + 1 : Nat) : Int) := wrap_succ (by omega)
  have hs := stack_SC ts (letF n) h1 (by rw [letF_len]; omega) hc
  have e : List.set (List.replicate ((IntKind.wrap .i64 ((n : Int) + 1))).toNat Tr.leaf) ((n : Int)).toNat (Tr.node Tr.leaf Tr.leaf) = letF n := by
    rw [ew, Int.toNat_natCast, Int.toNat_natCast, letF, List.replicate_succ', List.set_append_right _ _ (by simp)]
    simp
  rw [← e] at hs
  have hl : (List.replicate ((IntKind.wrap .i64 ((n : Int) + 1))).toNat Tr.leaf).length = n + 1 := by rw [List.length_replicate, ew, Int.toNat_natCast]
  rw [e] at hs
  have := impl_forest_split_p1 ts (n : Int) (stackL ts (letF n)) (by rw [ew]; omega) (by rw [ew]; unfold lim; omega) rfl (by omega) (by rw [hl]; omega) (by rw [hl]; omega) (by rw [e]; exact hs)
  exact this

theorem foLetter_SC (n : Nat) (hn : n ≤ 2 ^ 10) : SC cfg.P i_spec_foLetter [.s (.v (.int .i64) ((n + 1 : Nat) : Int))] (.s (.own t_string .str (txs ((letF n).map txt)))) [] := by
  have key := loop_up (P := cfg.P) (np := 1) (c := lb P_spec_foLetter 0) (fun i (cur : List ByteArray) => spec_foLetter_L0a ((n + 1 : Nat) : Int) (i : Int) cur) (fun cur => spec_foLetter_L0X1 ((n + 1 : Nat) : Int) ((n + 1 : Nat) : Int) false cur)
    (fun i cur => cur ++ [(⟨#[46]⟩ : ByteArray)]) (fun i cur => cur.length ≤ i) (n + 1)
    (fun i cur hi hI => by
      refine ⟨by simp; omega, fun e st hn' => ?_⟩
      rw [← wrap_succ (i := i) (by omega)] at hn'
      exact spec_foLetter_L0a_i1 _ _ _ (by omega) (sizeOK_one (by omega)) hn')
    (fun cur _ => spec_foLetter_L0a_x2 _ _ _ (by omega)) n 1 [] (by omega) (by simp)
  obtain ⟨hL, hb⟩ := key
  rw [itr_map (fun _ => (⟨#[46]⟩ : ByteArray)), List.nil_append] at hL hb
  have := spec_foLetter_p1 _ _ _ _ _ hL (sizeOK_one (by omega))
  have e : (List.range' 1 n).map (fun _ => (⟨#[46]⟩ : ByteArray)) ++ [(⟨#[40, 46, 46, 41]⟩ : ByteArray)] = txs ((letF n).map txt) := by
    simp only [letF, List.map_append, List.map_replicate, List.map_cons, List.map_nil, txs]
    congr 1
    apply List.ext_getElem
    · simp
    · intro i h1 h2
      simp
      rfl
  rw [e] at this
  exact this

theorem wordF_snoc : ∀ (w : List Nat) (n : Nat) (ts : List Tr), wordF (w ++ [n]) ts = stackL (wordF w ts) (letF n)
  | [], n, ts => rfl
  | m :: w, n, ts => wordF_snoc w n _

theorem lt_facts (w : List Int) (hl : ∀ n ∈ w, isLt n = true) {i : Nat} (hi : i < w.length) : w.getD i 0 ≠ 0 ∧ -21 ≤ w.getD i 0 ∧ w.getD i 0 ≤ 21 := of_decide_eq_true (hl _ (gD_mem hi 0))

section
variable (w : List Int) (hw : w.length ≤ 20) (hl : ∀ n ∈ w, isLt n = true)
include hw hl


/-- The program's loop, in either of its two states. -/
theorem fow_L : ∀ (m i : Nat) (ts : List Tr), w.length - i = m → i ≤ w.length → ts.length ≤ 21 * i → (∀ t ∈ ts, t.c ≤ i) →
    (((w.drop i).all fun n => decide (0 < n)) = true →
      (LoopSC cfg.P 1 (lb P_impl_ForestOfWord 0) (impl_ForestOfWord_L0c w ((w.length : Nat) : Int) (i : Int) ts) (.exit 0) (impl_ForestOfWord_L0X3 w ((w.length : Nat) : Int) (w.length : Int) false (wordF ((w.drop i).map lt0) ts)) ∨
       LoopSC cfg.P 1 (lb P_impl_ForestOfWord 0) (impl_ForestOfWord_L0c w ((w.length : Nat) : Int) (i : Int) ts) (.exit 0) (impl_ForestOfWord_L0X4 w ((w.length : Nat) : Int) (w.length : Int) false (wordF ((w.drop i).map lt0) ts))) ∧
      (LoopSC cfg.P 1 (lb P_impl_ForestOfWord 0) (impl_ForestOfWord_L0e w ((w.length : Nat) : Int) (i : Int) ts) (.exit 0) (impl_ForestOfWord_L0X3 w ((w.length : Nat) : Int) (w.length : Int) false (wordF ((w.drop i).map lt0) ts)) ∨
       LoopSC cfg.P 1 (lb P_impl_ForestOfWord 0) (impl_ForestOfWord_L0e w ((w.length : Nat) : Int) (i : Int) ts) (.exit 0) (impl_ForestOfWord_L0X4 w ((w.length : Nat) : Int) (w.length : Int) false (wordF ((w.drop i).map lt0) ts)))) ∧
    (((w.drop i).all fun n => decide (0 < n)) = false →
      LoopSC cfg.P 1 (lb P_impl_ForestOfWord 0) (impl_ForestOfWord_L0c w ((w.length : Nat) : Int) (i : Int) ts) .ret (impl_ForestOfWord_L0X1 false ([] : List ByteArray)) ∧
      LoopSC cfg.P 1 (lb P_impl_ForestOfWord 0) (impl_ForestOfWord_L0e w ((w.length : Nat) : Int) (i : Int) ts) .ret (impl_ForestOfWord_L0X1 false ([] : List ByteArray))) := by
  intro m
  induction m with
  | zero =>
    intro i ts hm hi hts hc
    have e : i = w.length := by omega
    subst e
    rw [List.drop_length]
    exact ⟨fun _ => ⟨.inl (impl_ForestOfWord_L0c_x3 _ _ _ _ (by omega)), .inr (impl_ForestOfWord_L0e_x3 _ _ _ _ (by omega))⟩, fun h => by simp at h⟩
  | succ m ih =>
    intro i ts hm hi hts hc
    have hi1 : i < w.length := by omega
    obtain ⟨f1, f2, f3⟩ := lt_facts w hl hi1
    have hd : w.drop i = w.getD i 0 :: w.drop (i + 1) := by
      rw [List.drop_eq_getElem_cons hi1, List.getD_eq_getElem?_getD, List.getElem?_eq_getElem hi1]; rfl
    rw [hd, List.all_cons, List.map_cons]
    by_cases hn : w.getD i 0 < 0
    · rw [decide_eq_false (by omega), Bool.false_and]
      exact ⟨(fun h => by cases h), fun _ => ⟨impl_ForestOfWord_L0c_x1 w _ (i : Int) ts (by omega) (by omega) (by omega) hn, impl_ForestOfWord_L0e_x1 w _ (i : Int) ts (by omega) (by omega) (by omega) hn⟩⟩
    · rw [decide_eq_true (by omega), Bool.true_and]
      have hlt : lt0 (w.getD i 0) ≤ 20 := by unfold lt0; omega
      have el : IntKind.wrap .i64 (w.getD i 0 - 1) = ((lt0 (w.getD i 0) : Nat) : Int) := by
        have h' : w.getD i 0 - 1 = ((lt0 (w.getD i 0) : Nat) : Int) := by unfold lt0; omega
        rw [h', w64] <;> omega
      have hs := split_SC ts (lt0 (w.getD i 0)) (by omega) (by omega) (fun t ht => by have := hc t ht; omega)
      rw [← el] at hs
      have hln := stackL_len ts (letF (lt0 (w.getD i 0)))
      rw [letF_len] at hln
      obtain ⟨g1, g2⟩ := ih (i + 1) (stackL ts (letF (lt0 (w.getD i 0)))) (by omega) (by omega) (by omega) (stk_letF ts _ i hc _ 0 0)
      rw [← wrap_succ (by omega)] at g1 g2
      refine ⟨fun h => ?_, fun h => ?_⟩
      · obtain ⟨k1, k2⟩ := g1 h
        constructor
        · rcases k2 with k2 | k2
          · exact .inl (impl_ForestOfWord_L0c_i2 w _ (i : Int) ts _ (by omega) (by omega) (by omega) hn hs k2)
          · exact .inr (impl_ForestOfWord_L0c_i2 w _ (i : Int) ts _ (by omega) (by omega) (by omega) hn hs k2)
        · rcases k1 with k1 | k1
          · exact .inl (impl_ForestOfWord_L0e_i2 w _ (i : Int) ts _ (by omega) (by omega) (by omega) hn hs k1)
          · exact .inr (impl_ForestOfWord_L0e_i2 w _ (i : Int) ts _ (by omega) (by omega) (by omega) hn hs k1)
      · obtain ⟨k1, k2⟩ := g2 h
        exact ⟨impl_ForestOfWord_L0c_i2 w _ (i : Int) ts _ (by omega) (by omega) (by omega) hn hs k2, impl_ForestOfWord_L0e_i2 w _ (i : Int) ts _ (by omega) (by omega) (by omega) hn hs k1⟩

theorem wordF_bounds : ∀ (m i : Nat) (ts : List Tr), w.length - i = m → i ≤ w.length → ts.length ≤ 21 * i → (∀ t ∈ ts, t.c ≤ i) →
    ((w.drop i).all fun n => decide (0 < n)) = true → (wordF ((w.drop i).map lt0) ts).length ≤ 420 ∧ ∀ t ∈ wordF ((w.drop i).map lt0) ts, t.c ≤ 20 := by
  intro m
  induction m with
  | zero =>
    intro i ts hm hi hts hc _
    have e : i = w.length := by omega
    subst e
    rw [List.drop_length]
    exact ⟨by show ts.length ≤ 420; omega, fun t ht => by have := hc t ht; omega⟩
  | succ m ih =>
    intro i ts hm hi hts hc h
    have hi1 : i < w.length := by omega
    obtain ⟨f1, f2, f3⟩ := lt_facts w hl hi1
    have hd : w.drop i = w.getD i 0 :: w.drop (i + 1) := by
      rw [List.drop_eq_getElem_cons hi1, List.getD_eq_getElem?_getD, List.getElem?_eq_getElem hi1]; rfl
    rw [hd] at h ⊢
    rw [List.all_cons, Bool.and_eq_true, decide_eq_true_eq] at h
    have hlt : lt0 (w.getD i 0) ≤ 20 := by unfold lt0; omega
    have hln := stackL_len ts (letF (lt0 (w.getD i 0)))
    rw [letF_len] at hln
    exact ih (i + 1) (stackL ts (letF (lt0 (w.getD i 0)))) (by omega) (by omega) (by omega) (stk_letF ts _ i hc _ 0 0) h.2

/-- The reference's loop, in either of its two states. -/
theorem fowS_L (hpos : (w.all fun n => decide (0 < n)) = true) : ∀ (m i : Nat) (ts : List Tr), w.length - i = m → i ≤ w.length → ts.length ≤ 21 * i → (∀ t ∈ ts, t.c ≤ i) →
    (LoopSC cfg.P 1 (lb P_spec_ForestOfWord 0) (spec_ForestOfWord_L0b w ((w.length : Nat) : Int) (i : Int) (txs (ts.map txt))) (.exit 0) (spec_ForestOfWord_L0X2 w ((w.length : Nat) : Int) (w.length : Int) false (txs ((wordFT ((w.drop i).map lt0) ts).map txt))) ∨
     LoopSC cfg.P 1 (lb P_spec_ForestOfWord 0) (spec_ForestOfWord_L0b w ((w.length : Nat) : Int) (i : Int) (txs (ts.map txt))) (.exit 0) (spec_ForestOfWord_L0X3 w ((w.length : Nat) : Int) (w.length : Int) false (txs ((wordFT ((w.drop i).map lt0) ts).map txt)))) ∧
    (LoopSC cfg.P 1 (lb P_spec_ForestOfWord 0) (spec_ForestOfWord_L0d w ((w.length : Nat) : Int) (i : Int) (txs (ts.map txt))) (.exit 0) (spec_ForestOfWord_L0X2 w ((w.length : Nat) : Int) (w.length : Int) false (txs ((wordFT ((w.drop i).map lt0) ts).map txt))) ∨
     LoopSC cfg.P 1 (lb P_spec_ForestOfWord 0) (spec_ForestOfWord_L0d w ((w.length : Nat) : Int) (i : Int) (txs (ts.map txt))) (.exit 0) (spec_ForestOfWord_L0X3 w ((w.length : Nat) : Int) (w.length : Int) false (txs ((wordFT ((w.drop i).map lt0) ts).map txt)))) ∧
    (wordFT ((w.drop i).map lt0) ts).length ≤ 420 ∧ ∀ t ∈ wordFT ((w.drop i).map lt0) ts, t.c ≤ 20 := by
  intro m
  induction m with
  | zero =>
    intro i ts hm hi hts hc
    have e : i = w.length := by omega
    subst e
    rw [List.drop_length]
    exact ⟨.inl (spec_ForestOfWord_L0b_x2 _ _ _ _ (by omega)), .inr (spec_ForestOfWord_L0d_x2 _ _ _ _ (by omega)), by show ts.length ≤ 420; omega, fun t ht => by have := hc t ht; omega⟩
  | succ m ih =>
    intro i ts hm hi hts hc
    have hi1 : i < w.length := by omega
    obtain ⟨f1, f2, f3⟩ := lt_facts w hl hi1
    have hp := of_decide_eq_true (List.all_eq_true.1 hpos _ (gD_mem hi1 0))
    have hd : w.drop i = w.getD i 0 :: w.drop (i + 1) := by
      rw [List.drop_eq_getElem_cons hi1, List.getD_eq_getElem?_getD, List.getElem?_eq_getElem hi1]; rfl
    rw [hd, List.map_cons]
    have hlt : lt0 (w.getD i 0) ≤ 20 := by unfold lt0; omega
    have el : w.getD i 0 = ((lt0 (w.getD i 0) + 1 : Nat) : Int) := by unfold lt0; omega
    have hF := foLetter_SC (lt0 (w.getD i 0)) (by omega)
    rw [← el] at hF
    have hS := foStack_SC ts (letF (lt0 (w.getD i 0))) (by omega) (by rw [letF_len]; omega) (fun t ht => by have := hc t ht; omega) (by
      intro u hu
      simp only [letF, List.mem_append, List.mem_replicate, List.mem_singleton] at hu
      rcases hu with ⟨_, rfl⟩ | rfl <;> simp [Tr.c])
    have hln := stackL_len ts (letF (lt0 (w.getD i 0)))
    rw [letF_len] at hln
    have htl := trim_len (stackL ts (letF (lt0 (w.getD i 0))))
    obtain ⟨k1, k2, k3, k4⟩ := ih (i + 1) (trim (stackL ts (letF (lt0 (w.getD i 0))))) (by omega) (by omega) (by omega) (fun t ht => stk_letF ts _ i hc _ 0 0 t (trim_mem ht))
    rw [← wrap_succ (by omega)] at k1 k2
    refine ⟨?_, ?_, k3, k4⟩
    · rcases k2 with k2 | k2
      · exact .inl (spec_ForestOfWord_L0b_i1 w _ (i : Int) _ _ _ (by omega) (by omega) (by omega) hF hS k2)
      · exact .inr (spec_ForestOfWord_L0b_i1 w _ (i : Int) _ _ _ (by omega) (by omega) (by omega) hF hS k2)
    · rcases k1 with k1 | k1
      · exact .inl (spec_ForestOfWord_L0d_i1 w _ (i : Int) _ _ _ (by omega) (by omega) (by omega) hF hS k1)
      · exact .inr (spec_ForestOfWord_L0d_i1 w _ (i : Int) _ _ _ (by omega) (by omega) (by omega) hF hS k1)
end

theorem l1All_SC (l : List Int) (hl : l.length ≤ 2 ^ 40) : SC cfg.P i_spec_l1All [.s (.v (.sl (.int .i64)) l), .s (.v (.int .i64) (1 : Int)), .s (.v (.int .i64) (21 : Int))] (.s (.v .bool (l.all fun n => decide (n ≥ 1 ∧ n ≤ 21)))) [] := by
  have key := loop_ret (P := cfg.P) (np := 3) (c := lb P_spec_l1All 0) (fun i (a : Unit) => spec_l1All_L0a (1 : Int) (21 : Int) l ((l.length : Nat) : Int) (i : Int)) (fun a => spec_l1All_L0X2 (1 : Int) (21 : Int) l ((l.length : Nat) : Int) (l.length : Int) false) (spec_l1All_L0X1 false)
    (fun i a => a) (fun i a => True) (fun i => decide (l.getD i 0 ≥ 1 ∧ l.getD i 0 ≤ 21)) l.length
    (fun i a hi hI hp => by
      refine ⟨trivial, fun e st hn => ?_⟩
      have hL := l1In_SC (l.getD i 0) 1 21
      rw [hp] at hL
      rw [← wrap_succ (by omega)] at hn
      exact spec_l1All_L0a_i1 _ _ _ _ _ (by omega) (by omega) (by omega) hL hn)
    (fun i a hi hI hp => by
      have hL := l1In_SC (l.getD i 0) 1 21
      rw [hp] at hL
      exact spec_l1All_L0a_x2 _ _ _ _ _ (by omega) (by omega) (by omega) hL)
    (fun a _ => spec_l1All_L0a_x3 _ _ _ _ _ (by omega)) l.length 0 () (by omega) trivial
  rw [all_range' l 0 (fun n => decide (n ≥ 1 ∧ n ≤ 21))] at key
  cases hf : (l.all fun n => decide (n ≥ 1 ∧ n ≤ 21)) with
  | true => exact spec_l1All_p2 _ _ _ _ _ _ _ _ _ (key.1 hf)
  | false => exact spec_l1All_p1 _ _ _ _ (key.2 hf)

def fowG (w : List Int) : Bool := isWd w && w.all fun n => decide (0 < n)
def fowV (w : List Int) : List (List UInt8) := if fowG w = true then foTexts (wordF (w.map lt0) []) else []
def fowB (w : List Int) : Bool := fowG w && foOk (wordF (w.map lt0) [])

theorem isWd_facts {w : List Int} (h : isWd w = true) : w.length ≤ 20 ∧ ∀ n ∈ w, isLt n = true := by
  rw [isWd, Bool.and_eq_true, decide_eq_true_eq] at h
  exact ⟨h.1, List.all_eq_true.1 h.2⟩

theorem pos_eq {w : List Int} (h : isWd w = true) : (w.all fun n => decide (n ≥ 1 ∧ n ≤ 21)) = (w.all fun n => decide (0 < n)) := by
  obtain ⟨_, hl⟩ := isWd_facts h
  rw [Bool.eq_iff_iff, List.all_eq_true, List.all_eq_true]
  constructor
  · intro g n hn
    have := of_decide_eq_true (g n hn)
    exact decide_eq_true (by omega)
  · intro g n hn
    have h1 := of_decide_eq_true (g n hn)
    have h2 : n ≠ 0 ∧ -21 ≤ n ∧ n ≤ 21 := of_decide_eq_true (hl n hn)
    exact decide_eq_true ⟨by omega, h2.2.2⟩

theorem implFow_SC (w : List Int) (hl : w.length ≤ 2 ^ 40) : SC cfg.P i_impl_ForestOfWord [.s (.v (.sl (.int .i64)) w)] (.tup [.own t_string .str (txs (fowV w)), .v .bool (fowB w)]) [] := by
  have h1 := isWord_SC w hl
  cases hw : isWd w with
  | false =>
    rw [hw] at h1
    have hG : fowG w = false := by rw [fowG, hw]; rfl
    rw [fowV, fowB, hG, if_neg (by simp), Bool.false_and]
    exact impl_ForestOfWord_p5 _ h1
  | true =>
    rw [hw] at h1
    obtain ⟨l20, hlt⟩ := isWd_facts hw
    cases w with
    | nil =>
      have hT := texts_SC [] (by simp) (fun t ht => by cases ht)
      exact impl_ForestOfWord_p2 _ _ _ _ _ _ _ _ h1 (impl_ForestOfWord_L0a_x3 _ _ _ _ (by simp)) hT
    | cons n w' =>
      have hi1 : 0 < (n :: w').length := by simp
      obtain ⟨f1, f2, f3⟩ := lt_facts (n :: w') hlt hi1
      have hd : (n :: w').drop 1 = w' := rfl
      have hg : (n :: w').getD 0 0 = n := rfl
      by_cases hn : n < 0
      · have hG : fowG (n :: w') = false := by rw [fowG, List.all_cons, decide_eq_false (by omega), Bool.false_and, Bool.and_false]
        rw [fowV, fowB, hG, if_neg (by simp), Bool.false_and]
        exact impl_ForestOfWord_p1 _ _ _ h1 (impl_ForestOfWord_L0a_x1 (n :: w') _ (0 : Int) _ (by simp <;> omega) (by omega) (by simp <;> omega) hn)
      · rw [hg] at f1 f2 f3
        have hlt0 : lt0 n ≤ 20 := by unfold lt0; omega
        have el : IntKind.wrap .i64 (n - 1) = ((lt0 n : Nat) : Int) := by
          have h' : n - 1 = ((lt0 n : Nat) : Int) := by unfold lt0; omega
          rw [h', w64] <;> omega
        have hs := split_SC [] (lt0 n) (by omega) (by simp) (fun t ht => by cases ht)
        rw [← el] at hs
        have hln := stackL_len [] (letF (lt0 n))
        rw [letF_len, List.length_nil, Nat.zero_add] at hln
        have hcc : ∀ t ∈ stackL [] (letF (lt0 n)), t.c ≤ 1 := stk_letF [] _ 0 (fun t ht => by cases ht) _ 0 0
        obtain ⟨g1, g2⟩ := fow_L (n :: w') l20 hlt _ 1 (stackL [] (letF (lt0 n))) rfl (by simp) (by omega) hcc
        have hb := wordF_bounds (n :: w') l20 hlt _ 1 (stackL [] (letF (lt0 n))) rfl (by simp) (by omega) hcc
        rw [hd] at g1 g2 hb
        have e01 : IntKind.wrap .i64 ((0 : Int) + 1) = ((1 : Nat) : Int) := by decide
        rw [← e01] at g1 g2
        cases hpos : (w'.all fun n => decide (0 < n)) with
        | true =>
          have hG : fowG (n :: w') = true := by rw [fowG, hw, List.all_cons, decide_eq_true (by omega), hpos]; rfl
          rw [fowV, fowB, hG, if_pos rfl, Bool.true_and]
          obtain ⟨b1, b2⟩ := hb hpos
          have hT := texts_SC (wordF (w'.map lt0) (stackL [] (letF (lt0 n)))) (by omega) (fun t ht => by have := b2 t ht; omega)
          rcases (g1 hpos).1 with k | k
          · exact impl_ForestOfWord_p3 _ _ _ _ _ _ _ _ h1 (impl_ForestOfWord_L0a_i2 (n :: w') _ (0 : Int) _ _ (by simp <;> omega) (by omega) (by simp <;> omega) hn hs k) hT
          · exact impl_ForestOfWord_p4 _ _ _ _ _ _ _ _ h1 (impl_ForestOfWord_L0a_i2 (n :: w') _ (0 : Int) _ _ (by simp <;> omega) (by omega) (by simp <;> omega) hn hs k) hT
        | false =>
          have hG : fowG (n :: w') = false := by rw [fowG, List.all_cons, hpos, Bool.and_false, Bool.and_false]
          rw [fowV, fowB, hG, if_neg (by simp), Bool.false_and]
          exact impl_ForestOfWord_p1 _ _ _ h1 (impl_ForestOfWord_L0a_i2 (n :: w') _ (0 : Int) _ _ (by simp <;> omega) (by omega) (by simp <;> omega) hn hs (g2 hpos).1)

theorem specFow_SC (w : List Int) (hl : w.length ≤ 2 ^ 40) : SC cfg.P i_spec_ForestOfWord [.s (.v (.sl (.int .i64)) w)] (.tup [.own t_string .str (txs (fowV w)), .v .bool (fowB w)]) [] := by
  have h1 := wdGood_SC w hl
  cases hw : isWd w with
  | false =>
    rw [hw] at h1
    have hG : fowG w = false := by rw [fowG, hw]; rfl
    rw [fowV, fowB, hG, if_neg (by simp), Bool.false_and]
    exact spec_ForestOfWord_p5 _ h1
  | true =>
    rw [hw] at h1
    have h2 := l1All_SC w hl
    rw [pos_eq hw] at h2
    obtain ⟨l20, hlt⟩ := isWd_facts hw
    cases hpos : (w.all fun n => decide (0 < n)) with
    | false =>
      rw [hpos] at h2
      have hG : fowG w = false := by rw [fowG, hpos, Bool.and_false]
      rw [fowV, fowB, hG, if_neg (by simp), Bool.false_and]
      exact spec_ForestOfWord_p4 _ h1 h2
    | true =>
      rw [hpos] at h2
      have hG : fowG w = true := by rw [fowG, hw, hpos]; rfl
      rw [fowV, fowB, hG, if_pos rfl, Bool.true_and]
      have htr := wordFT_trim (w.map lt0) []
      obtain ⟨q1, q2⟩ := foTexts_of_trim htr
      rw [← q1, ← q2]
      cases w with
      | nil =>
        have hT := foIf_SC [] (by simp) (fun t ht => by cases ht)
        exact spec_ForestOfWord_p1 _ _ _ _ _ _ _ _ h1 h2 (spec_ForestOfWord_L0a_x2 _ _ _ _ (by simp)) hT
      | cons n w' =>
        have hi1 : 0 < (n :: w').length := by simp
        obtain ⟨f1, f2, f3⟩ := lt_facts (n :: w') hlt hi1
        have hd : (n :: w').drop 1 = w' := rfl
        have hg : (n :: w').getD 0 0 = n := rfl
        rw [hg] at f1 f2 f3
        have hn : 0 < n := of_decide_eq_true (List.all_eq_true.1 hpos n (by simp))
        have hlt0 : lt0 n ≤ 20 := by unfold lt0; omega
        have el : n = ((lt0 n + 1 : Nat) : Int) := by unfold lt0; omega
        have hF := foLetter_SC (lt0 n) (by omega)
        rw [← el] at hF
        have hS := foStack_SC [] (letF (lt0 n)) (by simp) (by rw [letF_len]; omega) (fun t ht => by cases ht) (by
          intro u hu
          simp only [letF, List.mem_append, List.mem_replicate, List.mem_singleton] at hu
          rcases hu with ⟨_, rfl⟩ | rfl <;> simp [Tr.c])
        have hln := stackL_len [] (letF (lt0 n))
        rw [letF_len, List.length_nil, Nat.zero_add] at hln
        have htl := trim_len (stackL [] (letF (lt0 n)))
        have hcc : ∀ t ∈ stackL [] (letF (lt0 n)), t.c ≤ 1 := stk_letF [] _ 0 (fun t ht => by cases ht) _ 0 0
        obtain ⟨k1, k2, k3, k4⟩ := fowS_L (n :: w') l20 hlt hpos _ 1 (trim (stackL [] (letF (lt0 n)))) rfl (by simp) (by omega) (fun t ht => hcc t (trim_mem ht))
        rw [hd] at k1 k3 k4
        have e01 : IntKind.wrap .i64 ((0 : Int) + 1) = ((1 : Nat) : Int) := by decide
        rw [← e01] at k1
        have hT := foIf_SC (wordFT (w'.map lt0) (trim (stackL [] (letF (lt0 n))))) (by omega) (fun t ht => by have := k4 t ht; omega)
        have et : (wordFT ((n :: w').map lt0) (trim [])) = wordFT (w'.map lt0) (trim (stackL [] (letF (lt0 n)))) := rfl
        rw [et]
        rcases k1 with k | k
        · exact spec_ForestOfWord_p2 _ _ _ _ _ _ _ _ h1 h2 (spec_ForestOfWord_L0a_i1 (n :: w') _ (0 : Int) _ _ _ (by simp <;> omega) (by omega) (by simp <;> omega) hF hS k) hT
        · exact spec_ForestOfWord_p3 _ _ _ _ _ _ _ _ h1 h2 (spec_ForestOfWord_L0a_i1 (n :: w') _ (0 : Int) _ _ _ (by simp <;> omega) (by omega) (by simp <;> omega) hF hS k) hT

/-- THE LAW. -/
theorem law_Fow (l : List Int) (hl : l.length ≤ 2 ^ 63 - 1) (hw : ∀ n ∈ l, (Lit.int .i64 n).wf = true) : SC cfg.P i_laws_FnExactForestOfWord [.s (.v (.sl (.int .i64)) l)] (.s (.v .bool true)) [] := by
  by_cases hn : l.length ≤ 1048576
  · have hS := specFow_SC l (by omega)
    have hI := implFow_SC l (by omega)
    have t := toIntS_SC l (by omega)
    have e := eqIntS_SC l (by omega)
    have hv : (txs (fowV l)).length ≤ 8 := by
      rw [List.length_map, fowV]
      split
      · exact foTexts_len' _
      · simp
    have e3 := eqStringS_SC (txs (fowV l)) (by omega)
    have m1 := markIntS_SC l (by omega)
    have m3 := markStringS_SC (txs (fowV l)) (by omega) 1 (by omega) (by omega)
    have h3 := heldStringS_SC 1 (txs (fowV l)).length (by omega) (by omega) (by omega)
    exact laws_FnExactForestOfWord_p2 _ _ _ _ _ _ _ _ _ _ _ _ _ _ _ _ _ (by omega) t hS t hI e3 (by simp) t e m1 (by omega) m3 h3 (by omega) rfl t hI e3 (by simp) h3 (by omega) rfl
  · exact laws_FnExactForestOfWord_p1 _ (by omega)

end Go.AI
