/- The law of PairOfWord. -/
import Derived.Test.YtnnbjnmkkfakdaaCWp
set_option autoImplicit false
set_option maxRecDepth 100000
set_option linter.unusedVariables false
namespace Go.AI
open Go.Proofs

/-- The product of the letters of a word, as long as no part of it is too great. -/
def powW : List Int → Tr × Tr → Option (Tr × Tr)
  | [], out => some out
  | n :: w, out => if (timesT out (letT n)).1.c ≤ 8 then powW w (timesT out (letT n)) else none

theorem powW_ok : ∀ (w : List Int) (out o : Tr × Tr), powW w out = some o → out.1.c = out.2.c → out.1.c ≤ 8 → o.1.c = o.2.c ∧ o.1.c ≤ 8
  | [], out, o, h, h1, h2 => by
    simp only [powW, Option.some.injEq] at h
    subst h
    exact ⟨h1, h2⟩
  | n :: w, out, o, h, h1, h2 => by
    have hl := let_c n
    simp only [powW] at h
    split at h
    · rename_i hc
      exact powW_ok w _ o h (times_eqc _ _ h1 (by omega)) hc
    · cases h

def lok (n : Int) : Prop := n ≠ 0 ∧ n.natAbs ≤ 7

section
variable (l : List Int) (hl : l.length ≤ 2 ^ 20) (hw : ∀ n ∈ l, lok n)
include hl hw

theorem word_L (z : Tr × Tr) : ∀ (m i : Nat) (out : Tr × Tr), l.length - i = m → i ≤ l.length → out.1.c = out.2.c → out.1.c ≤ 8 →
    (∀ o, powW (l.drop i) out = some o → LoopSC cfg.P 1 (lb P_impl_pairOfWord 1) (impl_pairOfWord_L1a l ((l.length : Nat) : Int) (i : Int) z out) (.exit 2) (impl_pairOfWord_L1X2 l ((l.length : Nat) : Int) (l.length : Int) false z o)) ∧
    (powW (l.drop i) out = none → LoopSC cfg.P 1 (lb P_impl_pairOfWord 1) (impl_pairOfWord_L1a l ((l.length : Nat) : Int) (i : Int) z out) .ret (impl_pairOfWord_L1X1 false (Tr.leaf, Tr.leaf))) := by
  intro m
  induction m with
  | zero =>
    intro i out hm hi ho ho8
    have e : i = l.length := by omega
    subst e
    rw [List.drop_length]
    refine ⟨fun o h => ?_, fun h => by cases h⟩
    simp only [powW, Option.some.injEq] at h
    subst h
    exact impl_pairOfWord_L1a_x3 _ _ _ _ _ (by omega)
  | succ m ih =>
    intro i out hm hi ho ho8
    have hi1 : i < l.length := by omega
    have hd : l.drop i = l[i] :: l.drop (i + 1) := List.drop_eq_getElem_cons hi1
    have hg : List.getD l ((i : Int)).toNat (0 : Int) = l[i] := by rw [Int.toNat_natCast, List.getD_eq_getElem?_getD, List.getElem?_eq_getElem hi1]; rfl
    have hn := hw l[i] (List.getElem_mem hi1)
    unfold lok at hn
    have hc := let_c l[i]
    have ht := times_SC out (letT l[i]) ho (by omega) (by omega) (by omega)
    have hr := raw_c out (letT l[i]) ho
    have hq := times_eqc out (letT l[i]) ho (by omega)
    have hk := carets_SC (timesT out (letT l[i])).1 (by omega)
    have hL := letter_SC l[i] hn.1 (by omega)
    rw [← hg] at hL
    rw [hd, powW]
    by_cases h : (timesT out (letT l[i])).1.c ≤ 8
    · rw [if_pos h]
      obtain ⟨i1, i2⟩ := ih (i + 1) (timesT out (letT l[i])) (by omega) (by omega) hq h
      rw [← wrap_succ (by omega)] at i1 i2
      exact ⟨fun o hh => impl_pairOfWord_L1a_i2 _ _ _ _ _ _ _ _ (by omega) (by omega) (by omega) hL (by rw [hg]; exact ht) hk (by omega) (i1 o hh),
        fun hh => impl_pairOfWord_L1a_i2 _ _ _ _ _ _ _ _ (by omega) (by omega) (by omega) hL (by rw [hg]; exact ht) hk (by omega) (i2 hh)⟩
    · rw [if_neg h]
      exact ⟨fun o hh => (by cases hh), fun _ => impl_pairOfWord_L1a_x1 _ _ _ _ _ _ _ _ (by omega) (by omega) (by omega) hL (by rw [hg]; exact ht) hk (by omega)⟩

theorem sword_L (z : ByteArray × ByteArray) : ∀ (m i : Nat) (out : Tr × Tr), l.length - i = m → i ≤ l.length → out.1.c = out.2.c → out.1.c ≤ 8 →
    (∀ o, powW (l.drop i) out = some o → LoopSC cfg.P 1 (lb P_spec_PairOfWord 0) (spec_PairOfWord_L0a l ((l.length : Nat) : Int) (i : Int) z (pt out)) (.exit 0) (spec_PairOfWord_L0X2 l ((l.length : Nat) : Int) (l.length : Int) false z (pt o))) ∧
    (powW (l.drop i) out = none → LoopSC cfg.P 1 (lb P_spec_PairOfWord 0) (spec_PairOfWord_L0a l ((l.length : Nat) : Int) (i : Int) z (pt out)) .ret (spec_PairOfWord_L0X1 false ((⟨#[]⟩ : ByteArray), (⟨#[]⟩ : ByteArray)))) := by
  intro m
  induction m with
  | zero =>
    intro i out hm hi ho ho8
    have e : i = l.length := by omega
    subst e
    rw [List.drop_length]
    refine ⟨fun o h => ?_, fun h => by cases h⟩
    simp only [powW, Option.some.injEq] at h
    subst h
    exact spec_PairOfWord_L0a_x3 _ _ _ _ _ (by omega)
  | succ m ih =>
    intro i out hm hi ho ho8
    have hi1 : i < l.length := by omega
    have hd : l.drop i = l[i] :: l.drop (i + 1) := List.drop_eq_getElem_cons hi1
    have hg : List.getD l ((i : Int)).toNat (0 : Int) = l[i] := by rw [Int.toNat_natCast, List.getD_eq_getElem?_getD, List.getElem?_eq_getElem hi1]; rfl
    have hn := hw l[i] (List.getElem_mem hi1)
    unfold lok at hn
    have hc := let_c l[i]
    have ht := prTimes_SC out (letT l[i]) ho (by omega) (by omega)
    have hr := raw_c out (letT l[i]) ho
    have hq := times_eqc out (letT l[i]) ho (by omega)
    have hlen := txt_len (timesT out (letT l[i])).1
    have hk := trCarets_SC (txt (timesT out (letT l[i])).1) (by omega)
    rw [txt_count] at hk
    have hL := wdLetter_SC l[i] hn.1 (by omega)
    rw [← hg] at hL
    rw [hd, powW]
    by_cases h : (timesT out (letT l[i])).1.c ≤ 8
    · rw [if_pos h]
      obtain ⟨i1, i2⟩ := ih (i + 1) (timesT out (letT l[i])) (by omega) (by omega) hq h
      rw [← wrap_succ (by omega)] at i1 i2
      exact ⟨fun o hh => spec_PairOfWord_L0a_i2 _ _ _ _ _ _ _ _ (by omega) (by omega) (by omega) hL (by rw [hg]; exact ht) hk (by omega) (i1 o hh),
        fun hh => spec_PairOfWord_L0a_i2 _ _ _ _ _ _ _ _ (by omega) (by omega) (by omega) hL (by rw [hg]; exact ht) hk (by omega) (i2 hh)⟩
    · rw [if_neg h]
      exact ⟨fun o hh => (by cases hh), fun _ => spec_PairOfWord_L0a_x1 _ _ _ _ _ _ _ _ (by omega) (by omega) (by omega) hL (by rw [hg]; exact ht) hk (by omega)⟩
end

theorem small_L (l : List Int) (hl : l.length ≤ 2 ^ 20) (hw : ∀ n ∈ l, -(2 ^ 40) ≤ n ∧ n ≤ 2 ^ 40) (z y : Tr × Tr) :
    ((l.all fun n => decide (n.natAbs ≤ 7)) = true → LoopSC cfg.P 1 (lb P_impl_pairOfWord 0) (impl_pairOfWord_L0a l l ((l.length : Nat) : Int) 0 z y) (.exit 0) (impl_pairOfWord_L0X2 l l ((l.length : Nat) : Int) (l.length : Int) false z y)) ∧
    ((l.all fun n => decide (n.natAbs ≤ 7)) = false → LoopSC cfg.P 1 (lb P_impl_pairOfWord 0) (impl_pairOfWord_L0a l l ((l.length : Nat) : Int) 0 z y) .ret (impl_pairOfWord_L0X1 false (Tr.leaf, Tr.leaf))) := by
  have key := loop_ret (P := cfg.P) (np := 1) (c := lb P_impl_pairOfWord 0) (fun i (a : Unit) => impl_pairOfWord_L0a l l ((l.length : Nat) : Int) (i : Int) z y) (fun a => impl_pairOfWord_L0X2 l l ((l.length : Nat) : Int) (l.length : Int) false z y) (impl_pairOfWord_L0X1 false (Tr.leaf, Tr.leaf))
    (fun i a => a) (fun i a => True) (fun i => decide ((l.getD i 0).natAbs ≤ 7)) l.length
    (fun i a hi hI hp => by
      refine ⟨trivial, fun e st hn => ?_⟩
      have hb := hw _ (gD_mem hi 0)
      have hs := size_SC (l.getD i 0) hb
      have := of_decide_eq_true hp
      rw [← wrap_succ (by omega)] at hn
      exact impl_pairOfWord_L0a_i2 _ _ _ _ _ _ _ (by omega) (by omega) (by omega) hs (by omega) hn)
    (fun i a hi hI hp => by
      have hb := hw _ (gD_mem hi 0)
      have hs := size_SC (l.getD i 0) hb
      have := of_decide_eq_false hp
      exact impl_pairOfWord_L0a_x1 _ _ _ _ _ _ _ (by omega) (by omega) (by omega) hs (by omega))
    (fun a _ => impl_pairOfWord_L0a_x3 _ _ _ _ _ _ (by omega)) l.length 0 () (by omega) trivial
  rw [all_range' l 0 (fun n => decide (n.natAbs ≤ 7))] at key
  exact key

def pwwG (l : List Int) : Bool := isWd l && l.all fun n => decide (n.natAbs ≤ 7)
def pwwO (l : List Int) : Option (Tr × Tr) := if pwwG l = true then powW l (.leaf, .leaf) else none
def pwwV (l : List Int) : ByteArray × ByteArray := match pwwO l with
  | some o => pt o
  | none => (⟨#[]⟩, ⟨#[]⟩)
def pwwB (l : List Int) : Bool := (pwwO l).isSome

theorem wd_facts {l : List Int} (h : isWd l = true) : l.length ≤ 20 ∧ ∀ n ∈ l, n ≠ 0 ∧ -21 ≤ n ∧ n ≤ 21 := by
  simp only [isWd, Bool.and_eq_true, decide_eq_true_eq, List.all_eq_true] at h
  exact ⟨h.1, fun n hn => of_decide_eq_true (h.2 n hn)⟩

theorem all_six {l : List Int} (h : isWd l = true) : (l.all fun n => decide (n.natAbs ≤ 7)) = l.all (isLtM 6) := by
  obtain ⟨_, h2⟩ := wd_facts h
  rw [Bool.eq_iff_iff, List.all_eq_true, List.all_eq_true]
  constructor
  · intro g n hn
    have := h2 n hn
    have := of_decide_eq_true (g n hn)
    exact decide_eq_true ⟨by omega, by omega, by omega⟩
  · intro g n hn
    have : n ≠ 0 ∧ -((6 : Nat) : Int) - 1 ≤ n ∧ n ≤ ((6 : Nat) : Int) + 1 := of_decide_eq_true (g n hn)
    exact decide_eq_true (by omega)

theorem implPww_SC (l : List Int) (hl : l.length ≤ 2 ^ 40) : SC cfg.P i_impl_PairOfWord [.s (.v (.sl (.int .i64)) l)] (.tup [.v (.pr .str .str) (pwwV l), .v .bool (pwwB l)]) [] := by
  have h1 := isWord_SC l hl
  unfold pwwV pwwB pwwO pwwG
  cases hw : isWd l with
  | false => rw [hw] at h1; exact impl_PairOfWord_p3 _ h1
  | true =>
    rw [hw] at h1
    obtain ⟨w1, w2⟩ := wd_facts hw
    obtain ⟨s1, s2⟩ := small_L l (by omega) (fun n hn => by have := w2 n hn; omega) (.leaf, .leaf) (.leaf, .leaf)
    cases hq : (l.all fun n => decide (n.natAbs ≤ 7)) with
    | false =>
      have := impl_pairOfWord_p1 _ _ _ (s2 hq)
      exact impl_PairOfWord_p2 _ _ h1 this
    | true =>
      have hok : ∀ n ∈ l, lok n := fun n hn => ⟨(w2 n hn).1, of_decide_eq_true (List.all_eq_true.1 hq n hn)⟩
      obtain ⟨t1, t2⟩ := word_L l (by omega) hok (.leaf, .leaf) l.length 0 (.leaf, .leaf) (by omega) (by omega) rfl (by simp [Tr.c])
      rw [List.drop_zero] at t1 t2
      rw [Bool.true_and, if_pos rfl]
      cases ho : powW l (.leaf, .leaf) with
      | none =>
        have := impl_pairOfWord_p2 _ _ _ _ _ _ _ _ _ _ (s1 hq) (t2 ho)
        exact impl_PairOfWord_p2 _ _ h1 this
      | some o =>
        obtain ⟨o1, o2⟩ := powW_ok _ _ _ ho rfl (by simp [Tr.c])
        have := impl_pairOfWord_p3 _ _ _ _ _ _ _ _ _ _ _ _ _ _ (s1 hq) (t1 o ho)
        exact impl_PairOfWord_p1 _ _ _ h1 this (plain_SC o (by omega) (by omega))

theorem specPww_SC (l : List Int) (hl : l.length ≤ 2 ^ 40) : SC cfg.P i_spec_PairOfWord [.s (.v (.sl (.int .i64)) l)] (.tup [.v (.pr .str .str) (pwwV l), .v .bool (pwwB l)]) [] := by
  have h1 := wdGood_SC l hl
  have hu : SC cfg.P i_spec_prUnit [] (.s (.v (.pr .str .str) (pt (.leaf, .leaf)))) [] := spec_prUnit_p1
  unfold pwwV pwwB pwwO pwwG
  cases hw : isWd l with
  | false => rw [hw] at h1; exact spec_PairOfWord_p4 _ h1
  | true =>
    rw [hw] at h1
    obtain ⟨w1, w2⟩ := wd_facts hw
    have h2 : SC cfg.P i_spec_wdIs [.s (.v (.sl (.int .i64)) l), .s (.v (.int .i64) (6 : Int))] (.s (.v .bool (l.all (isLtM 6)))) [] := wdIsM_SC 6 (by omega) l hl
    rw [← all_six hw] at h2
    cases hq : (l.all fun n => decide (n.natAbs ≤ 7)) with
    | false =>
      rw [hq] at h2
      exact spec_PairOfWord_p3 _ h1 h2
    | true =>
      rw [hq] at h2
      have hok : ∀ n ∈ l, lok n := fun n hn => ⟨(w2 n hn).1, of_decide_eq_true (List.all_eq_true.1 hq n hn)⟩
      obtain ⟨t1, t2⟩ := sword_L l (by omega) hok ((⟨#[]⟩ : ByteArray), (⟨#[]⟩ : ByteArray)) l.length 0 (.leaf, .leaf) (by omega) (by omega) rfl (by simp [Tr.c])
      rw [List.drop_zero] at t1 t2
      rw [Bool.true_and, if_pos rfl]
      cases ho : powW l (.leaf, .leaf) with
      | none => exact spec_PairOfWord_p1 _ _ _ _ h1 h2 hu (t2 ho)
      | some o => exact spec_PairOfWord_p2 _ _ _ _ _ _ _ _ h1 h2 hu (t1 o ho)

/-- The law of PairOfWord. -/
theorem law_Pww (l : List Int) (hl : l.length ≤ 2 ^ 63 - 1) (hw : ∀ n ∈ l, (Lit.int .i64 n).wf = true) :
    SC cfg.P i_laws_FnExactPairOfWord [.s (.v (.sl (.int .i64)) l)] (.s (.v .bool true)) [] := by
  by_cases hn : l.length ≤ 1048576
  · have t := toIntS_SC l (by omega)
    have e := eqIntS_SC l (by omega)
    exact laws_FnExactPairOfWord_p2 _ _ _ _ _ _ _ _ (by omega) t (specPww_SC l (by omega)) t (implPww_SC l (by omega)) (eqPair_SC _) (by simp) t e
  · exact laws_FnExactPairOfWord_p1 _ (by omega)

end Go.AI
