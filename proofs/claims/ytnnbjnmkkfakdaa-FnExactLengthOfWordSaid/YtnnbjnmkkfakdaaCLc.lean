/- The law of LengthOfWord. -/
import Derived.Test.YtnnbjnmkkfakdaaCLt
import Derived.Test.YtnnbjnmkkfakdaaCLb
import Derived.Test.YtnnbjnmkkfakdaaCWq
import Derived.Test.YtnnbjnmkkfakdaaGQ
set_option autoImplicit false
set_option maxRecDepth 100000
set_option linter.unusedVariables false
namespace Go.AI
open Go.Proofs

theorem joiT_c1 : ∀ a b : Tr, a ≠ .leaf → b ≠ .leaf → (joiT a b).c + 1 ≤ a.c + b.c
  | .leaf, _, h, _ => absurd rfl h
  | .node _ _, .leaf, _, h => absurd rfl h
  | .node a b, .node c d, _, _ => by have := joiT_c a c; have := joiT_c b d; simp only [joiT, Tr.c]; omega

theorem c_zero {t : Tr} (h : t.c = 0) : t = .leaf := by
  cases t with
  | leaf => rfl
  | node l r => simp only [Tr.c] at h; omega

/-- A letter adds less than its carets, but to what is a leaf. -/
theorem times_c1 (p q : Tr × Tr) (hp : p.1.c = p.2.c) (h1 : 0 < p.1.c) (h2 : 0 < q.1.c) : (timesT p q).1.c + 1 ≤ p.1.c + q.1.c := by
  have hj := joiT_c1 p.2 q.1 (by intro e; rw [e] at hp; simp only [Tr.c] at hp; omega) (by intro e; rw [e] at h2; simp only [Tr.c] at h2; omega)
  have c1 := raw_c1 p q hp
  have := (red_c (rawT p q).1.c (rawT p q)).1
  have : (timesT p q).1.c ≤ (rawT p q).1.c := this
  omega

/-- The product of letters. -/
def prodW : List Int → Tr × Tr → Tr × Tr
  | [], out => out
  | n :: w, out => prodW w (timesT out (letT n))

def isTw (n : Int) : Bool := decide (n ≠ 0 ∧ -2 ≤ n ∧ n ≤ 2)

theorem isTw_M : isLtM 1 = isTw := by
  funext n
  unfold isLtM isTw
  congr 1

theorem step_c (out : Tr × Tr) (n : Int) (i : Nat) (ho : out.1.c = out.2.c) (hc : out.1.c ≤ 2 * i + 1) (hn : isTw n = true) :
    (timesT out (letT n)).1.c = (timesT out (letT n)).2.c ∧ (timesT out (letT n)).1.c ≤ 2 * (i + 1) + 1 := by
  have hn := of_decide_eq_true hn
  have hl := let_c n
  refine ⟨times_eqc _ _ ho (by omega), ?_⟩
  by_cases h : 0 < out.1.c
  · have := times_c1 out (letT n) ho h (by omega); omega
  · have := raw_c out (letT n) ho; omega

section
variable (l : List Int) (hl : l.length ≤ 20) (hw : ∀ n ∈ l, isTw n = true)
include hl hw

theorem prodW_facts : ∀ (m i : Nat) (out : Tr × Tr), l.length - i = m → i ≤ l.length → out.1.c = out.2.c → out.1.c ≤ 2 * i + 1 →
    (prodW (l.drop i) out).1.c = (prodW (l.drop i) out).2.c ∧ (prodW (l.drop i) out).1.c ≤ 41 := by
  intro m
  induction m with
  | zero =>
    intro i out hm hi ho hc
    have e : i = l.length := by omega
    subst e
    rw [List.drop_length]
    exact ⟨ho, by simp only [prodW]; omega⟩
  | succ m ih =>
    intro i out hm hi ho hc
    have hi1 : i < l.length := by omega
    have hd : l.drop i = l[i] :: l.drop (i + 1) := List.drop_eq_getElem_cons hi1
    obtain ⟨h1, h2⟩ := step_c out l[i] i ho hc (hw _ (List.getElem_mem hi1))
    rw [hd, prodW]
    exact ih (i + 1) _ (by omega) (by omega) h1 h2

theorem lowI_L : ∀ (m i : Nat) (out : Tr × Tr), l.length - i = m → i ≤ l.length → out.1.c = out.2.c → out.1.c ≤ 2 * i + 1 →
    LoopSC cfg.P 1 (lb P_impl_LengthOfWord 0) (impl_LengthOfWord_L0a l ((l.length : Nat) : Int) (i : Int) out) (.exit 0) (impl_LengthOfWord_L0X1 l ((l.length : Nat) : Int) (l.length : Int) false (prodW (l.drop i) out)) := by
  intro m
  induction m with
  | zero =>
    intro i out hm hi ho hc
    have e : i = l.length := by omega
    subst e
    rw [List.drop_length]
    exact impl_LengthOfWord_L0a_x2 _ _ _ _ (by omega)
  | succ m ih =>
    intro i out hm hi ho hc
    have hi1 : i < l.length := by omega
    have hd : l.drop i = l[i] :: l.drop (i + 1) := List.drop_eq_getElem_cons hi1
    have hg : List.getD l ((i : Int)).toNat (0 : Int) = l[i] := by rw [Int.toNat_natCast, List.getD_eq_getElem?_getD, List.getElem?_eq_getElem hi1]; rfl
    have hn := hw _ (List.getElem_mem hi1)
    obtain ⟨h1, h2⟩ := step_c out l[i] i ho hc hn
    have hn := of_decide_eq_true hn
    have hlc := let_c l[i]
    have hL := letter_SC l[i] hn.1 (by omega)
    rw [← hg] at hL
    rw [hd, prodW]
    have hn' := ih (i + 1) _ (by omega) (by omega) h1 h2
    rw [← wrap_succ (by omega)] at hn'
    exact impl_LengthOfWord_L0a_i1 _ _ _ _ _ _ (by omega) (by omega) (by omega) hL (by rw [hg]; exact times_SC out (letT l[i]) ho (by omega) (by omega) (by omega)) hn'

theorem lowS_L : ∀ (m i : Nat) (out : Tr × Tr), l.length - i = m → i ≤ l.length → out.1.c = out.2.c → out.1.c ≤ 2 * i + 1 →
    LoopSC cfg.P 1 (lb P_spec_LengthOfWord 0) (spec_LengthOfWord_L0a l ((l.length : Nat) : Int) (i : Int) (pt out)) (.exit 0) (spec_LengthOfWord_L0X1 l ((l.length : Nat) : Int) (l.length : Int) false (pt (prodW (l.drop i) out))) := by
  intro m
  induction m with
  | zero =>
    intro i out hm hi ho hc
    have e : i = l.length := by omega
    subst e
    rw [List.drop_length]
    exact spec_LengthOfWord_L0a_x2 _ _ _ _ (by omega)
  | succ m ih =>
    intro i out hm hi ho hc
    have hi1 : i < l.length := by omega
    have hd : l.drop i = l[i] :: l.drop (i + 1) := List.drop_eq_getElem_cons hi1
    have hg : List.getD l ((i : Int)).toNat (0 : Int) = l[i] := by rw [Int.toNat_natCast, List.getD_eq_getElem?_getD, List.getElem?_eq_getElem hi1]; rfl
    have hn := hw _ (List.getElem_mem hi1)
    obtain ⟨h1, h2⟩ := step_c out l[i] i ho hc hn
    have hn := of_decide_eq_true hn
    have hlc := let_c l[i]
    have hL := wdLetter_SC l[i] hn.1 (by omega)
    rw [← hg] at hL
    rw [hd, prodW]
    have hn' := ih (i + 1) _ (by omega) (by omega) h1 h2
    rw [← wrap_succ (by omega)] at hn'
    exact spec_LengthOfWord_L0a_i1 _ _ _ _ _ _ (by omega) (by omega) (by omega) hL (by rw [hg]; exact prTimes_SC out (letT l[i]) ho (by omega) (by omega)) hn'
end

theorem areTwo_SC (l : List Int) (hl : l.length ≤ 2 ^ 40) : SC cfg.P i_impl_areTwo [.s (.v (.sl (.int .i64)) l)] (.s (.v .bool (l.all isTw))) [] := by
  have key := loop_ret (P := cfg.P) (np := 1) (c := lb P_impl_areTwo 0) (fun i (a : Unit) => impl_areTwo_L0a l ((l.length : Nat) : Int) (i : Int)) (fun a => impl_areTwo_L0X2 l ((l.length : Nat) : Int) (l.length : Int) false) (impl_areTwo_L0X1 false)
    (fun i a => a) (fun i a => True) (fun i => isTw (l.getD i 0)) l.length
    (fun i a hi hI hp => by
      refine ⟨trivial, fun e st hn => ?_⟩
      have hp := of_decide_eq_true hp
      rw [← wrap_succ (by omega)] at hn
      exact impl_areTwo_L0a_i4 _ _ _ (by omega) (by omega) (by omega) hp.1 (by have := hp.2.1; show ¬ (l.getD i 0 < -2); omega) (by have := hp.2.2; show ¬ (l.getD i 0 > 2); omega) hn)
    (fun i a hi hI hp => by
      have hp := of_decide_eq_false hp
      by_cases h0 : l.getD i 0 = 0
      · exact impl_areTwo_L0a_x1 _ _ _ (by omega) (by omega) (by omega) h0
      · by_cases h1 : l.getD i 0 < -2
        · exact impl_areTwo_L0a_x2 _ _ _ (by omega) (by omega) (by omega) h0 h1
        · exact impl_areTwo_L0a_x3 _ _ _ (by omega) (by omega) (by omega) h0 h1 (by
            show l.getD i 0 > 2
            by_cases h2 : l.getD i 0 ≤ 2
            · exact absurd ⟨h0, by omega, h2⟩ hp
            · omega))
    (fun a _ => impl_areTwo_L0a_x5 _ _ _ (by omega)) l.length 0 () (by omega) trivial
  rw [all_range' l 0 isTw] at key
  cases hf : l.all isTw with
  | true => exact impl_areTwo_p2 _ _ _ _ _ (key.1 hf)
  | false => exact impl_areTwo_p1 _ _ (key.2 hf)

def lowB (l : List Int) : Bool := decide (l.length ≤ 20) && l.all isTw
def lowV (l : List Int) : Int := if lowB l = true then lenT (prodW l (.leaf, .leaf)) else 0

theorem prodW_red : ∀ (w : List Int) (out : Tr × Tr), bothL out = [] → bothL (prodW w out) = []
  | [], out, h => h
  | n :: w, out, h => prodW_red w _ (times_red _ _)

theorem implLow_SC (l : List Int) (hl : l.length ≤ 2 ^ 40) : SC cfg.P i_impl_LengthOfWord [.s (.v (.sl (.int .i64)) l)] (.tup [.v (.int .i64) (lowV l), .v .bool (lowB l)]) [] := by
  unfold lowV lowB
  by_cases h : l.length ≤ 20
  · rw [decide_eq_true h, Bool.true_and]
    have ha := areTwo_SC l hl
    cases hf : l.all isTw with
    | false => rw [hf] at ha; exact impl_LengthOfWord_p3 _ (by omega) ha
    | true =>
      rw [hf] at ha
      rw [if_pos rfl]
      have hw : ∀ n ∈ l, isTw n = true := List.all_eq_true.1 hf
      have hL := lowI_L l h hw _ 0 (.leaf, .leaf) rfl (by omega) rfl (by simp [Tr.c])
      obtain ⟨f1, f2⟩ := prodW_facts l h hw _ 0 (.leaf, .leaf) rfl (by omega) rfl (by simp [Tr.c])
      rw [List.drop_zero] at hL f1 f2
      have hs := length_SC _ f1 (by omega)
      rw [red_self _ (prodW_red l (.leaf, .leaf) (by simp [bothL, exL]))] at hs
      exact impl_LengthOfWord_p2 _ _ _ _ _ _ _ (by omega) ha hL hs
  · rw [decide_eq_false h, Bool.false_and]
    exact impl_LengthOfWord_p1 _ (by omega)

theorem all_tw {l : List Int} (h : l.all isTw = true) : l.all isLt = true := by
  rw [List.all_eq_true] at h ⊢
  intro n hn
  have := of_decide_eq_true (h n hn)
  exact decide_eq_true ⟨this.1, by omega, by omega⟩

theorem specLow_SC (l : List Int) (hl : l.length ≤ 2 ^ 40) : SC cfg.P i_spec_LengthOfWord [.s (.v (.sl (.int .i64)) l)] (.tup [.v (.int .i64) (lowV l), .v .bool (lowB l)]) [] := by
  have hg := wdGood_SC l hl
  have hu : SC cfg.P i_spec_prUnit [] (.s (.v (.pr .str .str) (pt (.leaf, .leaf)))) [] := spec_prUnit_p1
  have h1 := wdIsM_SC 1 (by omega) l hl
  rw [isTw_M] at h1
  unfold lowV lowB
  cases hf : l.all isTw with
  | false =>
    rw [hf] at h1
    rw [Bool.and_false]
    cases hw : isWd l with
    | false => rw [hw] at hg; exact spec_LengthOfWord_p3 _ hg
    | true => rw [hw] at hg; exact spec_LengthOfWord_p2 _ hg h1
  | true =>
    rw [hf] at h1
    rw [isWd, all_tw hf, Bool.and_true] at hg
    rw [Bool.and_true]
    by_cases h : l.length ≤ 20
    · rw [decide_eq_true h] at hg ⊢
      rw [if_pos rfl]
      have hw : ∀ n ∈ l, isTw n = true := List.all_eq_true.1 hf
      have hL := lowS_L l h hw _ 0 (.leaf, .leaf) rfl (by omega) rfl (by simp [Tr.c])
      obtain ⟨f1, f2⟩ := prodW_facts l h hw _ 0 (.leaf, .leaf) rfl (by omega) rfl (by simp [Tr.c])
      rw [List.drop_zero] at hL f1 f2
      exact spec_LengthOfWord_p1 _ _ _ _ _ _ _ _ hg h1 hu hL (lnOf_SC _ f1 (by omega))
    · rw [decide_eq_false h] at hg ⊢
      exact spec_LengthOfWord_p3 _ hg

/-- The law of LengthOfWord. -/
theorem law_Low (l : List Int) (hl : l.length ≤ 2 ^ 63 - 1) (hw : ∀ n ∈ l, (Lit.int .i64 n).wf = true) :
    SC cfg.P i_laws_FnExactLengthOfWord [.s (.v (.sl (.int .i64)) l)] (.s (.v .bool true)) [] := by
  by_cases hn : l.length ≤ 1048576
  · have t := toIntS_SC l (by omega)
    have e := eqIntS_SC l (by omega)
    exact laws_FnExactLengthOfWord_p2 _ _ _ _ _ _ _ _ (by omega) t (specLow_SC l (by omega)) t (implLow_SC l (by omega)) rfl (by simp) t e
  · exact laws_FnExactLengthOfWord_p1 _ (by omega)

end Go.AI
