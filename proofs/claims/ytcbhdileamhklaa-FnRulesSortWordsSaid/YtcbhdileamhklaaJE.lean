/- A part of the road: what it proves stands in its last texts. -/
import Derived.Test.YtcbhdileamhklaaGZ
import Derived.Test.YtcbhdileamhklaaCPg
import Derived.Test.YtcbhdileamhklaaJD
section
/- Contracts: words. -/
set_option autoImplicit false
set_option maxRecDepth 100000
set_option linter.unusedVariables false
namespace Go.AI
open Go.Proofs

/-- Is it a word? -/
def isLt (n : Int) : Bool := decide (n ≠ 0 ∧ -21 ≤ n ∧ n ≤ 21)

def isWd (l : List Int) : Bool := decide (l.length ≤ 20) && l.all isLt

theorem isLetter_SC (n : Int) : SC cfg.P i_impl_isLetter [.s (.v (.int .i64) n)] (.s (.v .bool (isLt n))) [] := by
  by_cases h0 : n = 0
  · rw [isLt, decide_eq_false (fun h => h.1 h0)]; exact impl_isLetter_p4 _ h0
  · by_cases h1 : -21 ≤ n
    · by_cases h2 : n ≤ 21
      · rw [isLt, decide_eq_true ⟨h0, h1, h2⟩]; exact impl_isLetter_p1 _ h0 h1 h2
      · rw [isLt, decide_eq_false (fun h => h2 h.2.2)]; exact impl_isLetter_p2 _ h0 h1 h2
    · rw [isLt, decide_eq_false (fun h => h1 h.2.1)]; exact impl_isLetter_p3 _ h0 h1

theorem isWord_SC (l : List Int) (hl : l.length ≤ 2 ^ 40) : SC cfg.P i_impl_IsWord [.s (.v (.sl (.int .i64)) l)] (.s (.v .bool (isWd l))) [] := by
  have key := loop_ret (P := cfg.P) (np := 1) (c := lb P_impl_IsWord 0) (fun i (a : Unit) => impl_IsWord_L0a l l ((l.length : Nat) : Int) (i : Int)) (fun a => impl_IsWord_L0X2 l l ((l.length : Nat) : Int) (l.length : Int) false) (impl_IsWord_L0X1 false)
    (fun i a => a) (fun i a => True) (fun i => isLt (l.getD i 0)) l.length
    (fun i a hi hI hp => by
      refine ⟨trivial, fun e st hn => ?_⟩
      have hL := isLetter_SC (l.getD i 0)
      rw [hp] at hL
      rw [← wrap_succ (by omega)] at hn
      exact impl_IsWord_L0a_i1 _ _ _ _ (by omega) (by omega) (by omega) hL hn)
    (fun i a hi hI hp => by
      have hL := isLetter_SC (l.getD i 0)
      rw [hp] at hL
      exact impl_IsWord_L0a_x2 _ _ _ _ (by omega) (by omega) (by omega) hL)
    (fun a _ => impl_IsWord_L0a_x3 _ _ _ _ (by omega)) l.length 0 () (by omega) trivial
  rw [all_range' l 0 isLt] at key
  cases hf : l.all isLt with
  | true =>
    rw [isWd, hf, Bool.and_true]
    by_cases h : l.length ≤ 20
    · rw [decide_eq_true h]; exact impl_IsWord_p2 _ _ _ _ _ _ (key.1 hf) (by omega)
    · rw [decide_eq_false h]; exact impl_IsWord_p3 _ _ _ _ _ _ (key.1 hf) (by omega)
  | false =>
    rw [isWd, hf, Bool.and_false]
    exact impl_IsWord_p1 _ _ (key.2 hf)

theorem l1InZ_SC (n lo hi : Int) : SC cfg.P i_spec_l1In [.s (.v (.int .i64) n), .s (.v (.int .i64) lo), .s (.v (.int .i64) hi)] (.s (.v .bool (decide (lo ≤ n ∧ n ≤ hi)))) [] := by
  by_cases h1 : lo ≤ n
  · by_cases h2 : n ≤ hi
    · rw [decide_eq_true ⟨h1, h2⟩]; exact spec_l1In_p1 _ _ _ (by omega) h2
    · rw [decide_eq_false (fun h => h2 h.2)]; exact spec_l1In_p2 _ _ _ (by omega) h2
  · rw [decide_eq_false (fun h => h1 h.1)]; exact spec_l1In_p3 _ _ _ (by omega)

/-- Letters with numbers up to a most. -/
def isLtM (m : Nat) (n : Int) : Bool := decide (n ≠ 0 ∧ -(m : Int) - 1 ≤ n ∧ n ≤ (m : Int) + 1)

theorem isLt_eq : isLtM 20 = isLt := by
  funext n
  unfold isLtM isLt
  by_cases h : n ≠ 0 ∧ -21 ≤ n ∧ n ≤ 21
  · rw [decide_eq_true h, decide_eq_true ⟨h.1, by omega, by omega⟩]
  · rw [decide_eq_false h, decide_eq_false (fun g => h ⟨g.1, by omega, by omega⟩)]

theorem wdIsM_SC (m : Nat) (hm : m ≤ 2 ^ 20) (l : List Int) (hl : l.length ≤ 2 ^ 40) : SC cfg.P i_spec_wdIs [.s (.v (.sl (.int .i64)) l), .s (.v (.int .i64) (m : Int))] (.s (.v .bool (l.all (isLtM m)))) [] := by
  have hin : ∀ n : Int, n ≠ 0 → SC cfg.P i_spec_l1In [.s (.v (.int .i64) n), .s (.v (.int .i64) (IntKind.wrap .i64 ((IntKind.wrap .i64 (0 - (m : Int))) - (1 : Int)))), .s (.v (.int .i64) (IntKind.wrap .i64 ((m : Int) + (1 : Int))))] (.s (.v .bool (isLtM m n))) [] := fun n h0 => by
    have e0 : IntKind.wrap .i64 (0 - (m : Int)) = -(m : Int) := by rw [w64] <;> omega
    have e1 : IntKind.wrap .i64 (-(m : Int) - (1 : Int)) = -(m : Int) - 1 := by rw [w64] <;> omega
    have e2 : IntKind.wrap .i64 ((m : Int) + (1 : Int)) = (m : Int) + 1 := by rw [w64] <;> omega
    rw [e0, e1, e2]
    have := l1InZ_SC n (-(m : Int) - 1) ((m : Int) + 1)
    have e : isLtM m n = decide (-(m : Int) - 1 ≤ n ∧ n ≤ (m : Int) + 1) := by
      unfold isLtM
      by_cases h : -(m : Int) - 1 ≤ n ∧ n ≤ (m : Int) + 1
      · rw [decide_eq_true h, decide_eq_true ⟨h0, h⟩]
      · rw [decide_eq_false h, decide_eq_false (fun g => h g.2)]
    rw [e]
    exact this
  have key := loop_ret (P := cfg.P) (np := 2) (c := lb P_spec_wdIs 0) (fun i (a : Unit) => spec_wdIs_L0a (m : Int) l ((l.length : Nat) : Int) (i : Int)) (fun a => spec_wdIs_L0X2 (m : Int) l ((l.length : Nat) : Int) (l.length : Int) false) (spec_wdIs_L0X1 false)
    (fun i a => a) (fun i a => True) (fun i => isLtM m (l.getD i 0)) l.length
    (fun i a hi hI hp => by
      refine ⟨trivial, fun e st hn => ?_⟩
      have h0 : l.getD i 0 ≠ 0 := (of_decide_eq_true hp).1
      have hL := hin _ h0
      rw [hp] at hL
      rw [← wrap_succ (by omega)] at hn
      exact spec_wdIs_L0a_i2 _ _ _ _ (by omega) (by omega) (by omega) h0 hL hn)
    (fun i a hi hI hp => by
      by_cases h0 : l.getD i 0 = 0
      · exact spec_wdIs_L0a_x1 _ _ _ _ (by omega) (by omega) (by omega) h0
      · have hL := hin _ h0
        rw [hp] at hL
        exact spec_wdIs_L0a_x3 _ _ _ _ (by omega) (by omega) (by omega) h0 hL)
    (fun a _ => spec_wdIs_L0a_x4 _ _ _ _ (by omega)) l.length 0 () (by omega) trivial
  rw [all_range' l 0 (isLtM m)] at key
  cases hf : l.all (isLtM m) with
  | true => exact spec_wdIs_p2 _ _ _ _ _ _ _ (key.1 hf)
  | false => exact spec_wdIs_p1 _ _ _ (key.2 hf)

theorem wdIs_SC (l : List Int) (hl : l.length ≤ 2 ^ 40) : SC cfg.P i_spec_wdIs [.s (.v (.sl (.int .i64)) l), .s (.v (.int .i64) (20 : Int))] (.s (.v .bool (l.all isLt))) [] := by
  have := wdIsM_SC 20 (by omega) l hl
  rw [isLt_eq] at this
  exact this

theorem wdGood_SC (l : List Int) (hl : l.length ≤ 2 ^ 40) : SC cfg.P i_spec_wdGood [.s (.v (.sl (.int .i64)) l)] (.s (.v .bool (isWd l))) [] := by
  by_cases h : l.length ≤ 20
  · rw [isWd, decide_eq_true h, Bool.true_and]; exact spec_wdGood_p1 _ _ (by omega) (wdIs_SC l hl)
  · rw [isWd, decide_eq_false h, Bool.false_and]; exact spec_wdGood_p2 _ (by omega)

end Go.AI
end

section
/- Contracts: generators, letters, and pairs of words. -/
set_option autoImplicit false
set_option maxRecDepth 100000
set_option linter.unusedVariables false
namespace Go.AI
open Go.Proofs

/-! ### A tree in place of a leaf -/

theorem grownC_SC (x : Tr) (m : Nat) : ∀ (t : Tr) (n : Nat), n + t.c ≤ 2 ^ 30 → SC cfg.P i_impl_node_grown [.s (.v .tree t), .s (.v (.int .i64) (n : Int)), .fn i_impl_node_graft_k1 [] [.fadr (.int .i64) (m : Int), .fadr .tree x]] (.s (.v .tree (growT (List.replicate m .leaf ++ [x]) t n))) []
  | .leaf, n, _ => by
    rw [growT, List.getD_eq_getElem?_getD]
    by_cases h : n = m
    · subst h
      rw [List.getElem?_append_right (by simp)]
      simp only [List.length_replicate, Nat.sub_self, List.getElem?_cons_zero, Option.getD_some]
      exact impl_node_grownB_p1 _ _ _ _ _ (impl_node_graft_k1_p1 _ _ _ rfl)
    · have e : ((List.replicate m Tr.leaf ++ [x])[n]?).getD .leaf = .leaf := by
        by_cases h1 : n < m
        · rw [List.getElem?_append_left (by simpa using h1)]
          simp [h1]
        · rw [List.getElem?_eq_none (by simp; omega)]; rfl
      rw [e]
      exact impl_node_grownB_p1 _ _ _ _ _ (impl_node_graft_k1_p2 _ _ _ (by omega))
  | .node a b, n, h => by
    simp only [Tr.c] at h
    have hl := leaves_SC a (by omega)
    have ea : IntKind.wrap .i64 ((n : Int) + ((a.c + 1 : Nat) : Int)) = ((n + (a.c + 1) : Nat) : Int) := by rw [w64] <;> omega
    have h2 := grownC_SC x m b (n + (a.c + 1)) (by omega)
    rw [← ea] at h2
    exact impl_node_grownB_p2 _ _ _ _ _ _ _ _ _ (grownC_SC x m a n (by omega)) hl h2

/-- A right comb with a tree in place of its last leaf. -/
def combE (x : Tr) : Nat → Tr
  | 0 => x
  | n + 1 => .node .leaf (combE x n)

theorem combE_c (x : Tr) : ∀ n, (combE x n).c = n + x.c
  | 0 => by simp [combE]
  | n + 1 => by simp only [combE, Tr.c, combE_c x n]; omega

theorem grow_last (x : Tr) : ∀ (n k m : Nat), m = k + n → growT (List.replicate m .leaf ++ [x]) (combR n) k = combE x n
  | 0, k, m, h => by
    subst h
    rw [combR, growT, combE, List.getD_eq_getElem?_getD, List.getElem?_append_right (by simp)]
    simp
  | n + 1, k, m, h => by
    have hk : k < m := by omega
    rw [combR, growT, growT, Tr.c, grow_last x n (k + (0 + 1)) m (by omega), combE, List.getD_eq_getElem?_getD, List.getElem?_append_left (by simpa using hk)]
    simp [hk]

theorem graft_SC (x : Tr) (n : Nat) (h : n ≤ 2 ^ 20) : SC cfg.P i_impl_node_graft [.s (.v .tree (combR n)), .s (.v (.int .i64) (n : Int)), .s (.v .tree x)] (.s (.v .tree (combE x n))) [] := by
  have h1 := grownC_SC x n (combR n) 0 (by rw [combR_c]; omega)
  rw [grow_last x n 0 n (by omega)] at h1
  exact impl_node_graft_p1 _ _ _ _ h1

/-! ### The reference's -/

/-- The text of a right comb up to its last leaf, and behind it. -/
def preC : Nat → List UInt8
  | 0 => []
  | n + 1 => 40 :: 46 :: preC n

theorem preC_len : ∀ n, (preC n).length = 2 * n
  | 0 => rfl
  | n + 1 => by simp only [preC, List.length_cons, preC_len n]; omega

theorem preC_dots : ∀ n, (preC n).count 46 = n
  | 0 => rfl
  | n + 1 => by
    rw [preC, List.count_cons_of_ne (by decide), List.count_cons_self, preC_dots n]

theorem combE_txt (x : Tr) : ∀ n, txt (combE x n) = preC n ++ txt x ++ List.replicate n 41
  | 0 => by simp [combE, preC]
  | n + 1 => by
    have e : List.replicate (n + 1) (41 : UInt8) = List.replicate n 41 ++ [41] := by
      rw [← List.replicate_succ']
    rw [combE, preC, e]
    simp [txt, combE_txt x n]

theorem combR_E : ∀ n, combR n = combE .leaf n
  | 0 => rfl
  | n + 1 => by rw [combR, combE, combR_E n]

/-! ### Generators -/

abbrev genX : Tr := .node (.node .leaf .leaf) .leaf

/-- The pair of a generator. -/
def genT (i : Nat) : Tr × Tr := (combE genX i, combR (i + 2))

theorem gen_c (i : Nat) : (genT i).1.c = i + 2 ∧ (genT i).2.c = i + 2 := by
  refine ⟨?_, combR_c _⟩
  show (combE genX i).c = i + 2
  rw [combE_c]; rfl

theorem generator_SC (i : Nat) (h : i ≤ 2 ^ 10) : SC cfg.P i_impl_generator [.s (.v (.int .i64) (i : Int))] (.s (.v (.pr .tree .tree) (genT i))) [] := by
  have ew : IntKind.wrap .i64 ((i : Int) + 2) = ((i + 2 : Nat) : Int) := by rw [w64] <;> omega
  have h3 := rightComb_SC (i + 2) (by omega)
  rw [← ew] at h3
  exact impl_generator_p1 _ _ _ _ (rightComb_SC i (by omega)) (graft_SC genX i (by omega)) h3

/-- The pair of a letter. -/
def letT (n : Int) : Tr × Tr := if n < 0 then ((genT (n.natAbs - 1)).2, (genT (n.natAbs - 1)).1) else genT (n.natAbs - 1)

theorem let_c (n : Int) : (letT n).1.c = n.natAbs - 1 + 2 ∧ (letT n).2.c = n.natAbs - 1 + 2 := by
  have := gen_c (n.natAbs - 1)
  unfold letT
  split
  · exact ⟨this.2, this.1⟩
  · exact this

theorem maxI_abs (n : Int) (h : -(2 ^ 40) ≤ n ∧ n ≤ 2 ^ 40) : maxI n (IntKind.wrap .i64 (0 - n)) = (n.natAbs : Int) := by
  have e : IntKind.wrap .i64 (0 - n) = 0 - n := by rw [w64] <;> omega
  rw [e]
  unfold maxI
  split <;> omega

theorem size_SC (n : Int) (h : -(2 ^ 40) ≤ n ∧ n ≤ 2 ^ 40) : SC cfg.P i_impl_size [.s (.v (.int .i64) n)] (.s (.v (.int .i64) (n.natAbs : Int))) [] := by
  have := impl_size_p1 n
  rw [maxI_abs n h] at this
  exact this

theorem letter_SC (n : Int) (h0 : n ≠ 0) (h : n.natAbs ≤ 2 ^ 8) : SC cfg.P i_impl_letter [.s (.v (.int .i64) n)] (.s (.v (.pr .tree .tree) (letT n))) [] := by
  have e : IntKind.wrap .i64 ((n.natAbs : Int) - 1) = ((n.natAbs - 1 : Nat) : Int) := by rw [w64] <;> omega
  have hg := generator_SC (n.natAbs - 1) (by omega)
  rw [← e] at hg
  unfold letT
  by_cases hn : n < 0
  · rw [if_pos hn]
    exact impl_letter_p1 _ _ _ _ (size_SC n (by omega)) hg hn (impl_pair_inverse_p1 _)
  · rw [if_neg hn]
    exact impl_letter_p2 _ _ _ (size_SC n (by omega)) hg hn

end Go.AI
end

section
/- The law of PairOfWord. -/
set_option autoImplicit false
set_option maxRecDepth 100000
set_option linter.unusedVariables false
namespace Go.AI
open Go.Proofs

/-- The product of the letters of a word, as long as no part of it is too great. -/
def powW : List Int → Tr × Tr → Option (Tr × Tr)
  | [], out => some out
  | n :: w, out => if (timesT out (letT n)).1.c ≤ 8 then powW w (timesT out (letT n)) else none

theorem powW_ok : ∀ (w : List Int) (out o : Tr × Tr), powW w out = some o → out.1.c = out.2.c → out.1.c ≤ 8 → o.1.c = o.2.c ∧ o.1.c ≤ 8
  | [], out, o, h, h1, h2 => by
    simp only [powW, Option.some.injEq] at h
    subst h
    exact ⟨h1, h2⟩
  | n :: w, out, o, h, h1, h2 => by
    have hl := let_c n
    simp only [powW] at h
    split at h
    · rename_i hc
      exact powW_ok w _ o h (times_eqc _ _ h1 (by omega)) hc
    · cases h

def lok (n : Int) : Prop := n ≠ 0 ∧ n.natAbs ≤ 7

section
variable (l : List Int) (hl : l.length ≤ 2 ^ 20) (hw : ∀ n ∈ l, lok n)
include hl hw

theorem word_L (z : Tr × Tr) : ∀ (m i : Nat) (out : Tr × Tr), l.length - i = m → i ≤ l.length → out.1.c = out.2.c → out.1.c ≤ 8 →
    (∀ o, powW (l.drop i) out = some o → LoopSC cfg.P 1 (lb P_impl_pairOfWord 1) (impl_pairOfWord_L1a l ((l.length : Nat) : Int) (i : Int) z out) (.exit 2) (impl_pairOfWord_L1X2 l ((l.length : Nat) : Int) (l.length : Int) false z o)) ∧
    (powW (l.drop i) out = none → LoopSC cfg.P 1 (lb P_impl_pairOfWord 1) (impl_pairOfWord_L1a l ((l.length : Nat) : Int) (i : Int) z out) .ret (impl_pairOfWord_L1X1 false (Tr.leaf, Tr.leaf))) := by
  intro m
  induction m with
  | zero =>
    intro i out hm hi ho ho8
    have e : i = l.length := by omega
    subst e
    rw [List.drop_length]
    refine ⟨fun o h => ?_, fun h => by cases h⟩
    simp only [powW, Option.some.injEq] at h
    subst h
    exact impl_pairOfWord_L1a_x3 _ _ _ _ _ (by omega)
  | succ m ih =>
    intro i out hm hi ho ho8
    have hi1 : i < l.length := by omega
    have hd : l.drop i = l[i] :: l.drop (i + 1) := List.drop_eq_getElem_cons hi1
    have hg : List.getD l ((i : Int)).toNat (0 : Int) = l[i] := by rw [Int.toNat_natCast, List.getD_eq_getElem?_getD, List.getElem?_eq_getElem hi1]; rfl
    have hn := hw l[i] (List.getElem_mem hi1)
    unfold lok at hn
    have hc := let_c l[i]
    have ht := times_SC out (letT l[i]) ho (by omega) (by omega) (by omega)
    have hr := raw_c out (letT l[i]) ho
    have hq := times_eqc out (letT l[i]) ho (by omega)
    have hk := carets_SC (timesT out (letT l[i])).1 (by omega)
    have hL := letter_SC l[i] hn.1 (by omega)
    rw [← hg] at hL
    rw [hd, powW]
    by_cases h : (timesT out (letT l[i])).1.c ≤ 8
    · rw [if_pos h]
      obtain ⟨i1, i2⟩ := ih (i + 1) (timesT out (letT l[i])) (by omega) (by omega) hq h
      rw [← wrap_succ (by omega)] at i1 i2
      exact ⟨fun o hh => impl_pairOfWord_L1a_i2 _ _ _ _ _ _ _ _ (by omega) (by omega) (by omega) hL (by rw [hg]; exact ht) hk (by omega) (i1 o hh),
        fun hh => impl_pairOfWord_L1a_i2 _ _ _ _ _ _ _ _ (by omega) (by omega) (by omega) hL (by rw [hg]; exact ht) hk (by omega) (i2 hh)⟩
    · rw [if_neg h]
      exact ⟨fun o hh => (by cases hh), fun _ => impl_pairOfWord_L1a_x1 _ _ _ _ _ _ _ _ (by omega) (by omega) (by omega) hL (by rw [hg]; exact ht) hk (by omega)⟩

end

theorem small_L (l : List Int) (hl : l.length ≤ 2 ^ 20) (hw : ∀ n ∈ l, -(2 ^ 40) ≤ n ∧ n ≤ 2 ^ 40) (z y : Tr × Tr) :
    ((l.all fun n => decide (n.natAbs ≤ 7)) = true → LoopSC cfg.P 1 (lb P_impl_pairOfWord 0) (impl_pairOfWord_L0a l l ((l.length : Nat) : Int) 0 z y) (.exit 0) (impl_pairOfWord_L0X2 l l ((l.length : Nat) : Int) (l.length : Int) false z y)) ∧
    ((l.all fun n => decide (n.natAbs ≤ 7)) = false → LoopSC cfg.P 1 (lb P_impl_pairOfWord 0) (impl_pairOfWord_L0a l l ((l.length : Nat) : Int) 0 z y) .ret (impl_pairOfWord_L0X1 false (Tr.leaf, Tr.leaf))) := by
  have key := loop_ret (P := cfg.P) (np := 1) (c := lb P_impl_pairOfWord 0) (fun i (a : Unit) => impl_pairOfWord_L0a l l ((l.length : Nat) : Int) (i : Int) z y) (fun a => impl_pairOfWord_L0X2 l l ((l.length : Nat) : Int) (l.length : Int) false z y) (impl_pairOfWord_L0X1 false (Tr.leaf, Tr.leaf))
    (fun i a => a) (fun i a => True) (fun i => decide ((l.getD i 0).natAbs ≤ 7)) l.length
    (fun i a hi hI hp => by
      refine ⟨trivial, fun e st hn => ?_⟩
      have hb := hw _ (gD_mem hi 0)
      have hs := size_SC (l.getD i 0) hb
      have := of_decide_eq_true hp
      rw [← wrap_succ (by omega)] at hn
      exact impl_pairOfWord_L0a_i2 _ _ _ _ _ _ _ (by omega) (by omega) (by omega) hs (by omega) hn)
    (fun i a hi hI hp => by
      have hb := hw _ (gD_mem hi 0)
      have hs := size_SC (l.getD i 0) hb
      have := of_decide_eq_false hp
      exact impl_pairOfWord_L0a_x1 _ _ _ _ _ _ _ (by omega) (by omega) (by omega) hs (by omega))
    (fun a _ => impl_pairOfWord_L0a_x3 _ _ _ _ _ _ (by omega)) l.length 0 () (by omega) trivial
  rw [all_range' l 0 (fun n => decide (n.natAbs ≤ 7))] at key
  exact key

def pwwG (l : List Int) : Bool := isWd l && l.all fun n => decide (n.natAbs ≤ 7)
def pwwO (l : List Int) : Option (Tr × Tr) := if pwwG l = true then powW l (.leaf, .leaf) else none
def pwwV (l : List Int) : ByteArray × ByteArray := match pwwO l with
  | some o => pt o
  | none => (⟨#[]⟩, ⟨#[]⟩)
def pwwB (l : List Int) : Bool := (pwwO l).isSome

theorem wd_facts {l : List Int} (h : isWd l = true) : l.length ≤ 20 ∧ ∀ n ∈ l, n ≠ 0 ∧ -21 ≤ n ∧ n ≤ 21 := by
  simp only [isWd, Bool.and_eq_true, decide_eq_true_eq, List.all_eq_true] at h
  exact ⟨h.1, fun n hn => of_decide_eq_true (h.2 n hn)⟩

theorem all_six {l : List Int} (h : isWd l = true) : (l.all fun n => decide (n.natAbs ≤ 7)) = l.all (isLtM 6) := by
  obtain ⟨_, h2⟩ := wd_facts h
  rw [Bool.eq_iff_iff, List.all_eq_true, List.all_eq_true]
  constructor
  · intro g n hn
    have := h2 n hn
    have := of_decide_eq_true (g n hn)
    exact decide_eq_true ⟨by omega, by omega, by omega⟩
  · intro g n hn
    have : n ≠ 0 ∧ -((6 : Nat) : Int) - 1 ≤ n ∧ n ≤ ((6 : Nat) : Int) + 1 := of_decide_eq_true (g n hn)
    exact decide_eq_true (by omega)

theorem implPww_SC (l : List Int) (hl : l.length ≤ 2 ^ 40) : SC cfg.P i_impl_PairOfWord [.s (.v (.sl (.int .i64)) l)] (.tup [.v (.pr .str .str) (pwwV l), .v .bool (pwwB l)]) [] := by
  have h1 := isWord_SC l hl
  unfold pwwV pwwB pwwO pwwG
  cases hw : isWd l with
  | false => rw [hw] at h1; exact impl_PairOfWord_p3 _ h1
  | true =>
    rw [hw] at h1
    obtain ⟨w1, w2⟩ := wd_facts hw
    obtain ⟨s1, s2⟩ := small_L l (by omega) (fun n hn => by have := w2 n hn; omega) (.leaf, .leaf) (.leaf, .leaf)
    cases hq : (l.all fun n => decide (n.natAbs ≤ 7)) with
    | false =>
      have := impl_pairOfWord_p1 _ _ _ (s2 hq)
      exact impl_PairOfWord_p2 _ _ h1 this
    | true =>
      have hok : ∀ n ∈ l, lok n := fun n hn => ⟨(w2 n hn).1, of_decide_eq_true (List.all_eq_true.1 hq n hn)⟩
      obtain ⟨t1, t2⟩ := word_L l (by omega) hok (.leaf, .leaf) l.length 0 (.leaf, .leaf) (by omega) (by omega) rfl (by simp [Tr.c])
      rw [List.drop_zero] at t1 t2
      rw [Bool.true_and, if_pos rfl]
      cases ho : powW l (.leaf, .leaf) with
      | none =>
        have := impl_pairOfWord_p2 _ _ _ _ _ _ _ _ _ _ (s1 hq) (t2 ho)
        exact impl_PairOfWord_p2 _ _ h1 this
      | some o =>
        obtain ⟨o1, o2⟩ := powW_ok _ _ _ ho rfl (by simp [Tr.c])
        have := impl_pairOfWord_p3 _ _ _ _ _ _ _ _ _ _ _ _ _ _ (s1 hq) (t1 o ho)
        exact impl_PairOfWord_p1 _ _ _ h1 this (plain_SC o (by omega) (by omega))

end Go.AI
end
