/- A part of the road: what it proves stands in its last texts. -/
import Derived.Test.YtdfllkeekehplaaGreatCPg
import Derived.Test.YtdfllkeekehplaaGreatGL
import Derived.Test.YtdfllkeekehplaaGreatJD
import Derived.WalkKit
import Derived.Test.YtdfllkeekehplaaGreatJA
section
/- Contracts: exponents of leaves; words of exponents. -/
set_option autoImplicit false
set_option maxRecDepth 100000
set_option linter.unusedVariables false
namespace Go.AI
open Go.Proofs

/-- How far up over left sides alone each leaf lies. -/
def clT : Tr → Nat → List Nat
  | .leaf, n => [n]
  | .node a b, n => clT a (n + 1) ++ clT b 0

theorem clT_len : ∀ (t : Tr) (n : Nat), (clT t n).length = t.c + 1
  | .leaf, _ => rfl
  | .node a b, n => by simp only [clT, List.length_append, clT_len a, clT_len b, Tr.c]; omega

theorem clT_le : ∀ (t : Tr) (n : Nat), ∀ x ∈ clT t n, x ≤ n + t.c
  | .leaf, n, x, h => by simp [clT] at h; omega
  | .node a b, n, x, h => by
    simp only [clT] at h
    simp only [Tr.c]
    rcases List.mem_append.1 h with h | h
    · have := clT_le a (n + 1) x h; omega
    · have := clT_le b 0 x h; omega

theorem ints_app (l m : List Nat) : ints (l ++ m) = ints l ++ ints m := List.map_append

theorem zokII (l m : List Nat) (h : l.length + m.length ≤ 2 ^ 40) : sizeOK (List.length (ints l) + List.length (ints m)) := by
  unfold sizeOK lim; rw [List.length_map, List.length_map]; exact h

theorem climbs_SC : ∀ (t : Tr) (n : Nat), t.c ≤ 2 ^ 20 → n + t.c ≤ 2 ^ 30 → SC cfg.P i_impl_node_climbs [.s (.v .tree t), .s (.v (.int .i64) (n : Int))] (.s (.own t_int (.int .i64) (ints (clT t n)))) []
  | .leaf, n, _, _ => impl_node_climbs_p1 _
  | .node a b, n, h, hn => by
    simp only [Tr.c] at h hn
    have h1 := climbs_SC a (n + 1) (by omega) (by omega)
    have h2 := climbs_SC b 0 (by omega) (by omega)
    rw [← wrap_succ (by omega)] at h1
    rw [clT, ints_app]
    exact impl_node_climbs_p2 _ _ _ _ _ h1 h2 (zokII _ _ (by rw [clT_len, clT_len]; omega))

/-- The letters of exponents, from a number on. -/
def woR : List Nat → Nat → List Nat
  | [], _ => []
  | n :: r, k => List.replicate n (k + 1) ++ woR r (k + 1)

theorem woR_append : ∀ (l m : List Nat) (k : Nat), woR (l ++ m) k = woR l k ++ woR m (k + l.length)
  | [], m, k => rfl
  | n :: l, m, k => by
    rw [List.cons_append, woR, woR, woR_append l m (k + 1), List.append_assoc, List.length_cons, show k + 1 + l.length = k + (l.length + 1) by omega]

theorem woR_len (b : Nat) : ∀ (l : List Nat) (k : Nat), (∀ n ∈ l, n ≤ b) → (woR l k).length ≤ l.length * b
  | [], k, _ => by simp [woR]
  | n :: l, k, h => by
    have h1 := woR_len b l (k + 1) (fun x hx => h x (List.mem_cons_of_mem _ hx))
    have h2 := h n (List.mem_cons_self ..)
    simp only [woR, List.length_append, List.length_replicate, List.length_cons, Nat.add_mul, Nat.one_mul]
    omega

theorem rep_succ (n k : Nat) : List.replicate (n + 1) k = [k] ++ List.replicate n k := rfl

theorem ints_get (l : List Nat) (i : Nat) (h : i < l.length) : List.getD (ints l) i 0 = ((l.getD i 0 : Nat) : Int) := gD_map _ l i h 0 0

theorem wordOf_SC (l : List Nat) (hl : l.length ≤ 2 ^ 10) (hb : ∀ n ∈ l, n ≤ 2 ^ 10) : SC cfg.P i_impl_wordOf [.s (.v (.sl (.int .i64)) (ints l))] (.s (.own t_int (.int .i64) (ints (woR l 0)))) [] := by
  have hil : (ints l).length = l.length := List.length_map ..
  have inner : ∀ (k n : Nat), k ≤ 2 ^ 10 → n ≤ 2 ^ 10 → ∀ (m j : Nat) (cur : List Nat), n - j = m → j ≤ n → cur.length ≤ 2 ^ 20 + j →
      LoopSC cfg.P 1 (lb P_impl_wordOf 1) (impl_wordOf_L1a (k : Int) (ints l) ((List.length (ints l) : Nat) : Int) (k : Int) (n : Int) (j : Int) (ints cur)) (.exit 2) (impl_wordOf_L1X1 (k : Int) (ints l) ((List.length (ints l) : Nat) : Int) (k : Int) (n : Int) (n : Int) false (ints (cur ++ List.replicate (n - j) (k + 1)))) := by
    intro k n hk hn m
    induction m with
    | zero =>
      intro j cur hm hj hc
      have e : j = n := by omega
      subst e
      rw [Nat.sub_self, List.replicate_zero, List.append_nil]
      exact impl_wordOf_L1a_x2 _ _ _ _ _ _ _ (by omega)
    | succ m ih =>
      intro j cur hm hj hc
      have ek : IntKind.wrap .i64 ((k : Int) + 1) = ((k + 1 : Nat) : Int) := wrap_succ (by omega)
      have hn' := ih (j + 1) (cur ++ [k + 1]) (by omega) (by omega) (by simp; omega)
      have e1 : ints (cur ++ [k + 1]) = ints cur ++ [IntKind.wrap .i64 ((k : Int) + 1)] := by rw [ints_app, ek]; rfl
      have e2 : n - j = (n - (j + 1)) + 1 := by omega
      rw [e2, rep_succ, ← List.append_assoc]
      rw [e1, ← wrap_succ (i := j) (by omega)] at hn'
      exact impl_wordOf_L1a_i1 _ _ _ _ _ _ _ (by omega) (sizeOK_one (by rw [List.length_map]; omega)) hn'
  have key : ∀ (m i : Nat) (cur : List Nat), l.length - i = m → i ≤ l.length → cur.length ≤ i * 2 ^ 10 →
      LoopSC cfg.P 1 (lb P_impl_wordOf 0) (impl_wordOf_L0a (ints l) ((List.length (ints l) : Nat) : Int) (i : Int) (ints cur)) (.exit 0) (impl_wordOf_L0X1 (ints l) ((List.length (ints l) : Nat) : Int) (l.length : Int) false (ints (cur ++ woR (l.drop i) i))) := by
    intro m
    induction m with
    | zero =>
      intro i cur hm hi hc
      have e : i = l.length := by omega
      subst e
      rw [List.drop_length, woR, List.append_nil]
      exact impl_wordOf_L0a_x2 _ _ _ _ (by omega)
    | succ m ih =>
      intro i cur hm hi hc
      have hi1 : i < l.length := by omega
      have hd : l.drop i = l.getD i 0 :: l.drop (i + 1) := by
        rw [List.drop_eq_getElem_cons hi1, List.getD_eq_getElem?_getD, List.getElem?_eq_getElem hi1]; rfl
      have hb' := hb _ (gD_mem hi1 0)
      have hbig : i * 2 ^ 10 ≤ 2 ^ 10 * 2 ^ 10 := Nat.mul_le_mul_right _ (by omega)
      have hin := inner i (l.getD i 0) (by omega) hb' _ 0 cur rfl (by omega) (by omega)
      rw [Nat.sub_zero] at hin
      have hg : List.getD (ints l) ((i : Int)).toNat (0 : Int) = ((l.getD i 0 : Nat) : Int) := by rw [Int.toNat_natCast]; exact ints_get l i hi1
      have hn := ih (i + 1) (cur ++ List.replicate (l.getD i 0) (i + 1)) (by omega) (by omega) (by rw [List.length_append, List.length_replicate, Nat.add_mul]; omega)
      rw [hd, woR, ← List.append_assoc]
      rw [← hg] at hin
      rw [← wrap_succ (by omega)] at hn
      exact impl_wordOf_L0a_i1 _ _ _ _ _ _ _ _ _ _ _ _ (by omega) (by omega) (by omega) hin hn
  have h0 := key _ 0 [] rfl (by omega) (by simp)
  rw [List.drop_zero, List.nil_append] at h0
  exact impl_wordOf_p1 _ _ _ _ _ _ h0

end Go.AI
end

section
/- Contracts: exponents of trees; inverse words; normal words of pairs. -/
set_option autoImplicit false
set_option maxRecDepth 100000
set_option linter.unusedVariables false
namespace Go.AI
open Go.Proofs

/-- The exponents of all leaves of a whole tree. -/
def exR : Tr → List Nat
  | .leaf => [0]
  | .node l r => clT l 0 ++ exR r

theorem exR_len : ∀ t, (exR t).length = t.c + 1
  | .leaf => rfl
  | .node l r => by simp only [exR, List.length_append, clT_len, exR_len r, Tr.c]; omega

theorem exR_le : ∀ t, ∀ x ∈ exR t, x ≤ t.c
  | .leaf, x, h => by simp [exR] at h; omega
  | .node l r, x, h => by
    simp only [exR] at h
    simp only [Tr.c]
    rcases List.mem_append.1 h with h | h
    · have := clT_le l 0 x h; omega
    · have := exR_le r x h; omega

theorem clT_sum : ∀ (t : Tr) (n : Nat), (clT t n).sum = n + t.c
  | .leaf, n => by simp [clT, Tr.c]
  | .node a b, n => by rw [clT, List.sum_append, clT_sum a, clT_sum b]; simp only [Tr.c]; omega

theorem exR_sum : ∀ t, (exR t).sum ≤ t.c
  | .leaf => by simp [exR, Tr.c]
  | .node l r => by
    have := exR_sum r
    rw [exR, List.sum_append, clT_sum]
    simp only [Tr.c]
    omega

theorem woR_length : ∀ (l : List Nat) (k : Nat), (woR l k).length = l.sum
  | [], _ => rfl
  | n :: l, k => by simp only [woR, List.length_append, List.length_replicate, woR_length l, List.sum_cons]

theorem woR_mem : ∀ (l : List Nat) (k : Nat), ∀ x ∈ woR l k, 1 ≤ x ∧ x ≤ k + l.length
  | [], _, x, h => by simp [woR] at h
  | n :: l, k, x, h => by
    simp only [woR] at h
    simp only [List.length_cons]
    rcases List.mem_append.1 h with h | h
    · have := List.eq_of_mem_replicate h; omega
    · have := woR_mem l (k + 1) x h; omega

theorem exponents_SC (t : Tr) (h : t.c ≤ 2 ^ 20) : SC cfg.P i_impl_node_exponents [.s (.v .tree t)] (.s (.own t_int (.int .i64) (ints (exR t)))) [] := by
  have key : ∀ (t : Tr) (cur : List Nat), cur.length + t.c ≤ 2 ^ 30 → t.c ≤ 2 ^ 20 → ∃ q : List Nat, exR t = q ++ [0] ∧ LoopSC cfg.P 1 (lb P_impl_node_exponents 0) (impl_node_exponents_L0a t (ints cur)) (.exit 0) (impl_node_exponents_L0X1 .leaf false (ints (cur ++ q))) := by
    intro t
    induction t with
    | leaf => intro cur _ _; exact ⟨[], rfl, by rw [List.append_nil]; exact impl_node_exponents_L0a_x1 _⟩
    | node l r _ ih =>
      intro cur hc h
      simp only [Tr.c] at hc h
      have hl := clT_len l 0
      obtain ⟨q, hq, hn⟩ := ih (cur ++ clT l 0) (by rw [List.length_append]; omega) (by omega)
      rw [List.append_assoc, ints_app] at hn
      exact ⟨clT l 0 ++ q, by rw [exR, hq, List.append_assoc], impl_node_exponents_L0a_i2 _ _ _ _ (climbs_SC l 0 (by omega) (by omega)) (zokII _ _ (by omega)) hn⟩
  obtain ⟨q, hq, hn⟩ := key t [] (by rw [List.length_nil]; omega) h
  rw [List.nil_append] at hn
  have hl := exR_len t
  have hql : (exR t).length = q.length + 1 := by rw [hq]; simp
  have := impl_node_exponents_p1 _ _ _ _ hn (by unfold sizeOK lim; rw [List.length_map]; simp; omega)
  rw [hq, ints_app]
  exact this

/-- The inverse of a word. -/
def invW (l : List Int) : List Int := l.reverse.map fun n => -n

theorem inv_snoc (l : List Int) (m : Nat) (h : m < l.length) : ((l.drop (m + 1)).reverse.map fun n : Int => -n) ++ [-(l.getD m 0)] = (l.drop m).reverse.map fun n : Int => -n := by
  rw [List.drop_eq_getElem_cons h, List.reverse_cons, List.map_append, List.getD_eq_getElem?_getD, List.getElem?_eq_getElem h]
  rfl

theorem inverseOf_SC (l : List Int) (hl : l.length ≤ 2 ^ 20) (hb : ∀ n ∈ l, -(2 ^ 40) ≤ n ∧ n ≤ 2 ^ 40) : SC cfg.P i_impl_inverseOf [.s (.v (.sl (.int .i64)) l)] (.s (.own t_int (.int .i64) (invW l))) [] := by
  have key : ∀ (m : Nat), m ≤ l.length → LoopSC cfg.P 1 (lb P_impl_inverseOf 0) (impl_inverseOf_L0a l ((m : Int) - 1) ((l.drop m).reverse.map fun n => -n)) (.exit 0) (impl_inverseOf_L0X1 l (-1) false (invW l)) := by
    intro m
    induction m with
    | zero => intro _; rw [List.drop_zero]; exact impl_inverseOf_L0a_x2 _ _ _ (by omega)
    | succ m ih =>
      intro hm
      have hn := ih (by omega)
      have e1 : ((m + 1 : Nat) : Int) - 1 = (m : Int) := by omega
      have ew : IntKind.wrap .i64 ((m : Int) - 1) = (m : Int) - 1 := by rw [w64] <;> omega
      have hbm := hb _ (gD_mem (show m < l.length by omega) 0)
      have en : IntKind.wrap .i64 (0 - (List.getD l ((m : Int)).toNat (0 : Int))) = -(l.getD m 0) := by rw [Int.toNat_natCast, w64] <;> omega
      rw [← inv_snoc l m (by omega), ← en, ← ew] at hn
      rw [e1]
      exact impl_inverseOf_L0a_i1 _ _ _ (by omega) (by omega) (by omega) (sizeOK_one (by rw [List.length_map, List.length_reverse, List.length_drop]; omega)) hn
  have h0 := key l.length (Nat.le_refl _)
  have ew : IntKind.wrap .i64 (((List.length l : Nat) : Int) - 1) = (l.length : Int) - 1 := by rw [w64] <;> omega
  rw [List.drop_length, ← ew] at h0
  exact impl_inverseOf_p1 _ _ _ _ _ h0

/-- The normal word of a reduced pair. -/
def norW (p : Tr × Tr) : List Int := ints (woR (exR p.1) 0) ++ invW (ints (woR (exR p.2) 0))

theorem nor_facts (p : Tr × Tr) : (ints (woR (exR p.1) 0)).length ≤ p.1.c ∧ (ints (woR (exR p.2) 0)).length ≤ p.2.c ∧ (∀ n ∈ ints (woR (exR p.1) 0), 1 ≤ n ∧ n ≤ p.1.c + 1) ∧ (∀ n ∈ ints (woR (exR p.2) 0), 1 ≤ n ∧ n ≤ p.2.c + 1) := by
  have s1 := exR_sum p.1
  have s2 := exR_sum p.2
  have l1 := exR_len p.1
  have l2 := exR_len p.2
  have w1 := woR_length (exR p.1) 0
  have w2 := woR_length (exR p.2) 0
  refine ⟨by rw [List.length_map]; omega, by rw [List.length_map]; omega, fun n hn => ?_, fun n hn => ?_⟩
  · obtain ⟨x, hx, rfl⟩ := List.mem_map.1 hn
    have := woR_mem (exR p.1) 0 x hx
    omega
  · obtain ⟨x, hx, rfl⟩ := List.mem_map.1 hn
    have := woR_mem (exR p.2) 0 x hx
    omega

section
variable (p : Tr × Tr) (h1 : p.1.c ≤ 40) (h2 : p.2.c ≤ 40)
include h1 h2

theorem wordOfPair_SC : SC cfg.P i_impl_wordOfPair [.s (.v (.pr .tree .tree) p)] (.s (.own t_int (.int .i64) (norW p))) [] := by
  obtain ⟨n1, n2, n3, n4⟩ := nor_facts p
  have l1 := exR_len p.1
  have l2 := exR_len p.2
  have i1 := exR_le p.1
  have i2 := exR_le p.2
  have hi : (invW (ints (woR (exR p.2) 0))).length = (ints (woR (exR p.2) 0)).length := by simp [invW]
  exact impl_wordOfPair_p1 _ _ _ _ _ _ (exponents_SC p.1 (by omega)).view (wordOf_SC (exR p.1) (by omega) (fun n hn => by have := i1 n hn; omega)) (exponents_SC p.2 (by omega)).view (wordOf_SC (exR p.2) (by omega) (fun n hn => by have := i2 n hn; omega))
    (inverseOf_SC _ (by omega) (fun n hn => by have := n4 n hn; omega)).view (by unfold sizeOK lim; omega)

end

end Go.AI
end

section
/- Contracts: words. -/
set_option autoImplicit false
set_option maxRecDepth 100000
set_option linter.unusedVariables false
namespace Go.AI
open Go.Proofs

/-- Is it a word? -/
def isLt (n : Int) : Bool := decide (n ≠ 0 ∧ -21 ≤ n ∧ n ≤ 21)

def isWd (l : List Int) : Bool := decide (l.length ≤ 20) && l.all isLt

theorem isLetter_SC (n : Int) : SC cfg.P i_impl_isLetter [.s (.v (.int .i64) n)] (.s (.v .bool (isLt n))) [] := by
  by_cases h0 : n = 0
  · rw [isLt, decide_eq_false (fun h => h.1 h0)]; exact impl_isLetter_p4 _ h0
  · by_cases h1 : -21 ≤ n
    · by_cases h2 : n ≤ 21
      · rw [isLt, decide_eq_true ⟨h0, h1, h2⟩]; exact impl_isLetter_p1 _ h0 h1 h2
      · rw [isLt, decide_eq_false (fun h => h2 h.2.2)]; exact impl_isLetter_p2 _ h0 h1 h2
    · rw [isLt, decide_eq_false (fun h => h1 h.2.1)]; exact impl_isLetter_p3 _ h0 h1

theorem isWord_SC (l : List Int) (hl : l.length ≤ 2 ^ 40) : SC cfg.P i_impl_IsWord [.s (.v (.sl (.int .i64)) l)] (.s (.v .bool (isWd l))) [] := by
  have key := loop_ret (P := cfg.P) (np := 1) (c := lb P_impl_IsWord 0) (fun i (a : Unit) => impl_IsWord_L0a l l ((l.length : Nat) : Int) (i : Int)) (fun a => impl_IsWord_L0X2 l l ((l.length : Nat) : Int) (l.length : Int) false) (impl_IsWord_L0X1 false)
    (fun i a => a) (fun i a => True) (fun i => isLt (l.getD i 0)) l.length
    (fun i a hi hI hp => by
      refine ⟨trivial, fun e st hn => ?_⟩
      have hL := isLetter_SC (l.getD i 0)
      rw [hp] at hL
      rw [← wrap_succ (by omega)] at hn
      exact impl_IsWord_L0a_i1 _ _ _ _ (by omega) (by omega) (by omega) hL hn)
    (fun i a hi hI hp => by
      have hL := isLetter_SC (l.getD i 0)
      rw [hp] at hL
      exact impl_IsWord_L0a_x2 _ _ _ _ (by omega) (by omega) (by omega) hL)
    (fun a _ => impl_IsWord_L0a_x3 _ _ _ _ (by omega)) l.length 0 () (by omega) trivial
  rw [all_range' l 0 isLt] at key
  cases hf : l.all isLt with
  | true =>
    rw [isWd, hf, Bool.and_true]
    by_cases h : l.length ≤ 20
    · rw [decide_eq_true h]; exact impl_IsWord_p2 _ _ _ _ _ _ (key.1 hf) (by omega)
    · rw [decide_eq_false h]; exact impl_IsWord_p3 _ _ _ _ _ _ (key.1 hf) (by omega)
  | false =>
    rw [isWd, hf, Bool.and_false]
    exact impl_IsWord_p1 _ _ (key.2 hf)

end Go.AI
end

section
/- Contracts: a word handed back as it came. -/
set_option autoImplicit false
set_option maxRecDepth 100000
set_option linter.unusedVariables false
namespace Go.AI
open Go.Proofs

theorem isWord_calls (l : List Int) (hl : l.length ≤ 2 ^ 40) (w : World) (B : Nat → Prop) (v : Value) (hv : RepV w B (.sl (.int .i64)) l v) :
    Calls Tryz.prog i_impl_IsWord #[v] w fun e w' => e = .returned (.bool (isWd l)) ∧ Fr w [] w' :=
  ((isWord_SC l hl).2 w B [v] [] (fun b hb u hu => by cases hu) List.Pairwise.nil ⟨v, [], rfl, hv, rfl, rfl⟩).mono fun e w' ⟨u, os, he, hf, _, _, hr, _⟩ => by
    have : u = .bool (isWd l) := RepV.bool hr.1
    subst this
    exact ⟨he, hf⟩

theorem madeWord_walk (l : List Int) (hl : l.length ≤ 2 ^ 40) (hw : isWd l = true) (w : World) (B : Nat → Prop) (a : Option Addr) (n c : Nat) (hv : RepV w B (.sl (.int .i64)) l (.slice a n c)) :
    Calls Tryz.prog i_impl_madeWord #[.slice a n c] w fun e w' => e = .returned (.tuple #[.slice a n c, .bool true]) ∧ Fr w [] w' := by
  have hc := isWord_calls l hl w B _ hv
  rw [hw] at hc
  go_enter Tryz.func37, Tryz.ntmps37
  go_wp2_with (go_at_call 42; refine hc.mono ?_; rintro e w' ⟨rfl, hf⟩)
  go_ret2
  exact ⟨rfl, hf⟩

theorem madeWord_SCS (l : List Int) (hl : l.length ≤ 2 ^ 40) (hw : isWd l = true) : SCS cfg.P i_impl_madeWord [.s (.v (.sl (.int .i64)) l)] (.v .bool true) := by
  refine ⟨⟨_, get_impl_madeWord, by decide, by decide⟩, fun w B vs ha => ?_⟩
  obtain ⟨u, us, rfl, hu, hus, _⟩ := ha
  subst hus
  obtain ⟨a, c, flat, rfl, _⟩ := RepV.sl hu
  exact (madeWord_walk l hl hw w B _ _ _ hu).mono fun e w' ⟨he, hf⟩ => ⟨_, _, _, rfl, he, hf, RepV.mk_bool _⟩

end Go.AI
end

section
/- The law of WordOfPair. -/
set_option autoImplicit false
set_option maxRecDepth 100000
set_option linter.unusedVariables false
namespace Go.AI
open Go.Proofs

def wopW (a b : List UInt8) : List Int := norW (red (treeOf a).c (treeOf a, treeOf b))
def wopV (a b : List UInt8) : List Int := if isPair a b = true then wopW a b else []

theorem wop_facts (a b : List UInt8) (h : isPair a b = true) : isWd (wopW a b) = true ∧ (wopW a b).length ≤ 16 ∧ (red (treeOf a).c (treeOf a, treeOf b)).1.c ≤ 8 ∧ (red (treeOf a).c (treeOf a, treeOf b)).2.c ≤ 8 := by
  obtain ⟨a1, a2, a3, a4, a5⟩ := isPair_trees h
  have hr := red_c (treeOf a).c (treeOf a, treeOf b)
  simp only at hr
  obtain ⟨n1, n2, n3, n4⟩ := nor_facts (red (treeOf a).c (treeOf a, treeOf b))
  have hlen : (wopW a b).length ≤ 16 := by
    have hi : (invW (ints (woR (exR (red (treeOf a).c (treeOf a, treeOf b)).2) 0))).length = (ints (woR (exR (red (treeOf a).c (treeOf a, treeOf b)).2) 0)).length := by simp [invW]
    unfold wopW norW
    rw [List.length_append, hi]
    omega
  refine ⟨?_, hlen, by omega, by omega⟩
  rw [isWd, decide_eq_true (by omega), Bool.true_and, List.all_eq_true]
  intro n hn
  apply decide_eq_true
  unfold wopW norW at hn
  rcases List.mem_append.1 hn with hn | hn
  · have := n3 n hn; omega
  · unfold invW at hn
    obtain ⟨x, hx, rfl⟩ := List.mem_map.1 hn
    have := n4 x (List.mem_reverse.1 hx)
    omega

theorem implWop_SC (a b : List UInt8) (ha : a.length ≤ 2 ^ 40) (hb : b.length ≤ 2 ^ 40) :
    SC cfg.P i_impl_WordOfPair [.s (.v (.pr .str .str) (bs a, bs b))] (.tup [.own t_int (.int .i64) (wopV a b), .v .bool (isPair a b)]) [] := by
  have h1 := pairOf_SC a b ha hb
  unfold wopV
  cases t : isPair a b with
  | false => rw [t] at h1; exact impl_WordOfPair_p3 _ _ h1
  | true =>
    rw [t] at h1
    obtain ⟨a1, a2, a3, a4, a5⟩ := isPair_trees t
    obtain ⟨f1, f2, f3, f4⟩ := wop_facts a b t
    have h2 := reduced_SC (treeOf a, treeOf b) (by simp only; omega) (by simp only; omega)
    have h3 := wordOfPair_SC (red (treeOf a).c (treeOf a, treeOf b)) (by omega) (by omega)
    rw [if_pos rfl]
    exact impl_WordOfPair_p1 _ _ _ _ _ h1 h2 h3 (madeWord_SCS (wopW a b) (by omega) f1)

end Go.AI
end

section
/- The law of WordOfForest. -/
set_option autoImplicit false
set_option maxRecDepth 100000
set_option linter.unusedVariables false
namespace Go.AI
open Go.Proofs

/-- The exponents of all trees of a forest. -/
def expsL (ts : List Tr) : List Nat := ts.flatMap fun t => clT t 0

theorem expsL_len (ts : List Tr) (b : Nat) (h : ∀ t ∈ ts, t.c ≤ b) : (expsL ts).length ≤ ts.length * (b + 1) := by
  induction ts with
  | nil => simp [expsL]
  | cons t ts ih =>
    have h1 := ih (fun x hx => h x (List.mem_cons_of_mem _ hx))
    have h2 := h t (List.mem_cons_self ..)
    simp only [expsL, List.flatMap_cons, List.length_append, clT_len, List.length_cons] at h1 ⊢
    rw [Nat.add_mul, Nat.one_mul]
    omega

theorem expsL_le (ts : List Tr) (b : Nat) (h : ∀ t ∈ ts, t.c ≤ b) : ∀ n ∈ expsL ts, n ≤ b := by
  intro n hn
  obtain ⟨t, ht, hx⟩ := List.mem_flatMap.1 hn
  have := clT_le t 0 n hx
  have := h t ht
  omega

def wofW (fs : List (List UInt8)) : List Int := ints (woR (expsL (treesOf fs)) 0)
def wofB (fs : List (List UInt8)) : Bool := isFo fs && isWd (wofW fs)
def wofV (fs : List (List UInt8)) : List Int := if wofB fs = true then wofW fs else []

theorem fo_factsW {fs : List (List UInt8)} (h : isFo fs = true) : fs = (treesOf fs).map txt ∧ (treesOf fs).length ≤ 8 ∧ ∀ t ∈ treesOf fs, t.c ≤ 8 := by
  obtain ⟨h1, h2, h3, h4, h5⟩ := isFo_spec h
  have hl : (treesOf fs).length = fs.length := List.length_map ..
  exact ⟨h5, by omega, fun t ht => Nat.le_trans (c_le_sum _ t ht) h3⟩

theorem wof_len {ts : List Tr} (l1 : ts.length ≤ 8) (c1 : ∀ t ∈ ts, t.c ≤ 8) : (expsL ts).length ≤ 72 ∧ (ints (woR (expsL ts) 0)).length ≤ 2 ^ 10 := by
  have h1 := expsL_len ts 8 c1
  have h2 := woR_len 8 (expsL ts) 0 (expsL_le ts 8 c1)
  have h3 : ts.length * (8 + 1) ≤ 8 * 9 := Nat.mul_le_mul_right _ l1
  have h4 : (expsL ts).length * 8 ≤ 72 * 8 := Nat.mul_le_mul_right _ (by omega)
  rw [List.length_map]
  omega

theorem implWof_SC (fs : List (List UInt8)) (hs : ∀ l ∈ fs, l.length ≤ 2 ^ 40) (hfl : fs.length ≤ 2 ^ 40) :
    SC cfg.P i_impl_WordOfForest [.s (.v (.sl .str) (txs fs))] (.tup [.own t_int (.int .i64) (wofV fs), .v .bool (wofB fs)]) [] := by
  obtain ⟨ts, h1, h2⟩ := forestOf_SC fs hs hfl
  cases hf : isFo fs with
  | false =>
    rw [hf] at h2
    have hB : wofB fs = false := by rw [wofB, hf]; rfl
    rw [wofV, hB, if_neg (by simp)]
    exact impl_WordOfForest_p3 _ _ h2
  | true =>
    rw [hf] at h2
    obtain rfl := h1 hf
    obtain ⟨_, l1, c1⟩ := fo_factsW hf
    obtain ⟨e1, e2⟩ := wof_len l1 c1
    have hL : LoopSC cfg.P 1 (lb P_impl_WordOfForest 0) (impl_WordOfForest_L0a (treesOf fs) ((List.length (treesOf fs) : Nat) : Int) (0 : Int) ([] : List Int)) (.exit 0) (impl_WordOfForest_L0X1 (treesOf fs) ((List.length (treesOf fs) : Nat) : Int) ((treesOf fs).length : Int) false (ints (expsL (treesOf fs)))) := by
      have key : ∀ (m i : Nat) (cur : List Nat), (treesOf fs).length - i = m → i ≤ (treesOf fs).length → cur.length ≤ i * 9 →
          LoopSC cfg.P 1 (lb P_impl_WordOfForest 0) (impl_WordOfForest_L0a (treesOf fs) ((List.length (treesOf fs) : Nat) : Int) (i : Int) (ints cur)) (.exit 0) (impl_WordOfForest_L0X1 (treesOf fs) ((List.length (treesOf fs) : Nat) : Int) ((treesOf fs).length : Int) false (ints (cur ++ expsL ((treesOf fs).drop i)))) := by
        intro m
        induction m with
        | zero =>
          intro i cur hm hi hcur
          have e : i = (treesOf fs).length := by omega
          subst e
          rw [List.drop_length]
          simp only [expsL, List.flatMap_nil, List.append_nil]
          exact impl_WordOfForest_L0a_x2 _ _ _ _ (by omega)
        | succ m ih =>
          intro i cur hm hi hcur
          have hi1 : i < (treesOf fs).length := by omega
          have hd : (treesOf fs).drop i = (treesOf fs).getD i .leaf :: (treesOf fs).drop (i + 1) := by
            rw [List.drop_eq_getElem_cons hi1, List.getD_eq_getElem?_getD, List.getElem?_eq_getElem hi1]; rfl
          have hc' := c1 _ (gD_mem hi1 .leaf)
          have hcl := climbs_SC ((treesOf fs).getD i .leaf) 0 (by omega) (by omega)
          have hlen := clT_len ((treesOf fs).getD i .leaf) 0
          have hn := ih (i + 1) (cur ++ clT ((treesOf fs).getD i .leaf) 0) (by omega) (by omega) (by rw [List.length_append]; omega)
          have ee : expsL ((treesOf fs).drop i) = clT ((treesOf fs).getD i .leaf) 0 ++ expsL ((treesOf fs).drop (i + 1)) := by rw [hd, expsL, List.flatMap_cons]; rfl
          rw [ee, ← List.append_assoc]
          rw [ints_app cur, ← wrap_succ (i := i) (by omega)] at hn
          exact impl_WordOfForest_L0a_i1 _ _ _ _ _ (by omega) (by omega) (by omega) hcl (zokII _ _ (by omega)) hn
      have h0 := key _ 0 [] rfl (by omega) (by simp)
      rw [List.drop_zero, List.nil_append] at h0
      exact h0
    have hW := wordOf_SC (expsL (treesOf fs)) (by omega) (fun n hn => by have := expsL_le _ 8 c1 n hn; omega)
    cases hw : isWd (wofW fs) with
    | true =>
      have hB : wofB fs = true := by rw [wofB, hf, hw]; rfl
      rw [wofV, hB, if_pos rfl]
      exact impl_WordOfForest_p1 _ _ _ _ _ _ _ _ _ h2 hL hW (madeWord_SCS _ (by show (ints _).length ≤ _; omega) hw)
    | false =>
      have hB : wofB fs = false := by rw [wofB, hw, Bool.and_false]
      rw [wofV, hB, if_neg (by simp)]
      have hI := isWord_SC (wofW fs) (by show (ints _).length ≤ _; omega)
      rw [hw] at hI
      exact impl_WordOfForest_p2 _ _ _ _ _ _ _ _ _ _ h2 hL hW (impl_madeWord_p2 _ hI)

end Go.AI
end
