/- Contracts: letters, lengths behind letters. -/
import Derived.Test.YtlimomnchicfgaaCLt
import Derived.Test.YtlimomnchicfgaaCWp
import Derived.Test.YtlimomnchicfgaaCZb
import Derived.Test.YtlimomnchicfgaaC8i
import Derived.Test.YtlimomnchicfgaaGA
import Derived.Test.YtlimomnchicfgaaGL
set_option autoImplicit false
set_option maxRecDepth 100000
set_option linter.unusedVariables false
namespace Go.AI
open Go.Proofs

theorem red_self (p : Tr × Tr) (h : bothL p = []) (n : Nat) : red n p = p := by
  cases n with
  | zero => rfl
  | succ n => simp only [red, h]

/-- A product is that of the reduced pair. -/
theorem times_redL (p q : Tr × Tr) (n : Nat) (hp : p.1.c = p.2.c) (hq : q.1.c = q.2.c) : timesT (red n p) q = timesT p q := by
  have hr := red_eqc n p hp
  refine red_unique _ _ (times_eqc _ _ hr hq) (times_eqc _ _ hp hq) (times_red _ _) (times_red _ _) fun s => ?_
  rw [fOf_times _ _ hr hq, fOf_times _ _ hp hq, fOf_red n p hp]

def ltrs : List Int := [1, -1, 2, -2]

theorem letters_SC : SC cfg.P i_impl_letters [] (.s (.v (.arr 2 (.int .i64)) ltrs)) [] := impl_letters_p1

theorem lnLetters_SC : SC cfg.P i_spec_lnLetters [] (.s (.own t_int (.int .i64) ltrs)) [] := spec_lnLetters_p1

theorem ltrs_get : ∀ i, i < 4 → ltrs.getD i 0 ≠ 0 ∧ (ltrs.getD i 0).natAbs ≤ 2 := by decide

/-- The lengths of products with letters behind. -/
def nxtL (L : List Int) (p : Tr × Tr) : List Int := L.map fun n => lenT (timesT p (letT n))
def nxt (p : Tr × Tr) : List Int := nxtL ltrs p

theorem nxt_of (L : List Int) (hl : L.length = 4) (p : Tr × Tr) : (List.range' 0 4).map (fun i => lenT (timesT p (letT (L.getD i 0)))) = nxtL L p := by
  have e := map_range' L 0 (fun n => lenT (timesT p (letT n)))
  rw [hl] at e
  exact e

section
variable (L : List Int) (hl : L.length = 4) (hL : ∀ i, i < 4 → L.getD i 0 ≠ 0 ∧ (L.getD i 0).natAbs ≤ 2)
include hl hL

theorem implNext_L (p : Tr × Tr) (hp : p.1.c = p.2.c) (h : p.1.c ≤ 2 ^ 10) :
    LoopSC cfg.P 1 (lb P_impl_NextLengths 0) (impl_NextLengths_L0a L 0 p ([] : List Int)) (.exit 0) (impl_NextLengths_L0X1 L 4 false p (nxtL L p)) := by
  have key := loop_up (P := cfg.P) (np := 1) (c := lb P_impl_NextLengths 0) (fun i a => impl_NextLengths_L0a L (i : Int) p a) (fun a => impl_NextLengths_L0X1 L 4 false p a)
    (fun i cur => cur ++ [lenT (timesT p (letT (L.getD i 0)))]) (fun i cur => cur.length = i) 4
    (fun i cur hi hc => by
      obtain ⟨g1, g2⟩ := hL i hi
      have hl := let_c (L.getD i 0)
      have hq := times_eqc p (letT (L.getD i 0)) hp (by omega)
      have hcc := raw_c p (letT (L.getD i 0)) hp
      have hs := length_SC _ hq (by omega)
      rw [red_self _ (times_red _ _)] at hs
      refine ⟨by simp; omega, fun e st hn => ?_⟩
      rw [← wrap_succ (by omega)] at hn
      have q1 := letter_SC _ g1 (by omega)
      have q2 := times_SC p (letT (L.getD i 0)) hp (by omega) (by omega) (by omega)
      have q3 : sizeOK (List.length cur + List.length [lenT (timesT p (letT (L.getD i 0)))]) := sizeOK_one (by omega)
      have q4 := impl_NextLengths_L0a_i1 L (i : Int) p cur (letT (L.getD i 0)) (timesT p (letT (L.getD i 0))) (lenT (timesT p (letT (L.getD i 0)))) (by omega) (by omega) (by omega) q1 q2 hs q3 (e := e) (st := st)
      exact q4 hn)
    (fun a ha => impl_NextLengths_L0a_x2 _ _ _ _ (by omega)) 4 0 [] (by omega) rfl
  have hk := key.1
  rw [itr_map (fun i => lenT (timesT p (letT (L.getD i 0)))), List.nil_append, nxt_of L hl p] at hk
  exact hk

theorem lnNext_L (p : Tr × Tr) (hp : p.1.c = p.2.c) (h : p.1.c ≤ 40) :
    LoopSC cfg.P 1 (lb P_spec_lnNext 0) (spec_lnNext_L0a L ((L.length : Nat) : Int) 0 (pt p) ([] : List Int)) (.exit 0) (spec_lnNext_L0X1 L ((L.length : Nat) : Int) 4 false (pt p) (nxtL L p)) := by
  have key := loop_up (P := cfg.P) (np := 1) (c := lb P_spec_lnNext 0) (fun i a => spec_lnNext_L0a L ((L.length : Nat) : Int) (i : Int) (pt p) a) (fun a => spec_lnNext_L0X1 L ((L.length : Nat) : Int) 4 false (pt p) a)
    (fun i cur => cur ++ [lenT (timesT p (letT (L.getD i 0)))]) (fun i cur => cur.length = i) 4
    (fun i cur hi hc => by
      obtain ⟨g1, g2⟩ := hL i hi
      have hlc := let_c (L.getD i 0)
      have hq := times_eqc p (letT (L.getD i 0)) hp (by omega)
      have hcc := raw_c p (letT (L.getD i 0)) hp
      refine ⟨by simp; omega, fun e st hn => ?_⟩
      rw [← wrap_succ (by omega)] at hn
      have q1 := wdLetter_SC _ g1 (by omega)
      have q2 := prTimes_SC p (letT (L.getD i 0)) hp (by omega) (by omega)
      have q3 : sizeOK (List.length cur + List.length [lenT (timesT p (letT (L.getD i 0)))]) := sizeOK_one (by omega)
      have q4 := spec_lnNext_L0a_i1 L ((L.length : Nat) : Int) (i : Int) (pt p) cur (pt (letT (L.getD i 0))) (pt (timesT p (letT (L.getD i 0)))) (lenT (timesT p (letT (L.getD i 0)))) (by omega) (by omega) (by omega) q1 q2 (lnOf_SC _ hq (by omega)) q3 (e := e) (st := st)
      exact q4 hn)
    (fun a ha => spec_lnNext_L0a_x2 _ _ _ _ _ (by omega)) 4 0 [] (by omega) rfl
  have hk := key.1
  rw [itr_map (fun i => lenT (timesT p (letT (L.getD i 0)))), List.nil_append, nxt_of L hl p] at hk
  exact hk
end

theorem lnNext_SC (p : Tr × Tr) (hp : p.1.c = p.2.c) (h : p.1.c ≤ 40) :
    SC cfg.P i_spec_lnNext [.s (.v (.pr .str .str) (pt p))] (.s (.own t_int (.int .i64) (nxt p))) [] :=
  spec_lnNext_p1 _ _ _ _ _ _ _ _ lnLetters_SC.view (lnNext_L ltrs rfl ltrs_get p hp h)

def nxlV (a b : List UInt8) : List Int := if isPair a b = true then nxt (treeOf a, treeOf b) else []

theorem nxt_len (p : Tr × Tr) : (nxt p).length = 4 := rfl

theorem nxlV_len (a b : List UInt8) : (nxlV a b).length ≤ 4 := by
  unfold nxlV
  split
  · rw [nxt_len]; exact Nat.le_refl _
  · simp

theorem nxt_red (p : Tr × Tr) (n : Nat) (hp : p.1.c = p.2.c) : nxt (red n p) = nxt p := by
  unfold nxt nxtL
  apply List.map_congr_left
  intro m hm
  have hl := let_c m
  rw [times_redL p (letT m) n hp (by omega)]

theorem implNxl_SC (a b : List UInt8) (ha : a.length ≤ 2 ^ 40) (hb : b.length ≤ 2 ^ 40) :
    SC cfg.P i_impl_NextLengths [.s (.v (.pr .str .str) (bs a, bs b))] (.tup [.own t_int (.int .i64) (nxlV a b), .v .bool (isPair a b)]) [] := by
  have h1 := pairOf_SC a b ha hb
  unfold nxlV
  cases t : isPair a b with
  | false => rw [t] at h1; exact impl_NextLengths_p2 _ _ h1
  | true =>
    rw [t] at h1
    obtain ⟨a1, a2, a3, a4, a5⟩ := isPair_trees t
    rw [if_pos rfl]
    exact impl_NextLengths_p1 _ _ _ _ _ _ _ _ h1 letters_SC (implNext_L ltrs rfl ltrs_get (treeOf a, treeOf b) (by simp only; omega) (by simp only; omega))

theorem specNxl_SC (a b : List UInt8) (ha : a.length ≤ 2 ^ 40) (hb : b.length ≤ 2 ^ 40) :
    SC cfg.P i_spec_NextLengths [.s (.v (.pr .str .str) (bs a, bs b))] (.tup [.own t_int (.int .i64) (nxlV a b), .v .bool (isPair a b)]) [] := by
  have h1 := prGood_SC a b ha hb
  unfold nxlV
  cases t : isPair a b with
  | false => rw [t] at h1; exact spec_NextLengths_p2 _ h1
  | true =>
    rw [t] at h1
    obtain ⟨a1, a2, a3, a4, a5⟩ := isPair_trees t
    have e1 : pt (treeOf a, treeOf b) = (bs a, bs b) := by rw [pt, ← a1, ← a2]
    have h2 := prReduce_SC (treeOf a, treeOf b) (by simp only; omega) (by simp only; omega)
    rw [e1] at h2
    have hr := red_c (treeOf a).c (treeOf a, treeOf b)
    simp only at hr
    have h3 := lnNext_SC (red (treeOf a).c (treeOf a, treeOf b)) (red_eqc _ _ (by simp only; omega)) (by omega)
    rw [nxt_red _ _ (by simp only; omega)] at h3
    rw [if_pos rfl]
    exact spec_NextLengths_p1 _ _ _ h1 h2 h3

/-- The law of NextLengths. -/
theorem law_Nxl (x y : ByteArray) (hx : x.size ≤ 2 ^ 63 - 1) (hy : y.size ≤ 2 ^ 63 - 1) :
    SC cfg.P i_laws_FnExactNextLengths [.s (.v (.pr .str .str) (x, y))] (.s (.v .bool true)) [] := by
  obtain ⟨a, rfl⟩ := bs_ex x
  obtain ⟨b, rfl⟩ := bs_ex y
  rw [bs_size] at hx hy
  by_cases h : a.length + b.length ≤ 1048576
  · have hS := specNxl_SC a b (by omega) (by omega)
    have hI := implNxl_SC a b (by omega) (by omega)
    have hv := nxlV_len a b
    have e := eqIntS_SC (nxlV a b) (by omega)
    have m := markIntS_SC (nxlV a b) (by omega)
    have hh := heldIntS_SC (nxlV a b).length (by omega)
    exact laws_FnExactNextLengths_p2 _ _ _ _ _ _ _ _ _ _ _ _ _ _ _ (szPair_in a b h) (by omega) (laws_toPair_p1 _) hS (laws_toPair_p1 _) hI e (by simp) m hh (by omega) rfl (laws_toPair_p1 _) hI e (by simp) hh (by omega) rfl
  · exact laws_FnExactNextLengths_p1 _ _ (szPair_out a b hx hy h) (by omega)

end Go.AI
