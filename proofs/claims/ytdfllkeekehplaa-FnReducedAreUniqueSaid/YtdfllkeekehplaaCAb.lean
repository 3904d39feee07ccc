/- The law of ReduceBy. -/
import Derived.Test.YtdfllkeekehplaaGO
import Derived.Test.YtdfllkeekehplaaGN
import Derived.Test.YtdfllkeekehplaaCD
import Derived.Test.YtdfllkeekehplaaCPg
set_option autoImplicit false
set_option maxRecDepth 100000
set_option linter.unusedVariables false
namespace Go.AI
open Go.Proofs

/-- The next caret to be dropped: as chosen, or the first. -/
def pick (cs ks : List Nat) : Nat := ks.getD (cs.headD 0 % ks.length) 0

/-- A pair reduced in the order that is chosen. -/
def redBy : Nat → List Nat → Tr × Tr → Tr × Tr
  | 0, _, p => p
  | n + 1, cs, p => match bothL p with
    | [] => p
    | k :: ks => redBy n cs.tail (wo p.1 (pick cs (k :: ks)), wo p.2 (pick cs (k :: ks)))

theorem pick_mem (cs : List Nat) (k : Nat) (ks : List Nat) : pick cs (k :: ks) ∈ k :: ks :=
  gD_mem (Nat.mod_lt _ (by simp)) 0

theorem redBy_leaf (n : Nat) (cs : List Nat) (p : Tr × Tr) (h : bothL p = []) : redBy n cs p = p := by
  cases n with
  | zero => rfl
  | succ n => simp only [redBy, h]

theorem both_zero {p : Tr × Tr} (h : p.1.c ≤ 0) : bothL p = [] := by
  have hl : p.1 = .leaf := by
    cases hp : p.1 with
    | leaf => rfl
    | node l r => rw [hp] at h; simp only [Tr.c] at h; omega
  simp [bothL, hl, exL]

theorem tmod_nat (a b : Nat) : Int.tmod (a : Int) (b : Int) = ((a % b : Nat) : Int) := rfl

theorem ints_get (l : List Nat) (i : Nat) (h : i < l.length) : List.getD (ints l) i 0 = ((l.getD i 0 : Nat) : Int) := gD_map _ l i h 0 0

theorem bothL_le (p : Tr × Tr) : (bothL p).length ≤ p.1.c := by
  have h1 := List.length_filter_le (fun k => (exL p.2 0).contains k) (exL p.1 0)
  have h2 := exL_len p.1 0
  simp only [bothL]
  omega

section
variable (p : Tr × Tr) (h1 : p.1.c ≤ 2 ^ 20) (h2 : p.2.c ≤ 2 ^ 20)
include h1 h2

/-- One step of the program's. -/
theorem step_facts (cs : List Nat) (k : Nat) (ks : List Nat) (hB : bothL p = k :: ks) :
    SC cfg.P i_impl_pair_drop [.s (.v (.pr .tree .tree) p), .s (.v (.int .i64) ((pick cs (k :: ks) : Nat) : Int))] (.s (.v (.pr .tree .tree) (wo p.1 (pick cs (k :: ks)), wo p.2 (pick cs (k :: ks))))) [] ∧
    (wo p.1 (pick cs (k :: ks))).c + 1 = p.1.c ∧ (wo p.2 (pick cs (k :: ks))).c + 1 = p.2.c ∧ pick cs (k :: ks) ∈ exL p.1 0 ∧ pick cs (k :: ks) ∈ exL p.2 0 := by
  have hmem : pick cs (k :: ks) ∈ bothL p := by rw [hB]; exact pick_mem cs k ks
  exact ⟨drop_SC p _ h1 h2 hmem, wo_c p.1 _ (bothL_mem hmem).1, wo_c p.2 _ (bothL_mem hmem).2, (bothL_mem hmem).1, (bothL_mem hmem).2⟩
end

theorem cut_tail (cs : List Nat) (h : cs ≠ []) : cutL (ints cs) (1 : Int) ((List.length (ints cs) : Nat) : Int) = ints cs.tail := by
  cases cs with
  | nil => exact absurd rfl h
  | cons c cs =>
    simp [cutL, ints]
    exact List.take_of_length_le (by simp)

theorem pick_get (cs : List Nat) (k : Nat) (ks : List Nat) (h : cs ≠ []) :
    List.getD (ints (k :: ks)) ((Int.tmod (List.getD (ints cs) ((0 : Int)).toNat (0 : Int)) ((List.length (ints (k :: ks)) : Nat) : Int))).toNat (0 : Int) = ((pick cs (k :: ks) : Nat) : Int) ∧
    Int.tmod (List.getD (ints cs) ((0 : Int)).toNat (0 : Int)) ((List.length (ints (k :: ks)) : Nat) : Int) = ((cs.headD 0 % (k :: ks).length : Nat) : Int) := by
  cases cs with
  | nil => exact absurd rfl h
  | cons c cs =>
    have hl : List.length (ints (k :: ks)) = (k :: ks).length := List.length_map ..
    have e : Int.tmod (List.getD (ints (c :: cs)) ((0 : Int)).toNat (0 : Int)) ((List.length (ints (k :: ks)) : Nat) : Int) = ((c % (k :: ks).length : Nat) : Int) := by
      rw [hl]; exact tmod_nat c _
    refine ⟨?_, e⟩
    rw [e, Int.toNat_natCast, ints_get _ _ (Nat.mod_lt _ (by simp))]
    rfl

theorem redByC_L : ∀ (n : Nat) (cs : List Nat) (p : Tr × Tr) (z : ByteArray × ByteArray), p.1.c ≤ n → p.1.c ≤ 2 ^ 20 → p.2.c ≤ 2 ^ 20 →
    LoopSC cfg.P 2 (lb P_impl_ReduceBy 1) (impl_ReduceBy_L1c (ints cs) z p) .ret (impl_ReduceBy_L1X1 true (pt (redBy n cs p))) := by
  intro n
  induction n with
  | zero =>
    intro cs p z hn h1 h2
    have hb := both_SC p h1 h2
    rw [both_zero hn] at hb
    exact impl_ReduceBy_L1c_x1 _ _ _ _ _ hb rfl (plain_SC p h1 h2)
  | succ n ih =>
    intro cs p z hn h1 h2
    have hb := both_SC p h1 h2
    cases hB : bothL p with
    | nil =>
      rw [hB] at hb
      rw [redBy_leaf _ _ _ hB]
      exact impl_ReduceBy_L1c_x1 _ _ _ _ _ hb rfl (plain_SC p h1 h2)
    | cons k ks =>
      rw [hB] at hb
      obtain ⟨hd, c1, c2, _, _⟩ := step_facts p h1 h2 cs k ks hB
      have hn' := ih cs.tail (wo p.1 (pick cs (k :: ks)), wo p.2 (pick cs (k :: ks))) z (by simp only; omega) (by simp only; omega) (by simp only; omega)
      have e : redBy (n + 1) cs p = redBy n cs.tail (wo p.1 (pick cs (k :: ks)), wo p.2 (pick cs (k :: ks))) := by simp only [redBy, hB]
      rw [e]
      have hl : List.length (ints (k :: ks)) = (k :: ks).length := List.length_map ..
      have hl' : (k :: ks).length = ks.length + 1 := rfl
      by_cases hc : cs = []
      · subst hc
        exact impl_ReduceBy_L1c_i3 _ _ _ _ _ hb (by omega) (by simp) (by omega) (by rw [hl, hl']; simp) hd hn'
      · obtain ⟨g1, g2⟩ := pick_get cs k ks hc
        have hcl : 0 < cs.length := List.length_pos_iff.2 hc
        have hcl2 : List.length (ints cs) = cs.length := List.length_map ..
        have hm := Nat.mod_lt (cs.headD 0) (show 0 < (k :: ks).length by simp)
        rw [← g1] at hd
        rw [← cut_tail cs hc] at hn'
        exact impl_ReduceBy_L1c_i2 _ _ _ _ _ hb (by omega) (by omega) (by omega) (by omega) (by omega) (by rw [g2]; omega) (by rw [g2]; omega) (by rw [g2]; omega) hd hn'

theorem redByA_L (n : Nat) (cs : List Nat) (x25 : List Int) (x26 x27 : Int) (x28 : Bool) (p : Tr × Tr) (z : ByteArray × ByteArray) (hn : p.1.c ≤ n) (h1 : p.1.c ≤ 2 ^ 20) (h2 : p.2.c ≤ 2 ^ 20) :
    LoopSC cfg.P 2 (lb P_impl_ReduceBy 1) (impl_ReduceBy_L1a (ints cs) x25 x26 x27 x28 z p) .ret (impl_ReduceBy_L1X1 true (pt (redBy n cs p))) := by
  have hb := both_SC p h1 h2
  cases hB : bothL p with
  | nil =>
    rw [hB] at hb
    rw [redBy_leaf _ _ _ hB]
    exact impl_ReduceBy_L1a_x1 _ _ _ _ _ _ _ _ _ hb rfl (plain_SC p h1 h2)
  | cons k ks =>
    rw [hB] at hb
    obtain ⟨hd, c1, c2, _, _⟩ := step_facts p h1 h2 cs k ks hB
    obtain ⟨n', rfl⟩ : ∃ n', n = n' + 1 := ⟨n - 1, by omega⟩
    have hn' := redByC_L n' cs.tail (wo p.1 (pick cs (k :: ks)), wo p.2 (pick cs (k :: ks))) z (by simp only; omega) (by simp only; omega) (by simp only; omega)
    have e : redBy (n' + 1) cs p = redBy n' cs.tail (wo p.1 (pick cs (k :: ks)), wo p.2 (pick cs (k :: ks))) := by simp only [redBy, hB]
    rw [e]
    have hl : List.length (ints (k :: ks)) = (k :: ks).length := List.length_map ..
    have hl' : (k :: ks).length = ks.length + 1 := rfl
    by_cases hc : cs = []
    · subst hc
      exact impl_ReduceBy_L1a_i3 _ _ _ _ _ _ _ _ _ hb (by omega) (by simp) (by omega) (by rw [hl, hl']; simp) hd hn'
    · obtain ⟨g1, g2⟩ := pick_get cs k ks hc
      have hcl : 0 < cs.length := List.length_pos_iff.2 hc
      have hcl2 : List.length (ints cs) = cs.length := List.length_map ..
      have hm := Nat.mod_lt (cs.headD 0) (show 0 < (k :: ks).length by simp)
      rw [← g1] at hd
      rw [← cut_tail cs hc] at hn'
      exact impl_ReduceBy_L1a_i2 _ _ _ _ _ _ _ _ _ hb (by omega) (by omega) (by omega) (by omega) (by omega) (by rw [g2]; omega) (by rw [g2]; omega) (by rw [g2]; omega) hd hn'

/-! ### The reference's side -/

theorem pick_getS (cs : List Nat) (s : Nat) (hs : s < cs.length) (k : Nat) (ks : List Nat) :
    List.getD (ints (k :: ks)) ((Int.tmod (List.getD (ints cs) ((s : Int)).toNat (0 : Int)) ((List.length (ints (k :: ks)) : Nat) : Int))).toNat (0 : Int) = ((pick (cs.drop s) (k :: ks) : Nat) : Int) ∧
    Int.tmod (List.getD (ints cs) ((s : Int)).toNat (0 : Int)) ((List.length (ints (k :: ks)) : Nat) : Int) = (((cs.drop s).headD 0 % (k :: ks).length : Nat) : Int) := by
  have hd : (cs.drop s).headD 0 = cs.getD s 0 := by
    rw [List.drop_eq_getElem_cons hs, List.headD_cons, List.getD_eq_getElem?_getD, List.getElem?_eq_getElem hs]; rfl
  have hl : List.length (ints (k :: ks)) = (k :: ks).length := List.length_map ..
  have e : Int.tmod (List.getD (ints cs) ((s : Int)).toNat (0 : Int)) ((List.length (ints (k :: ks)) : Nat) : Int) = (((cs.drop s).headD 0 % (k :: ks).length : Nat) : Int) := by
    rw [hl, Int.toNat_natCast, ints_get _ _ hs, hd]; exact tmod_nat _ _
  refine ⟨?_, e⟩
  rw [e, Int.toNat_natCast, ints_get _ _ (Nat.mod_lt _ (by simp))]
  rfl

theorem pick_none (cs : List Nat) (s : Nat) (hs : ¬ s < cs.length) (k : Nat) (ks : List Nat) : pick (cs.drop s) (k :: ks) = k := by
  rw [List.drop_of_length_le (by omega)]
  simp [pick]

theorem tail_drop (cs : List Nat) (s : Nat) : (cs.drop s).tail = cs.drop (s + 1) := by
  rw [List.tail_drop]

theorem redByS_L (cs : List Nat) (hcs : cs.length ≤ 2 ^ 20) : ∀ (n : Nat) (p : Tr × Tr) (z : ByteArray × ByteArray) (st : Nat), p.1.c ≤ n → p.1.c ≤ 2 ^ 20 → p.2.c ≤ 2 ^ 20 → st + n ≤ 2 ^ 30 →
    ∃ (st' : Int) (l : List Int), LoopSC cfg.P 2 (lb P_spec_prReduce 0) (spec_prReduce_L0b (ints cs) (st : Int) (pt p) z (ints (bothL p))) (.exit 0) (spec_prReduce_L0X2 (ints cs) st' false (pt (redBy n (cs.drop st) p)) z l) := by
  intro n
  induction n with
  | zero =>
    intro p z st hn h1 h2 hs
    exact ⟨_, _, spec_prReduce_L0b_x3 _ _ _ _ _ (by rw [both_zero hn]; simp)⟩
  | succ n ih =>
    intro p z st hn h1 h2 hs
    cases hB : bothL p with
    | nil =>
      rw [redBy_leaf _ _ _ hB]
      exact ⟨_, _, spec_prReduce_L0b_x3 _ _ _ _ _ (by simp)⟩
    | cons k ks =>
      obtain ⟨_, c1, c2, m1, m2⟩ := step_facts p h1 h2 (cs.drop st) k ks hB
      have e : redBy (n + 1) (cs.drop st) p = redBy n (cs.drop (st + 1)) (wo p.1 (pick (cs.drop st) (k :: ks)), wo p.2 (pick (cs.drop st) (k :: ks))) := by simp only [redBy, hB, tail_drop]
      rw [e]
      obtain ⟨st', l, hn'⟩ := ih (wo p.1 (pick (cs.drop st) (k :: ks)), wo p.2 (pick (cs.drop st) (k :: ks))) z (st + 1) (by simp only; omega) (by simp only; omega) (by simp only; omega) (by omega)
      have ew : IntKind.wrap .i64 ((st : Int) + 1) = ((st + 1 : Nat) : Int) := by rw [w64] <;> omega
      rw [← ew] at hn'
      have d1 := trDrop_SC p.1 _ h1 m1
      have d2 := trDrop_SC p.2 _ h2 m2
      have hb := prBoth_SC (wo p.1 (pick (cs.drop st) (k :: ks)), wo p.2 (pick (cs.drop st) (k :: ks))) (by simp only; omega) (by simp only; omega)
      have hl : List.length (ints (k :: ks)) = (k :: ks).length := List.length_map ..
      have hl' : (k :: ks).length = ks.length + 1 := rfl
      have hcl2 : List.length (ints cs) = cs.length := List.length_map ..
      refine ⟨st', l, ?_⟩
      by_cases hc : st < cs.length
      · obtain ⟨g1, g2⟩ := pick_getS cs st hc k ks
        have hm := Nat.mod_lt ((cs.drop st).headD 0) (show 0 < (k :: ks).length by simp)
        rw [← g1] at d1 d2
        exact spec_prReduce_L0b_i1 _ _ _ _ _ _ _ _ (by omega) (by omega) (by omega) (by omega) (by omega) (by rw [g2]; omega) (by rw [g2]; omega) (by rw [g2]; omega) d1 d2 hb hn'
      · rw [pick_none cs st hc] at d1 d2 hb hn' ⊢
        exact spec_prReduce_L0b_i2 _ _ _ _ _ _ _ _ (by omega) (by omega) (by omega) (by rw [hl, hl']; simp) d1 d2 hb hn'

theorem redByS_SC (cs : List Nat) (hcs : cs.length ≤ 2 ^ 20) (p : Tr × Tr) (h1 : p.1.c ≤ 2 ^ 20) (h2 : p.2.c ≤ 2 ^ 20) :
    SC cfg.P i_spec_prReduce [.s (.v (.pr .str .str) (pt p)), .s (.v (.sl (.int .i64)) (ints cs))] (.s (.v (.pr .str .str) (pt (redBy p.1.c cs p)))) [] := by
  have hb0 := prBoth_SC p h1 h2
  cases hB : bothL p with
  | nil =>
    rw [redBy_leaf _ _ _ hB]
    rw [hB] at hb0
    exact spec_prReduce_p1 _ _ _ _ _ _ _ _ _ hb0 (spec_prReduce_L0a_x3 _ _ _ _ _ (by simp))
  | cons k ks =>
    rw [hB] at hb0
    obtain ⟨_, c1, c2, m1, m2⟩ := step_facts p h1 h2 (cs.drop 0) k ks hB
    obtain ⟨n, hc⟩ : ∃ n, p.1.c = n + 1 := ⟨_, c1.symm⟩
    have e : redBy p.1.c cs p = redBy n (cs.drop 1) (wo p.1 (pick (cs.drop 0) (k :: ks)), wo p.2 (pick (cs.drop 0) (k :: ks))) := by
      rw [hc, ← tail_drop cs 0]; simp only [redBy, hB, List.drop_zero]
    rw [e]
    obtain ⟨st', l, hn'⟩ := redByS_L cs hcs n (wo p.1 (pick (cs.drop 0) (k :: ks)), wo p.2 (pick (cs.drop 0) (k :: ks))) ((⟨#[]⟩ : ByteArray), (⟨#[]⟩ : ByteArray)) 1 (by simp only; omega) (by simp only; omega) (by simp only; omega) (by omega)
    have ew : IntKind.wrap .i64 ((0 : Int) + 1) = ((1 : Nat) : Int) := by rw [w64] <;> omega
    rw [← ew] at hn'
    have d1 := trDrop_SC p.1 _ h1 m1
    have d2 := trDrop_SC p.2 _ h2 m2
    have hb := prBoth_SC (wo p.1 (pick (cs.drop 0) (k :: ks)), wo p.2 (pick (cs.drop 0) (k :: ks))) (by simp only; omega) (by simp only; omega)
    have hl : List.length (ints (k :: ks)) = (k :: ks).length := List.length_map ..
    have hl' : (k :: ks).length = ks.length + 1 := rfl
    have hcl2 : List.length (ints cs) = cs.length := List.length_map ..
    by_cases hc2 : 0 < cs.length
    · obtain ⟨g1, g2⟩ := pick_getS cs 0 hc2 k ks
      have hm := Nat.mod_lt ((cs.drop 0).headD 0) (show 0 < (k :: ks).length by simp)
      have g2' : Int.tmod (List.getD (ints cs) ((0 : Int)).toNat (0 : Int)) ((List.length (ints (k :: ks)) : Nat) : Int) = (((cs.drop 0).headD 0 % (k :: ks).length : Nat) : Int) := g2
      rw [← g1] at d1 d2
      exact spec_prReduce_p2 _ _ _ _ _ _ _ _ _ hb0 (spec_prReduce_L0a_i1 _ _ _ _ _ _ _ _ (by omega) (by omega) (by omega) (by omega) (by omega) (by rw [g2']; omega) (by rw [g2']; omega) (by rw [g2']; omega) d1 d2 hb hn')
    · rw [pick_none cs 0 hc2] at d1 d2 hb hn' ⊢
      exact spec_prReduce_p2 _ _ _ _ _ _ _ _ _ hb0 (spec_prReduce_L0a_i2 _ _ _ _ _ _ _ _ (by omega) (by omega) (by omega) (by rw [hl, hl']; simp) d1 d2 hb hn')

/-! ### Choices -/

/-- Are they choices that may be? -/
def okC (l : List Int) : Bool := decide (l.length ≤ 20) && l.all fun n => decide (0 ≤ n)

theorem nats_of {l : List Int} (h : (l.all fun n => decide (0 ≤ n)) = true) : l = ints (l.map Int.toNat) := by
  rw [ints, List.map_map]
  conv => lhs; rw [← List.map_id l]
  apply List.map_congr_left
  intro n hn
  have := of_decide_eq_true (List.all_eq_true.1 h n hn)
  show n = ((n.toNat : Nat) : Int)
  omega

theorem prChoices_SC (l : List Int) (hl : l.length ≤ 2 ^ 40) : SC cfg.P i_spec_prChoices [.s (.v (.sl (.int .i64)) l)] (.s (.v .bool (okC l))) [] := by
  by_cases h : l.length ≤ 20
  · rw [okC, decide_eq_true h, Bool.true_and]
    have key := loop_ret (P := cfg.P) (np := 1) (c := lb P_spec_prChoices 0) (fun i (a : Unit) => spec_prChoices_L0a l ((l.length : Nat) : Int) (i : Int)) (fun a => spec_prChoices_L0X2 l ((l.length : Nat) : Int) (l.length : Int) false) (spec_prChoices_L0X1 false)
      (fun i a => a) (fun i a => True) (fun i => decide (0 ≤ l.getD i 0)) l.length
      (fun i a hi hI hp => by
        refine ⟨trivial, fun e st hn => ?_⟩
        rw [← wrap_succ (by omega)] at hn
        have := of_decide_eq_true hp
        exact spec_prChoices_L0a_i2 _ _ _ (by omega) (by omega) (by omega) (by rw [Int.toNat_natCast]; omega) hn)
      (fun i a hi hI hp => by
        have := of_decide_eq_false hp
        exact spec_prChoices_L0a_x1 _ _ _ (by omega) (by omega) (by omega) (by rw [Int.toNat_natCast]; omega))
      (fun a _ => spec_prChoices_L0a_x3 _ _ _ (by omega)) l.length 0 () (by omega) trivial
    rw [all_range' l 0 (fun n => decide (0 ≤ n))] at key
    cases hf : (l.all fun n => decide (0 ≤ n)) with
    | true => exact spec_prChoices_p3 _ _ _ _ _ (by omega) (key.1 hf)
    | false => exact spec_prChoices_p2 _ _ (by omega) (key.2 hf)
  · rw [okC, decide_eq_false h, Bool.false_and]
    exact spec_prChoices_p1 _ (by omega)

def rbB (a b : List UInt8) (l : List Int) : Bool := isPair a b && okC l
def rbV (a b : List UInt8) (l : List Int) : ByteArray × ByteArray := if rbB a b l = true then pt (redBy (treeOf a).c (l.map Int.toNat) (treeOf a, treeOf b)) else (⟨#[]⟩, ⟨#[]⟩)

theorem specRB_SC (a b : List UInt8) (ha : a.length ≤ 2 ^ 40) (hb : b.length ≤ 2 ^ 40) (l : List Int) (hl : l.length ≤ 2 ^ 40) :
    SC cfg.P i_spec_ReduceBy [.s (.v (.pr .str .str) (bs a, bs b)), .s (.v (.sl (.int .i64)) l)] (.tup [.v (.pr .str .str) (rbV a b l), .v .bool (rbB a b l)]) [] := by
  have h1 := prGood_SC a b ha hb
  have h2 := prChoices_SC l hl
  cases hp : isPair a b with
  | false =>
    rw [hp] at h1
    have hB : rbB a b l = false := by rw [rbB, hp]; rfl
    rw [rbV, hB, if_neg (by simp)]
    exact spec_ReduceBy_p3 _ _ h1
  | true =>
    rw [hp] at h1
    cases hc : okC l with
    | false =>
      rw [hc] at h2
      have hB : rbB a b l = false := by rw [rbB, hc, Bool.and_false]
      rw [rbV, hB, if_neg (by simp)]
      exact spec_ReduceBy_p2 _ _ h1 h2
    | true =>
      rw [hc] at h2
      have hB : rbB a b l = true := by rw [rbB, hp, hc]; rfl
      rw [rbV, hB, if_pos rfl]
      obtain ⟨x1, x2, x3, x4, x5⟩ := isPair_trees hp
      rw [okC, Bool.and_eq_true, decide_eq_true_eq] at hc
      have hn := nats_of hc.2
      have hr := redByS_SC (l.map Int.toNat) (by rw [List.length_map]; omega) (treeOf a, treeOf b) (by simp only; omega) (by simp only; omega)
      rw [← hn] at hr
      have e1 : pt (treeOf a, treeOf b) = (bs a, bs b) := by rw [pt, ← x1, ← x2]
      rw [e1] at hr
      exact spec_ReduceBy_p1 _ _ _ h1 h2 hr

theorem implRB_SC (a b : List UInt8) (ha : a.length ≤ 2 ^ 40) (hb : b.length ≤ 2 ^ 40) (l : List Int) (hl : l.length ≤ 2 ^ 40) :
    SC cfg.P i_impl_ReduceBy [.s (.v (.pr .str .str) (bs a, bs b)), .s (.v (.sl (.int .i64)) l)] (.tup [.v (.pr .str .str) (rbV a b l), .v .bool (rbB a b l)]) [] := by
  have h1 := pairOf_SC a b ha hb
  cases hp : isPair a b with
  | false =>
    rw [hp] at h1
    have hB : rbB a b l = false := by rw [rbB, hp]; rfl
    rw [rbV, hB, if_neg (by simp)]
    exact impl_ReduceBy_p4 _ _ _ h1
  | true =>
    rw [hp] at h1
    obtain ⟨x1, x2, x3, x4, x5⟩ := isPair_trees hp
    by_cases h : l.length ≤ 20
    · have key := loop_ret (P := cfg.P) (np := 2) (c := lb P_impl_ReduceBy 0) (fun i (a' : Unit) => impl_ReduceBy_L0a l l ((l.length : Nat) : Int) (i : Int) ((⟨#[]⟩ : ByteArray), (⟨#[]⟩ : ByteArray)) (treeOf a, treeOf b)) (fun a' => impl_ReduceBy_L0X2 l l ((l.length : Nat) : Int) (l.length : Int) false ((⟨#[]⟩ : ByteArray), (⟨#[]⟩ : ByteArray)) (treeOf a, treeOf b)) (impl_ReduceBy_L0X1 false ((⟨#[]⟩ : ByteArray), (⟨#[]⟩ : ByteArray)))
        (fun i a' => a') (fun i a' => True) (fun i => decide (0 ≤ l.getD i 0)) l.length
        (fun i a' hi hI hp => by
          refine ⟨trivial, fun e st hn => ?_⟩
          rw [← wrap_succ (by omega)] at hn
          have := of_decide_eq_true hp
          exact impl_ReduceBy_L0a_i2 _ _ _ _ _ _ (by omega) (by omega) (by omega) (by rw [Int.toNat_natCast]; omega) hn)
        (fun i a' hi hI hp => by
          have := of_decide_eq_false hp
          exact impl_ReduceBy_L0a_x1 _ _ _ _ _ _ (by omega) (by omega) (by omega) (by rw [Int.toNat_natCast]; omega))
        (fun a' _ => impl_ReduceBy_L0a_x3 _ _ _ _ _ _ (by omega)) l.length 0 () (by omega) trivial
      rw [all_range' l 0 (fun n => decide (0 ≤ n))] at key
      cases hf : (l.all fun n => decide (0 ≤ n)) with
      | true =>
        have hB : rbB a b l = true := by rw [rbB, hp, okC, decide_eq_true h, hf]; rfl
        rw [rbV, hB, if_pos rfl]
        have hn := nats_of hf
        have hr := redByA_L (treeOf a).c (l.map Int.toNat) l ((l.length : Nat) : Int) (l.length : Int) false (treeOf a, treeOf b) ((⟨#[]⟩ : ByteArray), (⟨#[]⟩ : ByteArray)) (Nat.le_refl _) (by simp only; omega) (by simp only; omega)
        rw [← hn] at hr
        exact impl_ReduceBy_p3 _ _ _ _ _ _ _ _ _ _ _ _ h1 (by omega) (key.1 hf) hr
      | false =>
        have hB : rbB a b l = false := by rw [rbB, okC, hf, Bool.and_false, Bool.and_false]
        rw [rbV, hB, if_neg (by simp)]
        exact impl_ReduceBy_p2 _ _ _ _ _ h1 (by omega) (key.2 hf)
    · have hB : rbB a b l = false := by rw [rbB, okC, decide_eq_false h, Bool.false_and, Bool.and_false]
      rw [rbV, hB, if_neg (by simp)]
      exact impl_ReduceBy_p1 _ _ _ h1 (by omega)


end Go.AI
