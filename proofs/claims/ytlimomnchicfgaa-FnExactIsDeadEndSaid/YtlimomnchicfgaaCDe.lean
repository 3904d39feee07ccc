/- The law of IsDeadEnd. -/
import Derived.Test.YtlimomnchicfgaaCNl
import Derived.Test.YtlimomnchicfgaaGB
set_option autoImplicit false
set_option maxRecDepth 100000
set_option linter.unusedVariables false
namespace Go.AI
open Go.Proofs

def lofV (a b : List UInt8) : Int := if isPair a b = true then lenT (red (treeOf a).c (treeOf a, treeOf b)) else 0

theorem implLof_SC (a b : List UInt8) (ha : a.length ≤ 2 ^ 40) (hb : b.length ≤ 2 ^ 40) :
    SC cfg.P i_impl_LengthOf [.s (.v (.pr .str .str) (bs a, bs b))] (.tup [.v (.int .i64) (lofV a b), .v .bool (isPair a b)]) [] := by
  have h1 := pairOf_SC a b ha hb
  unfold lofV
  cases t : isPair a b with
  | false => rw [t] at h1; exact impl_LengthOf_p2 _ _ h1
  | true =>
    rw [t] at h1
    obtain ⟨a1, a2, a3, a4, a5⟩ := isPair_trees t
    rw [if_pos rfl]
    exact impl_LengthOf_p1 _ _ _ h1 (length_SC (treeOf a, treeOf b) (by simp only; omega) (by simp only; omega))

/-- The greatest of a row. -/
def mxI (l : List Int) : Int := itr (fun i m => maxI m (l.getD i 0)) 1 (l.length - 1) (l.getD 0 0)

theorem max_SC (l : List Int) (h1 : 1 ≤ l.length) (hl : l.length ≤ 2 ^ 40) : SC cfg.P i_slices_Max [.s (.v (.sl (.int .i64)) l)] (.s (.v (.int .i64) (mxI l))) [] := by
  have key := loop_up (P := cfg.P) (np := 1) (c := lb P_slices_Max 0) (fun i m => slices_Max_L0a l m (i : Int)) (fun m => slices_Max_L0X1 l m (l.length : Int) false)
    (fun i m => maxI m (l.getD i 0)) (fun i m => True) l.length
    (fun i m hi _ => ⟨trivial, fun e st hn => by
      rw [← wrap_succ (by omega)] at hn
      exact slices_Max_L0a_i1 l m (i : Int) (by omega) (by omega) (by omega) hn⟩)
    (fun a _ => slices_Max_L0a_x2 _ _ _ (by omega)) (l.length - 1) 1 (l.getD 0 0) (by omega) trivial
  exact slices_Max_p1 _ _ _ _ _ (by omega) (by omega) key.1

theorem mx_le (l : List Int) (N : Int) : ∀ (m i : Nat) (a : Int), itr (fun i m => maxI m (l.getD i 0)) i m a ≤ N ↔ a ≤ N ∧ ∀ j, i ≤ j → j < i + m → l.getD j 0 ≤ N
  | 0, i, a => by simp only [itr]; exact ⟨fun h => ⟨h, fun j h1 h2 => by omega⟩, fun h => h.1⟩
  | m + 1, i, a => by
    rw [itr, mx_le l N m (i + 1)]
    constructor
    · rintro ⟨h1, h2⟩
      have h3 : a ≤ N ∧ l.getD i 0 ≤ N := by
        unfold maxI at h1
        split at h1 <;> omega
      refine ⟨h3.1, fun j g1 g2 => ?_⟩
      by_cases e : j = i
      · rw [e]; exact h3.2
      · exact h2 j (by omega) (by omega)
    · rintro ⟨h1, h2⟩
      refine ⟨?_, fun j g1 g2 => h2 j (by omega) (by omega)⟩
      have := h2 i (by omega) (by omega)
      unfold maxI
      split <;> omega

theorem mxI_le (l : List Int) (N : Int) (h : 1 ≤ l.length) : mxI l ≤ N ↔ l.all (fun n => decide (n ≤ N)) = true := by
  unfold mxI
  rw [mx_le, List.all_eq_true]
  constructor
  · rintro ⟨h1, h2⟩ x hx
    obtain ⟨i, hi, rfl⟩ := List.mem_iff_getElem.1 hx
    apply decide_eq_true
    have e : l.getD i 0 = l[i] := by rw [List.getD_eq_getElem?_getD, List.getElem?_eq_getElem hi]; rfl
    rw [← e]
    by_cases h0 : i = 0
    · rw [h0]; exact h1
    · exact h2 i (by omega) (by omega)
  · intro hx
    have key : ∀ i, i < l.length → l.getD i 0 ≤ N := fun i hi => of_decide_eq_true (hx _ (gD_mem hi 0))
    exact ⟨key 0 (by omega), fun j h1 h2 => key j (by omega)⟩

theorem dead_L (l : List Int) (N : Int) (p : Tr × Tr) (hl : l.length ≤ 2 ^ 40) (hN : SC cfg.P i_spec_lnOf [.s (.v (.pr .str .str) (pt p))] (.s (.v (.int .i64) N)) []) :
    (l.all (fun n => decide (n ≤ N)) = true → LoopSC cfg.P 1 (lb P_spec_IsDeadEnd 0) (spec_IsDeadEnd_L0a l ((l.length : Nat) : Int) 0 (pt p)) (.exit 0) (spec_IsDeadEnd_L0X2 l ((l.length : Nat) : Int) (l.length : Int) false (pt p))) ∧
    (l.all (fun n => decide (n ≤ N)) = false → LoopSC cfg.P 1 (lb P_spec_IsDeadEnd 0) (spec_IsDeadEnd_L0a l ((l.length : Nat) : Int) 0 (pt p)) .ret (spec_IsDeadEnd_L0X1 false true)) := by
  have key := loop_ret (P := cfg.P) (np := 1) (c := lb P_spec_IsDeadEnd 0) (fun i (a : Unit) => spec_IsDeadEnd_L0a l ((l.length : Nat) : Int) (i : Int) (pt p)) (fun a => spec_IsDeadEnd_L0X2 l ((l.length : Nat) : Int) (l.length : Int) false (pt p)) (spec_IsDeadEnd_L0X1 false true)
    (fun i a => a) (fun i a => True) (fun i => decide (l.getD i 0 ≤ N)) l.length
    (fun i a hi hI hp => by
      refine ⟨trivial, fun e st hn => ?_⟩
      have hp := of_decide_eq_true hp
      rw [← wrap_succ (by omega)] at hn
      exact spec_IsDeadEnd_L0a_i2 l _ (i : Int) _ N (by omega) (by omega) (by omega) hN (by show ¬ (l.getD i 0 > N); omega) hn)
    (fun i a hi hI hp => by
      have hp := of_decide_eq_false hp
      exact spec_IsDeadEnd_L0a_x1 l _ (i : Int) _ N (by omega) (by omega) (by omega) hN (by show l.getD i 0 > N; omega))
    (fun a _ => spec_IsDeadEnd_L0a_x3 _ _ _ _ (by omega)) l.length 0 () (by omega) trivial
  rw [all_range' l 0 (fun n => decide (n ≤ N))] at key
  exact key

def dedV (a b : List UInt8) : Bool := if isPair a b = true then (nxt (treeOf a, treeOf b)).all (fun n => decide (n ≤ lenT (red (treeOf a).c (treeOf a, treeOf b)))) else false

theorem implDed_SC (a b : List UInt8) (ha : a.length ≤ 2 ^ 40) (hb : b.length ≤ 2 ^ 40) :
    SC cfg.P i_impl_IsDeadEnd [.s (.v (.pr .str .str) (bs a, bs b))] (.tup [.v .bool (dedV a b), .v .bool (isPair a b)]) [] := by
  have h1 := implNxl_SC a b ha hb
  have h2 := implLof_SC a b ha hb
  unfold nxlV at h1
  unfold lofV at h2
  unfold dedV
  cases t : isPair a b with
  | false => rw [t] at h1; exact impl_IsDeadEnd_p3 _ _ h1
  | true =>
    rw [t] at h1 h2
    rw [if_pos rfl] at h1 h2 ⊢
    have hl := nxt_len (treeOf a, treeOf b)
    have hm := max_SC (nxt (treeOf a, treeOf b)) (by omega) (by omega)
    have hle := mxI_le (nxt (treeOf a, treeOf b)) (lenT (red (treeOf a).c (treeOf a, treeOf b))) (by omega)
    cases hq : (nxt (treeOf a, treeOf b)).all (fun n => decide (n ≤ lenT (red (treeOf a).c (treeOf a, treeOf b)))) with
    | true => exact impl_IsDeadEnd_p1 _ _ _ _ _ h1 h2 hm (hle.2 hq)
    | false => exact impl_IsDeadEnd_p2 _ _ _ _ _ h1 h2 hm (fun h => by rw [hle.1 h] at hq; cases hq)

theorem specDed_SC (a b : List UInt8) (ha : a.length ≤ 2 ^ 40) (hb : b.length ≤ 2 ^ 40) :
    SC cfg.P i_spec_IsDeadEnd [.s (.v (.pr .str .str) (bs a, bs b))] (.tup [.v .bool (dedV a b), .v .bool (isPair a b)]) [] := by
  have h1 := prGood_SC a b ha hb
  unfold dedV
  cases t : isPair a b with
  | false => rw [t] at h1; exact spec_IsDeadEnd_p3 _ h1
  | true =>
    rw [t] at h1
    obtain ⟨a1, a2, a3, a4, a5⟩ := isPair_trees t
    have e1 : pt (treeOf a, treeOf b) = (bs a, bs b) := by rw [pt, ← a1, ← a2]
    have h2 := prReduce_SC (treeOf a, treeOf b) (by simp only; omega) (by simp only; omega)
    rw [e1] at h2
    have hr := red_c (treeOf a).c (treeOf a, treeOf b)
    simp only at hr
    have he := red_eqc (treeOf a).c (treeOf a, treeOf b) (by simp only; omega)
    have h3 := (lnNext_SC (red (treeOf a).c (treeOf a, treeOf b)) he (by omega)).view
    rw [nxt_red _ _ (by simp only; omega)] at h3
    have hN := lnOf_SC (red (treeOf a).c (treeOf a, treeOf b)) he (by omega)
    have hl := nxt_len (treeOf a, treeOf b)
    obtain ⟨g1, g2⟩ := dead_L (nxt (treeOf a, treeOf b)) _ _ (by omega) hN
    rw [if_pos rfl]
    cases hq : (nxt (treeOf a, treeOf b)).all (fun n => decide (n ≤ lenT (red (treeOf a).c (treeOf a, treeOf b)))) with
    | true => exact spec_IsDeadEnd_p2 _ _ _ _ _ _ _ _ h1 h2 h3 (g1 hq)
    | false => exact spec_IsDeadEnd_p1 _ _ _ _ _ h1 h2 h3 (g2 hq)

/-- The law of IsDeadEnd. -/
theorem law_Ded (x y : ByteArray) (hx : x.size ≤ 2 ^ 63 - 1) (hy : y.size ≤ 2 ^ 63 - 1) :
    SC cfg.P i_laws_FnExactIsDeadEnd [.s (.v (.pr .str .str) (x, y))] (.s (.v .bool true)) [] := by
  obtain ⟨a, rfl⟩ := bs_ex x
  obtain ⟨b, rfl⟩ := bs_ex y
  rw [bs_size] at hx hy
  by_cases h : a.length + b.length ≤ 1048576
  · exact laws_FnExactIsDeadEnd_p2 _ _ _ _ _ _ _ _ (szPair_in a b h) (by omega) (laws_toPair_p1 _) (specDed_SC a b (by omega) (by omega)) (laws_toPair_p1 _) (implDed_SC a b (by omega) (by omega)) (by simp) (by simp)
  · exact laws_FnExactIsDeadEnd_p1 _ _ (szPair_out a b hx hy h) (by omega)

end Go.AI
