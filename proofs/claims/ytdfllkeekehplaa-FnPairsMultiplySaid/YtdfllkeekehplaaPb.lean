/- The law of PowerPair. -/
import Derived.Test.YtdfllkeekehplaaGK
import Derived.Test.YtdfllkeekehplaaGX
import Derived.Test.YtdfllkeekehplaaGC
import Derived.Test.YtdfllkeekehplaaCE
set_option autoImplicit false
set_option maxRecDepth 100000
set_option linter.unusedVariables false
namespace Go.AI
open Go.Proofs

/-- More and more factors, as long as none is too great. -/
def powO : Nat → Tr × Tr → Tr × Tr → Option (Tr × Tr)
  | 0, out, _ => some out
  | n + 1, out, p => if (timesT out p).1.c ≤ 8 then powO n (timesT out p) p else none

theorem powO_ok : ∀ (n : Nat) (out p o : Tr × Tr), powO n out p = some o → out.1.c = out.2.c → out.1.c ≤ 8 → p.1.c = p.2.c → o.1.c = o.2.c ∧ o.1.c ≤ 8
  | 0, out, p, o, h, h1, h2, h3 => by
    simp only [powO, Option.some.injEq] at h
    subst h
    exact ⟨h1, h2⟩
  | n + 1, out, p, o, h, h1, h2, h3 => by
    simp only [powO] at h
    split at h
    · rename_i hc
      exact powO_ok n _ p o h (times_eqc _ _ h1 h3) hc h3
    · cases h

theorem power_L (p : Tr × Tr) (hp : p.1.c = p.2.c) (h8 : p.1.c ≤ 8) (k : Nat) (hk : k ≤ 2 ^ 40) (z : Tr × Tr) : ∀ (n i : Nat) (out : Tr × Tr), i + n = k → out.1.c = out.2.c → out.1.c ≤ 8 →
    (∀ o, powO n out p = some o → LoopSC cfg.P 2 (lb P_impl_pair_power 0) (impl_pair_power_L0a (k : Int) (i : Int) p z out) (.exit 0) (impl_pair_power_L0X2 (k : Int) (k : Int) false p z o)) ∧
    (powO n out p = none → ∃ o, LoopSC cfg.P 2 (lb P_impl_pair_power 0) (impl_pair_power_L0a (k : Int) (i : Int) p z out) .ret (impl_pair_power_L0X1 false o)) := by
  intro n
  induction n with
  | zero =>
    intro i out hi ho ho8
    refine ⟨fun o h => ?_, fun h => by cases h⟩
    simp only [powO, Option.some.injEq] at h
    subst h
    have e : i = k := by omega
    subst e
    exact impl_pair_power_L0a_x3 _ _ _ _ _ (by omega)
  | succ n ih =>
    intro i out hi ho ho8
    have ht := times_SC out p ho hp (by omega) (by omega)
    have hc := raw_c out p ho
    have hq := times_eqc out p ho hp
    have hk1 := carets_SC (timesT out p).1 (by omega)
    rw [powO]
    by_cases h : (timesT out p).1.c ≤ 8
    · rw [if_pos h]
      obtain ⟨i1, i2⟩ := ih (i + 1) (timesT out p) (by omega) hq h
      rw [← wrap_succ (by omega)] at i1 i2
      refine ⟨fun o hh => impl_pair_power_L0a_i2 _ _ _ _ _ _ _ (by omega) ht hk1 (by omega) (i1 o hh), fun hh => ?_⟩
      obtain ⟨o, hn⟩ := i2 hh
      exact ⟨o, impl_pair_power_L0a_i2 _ _ _ _ _ _ _ (by omega) ht hk1 (by omega) hn⟩
    · rw [if_neg h]
      exact ⟨fun o hh => (by cases hh), fun _ => ⟨_, impl_pair_power_L0a_x1 _ _ _ _ _ _ _ (by omega) ht hk1 (by omega)⟩⟩

theorem spower_L (p : Tr × Tr) (hp : p.1.c = p.2.c) (h8 : p.1.c ≤ 8) (z : ByteArray × ByteArray) : ∀ (n : Nat) (out : Tr × Tr), n ≤ 2 ^ 40 → out.1.c = out.2.c → out.1.c ≤ 8 →
    (∀ o, powO n out p = some o → LoopSC cfg.P 2 (lb P_spec_PowerPair 0) (spec_PowerPair_L0a (n : Int) (pt p) z (pt out)) (.exit 0) (spec_PowerPair_L0X2 0 false (pt p) z (pt o))) ∧
    (powO n out p = none → LoopSC cfg.P 2 (lb P_spec_PowerPair 0) (spec_PowerPair_L0a (n : Int) (pt p) z (pt out)) .ret (spec_PowerPair_L0X1 false ((⟨#[]⟩ : ByteArray), (⟨#[]⟩ : ByteArray)))) := by
  intro n
  induction n with
  | zero =>
    intro out hn ho ho8
    refine ⟨fun o h => ?_, fun h => by cases h⟩
    simp only [powO, Option.some.injEq] at h
    subst h
    exact spec_PowerPair_L0a_x3 _ _ _ _ (by omega)
  | succ n ih =>
    intro out hn ho ho8
    have ht := prTimes_SC out p ho hp (by omega)
    have hc := raw_c out p ho
    have hq := times_eqc out p ho hp
    have hl := txt_len (timesT out p).1
    have hk1 := trCarets_SC (txt (timesT out p).1) (by omega)
    rw [txt_count] at hk1
    have ew : IntKind.wrap .i64 (((n + 1 : Nat) : Int) - 1) = (n : Int) := by rw [w64] <;> omega
    rw [powO]
    by_cases h : (timesT out p).1.c ≤ 8
    · rw [if_pos h]
      obtain ⟨i1, i2⟩ := ih (timesT out p) (by omega) hq h
      rw [← ew] at i1 i2
      exact ⟨fun o hh => spec_PowerPair_L0a_i2 _ _ _ _ _ _ (by omega) ht hk1 (by omega) (i1 o hh), fun hh => spec_PowerPair_L0a_i2 _ _ _ _ _ _ (by omega) ht hk1 (by omega) (i2 hh)⟩
    · rw [if_neg h]
      exact ⟨fun o hh => (by cases hh), fun _ => spec_PowerPair_L0a_x1 _ _ _ _ _ _ (by omega) ht hk1 (by omega)⟩

/-- The power that is told. -/
def pwP (a b : List UInt8) (k : Int) : Tr × Tr := if k < 0 then (treeOf b, treeOf a) else (treeOf a, treeOf b)
def pwO (a b : List UInt8) (k : Int) : Option (Tr × Tr) := if isPair a b = true ∧ -10 ≤ k ∧ k ≤ 10 then powO k.natAbs (.leaf, .leaf) (pwP a b k) else none
def pwV (a b : List UInt8) (k : Int) : ByteArray × ByteArray := match pwO a b k with
  | some o => pt o
  | none => (⟨#[]⟩, ⟨#[]⟩)
def pwB (a b : List UInt8) (k : Int) : Bool := (pwO a b k).isSome

theorem l1In_SC (n lo hi : Int) : SC cfg.P i_spec_l1In [.s (.v (.int .i64) n), .s (.v (.int .i64) lo), .s (.v (.int .i64) hi)] (.s (.v .bool (decide (lo ≤ n ∧ n ≤ hi)))) [] := by
  by_cases h1 : lo ≤ n
  · by_cases h2 : n ≤ hi
    · rw [decide_eq_true ⟨h1, h2⟩]; exact spec_l1In_p1 _ _ _ (by omega) h2
    · rw [decide_eq_false (fun h => h2 h.2)]; exact spec_l1In_p2 _ _ _ (by omega) h2
  · rw [decide_eq_false (fun h => h1 h.1)]; exact spec_l1In_p3 _ _ _ (by omega)

theorem implPW_SC (a b : List UInt8) (ha : a.length ≤ 2 ^ 40) (hb : b.length ≤ 2 ^ 40) (k : Int) :
    SC cfg.P i_impl_PowerPair [.s (.v (.pr .str .str) (bs a, bs b)), .s (.v (.int .i64) k)] (.tup [.v (.pr .str .str) (pwV a b k), .v .bool (pwB a b k)]) [] := by
  have h1 := pairOf_SC a b ha hb
  unfold pwV pwB pwO pwP
  cases t : isPair a b with
  | false => rw [t] at h1; rw [if_neg (fun h => by cases h.1)]; exact impl_PowerPair_p7 _ _ _ h1
  | true =>
    rw [t] at h1
    obtain ⟨a1, a2, a3, a4, a5⟩ := isPair_trees t
    by_cases l1 : k < -10
    · rw [if_neg (fun h => by omega)]; exact impl_PowerPair_p1 _ _ _ h1 l1
    · by_cases l2 : k > 10
      · rw [if_neg (fun h => by omega)]; exact impl_PowerPair_p2 _ _ _ h1 l1 l2
      · rw [if_pos ⟨rfl, by omega, by omega⟩]
        by_cases hk : k < 0
        · rw [if_pos hk]
          obtain ⟨q1, q2⟩ := power_L (treeOf b, treeOf a) a5.symm a4 k.natAbs (by omega) (.leaf, .leaf) k.natAbs 0 (.leaf, .leaf) (by omega) rfl (by simp [Tr.c])
          have ek : IntKind.wrap .i64 (0 - k) = ((k.natAbs : Nat) : Int) := by rw [w64] <;> omega
          cases ho : powO k.natAbs (.leaf, .leaf) (treeOf b, treeOf a) with
          | some o =>
            have hL := impl_pair_power_p2 _ _ _ _ _ _ _ _ (q1 o ho)
            obtain ⟨o1, o2⟩ := powO_ok _ _ _ _ ho rfl (by simp [Tr.c]) a5.symm
            rw [← ek] at hL
            exact impl_PowerPair_p3 _ _ _ _ _ _ h1 l1 l2 hk (impl_pair_inverse_p1 _) hL (plain_SC o (by omega) (by omega))
          | none =>
            obtain ⟨o, hL⟩ := q2 ho
            have hL' := impl_pair_power_p1 _ _ _ _ hL
            rw [← ek] at hL'
            exact impl_PowerPair_p4 _ _ _ _ _ h1 l1 l2 hk (impl_pair_inverse_p1 _) hL'
        · rw [if_neg hk]
          obtain ⟨q1, q2⟩ := power_L (treeOf a, treeOf b) a5 a3 k.natAbs (by omega) (.leaf, .leaf) k.natAbs 0 (.leaf, .leaf) (by omega) rfl (by simp [Tr.c])
          have ek : k = ((k.natAbs : Nat) : Int) := by omega
          cases ho : powO k.natAbs (.leaf, .leaf) (treeOf a, treeOf b) with
          | some o =>
            have hL := impl_pair_power_p2 _ _ _ _ _ _ _ _ (q1 o ho)
            obtain ⟨o1, o2⟩ := powO_ok _ _ _ _ ho rfl (by simp [Tr.c]) a5
            rw [← ek] at hL
            exact impl_PowerPair_p5 _ _ _ _ _ h1 l1 l2 hk hL (plain_SC o (by omega) (by omega))
          | none =>
            obtain ⟨o, hL⟩ := q2 ho
            have hL' := impl_pair_power_p1 _ _ _ _ hL
            rw [← ek] at hL'
            exact impl_PowerPair_p6 _ _ _ _ h1 l1 l2 hk hL'

theorem specPW_SC (a b : List UInt8) (ha : a.length ≤ 2 ^ 40) (hb : b.length ≤ 2 ^ 40) (k : Int) :
    SC cfg.P i_spec_PowerPair [.s (.v (.pr .str .str) (bs a, bs b)), .s (.v (.int .i64) k)] (.tup [.v (.pr .str .str) (pwV a b k), .v .bool (pwB a b k)]) [] := by
  have h1 := prGood_SC a b ha hb
  have hu : SC cfg.P i_spec_prUnit [] (.s (.v (.pr .str .str) (pt (.leaf, .leaf)))) [] := spec_prUnit_p1
  have h2 := l1In_SC k (-10) 10
  unfold pwV pwB pwO pwP
  cases t : isPair a b with
  | false => rw [t] at h1; rw [if_neg (fun h => by cases h.1)]; exact spec_PowerPair_p6 _ _ h1
  | true =>
    rw [t] at h1
    obtain ⟨a1, a2, a3, a4, a5⟩ := isPair_trees t
    by_cases l1 : -10 ≤ k ∧ k ≤ 10
    · rw [decide_eq_true l1] at h2
      rw [if_pos ⟨rfl, l1⟩]
      have e1 : pt (treeOf a, treeOf b) = (bs a, bs b) := by rw [pt, ← a1, ← a2]
      by_cases hk : k < 0
      · rw [if_pos hk]
        obtain ⟨q1, q2⟩ := spower_L (treeOf b, treeOf a) a5.symm a4 ((⟨#[]⟩ : ByteArray), (⟨#[]⟩ : ByteArray)) k.natAbs (.leaf, .leaf) (by omega) rfl (by simp [Tr.c])
        have ek : IntKind.wrap .i64 (0 - k) = ((k.natAbs : Nat) : Int) := by rw [w64] <;> omega
        have hi : SC cfg.P i_spec_prInverse [.s (.v (.pr .str .str) (bs a, bs b))] (.s (.v (.pr .str .str) (pt (treeOf b, treeOf a)))) [] := by
          have := spec_prInverse_p1 (bs a, bs b)
          rw [pt]
          simp only
          rw [← a1, ← a2]
          exact this
        rw [← ek] at q1 q2
        cases ho : powO k.natAbs (.leaf, .leaf) (treeOf b, treeOf a) with
        | some o => exact spec_PowerPair_p2 _ _ _ _ _ _ _ _ _ h1 h2 hk hi hu (q1 o ho)
        | none => exact spec_PowerPair_p1 _ _ _ _ _ _ h1 h2 hk hi hu (q2 ho)
      · rw [if_neg hk]
        obtain ⟨q1, q2⟩ := spower_L (treeOf a, treeOf b) a5 a3 ((⟨#[]⟩ : ByteArray), (⟨#[]⟩ : ByteArray)) k.natAbs (.leaf, .leaf) (by omega) rfl (by simp [Tr.c])
        have ek : k = ((k.natAbs : Nat) : Int) := by omega
        rw [← ek, e1] at q1 q2
        cases ho : powO k.natAbs (.leaf, .leaf) (treeOf a, treeOf b) with
        | some o => exact spec_PowerPair_p4 _ _ _ _ _ _ _ _ h1 h2 hk hu (q1 o ho)
        | none => exact spec_PowerPair_p3 _ _ _ _ _ h1 h2 hk hu (q2 ho)
    · rw [decide_eq_false l1] at h2
      rw [if_neg (fun h => l1 h.2)]
      exact spec_PowerPair_p5 _ _ h1 h2


end Go.AI
