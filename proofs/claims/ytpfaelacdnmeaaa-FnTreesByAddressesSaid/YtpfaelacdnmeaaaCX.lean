/- Contracts: exposed carets in texts. -/
import Derived.Test.YtpfaelacdnmeaaaCR
set_option autoImplicit false
set_option maxRecDepth 100000
set_option linter.unusedVariables false
namespace Go.AI
open Go.Proofs

/-- The reference's search for '(..)': by the sign before. -/
def exG : UInt8 → List UInt8 → Nat → List Nat
  | _, [], _ => []
  | c0, c :: r, k => (if c0 = 40 ∧ c = 46 ∧ r.take 2 = [46, 41] then [k] else []) ++ exG c r (k + if c = 46 then 1 else 0)

def lastC : Tr → UInt8
  | .leaf => 46
  | .node _ _ => 41

theorem txt_take (r : Tr) (q : List UInt8) : (txt r ++ 41 :: q).take 2 = [46, 41] ↔ r.isLeaf = true := by
  cases r with
  | leaf => simp [txt, Tr.isLeaf]
  | node a b => simp [txt, Tr.isLeaf]

theorem exG_txt : ∀ (t : Tr) (c0 : UInt8) (q : List UInt8) (k : Nat), exG c0 (txt t ++ q) k = (if t.isLeaf = true then (if c0 = 40 ∧ q.take 2 = [46, 41] then [k] else []) else exL t k) ++ exG (lastC t) q (k + t.c + 1)
  | .leaf, c0, q, k => by
    simp [txt, exG, Tr.isLeaf, lastC, Tr.c]
  | .node l r, c0, q, k => by
    have e : txt (.node l r) ++ q = 40 :: (txt l ++ (txt r ++ 41 :: q)) := by simp [txt]
    rw [e]
    have hl := exG_txt l 40 (txt r ++ 41 :: q) k
    have hr := exG_txt r (lastC l) (41 :: q) (k + l.c + 1)
    have hll : lastC l ≠ 40 := by
      cases l
      · show (46 : UInt8) ≠ 40; decide
      · show (41 : UInt8) ≠ 40; decide
    have h0 : ∀ (c : UInt8) (z : List UInt8) (j : Nat), exG c (40 :: z) j = exG 40 z j := fun c z j => by
      have n : ¬ (c = 40 ∧ (40 : UInt8) = 46 ∧ z.take 2 = [46, 41]) := fun h => absurd h.2.1 (by decide)
      have n2 : ¬ ((40 : UInt8) = 46) := by decide
      simp only [exG, if_neg n, if_neg n2, List.nil_append, Nat.add_zero]
    have h1 : ∀ (c : UInt8) (z : List UInt8) (j : Nat), exG c (41 :: z) j = exG 41 z j := fun c z j => by
      have n : ¬ (c = 40 ∧ (41 : UInt8) = 46 ∧ z.take 2 = [46, 41]) := fun h => absurd h.2.1 (by decide)
      have n2 : ¬ ((41 : UInt8) = 46) := by decide
      simp only [exG, if_neg n, if_neg n2, List.nil_append, Nat.add_zero]
    rw [h0, hl, hr, h1]
    have hgoal : (if (Tr.node l r).isLeaf = true then (if c0 = 40 ∧ q.take 2 = [46, 41] then [k] else []) else exL (.node l r) k) = exL (.node l r) k := if_neg (by simp [Tr.isLeaf])
    rw [hgoal, exL_node]
    have hq : k + l.c + 1 + r.c + 1 = k + (Tr.node l r).c + 1 := by simp only [Tr.c]; omega
    rw [hq, ← List.append_assoc]
    congr 1
    have hr0 : (if r.isLeaf = true then if lastC l = 40 ∧ List.take 2 (41 :: q) = [46, 41] then [k + l.c + 1] else [] else exL r (k + l.c + 1)) = exL r (k + l.c + 1) := by
      cases r with
      | leaf => exact (if_pos rfl).trans (if_neg (fun h => hll h.1))
      | node a b => rfl
    rw [hr0]
    cases l with
    | node a b =>
      have : ((Tr.node a b).isLeaf = true) = False := by simp [Tr.isLeaf]
      simp only [this, false_and, if_false]
    | leaf =>
      have hlf : (Tr.leaf.isLeaf = true) = True := by simp [Tr.isLeaf]
      simp only [hlf, if_true, true_and, txt_take]
      cases r with
      | leaf => simp [Tr.isLeaf, exL]
      | node a b => simp [Tr.isLeaf, exL]

theorem exG_all (t : Tr) : exG 0 (txt t) 0 = exL t 0 := by
  have := exG_txt t 0 [] 0
  rw [List.append_nil] at this
  rw [this]
  cases t with
  | leaf => simp [Tr.isLeaf, exG, exL]
  | node l r => simp [Tr.isLeaf, exG]

theorem exG_bound : ∀ (l : List UInt8) (c : UInt8) (k : Nat), (exG c l k).length ≤ l.length
  | [], _, _ => by simp [exG]
  | c :: r, c0, k => by
    simp only [exG, List.length_append, List.length_cons]
    have := exG_bound r c (k + if c = 46 then 1 else 0)
    split <;> simp <;> omega

/-- The sign before a place. -/
def before (l : List UInt8) (i : Nat) : UInt8 := if i = 0 then 0 else l.getD (i - 1) 0

theorem pat_iff (l r : List UInt8) (c : UInt8) (i : Nat) (hi : 1 ≤ i) (h : l.drop i = c :: r) (hlen : i + 2 < l.length) :
    ByteArray.extract (bs l) (i - 1) (i + 3) = (⟨#[40, 46, 46, 41]⟩ : ByteArray) ↔ (before l i = 40 ∧ c = 46 ∧ r.take 2 = [46, 41]) := by
  have hb : before l i = l[i - 1]'(by omega) := by
    rw [before, if_neg (by omega), List.getD_eq_getElem?_getD, List.getElem?_eq_getElem (by omega)]
    rfl
  have hd : l.drop (i - 1) = l[i - 1]'(by omega) :: c :: r := by
    rw [List.drop_eq_getElem_cons (by omega : i - 1 < l.length), show i - 1 + 1 = i by omega, h]
  rw [bs_extract, show i + 3 - (i - 1) = 4 by omega, hd]
  show bs _ = bs [40, 46, 46, 41] ↔ _
  rw [bs_inj, ← hb]
  simp only [List.take_succ_cons, List.cons.injEq]

theorem trExposed_L (l : List UInt8) (hl : l.length ≤ 2 ^ 30) : ∀ (m i k : Nat) (cur : List Nat), l.length - i = m → i ≤ l.length → k ≤ i → cur.length ≤ i →
    ∃ k' : Nat, LoopSC cfg.P 1 (lb P_spec_trExposed 0) (spec_trExposed_L0a (bs l) (k : Int) (i : Int) (ints cur)) (.exit 0) (spec_trExposed_L0X1 (bs l) (k' : Int) (l.length : Int) false (ints (cur ++ exG (before l i) (l.drop i) k))) := by
  intro m
  induction m with
  | zero =>
    intro i k cur hm hi hk hc
    have e : i = l.length := by omega
    subst e
    rw [List.drop_length]
    simp only [exG, List.append_nil]
    exact ⟨k, spec_trExposed_L0a_x9 _ _ _ _ (by rw [bs_size]; omega)⟩
  | succ m ih =>
    intro i k cur hm hi hk hc
    have hlt : i < l.length := by omega
    obtain ⟨c, r, hcr⟩ : ∃ c r, l.drop i = c :: r := ⟨_, _, (List.drop_eq_getElem_cons hlt)⟩
    have hc0 : l.getD i 0 = c := by
      have : (l.drop i)[0]? = some c := by rw [hcr]; rfl
      rw [List.getElem?_drop] at this
      simp only [Nat.add_zero] at this
      simp only [List.getD_eq_getElem?_getD, this, Option.getD]
    have hr : l.drop (i + 1) = r := by
      have : (l.drop i).drop 1 = r := by rw [hcr]; rfl
      rw [List.drop_drop] at this
      exact this
    have hrl : r.length + i + 1 = l.length := by
      have := congrArg List.length hcr
      simp at this
      omega
    have hbt : bt (bs l) (i : Int) = (c.toNat : Int) := by rw [bs_bt, Int.toNat_natCast, hc0]
    have hbef : before l (i + 1) = c := by rw [before, if_neg (by omega)]; exact hc0
    have e1 : IntKind.wrap .i64 ((i : Int) + 1) = ((i + 1 : Nat) : Int) := by rw [w64] <;> omega
    have ek : IntKind.wrap .i64 ((k : Int) + 1) = ((k + 1 : Nat) : Int) := by rw [w64] <;> omega
    have g1 : (i : Int) < ((bs l).size : Int) := by rw [bs_size]; omega
    have y46 : c = 46 → bt (bs l) (i : Int) = 46 := fun h => by rw [hbt, h]; rfl
    have n46 : c ≠ 46 → bt (bs l) (i : Int) ≠ 46 := fun h => by rw [hbt]; intro e; exact h ((byte_eq c 46).1 e)
    rw [hcr]
    simp only [exG]
    by_cases hpat : before l i = 40 ∧ c = 46 ∧ r.take 2 = [46, 41]
    · have hi0 : i ≠ 0 := by
        intro e
        have := hpat.1
        rw [before, if_pos e] at this
        exact absurd this (by decide)
      have hr2 : 2 ≤ r.length := by
        have := congrArg List.length hpat.2.2
        simp at this
        omega
      have hext := (pat_iff l r c i (by omega) hcr (by omega)).2 hpat
      have w1 : IntKind.wrap .i64 ((i : Int) + 2) = ((i + 2 : Nat) : Int) := by rw [w64] <;> omega
      have w2 : IntKind.wrap .i64 ((i : Int) - 1) = ((i - 1 : Nat) : Int) := by rw [w64] <;> omega
      have w3 : IntKind.wrap .i64 ((i : Int) + 3) = ((i + 3 : Nat) : Int) := by rw [w64] <;> omega
      rw [if_pos hpat, if_pos hpat.2.1]
      obtain ⟨k', hn⟩ := ih (i + 1) (k + 1) (cur ++ [k]) (by omega) (by omega) (by omega) (by simp; omega)
      have e2 : ints (cur ++ [k]) = ints cur ++ [(k : Int)] := by simp
      rw [hbef, hr, List.append_assoc, ← e1, ← ek, e2] at hn
      refine ⟨k', spec_trExposed_L0a_i1 _ _ _ _ g1 (by omega) (by rw [w1, bs_size]; omega) (by rw [w2]; omega) (by rw [w2, w3]; omega) (by rw [w3, bs_size]; omega) (by rw [w2, w3, Int.toNat_natCast, Int.toNat_natCast]; exact hext) (zokI _ _ (by simp; omega)) (by omega) (y46 hpat.2.1) hn⟩
    · rw [if_neg hpat, List.nil_append]
      by_cases hi0 : i = 0
      · by_cases h46 : c = 46
        · rw [if_pos h46]
          obtain ⟨k', hn⟩ := ih (i + 1) (k + 1) cur (by omega) (by omega) (by omega) (by omega)
          rw [hbef, hr, ← e1, ← ek] at hn
          exact ⟨k', spec_trExposed_L0a_i7 _ _ _ _ g1 (by omega) (by omega) (y46 h46) hn⟩
        · rw [if_neg h46, Nat.add_zero]
          obtain ⟨k', hn⟩ := ih (i + 1) k cur (by omega) (by omega) (by omega) (by omega)
          rw [hbef, hr, ← e1] at hn
          exact ⟨k', spec_trExposed_L0a_i8 _ _ _ _ g1 (by omega) (by omega) (n46 h46) hn⟩
      · have w1 : IntKind.wrap .i64 ((i : Int) + 2) = ((i + 2 : Nat) : Int) := by rw [w64] <;> omega
        have w2 : IntKind.wrap .i64 ((i : Int) - 1) = ((i - 1 : Nat) : Int) := by rw [w64] <;> omega
        have w3 : IntKind.wrap .i64 ((i : Int) + 3) = ((i + 3 : Nat) : Int) := by rw [w64] <;> omega
        by_cases h2 : i + 2 < l.length
        · have hext : ByteArray.extract (bs l) (i - 1) (i + 3) ≠ (⟨#[40, 46, 46, 41]⟩ : ByteArray) := fun h => hpat ((pat_iff l r c i (by omega) hcr h2).1 h)
          by_cases h46 : c = 46
          · rw [if_pos h46]
            obtain ⟨k', hn⟩ := ih (i + 1) (k + 1) cur (by omega) (by omega) (by omega) (by omega)
            rw [hbef, hr, ← e1, ← ek] at hn
            exact ⟨k', spec_trExposed_L0a_i3 _ _ _ _ g1 (by omega) (by rw [w1, bs_size]; omega) (by rw [w2]; omega) (by rw [w2, w3]; omega) (by rw [w3, bs_size]; omega) (by rw [w2, w3, Int.toNat_natCast, Int.toNat_natCast]; exact hext) (by omega) (y46 h46) hn⟩
          · rw [if_neg h46, Nat.add_zero]
            obtain ⟨k', hn⟩ := ih (i + 1) k cur (by omega) (by omega) (by omega) (by omega)
            rw [hbef, hr, ← e1] at hn
            exact ⟨k', spec_trExposed_L0a_i4 _ _ _ _ g1 (by omega) (by rw [w1, bs_size]; omega) (by rw [w2]; omega) (by rw [w2, w3]; omega) (by rw [w3, bs_size]; omega) (by rw [w2, w3, Int.toNat_natCast, Int.toNat_natCast]; exact hext) (by omega) (n46 h46) hn⟩
        · by_cases h46 : c = 46
          · rw [if_pos h46]
            obtain ⟨k', hn⟩ := ih (i + 1) (k + 1) cur (by omega) (by omega) (by omega) (by omega)
            rw [hbef, hr, ← e1, ← ek] at hn
            exact ⟨k', spec_trExposed_L0a_i5 _ _ _ _ g1 (by omega) (by rw [w1, bs_size]; omega) (by omega) (y46 h46) hn⟩
          · rw [if_neg h46, Nat.add_zero]
            obtain ⟨k', hn⟩ := ih (i + 1) k cur (by omega) (by omega) (by omega) (by omega)
            rw [hbef, hr, ← e1] at hn
            exact ⟨k', spec_trExposed_L0a_i6 _ _ _ _ g1 (by omega) (by rw [w1, bs_size]; omega) (by omega) (n46 h46) hn⟩

theorem trExposed_SC (t : Tr) (h : t.c ≤ 2 ^ 20) : SC cfg.P i_spec_trExposed [.s (.v .str (bs (txt t)))] (.s (.own t_int (.int .i64) (ints (exL t 0)))) [] := by
  obtain ⟨k', hL⟩ := trExposed_L (txt t) (by rw [txt_len]; omega) _ 0 0 [] rfl (by omega) (by omega) (by simp)
  have e : exG (before (txt t) 0) ((txt t).drop 0) 0 = exL t 0 := exG_all t
  rw [e, List.nil_append] at hL
  exact spec_trExposed_p1 _ _ _ _ _ _ hL

end Go.AI
