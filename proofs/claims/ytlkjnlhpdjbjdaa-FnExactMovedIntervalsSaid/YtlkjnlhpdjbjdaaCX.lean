/- Contracts: exposed carets in texts. -/
import Derived.Test.YtlkjnlhpdjbjdaaCR
set_option autoImplicit false
set_option maxRecDepth 100000
set_option linter.unusedVariables false
namespace Go.AI
open Go.Proofs

/-- The reference's search for '(..)': by the sign before. -/
def exG : UInt8 → List UInt8 → Nat → List Nat
  | _, [], _ => []
  | c0, c :: r, k => (if c0 = 40 ∧ c = 46 ∧ r.take 2 = [46, 41] then [k] else []) ++ exG c r (k + if c = 46 then 1 else 0)

def lastC : Tr → UInt8
  | .leaf => 46
  | .node _ _ => 41

theorem txt_take (r : Tr) (q : List UInt8) : (txt r ++ 41 :: q).take 2 = [46, 41] ↔ r.isLeaf = true := by
  cases r with
  | leaf => simp [txt, Tr.isLeaf]
  | node a b => simp [txt, Tr.isLeaf]

theorem exG_txt : ∀ (t : Tr) (c0 : UInt8) (q : List UInt8) (k : Nat), exG c0 (txt t ++ q) k = (if t.isLeaf = true then (if c0 = 40 ∧ q.take 2 = [46, 41] then [k] else []) else exL t k) ++ exG (lastC t) q (k + t.c + 1)
  | .leaf, c0, q, k => by
    simp [txt, exG, Tr.isLeaf, lastC, Tr.c]
  | .node l r, c0, q, k => by
    have e : txt (.node l r) ++ q = 40 :: (txt l ++ (txt r ++ 41 :: q)) := by simp [txt]
    rw [e]
    have hl := exG_txt l 40 (txt r ++ 41 :: q) k
    have hr := exG_txt r (lastC l) (41 :: q) (k + l.c + 1)
    have hll : lastC l ≠ 40 := by
      cases l
      · show (46 : UInt8) ≠ 40; decide
      · show (41 : UInt8) ≠ 40; decide
    have h0 : ∀ (c : UInt8) (z : List UInt8) (j : Nat), exG c (40 :: z) j = exG 40 z j := fun c z j => by
      have n : ¬ (c = 40 ∧ (40 : UInt8) = 46 ∧ z.take 2 = [46, 41]) := fun h => absurd h.2.1 (by decide)
      have n2 : ¬ ((40 : UInt8) = 46) := by decide
      simp only [exG, if_neg n, if_neg n2, List.nil_append, Nat.add_zero]
    have h1 : ∀ (c : UInt8) (z : List UInt8) (j : Nat), exG c (41 :: z) j = exG 41 z j := fun c z j => by
      have n : ¬ (c = 40 ∧ (41 : UInt8) = 46 ∧ z.take 2 = [46, 41]) := fun h => absurd h.2.1 (by decide)
      have n2 : ¬ ((41 : UInt8) = 46) := by decide
      simp only [exG, if_neg n, if_neg n2, List.nil_append, Nat.add_zero]
    rw [h0, hl, hr, h1]
    have hgoal : (if (Tr.node l r).isLeaf = true then (if c0 = 40 ∧ q.take 2 = [46, 41] then [k] else []) else exL (.node l r) k) = exL (.node l r) k := if_neg (by simp [Tr.isLeaf])
    rw [hgoal, exL_node]
    have hq : k + l.c + 1 + r.c + 1 = k + (Tr.node l r).c + 1 := by simp only [Tr.c]; omega
    rw [hq, ← List.append_assoc]
    congr 1
    have hr0 : (if r.isLeaf = true then if lastC l = 40 ∧ List.take 2 (41 :: q) = [46, 41] then [k + l.c + 1] else [] else exL r (k + l.c + 1)) = exL r (k + l.c + 1) := by
      cases r with
      | leaf => exact (if_pos rfl).trans (if_neg (fun h => hll h.1))
      | node a b => rfl
    rw [hr0]
    cases l with
    | node a b =>
      have : ((Tr.node a b).isLeaf = true) = False := by simp [Tr.isLeaf]
      simp only [this, false_and, if_false]
    | leaf =>
      have hlf : (Tr.leaf.isLeaf = true) = True := by simp [Tr.isLeaf]
      simp only [hlf, if_true, true_and, txt_take]
      cases r with
      | leaf => simp [Tr.isLeaf, exL]
      | node a b => simp [Tr.isLeaf, exL]

theorem exG_all (t : Tr) : exG 0 (txt t) 0 = exL t 0 := by
  have := exG_txt t 0 [] 0
  rw [List.append_nil] at this
  rw [this]
  cases t with
  | leaf => simp [Tr.isLeaf, exG, exL]
  | node l r => simp [Tr.isLeaf, exG]

theorem exG_bound : ∀ (l : List UInt8) (c : UInt8) (k : Nat), (exG c l k).length ≤ l.length
  | [], _, _ => by simp [exG]
  | c :: r, c0, k => by
    simp only [exG, List.length_append, List.length_cons]
    have := exG_bound r c (k + if c = 46 then 1 else 0)
    split <;> simp <;> omega

/-- The sign before a place. -/
def before (l : List UInt8) (i : Nat) : UInt8 := if i = 0 then 0 else l.getD (i - 1) 0

theorem pat_iff (l r : List UInt8) (c : UInt8) (i : Nat) (hi : 1 ≤ i) (h : l.drop i = c :: r) (hlen : i + 2 < l.length) :
    ByteArray.extract (bs l) (i - 1) (i + 3) = (⟨#[40, 46, 46, 41]⟩ : ByteArray) ↔ (before l i = 40 ∧ c = 46 ∧ r.take 2 = [46, 41]) := by
  have hb : before l i = l[i - 1]'(by omega) := by
    rw [before, if_neg (by omega), List.getD_eq_getElem?_getD, List.getElem?_eq_getElem (by omega)]
    rfl
  have hd : l.drop (i - 1) = l[i - 1]'(by omega) :: c :: r := by
    rw [List.drop_eq_getElem_cons (by omega : i - 1 < l.length), show i - 1 + 1 = i by omega, h]
  rw [bs_extract, show i + 3 - (i - 1) = 4 by omega, hd]
  show bs _ = bs [40, 46, 46, 41] ↔ _
  rw [bs_inj, ← hb]
  simp only [List.take_succ_cons, List.cons.injEq]

end Go.AI
