/- Contracts: trees in place of leaves. -/
import Derived.Test.YtdfllkeekehplaaCJt
import Derived.Test.YtdfllkeekehplaaCPg
set_option autoImplicit false
set_option maxRecDepth 100000
set_option linter.unusedVariables false
namespace Go.AI
open Go.Proofs

/-- A tree with those of a forest in place of its leaves. -/
def growT (us : List Tr) : Tr → Nat → Tr
  | .leaf, n => us.getD n .leaf
  | .node a b, n => .node (growT us a n) (growT us b (n + (a.c + 1)))

theorem growT_c (us : List Tr) (b : Nat) (h : ∀ u ∈ us, u.c ≤ b) : ∀ (t : Tr) (n : Nat), (growT us t n).c ≤ t.c + (t.c + 1) * b
  | .leaf, n => by have := getD_leaf_c h n; simp only [growT, Tr.c]; omega
  | .node x y, n => by
    have h1 := growT_c us b h x n
    have h2 := growT_c us b h y (n + (x.c + 1))
    simp only [growT, Tr.c]
    have e : (1 + x.c + y.c + 1) * b = (x.c + 1) * b + (y.c + 1) * b := by rw [← Nat.add_mul]; congr 1; omega
    rw [e]
    omega

/-- A text with others in place of its points. -/
def subS (us : List Tr) : List UInt8 → Nat → List UInt8
  | [], _ => []
  | c :: r, n => if c = 46 then txt (us.getD n .leaf) ++ subS us r (n + 1) else c :: subS us r n

theorem subS_txt (us : List Tr) : ∀ (t : Tr) (q : List UInt8) (n : Nat), subS us (txt t ++ q) n = txt (growT us t n) ++ subS us q (n + (t.c + 1))
  | .leaf, q, n => by simp [txt, subS, growT, Tr.c]
  | .node a b, q, n => by
    have h1 := subS_txt us a (txt b ++ (41 :: q)) n
    have h2 := subS_txt us b (41 :: q) (n + (a.c + 1))
    have e : txt (.node a b) ++ q = 40 :: (txt a ++ (txt b ++ (41 :: q))) := by simp [txt]
    rw [e, subS, if_neg (by decide), h1, h2, subS, if_neg (by decide)]
    have e2 : n + (a.c + 1) + (b.c + 1) = n + ((Tr.node a b).c + 1) := by simp only [Tr.c]; omega
    rw [e2]
    simp [txt, growT]

theorem txt_dots' : ∀ t : Tr, (txt t).count 46 = t.c + 1
  | .leaf => rfl
  | .node l r => by
    simp only [txt, List.count_cons, List.count_append, txt_dots' l, txt_dots' r, Tr.c]
    simp
    omega

end Go.AI
