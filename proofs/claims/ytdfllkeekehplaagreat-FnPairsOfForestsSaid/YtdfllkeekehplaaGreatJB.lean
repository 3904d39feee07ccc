/- A part of the road: what it proves stands in its last texts. -/
import Derived.Test.YtdfllkeekehplaaGreatGH
import Derived.Test.YtdfllkeekehplaaGreatCPg
section
/- Contracts: joined trees. -/
set_option autoImplicit false
set_option maxRecDepth 100000
set_option linter.unusedVariables false
namespace Go.AI
open Go.Proofs

def joiT : Tr → Tr → Tr
  | .leaf, u => u
  | .node a b, .leaf => .node a b
  | .node a b, .node c d => .node (joiT a c) (joiT b d)

theorem joiT_c : ∀ t u : Tr, (joiT t u).c ≤ t.c + u.c
  | .leaf, _ => by simp [joiT]
  | .node _ _, .leaf => by simp [joiT]
  | .node a b, .node c d => by have := joiT_c a c; have := joiT_c b d; simp only [joiT, Tr.c]; omega

theorem join_SC : ∀ t u : Tr, SC cfg.P i_impl_join [.s (.v .tree t), .s (.v .tree u)] (.s (.v .tree (joiT t u))) []
  | .leaf, u => impl_join_p1 u
  | .node a b, .leaf => impl_join_p2 a b
  | .node a b, .node c d => impl_join_p3 _ _ _ _ _ _ (join_SC a c) (join_SC b d)

theorem trOf_SC (t u : Tr) (ht : t.c ≤ 2 ^ 30) (hu : u.c ≤ 2 ^ 30) : SC cfg.P i_spec_trOf [.s (.v .str (bs (txt t))), .s (.v .str (bs (txt u)))] (.s (.v .str (bs (txt (.node t u))))) [] := by
  have h1 := txt_len t
  have h2 := txt_len u
  have s0 : ((⟨#[40]⟩ : ByteArray)).size = 1 := rfl
  have s1 : ((⟨#[41]⟩ : ByteArray)).size = 1 := rfl
  have e1 : (⟨#[40]⟩ : ByteArray) ++ bs (txt t) = bs (40 :: txt t) := by show bs [40] ++ _ = _; rw [bs_append]; rfl
  have e2 : (⟨#[40]⟩ : ByteArray) ++ bs (txt t) ++ bs (txt u) = bs (40 :: txt t ++ txt u) := by rw [e1, bs_append]
  have e3 : (⟨#[40]⟩ : ByteArray) ++ bs (txt t) ++ bs (txt u) ++ (⟨#[41]⟩ : ByteArray) = bs (txt (.node t u)) := by
    rw [e2]; show _ ++ bs [41] = _; rw [bs_append]; simp [txt]
  have := spec_trOf_p1 (bs (txt t)) (bs (txt u)) (by rw [s0, bs_size]; omega) (by rw [e1, bs_size, bs_size]; simp; omega) (by rw [e2, bs_size, s1]; simp; omega)
  rw [e3] at this
  exact this

theorem trJoin_SC : ∀ t u : Tr, t.c ≤ 50 → u.c ≤ 50 → SC cfg.P i_spec_trJoin [.s (.v .str (bs (txt t))), .s (.v .str (bs (txt u)))] (.s (.v .str (bs (txt (joiT t u))))) []
  | .leaf, u, _, _ => spec_trJoin_p1 _ _ trLeaf_leaf
  | .node a b, .leaf, _, _ => spec_trJoin_p2 _ _ (trLeaf_node a b) trLeaf_leaf
  | .node a b, .node c d, h1, h2 => by
    have h1' := h1
    have h2' := h2
    simp only [Tr.c] at h1 h2
    have c1 := joiT_c a c
    have c2 := joiT_c b d
    exact spec_trJoin_p3 _ _ _ _ _ _ _ _ _ (trLeaf_node a b) (trLeaf_node c d) (trSides_SC a b h1') (trSides_SC c d h2') (trJoin_SC a c (by omega) (by omega)) (trJoin_SC b d (by omega) (by omega)) (trOf_SC _ _ (by omega) (by omega))

theorem getD_leaf_c {ts : List Tr} {b : Nat} (h : ∀ t ∈ ts, t.c ≤ b) (i : Nat) : (ts.getD i .leaf).c ≤ b := by
  by_cases hi : i < ts.length
  · exact h _ (gD_mem hi .leaf)
  · rw [List.getD_eq_getElem?_getD, List.getElem?_eq_none (by omega)]
    simp [Tr.c]

end Go.AI
end

section
/- Contracts: trees in place of leaves. -/
set_option autoImplicit false
set_option maxRecDepth 100000
set_option linter.unusedVariables false
namespace Go.AI
open Go.Proofs

/-- A tree with those of a forest in place of its leaves. -/
def growT (us : List Tr) : Tr → Nat → Tr
  | .leaf, n => us.getD n .leaf
  | .node a b, n => .node (growT us a n) (growT us b (n + (a.c + 1)))

theorem growT_c (us : List Tr) (b : Nat) (h : ∀ u ∈ us, u.c ≤ b) : ∀ (t : Tr) (n : Nat), (growT us t n).c ≤ t.c + (t.c + 1) * b
  | .leaf, n => by have := getD_leaf_c h n; simp only [growT, Tr.c]; omega
  | .node x y, n => by
    have h1 := growT_c us b h x n
    have h2 := growT_c us b h y (n + (x.c + 1))
    simp only [growT, Tr.c]
    have e : (1 + x.c + y.c + 1) * b = (x.c + 1) * b + (y.c + 1) * b := by rw [← Nat.add_mul]; congr 1; omega
    rw [e]
    omega

/-- A text with others in place of its points. -/
def subS (us : List Tr) : List UInt8 → Nat → List UInt8
  | [], _ => []
  | c :: r, n => if c = 46 then txt (us.getD n .leaf) ++ subS us r (n + 1) else c :: subS us r n

theorem subS_txt (us : List Tr) : ∀ (t : Tr) (q : List UInt8) (n : Nat), subS us (txt t ++ q) n = txt (growT us t n) ++ subS us q (n + (t.c + 1))
  | .leaf, q, n => by simp [txt, subS, growT, Tr.c]
  | .node a b, q, n => by
    have h1 := subS_txt us a (txt b ++ (41 :: q)) n
    have h2 := subS_txt us b (41 :: q) (n + (a.c + 1))
    have e : txt (.node a b) ++ q = 40 :: (txt a ++ (txt b ++ (41 :: q))) := by simp [txt]
    rw [e, subS, if_neg (by decide), h1, h2, subS, if_neg (by decide)]
    have e2 : n + (a.c + 1) + (b.c + 1) = n + ((Tr.node a b).c + 1) := by simp only [Tr.c]; omega
    rw [e2]
    simp [txt, growT]

theorem txt_dots' : ∀ t : Tr, (txt t).count 46 = t.c + 1
  | .leaf => rfl
  | .node l r => by
    simp only [txt, List.count_cons, List.count_append, txt_dots' l, txt_dots' r, Tr.c]
    simp
    omega

end Go.AI
end
