/- Contracts: joins, common parts, parts, subtrees, trees put in the place of leaves. -/
import Derived.Test.YtdfllkeekehplaaCJc
import Derived.Test.YtdfllkeekehplaaC7p
import Derived.Test.YtdfllkeekehplaaCSm
import Derived.Test.YtdfllkeekehplaaFgr
import Derived.Test.YtdfllkeekehplaaCFa
import Derived.Test.YtdfllkeekehplaaGC
set_option autoImplicit false
set_option maxRecDepth 100000
set_option linter.unusedVariables false
namespace Go.AI
open Go.Proofs

/-! ### Subtrees by addresses -/

def atF : Tr → List UInt8 → Option Tr
  | t, [] => some t
  | .leaf, _ :: _ => none
  | .node l r, c :: cs => if c = 48 then atF l cs else if c = 49 then atF r cs else none

theorem atF_nil (t : Tr) : atF t [] = some t := by cases t <;> rfl

theorem nodeAt_L (l : List UInt8) (hl : l.length ≤ 2 ^ 30) : ∀ (m i : Nat) (t : Tr), l.length - i = m → i ≤ l.length →
    (∀ u, atF t (l.drop i) = some u → LoopSC cfg.P 2 (lb P_impl_node_at 0) (impl_node_at_L0a t (bs l) (l.length : Int) (i : Int)) (.exit 0) (impl_node_at_L0X2 u (bs l) (l.length : Int) (l.length : Int) false)) ∧
    (atF t (l.drop i) = none → LoopSC cfg.P 2 (lb P_impl_node_at 0) (impl_node_at_L0a t (bs l) (l.length : Int) (i : Int)) .ret (impl_node_at_L0X1 .leaf false)) := by
  intro m
  induction m with
  | zero =>
    intro i t hm hi
    have e : i = l.length := by omega
    subst e
    rw [List.drop_length, atF_nil]
    exact ⟨fun u h => by cases h; exact impl_node_at_L0a_x5 _ _ _ _ (by omega), fun h => by cases h⟩
  | succ m ih =>
    intro i t hm hi
    have hlt : i < l.length := by omega
    have hd : l.drop i = l[i] :: l.drop (i + 1) := List.drop_eq_getElem_cons hlt
    have hg : bt (bs l) (i : Int) = (l[i].toNat : Int) := by rw [bs_bt, Int.toNat_natCast, List.getD_eq_getElem?_getD, List.getElem?_eq_getElem hlt]; rfl
    have ew := wrap_succ (i := i) (by omega)
    rw [hd]
    cases t with
    | leaf => exact ⟨fun u h => (by cases h), fun _ => impl_node_at_L0a_x1 _ _ _ (by omega)⟩
    | node a b =>
      rw [atF]
      by_cases h0 : l[i] = 48
      · rw [if_pos h0]
        obtain ⟨i1, i2⟩ := ih (i + 1) a (by omega) (by omega)
        rw [← ew] at i1 i2
        have st := fun {e : AEx} {st : St} => impl_node_at_L0a_i2 a b (bs l) (l.length : Int) (i : Int) (by omega) (by omega) (by rw [bs_size]; omega) (by rw [hg, h0]; rfl) (e := e) (st := st)
        exact ⟨fun u h => st (i1 u h), fun h => st (i2 h)⟩
      · rw [if_neg h0]
        have hne : bt (bs l) (i : Int) ≠ 48 := by rw [hg]; intro e; exact h0 ((byte_eq _ 48).1 e)
        by_cases h1 : l[i] = 49
        · rw [if_pos h1]
          obtain ⟨i1, i2⟩ := ih (i + 1) b (by omega) (by omega)
          rw [← ew] at i1 i2
          have st := fun {e : AEx} {st : St} => impl_node_at_L0a_i3 a b (bs l) (l.length : Int) (i : Int) (by omega) (by omega) (by rw [bs_size]; omega) hne (by rw [hg, h1]; rfl) (e := e) (st := st)
          exact ⟨fun u h => st (i1 u h), fun h => st (i2 h)⟩
        · rw [if_neg h1]
          exact ⟨fun u h => (by cases h), fun _ => impl_node_at_L0a_x4 _ _ _ _ _ (by omega) (by omega) (by rw [bs_size]; omega) hne (by rw [hg]; intro e; exact h1 ((byte_eq _ 49).1 e))⟩

def atB (t : Tr) (l : List UInt8) : Bool := (atF t l).isSome

theorem nodeAt_SC (t : Tr) (l : List UInt8) (hl : l.length ≤ 2 ^ 30) : SC cfg.P i_impl_node_at [.s (.v .tree t), .s (.v .str (bs l))] (.tup [.v .tree ((atF t l).getD .leaf), .v .bool (atB t l)]) [] := by
  obtain ⟨h1, h2⟩ := nodeAt_L l hl _ 0 t rfl (by omega)
  rw [List.drop_zero] at h1 h2
  unfold atB
  cases h : atF t l with
  | some u => exact impl_node_at_p2 _ _ _ _ _ _ _ (h1 u h)
  | none => exact impl_node_at_p1 _ _ _ _ (h2 h)

theorem atF_c : ∀ (t : Tr) (l : List UInt8) (u : Tr), atF t l = some u → u.c ≤ t.c
  | t, [], u, h => by rw [atF_nil] at h; cases h; exact Nat.le_refl _
  | .leaf, _ :: _, u, h => by cases h
  | .node a b, c :: cs, u, h => by
    rw [atF] at h
    split at h
    · have := atF_c a cs u h; simp only [Tr.c]; omega
    · split at h
      · have := atF_c b cs u h; simp only [Tr.c]; omega
      · cases h

theorem trAt_L (l : List UInt8) (hl : l.length ≤ 2 ^ 30) : ∀ (m i : Nat) (t : Tr), l.length - i = m → i ≤ l.length → t.c ≤ 50 →
    (∀ u, atF t (l.drop i) = some u → LoopSC cfg.P 2 (lb P_spec_trAt 0) (spec_trAt_L0a (bs (txt t)) (bs l) (i : Int)) (.exit 0) (spec_trAt_L0X2 (bs (txt u)) (bs l) (l.length : Int) false)) ∧
    (atF t (l.drop i) = none → LoopSC cfg.P 2 (lb P_spec_trAt 0) (spec_trAt_L0a (bs (txt t)) (bs l) (i : Int)) .ret (spec_trAt_L0X1 (⟨#[]⟩ : ByteArray) false)) := by
  intro m
  induction m with
  | zero =>
    intro i t hm hi ht
    have e : i = l.length := by omega
    subst e
    rw [List.drop_length, atF_nil]
    exact ⟨fun u h => by cases h; exact spec_trAt_L0a_x7 _ _ _ (by rw [bs_size]; omega), fun h => by cases h⟩
  | succ m ih =>
    intro i t hm hi ht
    have hlt : i < l.length := by omega
    have hd : l.drop i = l[i] :: l.drop (i + 1) := List.drop_eq_getElem_cons hlt
    have hg : bt (bs l) (i : Int) = (l[i].toNat : Int) := by rw [bs_bt, Int.toNat_natCast, List.getD_eq_getElem?_getD, List.getElem?_eq_getElem hlt]; rfl
    have ew := wrap_succ (i := i) (by omega)
    rw [hd]
    cases t with
    | leaf => exact ⟨fun u h => (by cases h), fun _ => spec_trAt_L0a_x1 _ _ _ (by rw [bs_size]; omega) trLeaf_leaf⟩
    | node a b =>
      simp only [Tr.c] at ht
      rw [atF]
      have hlf := trLeaf_node a b
      have hsd := trSides_SC a b (by simp only [Tr.c]; omega)
      by_cases h0 : l[i] = 48
      · rw [if_pos h0]
        obtain ⟨i1, i2⟩ := ih (i + 1) a (by omega) (by omega) (by omega)
        rw [← ew] at i1 i2
        have st := fun {e : AEx} {st : St} => spec_trAt_L0a_i6 (bs (txt (.node a b))) (bs l) (i : Int) _ _ (by rw [bs_size]; omega) hlf (by omega) (by rw [hg, h0]; rfl) hsd (by rw [hg, h0]; decide) (e := e) (st := st)
        exact ⟨fun u h => st (i1 u h), fun h => st (i2 h)⟩
      · rw [if_neg h0]
        have hne : bt (bs l) (i : Int) ≠ 48 := by rw [hg]; intro e; exact h0 ((byte_eq _ 48).1 e)
        by_cases h1 : l[i] = 49
        · rw [if_pos h1]
          obtain ⟨i1, i2⟩ := ih (i + 1) b (by omega) (by omega) (by omega)
          rw [← ew] at i1 i2
          have st := fun {e : AEx} {st : St} => spec_trAt_L0a_i3 (bs (txt (.node a b))) (bs l) (i : Int) _ _ (by rw [bs_size]; omega) hlf (by omega) hne (by rw [hg, h1]; rfl) hsd (e := e) (st := st)
          exact ⟨fun u h => st (i1 u h), fun h => st (i2 h)⟩
        · rw [if_neg h1]
          exact ⟨fun u h => (by cases h), fun _ => spec_trAt_L0a_x2 _ _ _ (by rw [bs_size]; omega) hlf (by omega) hne (by rw [hg]; intro e; exact h1 ((byte_eq _ 49).1 e))⟩

/-! ### A tree in the place of a leaf, by the program -/

theorem grownG_SC (x : Tr) (m : Nat) : ∀ (t : Tr) (n : Nat), n + t.c ≤ 2 ^ 30 → SC cfg.P i_impl_node_grown [.s (.v .tree t), .s (.v (.int .i64) (n : Int)), .fn i_impl_node_graft_k1 [] [.fadr (.int .i64) (m : Int), .fadr .tree x]] (.s (.v .tree (if n ≤ m ∧ m ≤ n + t.c then grf t (m - n) x else t))) []
  | .leaf, n, _ => by
    by_cases h : n = m
    · rw [if_pos ⟨by omega, by simp only [Tr.c]; omega⟩]
      exact impl_node_grownC_p1 _ _ _ _ _ (impl_node_graft_k1_p1 _ _ _ (by omega))
    · rw [if_neg (by simp only [Tr.c]; omega)]
      exact impl_node_grownC_p1 _ _ _ _ _ (impl_node_graft_k1_p2 _ _ _ (by omega))
  | .node a b, n, h => by
    simp only [Tr.c] at h
    have hl := leaves_SC a (by omega)
    have ea : IntKind.wrap .i64 ((n : Int) + ((a.c + 1 : Nat) : Int)) = ((n + (a.c + 1) : Nat) : Int) := by rw [w64] <;> omega
    have h1 := grownG_SC x m a n (by omega)
    have h2 := grownG_SC x m b (n + (a.c + 1)) (by omega)
    rw [← ea] at h2
    have h3 := impl_node_grownC_p2 _ _ _ _ _ _ _ _ _ h1 hl h2
    have e : (if n ≤ m ∧ m ≤ n + (Tr.node a b).c then grf (.node a b) (m - n) x else .node a b) = .node (if n ≤ m ∧ m ≤ n + a.c then grf a (m - n) x else a) (if n + (a.c + 1) ≤ m ∧ m ≤ n + (a.c + 1) + b.c then grf b (m - (n + (a.c + 1))) x else b) := by
      have hc : (Tr.node a b).c = a.c + b.c + 1 := by simp only [Tr.c]; omega
      by_cases g1 : n ≤ m ∧ m ≤ n + a.c
      · have p1 : n ≤ m ∧ m ≤ n + (Tr.node a b).c := ⟨g1.1, by omega⟩
        have p2 : ¬ (n + (a.c + 1) ≤ m ∧ m ≤ n + (a.c + 1) + b.c) := by omega
        rw [if_pos p1, if_pos g1, if_neg p2, grf, if_pos (by omega)]
      · rw [if_neg g1]
        by_cases g2 : n + (a.c + 1) ≤ m ∧ m ≤ n + (a.c + 1) + b.c
        · have p1 : n ≤ m ∧ m ≤ n + (Tr.node a b).c := by omega
          rw [if_pos p1, if_pos g2, grf, if_neg (by omega), show m - n - (a.c + 1) = m - (n + (a.c + 1)) by omega]
        · have p1 : ¬ (n ≤ m ∧ m ≤ n + (Tr.node a b).c) := by omega
          rw [if_neg p1, if_neg g2]
    rw [e]
    exact h3

theorem graftN_SC (t : Tr) (m : Nat) (x : Tr) (h : t.c ≤ 2 ^ 20) (hm : m ≤ t.c) : SC cfg.P i_impl_node_graft [.s (.v .tree t), .s (.v (.int .i64) (m : Int)), .s (.v .tree x)] (.s (.v .tree (grf t m x))) [] := by
  have g := grownG_SC x m t 0 (by omega)
  rw [if_pos ⟨Nat.zero_le _, by omega⟩, Nat.sub_zero] at g
  exact impl_node_graft_p1 _ _ _ _ g

/-! ### Trees -/

theorem com_part_l : ∀ t u : Tr, partB (comT t u) t = true
  | .leaf, _ => rfl
  | .node _ _, .leaf => rfl
  | .node a b, .node c d => by simp only [comT, partB, com_part_l a c, com_part_l b d]; rfl

theorem com_part_r : ∀ t u : Tr, partB (comT t u) u = true
  | .leaf, _ => rfl
  | .node _ _, .leaf => rfl
  | .node a b, .node c d => by simp only [comT, partB, com_part_r a c, com_part_r b d]; rfl

theorem com_eq : ∀ t u : Tr, comT t u = t ↔ partB t u = true
  | .leaf, u => by simp [comT, partB]
  | .node a b, .leaf => by simp [comT, partB]
  | .node a b, .node c d => by
    simp only [comT, partB, Bool.and_eq_true]
    rw [← com_eq a c, ← com_eq b d]
    constructor
    · intro h; injection h with h1 h2; exact ⟨h1, h2⟩
    · rintro ⟨h1, h2⟩; rw [h1, h2]

theorem joi_comm : ∀ t u : Tr, joiT t u = joiT u t
  | .leaf, .leaf => rfl
  | .leaf, .node _ _ => rfl
  | .node _ _, .leaf => rfl
  | .node a b, .node c d => by simp only [joiT, joi_comm a c, joi_comm b d]

theorem joi_com_c : ∀ t u : Tr, t.c + u.c = (joiT t u).c + (comT t u).c
  | .leaf, u => by simp [joiT, comT, Tr.c]
  | .node a b, .leaf => by simp [joiT, comT, Tr.c]
  | .node a b, .node c d => by
    have h1 := joi_com_c a c
    have h2 := joi_com_c b d
    simp only [joiT, comT, Tr.c]
    omega

theorem com_c_le (t u : Tr) : (comT t u).c ≤ t.c := comT_c t u

/-- A tree in the place of a leaf is found at the leaf's address. -/
theorem at_app : ∀ (t : Tr) (p q : List UInt8) (u : Tr), atF t p = some u → atF t (p ++ q) = atF u q
  | t, [], q, u, h => by rw [atF_nil] at h; cases h; rfl
  | .leaf, _ :: _, q, u, h => by cases h
  | .node a b, c :: cs, q, u, h => by
    rw [atF] at h
    rw [List.cons_append, atF]
    split
    · rename_i e; rw [if_pos e] at h; exact at_app a cs q u h
    · rename_i e
      rw [if_neg e] at h
      split
      · rename_i e2; rw [if_pos e2] at h; exact at_app b cs q u h
      · rename_i e2; rw [if_neg e2] at h; cases h

/-- The address of a leaf, from the root on. -/
def adr : Tr → Nat → List UInt8
  | .leaf, _ => []
  | .node l r, k => if k ≤ l.c then 48 :: adr l k else 49 :: adr r (k - (l.c + 1))

theorem adL_get : ∀ (t : Tr) (p : List UInt8) (k : Nat), k ≤ t.c → (adL t p).getD k [] = p ++ adr t k
  | .leaf, p, k, h => by
    simp only [Tr.c] at h
    have e : k = 0 := by omega
    subst e
    simp [adL, adr]
  | .node l r, p, k, h => by
    simp only [Tr.c] at h
    have hl := adL_len l (p ++ [48])
    rw [adr]
    simp only [adL]
    split
    · rename_i h1
      rw [List.getD_eq_getElem?_getD, List.getElem?_append_left (by omega), ← List.getD_eq_getElem?_getD, adL_get l (p ++ [48]) k h1]
      simp
    · rw [List.getD_eq_getElem?_getD, List.getElem?_append_right (by omega), ← List.getD_eq_getElem?_getD, hl, adL_get r (p ++ [49]) (k - (l.c + 1)) (by omega)]
      simp

theorem at_grf : ∀ (t : Tr) (k : Nat) (u : Tr), k ≤ t.c → atF (grf t k u) (adr t k) = some u
  | .leaf, k, u, h => by rw [grf, adr, atF_nil]
  | .node l r, k, u, h => by
    simp only [Tr.c] at h
    rw [grf, adr]
    split
    · rename_i h1
      rw [atF, if_pos rfl]; exact at_grf l k u h1
    · rw [atF, if_neg (by decide), if_pos rfl]; exact at_grf r (k - (l.c + 1)) u (by omega)

end Go.AI
