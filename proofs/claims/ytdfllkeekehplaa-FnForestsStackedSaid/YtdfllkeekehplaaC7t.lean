/- Contracts: what hangs at the leaves of a part. -/
import Derived.Test.YtdfllkeekehplaaCJt
import Derived.Test.YtdfllkeekehplaaCFa
import Derived.Test.YtdfllkeekehplaaCPg
set_option autoImplicit false
set_option maxRecDepth 100000
set_option linter.unusedVariables false
namespace Go.AI
open Go.Proofs

def partB : Tr → Tr → Bool
  | .leaf, _ => true
  | .node _ _, .leaf => false
  | .node a b, .node c d => partB a c && partB b d

theorem joiT_eq : ∀ t u : Tr, joiT t u = u ↔ partB t u = true
  | .leaf, u => by simp [joiT, partB]
  | .node a b, .leaf => by simp [joiT, partB]
  | .node a b, .node c d => by
    have h1 := joiT_eq a c
    have h2 := joiT_eq b d
    simp only [joiT, partB, Tr.node.injEq, h1, h2, Bool.and_eq_true]

/-- What stands at an address. -/
def atR : Tr → List UInt8 → Tr
  | t, [] => t
  | .leaf, _ :: _ => .leaf
  | .node l r, c :: s => if c = 48 then atR l s else if c = 49 then atR r s else .leaf

theorem at_L (l : List UInt8) (hl : l.length ≤ 2 ^ 30) : ∀ (m i : Nat) (t : Tr), l.length - i = m → i ≤ l.length →
    (∃ b, LoopSC cfg.P 2 (lb P_impl_node_at 0) (impl_node_at_L0a t (bs l) ((bs l).size : Int) (i : Int)) .ret (impl_node_at_L0X1 (atR t (l.drop i)) b)) ∨
    LoopSC cfg.P 2 (lb P_impl_node_at 0) (impl_node_at_L0a t (bs l) ((bs l).size : Int) (i : Int)) (.exit 0) (impl_node_at_L0X2 (atR t (l.drop i)) (bs l) ((bs l).size : Int) (l.length : Int) false) := by
  intro m
  induction m with
  | zero =>
    intro i t hm hi
    have e : i = l.length := by omega
    subst e
    rw [List.drop_length]
    have : atR t [] = t := by cases t <;> rfl
    rw [this]
    exact .inr (impl_node_at_L0a_x5 _ _ _ _ (by rw [bs_size]; omega))
  | succ m ih =>
    intro i t hm hi
    have hi1 : i < l.length := by omega
    have hd : l.drop i = l[i] :: l.drop (i + 1) := List.drop_eq_getElem_cons hi1
    have hg : bt (bs l) (i : Int) = (l[i].toNat : Int) := by rw [bs_bt, Int.toNat_natCast, List.getD_eq_getElem?_getD, List.getElem?_eq_getElem hi1]; rfl
    have ew := wrap_succ (i := i) (by omega)
    rw [hd]
    cases t with
    | leaf => exact .inl ⟨false, impl_node_at_L0a_x1 _ _ _ (by rw [bs_size]; omega)⟩
    | node a b =>
      rw [atR]
      by_cases h0 : l[i] = 48
      · rw [if_pos h0]
        rcases ih (i + 1) a (by omega) (by omega) with ⟨b', hn⟩ | hn
        · rw [← ew] at hn
          exact .inl ⟨b', impl_node_at_L0a_i2 _ _ _ _ _ (by rw [bs_size]; omega) (by omega) (by rw [bs_size]; omega) (by rw [hg, h0]; rfl) hn⟩
        · rw [← ew] at hn
          exact .inr (impl_node_at_L0a_i2 _ _ _ _ _ (by rw [bs_size]; omega) (by omega) (by rw [bs_size]; omega) (by rw [hg, h0]; rfl) hn)
      · rw [if_neg h0]
        have hne : bt (bs l) (i : Int) ≠ 48 := by rw [hg]; intro e; exact h0 ((byte_eq _ 48).1 e)
        by_cases h1 : l[i] = 49
        · rw [if_pos h1]
          rcases ih (i + 1) b (by omega) (by omega) with ⟨b', hn⟩ | hn
          · rw [← ew] at hn
            exact .inl ⟨b', impl_node_at_L0a_i3 _ _ _ _ _ (by rw [bs_size]; omega) (by omega) (by rw [bs_size]; omega) hne (by rw [hg, h1]; rfl) hn⟩
          · rw [← ew] at hn
            exact .inr (impl_node_at_L0a_i3 _ _ _ _ _ (by rw [bs_size]; omega) (by omega) (by rw [bs_size]; omega) hne (by rw [hg, h1]; rfl) hn)
        · rw [if_neg h1]
          exact .inl ⟨false, impl_node_at_L0a_x4 _ _ _ _ _ (by rw [bs_size]; omega) (by omega) (by rw [bs_size]; omega) hne (by rw [hg]; intro e; exact h1 ((byte_eq _ 49).1 e))⟩

theorem at_SC (t : Tr) (l : List UInt8) (hl : l.length ≤ 2 ^ 30) : ∃ b, SC cfg.P i_impl_node_at [.s (.v .tree t), .s (.v .str (bs l))] (.tup [.v .tree (atR t l), .v .bool b]) [] := by
  rcases at_L l hl _ 0 t rfl (by omega) with ⟨b, h⟩ | h
  · rw [List.drop_zero] at h
    exact ⟨b, impl_node_at_p1 _ _ _ _ h⟩
  · rw [List.drop_zero] at h
    exact ⟨true, impl_node_at_p2 _ _ _ _ _ _ _ h⟩

/-- What hangs at the leaves of a part. -/
def partsT : Tr → Tr → List Tr
  | .leaf, u => [u]
  | .node a b, .node c d => partsT a c ++ partsT b d
  | .node _ _, .leaf => []

theorem partsT_len : ∀ t u : Tr, partB t u = true → (partsT t u).length = t.c + 1
  | .leaf, u, _ => rfl
  | .node a b, .leaf, h => by simp [partB] at h
  | .node a b, .node c d, h => by
    simp only [partB, Bool.and_eq_true] at h
    simp only [partsT, List.length_append, partsT_len a c h.1, partsT_len b d h.2, Tr.c]
    omega

theorem partsT_c : ∀ t u : Tr, ∀ x ∈ partsT t u, x.c ≤ u.c
  | .leaf, u, x, h => by simp [partsT] at h; rw [h]; exact Nat.le_refl _
  | .node a b, .leaf, x, h => by simp [partsT] at h
  | .node a b, .node c d, x, h => by
    simp only [partsT] at h
    simp only [Tr.c]
    rcases List.mem_append.1 h with h | h
    · have := partsT_c a c x h; omega
    · have := partsT_c b d x h; omega

theorem atR_snoc : ∀ (u : Tr) (p : List UInt8) (c d : Tr), atR u p = .node c d → atR u (p ++ [48]) = c ∧ atR u (p ++ [49]) = d
  | u, [], c, d, h => by
    have : atR u [] = u := by cases u <;> rfl
    rw [this] at h
    subst h
    have h1 : atR c [] = c := by cases c <;> rfl
    have h2 : atR d [] = d := by cases d <;> rfl
    simp [atR, h1, h2]
  | .leaf, x :: p, c, d, h => by simp [atR] at h
  | .node a b, x :: p, c, d, h => by
    rw [List.cons_append, List.cons_append, atR, atR]
    rw [atR] at h
    by_cases h0 : x = 48
    · rw [if_pos h0] at h; rw [if_pos h0, if_pos h0]; exact atR_snoc a p c d h
    · rw [if_neg h0] at h; rw [if_neg h0, if_neg h0]
      by_cases h1 : x = 49
      · rw [if_pos h1] at h; rw [if_pos h1, if_pos h1]; exact atR_snoc b p c d h
      · rw [if_neg h1] at h; cases h

theorem at_parts : ∀ (t u w : Tr) (p : List UInt8), partB t u = true → atR w p = u → (adL t p).map (atR w) = partsT t u
  | .leaf, u, w, p, _, h => by simp [adL, partsT, h]
  | .node a b, .leaf, w, p, h, _ => by simp [partB] at h
  | .node a b, .node c d, w, p, h, hw => by
    simp only [partB, Bool.and_eq_true] at h
    obtain ⟨h1, h2⟩ := atR_snoc w p c d hw
    simp only [adL, List.map_append, partsT, at_parts a c w _ h.1 h1, at_parts b d w _ h.2 h2]

theorem prParts_SC : ∀ t u : Tr, t.c ≤ 50 → u.c ≤ 50 → partB t u = true → SC cfg.P i_spec_prParts [.s (.v .str (bs (txt t))), .s (.v .str (bs (txt u)))] (.s (.own t_string .str (txs ((partsT t u).map txt)))) []
  | .leaf, u, _, _, _ => spec_prParts_p1 _ _ trLeaf_leaf
  | .node a b, .leaf, _, _, h => by simp [partB] at h
  | .node a b, .node c d, h1, h2, h => by
    have h1' := h1
    have h2' := h2
    simp only [Tr.c] at h1 h2
    simp only [partB, Bool.and_eq_true] at h
    have l1 := partsT_len a c h.1
    have l2 := partsT_len b d h.2
    have e : txs ((partsT (.node a b) (.node c d)).map txt) = txs ((partsT a c).map txt) ++ txs ((partsT b d).map txt) := by simp [partsT]
    rw [e]
    exact spec_prParts_p2 _ _ _ _ _ _ _ _ (trLeaf_node a b) (trSides_SC a b h1') (trSides_SC c d h2') (prParts_SC a c (by omega) (by omega) h.1) (prParts_SC b d (by omega) (by omega) h.2) (by unfold sizeOK lim; simp; omega)

end Go.AI
