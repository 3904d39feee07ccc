/- A part of the road: what it proves stands in its last texts. -/
import Derived.Test.YtnhjfdkogbelaaaAiG
import Derived.Test.YtnhjfdkogbelaaaCT
import Derived.Test.YtnhjfdkogbelaaaJE
import Derived.Test.YtnhjfdkogbelaaaGZ
import Derived.Test.YtnhjfdkogbelaaaJA
section
/- Loops that count up, once for all. -/
set_option autoImplicit false
set_option linter.unusedVariables false
namespace Go.AI

/-- What m rounds from number i on make of a. -/
def itr {α : Type} (f : Nat → α → α) : Nat → Nat → α → α
  | _, 0, a => a
  | i, m + 1, a => itr f (i + 1) m (f i a)

theorem loop_up {α : Type} {P : Program} {np : Nat} {c : Code} (s : Nat → α → St) (X : α → St) (f : Nat → α → α) (I : Nat → α → Prop) (n : Nat)
    (hstep : ∀ i a, i < n → I i a → I (i + 1) (f i a) ∧ ∀ e st, LoopSC P np c (s (i + 1) (f i a)) e st → LoopSC P np c (s i a) e st)
    (hexit : ∀ a, I n a → LoopSC P np c (s n a) (.exit 0) (X a)) :
    ∀ (m i : Nat) (a : α), i + m = n → I i a → LoopSC P np c (s i a) (.exit 0) (X (itr f i m a)) ∧ I n (itr f i m a)
  | 0, i, a, h, hI => by
    have e : i = n := by omega
    subst e
    exact ⟨hexit a hI, hI⟩
  | m + 1, i, a, h, hI => by
    obtain ⟨h1, h2⟩ := hstep i a (by omega) hI
    obtain ⟨h3, h4⟩ := loop_up s X f I n hstep hexit m (i + 1) (f i a) (by omega) h1
    exact ⟨h2 _ _ h3, h4⟩

/-- A loop that adds one element a round. -/
theorem itr_map {β : Type} (g : Nat → β) : ∀ (m i : Nat) (cur : List β), itr (fun i cur => cur ++ [g i]) i m cur = cur ++ (List.range' i m).map g
  | 0, i, cur => by simp [itr]
  | m + 1, i, cur => by
    rw [itr, itr_map g m (i + 1), List.range'_succ, List.map_cons, List.append_assoc, List.singleton_append]

theorem itr_filter {β : Type} (p : Nat → Bool) (g : Nat → β) : ∀ (m i : Nat) (cur : List β), itr (fun i cur => if p i = true then cur ++ [g i] else cur) i m cur = cur ++ ((List.range' i m).filter p).map g
  | 0, i, cur => by simp [itr]
  | m + 1, i, cur => by
    rw [itr, itr_filter p g m (i + 1), List.range'_succ, List.filter_cons]
    by_cases h : p i = true
    · rw [if_pos h, if_pos h, List.map_cons, List.append_assoc, List.singleton_append]
    · rw [if_neg h, if_neg h]

theorem map_range' {α β : Type} (l : List α) (d : α) (g : α → β) : (List.range' 0 l.length).map (fun i => g (l.getD i d)) = l.map g := by
  apply List.ext_getElem?
  intro i
  rw [List.getElem?_map, List.getElem?_map]
  by_cases h : i < l.length
  · rw [List.getElem?_range' (by simpa using h), List.getElem?_eq_getElem h]
    simp [List.getD_eq_getElem?_getD, List.getElem?_eq_getElem h]
  · rw [List.getElem?_eq_none (by simp; omega), List.getElem?_eq_none (by omega)]
    rfl

/-- One more in i64. -/
theorem wrap_succ {i : Nat} (h : i < 2 ^ 62) : IntKind.wrap .i64 ((i : Int) + 1) = ((i + 1 : Nat) : Int) := by rw [w64] <;> omega

theorem sizeOK_one {α : Type} {l : List α} {x : α} (h : l.length ≤ 2 ^ 30) : sizeOK (List.length l + List.length [x]) := by
  unfold sizeOK lim; simp; omega

end Go.AI
end

section
/- Rows of the call's own, looked at only. -/
set_option autoImplicit false
set_option linter.unusedVariables false
namespace Go.AI

def viewS : SV → SV
  | .own e k l => .v (.sl k) l
  | x => x

theorem ResS.view {w w' : World} {B : Nat → Prop} {os o1 : List Nat} {x : SV} {u : Value} (h : ResS w' (After w B os) w.heap.size x u o1) (hs : ∀ b ∈ o1, w.heap.size ≤ b) : ResS w' (After w B []) w.heap.size (viewS x) u [] := by
  have hA : ∀ b, After w B os b → After w B [] b := fun b hb => ⟨hb.1, by simp⟩
  have K : Keeps w' w' (After w B os) (After w B []) := Keeps.of_sub hA
  cases x <;> try exact ⟨SVRep.keep K h.1, rfl⟩
  rename_i e k l
  exact ⟨OwnRow.view h.1 hA fun b hb => ⟨.inr (hs b (by rw [h.2, hb]; simp)), by simp⟩, rfl⟩

theorem ResL.view {w w' : World} {B : Nat → Prop} {os : List Nat} : ∀ {xs : List SV} {vs : List Value} {o1 : List Nat}, ResL w' (After w B os) w.heap.size xs vs o1 → (∀ b ∈ o1, w.heap.size ≤ b) → ResL w' (After w B []) w.heap.size (xs.map viewS) vs []
  | [], _, _, ⟨h1, h2⟩, _ => ⟨h1, rfl⟩
  | x :: xs, _, _, ⟨u, us, o1, o2, e1, e2, h1, h2⟩, hs => by
    subst e2
    exact ⟨u, us, [], [], e1, rfl, h1.view fun b hb => hs b (List.mem_append_left _ hb), h2.view fun b hb => hs b (List.mem_append_right _ hb)⟩

end Go.AI
end

section
/- Rows and loops, once for all. -/
set_option autoImplicit false
set_option maxRecDepth 100000
set_option linter.unusedVariables false
namespace Go.AI
open Go.Proofs

theorem gD_map {α β : Type} (f : α → β) (l : List α) (i : Nat) (h : i < l.length) (a : α) (d : β) : List.getD (l.map f) i d = f (l.getD i a) := by
  simp [List.getD_eq_getElem?_getD, List.getElem?_map, List.getElem?_eq_getElem h]

theorem gD_mem {α : Type} {l : List α} {i : Nat} (h : i < l.length) (d : α) : l.getD i d ∈ l := by
  rw [List.getD_eq_getElem?_getD, List.getElem?_eq_getElem h]; exact List.getElem_mem h

/-- Texts as they come in. -/
abbrev txs (l : List (List UInt8)) : List ByteArray := l.map bs

end Go.AI
end

section
/- Contracts: joined trees. -/
set_option autoImplicit false
set_option maxRecDepth 100000
set_option linter.unusedVariables false
namespace Go.AI
open Go.Proofs

def joiT : Tr → Tr → Tr
  | .leaf, u => u
  | .node a b, .leaf => .node a b
  | .node a b, .node c d => .node (joiT a c) (joiT b d)

theorem joiT_c : ∀ t u : Tr, (joiT t u).c ≤ t.c + u.c
  | .leaf, _ => by simp [joiT]
  | .node _ _, .leaf => by simp [joiT]
  | .node a b, .node c d => by have := joiT_c a c; have := joiT_c b d; simp only [joiT, Tr.c]; omega

theorem join_SC : ∀ t u : Tr, SC cfg.P i_impl_join [.s (.v .tree t), .s (.v .tree u)] (.s (.v .tree (joiT t u))) []
  | .leaf, u => impl_join_p1 u
  | .node a b, .leaf => impl_join_p2 a b
  | .node a b, .node c d => impl_join_p3 _ _ _ _ _ _ (join_SC a c) (join_SC b d)

theorem trOf_SC (t u : Tr) (ht : t.c ≤ 2 ^ 30) (hu : u.c ≤ 2 ^ 30) : SC cfg.P i_spec_trOf [.s (.v .str (bs (txt t))), .s (.v .str (bs (txt u)))] (.s (.v .str (bs (txt (.node t u))))) [] := by
  have h1 := txt_len t
  have h2 := txt_len u
  have s0 : ((⟨#[40]⟩ : ByteArray)).size = 1 := rfl
  have s1 : ((⟨#[41]⟩ : ByteArray)).size = 1 := rfl
  have e1 : (⟨#[40]⟩ : ByteArray) ++ bs (txt t) = bs (40 :: txt t) := by show bs [40] ++ _ = _; rw [bs_append]; rfl
  have e2 : (⟨#[40]⟩ : ByteArray) ++ bs (txt t) ++ bs (txt u) = bs (40 :: txt t ++ txt u) := by rw [e1, bs_append]
  have e3 : (⟨#[40]⟩ : ByteArray) ++ bs (txt t) ++ bs (txt u) ++ (⟨#[41]⟩ : ByteArray) = bs (txt (.node t u)) := by
    rw [e2]; show _ ++ bs [41] = _; rw [bs_append]; simp [txt]
  have := spec_trOf_p1 (bs (txt t)) (bs (txt u)) (by rw [s0, bs_size]; omega) (by rw [e1, bs_size, bs_size]; simp; omega) (by rw [e2, bs_size, s1]; simp; omega)
  rw [e3] at this
  exact this

theorem trJoin_SC : ∀ t u : Tr, t.c ≤ 50 → u.c ≤ 50 → SC cfg.P i_spec_trJoin [.s (.v .str (bs (txt t))), .s (.v .str (bs (txt u)))] (.s (.v .str (bs (txt (joiT t u))))) []
  | .leaf, u, _, _ => spec_trJoin_p1 _ _ trLeaf_leaf
  | .node a b, .leaf, _, _ => spec_trJoin_p2 _ _ (trLeaf_node a b) trLeaf_leaf
  | .node a b, .node c d, h1, h2 => by
    have h1' := h1
    have h2' := h2
    simp only [Tr.c] at h1 h2
    have c1 := joiT_c a c
    have c2 := joiT_c b d
    exact spec_trJoin_p3 _ _ _ _ _ _ _ _ _ (trLeaf_node a b) (trLeaf_node c d) (trSides_SC a b h1') (trSides_SC c d h2') (trJoin_SC a c (by omega) (by omega)) (trJoin_SC b d (by omega) (by omega)) (trOf_SC _ _ (by omega) (by omega))

theorem getD_leaf_c {ts : List Tr} {b : Nat} (h : ∀ t ∈ ts, t.c ≤ b) (i : Nat) : (ts.getD i .leaf).c ≤ b := by
  by_cases hi : i < ts.length
  · exact h _ (gD_mem hi .leaf)
  · rw [List.getD_eq_getElem?_getD, List.getElem?_eq_none (by omega)]
    simp [Tr.c]

end Go.AI
end

section
/- Contracts: trees in place of leaves. -/
set_option autoImplicit false
set_option maxRecDepth 100000
set_option linter.unusedVariables false
namespace Go.AI
open Go.Proofs

/-- A tree with those of a forest in place of its leaves. -/
def growT (us : List Tr) : Tr → Nat → Tr
  | .leaf, n => us.getD n .leaf
  | .node a b, n => .node (growT us a n) (growT us b (n + (a.c + 1)))

/-- A text with others in place of its points. -/
def subS (us : List Tr) : List UInt8 → Nat → List UInt8
  | [], _ => []
  | c :: r, n => if c = 46 then txt (us.getD n .leaf) ++ subS us r (n + 1) else c :: subS us r n

theorem subS_txt (us : List Tr) : ∀ (t : Tr) (q : List UInt8) (n : Nat), subS us (txt t ++ q) n = txt (growT us t n) ++ subS us q (n + (t.c + 1))
  | .leaf, q, n => by simp [txt, subS, growT, Tr.c]
  | .node a b, q, n => by
    have h1 := subS_txt us a (txt b ++ (41 :: q)) n
    have h2 := subS_txt us b (41 :: q) (n + (a.c + 1))
    have e : txt (.node a b) ++ q = 40 :: (txt a ++ (txt b ++ (41 :: q))) := by simp [txt]
    rw [e, subS, if_neg (by decide), h1, h2, subS, if_neg (by decide)]
    have e2 : n + (a.c + 1) + (b.c + 1) = n + ((Tr.node a b).c + 1) := by simp only [Tr.c]; omega
    rw [e2]
    simp [txt, growT]

theorem txt_dots' : ∀ t : Tr, (txt t).count 46 = t.c + 1
  | .leaf => rfl
  | .node l r => by
    simp only [txt, List.count_cons, List.count_append, txt_dots' l, txt_dots' r, Tr.c]
    simp
    omega

end Go.AI
end

section
/- Contracts: what hangs at the leaves of a part. -/
set_option autoImplicit false
set_option maxRecDepth 100000
set_option linter.unusedVariables false
namespace Go.AI
open Go.Proofs

def partB : Tr → Tr → Bool
  | .leaf, _ => true
  | .node _ _, .leaf => false
  | .node a b, .node c d => partB a c && partB b d

/-- What stands at an address. -/
def atR : Tr → List UInt8 → Tr
  | t, [] => t
  | .leaf, _ :: _ => .leaf
  | .node l r, c :: s => if c = 48 then atR l s else if c = 49 then atR r s else .leaf

theorem at_L (l : List UInt8) (hl : l.length ≤ 2 ^ 30) : ∀ (m i : Nat) (t : Tr), l.length - i = m → i ≤ l.length →
    (∃ b, LoopSC cfg.P 2 (lb P_impl_node_at 0) (impl_node_at_L0a t (bs l) ((bs l).size : Int) (i : Int)) .ret (impl_node_at_L0X1 (atR t (l.drop i)) b)) ∨
    LoopSC cfg.P 2 (lb P_impl_node_at 0) (impl_node_at_L0a t (bs l) ((bs l).size : Int) (i : Int)) (.exit 0) (impl_node_at_L0X2 (atR t (l.drop i)) (bs l) ((bs l).size : Int) (l.length : Int) false) := by
  intro m
  induction m with
  | zero =>
    intro i t hm hi
    have e : i = l.length := by omega
    subst e
    rw [List.drop_length]
    have : atR t [] = t := by cases t <;> rfl
    rw [this]
    exact .inr (impl_node_at_L0a_x5 _ _ _ _ (by rw [bs_size]; omega))
  | succ m ih =>
    intro i t hm hi
    have hi1 : i < l.length := by omega
    have hd : l.drop i = l[i] :: l.drop (i + 1) := List.drop_eq_getElem_cons hi1
    have hg : bt (bs l) (i : Int) = (l[i].toNat : Int) := by rw [bs_bt, Int.toNat_natCast, List.getD_eq_getElem?_getD, List.getElem?_eq_getElem hi1]; rfl
    have ew := wrap_succ (i := i) (by omega)
    rw [hd]
    cases t with
    | leaf => exact .inl ⟨false, impl_node_at_L0a_x1 _ _ _ (by rw [bs_size]; omega)⟩
    | node a b =>
      rw [atR]
      by_cases h0 : l[i] = 48
      · rw [if_pos h0]
        rcases ih (i + 1) a (by omega) (by omega) with ⟨b', hn⟩ | hn
        · rw [← ew] at hn
          exact .inl ⟨b', impl_node_at_L0a_i2 _ _ _ _ _ (by rw [bs_size]; omega) (by omega) (by rw [bs_size]; omega) (by rw [hg, h0]; rfl) hn⟩
        · rw [← ew] at hn
          exact .inr (impl_node_at_L0a_i2 _ _ _ _ _ (by rw [bs_size]; omega) (by omega) (by rw [bs_size]; omega) (by rw [hg, h0]; rfl) hn)
      · rw [if_neg h0]
        have hne : bt (bs l) (i : Int) ≠ 48 := by rw [hg]; intro e; exact h0 ((byte_eq _ 48).1 e)
        by_cases h1 : l[i] = 49
        · rw [if_pos h1]
          rcases ih (i + 1) b (by omega) (by omega) with ⟨b', hn⟩ | hn
          · rw [← ew] at hn
            exact .inl ⟨b', impl_node_at_L0a_i3 _ _ _ _ _ (by rw [bs_size]; omega) (by omega) (by rw [bs_size]; omega) hne (by rw [hg, h1]; rfl) hn⟩
          · rw [← ew] at hn
            exact .inr (impl_node_at_L0a_i3 _ _ _ _ _ (by rw [bs_size]; omega) (by omega) (by rw [bs_size]; omega) hne (by rw [hg, h1]; rfl) hn)
        · rw [if_neg h1]
          exact .inl ⟨false, impl_node_at_L0a_x4 _ _ _ _ _ (by rw [bs_size]; omega) (by omega) (by rw [bs_size]; omega) hne (by rw [hg]; intro e; exact h1 ((byte_eq _ 49).1 e))⟩

theorem at_SC (t : Tr) (l : List UInt8) (hl : l.length ≤ 2 ^ 30) : ∃ b, SC cfg.P i_impl_node_at [.s (.v .tree t), .s (.v .str (bs l))] (.tup [.v .tree (atR t l), .v .bool b]) [] := by
  rcases at_L l hl _ 0 t rfl (by omega) with ⟨b, h⟩ | h
  · rw [List.drop_zero] at h
    exact ⟨b, impl_node_at_p1 _ _ _ _ h⟩
  · rw [List.drop_zero] at h
    exact ⟨true, impl_node_at_p2 _ _ _ _ _ _ _ h⟩

/-- What hangs at the leaves of a part. -/
def partsT : Tr → Tr → List Tr
  | .leaf, u => [u]
  | .node a b, .node c d => partsT a c ++ partsT b d
  | .node _ _, .leaf => []

theorem partsT_len : ∀ t u : Tr, partB t u = true → (partsT t u).length = t.c + 1
  | .leaf, u, _ => rfl
  | .node a b, .leaf, h => by simp [partB] at h
  | .node a b, .node c d, h => by
    simp only [partB, Bool.and_eq_true] at h
    simp only [partsT, List.length_append, partsT_len a c h.1, partsT_len b d h.2, Tr.c]
    omega

theorem partsT_c : ∀ t u : Tr, ∀ x ∈ partsT t u, x.c ≤ u.c
  | .leaf, u, x, h => by simp [partsT] at h; rw [h]; exact Nat.le_refl _
  | .node a b, .leaf, x, h => by simp [partsT] at h
  | .node a b, .node c d, x, h => by
    simp only [partsT] at h
    simp only [Tr.c]
    rcases List.mem_append.1 h with h | h
    · have := partsT_c a c x h; omega
    · have := partsT_c b d x h; omega

theorem atR_snoc : ∀ (u : Tr) (p : List UInt8) (c d : Tr), atR u p = .node c d → atR u (p ++ [48]) = c ∧ atR u (p ++ [49]) = d
  | u, [], c, d, h => by
    have : atR u [] = u := by cases u <;> rfl
    rw [this] at h
    subst h
    have h1 : atR c [] = c := by cases c <;> rfl
    have h2 : atR d [] = d := by cases d <;> rfl
    simp [atR, h1, h2]
  | .leaf, x :: p, c, d, h => by simp [atR] at h
  | .node a b, x :: p, c, d, h => by
    rw [List.cons_append, List.cons_append, atR, atR]
    rw [atR] at h
    by_cases h0 : x = 48
    · rw [if_pos h0] at h; rw [if_pos h0, if_pos h0]; exact atR_snoc a p c d h
    · rw [if_neg h0] at h; rw [if_neg h0, if_neg h0]
      by_cases h1 : x = 49
      · rw [if_pos h1] at h; rw [if_pos h1, if_pos h1]; exact atR_snoc b p c d h
      · rw [if_neg h1] at h; cases h

theorem at_parts : ∀ (t u w : Tr) (p : List UInt8), partB t u = true → atR w p = u → (adL t p).map (atR w) = partsT t u
  | .leaf, u, w, p, _, h => by simp [adL, partsT, h]
  | .node a b, .leaf, w, p, h, _ => by simp [partB] at h
  | .node a b, .node c d, w, p, h, hw => by
    simp only [partB, Bool.and_eq_true] at h
    obtain ⟨h1, h2⟩ := atR_snoc w p c d hw
    simp only [adL, List.map_append, partsT, at_parts a c w _ h.1 h1, at_parts b d w _ h.2 h2]

theorem prParts_SC : ∀ t u : Tr, t.c ≤ 50 → u.c ≤ 50 → partB t u = true → SC cfg.P i_spec_prParts [.s (.v .str (bs (txt t))), .s (.v .str (bs (txt u)))] (.s (.own t_string .str (txs ((partsT t u).map txt)))) []
  | .leaf, u, _, _, _ => spec_prParts_p1 _ _ trLeaf_leaf
  | .node a b, .leaf, _, _, h => by simp [partB] at h
  | .node a b, .node c d, h1, h2, h => by
    have h1' := h1
    have h2' := h2
    simp only [Tr.c] at h1 h2
    simp only [partB, Bool.and_eq_true] at h
    have l1 := partsT_len a c h.1
    have l2 := partsT_len b d h.2
    have e : txs ((partsT (.node a b) (.node c d)).map txt) = txs ((partsT a c).map txt) ++ txs ((partsT b d).map txt) := by simp [partsT]
    rw [e]
    exact spec_prParts_p2 _ _ _ _ _ _ _ _ (trLeaf_node a b) (trSides_SC a b h1') (trSides_SC c d h2') (prParts_SC a c (by omega) (by omega) h.1) (prParts_SC b d (by omega) (by omega) h.2) (by unfold sizeOK lim; simp; omega)

end Go.AI
end
