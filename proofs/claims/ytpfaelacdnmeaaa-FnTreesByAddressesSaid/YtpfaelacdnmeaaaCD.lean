/- Contracts: pairs. -/
import Derived.Test.YtpfaelacdnmeaaaCX
set_option autoImplicit false
set_option maxRecDepth 100000
set_option linter.unusedVariables false
namespace Go.AI
open Go.Proofs

theorem txt_dots : ∀ t : Tr, (txt t).count 46 = t.c + 1
  | .leaf => rfl
  | .node l r => by
    simp only [txt, List.count_cons, List.count_append, txt_dots l, txt_dots r, Tr.c]
    simp
    omega

theorem split_ex : ∀ (t : Tr) (n : Nat), n ∈ exL t 0 → ∃ u v : List UInt8, txt t = u ++ [40, 46, 46, 41] ++ v ∧ u.count 46 = n ∧ txt (wo t n) = u ++ [46] ++ v
  | .leaf, n, h => by simp [exL] at h
  | .node l r, n, h => by
    rw [exL_node] at h
    rw [wo_node]
    by_cases hb : l.isLeaf = true ∧ r.isLeaf = true
    · rw [if_pos hb] at h
      rw [if_pos hb]
      have hl : l = .leaf := by cases l <;> simp_all [Tr.isLeaf]
      have hr : r = .leaf := by cases r <;> simp_all [Tr.isLeaf]
      subst hl; subst hr
      simp at h
      subst h
      exact ⟨[], [], rfl, rfl, rfl⟩
    · rw [if_neg hb] at h
      rw [if_neg hb]
      rcases List.mem_append.1 h with h | h
      · have hr := exL_range _ _ _ h
        rw [if_neg (by omega)]
        obtain ⟨u, v, e1, e2, e3⟩ := split_ex l n h
        refine ⟨40 :: u, v ++ txt r ++ [41], ?_, ?_, ?_⟩
        · simp [txt, e1]
        · rw [List.count_cons_of_ne (by decide)]; exact e2
        · simp [txt, e3]
      · have hr := exL_range _ _ _ h
        rw [if_pos (by omega)]
        have hm : n - (l.c + 1) ∈ exL r 0 := by
          have e := exL_shift r 0 (0 + l.c + 1)
          rw [Nat.zero_add] at e
          rw [e] at h
          obtain ⟨y, hy, rfl⟩ := List.mem_map.1 h
          have e2 : y + (0 + l.c + 1) - (l.c + 1) = y := by omega
          rw [e2]
          exact hy
        obtain ⟨u, v, e1, e2, e3⟩ := split_ex r _ hm
        refine ⟨40 :: (txt l ++ u), v ++ [41], ?_, ?_, ?_⟩
        · simp [txt, e1]
        · rw [List.count_cons_of_ne (by decide), List.count_append, txt_dots, e2]; omega
        · simp [txt, e3]

theorem trDrop_SC (t : Tr) (n : Nat) (h : t.c ≤ 2 ^ 20) (hn : n ∈ exL t 0) : SC cfg.P i_spec_trDrop [.s (.v .str (bs (txt t))), .s (.v (.int .i64) (n : Int))] (.s (.v .str (bs (txt (wo t n))))) [] := by
  obtain ⟨u, v, e1, e2, e3⟩ := split_ex t n hn
  have hlen := txt_len t
  have hlen2 : (txt t).length = u.length + 4 + v.length := by rw [e1]; simp; omega
  have hnb := exL_range _ _ _ hn
  have key : ∀ (m i : Nat), u.length + 1 - i = m → i ≤ u.length + 1 →
      LoopSC cfg.P 2 (lb P_spec_trDrop 0) (spec_trDrop_L0a (bs (txt t)) (n : Int) ((((txt t).take i).count 46 : Nat) : Int) (i : Int)) .ret (spec_trDrop_L0X1 (bs (txt (wo t n)))) := by
    intro m
    induction m with
    | zero =>
      intro i hm hi
      have ei : i = u.length + 1 := by omega
      subst ei
      have ht : (txt t).take (u.length + 1) = u ++ [40] := by
        rw [e1, List.append_assoc, List.take_append]
        simp
        exact List.take_of_length_le (by omega)
      have hc : ((txt t).take (u.length + 1)).count 46 = n := by
        rw [ht, List.count_append, e2]; rfl
      rw [hc]
      have hg : bt (bs (txt t)) ((u.length + 1 : Nat) : Int) = 46 := by
        rw [bs_bt, Int.toNat_natCast, e1, List.append_assoc, List.getD_eq_getElem?_getD, List.getElem?_append_right (by omega)]
        have : u.length + 1 - u.length = 1 := by omega
        rw [this]
        rfl
      have w2 : IntKind.wrap .i64 (((u.length + 1 : Nat) : Int) - 1) = ((u.length : Nat) : Int) := by rw [w64] <;> omega
      have w3 : IntKind.wrap .i64 (((u.length + 1 : Nat) : Int) + 3) = ((u.length + 4 : Nat) : Int) := by rw [w64] <;> omega
      have x1 : ByteArray.extract (bs (txt t)) ((0 : Int)).toNat (((u.length : Nat) : Int)).toNat = bs u := by
        rw [bs_extract, Int.toNat_natCast, e1]
        simp
      have x2 : ByteArray.extract (bs (txt t)) (((u.length + 4 : Nat) : Int)).toNat (((bs (txt t)).size : Int)).toNat = bs v := by
        rw [bs_extract, Int.toNat_natCast, bs_size, Int.toNat_natCast, hlen2, e1]
        have hd : (u ++ [40, 46, 46, 41] ++ v).drop (u.length + 4) = v := by
          have : u.length + 4 = (u ++ [40, 46, 46, 41]).length := by simp
          rw [this, List.drop_left]
        rw [hd]
        congr 1
        apply List.take_of_length_le
        omega
      have hfin : bs (txt (wo t n)) = (bs u ++ (⟨#[46]⟩ : ByteArray)) ++ bs v := by
        show _ = (bs u ++ bs [46]) ++ bs v
        rw [bs_append, bs_append, e3]
      have s1 : ((⟨#[46]⟩ : ByteArray)).size = 1 := rfl
      have q1 : (bs u ++ (⟨#[46]⟩ : ByteArray)).size = u.length + 1 := by
        show (bs u ++ bs [46]).size = _
        rw [bs_append, bs_size]; simp
      have := spec_trDrop_L0a_x2 (bs (txt t)) (n : Int) (n : Int) ((u.length + 1 : Nat) : Int) (by rw [bs_size]; omega) (by omega) hg rfl (by rw [w2]; omega) (by rw [w2, bs_size]; omega) (by rw [w2, x1, s1, bs_size]; omega) (by rw [w3]; omega) (by rw [w3, bs_size]; omega) (by rw [w2, w3, x1, x2, q1, bs_size]; omega)
      rw [w2, w3, x1, x2, ← hfin] at this
      exact this
    | succ m ih =>
      intro i hm hi
      have hlt : i < (txt t).length := by omega
      have hn' := ih (i + 1) (by omega) (by omega)
      have ht : (txt t).take (i + 1) = (txt t).take i ++ [(txt t)[i]] := (List.take_append_getElem hlt).symm
      have hg : bt (bs (txt t)) (i : Int) = ((txt t)[i].toNat : Int) := by rw [bs_bt, Int.toNat_natCast, List.getD_eq_getElem?_getD, List.getElem?_eq_getElem hlt]; rfl
      have ew : IntKind.wrap .i64 ((i : Int) + 1) = ((i + 1 : Nat) : Int) := by rw [w64] <;> omega
      have hcb : ((txt t).take i).count 46 ≤ i := Nat.le_trans List.count_le_length (by simp; omega)
      by_cases h46 : (txt t)[i] = 46
      · have hcnt : ((txt t).take (i + 1)).count 46 = ((txt t).take i).count 46 + 1 := by
          rw [ht, List.count_append, h46]; rfl
        have hle : ((txt t).take (i + 1)).count 46 ≤ n := by
          have e5 : (txt t).take (i + 1) = ((txt t).take (u.length + 1)).take (i + 1) := by rw [List.take_take]; congr 1; omega
          have ht2 : (txt t).take (u.length + 1) = u ++ [40] := by
            rw [e1, List.append_assoc, List.take_append]
            simp
            exact List.take_of_length_le (by omega)
          have hc : ((txt t).take (u.length + 1)).count 46 = n := by rw [ht2, List.count_append, e2]; rfl
          rw [e5, ← hc]
          exact (List.take_sublist _ _).count_le _
        have ec : IntKind.wrap .i64 ((((txt t).take i).count 46 : Nat) + 1 : Int) = ((((txt t).take (i + 1)).count 46 : Nat) : Int) := by rw [hcnt, w64] <;> omega
        rw [← ew, ← ec] at hn'
        exact spec_trDrop_L0a_i3 _ _ _ _ (by rw [bs_size]; omega) (by omega) (by rw [hg, h46]; rfl) (by omega) hn'
      · have hcnt : ((txt t).take (i + 1)).count 46 = ((txt t).take i).count 46 := by
          rw [ht, List.count_append, List.count_cons_of_ne h46]
          simp
        rw [hcnt, ← ew] at hn'
        exact spec_trDrop_L0a_i1 _ _ _ _ (by rw [bs_size]; omega) (by omega) (by rw [hg]; intro e; exact h46 ((byte_eq _ 46).1 e)) hn'
  have := key (u.length + 1) 0 (by omega) (by omega)
  exact spec_trDrop_p1 _ _ _ this

abbrev pt (p : Tr × Tr) : ByteArray × ByteArray := (bs (txt p.1), bs (txt p.2))

def isPair (a b : List UInt8) : Bool := isTree a && isTree b && ((treeOf a).c == (treeOf b).c)

theorem isPair_trees {a b : List UInt8} (h : isPair a b = true) : a = txt (treeOf a) ∧ b = txt (treeOf b) ∧ (treeOf a).c ≤ 8 ∧ (treeOf b).c ≤ 8 ∧ (treeOf a).c = (treeOf b).c := by
  simp only [isPair, Bool.and_eq_true, beq_iff_eq] at h
  obtain ⟨⟨h1, h2⟩, h3⟩ := h
  have a1 := treeOf_txt h1
  have a2 := treeOf_txt h2
  exact ⟨a1.1, a2.1, a1.2, a2.2, h3⟩

theorem red_c : ∀ (n : Nat) (p : Tr × Tr), (red n p).1.c ≤ p.1.c ∧ (red n p).2.c ≤ p.2.c
  | 0, p => ⟨Nat.le_refl _, Nat.le_refl _⟩
  | n + 1, p => by
    simp only [red]
    split
    · exact ⟨Nat.le_refl _, Nat.le_refl _⟩
    · rename_i k ks hB
      have hmem : k ∈ bothL p := by rw [hB]; exact List.mem_cons_self
      have c1 := wo_c p.1 k (bothL_mem hmem).1
      have c2 := wo_c p.2 k (bothL_mem hmem).2
      have := red_c n (wo p.1 k, wo p.2 k)
      simp only at this
      omega

end Go.AI
