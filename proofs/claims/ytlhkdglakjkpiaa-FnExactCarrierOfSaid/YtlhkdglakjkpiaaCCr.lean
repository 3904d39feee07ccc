/- Contracts: the parts of CarrierOf; its law. -/
import Derived.Test.YtlhkdglakjkpiaaFst
import Derived.Test.YtlhkdglakjkpiaaCPx
import Derived.Test.YtlhkdglakjkpiaaCEx
set_option autoImplicit false
set_option maxRecDepth 100000
set_option linter.unusedVariables false
namespace Go.AI
open Go.Proofs

theorem redE : ∀ (n : Nat) (p : Tr × Tr), p.1.c = p.2.c → (red n p).1.c = (red n p).2.c
  | 0, p, h => h
  | n + 1, p, h => by
    simp only [red]
    cases hB : bothL p with
    | nil => exact h
    | cons k L =>
      have hmem : k ∈ bothL p := by rw [hB]; exact List.mem_cons_self
      obtain ⟨h1, h2⟩ := bothL_mem hmem
      have c1 := wo_c p.1 k h1
      have c2 := wo_c p.2 k h2
      exact redE n (wo p.1 k, wo p.2 k) (by simp only; omega)

/-! ### A tree in the place of a leaf, in texts -/

theorem trGraft_SC (t : Tr) (k : Nat) (u : Tr) (hk : k ≤ t.c) (ht : t.c ≤ 2 ^ 20) (hu : u.c ≤ 2 ^ 20) :
    SC cfg.P i_spec_trGraft [.s (.v .str (bs (txt t))), .s (.v (.int .i64) (k : Int)), .s (.v .str (bs (txt u)))] (.s (.v .str (bs (txt (grf t k u))))) [] := by
  obtain ⟨pre, post, e1, e2, e3⟩ := grf_txt t k u hk
  have lt := txt_len t
  have lu := txt_len u
  have hl : (txt t).length = pre.length + (post.length + 1) := by rw [e1, List.length_append, List.length_cons]
  have hbyte : ∀ i, i < pre.length → bt (bs (txt t)) (i : Int) = ((pre.getD i 0).toNat : Int) := fun i hi => by
    rw [bs_bt, Int.toNat_natCast, e1, List.getD_eq_getElem?_getD, List.getElem?_append_left hi, List.getD_eq_getElem?_getD]
  have key : ∀ (m i : Nat), pre.length - i = m → i ≤ pre.length →
      LoopSC cfg.P 3 (lb P_spec_trGraft 0) (spec_trGraft_L0a (bs (txt t)) (k : Int) (bs (txt u)) ((((pre.take i).count 46 : Nat) : Int) - 1) (i : Int)) .ret (spec_trGraft_L0X1 (bs (txt (grf t k u)))) := by
    intro m
    induction m with
    | zero =>
      intro i hm hi
      have e : i = pre.length := by omega
      subst e
      rw [List.take_length, e2]
      have hb : bt (bs (txt t)) (pre.length : Int) = 46 := by
        rw [bs_bt, Int.toNat_natCast, e1, List.getD_eq_getElem?_getD, List.getElem?_append_right (Nat.le_refl _), Nat.sub_self]; rfl
      have x1 : ByteArray.extract (bs (txt t)) ((0 : Int)).toNat ((pre.length : Int)).toNat = bs pre := by
        rw [Int.toNat_natCast, bs_extract, e1]
        simp
      have w : IntKind.wrap .i64 ((pre.length : Int) + 1) = ((pre.length + 1 : Nat) : Int) := by rw [w64] <;> omega
      have x2 : ByteArray.extract (bs (txt t)) (IntKind.wrap .i64 ((pre.length : Int) + 1)).toNat (((bs (txt t)).size : Int)).toNat = bs post := by
        rw [w, Int.toNat_natCast, Int.toNat_natCast, bs_size, bs_extract, hl, e1]
        have ed : (pre ++ 46 :: post).drop (pre.length + 1) = post := by
          have e0 : pre ++ 46 :: post = (pre ++ [46]) ++ post := by simp
          rw [e0]
          exact List.drop_left' (by simp)
        rw [ed]
        congr 1
        apply List.take_of_length_le
        omega
      have st := spec_trGraft_L0a_x1 (bs (txt t)) (k : Int) (bs (txt u)) ((k : Int) - 1) (pre.length : Int) (by rw [bs_size]; omega) (by omega) hb (by rw [w64] <;> omega) (by rw [bs_size]; omega) (by rw [x1, bs_size, bs_size]; omega) (by rw [w]; omega) (by rw [w, bs_size]; omega) (by rw [x1, x2, bs_append, bs_size, bs_size, List.length_append]; omega)
      rw [x1, x2, bs_append, bs_append, ← e3] at st
      exact st
    | succ m ih =>
      intro i hm hi
      have hlt : i < pre.length := by omega
      have k1 := ih (i + 1) (by omega) (by omega)
      have htk : pre.take (i + 1) = pre.take i ++ [pre.getD i 0] := by
        rw [List.getD_eq_getElem?_getD, List.getElem?_eq_getElem hlt]
        exact (List.take_append_getElem hlt).symm
      have hcle : (pre.take (i + 1)).count 46 ≤ k := by
        rw [← e2]
        exact List.Sublist.count_le 46 (List.take_sublist _ _)
      have hcl2 : (pre.take i).count 46 ≤ i := Nat.le_trans List.count_le_length (by rw [List.length_take]; omega)
      rw [htk, List.count_append, ← wrap_succ (i := i) (by omega)] at k1
      rw [htk, List.count_append] at hcle
      by_cases h : pre.getD i 0 = 46
      · rw [h] at k1 hcle
        have e : [(46 : UInt8)].count 46 = 1 := by decide
        rw [e] at k1 hcle
        have w : IntKind.wrap .i64 ((((pre.take i).count 46 : Nat) : Int) - 1 + 1) = ((((pre.take i).count 46 + 1 : Nat) : Int) - 1) := by rw [w64] <;> omega
        rw [← w] at k1
        exact spec_trGraft_L0a_i2 _ _ _ _ _ (by rw [bs_size]; omega) (by omega) (by rw [hbyte i hlt, h]; rfl) (by rw [w]; omega) k1
      · have e : [pre.getD i 0].count 46 = 0 := List.count_eq_zero.2 fun hm => h (List.mem_singleton.1 hm).symm
        rw [e] at k1 hcle
        exact spec_trGraft_L0a_i4 _ _ _ _ _ (by rw [bs_size]; omega) (by omega) (by rw [hbyte i hlt]; intro g; exact h ((byte_eq _ 46).1 g)) (by omega) k1
  have h0 := key _ 0 rfl (by omega)
  exact spec_trGraft_p1 _ _ _ _ h0

/-! ### The least tree by the program -/

theorem end_w (p : List UInt8) (hp : p.length ≤ 40) : IntKind.wrap .i64 (((pl p : Nat) : Int) + Int.fdiv (1099511627776 : Int) (2 ^ (min (((bs p).size : Int)).toNat (IntKind.bits .i64)))) = (((iv p).2 : Nat) : Int) := by
  have hle := iv_le p hp
  rw [bs_size, Int.toNat_natCast]
  have hmin : min p.length (IntKind.bits .i64) = p.length := by
    have : IntKind.bits .i64 = 64 := rfl
    omega
  rw [hmin]
  have hc : ((2 : Int) ^ p.length) = ((2 ^ p.length : Nat) : Int) := by push_cast; rfl
  have hd : Int.fdiv (1099511627776 : Int) ((2 ^ p.length : Nat) : Int) = ((1099511627776 / 2 ^ p.length : Nat) : Int) := by
    rw [Int.fdiv_eq_ediv_of_nonneg _ (Int.natCast_nonneg _)]; rfl
  rw [hc, hd, ← Int.natCast_add]
  show IntKind.wrap .i64 (((iv p).2 : Nat) : Int) = _
  rw [w64] <;> omega

theorem starting_SC {x m : Nat} (hm : m ≤ 20) (hx : ∃ q, x = q * 2 ^ (40 - m)) : ∀ (n : Nat) (p : List UInt8), p.length + n = m →
    SC cfg.P i_impl_starting [.s (.v (.int .i64) (x : Int)), .s (.v .str (bs p))] (.s (.v .tree (sT x n p))) [] := by
  intro n
  induction n with
  | zero =>
    intro p hp
    have h1 : SC cfg.P i_impl_placeOf [.s (.v .str (bs p))] (.s (.v (.int .i64) ((pl p : Nat) : Int))) [] := placeOf_SC p (by omega)
    have hw := end_w p (by omega)
    by_cases h : x ≤ pl p
    · exact impl_starting_p1 _ _ _ h1 (by omega)
    · by_cases h2 : x < (iv p).2
      · exact absurd (no_inside (by omega) hx (by omega) (by omega) h2) (by omega)
      · exact impl_starting_p2 _ _ _ h1 (by omega) (by omega) (by rw [hw]; omega)
  | succ n ih =>
    intro p hp
    have h1 : SC cfg.P i_impl_placeOf [.s (.v .str (bs p))] (.s (.v (.int .i64) ((pl p : Nat) : Int))) [] := placeOf_SC p (by omega)
    have hw := end_w p (by omega)
    rw [sT]
    by_cases h : pl p < x ∧ x < (iv p).2
    · rw [if_pos h]
      have a1 := ih (p ++ [48]) (by simp; omega)
      have a2 := ih (p ++ [49]) (by simp; omega)
      rw [← bs_append] at a1 a2
      have hsz : (bs p).size + ((⟨#[48]⟩ : ByteArray)).size ≤ 2 ^ 62 := by
        show (bs p).size + 1 ≤ _
        rw [bs_size]; omega
      exact impl_starting_p3 _ _ _ _ _ h1 (by omega) (by omega) (by rw [hw]; omega) hsz a1 hsz a2
    · rw [if_neg h]
      by_cases h2 : x ≤ pl p
      · exact impl_starting_p1 _ _ _ h1 (by omega)
      · exact impl_starting_p2 _ _ _ h1 (by omega) (by omega) (by rw [hw]; omega)

/-! ### The leaves on both sides -/

theorem tiles_mono : ∀ (l : List (Nat × Nat)) (a b i j : Nat), tiles l a b → i < j → j < l.length → (l.getD i (0, 0)).1 < (l.getD j (0, 0)).1 := by
  intro l a b i j h hij hj
  induction j with
  | zero => omega
  | succ j ih =>
    have h1 := tiles_next l a b j h hj
    by_cases e : i = j
    · subst e; omega
    · have := ih (by omega) (by omega); omega

theorem stA_mono (t : Tr) (h : t.c ≤ 40) {i j : Nat} (hij : i < j) (hj : j < t.c + 1) : stA t i < stA t j := by
  have := tiles_mono _ _ _ i j (tiles_tree t h) hij (by rw [List.length_map, adL_len]; exact hj)
  rw [ivs_get t i (by omega), ivs_get t j hj] at this
  exact this

theorem sides_SC (t : Tr) (h : t.c ≤ 40) (i : Nat) (hi : i ≤ t.c) : SC cfg.P i_impl_sides [.s (.v .tree t), .s (.v (.int .i64) ((stA t i : Nat) : Int))] (.tup [.v (.int .i64) (i : Int), .v (.int .i64) ((t.c - i : Nat) : Int)]) [] := by
  have a1 := addresses_SC t [] (by omega) (by simp; omega)
  have l1 := adL_len t []
  have l2 : List.length (strs' (adL t [])) = t.c + 1 := by rw [List.length_map, l1]
  have key : ∀ (m j : Nat), t.c + 1 - j = m → j ≤ t.c + 1 →
      LoopSC cfg.P 2 (lb P_impl_sides 0) (impl_sides_L0a ((stA t i : Nat) : Int) ((min j i : Nat) : Int) ((j - (i + 1) : Nat) : Int) (strs' (adL t [])) ((List.length (strs' (adL t [])) : Nat) : Int) (j : Int)) (.exit 0) (impl_sides_L0X1 ((stA t i : Nat) : Int) (i : Int) ((t.c - i : Nat) : Int) (strs' (adL t [])) ((List.length (strs' (adL t [])) : Nat) : Int) ((t.c + 1 : Nat) : Int) false) := by
    intro m
    induction m with
    | zero =>
      intro j hm hj
      have e : j = t.c + 1 := by omega
      subst e
      have e1 : min (t.c + 1) i = i := by omega
      have e2 : t.c + 1 - (i + 1) = t.c - i := by omega
      rw [e1, e2]
      exact impl_sides_L0a_x4 _ _ _ _ _ _ (by omega)
    | succ m ih =>
      intro j hm hj
      have hlt : j < (adL t []).length := by omega
      have hp := placeOf_SC (adL t [])[j] (by have := (adL_ok (Nat.le_refl t.c) _ (List.getElem_mem hlt)).1; omega)
      have eg : (adL t []).getD j [] = (adL t [])[j] := by rw [List.getD_eq_getElem?_getD, List.getElem?_eq_getElem hlt]; rfl
      have es : plF (adL t [])[j] 1099511627776 0 = stA t j := by unfold stA; rw [eg]
      rw [es, ← strs_get _ j hlt] at hp
      have k := ih (j + 1) (by omega) (by omega)
      rw [← wrap_succ (i := j) (by omega)] at k
      rcases Nat.lt_trichotomy j i with hc | hc | hc
      · have hm := stA_mono t h hc (by omega)
        have e1 : min j i = j := by omega
        have e2 : j - (i + 1) = 0 := by omega
        have e3 : min (j + 1) i = j + 1 := by omega
        have e4 : j + 1 - (i + 1) = 0 := by omega
        rw [e1, e2]
        rw [e3, e4, ← wrap_succ (i := j) (by omega)] at k
        exact impl_sides_L0a_i1 _ _ _ _ _ _ _ (by omega) (by omega) (by omega) hp (by omega) k
      · subst hc
        have e1 : min j j = j := by omega
        have e2 : j - (j + 1) = 0 := by omega
        have e3 : min (j + 1) j = j := by omega
        have e4 : j + 1 - (j + 1) = 0 := by omega
        rw [e1, e2]
        rw [e3, e4] at k
        exact impl_sides_L0a_i3 _ _ _ _ _ _ _ (by omega) (by omega) (by omega) hp (by omega) (by omega) k
      · have hm := stA_mono t h hc (by omega)
        have e1 : min j i = i := by omega
        have e3 : min (j + 1) i = i := by omega
        have e4 : ((j + 1 - (i + 1) : Nat) : Int) = IntKind.wrap .i64 (((j - (i + 1) : Nat) : Int) + 1) := by rw [w64] <;> omega
        rw [e1]
        rw [e3, e4] at k
        exact impl_sides_L0a_i2 _ _ _ _ _ _ _ (by omega) (by omega) (by omega) hp (by omega) (by omega) k
  have h0 := key _ 0 rfl (by omega)
  have e1 : min 0 i = 0 := by omega
  have e2 : 0 - (i + 1) = 0 := by omega
  rw [e1, e2] at h0
  exact impl_sides_p1 _ _ _ _ _ _ _ _ _ _ a1.view h0

/-! ### Right combs at both ends -/

theorem padk_SC (N f1 f2 k : Nat) (hN : N ≤ 2 ^ 20) (h1 : f1 ≤ 2 ^ 20) (h2 : f2 ≤ 2 ^ 20) (hk : k ≤ 2 ^ 20) :
    SC cfg.P i_impl_padded_k1 [.s (.v (.int .i64) (k : Int)), .s (.fadr (.int .i64) (f1 : Int)), .s (.fadr (.int .i64) ((N + 1 : Nat) : Int)), .s (.fadr (.int .i64) (f2 : Int))] (.s (.v .tree (padF N (combR f1) (combR f2) k))) [] := by
  have w : IntKind.wrap .i64 (((N + 1 : Nat) : Int) - 1) = (N : Int) := by rw [w64] <;> omega
  unfold padF
  by_cases e : k = 0
  · rw [if_pos e]
    exact impl_padded_k1_p1 _ _ _ _ _ (by omega) (rightComb_SC f1 (by omega))
  · rw [if_neg e]
    by_cases e2 : k = N
    · rw [if_pos e2]
      exact impl_padded_k1_p2 _ _ _ _ _ (by omega) (by rw [w]; omega) (rightComb_SC f2 (by omega))
    · rw [if_neg e2]
      exact impl_padded_k1_p3 _ _ _ _ (by omega) (by rw [w]; omega)

theorem grownP_SC (N f1 f2 : Nat) (hN : N ≤ 2 ^ 20) (h1 : f1 ≤ 2 ^ 20) (h2 : f2 ≤ 2 ^ 20) : ∀ (t : Tr) (n : Nat), n + t.c ≤ 2 ^ 20 →
    SC cfg.P i_impl_node_grown [.s (.v .tree t), .s (.v (.int .i64) (n : Int)), .fn i_impl_padded_k1 [] [.fadr (.int .i64) (f1 : Int), .fadr (.int .i64) ((N + 1 : Nat) : Int), .fadr (.int .i64) (f2 : Int)]] (.s (.v .tree (gN (padF N (combR f1) (combR f2)) t n))) []
  | .leaf, n, h => impl_node_grown_p1 _ _ _ _ _ _ (padk_SC N f1 f2 n hN h1 h2 (by omega))
  | .node a b, n, h => by
    simp only [Tr.c] at h
    have g1 := grownP_SC N f1 f2 hN h1 h2 a n (by omega)
    have g2 := leaves_SC a (by omega)
    have g3 := grownP_SC N f1 f2 hN h1 h2 b (n + (a.c + 1)) (by omega)
    have w : IntKind.wrap .i64 ((n : Int) + ((a.c + 1 : Nat) : Int)) = ((n + (a.c + 1) : Nat) : Int) := by rw [w64] <;> omega
    rw [← w] at g3
    exact impl_node_grown_p2 _ _ _ _ _ _ _ _ _ _ g1 g2 g3

theorem padded_SC (t : Tr) (f1 f2 : Nat) (h0 : 0 < t.c) (h : t.c ≤ 2 ^ 10) (h1 : f1 ≤ 2 ^ 20) (h2 : f2 ≤ 2 ^ 20) :
    SC cfg.P i_impl_padded [.s (.v .tree t), .s (.v (.int .i64) (f1 : Int)), .s (.v (.int .i64) (f2 : Int))] (.s (.v .tree (padT t (combR f1) (combR f2)))) [] := by
  have g := grownP_SC t.c f1 f2 (by omega) h1 h2 t 0 (by omega)
  rw [gN_pad _ _ _ h0] at g
  exact impl_padded_p1 _ _ _ _ _ (leaves_SC t (by omega)) g

end Go.AI
