/- The law of FixedFractions. -/
import Derived.Test.YtmoodcnoncipiaaGE
import Derived.Test.YtmoodcnoncipiaaCO
import Derived.Test.YtmoodcnoncipiaaCY
import Derived.Test.YtmoodcnoncipiaaCD
set_option autoImplicit false
set_option maxRecDepth 100000
set_option linter.unusedVariables false
namespace Go.AI
open Go.Proofs

/-- Is a break carried to itself? -/
def fixB (t u : Tr) (k : Nat) : Bool := decide (stA t k = stA u k)

/-- The places of breaks that are carried to themselves. -/
def fixP (t u : Tr) : List Nat := 0 :: ((brk t u).filter (fixB t u)).map (stA t) ++ [1099511627776]

/-- What FixedFractions tells. -/
def fixedV (a b : List UInt8) : List (Int × Int) := if isPair a b = true then (fixP (treeOf a) (treeOf b)).map frN else []

theorem filter_range {α : Type} (l : List α) (d : α) (p : α → Bool) {β : Type} (g : α → β) : ((List.range' 0 l.length).filter (fun i => p (l.getD i d))).map (fun i => g (l.getD i d)) = (l.filter p).map g := by
  have h := map_range' l d id
  simp only [id] at h
  conv => rhs; rw [← List.map_id l]
  rw [show List.map (id : α → α) l = (List.range' 0 l.length).map (fun i => l.getD i d) by rw [h], List.filter_map, List.map_map]
  rfl

theorem fixP_len (t u : Tr) : (fixP t u).length ≤ t.c + 2 := by
  have h1 := List.length_filter_le (fixB t u) (brk t u)
  have h2 := brk_len t u
  simp [fixP]
  omega

theorem fixP_le (t u : Tr) (h : t.c ≤ 40) : ∀ s ∈ fixP t u, s ≤ 1099511627776 := by
  intro s hs
  simp only [fixP, List.cons_append, List.mem_cons, List.mem_append, List.mem_map, List.not_mem_nil, or_false] at hs
  rcases hs with rfl | ⟨k, hk, rfl⟩ | rfl
  · omega
  · have := brk_mem (List.mem_filter.1 hk).1
    have := stA_lt t h k this.2
    omega
  · omega

theorem fixedPlaces_SC (p : Tr × Tr) (h : p.1.c ≤ 20) (e : p.1.c = p.2.c) :
    SC cfg.P i_impl_pair_fixedPlaces [.s (.v (.pr .tree .tree) p)] (.s (.own t_int (.int .i64) (ints (fixP p.1 p.2)))) [] := by
  have hs := breaks_SC p h e
  have hl := brk_len p.1 p.2
  have hbl : (brkP p.1 p.2).length = (brk p.1 p.2).length := List.length_map ..
  have key := loop_up (P := cfg.P) (np := 1) (c := lb P_impl_pair_fixedPlaces 0) (fun i (cur : List Int) => impl_pair_fixedPlaces_L0a ((List.length (brkP p.1 p.2) : Nat) : Int) (i : Int) cur (brkP p.1 p.2)) (fun cur => impl_pair_fixedPlaces_L0X1 ((List.length (brkP p.1 p.2) : Nat) : Int) ((brk p.1 p.2).length : Int) false cur (brkP p.1 p.2))
    (fun i cur => if fixB p.1 p.2 ((brk p.1 p.2).getD i 0) = true then cur ++ [((stA p.1 ((brk p.1 p.2).getD i 0) : Nat) : Int)] else cur) (fun i cur => cur.length ≤ i + 1) (brk p.1 p.2).length
    (fun i cur hi hI => by
      refine ⟨by split <;> (try simp) <;> omega, fun e' st hn => ?_⟩
      have hg := brkP_get p.1 p.2 e i hi
      have g1 : (List.getD (brkP p.1 p.2) ((i : Int)).toNat pc0).1 = ((stA p.1 ((brk p.1 p.2).getD i 0) : Nat) : Int) := by rw [hg]; rfl
      have g2 : (List.getD (brkP p.1 p.2) ((i : Int)).toNat pc0).2.1 = ((stA p.2 ((brk p.1 p.2).getD i 0) : Nat) : Int) := by rw [hg]; rfl
      by_cases hb : fixB p.1 p.2 ((brk p.1 p.2).getD i 0) = true
      · rw [if_pos hb, ← wrap_succ (by omega), ← g1] at hn
        have hb' := of_decide_eq_true hb
        exact impl_pair_fixedPlaces_L0a_i1 _ _ _ _ (by omega) (by omega) (by omega) (by omega) (by rw [g1, g2, hb']) (sizeOK_one (by omega)) hn
      · rw [if_neg hb, ← wrap_succ (by omega)] at hn
        have hb' : stA p.1 ((brk p.1 p.2).getD i 0) ≠ stA p.2 ((brk p.1 p.2).getD i 0) := by simpa [fixB] using hb
        exact impl_pair_fixedPlaces_L0a_i2 _ _ _ _ (by omega) (by omega) (by omega) (by omega) (by rw [g1, g2]; omega) hn)
    (fun cur _ => impl_pair_fixedPlaces_L0a_x3 _ _ _ _ (by omega)) (brk p.1 p.2).length 0 [(0 : Int)] (by omega) (by simp)
  have hL := key.1
  rw [itr_filter (fun i => fixB p.1 p.2 ((brk p.1 p.2).getD i 0)) (fun i => ((stA p.1 ((brk p.1 p.2).getD i 0) : Nat) : Int)), filter_range (brk p.1 p.2) 0 (fixB p.1 p.2) (fun k => ((stA p.1 k : Nat) : Int))] at hL
  have h1 := List.length_filter_le (fixB p.1 p.2) (brk p.1 p.2)
  have := impl_pair_fixedPlaces_p1 _ _ _ _ _ _ _ hs hL (by unfold sizeOK lim; simp; omega)
  have e2 : [(0 : Int)] ++ List.map (fun k => ((stA p.1 k : Nat) : Int)) (List.filter (fixB p.1 p.2) (brk p.1 p.2)) ++ [(1099511627776 : Int)] = ints (fixP p.1 p.2) := by
    simp [fixP, ints]
  rw [e2] at this
  exact this

theorem implFixed_SC (a b : List UInt8) (ha : a.length ≤ 2 ^ 40) (hb : b.length ≤ 2 ^ 40) :
    SC cfg.P i_impl_FixedFractions [.s (.v (.pr .str .str) (bs a, bs b))] (.tup [.own t_impl_Fraction FrK (fixedV a b), .v .bool (isPair a b)]) [] := by
  have hp := pairOf_SC a b ha hb
  cases ht : isPair a b with
  | false =>
    rw [ht] at hp
    rw [fixedV, if_neg (by rw [ht]; simp)]
    exact impl_FixedFractions_p2 _ _ hp
  | true =>
    rw [ht] at hp
    rw [fixedV, if_pos ht]
    obtain ⟨x1, x2, x3, x4, x5⟩ := isPair_trees ht
    have hs := fixedPlaces_SC (treeOf a, treeOf b) (by simp only; omega) x5
    have hl := fixP_len (treeOf a) (treeOf b)
    have hle := fixP_le (treeOf a) (treeOf b) (by omega)
    have hil : (ints (fixP (treeOf a) (treeOf b))).length = (fixP (treeOf a) (treeOf b)).length := List.length_map ..
    have key := loop_up (P := cfg.P) (np := 1) (c := lb P_impl_FixedFractions 0) (fun i (cur : List (Int × Int)) => impl_FixedFractions_L0a ((List.length (ints (fixP (treeOf a) (treeOf b))) : Nat) : Int) (i : Int) cur (ints (fixP (treeOf a) (treeOf b)))) (fun cur => impl_FixedFractions_L0X1 ((List.length (ints (fixP (treeOf a) (treeOf b))) : Nat) : Int) ((fixP (treeOf a) (treeOf b)).length : Int) false cur (ints (fixP (treeOf a) (treeOf b))))
      (fun i cur => cur ++ [frN ((fixP (treeOf a) (treeOf b)).getD i 0)]) (fun i cur => cur.length ≤ i) (fixP (treeOf a) (treeOf b)).length
      (fun i cur hi hI => by
        refine ⟨by simp; omega, fun e' st hn => ?_⟩
        have hg : List.getD (ints (fixP (treeOf a) (treeOf b))) ((i : Int)).toNat (0 : Int) = (((fixP (treeOf a) (treeOf b)).getD i 0 : Nat) : Int) := by
          rw [Int.toNat_natCast]; exact getD_mapN _ _ _ hi 0 0
        obtain ⟨bb, hf⟩ := fractionAt_SC ((fixP (treeOf a) (treeOf b)).getD i 0) (hle _ (getD_mem hi 0))
        rw [← wrap_succ (by omega)] at hn
        exact impl_FixedFractions_L0a_i1 _ _ _ _ _ bb (by omega) (by omega) (by omega) (by omega) (by rw [hg]; exact hf) (sizeOK_one (by omega)) hn)
      (fun cur _ => impl_FixedFractions_L0a_x2 _ _ _ _ (by omega)) (fixP (treeOf a) (treeOf b)).length 0 [] (by omega) (by simp)
    have hL := key.1
    rw [itr_map (fun i => frN ((fixP (treeOf a) (treeOf b)).getD i 0)), List.nil_append, map_range' (fixP (treeOf a) (treeOf b)) 0 frN] at hL
    exact impl_FixedFractions_p1 _ _ _ _ _ _ _ _ hp hs hL

/-- The reference's places: 0, the breaks, 1. -/
def endsL (t u v : Tr) : List Nat := 0 :: (brk t u).map (stA v) ++ [1099511627776]

theorem ends_frN (t u v : Tr) (h : v.c ≤ 40) (e : t.c = v.c) : [((0 : Int), (1 : Int))] ++ ((brk t u).map fun k => frA ((adL v []).getD k [])) ++ [((1 : Int), (1 : Int))] = (endsL t u v).map frN := by
  have e1 : (brk t u).map (fun k => frA ((adL v []).getD k [])) = ((brk t u).map (stA v)).map frN := by
    rw [List.map_map]
    apply List.map_congr_left
    intro k hk
    exact (frN_stA v h k (by have := brk_mem hk; omega)).symm
  have z : frN 0 = ((0 : Int), (1 : Int)) := by decide +kernel
  have o : frN 1099511627776 = ((1 : Int), (1 : Int)) := by decide +kernel
  rw [e1]
  simp only [endsL, List.cons_append, List.map_cons, List.map_append, List.map_nil, z, o, List.nil_append, List.singleton_append]

theorem zipf {α : Type} (t u : Tr) (g : Nat → α) : ∀ l : List Nat,
    ((List.range' 0 l.length).filter (fun i => decide ((l.map (stA t)).getD i 0 = (l.map (stA u)).getD i 0))).map (fun i => g ((l.map (stA t)).getD i 0)) = (l.filter (fixB t u)).map (fun k => g (stA t k)) := by
  intro l
  rw [← filter_range l 0 (fixB t u) (fun k => g (stA t k))]
  have hm : ∀ i, i < l.length → (l.map (stA t)).getD i 0 = stA t (l.getD i 0) ∧ (l.map (stA u)).getD i 0 = stA u (l.getD i 0) := fun i hi => ⟨getD_mapN _ _ _ hi 0 0, getD_mapN _ _ _ hi 0 0⟩
  have hf : (List.range' 0 l.length).filter (fun i => decide ((l.map (stA t)).getD i 0 = (l.map (stA u)).getD i 0)) = (List.range' 0 l.length).filter (fun i => fixB t u (l.getD i 0)) := by
    apply List.filter_congr
    intro i hi
    rw [List.mem_range'_1] at hi
    rw [(hm i (by omega)).1, (hm i (by omega)).2]
    rfl
  rw [hf]
  apply List.map_congr_left
  intro i hi
  have := (List.mem_filter.1 hi).1
  rw [List.mem_range'_1] at this
  rw [(hm i (by omega)).1]

theorem specFixed_fold (t u : Tr) : ∀ (A B : List Nat), A.length = B.length → ∀ (m i : Nat), i + m = A.length →
    ((List.range' i m).filter (fun i => decide (A.getD i 0 = B.getD i 0))).map (fun i => frN (A.getD i 0)) = (((A.drop i).zip (B.drop i)).filter (fun x => decide (x.1 = x.2))).map (fun x => frN x.1)
  | A, B, hl, 0, i, h => by
    have e : i = A.length := by omega
    subst e
    simp
  | A, B, hl, m + 1, i, h => by
    have ih := specFixed_fold t u A B hl m (i + 1) (by omega)
    have hA : i < A.length := by omega
    have hB : i < B.length := by omega
    rw [List.range'_succ, List.drop_eq_getElem_cons hA, List.drop_eq_getElem_cons hB, List.zip_cons_cons, List.filter_cons, List.filter_cons]
    have a1 : A.getD i 0 = A[i] := by simp [List.getD_eq_getElem?_getD, List.getElem?_eq_getElem hA]
    have b1 : B.getD i 0 = B[i] := by simp [List.getD_eq_getElem?_getD, List.getElem?_eq_getElem hB]
    rw [a1, b1]
    by_cases hh : A[i] = B[i]
    · rw [decide_eq_true hh, if_pos rfl, if_pos rfl, List.map_cons, List.map_cons, ih, a1]
    · rw [decide_eq_false hh, if_neg (by simp), if_neg (by simp), ih]

theorem zip_fix (t u : Tr) : ((((endsL t u t)).zip (endsL t u u)).filter (fun x => decide (x.1 = x.2))).map (fun x => frN x.1) = (fixP t u).map frN := by
  have hz : ∀ l : List Nat, (((l.map (stA t)).zip (l.map (stA u))).filter (fun x => decide (x.1 = x.2))).map (fun x => frN x.1) = ((l.filter (fixB t u)).map (stA t)).map frN := by
    intro l
    induction l with
    | nil => rfl
    | cons k l ih =>
      simp only [List.map_cons, List.zip_cons_cons, List.filter_cons]
      by_cases h : stA t k = stA u k
      · rw [if_pos (decide_eq_true h), if_pos (show fixB t u k = true from decide_eq_true h), List.map_cons, List.map_cons, List.map_cons, ih]
      · rw [if_neg (by simpa using h), if_neg (by simpa [fixB] using h), ih]
  have hl : ((brk t u).map (stA t)).length = ((brk t u).map (stA u)).length := by simp
  simp only [endsL, fixP, List.cons_append, List.zip_cons_cons, List.filter_cons, decide_true, if_true, List.map_cons]
  rw [List.zip_append hl, List.filter_append, List.map_append, hz]
  simp

theorem specFixed_SC (a b : List UInt8) (ha : a.length ≤ 2 ^ 40) (hb : b.length ≤ 2 ^ 40) :
    SC cfg.P i_spec_FixedFractions [.s (.v (.pr .str .str) (bs a, bs b))] (.tup [.own t_impl_Fraction FrK (fixedV a b), .v .bool (isPair a b)]) [] := by
  have hp := prGood_SC a b ha hb
  cases ht : isPair a b with
  | false =>
    rw [ht] at hp
    rw [fixedV, if_neg (by rw [ht]; simp)]
    exact spec_FixedFractions_p2 _ hp
  | true =>
    rw [ht] at hp
    rw [fixedV, if_pos ht]
    obtain ⟨x1, x2, x3, x4, x5⟩ := isPair_trees ht
    have hs := (mpBreaks_SC (treeOf a) (treeOf b) (by omega) x5).view
    have hl := brk_len (treeOf a) (treeOf b)
    have at1 := (mpAt_SC (treeOf a) (by omega) (brk (treeOf a) (treeOf b)) (fun k hk => by have := brk_mem hk; omega) (by omega)).view
    have at2 := (mpAt_SC (treeOf b) (by omega) (brk (treeOf a) (treeOf b)) (fun k hk => by have := brk_mem hk; omega) (by omega)).view
    have e1 := (spec_mpEnds_p1 ((brk (treeOf a) (treeOf b)).map fun k => frA ((adL (treeOf a) []).getD k [])) (by unfold sizeOK lim; simp; omega) (by unfold sizeOK lim; simp; omega)).view
    have e2 := (spec_mpEnds_p1 ((brk (treeOf a) (treeOf b)).map fun k => frA ((adL (treeOf b) []).getD k [])) (by unfold sizeOK lim; simp; omega) (by unfold sizeOK lim; simp; omega)).view
    rw [ends_frN _ _ _ (by omega) rfl] at e1
    rw [ends_frN _ _ _ (by omega) x5] at e2
    have la : (endsL (treeOf a) (treeOf b) (treeOf a)).length = (brk (treeOf a) (treeOf b)).length + 2 := by simp [endsL]
    have lb' : (endsL (treeOf a) (treeOf b) (treeOf b)).length = (brk (treeOf a) (treeOf b)).length + 2 := by simp [endsL]
    have ma : ((endsL (treeOf a) (treeOf b) (treeOf a)).map frN).length = (brk (treeOf a) (treeOf b)).length + 2 := by rw [List.length_map, la]
    have mb : ((endsL (treeOf a) (treeOf b) (treeOf b)).map frN).length = (brk (treeOf a) (treeOf b)).length + 2 := by rw [List.length_map, lb']
    have key := loop_up (P := cfg.P) (np := 1) (c := lb P_spec_FixedFractions 0) (fun i (cur : List (Int × Int)) => spec_FixedFractions_L0a ((endsL (treeOf a) (treeOf b) (treeOf b)).map frN) ((endsL (treeOf a) (treeOf b) (treeOf a)).map frN) ((List.length ((endsL (treeOf a) (treeOf b) (treeOf a)).map frN) : Nat) : Int) (i : Int) cur) (fun cur => spec_FixedFractions_L0X1 ((endsL (treeOf a) (treeOf b) (treeOf b)).map frN) ((endsL (treeOf a) (treeOf b) (treeOf a)).map frN) ((List.length ((endsL (treeOf a) (treeOf b) (treeOf a)).map frN) : Nat) : Int) ((endsL (treeOf a) (treeOf b) (treeOf a)).length : Int) false cur)
      (fun i cur => if decide ((endsL (treeOf a) (treeOf b) (treeOf a)).getD i 0 = (endsL (treeOf a) (treeOf b) (treeOf b)).getD i 0) = true then cur ++ [frN ((endsL (treeOf a) (treeOf b) (treeOf a)).getD i 0)] else cur) (fun i cur => cur.length ≤ i) (endsL (treeOf a) (treeOf b) (treeOf a)).length
      (fun i cur hi hI => by
        refine ⟨by split <;> (try simp) <;> omega, fun e' st hn => ?_⟩
        have g1 : List.getD ((endsL (treeOf a) (treeOf b) (treeOf a)).map frN) ((i : Int)).toNat ((0 : Int), (0 : Int)) = frN ((endsL (treeOf a) (treeOf b) (treeOf a)).getD i 0) := by rw [Int.toNat_natCast]; exact getD_mapN frN _ _ hi 0 _
        have g2 : List.getD ((endsL (treeOf a) (treeOf b) (treeOf b)).map frN) ((i : Int)).toNat ((0 : Int), (0 : Int)) = frN ((endsL (treeOf a) (treeOf b) (treeOf b)).getD i 0) := by rw [Int.toNat_natCast]; exact getD_mapN frN _ _ (by omega) 0 _
        by_cases hb' : (endsL (treeOf a) (treeOf b) (treeOf a)).getD i 0 = (endsL (treeOf a) (treeOf b) (treeOf b)).getD i 0
        · rw [if_pos (decide_eq_true hb'), ← wrap_succ (by omega), ← g1] at hn
          exact spec_FixedFractions_L0a_i1 _ _ _ _ _ (by omega) (by omega) (by omega) (by omega) (by rw [g1, g2, hb']; simp) (sizeOK_one (by omega)) hn
        · rw [if_neg (by simpa using hb'), ← wrap_succ (by omega)] at hn
          exact spec_FixedFractions_L0a_i2 _ _ _ _ _ (by omega) (by omega) (by omega) (by omega) (by
            rw [g1, g2, Bool.and_eq_false_iff]
            by_cases g : (frN ((endsL (treeOf a) (treeOf b) (treeOf a)).getD i 0)).1 = (frN ((endsL (treeOf a) (treeOf b) (treeOf b)).getD i 0)).1
            · refine .inr (by
                rw [beq_eq_false_iff_ne]
                intro gg
                exact hb' (frN_inj (Prod.ext g gg)))
            · exact .inl (by rw [beq_eq_false_iff_ne]; exact g)) hn)
      (fun cur _ => spec_FixedFractions_L0a_x3 _ _ _ _ _ (by omega)) (endsL (treeOf a) (treeOf b) (treeOf a)).length 0 [] (by omega) (by simp)
    have hL := key.1
    rw [itr_filter (fun i => decide ((endsL (treeOf a) (treeOf b) (treeOf a)).getD i 0 = (endsL (treeOf a) (treeOf b) (treeOf b)).getD i 0)) (fun i => frN ((endsL (treeOf a) (treeOf b) (treeOf a)).getD i 0)), List.nil_append, specFixed_fold (treeOf a) (treeOf b) _ _ (by omega) _ 0 (by omega), List.drop_zero, List.drop_zero, zip_fix] at hL
    rw [← x1] at at1
    rw [← x2] at at2
    rw [← x1, ← x2] at hs
    exact spec_FixedFractions_p1 (bs a, bs b) _ _ _ _ _ _ _ _ _ _ _ _ hp hs at1 e1 hs at2 e2 hL

/-- THE LAW. -/
theorem law_Fixed (x y : ByteArray) (hx : x.size ≤ 2 ^ 63 - 1) (hy : y.size ≤ 2 ^ 63 - 1) :
    SC cfg.P i_laws_FnExactFixedFractions [.s (.v (.pr .str .str) (x, y))] (.s (.v .bool true)) [] := by
  obtain ⟨a, rfl⟩ := bs_ex x
  obtain ⟨b, rfl⟩ := bs_ex y
  rw [bs_size] at hx hy
  by_cases h : a.length + b.length ≤ 1048576
  · have hl : (fixedV a b).length ≤ 2 ^ 20 := by
      unfold fixedV
      split
      · rename_i h'
        obtain ⟨x1, x2, x3, x4, x5⟩ := isPair_trees h'
        have := fixP_len (treeOf a) (treeOf b)
        rw [List.length_map]
        omega
      · simp
    have h1 := specFixed_SC a b (by omega) (by omega)
    have h2 := implFixed_SC a b (by omega) (by omega)
    have h3 := eqFractionS_SC (fixedV a b) (by omega)
    have h4 := markFractionS_SC (fixedV a b) (by omega)
    have h5 := heldFractionS_SC (fixedV a b).length (by omega)
    exact laws_FnExactFixedFractions_p2 _ _ _ _ _ _ _ _ _ _ _ _ _ _ _ (szPair_in a b h) (by omega) (laws_toPair_p1 _) h1 (laws_toPair_p1 _) h2 h3 (by simp) h4 h5 (by omega) rfl (laws_toPair_p1 _) h2 h3 (by simp) h5 (by omega) rfl
  · exact laws_FnExactFixedFractions_p1 _ _ (szPair_out a b hx hy h) (by omega)

end Go.AI
