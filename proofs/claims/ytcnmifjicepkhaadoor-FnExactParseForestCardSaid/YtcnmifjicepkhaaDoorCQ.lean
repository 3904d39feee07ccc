/- Contracts: forests told, read and written. -/
import Derived.Test.YtcnmifjicepkhaaDoorCPf
set_option autoImplicit false
set_option maxRecDepth 100000
set_option linter.unusedVariables false
namespace Go.AI
open Go.Proofs

theorem count_le (l : List UInt8) : l.count 40 ≤ l.length := List.count_le_length

theorem treesOf_c (fs : List (List UInt8)) (h : ∀ l ∈ fs, isTree l = true) : (fs.map fun l => l.count 40).sum = sumC (treesOf fs) := by
  rw [sumC, treesOf, List.map_map]
  congr 1
  apply List.map_congr_left
  intro l hl
  have e := (treeOf_txt (h l hl)).1
  conv => lhs; rw [e]
  exact txt_count _

theorem isFo_eq (fs : List (List UInt8)) (hall : fs.all isTree = true) : isFo fs = (decide (fs.length ≤ 8) && decide ((fs.map fun l => l.count 40).sum ≤ 8) && decide ((trim (treesOf fs)).length = fs.length)) := by
  rw [isFo, hall, treesOf_c fs (fun l hl => List.all_eq_true.1 hall l hl), Bool.and_true]

theorem foGood_SC (fs : List (List UInt8)) (hs : ∀ l ∈ fs, l.length ≤ 2 ^ 40) (hfl : fs.length ≤ 2 ^ 40) : SC cfg.P i_spec_foGood [.s (.v (.sl .str) (txs fs))] (.s (.v .bool (isFo fs))) [] := by
  have hl : List.length (txs fs) = fs.length := List.length_map ..
  by_cases h8 : fs.length ≤ 8
  · have key := loop_ret (P := cfg.P) (np := 1) (c := lb P_spec_foGood 0) (fun i (a : Nat) => spec_foGood_L0a (a : Int) (txs fs) ((List.length (txs fs) : Nat) : Int) (i : Int)) (fun a => spec_foGood_L0X2 (a : Int) (txs fs) ((List.length (txs fs) : Nat) : Int) (fs.length : Int) false) (spec_foGood_L0X1 false)
      (fun i a => a + (fs.getD i []).count 40) (fun i a => a ≤ i * 2 ^ 40) (fun i => isTree (fs.getD i [])) fs.length
      (fun i a hi hI hp => by
        have hb := hs _ (gD_mem hi [])
        have hcn := count_le (fs.getD i [])
        refine ⟨by rw [Nat.add_mul]; omega, fun e st hn => ?_⟩
        have hI' : i * 2 ^ 40 ≤ 8 * 2 ^ 40 := Nat.mul_le_mul_right _ (by omega)
        have ht := trIs_SC (fs.getD i []) hb
        have hk := trCarets_SC (fs.getD i []) hb
        rw [hp] at ht
        rw [← txs_get fs i hi (⟨#[]⟩ : ByteArray)] at ht hk
        have ea : IntKind.wrap .i64 ((a : Int) + (((fs.getD i []).count 40 : Nat) : Int)) = ((a + (fs.getD i []).count 40 : Nat) : Int) := by rw [w64] <;> omega
        rw [← wrap_succ (by omega), ← ea] at hn
        exact spec_foGood_L0a_i1 _ _ _ _ _ (by omega) (by omega) (by omega) ht hk hn)
      (fun i a hi hI hp => by
        have ht := trIs_SC (fs.getD i []) (hs _ (gD_mem hi []))
        rw [hp] at ht
        rw [← txs_get fs i hi (⟨#[]⟩ : ByteArray)] at ht
        exact spec_foGood_L0a_x2 _ _ _ _ (by omega) (by omega) (by omega) ht)
      (fun a _ => spec_foGood_L0a_x3 _ _ _ _ (by omega)) fs.length 0 0 (by omega) (by omega)
    rw [itr_sum (fun i => (fs.getD i []).count 40), map_range' fs [] (fun l => l.count 40), Nat.zero_add, all_range' fs [] isTree] at key
    obtain ⟨k1, k2⟩ := key
    by_cases h0 : fs = []
    · subst h0
      exact spec_foGood_p7 _ _ _ _ _ _ (by simp) (by simp) (k1 rfl) (by simp)
    · obtain ⟨m, x, rfl⟩ := snoc_ex fs h0
      have hm8 : m.length + 1 ≤ 8 := by simpa using h8
      have ew : IntKind.wrap .i64 (((List.length (txs (m ++ [x])) : Nat) : Int) - 1) = ((m.length : Nat) : Int) := by
        rw [hl, List.length_append, List.length_singleton, w64] <;> omega
      have hlast := trLeaf_SC x
      have hlen : (m ++ [x]).length = m.length + 1 := by simp
      have hget : List.getD (txs (m ++ [x])) ((IntKind.wrap .i64 (((List.length (txs (m ++ [x])) : Nat) : Int) - 1))).toNat (⟨#[]⟩ : ByteArray) = bs x := by
        rw [ew, Int.toNat_natCast, txs_get _ _ (by omega), getD_last]
      rw [← hget] at hlast
      by_cases hx : x = [46]
      · rw [decide_eq_true hx] at hlast
        have hF : isFo (m ++ [x]) = false := by
          cases hg : isFo (m ++ [x]) with
          | false => rfl
          | true =>
            obtain ⟨_, g2, _, g4, _⟩ := isFo_spec hg
            have hT : treesOf (m ++ [x]) = treesOf m ++ [treeOf x] := by simp [treesOf]
            rw [hT] at g4
            have g5 := congrArg List.length g4
            rw [List.length_append, List.length_singleton, trim_full] at g5
            have := (last_leaf [] x (g2 x (by simp))).2 hx
            rw [this] at g5
            cases g5
        rw [hF]
        exact spec_foGood_p2 _ (by omega) (by omega) (by rw [ew]; omega) (by rw [ew]; omega) hlast
      · rw [decide_eq_false hx] at hlast
        cases hall : (m ++ [x]).all isTree with
        | false =>
          have hF : isFo (m ++ [x]) = false := by rw [isFo, hall]; simp
          rw [hF]
          exact spec_foGood_p3 _ _ (by omega) (by omega) (by rw [ew]; omega) (by rw [ew]; omega) hlast (k2 hall)
        | true =>
          have hT : treesOf (m ++ [x]) = treesOf m ++ [treeOf x] := by simp [treesOf]
          have hml : (treesOf m).length = m.length := List.length_map ..
          have htx : isTree x = true := List.all_eq_true.1 hall x (by simp)
          have hfull : (trim (treesOf (m ++ [x]))).length = (m ++ [x]).length := by
            rw [hT, hlen, ← hml, trim_full]
            cases hh : (treeOf x).isLeaf with
            | false => rfl
            | true => exact absurd ((last_leaf [] x htx).1 hh) hx
          rw [isFo_eq _ hall, decide_eq_true h8, decide_eq_true hfull, Bool.true_and, Bool.and_true]
          by_cases hc : ((m ++ [x]).map fun l => l.count 40).sum ≤ 8
          · rw [decide_eq_true hc]
            exact spec_foGood_p4 _ _ _ _ _ _ (by omega) (by omega) (by rw [ew]; omega) (by rw [ew]; omega) hlast (k1 hall) (by omega)
          · rw [decide_eq_false hc]
            exact spec_foGood_p5 _ _ _ _ _ _ (by omega) (by omega) (by rw [ew]; omega) (by rw [ew]; omega) hlast (k1 hall) (by omega)
  · have hF : isFo fs = false := by rw [isFo, decide_eq_false h8]; simp
    rw [hF]
    exact spec_foGood_p1 _ (by omega)

/-- What 'forestOf' hands back beside its answer. -/
theorem forestOf_SC (fs : List (List UInt8)) (hs : ∀ l ∈ fs, l.length ≤ 2 ^ 40) (hfl : fs.length ≤ 2 ^ 40) :
    ∃ ts, (isFo fs = true → ts = treesOf fs) ∧ SC cfg.P i_impl_forestOf [.s (.v (.sl .str) (txs fs))] (.tup [.v (.sl .tree) ts, .v .bool (isFo fs)]) [] := by
  have hl : List.length (txs fs) = fs.length := List.length_map ..
  by_cases h8 : fs.length ≤ 8
  · have key := loop_ret (P := cfg.P) (np := 1) (c := lb P_impl_forestOf 0) (fun i (a : List Tr) => impl_forestOf_L0a (txs fs) ((List.length (txs fs) : Nat) : Int) (i : Int) a) (fun a => impl_forestOf_L0X2 (txs fs) ((List.length (txs fs) : Nat) : Int) (fs.length : Int) false a) (impl_forestOf_L0X1 false ([] : List Tr))
      (fun i a => a ++ [treeOf (fs.getD i [])]) (fun i a => a.length ≤ i) (fun i => isTree (fs.getD i [])) fs.length
      (fun i a hi hI hp => by
        have hb := hs _ (gD_mem hi [])
        refine ⟨by simp; omega, fun e st hn => ?_⟩
        have ht := parse_SC (fs.getD i []) hb
        rw [hp] at ht
        rw [← txs_get fs i hi (⟨#[]⟩ : ByteArray)] at ht
        rw [← wrap_succ (by omega)] at hn
        exact impl_forestOf_L0a_i1 _ _ _ _ _ (by omega) (by omega) (by omega) ht (sizeOK_one (by omega)) hn)
      (fun i a hi hI hp => by
        have ht := parse_SC (fs.getD i []) (hs _ (gD_mem hi []))
        rw [hp] at ht
        rw [← txs_get fs i hi (⟨#[]⟩ : ByteArray)] at ht
        exact impl_forestOf_L0a_x2 _ _ _ _ _ (by omega) (by omega) (by omega) ht)
      (fun a _ => impl_forestOf_L0a_x3 _ _ _ _ (by omega)) fs.length 0 [] (by omega) (by simp)
    rw [itr_map (fun i => treeOf (fs.getD i [])), map_range' fs [] treeOf, List.nil_append, all_range' fs [] isTree] at key
    obtain ⟨k1, k2⟩ := key
    cases hall : fs.all isTree with
    | false =>
      have hF : isFo fs = false := by rw [isFo, hall]; simp
      rw [hF]
      exact ⟨[], fun h => (by cases h), (impl_forestOf_p2 _ _ _ (by omega) (k2 hall)).viewT⟩
    | true =>
      have hall' := List.all_eq_true.1 hall
      have htl : (treesOf fs).length = fs.length := List.length_map ..
      have hc8 : ∀ t ∈ treesOf fs, t.c ≤ 2 ^ 20 := by
        intro t ht
        obtain ⟨l, hl2, rfl⟩ := List.mem_map.1 ht
        have := (treeOf_txt (hall' l hl2)).2
        omega
      have hk := fcarets_SC (treesOf fs) (by omega) hc8
      have htr := trimmed_SC (treesOf fs) (by omega)
      refine ⟨treesOf fs, fun _ => rfl, ?_⟩
      rw [isFo, decide_eq_true h8, hall, Bool.true_and, Bool.true_and]
      by_cases hc : sumC (treesOf fs) ≤ 8
      · rw [decide_eq_true hc, Bool.true_and]
        by_cases hf : (trim (treesOf fs)).length = fs.length
        · rw [decide_eq_true hf]
          exact impl_forestOf_p3 _ _ _ _ _ _ _ _ (by omega) (k1 hall) hk (by omega) htr (by show ((List.length (trim (treesOf fs)) : Nat) : Int) = ((List.length (treesOf fs) : Nat) : Int); omega)
        · rw [decide_eq_false hf]
          exact impl_forestOf_p4 _ _ _ _ _ _ _ _ (by omega) (k1 hall) hk (by omega) htr (by show ((List.length (trim (treesOf fs)) : Nat) : Int) ≠ ((List.length (treesOf fs) : Nat) : Int); omega)
      · rw [decide_eq_false hc, Bool.false_and]
        exact (impl_forestOf_p5 _ _ _ _ _ _ _ (by omega) (k1 hall) hk (by omega)).viewT
  · have hF : isFo fs = false := by rw [isFo, decide_eq_false h8]; simp
    rw [hF]
    exact ⟨[], fun h => (by cases h), (impl_forestOf_p1 _ (by omega)).viewT⟩

end Go.AI
