/- Trees by their addresses: order, shares, dropped carets. -/
import Derived.Test.YtpfaelacdnmeaaaCty
import Derived.Lib.Strings
set_option autoImplicit false
set_option maxRecDepth 100000
set_option linter.unusedVariables false
namespace Go.AI
open Go.Proofs

/-! ### Addresses are in order -/

theorem adL_pre : ∀ (t : Tr) (p a : List UInt8), a ∈ adL t p → ∃ x, a = p ++ x
  | .leaf, p, a, h => by simp [adL] at h; exact ⟨[], by rw [h, List.append_nil]⟩
  | .node l r, p, a, h => by
    simp only [adL, List.mem_append] at h
    rcases h with h | h
    · obtain ⟨x, e⟩ := adL_pre l _ _ h
      exact ⟨48 :: x, by rw [e, List.append_assoc]; rfl⟩
    · obtain ⟨x, e⟩ := adL_pre r _ _ h
      exact ⟨49 :: x, by rw [e, List.append_assoc]; rfl⟩

theorem bl_app : ∀ (p x y : List UInt8), Op.bytesLess (p ++ 48 :: x) (p ++ 49 :: y) = true
  | [], x, y => by simp [Op.bytesLess]
  | a :: p, x, y => by
    have := bl_app p x y
    simp only [List.cons_append, Op.bytesLess, this]
    simp

theorem adL_pw : ∀ (t : Tr) (p : List UInt8), (adL t p).Pairwise fun a b => Op.bytesLess a b = true
  | .leaf, p => by simp [adL]
  | .node l r, p => by
    simp only [adL]
    refine List.pairwise_append.2 ⟨adL_pw l _, adL_pw r _, fun a ha b hb => ?_⟩
    obtain ⟨x, rfl⟩ := adL_pre l _ _ ha
    obtain ⟨y, rfl⟩ := adL_pre r _ _ hb
    rw [List.append_assoc, List.append_assoc]
    exact bl_app p x y

theorem bs_toList (l : List UInt8) : (bs l).toList = l := by rw [Lib.toList_data]; simp [bs]

/-! ### Their lengths share one -/

theorem share : ∀ (t : Tr) (p : List UInt8), t.c + p.length ≤ 8 → ((adL t p).map fun a => 2 ^ (8 - a.length)).sum = 2 ^ (8 - p.length)
  | .leaf, p, _ => by simp [adL]
  | .node l r, p, h => by
    simp only [Tr.c] at h
    have h1 := share l (p ++ [48]) (by simp; omega)
    have h2 := share r (p ++ [49]) (by simp; omega)
    simp only [adL, List.map_append, List.sum_append, h1, h2]
    simp only [List.length_append, List.length_cons, List.length_nil]
    have e : 8 - p.length = (8 - (p.length + (0 + 1))) + 1 := by omega
    rw [e, Nat.pow_succ]
    omega

theorem adL_h : ∀ (t : Tr) (p a : List UInt8), a ∈ adL t p → t.c + p.length ≤ 8 → a.length ≤ 8 := fun t p a h hc => by
  have := adL_bound t p a h
  omega

/-! ### Exposed carets -/

theorem exL_ne : ∀ (t : Tr) (k : Nat), 0 < t.c → exL t k ≠ []
  | .leaf, k, h => by simp [Tr.c] at h
  | .node l r, k, h => by
    rw [exL_node]
    split
    · simp
    · rename_i g
      intro e
      rw [List.append_eq_nil_iff] at e
      cases l with
      | leaf => cases r with
        | leaf => exact g ⟨rfl, rfl⟩
        | node a b => exact exL_ne _ _ (by simp only [Tr.c]; omega) e.2
      | node a b => exact exL_ne _ _ (by simp only [Tr.c]; omega) e.1

theorem grf_wo : ∀ (t : Tr) (k : Nat), k ∈ exL t 0 → grf (wo t k) k (.node .leaf .leaf) = t
  | .leaf, k, h => by simp [exL] at h
  | .node l r, k, h => by
    rw [exL_node] at h
    rw [wo_node]
    split at h
    · rename_i g
      rw [if_pos g]
      cases l with
      | node => simp [Tr.isLeaf] at g
      | leaf => cases r with
        | node => simp [Tr.isLeaf] at g
        | leaf => rfl
    · rename_i g
      rw [if_neg g]
      rcases List.mem_append.1 h with h | h
      · have hr := exL_range l 0 k h
        have hc := wo_c l k h
        rw [if_neg (by omega), grf, if_pos (by omega), grf_wo l k h]
      · have hr := exL_range r _ k h
        obtain ⟨m, rfl⟩ : ∃ m, k = m + (l.c + 1) := ⟨k - (l.c + 1), by omega⟩
        rw [show 0 + l.c + 1 = 0 + (l.c + 1) by omega, exL_shift] at h
        obtain ⟨m', hm, e⟩ := List.mem_map.1 h
        have e' : m' = m := by omega
        subst e'
        rw [if_pos (by omega), Nat.add_sub_cancel, grf, if_neg (by omega), Nat.add_sub_cancel, grf_wo r m' hm]

/-! ### Draws -/

theorem drawDr_SC {l : List Int} (h : ∀ x ∈ l, 0 ≤ x ∧ x ≤ 255) (hl : l.length ≤ 2 ^ 20) : ∃ (t : List UInt8) (k : Int), t.length ≤ 2 ^ 10 ∧ SC cfg.P i_spec_DrawDropExposed [.s (.v (.sl (.int .u8)) l)] (.tup [.v .str (bs t), .v (.int .i64) k]) [] := by
  have hc : CurOk 0 (l, ((0 : Int), (0 : Int))) := ⟨Int.le_refl _, Int.le_refl _, by show l.length ≤ _; omega, h⟩
  obtain ⟨t, c1, ht, h1, s1⟩ := tree_SC hc (by omega) 7 (by omega)
  obtain ⟨t, rfl⟩ := bs_ex t
  rw [bs_size] at ht
  have hi := trIs_SC t (by omega)
  cases g : isTree t with
  | false =>
    rw [g] at hi
    obtain ⟨r, c2, hr, h2, s2⟩ := pick_SC h1 (by omega) 9 (by omega)
    exact ⟨t, _, ht, spec_DrawDropExposed_p4 _ _ _ _ _ s1 hi s2⟩
  | true =>
    rw [g] at hi
    obtain ⟨b, c2, h2, s2⟩ := one_SC h1 (by omega) 3 (by omega)
    cases b with
    | true =>
      obtain ⟨r, c3, hr, h3, s3⟩ := pick_SC h2 (by omega) 9 (by omega)
      exact ⟨t, _, ht, spec_DrawDropExposed_p1 _ _ _ _ _ _ s1 hi s2 s3⟩
    | false =>
      have hx := trEx_of g
      have hle := exO_len t
      by_cases hz : ((List.length (exO t) : Nat) : Int) > (0 : Int)
      · obtain ⟨r, c3, hr, h3, s3⟩ := pick_SC h2 (by omega) ((List.length (exO t) : Nat) : Int) (by omega)
        exact ⟨t, _, ht, spec_DrawDropExposed_p2 _ _ _ _ _ _ _ s1 hi s2 hx hz s3 (by omega) (by omega) (by omega)⟩
      · obtain ⟨r, c3, hr, h3, s3⟩ := pick_SC h2 (by omega) 9 (by omega)
        exact ⟨t, _, ht, spec_DrawDropExposed_p3 _ _ _ _ _ _ _ s1 hi s2 hx hz s3⟩

theorem strs_ex : ∀ L : List ByteArray, ∃ M : List (List UInt8), L = strs' M
  | [] => ⟨[], rfl⟩
  | x :: L => by
    obtain ⟨a, rfl⟩ := bs_ex x
    obtain ⟨M, rfl⟩ := strs_ex L
    exact ⟨a :: M, rfl⟩

theorem drawTw_SC {l : List Int} (h : ∀ x ∈ l, 0 ≤ x ∧ x ≤ 255) (hl : l.length ≤ 2 ^ 20) : ∃ L : List (List UInt8), L.length ≤ 2 ^ 20 ∧ SC cfg.P i_spec_DrawTreeWith [.s (.v (.sl (.int .u8)) l)] (.s (.v (.sl .str) (strs' L))) [] := by
  have hc : CurOk 0 (l, ((0 : Int), (0 : Int))) := ⟨Int.le_refl _, Int.le_refl _, by show l.length ≤ _; omega, h⟩
  obtain ⟨r, c1, hr, h1, s1⟩ := pick_SC hc (by omega) 7 (by omega)
  obtain ⟨t, c2, ht, h2, s2⟩ := sureTree_SC h1 r (by omega) (by omega)
  have s3 := trAddresses_SC t [] (by omega) (by simp; omega)
  have hn := adL_len t []
  have hn' : List.length (strs' (adL t [])) = t.c + 1 := by rw [List.length_map]; exact hn
  obtain ⟨q, c3, hq, h3, s4⟩ := pick_SC h2 (by omega) 6 (by omega)
  have ex : ∃ M : List ByteArray, M.length ≤ 2 ^ 20 ∧ SC cfg.P i_spec_DrawTreeWith [.s (.v (.sl (.int .u8)) l)] (.s (.v (.sl .str) M)) [] := by
    by_cases q0 : (q : Int) = 0
    · obtain ⟨i, c4, hi, h4, s5⟩ := pick_SC h3 (by omega) ((List.length (strs' (adL t [])) : Nat) : Int) (by omega)
      obtain ⟨x, c5, hx, h5, s6⟩ := of_SC h4 (by omega) [(⟨#[]⟩ : ByteArray), (⟨#[48]⟩ : ByteArray), (⟨#[49]⟩ : ByteArray), (⟨#[48, 49]⟩ : ByteArray), (⟨#[50]⟩ : ByteArray), (⟨#[48, 48, 48, 48, 48, 48, 48, 48, 48]⟩ : ByteArray)] (by decide) (by decide)
      exact ⟨_, by rw [List.length_set]; omega, (spec_DrawTreeWith_p1 _ _ _ _ _ _ _ _ _ _ _ _ s1 s2 s3 s4 q0 s5 s6 (by omega) (by omega) (by omega)).view⟩
    · by_cases q1 : (q : Int) = 1
      · have w : IntKind.wrap .i64 (((List.length (strs' (adL t [])) : Nat) : Int) - (1 : Int)) = (t.c : Int) := by rw [w64] <;> omega
        have := spec_DrawTreeWith_p2 _ _ _ _ _ _ _ _ s1 s2 s3 s4 q0 q1 (by rw [w]; omega) (by rw [w]; omega)
        refine ⟨_, ?_, this⟩
        unfold cutL
        rw [List.length_drop, List.length_take]
        omega
      · by_cases q2 : (q : Int) = 2
        · exact ⟨_, by rw [List.length_append, List.length_singleton]; omega, (spec_DrawTreeWith_p3 _ _ _ _ _ _ _ _ s1 s2 s3 s4 q0 q1 q2 (zokS _ _ (by rw [List.length_singleton]; omega))).view⟩
        · exact ⟨_, by omega, (spec_DrawTreeWith_p4 _ _ _ _ _ _ _ _ s1 s2 s3 s4 q0 q1 q2).view⟩
  obtain ⟨M, hM, s⟩ := ex
  obtain ⟨L, rfl⟩ := strs_ex M
  exact ⟨L, by rw [← List.length_map (f := bs)]; exact hM, s⟩

end Go.AI
