/- The law of KindsOfCarets. -/
import Derived.Test.YtdfllkeekehplaaFxA
import Derived.Test.YtdfllkeekehplaaGA
import Derived.Test.YtdfllkeekehplaaDc
import Derived.Test.YtdfllkeekehplaaCSm
import Derived.Test.YtdfllkeekehplaaAiH
set_option autoImplicit false
set_option maxRecDepth 100000
set_option linter.unusedVariables false
namespace Go.AI
open Go.Proofs

/-! ### Kinds -/

theorem at_R0 {M : List Mk} {i : Nat} (h : kindAt M i = sR0) (hi : i + 1 < M.length) : kindAt M (i + 1) = sR0 := by
  unfold kindAt at h ⊢
  rw [if_neg (by omega)]
  by_cases e0 : i = 0
  · rw [if_pos e0] at h; exact absurd h (by decide)
  rw [if_neg e0] at h
  by_cases e1 : (M.getD i (0, false)).1 = 0
  · rw [if_pos e1] at h; exact absurd h (by decide)
  rw [if_neg e1] at h
  by_cases e2 : (M.getD i (0, false)).1 = 1
  · rw [if_pos e2] at h
    by_cases e3 : notR (M.drop i) = true
    · rw [if_pos e3] at h
      split at h <;> exact absurd h (by decide)
    · have hall : ∀ m ∈ M.drop i, m.1 = 1 := fun m hm => by
        by_cases g : m.1 = 1
        · exact g
        · exfalso
          apply e3
          unfold notR
          rw [List.any_eq_true]
          exact ⟨m, hm, by simp [g]⟩
      have hd : M.drop i = M[i] :: M.drop (i + 1) := List.drop_eq_getElem_cons (by omega)
      have hd2 : M.drop (i + 1) = M[i + 1] :: M.drop (i + 2) := List.drop_eq_getElem_cons (by omega)
      have hg : M.getD (i + 1) (0, false) = M[i + 1] := by rw [List.getD_eq_getElem?_getD, List.getElem?_eq_getElem hi]; rfl
      have h1 : (M.getD (i + 1) (0, false)).1 = 1 := by rw [hg]; exact hall _ (hd ▸ List.mem_cons_of_mem _ (hd2 ▸ List.mem_cons_self))
      have h2 : ¬ notR (M.drop (i + 1)) = true := by
        unfold notR
        rw [List.any_eq_true]
        rintro ⟨m, hm, g⟩
        have := hall m (hd ▸ List.mem_cons_of_mem _ hm)
        simp [this] at g
      rw [if_neg (by omega), if_pos h1, if_neg h2]
  · rw [if_neg e2] at h
    split at h <;> exact absurd h (by decide)

theorem at_RI {M : List Mk} {i : Nat} (h : kindAt M i = sRI) : i + 1 < M.length ∧ (kindAt M (i + 1) = sI0 ∨ kindAt M (i + 1) = sIR) := by
  unfold kindAt at h
  by_cases e0 : i = 0
  · rw [if_pos e0] at h; exact absurd h (by decide)
  rw [if_neg e0] at h
  by_cases e1 : (M.getD i (0, false)).1 = 0
  · rw [if_pos e1] at h; exact absurd h (by decide)
  rw [if_neg e1] at h
  by_cases e2 : (M.getD i (0, false)).1 = 1
  · rw [if_pos e2] at h
    by_cases e3 : notR (M.drop i) = true
    · rw [if_pos e3] at h
      by_cases e4 : (M.getD (i + 1) (0, false)).1 = 2
      · have hi : i + 1 < M.length := by
          by_cases g : i + 1 < M.length
          · exact g
          · rw [List.getD_eq_getElem?_getD, List.getElem?_eq_none (by omega)] at e4
            exact absurd e4 (by decide)
        refine ⟨hi, ?_⟩
        unfold kindAt
        rw [if_neg (by omega), if_neg (by omega), if_neg (by omega)]
        split
        · exact .inl rfl
        · exact .inr rfl
      · rw [if_neg e4] at h; exact absurd h (by decide)
    · rw [if_neg e3] at h; exact absurd h (by decide)
  · rw [if_neg e2] at h
    split at h <;> exact absurd h (by decide)

theorem at_L0 {M : List Mk} {i : Nat} (h : 0 < i) (hi : i < M.length) : kindAt M i ≠ sL0 := by
  rw [kindAt_kd M i h hi]
  have key : ∀ x ∈ six, x ≠ sL0 := by decide
  exact key _ (kd_six _ _)

theorem tab_diag : ∀ x ∈ sL0 :: six, 0 ≤ tabV x x ∧ tabV x x ≤ 4 ∧ tabQ x x = true := by decide +kernel

theorem at_diag {M : List Mk} {i : Nat} (hi : i < M.length) : 0 ≤ tabV (kindAt M i) (kindAt M i) ∧ tabV (kindAt M i) (kindAt M i) ≤ 4 ∧ tabQ (kindAt M i) (kindAt M i) = true := by
  refine tab_diag _ ?_
  by_cases e : i = 0
  · have : kindAt M i = sL0 := by unfold kindAt; rw [if_pos e]
    rw [this]; simp
  · rw [kindAt_kd M i (by omega) hi]
    exact List.mem_cons_of_mem _ (kd_six _ _)

theorem kc_L (more : List Int) (t : ByteArray) (M : List Mk) (hM : M.length ≤ 2 ^ 20) : ∀ (m i : Nat) (a : Int), M.length - i = m → i ≤ M.length → 0 ≤ a → a ≤ 4 * (i : Int) →
    ∃ a', 0 ≤ a' ∧ LoopSC cfg.P 2 (lb P_laws_FnKindsOfCarets 0) (laws_FnKindsOfCarets_L0a more t a ((M.length : Nat) : Int) (i : Int) (kindsL M)) (.exit 0) (laws_FnKindsOfCarets_L0X2 more t a' ((M.length : Nat) : Int) ((M.length : Nat) : Int) false (kindsL M)) := by
  intro m
  have hl : (List.length (kindsL M)) = M.length := kindsL_length M
  induction m with
  | zero =>
    intro i a hm hi ha hb
    have e : i = M.length := by omega
    subst e
    exact ⟨a, ha, laws_FnKindsOfCarets_L0a_x52 _ _ _ _ _ _ (by omega)⟩
  | succ m ih =>
    intro i a hm hi ha hb
    have hlt : i < M.length := by omega
    obtain ⟨d1, d2, d3⟩ := at_diag hlt
    have hg : List.getD (kindsL M) ((i : Int)).toNat (⟨#[]⟩ : ByteArray) = kindAt M i := by rw [Int.toNat_natCast]; exact kindsL_get M i hlt
    have w := wrap_succ (i := i) (by omega)
    have hk := kindLength_SC (kindAt M i) (kindAt M i)
    rw [d3] at hk
    have hk2 := hk
    rw [← hg] at hk2
    have hk3 : SC cfg.P i_impl_KindLength [.s (.v .str (List.getD (kindsL M) ((i : Int)).toNat (⟨#[]⟩ : ByteArray))), .s (.v .str (List.getD (kindsL M) ((i : Int)).toNat (⟨#[]⟩ : ByteArray)))] (.tup [.v (.int .i64) (tabV (kindAt M i) (kindAt M i)), .v .bool true]) [] := by
      rw [hg]; exact hk
    have wa : IntKind.wrap .i64 (a + tabV (kindAt M i) (kindAt M i)) = a + tabV (kindAt M i) (kindAt M i) := by rw [w64] <;> omega
    obtain ⟨a', h0, hn⟩ := ih (i + 1) (a + tabV (kindAt M i) (kindAt M i)) (by omega) (by omega) (by omega) (by omega)
    rw [← w, ← wa] at hn
    refine ⟨a', h0, ?_⟩
    have hg2 : ∀ _ : i + 1 < M.length, List.getD (kindsL M) (IntKind.wrap .i64 ((i : Int) + 1)).toNat (⟨#[]⟩ : ByteArray) = kindAt M (i + 1) := fun h => by rw [w, Int.toNat_natCast]; exact kindsL_get M (i + 1) h
    by_cases hi0 : 0 < i
    · have n0 : List.getD (kindsL M) ((i : Int)).toNat (⟨#[]⟩ : ByteArray) ≠ (⟨#[76, 48]⟩ : ByteArray) := by rw [hg]; exact at_L0 hi0 hlt
      by_cases hR : kindAt M i = sR0
      · have nI : List.getD (kindsL M) ((i : Int)).toNat (⟨#[]⟩ : ByteArray) ≠ (⟨#[82, 73]⟩ : ByteArray) := by rw [hg, hR]; decide
        by_cases h1 : i + 1 < M.length
        · exact laws_FnKindsOfCarets_L0a_i9 _ _ _ _ _ _ _ (by omega) (by omega) (by omega) (by omega) (by omega) n0 (by rw [hg]; exact hR) (by rw [w]; omega) (by rw [w]; omega) (by rw [w]; omega) (by rw [w, Int.toNat_natCast]; omega) (by rw [hg2 h1]; exact at_R0 hR h1) nI hk3 hn
        · exact laws_FnKindsOfCarets_L0a_i17 _ _ _ _ _ _ _ (by omega) (by omega) (by omega) (by omega) (by omega) n0 (by rw [hg]; exact hR) (by rw [w]; omega) nI hk3 hn
      · have nR : List.getD (kindsL M) ((i : Int)).toNat (⟨#[]⟩ : ByteArray) ≠ (⟨#[82, 48]⟩ : ByteArray) := by rw [hg]; exact hR
        by_cases hI : kindAt M i = sRI
        · obtain ⟨h1, h2⟩ := at_RI hI
          by_cases h3 : kindAt M (i + 1) = sI0
          · exact laws_FnKindsOfCarets_L0a_i23 _ _ _ _ _ _ _ (by omega) (by omega) (by omega) (by omega) (by omega) n0 nR (by rw [hg]; exact hI) (by rw [w]; omega) (by rw [w]; omega) (by rw [w]; omega) (by rw [w, Int.toNat_natCast]; omega) (by rw [hg2 h1]; exact h3) hk3 hn
          · exact laws_FnKindsOfCarets_L0a_i21 _ _ _ _ _ _ _ (by omega) (by omega) (by omega) (by omega) (by omega) n0 nR (by rw [hg]; exact hI) (by rw [w]; omega) (by rw [w]; omega) (by rw [w]; omega) (by rw [w, Int.toNat_natCast]; omega) (by rw [hg2 h1]; exact h3) (by rw [hg2 h1]; exact h2.resolve_left h3) hk3 hn
        · exact laws_FnKindsOfCarets_L0a_i25 _ _ _ _ _ _ _ (by omega) (by omega) (by omega) (by omega) (by omega) n0 nR (by rw [hg]; exact hI) hk3 hn
    · have e0 : i = 0 := by omega
      have hk0 : kindAt M i = sL0 := by unfold kindAt; rw [if_pos e0]
      exact laws_FnKindsOfCarets_L0a_i50 _ _ _ _ _ _ _ (by omega) (by omega) (by omega) (by omega) (by omega) (by rw [hg, hk0]; decide) (by rw [hg, hk0]; decide) hk3 hn

/-! ### Lists of texts -/

theorem nTexts_SC (l : List ByteArray) (hl : l.length ≤ 2 ^ 30) : SC cfg.P i_laws_nTexts [.s (.v (.sl .str) l), .s (.v (.sl .str) l)] (.s (.v .bool true)) [] := by
  have key : ∀ (m i : Nat), l.length - i = m → i ≤ l.length → LoopSC cfg.P 2 (lb P_laws_nTexts 0) (laws_nTexts_L0a l l (l.length : Int) (i : Int)) (.exit 0) (laws_nTexts_L0X2 l l (l.length : Int) (l.length : Int) false) := by
    intro m
    induction m with
    | zero => intro i hm hi; have e : i = l.length := by omega
              subst e; exact laws_nTexts_L0a_x3 _ _ _ _ (by omega)
    | succ m ih =>
      intro i hm hi
      have k := ih (i + 1) (by omega) (by omega)
      rw [← wrap_succ (i := i) (by omega)] at k
      exact laws_nTexts_L0a_i2 _ _ _ _ (by omega) (by omega) (by omega) (by omega) rfl k
  exact laws_nTexts_p3 _ _ _ _ _ _ _ rfl (key _ 0 rfl (by omega))

/-! ### The pair of a tree and itself -/

theorem red_same (t : Tr) : red t.c (t, t) = (.leaf, .leaf) := by
  have he := red_eqc t.c (t, t) rfl
  refine red_unique _ _ he rfl (red_done _ _ (Nat.le_refl _)) rfl fun s => ?_
  rw [fOf_red _ _ rfl]
  show emit t (walk t s).1 (walk t s).2 = s
  exact emit_walk t s

theorem len_leaf : lenT (.leaf, .leaf) = 0 := by decide +kernel

/-! ### Kinds that are drawn -/

def drawnK : List ByteArray := [sR0, sRN, sRI, sLL, sI0, sIR, sL0, sL0, (⟨#[88]⟩ : ByteArray), (⟨#[]⟩ : ByteArray)]

theorem drawn_sym : ∀ x ∈ drawnK, ∀ y ∈ drawnK, tabV x y = tabV y x ∧ tabQ x y = tabQ y x := by decide +kernel

/-- Bytes that came in. -/
def Bytes (l : List Int) : Prop := ∀ x ∈ l, 0 ≤ x ∧ x ≤ 255

theorem cur0 {l : List Int} (h : Bytes l) (hl : l.length ≤ 2 ^ 40) : CurOk 0 (l, ((0 : Int), (0 : Int))) := ⟨Int.le_refl _, Int.le_refl _, hl, h⟩

theorem drawKL_SC {l : List Int} (h : Bytes l) (hl : l.length ≤ 2 ^ 40) : ∃ a b, a ∈ drawnK ∧ b ∈ drawnK ∧ SC cfg.P i_spec_DrawKindLength [.s (.v (.sl (.int .u8)) l)] (.tup [.v .str a, .v .str b]) [] := by
  obtain ⟨a, c1, ha, h1, s1⟩ := of_SC (cur0 h hl) (by omega) drawnK (by decide) (by decide)
  obtain ⟨b, c2, hb, h2, s2⟩ := of_SC h1 (by omega) drawnK (by decide) (by decide)
  exact ⟨a, b, ha, hb, spec_DrawKindLength_p1 _ _ _ _ _ s1 s2⟩

theorem drawCK_SC {l : List Int} (h : Bytes l) (hl : l.length ≤ 2 ^ 40) : ∃ t : List UInt8, t.length ≤ 2 ^ 10 ∧ SC cfg.P i_spec_DrawCaretKinds [.s (.v (.sl (.int .u8)) l)] (.s (.v .str (bs t))) [] := by
  obtain ⟨t, c1, ht, h1, s1⟩ := tree_SC (cur0 h hl) (by omega) 8 (by decide)
  obtain ⟨t, rfl⟩ := bs_ex t
  exact ⟨t, ht, spec_DrawCaretKinds_p1 _ _ _ s1⟩

/-! ### The law -/

def ckL (l : List UInt8) : List ByteArray := if isTree l = true then kindsL (mkT (treeOf l) 0 true) else []

theorem law_Kc (a b : List Int) (_ha : a.length ≤ 2 ^ 63 - 1) (h1 : ∀ n ∈ a, (Lit.int .u8 n).wf = true) (_hb : b.length ≤ 2 ^ 63 - 1) (h2 : ∀ n ∈ b, (Lit.int .u8 n).wf = true) :
    SC cfg.P i_laws_FnKindsOfCarets [.s (.v (.sl (.int .u8)) a), .s (.v (.sl (.int .u8)) b)] (.s (.v .bool true)) [] := by
  by_cases g1 : a.length ≤ 1048576
  · have w : IntKind.wrap .i64 (1048576 - ((a.length : Nat) : Int)) = 1048576 - ((a.length : Nat) : Int) := by rw [w64] <;> omega
    by_cases g2 : a.length + b.length ≤ 1048576
    · have hbig : SC cfg.P i_laws_big [.s (.v (.sl (.int .u8)) a), .s (.v (.sl (.int .u8)) b)] (.s (.v .bool false)) [] := laws_big_p3 _ _ (by omega) (by rw [w]; omega)
      obtain ⟨t, ht, sD⟩ := drawCK_SC (fun x hx => byte_wf (h1 x hx)) (by omega)
      obtain ⟨x, y, hx, hy, sK⟩ := drawKL_SC (fun x hx => byte_wf (h2 x hx)) (by omega)
      obtain ⟨e1, e2⟩ := drawn_sym x hx y hy
      have k1 := kindLength_SC x y
      have k2 := spec_KindLength_p1 x y _ _ (lnTable_SC x y)
      have k3 := kindLength_SC y x
      rw [← e1, ← e2] at k3
      have hp := parse_SC t (by omega)
      have hi := trIs_SC t (by omega)
      cases hT : isTree t with
      | false =>
        rw [hT] at hp hi
        exact laws_FnKindsOfCarets_p4 _ _ _ _ _ _ _ _ _ _ _ _ _ _ hbig sD (impl_CaretKinds_p2 _ _ hp) (spec_CaretKinds_p2 _ hi) rfl (nTexts_SC [] (by simp)) sK k1 k2 k3 rfl rfl rfl rfl
      | true =>
        rw [hT] at hp hi
        obtain ⟨et, hc⟩ := treeOf_txt hT
        have hkk := kinds_SC (treeOf t) (by omega)
        have hlk := lnKinds_SC (treeOf t) (by omega)
        rw [← et] at hlk
        have hM : (mkT (treeOf t) 0 true).length = (treeOf t).c := mkT_len _ _ _
        have hlen : (kindsL (mkT (treeOf t) 0 true)).length = (treeOf t).c := by rw [kindsL_length, hM]
        have hC := impl_CaretsOf_p1 _ _ _ _ hp (carets_SC (treeOf t) (by omega))
        have hnt := nTexts_SC (kindsL (mkT (treeOf t) 0 true)) (by omega)
        obtain ⟨a', h0, hL⟩ := kc_L b (bs t) (mkT (treeOf t) 0 true) (by omega) _ 0 0 rfl (by omega) (by omega) (by omega)
        have hL' : LoopSC cfg.P 2 (lb P_laws_FnKindsOfCarets 0) (laws_FnKindsOfCarets_L0a b (bs t) 0 ((List.length (kindsL (mkT (treeOf t) 0 true)) : Nat) : Int) 0 (kindsL (mkT (treeOf t) 0 true))) (.exit 0) (laws_FnKindsOfCarets_L0X2 b (bs t) a' (((mkT (treeOf t) 0 true).length : Nat) : Int) (((mkT (treeOf t) 0 true).length : Nat) : Int) false (kindsL (mkT (treeOf t) 0 true))) := by
          rw [kindsL_length]; exact hL
        have hpo := pairOf_SC t t (by omega) (by omega)
        have hip : isPair t t = true := by unfold isPair; rw [hT]; simp
        rw [hip] at hpo
        have hlg := length_SC (treeOf t, treeOf t) rfl (by simp only; omega)
        have hz : lenT (red (treeOf t, treeOf t).1.c (treeOf t, treeOf t)) = 0 := by
          show lenT (red (treeOf t).c (treeOf t, treeOf t)) = 0
          rw [red_same, len_leaf]
        rw [hz] at hlg
        have hLO := impl_LengthOf_p1 _ _ _ hpo hlg
        by_cases hz0 : (treeOf t).c = 0
        · exact laws_FnKindsOfCarets_p3 _ _ _ _ _ _ _ _ _ _ _ _ _ _ _ _ _ _ _ _ _ _ _ hbig sD (impl_CaretKinds_p1 _ _ _ hp hkk) (spec_CaretKinds_p1 _ _ hi hlk) rfl hnt hC (by rw [hlen]) (by omega) hL' hLO rfl (by omega) sK k1 k2 k3 rfl rfl rfl rfl
        · have hg0 : List.getD (kindsL (mkT (treeOf t) 0 true)) ((0 : Int)).toNat (⟨#[]⟩ : ByteArray) = (⟨#[76, 48]⟩ : ByteArray) := by
            show List.getD (kindsL (mkT (treeOf t) 0 true)) 0 _ = _
            rw [kindsL_get _ 0 (by omega)]
            rfl
          exact laws_FnKindsOfCarets_p2 _ _ _ _ _ _ _ _ _ _ _ _ _ _ _ _ _ _ _ _ _ _ _ hbig sD (impl_CaretKinds_p1 _ _ _ hp hkk) (spec_CaretKinds_p1 _ _ hi hlk) rfl hnt hC (by rw [hlen]) (by omega) (by omega) (by show 0 < _; omega) hg0 hL' hLO rfl (by omega) sK k1 k2 k3 rfl rfl rfl rfl
    · exact laws_FnKindsOfCarets_p1 _ _ (laws_big_p2 _ _ (by omega) (by rw [w]; omega))
  · exact laws_FnKindsOfCarets_p1 _ _ (laws_big_p1 _ _ (by omega))

end Go.AI
