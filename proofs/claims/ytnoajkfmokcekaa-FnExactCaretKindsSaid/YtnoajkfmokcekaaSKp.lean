/- Contracts: parsing; the law of the kinds of carets. -/
import Derived.Test.YtnoajkfmokcekaaSKm
import Derived.Test.YtnoajkfmokcekaaSKl
set_option autoImplicit false
set_option maxRecDepth 100000
set_option linter.unusedVariables false
namespace Go.AI
open Go.Proofs

def rd (l : List UInt8) : Option (Tr × List UInt8) := pd (l.length + 1) l

theorem rd_pd {d : Nat} {l : List UInt8} (h : l.length < d) : pd d l = rd l := pd_big h (by omega)

theorem extr_tail (c : UInt8) (r : List UInt8) : ByteArray.extract (bs (c :: r)) ((1 : Int)).toNat (((bs (c :: r)).size : Int)).toNat = bs r := by
  rw [bs_extract]
  congr 1
  rw [bs_size, Int.toNat_natCast]
  simp

def rdT (l : List UInt8) : Tr := match rd l with | some (t, _) => t | none => .leaf
def rdR (l : List UInt8) : List UInt8 := match rd l with | some (_, r) => r | none => []

theorem read_SC : ∀ (n : Nat) (l : List UInt8), l.length ≤ n → l.length ≤ 2 ^ 40 →
    SC cfg.P i_impl_read [.s (.v .str (bs l))] (.tup [.v .tree (rdT l), .v .str (bs (rdR l)), .v .bool (rd l).isSome]) [] := by
  intro n
  induction n with
  | zero =>
    intro l hl _
    have : l = [] := List.eq_nil_of_length_eq_zero (by omega)
    subst this
    exact impl_read_p1 _ rfl
  | succ n ih =>
    intro l hl hb
    cases l with
    | nil => exact impl_read_p1 _ rfl
    | cons c r =>
      simp only [List.length_cons] at hl hb
      have hne : bs (c :: r) ≠ (⟨#[]⟩ : ByteArray) := by
        intro e
        have : bs (c :: r) = bs [] := e
        rw [bs_inj] at this
        cases this
      have g1 : (0 : Int) < ((bs (c :: r)).size : Int) := by rw [bs_size, List.length_cons]; omega
      have g2 : (1 : Int) ≤ ((bs (c :: r)).size : Int) := by rw [bs_size, List.length_cons]; omega
      have e0 : rd (c :: r) = if c = 46 then some (.leaf, r) else if c = 40 then match rd r with
          | none => none
          | some (L, r1) => match rd r1 with
            | none => none
            | some (R, r2) => match r2 with
              | [] => none
              | c2 :: r3 => if c2 = 41 then some (.node L R, r3) else none
        else none := by
        show pd (r.length + 1 + 1) (c :: r) = _
        simp only [pd]
        split
        · rfl
        · split
          · show (match rd r with
              | none => none
              | some (L, r1) => match pd (r.length + 1) r1 with
                | none => none
                | some (R, r2) => match r2 with
                  | [] => none
                  | c2 :: r3 => if c2 = 41 then some (Tr.node L R, r3) else none) = _
            cases h1 : rd r with
            | none => rfl
            | some x =>
              obtain ⟨L, r1⟩ := x
              have := pd_len h1
              simp only
              rw [rd_pd (by omega : r1.length < r.length + 1)]
          · rfl
      by_cases h46 : c = 46
      · have er : rd (c :: r) = some (.leaf, r) := by rw [e0, if_pos h46]
        have := impl_read_p2 (bs (c :: r)) hne g1 (by rw [bt_cons, h46]; rfl) g2
        rw [extr_tail] at this
        simp only [rdT, rdR, er, Option.isSome]
        exact this
      · have n46 : bt (bs (c :: r)) 0 ≠ 46 := by rw [bt_cons]; intro e; exact h46 ((byte_eq c 46).1 e)
        rw [if_neg h46] at e0
        by_cases h40 : c = 40
        · have y40 : bt (bs (c :: r)) 0 = 40 := by rw [bt_cons, h40]; rfl
          rw [if_pos h40] at e0
          have ih1 := ih r (by omega) (by omega)
          rw [← extr_tail c r] at ih1
          cases h1 : rd r with
          | none =>
            rw [h1] at e0
            have er : rd (c :: r) = none := e0
            simp only [rdT, rdR, h1, Option.isSome] at ih1
            simp only [rdT, rdR, er, Option.isSome]
            exact impl_read_p8 _ _ _ hne g1 n46 y40 g2 ih1
          | some x =>
            obtain ⟨L, r1⟩ := x
            have hl1 := pd_len h1
            rw [h1] at e0
            simp only at e0
            simp only [rdT, rdR, h1, Option.isSome] at ih1
            have ih2 := ih r1 (by omega) (by omega)
            cases h2 : rd r1 with
            | none =>
              rw [h2] at e0
              have er : rd (c :: r) = none := e0
              simp only [rdT, rdR, h2, Option.isSome] at ih2
              simp only [rdT, rdR, er, Option.isSome]
              exact impl_read_p7 _ _ _ _ _ hne g1 n46 y40 g2 ih1 ih2
            | some y =>
              obtain ⟨R, r2⟩ := y
              rw [h2] at e0
              simp only at e0
              simp only [rdT, rdR, h2, Option.isSome] at ih2
              cases r2 with
              | nil =>
                have er : rd (c :: r) = none := e0
                simp only [rdT, rdR, er, Option.isSome]
                exact impl_read_p4 _ _ _ _ _ hne g1 n46 y40 g2 ih1 ih2 rfl
              | cons c2 r3 =>
                have hne2 : bs (c2 :: r3) ≠ (⟨#[]⟩ : ByteArray) := by
                  intro e
                  have : bs (c2 :: r3) = bs [] := e
                  rw [bs_inj] at this
                  cases this
                have g3 : (0 : Int) < ((bs (c2 :: r3)).size : Int) := by rw [bs_size, List.length_cons]; omega
                have g4 : (1 : Int) ≤ ((bs (c2 :: r3)).size : Int) := by rw [bs_size, List.length_cons]; omega
                simp only at e0
                by_cases h41 : c2 = 41
                · have er : rd (c :: r) = some (.node L R, r3) := by rw [e0, if_pos h41]
                  have := impl_read_p6 _ _ _ _ _ hne g1 n46 y40 g2 ih1 ih2 hne2 g3 (by rw [bt_cons, h41]; rfl) g4
                  rw [extr_tail] at this
                  simp only [rdT, rdR, er, Option.isSome]
                  exact this
                · have er : rd (c :: r) = none := by rw [e0, if_neg h41]
                  simp only [rdT, rdR, er, Option.isSome]
                  exact impl_read_p5 _ _ _ _ _ hne g1 n46 y40 g2 ih1 ih2 hne2 g3 (by rw [bt_cons]; intro e; exact h41 ((byte_eq c2 41).1 e))
        · have er : rd (c :: r) = none := by rw [e0, if_neg h40]
          simp only [rdT, rdR, er, Option.isSome]
          exact impl_read_p3 _ hne g1 n46 (by rw [bt_cons]; intro e; exact h40 ((byte_eq c 40).1 e))

theorem carets_SC : ∀ (t : Tr), t.c ≤ 2 ^ 40 → SC cfg.P i_impl_node_carets [.s (.v .tree t)] (.s (.v (.int .i64) (t.c : Int))) []
  | .leaf, _ => impl_node_carets_p1
  | .node l r, h => by
    simp only [Tr.c] at h
    have := impl_node_carets_p2 l r (l.c : Int) (r.c : Int) (carets_SC l (by omega)) (carets_SC r (by omega))
    have e1 : IntKind.wrap .i64 ((1 : Int) + (l.c : Int)) = 1 + (l.c : Int) := by rw [w64] <;> omega
    have e2 : IntKind.wrap .i64 ((1 : Int) + (l.c : Int) + (r.c : Int)) = ((1 + l.c + r.c : Nat) : Int) := by rw [w64] <;> omega
    rw [e1, e2] at this
    exact this

/-- The tree that a text is, or a leaf. -/
def treeOf (l : List UInt8) : Tr := if isTree l = true then rdT l else .leaf

theorem treeOf_txt {l : List UInt8} (h : isTree l = true) : l = txt (treeOf l) ∧ (treeOf l).c ≤ 8 := by
  obtain ⟨t, rfl, hc⟩ := (isTree_iff l).1 h
  have hr : rd (txt t) = some (t, []) := by
    have := pd_txt t ((txt t).length + 1) [] (by have := t.h_le; rw [txt_len]; omega)
    rw [List.append_nil] at this
    exact this
  have : treeOf (txt t) = t := by rw [treeOf, if_pos h, rdT, hr]
  rw [this]
  exact ⟨rfl, hc⟩

theorem parse_SC (l : List UInt8) (hl : l.length ≤ 2 ^ 40) : SC cfg.P i_impl_parse [.s (.v .str (bs l))] (.tup [.v .tree (treeOf l), .v .bool (isTree l)]) [] := by
  have hread := read_SC l.length l (Nat.le_refl _) hl
  cases ht : isTree l with
  | true =>
    obtain ⟨h1, h2⟩ := treeOf_txt ht
    have hll : l.length = 3 * (treeOf l).c + 1 := by rw [← txt_len, ← h1]
    have hr : rd l = some (treeOf l, []) := by
      have := pd_txt (treeOf l) (l.length + 1) [] (by have := (treeOf l).h_le; omega)
      rw [List.append_nil, ← h1] at this
      exact this
    have hlen : l.length ≤ 25 := by omega
    simp only [rdT, rdR, hr, Option.isSome] at hread
    exact impl_parse_p4 _ _ _ _ (by rw [bs_size]; omega) hread rfl (carets_SC _ (by omega)) (by omega)
  | false =>
    have hleaf : treeOf l = .leaf := by rw [treeOf, ht, if_neg (by decide)]
    rw [hleaf]
    by_cases h25 : l.length ≤ 25
    · have g1 : ¬ (((bs l).size : Int) > 25) := by rw [bs_size]; omega
      cases hr : rd l with
      | none =>
        simp only [rdT, rdR, hr, Option.isSome] at hread
        exact impl_parse_p5 _ _ _ g1 hread
      | some x =>
        obtain ⟨t, r⟩ := x
        simp only [rdT, rdR, hr, Option.isSome] at hread
        cases r with
        | nil =>
          have h1 := (pd_some hr).1
          rw [List.append_nil] at h1
          have hc : ¬ t.c ≤ 8 := by
            intro hc
            have := (isTree_iff l).2 ⟨t, h1, hc⟩
            rw [ht] at this
            cases this
          have hlen : l.length = 3 * t.c + 1 := by rw [h1, txt_len]
          exact impl_parse_p3 _ _ _ _ g1 hread rfl (carets_SC _ (by omega)) (by omega)
        | cons c r =>
          refine impl_parse_p2 _ _ _ g1 hread ?_
          intro e
          have : bs (c :: r) = bs [] := e
          rw [bs_inj] at this
          cases this
    · exact impl_parse_p1 _ (by rw [bs_size]; omega)

/-! ### CaretKinds -/

def ckL (l : List UInt8) : List ByteArray := if isTree l = true then kindsL (mkT (treeOf l) 0 true) else []

theorem ckL_len (l : List UInt8) : (ckL l).length ≤ 8 := by
  unfold ckL
  split
  · rename_i h
    rw [kindsL_length, mkT_len]
    exact (treeOf_txt h).2
  · simp

theorem implCK_SC (l : List UInt8) (hl : l.length ≤ 2 ^ 40) : SC cfg.P i_impl_CaretKinds [.s (.v .str (bs l))] (.tup [.own t_string .str (ckL l), .v .bool (isTree l)]) [] := by
  have hp := parse_SC l hl
  cases ht : isTree l with
  | true =>
    rw [ht] at hp
    have h2 := (treeOf_txt ht).2
    have e : ckL l = kindsL (mkT (treeOf l) 0 true) := by rw [ckL, if_pos ht]
    rw [e]
    exact impl_CaretKinds_p1 _ _ _ hp (kinds_SC _ (by omega))
  | false =>
    rw [ht] at hp
    have e : ckL l = [] := by rw [ckL, ht, if_neg (by decide)]
    rw [e]
    exact impl_CaretKinds_p2 _ _ hp

theorem specCK_SC (l : List UInt8) (hl : l.length ≤ 2 ^ 40) : SC cfg.P i_spec_CaretKinds [.s (.v .str (bs l))] (.tup [.own t_string .str (ckL l), .v .bool (isTree l)]) [] := by
  have hp := trIs_SC l hl
  cases ht : isTree l with
  | true =>
    rw [ht] at hp
    obtain ⟨h1, h2⟩ := treeOf_txt ht
    have e : ckL l = kindsL (mkT (treeOf l) 0 true) := by rw [ckL, if_pos ht]
    have hk := lnKinds_SC (treeOf l) (by omega)
    rw [← h1, ← e] at hk
    exact spec_CaretKinds_p1 _ _ hp hk
  | false =>
    rw [ht] at hp
    have e : ckL l = [] := by rw [ckL, ht, if_neg (by decide)]
    rw [e]
    exact spec_CaretKinds_p2 _ hp

/-- THE LAW. -/
theorem law_CK (s : ByteArray) : SC cfg.P i_laws_FnExactCaretKinds [.s (.v .str s)] (.s (.v .bool true)) [] := by
  obtain ⟨l, rfl⟩ := bs_ex s
  by_cases h : l.length ≤ 1048576
  · have h1 := specCK_SC l (by omega)
    have h2 := implCK_SC l (by omega)
    have hlen := ckL_len l
    have heq := eqStringS_SC (ckL l) (by omega)
    have hm := markStringS_SC (ckL l) (by omega) 1 (by omega) (by omega)
    have hh := heldStringS_SC 1 (ckL l).length (by omega) (by omega) (by omega)
    exact laws_FnExactCaretKinds_p8 _ _ _ _ _ _ _ _ _ _ _ (by rw [bs_size]; omega) h1 h2 heq (by simp) hm hh (by omega) rfl h2 heq (by simp) hh (by omega) rfl
  · exact laws_FnExactCaretKinds_p1 _ (by rw [bs_size]; omega)

end Go.AI
