/- Contracts: trees and their texts. -/
import Derived.Test.YtnhjfdkogbelaaaGZ
import Derived.Test.YtnhjfdkogbelaaaAiG
set_option autoImplicit false
set_option maxRecDepth 100000
set_option linter.unusedVariables false
namespace Go.AI
open Go.Proofs

/-- Where the tree ends that begins at a place. -/
def endOf (l : List UInt8) (k d : Nat) : Int := match pd d (l.drop k) with
  | none => -1
  | some (_, r) => (l.length : Int) - r.length

theorem drop_of {l r : List UInt8} (h : ∃ p, l = p ++ r) : l.drop (l.length - r.length) = r := by
  obtain ⟨p, rfl⟩ := h
  simp

theorem trEnd_SC : ∀ (d : Nat) (l : List UInt8) (k : Nat), d ≤ 61 → l.length ≤ 2 ^ 40 → k ≤ 2 ^ 40 →
    SC cfg.P i_spec_trEnd [.s (.v .str (bs l)), .s (.v (.int .i64) (k : Int)), .s (.v (.int .i64) (61 - d : Int))] (.s (.v (.int .i64) (endOf l k d))) [] := by
  intro d
  induction d with
  | zero =>
    intro l k _ hl hk
    have e : endOf l k 0 = -1 := by simp [endOf, pd]
    rw [e]
    by_cases h : l.length ≤ k
    · exact spec_trEnd_p1 _ _ _ (by rw [bs_size]; omega)
    · exact spec_trEnd_p2 _ _ _ (by rw [bs_size]; omega) (by omega)
  | succ d ih =>
    intro l k hd hl hk
    by_cases h : l.length ≤ k
    · have e : endOf l k (d + 1) = -1 := by simp [endOf, List.drop_eq_nil_of_le h, pd]
      rw [e]
      exact spec_trEnd_p1 _ _ _ (by rw [bs_size]; omega)
    · have hlt : k < l.length := by omega
      obtain ⟨c, r, hcr⟩ : ∃ c r, l.drop k = c :: r := ⟨_, _, (List.drop_eq_getElem_cons hlt)⟩
      have hc : l.getD k 0 = c := by
        have : (l.drop k)[0]? = some c := by rw [hcr]; rfl
        rw [List.getElem?_drop] at this
        simp only [Nat.add_zero] at this
        simp only [List.getD_eq_getElem?_getD, this, Option.getD]
      have hr : l.drop (k + 1) = r := by
        have : (l.drop k).drop 1 = r := by rw [hcr]; rfl
        rw [List.drop_drop] at this
        exact this
      have hrl : r.length + k + 1 = l.length := by
        have := congrArg List.length hcr
        simp at this
        omega
      have hbt : bt (bs l) (k : Int) = (c.toNat : Int) := by rw [bs_bt, Int.toNat_natCast, hc]
      have g1 : ¬ ((k : Int) ≥ ((bs l).size : Int)) := by rw [bs_size]; omega
      have g2 : ¬ ((61 - ((d + 1 : Nat) : Int)) > 60) := by omega
      have g3 : (0 : Int) ≤ k := by omega
      have g4 : (k : Int) < ((bs l).size : Int) := by rw [bs_size]; omega
      have ek : IntKind.wrap .i64 ((k : Int) + 1) = ((k + 1 : Nat) : Int) := by rw [w64] <;> omega
      have ed : IntKind.wrap .i64 ((61 - ((d + 1 : Nat) : Int)) + 1) = (61 - (d : Int)) := by rw [w64] <;> omega
      by_cases h46 : c = 46
      · have e : endOf l k (d + 1) = IntKind.wrap .i64 ((k : Int) + 1) := by
          rw [ek]; simp only [endOf, hcr, pd, h46, if_true]; omega
        rw [e]
        exact spec_trEnd_p3 _ _ _ g1 g2 g3 g4 (by rw [hbt, h46]; rfl)
      · have n46 : bt (bs l) (k : Int) ≠ 46 := by rw [hbt]; intro e; exact h46 ((byte_eq c 46).1 e)
        by_cases h40 : c = 40
        · have y40 : bt (bs l) (k : Int) = 40 := by rw [hbt, h40]; rfl
          have ih1 := ih l (k + 1) (by omega) hl (by omega)
          rw [← ek, ← ed] at ih1
          cases h1 : pd d r with
          | none =>
            have e1 : endOf l (k + 1) d = -1 := by simp only [endOf, hr, h1]
            rw [e1] at ih1
            have e : endOf l k (d + 1) = -1 := by simp [endOf, hcr, pd, h40, h1]
            rw [e]
            exact spec_trEnd_p5 _ _ _ _ g1 g2 g3 g4 n46 y40 ih1 (by omega)
          | some x =>
            obtain ⟨L, r1⟩ := x
            have e1 : endOf l (k + 1) d = ((l.length - r1.length : Nat) : Int) := by
              have := pd_len h1
              simp only [endOf, hr, h1]; omega
            rw [e1] at ih1
            have hpre : ∃ p, l = p ++ r1 := ⟨l.take k ++ (c :: txt L), by
              rw [List.append_assoc, List.cons_append, ← (pd_some h1).1, ← hcr, List.take_append_drop]⟩
            have hdr := drop_of hpre
            have ih2 := ih l (l.length - r1.length) (by omega) hl (by omega)
            rw [← ed] at ih2
            cases h2 : pd d r1 with
            | none =>
              have e2 : endOf l (l.length - r1.length) d = -1 := by simp only [endOf, hdr, h2]
              rw [e2] at ih2
              have e : endOf l k (d + 1) = -1 := by simp [endOf, hcr, pd, h40, h1, h2]
              rw [e]
              exact spec_trEnd_p6 _ _ _ _ _ g1 g2 g3 g4 n46 y40 ih1 (by omega) ih2 (by omega)
            | some y =>
              obtain ⟨R, r2⟩ := y
              have hl2 := pd_len h2
              have hl1 := pd_len h1
              have e2 : endOf l (l.length - r1.length) d = ((l.length - r2.length : Nat) : Int) := by
                simp only [endOf, hdr, h2]; omega
              rw [e2] at ih2
              have hpre2 : ∃ p, l = p ++ r2 := by
                obtain ⟨p, hp⟩ := hpre
                exact ⟨p ++ txt R, by rw [List.append_assoc, ← (pd_some h2).1]; exact hp⟩
              have hdr2 := drop_of hpre2
              cases r2 with
              | nil =>
                have e : endOf l k (d + 1) = -1 := by simp [endOf, hcr, pd, h40, h1, h2]
                rw [e]
                exact spec_trEnd_p7 _ _ _ _ _ g1 g2 g3 g4 n46 y40 ih1 (by omega) ih2 (by omega) (by rw [bs_size]; simp)
              | cons c2 r3 =>
                simp only [List.length_cons] at hl2 hdr2 ih2
                have hlt2 : l.length - (r3.length + 1) < l.length := by omega
                have hc2 : l.getD (l.length - (r3.length + 1)) 0 = c2 := by
                  have : (l.drop (l.length - (r3.length + 1)))[0]? = some c2 := by rw [hdr2]; rfl
                  rw [List.getElem?_drop] at this
                  simp only [Nat.add_zero] at this
                  simp only [List.getD_eq_getElem?_getD, this, Option.getD]
                have hbt2 : bt (bs l) ((l.length - (r3.length + 1) : Nat) : Int) = (c2.toNat : Int) := by rw [bs_bt, Int.toNat_natCast, hc2]
                have g5 : ¬ (((l.length - (r3.length + 1) : Nat) : Int) ≥ ((bs l).size : Int)) := by rw [bs_size]; omega
                have g6 : ((l.length - (r3.length + 1) : Nat) : Int) < ((bs l).size : Int) := by rw [bs_size]; omega
                by_cases h41 : c2 = 41
                · have e : endOf l k (d + 1) = IntKind.wrap .i64 (((l.length - (r3.length + 1) : Nat) : Int) + 1) := by
                    rw [w64] <;> try omega
                    simp only [endOf, hcr, pd, h40, h1, h2, h41]
                    simp
                    omega
                  rw [e]
                  exact spec_trEnd_p9 _ _ _ _ _ g1 g2 g3 g4 n46 y40 ih1 (by omega) ih2 (by omega) g5 (by omega) g6 (by rw [hbt2, h41]; rfl)
                · have e : endOf l k (d + 1) = -1 := by simp [endOf, hcr, pd, h40, h1, h2, h41]
                  rw [e]
                  exact spec_trEnd_p8 _ _ _ _ _ g1 g2 g3 g4 n46 y40 ih1 (by omega) ih2 (by omega) g5 (by omega) g6 (by rw [hbt2]; intro e; exact h41 ((byte_eq c2 41).1 e))
        · have e : endOf l k (d + 1) = -1 := by simp [endOf, hcr, pd, h46, h40]
          rw [e]
          exact spec_trEnd_p4 _ _ _ g1 g2 g3 g4 n46 (by rw [hbt]; intro e; exact h40 ((byte_eq c 40).1 e))


theorem trCarets_SC (l : List UInt8) (hl : l.length ≤ 2 ^ 40) : SC cfg.P i_spec_trCarets [.s (.v .str (bs l))] (.s (.v (.int .i64) ((l.count 40 : Nat) : Int))) [] := by
  have key : ∀ (m i : Nat), l.length - i = m → i ≤ l.length →
      LoopSC cfg.P 1 (lb P_spec_trCarets 0) (spec_trCarets_L0a (bs l) (((l.take i).count 40 : Nat) : Int) (i : Int)) (.exit 0) (spec_trCarets_L0X1 (bs l) ((l.count 40 : Nat) : Int) (l.length : Int) false) := by
    intro m
    induction m with
    | zero =>
      intro i hm hi
      have : i = l.length := by omega
      subst this
      rw [List.take_length]
      exact spec_trCarets_L0a_x3 _ _ _ (by rw [bs_size]; omega)
    | succ m ih =>
      intro i hm hi
      have := ih (i + 1) (by omega) (by omega)
      have hlt : i < l.length := by omega
      have hcnt : (l.take i).count 40 ≤ i := Nat.le_trans (List.count_le_length) (by simp; omega)
      have e1 : IntKind.wrap .i64 ((i : Int) + 1) = ((i + 1 : Nat) : Int) := by rw [w64] <;> omega
      have ht : l.take (i + 1) = l.take i ++ [l[i]] := (List.take_append_getElem hlt).symm
      have hg : bt (bs l) (i : Int) = (l[i].toNat : Int) := by rw [bs_bt, Int.toNat_natCast, List.getD_eq_getElem?_getD, List.getElem?_eq_getElem hlt]; rfl
      by_cases h : l[i] = 40
      · have e2 : IntKind.wrap .i64 ((((l.take i).count 40 : Nat) : Int) + 1) = (((l.take (i + 1)).count 40 : Nat) : Int) := by
          rw [ht, List.count_append, h]
          simp only [List.count_cons_self, List.count_nil]
          rw [w64] <;> omega
        rw [← e1, ← e2] at this
        exact spec_trCarets_L0a_i1 _ _ _ (by rw [bs_size]; omega) (by omega) (by rw [hg, h]; rfl) this
      · have e2 : ((l.take (i + 1)).count 40) = (l.take i).count 40 := by
          rw [ht, List.count_append, List.count_cons_of_ne h]
          simp
        rw [← e1, e2] at this
        exact spec_trCarets_L0a_i2 _ _ _ (by rw [bs_size]; omega) (by omega) (by rw [hg]; intro e; exact h ((byte_eq _ 40).1 e)) this
  have := key l.length 0 (by omega) (by omega)
  exact spec_trCarets_p1 _ _ _ _ _ this

/-- Is a text a tree with at most eight carets? -/
def isTree (l : List UInt8) : Bool := match pd (l.length + 1) l with
  | some (t, []) => decide (t.c ≤ 8)
  | _ => false

theorem pd_big {d e : Nat} {l : List UInt8} (hd : l.length < d) (he : l.length < e) : pd d l = pd e l := by
  have main : ∀ {d e : Nat} {x : Tr × List UInt8}, l.length < e → pd d l = some x → pd e l = some x := by
    intro d e x he h
    obtain ⟨t, r⟩ := x
    obtain ⟨h1, h2⟩ := pd_some h
    have := t.h_le
    rw [h1] at he ⊢
    simp only [List.length_append, txt_len] at he
    exact pd_txt t e r (by omega)
  cases h : pd d l with
  | some x => exact (main he h).symm
  | none =>
    cases h' : pd e l with
    | none => rfl
    | some x => rw [main hd h'] at h; cases h

theorem isTree_iff (l : List UInt8) : isTree l = true ↔ ∃ t : Tr, l = txt t ∧ t.c ≤ 8 := by
  unfold isTree
  constructor
  · intro h
    split at h
    · rename_i t ht
      exact ⟨t, by have := (pd_some ht).1; simpa using this, by simpa using h⟩
    · cases h
  · rintro ⟨t, rfl, hc⟩
    have := pd_txt t ((txt t).length + 1) [] (by have := t.h_le; rw [txt_len]; omega)
    rw [List.append_nil] at this
    rw [this]
    simpa using hc

theorem trIs_SC (l : List UInt8) (hl : l.length ≤ 2 ^ 40) : SC cfg.P i_spec_trIs [.s (.v .str (bs l))] (.s (.v .bool (isTree l))) [] := by
  by_cases h33 : l.length ≤ 33
  · have h1 : ((bs l).size : Int) ≤ 33 := by rw [bs_size]; omega
    by_cases hc : l.count 40 ≤ 8
    · have hend := trEnd_SC 61 l 0 (by omega) hl (by omega)
      have e0 : (61 : Int) - ((61 : Nat) : Int) = 0 := by omega
      rw [e0] at hend
      have hp : pd 61 l = pd (l.length + 1) l := pd_big (by omega) (by omega)
      by_cases ht : isTree l = true
      · rw [ht]
        obtain ⟨t, hlt, htc⟩ := (isTree_iff l).1 ht
        have : endOf l 0 61 = (l.length : Int) := by
          have := pd_txt t 61 [] (by have := t.h_le; omega)
          rw [List.append_nil, ← hlt] at this
          simp [endOf, this]
        rw [this] at hend
        exact spec_trIs_p1 _ _ _ h1 (trCarets_SC l hl) (by omega) hend (by rw [bs_size])
      · have hf : isTree l = false := by simpa using ht
        rw [hf]
        refine spec_trIs_p2 _ _ _ h1 (trCarets_SC l hl) (by omega) hend ?_
        intro e
        apply ht
        rw [isTree_iff]
        unfold endOf at e
        rw [List.drop_zero] at e
        split at e
        · rw [bs_size] at e; omega
        · rename_i t r hpd
          rw [bs_size] at e
          have hr : r = [] := List.eq_nil_of_length_eq_zero (by have := pd_len hpd; omega)
          subst hr
          have h2 := (pd_some hpd).1
          rw [List.append_nil] at h2
          refine ⟨t, h2, ?_⟩
          rw [h2, txt_count] at hc
          exact hc
    · have hf : isTree l = false := by
        cases h : isTree l with
        | false => rfl
        | true =>
          obtain ⟨t, rfl, htc⟩ := (isTree_iff l).1 h
          rw [txt_count] at hc
          omega
      rw [hf]
      exact spec_trIs_p3 _ _ h1 (trCarets_SC l hl) (by omega)
  · have hf : isTree l = false := by
      cases h : isTree l with
      | false => rfl
      | true =>
        obtain ⟨t, rfl, htc⟩ := (isTree_iff l).1 h
        rw [txt_len] at h33
        omega
    rw [hf]
    exact spec_trIs_p4 _ (by rw [bs_size]; omega)

theorem trLeaf_leaf : SC cfg.P i_spec_trLeaf [.s (.v .str (bs (txt .leaf)))] (.s (.v .bool true)) [] := spec_trLeaf_p1 _ rfl
theorem trLeaf_node (L R : Tr) : SC cfg.P i_spec_trLeaf [.s (.v .str (bs (txt (.node L R))))] (.s (.v .bool false)) [] :=
  spec_trLeaf_p2 _ (by
    intro e
    have : bs (txt (.node L R)) = bs [46] := e
    rw [bs_inj] at this
    simp [txt] at this)

theorem trSides_SC (L R : Tr) (h : (Tr.node L R).c ≤ 50) : SC cfg.P i_spec_trSides [.s (.v .str (bs (txt (.node L R))))] (.tup [.v .str (bs (txt L)), .v .str (bs (txt R))]) [] := by
  simp only [Tr.c] at h
  have hlen := txt_len (.node L R)
  simp only [Tr.c] at hlen
  have lL := txt_len L
  have lR := txt_len R
  have hend := trEnd_SC 61 (txt (.node L R)) 1 (by omega) (by omega) (by omega)
  have e0 : (61 : Int) - ((61 : Nat) : Int) = 0 := by omega
  rw [e0] at hend
  have e1 : endOf (txt (.node L R)) 1 61 = ((1 + (txt L).length : Nat) : Int) := by
    have hp := pd_txt L 61 (txt R ++ [41]) (by have := L.h_le; omega)
    have hd : (txt (.node L R)).drop 1 = txt L ++ (txt R ++ [41]) := by simp [txt]
    unfold endOf
    rw [hd, hp]
    simp only [List.length_append, List.length_cons, List.length_nil]
    omega
  rw [e1] at hend
  have ew : IntKind.wrap .i64 ((((bs (txt (.node L R))).size : Nat) : Int) - 1) = (((txt (.node L R)).length - 1 : Nat) : Int) := by
    rw [bs_size, w64] <;> omega
  have := spec_trSides_p1 (bs (txt (.node L R))) ((1 + (txt L).length : Nat) : Int) hend (by omega) (by rw [bs_size]; omega) (by omega) (by rw [ew]; omega) (by rw [ew, bs_size]; omega)
  rw [ew] at this
  have x1 : ByteArray.extract (bs (txt (.node L R))) ((1 : Int)).toNat (((1 + (txt L).length : Nat) : Int)).toNat = bs (txt L) := by
    rw [bs_extract]
    congr 1
    rw [Int.toNat_natCast]
    simp [txt]
  have x2 : ByteArray.extract (bs (txt (.node L R))) (((1 + (txt L).length : Nat) : Int)).toNat ((((txt (.node L R)).length - 1 : Nat) : Int)).toNat = bs (txt R) := by
    rw [bs_extract]
    congr 1
    rw [Int.toNat_natCast, Int.toNat_natCast, hlen]
    have : (txt (.node L R)).drop (1 + (txt L).length) = txt R ++ [41] := by
      simp [txt, Nat.add_comm 1]
    rw [this]
    have e3 : 3 * (1 + L.c + R.c) + 1 - 1 - (1 + (txt L).length) = (txt R).length := by omega
    rw [e3]
    simp
  rw [x1, x2] at this
  exact this


def rd (l : List UInt8) : Option (Tr × List UInt8) := pd (l.length + 1) l

theorem rd_pd {d : Nat} {l : List UInt8} (h : l.length < d) : pd d l = rd l := pd_big h (by omega)

theorem extr_tail (c : UInt8) (r : List UInt8) : ByteArray.extract (bs (c :: r)) ((1 : Int)).toNat (((bs (c :: r)).size : Int)).toNat = bs r := by
  rw [bs_extract]
  congr 1
  rw [bs_size, Int.toNat_natCast]
  simp

def rdT (l : List UInt8) : Tr := match rd l with | some (t, _) => t | none => .leaf
def rdR (l : List UInt8) : List UInt8 := match rd l with | some (_, r) => r | none => []

theorem read_SC : ∀ (n : Nat) (l : List UInt8), l.length ≤ n → l.length ≤ 2 ^ 40 →
    SC cfg.P i_impl_read [.s (.v .str (bs l))] (.tup [.v .tree (rdT l), .v .str (bs (rdR l)), .v .bool (rd l).isSome]) [] := by
  intro n
  induction n with
  | zero =>
    intro l hl _
    have : l = [] := List.eq_nil_of_length_eq_zero (by omega)
    subst this
    exact impl_read_p1 _ rfl
  | succ n ih =>
    intro l hl hb
    cases l with
    | nil => exact impl_read_p1 _ rfl
    | cons c r =>
      simp only [List.length_cons] at hl hb
      have hne : bs (c :: r) ≠ (⟨#[]⟩ : ByteArray) := by
        intro e
        have : bs (c :: r) = bs [] := e
        rw [bs_inj] at this
        cases this
      have g1 : (0 : Int) < ((bs (c :: r)).size : Int) := by rw [bs_size, List.length_cons]; omega
      have g2 : (1 : Int) ≤ ((bs (c :: r)).size : Int) := by rw [bs_size, List.length_cons]; omega
      have e0 : rd (c :: r) = if c = 46 then some (.leaf, r) else if c = 40 then match rd r with
          | none => none
          | some (L, r1) => match rd r1 with
            | none => none
            | some (R, r2) => match r2 with
              | [] => none
              | c2 :: r3 => if c2 = 41 then some (.node L R, r3) else none
        else none := by
        show pd (r.length + 1 + 1) (c :: r) = _
        simp only [pd]
        split
        · rfl
        · split
          · show (match rd r with
              | none => none
              | some (L, r1) => match pd (r.length + 1) r1 with
                | none => none
                | some (R, r2) => match r2 with
                  | [] => none
                  | c2 :: r3 => if c2 = 41 then some (Tr.node L R, r3) else none) = _
            cases h1 : rd r with
            | none => rfl
            | some x =>
              obtain ⟨L, r1⟩ := x
              have := pd_len h1
              simp only
              rw [rd_pd (by omega : r1.length < r.length + 1)]
          · rfl
      by_cases h46 : c = 46
      · have er : rd (c :: r) = some (.leaf, r) := by rw [e0, if_pos h46]
        have := impl_read_p2 (bs (c :: r)) hne g1 (by rw [bt_cons, h46]; rfl) g2
        rw [extr_tail] at this
        simp only [rdT, rdR, er, Option.isSome]
        exact this
      · have n46 : bt (bs (c :: r)) 0 ≠ 46 := by rw [bt_cons]; intro e; exact h46 ((byte_eq c 46).1 e)
        rw [if_neg h46] at e0
        by_cases h40 : c = 40
        · have y40 : bt (bs (c :: r)) 0 = 40 := by rw [bt_cons, h40]; rfl
          rw [if_pos h40] at e0
          have ih1 := ih r (by omega) (by omega)
          rw [← extr_tail c r] at ih1
          cases h1 : rd r with
          | none =>
            rw [h1] at e0
            have er : rd (c :: r) = none := e0
            simp only [rdT, rdR, h1, Option.isSome] at ih1
            simp only [rdT, rdR, er, Option.isSome]
            exact impl_read_p8 _ _ _ hne g1 n46 y40 g2 ih1
          | some x =>
            obtain ⟨L, r1⟩ := x
            have hl1 := pd_len h1
            rw [h1] at e0
            simp only at e0
            simp only [rdT, rdR, h1, Option.isSome] at ih1
            have ih2 := ih r1 (by omega) (by omega)
            cases h2 : rd r1 with
            | none =>
              rw [h2] at e0
              have er : rd (c :: r) = none := e0
              simp only [rdT, rdR, h2, Option.isSome] at ih2
              simp only [rdT, rdR, er, Option.isSome]
              exact impl_read_p7 _ _ _ _ _ hne g1 n46 y40 g2 ih1 ih2
            | some y =>
              obtain ⟨R, r2⟩ := y
              rw [h2] at e0
              simp only at e0
              simp only [rdT, rdR, h2, Option.isSome] at ih2
              cases r2 with
              | nil =>
                have er : rd (c :: r) = none := e0
                simp only [rdT, rdR, er, Option.isSome]
                exact impl_read_p4 _ _ _ _ _ hne g1 n46 y40 g2 ih1 ih2 rfl
              | cons c2 r3 =>
                have hne2 : bs (c2 :: r3) ≠ (⟨#[]⟩ : ByteArray) := by
                  intro e
                  have : bs (c2 :: r3) = bs [] := e
                  rw [bs_inj] at this
                  cases this
                have g3 : (0 : Int) < ((bs (c2 :: r3)).size : Int) := by rw [bs_size, List.length_cons]; omega
                have g4 : (1 : Int) ≤ ((bs (c2 :: r3)).size : Int) := by rw [bs_size, List.length_cons]; omega
                simp only at e0
                by_cases h41 : c2 = 41
                · have er : rd (c :: r) = some (.node L R, r3) := by rw [e0, if_pos h41]
                  have := impl_read_p6 _ _ _ _ _ hne g1 n46 y40 g2 ih1 ih2 hne2 g3 (by rw [bt_cons, h41]; rfl) g4
                  rw [extr_tail] at this
                  simp only [rdT, rdR, er, Option.isSome]
                  exact this
                · have er : rd (c :: r) = none := by rw [e0, if_neg h41]
                  simp only [rdT, rdR, er, Option.isSome]
                  exact impl_read_p5 _ _ _ _ _ hne g1 n46 y40 g2 ih1 ih2 hne2 g3 (by rw [bt_cons]; intro e; exact h41 ((byte_eq c2 41).1 e))
        · have er : rd (c :: r) = none := by rw [e0, if_neg h40]
          simp only [rdT, rdR, er, Option.isSome]
          exact impl_read_p3 _ hne g1 n46 (by rw [bt_cons]; intro e; exact h40 ((byte_eq c 40).1 e))

theorem carets_SC : ∀ (t : Tr), t.c ≤ 2 ^ 40 → SC cfg.P i_impl_node_carets [.s (.v .tree t)] (.s (.v (.int .i64) (t.c : Int))) []
  | .leaf, _ => impl_node_carets_p1
  | .node l r, h => by
    simp only [Tr.c] at h
    have := impl_node_carets_p2 l r (l.c : Int) (r.c : Int) (carets_SC l (by omega)) (carets_SC r (by omega))
    have e1 : IntKind.wrap .i64 ((1 : Int) + (l.c : Int)) = 1 + (l.c : Int) := by rw [w64] <;> omega
    have e2 : IntKind.wrap .i64 ((1 : Int) + (l.c : Int) + (r.c : Int)) = ((1 + l.c + r.c : Nat) : Int) := by rw [w64] <;> omega
    rw [e1, e2] at this
    exact this

/-- The tree that a text is, or a leaf. -/
def treeOf (l : List UInt8) : Tr := if isTree l = true then rdT l else .leaf

theorem treeOf_txt {l : List UInt8} (h : isTree l = true) : l = txt (treeOf l) ∧ (treeOf l).c ≤ 8 := by
  obtain ⟨t, rfl, hc⟩ := (isTree_iff l).1 h
  have hr : rd (txt t) = some (t, []) := by
    have := pd_txt t ((txt t).length + 1) [] (by have := t.h_le; rw [txt_len]; omega)
    rw [List.append_nil] at this
    exact this
  have : treeOf (txt t) = t := by rw [treeOf, if_pos h, rdT, hr]
  rw [this]
  exact ⟨rfl, hc⟩

theorem parse_SC (l : List UInt8) (hl : l.length ≤ 2 ^ 40) : SC cfg.P i_impl_parse [.s (.v .str (bs l))] (.tup [.v .tree (treeOf l), .v .bool (isTree l)]) [] := by
  have hread := read_SC l.length l (Nat.le_refl _) hl
  cases ht : isTree l with
  | true =>
    obtain ⟨h1, h2⟩ := treeOf_txt ht
    have hll : l.length = 3 * (treeOf l).c + 1 := by rw [← txt_len, ← h1]
    have hr : rd l = some (treeOf l, []) := by
      have := pd_txt (treeOf l) (l.length + 1) [] (by have := (treeOf l).h_le; omega)
      rw [List.append_nil, ← h1] at this
      exact this
    have hlen : l.length ≤ 25 := by omega
    simp only [rdT, rdR, hr, Option.isSome] at hread
    exact impl_parse_p4 _ _ _ _ (by rw [bs_size]; omega) hread rfl (carets_SC _ (by omega)) (by omega)
  | false =>
    have hleaf : treeOf l = .leaf := by rw [treeOf, ht, if_neg (by decide)]
    rw [hleaf]
    by_cases h25 : l.length ≤ 25
    · have g1 : ¬ (((bs l).size : Int) > 25) := by rw [bs_size]; omega
      cases hr : rd l with
      | none =>
        simp only [rdT, rdR, hr, Option.isSome] at hread
        exact impl_parse_p5 _ _ _ g1 hread
      | some x =>
        obtain ⟨t, r⟩ := x
        simp only [rdT, rdR, hr, Option.isSome] at hread
        cases r with
        | nil =>
          have h1 := (pd_some hr).1
          rw [List.append_nil] at h1
          have hc : ¬ t.c ≤ 8 := by
            intro hc
            have := (isTree_iff l).2 ⟨t, h1, hc⟩
            rw [ht] at this
            cases this
          have hlen : l.length = 3 * t.c + 1 := by rw [h1, txt_len]
          exact impl_parse_p3 _ _ _ _ g1 hread rfl (carets_SC _ (by omega)) (by omega)
        | cons c r =>
          refine impl_parse_p2 _ _ _ g1 hread ?_
          intro e
          have : bs (c :: r) = bs [] := e
          rw [bs_inj] at this
          cases this
    · exact impl_parse_p1 _ (by rw [bs_size]; omega)

end Go.AI
