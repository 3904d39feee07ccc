/- Contracts: reading trees. -/
import Derived.Test.YtnoajkfmokcekaaSKc
set_option autoImplicit false
set_option maxRecDepth 100000
set_option linter.unusedVariables false
namespace Go.AI
open Go.Proofs

theorem trCarets_SC (l : List UInt8) (hl : l.length ≤ 2 ^ 40) : SC cfg.P i_spec_trCarets [.s (.v .str (bs l))] (.s (.v (.int .i64) ((l.count 40 : Nat) : Int))) [] := by
  have key : ∀ (m i : Nat), l.length - i = m → i ≤ l.length →
      LoopSC cfg.P 1 (lb P_spec_trCarets 0) (spec_trCarets_L0a (bs l) (((l.take i).count 40 : Nat) : Int) (i : Int)) (.exit 0) (spec_trCarets_L0X1 (bs l) ((l.count 40 : Nat) : Int) (l.length : Int) false) := by
    intro m
    induction m with
    | zero =>
      intro i hm hi
      have : i = l.length := by omega
      subst this
      rw [List.take_length]
      exact spec_trCarets_L0a_x3 _ _ _ (by rw [bs_size]; omega)
    | succ m ih =>
      intro i hm hi
      have := ih (i + 1) (by omega) (by omega)
      have hlt : i < l.length := by omega
      have hcnt : (l.take i).count 40 ≤ i := Nat.le_trans (List.count_le_length) (by simp; omega)
      have e1 : IntKind.wrap .i64 ((i : Int) + 1) = ((i + 1 : Nat) : Int) := by rw [w64] <;> omega
      have ht : l.take (i + 1) = l.take i ++ [l[i]] := (List.take_append_getElem hlt).symm
      have hg : bt (bs l) (i : Int) = (l[i].toNat : Int) := by rw [bs_bt, Int.toNat_natCast, List.getD_eq_getElem?_getD, List.getElem?_eq_getElem hlt]; rfl
      by_cases h : l[i] = 40
      · have e2 : IntKind.wrap .i64 ((((l.take i).count 40 : Nat) : Int) + 1) = (((l.take (i + 1)).count 40 : Nat) : Int) := by
          rw [ht, List.count_append, h]
          simp only [List.count_cons_self, List.count_nil]
          rw [w64] <;> omega
        rw [← e1, ← e2] at this
        exact spec_trCarets_L0a_i1 _ _ _ (by rw [bs_size]; omega) (by omega) (by rw [hg, h]; rfl) this
      · have e2 : ((l.take (i + 1)).count 40) = (l.take i).count 40 := by
          rw [ht, List.count_append, List.count_cons_of_ne h]
          simp
        rw [← e1, e2] at this
        exact spec_trCarets_L0a_i2 _ _ _ (by rw [bs_size]; omega) (by omega) (by rw [hg]; intro e; exact h ((byte_eq _ 40).1 e)) this
  have := key l.length 0 (by omega) (by omega)
  exact spec_trCarets_p1 _ _ _ _ _ this

/-- Is a text a tree with at most eight carets? -/
def isTree (l : List UInt8) : Bool := match pd (l.length + 1) l with
  | some (t, []) => decide (t.c ≤ 8)
  | _ => false

theorem pd_big {d e : Nat} {l : List UInt8} (hd : l.length < d) (he : l.length < e) : pd d l = pd e l := by
  have main : ∀ {d e : Nat} {x : Tr × List UInt8}, l.length < e → pd d l = some x → pd e l = some x := by
    intro d e x he h
    obtain ⟨t, r⟩ := x
    obtain ⟨h1, h2⟩ := pd_some h
    have := t.h_le
    rw [h1] at he ⊢
    simp only [List.length_append, txt_len] at he
    exact pd_txt t e r (by omega)
  cases h : pd d l with
  | some x => exact (main he h).symm
  | none =>
    cases h' : pd e l with
    | none => rfl
    | some x => rw [main hd h'] at h; cases h

theorem isTree_iff (l : List UInt8) : isTree l = true ↔ ∃ t : Tr, l = txt t ∧ t.c ≤ 8 := by
  unfold isTree
  constructor
  · intro h
    split at h
    · rename_i t ht
      exact ⟨t, by have := (pd_some ht).1; simpa using this, by simpa using h⟩
    · cases h
  · rintro ⟨t, rfl, hc⟩
    have := pd_txt t ((txt t).length + 1) [] (by have := t.h_le; rw [txt_len]; omega)
    rw [List.append_nil] at this
    rw [this]
    simpa using hc

theorem trIs_SC (l : List UInt8) (hl : l.length ≤ 2 ^ 40) : SC cfg.P i_spec_trIs [.s (.v .str (bs l))] (.s (.v .bool (isTree l))) [] := by
  by_cases h33 : l.length ≤ 33
  · have h1 : ((bs l).size : Int) ≤ 33 := by rw [bs_size]; omega
    by_cases hc : l.count 40 ≤ 8
    · have hend := trEnd_SC 61 l 0 (by omega) hl (by omega)
      have e0 : (61 : Int) - ((61 : Nat) : Int) = 0 := by omega
      rw [e0] at hend
      have hp : pd 61 l = pd (l.length + 1) l := pd_big (by omega) (by omega)
      by_cases ht : isTree l = true
      · rw [ht]
        obtain ⟨t, hlt, htc⟩ := (isTree_iff l).1 ht
        have : endOf l 0 61 = (l.length : Int) := by
          have := pd_txt t 61 [] (by have := t.h_le; omega)
          rw [List.append_nil, ← hlt] at this
          simp [endOf, this]
        rw [this] at hend
        exact spec_trIs_p1 _ _ _ h1 (trCarets_SC l hl) (by omega) hend (by rw [bs_size])
      · have hf : isTree l = false := by simpa using ht
        rw [hf]
        refine spec_trIs_p2 _ _ _ h1 (trCarets_SC l hl) (by omega) hend ?_
        intro e
        apply ht
        rw [isTree_iff]
        unfold endOf at e
        rw [List.drop_zero] at e
        split at e
        · rw [bs_size] at e; omega
        · rename_i t r hpd
          rw [bs_size] at e
          have hr : r = [] := List.eq_nil_of_length_eq_zero (by have := pd_len hpd; omega)
          subst hr
          have h2 := (pd_some hpd).1
          rw [List.append_nil] at h2
          refine ⟨t, h2, ?_⟩
          rw [h2, txt_count] at hc
          exact hc
    · have hf : isTree l = false := by
        cases h : isTree l with
        | false => rfl
        | true =>
          obtain ⟨t, rfl, htc⟩ := (isTree_iff l).1 h
          rw [txt_count] at hc
          omega
      rw [hf]
      exact spec_trIs_p3 _ _ h1 (trCarets_SC l hl) (by omega)
  · have hf : isTree l = false := by
      cases h : isTree l with
      | false => rfl
      | true =>
        obtain ⟨t, rfl, htc⟩ := (isTree_iff l).1 h
        rw [txt_len] at h33
        omega
    rw [hf]
    exact spec_trIs_p4 _ (by rw [bs_size]; omega)

theorem trLeaf_leaf : SC cfg.P i_spec_trLeaf [.s (.v .str (bs (txt .leaf)))] (.s (.v .bool true)) [] := spec_trLeaf_p1 _ rfl
theorem trLeaf_node (L R : Tr) : SC cfg.P i_spec_trLeaf [.s (.v .str (bs (txt (.node L R))))] (.s (.v .bool false)) [] :=
  spec_trLeaf_p2 _ (by
    intro e
    have : bs (txt (.node L R)) = bs [46] := e
    rw [bs_inj] at this
    simp [txt] at this)

theorem trSides_SC (L R : Tr) (h : (Tr.node L R).c ≤ 50) : SC cfg.P i_spec_trSides [.s (.v .str (bs (txt (.node L R))))] (.tup [.v .str (bs (txt L)), .v .str (bs (txt R))]) [] := by
  simp only [Tr.c] at h
  have hlen := txt_len (.node L R)
  simp only [Tr.c] at hlen
  have lL := txt_len L
  have lR := txt_len R
  have hend := trEnd_SC 61 (txt (.node L R)) 1 (by omega) (by omega) (by omega)
  have e0 : (61 : Int) - ((61 : Nat) : Int) = 0 := by omega
  rw [e0] at hend
  have e1 : endOf (txt (.node L R)) 1 61 = ((1 + (txt L).length : Nat) : Int) := by
    have hp := pd_txt L 61 (txt R ++ [41]) (by have := L.h_le; omega)
    have hd : (txt (.node L R)).drop 1 = txt L ++ (txt R ++ [41]) := by simp [txt]
    unfold endOf
    rw [hd, hp]
    simp only [List.length_append, List.length_cons, List.length_nil]
    omega
  rw [e1] at hend
  have ew : IntKind.wrap .i64 ((((bs (txt (.node L R))).size : Nat) : Int) - 1) = (((txt (.node L R)).length - 1 : Nat) : Int) := by
    rw [bs_size, w64] <;> omega
  have := spec_trSides_p1 (bs (txt (.node L R))) ((1 + (txt L).length : Nat) : Int) hend (by omega) (by rw [bs_size]; omega) (by omega) (by rw [ew]; omega) (by rw [ew, bs_size]; omega)
  rw [ew] at this
  have x1 : ByteArray.extract (bs (txt (.node L R))) ((1 : Int)).toNat (((1 + (txt L).length : Nat) : Int)).toNat = bs (txt L) := by
    rw [bs_extract]
    congr 1
    rw [Int.toNat_natCast]
    simp [txt]
  have x2 : ByteArray.extract (bs (txt (.node L R))) (((1 + (txt L).length : Nat) : Int)).toNat ((((txt (.node L R)).length - 1 : Nat) : Int)).toNat = bs (txt R) := by
    rw [bs_extract]
    congr 1
    rw [Int.toNat_natCast, Int.toNat_natCast, hlen]
    have : (txt (.node L R)).drop (1 + (txt L).length) = txt R ++ [41] := by
      simp [txt, Nat.add_comm 1]
    rw [this]
    have e3 : 3 * (1 + L.c + R.c) + 1 - 1 - (1 + (txt L).length) = (txt R).length := by omega
    rw [e3]
    simp
  rw [x1, x2] at this
  exact this

end Go.AI
