/- Contracts: trees and their texts. -/
import Derived.Test.YtndnckjnnfnnnaaDoorGZ
import Derived.Test.YtndnckjnnfnnnaaDoorAiG
set_option autoImplicit false
set_option maxRecDepth 100000
set_option linter.unusedVariables false
namespace Go.AI
open Go.Proofs

/-- Where the tree ends that begins at a place. -/
def endOf (l : List UInt8) (k d : Nat) : Int := match pd d (l.drop k) with
  | none => -1
  | some (_, r) => (l.length : Int) - r.length

theorem drop_of {l r : List UInt8} (h : ∃ p, l = p ++ r) : l.drop (l.length - r.length) = r := by
  obtain ⟨p, rfl⟩ := h
  simp

/-- Is a text a tree with at most eight carets? -/
def isTree (l : List UInt8) : Bool := match pd (l.length + 1) l with
  | some (t, []) => decide (t.c ≤ 8)
  | _ => false

theorem pd_big {d e : Nat} {l : List UInt8} (hd : l.length < d) (he : l.length < e) : pd d l = pd e l := by
  have main : ∀ {d e : Nat} {x : Tr × List UInt8}, l.length < e → pd d l = some x → pd e l = some x := by
    intro d e x he h
    obtain ⟨t, r⟩ := x
    obtain ⟨h1, h2⟩ := pd_some h
    have := t.h_le
    rw [h1] at he ⊢
    simp only [List.length_append, txt_len] at he
    exact pd_txt t e r (by omega)
  cases h : pd d l with
  | some x => exact (main he h).symm
  | none =>
    cases h' : pd e l with
    | none => rfl
    | some x => rw [main hd h'] at h; cases h

theorem isTree_iff (l : List UInt8) : isTree l = true ↔ ∃ t : Tr, l = txt t ∧ t.c ≤ 8 := by
  unfold isTree
  constructor
  · intro h
    split at h
    · rename_i t ht
      exact ⟨t, by have := (pd_some ht).1; simpa using this, by simpa using h⟩
    · cases h
  · rintro ⟨t, rfl, hc⟩
    have := pd_txt t ((txt t).length + 1) [] (by have := t.h_le; rw [txt_len]; omega)
    rw [List.append_nil] at this
    rw [this]
    simpa using hc

def rd (l : List UInt8) : Option (Tr × List UInt8) := pd (l.length + 1) l

theorem rd_pd {d : Nat} {l : List UInt8} (h : l.length < d) : pd d l = rd l := pd_big h (by omega)

theorem extr_tail (c : UInt8) (r : List UInt8) : ByteArray.extract (bs (c :: r)) ((1 : Int)).toNat (((bs (c :: r)).size : Int)).toNat = bs r := by
  rw [bs_extract]
  congr 1
  rw [bs_size, Int.toNat_natCast]
  simp

def rdT (l : List UInt8) : Tr := match rd l with | some (t, _) => t | none => .leaf
def rdR (l : List UInt8) : List UInt8 := match rd l with | some (_, r) => r | none => []

theorem carets_SC : ∀ (t : Tr), t.c ≤ 2 ^ 40 → SC cfg.P i_impl_node_carets [.s (.v .tree t)] (.s (.v (.int .i64) (t.c : Int))) []
  | .leaf, _ => impl_node_carets_p1
  | .node l r, h => by
    simp only [Tr.c] at h
    have := impl_node_carets_p2 l r (l.c : Int) (r.c : Int) (carets_SC l (by omega)) (carets_SC r (by omega))
    have e1 : IntKind.wrap .i64 ((1 : Int) + (l.c : Int)) = 1 + (l.c : Int) := by rw [w64] <;> omega
    have e2 : IntKind.wrap .i64 ((1 : Int) + (l.c : Int) + (r.c : Int)) = ((1 + l.c + r.c : Nat) : Int) := by rw [w64] <;> omega
    rw [e1, e2] at this
    exact this

/-- The tree that a text is, or a leaf. -/
def treeOf (l : List UInt8) : Tr := if isTree l = true then rdT l else .leaf

theorem treeOf_txt {l : List UInt8} (h : isTree l = true) : l = txt (treeOf l) ∧ (treeOf l).c ≤ 8 := by
  obtain ⟨t, rfl, hc⟩ := (isTree_iff l).1 h
  have hr : rd (txt t) = some (t, []) := by
    have := pd_txt t ((txt t).length + 1) [] (by have := t.h_le; rw [txt_len]; omega)
    rw [List.append_nil] at this
    exact this
  have : treeOf (txt t) = t := by rw [treeOf, if_pos h, rdT, hr]
  rw [this]
  exact ⟨rfl, hc⟩

end Go.AI
