/- Contracts: addresses of leaves. -/
import Derived.Test.YtpfaelacdnmeaaaGF
import Derived.Test.YtpfaelacdnmeaaaCT
set_option autoImplicit false
set_option maxRecDepth 100000
set_option linter.unusedVariables false
namespace Go.AI
open Go.Proofs

/-- The addresses of the leaves, behind that of the tree. -/
def adL : Tr → List UInt8 → List (List UInt8)
  | .leaf, p => [p]
  | .node l r, p => adL l (p ++ [48]) ++ adL r (p ++ [49])

abbrev strs' (l : List (List UInt8)) : List ByteArray := l.map bs

theorem adL_len : ∀ (t : Tr) (p : List UInt8), (adL t p).length = t.c + 1
  | .leaf, _ => rfl
  | .node l r, p => by simp only [adL, List.length_append, adL_len l, adL_len r, Tr.c]; omega

theorem zokS (l m : List ByteArray) (h : l.length + m.length ≤ 2 ^ 40) : sizeOK (List.length l + List.length m) := h

theorem addresses_SC : ∀ (t : Tr) (p : List UInt8), t.c ≤ 2 ^ 20 → p.length + t.c ≤ 2 ^ 30 → SC cfg.P i_impl_node_addresses [.s (.v .tree t), .s (.v .str (bs p))] (.s (.own t_string .str (strs' (adL t p)))) []
  | .leaf, p, _, _ => impl_node_addresses_p1 _
  | .node l r, p, h, hp => by
    simp only [Tr.c] at h hp
    have h1 := addresses_SC l (p ++ [48]) (by omega) (by simp; omega)
    have h2 := addresses_SC r (p ++ [49]) (by omega) (by simp; omega)
    have e0 : bs (p ++ [48]) = bs p ++ (⟨#[48]⟩ : ByteArray) := by show _ = bs p ++ bs [48]; rw [bs_append]
    have e1 : bs (p ++ [49]) = bs p ++ (⟨#[49]⟩ : ByteArray) := by show _ = bs p ++ bs [49]; rw [bs_append]
    rw [e0] at h1
    rw [e1] at h2
    have e : strs' (adL (.node l r) p) = strs' (adL l (p ++ [48])) ++ strs' (adL r (p ++ [49])) := by simp [adL]
    rw [e]
    have s0 : ((⟨#[48]⟩ : ByteArray)).size = 1 := rfl
    have s1 : ((⟨#[49]⟩ : ByteArray)).size = 1 := rfl
    exact impl_node_addresses_p2 _ _ _ _ _ (by rw [bs_size, s0]; omega) h1 (by rw [bs_size, s1]; omega) h2 (zokS _ _ (by simp [adL_len]; omega))

theorem adL_bound : ∀ (t : Tr) (p a : List UInt8), a ∈ adL t p → a.length ≤ p.length + t.c
  | .leaf, p, a, h => by simp [adL] at h; subst h; simp [Tr.c]
  | .node l r, p, a, h => by
    simp only [adL] at h
    simp only [Tr.c]
    rcases List.mem_append.1 h with h | h
    · have := adL_bound l _ a h; simp at this; omega
    · have := adL_bound r _ a h; simp at this; omega

theorem strs_get (l : List (List UInt8)) (i : Nat) (h : i < l.length) : List.getD (strs' l) ((i : Int)).toNat ⟨#[]⟩ = bs l[i] := by
  rw [Int.toNat_natCast, List.getD_eq_getElem?_getD, List.getElem?_map, List.getElem?_eq_getElem h]; rfl

end Go.AI
