/- Addresses by the reference. -/
import Derived.Test.YtdfllkeekehplaaGE
import Derived.Test.YtdfllkeekehplaaCFa
set_option autoImplicit false
set_option maxRecDepth 100000
set_option linter.unusedVariables false
namespace Go.AI
open Go.Proofs

theorem trAddresses_SC : ∀ (t : Tr) (p : List UInt8), t.c ≤ 50 → p.length + t.c ≤ 2 ^ 30 → SC cfg.P i_spec_trAddresses [.s (.v .str (bs (txt t))), .s (.v .str (bs p))] (.s (.own t_string .str (strs' (adL t p)))) []
  | .leaf, p, _, _ => spec_trAddresses_p1 _ _ trLeaf_leaf
  | .node l r, p, h, hp => by
    have h' := h
    simp only [Tr.c] at h hp
    have h1 := trAddresses_SC l (p ++ [48]) (by omega) (by simp; omega)
    have h2 := trAddresses_SC r (p ++ [49]) (by omega) (by simp; omega)
    have e0 : bs (p ++ [48]) = bs p ++ (⟨#[48]⟩ : ByteArray) := by show _ = bs p ++ bs [48]; rw [bs_append]
    have e1 : bs (p ++ [49]) = bs p ++ (⟨#[49]⟩ : ByteArray) := by show _ = bs p ++ bs [49]; rw [bs_append]
    rw [e0] at h1
    rw [e1] at h2
    have e : strs' (adL (.node l r) p) = strs' (adL l (p ++ [48])) ++ strs' (adL r (p ++ [49])) := by simp [adL]
    rw [e]
    have s0 : ((⟨#[48]⟩ : ByteArray)).size = 1 := rfl
    have s1 : ((⟨#[49]⟩ : ByteArray)).size = 1 := rfl
    exact spec_trAddresses_p2 _ _ _ _ _ _ (trLeaf_node _ _) (trSides_SC _ _ h') (by rw [bs_size, s0]; omega) h1 (by rw [bs_size, s1]; omega) h2 (zokS _ _ (by simp [adL_len]; omega))

end Go.AI
