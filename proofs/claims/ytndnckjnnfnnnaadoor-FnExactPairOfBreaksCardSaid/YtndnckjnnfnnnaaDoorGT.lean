/- A part of the road: what it proves stands in its last texts. -/
import Derived.Test.YtndnckjnnfnnnaaDoorSIds
import Derived.Test.YtndnckjnnfnnnaaDoorProg
set_option autoImplicit false
set_option maxRecDepth 100000
set_option linter.unusedVariables false
namespace Go.AI
open Go.Proofs

/-! ### spec_trOf -/


theorem spec_trOf_p1 (a0 : ByteArray) (a1 : ByteArray)
    (h1 : ((⟨#[40]⟩ : ByteArray)).size + (a0).size ≤ 2 ^ 62)
    (h2 : (((⟨#[40]⟩ : ByteArray) ++ a0)).size + (a1).size ≤ 2 ^ 62)
    (h3 : ((((⟨#[40]⟩ : ByteArray) ++ a0) ++ a1)).size + ((⟨#[41]⟩ : ByteArray)).size ≤ 2 ^ 62) :
    SC cfg.P i_spec_trOf [.s (.v .str a0), .s (.v .str a1)] (.s (.v .str ((((⟨#[40]⟩ : ByteArray) ++ a0) ++ a1) ++ (⟨#[41]⟩ : ByteArray)))) [] :=
  SC_of_run cfgOK (its := [])
    (ps := [((⟨#[40]⟩ : ByteArray)).size + (a0).size ≤ 2 ^ 62,
      (((⟨#[40]⟩ : ByteArray) ++ a0)).size + (a1).size ≤ 2 ^ 62,
      ((((⟨#[40]⟩ : ByteArray) ++ a0) ++ a1)).size + ((⟨#[41]⟩ : ByteArray)).size ≤ 2 ^ 62]) (by kernel_rfl) ⟨h1, h2, h3, trivial⟩ get_spec_trOf (by decide)

end Go.AI
