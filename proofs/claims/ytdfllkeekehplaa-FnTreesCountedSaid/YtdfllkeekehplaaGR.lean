/- A part of the road: what it proves stands in its last texts. -/
import Derived.Test.YtdfllkeekehplaaSIds
import Derived.Test.YtdfllkeekehplaaProg
set_option autoImplicit false
set_option maxRecDepth 100000
set_option linter.unusedVariables false
namespace Go.AI
open Go.Proofs

/-! ### impl_node_text -/


theorem impl_node_text_p1 
     :
    SC cfg.P i_impl_node_text [.s (.v .tree Tr.leaf)] (.s (.v .str (⟨#[46]⟩ : ByteArray))) [] :=
  SC_of_run cfgOK (its := [.bool true])
    (ps := [Tr.leaf.isLeaf = true]) (by kernel_rfl) ⟨rfl, trivial⟩ get_impl_node_text (by decide)

theorem impl_node_text_p2 (a0l : Tr) (a0r : Tr) (c1 : ByteArray) (c2 : ByteArray)
    (h1 : SC cfg.P i_impl_node_text [.s (.v .tree a0l)] (.s (.v .str c1)) [])
    (h2 : ((⟨#[40]⟩ : ByteArray)).size + (c1).size ≤ 2 ^ 62)
    (h3 : SC cfg.P i_impl_node_text [.s (.v .tree a0r)] (.s (.v .str c2)) [])
    (h4 : (((⟨#[40]⟩ : ByteArray) ++ c1)).size + (c2).size ≤ 2 ^ 62)
    (h5 : ((((⟨#[40]⟩ : ByteArray) ++ c1) ++ c2)).size + ((⟨#[41]⟩ : ByteArray)).size ≤ 2 ^ 62) :
    SC cfg.P i_impl_node_text [.s (.v .tree (Tr.node a0l a0r))] (.s (.v .str ((((⟨#[40]⟩ : ByteArray) ++ c1) ++ c2) ++ (⟨#[41]⟩ : ByteArray)))) [] :=
  SC_of_run cfgOK (its := [.bool false, .res (.s (.v .str c1)) [] [] [], .res (.s (.v .str c2)) [] [] []])
    (ps := [(Tr.node a0l a0r).isLeaf = false,
      SC cfg.P i_impl_node_text [.s (.v .tree a0l)] (.s (.v .str c1)) [],
      ((⟨#[40]⟩ : ByteArray)).size + (c1).size ≤ 2 ^ 62,
      SC cfg.P i_impl_node_text [.s (.v .tree a0r)] (.s (.v .str c2)) [],
      (((⟨#[40]⟩ : ByteArray) ++ c1)).size + (c2).size ≤ 2 ^ 62,
      ((((⟨#[40]⟩ : ByteArray) ++ c1) ++ c2)).size + ((⟨#[41]⟩ : ByteArray)).size ≤ 2 ^ 62]) (by kernel_rfl) ⟨rfl, h1, h2, h3, h4, h5, trivial⟩ get_impl_node_text (by decide)

/-! ### impl_pairOf -/


/-! ### impl_node_exposed -/


/-! ### spec_trExposed -/


/-! ### slices_Contains -/


/-! ### impl_node_without -/


-- impl_node_without: NILDEREF at "l1_tree.go:276" nilCheck   []

/-! ### spec_l1Has -/


/-! ### spec_trDrop -/


/-! ### spec_prGood -/


/-! ### impl_pair_plain -/


/-! ### impl_pair_both -/


/-! ### impl_pair_drop -/


/-! ### spec_prBoth -/


/-! ### spec_prText -/


/-! ### impl_pair_text -/


/-! ### impl_node_leaves -/


/-! ### slices_Index -/


end Go.AI
