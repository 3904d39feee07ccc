/- A part of the road: what it proves stands in its last texts. -/
import Derived.Test.YtpfaelacdnmeaaaSIds
import Derived.Test.YtpfaelacdnmeaaaProg
set_option autoImplicit false
set_option maxRecDepth 100000
set_option linter.unusedVariables false
namespace Go.AI
open Go.Proofs

/-! ### impl_node_addresses -/


theorem impl_node_addresses_p1 (a1 : ByteArray)
     :
    SC cfg.P i_impl_node_addresses [.s (.v .tree Tr.leaf), .s (.v .str a1)] (.s (.own t_string .str ([a1] : List ByteArray))) [] :=
  SC_of_run cfgOK (its := [.bool true])
    (ps := [Tr.leaf.isLeaf = true]) (by kernel_rfl) ⟨rfl, trivial⟩ get_impl_node_addresses (by decide)

theorem impl_node_addresses_p2 (a0l : Tr) (a0r : Tr) (a1 : ByteArray) (c1 : (List ByteArray)) (c2 : (List ByteArray))
    (h1 : (a1).size + ((⟨#[48]⟩ : ByteArray)).size ≤ 2 ^ 62)
    (h2 : SC cfg.P i_impl_node_addresses [.s (.v .tree a0l), .s (.v .str (a1 ++ (⟨#[48]⟩ : ByteArray)))] (.s (.own t_string .str c1)) [])
    (h3 : (a1).size + ((⟨#[49]⟩ : ByteArray)).size ≤ 2 ^ 62)
    (h4 : SC cfg.P i_impl_node_addresses [.s (.v .tree a0r), .s (.v .str (a1 ++ (⟨#[49]⟩ : ByteArray)))] (.s (.own t_string .str c2)) [])
    (h5 : sizeOK (List.length c1 + List.length c2)) :
    SC cfg.P i_impl_node_addresses [.s (.v .tree (Tr.node a0l a0r)), .s (.v .str a1)] (.s (.own t_string .str (c1 ++ c2))) [] :=
  SC_of_run cfgOK (its := [.bool false, .res (.s (.own t_string .str c1)) [] [] [15], .res (.s (.own t_string .str c2)) [] [] [22]])
    (ps := [(Tr.node a0l a0r).isLeaf = false,
      (a1).size + ((⟨#[48]⟩ : ByteArray)).size ≤ 2 ^ 62,
      SC cfg.P i_impl_node_addresses [.s (.v .tree a0l), .s (.v .str (a1 ++ (⟨#[48]⟩ : ByteArray)))] (.s (.own t_string .str c1)) [],
      (a1).size + ((⟨#[49]⟩ : ByteArray)).size ≤ 2 ^ 62,
      SC cfg.P i_impl_node_addresses [.s (.v .tree a0r), .s (.v .str (a1 ++ (⟨#[49]⟩ : ByteArray)))] (.s (.own t_string .str c2)) [],
      sizeOK (List.length c1 + List.length c2)]) (by kernel_rfl) ⟨rfl, h1, h2, h3, h4, h5, trivial⟩ get_impl_node_addresses (by decide)

/-! ### spec_trAddresses -/


theorem spec_trAddresses_p1 (a0 : ByteArray) (a1 : ByteArray)
    (h1 : SC cfg.P i_spec_trLeaf [.s (.v .str a0)] (.s (.v .bool true)) []) :
    SC cfg.P i_spec_trAddresses [.s (.v .str a0), .s (.v .str a1)] (.s (.own t_string .str ([a1] : List ByteArray))) [] :=
  SC_of_run cfgOK (its := [.res (.s (.v .bool true)) [] [] []])
    (ps := [SC cfg.P i_spec_trLeaf [.s (.v .str a0)] (.s (.v .bool true)) []]) (by kernel_rfl) ⟨h1, trivial⟩ get_spec_trAddresses (by decide)

theorem spec_trAddresses_p2 (a0 : ByteArray) (a1 : ByteArray) (c2a : ByteArray) (c2b : ByteArray) (c3 : (List ByteArray)) (c4 : (List ByteArray))
    (h1 : SC cfg.P i_spec_trLeaf [.s (.v .str a0)] (.s (.v .bool false)) [])
    (h2 : SC cfg.P i_spec_trSides [.s (.v .str a0)] (.tup [.v .str c2a, .v .str c2b]) [])
    (h3 : (a1).size + ((⟨#[48]⟩ : ByteArray)).size ≤ 2 ^ 62)
    (h4 : SC cfg.P i_spec_trAddresses [.s (.v .str c2a), .s (.v .str (a1 ++ (⟨#[48]⟩ : ByteArray)))] (.s (.own t_string .str c3)) [])
    (h5 : (a1).size + ((⟨#[49]⟩ : ByteArray)).size ≤ 2 ^ 62)
    (h6 : SC cfg.P i_spec_trAddresses [.s (.v .str c2b), .s (.v .str (a1 ++ (⟨#[49]⟩ : ByteArray)))] (.s (.own t_string .str c4)) [])
    (h7 : sizeOK (List.length c3 + List.length c4)) :
    SC cfg.P i_spec_trAddresses [.s (.v .str a0), .s (.v .str a1)] (.s (.own t_string .str (c3 ++ c4))) [] :=
  SC_of_run cfgOK (its := [.res (.s (.v .bool false)) [] [] [], .res (.tup [.v .str c2a, .v .str c2b]) [] [] [], .res (.s (.own t_string .str c3)) [] [] [19], .res (.s (.own t_string .str c4)) [] [] [23]])
    (ps := [SC cfg.P i_spec_trLeaf [.s (.v .str a0)] (.s (.v .bool false)) [],
      SC cfg.P i_spec_trSides [.s (.v .str a0)] (.tup [.v .str c2a, .v .str c2b]) [],
      (a1).size + ((⟨#[48]⟩ : ByteArray)).size ≤ 2 ^ 62,
      SC cfg.P i_spec_trAddresses [.s (.v .str c2a), .s (.v .str (a1 ++ (⟨#[48]⟩ : ByteArray)))] (.s (.own t_string .str c3)) [],
      (a1).size + ((⟨#[49]⟩ : ByteArray)).size ≤ 2 ^ 62,
      SC cfg.P i_spec_trAddresses [.s (.v .str c2b), .s (.v .str (a1 ++ (⟨#[49]⟩ : ByteArray)))] (.s (.own t_string .str c4)) [],
      sizeOK (List.length c3 + List.length c4)]) (by kernel_rfl) ⟨h1, h2, h3, h4, h5, h6, h7, trivial⟩ get_spec_trAddresses (by decide)

end Go.AI
