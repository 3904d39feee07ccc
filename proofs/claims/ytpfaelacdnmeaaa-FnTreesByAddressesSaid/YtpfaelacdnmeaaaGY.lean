/- A part of the road: what it proves stands in its last texts. -/
import Derived.Test.YtpfaelacdnmeaaaSIds
import Derived.Test.YtpfaelacdnmeaaaProg
set_option autoImplicit false
set_option maxRecDepth 100000
set_option linter.unusedVariables false
namespace Go.AI
open Go.Proofs

/-! ### impl_AddressesOf -/


theorem impl_AddressesOf_p1 (a0 : ByteArray) (c1a : Tr) (c2 : (List ByteArray))
    (h1 : SC cfg.P i_impl_parse [.s (.v .str a0)] (.tup [.v .tree c1a, .v .bool true]) [])
    (h2 : SC cfg.P i_impl_node_addresses [.s (.v .tree c1a), .s (.v .str (⟨#[]⟩ : ByteArray))] (.s (.own t_string .str c2)) []) :
    SC cfg.P i_impl_AddressesOf [.s (.v .str a0)] (.tup [.own t_string .str c2, .v .bool true]) [] :=
  SC_of_run cfgOK (its := [.res (.tup [.v .tree c1a, .v .bool true]) [] [] [], .res (.s (.own t_string .str c2)) [] [] [14]])
    (ps := [SC cfg.P i_impl_parse [.s (.v .str a0)] (.tup [.v .tree c1a, .v .bool true]) [],
      SC cfg.P i_impl_node_addresses [.s (.v .tree c1a), .s (.v .str (⟨#[]⟩ : ByteArray))] (.s (.own t_string .str c2)) []]) (by kernel_rfl) ⟨h1, h2, trivial⟩ get_impl_AddressesOf (by decide)

theorem impl_AddressesOf_p2 (a0 : ByteArray) (c1a : Tr)
    (h1 : SC cfg.P i_impl_parse [.s (.v .str a0)] (.tup [.v .tree c1a, .v .bool false]) []) :
    SC cfg.P i_impl_AddressesOf [.s (.v .str a0)] (.tup [.own t_string .str ([] : List ByteArray), .v .bool false]) [] :=
  SC_of_run cfgOK (its := [.res (.tup [.v .tree c1a, .v .bool false]) [] [] []])
    (ps := [SC cfg.P i_impl_parse [.s (.v .str a0)] (.tup [.v .tree c1a, .v .bool false]) []]) (by kernel_rfl) ⟨h1, trivial⟩ get_impl_AddressesOf (by decide)

/-! ### impl_DepthsOf -/


def impl_DepthsOf_L0a (x5 : Bool) (x15 : Int) (x16 : Int) (xo6 : (List Int)) (xo11 : (List ByteArray)) : St := mkSt 28 [(5, .s (.v .bool x5)), (6, .s (.osl 6 0)), (14, .s (.osl 11 0)), (15, .s (.v (.int .i64) x15)), (16, .s (.v (.int .i64) x16))] [(6, .row t_int (.int .i64) xo6 0 false), (11, .row t_string .str xo11 0 false)]

def impl_DepthsOf_L0X1 (y5 : Bool) (y15 : Int) (y16 : Int) (y17 : Bool) (yo6 : (List Int)) (yo11 : (List ByteArray)) : St := mkSt 28 [(5, .s (.v .bool y5)), (6, .s (.osl 6 0)), (14, .s (.osl 11 0)), (15, .s (.v (.int .i64) y15)), (16, .s (.v (.int .i64) y16)), (17, .s (.v .bool y17))] [(6, .row t_int (.int .i64) yo6 0 false), (11, .row t_string .str yo11 0 false)]

theorem impl_DepthsOf_L0a_i1 (x5 : Bool) (x15 : Int) (x16 : Int) (xo6 : (List Int)) (xo11 : (List ByteArray))
    (h1 : x16 < x15)
    (h2 : 0 ≤ x16)
    (h3 : x16 < (List.length xo11 : Int))
    (h4 : (x16).toNat < List.length xo11)
    (h5 : sizeOK (List.length xo6 + List.length ([(((List.getD xo11 (x16).toNat (⟨#[]⟩ : ByteArray))).size : Int)] : List Int)))
    {e : AEx} {st : St} (next : LoopSC cfg.P 1 (lb P_impl_DepthsOf 0) (impl_DepthsOf_L0a x5 x15 (IntKind.wrap .i64 (x16 + (1 : Int))) (xo6 ++ ([(((List.getD xo11 (x16).toNat (⟨#[]⟩ : ByteArray))).size : Int)] : List Int)) xo11) e st) :
    LoopSC cfg.P 1 (lb P_impl_DepthsOf 0) (impl_DepthsOf_L0a x5 x15 x16 xo6 xo11) e st :=
  loop_iter cfgOK (f := i_impl_DepthsOf) (its := [.bool true])
    (ps := [decide (x16 < x15) = true,
      0 ≤ x16,
      x16 < (List.length xo11 : Int),
      (x16).toNat < List.length xo11,
      sizeOK (List.length xo6 + List.length ([(((List.getD xo11 (x16).toNat (⟨#[]⟩ : ByteArray))).size : Int)] : List Int))]) (st1 := impl_DepthsOf_L0a x5 x15 (IntKind.wrap .i64 (x16 + (1 : Int))) (xo6 ++ ([(((List.getD xo11 (x16).toNat (⟨#[]⟩ : ByteArray))).size : Int)] : List Int)) xo11) (by kernel_rfl) ⟨(decide_eq_true h1), h2, h3, h4, h5, trivial⟩ next

theorem impl_DepthsOf_L0a_x2 (x5 : Bool) (x15 : Int) (x16 : Int) (xo6 : (List Int)) (xo11 : (List ByteArray))
    (h1 : ¬ (x16 < x15)) :
    LoopSC cfg.P 1 (lb P_impl_DepthsOf 0) (impl_DepthsOf_L0a x5 x15 x16 xo6 xo11) (.exit 0) (impl_DepthsOf_L0X1 x5 x15 x16 false xo6 xo11) :=
  loop_out cfgOK (f := i_impl_DepthsOf) (its := [.bool false])
    (ps := [decide (x16 < x15) = false]) (by kernel_rfl) ⟨(decide_eq_false h1), trivial⟩ (fun h => by cases h)

theorem impl_DepthsOf_p1 (a0 : ByteArray) (c1a : (List ByteArray)) (c1b : Bool) (k1y5 : Bool) (k1y15 : Int) (k1y16 : Int) (k1y17 : Bool) (k1yo6 : (List Int)) (k1yo11 : (List ByteArray))
    (h1 : SC cfg.P i_impl_AddressesOf [.s (.v .str a0)] (.tup [.own t_string .str c1a, .v .bool c1b]) [])
    (h2 : LoopSC cfg.P 1 (lb P_impl_DepthsOf 0) (impl_DepthsOf_L0a c1b ((List.length c1a : Nat) : Int) (0 : Int) ([] : List Int) c1a) (.exit 0) (impl_DepthsOf_L0X1 k1y5 k1y15 k1y16 k1y17 k1yo6 k1yo11)) :
    SC cfg.P i_impl_DepthsOf [.s (.v .str a0)] (.tup [.own t_int (.int .i64) k1yo6, .v .bool k1y5]) [] :=
  SC_of_run cfgOK (its := [.res (.tup [.own t_string .str c1a, .v .bool c1b]) [] [] [11], .loop (fun _ => (.exit 0, impl_DepthsOf_L0X1 k1y5 k1y15 k1y16 k1y17 k1yo6 k1yo11))])
    (ps := [SC cfg.P i_impl_AddressesOf [.s (.v .str a0)] (.tup [.own t_string .str c1a, .v .bool c1b]) [],
      LoopSC cfg.P 1 (lb P_impl_DepthsOf 0) (impl_DepthsOf_L0a c1b ((List.length c1a : Nat) : Int) (0 : Int) ([] : List Int) c1a) (.exit 0) (impl_DepthsOf_L0X1 k1y5 k1y15 k1y16 k1y17 k1yo6 k1yo11)]) (by kernel_rfl) ⟨h1, h2, trivial⟩ get_impl_DepthsOf (by decide)

/-! ### spec_DepthsOf -/


def spec_DepthsOf_L0a (x12 : Int) (x13 : Int) (xo4 : (List Int)) (xo11 : (List ByteArray)) : St := mkSt 24 [(4, .s (.osl 4 0)), (11, .s (.osl 11 0)), (12, .s (.v (.int .i64) x12)), (13, .s (.v (.int .i64) x13))] [(4, .row t_int (.int .i64) xo4 0 false), (11, .row t_string .str xo11 0 false)]

def spec_DepthsOf_L0X1 (y12 : Int) (y13 : Int) (y14 : Bool) (yo4 : (List Int)) (yo11 : (List ByteArray)) : St := mkSt 24 [(4, .s (.osl 4 0)), (11, .s (.osl 11 0)), (12, .s (.v (.int .i64) y12)), (13, .s (.v (.int .i64) y13)), (14, .s (.v .bool y14))] [(4, .row t_int (.int .i64) yo4 0 false), (11, .row t_string .str yo11 0 false)]

theorem spec_DepthsOf_L0a_i1 (x12 : Int) (x13 : Int) (xo4 : (List Int)) (xo11 : (List ByteArray))
    (h1 : x13 < x12)
    (h2 : 0 ≤ x13)
    (h3 : x13 < (List.length xo11 : Int))
    (h4 : (x13).toNat < List.length xo11)
    (h5 : sizeOK (List.length xo4 + List.length ([(((List.getD xo11 (x13).toNat (⟨#[]⟩ : ByteArray))).size : Int)] : List Int)))
    {e : AEx} {st : St} (next : LoopSC cfg.P 1 (lb P_spec_DepthsOf 0) (spec_DepthsOf_L0a x12 (IntKind.wrap .i64 (x13 + (1 : Int))) (xo4 ++ ([(((List.getD xo11 (x13).toNat (⟨#[]⟩ : ByteArray))).size : Int)] : List Int)) xo11) e st) :
    LoopSC cfg.P 1 (lb P_spec_DepthsOf 0) (spec_DepthsOf_L0a x12 x13 xo4 xo11) e st :=
  loop_iter cfgOK (f := i_spec_DepthsOf) (its := [.bool true])
    (ps := [decide (x13 < x12) = true,
      0 ≤ x13,
      x13 < (List.length xo11 : Int),
      (x13).toNat < List.length xo11,
      sizeOK (List.length xo4 + List.length ([(((List.getD xo11 (x13).toNat (⟨#[]⟩ : ByteArray))).size : Int)] : List Int))]) (st1 := spec_DepthsOf_L0a x12 (IntKind.wrap .i64 (x13 + (1 : Int))) (xo4 ++ ([(((List.getD xo11 (x13).toNat (⟨#[]⟩ : ByteArray))).size : Int)] : List Int)) xo11) (by kernel_rfl) ⟨(decide_eq_true h1), h2, h3, h4, h5, trivial⟩ next

theorem spec_DepthsOf_L0a_x2 (x12 : Int) (x13 : Int) (xo4 : (List Int)) (xo11 : (List ByteArray))
    (h1 : ¬ (x13 < x12)) :
    LoopSC cfg.P 1 (lb P_spec_DepthsOf 0) (spec_DepthsOf_L0a x12 x13 xo4 xo11) (.exit 0) (spec_DepthsOf_L0X1 x12 x13 false xo4 xo11) :=
  loop_out cfgOK (f := i_spec_DepthsOf) (its := [.bool false])
    (ps := [decide (x13 < x12) = false]) (by kernel_rfl) ⟨(decide_eq_false h1), trivial⟩ (fun h => by cases h)

theorem spec_DepthsOf_p1 (a0 : ByteArray) (c2 : (List ByteArray)) (k1y12 : Int) (k1y13 : Int) (k1y14 : Bool) (k1yo4 : (List Int)) (k1yo11 : (List ByteArray))
    (h1 : SC cfg.P i_spec_trIs [.s (.v .str a0)] (.s (.v .bool true)) [])
    (h2 : SC cfg.P i_spec_trAddresses [.s (.v .str a0), .s (.v .str (⟨#[]⟩ : ByteArray))] (.s (.own t_string .str c2)) [])
    (h3 : LoopSC cfg.P 1 (lb P_spec_DepthsOf 0) (spec_DepthsOf_L0a ((List.length c2 : Nat) : Int) (0 : Int) ([] : List Int) c2) (.exit 0) (spec_DepthsOf_L0X1 k1y12 k1y13 k1y14 k1yo4 k1yo11)) :
    SC cfg.P i_spec_DepthsOf [.s (.v .str a0)] (.tup [.own t_int (.int .i64) k1yo4, .v .bool true]) [] :=
  SC_of_run cfgOK (its := [.res (.s (.v .bool true)) [] [] [], .res (.s (.own t_string .str c2)) [] [] [11], .loop (fun _ => (.exit 0, spec_DepthsOf_L0X1 k1y12 k1y13 k1y14 k1yo4 k1yo11))])
    (ps := [SC cfg.P i_spec_trIs [.s (.v .str a0)] (.s (.v .bool true)) [],
      SC cfg.P i_spec_trAddresses [.s (.v .str a0), .s (.v .str (⟨#[]⟩ : ByteArray))] (.s (.own t_string .str c2)) [],
      LoopSC cfg.P 1 (lb P_spec_DepthsOf 0) (spec_DepthsOf_L0a ((List.length c2 : Nat) : Int) (0 : Int) ([] : List Int) c2) (.exit 0) (spec_DepthsOf_L0X1 k1y12 k1y13 k1y14 k1yo4 k1yo11)]) (by kernel_rfl) ⟨h1, h2, h3, trivial⟩ get_spec_DepthsOf (by decide)

theorem spec_DepthsOf_p2 (a0 : ByteArray)
    (h1 : SC cfg.P i_spec_trIs [.s (.v .str a0)] (.s (.v .bool false)) []) :
    SC cfg.P i_spec_DepthsOf [.s (.v .str a0)] (.tup [.own t_int (.int .i64) ([] : List Int), .v .bool false]) [] :=
  SC_of_run cfgOK (its := [.res (.s (.v .bool false)) [] [] []])
    (ps := [SC cfg.P i_spec_trIs [.s (.v .str a0)] (.s (.v .bool false)) []]) (by kernel_rfl) ⟨h1, trivial⟩ get_spec_DepthsOf (by decide)

/-! ### impl_ExposedOf -/


theorem impl_ExposedOf_p1 (a0 : ByteArray) (c1a : Tr) (c2 : (List Int))
    (h1 : SC cfg.P i_impl_parse [.s (.v .str a0)] (.tup [.v .tree c1a, .v .bool true]) [])
    (h2 : SC cfg.P i_impl_node_exposed [.s (.v .tree c1a), .s (.v (.int .i64) (0 : Int))] (.s (.own t_int (.int .i64) c2)) []) :
    SC cfg.P i_impl_ExposedOf [.s (.v .str a0)] (.tup [.own t_int (.int .i64) c2, .v .bool true]) [] :=
  SC_of_run cfgOK (its := [.res (.tup [.v .tree c1a, .v .bool true]) [] [] [], .res (.s (.own t_int (.int .i64) c2)) [] [] [14]])
    (ps := [SC cfg.P i_impl_parse [.s (.v .str a0)] (.tup [.v .tree c1a, .v .bool true]) [],
      SC cfg.P i_impl_node_exposed [.s (.v .tree c1a), .s (.v (.int .i64) (0 : Int))] (.s (.own t_int (.int .i64) c2)) []]) (by kernel_rfl) ⟨h1, h2, trivial⟩ get_impl_ExposedOf (by decide)

theorem impl_ExposedOf_p2 (a0 : ByteArray) (c1a : Tr)
    (h1 : SC cfg.P i_impl_parse [.s (.v .str a0)] (.tup [.v .tree c1a, .v .bool false]) []) :
    SC cfg.P i_impl_ExposedOf [.s (.v .str a0)] (.tup [.own t_int (.int .i64) ([] : List Int), .v .bool false]) [] :=
  SC_of_run cfgOK (its := [.res (.tup [.v .tree c1a, .v .bool false]) [] [] []])
    (ps := [SC cfg.P i_impl_parse [.s (.v .str a0)] (.tup [.v .tree c1a, .v .bool false]) []]) (by kernel_rfl) ⟨h1, trivial⟩ get_impl_ExposedOf (by decide)

/-! ### spec_ExposedOf -/


theorem spec_ExposedOf_p1 (a0 : ByteArray) (c2 : (List Int))
    (h1 : SC cfg.P i_spec_trIs [.s (.v .str a0)] (.s (.v .bool true)) [])
    (h2 : SC cfg.P i_spec_trExposed [.s (.v .str a0)] (.s (.own t_int (.int .i64) c2)) []) :
    SC cfg.P i_spec_ExposedOf [.s (.v .str a0)] (.tup [.own t_int (.int .i64) c2, .v .bool true]) [] :=
  SC_of_run cfgOK (its := [.res (.s (.v .bool true)) [] [] [], .res (.s (.own t_int (.int .i64) c2)) [] [] [8]])
    (ps := [SC cfg.P i_spec_trIs [.s (.v .str a0)] (.s (.v .bool true)) [],
      SC cfg.P i_spec_trExposed [.s (.v .str a0)] (.s (.own t_int (.int .i64) c2)) []]) (by kernel_rfl) ⟨h1, h2, trivial⟩ get_spec_ExposedOf (by decide)

theorem spec_ExposedOf_p2 (a0 : ByteArray)
    (h1 : SC cfg.P i_spec_trIs [.s (.v .str a0)] (.s (.v .bool false)) []) :
    SC cfg.P i_spec_ExposedOf [.s (.v .str a0)] (.tup [.own t_int (.int .i64) ([] : List Int), .v .bool false]) [] :=
  SC_of_run cfgOK (its := [.res (.s (.v .bool false)) [] [] []])
    (ps := [SC cfg.P i_spec_trIs [.s (.v .str a0)] (.s (.v .bool false)) []]) (by kernel_rfl) ⟨h1, trivial⟩ get_spec_ExposedOf (by decide)

/-! ### impl_CaretsOf -/


theorem impl_CaretsOf_p1 (a0 : ByteArray) (c1a : Tr) (c1b : Bool) (c2 : Int)
    (h1 : SC cfg.P i_impl_parse [.s (.v .str a0)] (.tup [.v .tree c1a, .v .bool c1b]) [])
    (h2 : SC cfg.P i_impl_node_carets [.s (.v .tree c1a)] (.s (.v (.int .i64) c2)) []) :
    SC cfg.P i_impl_CaretsOf [.s (.v .str a0)] (.tup [.v (.int .i64) c2, .v .bool c1b]) [] :=
  SC_of_run cfgOK (its := [.res (.tup [.v .tree c1a, .v .bool c1b]) [] [] [], .res (.s (.v (.int .i64) c2)) [] [] []])
    (ps := [SC cfg.P i_impl_parse [.s (.v .str a0)] (.tup [.v .tree c1a, .v .bool c1b]) [],
      SC cfg.P i_impl_node_carets [.s (.v .tree c1a)] (.s (.v (.int .i64) c2)) []]) (by kernel_rfl) ⟨h1, h2, trivial⟩ get_impl_CaretsOf (by decide)

/-! ### spec_CaretsOf -/


theorem spec_CaretsOf_p1 (a0 : ByteArray) (c2 : Int)
    (h1 : SC cfg.P i_spec_trIs [.s (.v .str a0)] (.s (.v .bool true)) [])
    (h2 : SC cfg.P i_spec_trCarets [.s (.v .str a0)] (.s (.v (.int .i64) c2)) []) :
    SC cfg.P i_spec_CaretsOf [.s (.v .str a0)] (.tup [.v (.int .i64) c2, .v .bool true]) [] :=
  SC_of_run cfgOK (its := [.res (.s (.v .bool true)) [] [] [], .res (.s (.v (.int .i64) c2)) [] [] []])
    (ps := [SC cfg.P i_spec_trIs [.s (.v .str a0)] (.s (.v .bool true)) [],
      SC cfg.P i_spec_trCarets [.s (.v .str a0)] (.s (.v (.int .i64) c2)) []]) (by kernel_rfl) ⟨h1, h2, trivial⟩ get_spec_CaretsOf (by decide)

theorem spec_CaretsOf_p2 (a0 : ByteArray)
    (h1 : SC cfg.P i_spec_trIs [.s (.v .str a0)] (.s (.v .bool false)) []) :
    SC cfg.P i_spec_CaretsOf [.s (.v .str a0)] (.tup [.v (.int .i64) (0 : Int), .v .bool false]) [] :=
  SC_of_run cfgOK (its := [.res (.s (.v .bool false)) [] [] []])
    (ps := [SC cfg.P i_spec_trIs [.s (.v .str a0)] (.s (.v .bool false)) []]) (by kernel_rfl) ⟨h1, trivial⟩ get_spec_CaretsOf (by decide)

/-! ### impl_MirrorTree -/


theorem impl_MirrorTree_p1 (a0 : ByteArray) (c1a : Tr) (c2 : Tr) (c3 : ByteArray)
    (h1 : SC cfg.P i_impl_parse [.s (.v .str a0)] (.tup [.v .tree c1a, .v .bool true]) [])
    (h2 : SC cfg.P i_impl_node_mirror [.s (.v .tree c1a)] (.s (.v .tree c2)) [])
    (h3 : SC cfg.P i_impl_node_text [.s (.v .tree c2)] (.s (.v .str c3)) []) :
    SC cfg.P i_impl_MirrorTree [.s (.v .str a0)] (.tup [.v .str c3, .v .bool true]) [] :=
  SC_of_run cfgOK (its := [.res (.tup [.v .tree c1a, .v .bool true]) [] [] [], .res (.s (.v .tree c2)) [] [] [], .res (.s (.v .str c3)) [] [] []])
    (ps := [SC cfg.P i_impl_parse [.s (.v .str a0)] (.tup [.v .tree c1a, .v .bool true]) [],
      SC cfg.P i_impl_node_mirror [.s (.v .tree c1a)] (.s (.v .tree c2)) [],
      SC cfg.P i_impl_node_text [.s (.v .tree c2)] (.s (.v .str c3)) []]) (by kernel_rfl) ⟨h1, h2, h3, trivial⟩ get_impl_MirrorTree (by decide)

theorem impl_MirrorTree_p2 (a0 : ByteArray) (c1a : Tr)
    (h1 : SC cfg.P i_impl_parse [.s (.v .str a0)] (.tup [.v .tree c1a, .v .bool false]) []) :
    SC cfg.P i_impl_MirrorTree [.s (.v .str a0)] (.tup [.v .str (⟨#[]⟩ : ByteArray), .v .bool false]) [] :=
  SC_of_run cfgOK (its := [.res (.tup [.v .tree c1a, .v .bool false]) [] [] []])
    (ps := [SC cfg.P i_impl_parse [.s (.v .str a0)] (.tup [.v .tree c1a, .v .bool false]) []]) (by kernel_rfl) ⟨h1, trivial⟩ get_impl_MirrorTree (by decide)

/-! ### spec_MirrorTree -/


theorem spec_MirrorTree_p1 (a0 : ByteArray) (c2 : ByteArray)
    (h1 : SC cfg.P i_spec_trIs [.s (.v .str a0)] (.s (.v .bool true)) [])
    (h2 : SC cfg.P i_spec_trMirror [.s (.v .str a0)] (.s (.v .str c2)) []) :
    SC cfg.P i_spec_MirrorTree [.s (.v .str a0)] (.tup [.v .str c2, .v .bool true]) [] :=
  SC_of_run cfgOK (its := [.res (.s (.v .bool true)) [] [] [], .res (.s (.v .str c2)) [] [] []])
    (ps := [SC cfg.P i_spec_trIs [.s (.v .str a0)] (.s (.v .bool true)) [],
      SC cfg.P i_spec_trMirror [.s (.v .str a0)] (.s (.v .str c2)) []]) (by kernel_rfl) ⟨h1, h2, trivial⟩ get_spec_MirrorTree (by decide)

theorem spec_MirrorTree_p2 (a0 : ByteArray)
    (h1 : SC cfg.P i_spec_trIs [.s (.v .str a0)] (.s (.v .bool false)) []) :
    SC cfg.P i_spec_MirrorTree [.s (.v .str a0)] (.tup [.v .str (⟨#[]⟩ : ByteArray), .v .bool false]) [] :=
  SC_of_run cfgOK (its := [.res (.s (.v .bool false)) [] [] []])
    (ps := [SC cfg.P i_spec_trIs [.s (.v .str a0)] (.s (.v .bool false)) []]) (by kernel_rfl) ⟨h1, trivial⟩ get_spec_MirrorTree (by decide)

/-! ### laws_fTexts -/


def laws_fTexts_L0a (x0 : (List ByteArray)) (x1 : (List ByteArray)) (x12 : Int) (x13 : Int) : St := mkSt 26 [(0, .s (.v (.sl .str) x0)), (1, .s (.v (.sl .str) x1)), (12, .s (.v (.int .i64) x12)), (13, .s (.v (.int .i64) x13))] []

def laws_fTexts_L0X1 (y4 : Bool) : St := mkSt 26 [(4, .s (.v .bool y4))] []

def laws_fTexts_L0X2 (y0 : (List ByteArray)) (y1 : (List ByteArray)) (y12 : Int) (y13 : Int) (y14 : Bool) : St := mkSt 26 [(0, .s (.v (.sl .str) y0)), (1, .s (.v (.sl .str) y1)), (12, .s (.v (.int .i64) y12)), (13, .s (.v (.int .i64) y13)), (14, .s (.v .bool y14))] []

theorem laws_fTexts_L0a_x1 (x0 : (List ByteArray)) (x1 : (List ByteArray)) (x12 : Int) (x13 : Int)
    (h1 : x13 < x12)
    (h2 : 0 ≤ x13)
    (h3 : x13 < (List.length x0 : Int))
    (h4 : x13 < (List.length x1 : Int))
    (h5 : (List.getD x0 (x13).toNat (⟨#[]⟩ : ByteArray)) ≠ (List.getD x1 (x13).toNat (⟨#[]⟩ : ByteArray))) :
    LoopSC cfg.P 2 (lb P_laws_fTexts 0) (laws_fTexts_L0a x0 x1 x12 x13) (.ret) (laws_fTexts_L0X1 false) :=
  loop_out cfgOK (f := i_laws_fTexts) (its := [.bool true, .bool true])
    (ps := [decide (x13 < x12) = true,
      0 ≤ x13,
      x13 < (List.length x0 : Int),
      0 ≤ x13,
      x13 < (List.length x1 : Int),
      (!(((List.getD x0 (x13).toNat (⟨#[]⟩ : ByteArray))).toList == ((List.getD x1 (x13).toNat (⟨#[]⟩ : ByteArray))).toList)) = true]) (by kernel_rfl) ⟨(decide_eq_true h1), h2, h3, h2, h4, (nseq_t h5), trivial⟩ (fun h => by cases h)

theorem laws_fTexts_L0a_i2 (x0 : (List ByteArray)) (x1 : (List ByteArray)) (x12 : Int) (x13 : Int)
    (h1 : x13 < x12)
    (h2 : 0 ≤ x13)
    (h3 : x13 < (List.length x0 : Int))
    (h4 : x13 < (List.length x1 : Int))
    (h5 : (List.getD x0 (x13).toNat (⟨#[]⟩ : ByteArray)) = (List.getD x1 (x13).toNat (⟨#[]⟩ : ByteArray)))
    {e : AEx} {st : St} (next : LoopSC cfg.P 2 (lb P_laws_fTexts 0) (laws_fTexts_L0a x0 x1 x12 (IntKind.wrap .i64 (x13 + (1 : Int)))) e st) :
    LoopSC cfg.P 2 (lb P_laws_fTexts 0) (laws_fTexts_L0a x0 x1 x12 x13) e st :=
  loop_iter cfgOK (f := i_laws_fTexts) (its := [.bool true, .bool false])
    (ps := [decide (x13 < x12) = true,
      0 ≤ x13,
      x13 < (List.length x0 : Int),
      0 ≤ x13,
      x13 < (List.length x1 : Int),
      (!(((List.getD x0 (x13).toNat (⟨#[]⟩ : ByteArray))).toList == ((List.getD x1 (x13).toNat (⟨#[]⟩ : ByteArray))).toList)) = false]) (st1 := laws_fTexts_L0a x0 x1 x12 (IntKind.wrap .i64 (x13 + (1 : Int)))) (by kernel_rfl) ⟨(decide_eq_true h1), h2, h3, h2, h4, (nseq_f h5), trivial⟩ next

theorem laws_fTexts_L0a_x3 (x0 : (List ByteArray)) (x1 : (List ByteArray)) (x12 : Int) (x13 : Int)
    (h1 : ¬ (x13 < x12)) :
    LoopSC cfg.P 2 (lb P_laws_fTexts 0) (laws_fTexts_L0a x0 x1 x12 x13) (.exit 0) (laws_fTexts_L0X2 x0 x1 x12 x13 false) :=
  loop_out cfgOK (f := i_laws_fTexts) (its := [.bool false])
    (ps := [decide (x13 < x12) = false]) (by kernel_rfl) ⟨(decide_eq_false h1), trivial⟩ (fun h => by cases h)

theorem laws_fTexts_p1 (a0 : (List ByteArray)) (a1 : (List ByteArray))
    (h1 : ((List.length a0 : Nat) : Int) ≠ ((List.length a1 : Nat) : Int)) :
    SC cfg.P i_laws_fTexts [.s (.v (.sl .str) a0), .s (.v (.sl .str) a1)] (.s (.v .bool false)) [] :=
  SC_of_run cfgOK (its := [.bool true])
    (ps := [(((List.length a0 : Nat) : Int) != ((List.length a1 : Nat) : Int)) = true]) (by kernel_rfl) ⟨(bne_iff_ne.mpr h1), trivial⟩ get_laws_fTexts (by decide)

theorem laws_fTexts_p2 (a0 : (List ByteArray)) (a1 : (List ByteArray)) (k1y4 : Bool)
    (h1 : ((List.length a0 : Nat) : Int) = ((List.length a1 : Nat) : Int))
    (h2 : LoopSC cfg.P 2 (lb P_laws_fTexts 0) (laws_fTexts_L0a a0 a1 ((List.length a0 : Nat) : Int) (0 : Int)) (.ret) (laws_fTexts_L0X1 k1y4)) :
    SC cfg.P i_laws_fTexts [.s (.v (.sl .str) a0), .s (.v (.sl .str) a1)] (.s (.v .bool k1y4)) [] :=
  SC_of_run cfgOK (its := [.bool false, .loop (fun _ => (.ret, laws_fTexts_L0X1 k1y4))])
    (ps := [(((List.length a0 : Nat) : Int) != ((List.length a1 : Nat) : Int)) = false,
      LoopSC cfg.P 2 (lb P_laws_fTexts 0) (laws_fTexts_L0a a0 a1 ((List.length a0 : Nat) : Int) (0 : Int)) (.ret) (laws_fTexts_L0X1 k1y4)]) (by kernel_rfl) ⟨(bne_eq_false_iff_eq.mpr h1), h2, trivial⟩ get_laws_fTexts (by decide)

theorem laws_fTexts_p3 (a0 : (List ByteArray)) (a1 : (List ByteArray)) (k1y0 : (List ByteArray)) (k1y1 : (List ByteArray)) (k1y12 : Int) (k1y13 : Int) (k1y14 : Bool)
    (h1 : ((List.length a0 : Nat) : Int) = ((List.length a1 : Nat) : Int))
    (h2 : LoopSC cfg.P 2 (lb P_laws_fTexts 0) (laws_fTexts_L0a a0 a1 ((List.length a0 : Nat) : Int) (0 : Int)) (.exit 0) (laws_fTexts_L0X2 k1y0 k1y1 k1y12 k1y13 k1y14)) :
    SC cfg.P i_laws_fTexts [.s (.v (.sl .str) a0), .s (.v (.sl .str) a1)] (.s (.v .bool true)) [] :=
  SC_of_run cfgOK (its := [.bool false, .loop (fun _ => (.exit 0, laws_fTexts_L0X2 k1y0 k1y1 k1y12 k1y13 k1y14))])
    (ps := [(((List.length a0 : Nat) : Int) != ((List.length a1 : Nat) : Int)) = false,
      LoopSC cfg.P 2 (lb P_laws_fTexts 0) (laws_fTexts_L0a a0 a1 ((List.length a0 : Nat) : Int) (0 : Int)) (.exit 0) (laws_fTexts_L0X2 k1y0 k1y1 k1y12 k1y13 k1y14)]) (by kernel_rfl) ⟨(bne_eq_false_iff_eq.mpr h1), h2, trivial⟩ get_laws_fTexts (by decide)

/-! ### laws_fSame -/


def laws_fSame_L0a (x0 : (List Int)) (x1 : (List Int)) (x12 : Int) (x13 : Int) : St := mkSt 26 [(0, .s (.v (.sl (.int .i64)) x0)), (1, .s (.v (.sl (.int .i64)) x1)), (12, .s (.v (.int .i64) x12)), (13, .s (.v (.int .i64) x13))] []

def laws_fSame_L0X1 (y4 : Bool) : St := mkSt 26 [(4, .s (.v .bool y4))] []

def laws_fSame_L0X2 (y0 : (List Int)) (y1 : (List Int)) (y12 : Int) (y13 : Int) (y14 : Bool) : St := mkSt 26 [(0, .s (.v (.sl (.int .i64)) y0)), (1, .s (.v (.sl (.int .i64)) y1)), (12, .s (.v (.int .i64) y12)), (13, .s (.v (.int .i64) y13)), (14, .s (.v .bool y14))] []

theorem laws_fSame_L0a_x1 (x0 : (List Int)) (x1 : (List Int)) (x12 : Int) (x13 : Int)
    (h1 : x13 < x12)
    (h2 : 0 ≤ x13)
    (h3 : x13 < (List.length x0 : Int))
    (h4 : x13 < (List.length x1 : Int))
    (h5 : (List.getD x0 (x13).toNat (0 : Int)) ≠ (List.getD x1 (x13).toNat (0 : Int))) :
    LoopSC cfg.P 2 (lb P_laws_fSame 0) (laws_fSame_L0a x0 x1 x12 x13) (.ret) (laws_fSame_L0X1 false) :=
  loop_out cfgOK (f := i_laws_fSame) (its := [.bool true, .bool true])
    (ps := [decide (x13 < x12) = true,
      0 ≤ x13,
      x13 < (List.length x0 : Int),
      0 ≤ x13,
      x13 < (List.length x1 : Int),
      ((List.getD x0 (x13).toNat (0 : Int)) != (List.getD x1 (x13).toNat (0 : Int))) = true]) (by kernel_rfl) ⟨(decide_eq_true h1), h2, h3, h2, h4, (bne_iff_ne.mpr h5), trivial⟩ (fun h => by cases h)

theorem laws_fSame_L0a_i2 (x0 : (List Int)) (x1 : (List Int)) (x12 : Int) (x13 : Int)
    (h1 : x13 < x12)
    (h2 : 0 ≤ x13)
    (h3 : x13 < (List.length x0 : Int))
    (h4 : x13 < (List.length x1 : Int))
    (h5 : (List.getD x0 (x13).toNat (0 : Int)) = (List.getD x1 (x13).toNat (0 : Int)))
    {e : AEx} {st : St} (next : LoopSC cfg.P 2 (lb P_laws_fSame 0) (laws_fSame_L0a x0 x1 x12 (IntKind.wrap .i64 (x13 + (1 : Int)))) e st) :
    LoopSC cfg.P 2 (lb P_laws_fSame 0) (laws_fSame_L0a x0 x1 x12 x13) e st :=
  loop_iter cfgOK (f := i_laws_fSame) (its := [.bool true, .bool false])
    (ps := [decide (x13 < x12) = true,
      0 ≤ x13,
      x13 < (List.length x0 : Int),
      0 ≤ x13,
      x13 < (List.length x1 : Int),
      ((List.getD x0 (x13).toNat (0 : Int)) != (List.getD x1 (x13).toNat (0 : Int))) = false]) (st1 := laws_fSame_L0a x0 x1 x12 (IntKind.wrap .i64 (x13 + (1 : Int)))) (by kernel_rfl) ⟨(decide_eq_true h1), h2, h3, h2, h4, (bne_eq_false_iff_eq.mpr h5), trivial⟩ next

theorem laws_fSame_L0a_x3 (x0 : (List Int)) (x1 : (List Int)) (x12 : Int) (x13 : Int)
    (h1 : ¬ (x13 < x12)) :
    LoopSC cfg.P 2 (lb P_laws_fSame 0) (laws_fSame_L0a x0 x1 x12 x13) (.exit 0) (laws_fSame_L0X2 x0 x1 x12 x13 false) :=
  loop_out cfgOK (f := i_laws_fSame) (its := [.bool false])
    (ps := [decide (x13 < x12) = false]) (by kernel_rfl) ⟨(decide_eq_false h1), trivial⟩ (fun h => by cases h)

theorem laws_fSame_p1 (a0 : (List Int)) (a1 : (List Int))
    (h1 : ((List.length a0 : Nat) : Int) ≠ ((List.length a1 : Nat) : Int)) :
    SC cfg.P i_laws_fSame [.s (.v (.sl (.int .i64)) a0), .s (.v (.sl (.int .i64)) a1)] (.s (.v .bool false)) [] :=
  SC_of_run cfgOK (its := [.bool true])
    (ps := [(((List.length a0 : Nat) : Int) != ((List.length a1 : Nat) : Int)) = true]) (by kernel_rfl) ⟨(bne_iff_ne.mpr h1), trivial⟩ get_laws_fSame (by decide)

theorem laws_fSame_p2 (a0 : (List Int)) (a1 : (List Int)) (k1y4 : Bool)
    (h1 : ((List.length a0 : Nat) : Int) = ((List.length a1 : Nat) : Int))
    (h2 : LoopSC cfg.P 2 (lb P_laws_fSame 0) (laws_fSame_L0a a0 a1 ((List.length a0 : Nat) : Int) (0 : Int)) (.ret) (laws_fSame_L0X1 k1y4)) :
    SC cfg.P i_laws_fSame [.s (.v (.sl (.int .i64)) a0), .s (.v (.sl (.int .i64)) a1)] (.s (.v .bool k1y4)) [] :=
  SC_of_run cfgOK (its := [.bool false, .loop (fun _ => (.ret, laws_fSame_L0X1 k1y4))])
    (ps := [(((List.length a0 : Nat) : Int) != ((List.length a1 : Nat) : Int)) = false,
      LoopSC cfg.P 2 (lb P_laws_fSame 0) (laws_fSame_L0a a0 a1 ((List.length a0 : Nat) : Int) (0 : Int)) (.ret) (laws_fSame_L0X1 k1y4)]) (by kernel_rfl) ⟨(bne_eq_false_iff_eq.mpr h1), h2, trivial⟩ get_laws_fSame (by decide)

theorem laws_fSame_p3 (a0 : (List Int)) (a1 : (List Int)) (k1y0 : (List Int)) (k1y1 : (List Int)) (k1y12 : Int) (k1y13 : Int) (k1y14 : Bool)
    (h1 : ((List.length a0 : Nat) : Int) = ((List.length a1 : Nat) : Int))
    (h2 : LoopSC cfg.P 2 (lb P_laws_fSame 0) (laws_fSame_L0a a0 a1 ((List.length a0 : Nat) : Int) (0 : Int)) (.exit 0) (laws_fSame_L0X2 k1y0 k1y1 k1y12 k1y13 k1y14)) :
    SC cfg.P i_laws_fSame [.s (.v (.sl (.int .i64)) a0), .s (.v (.sl (.int .i64)) a1)] (.s (.v .bool true)) [] :=
  SC_of_run cfgOK (its := [.bool false, .loop (fun _ => (.exit 0, laws_fSame_L0X2 k1y0 k1y1 k1y12 k1y13 k1y14))])
    (ps := [(((List.length a0 : Nat) : Int) != ((List.length a1 : Nat) : Int)) = false,
      LoopSC cfg.P 2 (lb P_laws_fSame 0) (laws_fSame_L0a a0 a1 ((List.length a0 : Nat) : Int) (0 : Int)) (.exit 0) (laws_fSame_L0X2 k1y0 k1y1 k1y12 k1y13 k1y14)]) (by kernel_rfl) ⟨(bne_eq_false_iff_eq.mpr h1), h2, trivial⟩ get_laws_fSame (by decide)

/-! ### impl_IsTree -/


theorem impl_IsTree_p1 (a0 : ByteArray) (c1a : Tr) (c1b : Bool)
    (h1 : SC cfg.P i_impl_parse [.s (.v .str a0)] (.tup [.v .tree c1a, .v .bool c1b]) []) :
    SC cfg.P i_impl_IsTree [.s (.v .str a0)] (.s (.v .bool c1b)) [] :=
  SC_of_run cfgOK (its := [.res (.tup [.v .tree c1a, .v .bool c1b]) [] [] []])
    (ps := [SC cfg.P i_impl_parse [.s (.v .str a0)] (.tup [.v .tree c1a, .v .bool c1b]) []]) (by kernel_rfl) ⟨h1, trivial⟩ get_impl_IsTree (by decide)

/-! ### impl_TreeWith -/


def impl_TreeWith_L0a (x0 : (List ByteArray)) (x11 : (List ByteArray)) (x12 : Int) (x13 : Int) : St := mkSt 30 [(0, .s (.v (.sl .str) x0)), (11, .s (.v (.sl .str) x11)), (12, .s (.v (.int .i64) x12)), (13, .s (.v (.int .i64) x13))] []

def impl_TreeWith_L0X1 (y2 : ByteArray) (y3 : Bool) : St := mkSt 30 [(2, .s (.v .str y2)), (3, .s (.v .bool y3))] []

def impl_TreeWith_L0X2 (y0 : (List ByteArray)) (y11 : (List ByteArray)) (y12 : Int) (y13 : Int) (y14 : Bool) : St := mkSt 30 [(0, .s (.v (.sl .str) y0)), (11, .s (.v (.sl .str) y11)), (12, .s (.v (.int .i64) y12)), (13, .s (.v (.int .i64) y13)), (14, .s (.v .bool y14))] []

theorem impl_TreeWith_L0a_x1 (x0 : (List ByteArray)) (x11 : (List ByteArray)) (x12 : Int) (x13 : Int)
    (h1 : x13 < x12)
    (h2 : 0 ≤ x13)
    (h3 : x13 < (List.length x11 : Int))
    (h4 : (((List.getD x11 (x13).toNat (⟨#[]⟩ : ByteArray))).size : Int) > (8 : Int)) :
    LoopSC cfg.P 1 (lb P_impl_TreeWith 0) (impl_TreeWith_L0a x0 x11 x12 x13) (.ret) (impl_TreeWith_L0X1 (⟨#[]⟩ : ByteArray) false) :=
  loop_out cfgOK (f := i_impl_TreeWith) (its := [.bool true, .bool true])
    (ps := [decide (x13 < x12) = true,
      0 ≤ x13,
      x13 < (List.length x11 : Int),
      decide ((((List.getD x11 (x13).toNat (⟨#[]⟩ : ByteArray))).size : Int) > (8 : Int)) = true]) (by kernel_rfl) ⟨(decide_eq_true h1), h2, h3, (decide_eq_true h4), trivial⟩ (fun h => by cases h)

theorem impl_TreeWith_L0a_i2 (x0 : (List ByteArray)) (x11 : (List ByteArray)) (x12 : Int) (x13 : Int)
    (h1 : x13 < x12)
    (h2 : 0 ≤ x13)
    (h3 : x13 < (List.length x11 : Int))
    (h4 : ¬ ((((List.getD x11 (x13).toNat (⟨#[]⟩ : ByteArray))).size : Int) > (8 : Int)))
    {e : AEx} {st : St} (next : LoopSC cfg.P 1 (lb P_impl_TreeWith 0) (impl_TreeWith_L0a x0 x11 x12 (IntKind.wrap .i64 (x13 + (1 : Int)))) e st) :
    LoopSC cfg.P 1 (lb P_impl_TreeWith 0) (impl_TreeWith_L0a x0 x11 x12 x13) e st :=
  loop_iter cfgOK (f := i_impl_TreeWith) (its := [.bool true, .bool false])
    (ps := [decide (x13 < x12) = true,
      0 ≤ x13,
      x13 < (List.length x11 : Int),
      decide ((((List.getD x11 (x13).toNat (⟨#[]⟩ : ByteArray))).size : Int) > (8 : Int)) = false]) (st1 := impl_TreeWith_L0a x0 x11 x12 (IntKind.wrap .i64 (x13 + (1 : Int)))) (by kernel_rfl) ⟨(decide_eq_true h1), h2, h3, (decide_eq_false h4), trivial⟩ next

theorem impl_TreeWith_L0a_x3 (x0 : (List ByteArray)) (x11 : (List ByteArray)) (x12 : Int) (x13 : Int)
    (h1 : ¬ (x13 < x12)) :
    LoopSC cfg.P 1 (lb P_impl_TreeWith 0) (impl_TreeWith_L0a x0 x11 x12 x13) (.exit 0) (impl_TreeWith_L0X2 x0 x11 x12 x13 false) :=
  loop_out cfgOK (f := i_impl_TreeWith) (its := [.bool false])
    (ps := [decide (x13 < x12) = false]) (by kernel_rfl) ⟨(decide_eq_false h1), trivial⟩ (fun h => by cases h)

theorem impl_TreeWith_p1 (a0 : (List ByteArray))
    (h1 : ((List.length a0 : Nat) : Int) > (9 : Int)) :
    SC cfg.P i_impl_TreeWith [.s (.v (.sl .str) a0)] (.tup [.v .str (⟨#[]⟩ : ByteArray), .v .bool false]) [] :=
  SC_of_run cfgOK (its := [.bool true])
    (ps := [decide (((List.length a0 : Nat) : Int) > (9 : Int)) = true]) (by kernel_rfl) ⟨(decide_eq_true h1), trivial⟩ get_impl_TreeWith (by decide)

theorem impl_TreeWith_p2 (a0 : (List ByteArray)) (k1y2 : ByteArray) (k1y3 : Bool)
    (h1 : ¬ (((List.length a0 : Nat) : Int) > (9 : Int)))
    (h2 : LoopSC cfg.P 1 (lb P_impl_TreeWith 0) (impl_TreeWith_L0a a0 a0 ((List.length a0 : Nat) : Int) (0 : Int)) (.ret) (impl_TreeWith_L0X1 k1y2 k1y3)) :
    SC cfg.P i_impl_TreeWith [.s (.v (.sl .str) a0)] (.tup [.v .str k1y2, .v .bool k1y3]) [] :=
  SC_of_run cfgOK (its := [.bool false, .loop (fun _ => (.ret, impl_TreeWith_L0X1 k1y2 k1y3))])
    (ps := [decide (((List.length a0 : Nat) : Int) > (9 : Int)) = false,
      LoopSC cfg.P 1 (lb P_impl_TreeWith 0) (impl_TreeWith_L0a a0 a0 ((List.length a0 : Nat) : Int) (0 : Int)) (.ret) (impl_TreeWith_L0X1 k1y2 k1y3)]) (by kernel_rfl) ⟨(decide_eq_false h1), h2, trivial⟩ get_impl_TreeWith (by decide)

theorem impl_TreeWith_p3 (a0 : (List ByteArray)) (k1y0 : (List ByteArray)) (k1y11 : (List ByteArray)) (k1y12 : Int) (k1y13 : Int) (k1y14 : Bool) (c1a : Tr) (c2 : ByteArray)
    (h1 : ¬ (((List.length a0 : Nat) : Int) > (9 : Int)))
    (h2 : LoopSC cfg.P 1 (lb P_impl_TreeWith 0) (impl_TreeWith_L0a a0 a0 ((List.length a0 : Nat) : Int) (0 : Int)) (.exit 0) (impl_TreeWith_L0X2 k1y0 k1y11 k1y12 k1y13 k1y14))
    (h3 : SC cfg.P i_impl_treeWith [.s (.v (.sl .str) k1y0)] (.tup [.v .tree c1a, .v .bool true]) [])
    (h4 : SC cfg.P i_impl_node_text [.s (.v .tree c1a)] (.s (.v .str c2)) []) :
    SC cfg.P i_impl_TreeWith [.s (.v (.sl .str) a0)] (.tup [.v .str c2, .v .bool true]) [] :=
  SC_of_run cfgOK (its := [.bool false, .loop (fun _ => (.exit 0, impl_TreeWith_L0X2 k1y0 k1y11 k1y12 k1y13 k1y14)), .res (.tup [.v .tree c1a, .v .bool true]) [] [] [], .res (.s (.v .str c2)) [] [] []])
    (ps := [decide (((List.length a0 : Nat) : Int) > (9 : Int)) = false,
      LoopSC cfg.P 1 (lb P_impl_TreeWith 0) (impl_TreeWith_L0a a0 a0 ((List.length a0 : Nat) : Int) (0 : Int)) (.exit 0) (impl_TreeWith_L0X2 k1y0 k1y11 k1y12 k1y13 k1y14),
      SC cfg.P i_impl_treeWith [.s (.v (.sl .str) k1y0)] (.tup [.v .tree c1a, .v .bool true]) [],
      SC cfg.P i_impl_node_text [.s (.v .tree c1a)] (.s (.v .str c2)) []]) (by kernel_rfl) ⟨(decide_eq_false h1), h2, h3, h4, trivial⟩ get_impl_TreeWith (by decide)

theorem impl_TreeWith_p4 (a0 : (List ByteArray)) (k1y0 : (List ByteArray)) (k1y11 : (List ByteArray)) (k1y12 : Int) (k1y13 : Int) (k1y14 : Bool) (c1a : Tr)
    (h1 : ¬ (((List.length a0 : Nat) : Int) > (9 : Int)))
    (h2 : LoopSC cfg.P 1 (lb P_impl_TreeWith 0) (impl_TreeWith_L0a a0 a0 ((List.length a0 : Nat) : Int) (0 : Int)) (.exit 0) (impl_TreeWith_L0X2 k1y0 k1y11 k1y12 k1y13 k1y14))
    (h3 : SC cfg.P i_impl_treeWith [.s (.v (.sl .str) k1y0)] (.tup [.v .tree c1a, .v .bool false]) []) :
    SC cfg.P i_impl_TreeWith [.s (.v (.sl .str) a0)] (.tup [.v .str (⟨#[]⟩ : ByteArray), .v .bool false]) [] :=
  SC_of_run cfgOK (its := [.bool false, .loop (fun _ => (.exit 0, impl_TreeWith_L0X2 k1y0 k1y11 k1y12 k1y13 k1y14)), .res (.tup [.v .tree c1a, .v .bool false]) [] [] []])
    (ps := [decide (((List.length a0 : Nat) : Int) > (9 : Int)) = false,
      LoopSC cfg.P 1 (lb P_impl_TreeWith 0) (impl_TreeWith_L0a a0 a0 ((List.length a0 : Nat) : Int) (0 : Int)) (.exit 0) (impl_TreeWith_L0X2 k1y0 k1y11 k1y12 k1y13 k1y14),
      SC cfg.P i_impl_treeWith [.s (.v (.sl .str) k1y0)] (.tup [.v .tree c1a, .v .bool false]) []]) (by kernel_rfl) ⟨(decide_eq_false h1), h2, h3, trivial⟩ get_impl_TreeWith (by decide)

/-! ### impl_DropExposed -/


theorem impl_DropExposed_p1 (a0 : ByteArray) (a1 : Int) (c1a : Tr) (c2 : (List Int)) (c4 : Tr) (c5 : ByteArray)
    (h1 : SC cfg.P i_impl_parse [.s (.v .str a0)] (.tup [.v .tree c1a, .v .bool true]) [])
    (h2 : SC cfg.P i_impl_node_exposed [.s (.v .tree c1a), .s (.v (.int .i64) (0 : Int))] (.s (.own t_int (.int .i64) c2)) [])
    (h3 : SC cfg.P i_slices_Contains [.s (.v (.sl (.int .i64)) c2), .s (.v (.int .i64) a1)] (.s (.v .bool true)) [])
    (h4 : SC cfg.P i_impl_node_without [.s (.v .tree c1a), .s (.v (.int .i64) a1)] (.s (.v .tree c4)) [])
    (h5 : SC cfg.P i_impl_node_text [.s (.v .tree c4)] (.s (.v .str c5)) []) :
    SC cfg.P i_impl_DropExposed [.s (.v .str a0), .s (.v (.int .i64) a1)] (.tup [.v .str c5, .v .bool true]) [] :=
  SC_of_run cfgOK (its := [.res (.tup [.v .tree c1a, .v .bool true]) [] [] [], .res (.s (.own t_int (.int .i64) c2)) [] [] [17], .res (.s (.v .bool true)) [] [] [], .res (.s (.v .tree c4)) [] [] [], .res (.s (.v .str c5)) [] [] []])
    (ps := [SC cfg.P i_impl_parse [.s (.v .str a0)] (.tup [.v .tree c1a, .v .bool true]) [],
      SC cfg.P i_impl_node_exposed [.s (.v .tree c1a), .s (.v (.int .i64) (0 : Int))] (.s (.own t_int (.int .i64) c2)) [],
      SC cfg.P i_slices_Contains [.s (.v (.sl (.int .i64)) c2), .s (.v (.int .i64) a1)] (.s (.v .bool true)) [],
      SC cfg.P i_impl_node_without [.s (.v .tree c1a), .s (.v (.int .i64) a1)] (.s (.v .tree c4)) [],
      SC cfg.P i_impl_node_text [.s (.v .tree c4)] (.s (.v .str c5)) []]) (by kernel_rfl) ⟨h1, h2, h3, h4, h5, trivial⟩ get_impl_DropExposed (by decide)

theorem impl_DropExposed_p2 (a0 : ByteArray) (a1 : Int) (c1a : Tr) (c2 : (List Int))
    (h1 : SC cfg.P i_impl_parse [.s (.v .str a0)] (.tup [.v .tree c1a, .v .bool true]) [])
    (h2 : SC cfg.P i_impl_node_exposed [.s (.v .tree c1a), .s (.v (.int .i64) (0 : Int))] (.s (.own t_int (.int .i64) c2)) [])
    (h3 : SC cfg.P i_slices_Contains [.s (.v (.sl (.int .i64)) c2), .s (.v (.int .i64) a1)] (.s (.v .bool false)) []) :
    SC cfg.P i_impl_DropExposed [.s (.v .str a0), .s (.v (.int .i64) a1)] (.tup [.v .str (⟨#[]⟩ : ByteArray), .v .bool false]) [] :=
  SC_of_run cfgOK (its := [.res (.tup [.v .tree c1a, .v .bool true]) [] [] [], .res (.s (.own t_int (.int .i64) c2)) [] [] [17], .res (.s (.v .bool false)) [] [] []])
    (ps := [SC cfg.P i_impl_parse [.s (.v .str a0)] (.tup [.v .tree c1a, .v .bool true]) [],
      SC cfg.P i_impl_node_exposed [.s (.v .tree c1a), .s (.v (.int .i64) (0 : Int))] (.s (.own t_int (.int .i64) c2)) [],
      SC cfg.P i_slices_Contains [.s (.v (.sl (.int .i64)) c2), .s (.v (.int .i64) a1)] (.s (.v .bool false)) []]) (by kernel_rfl) ⟨h1, h2, h3, trivial⟩ get_impl_DropExposed (by decide)

theorem impl_DropExposed_p3 (a0 : ByteArray) (a1 : Int) (c1a : Tr)
    (h1 : SC cfg.P i_impl_parse [.s (.v .str a0)] (.tup [.v .tree c1a, .v .bool false]) []) :
    SC cfg.P i_impl_DropExposed [.s (.v .str a0), .s (.v (.int .i64) a1)] (.tup [.v .str (⟨#[]⟩ : ByteArray), .v .bool false]) [] :=
  SC_of_run cfgOK (its := [.res (.tup [.v .tree c1a, .v .bool false]) [] [] []])
    (ps := [SC cfg.P i_impl_parse [.s (.v .str a0)] (.tup [.v .tree c1a, .v .bool false]) []]) (by kernel_rfl) ⟨h1, trivial⟩ get_impl_DropExposed (by decide)

/-! ### spec_TreeWith -/


theorem spec_TreeWith_p1 (a0 : (List ByteArray))
    (h1 : ((List.length a0 : Nat) : Int) > (9 : Int)) :
    SC cfg.P i_spec_TreeWith [.s (.v (.sl .str) a0)] (.tup [.v .str (⟨#[]⟩ : ByteArray), .v .bool false]) [] :=
  SC_of_run cfgOK (its := [.bool true])
    (ps := [decide (((List.length a0 : Nat) : Int) > (9 : Int)) = true]) (by kernel_rfl) ⟨(decide_eq_true h1), trivial⟩ get_spec_TreeWith (by decide)

theorem spec_TreeWith_p2 (a0 : (List ByteArray)) (c1a : ByteArray) (c1b : Int)
    (h1 : ¬ (((List.length a0 : Nat) : Int) > (9 : Int)))
    (h2 : SC cfg.P i_spec_trWith [.s (.v (.sl .str) a0), .s (.v .str (⟨#[]⟩ : ByteArray))] (.tup [.v .str c1a, .v (.int .i64) c1b]) [])
    (h3 : c1b = (0 : Int)) :
    SC cfg.P i_spec_TreeWith [.s (.v (.sl .str) a0)] (.tup [.v .str (⟨#[]⟩ : ByteArray), .v .bool false]) [] :=
  SC_of_run cfgOK (its := [.bool false, .res (.tup [.v .str c1a, .v (.int .i64) c1b]) [] [] [], .bool true])
    (ps := [decide (((List.length a0 : Nat) : Int) > (9 : Int)) = false,
      SC cfg.P i_spec_trWith [.s (.v (.sl .str) a0), .s (.v .str (⟨#[]⟩ : ByteArray))] (.tup [.v .str c1a, .v (.int .i64) c1b]) [],
      (c1b == (0 : Int)) = true]) (by kernel_rfl) ⟨(decide_eq_false h1), h2, (beq_iff_eq.mpr h3), trivial⟩ get_spec_TreeWith (by decide)

theorem spec_TreeWith_p3 (a0 : (List ByteArray)) (c1a : ByteArray) (c1b : Int)
    (h1 : ¬ (((List.length a0 : Nat) : Int) > (9 : Int)))
    (h2 : SC cfg.P i_spec_trWith [.s (.v (.sl .str) a0), .s (.v .str (⟨#[]⟩ : ByteArray))] (.tup [.v .str c1a, .v (.int .i64) c1b]) [])
    (h3 : c1b ≠ (0 : Int))
    (h4 : c1b ≠ ((List.length a0 : Nat) : Int)) :
    SC cfg.P i_spec_TreeWith [.s (.v (.sl .str) a0)] (.tup [.v .str (⟨#[]⟩ : ByteArray), .v .bool false]) [] :=
  SC_of_run cfgOK (its := [.bool false, .res (.tup [.v .str c1a, .v (.int .i64) c1b]) [] [] [], .bool false, .bool true])
    (ps := [decide (((List.length a0 : Nat) : Int) > (9 : Int)) = false,
      SC cfg.P i_spec_trWith [.s (.v (.sl .str) a0), .s (.v .str (⟨#[]⟩ : ByteArray))] (.tup [.v .str c1a, .v (.int .i64) c1b]) [],
      (c1b == (0 : Int)) = false,
      (c1b != ((List.length a0 : Nat) : Int)) = true]) (by kernel_rfl) ⟨(decide_eq_false h1), h2, (beq_eq_false_iff_ne.mpr h3), (bne_iff_ne.mpr h4), trivial⟩ get_spec_TreeWith (by decide)

theorem spec_TreeWith_p4 (a0 : (List ByteArray)) (c1a : ByteArray) (c1b : Int)
    (h1 : ¬ (((List.length a0 : Nat) : Int) > (9 : Int)))
    (h2 : SC cfg.P i_spec_trWith [.s (.v (.sl .str) a0), .s (.v .str (⟨#[]⟩ : ByteArray))] (.tup [.v .str c1a, .v (.int .i64) c1b]) [])
    (h3 : c1b ≠ (0 : Int))
    (h4 : c1b = ((List.length a0 : Nat) : Int)) :
    SC cfg.P i_spec_TreeWith [.s (.v (.sl .str) a0)] (.tup [.v .str c1a, .v .bool true]) [] :=
  SC_of_run cfgOK (its := [.bool false, .res (.tup [.v .str c1a, .v (.int .i64) c1b]) [] [] [], .bool false, .bool false])
    (ps := [decide (((List.length a0 : Nat) : Int) > (9 : Int)) = false,
      SC cfg.P i_spec_trWith [.s (.v (.sl .str) a0), .s (.v .str (⟨#[]⟩ : ByteArray))] (.tup [.v .str c1a, .v (.int .i64) c1b]) [],
      (c1b == (0 : Int)) = false,
      (c1b != ((List.length a0 : Nat) : Int)) = false]) (by kernel_rfl) ⟨(decide_eq_false h1), h2, (beq_eq_false_iff_ne.mpr h3), (bne_eq_false_iff_eq.mpr h4), trivial⟩ get_spec_TreeWith (by decide)

/-! ### spec_DropExposed -/


theorem spec_DropExposed_p1 (a0 : ByteArray) (a1 : Int) (c2 : (List Int)) (c4 : ByteArray)
    (h1 : SC cfg.P i_spec_trIs [.s (.v .str a0)] (.s (.v .bool true)) [])
    (h2 : SC cfg.P i_spec_trExposed [.s (.v .str a0)] (.s (.own t_int (.int .i64) c2)) [])
    (h3 : SC cfg.P i_spec_l1Has [.s (.v (.sl (.int .i64)) c2), .s (.v (.int .i64) a1)] (.s (.v .bool true)) [])
    (h4 : SC cfg.P i_spec_trDrop [.s (.v .str a0), .s (.v (.int .i64) a1)] (.s (.v .str c4)) []) :
    SC cfg.P i_spec_DropExposed [.s (.v .str a0), .s (.v (.int .i64) a1)] (.tup [.v .str c4, .v .bool true]) [] :=
  SC_of_run cfgOK (its := [.res (.s (.v .bool true)) [] [] [], .res (.s (.own t_int (.int .i64) c2)) [] [] [11], .res (.s (.v .bool true)) [] [] [], .res (.s (.v .str c4)) [] [] []])
    (ps := [SC cfg.P i_spec_trIs [.s (.v .str a0)] (.s (.v .bool true)) [],
      SC cfg.P i_spec_trExposed [.s (.v .str a0)] (.s (.own t_int (.int .i64) c2)) [],
      SC cfg.P i_spec_l1Has [.s (.v (.sl (.int .i64)) c2), .s (.v (.int .i64) a1)] (.s (.v .bool true)) [],
      SC cfg.P i_spec_trDrop [.s (.v .str a0), .s (.v (.int .i64) a1)] (.s (.v .str c4)) []]) (by kernel_rfl) ⟨h1, h2, h3, h4, trivial⟩ get_spec_DropExposed (by decide)

theorem spec_DropExposed_p2 (a0 : ByteArray) (a1 : Int) (c2 : (List Int))
    (h1 : SC cfg.P i_spec_trIs [.s (.v .str a0)] (.s (.v .bool true)) [])
    (h2 : SC cfg.P i_spec_trExposed [.s (.v .str a0)] (.s (.own t_int (.int .i64) c2)) [])
    (h3 : SC cfg.P i_spec_l1Has [.s (.v (.sl (.int .i64)) c2), .s (.v (.int .i64) a1)] (.s (.v .bool false)) []) :
    SC cfg.P i_spec_DropExposed [.s (.v .str a0), .s (.v (.int .i64) a1)] (.tup [.v .str (⟨#[]⟩ : ByteArray), .v .bool false]) [] :=
  SC_of_run cfgOK (its := [.res (.s (.v .bool true)) [] [] [], .res (.s (.own t_int (.int .i64) c2)) [] [] [11], .res (.s (.v .bool false)) [] [] []])
    (ps := [SC cfg.P i_spec_trIs [.s (.v .str a0)] (.s (.v .bool true)) [],
      SC cfg.P i_spec_trExposed [.s (.v .str a0)] (.s (.own t_int (.int .i64) c2)) [],
      SC cfg.P i_spec_l1Has [.s (.v (.sl (.int .i64)) c2), .s (.v (.int .i64) a1)] (.s (.v .bool false)) []]) (by kernel_rfl) ⟨h1, h2, h3, trivial⟩ get_spec_DropExposed (by decide)

theorem spec_DropExposed_p3 (a0 : ByteArray) (a1 : Int)
    (h1 : SC cfg.P i_spec_trIs [.s (.v .str a0)] (.s (.v .bool false)) []) :
    SC cfg.P i_spec_DropExposed [.s (.v .str a0), .s (.v (.int .i64) a1)] (.tup [.v .str (⟨#[]⟩ : ByteArray), .v .bool false]) [] :=
  SC_of_run cfgOK (its := [.res (.s (.v .bool false)) [] [] []])
    (ps := [SC cfg.P i_spec_trIs [.s (.v .str a0)] (.s (.v .bool false)) []]) (by kernel_rfl) ⟨h1, trivial⟩ get_spec_DropExposed (by decide)

/-! ### impl_node_exposed -/


theorem impl_node_exposed_p1 (a1 : Int)
     :
    SC cfg.P i_impl_node_exposed [.s (.v .tree Tr.leaf), .s (.v (.int .i64) a1)] (.s (.own t_int (.int .i64) ([] : List Int))) [] :=
  SC_of_run cfgOK (its := [.bool true])
    (ps := [Tr.leaf.isLeaf = true]) (by kernel_rfl) ⟨rfl, trivial⟩ get_impl_node_exposed (by decide)

theorem impl_node_exposed_p2 (a1 : Int)
     :
    SC cfg.P i_impl_node_exposed [.s (.v .tree (Tr.node Tr.leaf Tr.leaf)), .s (.v (.int .i64) a1)] (.s (.own t_int (.int .i64) ([a1] : List Int))) [] :=
  SC_of_run cfgOK (its := [.bool false, .bool true, .bool true])
    (ps := [(Tr.node Tr.leaf Tr.leaf).isLeaf = false,
      Tr.leaf.isLeaf = true,
      Tr.leaf.isLeaf = true]) (by kernel_rfl) ⟨rfl, rfl, rfl, trivial⟩ get_impl_node_exposed (by decide)

theorem impl_node_exposed_p3 (a0rl : Tr) (a0rr : Tr) (a1 : Int) (c1 : (List Int)) (c2 : Int) (c3 : (List Int))
    (h1 : SC cfg.P i_impl_node_exposed [.s (.v .tree Tr.leaf), .s (.v (.int .i64) a1)] (.s (.own t_int (.int .i64) c1)) [])
    (h2 : SC cfg.P i_impl_node_leaves [.s (.v .tree Tr.leaf)] (.s (.v (.int .i64) c2)) [])
    (h3 : SC cfg.P i_impl_node_exposed [.s (.v .tree (Tr.node a0rl a0rr)), .s (.v (.int .i64) (IntKind.wrap .i64 (a1 + c2)))] (.s (.own t_int (.int .i64) c3)) [])
    (h4 : sizeOK (List.length c1 + List.length c3)) :
    SC cfg.P i_impl_node_exposed [.s (.v .tree (Tr.node Tr.leaf (Tr.node a0rl a0rr))), .s (.v (.int .i64) a1)] (.s (.own t_int (.int .i64) (c1 ++ c3))) [] :=
  SC_of_run cfgOK (its := [.bool false, .bool true, .bool false, .res (.s (.own t_int (.int .i64) c1)) [] [] [26], .res (.s (.v (.int .i64) c2)) [] [] [], .res (.s (.own t_int (.int .i64) c3)) [] [] [38]])
    (ps := [(Tr.node Tr.leaf (Tr.node a0rl a0rr)).isLeaf = false,
      Tr.leaf.isLeaf = true,
      (Tr.node a0rl a0rr).isLeaf = false,
      SC cfg.P i_impl_node_exposed [.s (.v .tree Tr.leaf), .s (.v (.int .i64) a1)] (.s (.own t_int (.int .i64) c1)) [],
      SC cfg.P i_impl_node_leaves [.s (.v .tree Tr.leaf)] (.s (.v (.int .i64) c2)) [],
      SC cfg.P i_impl_node_exposed [.s (.v .tree (Tr.node a0rl a0rr)), .s (.v (.int .i64) (IntKind.wrap .i64 (a1 + c2)))] (.s (.own t_int (.int .i64) c3)) [],
      sizeOK (List.length c1 + List.length c3)]) (by kernel_rfl) ⟨rfl, rfl, rfl, h1, h2, h3, h4, trivial⟩ get_impl_node_exposed (by decide)

theorem impl_node_exposed_p4 (a0ll : Tr) (a0lr : Tr) (a0r : Tr) (a1 : Int) (c1 : (List Int)) (c2 : Int) (c3 : (List Int))
    (h1 : SC cfg.P i_impl_node_exposed [.s (.v .tree (Tr.node a0ll a0lr)), .s (.v (.int .i64) a1)] (.s (.own t_int (.int .i64) c1)) [])
    (h2 : SC cfg.P i_impl_node_leaves [.s (.v .tree (Tr.node a0ll a0lr))] (.s (.v (.int .i64) c2)) [])
    (h3 : SC cfg.P i_impl_node_exposed [.s (.v .tree a0r), .s (.v (.int .i64) (IntKind.wrap .i64 (a1 + c2)))] (.s (.own t_int (.int .i64) c3)) [])
    (h4 : sizeOK (List.length c1 + List.length c3)) :
    SC cfg.P i_impl_node_exposed [.s (.v .tree (Tr.node (Tr.node a0ll a0lr) a0r)), .s (.v (.int .i64) a1)] (.s (.own t_int (.int .i64) (c1 ++ c3))) [] :=
  SC_of_run cfgOK (its := [.bool false, .bool false, .res (.s (.own t_int (.int .i64) c1)) [] [] [26], .res (.s (.v (.int .i64) c2)) [] [] [], .res (.s (.own t_int (.int .i64) c3)) [] [] [38]])
    (ps := [(Tr.node (Tr.node a0ll a0lr) a0r).isLeaf = false,
      (Tr.node a0ll a0lr).isLeaf = false,
      SC cfg.P i_impl_node_exposed [.s (.v .tree (Tr.node a0ll a0lr)), .s (.v (.int .i64) a1)] (.s (.own t_int (.int .i64) c1)) [],
      SC cfg.P i_impl_node_leaves [.s (.v .tree (Tr.node a0ll a0lr))] (.s (.v (.int .i64) c2)) [],
      SC cfg.P i_impl_node_exposed [.s (.v .tree a0r), .s (.v (.int .i64) (IntKind.wrap .i64 (a1 + c2)))] (.s (.own t_int (.int .i64) c3)) [],
      sizeOK (List.length c1 + List.length c3)]) (by kernel_rfl) ⟨rfl, rfl, h1, h2, h3, h4, trivial⟩ get_impl_node_exposed (by decide)

/-! ### spec_trExposed -/


def spec_trExposed_L0a (x0 : ByteArray) (x4 : Int) (x5 : Int) (xo3 : (List Int)) : St := mkSt 41 [(0, .s (.v .str x0)), (3, .s (.osl 3 0)), (4, .s (.v (.int .i64) x4)), (5, .s (.v (.int .i64) x5))] [(3, .row t_int (.int .i64) xo3 0 false)]

def spec_trExposed_L0X1 (y0 : ByteArray) (y4 : Int) (y5 : Int) (y9 : Bool) (yo3 : (List Int)) : St := mkSt 41 [(0, .s (.v .str y0)), (3, .s (.osl 3 0)), (4, .s (.v (.int .i64) y4)), (5, .s (.v (.int .i64) y5)), (9, .s (.v .bool y9))] [(3, .row t_int (.int .i64) yo3 0 false)]

theorem spec_trExposed_L0a_i1 (x0 : ByteArray) (x4 : Int) (x5 : Int) (xo3 : (List Int))
    (h1 : x5 < ((x0).size : Int))
    (h2 : x5 > (0 : Int))
    (h3 : (IntKind.wrap .i64 (x5 + (2 : Int))) < ((x0).size : Int))
    (h4 : 0 ≤ (IntKind.wrap .i64 (x5 - (1 : Int))))
    (h5 : (IntKind.wrap .i64 (x5 - (1 : Int))) ≤ (IntKind.wrap .i64 (x5 + (3 : Int))))
    (h6 : (IntKind.wrap .i64 (x5 + (3 : Int))) ≤ ((x0).size : Int))
    (h7 : (ByteArray.extract x0 ((IntKind.wrap .i64 (x5 - (1 : Int)))).toNat ((IntKind.wrap .i64 (x5 + (3 : Int)))).toNat) = (⟨#[40, 46, 46, 41]⟩ : ByteArray))
    (h8 : sizeOK (List.length xo3 + List.length ([x4] : List Int)))
    (h9 : 0 ≤ x5)
    (h10 : (bt x0 x5) = (46 : Int))
    {e : AEx} {st : St} (next : LoopSC cfg.P 1 (lb P_spec_trExposed 0) (spec_trExposed_L0a x0 (IntKind.wrap .i64 (x4 + (1 : Int))) (IntKind.wrap .i64 (x5 + (1 : Int))) (xo3 ++ ([x4] : List Int))) e st) :
    LoopSC cfg.P 1 (lb P_spec_trExposed 0) (spec_trExposed_L0a x0 x4 x5 xo3) e st :=
  loop_iter cfgOK (f := i_spec_trExposed) (its := [.bool true, .bool true, .bool true, .bool true, .bool true])
    (ps := [decide (x5 < ((x0).size : Int)) = true,
      decide (x5 > (0 : Int)) = true,
      decide ((IntKind.wrap .i64 (x5 + (2 : Int))) < ((x0).size : Int)) = true,
      0 ≤ (IntKind.wrap .i64 (x5 - (1 : Int))),
      (IntKind.wrap .i64 (x5 - (1 : Int))) ≤ (IntKind.wrap .i64 (x5 + (3 : Int))),
      (IntKind.wrap .i64 (x5 + (3 : Int))) ≤ ((x0).size : Int),
      (((ByteArray.extract x0 ((IntKind.wrap .i64 (x5 - (1 : Int)))).toNat ((IntKind.wrap .i64 (x5 + (3 : Int)))).toNat)).toList == ((⟨#[40, 46, 46, 41]⟩ : ByteArray)).toList) = true,
      sizeOK (List.length xo3 + List.length ([x4] : List Int)),
      0 ≤ x5,
      x5 < ((x0).size : Int),
      ((bt x0 x5) == (46 : Int)) = true]) (st1 := spec_trExposed_L0a x0 (IntKind.wrap .i64 (x4 + (1 : Int))) (IntKind.wrap .i64 (x5 + (1 : Int))) (xo3 ++ ([x4] : List Int))) (by kernel_rfl) ⟨(decide_eq_true h1), (decide_eq_true h2), (decide_eq_true h3), h4, h5, h6, (seq_t h7), h8, h9, h1, (beq_iff_eq.mpr h10), trivial⟩ next

theorem spec_trExposed_L0a_i2 (x0 : ByteArray) (x4 : Int) (x5 : Int) (xo3 : (List Int))
    (h1 : x5 < ((x0).size : Int))
    (h2 : x5 > (0 : Int))
    (h3 : (IntKind.wrap .i64 (x5 + (2 : Int))) < ((x0).size : Int))
    (h4 : 0 ≤ (IntKind.wrap .i64 (x5 - (1 : Int))))
    (h5 : (IntKind.wrap .i64 (x5 - (1 : Int))) ≤ (IntKind.wrap .i64 (x5 + (3 : Int))))
    (h6 : (IntKind.wrap .i64 (x5 + (3 : Int))) ≤ ((x0).size : Int))
    (h7 : (ByteArray.extract x0 ((IntKind.wrap .i64 (x5 - (1 : Int)))).toNat ((IntKind.wrap .i64 (x5 + (3 : Int)))).toNat) = (⟨#[40, 46, 46, 41]⟩ : ByteArray))
    (h8 : sizeOK (List.length xo3 + List.length ([x4] : List Int)))
    (h9 : 0 ≤ x5)
    (h10 : (bt x0 x5) ≠ (46 : Int))
    {e : AEx} {st : St} (next : LoopSC cfg.P 1 (lb P_spec_trExposed 0) (spec_trExposed_L0a x0 x4 (IntKind.wrap .i64 (x5 + (1 : Int))) (xo3 ++ ([x4] : List Int))) e st) :
    LoopSC cfg.P 1 (lb P_spec_trExposed 0) (spec_trExposed_L0a x0 x4 x5 xo3) e st :=
  loop_iter cfgOK (f := i_spec_trExposed) (its := [.bool true, .bool true, .bool true, .bool true, .bool false])
    (ps := [decide (x5 < ((x0).size : Int)) = true,
      decide (x5 > (0 : Int)) = true,
      decide ((IntKind.wrap .i64 (x5 + (2 : Int))) < ((x0).size : Int)) = true,
      0 ≤ (IntKind.wrap .i64 (x5 - (1 : Int))),
      (IntKind.wrap .i64 (x5 - (1 : Int))) ≤ (IntKind.wrap .i64 (x5 + (3 : Int))),
      (IntKind.wrap .i64 (x5 + (3 : Int))) ≤ ((x0).size : Int),
      (((ByteArray.extract x0 ((IntKind.wrap .i64 (x5 - (1 : Int)))).toNat ((IntKind.wrap .i64 (x5 + (3 : Int)))).toNat)).toList == ((⟨#[40, 46, 46, 41]⟩ : ByteArray)).toList) = true,
      sizeOK (List.length xo3 + List.length ([x4] : List Int)),
      0 ≤ x5,
      x5 < ((x0).size : Int),
      ((bt x0 x5) == (46 : Int)) = false]) (st1 := spec_trExposed_L0a x0 x4 (IntKind.wrap .i64 (x5 + (1 : Int))) (xo3 ++ ([x4] : List Int))) (by kernel_rfl) ⟨(decide_eq_true h1), (decide_eq_true h2), (decide_eq_true h3), h4, h5, h6, (seq_t h7), h8, h9, h1, (beq_eq_false_iff_ne.mpr h10), trivial⟩ next

theorem spec_trExposed_L0a_i3 (x0 : ByteArray) (x4 : Int) (x5 : Int) (xo3 : (List Int))
    (h1 : x5 < ((x0).size : Int))
    (h2 : x5 > (0 : Int))
    (h3 : (IntKind.wrap .i64 (x5 + (2 : Int))) < ((x0).size : Int))
    (h4 : 0 ≤ (IntKind.wrap .i64 (x5 - (1 : Int))))
    (h5 : (IntKind.wrap .i64 (x5 - (1 : Int))) ≤ (IntKind.wrap .i64 (x5 + (3 : Int))))
    (h6 : (IntKind.wrap .i64 (x5 + (3 : Int))) ≤ ((x0).size : Int))
    (h7 : (ByteArray.extract x0 ((IntKind.wrap .i64 (x5 - (1 : Int)))).toNat ((IntKind.wrap .i64 (x5 + (3 : Int)))).toNat) ≠ (⟨#[40, 46, 46, 41]⟩ : ByteArray))
    (h8 : 0 ≤ x5)
    (h9 : (bt x0 x5) = (46 : Int))
    {e : AEx} {st : St} (next : LoopSC cfg.P 1 (lb P_spec_trExposed 0) (spec_trExposed_L0a x0 (IntKind.wrap .i64 (x4 + (1 : Int))) (IntKind.wrap .i64 (x5 + (1 : Int))) xo3) e st) :
    LoopSC cfg.P 1 (lb P_spec_trExposed 0) (spec_trExposed_L0a x0 x4 x5 xo3) e st :=
  loop_iter cfgOK (f := i_spec_trExposed) (its := [.bool true, .bool true, .bool true, .bool false, .bool true])
    (ps := [decide (x5 < ((x0).size : Int)) = true,
      decide (x5 > (0 : Int)) = true,
      decide ((IntKind.wrap .i64 (x5 + (2 : Int))) < ((x0).size : Int)) = true,
      0 ≤ (IntKind.wrap .i64 (x5 - (1 : Int))),
      (IntKind.wrap .i64 (x5 - (1 : Int))) ≤ (IntKind.wrap .i64 (x5 + (3 : Int))),
      (IntKind.wrap .i64 (x5 + (3 : Int))) ≤ ((x0).size : Int),
      (((ByteArray.extract x0 ((IntKind.wrap .i64 (x5 - (1 : Int)))).toNat ((IntKind.wrap .i64 (x5 + (3 : Int)))).toNat)).toList == ((⟨#[40, 46, 46, 41]⟩ : ByteArray)).toList) = false,
      0 ≤ x5,
      x5 < ((x0).size : Int),
      ((bt x0 x5) == (46 : Int)) = true]) (st1 := spec_trExposed_L0a x0 (IntKind.wrap .i64 (x4 + (1 : Int))) (IntKind.wrap .i64 (x5 + (1 : Int))) xo3) (by kernel_rfl) ⟨(decide_eq_true h1), (decide_eq_true h2), (decide_eq_true h3), h4, h5, h6, (seq_f h7), h8, h1, (beq_iff_eq.mpr h9), trivial⟩ next

theorem spec_trExposed_L0a_i4 (x0 : ByteArray) (x4 : Int) (x5 : Int) (xo3 : (List Int))
    (h1 : x5 < ((x0).size : Int))
    (h2 : x5 > (0 : Int))
    (h3 : (IntKind.wrap .i64 (x5 + (2 : Int))) < ((x0).size : Int))
    (h4 : 0 ≤ (IntKind.wrap .i64 (x5 - (1 : Int))))
    (h5 : (IntKind.wrap .i64 (x5 - (1 : Int))) ≤ (IntKind.wrap .i64 (x5 + (3 : Int))))
    (h6 : (IntKind.wrap .i64 (x5 + (3 : Int))) ≤ ((x0).size : Int))
    (h7 : (ByteArray.extract x0 ((IntKind.wrap .i64 (x5 - (1 : Int)))).toNat ((IntKind.wrap .i64 (x5 + (3 : Int)))).toNat) ≠ (⟨#[40, 46, 46, 41]⟩ : ByteArray))
    (h8 : 0 ≤ x5)
    (h9 : (bt x0 x5) ≠ (46 : Int))
    {e : AEx} {st : St} (next : LoopSC cfg.P 1 (lb P_spec_trExposed 0) (spec_trExposed_L0a x0 x4 (IntKind.wrap .i64 (x5 + (1 : Int))) xo3) e st) :
    LoopSC cfg.P 1 (lb P_spec_trExposed 0) (spec_trExposed_L0a x0 x4 x5 xo3) e st :=
  loop_iter cfgOK (f := i_spec_trExposed) (its := [.bool true, .bool true, .bool true, .bool false, .bool false])
    (ps := [decide (x5 < ((x0).size : Int)) = true,
      decide (x5 > (0 : Int)) = true,
      decide ((IntKind.wrap .i64 (x5 + (2 : Int))) < ((x0).size : Int)) = true,
      0 ≤ (IntKind.wrap .i64 (x5 - (1 : Int))),
      (IntKind.wrap .i64 (x5 - (1 : Int))) ≤ (IntKind.wrap .i64 (x5 + (3 : Int))),
      (IntKind.wrap .i64 (x5 + (3 : Int))) ≤ ((x0).size : Int),
      (((ByteArray.extract x0 ((IntKind.wrap .i64 (x5 - (1 : Int)))).toNat ((IntKind.wrap .i64 (x5 + (3 : Int)))).toNat)).toList == ((⟨#[40, 46, 46, 41]⟩ : ByteArray)).toList) = false,
      0 ≤ x5,
      x5 < ((x0).size : Int),
      ((bt x0 x5) == (46 : Int)) = false]) (st1 := spec_trExposed_L0a x0 x4 (IntKind.wrap .i64 (x5 + (1 : Int))) xo3) (by kernel_rfl) ⟨(decide_eq_true h1), (decide_eq_true h2), (decide_eq_true h3), h4, h5, h6, (seq_f h7), h8, h1, (beq_eq_false_iff_ne.mpr h9), trivial⟩ next

theorem spec_trExposed_L0a_i5 (x0 : ByteArray) (x4 : Int) (x5 : Int) (xo3 : (List Int))
    (h1 : x5 < ((x0).size : Int))
    (h2 : x5 > (0 : Int))
    (h3 : ¬ ((IntKind.wrap .i64 (x5 + (2 : Int))) < ((x0).size : Int)))
    (h4 : 0 ≤ x5)
    (h5 : (bt x0 x5) = (46 : Int))
    {e : AEx} {st : St} (next : LoopSC cfg.P 1 (lb P_spec_trExposed 0) (spec_trExposed_L0a x0 (IntKind.wrap .i64 (x4 + (1 : Int))) (IntKind.wrap .i64 (x5 + (1 : Int))) xo3) e st) :
    LoopSC cfg.P 1 (lb P_spec_trExposed 0) (spec_trExposed_L0a x0 x4 x5 xo3) e st :=
  loop_iter cfgOK (f := i_spec_trExposed) (its := [.bool true, .bool true, .bool false, .bool true])
    (ps := [decide (x5 < ((x0).size : Int)) = true,
      decide (x5 > (0 : Int)) = true,
      decide ((IntKind.wrap .i64 (x5 + (2 : Int))) < ((x0).size : Int)) = false,
      0 ≤ x5,
      x5 < ((x0).size : Int),
      ((bt x0 x5) == (46 : Int)) = true]) (st1 := spec_trExposed_L0a x0 (IntKind.wrap .i64 (x4 + (1 : Int))) (IntKind.wrap .i64 (x5 + (1 : Int))) xo3) (by kernel_rfl) ⟨(decide_eq_true h1), (decide_eq_true h2), (decide_eq_false h3), h4, h1, (beq_iff_eq.mpr h5), trivial⟩ next

theorem spec_trExposed_L0a_i6 (x0 : ByteArray) (x4 : Int) (x5 : Int) (xo3 : (List Int))
    (h1 : x5 < ((x0).size : Int))
    (h2 : x5 > (0 : Int))
    (h3 : ¬ ((IntKind.wrap .i64 (x5 + (2 : Int))) < ((x0).size : Int)))
    (h4 : 0 ≤ x5)
    (h5 : (bt x0 x5) ≠ (46 : Int))
    {e : AEx} {st : St} (next : LoopSC cfg.P 1 (lb P_spec_trExposed 0) (spec_trExposed_L0a x0 x4 (IntKind.wrap .i64 (x5 + (1 : Int))) xo3) e st) :
    LoopSC cfg.P 1 (lb P_spec_trExposed 0) (spec_trExposed_L0a x0 x4 x5 xo3) e st :=
  loop_iter cfgOK (f := i_spec_trExposed) (its := [.bool true, .bool true, .bool false, .bool false])
    (ps := [decide (x5 < ((x0).size : Int)) = true,
      decide (x5 > (0 : Int)) = true,
      decide ((IntKind.wrap .i64 (x5 + (2 : Int))) < ((x0).size : Int)) = false,
      0 ≤ x5,
      x5 < ((x0).size : Int),
      ((bt x0 x5) == (46 : Int)) = false]) (st1 := spec_trExposed_L0a x0 x4 (IntKind.wrap .i64 (x5 + (1 : Int))) xo3) (by kernel_rfl) ⟨(decide_eq_true h1), (decide_eq_true h2), (decide_eq_false h3), h4, h1, (beq_eq_false_iff_ne.mpr h5), trivial⟩ next

theorem spec_trExposed_L0a_i7 (x0 : ByteArray) (x4 : Int) (x5 : Int) (xo3 : (List Int))
    (h1 : x5 < ((x0).size : Int))
    (h2 : ¬ (x5 > (0 : Int)))
    (h3 : 0 ≤ x5)
    (h4 : (bt x0 x5) = (46 : Int))
    {e : AEx} {st : St} (next : LoopSC cfg.P 1 (lb P_spec_trExposed 0) (spec_trExposed_L0a x0 (IntKind.wrap .i64 (x4 + (1 : Int))) (IntKind.wrap .i64 (x5 + (1 : Int))) xo3) e st) :
    LoopSC cfg.P 1 (lb P_spec_trExposed 0) (spec_trExposed_L0a x0 x4 x5 xo3) e st :=
  loop_iter cfgOK (f := i_spec_trExposed) (its := [.bool true, .bool false, .bool true])
    (ps := [decide (x5 < ((x0).size : Int)) = true,
      decide (x5 > (0 : Int)) = false,
      0 ≤ x5,
      x5 < ((x0).size : Int),
      ((bt x0 x5) == (46 : Int)) = true]) (st1 := spec_trExposed_L0a x0 (IntKind.wrap .i64 (x4 + (1 : Int))) (IntKind.wrap .i64 (x5 + (1 : Int))) xo3) (by kernel_rfl) ⟨(decide_eq_true h1), (decide_eq_false h2), h3, h1, (beq_iff_eq.mpr h4), trivial⟩ next

theorem spec_trExposed_L0a_i8 (x0 : ByteArray) (x4 : Int) (x5 : Int) (xo3 : (List Int))
    (h1 : x5 < ((x0).size : Int))
    (h2 : ¬ (x5 > (0 : Int)))
    (h3 : 0 ≤ x5)
    (h4 : (bt x0 x5) ≠ (46 : Int))
    {e : AEx} {st : St} (next : LoopSC cfg.P 1 (lb P_spec_trExposed 0) (spec_trExposed_L0a x0 x4 (IntKind.wrap .i64 (x5 + (1 : Int))) xo3) e st) :
    LoopSC cfg.P 1 (lb P_spec_trExposed 0) (spec_trExposed_L0a x0 x4 x5 xo3) e st :=
  loop_iter cfgOK (f := i_spec_trExposed) (its := [.bool true, .bool false, .bool false])
    (ps := [decide (x5 < ((x0).size : Int)) = true,
      decide (x5 > (0 : Int)) = false,
      0 ≤ x5,
      x5 < ((x0).size : Int),
      ((bt x0 x5) == (46 : Int)) = false]) (st1 := spec_trExposed_L0a x0 x4 (IntKind.wrap .i64 (x5 + (1 : Int))) xo3) (by kernel_rfl) ⟨(decide_eq_true h1), (decide_eq_false h2), h3, h1, (beq_eq_false_iff_ne.mpr h4), trivial⟩ next

theorem spec_trExposed_L0a_x9 (x0 : ByteArray) (x4 : Int) (x5 : Int) (xo3 : (List Int))
    (h1 : ¬ (x5 < ((x0).size : Int))) :
    LoopSC cfg.P 1 (lb P_spec_trExposed 0) (spec_trExposed_L0a x0 x4 x5 xo3) (.exit 0) (spec_trExposed_L0X1 x0 x4 x5 false xo3) :=
  loop_out cfgOK (f := i_spec_trExposed) (its := [.bool false])
    (ps := [decide (x5 < ((x0).size : Int)) = false]) (by kernel_rfl) ⟨(decide_eq_false h1), trivial⟩ (fun h => by cases h)

theorem spec_trExposed_p1 (a0 : ByteArray) (k1y0 : ByteArray) (k1y4 : Int) (k1y5 : Int) (k1y9 : Bool) (k1yo3 : (List Int))
    (h1 : LoopSC cfg.P 1 (lb P_spec_trExposed 0) (spec_trExposed_L0a a0 (0 : Int) (0 : Int) ([] : List Int)) (.exit 0) (spec_trExposed_L0X1 k1y0 k1y4 k1y5 k1y9 k1yo3)) :
    SC cfg.P i_spec_trExposed [.s (.v .str a0)] (.s (.own t_int (.int .i64) k1yo3)) [] :=
  SC_of_run cfgOK (its := [.loop (fun _ => (.exit 0, spec_trExposed_L0X1 k1y0 k1y4 k1y5 k1y9 k1yo3))])
    (ps := [LoopSC cfg.P 1 (lb P_spec_trExposed 0) (spec_trExposed_L0a a0 (0 : Int) (0 : Int) ([] : List Int)) (.exit 0) (spec_trExposed_L0X1 k1y0 k1y4 k1y5 k1y9 k1yo3)]) (by kernel_rfl) ⟨h1, trivial⟩ get_spec_trExposed (by decide)

/-! ### impl_node_mirror -/


theorem impl_node_mirror_p1 
     :
    SC cfg.P i_impl_node_mirror [.s (.v .tree Tr.leaf)] (.s (.v .tree Tr.leaf)) [] :=
  SC_of_run cfgOK (its := [.bool true])
    (ps := [Tr.leaf.isLeaf = true]) (by kernel_rfl) ⟨rfl, trivial⟩ get_impl_node_mirror (by decide)

theorem impl_node_mirror_p2 (a0l : Tr) (a0r : Tr) (c1 : Tr) (c2 : Tr)
    (h1 : SC cfg.P i_impl_node_mirror [.s (.v .tree a0r)] (.s (.v .tree c1)) [])
    (h2 : SC cfg.P i_impl_node_mirror [.s (.v .tree a0l)] (.s (.v .tree c2)) []) :
    SC cfg.P i_impl_node_mirror [.s (.v .tree (Tr.node a0l a0r))] (.s (.v .tree (Tr.node c1 c2))) [] :=
  SC_of_run cfgOK (its := [.bool false, .res (.s (.v .tree c1)) [] [] [], .res (.s (.v .tree c2)) [] [] []])
    (ps := [(Tr.node a0l a0r).isLeaf = false,
      SC cfg.P i_impl_node_mirror [.s (.v .tree a0r)] (.s (.v .tree c1)) [],
      SC cfg.P i_impl_node_mirror [.s (.v .tree a0l)] (.s (.v .tree c2)) []]) (by kernel_rfl) ⟨rfl, h1, h2, trivial⟩ get_impl_node_mirror (by decide)

/-! ### impl_node_text -/


theorem impl_node_text_p1 
     :
    SC cfg.P i_impl_node_text [.s (.v .tree Tr.leaf)] (.s (.v .str (⟨#[46]⟩ : ByteArray))) [] :=
  SC_of_run cfgOK (its := [.bool true])
    (ps := [Tr.leaf.isLeaf = true]) (by kernel_rfl) ⟨rfl, trivial⟩ get_impl_node_text (by decide)

theorem impl_node_text_p2 (a0l : Tr) (a0r : Tr) (c1 : ByteArray) (c2 : ByteArray)
    (h1 : SC cfg.P i_impl_node_text [.s (.v .tree a0l)] (.s (.v .str c1)) [])
    (h2 : ((⟨#[40]⟩ : ByteArray)).size + (c1).size ≤ 2 ^ 62)
    (h3 : SC cfg.P i_impl_node_text [.s (.v .tree a0r)] (.s (.v .str c2)) [])
    (h4 : (((⟨#[40]⟩ : ByteArray) ++ c1)).size + (c2).size ≤ 2 ^ 62)
    (h5 : ((((⟨#[40]⟩ : ByteArray) ++ c1) ++ c2)).size + ((⟨#[41]⟩ : ByteArray)).size ≤ 2 ^ 62) :
    SC cfg.P i_impl_node_text [.s (.v .tree (Tr.node a0l a0r))] (.s (.v .str ((((⟨#[40]⟩ : ByteArray) ++ c1) ++ c2) ++ (⟨#[41]⟩ : ByteArray)))) [] :=
  SC_of_run cfgOK (its := [.bool false, .res (.s (.v .str c1)) [] [] [], .res (.s (.v .str c2)) [] [] []])
    (ps := [(Tr.node a0l a0r).isLeaf = false,
      SC cfg.P i_impl_node_text [.s (.v .tree a0l)] (.s (.v .str c1)) [],
      ((⟨#[40]⟩ : ByteArray)).size + (c1).size ≤ 2 ^ 62,
      SC cfg.P i_impl_node_text [.s (.v .tree a0r)] (.s (.v .str c2)) [],
      (((⟨#[40]⟩ : ByteArray) ++ c1)).size + (c2).size ≤ 2 ^ 62,
      ((((⟨#[40]⟩ : ByteArray) ++ c1) ++ c2)).size + ((⟨#[41]⟩ : ByteArray)).size ≤ 2 ^ 62]) (by kernel_rfl) ⟨rfl, h1, h2, h3, h4, h5, trivial⟩ get_impl_node_text (by decide)

/-! ### spec_trMirror -/


theorem spec_trMirror_p1 (a0 : ByteArray)
    (h1 : SC cfg.P i_spec_trLeaf [.s (.v .str a0)] (.s (.v .bool true)) []) :
    SC cfg.P i_spec_trMirror [.s (.v .str a0)] (.s (.v .str a0)) [] :=
  SC_of_run cfgOK (its := [.res (.s (.v .bool true)) [] [] []])
    (ps := [SC cfg.P i_spec_trLeaf [.s (.v .str a0)] (.s (.v .bool true)) []]) (by kernel_rfl) ⟨h1, trivial⟩ get_spec_trMirror (by decide)

theorem spec_trMirror_p2 (a0 : ByteArray) (c2a : ByteArray) (c2b : ByteArray) (c3 : ByteArray) (c4 : ByteArray) (c5 : ByteArray)
    (h1 : SC cfg.P i_spec_trLeaf [.s (.v .str a0)] (.s (.v .bool false)) [])
    (h2 : SC cfg.P i_spec_trSides [.s (.v .str a0)] (.tup [.v .str c2a, .v .str c2b]) [])
    (h3 : SC cfg.P i_spec_trMirror [.s (.v .str c2b)] (.s (.v .str c3)) [])
    (h4 : SC cfg.P i_spec_trMirror [.s (.v .str c2a)] (.s (.v .str c4)) [])
    (h5 : SC cfg.P i_spec_trOf [.s (.v .str c3), .s (.v .str c4)] (.s (.v .str c5)) []) :
    SC cfg.P i_spec_trMirror [.s (.v .str a0)] (.s (.v .str c5)) [] :=
  SC_of_run cfgOK (its := [.res (.s (.v .bool false)) [] [] [], .res (.tup [.v .str c2a, .v .str c2b]) [] [] [], .res (.s (.v .str c3)) [] [] [], .res (.s (.v .str c4)) [] [] [], .res (.s (.v .str c5)) [] [] []])
    (ps := [SC cfg.P i_spec_trLeaf [.s (.v .str a0)] (.s (.v .bool false)) [],
      SC cfg.P i_spec_trSides [.s (.v .str a0)] (.tup [.v .str c2a, .v .str c2b]) [],
      SC cfg.P i_spec_trMirror [.s (.v .str c2b)] (.s (.v .str c3)) [],
      SC cfg.P i_spec_trMirror [.s (.v .str c2a)] (.s (.v .str c4)) [],
      SC cfg.P i_spec_trOf [.s (.v .str c3), .s (.v .str c4)] (.s (.v .str c5)) []]) (by kernel_rfl) ⟨h1, h2, h3, h4, h5, trivial⟩ get_spec_trMirror (by decide)

/-! ### impl_treeWith -/


def impl_treeWith_L0a (x0 : (List ByteArray)) (x4 : Tr) (x7 : (List ByteArray)) (x8 : Int) (x9 : Int) : St := mkSt 22 [(0, .s (.v (.sl .str) x0)), (4, .s (.v .tree x4)), (7, .s (.v (.sl .str) x7)), (8, .s (.v (.int .i64) x8)), (9, .s (.v (.int .i64) x9))] []

def impl_treeWith_L0X1 (y0 : (List ByteArray)) (y4 : Tr) (y7 : (List ByteArray)) (y8 : Int) (y9 : Int) (y10 : Bool) : St := mkSt 22 [(0, .s (.v (.sl .str) y0)), (4, .s (.v .tree y4)), (7, .s (.v (.sl .str) y7)), (8, .s (.v (.int .i64) y8)), (9, .s (.v (.int .i64) y9)), (10, .s (.v .bool y10))] []

theorem impl_treeWith_L0a_i1 (x0 : (List ByteArray)) (x4 : Tr) (x7 : (List ByteArray)) (x8 : Int) (x9 : Int) (dc1 : Tr)
    (h1 : x9 < x8)
    (h2 : 0 ≤ x9)
    (h3 : x9 < (List.length x7 : Int))
    (h4 : SC cfg.P i_impl_node_put [.s (.v .tree x4), .s (.v .str (List.getD x7 (x9).toNat (⟨#[]⟩ : ByteArray)))] (.s (.v .tree dc1)) [])
    {e : AEx} {st : St} (next : LoopSC cfg.P 1 (lb P_impl_treeWith 0) (impl_treeWith_L0a x0 dc1 x7 x8 (IntKind.wrap .i64 (x9 + (1 : Int)))) e st) :
    LoopSC cfg.P 1 (lb P_impl_treeWith 0) (impl_treeWith_L0a x0 x4 x7 x8 x9) e st :=
  loop_iter cfgOK (f := i_impl_treeWith) (its := [.bool true, .res (.s (.v .tree dc1)) [] [] []])
    (ps := [decide (x9 < x8) = true,
      0 ≤ x9,
      x9 < (List.length x7 : Int),
      SC cfg.P i_impl_node_put [.s (.v .tree x4), .s (.v .str (List.getD x7 (x9).toNat (⟨#[]⟩ : ByteArray)))] (.s (.v .tree dc1)) []]) (st1 := impl_treeWith_L0a x0 dc1 x7 x8 (IntKind.wrap .i64 (x9 + (1 : Int)))) (by kernel_rfl) ⟨(decide_eq_true h1), h2, h3, h4, trivial⟩ next

theorem impl_treeWith_L0a_x2 (x0 : (List ByteArray)) (x4 : Tr) (x7 : (List ByteArray)) (x8 : Int) (x9 : Int)
    (h1 : ¬ (x9 < x8)) :
    LoopSC cfg.P 1 (lb P_impl_treeWith 0) (impl_treeWith_L0a x0 x4 x7 x8 x9) (.exit 0) (impl_treeWith_L0X1 x0 x4 x7 x8 x9 false) :=
  loop_out cfgOK (f := i_impl_treeWith) (its := [.bool false])
    (ps := [decide (x9 < x8) = false]) (by kernel_rfl) ⟨(decide_eq_false h1), trivial⟩ (fun h => by cases h)

theorem impl_treeWith_p1 (a0 : (List ByteArray)) (k1y0 : (List ByteArray)) (k1y4 : Tr) (k1y7 : (List ByteArray)) (k1y8 : Int) (k1y9 : Int) (k1y10 : Bool) (c1 : (List ByteArray)) (c2 : Bool)
    (h1 : LoopSC cfg.P 1 (lb P_impl_treeWith 0) (impl_treeWith_L0a a0 Tr.leaf a0 ((List.length a0 : Nat) : Int) (0 : Int)) (.exit 0) (impl_treeWith_L0X1 k1y0 k1y4 k1y7 k1y8 k1y9 k1y10))
    (h2 : SC cfg.P i_impl_node_addresses [.s (.v .tree k1y4), .s (.v .str (⟨#[]⟩ : ByteArray))] (.s (.own t_string .str c1)) [])
    (h3 : SC cfg.P i_slices_Equal [.s (.v (.sl .str) c1), .s (.v (.sl .str) k1y0)] (.s (.v .bool c2)) []) :
    SC cfg.P i_impl_treeWith [.s (.v (.sl .str) a0)] (.tup [.v .tree k1y4, .v .bool c2]) [] :=
  SC_of_run cfgOK (its := [.loop (fun _ => (.exit 0, impl_treeWith_L0X1 k1y0 k1y4 k1y7 k1y8 k1y9 k1y10)), .res (.s (.own t_string .str c1)) [] [] [19], .res (.s (.v .bool c2)) [] [] []])
    (ps := [LoopSC cfg.P 1 (lb P_impl_treeWith 0) (impl_treeWith_L0a a0 Tr.leaf a0 ((List.length a0 : Nat) : Int) (0 : Int)) (.exit 0) (impl_treeWith_L0X1 k1y0 k1y4 k1y7 k1y8 k1y9 k1y10),
      SC cfg.P i_impl_node_addresses [.s (.v .tree k1y4), .s (.v .str (⟨#[]⟩ : ByteArray))] (.s (.own t_string .str c1)) [],
      SC cfg.P i_slices_Equal [.s (.v (.sl .str) c1), .s (.v (.sl .str) k1y0)] (.s (.v .bool c2)) []]) (by kernel_rfl) ⟨h1, h2, h3, trivial⟩ get_impl_treeWith (by decide)

/-! ### slices_Contains -/


theorem slices_Contains_p1 (a0 : (List Int)) (a1 : Int) (c1 : Int)
    (h1 : SC cfg.P i_slices_Index [.s (.v (.sl (.int .i64)) a0), .s (.v (.int .i64) a1)] (.s (.v (.int .i64) c1)) [])
    (h2 : c1 ≥ (0 : Int)) :
    SC cfg.P i_slices_Contains [.s (.v (.sl (.int .i64)) a0), .s (.v (.int .i64) a1)] (.s (.v .bool true)) [] :=
  SC_of_run cfgOK (its := [.res (.s (.v (.int .i64) c1)) [] [] [], .bool true])
    (ps := [SC cfg.P i_slices_Index [.s (.v (.sl (.int .i64)) a0), .s (.v (.int .i64) a1)] (.s (.v (.int .i64) c1)) [],
      decide (c1 ≥ (0 : Int)) = true]) (by kernel_rfl) ⟨h1, (decide_eq_true h2), trivial⟩ get_slices_Contains (by decide)

theorem slices_Contains_p2 (a0 : (List Int)) (a1 : Int) (c1 : Int)
    (h1 : SC cfg.P i_slices_Index [.s (.v (.sl (.int .i64)) a0), .s (.v (.int .i64) a1)] (.s (.v (.int .i64) c1)) [])
    (h2 : ¬ (c1 ≥ (0 : Int))) :
    SC cfg.P i_slices_Contains [.s (.v (.sl (.int .i64)) a0), .s (.v (.int .i64) a1)] (.s (.v .bool false)) [] :=
  SC_of_run cfgOK (its := [.res (.s (.v (.int .i64) c1)) [] [] [], .bool false])
    (ps := [SC cfg.P i_slices_Index [.s (.v (.sl (.int .i64)) a0), .s (.v (.int .i64) a1)] (.s (.v (.int .i64) c1)) [],
      decide (c1 ≥ (0 : Int)) = false]) (by kernel_rfl) ⟨h1, (decide_eq_false h2), trivial⟩ get_slices_Contains (by decide)

/-! ### impl_node_without -/


-- impl_node_without: NILDEREF at "l1_tree.go:276" nilCheck   []

theorem impl_node_without_p1 (a1 : Int)
     :
    SC cfg.P i_impl_node_without [.s (.v .tree (Tr.node Tr.leaf Tr.leaf)), .s (.v (.int .i64) a1)] (.s (.v .tree Tr.leaf)) [] :=
  SC_of_run cfgOK (its := [.bool true, .bool true])
    (ps := [Tr.leaf.isLeaf = true,
      Tr.leaf.isLeaf = true]) (by kernel_rfl) ⟨rfl, rfl, trivial⟩ get_impl_node_without (by decide)

theorem impl_node_without_p2 (a0rl : Tr) (a0rr : Tr) (a1 : Int) (c1 : Int) (c2 : Tr)
    (h1 : SC cfg.P i_impl_node_leaves [.s (.v .tree Tr.leaf)] (.s (.v (.int .i64) c1)) [])
    (h2 : a1 ≥ c1)
    (h3 : SC cfg.P i_impl_node_without [.s (.v .tree (Tr.node a0rl a0rr)), .s (.v (.int .i64) (IntKind.wrap .i64 (a1 - c1)))] (.s (.v .tree c2)) []) :
    SC cfg.P i_impl_node_without [.s (.v .tree (Tr.node Tr.leaf (Tr.node a0rl a0rr))), .s (.v (.int .i64) a1)] (.s (.v .tree (Tr.node Tr.leaf c2))) [] :=
  SC_of_run cfgOK (its := [.bool true, .bool false, .res (.s (.v (.int .i64) c1)) [] [] [], .bool true, .res (.s (.v .tree c2)) [] [] []])
    (ps := [Tr.leaf.isLeaf = true,
      (Tr.node a0rl a0rr).isLeaf = false,
      SC cfg.P i_impl_node_leaves [.s (.v .tree Tr.leaf)] (.s (.v (.int .i64) c1)) [],
      decide (a1 ≥ c1) = true,
      SC cfg.P i_impl_node_without [.s (.v .tree (Tr.node a0rl a0rr)), .s (.v (.int .i64) (IntKind.wrap .i64 (a1 - c1)))] (.s (.v .tree c2)) []]) (by kernel_rfl) ⟨rfl, rfl, h1, (decide_eq_true h2), h3, trivial⟩ get_impl_node_without (by decide)

theorem impl_node_without_p3 (a0rl : Tr) (a0rr : Tr) (a1 : Int) (c1 : Int) (c2 : Tr)
    (h1 : SC cfg.P i_impl_node_leaves [.s (.v .tree Tr.leaf)] (.s (.v (.int .i64) c1)) [])
    (h2 : ¬ (a1 ≥ c1))
    (h3 : SC cfg.P i_impl_node_without [.s (.v .tree Tr.leaf), .s (.v (.int .i64) a1)] (.s (.v .tree c2)) []) :
    SC cfg.P i_impl_node_without [.s (.v .tree (Tr.node Tr.leaf (Tr.node a0rl a0rr))), .s (.v (.int .i64) a1)] (.s (.v .tree (Tr.node c2 (Tr.node a0rl a0rr)))) [] :=
  SC_of_run cfgOK (its := [.bool true, .bool false, .res (.s (.v (.int .i64) c1)) [] [] [], .bool false, .res (.s (.v .tree c2)) [] [] []])
    (ps := [Tr.leaf.isLeaf = true,
      (Tr.node a0rl a0rr).isLeaf = false,
      SC cfg.P i_impl_node_leaves [.s (.v .tree Tr.leaf)] (.s (.v (.int .i64) c1)) [],
      decide (a1 ≥ c1) = false,
      SC cfg.P i_impl_node_without [.s (.v .tree Tr.leaf), .s (.v (.int .i64) a1)] (.s (.v .tree c2)) []]) (by kernel_rfl) ⟨rfl, rfl, h1, (decide_eq_false h2), h3, trivial⟩ get_impl_node_without (by decide)

theorem impl_node_without_p4 (a0ll : Tr) (a0lr : Tr) (a0r : Tr) (a1 : Int) (c1 : Int) (c2 : Tr)
    (h1 : SC cfg.P i_impl_node_leaves [.s (.v .tree (Tr.node a0ll a0lr))] (.s (.v (.int .i64) c1)) [])
    (h2 : a1 ≥ c1)
    (h3 : SC cfg.P i_impl_node_without [.s (.v .tree a0r), .s (.v (.int .i64) (IntKind.wrap .i64 (a1 - c1)))] (.s (.v .tree c2)) []) :
    SC cfg.P i_impl_node_without [.s (.v .tree (Tr.node (Tr.node a0ll a0lr) a0r)), .s (.v (.int .i64) a1)] (.s (.v .tree (Tr.node (Tr.node a0ll a0lr) c2))) [] :=
  SC_of_run cfgOK (its := [.bool false, .res (.s (.v (.int .i64) c1)) [] [] [], .bool true, .res (.s (.v .tree c2)) [] [] []])
    (ps := [(Tr.node a0ll a0lr).isLeaf = false,
      SC cfg.P i_impl_node_leaves [.s (.v .tree (Tr.node a0ll a0lr))] (.s (.v (.int .i64) c1)) [],
      decide (a1 ≥ c1) = true,
      SC cfg.P i_impl_node_without [.s (.v .tree a0r), .s (.v (.int .i64) (IntKind.wrap .i64 (a1 - c1)))] (.s (.v .tree c2)) []]) (by kernel_rfl) ⟨rfl, h1, (decide_eq_true h2), h3, trivial⟩ get_impl_node_without (by decide)

theorem impl_node_without_p5 (a0ll : Tr) (a0lr : Tr) (a0r : Tr) (a1 : Int) (c1 : Int) (c2 : Tr)
    (h1 : SC cfg.P i_impl_node_leaves [.s (.v .tree (Tr.node a0ll a0lr))] (.s (.v (.int .i64) c1)) [])
    (h2 : ¬ (a1 ≥ c1))
    (h3 : SC cfg.P i_impl_node_without [.s (.v .tree (Tr.node a0ll a0lr)), .s (.v (.int .i64) a1)] (.s (.v .tree c2)) []) :
    SC cfg.P i_impl_node_without [.s (.v .tree (Tr.node (Tr.node a0ll a0lr) a0r)), .s (.v (.int .i64) a1)] (.s (.v .tree (Tr.node c2 a0r))) [] :=
  SC_of_run cfgOK (its := [.bool false, .res (.s (.v (.int .i64) c1)) [] [] [], .bool false, .res (.s (.v .tree c2)) [] [] []])
    (ps := [(Tr.node a0ll a0lr).isLeaf = false,
      SC cfg.P i_impl_node_leaves [.s (.v .tree (Tr.node a0ll a0lr))] (.s (.v (.int .i64) c1)) [],
      decide (a1 ≥ c1) = false,
      SC cfg.P i_impl_node_without [.s (.v .tree (Tr.node a0ll a0lr)), .s (.v (.int .i64) a1)] (.s (.v .tree c2)) []]) (by kernel_rfl) ⟨rfl, h1, (decide_eq_false h2), h3, trivial⟩ get_impl_node_without (by decide)

/-! ### spec_trWith -/


theorem spec_trWith_p1 (a0 : (List ByteArray)) (a1 : ByteArray)
    (h1 : ((List.length a0 : Nat) : Int) = (0 : Int)) :
    SC cfg.P i_spec_trWith [.s (.v (.sl .str) a0), .s (.v .str a1)] (.tup [.v .str (⟨#[]⟩ : ByteArray), .v (.int .i64) (0 : Int)]) [] :=
  SC_of_run cfgOK (its := [.bool true])
    (ps := [(((List.length a0 : Nat) : Int) == (0 : Int)) = true]) (by kernel_rfl) ⟨(beq_iff_eq.mpr h1), trivial⟩ get_spec_trWith (by decide)

theorem spec_trWith_p2 (a0 : (List ByteArray)) (a1 : ByteArray)
    (h1 : ((List.length a0 : Nat) : Int) ≠ (0 : Int))
    (h2 : ((a1).size : Int) > (8 : Int)) :
    SC cfg.P i_spec_trWith [.s (.v (.sl .str) a0), .s (.v .str a1)] (.tup [.v .str (⟨#[]⟩ : ByteArray), .v (.int .i64) (0 : Int)]) [] :=
  SC_of_run cfgOK (its := [.bool false, .bool true])
    (ps := [(((List.length a0 : Nat) : Int) == (0 : Int)) = false,
      decide (((a1).size : Int) > (8 : Int)) = true]) (by kernel_rfl) ⟨(beq_eq_false_iff_ne.mpr h1), (decide_eq_true h2), trivial⟩ get_spec_trWith (by decide)

theorem spec_trWith_p3 (a0 : (List ByteArray)) (a1 : ByteArray)
    (h1 : ((List.length a0 : Nat) : Int) ≠ (0 : Int))
    (h2 : ¬ (((a1).size : Int) > (8 : Int)))
    (h3 : (0 : Int) < (List.length a0 : Int))
    (h4 : (List.getD a0 ((0 : Int)).toNat (⟨#[]⟩ : ByteArray)) = a1) :
    SC cfg.P i_spec_trWith [.s (.v (.sl .str) a0), .s (.v .str a1)] (.tup [.v .str (⟨#[46]⟩ : ByteArray), .v (.int .i64) (1 : Int)]) [] :=
  SC_of_run cfgOK (its := [.bool false, .bool false, .bool true])
    (ps := [(((List.length a0 : Nat) : Int) == (0 : Int)) = false,
      decide (((a1).size : Int) > (8 : Int)) = false,
      0 ≤ (0 : Int),
      (0 : Int) < (List.length a0 : Int),
      (((List.getD a0 ((0 : Int)).toNat (⟨#[]⟩ : ByteArray))).toList == (a1).toList) = true]) (by kernel_rfl) ⟨(beq_eq_false_iff_ne.mpr h1), (decide_eq_false h2), (by decide), h3, (seq_t h4), trivial⟩ get_spec_trWith (by decide)

theorem spec_trWith_p4 (a0 : (List ByteArray)) (a1 : ByteArray) (c1a : ByteArray) (c1b : Int)
    (h1 : ((List.length a0 : Nat) : Int) ≠ (0 : Int))
    (h2 : ¬ (((a1).size : Int) > (8 : Int)))
    (h3 : (0 : Int) < (List.length a0 : Int))
    (h4 : (List.getD a0 ((0 : Int)).toNat (⟨#[]⟩ : ByteArray)) ≠ a1)
    (h5 : (a1).size + ((⟨#[48]⟩ : ByteArray)).size ≤ 2 ^ 62)
    (h6 : SC cfg.P i_spec_trWith [.s (.v (.sl .str) a0), .s (.v .str (a1 ++ (⟨#[48]⟩ : ByteArray)))] (.tup [.v .str c1a, .v (.int .i64) c1b]) [])
    (h7 : c1b = (0 : Int)) :
    SC cfg.P i_spec_trWith [.s (.v (.sl .str) a0), .s (.v .str a1)] (.tup [.v .str (⟨#[]⟩ : ByteArray), .v (.int .i64) (0 : Int)]) [] :=
  SC_of_run cfgOK (its := [.bool false, .bool false, .bool false, .res (.tup [.v .str c1a, .v (.int .i64) c1b]) [] [] [], .bool true])
    (ps := [(((List.length a0 : Nat) : Int) == (0 : Int)) = false,
      decide (((a1).size : Int) > (8 : Int)) = false,
      0 ≤ (0 : Int),
      (0 : Int) < (List.length a0 : Int),
      (((List.getD a0 ((0 : Int)).toNat (⟨#[]⟩ : ByteArray))).toList == (a1).toList) = false,
      (a1).size + ((⟨#[48]⟩ : ByteArray)).size ≤ 2 ^ 62,
      SC cfg.P i_spec_trWith [.s (.v (.sl .str) a0), .s (.v .str (a1 ++ (⟨#[48]⟩ : ByteArray)))] (.tup [.v .str c1a, .v (.int .i64) c1b]) [],
      (c1b == (0 : Int)) = true]) (by kernel_rfl) ⟨(beq_eq_false_iff_ne.mpr h1), (decide_eq_false h2), (by decide), h3, (seq_f h4), h5, h6, (beq_iff_eq.mpr h7), trivial⟩ get_spec_trWith (by decide)

theorem spec_trWith_p5 (a0 : (List ByteArray)) (a1 : ByteArray) (c1a : ByteArray) (c1b : Int) (c2a : ByteArray) (c2b : Int)
    (h1 : ((List.length a0 : Nat) : Int) ≠ (0 : Int))
    (h2 : ¬ (((a1).size : Int) > (8 : Int)))
    (h3 : (0 : Int) < (List.length a0 : Int))
    (h4 : (List.getD a0 ((0 : Int)).toNat (⟨#[]⟩ : ByteArray)) ≠ a1)
    (h5 : (a1).size + ((⟨#[48]⟩ : ByteArray)).size ≤ 2 ^ 62)
    (h6 : SC cfg.P i_spec_trWith [.s (.v (.sl .str) a0), .s (.v .str (a1 ++ (⟨#[48]⟩ : ByteArray)))] (.tup [.v .str c1a, .v (.int .i64) c1b]) [])
    (h7 : c1b ≠ (0 : Int))
    (h8 : 0 ≤ c1b)
    (h9 : c1b ≤ (List.length a0 : Int))
    (h10 : (a1).size + ((⟨#[49]⟩ : ByteArray)).size ≤ 2 ^ 62)
    (h11 : SC cfg.P i_spec_trWith [.s (.v (.sl .str) (cutL a0 c1b ((List.length a0 : Nat) : Int))), .s (.v .str (a1 ++ (⟨#[49]⟩ : ByteArray)))] (.tup [.v .str c2a, .v (.int .i64) c2b]) [])
    (h12 : c2b = (0 : Int)) :
    SC cfg.P i_spec_trWith [.s (.v (.sl .str) a0), .s (.v .str a1)] (.tup [.v .str (⟨#[]⟩ : ByteArray), .v (.int .i64) (0 : Int)]) [] :=
  SC_of_run cfgOK (its := [.bool false, .bool false, .bool false, .res (.tup [.v .str c1a, .v (.int .i64) c1b]) [] [] [], .bool false, .res (.tup [.v .str c2a, .v (.int .i64) c2b]) [] [] [], .bool true])
    (ps := [(((List.length a0 : Nat) : Int) == (0 : Int)) = false,
      decide (((a1).size : Int) > (8 : Int)) = false,
      0 ≤ (0 : Int),
      (0 : Int) < (List.length a0 : Int),
      (((List.getD a0 ((0 : Int)).toNat (⟨#[]⟩ : ByteArray))).toList == (a1).toList) = false,
      (a1).size + ((⟨#[48]⟩ : ByteArray)).size ≤ 2 ^ 62,
      SC cfg.P i_spec_trWith [.s (.v (.sl .str) a0), .s (.v .str (a1 ++ (⟨#[48]⟩ : ByteArray)))] (.tup [.v .str c1a, .v (.int .i64) c1b]) [],
      (c1b == (0 : Int)) = false,
      0 ≤ c1b,
      c1b ≤ (List.length a0 : Int),
      (a1).size + ((⟨#[49]⟩ : ByteArray)).size ≤ 2 ^ 62,
      SC cfg.P i_spec_trWith [.s (.v (.sl .str) (cutL a0 c1b ((List.length a0 : Nat) : Int))), .s (.v .str (a1 ++ (⟨#[49]⟩ : ByteArray)))] (.tup [.v .str c2a, .v (.int .i64) c2b]) [],
      (c2b == (0 : Int)) = true]) (by kernel_rfl) ⟨(beq_eq_false_iff_ne.mpr h1), (decide_eq_false h2), (by decide), h3, (seq_f h4), h5, h6, (beq_eq_false_iff_ne.mpr h7), h8, h9, h10, h11, (beq_iff_eq.mpr h12), trivial⟩ get_spec_trWith (by decide)

theorem spec_trWith_p6 (a0 : (List ByteArray)) (a1 : ByteArray) (c1a : ByteArray) (c1b : Int) (c2a : ByteArray) (c2b : Int) (c3 : ByteArray)
    (h1 : ((List.length a0 : Nat) : Int) ≠ (0 : Int))
    (h2 : ¬ (((a1).size : Int) > (8 : Int)))
    (h3 : (0 : Int) < (List.length a0 : Int))
    (h4 : (List.getD a0 ((0 : Int)).toNat (⟨#[]⟩ : ByteArray)) ≠ a1)
    (h5 : (a1).size + ((⟨#[48]⟩ : ByteArray)).size ≤ 2 ^ 62)
    (h6 : SC cfg.P i_spec_trWith [.s (.v (.sl .str) a0), .s (.v .str (a1 ++ (⟨#[48]⟩ : ByteArray)))] (.tup [.v .str c1a, .v (.int .i64) c1b]) [])
    (h7 : c1b ≠ (0 : Int))
    (h8 : 0 ≤ c1b)
    (h9 : c1b ≤ (List.length a0 : Int))
    (h10 : (a1).size + ((⟨#[49]⟩ : ByteArray)).size ≤ 2 ^ 62)
    (h11 : SC cfg.P i_spec_trWith [.s (.v (.sl .str) (cutL a0 c1b ((List.length a0 : Nat) : Int))), .s (.v .str (a1 ++ (⟨#[49]⟩ : ByteArray)))] (.tup [.v .str c2a, .v (.int .i64) c2b]) [])
    (h12 : c2b ≠ (0 : Int))
    (h13 : SC cfg.P i_spec_trOf [.s (.v .str c1a), .s (.v .str c2a)] (.s (.v .str c3)) []) :
    SC cfg.P i_spec_trWith [.s (.v (.sl .str) a0), .s (.v .str a1)] (.tup [.v .str c3, .v (.int .i64) (IntKind.wrap .i64 (c1b + c2b))]) [] :=
  SC_of_run cfgOK (its := [.bool false, .bool false, .bool false, .res (.tup [.v .str c1a, .v (.int .i64) c1b]) [] [] [], .bool false, .res (.tup [.v .str c2a, .v (.int .i64) c2b]) [] [] [], .bool false, .res (.s (.v .str c3)) [] [] []])
    (ps := [(((List.length a0 : Nat) : Int) == (0 : Int)) = false,
      decide (((a1).size : Int) > (8 : Int)) = false,
      0 ≤ (0 : Int),
      (0 : Int) < (List.length a0 : Int),
      (((List.getD a0 ((0 : Int)).toNat (⟨#[]⟩ : ByteArray))).toList == (a1).toList) = false,
      (a1).size + ((⟨#[48]⟩ : ByteArray)).size ≤ 2 ^ 62,
      SC cfg.P i_spec_trWith [.s (.v (.sl .str) a0), .s (.v .str (a1 ++ (⟨#[48]⟩ : ByteArray)))] (.tup [.v .str c1a, .v (.int .i64) c1b]) [],
      (c1b == (0 : Int)) = false,
      0 ≤ c1b,
      c1b ≤ (List.length a0 : Int),
      (a1).size + ((⟨#[49]⟩ : ByteArray)).size ≤ 2 ^ 62,
      SC cfg.P i_spec_trWith [.s (.v (.sl .str) (cutL a0 c1b ((List.length a0 : Nat) : Int))), .s (.v .str (a1 ++ (⟨#[49]⟩ : ByteArray)))] (.tup [.v .str c2a, .v (.int .i64) c2b]) [],
      (c2b == (0 : Int)) = false,
      SC cfg.P i_spec_trOf [.s (.v .str c1a), .s (.v .str c2a)] (.s (.v .str c3)) []]) (by kernel_rfl) ⟨(beq_eq_false_iff_ne.mpr h1), (decide_eq_false h2), (by decide), h3, (seq_f h4), h5, h6, (beq_eq_false_iff_ne.mpr h7), h8, h9, h10, h11, (beq_eq_false_iff_ne.mpr h12), h13, trivial⟩ get_spec_trWith (by decide)

/-! ### impl_node_leaves -/


theorem impl_node_leaves_p1 (a0 : Tr) (c1 : Int)
    (h1 : SC cfg.P i_impl_node_carets [.s (.v .tree a0)] (.s (.v (.int .i64) c1)) []) :
    SC cfg.P i_impl_node_leaves [.s (.v .tree a0)] (.s (.v (.int .i64) (IntKind.wrap .i64 (c1 + (1 : Int))))) [] :=
  SC_of_run cfgOK (its := [.res (.s (.v (.int .i64) c1)) [] [] []])
    (ps := [SC cfg.P i_impl_node_carets [.s (.v .tree a0)] (.s (.v (.int .i64) c1)) []]) (by kernel_rfl) ⟨h1, trivial⟩ get_impl_node_leaves (by decide)

/-! ### impl_node_put -/


theorem impl_node_put_p1 (a0 : Tr) (a1 : ByteArray)
    (h1 : a1 = (⟨#[]⟩ : ByteArray)) :
    SC cfg.P i_impl_node_put [.s (.v .tree a0), .s (.v .str a1)] (.s (.v .tree a0)) [] :=
  SC_of_run cfgOK (its := [.bool true])
    (ps := [((a1).toList == ((⟨#[]⟩ : ByteArray)).toList) = true]) (by kernel_rfl) ⟨(seq_t h1), trivial⟩ get_impl_node_put (by decide)

-- impl_node_put: store ('fadr', 'tree', 'Tr.leaf') at "l1_tree.go:105" store   [((a1).toList == ((⟨#[]⟩ : ByteArray)).toList)=False; ((bt a1 (0 : Int)) == (48 : Int))=True]

-- impl_node_put: store ('fadr', 'tree', 'Tr.leaf') at "l1_tree.go:107" store   [((a1).toList == ((⟨#[]⟩ : ByteArray)).toList)=False; ((bt a1 (0 : Int)) == (48 : Int))=False]

-- impl_node_put: store ('fadr', 'tree', 'a0l') at "l1_tree.go:105" store   [((a1).toList == ((⟨#[]⟩ : ByteArray)).toList)=False; ((bt a1 (0 : Int)) == (48 : Int))=True]

-- impl_node_put: store ('fadr', 'tree', 'a0r') at "l1_tree.go:107" store   [((a1).toList == ((⟨#[]⟩ : ByteArray)).toList)=False; ((bt a1 (0 : Int)) == (48 : Int))=False]

/-! ### slices_Equal -/


def slices_Equal_L0a (x0 : (List ByteArray)) (x1 : (List ByteArray)) (x12 : Int) (x13 : Int) : St := mkSt 26 [(0, .s (.v (.sl .str) x0)), (1, .s (.v (.sl .str) x1)), (12, .s (.v (.int .i64) x12)), (13, .s (.v (.int .i64) x13))] []

def slices_Equal_L0X1 (y4 : Bool) : St := mkSt 26 [(4, .s (.v .bool y4))] []

def slices_Equal_L0X2 (y0 : (List ByteArray)) (y1 : (List ByteArray)) (y12 : Int) (y13 : Int) (y14 : Bool) : St := mkSt 26 [(0, .s (.v (.sl .str) y0)), (1, .s (.v (.sl .str) y1)), (12, .s (.v (.int .i64) y12)), (13, .s (.v (.int .i64) y13)), (14, .s (.v .bool y14))] []

theorem slices_Equal_L0a_x1 (x0 : (List ByteArray)) (x1 : (List ByteArray)) (x12 : Int) (x13 : Int)
    (h1 : x13 < x12)
    (h2 : 0 ≤ x13)
    (h3 : x13 < (List.length x0 : Int))
    (h4 : x13 < (List.length x1 : Int))
    (h5 : (List.getD x0 (x13).toNat (⟨#[]⟩ : ByteArray)) ≠ (List.getD x1 (x13).toNat (⟨#[]⟩ : ByteArray))) :
    LoopSC cfg.P 2 (lb P_slices_Equal 0) (slices_Equal_L0a x0 x1 x12 x13) (.ret) (slices_Equal_L0X1 false) :=
  loop_out cfgOK (f := i_slices_Equal) (its := [.bool true, .bool true])
    (ps := [decide (x13 < x12) = true,
      0 ≤ x13,
      x13 < (List.length x0 : Int),
      0 ≤ x13,
      x13 < (List.length x1 : Int),
      (!(((List.getD x0 (x13).toNat (⟨#[]⟩ : ByteArray))).toList == ((List.getD x1 (x13).toNat (⟨#[]⟩ : ByteArray))).toList)) = true]) (by kernel_rfl) ⟨(decide_eq_true h1), h2, h3, h2, h4, (nseq_t h5), trivial⟩ (fun h => by cases h)

theorem slices_Equal_L0a_i2 (x0 : (List ByteArray)) (x1 : (List ByteArray)) (x12 : Int) (x13 : Int)
    (h1 : x13 < x12)
    (h2 : 0 ≤ x13)
    (h3 : x13 < (List.length x0 : Int))
    (h4 : x13 < (List.length x1 : Int))
    (h5 : (List.getD x0 (x13).toNat (⟨#[]⟩ : ByteArray)) = (List.getD x1 (x13).toNat (⟨#[]⟩ : ByteArray)))
    {e : AEx} {st : St} (next : LoopSC cfg.P 2 (lb P_slices_Equal 0) (slices_Equal_L0a x0 x1 x12 (IntKind.wrap .i64 (x13 + (1 : Int)))) e st) :
    LoopSC cfg.P 2 (lb P_slices_Equal 0) (slices_Equal_L0a x0 x1 x12 x13) e st :=
  loop_iter cfgOK (f := i_slices_Equal) (its := [.bool true, .bool false])
    (ps := [decide (x13 < x12) = true,
      0 ≤ x13,
      x13 < (List.length x0 : Int),
      0 ≤ x13,
      x13 < (List.length x1 : Int),
      (!(((List.getD x0 (x13).toNat (⟨#[]⟩ : ByteArray))).toList == ((List.getD x1 (x13).toNat (⟨#[]⟩ : ByteArray))).toList)) = false]) (st1 := slices_Equal_L0a x0 x1 x12 (IntKind.wrap .i64 (x13 + (1 : Int)))) (by kernel_rfl) ⟨(decide_eq_true h1), h2, h3, h2, h4, (nseq_f h5), trivial⟩ next

theorem slices_Equal_L0a_x3 (x0 : (List ByteArray)) (x1 : (List ByteArray)) (x12 : Int) (x13 : Int)
    (h1 : ¬ (x13 < x12)) :
    LoopSC cfg.P 2 (lb P_slices_Equal 0) (slices_Equal_L0a x0 x1 x12 x13) (.exit 0) (slices_Equal_L0X2 x0 x1 x12 x13 false) :=
  loop_out cfgOK (f := i_slices_Equal) (its := [.bool false])
    (ps := [decide (x13 < x12) = false]) (by kernel_rfl) ⟨(decide_eq_false h1), trivial⟩ (fun h => by cases h)

theorem slices_Equal_p1 (a0 : (List ByteArray)) (a1 : (List ByteArray))
    (h1 : ((List.length a0 : Nat) : Int) ≠ ((List.length a1 : Nat) : Int)) :
    SC cfg.P i_slices_Equal [.s (.v (.sl .str) a0), .s (.v (.sl .str) a1)] (.s (.v .bool false)) [] :=
  SC_of_run cfgOK (its := [.bool true])
    (ps := [(((List.length a0 : Nat) : Int) != ((List.length a1 : Nat) : Int)) = true]) (by kernel_rfl) ⟨(bne_iff_ne.mpr h1), trivial⟩ get_slices_Equal (by decide)

theorem slices_Equal_p2 (a0 : (List ByteArray)) (a1 : (List ByteArray)) (k1y4 : Bool)
    (h1 : ((List.length a0 : Nat) : Int) = ((List.length a1 : Nat) : Int))
    (h2 : LoopSC cfg.P 2 (lb P_slices_Equal 0) (slices_Equal_L0a a0 a1 ((List.length a0 : Nat) : Int) (0 : Int)) (.ret) (slices_Equal_L0X1 k1y4)) :
    SC cfg.P i_slices_Equal [.s (.v (.sl .str) a0), .s (.v (.sl .str) a1)] (.s (.v .bool k1y4)) [] :=
  SC_of_run cfgOK (its := [.bool false, .loop (fun _ => (.ret, slices_Equal_L0X1 k1y4))])
    (ps := [(((List.length a0 : Nat) : Int) != ((List.length a1 : Nat) : Int)) = false,
      LoopSC cfg.P 2 (lb P_slices_Equal 0) (slices_Equal_L0a a0 a1 ((List.length a0 : Nat) : Int) (0 : Int)) (.ret) (slices_Equal_L0X1 k1y4)]) (by kernel_rfl) ⟨(bne_eq_false_iff_eq.mpr h1), h2, trivial⟩ get_slices_Equal (by decide)

theorem slices_Equal_p3 (a0 : (List ByteArray)) (a1 : (List ByteArray)) (k1y0 : (List ByteArray)) (k1y1 : (List ByteArray)) (k1y12 : Int) (k1y13 : Int) (k1y14 : Bool)
    (h1 : ((List.length a0 : Nat) : Int) = ((List.length a1 : Nat) : Int))
    (h2 : LoopSC cfg.P 2 (lb P_slices_Equal 0) (slices_Equal_L0a a0 a1 ((List.length a0 : Nat) : Int) (0 : Int)) (.exit 0) (slices_Equal_L0X2 k1y0 k1y1 k1y12 k1y13 k1y14)) :
    SC cfg.P i_slices_Equal [.s (.v (.sl .str) a0), .s (.v (.sl .str) a1)] (.s (.v .bool true)) [] :=
  SC_of_run cfgOK (its := [.bool false, .loop (fun _ => (.exit 0, slices_Equal_L0X2 k1y0 k1y1 k1y12 k1y13 k1y14))])
    (ps := [(((List.length a0 : Nat) : Int) != ((List.length a1 : Nat) : Int)) = false,
      LoopSC cfg.P 2 (lb P_slices_Equal 0) (slices_Equal_L0a a0 a1 ((List.length a0 : Nat) : Int) (0 : Int)) (.exit 0) (slices_Equal_L0X2 k1y0 k1y1 k1y12 k1y13 k1y14)]) (by kernel_rfl) ⟨(bne_eq_false_iff_eq.mpr h1), h2, trivial⟩ get_slices_Equal (by decide)

/-! ### slices_Index -/


def slices_Index_L0a (x0 : (List Int)) (x1 : Int) (x7 : Int) (x8 : Int) : St := mkSt 19 [(0, .s (.v (.sl (.int .i64)) x0)), (1, .s (.v (.int .i64) x1)), (7, .s (.v (.int .i64) x7)), (8, .s (.v (.int .i64) x8))] []

def slices_Index_L0X1 (y4 : Int) : St := mkSt 19 [(4, .s (.v (.int .i64) y4))] []

def slices_Index_L0X2 (y0 : (List Int)) (y1 : Int) (y7 : Int) (y8 : Int) (y9 : Bool) : St := mkSt 19 [(0, .s (.v (.sl (.int .i64)) y0)), (1, .s (.v (.int .i64) y1)), (7, .s (.v (.int .i64) y7)), (8, .s (.v (.int .i64) y8)), (9, .s (.v .bool y9))] []

theorem slices_Index_L0a_x1 (x0 : (List Int)) (x1 : Int) (x7 : Int) (x8 : Int)
    (h1 : x8 < x7)
    (h2 : 0 ≤ x8)
    (h3 : x8 < (List.length x0 : Int))
    (h4 : x1 = (List.getD x0 (x8).toNat (0 : Int))) :
    LoopSC cfg.P 2 (lb P_slices_Index 0) (slices_Index_L0a x0 x1 x7 x8) (.ret) (slices_Index_L0X1 x8) :=
  loop_out cfgOK (f := i_slices_Index) (its := [.bool true, .bool true])
    (ps := [decide (x8 < x7) = true,
      0 ≤ x8,
      x8 < (List.length x0 : Int),
      (x1 == (List.getD x0 (x8).toNat (0 : Int))) = true]) (by kernel_rfl) ⟨(decide_eq_true h1), h2, h3, (beq_iff_eq.mpr h4), trivial⟩ (fun h => by cases h)

theorem slices_Index_L0a_i2 (x0 : (List Int)) (x1 : Int) (x7 : Int) (x8 : Int)
    (h1 : x8 < x7)
    (h2 : 0 ≤ x8)
    (h3 : x8 < (List.length x0 : Int))
    (h4 : x1 ≠ (List.getD x0 (x8).toNat (0 : Int)))
    {e : AEx} {st : St} (next : LoopSC cfg.P 2 (lb P_slices_Index 0) (slices_Index_L0a x0 x1 x7 (IntKind.wrap .i64 (x8 + (1 : Int)))) e st) :
    LoopSC cfg.P 2 (lb P_slices_Index 0) (slices_Index_L0a x0 x1 x7 x8) e st :=
  loop_iter cfgOK (f := i_slices_Index) (its := [.bool true, .bool false])
    (ps := [decide (x8 < x7) = true,
      0 ≤ x8,
      x8 < (List.length x0 : Int),
      (x1 == (List.getD x0 (x8).toNat (0 : Int))) = false]) (st1 := slices_Index_L0a x0 x1 x7 (IntKind.wrap .i64 (x8 + (1 : Int)))) (by kernel_rfl) ⟨(decide_eq_true h1), h2, h3, (beq_eq_false_iff_ne.mpr h4), trivial⟩ next

theorem slices_Index_L0a_x3 (x0 : (List Int)) (x1 : Int) (x7 : Int) (x8 : Int)
    (h1 : ¬ (x8 < x7)) :
    LoopSC cfg.P 2 (lb P_slices_Index 0) (slices_Index_L0a x0 x1 x7 x8) (.exit 0) (slices_Index_L0X2 x0 x1 x7 x8 false) :=
  loop_out cfgOK (f := i_slices_Index) (its := [.bool false])
    (ps := [decide (x8 < x7) = false]) (by kernel_rfl) ⟨(decide_eq_false h1), trivial⟩ (fun h => by cases h)

theorem slices_Index_p1 (a0 : (List Int)) (a1 : Int) (k1y4 : Int)
    (h1 : LoopSC cfg.P 2 (lb P_slices_Index 0) (slices_Index_L0a a0 a1 ((List.length a0 : Nat) : Int) (0 : Int)) (.ret) (slices_Index_L0X1 k1y4)) :
    SC cfg.P i_slices_Index [.s (.v (.sl (.int .i64)) a0), .s (.v (.int .i64) a1)] (.s (.v (.int .i64) k1y4)) [] :=
  SC_of_run cfgOK (its := [.loop (fun _ => (.ret, slices_Index_L0X1 k1y4))])
    (ps := [LoopSC cfg.P 2 (lb P_slices_Index 0) (slices_Index_L0a a0 a1 ((List.length a0 : Nat) : Int) (0 : Int)) (.ret) (slices_Index_L0X1 k1y4)]) (by kernel_rfl) ⟨h1, trivial⟩ get_slices_Index (by decide)

theorem slices_Index_p2 (a0 : (List Int)) (a1 : Int) (k1y0 : (List Int)) (k1y1 : Int) (k1y7 : Int) (k1y8 : Int) (k1y9 : Bool)
    (h1 : LoopSC cfg.P 2 (lb P_slices_Index 0) (slices_Index_L0a a0 a1 ((List.length a0 : Nat) : Int) (0 : Int)) (.exit 0) (slices_Index_L0X2 k1y0 k1y1 k1y7 k1y8 k1y9)) :
    SC cfg.P i_slices_Index [.s (.v (.sl (.int .i64)) a0), .s (.v (.int .i64) a1)] (.s (.v (.int .i64) (-1 : Int))) [] :=
  SC_of_run cfgOK (its := [.loop (fun _ => (.exit 0, slices_Index_L0X2 k1y0 k1y1 k1y7 k1y8 k1y9))])
    (ps := [LoopSC cfg.P 2 (lb P_slices_Index 0) (slices_Index_L0a a0 a1 ((List.length a0 : Nat) : Int) (0 : Int)) (.exit 0) (slices_Index_L0X2 k1y0 k1y1 k1y7 k1y8 k1y9)]) (by kernel_rfl) ⟨h1, trivial⟩ get_slices_Index (by decide)

end Go.AI
