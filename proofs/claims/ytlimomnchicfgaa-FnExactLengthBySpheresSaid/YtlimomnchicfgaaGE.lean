/- A part of the road: what it proves stands in its last texts. -/
import Derived.Test.YtlimomnchicfgaaSIds
import Derived.Test.YtlimomnchicfgaaProg
set_option autoImplicit false
set_option maxRecDepth 100000
set_option linter.unusedVariables false
namespace Go.AI
open Go.Proofs

/-! ### laws_FnExactSphereSize -/


theorem laws_FnExactSphereSize_p1 (a0 : Int) (c1a : Int) (c1b : Bool) (c2a : Int) (c2b : Bool)
    (h1 : SC cfg.P i_spec_SphereSize [.s (.v (.int .i64) a0)] (.tup [.v (.int .i64) c1a, .v .bool c1b]) [])
    (h2 : SC cfg.P i_impl_SphereSize [.s (.v (.int .i64) a0)] (.tup [.v (.int .i64) c2a, .v .bool c2b]) [])
    (h3 : c2a = c1a)
    (h4 : (!(c2b == c1b)) = false) :
    SC cfg.P i_laws_FnExactSphereSize [.s (.v (.int .i64) a0)] (.s (.v .bool true)) [] :=
  SC_of_run cfgOK (its := [.res (.tup [.v (.int .i64) c1a, .v .bool c1b]) [] [] [], .res (.tup [.v (.int .i64) c2a, .v .bool c2b]) [] [] [], .bool false, .bool false])
    (ps := [SC cfg.P i_spec_SphereSize [.s (.v (.int .i64) a0)] (.tup [.v (.int .i64) c1a, .v .bool c1b]) [],
      SC cfg.P i_impl_SphereSize [.s (.v (.int .i64) a0)] (.tup [.v (.int .i64) c2a, .v .bool c2b]) [],
      (c2a != c1a) = false,
      (!(c2b == c1b)) = false]) (by kernel_rfl) ⟨h1, h2, (bne_f h3), h4, trivial⟩ get_laws_FnExactSphereSize (by decide)

/-! ### spec_SphereSize -/


theorem spec_SphereSize_p1 (a0 : Int) (c2 : (List (List ByteArray)))
    (h1 : SC cfg.P i_spec_l1In [.s (.v (.int .i64) a0), .s (.v (.int .i64) (0 : Int)), .s (.v (.int .i64) (5 : Int))] (.s (.v .bool true)) [])
    (h2 : SC cfg.P i_spec_lnSpheres [.s (.v (.int .i64) a0)] (.s (.v (.sl (.sl .str)) c2)) [])
    (h3 : 0 ≤ a0)
    (h4 : a0 < (List.length c2 : Int)) :
    SC cfg.P i_spec_SphereSize [.s (.v (.int .i64) a0)] (.tup [.v (.int .i64) ((List.length (List.getD c2 (a0).toNat ([] : List ByteArray)) : Nat) : Int), .v .bool true]) [] :=
  SC_of_run cfgOK (its := [.res (.s (.v .bool true)) [] [] [], .res (.s (.v (.sl (.sl .str)) c2)) [] [] []])
    (ps := [SC cfg.P i_spec_l1In [.s (.v (.int .i64) a0), .s (.v (.int .i64) (0 : Int)), .s (.v (.int .i64) (5 : Int))] (.s (.v .bool true)) [],
      SC cfg.P i_spec_lnSpheres [.s (.v (.int .i64) a0)] (.s (.v (.sl (.sl .str)) c2)) [],
      0 ≤ a0,
      a0 < (List.length c2 : Int)]) (by kernel_rfl) ⟨h1, h2, h3, h4, trivial⟩ get_spec_SphereSize (by decide)

theorem spec_SphereSize_p2 (a0 : Int)
    (h1 : SC cfg.P i_spec_l1In [.s (.v (.int .i64) a0), .s (.v (.int .i64) (0 : Int)), .s (.v (.int .i64) (5 : Int))] (.s (.v .bool false)) []) :
    SC cfg.P i_spec_SphereSize [.s (.v (.int .i64) a0)] (.tup [.v (.int .i64) (0 : Int), .v .bool false]) [] :=
  SC_of_run cfgOK (its := [.res (.s (.v .bool false)) [] [] []])
    (ps := [SC cfg.P i_spec_l1In [.s (.v (.int .i64) a0), .s (.v (.int .i64) (0 : Int)), .s (.v (.int .i64) (5 : Int))] (.s (.v .bool false)) []]) (by kernel_rfl) ⟨h1, trivial⟩ get_spec_SphereSize (by decide)

/-! ### impl_SphereSize -/


theorem impl_SphereSize_p1 (a0 : Int)
    (h1 : a0 < (0 : Int)) :
    SC cfg.P i_impl_SphereSize [.s (.v (.int .i64) a0)] (.tup [.v (.int .i64) (0 : Int), .v .bool false]) [] :=
  SC_of_run cfgOK (its := [.bool true])
    (ps := [decide (a0 < (0 : Int)) = true]) (by kernel_rfl) ⟨(decide_eq_true h1), trivial⟩ get_impl_SphereSize (by decide)

theorem impl_SphereSize_p2 (a0 : Int)
    (h1 : ¬ (a0 < (0 : Int)))
    (h2 : a0 > (5 : Int)) :
    SC cfg.P i_impl_SphereSize [.s (.v (.int .i64) a0)] (.tup [.v (.int .i64) (0 : Int), .v .bool false]) [] :=
  SC_of_run cfgOK (its := [.bool false, .bool true])
    (ps := [decide (a0 < (0 : Int)) = false,
      decide (a0 > (5 : Int)) = true]) (by kernel_rfl) ⟨(decide_eq_false h1), (decide_eq_true h2), trivial⟩ get_impl_SphereSize (by decide)

theorem impl_SphereSize_p3 (a0 : Int) (c1 : (List (List (Tr × Tr))))
    (h1 : ¬ (a0 < (0 : Int)))
    (h2 : ¬ (a0 > (5 : Int)))
    (h3 : SC cfg.P i_impl_spheres [.s (.v (.int .i64) a0)] (.s (.v (.sl (.sl (.pr .tree .tree))) c1)) [])
    (h4 : 0 ≤ a0)
    (h5 : a0 < (List.length c1 : Int)) :
    SC cfg.P i_impl_SphereSize [.s (.v (.int .i64) a0)] (.tup [.v (.int .i64) ((List.length (List.getD c1 (a0).toNat ([] : List (Tr × Tr))) : Nat) : Int), .v .bool true]) [] :=
  SC_of_run cfgOK (its := [.bool false, .bool false, .res (.s (.v (.sl (.sl (.pr .tree .tree))) c1)) [] [] []])
    (ps := [decide (a0 < (0 : Int)) = false,
      decide (a0 > (5 : Int)) = false,
      SC cfg.P i_impl_spheres [.s (.v (.int .i64) a0)] (.s (.v (.sl (.sl (.pr .tree .tree))) c1)) [],
      0 ≤ a0,
      a0 < (List.length c1 : Int)]) (by kernel_rfl) ⟨(decide_eq_false h1), (decide_eq_false h2), h3, h4, h5, trivial⟩ get_impl_SphereSize (by decide)

end Go.AI
