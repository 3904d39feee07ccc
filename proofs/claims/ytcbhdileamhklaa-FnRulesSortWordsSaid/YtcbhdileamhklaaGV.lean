/- A part of the road: what it proves stands in its last texts. -/
import Derived.Test.YtcbhdileamhklaaSIds
import Derived.Test.YtcbhdileamhklaaProg
set_option autoImplicit false
set_option maxRecDepth 100000
set_option linter.unusedVariables false
namespace Go.AI
open Go.Proofs

/-! ### spec_DrawIsWord -/


theorem spec_DrawIsWord_p1 (a0 : (List Int)) (c1 : (List Int)) (c1o0 : ((List Int) × (Int × Int)))
    (h1 : SC cfg.P i_spec_l1Cur_letters [.s (.mbx (.pr (.sl (.int .u8)) (.pr (.int .i64) (.int .u64))) (a0, ((0 : Int), (0 : Int)))), .s (.v (.int .i64) (12 : Int))] (.s (.own t_int (.int .i64) c1)) [.box (.pr (.sl (.int .u8)) (.pr (.int .i64) (.int .u64))) c1o0]) :
    SC cfg.P i_spec_DrawIsWord [.s (.v (.sl (.int .u8)) a0)] (.s (.own t_int (.int .i64) c1)) [] :=
  SC_of_run cfgOK (its := [.res (.s (.own t_int (.int .i64) c1)) [.box (.pr (.sl (.int .u8)) (.pr (.int .i64) (.int .u64))) c1o0] [] [8]])
    (ps := [SC cfg.P i_spec_l1Cur_letters [.s (.mbx (.pr (.sl (.int .u8)) (.pr (.int .i64) (.int .u64))) (a0, ((0 : Int), (0 : Int)))), .s (.v (.int .i64) (12 : Int))] (.s (.own t_int (.int .i64) c1)) [.box (.pr (.sl (.int .u8)) (.pr (.int .i64) (.int .u64))) c1o0]]) (by kernel_rfl) ⟨h1, trivial⟩ get_spec_DrawIsWord (by decide)

/-! ### spec_l1Cur_letters -/


def spec_l1Cur_letters_L0a (x13 : Int) (x22 : Bool) (xo0 : ((List Int) × (Int × Int))) (xo11 : (List Int)) : St := mkSt 39 [(0, .s (.adr 0 none)), (5, .s (.osl 11 0)), (13, .s (.v (.int .i64) x13)), (22, .s (.v .bool x22))] [(0, .box (.pr (.sl (.int .u8)) (.pr (.int .i64) (.int .u64))) xo0 false), (11, .row t_int (.int .i64) xo11 0 false)]

def spec_l1Cur_letters_L0b (xo0 : ((List Int) × (Int × Int))) (xo11 : (List Int)) : St := mkSt 39 [(0, .s (.adr 0 none)), (5, .s (.osl 11 0))] [(0, .box (.pr (.sl (.int .u8)) (.pr (.int .i64) (.int .u64))) xo0 false), (11, .row t_int (.int .i64) xo11 0 false)]

def spec_l1Cur_letters_L0X1 (y29 : Bool) (yo0 : ((List Int) × (Int × Int))) (yo11 : (List Int)) : St := mkSt 39 [(0, .s (.adr 0 none)), (5, .s (.osl 11 0)), (29, .s (.v .bool y29))] [(0, .box (.pr (.sl (.int .u8)) (.pr (.int .i64) (.int .u64))) yo0 false), (11, .row t_int (.int .i64) yo11 0 false)]

theorem spec_l1Cur_letters_L0a_i1 (x13 : Int) (x22 : Bool) (xo0 : ((List Int) × (Int × Int))) (xo11 : (List Int)) (dc1 : Int) (dc1o0 : ((List Int) × (Int × Int)))
    (h1 : SC cfg.P i_spec_l1Cur_pick [.s (.mbx (.pr (.sl (.int .u8)) (.pr (.int .i64) (.int .u64))) xo0), .s (.v (.int .i64) (2 : Int))] (.s (.v (.int .i64) dc1)) [.box (.pr (.sl (.int .u8)) (.pr (.int .i64) (.int .u64))) dc1o0])
    (h2 : ((List.length xo11 : Nat) : Int) < (IntKind.wrap .i64 ((20 : Int) + dc1)))
    (h3 : sizeOK (List.length xo11 + List.length ([(1 : Int)] : List Int)))
    {e : AEx} {st : St} (next : LoopSC cfg.P 2 (lb P_spec_l1Cur_letters 0) (spec_l1Cur_letters_L0b dc1o0 (xo11 ++ ([(1 : Int)] : List Int))) e st) :
    LoopSC cfg.P 2 (lb P_spec_l1Cur_letters 0) (spec_l1Cur_letters_L0a x13 x22 xo0 xo11) e st :=
  loop_iter cfgOK (f := i_spec_l1Cur_letters) (its := [.res (.s (.v (.int .i64) dc1)) [.box (.pr (.sl (.int .u8)) (.pr (.int .i64) (.int .u64))) dc1o0] [] [], .bool true])
    (ps := [SC cfg.P i_spec_l1Cur_pick [.s (.mbx (.pr (.sl (.int .u8)) (.pr (.int .i64) (.int .u64))) xo0), .s (.v (.int .i64) (2 : Int))] (.s (.v (.int .i64) dc1)) [.box (.pr (.sl (.int .u8)) (.pr (.int .i64) (.int .u64))) dc1o0],
      decide (((List.length xo11 : Nat) : Int) < (IntKind.wrap .i64 ((20 : Int) + dc1))) = true,
      sizeOK (List.length xo11 + List.length ([(1 : Int)] : List Int))]) (st1 := spec_l1Cur_letters_L0b dc1o0 (xo11 ++ ([(1 : Int)] : List Int))) (by kernel_rfl) ⟨h1, (decide_eq_true h2), h3, trivial⟩ next

theorem spec_l1Cur_letters_L0a_x2 (x13 : Int) (x22 : Bool) (xo0 : ((List Int) × (Int × Int))) (xo11 : (List Int)) (dc1 : Int) (dc1o0 : ((List Int) × (Int × Int)))
    (h1 : SC cfg.P i_spec_l1Cur_pick [.s (.mbx (.pr (.sl (.int .u8)) (.pr (.int .i64) (.int .u64))) xo0), .s (.v (.int .i64) (2 : Int))] (.s (.v (.int .i64) dc1)) [.box (.pr (.sl (.int .u8)) (.pr (.int .i64) (.int .u64))) dc1o0])
    (h2 : ¬ (((List.length xo11 : Nat) : Int) < (IntKind.wrap .i64 ((20 : Int) + dc1)))) :
    LoopSC cfg.P 2 (lb P_spec_l1Cur_letters 0) (spec_l1Cur_letters_L0a x13 x22 xo0 xo11) (.exit 1) (spec_l1Cur_letters_L0X1 false dc1o0 xo11) :=
  loop_out cfgOK (f := i_spec_l1Cur_letters) (its := [.res (.s (.v (.int .i64) dc1)) [.box (.pr (.sl (.int .u8)) (.pr (.int .i64) (.int .u64))) dc1o0] [] [], .bool false])
    (ps := [SC cfg.P i_spec_l1Cur_pick [.s (.mbx (.pr (.sl (.int .u8)) (.pr (.int .i64) (.int .u64))) xo0), .s (.v (.int .i64) (2 : Int))] (.s (.v (.int .i64) dc1)) [.box (.pr (.sl (.int .u8)) (.pr (.int .i64) (.int .u64))) dc1o0],
      decide (((List.length xo11 : Nat) : Int) < (IntKind.wrap .i64 ((20 : Int) + dc1))) = false]) (by kernel_rfl) ⟨h1, (decide_eq_false h2), trivial⟩ (fun h => by cases h)

theorem spec_l1Cur_letters_L0b_i1 (xo0 : ((List Int) × (Int × Int))) (xo11 : (List Int)) (dc1 : Int) (dc1o0 : ((List Int) × (Int × Int)))
    (h1 : SC cfg.P i_spec_l1Cur_pick [.s (.mbx (.pr (.sl (.int .u8)) (.pr (.int .i64) (.int .u64))) xo0), .s (.v (.int .i64) (2 : Int))] (.s (.v (.int .i64) dc1)) [.box (.pr (.sl (.int .u8)) (.pr (.int .i64) (.int .u64))) dc1o0])
    (h2 : ((List.length xo11 : Nat) : Int) < (IntKind.wrap .i64 ((20 : Int) + dc1)))
    (h3 : sizeOK (List.length xo11 + List.length ([(1 : Int)] : List Int)))
    {e : AEx} {st : St} (next : LoopSC cfg.P 2 (lb P_spec_l1Cur_letters 0) (spec_l1Cur_letters_L0b dc1o0 (xo11 ++ ([(1 : Int)] : List Int))) e st) :
    LoopSC cfg.P 2 (lb P_spec_l1Cur_letters 0) (spec_l1Cur_letters_L0b xo0 xo11) e st :=
  loop_iter cfgOK (f := i_spec_l1Cur_letters) (its := [.res (.s (.v (.int .i64) dc1)) [.box (.pr (.sl (.int .u8)) (.pr (.int .i64) (.int .u64))) dc1o0] [] [], .bool true])
    (ps := [SC cfg.P i_spec_l1Cur_pick [.s (.mbx (.pr (.sl (.int .u8)) (.pr (.int .i64) (.int .u64))) xo0), .s (.v (.int .i64) (2 : Int))] (.s (.v (.int .i64) dc1)) [.box (.pr (.sl (.int .u8)) (.pr (.int .i64) (.int .u64))) dc1o0],
      decide (((List.length xo11 : Nat) : Int) < (IntKind.wrap .i64 ((20 : Int) + dc1))) = true,
      sizeOK (List.length xo11 + List.length ([(1 : Int)] : List Int))]) (st1 := spec_l1Cur_letters_L0b dc1o0 (xo11 ++ ([(1 : Int)] : List Int))) (by kernel_rfl) ⟨h1, (decide_eq_true h2), h3, trivial⟩ next

theorem spec_l1Cur_letters_L0b_x2 (xo0 : ((List Int) × (Int × Int))) (xo11 : (List Int)) (dc1 : Int) (dc1o0 : ((List Int) × (Int × Int)))
    (h1 : SC cfg.P i_spec_l1Cur_pick [.s (.mbx (.pr (.sl (.int .u8)) (.pr (.int .i64) (.int .u64))) xo0), .s (.v (.int .i64) (2 : Int))] (.s (.v (.int .i64) dc1)) [.box (.pr (.sl (.int .u8)) (.pr (.int .i64) (.int .u64))) dc1o0])
    (h2 : ¬ (((List.length xo11 : Nat) : Int) < (IntKind.wrap .i64 ((20 : Int) + dc1)))) :
    LoopSC cfg.P 2 (lb P_spec_l1Cur_letters 0) (spec_l1Cur_letters_L0b xo0 xo11) (.exit 1) (spec_l1Cur_letters_L0X1 false dc1o0 xo11) :=
  loop_out cfgOK (f := i_spec_l1Cur_letters) (its := [.res (.s (.v (.int .i64) dc1)) [.box (.pr (.sl (.int .u8)) (.pr (.int .i64) (.int .u64))) dc1o0] [] [], .bool false])
    (ps := [SC cfg.P i_spec_l1Cur_pick [.s (.mbx (.pr (.sl (.int .u8)) (.pr (.int .i64) (.int .u64))) xo0), .s (.v (.int .i64) (2 : Int))] (.s (.v (.int .i64) dc1)) [.box (.pr (.sl (.int .u8)) (.pr (.int .i64) (.int .u64))) dc1o0],
      decide (((List.length xo11 : Nat) : Int) < (IntKind.wrap .i64 ((20 : Int) + dc1))) = false]) (by kernel_rfl) ⟨h1, (decide_eq_false h2), trivial⟩ (fun h => by cases h)

theorem spec_l1Cur_letters_p1 (a0 : ((List Int) × (Int × Int))) (a1 : Int) (c1 : Int) (c1o0 : ((List Int) × (Int × Int))) (c2 : (List Int)) (c2o0 : ((List Int) × (Int × Int))) (c3 : Int) (c3o0 : ((List Int) × (Int × Int))) (c4 : Int) (c4o0 : ((List Int) × (Int × Int)))
    (h1 : SC cfg.P i_spec_l1Cur_among [.s (.mbx (.pr (.sl (.int .u8)) (.pr (.int .i64) (.int .u64))) a0), .s (.v (.sl (.int .i64)) ([(2 : Int), (3 : Int), (4 : Int), (6 : Int)] : List Int))] (.s (.v (.int .i64) c1)) [.box (.pr (.sl (.int .u8)) (.pr (.int .i64) (.int .u64))) c1o0])
    (h2 : SC cfg.P i_spec_l1Cur_sureWord [.s (.mbx (.pr (.sl (.int .u8)) (.pr (.int .i64) (.int .u64))) c1o0), .s (.v (.int .i64) a1), .s (.v (.int .i64) c1)] (.s (.own t_int (.int .i64) c2)) [.box (.pr (.sl (.int .u8)) (.pr (.int .i64) (.int .u64))) c2o0])
    (h3 : SC cfg.P i_spec_l1Cur_pick [.s (.mbx (.pr (.sl (.int .u8)) (.pr (.int .i64) (.int .u64))) c2o0), .s (.v (.int .i64) (20 : Int))] (.s (.v (.int .i64) c3)) [.box (.pr (.sl (.int .u8)) (.pr (.int .i64) (.int .u64))) c3o0])
    (h4 : c3 = (0 : Int))
    (h5 : SC cfg.P i_spec_l1Cur_among [.s (.mbx (.pr (.sl (.int .u8)) (.pr (.int .i64) (.int .u64))) c3o0), .s (.v (.sl (.int .i64)) ([(0 : Int), (21 : Int), (-21 : Int), (22 : Int), (-22 : Int), (4611686018427387904 : Int)] : List Int))] (.s (.v (.int .i64) c4)) [.box (.pr (.sl (.int .u8)) (.pr (.int .i64) (.int .u64))) c4o0])
    (h6 : sizeOK (List.length c2 + List.length ([c4] : List Int))) :
    SC cfg.P i_spec_l1Cur_letters [.s (.mbx (.pr (.sl (.int .u8)) (.pr (.int .i64) (.int .u64))) a0), .s (.v (.int .i64) a1)] (.s (.own t_int (.int .i64) (c2 ++ ([c4] : List Int)))) [.box (.pr (.sl (.int .u8)) (.pr (.int .i64) (.int .u64))) c4o0] :=
  SC_of_run cfgOK (its := [.res (.s (.v (.int .i64) c1)) [.box (.pr (.sl (.int .u8)) (.pr (.int .i64) (.int .u64))) c1o0] [] [], .res (.s (.own t_int (.int .i64) c2)) [.box (.pr (.sl (.int .u8)) (.pr (.int .i64) (.int .u64))) c2o0] [] [11], .res (.s (.v (.int .i64) c3)) [.box (.pr (.sl (.int .u8)) (.pr (.int .i64) (.int .u64))) c3o0] [] [], .bool true, .res (.s (.v (.int .i64) c4)) [.box (.pr (.sl (.int .u8)) (.pr (.int .i64) (.int .u64))) c4o0] [] []])
    (ps := [SC cfg.P i_spec_l1Cur_among [.s (.mbx (.pr (.sl (.int .u8)) (.pr (.int .i64) (.int .u64))) a0), .s (.v (.sl (.int .i64)) ([(2 : Int), (3 : Int), (4 : Int), (6 : Int)] : List Int))] (.s (.v (.int .i64) c1)) [.box (.pr (.sl (.int .u8)) (.pr (.int .i64) (.int .u64))) c1o0],
      SC cfg.P i_spec_l1Cur_sureWord [.s (.mbx (.pr (.sl (.int .u8)) (.pr (.int .i64) (.int .u64))) c1o0), .s (.v (.int .i64) a1), .s (.v (.int .i64) c1)] (.s (.own t_int (.int .i64) c2)) [.box (.pr (.sl (.int .u8)) (.pr (.int .i64) (.int .u64))) c2o0],
      SC cfg.P i_spec_l1Cur_pick [.s (.mbx (.pr (.sl (.int .u8)) (.pr (.int .i64) (.int .u64))) c2o0), .s (.v (.int .i64) (20 : Int))] (.s (.v (.int .i64) c3)) [.box (.pr (.sl (.int .u8)) (.pr (.int .i64) (.int .u64))) c3o0],
      (c3 == (0 : Int)) = true,
      SC cfg.P i_spec_l1Cur_among [.s (.mbx (.pr (.sl (.int .u8)) (.pr (.int .i64) (.int .u64))) c3o0), .s (.v (.sl (.int .i64)) ([(0 : Int), (21 : Int), (-21 : Int), (22 : Int), (-22 : Int), (4611686018427387904 : Int)] : List Int))] (.s (.v (.int .i64) c4)) [.box (.pr (.sl (.int .u8)) (.pr (.int .i64) (.int .u64))) c4o0],
      sizeOK (List.length c2 + List.length ([c4] : List Int))]) (by kernel_rfl) ⟨h1, h2, h3, (beq_iff_eq.mpr h4), h5, h6, trivial⟩ get_spec_l1Cur_letters (by decide)

theorem spec_l1Cur_letters_p2 (a0 : ((List Int) × (Int × Int))) (a1 : Int) (c1 : Int) (c1o0 : ((List Int) × (Int × Int))) (c2 : (List Int)) (c2o0 : ((List Int) × (Int × Int))) (c3 : Int) (c3o0 : ((List Int) × (Int × Int))) (k1y29 : Bool) (k1yo0 : ((List Int) × (Int × Int))) (k1yo11 : (List Int))
    (h1 : SC cfg.P i_spec_l1Cur_among [.s (.mbx (.pr (.sl (.int .u8)) (.pr (.int .i64) (.int .u64))) a0), .s (.v (.sl (.int .i64)) ([(2 : Int), (3 : Int), (4 : Int), (6 : Int)] : List Int))] (.s (.v (.int .i64) c1)) [.box (.pr (.sl (.int .u8)) (.pr (.int .i64) (.int .u64))) c1o0])
    (h2 : SC cfg.P i_spec_l1Cur_sureWord [.s (.mbx (.pr (.sl (.int .u8)) (.pr (.int .i64) (.int .u64))) c1o0), .s (.v (.int .i64) a1), .s (.v (.int .i64) c1)] (.s (.own t_int (.int .i64) c2)) [.box (.pr (.sl (.int .u8)) (.pr (.int .i64) (.int .u64))) c2o0])
    (h3 : SC cfg.P i_spec_l1Cur_pick [.s (.mbx (.pr (.sl (.int .u8)) (.pr (.int .i64) (.int .u64))) c2o0), .s (.v (.int .i64) (20 : Int))] (.s (.v (.int .i64) c3)) [.box (.pr (.sl (.int .u8)) (.pr (.int .i64) (.int .u64))) c3o0])
    (h4 : c3 ≠ (0 : Int))
    (h5 : c3 = (1 : Int))
    (h6 : LoopSC cfg.P 2 (lb P_spec_l1Cur_letters 0) (spec_l1Cur_letters_L0a c3 true c3o0 c2) (.exit 1) (spec_l1Cur_letters_L0X1 k1y29 k1yo0 k1yo11)) :
    SC cfg.P i_spec_l1Cur_letters [.s (.mbx (.pr (.sl (.int .u8)) (.pr (.int .i64) (.int .u64))) a0), .s (.v (.int .i64) a1)] (.s (.own t_int (.int .i64) k1yo11)) [.box (.pr (.sl (.int .u8)) (.pr (.int .i64) (.int .u64))) k1yo0] :=
  SC_of_run cfgOK (its := [.res (.s (.v (.int .i64) c1)) [.box (.pr (.sl (.int .u8)) (.pr (.int .i64) (.int .u64))) c1o0] [] [], .res (.s (.own t_int (.int .i64) c2)) [.box (.pr (.sl (.int .u8)) (.pr (.int .i64) (.int .u64))) c2o0] [] [11], .res (.s (.v (.int .i64) c3)) [.box (.pr (.sl (.int .u8)) (.pr (.int .i64) (.int .u64))) c3o0] [] [], .bool false, .bool true, .loop (fun _ => (.exit 1, spec_l1Cur_letters_L0X1 k1y29 k1yo0 k1yo11))])
    (ps := [SC cfg.P i_spec_l1Cur_among [.s (.mbx (.pr (.sl (.int .u8)) (.pr (.int .i64) (.int .u64))) a0), .s (.v (.sl (.int .i64)) ([(2 : Int), (3 : Int), (4 : Int), (6 : Int)] : List Int))] (.s (.v (.int .i64) c1)) [.box (.pr (.sl (.int .u8)) (.pr (.int .i64) (.int .u64))) c1o0],
      SC cfg.P i_spec_l1Cur_sureWord [.s (.mbx (.pr (.sl (.int .u8)) (.pr (.int .i64) (.int .u64))) c1o0), .s (.v (.int .i64) a1), .s (.v (.int .i64) c1)] (.s (.own t_int (.int .i64) c2)) [.box (.pr (.sl (.int .u8)) (.pr (.int .i64) (.int .u64))) c2o0],
      SC cfg.P i_spec_l1Cur_pick [.s (.mbx (.pr (.sl (.int .u8)) (.pr (.int .i64) (.int .u64))) c2o0), .s (.v (.int .i64) (20 : Int))] (.s (.v (.int .i64) c3)) [.box (.pr (.sl (.int .u8)) (.pr (.int .i64) (.int .u64))) c3o0],
      (c3 == (0 : Int)) = false,
      (c3 == (1 : Int)) = true,
      LoopSC cfg.P 2 (lb P_spec_l1Cur_letters 0) (spec_l1Cur_letters_L0a c3 true c3o0 c2) (.exit 1) (spec_l1Cur_letters_L0X1 k1y29 k1yo0 k1yo11)]) (by kernel_rfl) ⟨h1, h2, h3, (beq_eq_false_iff_ne.mpr h4), (beq_iff_eq.mpr h5), h6, trivial⟩ get_spec_l1Cur_letters (by decide)

theorem spec_l1Cur_letters_p3 (a0 : ((List Int) × (Int × Int))) (a1 : Int) (c1 : Int) (c1o0 : ((List Int) × (Int × Int))) (c2 : (List Int)) (c2o0 : ((List Int) × (Int × Int))) (c3 : Int) (c3o0 : ((List Int) × (Int × Int)))
    (h1 : SC cfg.P i_spec_l1Cur_among [.s (.mbx (.pr (.sl (.int .u8)) (.pr (.int .i64) (.int .u64))) a0), .s (.v (.sl (.int .i64)) ([(2 : Int), (3 : Int), (4 : Int), (6 : Int)] : List Int))] (.s (.v (.int .i64) c1)) [.box (.pr (.sl (.int .u8)) (.pr (.int .i64) (.int .u64))) c1o0])
    (h2 : SC cfg.P i_spec_l1Cur_sureWord [.s (.mbx (.pr (.sl (.int .u8)) (.pr (.int .i64) (.int .u64))) c1o0), .s (.v (.int .i64) a1), .s (.v (.int .i64) c1)] (.s (.own t_int (.int .i64) c2)) [.box (.pr (.sl (.int .u8)) (.pr (.int .i64) (.int .u64))) c2o0])
    (h3 : SC cfg.P i_spec_l1Cur_pick [.s (.mbx (.pr (.sl (.int .u8)) (.pr (.int .i64) (.int .u64))) c2o0), .s (.v (.int .i64) (20 : Int))] (.s (.v (.int .i64) c3)) [.box (.pr (.sl (.int .u8)) (.pr (.int .i64) (.int .u64))) c3o0])
    (h4 : c3 ≠ (0 : Int))
    (h5 : c3 ≠ (1 : Int))
    (h6 : c3 = (2 : Int))
    (h7 : sizeOK (List.length c2 + List.length ([(20 : Int), (5 : Int), (20 : Int)] : List Int))) :
    SC cfg.P i_spec_l1Cur_letters [.s (.mbx (.pr (.sl (.int .u8)) (.pr (.int .i64) (.int .u64))) a0), .s (.v (.int .i64) a1)] (.s (.own t_int (.int .i64) (c2 ++ ([(20 : Int), (5 : Int), (20 : Int)] : List Int)))) [.box (.pr (.sl (.int .u8)) (.pr (.int .i64) (.int .u64))) c3o0] :=
  SC_of_run cfgOK (its := [.res (.s (.v (.int .i64) c1)) [.box (.pr (.sl (.int .u8)) (.pr (.int .i64) (.int .u64))) c1o0] [] [], .res (.s (.own t_int (.int .i64) c2)) [.box (.pr (.sl (.int .u8)) (.pr (.int .i64) (.int .u64))) c2o0] [] [11], .res (.s (.v (.int .i64) c3)) [.box (.pr (.sl (.int .u8)) (.pr (.int .i64) (.int .u64))) c3o0] [] [], .bool false, .bool false, .bool true])
    (ps := [SC cfg.P i_spec_l1Cur_among [.s (.mbx (.pr (.sl (.int .u8)) (.pr (.int .i64) (.int .u64))) a0), .s (.v (.sl (.int .i64)) ([(2 : Int), (3 : Int), (4 : Int), (6 : Int)] : List Int))] (.s (.v (.int .i64) c1)) [.box (.pr (.sl (.int .u8)) (.pr (.int .i64) (.int .u64))) c1o0],
      SC cfg.P i_spec_l1Cur_sureWord [.s (.mbx (.pr (.sl (.int .u8)) (.pr (.int .i64) (.int .u64))) c1o0), .s (.v (.int .i64) a1), .s (.v (.int .i64) c1)] (.s (.own t_int (.int .i64) c2)) [.box (.pr (.sl (.int .u8)) (.pr (.int .i64) (.int .u64))) c2o0],
      SC cfg.P i_spec_l1Cur_pick [.s (.mbx (.pr (.sl (.int .u8)) (.pr (.int .i64) (.int .u64))) c2o0), .s (.v (.int .i64) (20 : Int))] (.s (.v (.int .i64) c3)) [.box (.pr (.sl (.int .u8)) (.pr (.int .i64) (.int .u64))) c3o0],
      (c3 == (0 : Int)) = false,
      (c3 == (1 : Int)) = false,
      (c3 == (2 : Int)) = true,
      sizeOK (List.length c2 + List.length ([(20 : Int), (5 : Int), (20 : Int)] : List Int))]) (by kernel_rfl) ⟨h1, h2, h3, (beq_eq_false_iff_ne.mpr h4), (beq_eq_false_iff_ne.mpr h5), (beq_iff_eq.mpr h6), h7, trivial⟩ get_spec_l1Cur_letters (by decide)

theorem spec_l1Cur_letters_p4 (a0 : ((List Int) × (Int × Int))) (a1 : Int) (c1 : Int) (c1o0 : ((List Int) × (Int × Int))) (c2 : (List Int)) (c2o0 : ((List Int) × (Int × Int))) (c3 : Int) (c3o0 : ((List Int) × (Int × Int)))
    (h1 : SC cfg.P i_spec_l1Cur_among [.s (.mbx (.pr (.sl (.int .u8)) (.pr (.int .i64) (.int .u64))) a0), .s (.v (.sl (.int .i64)) ([(2 : Int), (3 : Int), (4 : Int), (6 : Int)] : List Int))] (.s (.v (.int .i64) c1)) [.box (.pr (.sl (.int .u8)) (.pr (.int .i64) (.int .u64))) c1o0])
    (h2 : SC cfg.P i_spec_l1Cur_sureWord [.s (.mbx (.pr (.sl (.int .u8)) (.pr (.int .i64) (.int .u64))) c1o0), .s (.v (.int .i64) a1), .s (.v (.int .i64) c1)] (.s (.own t_int (.int .i64) c2)) [.box (.pr (.sl (.int .u8)) (.pr (.int .i64) (.int .u64))) c2o0])
    (h3 : SC cfg.P i_spec_l1Cur_pick [.s (.mbx (.pr (.sl (.int .u8)) (.pr (.int .i64) (.int .u64))) c2o0), .s (.v (.int .i64) (20 : Int))] (.s (.v (.int .i64) c3)) [.box (.pr (.sl (.int .u8)) (.pr (.int .i64) (.int .u64))) c3o0])
    (h4 : c3 ≠ (0 : Int))
    (h5 : c3 ≠ (1 : Int))
    (h6 : c3 ≠ (2 : Int)) :
    SC cfg.P i_spec_l1Cur_letters [.s (.mbx (.pr (.sl (.int .u8)) (.pr (.int .i64) (.int .u64))) a0), .s (.v (.int .i64) a1)] (.s (.own t_int (.int .i64) c2)) [.box (.pr (.sl (.int .u8)) (.pr (.int .i64) (.int .u64))) c3o0] :=
  SC_of_run cfgOK (its := [.res (.s (.v (.int .i64) c1)) [.box (.pr (.sl (.int .u8)) (.pr (.int .i64) (.int .u64))) c1o0] [] [], .res (.s (.own t_int (.int .i64) c2)) [.box (.pr (.sl (.int .u8)) (.pr (.int .i64) (.int .u64))) c2o0] [] [11], .res (.s (.v (.int .i64) c3)) [.box (.pr (.sl (.int .u8)) (.pr (.int .i64) (.int .u64))) c3o0] [] [], .bool false, .bool false, .bool false])
    (ps := [SC cfg.P i_spec_l1Cur_among [.s (.mbx (.pr (.sl (.int .u8)) (.pr (.int .i64) (.int .u64))) a0), .s (.v (.sl (.int .i64)) ([(2 : Int), (3 : Int), (4 : Int), (6 : Int)] : List Int))] (.s (.v (.int .i64) c1)) [.box (.pr (.sl (.int .u8)) (.pr (.int .i64) (.int .u64))) c1o0],
      SC cfg.P i_spec_l1Cur_sureWord [.s (.mbx (.pr (.sl (.int .u8)) (.pr (.int .i64) (.int .u64))) c1o0), .s (.v (.int .i64) a1), .s (.v (.int .i64) c1)] (.s (.own t_int (.int .i64) c2)) [.box (.pr (.sl (.int .u8)) (.pr (.int .i64) (.int .u64))) c2o0],
      SC cfg.P i_spec_l1Cur_pick [.s (.mbx (.pr (.sl (.int .u8)) (.pr (.int .i64) (.int .u64))) c2o0), .s (.v (.int .i64) (20 : Int))] (.s (.v (.int .i64) c3)) [.box (.pr (.sl (.int .u8)) (.pr (.int .i64) (.int .u64))) c3o0],
      (c3 == (0 : Int)) = false,
      (c3 == (1 : Int)) = false,
      (c3 == (2 : Int)) = false]) (by kernel_rfl) ⟨h1, h2, h3, (beq_eq_false_iff_ne.mpr h4), (beq_eq_false_iff_ne.mpr h5), (beq_eq_false_iff_ne.mpr h6), trivial⟩ get_spec_l1Cur_letters (by decide)

/-! ### spec_l1Cur_one -/


theorem spec_l1Cur_one_p1 (a0 : ((List Int) × (Int × Int))) (a1 : Int) (c1 : Int) (c1o0 : ((List Int) × (Int × Int)))
    (h1 : SC cfg.P i_spec_l1Cur_pick [.s (.mbx (.pr (.sl (.int .u8)) (.pr (.int .i64) (.int .u64))) a0), .s (.v (.int .i64) a1)] (.s (.v (.int .i64) c1)) [.box (.pr (.sl (.int .u8)) (.pr (.int .i64) (.int .u64))) c1o0])
    (h2 : c1 = (0 : Int)) :
    SC cfg.P i_spec_l1Cur_one [.s (.mbx (.pr (.sl (.int .u8)) (.pr (.int .i64) (.int .u64))) a0), .s (.v (.int .i64) a1)] (.s (.v .bool true)) [.box (.pr (.sl (.int .u8)) (.pr (.int .i64) (.int .u64))) c1o0] :=
  SC_of_run cfgOK (its := [.res (.s (.v (.int .i64) c1)) [.box (.pr (.sl (.int .u8)) (.pr (.int .i64) (.int .u64))) c1o0] [] [], .bool true])
    (ps := [SC cfg.P i_spec_l1Cur_pick [.s (.mbx (.pr (.sl (.int .u8)) (.pr (.int .i64) (.int .u64))) a0), .s (.v (.int .i64) a1)] (.s (.v (.int .i64) c1)) [.box (.pr (.sl (.int .u8)) (.pr (.int .i64) (.int .u64))) c1o0],
      (c1 == (0 : Int)) = true]) (by kernel_rfl) ⟨h1, (beq_iff_eq.mpr h2), trivial⟩ get_spec_l1Cur_one (by decide)

theorem spec_l1Cur_one_p2 (a0 : ((List Int) × (Int × Int))) (a1 : Int) (c1 : Int) (c1o0 : ((List Int) × (Int × Int)))
    (h1 : SC cfg.P i_spec_l1Cur_pick [.s (.mbx (.pr (.sl (.int .u8)) (.pr (.int .i64) (.int .u64))) a0), .s (.v (.int .i64) a1)] (.s (.v (.int .i64) c1)) [.box (.pr (.sl (.int .u8)) (.pr (.int .i64) (.int .u64))) c1o0])
    (h2 : c1 ≠ (0 : Int)) :
    SC cfg.P i_spec_l1Cur_one [.s (.mbx (.pr (.sl (.int .u8)) (.pr (.int .i64) (.int .u64))) a0), .s (.v (.int .i64) a1)] (.s (.v .bool false)) [.box (.pr (.sl (.int .u8)) (.pr (.int .i64) (.int .u64))) c1o0] :=
  SC_of_run cfgOK (its := [.res (.s (.v (.int .i64) c1)) [.box (.pr (.sl (.int .u8)) (.pr (.int .i64) (.int .u64))) c1o0] [] [], .bool false])
    (ps := [SC cfg.P i_spec_l1Cur_pick [.s (.mbx (.pr (.sl (.int .u8)) (.pr (.int .i64) (.int .u64))) a0), .s (.v (.int .i64) a1)] (.s (.v (.int .i64) c1)) [.box (.pr (.sl (.int .u8)) (.pr (.int .i64) (.int .u64))) c1o0],
      (c1 == (0 : Int)) = false]) (by kernel_rfl) ⟨h1, (beq_eq_false_iff_ne.mpr h2), trivial⟩ get_spec_l1Cur_one (by decide)

/-! ### spec_l1Cur_sureWord -/


def spec_l1Cur_sureWord_L0a (x2 : Int) (x8 : Int) (xo0 : ((List Int) × (Int × Int))) (xo7 : (List Int)) : St := mkSt 31 [(0, .s (.adr 0 none)), (2, .s (.v (.int .i64) x2)), (7, .s (.osl 7 0)), (8, .s (.v (.int .i64) x8))] [(0, .box (.pr (.sl (.int .u8)) (.pr (.int .i64) (.int .u64))) xo0 false), (7, .row t_int (.int .i64) xo7 0 false)]

def spec_l1Cur_sureWord_L0X1 (y2 : Int) (y8 : Int) (y15 : Bool) (yo0 : ((List Int) × (Int × Int))) (yo7 : (List Int)) : St := mkSt 31 [(0, .s (.adr 0 none)), (2, .s (.v (.int .i64) y2)), (7, .s (.osl 7 0)), (8, .s (.v (.int .i64) y8)), (15, .s (.v .bool y15))] [(0, .box (.pr (.sl (.int .u8)) (.pr (.int .i64) (.int .u64))) yo0 false), (7, .row t_int (.int .i64) yo7 0 false)]

theorem spec_l1Cur_sureWord_L0a_i1 (x2 : Int) (x8 : Int) (xo0 : ((List Int) × (Int × Int))) (xo7 : (List Int)) (dc1 : Int) (dc1o0 : ((List Int) × (Int × Int))) (dc2o0 : ((List Int) × (Int × Int)))
    (h1 : x8 > (0 : Int))
    (h2 : SC cfg.P i_spec_l1Cur_pick [.s (.mbx (.pr (.sl (.int .u8)) (.pr (.int .i64) (.int .u64))) xo0), .s (.v (.int .i64) x2)] (.s (.v (.int .i64) dc1)) [.box (.pr (.sl (.int .u8)) (.pr (.int .i64) (.int .u64))) dc1o0])
    (h3 : SC cfg.P i_spec_l1Cur_one [.s (.mbx (.pr (.sl (.int .u8)) (.pr (.int .i64) (.int .u64))) dc1o0), .s (.v (.int .i64) (2 : Int))] (.s (.v .bool true)) [.box (.pr (.sl (.int .u8)) (.pr (.int .i64) (.int .u64))) dc2o0])
    (h4 : sizeOK (List.length xo7 + List.length ([(IntKind.wrap .i64 (0 - (IntKind.wrap .i64 ((1 : Int) + dc1))))] : List Int)))
    {e : AEx} {st : St} (next : LoopSC cfg.P 3 (lb P_spec_l1Cur_sureWord 0) (spec_l1Cur_sureWord_L0a x2 (IntKind.wrap .i64 (x8 - (1 : Int))) dc2o0 (xo7 ++ ([(IntKind.wrap .i64 (0 - (IntKind.wrap .i64 ((1 : Int) + dc1))))] : List Int))) e st) :
    LoopSC cfg.P 3 (lb P_spec_l1Cur_sureWord 0) (spec_l1Cur_sureWord_L0a x2 x8 xo0 xo7) e st :=
  loop_iter cfgOK (f := i_spec_l1Cur_sureWord) (its := [.bool true, .res (.s (.v (.int .i64) dc1)) [.box (.pr (.sl (.int .u8)) (.pr (.int .i64) (.int .u64))) dc1o0] [] [], .res (.s (.v .bool true)) [.box (.pr (.sl (.int .u8)) (.pr (.int .i64) (.int .u64))) dc2o0] [] []])
    (ps := [decide (x8 > (0 : Int)) = true,
      SC cfg.P i_spec_l1Cur_pick [.s (.mbx (.pr (.sl (.int .u8)) (.pr (.int .i64) (.int .u64))) xo0), .s (.v (.int .i64) x2)] (.s (.v (.int .i64) dc1)) [.box (.pr (.sl (.int .u8)) (.pr (.int .i64) (.int .u64))) dc1o0],
      SC cfg.P i_spec_l1Cur_one [.s (.mbx (.pr (.sl (.int .u8)) (.pr (.int .i64) (.int .u64))) dc1o0), .s (.v (.int .i64) (2 : Int))] (.s (.v .bool true)) [.box (.pr (.sl (.int .u8)) (.pr (.int .i64) (.int .u64))) dc2o0],
      sizeOK (List.length xo7 + List.length ([(IntKind.wrap .i64 (0 - (IntKind.wrap .i64 ((1 : Int) + dc1))))] : List Int))]) (st1 := spec_l1Cur_sureWord_L0a x2 (IntKind.wrap .i64 (x8 - (1 : Int))) dc2o0 (xo7 ++ ([(IntKind.wrap .i64 (0 - (IntKind.wrap .i64 ((1 : Int) + dc1))))] : List Int))) (by kernel_rfl) ⟨(decide_eq_true h1), h2, h3, h4, trivial⟩ next

theorem spec_l1Cur_sureWord_L0a_i2 (x2 : Int) (x8 : Int) (xo0 : ((List Int) × (Int × Int))) (xo7 : (List Int)) (dc1 : Int) (dc1o0 : ((List Int) × (Int × Int))) (dc2o0 : ((List Int) × (Int × Int)))
    (h1 : x8 > (0 : Int))
    (h2 : SC cfg.P i_spec_l1Cur_pick [.s (.mbx (.pr (.sl (.int .u8)) (.pr (.int .i64) (.int .u64))) xo0), .s (.v (.int .i64) x2)] (.s (.v (.int .i64) dc1)) [.box (.pr (.sl (.int .u8)) (.pr (.int .i64) (.int .u64))) dc1o0])
    (h3 : SC cfg.P i_spec_l1Cur_one [.s (.mbx (.pr (.sl (.int .u8)) (.pr (.int .i64) (.int .u64))) dc1o0), .s (.v (.int .i64) (2 : Int))] (.s (.v .bool false)) [.box (.pr (.sl (.int .u8)) (.pr (.int .i64) (.int .u64))) dc2o0])
    (h4 : sizeOK (List.length xo7 + List.length ([(IntKind.wrap .i64 ((1 : Int) + dc1))] : List Int)))
    {e : AEx} {st : St} (next : LoopSC cfg.P 3 (lb P_spec_l1Cur_sureWord 0) (spec_l1Cur_sureWord_L0a x2 (IntKind.wrap .i64 (x8 - (1 : Int))) dc2o0 (xo7 ++ ([(IntKind.wrap .i64 ((1 : Int) + dc1))] : List Int))) e st) :
    LoopSC cfg.P 3 (lb P_spec_l1Cur_sureWord 0) (spec_l1Cur_sureWord_L0a x2 x8 xo0 xo7) e st :=
  loop_iter cfgOK (f := i_spec_l1Cur_sureWord) (its := [.bool true, .res (.s (.v (.int .i64) dc1)) [.box (.pr (.sl (.int .u8)) (.pr (.int .i64) (.int .u64))) dc1o0] [] [], .res (.s (.v .bool false)) [.box (.pr (.sl (.int .u8)) (.pr (.int .i64) (.int .u64))) dc2o0] [] []])
    (ps := [decide (x8 > (0 : Int)) = true,
      SC cfg.P i_spec_l1Cur_pick [.s (.mbx (.pr (.sl (.int .u8)) (.pr (.int .i64) (.int .u64))) xo0), .s (.v (.int .i64) x2)] (.s (.v (.int .i64) dc1)) [.box (.pr (.sl (.int .u8)) (.pr (.int .i64) (.int .u64))) dc1o0],
      SC cfg.P i_spec_l1Cur_one [.s (.mbx (.pr (.sl (.int .u8)) (.pr (.int .i64) (.int .u64))) dc1o0), .s (.v (.int .i64) (2 : Int))] (.s (.v .bool false)) [.box (.pr (.sl (.int .u8)) (.pr (.int .i64) (.int .u64))) dc2o0],
      sizeOK (List.length xo7 + List.length ([(IntKind.wrap .i64 ((1 : Int) + dc1))] : List Int))]) (st1 := spec_l1Cur_sureWord_L0a x2 (IntKind.wrap .i64 (x8 - (1 : Int))) dc2o0 (xo7 ++ ([(IntKind.wrap .i64 ((1 : Int) + dc1))] : List Int))) (by kernel_rfl) ⟨(decide_eq_true h1), h2, h3, h4, trivial⟩ next

theorem spec_l1Cur_sureWord_L0a_x3 (x2 : Int) (x8 : Int) (xo0 : ((List Int) × (Int × Int))) (xo7 : (List Int))
    (h1 : ¬ (x8 > (0 : Int))) :
    LoopSC cfg.P 3 (lb P_spec_l1Cur_sureWord 0) (spec_l1Cur_sureWord_L0a x2 x8 xo0 xo7) (.exit 0) (spec_l1Cur_sureWord_L0X1 x2 x8 false xo0 xo7) :=
  loop_out cfgOK (f := i_spec_l1Cur_sureWord) (its := [.bool false])
    (ps := [decide (x8 > (0 : Int)) = false]) (by kernel_rfl) ⟨(decide_eq_false h1), trivial⟩ (fun h => by cases h)

theorem spec_l1Cur_sureWord_p1 (a0 : ((List Int) × (Int × Int))) (a1 : Int) (a2 : Int) (c1 : Int) (c1o0 : ((List Int) × (Int × Int))) (k1y2 : Int) (k1y8 : Int) (k1y15 : Bool) (k1yo0 : ((List Int) × (Int × Int))) (k1yo7 : (List Int))
    (h1 : SC cfg.P i_spec_l1Cur_pick [.s (.mbx (.pr (.sl (.int .u8)) (.pr (.int .i64) (.int .u64))) a0), .s (.v (.int .i64) (IntKind.wrap .i64 (a1 + (1 : Int))))] (.s (.v (.int .i64) c1)) [.box (.pr (.sl (.int .u8)) (.pr (.int .i64) (.int .u64))) c1o0])
    (h2 : LoopSC cfg.P 3 (lb P_spec_l1Cur_sureWord 0) (spec_l1Cur_sureWord_L0a a2 c1 c1o0 ([] : List Int)) (.exit 0) (spec_l1Cur_sureWord_L0X1 k1y2 k1y8 k1y15 k1yo0 k1yo7)) :
    SC cfg.P i_spec_l1Cur_sureWord [.s (.mbx (.pr (.sl (.int .u8)) (.pr (.int .i64) (.int .u64))) a0), .s (.v (.int .i64) a1), .s (.v (.int .i64) a2)] (.s (.own t_int (.int .i64) k1yo7)) [.box (.pr (.sl (.int .u8)) (.pr (.int .i64) (.int .u64))) k1yo0] :=
  SC_of_run cfgOK (its := [.res (.s (.v (.int .i64) c1)) [.box (.pr (.sl (.int .u8)) (.pr (.int .i64) (.int .u64))) c1o0] [] [], .loop (fun _ => (.exit 0, spec_l1Cur_sureWord_L0X1 k1y2 k1y8 k1y15 k1yo0 k1yo7))])
    (ps := [SC cfg.P i_spec_l1Cur_pick [.s (.mbx (.pr (.sl (.int .u8)) (.pr (.int .i64) (.int .u64))) a0), .s (.v (.int .i64) (IntKind.wrap .i64 (a1 + (1 : Int))))] (.s (.v (.int .i64) c1)) [.box (.pr (.sl (.int .u8)) (.pr (.int .i64) (.int .u64))) c1o0],
      LoopSC cfg.P 3 (lb P_spec_l1Cur_sureWord 0) (spec_l1Cur_sureWord_L0a a2 c1 c1o0 ([] : List Int)) (.exit 0) (spec_l1Cur_sureWord_L0X1 k1y2 k1y8 k1y15 k1yo0 k1yo7)]) (by kernel_rfl) ⟨h1, h2, trivial⟩ get_spec_l1Cur_sureWord (by decide)

/-! ### spec_l1Cur_among -/


theorem spec_l1Cur_among_p1 (a0 : ((List Int) × (Int × Int))) (a1 : (List Int)) (c1 : Int) (c1o0 : ((List Int) × (Int × Int)))
    (h1 : SC cfg.P i_spec_l1Cur_pick [.s (.mbx (.pr (.sl (.int .u8)) (.pr (.int .i64) (.int .u64))) a0), .s (.v (.int .i64) ((List.length a1 : Nat) : Int))] (.s (.v (.int .i64) c1)) [.box (.pr (.sl (.int .u8)) (.pr (.int .i64) (.int .u64))) c1o0])
    (h2 : 0 ≤ c1)
    (h3 : c1 < (List.length a1 : Int)) :
    SC cfg.P i_spec_l1Cur_among [.s (.mbx (.pr (.sl (.int .u8)) (.pr (.int .i64) (.int .u64))) a0), .s (.v (.sl (.int .i64)) a1)] (.s (.v (.int .i64) (List.getD a1 (c1).toNat (0 : Int)))) [.box (.pr (.sl (.int .u8)) (.pr (.int .i64) (.int .u64))) c1o0] :=
  SC_of_run cfgOK (its := [.res (.s (.v (.int .i64) c1)) [.box (.pr (.sl (.int .u8)) (.pr (.int .i64) (.int .u64))) c1o0] [] []])
    (ps := [SC cfg.P i_spec_l1Cur_pick [.s (.mbx (.pr (.sl (.int .u8)) (.pr (.int .i64) (.int .u64))) a0), .s (.v (.int .i64) ((List.length a1 : Nat) : Int))] (.s (.v (.int .i64) c1)) [.box (.pr (.sl (.int .u8)) (.pr (.int .i64) (.int .u64))) c1o0],
      0 ≤ c1,
      c1 < (List.length a1 : Int)]) (by kernel_rfl) ⟨h1, h2, h3, trivial⟩ get_spec_l1Cur_among (by decide)

/-! ### spec_l1Cur_pick -/


theorem spec_l1Cur_pick_p1 (a0 : ((List Int) × (Int × Int))) (a1 : Int)
    (h1 : a1 ≤ (1 : Int)) :
    SC cfg.P i_spec_l1Cur_pick [.s (.mbx (.pr (.sl (.int .u8)) (.pr (.int .i64) (.int .u64))) a0), .s (.v (.int .i64) a1)] (.s (.v (.int .i64) (0 : Int))) [.box (.pr (.sl (.int .u8)) (.pr (.int .i64) (.int .u64))) a0] :=
  SC_of_run cfgOK (its := [.bool true])
    (ps := [decide (a1 ≤ (1 : Int)) = true]) (by kernel_rfl) ⟨(decide_eq_true h1), trivial⟩ get_spec_l1Cur_pick (by decide)

theorem spec_l1Cur_pick_p2 (a0 : ((List Int) × (Int × Int))) (a1 : Int) (c1 : Int) (c1o0 : ((List Int) × (Int × Int))) (c2 : Int) (c2o0 : ((List Int) × (Int × Int)))
    (h1 : ¬ (a1 ≤ (1 : Int)))
    (h2 : SC cfg.P i_spec_l1Cur_next [.s (.mbx (.pr (.sl (.int .u8)) (.pr (.int .i64) (.int .u64))) a0)] (.s (.v (.int .i64) c1)) [.box (.pr (.sl (.int .u8)) (.pr (.int .i64) (.int .u64))) c1o0])
    (h3 : a1 > (200 : Int))
    (h4 : SC cfg.P i_spec_l1Cur_next [.s (.mbx (.pr (.sl (.int .u8)) (.pr (.int .i64) (.int .u64))) c1o0)] (.s (.v (.int .i64) c2)) [.box (.pr (.sl (.int .u8)) (.pr (.int .i64) (.int .u64))) c2o0])
    (h5 : a1 ≠ 0) :
    SC cfg.P i_spec_l1Cur_pick [.s (.mbx (.pr (.sl (.int .u8)) (.pr (.int .i64) (.int .u64))) a0), .s (.v (.int .i64) a1)] (.s (.v (.int .i64) (Int.tmod (IntKind.wrap .i64 ((IntKind.wrap .i64 (c1 * (256 : Int))) + c2)) a1))) [.box (.pr (.sl (.int .u8)) (.pr (.int .i64) (.int .u64))) c2o0] :=
  SC_of_run cfgOK (its := [.bool false, .res (.s (.v (.int .i64) c1)) [.box (.pr (.sl (.int .u8)) (.pr (.int .i64) (.int .u64))) c1o0] [] [], .bool true, .res (.s (.v (.int .i64) c2)) [.box (.pr (.sl (.int .u8)) (.pr (.int .i64) (.int .u64))) c2o0] [] []])
    (ps := [decide (a1 ≤ (1 : Int)) = false,
      SC cfg.P i_spec_l1Cur_next [.s (.mbx (.pr (.sl (.int .u8)) (.pr (.int .i64) (.int .u64))) a0)] (.s (.v (.int .i64) c1)) [.box (.pr (.sl (.int .u8)) (.pr (.int .i64) (.int .u64))) c1o0],
      decide (a1 > (200 : Int)) = true,
      SC cfg.P i_spec_l1Cur_next [.s (.mbx (.pr (.sl (.int .u8)) (.pr (.int .i64) (.int .u64))) c1o0)] (.s (.v (.int .i64) c2)) [.box (.pr (.sl (.int .u8)) (.pr (.int .i64) (.int .u64))) c2o0],
      a1 ≠ 0]) (by kernel_rfl) ⟨(decide_eq_false h1), h2, (decide_eq_true h3), h4, h5, trivial⟩ get_spec_l1Cur_pick (by decide)

theorem spec_l1Cur_pick_p3 (a0 : ((List Int) × (Int × Int))) (a1 : Int) (c1 : Int) (c1o0 : ((List Int) × (Int × Int)))
    (h1 : ¬ (a1 ≤ (1 : Int)))
    (h2 : SC cfg.P i_spec_l1Cur_next [.s (.mbx (.pr (.sl (.int .u8)) (.pr (.int .i64) (.int .u64))) a0)] (.s (.v (.int .i64) c1)) [.box (.pr (.sl (.int .u8)) (.pr (.int .i64) (.int .u64))) c1o0])
    (h3 : ¬ (a1 > (200 : Int)))
    (h4 : a1 ≠ 0) :
    SC cfg.P i_spec_l1Cur_pick [.s (.mbx (.pr (.sl (.int .u8)) (.pr (.int .i64) (.int .u64))) a0), .s (.v (.int .i64) a1)] (.s (.v (.int .i64) (Int.tmod c1 a1))) [.box (.pr (.sl (.int .u8)) (.pr (.int .i64) (.int .u64))) c1o0] :=
  SC_of_run cfgOK (its := [.bool false, .res (.s (.v (.int .i64) c1)) [.box (.pr (.sl (.int .u8)) (.pr (.int .i64) (.int .u64))) c1o0] [] [], .bool false])
    (ps := [decide (a1 ≤ (1 : Int)) = false,
      SC cfg.P i_spec_l1Cur_next [.s (.mbx (.pr (.sl (.int .u8)) (.pr (.int .i64) (.int .u64))) a0)] (.s (.v (.int .i64) c1)) [.box (.pr (.sl (.int .u8)) (.pr (.int .i64) (.int .u64))) c1o0],
      decide (a1 > (200 : Int)) = false,
      a1 ≠ 0]) (by kernel_rfl) ⟨(decide_eq_false h1), h2, (decide_eq_false h3), h4, trivial⟩ get_spec_l1Cur_pick (by decide)

/-! ### spec_l1Cur_next -/


theorem spec_l1Cur_next_p1 (a0 : ((List Int) × (Int × Int)))
    (h1 : a0.2.1 < ((List.length a0.1 : Nat) : Int))
    (h2 : 0 ≤ a0.2.1)
    (h3 : a0.2.1 < (List.length a0.1 : Int))
    (h4 : (IntKind.wrap .i64 (a0.2.1 + (1 : Int))) ≤ ((List.length a0.1 : Nat) : Int)) :
    SC cfg.P i_spec_l1Cur_next [.s (.mbx (.pr (.sl (.int .u8)) (.pr (.int .i64) (.int .u64))) a0)] (.s (.v (.int .i64) (IntKind.wrap .i64 (List.getD a0.1 (a0.2.1).toNat (0 : Int))))) [.box (.pr (.sl (.int .u8)) (.pr (.int .i64) (.int .u64))) (a0.1, ((IntKind.wrap .i64 (a0.2.1 + (1 : Int))), (IntKind.wrap .u64 ((IntKind.wrap .u64 ((IntKind.wrap .u64 (a0.2.2 * (6364136223846793005 : Int))) + (IntKind.wrap .u64 (IntKind.wrap .i64 (List.getD a0.1 (a0.2.1).toNat (0 : Int)))))) + (1442695040888963407 : Int)))))] :=
  SC_of_run cfgOK (its := [.bool true, .bool true])
    (ps := [decide (a0.2.1 < ((List.length a0.1 : Nat) : Int)) = true,
      0 ≤ a0.2.1,
      a0.2.1 < (List.length a0.1 : Int),
      decide ((IntKind.wrap .i64 (a0.2.1 + (1 : Int))) ≤ ((List.length a0.1 : Nat) : Int)) = true]) (by kernel_rfl) ⟨(decide_eq_true h1), h2, h3, (decide_eq_true h4), trivial⟩ get_spec_l1Cur_next (by decide)

theorem spec_l1Cur_next_p2 (a0 : ((List Int) × (Int × Int)))
    (h1 : a0.2.1 < ((List.length a0.1 : Nat) : Int))
    (h2 : 0 ≤ a0.2.1)
    (h3 : a0.2.1 < (List.length a0.1 : Int))
    (h4 : ¬ ((IntKind.wrap .i64 (a0.2.1 + (1 : Int))) ≤ ((List.length a0.1 : Nat) : Int))) :
    SC cfg.P i_spec_l1Cur_next [.s (.mbx (.pr (.sl (.int .u8)) (.pr (.int .i64) (.int .u64))) a0)] (.s (.v (.int .i64) (IntKind.wrap .i64 (IntKind.wrap .u64 ((BitVec.ofInt (IntKind.bits .u64) (Int.fdiv (IntKind.wrap .u64 ((IntKind.wrap .u64 ((IntKind.wrap .u64 (a0.2.2 * (6364136223846793005 : Int))) + (IntKind.wrap .u64 (IntKind.wrap .i64 (List.getD a0.1 (a0.2.1).toNat (0 : Int)))))) + (1442695040888963407 : Int))) (2 ^ (min ((40 : Int)).toNat (IntKind.bits .u64)))) &&& BitVec.ofInt (IntKind.bits .u64) (255 : Int)).toNat))))) [.box (.pr (.sl (.int .u8)) (.pr (.int .i64) (.int .u64))) (a0.1, ((IntKind.wrap .i64 (a0.2.1 + (1 : Int))), (IntKind.wrap .u64 ((IntKind.wrap .u64 ((IntKind.wrap .u64 (a0.2.2 * (6364136223846793005 : Int))) + (IntKind.wrap .u64 (IntKind.wrap .i64 (List.getD a0.1 (a0.2.1).toNat (0 : Int)))))) + (1442695040888963407 : Int)))))] :=
  SC_of_run cfgOK (its := [.bool true, .bool false])
    (ps := [decide (a0.2.1 < ((List.length a0.1 : Nat) : Int)) = true,
      0 ≤ a0.2.1,
      a0.2.1 < (List.length a0.1 : Int),
      decide ((IntKind.wrap .i64 (a0.2.1 + (1 : Int))) ≤ ((List.length a0.1 : Nat) : Int)) = false,
      0 ≤ (40 : Int)]) (by kernel_rfl) ⟨(decide_eq_true h1), h2, h3, (decide_eq_false h4), (by decide), trivial⟩ get_spec_l1Cur_next (by decide)

theorem spec_l1Cur_next_p3 (a0 : ((List Int) × (Int × Int)))
    (h1 : ¬ (a0.2.1 < ((List.length a0.1 : Nat) : Int)))
    (h2 : (IntKind.wrap .i64 (a0.2.1 + (1 : Int))) ≤ ((List.length a0.1 : Nat) : Int)) :
    SC cfg.P i_spec_l1Cur_next [.s (.mbx (.pr (.sl (.int .u8)) (.pr (.int .i64) (.int .u64))) a0)] (.s (.v (.int .i64) (0 : Int))) [.box (.pr (.sl (.int .u8)) (.pr (.int .i64) (.int .u64))) (a0.1, ((IntKind.wrap .i64 (a0.2.1 + (1 : Int))), (IntKind.wrap .u64 ((IntKind.wrap .u64 ((IntKind.wrap .u64 (a0.2.2 * (6364136223846793005 : Int))) + (IntKind.wrap .u64 (0 : Int)))) + (1442695040888963407 : Int)))))] :=
  SC_of_run cfgOK (its := [.bool false, .bool true])
    (ps := [decide (a0.2.1 < ((List.length a0.1 : Nat) : Int)) = false,
      decide ((IntKind.wrap .i64 (a0.2.1 + (1 : Int))) ≤ ((List.length a0.1 : Nat) : Int)) = true]) (by kernel_rfl) ⟨(decide_eq_false h1), (decide_eq_true h2), trivial⟩ get_spec_l1Cur_next (by decide)

theorem spec_l1Cur_next_p4 (a0 : ((List Int) × (Int × Int)))
    (h1 : ¬ (a0.2.1 < ((List.length a0.1 : Nat) : Int)))
    (h2 : ¬ ((IntKind.wrap .i64 (a0.2.1 + (1 : Int))) ≤ ((List.length a0.1 : Nat) : Int))) :
    SC cfg.P i_spec_l1Cur_next [.s (.mbx (.pr (.sl (.int .u8)) (.pr (.int .i64) (.int .u64))) a0)] (.s (.v (.int .i64) (IntKind.wrap .i64 (IntKind.wrap .u64 ((BitVec.ofInt (IntKind.bits .u64) (Int.fdiv (IntKind.wrap .u64 ((IntKind.wrap .u64 ((IntKind.wrap .u64 (a0.2.2 * (6364136223846793005 : Int))) + (IntKind.wrap .u64 (0 : Int)))) + (1442695040888963407 : Int))) (2 ^ (min ((40 : Int)).toNat (IntKind.bits .u64)))) &&& BitVec.ofInt (IntKind.bits .u64) (255 : Int)).toNat))))) [.box (.pr (.sl (.int .u8)) (.pr (.int .i64) (.int .u64))) (a0.1, ((IntKind.wrap .i64 (a0.2.1 + (1 : Int))), (IntKind.wrap .u64 ((IntKind.wrap .u64 ((IntKind.wrap .u64 (a0.2.2 * (6364136223846793005 : Int))) + (IntKind.wrap .u64 (0 : Int)))) + (1442695040888963407 : Int)))))] :=
  SC_of_run cfgOK (its := [.bool false, .bool false])
    (ps := [decide (a0.2.1 < ((List.length a0.1 : Nat) : Int)) = false,
      decide ((IntKind.wrap .i64 (a0.2.1 + (1 : Int))) ≤ ((List.length a0.1 : Nat) : Int)) = false,
      0 ≤ (40 : Int)]) (by kernel_rfl) ⟨(decide_eq_false h1), (decide_eq_false h2), (by decide), trivial⟩ get_spec_l1Cur_next (by decide)

end Go.AI
