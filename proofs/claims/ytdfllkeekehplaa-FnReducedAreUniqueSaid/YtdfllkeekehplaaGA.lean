/- A part of the road: what it proves stands in its last texts. -/
import Derived.Test.YtdfllkeekehplaaSIds
import Derived.Test.YtdfllkeekehplaaProg
set_option autoImplicit false
set_option maxRecDepth 100000
set_option linter.unusedVariables false
namespace Go.AI
open Go.Proofs

/-! ### laws_FnKindsOfCarets -/


def laws_FnKindsOfCarets_L0a (x1 : (List Int)) (x5 : ByteArray) (x12 : Int) (x76 : Int) (x77 : Int) (xo34 : (List ByteArray)) : St := mkSt 202 [(1, .s (.v (.sl (.int .u8)) x1)), (5, .s (.v .str x5)), (6, .s (.osl 34 0)), (12, .s (.v (.int .i64) x12)), (75, .s (.osl 34 0)), (76, .s (.v (.int .i64) x76)), (77, .s (.v (.int .i64) x77))] [(34, .row t_string .str xo34 0 false)]

def laws_FnKindsOfCarets_L0X1 (y4 : Bool) : St := mkSt 202 [(4, .s (.v .bool y4))] []

def laws_FnKindsOfCarets_L0X2 (y1 : (List Int)) (y5 : ByteArray) (y12 : Int) (y76 : Int) (y77 : Int) (y78 : Bool) (yo34 : (List ByteArray)) : St := mkSt 202 [(1, .s (.v (.sl (.int .u8)) y1)), (5, .s (.v .str y5)), (6, .s (.osl 34 0)), (12, .s (.v (.int .i64) y12)), (75, .s (.osl 34 0)), (76, .s (.v (.int .i64) y76)), (77, .s (.v (.int .i64) y77)), (78, .s (.v .bool y78))] [(34, .row t_string .str yo34 0 false)]

theorem laws_FnKindsOfCarets_L0a_i9 (x1 : (List Int)) (x5 : ByteArray) (x12 : Int) (x76 : Int) (x77 : Int) (xo34 : (List ByteArray)) (dc1a : Int)
    (h1 : x77 < x76)
    (h2 : 0 ≤ x77)
    (h3 : x77 < (List.length xo34 : Int))
    (h4 : (x77).toNat < List.length xo34)
    (h5 : x77 > (0 : Int))
    (h6 : (List.getD xo34 (x77).toNat (⟨#[]⟩ : ByteArray)) ≠ (⟨#[76, 48]⟩ : ByteArray))
    (h7 : (List.getD xo34 (x77).toNat (⟨#[]⟩ : ByteArray)) = (⟨#[82, 48]⟩ : ByteArray))
    (h8 : (IntKind.wrap .i64 (x77 + (1 : Int))) < ((List.length xo34 : Nat) : Int))
    (h9 : 0 ≤ (IntKind.wrap .i64 (x77 + (1 : Int))))
    (h10 : (IntKind.wrap .i64 (x77 + (1 : Int))) < (List.length xo34 : Int))
    (h11 : ((IntKind.wrap .i64 (x77 + (1 : Int)))).toNat < List.length xo34)
    (h12 : (List.getD xo34 ((IntKind.wrap .i64 (x77 + (1 : Int)))).toNat (⟨#[]⟩ : ByteArray)) = (⟨#[82, 48]⟩ : ByteArray))
    (h13 : (List.getD xo34 (x77).toNat (⟨#[]⟩ : ByteArray)) ≠ (⟨#[82, 73]⟩ : ByteArray))
    (h14 : SC cfg.P i_impl_KindLength [.s (.v .str (List.getD xo34 (x77).toNat (⟨#[]⟩ : ByteArray))), .s (.v .str (List.getD xo34 (x77).toNat (⟨#[]⟩ : ByteArray)))] (.tup [.v (.int .i64) dc1a, .v .bool true]) [])
    {e : AEx} {st : St} (next : LoopSC cfg.P 2 (lb P_laws_FnKindsOfCarets 0) (laws_FnKindsOfCarets_L0a x1 x5 (IntKind.wrap .i64 (x12 + dc1a)) x76 (IntKind.wrap .i64 (x77 + (1 : Int))) xo34) e st) :
    LoopSC cfg.P 2 (lb P_laws_FnKindsOfCarets 0) (laws_FnKindsOfCarets_L0a x1 x5 x12 x76 x77 xo34) e st :=
  loop_iter cfgOK (f := i_laws_FnKindsOfCarets) (its := [.bool true, .bool true, .bool false, .bool true, .bool true, .bool false, .bool false, .res (.tup [.v (.int .i64) dc1a, .v .bool true]) [] [] []])
    (ps := [decide (x77 < x76) = true,
      0 ≤ x77,
      x77 < (List.length xo34 : Int),
      (x77).toNat < List.length xo34,
      decide (x77 > (0 : Int)) = true,
      (((List.getD xo34 (x77).toNat (⟨#[]⟩ : ByteArray))).toList == ((⟨#[76, 48]⟩ : ByteArray)).toList) = false,
      (((List.getD xo34 (x77).toNat (⟨#[]⟩ : ByteArray))).toList == ((⟨#[82, 48]⟩ : ByteArray)).toList) = true,
      decide ((IntKind.wrap .i64 (x77 + (1 : Int))) < ((List.length xo34 : Nat) : Int)) = true,
      0 ≤ (IntKind.wrap .i64 (x77 + (1 : Int))),
      (IntKind.wrap .i64 (x77 + (1 : Int))) < (List.length xo34 : Int),
      ((IntKind.wrap .i64 (x77 + (1 : Int)))).toNat < List.length xo34,
      (!(((List.getD xo34 ((IntKind.wrap .i64 (x77 + (1 : Int)))).toNat (⟨#[]⟩ : ByteArray))).toList == ((⟨#[82, 48]⟩ : ByteArray)).toList)) = false,
      (((List.getD xo34 (x77).toNat (⟨#[]⟩ : ByteArray))).toList == ((⟨#[82, 73]⟩ : ByteArray)).toList) = false,
      SC cfg.P i_impl_KindLength [.s (.v .str (List.getD xo34 (x77).toNat (⟨#[]⟩ : ByteArray))), .s (.v .str (List.getD xo34 (x77).toNat (⟨#[]⟩ : ByteArray)))] (.tup [.v (.int .i64) dc1a, .v .bool true]) []]) (st1 := laws_FnKindsOfCarets_L0a x1 x5 (IntKind.wrap .i64 (x12 + dc1a)) x76 (IntKind.wrap .i64 (x77 + (1 : Int))) xo34) (by kernel_rfl) ⟨(decide_eq_true h1), h2, h3, h4, (decide_eq_true h5), (seq_f h6), (seq_t h7), (decide_eq_true h8), h9, h10, h11, (nseq_f h12), (seq_f h13), h14, trivial⟩ next

theorem laws_FnKindsOfCarets_L0a_i17 (x1 : (List Int)) (x5 : ByteArray) (x12 : Int) (x76 : Int) (x77 : Int) (xo34 : (List ByteArray)) (dc1a : Int)
    (h1 : x77 < x76)
    (h2 : 0 ≤ x77)
    (h3 : x77 < (List.length xo34 : Int))
    (h4 : (x77).toNat < List.length xo34)
    (h5 : x77 > (0 : Int))
    (h6 : (List.getD xo34 (x77).toNat (⟨#[]⟩ : ByteArray)) ≠ (⟨#[76, 48]⟩ : ByteArray))
    (h7 : (List.getD xo34 (x77).toNat (⟨#[]⟩ : ByteArray)) = (⟨#[82, 48]⟩ : ByteArray))
    (h8 : ¬ ((IntKind.wrap .i64 (x77 + (1 : Int))) < ((List.length xo34 : Nat) : Int)))
    (h9 : (List.getD xo34 (x77).toNat (⟨#[]⟩ : ByteArray)) ≠ (⟨#[82, 73]⟩ : ByteArray))
    (h10 : SC cfg.P i_impl_KindLength [.s (.v .str (List.getD xo34 (x77).toNat (⟨#[]⟩ : ByteArray))), .s (.v .str (List.getD xo34 (x77).toNat (⟨#[]⟩ : ByteArray)))] (.tup [.v (.int .i64) dc1a, .v .bool true]) [])
    {e : AEx} {st : St} (next : LoopSC cfg.P 2 (lb P_laws_FnKindsOfCarets 0) (laws_FnKindsOfCarets_L0a x1 x5 (IntKind.wrap .i64 (x12 + dc1a)) x76 (IntKind.wrap .i64 (x77 + (1 : Int))) xo34) e st) :
    LoopSC cfg.P 2 (lb P_laws_FnKindsOfCarets 0) (laws_FnKindsOfCarets_L0a x1 x5 x12 x76 x77 xo34) e st :=
  loop_iter cfgOK (f := i_laws_FnKindsOfCarets) (its := [.bool true, .bool true, .bool false, .bool true, .bool false, .bool false, .res (.tup [.v (.int .i64) dc1a, .v .bool true]) [] [] []])
    (ps := [decide (x77 < x76) = true,
      0 ≤ x77,
      x77 < (List.length xo34 : Int),
      (x77).toNat < List.length xo34,
      decide (x77 > (0 : Int)) = true,
      (((List.getD xo34 (x77).toNat (⟨#[]⟩ : ByteArray))).toList == ((⟨#[76, 48]⟩ : ByteArray)).toList) = false,
      (((List.getD xo34 (x77).toNat (⟨#[]⟩ : ByteArray))).toList == ((⟨#[82, 48]⟩ : ByteArray)).toList) = true,
      decide ((IntKind.wrap .i64 (x77 + (1 : Int))) < ((List.length xo34 : Nat) : Int)) = false,
      (((List.getD xo34 (x77).toNat (⟨#[]⟩ : ByteArray))).toList == ((⟨#[82, 73]⟩ : ByteArray)).toList) = false,
      SC cfg.P i_impl_KindLength [.s (.v .str (List.getD xo34 (x77).toNat (⟨#[]⟩ : ByteArray))), .s (.v .str (List.getD xo34 (x77).toNat (⟨#[]⟩ : ByteArray)))] (.tup [.v (.int .i64) dc1a, .v .bool true]) []]) (st1 := laws_FnKindsOfCarets_L0a x1 x5 (IntKind.wrap .i64 (x12 + dc1a)) x76 (IntKind.wrap .i64 (x77 + (1 : Int))) xo34) (by kernel_rfl) ⟨(decide_eq_true h1), h2, h3, h4, (decide_eq_true h5), (seq_f h6), (seq_t h7), (decide_eq_false h8), (seq_f h9), h10, trivial⟩ next

theorem laws_FnKindsOfCarets_L0a_i21 (x1 : (List Int)) (x5 : ByteArray) (x12 : Int) (x76 : Int) (x77 : Int) (xo34 : (List ByteArray)) (dc1a : Int)
    (h1 : x77 < x76)
    (h2 : 0 ≤ x77)
    (h3 : x77 < (List.length xo34 : Int))
    (h4 : (x77).toNat < List.length xo34)
    (h5 : x77 > (0 : Int))
    (h6 : (List.getD xo34 (x77).toNat (⟨#[]⟩ : ByteArray)) ≠ (⟨#[76, 48]⟩ : ByteArray))
    (h7 : (List.getD xo34 (x77).toNat (⟨#[]⟩ : ByteArray)) ≠ (⟨#[82, 48]⟩ : ByteArray))
    (h8 : (List.getD xo34 (x77).toNat (⟨#[]⟩ : ByteArray)) = (⟨#[82, 73]⟩ : ByteArray))
    (h9 : (IntKind.wrap .i64 (x77 + (1 : Int))) ≠ ((List.length xo34 : Nat) : Int))
    (h10 : 0 ≤ (IntKind.wrap .i64 (x77 + (1 : Int))))
    (h11 : (IntKind.wrap .i64 (x77 + (1 : Int))) < (List.length xo34 : Int))
    (h12 : ((IntKind.wrap .i64 (x77 + (1 : Int)))).toNat < List.length xo34)
    (h13 : (List.getD xo34 ((IntKind.wrap .i64 (x77 + (1 : Int)))).toNat (⟨#[]⟩ : ByteArray)) ≠ (⟨#[73, 48]⟩ : ByteArray))
    (h14 : (List.getD xo34 ((IntKind.wrap .i64 (x77 + (1 : Int)))).toNat (⟨#[]⟩ : ByteArray)) = (⟨#[73, 82]⟩ : ByteArray))
    (h15 : SC cfg.P i_impl_KindLength [.s (.v .str (List.getD xo34 (x77).toNat (⟨#[]⟩ : ByteArray))), .s (.v .str (List.getD xo34 (x77).toNat (⟨#[]⟩ : ByteArray)))] (.tup [.v (.int .i64) dc1a, .v .bool true]) [])
    {e : AEx} {st : St} (next : LoopSC cfg.P 2 (lb P_laws_FnKindsOfCarets 0) (laws_FnKindsOfCarets_L0a x1 x5 (IntKind.wrap .i64 (x12 + dc1a)) x76 (IntKind.wrap .i64 (x77 + (1 : Int))) xo34) e st) :
    LoopSC cfg.P 2 (lb P_laws_FnKindsOfCarets 0) (laws_FnKindsOfCarets_L0a x1 x5 x12 x76 x77 xo34) e st :=
  loop_iter cfgOK (f := i_laws_FnKindsOfCarets) (its := [.bool true, .bool true, .bool false, .bool false, .bool true, .bool false, .bool true, .bool false, .res (.tup [.v (.int .i64) dc1a, .v .bool true]) [] [] []])
    (ps := [decide (x77 < x76) = true,
      0 ≤ x77,
      x77 < (List.length xo34 : Int),
      (x77).toNat < List.length xo34,
      decide (x77 > (0 : Int)) = true,
      (((List.getD xo34 (x77).toNat (⟨#[]⟩ : ByteArray))).toList == ((⟨#[76, 48]⟩ : ByteArray)).toList) = false,
      (((List.getD xo34 (x77).toNat (⟨#[]⟩ : ByteArray))).toList == ((⟨#[82, 48]⟩ : ByteArray)).toList) = false,
      (((List.getD xo34 (x77).toNat (⟨#[]⟩ : ByteArray))).toList == ((⟨#[82, 73]⟩ : ByteArray)).toList) = true,
      ((IntKind.wrap .i64 (x77 + (1 : Int))) == ((List.length xo34 : Nat) : Int)) = false,
      0 ≤ (IntKind.wrap .i64 (x77 + (1 : Int))),
      (IntKind.wrap .i64 (x77 + (1 : Int))) < (List.length xo34 : Int),
      ((IntKind.wrap .i64 (x77 + (1 : Int)))).toNat < List.length xo34,
      (!(((List.getD xo34 ((IntKind.wrap .i64 (x77 + (1 : Int)))).toNat (⟨#[]⟩ : ByteArray))).toList == ((⟨#[73, 48]⟩ : ByteArray)).toList)) = true,
      0 ≤ (IntKind.wrap .i64 (x77 + (1 : Int))),
      (IntKind.wrap .i64 (x77 + (1 : Int))) < (List.length xo34 : Int),
      ((IntKind.wrap .i64 (x77 + (1 : Int)))).toNat < List.length xo34,
      (!(((List.getD xo34 ((IntKind.wrap .i64 (x77 + (1 : Int)))).toNat (⟨#[]⟩ : ByteArray))).toList == ((⟨#[73, 82]⟩ : ByteArray)).toList)) = false,
      SC cfg.P i_impl_KindLength [.s (.v .str (List.getD xo34 (x77).toNat (⟨#[]⟩ : ByteArray))), .s (.v .str (List.getD xo34 (x77).toNat (⟨#[]⟩ : ByteArray)))] (.tup [.v (.int .i64) dc1a, .v .bool true]) []]) (st1 := laws_FnKindsOfCarets_L0a x1 x5 (IntKind.wrap .i64 (x12 + dc1a)) x76 (IntKind.wrap .i64 (x77 + (1 : Int))) xo34) (by kernel_rfl) ⟨(decide_eq_true h1), h2, h3, h4, (decide_eq_true h5), (seq_f h6), (seq_f h7), (seq_t h8), (beq_eq_false_iff_ne.mpr h9), h10, h11, h12, (nseq_t h13), h10, h11, h12, (nseq_f h14), h15, trivial⟩ next

theorem laws_FnKindsOfCarets_L0a_i23 (x1 : (List Int)) (x5 : ByteArray) (x12 : Int) (x76 : Int) (x77 : Int) (xo34 : (List ByteArray)) (dc1a : Int)
    (h1 : x77 < x76)
    (h2 : 0 ≤ x77)
    (h3 : x77 < (List.length xo34 : Int))
    (h4 : (x77).toNat < List.length xo34)
    (h5 : x77 > (0 : Int))
    (h6 : (List.getD xo34 (x77).toNat (⟨#[]⟩ : ByteArray)) ≠ (⟨#[76, 48]⟩ : ByteArray))
    (h7 : (List.getD xo34 (x77).toNat (⟨#[]⟩ : ByteArray)) ≠ (⟨#[82, 48]⟩ : ByteArray))
    (h8 : (List.getD xo34 (x77).toNat (⟨#[]⟩ : ByteArray)) = (⟨#[82, 73]⟩ : ByteArray))
    (h9 : (IntKind.wrap .i64 (x77 + (1 : Int))) ≠ ((List.length xo34 : Nat) : Int))
    (h10 : 0 ≤ (IntKind.wrap .i64 (x77 + (1 : Int))))
    (h11 : (IntKind.wrap .i64 (x77 + (1 : Int))) < (List.length xo34 : Int))
    (h12 : ((IntKind.wrap .i64 (x77 + (1 : Int)))).toNat < List.length xo34)
    (h13 : (List.getD xo34 ((IntKind.wrap .i64 (x77 + (1 : Int)))).toNat (⟨#[]⟩ : ByteArray)) = (⟨#[73, 48]⟩ : ByteArray))
    (h14 : SC cfg.P i_impl_KindLength [.s (.v .str (List.getD xo34 (x77).toNat (⟨#[]⟩ : ByteArray))), .s (.v .str (List.getD xo34 (x77).toNat (⟨#[]⟩ : ByteArray)))] (.tup [.v (.int .i64) dc1a, .v .bool true]) [])
    {e : AEx} {st : St} (next : LoopSC cfg.P 2 (lb P_laws_FnKindsOfCarets 0) (laws_FnKindsOfCarets_L0a x1 x5 (IntKind.wrap .i64 (x12 + dc1a)) x76 (IntKind.wrap .i64 (x77 + (1 : Int))) xo34) e st) :
    LoopSC cfg.P 2 (lb P_laws_FnKindsOfCarets 0) (laws_FnKindsOfCarets_L0a x1 x5 x12 x76 x77 xo34) e st :=
  loop_iter cfgOK (f := i_laws_FnKindsOfCarets) (its := [.bool true, .bool true, .bool false, .bool false, .bool true, .bool false, .bool false, .res (.tup [.v (.int .i64) dc1a, .v .bool true]) [] [] []])
    (ps := [decide (x77 < x76) = true,
      0 ≤ x77,
      x77 < (List.length xo34 : Int),
      (x77).toNat < List.length xo34,
      decide (x77 > (0 : Int)) = true,
      (((List.getD xo34 (x77).toNat (⟨#[]⟩ : ByteArray))).toList == ((⟨#[76, 48]⟩ : ByteArray)).toList) = false,
      (((List.getD xo34 (x77).toNat (⟨#[]⟩ : ByteArray))).toList == ((⟨#[82, 48]⟩ : ByteArray)).toList) = false,
      (((List.getD xo34 (x77).toNat (⟨#[]⟩ : ByteArray))).toList == ((⟨#[82, 73]⟩ : ByteArray)).toList) = true,
      ((IntKind.wrap .i64 (x77 + (1 : Int))) == ((List.length xo34 : Nat) : Int)) = false,
      0 ≤ (IntKind.wrap .i64 (x77 + (1 : Int))),
      (IntKind.wrap .i64 (x77 + (1 : Int))) < (List.length xo34 : Int),
      ((IntKind.wrap .i64 (x77 + (1 : Int)))).toNat < List.length xo34,
      (!(((List.getD xo34 ((IntKind.wrap .i64 (x77 + (1 : Int)))).toNat (⟨#[]⟩ : ByteArray))).toList == ((⟨#[73, 48]⟩ : ByteArray)).toList)) = false,
      SC cfg.P i_impl_KindLength [.s (.v .str (List.getD xo34 (x77).toNat (⟨#[]⟩ : ByteArray))), .s (.v .str (List.getD xo34 (x77).toNat (⟨#[]⟩ : ByteArray)))] (.tup [.v (.int .i64) dc1a, .v .bool true]) []]) (st1 := laws_FnKindsOfCarets_L0a x1 x5 (IntKind.wrap .i64 (x12 + dc1a)) x76 (IntKind.wrap .i64 (x77 + (1 : Int))) xo34) (by kernel_rfl) ⟨(decide_eq_true h1), h2, h3, h4, (decide_eq_true h5), (seq_f h6), (seq_f h7), (seq_t h8), (beq_eq_false_iff_ne.mpr h9), h10, h11, h12, (nseq_f h13), h14, trivial⟩ next

theorem laws_FnKindsOfCarets_L0a_i25 (x1 : (List Int)) (x5 : ByteArray) (x12 : Int) (x76 : Int) (x77 : Int) (xo34 : (List ByteArray)) (dc1a : Int)
    (h1 : x77 < x76)
    (h2 : 0 ≤ x77)
    (h3 : x77 < (List.length xo34 : Int))
    (h4 : (x77).toNat < List.length xo34)
    (h5 : x77 > (0 : Int))
    (h6 : (List.getD xo34 (x77).toNat (⟨#[]⟩ : ByteArray)) ≠ (⟨#[76, 48]⟩ : ByteArray))
    (h7 : (List.getD xo34 (x77).toNat (⟨#[]⟩ : ByteArray)) ≠ (⟨#[82, 48]⟩ : ByteArray))
    (h8 : (List.getD xo34 (x77).toNat (⟨#[]⟩ : ByteArray)) ≠ (⟨#[82, 73]⟩ : ByteArray))
    (h9 : SC cfg.P i_impl_KindLength [.s (.v .str (List.getD xo34 (x77).toNat (⟨#[]⟩ : ByteArray))), .s (.v .str (List.getD xo34 (x77).toNat (⟨#[]⟩ : ByteArray)))] (.tup [.v (.int .i64) dc1a, .v .bool true]) [])
    {e : AEx} {st : St} (next : LoopSC cfg.P 2 (lb P_laws_FnKindsOfCarets 0) (laws_FnKindsOfCarets_L0a x1 x5 (IntKind.wrap .i64 (x12 + dc1a)) x76 (IntKind.wrap .i64 (x77 + (1 : Int))) xo34) e st) :
    LoopSC cfg.P 2 (lb P_laws_FnKindsOfCarets 0) (laws_FnKindsOfCarets_L0a x1 x5 x12 x76 x77 xo34) e st :=
  loop_iter cfgOK (f := i_laws_FnKindsOfCarets) (its := [.bool true, .bool true, .bool false, .bool false, .bool false, .res (.tup [.v (.int .i64) dc1a, .v .bool true]) [] [] []])
    (ps := [decide (x77 < x76) = true,
      0 ≤ x77,
      x77 < (List.length xo34 : Int),
      (x77).toNat < List.length xo34,
      decide (x77 > (0 : Int)) = true,
      (((List.getD xo34 (x77).toNat (⟨#[]⟩ : ByteArray))).toList == ((⟨#[76, 48]⟩ : ByteArray)).toList) = false,
      (((List.getD xo34 (x77).toNat (⟨#[]⟩ : ByteArray))).toList == ((⟨#[82, 48]⟩ : ByteArray)).toList) = false,
      (((List.getD xo34 (x77).toNat (⟨#[]⟩ : ByteArray))).toList == ((⟨#[82, 73]⟩ : ByteArray)).toList) = false,
      SC cfg.P i_impl_KindLength [.s (.v .str (List.getD xo34 (x77).toNat (⟨#[]⟩ : ByteArray))), .s (.v .str (List.getD xo34 (x77).toNat (⟨#[]⟩ : ByteArray)))] (.tup [.v (.int .i64) dc1a, .v .bool true]) []]) (st1 := laws_FnKindsOfCarets_L0a x1 x5 (IntKind.wrap .i64 (x12 + dc1a)) x76 (IntKind.wrap .i64 (x77 + (1 : Int))) xo34) (by kernel_rfl) ⟨(decide_eq_true h1), h2, h3, h4, (decide_eq_true h5), (seq_f h6), (seq_f h7), (seq_f h8), h9, trivial⟩ next

theorem laws_FnKindsOfCarets_L0a_i50 (x1 : (List Int)) (x5 : ByteArray) (x12 : Int) (x76 : Int) (x77 : Int) (xo34 : (List ByteArray)) (dc1a : Int)
    (h1 : x77 < x76)
    (h2 : 0 ≤ x77)
    (h3 : x77 < (List.length xo34 : Int))
    (h4 : (x77).toNat < List.length xo34)
    (h5 : ¬ (x77 > (0 : Int)))
    (h6 : (List.getD xo34 (x77).toNat (⟨#[]⟩ : ByteArray)) ≠ (⟨#[82, 48]⟩ : ByteArray))
    (h7 : (List.getD xo34 (x77).toNat (⟨#[]⟩ : ByteArray)) ≠ (⟨#[82, 73]⟩ : ByteArray))
    (h8 : SC cfg.P i_impl_KindLength [.s (.v .str (List.getD xo34 (x77).toNat (⟨#[]⟩ : ByteArray))), .s (.v .str (List.getD xo34 (x77).toNat (⟨#[]⟩ : ByteArray)))] (.tup [.v (.int .i64) dc1a, .v .bool true]) [])
    {e : AEx} {st : St} (next : LoopSC cfg.P 2 (lb P_laws_FnKindsOfCarets 0) (laws_FnKindsOfCarets_L0a x1 x5 (IntKind.wrap .i64 (x12 + dc1a)) x76 (IntKind.wrap .i64 (x77 + (1 : Int))) xo34) e st) :
    LoopSC cfg.P 2 (lb P_laws_FnKindsOfCarets 0) (laws_FnKindsOfCarets_L0a x1 x5 x12 x76 x77 xo34) e st :=
  loop_iter cfgOK (f := i_laws_FnKindsOfCarets) (its := [.bool true, .bool false, .bool false, .bool false, .res (.tup [.v (.int .i64) dc1a, .v .bool true]) [] [] []])
    (ps := [decide (x77 < x76) = true,
      0 ≤ x77,
      x77 < (List.length xo34 : Int),
      (x77).toNat < List.length xo34,
      decide (x77 > (0 : Int)) = false,
      (((List.getD xo34 (x77).toNat (⟨#[]⟩ : ByteArray))).toList == ((⟨#[82, 48]⟩ : ByteArray)).toList) = false,
      (((List.getD xo34 (x77).toNat (⟨#[]⟩ : ByteArray))).toList == ((⟨#[82, 73]⟩ : ByteArray)).toList) = false,
      SC cfg.P i_impl_KindLength [.s (.v .str (List.getD xo34 (x77).toNat (⟨#[]⟩ : ByteArray))), .s (.v .str (List.getD xo34 (x77).toNat (⟨#[]⟩ : ByteArray)))] (.tup [.v (.int .i64) dc1a, .v .bool true]) []]) (st1 := laws_FnKindsOfCarets_L0a x1 x5 (IntKind.wrap .i64 (x12 + dc1a)) x76 (IntKind.wrap .i64 (x77 + (1 : Int))) xo34) (by kernel_rfl) ⟨(decide_eq_true h1), h2, h3, h4, (decide_eq_false h5), (seq_f h6), (seq_f h7), h8, trivial⟩ next

theorem laws_FnKindsOfCarets_L0a_x52 (x1 : (List Int)) (x5 : ByteArray) (x12 : Int) (x76 : Int) (x77 : Int) (xo34 : (List ByteArray))
    (h1 : ¬ (x77 < x76)) :
    LoopSC cfg.P 2 (lb P_laws_FnKindsOfCarets 0) (laws_FnKindsOfCarets_L0a x1 x5 x12 x76 x77 xo34) (.exit 0) (laws_FnKindsOfCarets_L0X2 x1 x5 x12 x76 x77 false xo34) :=
  loop_out cfgOK (f := i_laws_FnKindsOfCarets) (its := [.bool false])
    (ps := [decide (x77 < x76) = false]) (by kernel_rfl) ⟨(decide_eq_false h1), trivial⟩ (fun h => by cases h)

theorem laws_FnKindsOfCarets_p1 (a0 : (List Int)) (a1 : (List Int))
    (h1 : SC cfg.P i_laws_big [.s (.v (.sl (.int .u8)) a0), .s (.v (.sl (.int .u8)) a1)] (.s (.v .bool true)) []) :
    SC cfg.P i_laws_FnKindsOfCarets [.s (.v (.sl (.int .u8)) a0), .s (.v (.sl (.int .u8)) a1)] (.s (.v .bool true)) [] :=
  SC_of_run cfgOK (its := [.res (.s (.v .bool true)) [] [] []])
    (ps := [SC cfg.P i_laws_big [.s (.v (.sl (.int .u8)) a0), .s (.v (.sl (.int .u8)) a1)] (.s (.v .bool true)) []]) (by kernel_rfl) ⟨h1, trivial⟩ get_laws_FnKindsOfCarets (by decide)

theorem laws_FnKindsOfCarets_p2 (a0 : (List Int)) (a1 : (List Int)) (c2 : ByteArray) (c3a : (List ByteArray)) (c4a : (List ByteArray)) (c4b : Bool) (c6a : Int) (k1y1 : (List Int)) (k1y5 : ByteArray) (k1y12 : Int) (k1y76 : Int) (k1y77 : Int) (k1y78 : Bool) (k1yo34 : (List ByteArray)) (c7a : Int) (c8a : ByteArray) (c8b : ByteArray) (c9a : Int) (c9b : Bool) (c10a : Int) (c10b : Bool) (c11a : Int) (c11b : Bool)
    (h1 : SC cfg.P i_laws_big [.s (.v (.sl (.int .u8)) a0), .s (.v (.sl (.int .u8)) a1)] (.s (.v .bool false)) [])
    (h2 : SC cfg.P i_spec_DrawCaretKinds [.s (.v (.sl (.int .u8)) a0)] (.s (.v .str c2)) [])
    (h3 : SC cfg.P i_impl_CaretKinds [.s (.v .str c2)] (.tup [.own t_string .str c3a, .v .bool true]) [])
    (h4 : SC cfg.P i_spec_CaretKinds [.s (.v .str c2)] (.tup [.own t_string .str c4a, .v .bool c4b]) [])
    (h5 : (!(true == c4b)) = false)
    (h6 : SC cfg.P i_laws_nTexts [.s (.v (.sl .str) c3a), .s (.v (.sl .str) c4a)] (.s (.v .bool true)) [])
    (h7 : SC cfg.P i_impl_CaretsOf [.s (.v .str c2)] (.tup [.v (.int .i64) c6a, .v .bool true]) [])
    (h8 : ((List.length c3a : Nat) : Int) = c6a)
    (h9 : c6a > (0 : Int))
    (h10 : (0 : Int) < (List.length c3a : Int))
    (h11 : ((0 : Int)).toNat < List.length c3a)
    (h12 : (List.getD c3a ((0 : Int)).toNat (⟨#[]⟩ : ByteArray)) = (⟨#[76, 48]⟩ : ByteArray))
    (h13 : LoopSC cfg.P 2 (lb P_laws_FnKindsOfCarets 0) (laws_FnKindsOfCarets_L0a a1 c2 (0 : Int) ((List.length c3a : Nat) : Int) (0 : Int) c3a) (.exit 0) (laws_FnKindsOfCarets_L0X2 k1y1 k1y5 k1y12 k1y76 k1y77 k1y78 k1yo34))
    (h14 : SC cfg.P i_impl_LengthOf [.s (.v (.pr .str .str) (k1y5, k1y5))] (.tup [.v (.int .i64) c7a, .v .bool true]) [])
    (h15 : c7a = (0 : Int))
    (h16 : ¬ (k1y12 < (0 : Int)))
    (h17 : SC cfg.P i_spec_DrawKindLength [.s (.v (.sl (.int .u8)) k1y1)] (.tup [.v .str c8a, .v .str c8b]) [])
    (h18 : SC cfg.P i_impl_KindLength [.s (.v .str c8a), .s (.v .str c8b)] (.tup [.v (.int .i64) c9a, .v .bool c9b]) [])
    (h19 : SC cfg.P i_spec_KindLength [.s (.v .str c8a), .s (.v .str c8b)] (.tup [.v (.int .i64) c10a, .v .bool c10b]) [])
    (h20 : SC cfg.P i_impl_KindLength [.s (.v .str c8b), .s (.v .str c8a)] (.tup [.v (.int .i64) c11a, .v .bool c11b]) [])
    (h21 : c9b = c10b)
    (h22 : c9a = c10a)
    (h23 : c11b = c9b)
    (h24 : c11a = c9a) :
    SC cfg.P i_laws_FnKindsOfCarets [.s (.v (.sl (.int .u8)) a0), .s (.v (.sl (.int .u8)) a1)] (.s (.v .bool true)) [] :=
  SC_of_run cfgOK (its := [.res (.s (.v .bool false)) [] [] [], .res (.s (.v .str c2)) [] [] [], .res (.tup [.own t_string .str c3a, .v .bool true]) [] [] [34], .res (.tup [.own t_string .str c4a, .v .bool c4b]) [] [] [39], .bool false, .res (.s (.v .bool true)) [] [] [], .res (.tup [.v (.int .i64) c6a, .v .bool true]) [] [] [], .bool false, .bool true, .bool false, .loop (fun _ => (.exit 0, laws_FnKindsOfCarets_L0X2 k1y1 k1y5 k1y12 k1y76 k1y77 k1y78 k1yo34)), .res (.tup [.v (.int .i64) c7a, .v .bool true]) [] [] [], .bool false, .bool false, .res (.tup [.v .str c8a, .v .str c8b]) [] [] [], .res (.tup [.v (.int .i64) c9a, .v .bool c9b]) [] [] [], .res (.tup [.v (.int .i64) c10a, .v .bool c10b]) [] [] [], .res (.tup [.v (.int .i64) c11a, .v .bool c11b]) [] [] [], .bool true, .bool true, .bool true, .bool true])
    (ps := [SC cfg.P i_laws_big [.s (.v (.sl (.int .u8)) a0), .s (.v (.sl (.int .u8)) a1)] (.s (.v .bool false)) [],
      SC cfg.P i_spec_DrawCaretKinds [.s (.v (.sl (.int .u8)) a0)] (.s (.v .str c2)) [],
      SC cfg.P i_impl_CaretKinds [.s (.v .str c2)] (.tup [.own t_string .str c3a, .v .bool true]) [],
      SC cfg.P i_spec_CaretKinds [.s (.v .str c2)] (.tup [.own t_string .str c4a, .v .bool c4b]) [],
      (!(true == c4b)) = false,
      SC cfg.P i_laws_nTexts [.s (.v (.sl .str) c3a), .s (.v (.sl .str) c4a)] (.s (.v .bool true)) [],
      SC cfg.P i_impl_CaretsOf [.s (.v .str c2)] (.tup [.v (.int .i64) c6a, .v .bool true]) [],
      (((List.length c3a : Nat) : Int) != c6a) = false,
      decide (c6a > (0 : Int)) = true,
      0 ≤ (0 : Int),
      (0 : Int) < (List.length c3a : Int),
      ((0 : Int)).toNat < List.length c3a,
      (!(((List.getD c3a ((0 : Int)).toNat (⟨#[]⟩ : ByteArray))).toList == ((⟨#[76, 48]⟩ : ByteArray)).toList)) = false,
      LoopSC cfg.P 2 (lb P_laws_FnKindsOfCarets 0) (laws_FnKindsOfCarets_L0a a1 c2 (0 : Int) ((List.length c3a : Nat) : Int) (0 : Int) c3a) (.exit 0) (laws_FnKindsOfCarets_L0X2 k1y1 k1y5 k1y12 k1y76 k1y77 k1y78 k1yo34),
      SC cfg.P i_impl_LengthOf [.s (.v (.pr .str .str) (k1y5, k1y5))] (.tup [.v (.int .i64) c7a, .v .bool true]) [],
      (c7a != (0 : Int)) = false,
      decide (k1y12 < (0 : Int)) = false,
      SC cfg.P i_spec_DrawKindLength [.s (.v (.sl (.int .u8)) k1y1)] (.tup [.v .str c8a, .v .str c8b]) [],
      SC cfg.P i_impl_KindLength [.s (.v .str c8a), .s (.v .str c8b)] (.tup [.v (.int .i64) c9a, .v .bool c9b]) [],
      SC cfg.P i_spec_KindLength [.s (.v .str c8a), .s (.v .str c8b)] (.tup [.v (.int .i64) c10a, .v .bool c10b]) [],
      SC cfg.P i_impl_KindLength [.s (.v .str c8b), .s (.v .str c8a)] (.tup [.v (.int .i64) c11a, .v .bool c11b]) [],
      (c9b == c10b) = true,
      (c9a == c10a) = true,
      (c11b == c9b) = true,
      (c11a == c9a) = true]) (by kernel_rfl) ⟨h1, h2, h3, h4, h5, h6, h7, (bne_eq_false_iff_eq.mpr h8), (decide_eq_true h9), (by decide), h10, h11, (nseq_f h12), h13, h14, (bne_eq_false_iff_eq.mpr h15), (decide_eq_false h16), h17, h18, h19, h20, (beq_iff_eq.mpr h21), (beq_iff_eq.mpr h22), (beq_iff_eq.mpr h23), (beq_iff_eq.mpr h24), trivial⟩ get_laws_FnKindsOfCarets (by decide)

theorem laws_FnKindsOfCarets_p3 (a0 : (List Int)) (a1 : (List Int)) (c2 : ByteArray) (c3a : (List ByteArray)) (c4a : (List ByteArray)) (c4b : Bool) (c6a : Int) (k1y1 : (List Int)) (k1y5 : ByteArray) (k1y12 : Int) (k1y76 : Int) (k1y77 : Int) (k1y78 : Bool) (k1yo34 : (List ByteArray)) (c7a : Int) (c8a : ByteArray) (c8b : ByteArray) (c9a : Int) (c9b : Bool) (c10a : Int) (c10b : Bool) (c11a : Int) (c11b : Bool)
    (h1 : SC cfg.P i_laws_big [.s (.v (.sl (.int .u8)) a0), .s (.v (.sl (.int .u8)) a1)] (.s (.v .bool false)) [])
    (h2 : SC cfg.P i_spec_DrawCaretKinds [.s (.v (.sl (.int .u8)) a0)] (.s (.v .str c2)) [])
    (h3 : SC cfg.P i_impl_CaretKinds [.s (.v .str c2)] (.tup [.own t_string .str c3a, .v .bool true]) [])
    (h4 : SC cfg.P i_spec_CaretKinds [.s (.v .str c2)] (.tup [.own t_string .str c4a, .v .bool c4b]) [])
    (h5 : (!(true == c4b)) = false)
    (h6 : SC cfg.P i_laws_nTexts [.s (.v (.sl .str) c3a), .s (.v (.sl .str) c4a)] (.s (.v .bool true)) [])
    (h7 : SC cfg.P i_impl_CaretsOf [.s (.v .str c2)] (.tup [.v (.int .i64) c6a, .v .bool true]) [])
    (h8 : ((List.length c3a : Nat) : Int) = c6a)
    (h9 : ¬ (c6a > (0 : Int)))
    (h10 : LoopSC cfg.P 2 (lb P_laws_FnKindsOfCarets 0) (laws_FnKindsOfCarets_L0a a1 c2 (0 : Int) ((List.length c3a : Nat) : Int) (0 : Int) c3a) (.exit 0) (laws_FnKindsOfCarets_L0X2 k1y1 k1y5 k1y12 k1y76 k1y77 k1y78 k1yo34))
    (h11 : SC cfg.P i_impl_LengthOf [.s (.v (.pr .str .str) (k1y5, k1y5))] (.tup [.v (.int .i64) c7a, .v .bool true]) [])
    (h12 : c7a = (0 : Int))
    (h13 : ¬ (k1y12 < (0 : Int)))
    (h14 : SC cfg.P i_spec_DrawKindLength [.s (.v (.sl (.int .u8)) k1y1)] (.tup [.v .str c8a, .v .str c8b]) [])
    (h15 : SC cfg.P i_impl_KindLength [.s (.v .str c8a), .s (.v .str c8b)] (.tup [.v (.int .i64) c9a, .v .bool c9b]) [])
    (h16 : SC cfg.P i_spec_KindLength [.s (.v .str c8a), .s (.v .str c8b)] (.tup [.v (.int .i64) c10a, .v .bool c10b]) [])
    (h17 : SC cfg.P i_impl_KindLength [.s (.v .str c8b), .s (.v .str c8a)] (.tup [.v (.int .i64) c11a, .v .bool c11b]) [])
    (h18 : c9b = c10b)
    (h19 : c9a = c10a)
    (h20 : c11b = c9b)
    (h21 : c11a = c9a) :
    SC cfg.P i_laws_FnKindsOfCarets [.s (.v (.sl (.int .u8)) a0), .s (.v (.sl (.int .u8)) a1)] (.s (.v .bool true)) [] :=
  SC_of_run cfgOK (its := [.res (.s (.v .bool false)) [] [] [], .res (.s (.v .str c2)) [] [] [], .res (.tup [.own t_string .str c3a, .v .bool true]) [] [] [34], .res (.tup [.own t_string .str c4a, .v .bool c4b]) [] [] [39], .bool false, .res (.s (.v .bool true)) [] [] [], .res (.tup [.v (.int .i64) c6a, .v .bool true]) [] [] [], .bool false, .bool false, .loop (fun _ => (.exit 0, laws_FnKindsOfCarets_L0X2 k1y1 k1y5 k1y12 k1y76 k1y77 k1y78 k1yo34)), .res (.tup [.v (.int .i64) c7a, .v .bool true]) [] [] [], .bool false, .bool false, .res (.tup [.v .str c8a, .v .str c8b]) [] [] [], .res (.tup [.v (.int .i64) c9a, .v .bool c9b]) [] [] [], .res (.tup [.v (.int .i64) c10a, .v .bool c10b]) [] [] [], .res (.tup [.v (.int .i64) c11a, .v .bool c11b]) [] [] [], .bool true, .bool true, .bool true, .bool true])
    (ps := [SC cfg.P i_laws_big [.s (.v (.sl (.int .u8)) a0), .s (.v (.sl (.int .u8)) a1)] (.s (.v .bool false)) [],
      SC cfg.P i_spec_DrawCaretKinds [.s (.v (.sl (.int .u8)) a0)] (.s (.v .str c2)) [],
      SC cfg.P i_impl_CaretKinds [.s (.v .str c2)] (.tup [.own t_string .str c3a, .v .bool true]) [],
      SC cfg.P i_spec_CaretKinds [.s (.v .str c2)] (.tup [.own t_string .str c4a, .v .bool c4b]) [],
      (!(true == c4b)) = false,
      SC cfg.P i_laws_nTexts [.s (.v (.sl .str) c3a), .s (.v (.sl .str) c4a)] (.s (.v .bool true)) [],
      SC cfg.P i_impl_CaretsOf [.s (.v .str c2)] (.tup [.v (.int .i64) c6a, .v .bool true]) [],
      (((List.length c3a : Nat) : Int) != c6a) = false,
      decide (c6a > (0 : Int)) = false,
      LoopSC cfg.P 2 (lb P_laws_FnKindsOfCarets 0) (laws_FnKindsOfCarets_L0a a1 c2 (0 : Int) ((List.length c3a : Nat) : Int) (0 : Int) c3a) (.exit 0) (laws_FnKindsOfCarets_L0X2 k1y1 k1y5 k1y12 k1y76 k1y77 k1y78 k1yo34),
      SC cfg.P i_impl_LengthOf [.s (.v (.pr .str .str) (k1y5, k1y5))] (.tup [.v (.int .i64) c7a, .v .bool true]) [],
      (c7a != (0 : Int)) = false,
      decide (k1y12 < (0 : Int)) = false,
      SC cfg.P i_spec_DrawKindLength [.s (.v (.sl (.int .u8)) k1y1)] (.tup [.v .str c8a, .v .str c8b]) [],
      SC cfg.P i_impl_KindLength [.s (.v .str c8a), .s (.v .str c8b)] (.tup [.v (.int .i64) c9a, .v .bool c9b]) [],
      SC cfg.P i_spec_KindLength [.s (.v .str c8a), .s (.v .str c8b)] (.tup [.v (.int .i64) c10a, .v .bool c10b]) [],
      SC cfg.P i_impl_KindLength [.s (.v .str c8b), .s (.v .str c8a)] (.tup [.v (.int .i64) c11a, .v .bool c11b]) [],
      (c9b == c10b) = true,
      (c9a == c10a) = true,
      (c11b == c9b) = true,
      (c11a == c9a) = true]) (by kernel_rfl) ⟨h1, h2, h3, h4, h5, h6, h7, (bne_eq_false_iff_eq.mpr h8), (decide_eq_false h9), h10, h11, (bne_eq_false_iff_eq.mpr h12), (decide_eq_false h13), h14, h15, h16, h17, (beq_iff_eq.mpr h18), (beq_iff_eq.mpr h19), (beq_iff_eq.mpr h20), (beq_iff_eq.mpr h21), trivial⟩ get_laws_FnKindsOfCarets (by decide)

theorem laws_FnKindsOfCarets_p4 (a0 : (List Int)) (a1 : (List Int)) (c2 : ByteArray) (c3a : (List ByteArray)) (c4a : (List ByteArray)) (c4b : Bool) (c6a : ByteArray) (c6b : ByteArray) (c7a : Int) (c7b : Bool) (c8a : Int) (c8b : Bool) (c9a : Int) (c9b : Bool)
    (h1 : SC cfg.P i_laws_big [.s (.v (.sl (.int .u8)) a0), .s (.v (.sl (.int .u8)) a1)] (.s (.v .bool false)) [])
    (h2 : SC cfg.P i_spec_DrawCaretKinds [.s (.v (.sl (.int .u8)) a0)] (.s (.v .str c2)) [])
    (h3 : SC cfg.P i_impl_CaretKinds [.s (.v .str c2)] (.tup [.own t_string .str c3a, .v .bool false]) [])
    (h4 : SC cfg.P i_spec_CaretKinds [.s (.v .str c2)] (.tup [.own t_string .str c4a, .v .bool c4b]) [])
    (h5 : (!(false == c4b)) = false)
    (h6 : SC cfg.P i_laws_nTexts [.s (.v (.sl .str) c3a), .s (.v (.sl .str) c4a)] (.s (.v .bool true)) [])
    (h7 : SC cfg.P i_spec_DrawKindLength [.s (.v (.sl (.int .u8)) a1)] (.tup [.v .str c6a, .v .str c6b]) [])
    (h8 : SC cfg.P i_impl_KindLength [.s (.v .str c6a), .s (.v .str c6b)] (.tup [.v (.int .i64) c7a, .v .bool c7b]) [])
    (h9 : SC cfg.P i_spec_KindLength [.s (.v .str c6a), .s (.v .str c6b)] (.tup [.v (.int .i64) c8a, .v .bool c8b]) [])
    (h10 : SC cfg.P i_impl_KindLength [.s (.v .str c6b), .s (.v .str c6a)] (.tup [.v (.int .i64) c9a, .v .bool c9b]) [])
    (h11 : c7b = c8b)
    (h12 : c7a = c8a)
    (h13 : c9b = c7b)
    (h14 : c9a = c7a) :
    SC cfg.P i_laws_FnKindsOfCarets [.s (.v (.sl (.int .u8)) a0), .s (.v (.sl (.int .u8)) a1)] (.s (.v .bool true)) [] :=
  SC_of_run cfgOK (its := [.res (.s (.v .bool false)) [] [] [], .res (.s (.v .str c2)) [] [] [], .res (.tup [.own t_string .str c3a, .v .bool false]) [] [] [34], .res (.tup [.own t_string .str c4a, .v .bool c4b]) [] [] [39], .bool false, .res (.s (.v .bool true)) [] [] [], .res (.tup [.v .str c6a, .v .str c6b]) [] [] [], .res (.tup [.v (.int .i64) c7a, .v .bool c7b]) [] [] [], .res (.tup [.v (.int .i64) c8a, .v .bool c8b]) [] [] [], .res (.tup [.v (.int .i64) c9a, .v .bool c9b]) [] [] [], .bool true, .bool true, .bool true, .bool true])
    (ps := [SC cfg.P i_laws_big [.s (.v (.sl (.int .u8)) a0), .s (.v (.sl (.int .u8)) a1)] (.s (.v .bool false)) [],
      SC cfg.P i_spec_DrawCaretKinds [.s (.v (.sl (.int .u8)) a0)] (.s (.v .str c2)) [],
      SC cfg.P i_impl_CaretKinds [.s (.v .str c2)] (.tup [.own t_string .str c3a, .v .bool false]) [],
      SC cfg.P i_spec_CaretKinds [.s (.v .str c2)] (.tup [.own t_string .str c4a, .v .bool c4b]) [],
      (!(false == c4b)) = false,
      SC cfg.P i_laws_nTexts [.s (.v (.sl .str) c3a), .s (.v (.sl .str) c4a)] (.s (.v .bool true)) [],
      SC cfg.P i_spec_DrawKindLength [.s (.v (.sl (.int .u8)) a1)] (.tup [.v .str c6a, .v .str c6b]) [],
      SC cfg.P i_impl_KindLength [.s (.v .str c6a), .s (.v .str c6b)] (.tup [.v (.int .i64) c7a, .v .bool c7b]) [],
      SC cfg.P i_spec_KindLength [.s (.v .str c6a), .s (.v .str c6b)] (.tup [.v (.int .i64) c8a, .v .bool c8b]) [],
      SC cfg.P i_impl_KindLength [.s (.v .str c6b), .s (.v .str c6a)] (.tup [.v (.int .i64) c9a, .v .bool c9b]) [],
      (c7b == c8b) = true,
      (c7a == c8a) = true,
      (c9b == c7b) = true,
      (c9a == c7a) = true]) (by kernel_rfl) ⟨h1, h2, h3, h4, h5, h6, h7, h8, h9, h10, (beq_iff_eq.mpr h11), (beq_iff_eq.mpr h12), (beq_iff_eq.mpr h13), (beq_iff_eq.mpr h14), trivial⟩ get_laws_FnKindsOfCarets (by decide)

/-! ### laws_big -/


theorem laws_big_p1 (a0 : (List Int)) (a1 : (List Int))
    (h1 : ((List.length a0 : Nat) : Int) > (1048576 : Int)) :
    SC cfg.P i_laws_big [.s (.v (.sl (.int .u8)) a0), .s (.v (.sl (.int .u8)) a1)] (.s (.v .bool true)) [] :=
  SC_of_run cfgOK (its := [.bool true])
    (ps := [decide (((List.length a0 : Nat) : Int) > (1048576 : Int)) = true]) (by kernel_rfl) ⟨(decide_eq_true h1), trivial⟩ get_laws_big (by decide)

theorem laws_big_p2 (a0 : (List Int)) (a1 : (List Int))
    (h1 : ¬ (((List.length a0 : Nat) : Int) > (1048576 : Int)))
    (h2 : ((List.length a1 : Nat) : Int) > (IntKind.wrap .i64 ((1048576 : Int) - ((List.length a0 : Nat) : Int)))) :
    SC cfg.P i_laws_big [.s (.v (.sl (.int .u8)) a0), .s (.v (.sl (.int .u8)) a1)] (.s (.v .bool true)) [] :=
  SC_of_run cfgOK (its := [.bool false, .bool true])
    (ps := [decide (((List.length a0 : Nat) : Int) > (1048576 : Int)) = false,
      decide (((List.length a1 : Nat) : Int) > (IntKind.wrap .i64 ((1048576 : Int) - ((List.length a0 : Nat) : Int)))) = true]) (by kernel_rfl) ⟨(decide_eq_false h1), (decide_eq_true h2), trivial⟩ get_laws_big (by decide)

theorem laws_big_p3 (a0 : (List Int)) (a1 : (List Int))
    (h1 : ¬ (((List.length a0 : Nat) : Int) > (1048576 : Int)))
    (h2 : ¬ (((List.length a1 : Nat) : Int) > (IntKind.wrap .i64 ((1048576 : Int) - ((List.length a0 : Nat) : Int))))) :
    SC cfg.P i_laws_big [.s (.v (.sl (.int .u8)) a0), .s (.v (.sl (.int .u8)) a1)] (.s (.v .bool false)) [] :=
  SC_of_run cfgOK (its := [.bool false, .bool false])
    (ps := [decide (((List.length a0 : Nat) : Int) > (1048576 : Int)) = false,
      decide (((List.length a1 : Nat) : Int) > (IntKind.wrap .i64 ((1048576 : Int) - ((List.length a0 : Nat) : Int)))) = false]) (by kernel_rfl) ⟨(decide_eq_false h1), (decide_eq_false h2), trivial⟩ get_laws_big (by decide)

/-! ### impl_CaretsOf -/


theorem impl_CaretsOf_p1 (a0 : ByteArray) (c1a : Tr) (c1b : Bool) (c2 : Int)
    (h1 : SC cfg.P i_impl_parse [.s (.v .str a0)] (.tup [.v .tree c1a, .v .bool c1b]) [])
    (h2 : SC cfg.P i_impl_node_carets [.s (.v .tree c1a)] (.s (.v (.int .i64) c2)) []) :
    SC cfg.P i_impl_CaretsOf [.s (.v .str a0)] (.tup [.v (.int .i64) c2, .v .bool c1b]) [] :=
  SC_of_run cfgOK (its := [.res (.tup [.v .tree c1a, .v .bool c1b]) [] [] [], .res (.s (.v (.int .i64) c2)) [] [] []])
    (ps := [SC cfg.P i_impl_parse [.s (.v .str a0)] (.tup [.v .tree c1a, .v .bool c1b]) [],
      SC cfg.P i_impl_node_carets [.s (.v .tree c1a)] (.s (.v (.int .i64) c2)) []]) (by kernel_rfl) ⟨h1, h2, trivial⟩ get_impl_CaretsOf (by decide)

/-! ### spec_DrawCaretKinds -/


theorem spec_DrawCaretKinds_p1 (a0 : (List Int)) (c1 : ByteArray) (c1o0 : ((List Int) × (Int × Int)))
    (h1 : SC cfg.P i_spec_l1Cur_tree [.s (.mbx (.pr (.sl (.int .u8)) (.pr (.int .i64) (.int .u64))) (a0, ((0 : Int), (0 : Int)))), .s (.v (.int .i64) (8 : Int))] (.s (.v .str c1)) [.box (.pr (.sl (.int .u8)) (.pr (.int .i64) (.int .u64))) c1o0]) :
    SC cfg.P i_spec_DrawCaretKinds [.s (.v (.sl (.int .u8)) a0)] (.s (.v .str c1)) [] :=
  SC_of_run cfgOK (its := [.res (.s (.v .str c1)) [.box (.pr (.sl (.int .u8)) (.pr (.int .i64) (.int .u64))) c1o0] [] []])
    (ps := [SC cfg.P i_spec_l1Cur_tree [.s (.mbx (.pr (.sl (.int .u8)) (.pr (.int .i64) (.int .u64))) (a0, ((0 : Int), (0 : Int)))), .s (.v (.int .i64) (8 : Int))] (.s (.v .str c1)) [.box (.pr (.sl (.int .u8)) (.pr (.int .i64) (.int .u64))) c1o0]]) (by kernel_rfl) ⟨h1, trivial⟩ get_spec_DrawCaretKinds (by decide)

/-! ### impl_CaretKinds -/


theorem impl_CaretKinds_p1 (a0 : ByteArray) (c1a : Tr) (c2 : (List ByteArray))
    (h1 : SC cfg.P i_impl_parse [.s (.v .str a0)] (.tup [.v .tree c1a, .v .bool true]) [])
    (h2 : SC cfg.P i_impl_node_kinds [.s (.v .tree c1a)] (.s (.own t_string .str c2)) []) :
    SC cfg.P i_impl_CaretKinds [.s (.v .str a0)] (.tup [.own t_string .str c2, .v .bool true]) [] :=
  SC_of_run cfgOK (its := [.res (.tup [.v .tree c1a, .v .bool true]) [] [] [], .res (.s (.own t_string .str c2)) [] [] [14]])
    (ps := [SC cfg.P i_impl_parse [.s (.v .str a0)] (.tup [.v .tree c1a, .v .bool true]) [],
      SC cfg.P i_impl_node_kinds [.s (.v .tree c1a)] (.s (.own t_string .str c2)) []]) (by kernel_rfl) ⟨h1, h2, trivial⟩ get_impl_CaretKinds (by decide)

theorem impl_CaretKinds_p2 (a0 : ByteArray) (c1a : Tr)
    (h1 : SC cfg.P i_impl_parse [.s (.v .str a0)] (.tup [.v .tree c1a, .v .bool false]) []) :
    SC cfg.P i_impl_CaretKinds [.s (.v .str a0)] (.tup [.own t_string .str ([] : List ByteArray), .v .bool false]) [] :=
  SC_of_run cfgOK (its := [.res (.tup [.v .tree c1a, .v .bool false]) [] [] []])
    (ps := [SC cfg.P i_impl_parse [.s (.v .str a0)] (.tup [.v .tree c1a, .v .bool false]) []]) (by kernel_rfl) ⟨h1, trivial⟩ get_impl_CaretKinds (by decide)

/-! ### spec_CaretKinds -/


theorem spec_CaretKinds_p1 (a0 : ByteArray) (c2 : (List ByteArray))
    (h1 : SC cfg.P i_spec_trIs [.s (.v .str a0)] (.s (.v .bool true)) [])
    (h2 : SC cfg.P i_spec_lnKinds [.s (.v .str a0)] (.s (.own t_string .str c2)) []) :
    SC cfg.P i_spec_CaretKinds [.s (.v .str a0)] (.tup [.own t_string .str c2, .v .bool true]) [] :=
  SC_of_run cfgOK (its := [.res (.s (.v .bool true)) [] [] [], .res (.s (.own t_string .str c2)) [] [] [8]])
    (ps := [SC cfg.P i_spec_trIs [.s (.v .str a0)] (.s (.v .bool true)) [],
      SC cfg.P i_spec_lnKinds [.s (.v .str a0)] (.s (.own t_string .str c2)) []]) (by kernel_rfl) ⟨h1, h2, trivial⟩ get_spec_CaretKinds (by decide)

theorem spec_CaretKinds_p2 (a0 : ByteArray)
    (h1 : SC cfg.P i_spec_trIs [.s (.v .str a0)] (.s (.v .bool false)) []) :
    SC cfg.P i_spec_CaretKinds [.s (.v .str a0)] (.tup [.own t_string .str ([] : List ByteArray), .v .bool false]) [] :=
  SC_of_run cfgOK (its := [.res (.s (.v .bool false)) [] [] []])
    (ps := [SC cfg.P i_spec_trIs [.s (.v .str a0)] (.s (.v .bool false)) []]) (by kernel_rfl) ⟨h1, trivial⟩ get_spec_CaretKinds (by decide)

/-! ### laws_nTexts -/


def laws_nTexts_L0a (x0 : (List ByteArray)) (x1 : (List ByteArray)) (x12 : Int) (x13 : Int) : St := mkSt 26 [(0, .s (.v (.sl .str) x0)), (1, .s (.v (.sl .str) x1)), (12, .s (.v (.int .i64) x12)), (13, .s (.v (.int .i64) x13))] []

def laws_nTexts_L0X1 (y4 : Bool) : St := mkSt 26 [(4, .s (.v .bool y4))] []

def laws_nTexts_L0X2 (y0 : (List ByteArray)) (y1 : (List ByteArray)) (y12 : Int) (y13 : Int) (y14 : Bool) : St := mkSt 26 [(0, .s (.v (.sl .str) y0)), (1, .s (.v (.sl .str) y1)), (12, .s (.v (.int .i64) y12)), (13, .s (.v (.int .i64) y13)), (14, .s (.v .bool y14))] []

theorem laws_nTexts_L0a_x1 (x0 : (List ByteArray)) (x1 : (List ByteArray)) (x12 : Int) (x13 : Int)
    (h1 : x13 < x12)
    (h2 : 0 ≤ x13)
    (h3 : x13 < (List.length x0 : Int))
    (h4 : x13 < (List.length x1 : Int))
    (h5 : (List.getD x0 (x13).toNat (⟨#[]⟩ : ByteArray)) ≠ (List.getD x1 (x13).toNat (⟨#[]⟩ : ByteArray))) :
    LoopSC cfg.P 2 (lb P_laws_nTexts 0) (laws_nTexts_L0a x0 x1 x12 x13) (.ret) (laws_nTexts_L0X1 false) :=
  loop_out cfgOK (f := i_laws_nTexts) (its := [.bool true, .bool true])
    (ps := [decide (x13 < x12) = true,
      0 ≤ x13,
      x13 < (List.length x0 : Int),
      0 ≤ x13,
      x13 < (List.length x1 : Int),
      (!(((List.getD x0 (x13).toNat (⟨#[]⟩ : ByteArray))).toList == ((List.getD x1 (x13).toNat (⟨#[]⟩ : ByteArray))).toList)) = true]) (by kernel_rfl) ⟨(decide_eq_true h1), h2, h3, h2, h4, (nseq_t h5), trivial⟩ (fun h => by cases h)

theorem laws_nTexts_L0a_i2 (x0 : (List ByteArray)) (x1 : (List ByteArray)) (x12 : Int) (x13 : Int)
    (h1 : x13 < x12)
    (h2 : 0 ≤ x13)
    (h3 : x13 < (List.length x0 : Int))
    (h4 : x13 < (List.length x1 : Int))
    (h5 : (List.getD x0 (x13).toNat (⟨#[]⟩ : ByteArray)) = (List.getD x1 (x13).toNat (⟨#[]⟩ : ByteArray)))
    {e : AEx} {st : St} (next : LoopSC cfg.P 2 (lb P_laws_nTexts 0) (laws_nTexts_L0a x0 x1 x12 (IntKind.wrap .i64 (x13 + (1 : Int)))) e st) :
    LoopSC cfg.P 2 (lb P_laws_nTexts 0) (laws_nTexts_L0a x0 x1 x12 x13) e st :=
  loop_iter cfgOK (f := i_laws_nTexts) (its := [.bool true, .bool false])
    (ps := [decide (x13 < x12) = true,
      0 ≤ x13,
      x13 < (List.length x0 : Int),
      0 ≤ x13,
      x13 < (List.length x1 : Int),
      (!(((List.getD x0 (x13).toNat (⟨#[]⟩ : ByteArray))).toList == ((List.getD x1 (x13).toNat (⟨#[]⟩ : ByteArray))).toList)) = false]) (st1 := laws_nTexts_L0a x0 x1 x12 (IntKind.wrap .i64 (x13 + (1 : Int)))) (by kernel_rfl) ⟨(decide_eq_true h1), h2, h3, h2, h4, (nseq_f h5), trivial⟩ next

theorem laws_nTexts_L0a_x3 (x0 : (List ByteArray)) (x1 : (List ByteArray)) (x12 : Int) (x13 : Int)
    (h1 : ¬ (x13 < x12)) :
    LoopSC cfg.P 2 (lb P_laws_nTexts 0) (laws_nTexts_L0a x0 x1 x12 x13) (.exit 0) (laws_nTexts_L0X2 x0 x1 x12 x13 false) :=
  loop_out cfgOK (f := i_laws_nTexts) (its := [.bool false])
    (ps := [decide (x13 < x12) = false]) (by kernel_rfl) ⟨(decide_eq_false h1), trivial⟩ (fun h => by cases h)

theorem laws_nTexts_p1 (a0 : (List ByteArray)) (a1 : (List ByteArray))
    (h1 : ((List.length a0 : Nat) : Int) ≠ ((List.length a1 : Nat) : Int)) :
    SC cfg.P i_laws_nTexts [.s (.v (.sl .str) a0), .s (.v (.sl .str) a1)] (.s (.v .bool false)) [] :=
  SC_of_run cfgOK (its := [.bool true])
    (ps := [(((List.length a0 : Nat) : Int) != ((List.length a1 : Nat) : Int)) = true]) (by kernel_rfl) ⟨(bne_iff_ne.mpr h1), trivial⟩ get_laws_nTexts (by decide)

theorem laws_nTexts_p2 (a0 : (List ByteArray)) (a1 : (List ByteArray)) (k1y4 : Bool)
    (h1 : ((List.length a0 : Nat) : Int) = ((List.length a1 : Nat) : Int))
    (h2 : LoopSC cfg.P 2 (lb P_laws_nTexts 0) (laws_nTexts_L0a a0 a1 ((List.length a0 : Nat) : Int) (0 : Int)) (.ret) (laws_nTexts_L0X1 k1y4)) :
    SC cfg.P i_laws_nTexts [.s (.v (.sl .str) a0), .s (.v (.sl .str) a1)] (.s (.v .bool k1y4)) [] :=
  SC_of_run cfgOK (its := [.bool false, .loop (fun _ => (.ret, laws_nTexts_L0X1 k1y4))])
    (ps := [(((List.length a0 : Nat) : Int) != ((List.length a1 : Nat) : Int)) = false,
      LoopSC cfg.P 2 (lb P_laws_nTexts 0) (laws_nTexts_L0a a0 a1 ((List.length a0 : Nat) : Int) (0 : Int)) (.ret) (laws_nTexts_L0X1 k1y4)]) (by kernel_rfl) ⟨(bne_eq_false_iff_eq.mpr h1), h2, trivial⟩ get_laws_nTexts (by decide)

theorem laws_nTexts_p3 (a0 : (List ByteArray)) (a1 : (List ByteArray)) (k1y0 : (List ByteArray)) (k1y1 : (List ByteArray)) (k1y12 : Int) (k1y13 : Int) (k1y14 : Bool)
    (h1 : ((List.length a0 : Nat) : Int) = ((List.length a1 : Nat) : Int))
    (h2 : LoopSC cfg.P 2 (lb P_laws_nTexts 0) (laws_nTexts_L0a a0 a1 ((List.length a0 : Nat) : Int) (0 : Int)) (.exit 0) (laws_nTexts_L0X2 k1y0 k1y1 k1y12 k1y13 k1y14)) :
    SC cfg.P i_laws_nTexts [.s (.v (.sl .str) a0), .s (.v (.sl .str) a1)] (.s (.v .bool true)) [] :=
  SC_of_run cfgOK (its := [.bool false, .loop (fun _ => (.exit 0, laws_nTexts_L0X2 k1y0 k1y1 k1y12 k1y13 k1y14))])
    (ps := [(((List.length a0 : Nat) : Int) != ((List.length a1 : Nat) : Int)) = false,
      LoopSC cfg.P 2 (lb P_laws_nTexts 0) (laws_nTexts_L0a a0 a1 ((List.length a0 : Nat) : Int) (0 : Int)) (.exit 0) (laws_nTexts_L0X2 k1y0 k1y1 k1y12 k1y13 k1y14)]) (by kernel_rfl) ⟨(bne_eq_false_iff_eq.mpr h1), h2, trivial⟩ get_laws_nTexts (by decide)

/-! ### impl_LengthOf -/


theorem impl_LengthOf_p1 (a0 : (ByteArray × ByteArray)) (c1a : (Tr × Tr)) (c2 : Int)
    (h1 : SC cfg.P i_impl_pairOf [.s (.v (.pr .str .str) a0)] (.tup [.v (.pr .tree .tree) c1a, .v .bool true]) [])
    (h2 : SC cfg.P i_impl_pair_length [.s (.v (.pr .tree .tree) c1a)] (.s (.v (.int .i64) c2)) []) :
    SC cfg.P i_impl_LengthOf [.s (.v (.pr .str .str) a0)] (.tup [.v (.int .i64) c2, .v .bool true]) [] :=
  SC_of_run cfgOK (its := [.res (.tup [.v (.pr .tree .tree) c1a, .v .bool true]) [] [] [], .res (.s (.v (.int .i64) c2)) [] [] []])
    (ps := [SC cfg.P i_impl_pairOf [.s (.v (.pr .str .str) a0)] (.tup [.v (.pr .tree .tree) c1a, .v .bool true]) [],
      SC cfg.P i_impl_pair_length [.s (.v (.pr .tree .tree) c1a)] (.s (.v (.int .i64) c2)) []]) (by kernel_rfl) ⟨h1, h2, trivial⟩ get_impl_LengthOf (by decide)

theorem impl_LengthOf_p2 (a0 : (ByteArray × ByteArray)) (c1a : (Tr × Tr))
    (h1 : SC cfg.P i_impl_pairOf [.s (.v (.pr .str .str) a0)] (.tup [.v (.pr .tree .tree) c1a, .v .bool false]) []) :
    SC cfg.P i_impl_LengthOf [.s (.v (.pr .str .str) a0)] (.tup [.v (.int .i64) (0 : Int), .v .bool false]) [] :=
  SC_of_run cfgOK (its := [.res (.tup [.v (.pr .tree .tree) c1a, .v .bool false]) [] [] []])
    (ps := [SC cfg.P i_impl_pairOf [.s (.v (.pr .str .str) a0)] (.tup [.v (.pr .tree .tree) c1a, .v .bool false]) []]) (by kernel_rfl) ⟨h1, trivial⟩ get_impl_LengthOf (by decide)

/-! ### spec_DrawKindLength -/


theorem spec_DrawKindLength_p1 (a0 : (List Int)) (c1 : ByteArray) (c1o0 : ((List Int) × (Int × Int))) (c2 : ByteArray) (c2o0 : ((List Int) × (Int × Int)))
    (h1 : SC cfg.P i_spec_l1Cur_of [.s (.mbx (.pr (.sl (.int .u8)) (.pr (.int .i64) (.int .u64))) (a0, ((0 : Int), (0 : Int)))), .s (.v (.sl .str) ([(⟨#[82, 48]⟩ : ByteArray), (⟨#[82, 78]⟩ : ByteArray), (⟨#[82, 73]⟩ : ByteArray), (⟨#[76, 76]⟩ : ByteArray), (⟨#[73, 48]⟩ : ByteArray), (⟨#[73, 82]⟩ : ByteArray), (⟨#[76, 48]⟩ : ByteArray), (⟨#[76, 48]⟩ : ByteArray), (⟨#[88]⟩ : ByteArray), (⟨#[]⟩ : ByteArray)] : List ByteArray))] (.s (.v .str c1)) [.box (.pr (.sl (.int .u8)) (.pr (.int .i64) (.int .u64))) c1o0])
    (h2 : SC cfg.P i_spec_l1Cur_of [.s (.mbx (.pr (.sl (.int .u8)) (.pr (.int .i64) (.int .u64))) c1o0), .s (.v (.sl .str) ([(⟨#[82, 48]⟩ : ByteArray), (⟨#[82, 78]⟩ : ByteArray), (⟨#[82, 73]⟩ : ByteArray), (⟨#[76, 76]⟩ : ByteArray), (⟨#[73, 48]⟩ : ByteArray), (⟨#[73, 82]⟩ : ByteArray), (⟨#[76, 48]⟩ : ByteArray), (⟨#[76, 48]⟩ : ByteArray), (⟨#[88]⟩ : ByteArray), (⟨#[]⟩ : ByteArray)] : List ByteArray))] (.s (.v .str c2)) [.box (.pr (.sl (.int .u8)) (.pr (.int .i64) (.int .u64))) c2o0]) :
    SC cfg.P i_spec_DrawKindLength [.s (.v (.sl (.int .u8)) a0)] (.tup [.v .str c1, .v .str c2]) [] :=
  SC_of_run cfgOK (its := [.res (.s (.v .str c1)) [.box (.pr (.sl (.int .u8)) (.pr (.int .i64) (.int .u64))) c1o0] [] [], .res (.s (.v .str c2)) [.box (.pr (.sl (.int .u8)) (.pr (.int .i64) (.int .u64))) c2o0] [] []])
    (ps := [SC cfg.P i_spec_l1Cur_of [.s (.mbx (.pr (.sl (.int .u8)) (.pr (.int .i64) (.int .u64))) (a0, ((0 : Int), (0 : Int)))), .s (.v (.sl .str) ([(⟨#[82, 48]⟩ : ByteArray), (⟨#[82, 78]⟩ : ByteArray), (⟨#[82, 73]⟩ : ByteArray), (⟨#[76, 76]⟩ : ByteArray), (⟨#[73, 48]⟩ : ByteArray), (⟨#[73, 82]⟩ : ByteArray), (⟨#[76, 48]⟩ : ByteArray), (⟨#[76, 48]⟩ : ByteArray), (⟨#[88]⟩ : ByteArray), (⟨#[]⟩ : ByteArray)] : List ByteArray))] (.s (.v .str c1)) [.box (.pr (.sl (.int .u8)) (.pr (.int .i64) (.int .u64))) c1o0],
      SC cfg.P i_spec_l1Cur_of [.s (.mbx (.pr (.sl (.int .u8)) (.pr (.int .i64) (.int .u64))) c1o0), .s (.v (.sl .str) ([(⟨#[82, 48]⟩ : ByteArray), (⟨#[82, 78]⟩ : ByteArray), (⟨#[82, 73]⟩ : ByteArray), (⟨#[76, 76]⟩ : ByteArray), (⟨#[73, 48]⟩ : ByteArray), (⟨#[73, 82]⟩ : ByteArray), (⟨#[76, 48]⟩ : ByteArray), (⟨#[76, 48]⟩ : ByteArray), (⟨#[88]⟩ : ByteArray), (⟨#[]⟩ : ByteArray)] : List ByteArray))] (.s (.v .str c2)) [.box (.pr (.sl (.int .u8)) (.pr (.int .i64) (.int .u64))) c2o0]]) (by kernel_rfl) ⟨h1, h2, trivial⟩ get_spec_DrawKindLength (by decide)

/-! ### spec_KindLength -/


theorem spec_KindLength_p1 (a0 : ByteArray) (a1 : ByteArray) (c1a : Int) (c1b : Bool)
    (h1 : SC cfg.P i_spec_lnTable [.s (.v .str a0), .s (.v .str a1)] (.tup [.v (.int .i64) c1a, .v .bool c1b]) []) :
    SC cfg.P i_spec_KindLength [.s (.v .str a0), .s (.v .str a1)] (.tup [.v (.int .i64) c1a, .v .bool c1b]) [] :=
  SC_of_run cfgOK (its := [.res (.tup [.v (.int .i64) c1a, .v .bool c1b]) [] [] []])
    (ps := [SC cfg.P i_spec_lnTable [.s (.v .str a0), .s (.v .str a1)] (.tup [.v (.int .i64) c1a, .v .bool c1b]) []]) (by kernel_rfl) ⟨h1, trivial⟩ get_spec_KindLength (by decide)

end Go.AI
