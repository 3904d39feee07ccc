/- Walk by hand: the law of MovedIntervals. -/
import Derived.Test.YtlkjnlhpdjbjdaaCwQ
set_option autoImplicit false
set_option maxRecDepth 100000
set_option linter.unusedVariables false
namespace Go.AI
open Go.Proofs Go.RowKit

def LPost (w : World) (e : Ending) (w' : World) : Prop := e = .returned (.bool true) ∧ Fr w [] w'

set_option maxHeartbeats 1600000 in
set_option maxRecDepth 1000000 in
theorem lawMI_in (x y : ByteArray) (l : List Iv) (ok : Bool) (hl : l.length ≤ 2 ^ 30) (c : Int) (hc : 0 ≤ c)
    (hSz : SC cfg.P i_laws_szPair [.s (.v (.pr .str .str) (x, y)), .s (.v (.int .i64) (1048576 : Int))] (.s (.v (.int .i64) c)) [])
    (hSp : SC cfg.P i_spec_MovedIntervals [.s (.v (.pr .str .str) (x, y))] (.tup [.own t_Simpl_Ratio (.sl RK) (ivL l), .v .bool ok]) [])
    (hIm : ∀ w, Calls Try.prog i_impl_MovedIntervals #[.agg #[.string x, .string y]] w (FIpost w ok l)) (w : World) :
    Calls Try.prog i_laws_FnExactMovedIntervals #[.agg #[.string x, .string y]] w (LPost w) := by
  have HSz := Lib.hid hSz
  have HSp := Lib.hid hSp
  have HIm := Lib.hid hIm
  clear hSz hSp hIm
  have hx : ¬ c < 0 := by omega
  go_enter Try.func5, Try.ntmps5
  go_wp2_with (fail)
  refine (szPair_C x y c HSz.out _).mono ?_
  rintro e w1 ⟨rfl, hf⟩
  have HB : Hid (BoxIn w1 w.heap.size x y) := Lib.hid (BoxIn.fr (w := w.alloc (.cells #[.string x, .string y] 23)) (heap_alloc_new w _) hf (fun u hu => by cases hu))
  have HF := Lib.hid (((Fr.refl' w).alloc' (.cells #[.string x, .string y] 23)).trans' hf)
  clear hf
  have c0 := HB.out.c0
  have c1 := HB.out.c1
  go_wp2_with (fail)
  refine (toPair_C x y _).mono ?_
  rintro e w2 ⟨rfl, hf2⟩
  have HB2 : Hid (BoxIn w2 w.heap.size x y) := Lib.hid (HB.out.fr hf2 (fun u hu => by cases hu))
  have HF2 := Lib.hid (HF.out.trans' hf2)
  clear hf2 c0 c1
  go_wp2_with (fail)
  refine (specTup_C x y l ok HSp.out _).mono ?_
  rintro e w3 ⟨vs, rfl, hf3, hw0⟩
  have HB3 : Hid (BoxIn w3 w.heap.size x y) := Lib.hid (HB2.out.fr hf3 (fun u hu => by cases hu))
  have HF3 := Lib.hid (HF2.out.trans' hf3)
  have HW3 := Lib.hid hw0
  clear hf3 hw0
  have c0 := HB3.out.c0
  have c1 := HB3.out.c1
  go_wp2_with (fail)
  refine (toPair_C x y _).mono ?_
  rintro e w4 ⟨rfl, hf4⟩
  have HB4 : Hid (BoxIn w4 w.heap.size x y) := Lib.hid (HB3.out.fr hf4 (fun u hu => by cases hu))
  have HF4 := Lib.hid (HF3.out.trans' hf4)
  have HW4 := Lib.hid (rep_keepS HW3.out hf4 (fun u hu => by cases hu))
  have HM4 := Lib.hid hf4.size
  clear hf4 c0 c1
  go_wp2_with (fail)
  refine (HIm.out _).mono ?_
  rintro e w5 ⟨g, us, rfl, hf5, hr5⟩
  have HB5 : Hid (BoxIn w5 w.heap.size x y) := Lib.hid (HB4.out.fr hf5 (fun u hu => by cases hu))
  have HF5 := Lib.hid (HF4.out.trans' hf5)
  have HW5 := Lib.hid (rep_keepS HW4.out hf5 (fun u hu => by cases hu))
  have HR5 := Lib.hid hr5
  clear hf5 hr5
  cases ok
  all_goals
    go_wp2_with (fail)
    refine (eqSS_C l hl _ _ _ HR5.out.rep (rep_top HW5.out)).mono ?_
    rintro e w6 ⟨rfl, hf6⟩
    have HB6 : Hid (BoxIn w6 w.heap.size x y) := Lib.hid (HB5.out.fr hf6 (fun u hu => by cases hu))
    have HF6 := Lib.hid (HF5.out.trans' hf6)
    have HW6 := Lib.hid (rep_keepS HW5.out hf6 (fun u hu => by cases hu))
    have HR6 := Lib.hid (HR5.out.fr hf6)
    clear hf6
    go_wp2_with (fail)
    refine (markSS_C l hl _ _ _ _ HR6.out).mono ?_
    rintro e w7 ⟨rfl, hf7, hr7⟩
    have hus := us_ge HR6.out
    have HB7 : Hid (BoxIn w7 w.heap.size x y) := Lib.hid (HB6.out.fr hf7 (fun u hu b hb => by have := hus u hu b hb; have := HB4.out.lt; omega))
    have HF7 : Hid (Fr w [] w7) := Lib.hid ⟨hf7.os.trans HF6.out.os, hf7.tape.trans HF6.out.tape, hf7.output.trans HF6.out.output, Nat.le_trans HF6.out.size hf7.size, fun k hk hm => by
      rw [hf7.block k (Nat.lt_of_lt_of_le hk HF6.out.size) (fun u hu e => by have := hus u hu k e; have := HF4.out.size; omega)]
      exact HF6.out.block k hk hm⟩
    have HW7 := Lib.hid (rep_keepS HW6.out hf7 (fun u hu b hb => by have := hus u hu b hb; have := HM4.out; omega))
    have HR7 := Lib.hid hr7
    have HU := Lib.hid hus
    clear hf7 hr7 hus
    go_wp2_with (fail)
    refine (heldSS_C l.length hl _ _ HR7.out.rep).mono ?_
    rintro e w8 ⟨rfl, hf8⟩
    have HB8 : Hid (BoxIn w8 w.heap.size x y) := Lib.hid (HB7.out.fr hf8 (fun u hu => by cases hu))
    have HF8 := Lib.hid (HF7.out.trans' hf8)
    have HW8 := Lib.hid (rep_keepS HW7.out hf8 (fun u hu => by cases hu))
    have HR8 := Lib.hid (HR7.out.fr hf8)
    clear hf8
    have c0 := HB8.out.c0
    have c1 := HB8.out.c1
    go_wp2_with (fail)
    refine (toPair_C x y _).mono ?_
    rintro e w9 ⟨rfl, hf9⟩
    have HF9 := Lib.hid (HF8.out.trans' hf9)
    have HW9 := Lib.hid (rep_keepS HW8.out hf9 (fun u hu => by cases hu))
    have HR9 := Lib.hid (HR8.out.fr hf9)
    clear hf9 c0 c1
    go_wp2_with (fail)
    refine (HIm.out _).mono ?_
    rintro e w10 ⟨h, vs2, rfl, hf10, hr10⟩
    have HF10 := Lib.hid (HF9.out.trans' hf10)
    have HW10 := Lib.hid (rep_keepS HW9.out hf10 (fun u hu => by cases hu))
    have HR10 := Lib.hid (HR9.out.fr hf10)
    have HH10 := Lib.hid hr10
    clear hf10 hr10
    go_wp2_with (fail)
    refine (eqSS_C l hl _ _ _ HH10.out.rep (rep_top HW10.out)).mono ?_
    rintro e w11 ⟨rfl, hf11⟩
    have HF11 := Lib.hid (HF10.out.trans' hf11)
    have HR11 := Lib.hid (HR10.out.fr hf11)
    clear hf11
    go_wp2_with (fail)
    refine (heldSS_C l.length hl _ _ HR11.out.rep).mono ?_
    rintro e w12 ⟨rfl, hf12⟩
    have HF12 := Lib.hid (HF11.out.trans' hf12)
    clear hf12
    go_wp2_with (fail)
    go_ret
    exact ⟨rfl, HF12.out⟩

set_option maxHeartbeats 1600000 in
set_option maxRecDepth 1000000 in
theorem lawMI_out (x y : ByteArray) (hSz : SC cfg.P i_laws_szPair [.s (.v (.pr .str .str) (x, y)), .s (.v (.int .i64) (1048576 : Int))] (.s (.v (.int .i64) (-1 : Int))) []) (w : World) :
    Calls Try.prog i_laws_FnExactMovedIntervals #[.agg #[.string x, .string y]] w (LPost w) := by
  have HSz := Lib.hid hSz
  clear hSz
  go_enter Try.func5, Try.ntmps5
  go_wp2_with (fail)
  refine (szPair_C x y (-1) HSz.out _).mono ?_
  rintro e w1 ⟨rfl, hf⟩
  have HF := Lib.hid (((Fr.refl' w).alloc' (.cells #[.string x, .string y] 23)).trans' hf)
  clear hf
  go_wp2_with (fail)
  go_ret
  exact ⟨rfl, HF.out⟩

theorem lawMI (x y : ByteArray) (h1 : x.size ≤ 2 ^ 63 - 1) (h2 : y.size ≤ 2 ^ 63 - 1) (w : World) :
    Calls Try.prog i_laws_FnExactMovedIntervals #[.agg #[.string x, .string y]] w fun e w' => e = .returned (.bool true) ∧ Fr w [] w' := by
  obtain ⟨a, rfl⟩ := bs_ex x
  obtain ⟨b, rfl⟩ := bs_ex y
  rw [bs_size] at h1 h2
  by_cases h : a.length + b.length ≤ 1048576
  · exact lawMI_in (bs a) (bs b) (miV a b) (isPair a b) (miV_len a b) _ (by omega) (szPair_in a b h) (specMI_SC a b (by omega) (by omega)) (fun w => MI_C a b (by omega) (by omega) w) w
  · exact lawMI_out (bs a) (bs b) (szPair_out a b h1 h2 h) w

end Go.AI
