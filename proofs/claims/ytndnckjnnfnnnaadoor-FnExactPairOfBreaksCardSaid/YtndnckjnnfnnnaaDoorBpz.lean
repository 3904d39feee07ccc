/- 'laws.FnExactPairOfBreaks' returns true for every input, and the input reads as it did. -/
import Derived.Test.YtndnckjnnfnnnaaDoorJO
import Derived.Test.YtndnckjnnfnnnaaDoorAiH
import Derived.Test.YtndnckjnnfnnnaaDoorRows
import Derived.Test.YtndnckjnnfnnnaaDoorCards
import Derived.Test.YtndnckjnnfnnnaaDoorTie
import Derived.LaidMore
import Derived.Lay
import Derived.SevenTiedAt
import Derived.Stop.Joined
set_option linter.unusedVariables false
namespace Go.Proofs.YtndnckjnnfnnnaaDoor.fnExactPairOfBreaks
open Go.ChangeShapes Go.WideShapes Go.ChangeAt Go.RowKit Go.Joins
open Go.ChangeMaps (open_string shut_string)

theorem own : ownKnob Tryd.prog.godebug = none := by kernel_rfl
theorem laidOut : laidOutB Tryd.prog = true := by kernel_rfl
theorem cells37 : Tryd.prog.cellsOf 37 = 2 := by kernel_rfl
theorem cells3 : Tryd.prog.cellsOf 3 = 1 := by kernel_rfl
theorem walk (w : World)  (a0 : List (Int × Int)) (u0 : Value) (a1 : List (Int × Int)) (u1 : Value) (ra0 : Go.AI.RepV w (fun b => b < w.heap.size) (.sl (.pr (.int .i64) (.int .i64))) a0 u0) (wa0 : a0.length ≤ maxLen) (ra1 : Go.AI.RepV w (fun b => b < w.heap.size) (.sl (.pr (.int .i64) (.int .i64))) a1 u1) (wa1 : a1.length ≤ maxLen) :
    Calls Tryd.prog 3 #[u0, u1] w fun e w' => e = .returned (.bool true) ∧ Go.AI.Fr w [] w' :=
  Go.AI.SC.law (Go.AI.law_Pb a0 a1 wa0 wa1)  ⟨_, _, rfl, ra0, ⟨_, _, rfl, ra1, rfl, rfl⟩⟩

set_option maxRecDepth 100000 in
theorem lifted (os : Os) (started : os.Started) (H : Type) (enc : TypeId × Value → H) :
    ReturnsInHanded {} Tryd.checked os 3 .any (fun w args => (Rows.fnExactPairOfBreaksSpec.pre enc Tryd.prog Tryd.f3 Rows.fnExactPairOfBreaksRow.domain false w args ∧ laidMetH Tryd.prog Rows.fnExactPairOfBreaksRow.laid w) ∧ sizedMet enc Tryd.prog Tryd.f3 (OpenSpec.ofChange Rows.fnExactPairOfBreaksSpec) false w args)
      (Rows.fnExactPairOfBreaksSpec.post enc Tryd.prog Tryd.f3 false true false false) := by
  refine returnsInHanded_of_change_and (C := Tryd.checked) (X := fun w _ => laidMetH Tryd.prog Rows.fnExactPairOfBreaksRow.laid w) (fun _ _ _ hh h => h.of_heap hh) own started (by kernel_rfl) Tryd.func3
    (ChangeSpec.witness_shaped (enc := enc) (C := Tryd.checked) (os := os) (X := fun w _ => laidMetH Tryd.prog Rows.fnExactPairOfBreaksRow.laid w) false (World.laidAll Tryd.prog os Rows.fnExactPairOfBreaksRow.laid) #[.slice none 0 0, .slice none 0 0] 8 (World.laidAll_os _ _ _)
      (World.shaped_of_ZipB (by kernel_rfl) (by kernel_rfl)) (by kernel_rfl) (by kernel_rfl) (by kernel_rfl)
      (by rw [MakeChecks.laidMetH_plain _ _ _ (by kernel_rfl)]; exact laidMet_laidAll _ (by kernel_rfl) (by kernel_rfl))) ?_
  intro W base args ds gs before hval0 hW hcnd _ hL _
  have hval : ∀ (j : Nat) t v, Tryd.f3.params[j]? = some t → args[j]? = some v → Value.okWide Tryd.prog W .any base t v := hval0
  have hW' := hW
  obtain ⟨p, q, hA0, hV, rfl, hfz, hnd⟩ := hW
  have hA : DataW.TrodAll enc Tryd.prog W 0 (fun _ => true) true Tryd.f3.params.toList args.toList ds p := hA0
  rw [Tryd.params3] at hA hval
  obtain ⟨v0, vs0, d0, ds0, p0, q0, hargs0, rfl, rfl, h0, r0⟩ := trodAll_cons hA
  obtain ⟨v1, vs1, d1, ds1, p1, q1, hargs1, rfl, rfl, h1, r1⟩ := trodAll_cons r0
  obtain ⟨rfl, rfl, rfl⟩ := trodAll_nil r1
  obtain rfl : args = #[v0, v1] := by cases args; simp_all
  obtain ⟨rfl, rfl⟩ := trodVars_none hV
  have k0 := h0
  have k1 := h1
  obtain ⟨a0, ra0, wa0, sa0⟩ := Go.AI.arg_fracs Tryd.underlying22 Tryd.underlying37 cells37 rfl rfl Tryd.underlying3 Tryd.underlying3 cells3 cells3 (hval 0 22 v0 rfl rfl) h0
  obtain ⟨a1, ra1, wa1, sa1⟩ := Go.AI.arg_fracs Tryd.underlying22 Tryd.underlying37 cells37 rfl rfl Tryd.underlying3 Tryd.underlying3 cells3 cells3 (hval 1 22 v1 rfl rfl) h1
  clear hA0 hval0
  simp only [List.append_nil] at hW'
  have hlt : ∀ x ∈ (p0 ++ p1), x.block < W.heap.size := fun x hx => by simpa using hW'.lt x (by simpa using hx)
  refine (walk W  a0 v0 a1 v1 ra0 wa0 ra1 wa1).mono fun e W' ⟨he, hg⟩ => ?_
  subst he
  exact ⟨_, rfl, Go.AI.post_of_below (pv := []) hW' (fun _ _ _ => (trodAll_cons_mk (shut_bool Tryd.underlying4 _) trodAll_mk0)) (trodAll_cons_mk (Below.trod laidOut (by kernel_rfl) (of_decide_eq_true (by kernel_rfl)) k0 hg.below (fun x hx => hlt x (by simp [hx]))) (trodAll_cons_mk (Below.trod laidOut (by kernel_rfl) (of_decide_eq_true (by kernel_rfl)) k1 hg.below (fun x hx => hlt x (by simp [hx]))) trodAll_mk0)) (fun _ _ => rfl) (by simp)
    hg.kept⟩

theorem over : Rows.fnExactPairOfBreaksRow.holds Tryd.pinned (OpenSpec.ofChange Rows.fnExactPairOfBreaksSpec) :=
  OpenClaim.holds_of_wide 3 Tryd.f3 rfl rfl rfl rfl rfl rfl rfl ⟨rfl, rfl, rfl, rfl, rfl⟩ rfl rfl rfl rfl rfl (by kernel_rfl) Tryd.func3 (by kernel_rfl)
    (of_decide_eq_true (by kernel_rfl)) (by unfold Func.isWrapper; first | (rw [if_pos (by decide +kernel)]; kernel_rfl) | (rw [if_neg (by decide +kernel)]; exact ⟨rfl, rfl⟩))
    (fun os started H enc _ => lifted os started H enc)

theorem proved : Rows.FnExactPairOfBreaksCardSaid :=
  Claim7.holds_tied_plain_at .later [] [.data, .data, .data] true (true, "43c977dee91a090aa9575241712dd91800bcd76c58646b6da2d0a7fb93200957") false
    over (fun _ h => by cases h) (by kernel_rfl) (fun _ h => by cases h) fnExactPairOfBreaks_row_tie rfl ⟨rfl, rfl⟩ (by kernel_rfl) rfl
    (fun f fn hf hfn => by
      obtain rfl : f = 3 := Option.some.inj ((show Tryd.prog.funcNamed "loop.example/g01161/laws.FnExactPairOfBreaks" = some 3 by kernel_rfl).symm.trans hf) |>.symm
      obtain rfl : fn = Tryd.f3 := (Option.some.inj (Tryd.func3.symm.trans hfn)).symm
      exact ⟨by kernel_rfl, fun j t ht => by
        rw [Tryd.params3] at ht
        have hm : t ∈ [22, 22] := by simpa using Array.mem_of_getElem? ht
        have hall : ([22, 22].all fun u => !Tryd.prog.wantsStandIn u) = true := by kernel_rfl
        exact (show Tryd.prog.wantsStandIn t = false by simpa using List.all_eq_true.1 hall t hm)⟩)
    (by kernel_rfl)
#print axioms proved
end Go.Proofs.YtndnckjnnfnnnaaDoor.fnExactPairOfBreaks
