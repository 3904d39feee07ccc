/- Contracts: a word handed back as it came. -/
import Derived.Test.YtdfllkeekehplaaCZa
import Derived.WalkKit
set_option autoImplicit false
set_option maxRecDepth 100000
set_option linter.unusedVariables false
namespace Go.AI
open Go.Proofs

theorem isWord_calls (l : List Int) (hl : l.length ≤ 2 ^ 40) (w : World) (B : Nat → Prop) (v : Value) (hv : RepV w B (.sl (.int .i64)) l v) :
    Calls Try.prog i_impl_IsWord #[v] w fun e w' => e = .returned (.bool (isWd l)) ∧ Fr w [] w' :=
  ((isWord_SC l hl).2 w B [v] [] (fun b hb u hu => by cases hu) List.Pairwise.nil ⟨v, [], rfl, hv, rfl, rfl⟩).mono fun e w' ⟨u, os, he, hf, _, _, hr, _⟩ => by
    have : u = .bool (isWd l) := RepV.bool hr.1
    subst this
    exact ⟨he, hf⟩

theorem madeWord_walk (l : List Int) (hl : l.length ≤ 2 ^ 40) (hw : isWd l = true) (w : World) (B : Nat → Prop) (a : Option Addr) (n c : Nat) (hv : RepV w B (.sl (.int .i64)) l (.slice a n c)) :
    Calls Try.prog i_impl_madeWord #[.slice a n c] w fun e w' => e = .returned (.tuple #[.slice a n c, .bool true]) ∧ Fr w [] w' := by
  have hc := isWord_calls l hl w B _ hv
  rw [hw] at hc
  go_enter Try.func195, Try.ntmps195
  go_wp2_with (go_at_call 254; refine hc.mono ?_; rintro e w' ⟨rfl, hf⟩)
  go_ret2
  exact ⟨rfl, hf⟩

theorem madeWord_SCS (l : List Int) (hl : l.length ≤ 2 ^ 40) (hw : isWd l = true) : SCS cfg.P i_impl_madeWord [.s (.v (.sl (.int .i64)) l)] (.v .bool true) := by
  refine ⟨⟨_, get_impl_madeWord, by decide, by decide⟩, fun w B vs ha => ?_⟩
  obtain ⟨u, us, rfl, hu, hus, _⟩ := ha
  subst hus
  obtain ⟨a, c, flat, rfl, _⟩ := RepV.sl hu
  exact (madeWord_walk l hl hw w B _ _ _ hu).mono fun e w' ⟨he, hf⟩ => ⟨_, _, _, rfl, he, hf, RepV.mk_bool _⟩

end Go.AI
