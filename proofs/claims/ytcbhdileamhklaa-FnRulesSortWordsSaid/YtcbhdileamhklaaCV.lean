/- Rows of the call's own, looked at only. -/
import Derived.Test.YtcbhdileamhklaaAiG
set_option autoImplicit false
set_option linter.unusedVariables false
namespace Go.AI

def viewS : SV → SV
  | .own e k l => .v (.sl k) l
  | x => x

theorem ResS.view {w w' : World} {B : Nat → Prop} {os o1 : List Nat} {x : SV} {u : Value} (h : ResS w' (After w B os) w.heap.size x u o1) (hs : ∀ b ∈ o1, w.heap.size ≤ b) : ResS w' (After w B []) w.heap.size (viewS x) u [] := by
  have hA : ∀ b, After w B os b → After w B [] b := fun b hb => ⟨hb.1, by simp⟩
  have K : Keeps w' w' (After w B os) (After w B []) := Keeps.of_sub hA
  cases x <;> try exact ⟨SVRep.keep K h.1, rfl⟩
  rename_i e k l
  exact ⟨OwnRow.view h.1 hA fun b hb => ⟨.inr (hs b (by rw [h.2, hb]; simp)), by simp⟩, rfl⟩

theorem ResL.view {w w' : World} {B : Nat → Prop} {os : List Nat} : ∀ {xs : List SV} {vs : List Value} {o1 : List Nat}, ResL w' (After w B os) w.heap.size xs vs o1 → (∀ b ∈ o1, w.heap.size ≤ b) → ResL w' (After w B []) w.heap.size (xs.map viewS) vs []
  | [], _, _, ⟨h1, h2⟩, _ => ⟨h1, rfl⟩
  | x :: xs, _, _, ⟨u, us, o1, o2, e1, e2, h1, h2⟩, hs => by
    subst e2
    exact ⟨u, us, [], [], e1, rfl, h1.view fun b hb => hs b (List.mem_append_left _ hb), h2.view fun b hb => hs b (List.mem_append_right _ hb)⟩

/-- All rows of a tuple looked at only. -/
theorem SC.viewT {P : Program} {f : FuncId} {args : List AV} {xs : List SV} {outs : List MO} (h : SC P f args (.tup xs) outs) : SC P f args (.tup (xs.map viewS)) outs := by
  refine ⟨h.1, fun w B vs mv hB hd ha => (h.2 w B vs mv hB hd ha).mono fun ee w' ⟨v, os, he, hf, hn, hos, hr, hm⟩ => ?_⟩
  have hA : ∀ b, After w B os b → After w B [] b := fun b hb => ⟨hb.1, by simp⟩
  obtain ⟨us, e, hr⟩ := hr
  refine ⟨v, [], he, hf, List.nodup_nil, by simp, ⟨us, e, hr.view hos⟩, ?_⟩
  have hkeep : ∀ (os' : List MO) (us : List Value), MOsAt w' (After w B os) os' us → MOsAt w' (After w B []) os' us := by
    have K : Keeps w' w' (After w B os) (After w B []) := Keeps.of_sub hA
    intro os'
    induction os' with
    | nil => intro us h; exact h
    | cons m os' ih =>
      intro us ⟨u, us', e, h1, h2⟩
      refine ⟨u, us', e, ?_, ih us' h2⟩
      cases m
      · exact BoxAt.keep K h1 fun b _ => rfl
      · exact OwnRow.keep K h1 fun b _ => rfl
      · exact MapAt.keep h1 fun b _ => rfl
  exact hkeep _ _ hm

end Go.AI
