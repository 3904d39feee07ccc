/- From a contract to a row. -/
import Derived.Test.YtmoodcnoncipiaaAiBase
import Derived.WalkKit
import Derived.ProofKit
import Derived.OpenShut
import Derived.ShutString
import Derived.Lib.SmallJoins
set_option autoImplicit false
set_option linter.unusedVariables false
namespace Go.AI

theorem Fr.kept {w w' : World} (h : Fr w [] w') : w.keptBut w' (fun _ => False) := by
  refine ⟨h.os, h.output, fun i hi => ?_⟩
  have e := h.block i hi (fun v hv => by cases hv)
  rw [e]
  cases w.heap[i]? with
  | none => rfl
  | some o =>
    cases o <;> first | exact ⟨rfl, rfl, rfl, fun _ _ => rfl⟩ | exact Or.inr ⟨rfl, rfl⟩ | rfl

/-- The call of a law over plain arguments. -/
theorem SC.law {P : Program} {f : FuncId} {args : List AV} {vs : List Value} {w : World} (h : SC P f args (.s (.v .bool true)) []) (ha : ArgRep w (fun b => b < w.heap.size) args vs []) :
    Calls P f vs.toArray w fun e w' => e = .returned (.bool true) ∧ Fr w [] w' :=
  (h.2 w (fun b => b < w.heap.size) vs [] (fun b hb v hv => by cases hv) List.Pairwise.nil ha).mono fun e w' ⟨v, os, he, hf, _, _, hr, _⟩ => by
    have : v = .bool true := RepV.bool hr.1
    subst this
    exact ⟨he, hf⟩

theorem post_of_kept {H : Type} {enc : TypeId × Value → H} {P : Program} {f : Func} {s : ChangeSpec} {apart fresh handsOn : Bool} {W W' : World} {args : Array Value} {v : Value} {ds gs : List (DataW H)} {before pa pv : List MemPlace}
    (hW : DataW.Whole enc P f.params.toList s.vars apart W args.toList ds gs before)
    (hres : ∀ (b : Nat) (sp : Nat → Bool) (hd : Bool), DataW.TrodAll enc P W' b sp hd f.resultTypes.toList (v.resultList f.resultTypes.size) (s.fn H (ds ++ gs)).results [])
    (hargs : ∀ sp : Nat → Bool, (∀ p ∈ before, sp p.block = true) → DataW.TrodAll enc P W' 0 sp true f.params.toList args.toList (s.fn H (ds ++ gs)).args pa)
    (hvars : ∀ sp : Nat → Bool, (∀ p ∈ before, sp p.block = true) → DataW.TrodVars enc P W' sp s.vars (s.fn H (ds ++ gs)).vars pv)
    (hps : before = pa ++ pv) (hk : W.keptBut W' (fun _ => False)) :
    s.post enc P f apart fresh handsOn false W args v W' := by
  have hold : ∀ p ∈ before, (fun b => decide (b < W.heap.size)) p.block = true := fun p hp => by simpa using hW.lt p hp
  exact ⟨ds, gs, before, [], pa, pv, hW, hres _ _ _, hargs _ hold, hvars _ hold, World.keptBut_mono (fun p hp => hp.elim) hk, fun h => by cases h⟩

theorem RepV.mk_ss {w : World} {B : Nat → Prop} (a b : ByteArray) : RepV w B (.pr .str .str) (a, b) (.agg #[.string a, .string b]) := ⟨[.string a, .string b], ⟨[.string a], [.string b], rfl, rfl, rfl⟩, rfl⟩

end Go.AI
