/- From the library's contracts to the interpreter's. -/
import Derived.Test.YtcbhdileamhklaaAiG
set_option autoImplicit false
set_option linter.unusedVariables false
namespace Go.AI

theorem Fr.same (w : World) (mv : List Value) : Fr w mv w := ⟨rfl, rfl, rfl, Nat.le_refl _, fun _ _ _ => rfl⟩

/-- A call that leaves the world as it was and hands a plain value back. -/
theorem SC_same {P : Program} {f : FuncId} {args : List AV} {vs0 : List Value} {r : SV} {v0 : Value} (hc : Callable P f)
    (ha : ∀ w B vs mv, ArgRep w B args vs mv → vs = vs0 ∧ mv = []) (hr : ∀ w B N, ResS w B N r v0 [])
    (h : ∀ w, Calls P f vs0.toArray w fun e w' => e = .returned v0 ∧ w' = w) : SC P f args (.s r) [] := by
  refine ⟨hc, fun w B vs mv hB hd hA => ?_⟩
  obtain ⟨rfl, rfl⟩ := ha _ _ _ _ hA
  exact (h w).mono fun e w' ⟨he, hw⟩ => ⟨v0, [], he, hw ▸ Fr.same w [], List.nodup_nil, by simp, hr _ _ _, rfl⟩

theorem args_str_int {k : IntKind} {s : ByteArray} {c : Int} (w : World) (B : Nat → Prop) (vs mv : List Value) (h : ArgRep w B [.s (.v .str s), .s (.v (.int k) c)] vs mv) : vs = [.string s, .int k c] ∧ mv = [] := by
  obtain ⟨u, us, rfl, hu, u', us', rfl, hu', rfl, rfl⟩ := h
  have e1 : u = .string s := RepV.str hu
  have e2 : u' = .int k c := RepV.int hu'
  rw [e1, e2]
  exact ⟨rfl, rfl⟩

theorem SC_str_byte {P : Program} {f : FuncId} {s : ByteArray} {c n : Int} (hc : Callable P f)
    (h : ∀ w, Calls P f #[.string s, .int .u8 c] w fun e w' => e = .returned (.int .i64 n) ∧ w' = w) : SC P f [.s (.v .str s), .s (.v (.int .u8) c)] (.s (.v (.int .i64) n)) [] :=
  SC_same hc args_str_int (fun w B N => ⟨RepV.mk_int _ _, rfl⟩) h

end Go.AI
