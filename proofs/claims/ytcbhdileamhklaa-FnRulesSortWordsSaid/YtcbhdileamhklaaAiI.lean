/- A function's code, statement by statement. -/
import Derived.Test.YtcbhdileamhklaaAiG
set_option autoImplicit false
set_option linter.unusedVariables false
set_option linter.unusedSimpArgs false
namespace Go.AI

variable {C : Cfg} {γ : Nat → Value}

/-- The statements of a code. -/
def flat : Code → List Code
  | .seq x y => flat x ++ flat y
  | c => [c]

/-- From a statement on. -/
def wpL (P : Program) : List Code → (Exit → Act → World → Prop) → Act → World → Prop
  | [], Q, a, w => Q .normal a w
  | c :: cs, Q, a, w => c.wp P (Exit.then (wpL P cs Q) Q) a w

theorem then_mono {K K' : Act → World → Prop} {Q Q' : Exit → Act → World → Prop} (h1 : ∀ a w, K a w → K' a w) (h2 : ∀ e a w, Q e a w → Q' e a w) (e : Exit) (a : Act) (w : World) (h : Exit.then K Q e a w) : Exit.then K' Q' e a w := by
  cases e with
  | normal => exact h1 a w h
  | _ => exact h2 _ a w h

theorem wpL_app {P : Program} : ∀ (xs ys : List Code) (Q : Exit → Act → World → Prop) (a : Act) (w : World), wpL P (xs ++ ys) Q a w → wpL P xs (Exit.then (wpL P ys Q) Q) a w
  | [], ys, Q, a, w, h => h
  | x :: xs, ys, Q, a, w, h => by
    refine wp_mono h fun e a' w' he => ?_
    cases e with
    | normal => exact wpL_app xs ys Q a' w' he
    | _ => exact he

theorem wpL_join {P : Program} : ∀ (xs ys : List Code) (Q' : Exit → Act → World → Prop) {Q : Exit → Act → World → Prop} (a : Act) (w : World), wpL P xs Q' a w → (∀ e a w, Q' e a w → Exit.then (wpL P ys Q) Q e a w) → wpL P (xs ++ ys) Q a w
  | [], ys, Q', Q, a, w, h, hq => hq _ _ _ h
  | x :: xs, ys, Q', Q, a, w, h, hq => by
    refine wp_mono h fun e a' w' he => ?_
    cases e with
    | normal => exact wpL_join xs ys Q' a' w' he hq
    | _ => exact hq _ _ _ he

theorem wpL_flat {P : Program} : ∀ (c : Code) (Q : Exit → Act → World → Prop) (a : Act) (w : World), wpL P (flat c) Q a w → c.wp P Q a w
  | .seq x y, Q, a, w, h => by
    have h1 := wpL_app (flat x) (flat y) Q a w h
    refine wp_seq (wp_mono (wpL_flat x _ a w h1) fun e a' w' he => ?_)
    cases e with
    | normal => exact wpL_flat y Q a' w' he
    | _ => exact he
  | c, Q, a, w, h => by
    cases c with
    | seq x y =>
      have h1 := wpL_app (flat x) (flat y) Q a w h
      refine wp_seq (wp_mono (wpL_flat x _ a w h1) fun e a' w' he => ?_)
      cases e with
      | normal => exact wpL_flat y Q a' w' he
      | _ => exact he
    | _ =>
      refine wp_mono (Q' := Q) h fun e a' w' he => ?_
      cases e <;> exact he

/-- THE CONTRACT OF THE STATEMENTS FROM ONE ON. -/
def RestSC (P : Program) (np : Nat) (cs : List Code) (st : St) (e : AEx) (st' : St) : Prop :=
  ∀ X a w, (∀ iv ∈ X.pm, iv.1 < np) → Inv X st a w → wpL P cs (Post X e st') a w

/-- The statements of a function from one on. -/
def rest (f : Func) (k : Nat) : List Code := match f.body with
  | some c => (flat c).drop k
  | none => []

/-- So many statements from one on. -/
def seg (f : Func) (k m : Nat) : List Code := (rest f k).take m

theorem rest_at (f : Func) (k m : Nat) : rest f k = seg f k m ++ rest f (k + m) := by
  unfold seg rest
  cases f.body with
  | none => simp
  | some c =>
    simp only
    rw [← List.drop_drop, List.take_append_drop]

def aexecL (C : Cfg) (f : FuncId) (np : Nat) : List Code → List It → St → List Prop → Option (AEx × List It × St × List Prop)
  | [], its, st, lg => some (.normal, its, st, lg)
  | c :: cs, its, st, lg => match aexec C f np c its st lg with
    | some (.normal, its', st', lg') => aexecL C f np cs its' st' lg'
    | r => r

theorem execL_sound (hC : CfgOK C) {f : FuncId} {np : Nat} : ∀ {cs : List Code} {its its' : List It} {st st' : St} {lg lg' : List Prop} {e : AEx}, aexecL C f np cs its st lg = some (e, its', st', lg') →
    ∃ ps, lg' = lg ++ ps ∧ (All ps → ∀ X a w, (∀ iv ∈ X.pm, iv.1 < np) → Inv X st a w → wpL C.P cs (Post X e st') a w)
  | [], its, its', st, st', lg, lg', e, h => by
    simp only [aexecL, Option.some.injEq, Prod.mk.injEq] at h
    obtain ⟨rfl, rfl, rfl, rfl⟩ := h
    exact ⟨[], by simp, fun _ X a w _ hI => ⟨rfl, hI⟩⟩
  | c :: cs, its, its', st, st', lg, lg', e, h => by
    simp only [aexecL] at h
    split at h
    · rename_i its1 st1 lg1 h1
      obtain ⟨ps, e1, hs1⟩ := exec_sound hC h1
      obtain ⟨qs, e2, hs2⟩ := execL_sound hC h
      refine ⟨ps ++ qs, by rw [e2, e1, List.append_assoc], fun hp X a w hpm hI => ?_⟩
      refine wp_mono (hs1 hp.parts.1 X a w hpm hI) fun e' a' w' ⟨he, hI'⟩ => ?_
      subst he
      exact hs2 hp.parts.2 X a' w' hpm hI'
    · rename_i hne
      obtain ⟨ps, e1, hs1⟩ := exec_sound hC h
      refine ⟨ps, e1, fun hp X a w hpm hI => ?_⟩
      refine wp_mono (hs1 hp X a w hpm hI) fun e' a' w' ⟨he, hI'⟩ => ?_
      subst he
      cases e with
      | normal => exact absurd h (hne _ _ _)
      | ret => exact ⟨rfl, hI'⟩
      | exit id => exact ⟨rfl, hI'⟩

/-- Statements, and on. -/
theorem rest_next (hC : CfgOK C) {f : FuncId} {fn : Func} {np k m : Nat} {its : List It} {st st1 st2 : St} {e : AEx} {ps : List Prop}
    (h : aexecL C f np (seg fn k m) its st [] = some (.normal, [], st1, ps)) (hp : All ps) (hn : RestSC C.P np (rest fn (k + m)) st1 e st2) : RestSC C.P np (rest fn k) st e st2 := by
  obtain ⟨qs, e1, hs⟩ := execL_sound hC h
  rw [List.nil_append] at e1
  subst e1
  intro X a w hpm hI
  rw [rest_at fn k m]
  exact wpL_join _ _ _ a w (hs hp X a w hpm hI) fun e' a' w' ⟨he, hI'⟩ => by
    subst he
    exact hn X a' w' hpm hI'

/-- Statements of which one leaves. -/
theorem rest_ret (hC : CfgOK C) {f : FuncId} {fn : Func} {np k m : Nat} {its : List It} {st st1 : St} {ps : List Prop}
    (h : aexecL C f np (seg fn k m) its st [] = some (.ret, [], st1, ps)) (hp : All ps) : RestSC C.P np (rest fn k) st .ret st1 := by
  obtain ⟨qs, e1, hs⟩ := execL_sound hC h
  rw [List.nil_append] at e1
  subst e1
  intro X a w hpm hI
  rw [rest_at fn k m]
  exact wpL_join _ _ _ a w (hs hp X a w hpm hI) fun e' a' w' ⟨he, hI'⟩ => by
    subst he
    exact ⟨rfl, hI'⟩

theorem rest_end {P : Program} {fn : Func} {np k : Nat} {st : St} (hk : (rest fn k).isEmpty = true) : RestSC P np (rest fn k) st .normal st := by
  intro X a w hpm hI
  rw [List.isEmpty_iff.1 hk]
  exact ⟨rfl, hI⟩

/-- **THE STATEMENTS' CONTRACT IS THE CALL'S.** -/
theorem SC_of_rest (hC : CfgOK C) {f : FuncId} {fn : Func} {args : List AV} {r : AV} {outs : List MO} {st : St} (hs0 : RestSC C.P args.length (rest fn 0) (start fn args) .ret st)
    (hr : resOf C st args.length fn.results.toList = some r) (ho : outsOf st 0 args = some outs) (hbd : fn.body.isSome = true)
    (hf : C.P.funcs[f]? = some fn) (hn : fn.name ≠ "runtime.NumGoroutine") : SC C.P f args r outs := by
  obtain ⟨c, hb⟩ := Option.isSome_iff_exists.1 hbd
  have hs : ∀ X a w, (∀ iv ∈ X.pm, iv.1 < args.length) → Inv X (start fn args) a w → c.wp C.P (Post X .ret st) a w := fun X a w h1 h2 => by
    have := hs0 X a w h1 h2
    have e : rest fn 0 = flat c := by unfold rest; rw [hb]; rfl
    rw [e] at this
    exact wpL_flat c _ a w this
  refine ⟨⟨fn, hf, by rw [hb]; rfl, hn⟩, fun w B vs mv hB hd harg => calls_of_wp hf hb ?_⟩
  have hI := start_inv (fn := fn) hB hd harg
  have hlen := harg.length
  refine wp_mono (hs (ctxOf w B args vs) _ w (fun iv hiv => ?_) ⟨_, hI⟩) fun e' a' w' ⟨he', γ, hI'⟩ => ?_
  · obtain ⟨j, x, h1, h2, h3, h4⟩ := (mem_pmOf (v := iv.2) (t := iv.1) hlen.symm).1 hiv
    rw [h1, Nat.zero_add]
    exact (List.getElem?_eq_some_iff.1 h2).1
  · have hmv : (ctxOf w B args vs).mv = mv := harg.pm 0
    obtain ⟨hpm, hmo⟩ := outs_pm (w' := w') (B := Bs (ctxOf w B args vs) st.ob γ) harg ho (fun t v ht => hI'.pm t v ht)
    obtain ⟨D, v, hE, hnd, hrun, hres⟩ := resOf_sound hC (np := args.length) hI' hr (fun i v hiv => by simpa using hpm i v hiv)
    have hMO := hmo fun t o hto => hI'.ob t o hto
    have hend : ∃ os, Fr w mv w' ∧ os.Nodup ∧ (∀ b ∈ os, w.heap.size ≤ b) ∧ ResA w' (After w B os) w.heap.size r v os ∧ MOsAt w' (After w B os) outs mv := by
      refine ⟨ownBlocks γ D, hmv ▸ hI'.fr, ?_, fun b hb => ?_, hres, ?_⟩
      · refine ownBlocks_nodup hnd fun i hi j hj hij b hb => ?_
        obtain ⟨_, _, _, _, _, o1⟩ := hE.own i hi
        obtain ⟨_, _, _, _, _, o2⟩ := hE.own j hj
        exact hI'.dj i j _ _ b o1 o2 hij hb
      · obtain ⟨i, hi, hib⟩ := List.mem_filterMap.1 hb
        obtain ⟨h1, _, _, _, _, o1⟩ := hE.own i hi
        exact hE.fresh hI' o1 (.inl h1) hib
      · have hkeep : ∀ (os : List MO) (us : List Value), MOsAt w' (Bs (ctxOf w B args vs) st.ob γ) os us → MOsAt w' (After w B (ownBlocks γ D)) os us := by
          have K : Keeps w' w' (Bs (ctxOf w B args vs) st.ob γ) (After w B (ownBlocks γ D)) := Keeps.of_sub fun b hb => hE.bs hb
          intro os
          induction os with
          | nil => intro us h; exact h
          | cons m os ih =>
            intro us ⟨u, us', e, h1, h2⟩
            refine ⟨u, us', e, ?_, ih us' h2⟩
            cases m
            · exact BoxAt.keep K h1 fun b _ => rfl
            · exact OwnRow.keep K h1 fun b _ => rfl
            · exact MapAt.keep h1 fun b _ => rfl
        exact hkeep _ _ hMO
    obtain ⟨os, h1, h2, h3, h4, h5⟩ := hend
    subst he'
    exact ⟨hI'.df, v, hrun, v, os, rfl, h1, h2, h3, h4, h5⟩

end Go.AI
