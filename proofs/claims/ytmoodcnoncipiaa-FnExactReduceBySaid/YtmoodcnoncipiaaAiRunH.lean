/- A function's run is its contract. -/
import Derived.Test.YtmoodcnoncipiaaAiRunG
set_option autoImplicit false
set_option linter.unusedVariables false
set_option linter.unusedSimpArgs false
namespace Go.AI

variable {C : Cfg} {X : Ctx} {a : Act} {w w' : World} {B : Nat → Prop} {γ : Nat → Value}

theorem outs_pm {st : St} : ∀ {as : List AV} {vs mv : List Value} {B0 : Nat → Prop} {i : Nat} {os : List MO}, ArgRep w B0 as vs mv → outsOf st i as = some os → (∀ t v, (t, v) ∈ pmOf i as vs → ∃ o, st.ob.obj t = some o ∧ ((∀ e k l ver z, o = .row e k l ver z → ver = 0) → γ t = v)) →
    (∀ t v, (t, v) ∈ pmOf i as vs → t < i + as.length ∧ ∃ o, st.ob.obj t = some o ∧ o.frz = false ∧ γ t = v) ∧
    ((∀ t o, st.ob.obj t = some o → ObRep w' B (γ t) o) → MOsAt w' B os mv)
  | [], vs, mv, B0, i, os, h, he, hp => by
    simp only [outsOf, Option.some.injEq] at he
    subst he
    exact ⟨fun t v ht => by simp [pmOf] at ht, fun _ => h.2⟩
  | x :: as, vs, mv, B0, i, os, h, he, hp => by
    obtain ⟨u, us, m, rfl, rfl, h3, h4⟩ := h.cons
    have hrest : ∀ {os'}, outsOf st (i + 1) as = some os' → (∀ t v, (t, v) ∈ pmOf (i + 1) as us → t < i + (x :: as).length ∧ ∃ o, st.ob.obj t = some o ∧ o.frz = false ∧ γ t = v) ∧
        ((∀ t o, st.ob.obj t = some o → ObRep w' B (γ t) o) → MOsAt w' B os' m) := fun {os'} he' => by
      have := outs_pm h4 he' (fun t v ht => hp t v (by
        simp only [pmOf]
        split
        · exact List.mem_cons_of_mem _ ht
        · exact ht))
      refine ⟨fun t v ht => ?_, this.2⟩
      obtain ⟨h1, h2⟩ := this.1 t v ht
      exact ⟨by simp only [List.length_cons]; omega, h2⟩
    cases hm : isMut x with
    | false =>
      have he' : outsOf st (i + 1) as = some os := by
        cases x
        · rename_i x
          cases x <;> simp only [isMut, Bool.true_eq_false] at hm <;> exact he
        · exact he
        · exact he
      have := hrest he'
      simp only [pmOf, hm, Bool.false_eq_true, if_false, List.nil_append]
      exact this
    | true =>
      have hpi : ∃ o, st.ob.obj i = some o ∧ ((∀ e k l ver z, o = .row e k l ver z → ver = 0) → γ i = u) := hp i u (by simp [pmOf, hm])
      have key : ∃ mo os' o, os = mo :: os' ∧ outsOf st (i + 1) as = some os' ∧ st.ob.obj i = some o ∧ o.frz = false ∧ γ i = u ∧ ((ObRep w' B (γ i) o) → MOAt w' B mo (γ i)) := by
        cases x <;> simp only [isMut, Bool.false_eq_true] at hm
        rename_i x
        cases x <;> simp only [isMut, Bool.false_eq_true] at hm
        · simp only [outsOf] at he
          split at he
          · rename_i k x os' ho hos
            simp only [Option.some.injEq] at he
            obtain ⟨o, ho', hv⟩ := hpi
            have ho2 : st.ob.obj i = some (.box k x false) := ho
            rw [ho2] at ho'
            cases ho'
            exact ⟨_, os', _, he.symm, hos, ho2, rfl, hv (by intros; simp_all), fun h => h⟩
          · cases he
        · simp only [outsOf] at he
          split at he
          · rename_i e k l os' ho hos
            simp only [Option.some.injEq] at he
            obtain ⟨o, ho', hv⟩ := hpi
            have ho2 : st.ob.obj i = some (.row e k l 0 false) := ho
            rw [ho2] at ho'
            cases ho'
            exact ⟨_, os', _, he.symm, hos, ho2, rfl, hv (fun e k l ver z h => by cases h; rfl), fun h => h⟩
          · cases he
      obtain ⟨mo, os', o, rfl, hos, ho, hz, hγ, hmo⟩ := key
      obtain ⟨h1, h2⟩ := hrest hos
      refine ⟨fun t v ht => ?_, fun hob => ?_⟩
      · simp only [pmOf, hm, if_true] at ht
        rcases List.mem_cons.1 ht with e | e
        · cases e
          exact ⟨by simp only [List.length_cons]; omega, o, ho, hz, hγ⟩
        · exact h1 t v e
      · simp only [if_true, List.singleton_append]
        exact ⟨u, m, rfl, hγ ▸ hmo (hob i o ho), h2 hob⟩

theorem ownBlocks_nodup : ∀ {D : List Nat}, D.Nodup → (∀ i ∈ D, ∀ j ∈ D, i ≠ j → ∀ b, blk (γ i) = some b → blk (γ j) ≠ some b) → (ownBlocks γ D).Nodup
  | [], _, _ => List.nodup_nil
  | i :: D, hn, h => by
    rw [List.nodup_cons] at hn
    have ih := ownBlocks_nodup hn.2 fun j hj k hk => h j (List.mem_cons_of_mem _ hj) k (List.mem_cons_of_mem _ hk)
    unfold ownBlocks at ih ⊢
    rw [List.filterMap_cons]
    split
    · exact ih
    · rename_i b hb
      rw [List.nodup_cons]
      refine ⟨fun hm => ?_, ih⟩
      obtain ⟨j, hj, hjb⟩ := List.mem_filterMap.1 hm
      exact h i (by simp) j (List.mem_cons_of_mem _ hj) (fun e => hn.1 (e ▸ hj)) b hb hjb

/-- **A RUN IS A CONTRACT.** -/
theorem SC_of_run (hC : CfgOK C) {f : FuncId} {fn : Func} {args : List AV} {its : List It} {r : AV} {outs : List MO} {ps : List Prop} (h : arun C f fn args its = some (r, outs, ps)) (hp : All ps)
    (hf : C.P.funcs[f]? = some fn) (hn : fn.name ≠ "runtime.NumGoroutine") : SC C.P f args r outs := by
  unfold arun at h
  split at h
  · cases h
  · rename_i c hb
    have key : ∃ e st, (e = .normal ∨ e = .ret) ∧ aexec C f args.length c its (start fn args) [] = some (e, [], st, ps) ∧ resOf C st args.length fn.results.toList = some r ∧ outsOf st 0 args = some outs := by
      split at h
      · rename_i st lg he
        split at h
        · rename_i r' outs' hr ho
          simp only [Option.some.injEq, Prod.mk.injEq] at h
          obtain ⟨rfl, rfl, rfl⟩ := h
          exact ⟨_, st, .inl rfl, he, hr, ho⟩
        · cases h
      · rename_i st lg he
        split at h
        · rename_i r' outs' hr ho
          simp only [Option.some.injEq, Prod.mk.injEq] at h
          obtain ⟨rfl, rfl, rfl⟩ := h
          exact ⟨_, st, .inr rfl, he, hr, ho⟩
        · cases h
      · cases h
    obtain ⟨e, st, hex, he, hr, ho⟩ := key
    refine ⟨⟨fn, hf, by rw [hb]; rfl, hn⟩, fun w B vs mv hB hd harg => calls_of_wp hf hb ?_⟩
    obtain ⟨qs, e1, hs⟩ := exec_sound hC he
    rw [List.nil_append] at e1
    subst e1
    have hI := start_inv (fn := fn) hB hd harg
    have hlen := harg.length
    refine wp_mono (hs hp (ctxOf w B args vs) _ w (fun iv hiv => ?_) ⟨_, hI⟩) fun e' a' w' ⟨he', γ, hI'⟩ => ?_
    · obtain ⟨j, x, h1, h2, h3, h4⟩ := (mem_pmOf (v := iv.2) (t := iv.1) hlen.symm).1 hiv
      rw [h1, Nat.zero_add]
      exact (List.getElem?_eq_some_iff.1 h2).1
    · have hmv : (ctxOf w B args vs).mv = mv := harg.pm 0
      obtain ⟨hpm, hmo⟩ := outs_pm (w' := w') (B := Bs (ctxOf w B args vs) st.ob γ) harg ho (fun t v ht => hI'.pm t v ht)
      obtain ⟨D, v, hE, hnd, hrun, hres⟩ := resOf_sound hC (np := args.length) hI' hr (fun i v hiv => by simpa using hpm i v hiv)
      have hMO := hmo fun t o hto => hI'.ob t o hto
      have hend : ∃ os, Fr w mv w' ∧ os.Nodup ∧ (∀ b ∈ os, w.heap.size ≤ b) ∧ ResA w' (After w B os) w.heap.size r v os ∧ MOsAt w' (After w B os) outs mv := by
        refine ⟨ownBlocks γ D, hmv ▸ hI'.fr, ?_, fun b hb => ?_, hres, ?_⟩
        · refine ownBlocks_nodup hnd fun i hi j hj hij b hb => ?_
          obtain ⟨_, _, _, _, _, o1⟩ := hE.own i hi
          obtain ⟨_, _, _, _, _, o2⟩ := hE.own j hj
          exact hI'.dj i j _ _ b o1 o2 hij hb
        · obtain ⟨i, hi, hib⟩ := List.mem_filterMap.1 hb
          obtain ⟨h1, _, _, _, _, o1⟩ := hE.own i hi
          exact hE.fresh hI' o1 (.inl h1) hib
        · have hkeep : ∀ (os : List MO) (us : List Value), MOsAt w' (Bs (ctxOf w B args vs) st.ob γ) os us → MOsAt w' (After w B (ownBlocks γ D)) os us := by
            have K : Keeps w' w' (Bs (ctxOf w B args vs) st.ob γ) (After w B (ownBlocks γ D)) := Keeps.of_sub fun b hb => hE.bs hb
            intro os
            induction os with
            | nil => intro us h; exact h
            | cons m os ih =>
              intro us ⟨u, us', e, h1, h2⟩
              refine ⟨u, us', e, ?_, ih us' h2⟩
              cases m
              · exact BoxAt.keep K h1 fun b _ => rfl
              · exact OwnRow.keep K h1 fun b _ => rfl
          exact hkeep _ _ hMO
      obtain ⟨os, h1, h2, h3, h4, h5⟩ := hend
      subst he'
      rcases hex with rfl | rfl
      · exact ⟨hI'.df, v, hrun, v, os, rfl, h1, h2, h3, h4, h5⟩
      · exact ⟨hI'.df, v, hrun, v, os, rfl, h1, h2, h3, h4, h5⟩

end Go.AI
