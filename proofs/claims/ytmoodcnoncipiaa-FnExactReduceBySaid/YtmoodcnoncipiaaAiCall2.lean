/- A call, met by its contract. -/
import Derived.Test.YtmoodcnoncipiaaAiCall
set_option autoImplicit false
set_option linter.unusedVariables false
set_option linter.unusedSimpArgs false
namespace Go.AI

variable {C : Cfg} {X : Ctx} {sl : List (Option AV)} {ob ob' : Obs} {a : Act} {w w' : World} {γ γ' : Nat → Value} {B B' : Nat → Prop} {o : Oper} {v : Option AV} {ps : List Prop}

theorem SlAL.append : ∀ {xs ys : List AV} {us vs : List Value}, SlAL w B ob γ xs us → SlAL w B ob γ ys vs → SlAL w B ob γ (xs ++ ys) (us ++ vs)
  | [], _, _, _, e, h => by rw [show _ = [] from e]; exact h
  | _ :: _, _, _, _, ⟨u, us, e, h1, h2⟩, h => by rw [e]; exact ⟨u, us ++ _, rfl, h1, h2.append h⟩

theorem SVsRep.slots : ∀ {xs : List SV} {us : List Value}, SVsRep w B xs us → SlAL w B ob γ (xs.map .s) us
  | [], _, e => e
  | _ :: _, _, ⟨u, us, e, h1, h2⟩ => ⟨u, us, e, h1.slot, h2.slots⟩

theorem evArgs_rep (h : InvG X ⟨sl, ob⟩ a w γ) : ∀ {xs : List Operand} {ts : List TypeId} {vs : List AV}, evArgs (ev C sl) xs ts = some vs → SlAL w (Bs X ob γ) ob γ vs (xs.map a.eval)
  | [], _, _, e => by cases e; rfl
  | x :: xs, ts, _, e => by
    simp only [evArgs] at e
    split at e
    · rename_i y ys hy hys
      cases e
      exact ⟨_, _, rfl, ev_rep h hy, evArgs_rep h hys⟩
    · cases e

/-- One object set. -/
theorem setMO_spec {ob1 ob2 : Obs} {j : Nat} {m : MO} (h : setMO ob1 j m = some ob2) : ∃ o o2, ob1.obj j = some o ∧ o.frz = false ∧ ob2 = ob1.setOb j (some o2) ∧ Shape o o2 ∧ o2.frz = false ∧
    (∀ (w : World) (B : Nat → Prop) (v : Value), MOAt w B m v → ObRep w B v o2) ∧ (m.flat = true → ∀ (w w' : World) (B B' : Nat → Prop) (v : Value), (∀ b, blk v = some b → w'.heap[b]? = w.heap[b]?) → MOAt w B m v → ObRep w' B' v o2) := by
  cases m with
  | box k' x' =>
    simp only [setMO] at h
    split at h
    · rename_i k x hob
      split at h
      · rename_i hk
        subst hk
        cases h
        refine ⟨_, _, hob, rfl, rfl, trivial, rfl, fun w B v hv => hv, fun hf w w' B B' v hb hv => ?_⟩
        obtain ⟨b, cs, t, rfl, h1, h2⟩ := hv
        exact ⟨b, cs, t, rfl, by rw [hb b rfl]; exact h1, h2.flat hf⟩
      · cases h
    · cases h
  | row e' k' l' =>
    simp only [setMO] at h
    split at h
    · rename_i e k l ver hob
      split at h
      · rename_i hk
        subst hk
        split at h
        · rename_i he
          subst he
          cases h
          refine ⟨_, _, hob, rfl, rfl, ⟨rfl, rfl⟩, rfl, fun w B v hv => hv, fun hf w w' B B' v hb hv => ?_⟩
          obtain ⟨flat, h1, h2⟩ := hv
          refine ⟨flat, ⟨h1.1, ?_⟩, h2.mono fun _ _ h => h.flat hf⟩
          rcases h1.2 with h3 | ⟨g, cap, cur, rfl, h4, h5, h6⟩
          · exact .inl h3
          · exact .inr ⟨g, cap, cur, rfl, h4, by rw [hb g rfl]; exact h5, h6⟩
        · cases h
      · cases h
    · cases h

theorem run_call {P : Program} {o : Oper} {f : Operand} {args : Array Operand} {ts : Array TypeId} (ho : o.op = .call { callee := .value f, args := args, argTypes := ts }) {g : FuncId} {xs ys : Array Value} (hf : a.eval f = .func (.func g) xs ys) (hc : Callable P g) (w : World) :
    (execOp a.eval o).run P w = .ok (.enter g (xs ++ args.map a.eval ++ ys)) w := by
  obtain ⟨fn, h1, h2, h3⟩ := hc
  have hb : fn.body ≠ none := by cases hbd : fn.body <;> simp_all
  simp [execOp, ho, resolve, hf, Deferred.ofValue, invoke, callFunc, program, Sem.run, h1, h3, hb]

theorem Shape.trans {o1 o2 o3 : Ob} (h : Shape o1 o2) (h' : Shape o2 o3) : Shape o1 o3 := by
  cases o1 <;> cases o2 <;> simp only [Shape] at h <;> cases o3 <;> simp only [Shape] at h' ⊢
  exact ⟨h'.1.trans h.1, h'.2.trans h.2⟩

theorem callMut_spec {ob1 ob2 : Obs} {ms : List Nat} {as : List AV} {outs : List MO} (hle : ObLe ob ob1) (h : callMut ob ob1 ms as outs = some ob2) {w w' : World} {D : Nat → Prop} (hm : MOsAt w' D outs ((mutIds ob ms 0 as).map γ)) :
    (∀ i o, ob.obj i = some o → i ∉ mutIds ob ms 0 as → ∃ o2, ob2.obj i = some o2 ∧ o.le o2) ∧
    (∀ i o, ob.obj i = some o → i ∈ mutIds ob ms 0 as → ∃ o2, ob2.obj i = some o2 ∧ Shape o o2 ∧ ObRep w' D (γ i) o2 ∧ (outs.all MO.flat = true → ∀ D', ObRep w' D' (γ i) o2)) ∧
    (∀ i o2, ob2.obj i = some o2 → ∃ o o1, ob.obj i = some o ∧ ob1.obj i = some o1 ∧ (o2.frz = false → o1.frz = false) ∧ (o2.frz = false → o.frz = false)) := by
  unfold callMut at h
  split at h
  · rename_i hmu
    cases h
    refine ⟨fun i o hi _ => hle.fwd i o hi, (fun i o hi hm => by rw [hmu] at hm; cases hm), fun i o2 hi => ?_⟩
    obtain ⟨o, ho, hl⟩ := hle.bwd i o2 hi
    refine ⟨o, o2, ho, hi, id, fun hz => ?_⟩
    cases hf : o.frz with
    | false => rfl
    | true => rw [Ob.le_frz hl hf] at hz; cases hz
  · rename_i j mo hmu
    split at h
    · cases h
    · obtain ⟨o1, o2, ho1, hz1, rfl, hs, hz2, hrep, hflat⟩ := setMO_spec h
      have hlt := obj_lt ho1
      have hobj : ∀ i, (ob1.setOb j (some o2)).obj i = if i = j then some o2 else ob1.obj i := fun i => obj_setOb _ _ _ _ hlt
      rw [hmu] at hm ⊢
      refine ⟨fun i o hi hne => ?_, fun i o hi hm' => ?_, fun i p hi => ?_⟩
      · obtain ⟨o', ho', hl⟩ := hle.fwd i o hi
        have : i ≠ j := by simpa using hne
        exact ⟨o', by rw [hobj, if_neg this]; exact ho', hl⟩
      · have : i = j := by simpa using hm'
        subst this
        obtain ⟨o', ho', hl⟩ := hle.fwd i o hi
        rw [ho1] at ho'
        cases ho'
        obtain ⟨u, us, e, hmo, _⟩ := hm
        simp only [List.map_cons, List.map_nil] at e
        obtain ⟨rfl, _⟩ := List.cons.inj e
        exact ⟨o2, by rw [hobj, if_pos rfl], (Shape.of_le hl).trans hs, hrep _ _ _ hmo, fun hf D' => hflat (by simpa using hf) w' w' D D' _ (fun _ _ => rfl) hmo⟩
      · rw [hobj] at hi
        by_cases e : i = j
        · subst e
          rw [if_pos rfl] at hi
          cases hi
          obtain ⟨o, ho, hl⟩ := hle.bwd i o1 ho1
          refine ⟨o, o1, ho, ho1, fun _ => hz1, fun _ => ?_⟩
          cases hf : o.frz with
          | false => rfl
          | true => rw [Ob.le_frz hl hf] at hz1; cases hz1
        · rw [if_neg e] at hi
          obtain ⟨o, ho, hl⟩ := hle.bwd i p hi
          refine ⟨o, p, ho, hi, id, fun hz => ?_⟩
          cases hf : o.frz with
          | false => rfl
          | true => rw [Ob.le_frz hl hf] at hz; cases hz
  · cases h

def LandA (w' : World) (D : Nat → Prop) (Q : SV → Prop) (ob3 : Obs) (γ3 : Nat → Value) : AV → Value → Prop
  | .s y, u => LandS w' D Q ob3 γ3 y u
  | .tup ys, u => ∃ vs, u = .tuple vs.toArray ∧ LandL w' D Q ob3 γ3 ys vs
  | .fn f p q, u => AVRep w' D (.fn f p q) u

theorem landA_rep {D : Nat → Prop} {N : Nat} {Q : SV → Prop} {ob2 ob3 : Obs} {ids : List Nat} {r y : AV} {u : Value} {os : List Nat} (γ : Nat → Value) (h : landA ob2 ids r = some (y, ob3)) (hr : ResA w' D N r u os) (hn : os.Nodup)
    (hQ : ∀ x, (r = .s x ∨ ∃ l, r = .tup l ∧ x ∈ l) → Q x) : ∃ γ3, Land w' D N Q ob2 ob3 γ γ3 os ∧ LandA w' D Q ob3 γ3 y u := by
  cases r with
  | s x =>
    simp only [landA] at h
    split at h
    · rename_i z ids' ob4 hs
      simp only [Option.some.injEq, Prod.mk.injEq] at h
      obtain ⟨rfl, rfl⟩ := h
      exact landS_rep γ hs hr (hQ x (.inl rfl))
    · cases h
  | tup l =>
    simp only [landA] at h
    split at h
    · rename_i ys ob4 hs
      simp only [Option.some.injEq, Prod.mk.injEq] at h
      obtain ⟨rfl, rfl⟩ := h
      obtain ⟨vs, rfl, hl⟩ := hr
      obtain ⟨γ3, h1, h2⟩ := landL_rep l γ hs hl hn fun x hx => hQ x (.inr ⟨l, rfl, hx⟩)
      exact ⟨γ3, h1, vs, rfl, h2⟩
    · cases h
  | fn f p q =>
    simp only [landA, Option.some.injEq, Prod.mk.injEq] at h
    obtain ⟨rfl, rfl⟩ := h
    exact ⟨γ, Land.refl _ _ _, hr.1⟩

theorem goes_call (hC : CfgOK C) (h : InvG X ⟨sl, ob⟩ a w γ) {it : It} {f : Operand} {args : Array Operand} {ts : Array TypeId} (ho : o.op = .call { callee := .value f, args := args, argTypes := ts })
    {g : FuncId} {first caps : List SV} {zs : List AV} (hf : ev C sl 0 f = some (.fn g first caps)) (hz : evArgs (ev C sl) args.toList ts.toList = some zs)
    (he : callStep C it g (first.map .s ++ zs ++ caps.map .s) ob = some (v, ob', ps)) (hp : All ps) : Goes C X sl o a w v ob' := by
  generalize has : first.map AV.s ++ zs ++ caps.map AV.s = as at he
  unfold callStep at he
  cases it <;> simp only [reduceCtorEq] at he
  rename_i r outs ms ids
  cases hxs : argsAV ob ms 0 as with
  | none => simp [hxs] at he
  | some xs =>
  cases hob2 : callMut ob (callFrz ob as r outs) ms as outs with
  | none => simp [hxs, hob2] at he
  | some ob2 =>
  cases hland : landA ob2 ids r with
  | none => simp [hxs, hob2, hland] at he
  | some yo =>
  obtain ⟨y, ob3⟩ := yo
  simp only [hxs, hob2, hland, Option.some.injEq, Prod.mk.injEq] at he
  obtain ⟨rfl, rfl, rfl⟩ := he
  obtain ⟨hcall, hsc⟩ : SC C.P g xs r outs := hp.1
  obtain ⟨fv, cv, hfe, hfr1, hfr2⟩ : AVRep w (Bs X ob γ) (.fn g first caps) (a.eval f) := ev_rep h hf
  have hargs : SlAL w (Bs X ob γ) ob γ as (fv ++ args.toList.map a.eval ++ cv) := by
    rw [← has]
    exact (hfr1.slots.append (evArgs_rep h hz)).append hfr2.slots
  generalize hro : roIds ob ms 0 as = ro at *
  have hAR := args_rep h ro ms as 0 xs _ hxs hargs (fun j hj => hro ▸ hj)
  have hfree : ∀ j ∈ mutIds ob ms 0 as, ∃ o, ob.obj j = some o ∧ o.frz = false := fun j hj => mut_free as hxs hj
  generalize hmu : mutIds ob ms 0 as = mu at *
  -- what is changed is read by nobody
  have hdis : ∀ j ∈ mu, j ∉ ro := by
    intro j hj
    simp only [callMut, hmu, hro] at hob2
    match mu, outs, hob2, hj with
    | [j'], [mo], hob2, hj =>
      simp only at hob2
      split at hob2
      · cases hob2
      · rename_i hc
        simp at hj
        subst hj
        simpa using hc
  have hmu1 : mu.length ≤ 1 := by
    simp only [callMut, hmu, hro] at hob2
    match mu, outs, hob2 with
    | [], [], _ => simp
    | [j'], [mo], _ => simp
  have c1 : ∀ b, Bc X ob γ ro b → ∀ u ∈ mu.map γ, blk u ≠ some b := by
    intro b hb u hu
    obtain ⟨j, hj, rfl⟩ := List.mem_map.1 hu
    obtain ⟨oj, hoj, hzj⟩ := hfree j hj
    rcases hb with hb | ⟨i, hi, ⟨oi, hoi⟩, hbi⟩
    · exact hb.2 j oj hoj hzj
    · have hne : i ≠ j := fun e => hdis j hj (e ▸ hi)
      exact h.dj i j oi oj b hoi hoj hne hbi
  have c2 : ((mu.map γ).map blk).Pairwise (fun a b => a = none ∨ a ≠ b) := by
    match mu, hmu1 with
    | [], _ => exact List.Pairwise.nil
    | [j], _ => exact List.pairwise_singleton _ _
  intro Q'
  unfold Oper.wp
  rw [run_call ho hfe hcall w]
  show Calls C.P g _ w _
  have earr : fv.toArray ++ args.map a.eval ++ cv.toArray = (fv ++ args.toList.map a.eval ++ cv).toArray := by simp
  rw [earr]
  refine (hsc w (Bc X ob γ ro) _ _ c1 c2 hAR).mono ?_
  rintro e w' ⟨u, os, rfl, hfr, hnd, hosf, hres, houts⟩
  show Inv X _ _ _
  have hle1 : ObLe ob (callFrz ob as r outs) := by unfold callFrz; split; exact ObLe.refl _; exact frzAll_le _ _
  rw [← hmu] at houts hfree hfr c1
  obtain ⟨m1, m2, m3⟩ := callMut_spec (w := w) hle1 hob2 houts
  generalize hfl : (r.flat && outs.all MO.flat) = fl at *
  obtain ⟨γ3, hl, hy⟩ := landA_rep (Q := fun x => fl = true → x.flat = true) γ hland hres hnd (by
    intro x hx hf
    rw [hf, Bool.and_eq_true] at hfl
    rcases hx with rfl | ⟨l, rfl, hx⟩
    · exact hfl.1
    · simp only [AV.flat, List.all_eq_true] at hfl
      exact hfl.1 x hx)
  have hfrz : fl = false → ∀ i ∈ ro, Frozen (callFrz ob as r outs) i := fun hf i hi => by
    have e : callFrz ob as r outs = frzAll ob as := by unfold callFrz; rw [hfl, hf]; rfl
    rw [e]
    rcases ro_frozen as hxs (hro ▸ hi) with h1 | ⟨ver, e, k, l, ver', z, h1, h2⟩
    · exact h1.le (frzAll_le as ob)
    · exact frzAll_frozen as ob h1 h2
  -- an object that is still the call's own was so before
  have hown : ∀ i o3, ob3.obj i = some o3 → (∃ o o1, ob.obj i = some o ∧ (callFrz ob as r outs).obj i = some o1 ∧ γ3 i = γ i ∧ (o3.frz = false → o1.frz = false) ∧ (o3.frz = false → o.frz = false)) ∨ (ob.obj i = none ∧ ∀ b, blk (γ3 i) = some b → b ∈ os) := by
    intro i o3 hi
    cases h2 : ob2.obj i with
    | some o2 =>
      obtain ⟨h3, h4⟩ := hl.keep i o2 h2
      rw [hi] at h3
      cases h3
      obtain ⟨o, o1, ho, ho1, hz1, hz⟩ := m3 i o3 h2
      exact .inl ⟨o, o1, ho, ho1, h4, hz1, hz⟩
    | none =>
      obtain ⟨e, k, l, rfl, _, _, hb⟩ := hl.new i o3 hi h2
      refine .inr ⟨?_, hb⟩
      cases h1 : ob.obj i with
      | none => rfl
      | some o =>
        exfalso
        by_cases hm : i ∈ mutIds ob ms 0 as
        · obtain ⟨o2, h3, _⟩ := m2 i o h1 hm
          rw [h2] at h3; cases h3
        · obtain ⟨o2, h3, _⟩ := m1 i o h1 hm
          rw [h2] at h3; cases h3
  have K : Keeps w w' (Bs X ob γ) (Bs X ob3 γ3) := by
    refine ⟨fun b hb hlt => ⟨⟨hb.1, fun i o3 hi hz hbi => ?_⟩, hfr.block b hlt fun u hu => ?_⟩⟩
    · rcases hown i o3 hi with ⟨o, o1, ho, _, hg, _, hz'⟩ | ⟨_, hb'⟩
      · rw [hg] at hbi
        exact hb.2 i o ho (hz' hz) hbi
      · have := hosf b (hb' b hbi)
        omega
    · exact c1 b (.inl hb) u hu
  have hD : fl = false → ∀ b, After w (Bc X ob γ ro) os b → Bs X ob3 γ3 b := by
    intro hf b hb
    refine ⟨?_, fun i o3 hi hz hbi => ?_⟩
    · rcases hb.1 with (h1 | ⟨i, hi, ⟨oi, hoi⟩, hbi⟩) | h1
      · exact h1.1
      · rcases h.fresh i oi b hoi hbi with h2 | h2
        · exact .inr (.inl h2)
        · exact .inr (.inr h2)
      · exact .inr (.inl (Nat.le_trans h.fr.size h1))
    · rcases hown i o3 hi with ⟨o, o1, ho, ho1, hg, hz1, hz'⟩ | ⟨_, hb'⟩
      · rw [hg] at hbi
        have hlt := (h.ob i o ho).lt hbi
        rcases hb.1 with (h1 | ⟨j, hj, ⟨oj, hoj⟩, hbj⟩) | h1
        · exact h1.2 i o ho (hz' hz) hbi
        · by_cases e : j = i
          · subst e
            have := hfrz hf j hj o1 ho1
            rw [hz1 hz] at this
            cases this
          · exact h.dj j i oj o b hoj ho e hbj hbi
        · omega
      · exact hb.2 (hb' b hbi)
  have KD : fl = false → Keeps w' w' (After w (Bc X ob γ ro) os) (Bs X ob3 γ3) := fun hf => Keeps.of_sub (hD hf)
  have liftS : ∀ x u, SVRep w' (After w (Bc X ob γ ro) os) x u → (fl = true → x.flat = true) → SVRep w' (Bs X ob3 γ3) x u := by
    intro x u hx hq
    cases hf : fl with
    | true => exact RepK_flat_of (hq hf) hx
    | false => exact hx.keep (KD hf)
  have hfrX : Fr X.w0 X.mv w' := by
    refine ⟨hfr.os.trans h.fr.os, hfr.tape.trans h.fr.tape, hfr.output.trans h.fr.output, Nat.le_trans h.fr.size hfr.size, fun k hk hmv => ?_⟩
    rw [hfr.block k (Nat.lt_of_lt_of_le hk h.fr.size) fun u hu hbu => ?_]
    · exact h.fr.block k hk hmv
    · obtain ⟨j, hj, rfl⟩ := List.mem_map.1 hu
      obtain ⟨oj, hoj, _⟩ := hfree j hj
      rcases h.fresh j oj k hoj hbu with h1 | ⟨u, hu, hb⟩
      · omega
      · exact hmv u hu hb
  have hJ : InvG X ⟨sl, ob3⟩ a w' γ3 := by
    refine h.jump hfrX (fun i o hi => ?_) (fun i o3 hi hn => ?_) (fun i j p q b hi hj hn hn' hij hb => ?_) K
    · by_cases hm : i ∈ mutIds ob ms 0 as
      · obtain ⟨o2, h2, hs, hr, hrf⟩ := m2 i o hi hm
        obtain ⟨h3, h4⟩ := hl.keep i o2 h2
        refine ⟨h4, o2, h3, hs, ?_⟩
        cases hf : fl with
        | true => rw [hf, Bool.and_eq_true] at hfl; exact hrf hfl.2 _
        | false => exact hr.keep (KD hf) fun _ _ => rfl
      · obtain ⟨o2, h2, hle⟩ := m1 i o hi hm
        obtain ⟨h3, h4⟩ := hl.keep i o2 h2
        refine ⟨h4, o2, h3, Shape.of_le hle, ((h.ob i o hi).keep K fun b hb => hfr.block b ((h.ob i o hi).lt hb) fun u hu hbu => ?_).le hle⟩
        obtain ⟨j, hj, rfl⟩ := List.mem_map.1 hu
        obtain ⟨oj, hoj, _⟩ := hfree j hj
        exact h.dj i j o oj b hi hoj (fun e => hm (e ▸ hj)) hb hbu
    · have h2 : ob2.obj i = none := by
        cases h2 : ob2.obj i with
        | none => rfl
        | some o2 => obtain ⟨o, _, ho, _⟩ := m3 i o2 h2; rw [hn] at ho; cases ho
      obtain ⟨e, k, l, rfl, hq, hrow, hb⟩ := hl.new i o3 hi h2
      refine ⟨?_, fun b hbb => hosf b (hb b hbb)⟩
      obtain ⟨flat, hown', hr⟩ := hrow
      refine ⟨flat, ⟨hown'.1, ?_⟩, hr.mono fun x cs hx => ?_⟩
      · rcases hown'.2 with h1 | ⟨gg, cap, cur, e1, _, r⟩
        · exact .inl h1
        · exact .inr ⟨gg, cap, cur, e1, Nat.zero_le _, r⟩
      · cases hf : fl with
        | true => exact hx.flat (hq hf)
        | false => exact hx.keep (KD hf)
    · have h2 : ∀ i, ob.obj i = none → ob2.obj i = none := fun i hn => by
        cases h2 : ob2.obj i with
        | none => rfl
        | some o2 => obtain ⟨o, _, ho, _⟩ := m3 i o2 h2; rw [hn] at ho; cases ho
      exact hl.dj i j p q b hi hj (h2 i hn) (h2 j hn') hij hb
  have slot : ∀ z u, LandS w' (After w (Bc X ob γ ro) os) (fun x => fl = true → x.flat = true) ob3 γ3 z u → SlS w' (Bs X ob3 γ3) ob3 γ3 z u := by
    intro z u hz
    cases z with
    | osl d ver =>
      obtain ⟨⟨e, k, l, hd⟩, hu⟩ := hz
      exact ⟨⟨e, k, l, ver, false, hd, Nat.le_refl _⟩, fun _ _ _ _ _ => hu⟩
    | v k x => exact liftS (.v k x) u hz.1 hz.2
    | fadr k x => exact liftS (.fadr k x) u hz.1 hz.2
    | nilsl e k => exact hz.1
    | adr i f => exact hz.1.elim
    | oel i v j f => exact hz.1.elim
    | own e k l => exact hz.1.elim
    | mbx k x => exact hz.1.elim
    | msl e k l => exact hz.1.elim
  refine ⟨γ3, hJ.put fun z hz => ?_⟩
  cases hz
  cases y with
  | s z => exact slot z u hy
  | tup zs =>
    obtain ⟨vs, rfl, hl'⟩ := hy
    refine ⟨vs, rfl, ?_⟩
    have : ∀ (zs : List SV) (vs : List Value), LandL w' (After w (Bc X ob γ ro) os) (fun x => fl = true → x.flat = true) ob3 γ3 zs vs → SlL w' (Bs X ob3 γ3) ob3 γ3 zs vs := by
      intro zs
      induction zs with
      | nil => exact fun vs h => h
      | cons z zs ih => exact fun vs ⟨u, us, e, h1, h2⟩ => ⟨u, us, e, slot z u h1, ih us h2⟩
    exact this zs vs hl'
  | fn f' p q =>
    have hrf : fl = false := by
      cases hf : fl with
      | false => rfl
      | true =>
        exfalso
        rw [hf, Bool.and_eq_true] at hfl
        cases r <;> simp only [landA] at hland
        · split at hland <;> cases hland
        · split at hland <;> cases hland
        · simp [AV.flat] at hfl
    exact AVRep.keep (x := .fn f' p q) (KD hrf) hy

end Go.AI
