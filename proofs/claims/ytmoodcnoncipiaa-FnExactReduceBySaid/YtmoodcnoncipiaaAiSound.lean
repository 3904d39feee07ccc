/- The evaluator over code is sound; loops; a function's run is its contract. -/
import Derived.Test.YtmoodcnoncipiaaAiRegion3
set_option autoImplicit false
set_option linter.unusedVariables false
set_option linter.unusedSimpArgs false
namespace Go.AI

variable {C : Cfg} {X : Ctx} {a : Act} {w w' : World} {γ : Nat → Value}

/-! ### Sweeping -/

theorem only_get (ks : List Nat) : ∀ (sl : List (Option AV)) (i t : Nat), (only ks i sl).getD t none = if ks.contains (i + t) then sl.getD t none else none
  | [], _, _ => by simp [only]
  | v :: vs, i, 0 => by
    simp only [only, List.getD_cons_zero, Nat.add_zero]
  | v :: vs, i, t + 1 => by
    simp only [only, List.getD_cons_succ]
    rw [only_get ks vs (i + 1) t, show i + 1 + t = i + (t + 1) by omega]

theorem only_length (ks : List Nat) : ∀ (sl : List (Option AV)) (i : Nat), (only ks i sl).length = sl.length
  | [], _ => rfl
  | _ :: vs, i => by simp [only, only_length ks vs]

theorem onlyOb_obj (np : Nat) (sl : List (Option AV)) : ∀ (ob : Obs) (i t : Nat), (onlyOb np sl i ob).obj t = if (i + t < np || sl.any (avHas (i + t))) then ob.obj t else none
  | [], _, _ => by simp [onlyOb, Obs.obj]
  | o :: os, i, 0 => by
    cases o <;> simp [onlyOb, Obs.obj]
  | o :: os, i, t + 1 => by
    have := onlyOb_obj np sl os (i + 1) t
    rw [show i + 1 + t = i + (t + 1) by omega] at this
    simp only [Obs.obj, onlyOb, List.getD_cons_succ] at this ⊢
    exact this

theorem InvG.sweep {st : St} (h : InvG X st a w γ) {np : Nat} (hpm : ∀ iv ∈ X.pm, iv.1 < np) (ks : List Nat) : InvG X (Go.AI.sweep np ks st) a w γ := by
  obtain ⟨sl, ob⟩ := st
  have hob : ∀ i o, (onlyOb np (only ks 0 sl) 0 ob).obj i = some o → ob.obj i = some o := fun i o ho => by
    rw [onlyOb_obj] at ho
    split at ho
    · exact ho
    · cases ho
  have hB : ∀ b, Bs X ob γ b → Bs X (onlyOb np (only ks 0 sl) 0 ob) γ b := fun b hb => ⟨hb.1, fun i o ho hz => hb.2 i o (hob i o ho) hz⟩
  have K : Keeps w w (Bs X ob γ) (Bs X (onlyOb np (only ks 0 sl) 0 ob) γ) := Keeps.of_sub hB
  refine ⟨h.fr, h.df, ?_, fun i o ho => (h.ob i o (hob i o ho)).keep K fun b _ => rfl, fun i j o p b ho hp => h.dj i j o p b (hob i o ho) (hob j p hp), fun i o b ho => h.fresh i o b (hob i o ho), fun i v hv => ?_, fun t v hv => ?_⟩
  · have := h.sz
    simp only [Go.AI.sweep, only_length] at this ⊢
    exact this
  · obtain ⟨o, ho, h2⟩ := h.pm i v hv
    refine ⟨o, ?_, h2⟩
    have hlt := hpm _ hv
    simp only [Go.AI.sweep, onlyOb_obj, Nat.zero_add]
    rw [if_pos (by simp; exact .inl hlt)]
    exact ho
  · simp only [Go.AI.sweep] at hv
    have hv0 := hv
    rw [only_get] at hv
    split at hv
    · have hs := h.sl t v hv
      have hmem : some v ∈ only ks 0 sl := by
        rw [List.getD_eq_getElem?_getD] at hv0
        cases h9 : (only ks 0 sl)[t]? with
        | none => rw [h9] at hv0; simp at hv0
        | some x => rw [h9] at hv0; simp at hv0; subst hv0; exact List.mem_of_getElem? h9
      have hkeep : ∀ i, avHas i (some v) = true → (onlyOb np (only ks 0 sl) 0 ob).obj i = ob.obj i := fun i hi => by
        rw [onlyOb_obj, if_pos]
        simp only [Nat.zero_add, Bool.or_eq_true, List.any_eq_true]
        exact .inr ⟨_, hmem, hi⟩
      have hS : ∀ x u, (∀ i, svHas i x = true → (onlyOb np (only ks 0 sl) 0 ob).obj i = ob.obj i) → SlS w (Bs X ob γ) ob γ x u → SlS w (Bs X (onlyOb np (only ks 0 sl) 0 ob) γ) (onlyOb np (only ks 0 sl) 0 ob) γ x u := by
        intro x u hi hx
        cases x <;> simp only [SlS] at hx ⊢
        · exact hx.keep K
        · exact hx
        · exact RepA.keep K hx
        · rename_i i f
          rw [hi i (by simp [svHas])]
          exact hx
        · rename_i i ver
          rw [hi i (by simp [svHas])]
          exact hx
        · rename_i i ver j f
          rw [hi i (by simp [svHas])]
          exact hx
      have hL : ∀ (xs : List SV) (us : List Value), (∀ i, xs.any (svHas i) = true → (onlyOb np (only ks 0 sl) 0 ob).obj i = ob.obj i) → SlL w (Bs X ob γ) ob γ xs us → SlL w (Bs X (onlyOb np (only ks 0 sl) 0 ob) γ) (onlyOb np (only ks 0 sl) 0 ob) γ xs us := by
        intro xs
        induction xs with
        | nil => intro us _ h; exact h
        | cons x xs ih =>
          intro us hi ⟨u, us', e, h1, h2⟩
          exact ⟨u, us', e, hS x u (fun i h => hi i (by simp [h])) h1, ih us' (fun i h => hi i (by simp only [List.any_cons, h, Bool.or_true])) h2⟩
      cases v
      · exact hS _ _ (fun i hi => hkeep i hi) hs
      · obtain ⟨vs, e, h1⟩ := hs
        exact ⟨vs, e, hL _ _ (fun i hi => hkeep i hi) h1⟩
      · exact AVRep.keep (x := .fn ..) K hs
    · cases hv

theorem InvG.renOne {st : St} (h : InvG X st a w γ) {i : Nat} (hi : ∀ iv ∈ X.pm, iv.1 ≠ i) : InvG X (Go.AI.renOne i st) a w γ := by
  unfold Go.AI.renOne
  split
  · rename_i e k l ver z ho
    split
    · rename_i hc
      obtain ⟨sl, ob⟩ := st
      have ho' : ob.obj i = some (.row e k l ver z) := ho
      have hlt := obj_lt ho'
      have hobj : ∀ j, (ob.setOb i (some (.row e k l 0 z))).obj j = if j = i then some (.row e k l 0 z) else ob.obj j := fun j => obj_setOb _ _ _ _ hlt
      have hold : ∀ j o, (ob.setOb i (some (.row e k l 0 z))).obj j = some o → ∃ o', ob.obj j = some o' ∧ o'.frz = o.frz := fun j o hj => by
        rw [hobj] at hj
        split at hj
        · rename_i e1
          subst e1
          cases hj
          exact ⟨_, ho', rfl⟩
        · exact ⟨o, hj, rfl⟩
      have hB : ∀ b, Bs X ob γ b → Bs X (ob.setOb i (some (.row e k l 0 z))) γ b := fun b hb => ⟨hb.1, fun j o hj hz => by
        obtain ⟨o', h1, h2⟩ := hold j o hj
        exact hb.2 j o' h1 (h2.trans hz)⟩
      have K : Keeps w w (Bs X ob γ) (Bs X (ob.setOb i (some (.row e k l 0 z))) γ) := Keeps.of_sub hB
      have hS : ∀ x u, svVer i ver x = true → SlS w (Bs X ob γ) ob γ x u → SlS w (Bs X (ob.setOb i (some (.row e k l 0 z))) γ) (ob.setOb i (some (.row e k l 0 z))) γ (renS i x) u := by
        intro x u hv hx
        cases x <;> simp only [SlS, renS] at hx ⊢
        · exact hx.keep K
        · exact hx
        · exact RepA.keep K hx
        · rename_i j f
          obtain ⟨⟨k', x', z', h1⟩, h2⟩ := hx
          refine ⟨⟨k', x', z', ?_⟩, h2⟩
          rw [hobj, if_neg (fun e1 => by subst e1; rw [ho'] at h1; cases h1)]
          exact h1
        · rename_i j v
          by_cases e1 : i = j
          · subst e1
            simp only [svVer, BEq.rfl, Bool.not_true, Bool.false_or, beq_iff_eq] at hv
            subst hv
            rw [if_pos rfl]
            refine ⟨⟨e, k, l, 0, z, by rw [hobj, if_pos rfl], Nat.le_refl _⟩, fun e' k' l' z' _ => hx.2 _ _ _ _ ho'⟩
          · rw [if_neg e1]
            simp only [SlS]
            rw [hobj, if_neg (Ne.symm e1)]
            exact hx
        · rename_i j v jj f
          have e1 : i ≠ j := by simpa [svVer] using hv
          rw [hobj, if_neg (Ne.symm e1)]
          exact hx
      have hL : ∀ (xs : List SV) (us : List Value), xs.all (svVer i ver) = true → SlL w (Bs X ob γ) ob γ xs us → SlL w (Bs X (ob.setOb i (some (.row e k l 0 z))) γ) (ob.setOb i (some (.row e k l 0 z))) γ (xs.map (renS i)) us := by
        intro xs
        induction xs with
        | nil => intro us _ h; exact h
        | cons x xs ih =>
          intro us hi ⟨u, us', e, h1, h2⟩
          simp only [List.all_cons, Bool.and_eq_true] at hi
          exact ⟨u, us', e, hS x u hi.1 h1, ih us' hi.2 h2⟩
      refine ⟨h.fr, h.df, by have := h.sz; simpa using this, fun j o hj => ?_, fun j j' o p b hj hj' => ?_, fun j o b hj => ?_, fun j v hv => ?_, fun t v hv => ?_⟩
      · simp only at hj
        rw [hobj] at hj
        split at hj
        · rename_i e1
          subst e1
          cases hj
          have h1 : OwnRow w (Bs X ob γ) 0 e k l (γ j) := h.ob j _ ho'
          exact OwnRow.keep K h1 fun b _ => rfl
        · exact (h.ob j o hj).keep K fun b _ => rfl
      · obtain ⟨o1, h1, _⟩ := hold j o hj
        obtain ⟨o2, h2, _⟩ := hold j' p hj'
        exact h.dj j j' o1 o2 b h1 h2
      · obtain ⟨o1, h1, _⟩ := hold j o hj
        exact h.fresh j o1 b h1
      · obtain ⟨o, h1, h2⟩ := h.pm j v hv
        refine ⟨o, ?_, h2⟩
        simp only
        rw [hobj, if_neg (hi _ hv)]
        exact h1
      · simp only [List.getD_eq_getElem?_getD, List.getElem?_map] at hv
        cases hs : sl[t]? with
        | none => rw [hs] at hv; simp at hv
        | some y =>
          rw [hs] at hv
          simp only [Option.map, Option.getD] at hv
          cases y with
          | none => cases hv
          | some y =>
            simp only [Option.some.injEq] at hv
            subst hv
            have h1 := h.sl t y (by simp only [List.getD_eq_getElem?_getD, hs]; rfl)
            have hall := List.all_eq_true.1 hc.2 (some y) (List.mem_of_getElem? hs)
            cases y
            · exact hS _ _ hall h1
            · obtain ⟨vs, e1, h2⟩ := h1
              exact ⟨vs, e1, hL _ _ hall h2⟩
            · exact AVRep.keep (x := .fn ..) K h1
    · exact h
  · exact h

theorem InvG.renFrom {np : Nat} (hpm : ∀ iv ∈ X.pm, iv.1 < np) : ∀ (n i : Nat) {st : St}, np ≤ i → InvG X st a w γ → InvG X (Go.AI.renFrom i n st) a w γ
  | 0, _, _, _, h => h
  | n + 1, i, _, hi, h => InvG.renFrom hpm n (i + 1) (by omega) (h.renOne fun iv hiv => by have := hpm iv hiv; omega)

theorem InvG.nilOne {st : St} (h : InvG X st a w γ) (i : Nat) : ∃ γ', InvG X (Go.AI.nilOne i st) a w γ' := by
  unfold Go.AI.nilOne
  split
  · rename_i e k hs ho
    split
    · rename_i hlt
      obtain ⟨sl, ob⟩ := st
      have hu : a.tmps.getD i undef = .slice none 0 0 := h.sl i _ hs
      have hrep : ∀ B', ObRep w B' (.slice none 0 0) (.row e k [] 0 false) := fun B' => ⟨[], ⟨by simp, .inl ⟨rfl, rfl⟩⟩, rfl⟩
      obtain ⟨h1, K, S⟩ := h.new (w' := w) (d := i) (o := .row e k [] 0 false) (v := .slice none 0 0) ho hlt ⟨rfl, rfl, rfl, Nat.le_refl _, fun _ _ _ => rfl⟩ (fun b hb => by cases hb) (fun B' _ => hrep B')
      refine ⟨_, h1.fr, h1.df, by have := h1.sz; simpa using this, h1.ob, h1.dj, h1.fresh, h1.pm, fun t x ht => ?_⟩
      simp only [List.getD_eq_getElem?_getD, List.getElem?_set] at ht
      by_cases et : i = t
      · subst et
        rw [if_pos rfl] at ht
        split at ht
        · simp only [Option.getD, Option.some.injEq] at ht
          subst ht
          refine ⟨⟨e, k, [], 0, false, by rw [obj_setOb _ _ _ _ hlt, if_pos rfl], Nat.le_refl _⟩, fun _ _ _ _ _ => ?_⟩
          rw [upd_same]
          exact hu
        · simp at ht
      · rw [if_neg et] at ht
        exact h1.sl t x (by simp only [List.getD_eq_getElem?_getD]; exact ht)
    · exact ⟨γ, h⟩
  · exact ⟨γ, h⟩

theorem InvG.nilFrom : ∀ (n i : Nat) {st : St} {γ : Nat → Value}, InvG X st a w γ → ∃ γ', InvG X (Go.AI.nilFrom i n st) a w γ'
  | 0, _, _, γ, h => ⟨γ, h⟩
  | n + 1, i, _, _, h => by
    obtain ⟨γ', h'⟩ := h.nilOne i
    exact InvG.nilFrom n (i + 1) h'

theorem InvG.renum {st : St} (h : InvG X st a w γ) {np : Nat} (hpm : ∀ iv ∈ X.pm, iv.1 < np) : ∃ γ', InvG X (Go.AI.renum np st) a w γ' := InvG.nilFrom _ _ (InvG.renFrom hpm _ _ (Nat.le_refl _) h)

/-! ### Code -/

theorem exec_sound (hC : CfgOK C) {f : FuncId} {np : Nat} : ∀ {c : Code} {its its' : List It} {st st' : St} {lg lg' : List Prop} {e : AEx}, aexec C f np c its st lg = some (e, its', st', lg') →
    ∃ ps, lg' = lg ++ ps ∧ (All ps → ∀ X a w, (∀ iv ∈ X.pm, iv.1 < np) → Inv X st a w → c.wp C.P (Post X e st') a w)
  | .skip, its, its', st, st', lg, lg', e, h => by
    simp only [aexec, Option.some.injEq, Prod.mk.injEq] at h
    obtain ⟨rfl, rfl, rfl, rfl⟩ := h
    exact ⟨[], by simp, fun _ X a w _ hI => wp_skip ⟨rfl, hI⟩⟩
  | .region id ops draw, its, its', st, st', lg, lg', e, h => by
    simp only [aexec] at h
    split at h
    · rename_i hd
      split at h
      · rename_i st1 its1 lg1 hr
        simp only [Option.some.injEq, Prod.mk.injEq] at h
        obtain ⟨rfl, rfl, rfl, rfl⟩ := h
        obtain ⟨ps, e, hs⟩ := region_sound hC (id := id) (draw := draw) hd hr
        exact ⟨ps, e, fun hp X a w hpm hI => hs hp X a w hI _ fun a' w' ⟨γ, hI'⟩ => ⟨rfl, (hI'.sweep hpm _).renum hpm⟩⟩
      · cases h
    · cases h
  | .seq x y, its, its', st, st', lg, lg', e, h => by
    simp only [aexec] at h
    split at h
    · rename_i its1 st1 lg1 h1
      obtain ⟨ps, e1, hs1⟩ := exec_sound hC h1
      obtain ⟨qs, e2, hs2⟩ := exec_sound hC h
      refine ⟨ps ++ qs, by rw [e2, e1, List.append_assoc], fun hp X a w hpm hI => wp_seq ?_⟩
      refine wp_mono (hs1 hp.parts.1 X a w hpm hI) fun e' a' w' ⟨he, hI'⟩ => ?_
      subst he
      exact hs2 hp.parts.2 X a' w' hpm hI'
    · rename_i hne
      obtain ⟨ps, e1, hs1⟩ := exec_sound hC h
      refine ⟨ps, e1, fun hp X a w hpm hI => wp_seq ?_⟩
      refine wp_mono (hs1 hp X a w hpm hI) fun e' a' w' ⟨he, hI'⟩ => ?_
      subst he
      cases e with
      | normal => exact absurd h (hne _ _ _)
      | ret => exact ⟨rfl, hI'⟩
      | exit id => exact ⟨rfl, hI'⟩
  | .cond c x y, its, its', st, st', lg, lg', e, h => by
    simp only [aexec] at h
    split at h
    · rename_i hc
      obtain ⟨ps, e1, hs1⟩ := exec_sound hC h
      refine ⟨ps, e1, fun hp X a w hpm hI => ?_⟩
      obtain ⟨γ, hI'⟩ := hI
      exact wp_cond_true (RepV.bool (evS_rep (sl := st.sl) (ob := st.ob) hI' hc)) (hs1 hp X a w hpm ⟨γ, hI'⟩)
    · rename_i hc
      obtain ⟨ps, e1, hs1⟩ := exec_sound hC h
      refine ⟨ps, e1, fun hp X a w hpm hI => ?_⟩
      obtain ⟨γ, hI'⟩ := hI
      exact wp_cond_false (RepV.bool (evS_rep (sl := st.sl) (ob := st.ob) hI' hc)) (hs1 hp X a w hpm ⟨γ, hI'⟩)
    · cases h
  | .block id x, its, its', st, st', lg, lg', e, h => by
    simp only [aexec] at h
    split at h
    · rename_i id' its1 st1 lg1 h1
      obtain ⟨ps, e1, hs1⟩ := exec_sound hC h1
      split at h
      · rename_i hid
        simp only [Option.some.injEq, Prod.mk.injEq] at h
        obtain ⟨rfl, rfl, rfl, rfl⟩ := h
        refine ⟨ps, e1, fun hp X a w hpm hI => wp_block (wp_mono (hs1 hp X a w hpm hI) fun e' a' w' ⟨he, hI'⟩ => ?_)⟩
        subst he
        simp only [exOf, Exit.inBlock, hid, if_true]
        exact ⟨rfl, hI'⟩
      · rename_i hid
        simp only [Option.some.injEq, Prod.mk.injEq] at h
        obtain ⟨rfl, rfl, rfl, rfl⟩ := h
        refine ⟨ps, e1, fun hp X a w hpm hI => wp_block (wp_mono (hs1 hp X a w hpm hI) fun e' a' w' ⟨he, hI'⟩ => ?_)⟩
        subst he
        simp only [exOf, Exit.inBlock, hid, if_false]
        exact ⟨rfl, hI'⟩
    · rename_i hne
      obtain ⟨ps, e1, hs1⟩ := exec_sound hC h
      refine ⟨ps, e1, fun hp X a w hpm hI => wp_block (wp_mono (hs1 hp X a w hpm hI) fun e' a' w' ⟨he, hI'⟩ => ?_)⟩
      subst he
      cases e with
      | normal => exact ⟨rfl, hI'⟩
      | ret => exact ⟨rfl, hI'⟩
      | exit id => exact absurd h (hne _ _ _ _)
  | .exit id, its, its', st, st', lg, lg', e, h => by
    simp only [aexec, Option.some.injEq, Prod.mk.injEq] at h
    obtain ⟨rfl, rfl, rfl, rfl⟩ := h
    exact ⟨[], by simp, fun _ X a w _ hI => wp_exit ⟨rfl, hI⟩⟩
  | .ret, its, its', st, st', lg, lg', e, h => by
    simp only [aexec, Option.some.injEq, Prod.mk.injEq] at h
    obtain ⟨rfl, rfl, rfl, rfl⟩ := h
    exact ⟨[], by simp, fun _ X a w _ hI => wp_ret ⟨rfl, hI⟩⟩
  | .loop x, its, its', st, st', lg, lg', e, h => by
    simp only [aexec] at h
    split at h
    · rename_i g its1
      simp only [Option.some.injEq, Prod.mk.injEq] at h
      obtain ⟨rfl, rfl, rfl, rfl⟩ := h
      refine ⟨_, rfl, fun hp X a w hpm hI => fun b k cs => ?_⟩
      obtain ⟨e, a', w', hq, harr⟩ := hp.1 X a w hpm hI b k cs
      exact ⟨e, a', w', hq, .of_steps (.one step_loop) harr⟩
    · cases h
  | .label _, _, _, _, _, _, _, _, h => by simp [aexec] at h
  | .goto _, _, _, _, _, _, _, _, h => by simp [aexec] at h
  | .scope _, _, _, _, _, _, _, _, h => by simp [aexec] at h
  | .rangeFunc .., _, _, _, _, _, _, _, h => by simp [aexec] at h

/-! ### Loops -/

theorem loop_iter (hC : CfgOK C) {f : FuncId} {np : Nat} {c : Code} {its : List It} {st st1 st' : St} {ps : List Prop} {e : AEx} (h : aexec C f np c its st [] = some (.normal, [], st1, ps)) (hp : All ps)
    (hn : LoopSC C.P np c st1 e st') : LoopSC C.P np c st e st' := by
  intro X a w hpm hI b k cs
  obtain ⟨qs, e1, hs⟩ := exec_sound hC h
  rw [List.nil_append] at e1
  subst e1
  obtain ⟨e', a', w', ⟨he, hI'⟩, harr⟩ := hs hp X a w hpm hI b (.inLoop c :: k) cs
  subst he
  obtain ⟨e2, a2, w2, hq, harr2⟩ := hn X a' w' hpm hI' b k cs
  exact ⟨e2, a2, w2, hq, .of_steps (Steps.trans harr (.one step_inLoop)) harr2⟩

theorem loop_out (hC : CfgOK C) {f : FuncId} {np : Nat} {c : Code} {its : List It} {st st' : St} {ps : List Prop} {e : AEx} (h : aexec C f np c its st [] = some (e, [], st', ps)) (hp : All ps) (hne : e ≠ .normal) :
    LoopSC C.P np c st e st' := by
  intro X a w hpm hI b k cs
  obtain ⟨qs, e1, hs⟩ := exec_sound hC h
  rw [List.nil_append] at e1
  subst e1
  obtain ⟨e', a', w', ⟨he, hI'⟩, harr⟩ := hs hp X a w hpm hI b (.inLoop c :: k) cs
  subst he
  refine ⟨_, a', w', ⟨rfl, hI'⟩, .pass (x := .inLoop c) rfl (fun _ _ => .inl ?_) harr⟩
  cases e <;> simp_all [exOf]

end Go.AI
