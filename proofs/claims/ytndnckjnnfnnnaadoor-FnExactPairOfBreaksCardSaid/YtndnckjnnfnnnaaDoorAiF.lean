/- A part of the road: what it proves stands in its last texts. -/
import Derived.Test.YtndnckjnnfnnnaaDoorAiE
section
/- The evaluator over code is sound; loops; a function's run is its contract. -/
set_option autoImplicit false
set_option linter.unusedVariables false
set_option linter.unusedSimpArgs false
namespace Go.AI

variable {C : Cfg} {X : Ctx} {a : Act} {w w' : World} {γ : Nat → Value}

/-! ### Sweeping -/

theorem only_get (ks : List Nat) : ∀ (sl : List (Option AV)) (i t : Nat), (only ks i sl).getD t none = if ks.contains (i + t) then sl.getD t none else none
  | [], _, _ => by simp [only]
  | v :: vs, i, 0 => by
    simp only [only, List.getD_cons_zero, Nat.add_zero]
  | v :: vs, i, t + 1 => by
    simp only [only, List.getD_cons_succ]
    rw [only_get ks vs (i + 1) t, show i + 1 + t = i + (t + 1) by omega]

theorem only_length (ks : List Nat) : ∀ (sl : List (Option AV)) (i : Nat), (only ks i sl).length = sl.length
  | [], _ => rfl
  | _ :: vs, i => by simp [only, only_length ks vs]

theorem onlyOb_obj (np : Nat) (sl : List (Option AV)) : ∀ (ob : Obs) (i t : Nat), (onlyOb np sl i ob).obj t = if (i + t < np || sl.any (avHas (i + t))) then ob.obj t else none
  | [], _, _ => by simp [onlyOb, Obs.obj]
  | o :: os, i, 0 => by
    cases o <;> simp [onlyOb, Obs.obj]
  | o :: os, i, t + 1 => by
    have := onlyOb_obj np sl os (i + 1) t
    rw [show i + 1 + t = i + (t + 1) by omega] at this
    simp only [Obs.obj, onlyOb, List.getD_cons_succ] at this ⊢
    exact this

theorem InvG.sweep {st : St} (h : InvG X st a w γ) {np : Nat} (hpm : ∀ iv ∈ X.pm, iv.1 < np) (ks : List Nat) : InvG X (Go.AI.sweep np ks st) a w γ := by
  obtain ⟨sl, ob⟩ := st
  have hob : ∀ i o, (onlyOb np (only ks 0 sl) 0 ob).obj i = some o → ob.obj i = some o := fun i o ho => by
    rw [onlyOb_obj] at ho
    split at ho
    · exact ho
    · cases ho
  have hB : ∀ b, Bs X ob γ b → Bs X (onlyOb np (only ks 0 sl) 0 ob) γ b := fun b hb => ⟨hb.1, fun i o ho hz => hb.2 i o (hob i o ho) hz⟩
  have K : Keeps w w (Bs X ob γ) (Bs X (onlyOb np (only ks 0 sl) 0 ob) γ) := Keeps.of_sub hB
  refine ⟨h.fr, h.df, ?_, fun i o ho => (h.ob i o (hob i o ho)).keep K fun b _ => rfl, fun i j o p b ho hp => h.dj i j o p b (hob i o ho) (hob j p hp), fun i o b ho => h.fresh i o b (hob i o ho), fun i v hv => ?_, fun t v hv => ?_⟩
  · have := h.sz
    simp only [Go.AI.sweep, only_length] at this ⊢
    exact this
  · obtain ⟨o, ho, h2⟩ := h.pm i v hv
    refine ⟨o, ?_, h2⟩
    have hlt := hpm _ hv
    simp only [Go.AI.sweep, onlyOb_obj, Nat.zero_add]
    rw [if_pos (by simp; exact .inl hlt)]
    exact ho
  · simp only [Go.AI.sweep] at hv
    have hv0 := hv
    rw [only_get] at hv
    split at hv
    · have hs := h.sl t v hv
      have hmem : some v ∈ only ks 0 sl := by
        rw [List.getD_eq_getElem?_getD] at hv0
        cases h9 : (only ks 0 sl)[t]? with
        | none => rw [h9] at hv0; simp at hv0
        | some x => rw [h9] at hv0; simp at hv0; subst hv0; exact List.mem_of_getElem? h9
      have hkeep : ∀ i, avHas i (some v) = true → (onlyOb np (only ks 0 sl) 0 ob).obj i = ob.obj i := fun i hi => by
        rw [onlyOb_obj, if_pos]
        simp only [Nat.zero_add, Bool.or_eq_true, List.any_eq_true]
        exact .inr ⟨_, hmem, hi⟩
      have hS : ∀ x u, (∀ i, svHas i x = true → (onlyOb np (only ks 0 sl) 0 ob).obj i = ob.obj i) → SlS w (Bs X ob γ) ob γ x u → SlS w (Bs X (onlyOb np (only ks 0 sl) 0 ob) γ) (onlyOb np (only ks 0 sl) 0 ob) γ x u := by
        intro x u hi hx
        cases x <;> simp only [SlS] at hx ⊢
        · exact hx.keep K
        · exact hx
        · exact RepA.keep K hx
        · rename_i i f
          rw [hi i (by simp [svHas])]
          exact hx
        · rename_i i ver
          rw [hi i (by simp [svHas])]
          exact hx
        · rename_i i ver j f
          rw [hi i (by simp [svHas])]
          exact hx
        · rename_i i
          rw [hi i (by simp [svHas])]
          exact hx
      have hL : ∀ (xs : List SV) (us : List Value), (∀ i, xs.any (svHas i) = true → (onlyOb np (only ks 0 sl) 0 ob).obj i = ob.obj i) → SlL w (Bs X ob γ) ob γ xs us → SlL w (Bs X (onlyOb np (only ks 0 sl) 0 ob) γ) (onlyOb np (only ks 0 sl) 0 ob) γ xs us := by
        intro xs
        induction xs with
        | nil => intro us _ h; exact h
        | cons x xs ih =>
          intro us hi ⟨u, us', e, h1, h2⟩
          exact ⟨u, us', e, hS x u (fun i h => hi i (by simp [h])) h1, ih us' (fun i h => hi i (by simp only [List.any_cons, h, Bool.or_true])) h2⟩
      cases v
      · exact hS _ _ (fun i hi => hkeep i hi) hs
      · obtain ⟨vs, e, h1⟩ := hs
        exact ⟨vs, e, hL _ _ (fun i hi => hkeep i hi) h1⟩
      · exact AVRep.keep (x := .fn ..) K hs
    · cases hv

theorem InvG.renOne {st : St} (h : InvG X st a w γ) {i : Nat} (hi : ∀ iv ∈ X.pm, iv.1 ≠ i) : InvG X (Go.AI.renOne i st) a w γ := by
  unfold Go.AI.renOne
  split
  · rename_i e k l ver z ho
    split
    · rename_i hc
      obtain ⟨sl, ob⟩ := st
      have ho' : ob.obj i = some (.row e k l ver z) := ho
      have hlt := obj_lt ho'
      have hobj : ∀ j, (ob.setOb i (some (.row e k l 0 z))).obj j = if j = i then some (.row e k l 0 z) else ob.obj j := fun j => obj_setOb _ _ _ _ hlt
      have hold : ∀ j o, (ob.setOb i (some (.row e k l 0 z))).obj j = some o → ∃ o', ob.obj j = some o' ∧ o'.frz = o.frz := fun j o hj => by
        rw [hobj] at hj
        split at hj
        · rename_i e1
          subst e1
          cases hj
          exact ⟨_, ho', rfl⟩
        · exact ⟨o, hj, rfl⟩
      have hB : ∀ b, Bs X ob γ b → Bs X (ob.setOb i (some (.row e k l 0 z))) γ b := fun b hb => ⟨hb.1, fun j o hj hz => by
        obtain ⟨o', h1, h2⟩ := hold j o hj
        exact hb.2 j o' h1 (h2.trans hz)⟩
      have K : Keeps w w (Bs X ob γ) (Bs X (ob.setOb i (some (.row e k l 0 z))) γ) := Keeps.of_sub hB
      have hS : ∀ x u, svVer i ver x = true → SlS w (Bs X ob γ) ob γ x u → SlS w (Bs X (ob.setOb i (some (.row e k l 0 z))) γ) (ob.setOb i (some (.row e k l 0 z))) γ (renS i x) u := by
        intro x u hv hx
        cases x <;> simp only [SlS, renS] at hx ⊢
        · exact hx.keep K
        · exact hx
        · exact RepA.keep K hx
        · rename_i j f
          obtain ⟨⟨k', x', z', h1⟩, h2⟩ := hx
          refine ⟨⟨k', x', z', ?_⟩, h2⟩
          rw [hobj, if_neg (fun e1 => by subst e1; rw [ho'] at h1; cases h1)]
          exact h1
        · rename_i j v
          by_cases e1 : i = j
          · subst e1
            simp only [svVer, BEq.rfl, Bool.not_true, Bool.false_or, beq_iff_eq] at hv
            subst hv
            rw [if_pos rfl]
            refine ⟨⟨e, k, l, 0, z, by rw [hobj, if_pos rfl], Nat.le_refl _⟩, fun e' k' l' z' _ => hx.2 _ _ _ _ ho'⟩
          · rw [if_neg e1]
            simp only [SlS]
            rw [hobj, if_neg (Ne.symm e1)]
            exact hx
        · rename_i j v jj f
          have e1 : i ≠ j := by simpa [svVer] using hv
          rw [hobj, if_neg (Ne.symm e1)]
          exact hx
        · rename_i j
          obtain ⟨⟨k', l', z', h1⟩, h2⟩ := hx
          refine ⟨⟨k', l', z', ?_⟩, h2⟩
          rw [hobj, if_neg (fun e1 => by subst e1; rw [ho'] at h1; cases h1)]
          exact h1
      have hL : ∀ (xs : List SV) (us : List Value), xs.all (svVer i ver) = true → SlL w (Bs X ob γ) ob γ xs us → SlL w (Bs X (ob.setOb i (some (.row e k l 0 z))) γ) (ob.setOb i (some (.row e k l 0 z))) γ (xs.map (renS i)) us := by
        intro xs
        induction xs with
        | nil => intro us _ h; exact h
        | cons x xs ih =>
          intro us hi ⟨u, us', e, h1, h2⟩
          simp only [List.all_cons, Bool.and_eq_true] at hi
          exact ⟨u, us', e, hS x u hi.1 h1, ih us' hi.2 h2⟩
      refine ⟨h.fr, h.df, by have := h.sz; simpa using this, fun j o hj => ?_, fun j j' o p b hj hj' => ?_, fun j o b hj => ?_, fun j v hv => ?_, fun t v hv => ?_⟩
      · simp only at hj
        rw [hobj] at hj
        split at hj
        · rename_i e1
          subst e1
          cases hj
          have h1 : OwnRow w (Bs X ob γ) 0 e k l (γ j) := h.ob j _ ho'
          exact OwnRow.keep K h1 fun b _ => rfl
        · exact (h.ob j o hj).keep K fun b _ => rfl
      · obtain ⟨o1, h1, _⟩ := hold j o hj
        obtain ⟨o2, h2, _⟩ := hold j' p hj'
        exact h.dj j j' o1 o2 b h1 h2
      · obtain ⟨o1, h1, _⟩ := hold j o hj
        exact h.fresh j o1 b h1
      · obtain ⟨o, h1, h2⟩ := h.pm j v hv
        refine ⟨o, ?_, h2⟩
        simp only
        rw [hobj, if_neg (hi _ hv)]
        exact h1
      · simp only [List.getD_eq_getElem?_getD, List.getElem?_map] at hv
        cases hs : sl[t]? with
        | none => rw [hs] at hv; simp at hv
        | some y =>
          rw [hs] at hv
          simp only [Option.map, Option.getD] at hv
          cases y with
          | none => cases hv
          | some y =>
            simp only [Option.some.injEq] at hv
            subst hv
            have h1 := h.sl t y (by simp only [List.getD_eq_getElem?_getD, hs]; rfl)
            have hall := List.all_eq_true.1 hc.2 (some y) (List.mem_of_getElem? hs)
            cases y
            · exact hS _ _ hall h1
            · obtain ⟨vs, e1, h2⟩ := h1
              exact ⟨vs, e1, hL _ _ hall h2⟩
            · exact AVRep.keep (x := .fn ..) K h1
    · exact h
  · exact h

theorem InvG.renFrom {np : Nat} (hpm : ∀ iv ∈ X.pm, iv.1 < np) : ∀ (n i : Nat) {st : St}, np ≤ i → InvG X st a w γ → InvG X (Go.AI.renFrom i n st) a w γ
  | 0, _, _, _, h => h
  | n + 1, i, _, hi, h => InvG.renFrom hpm n (i + 1) (by omega) (h.renOne fun iv hiv => by have := hpm iv hiv; omega)

theorem InvG.viewOne {st : St} (h : InvG X st a w γ) (i : Nat) : InvG X (Go.AI.viewOne i st) a w γ := by
  unfold Go.AI.viewOne
  split
  · rename_i j ver hs
    split
    · rename_i y ob' he
      obtain ⟨sl, ob⟩ := st
      have h0 := h.sl i _ hs
      obtain ⟨hle, h1, hr⟩ := h.esc (x := .osl j ver) (y := y) (ob' := ob') (u := a.tmps.getD i undef) h0 he
      refine ⟨h1.fr, h1.df, by have := h1.sz; simpa using this, h1.ob, h1.dj, h1.fresh, h1.pm, fun t x ht => ?_⟩
      simp only [List.getD_eq_getElem?_getD, List.getElem?_set] at ht
      by_cases et : i = t
      · subst et
        rw [if_pos rfl] at ht
        split at ht
        · simp only [Option.getD, Option.some.injEq] at ht
          subst ht
          cases y <;> simp only [SVRep] at hr <;> exact hr
        · simp at ht
      · rw [if_neg et] at ht
        exact h1.sl t x (by simp only [List.getD_eq_getElem?_getD]; exact ht)
    · exact h
  · exact h

theorem InvG.viewAll : ∀ (is : List Nat) {st : St}, InvG X st a w γ → InvG X (Go.AI.viewAll is st) a w γ
  | [], _, h => h
  | i :: is, _, h => InvG.viewAll is (h.viewOne i)

theorem InvG.nilOne {st : St} (h : InvG X st a w γ) (i : Nat) : ∃ γ', InvG X (Go.AI.nilOne i st) a w γ' := by
  unfold Go.AI.nilOne
  split
  · rename_i e k hs ho
    split
    · rename_i hlt
      obtain ⟨sl, ob⟩ := st
      have hu : a.tmps.getD i undef = .slice none 0 0 := h.sl i _ hs
      have hrep : ∀ B', ObRep w B' (.slice none 0 0) (.row e k [] 0 false) := fun B' => ⟨[], ⟨by simp, .inl ⟨rfl, rfl⟩⟩, rfl⟩
      obtain ⟨h1, K, S⟩ := h.new (w' := w) (d := i) (o := .row e k [] 0 false) (v := .slice none 0 0) ho hlt ⟨rfl, rfl, rfl, Nat.le_refl _, fun _ _ _ => rfl⟩ (fun b hb => by cases hb) (fun B' _ => hrep B')
      refine ⟨_, h1.fr, h1.df, by have := h1.sz; simpa using this, h1.ob, h1.dj, h1.fresh, h1.pm, fun t x ht => ?_⟩
      simp only [List.getD_eq_getElem?_getD, List.getElem?_set] at ht
      by_cases et : i = t
      · subst et
        rw [if_pos rfl] at ht
        split at ht
        · simp only [Option.getD, Option.some.injEq] at ht
          subst ht
          refine ⟨⟨e, k, [], 0, false, by rw [obj_setOb _ _ _ _ hlt, if_pos rfl], Nat.le_refl _⟩, fun _ _ _ _ _ => ?_⟩
          rw [upd_same]
          exact hu
        · simp at ht
      · rw [if_neg et] at ht
        exact h1.sl t x (by simp only [List.getD_eq_getElem?_getD]; exact ht)
    · exact ⟨γ, h⟩
  · exact ⟨γ, h⟩

theorem InvG.nilFrom : ∀ (n i : Nat) {st : St} {γ : Nat → Value}, InvG X st a w γ → ∃ γ', InvG X (Go.AI.nilFrom i n st) a w γ'
  | 0, _, _, γ, h => ⟨γ, h⟩
  | n + 1, i, _, _, h => by
    obtain ⟨γ', h'⟩ := h.nilOne i
    exact InvG.nilFrom n (i + 1) h'

theorem InvG.renumN {st : St} (h : InvG X st a w γ) {np : Nat} : ∃ γ', InvG X (Go.AI.renumN np st) a w γ' := by
  unfold Go.AI.renumN
  split
  · exact InvG.nilFrom _ _ h
  · exact ⟨γ, h⟩

theorem InvG.renum {st : St} (h : InvG X st a w γ) {np : Nat} (hpm : ∀ iv ∈ X.pm, iv.1 < np) : ∃ γ', InvG X (Go.AI.renum np st) a w γ' := by
  have h1 : ∃ γ', InvG X (if st.ob.any needRen then Go.AI.renFrom np (st.ob.length - np) st else st) a w γ' := by
    split
    · exact ⟨_, InvG.renFrom hpm _ _ (Nat.le_refl _) h⟩
    · exact ⟨γ, h⟩
  obtain ⟨γ1, h1⟩ := h1
  exact h1.renumN

/-! ### Code -/

theorem exec_sound (hC : CfgOK C) {f : FuncId} {np : Nat} : ∀ {c : Code} {its its' : List It} {st st' : St} {lg lg' : List Prop} {e : AEx}, aexec C f np c its st lg = some (e, its', st', lg') →
    ∃ ps, lg' = lg ++ ps ∧ (All ps → ∀ X a w, (∀ iv ∈ X.pm, iv.1 < np) → Inv X st a w → c.wp C.P (Post X e st') a w)
  | .skip, its, its', st, st', lg, lg', e, h => by
    simp only [aexec, Option.some.injEq, Prod.mk.injEq] at h
    obtain ⟨rfl, rfl, rfl, rfl⟩ := h
    exact ⟨[], by simp, fun _ X a w _ hI => wp_skip ⟨rfl, hI⟩⟩
  | .region id ops draw, its, its', st, st', lg, lg', e, h => by
    simp only [aexec] at h
    split at h
    · rename_i hd
      split at h
      · rename_i st1 its1 lg1 hr
        simp only [Option.some.injEq, Prod.mk.injEq] at h
        obtain ⟨rfl, rfl, rfl, rfl⟩ := h
        obtain ⟨ps, e, hs⟩ := region_sound hC (id := id) (draw := draw) hd hr
        exact ⟨ps, e, fun hp X a w hpm hI => hs hp X a w hI _ fun a' w' ⟨γ, hI'⟩ => ⟨rfl, ((InvG.viewAll _ hI').sweep hpm _).renum hpm⟩⟩
      · cases h
    · cases h
  | .seq x y, its, its', st, st', lg, lg', e, h => by
    simp only [aexec] at h
    split at h
    · rename_i its1 st1 lg1 h1
      obtain ⟨ps, e1, hs1⟩ := exec_sound hC h1
      obtain ⟨qs, e2, hs2⟩ := exec_sound hC h
      refine ⟨ps ++ qs, by rw [e2, e1, List.append_assoc], fun hp X a w hpm hI => wp_seq ?_⟩
      refine wp_mono (hs1 hp.parts.1 X a w hpm hI) fun e' a' w' ⟨he, hI'⟩ => ?_
      subst he
      exact hs2 hp.parts.2 X a' w' hpm hI'
    · rename_i hne
      obtain ⟨ps, e1, hs1⟩ := exec_sound hC h
      refine ⟨ps, e1, fun hp X a w hpm hI => wp_seq ?_⟩
      refine wp_mono (hs1 hp X a w hpm hI) fun e' a' w' ⟨he, hI'⟩ => ?_
      subst he
      cases e with
      | normal => exact absurd h (hne _ _ _)
      | ret => exact ⟨rfl, hI'⟩
      | exit id => exact ⟨rfl, hI'⟩
  | .cond c x y, its, its', st, st', lg, lg', e, h => by
    simp only [aexec] at h
    split at h
    · rename_i hc
      obtain ⟨ps, e1, hs1⟩ := exec_sound hC h
      refine ⟨ps, e1, fun hp X a w hpm hI => ?_⟩
      obtain ⟨γ, hI'⟩ := hI
      exact wp_cond_true (RepV.bool (evS_rep (sl := st.sl) (ob := st.ob) hI' hc)) (hs1 hp X a w hpm ⟨γ, hI'⟩)
    · rename_i hc
      obtain ⟨ps, e1, hs1⟩ := exec_sound hC h
      refine ⟨ps, e1, fun hp X a w hpm hI => ?_⟩
      obtain ⟨γ, hI'⟩ := hI
      exact wp_cond_false (RepV.bool (evS_rep (sl := st.sl) (ob := st.ob) hI' hc)) (hs1 hp X a w hpm ⟨γ, hI'⟩)
    · cases h
  | .block id x, its, its', st, st', lg, lg', e, h => by
    simp only [aexec] at h
    split at h
    · rename_i id' its1 st1 lg1 h1
      obtain ⟨ps, e1, hs1⟩ := exec_sound hC h1
      split at h
      · rename_i hid
        simp only [Option.some.injEq, Prod.mk.injEq] at h
        obtain ⟨rfl, rfl, rfl, rfl⟩ := h
        refine ⟨ps, e1, fun hp X a w hpm hI => wp_block (wp_mono (hs1 hp X a w hpm hI) fun e' a' w' ⟨he, hI'⟩ => ?_)⟩
        subst he
        simp only [exOf, Exit.inBlock, hid, if_true]
        exact ⟨rfl, hI'⟩
      · rename_i hid
        simp only [Option.some.injEq, Prod.mk.injEq] at h
        obtain ⟨rfl, rfl, rfl, rfl⟩ := h
        refine ⟨ps, e1, fun hp X a w hpm hI => wp_block (wp_mono (hs1 hp X a w hpm hI) fun e' a' w' ⟨he, hI'⟩ => ?_)⟩
        subst he
        simp only [exOf, Exit.inBlock, hid, if_false]
        exact ⟨rfl, hI'⟩
    · rename_i hne
      obtain ⟨ps, e1, hs1⟩ := exec_sound hC h
      refine ⟨ps, e1, fun hp X a w hpm hI => wp_block (wp_mono (hs1 hp X a w hpm hI) fun e' a' w' ⟨he, hI'⟩ => ?_)⟩
      subst he
      cases e with
      | normal => exact ⟨rfl, hI'⟩
      | ret => exact ⟨rfl, hI'⟩
      | exit id => exact absurd h (hne _ _ _ _)
  | .exit id, its, its', st, st', lg, lg', e, h => by
    simp only [aexec, Option.some.injEq, Prod.mk.injEq] at h
    obtain ⟨rfl, rfl, rfl, rfl⟩ := h
    exact ⟨[], by simp, fun _ X a w _ hI => wp_exit ⟨rfl, hI⟩⟩
  | .ret, its, its', st, st', lg, lg', e, h => by
    simp only [aexec, Option.some.injEq, Prod.mk.injEq] at h
    obtain ⟨rfl, rfl, rfl, rfl⟩ := h
    exact ⟨[], by simp, fun _ X a w _ hI => wp_ret ⟨rfl, hI⟩⟩
  | .loop x, its, its', st, st', lg, lg', e, h => by
    simp only [aexec] at h
    split at h
    · rename_i g its1
      simp only [Option.some.injEq, Prod.mk.injEq] at h
      obtain ⟨rfl, rfl, rfl, rfl⟩ := h
      refine ⟨_, rfl, fun hp X a w hpm hI => fun b k cs => ?_⟩
      obtain ⟨e, a', w', hq, harr⟩ := hp.1 X a w hpm hI b k cs
      exact ⟨e, a', w', hq, .of_steps (.one step_loop) harr⟩
    · cases h
  | .label _, _, _, _, _, _, _, _, h => by simp [aexec] at h
  | .goto _, _, _, _, _, _, _, _, h => by simp [aexec] at h
  | .scope _, _, _, _, _, _, _, _, h => by simp [aexec] at h
  | .rangeFunc .., _, _, _, _, _, _, _, h => by simp [aexec] at h

/-! ### Loops -/

theorem loop_iter (hC : CfgOK C) {f : FuncId} {np : Nat} {c : Code} {its : List It} {st st1 st' : St} {ps : List Prop} {e : AEx} (h : aexec C f np c its st [] = some (.normal, [], st1, ps)) (hp : All ps)
    (hn : LoopSC C.P np c st1 e st') : LoopSC C.P np c st e st' := by
  intro X a w hpm hI b k cs
  obtain ⟨qs, e1, hs⟩ := exec_sound hC h
  rw [List.nil_append] at e1
  subst e1
  obtain ⟨e', a', w', ⟨he, hI'⟩, harr⟩ := hs hp X a w hpm hI b (.inLoop c :: k) cs
  subst he
  obtain ⟨e2, a2, w2, hq, harr2⟩ := hn X a' w' hpm hI' b k cs
  exact ⟨e2, a2, w2, hq, .of_steps (Steps.trans harr (.one step_inLoop)) harr2⟩

theorem loop_out (hC : CfgOK C) {f : FuncId} {np : Nat} {c : Code} {its : List It} {st st' : St} {ps : List Prop} {e : AEx} (h : aexec C f np c its st [] = some (e, [], st', ps)) (hp : All ps) (hne : e ≠ .normal) :
    LoopSC C.P np c st e st' := by
  intro X a w hpm hI b k cs
  obtain ⟨qs, e1, hs⟩ := exec_sound hC h
  rw [List.nil_append] at e1
  subst e1
  obtain ⟨e', a', w', ⟨he, hI'⟩, harr⟩ := hs hp X a w hpm hI b (.inLoop c :: k) cs
  subst he
  refine ⟨_, a', w', ⟨rfl, hI'⟩, .pass (x := .inLoop c) rfl (fun _ _ => .inl ?_) harr⟩
  cases e <;> simp_all [exOf]

end Go.AI
end

section
/- A function's run is its contract. -/
set_option autoImplicit false
set_option linter.unusedVariables false
set_option linter.unusedSimpArgs false
namespace Go.AI

variable {C : Cfg} {X : Ctx} {a : Act} {w w' : World} {B : Nat → Prop} {γ : Nat → Value}

/-! ### The arguments -/

/-- Is an argument handed over to be changed? -/
def isMut : AV → Bool
  | .s (.mbx _ _) => true
  | .s (.msl _ _ _) => true
  | .s (.mmp _ _) => true
  | _ => false

def pmOf : Nat → List AV → List Value → List (Nat × Value)
  | i, x :: as, u :: us => if isMut x then (i, u) :: pmOf (i + 1) as us else pmOf (i + 1) as us
  | _, _, _ => []

def MutRep (w : World) (B : Nat → Prop) : AV → Value → Prop
  | .s (.mbx k x), u => BoxAt w B k x u
  | .s (.msl e k l), u => OwnRow w B 0 e k l u
  | .s (.mmp k l), u => MapAt w k l u
  | a, u => AVRep w B a u

theorem ArgRep.cons {x : AV} {as : List AV} {vs mv : List Value} (h : ArgRep w B (x :: as) vs mv) :
    ∃ u us m, vs = u :: us ∧ mv = (if isMut x then [u] else []) ++ m ∧ MutRep w B x u ∧ ArgRep w B as us m := by
  cases x
  · rename_i x
    cases x
    case mbx => obtain ⟨u, us, m, h1, h2, h3, h4⟩ := h; exact ⟨u, us, m, h1, h2, h3, h4⟩
    case msl => obtain ⟨u, us, m, h1, h2, h3, h4⟩ := h; exact ⟨u, us, m, h1, h2, h3, h4⟩
    case mmp => obtain ⟨u, us, m, h1, h2, h3, h4⟩ := h; exact ⟨u, us, m, h1, h2, h3, h4⟩
    all_goals obtain ⟨u, us, h1, h3, h4⟩ := h; exact ⟨u, us, _, h1, rfl, h3, h4⟩
  · obtain ⟨u, us, h1, h3, h4⟩ := h; exact ⟨u, us, _, h1, rfl, h3, h4⟩
  · obtain ⟨u, us, h1, h3, h4⟩ := h; exact ⟨u, us, _, h1, rfl, h3, h4⟩

theorem ArgRep.length : ∀ {as : List AV} {vs mv : List Value}, ArgRep w B as vs mv → vs.length = as.length
  | [], _, _, h => by rw [h.1]; rfl
  | x :: as, _, _, h => by
    obtain ⟨u, us, m, rfl, _, _, h4⟩ := h.cons
    simp [h4.length]

theorem ArgRep.pm : ∀ {as : List AV} {vs mv : List Value} (i : Nat), ArgRep w B as vs mv → (pmOf i as vs).map (·.2) = mv
  | [], _, _, _, h => by rw [h.1, h.2]; rfl
  | x :: as, _, _, i, h => by
    obtain ⟨u, us, m, rfl, rfl, _, h4⟩ := h.cons
    simp only [pmOf]
    split <;> simp_all [h4.pm (i + 1)]

theorem ArgRep.get : ∀ {as : List AV} {vs mv : List Value}, ArgRep w B as vs mv → ∀ {j : Nat} {x : AV}, as[j]? = some x → MutRep w B x (vs.getD j undef)
  | [], _, _, _, j, x, hj => by simp at hj
  | y :: as, _, _, h, 0, x, hj => by
    obtain ⟨u, us, m, rfl, rfl, h3, h4⟩ := h.cons
    simp at hj; subst hj; exact h3
  | y :: as, _, _, h, j + 1, x, hj => by
    obtain ⟨u, us, m, rfl, rfl, h3, h4⟩ := h.cons
    simp at hj
    simpa using h4.get hj

theorem mem_pmOf : ∀ {as : List AV} {vs : List Value} {i t : Nat} {v : Value}, as.length = vs.length → ((t, v) ∈ pmOf i as vs ↔ ∃ j x, t = i + j ∧ as[j]? = some x ∧ isMut x = true ∧ vs.getD j undef = v)
  | [], vs, i, t, v, hl => by simp [pmOf]
  | x :: as, [], i, t, v, hl => by simp at hl
  | x :: as, u :: us, i, t, v, hl => by
    have ih := mem_pmOf (as := as) (vs := us) (i := i + 1) (t := t) (v := v) (by simpa using hl)
    simp only [pmOf]
    constructor
    · intro h
      have : (isMut x = true ∧ t = i ∧ v = u) ∨ (t, v) ∈ pmOf (i + 1) as us := by
        split at h
        · rename_i hx
          rcases List.mem_cons.1 h with e | e
          · cases e; exact .inl ⟨hx, rfl, rfl⟩
          · exact .inr e
        · exact .inr h
      rcases this with ⟨hx, rfl, rfl⟩ | h
      · exact ⟨0, x, rfl, rfl, hx, rfl⟩
      · obtain ⟨j, y, h1, h2, h3, h4⟩ := ih.1 h
        exact ⟨j + 1, y, by omega, h2, h3, by simpa using h4⟩
    · rintro ⟨j, y, h1, h2, h3, h4⟩
      cases j with
      | zero =>
        simp at h2 h4 h1
        subst h2; subst h4; subst h1
        simp [h3]
      | succ j =>
        have := ih.2 ⟨j, y, by omega, by simpa using h2, h3, by simpa using h4⟩
        split
        · exact List.mem_cons_of_mem _ this
        · exact this

theorem pm_distinct : ∀ {as : List AV} {vs : List Value} {i : Nat}, as.length = vs.length → ((pmOf i as vs).map (fun iv => blk iv.2)).Pairwise (fun a b => a = none ∨ a ≠ b) →
    ∀ {j k : Nat} {x y : AV} {b : Nat}, j < k → as[j]? = some x → as[k]? = some y → isMut x = true → isMut y = true → blk (vs.getD j undef) = some b → blk (vs.getD k undef) ≠ some b
  | [], _, _, _, _, j, k, x, y, b, _, h, _, _, _, _ => by simp at h
  | _ :: _, [], _, hl, _, _, _, _, _, _, _, _, _, _, _, _ => by simp at hl
  | x0 :: as, u :: us, i, hl, hp, j, k, x, y, b, hjk, hj, hk, hx, hy, hb => by
    have hl' : as.length = us.length := by simpa using hl
    simp only [pmOf] at hp
    cases k with
    | zero => omega
    | succ k =>
      simp at hk
      cases j with
      | zero =>
        simp at hj hb
        subst hj
        rw [if_pos hx] at hp
        simp only [List.map_cons, List.pairwise_cons] at hp
        intro hb'
        have hm : (i + 1 + k, us.getD k undef) ∈ pmOf (i + 1) as us := (mem_pmOf hl').2 ⟨k, y, rfl, hk, hy, rfl⟩
        have := hp.1 _ (List.mem_map_of_mem (f := fun iv => blk iv.2) hm)
        simp at hb'
        rw [hb] at this
        rcases this with h | h
        · cases h
        · exact h (by simp [hb'])
      | succ j =>
        simp at hj hb
        have hp' : ((pmOf (i + 1) as us).map (fun iv => blk iv.2)).Pairwise (fun a b => a = none ∨ a ≠ b) := by
          split at hp
          · simp only [List.map_cons, List.pairwise_cons] at hp; exact hp.2
          · exact hp
        simpa using pm_distinct hl' hp' (by omega) hj hk hx hy (by simpa using hb)

theorem params_get : ∀ (as : List AV) (i t : Nat), (params i as).getD t none = (as[t]?).map (paramA (i + t))
  | [], _, _ => by simp [params]
  | x :: as, i, 0 => by simp [params]
  | x :: as, i, t + 1 => by
    simp only [params, List.getD_cons_succ, List.getElem?_cons_succ]
    rw [params_get as (i + 1) t, show i + 1 + t = i + (t + 1) by omega]

theorem params_length : ∀ (as : List AV) (i : Nat), (params i as).length = as.length
  | [], _ => rfl
  | x :: as, i => by simp [params, params_length as]

theorem start_get (fn : Func) (as : List AV) (t : Nat) : (start fn as).sl.getD t none = (as[t]?).map (paramA t) := by
  simp only [start, List.getD_eq_getElem?_getD]
  rcases Nat.lt_or_ge t as.length with h | h
  · rw [List.getElem?_append_left (by rw [params_length]; exact h)]
    have := params_get as 0 t
    rw [List.getD_eq_getElem?_getD, Nat.zero_add] at this
    exact this
  · rw [List.getElem?_append_right (by rw [params_length]; exact h), List.getElem?_eq_none (l := as) h]
    simp [List.getElem?_replicate]
    split <;> rfl

theorem start_obj (fn : Func) (as : List AV) (t : Nat) : (start fn as).ob.obj t = (as[t]?).bind paramO := by
  simp only [start, Obs.obj, List.getD_eq_getElem?_getD]
  rcases Nat.lt_or_ge t as.length with h | h
  · rw [List.getElem?_append_left (by simpa using h)]
    simp [h]
  · rw [List.getElem?_append_right (by simpa using h), List.getElem?_eq_none (l := as) h]
    simp [List.getElem?_replicate]
    split <;> rfl

theorem paramO_some {x : AV} {o : Ob} (h : paramO x = some o) : isMut x = true ∧ o.frz = false ∧ ∀ e k l ver z, o = .row e k l ver z → ver = 0 := by
  cases x <;> simp only [paramO, reduceCtorEq] at h
  rename_i x
  cases x <;> simp only [paramO, reduceCtorEq, Option.some.injEq] at h
  · subst h; exact ⟨rfl, rfl, fun e k l ver z h => by cases h⟩
  · subst h; exact ⟨rfl, rfl, fun e k l ver z h => by cases h; rfl⟩
  · subst h; exact ⟨rfl, rfl, fun e k l ver z h => by cases h⟩

theorem SVsRep.slots' {ob : Obs} : ∀ {xs : List SV} {us : List Value}, SVsRep w B xs us → SlL w B ob γ xs us
  | [], _, h => h
  | _ :: _, _, ⟨u, us, e, h1, h2⟩ => ⟨u, us, e, SVRep.slot h1, h2.slots'⟩

def ctxOf (w : World) (B : Nat → Prop) (args : List AV) (vs : List Value) : Ctx := ⟨w, B, pmOf 0 args vs⟩

theorem start_inv {fn : Func} {args : List AV} {vs mv : List Value} (hB : ∀ b, B b → ∀ v ∈ mv, blk v ≠ some b) (hd : (mv.map blk).Pairwise (fun a b => a = none ∨ a ≠ b)) (h : ArgRep w B args vs mv) :
    InvG (ctxOf w B args vs) (start fn args) { tmps := vs.toArray ++ Array.replicate (fn.ntmps - vs.toArray.size) undef, defers := [] } w (fun i => vs.getD i undef) := by
  have hlen := h.length
  have hmv : (ctxOf w B args vs).mv = mv := h.pm 0
  have hobj : ∀ i o, (start fn args).ob.obj i = some o → ∃ x, args[i]? = some x ∧ paramO x = some o ∧ isMut x = true := fun i o ho => by
    rw [start_obj] at ho
    cases hx : args[i]? with
    | none => rw [hx] at ho; cases ho
    | some x => rw [hx] at ho; exact ⟨x, rfl, ho, (paramO_some ho).1⟩
  have hpd : ((pmOf 0 args vs).map (fun iv => blk iv.2)).Pairwise (fun a b => a = none ∨ a ≠ b) := by
    have := hd
    rw [← h.pm 0, List.map_map] at this
    exact this
  have hin : ∀ i x, args[i]? = some x → isMut x = true → vs.getD i undef ∈ mv := fun i x hx hm => by
    rw [← h.pm 0]
    exact List.mem_map.2 ⟨(i, _), (mem_pmOf hlen.symm).2 ⟨i, x, by simp, hx, hm, rfl⟩, rfl⟩
  have hBs : ∀ b, B b → Bs (ctxOf w B args vs) (start fn args).ob (fun i => vs.getD i undef) b := fun b hb => ⟨.inl hb, fun i o ho _ => by
    obtain ⟨x, hx, _, hm⟩ := hobj i o ho
    exact hB b hb _ (hin i x hx hm)⟩
  have K : Keeps w w B (Bs (ctxOf w B args vs) (start fn args).ob (fun i => vs.getD i undef)) := Keeps.of_sub hBs
  have hdj : ∀ i j o p b, (start fn args).ob.obj i = some o → (start fn args).ob.obj j = some p → i < j → blk (vs.getD i undef) = some b → blk (vs.getD j undef) ≠ some b := fun i j o p b ho hp hij hb => by
    obtain ⟨x, hx, _, hm⟩ := hobj i o ho
    obtain ⟨y, hy, _, hn⟩ := hobj j p hp
    exact pm_distinct hlen.symm hpd hij hx hy hm hn hb
  refine ⟨⟨rfl, rfl, rfl, Nat.le_refl _, fun k _ _ => rfl⟩, rfl, ?_, fun i o ho => ?_, fun i j o p b ho hp hne hb => ?_, fun i o b ho hb => ?_, fun i v hv => ?_, fun t v hv => ?_⟩
  · simp [start, params_length, hlen]
  · obtain ⟨x, hx, hxo, hm⟩ := hobj i o ho
    have hr := h.get hx
    cases x <;> simp only [paramO, reduceCtorEq] at hxo
    rename_i x
    cases x <;> simp only [paramO, reduceCtorEq, Option.some.injEq] at hxo
    · subst hxo; exact BoxAt.keep K hr fun b _ => rfl
    · subst hxo; exact OwnRow.keep K hr fun b _ => rfl
    · subst hxo; exact MapAt.keep hr fun b _ => rfl
  · rcases Nat.lt_or_gt_of_ne hne with e | e
    · exact hdj i j o p b ho hp e hb
    · intro hb'
      exact hdj j i p o b hp ho e hb' hb
  · obtain ⟨x, hx, hxo, hm⟩ := hobj i o ho
    exact .inr ⟨_, by rw [hmv]; exact hin i x hx hm, hb⟩
  · obtain ⟨j, x, h1, h2, h3, h4⟩ := (mem_pmOf hlen.symm).1 hv
    rw [Nat.zero_add] at h1
    subst h1
    rw [start_obj, h2]
    cases x <;> simp only [isMut, Bool.false_eq_true] at h3
    rename_i x
    cases x <;> simp only [isMut, Bool.false_eq_true] at h3
    · exact ⟨_, rfl, fun _ => h4⟩
    · exact ⟨_, rfl, fun _ => h4⟩
    · exact ⟨_, rfl, fun _ => h4⟩
  · rw [start_get] at hv
    cases hx : args[t]? with
    | none => rw [hx] at hv; cases hv
    | some x =>
      rw [hx] at hv
      simp only [Option.map, Option.some.injEq] at hv
      subst hv
      have hlt : t < vs.length := by rw [hlen]; exact (List.getElem?_eq_some_iff.1 hx).1
      have hget : (vs.toArray ++ Array.replicate (fn.ntmps - vs.toArray.size) undef).getD t undef = vs.getD t undef := by
        simp [Array.getD_eq_getD_getElem?, Array.getElem?_append, hlt]
      simp only [hget]
      have hr := h.get hx
      cases x
      · rename_i x
        have ho : (start fn args).ob.obj t = paramO (.s x) := by rw [start_obj, hx]; rfl
        cases x
        case mbx k x =>
          obtain ⟨b, cs, tt, e, h1, h2⟩ := hr
          exact ⟨⟨k, x, false, ho⟩, b, e, e⟩
        case msl e k l =>
          refine ⟨⟨e, k, l, 0, false, ho, Nat.le_refl _⟩, fun _ _ _ _ _ => rfl⟩
        case mmp k l => exact ⟨⟨k, l, false, ho⟩, rfl⟩
        case v k x => exact SVRep.slot (x := .v k x) (ob := (start fn args).ob) (γ := fun i => vs.getD i undef) (SVRep.keep (x := .v k x) K hr)
        case nilsl e k => exact SVRep.slot (x := .nilsl e k) (ob := (start fn args).ob) (γ := fun i => vs.getD i undef) (SVRep.keep (x := .nilsl e k) K hr)
        case fadr k x => exact SVRep.slot (x := .fadr k x) (ob := (start fn args).ob) (γ := fun i => vs.getD i undef) (SVRep.keep (x := .fadr k x) K hr)
        all_goals exact (hr : False).elim
      · obtain ⟨us, e, h1⟩ := hr
        exact ⟨us, e, (h1.keep K).slots'⟩
      · exact AVRep.keep (x := .fn ..) K hr

end Go.AI
end

section
/- A function's run is its contract: the results. -/
set_option autoImplicit false
set_option linter.unusedVariables false
set_option linter.unusedSimpArgs false
namespace Go.AI

variable {C : Cfg} {X : Ctx} {a : Act} {w w' : World} {B : Nat → Prop} {γ : Nat → Value}

/-- What the end of a run knows of what is handed over. -/
structure EndOK (X : Ctx) (st : St) (γ : Nat → Value) (np : Nat) (D : List Nat) : Prop where
  pm : ∀ i v, (i, v) ∈ X.pm → i < np ∧ ∃ o, st.ob.obj i = some o ∧ o.frz = false ∧ γ i = v
  own : ∀ i ∈ D, np ≤ i ∧ ∃ e k l ver, st.ob.obj i = some (.row e k l ver false)

def ownBlocks (γ : Nat → Value) (D : List Nat) : List Nat := D.filterMap fun i => blk (γ i)

theorem EndOK.bs {st : St} {np : Nat} {D : List Nat} (hE : EndOK X st γ np D) {b : Nat} (hb : Bs X st.ob γ b) : After X.w0 X.B0 (ownBlocks γ D) b := by
  refine ⟨?_, fun hm => ?_⟩
  · rcases hb.1 with h | h | ⟨v, hv, hvb⟩
    · exact .inl h
    · exact .inr h
    · obtain ⟨⟨i, v'⟩, hiv, rfl⟩ := List.mem_map.1 hv
      obtain ⟨_, o, ho, hz, hγ⟩ := hE.pm i v' hiv
      exact absurd (by rw [hγ]; exact hvb) (hb.2 i o ho hz)
  · obtain ⟨i, hi, hib⟩ := List.mem_filterMap.1 hm
    obtain ⟨_, e, k, l, ver, ho⟩ := hE.own i hi
    exact hb.2 i _ ho rfl hib

theorem EndOK.fresh {st : St} {np : Nat} {D : List Nat} (h : InvG X st a w γ) (hE : EndOK X st γ np D) {i : Nat} {o : Ob} (ho : st.ob.obj i = some o) (hn : np ≤ i ∨ o.frz = true) {b : Nat} (hb : blk (γ i) = some b) : X.w0.heap.size ≤ b := by
  rcases h.fresh i o b ho hb with h1 | ⟨v, hv, hvb⟩
  · exact h1
  · obtain ⟨⟨j, v'⟩, hjv, rfl⟩ := List.mem_map.1 hv
    obtain ⟨hj, p, hp, hz, hγ⟩ := hE.pm j v' hjv
    have hne : i ≠ j := by
      rcases hn with h2 | h2
      · omega
      · intro e; subst e; rw [ho] at hp; cases hp; rw [hz] at h2; cases h2
    exact absurd (by rw [hγ]; exact hvb) (h.dj i j o p b ho hp hne hb)

theorem EndOK.block {st : St} {np : Nat} {D : List Nat} (h : InvG X st a w γ) (hE : EndOK X st γ np D) {i : Nat} {o : Ob} (ho : st.ob.obj i = some o) (hn : np ≤ i ∨ o.frz = true) (hD : i ∉ D) {b : Nat} (hb : blk (γ i) = some b) : After X.w0 X.B0 (ownBlocks γ D) b := by
  refine ⟨.inr (hE.fresh h ho hn hb), fun hm => ?_⟩
  obtain ⟨j, hj, hjb⟩ := List.mem_filterMap.1 hm
  obtain ⟨_, e, k, l, ver, hp⟩ := hE.own j hj
  by_cases e : i = j
  · subst e; exact hD hj
  · exact h.dj i j _ _ b ho hp e hb hjb

theorem OwnRow.base {N : Nat} {e : TypeId} {k : Kd} {l : List k.ty} {v : Value} (h : OwnRow w B 0 e k l v) (hN : ∀ b, blk v = some b → N ≤ b) : OwnRow w B N e k l v := by
  obtain ⟨flat, ho, hr⟩ := h
  refine ⟨flat, ⟨ho.1, ?_⟩, hr⟩
  rcases ho.2 with h | ⟨g, cap, cur, rfl, h1, h2⟩
  · exact .inl h
  · exact .inr ⟨g, cap, cur, rfl, hN g rfl, h2⟩

theorem resS_sound {st : St} {np : Nat} {D : List Nat} (h : InvG X st a w γ) (hE : EndOK X st γ np D) {x y : SV} {oi : Option Nat} {u : Value} (hx : SlS w (Bs X st.ob γ) st.ob γ x u) (he : resS st np x = some (y, oi)) (hD : ∀ i, oi = some i → i ∈ D) :
    ResS w (After X.w0 X.B0 (ownBlocks γ D)) X.w0.heap.size y u (ownBlocks γ oi.toList) := by
  have K : Keeps w w (Bs X st.ob γ) (After X.w0 X.B0 (ownBlocks γ D)) := Keeps.of_sub fun b hb => hE.bs hb
  cases x
  case nilsl e k =>
    simp only [resS, Option.some.injEq, Prod.mk.injEq] at he
    obtain ⟨rfl, rfl⟩ := he
    have hu : u = .slice none 0 0 := hx
    subst hu
    exact ⟨⟨[], ⟨by simp, .inl ⟨rfl, rfl⟩⟩, rfl⟩, rfl⟩
  case osl i ver =>
    simp only [resS] at he
    split at he
    · rename_i e k l ver' z ho
      split at he
      · rename_i hver
        subst hver
        have hu := hx.2 _ _ _ _ ho
        subst hu
        have hob : OwnRow w (Bs X st.ob γ) 0 e k l (γ i) := h.ob i _ ho
        split at he
        · rename_i hc
          split at he
          · rename_i hz
            subst hz
            simp only [Option.some.injEq, Prod.mk.injEq] at he
            obtain ⟨rfl, rfl⟩ := he
            refine ⟨hob.view (fun b hb => hE.bs hb) (fun b hb => hE.block h ho (.inr rfl) (fun hiD => ?_) hb), rfl⟩
            obtain ⟨_, e', k', l', ver', ho'⟩ := hE.own i hiD
            rw [show st.ob.obj i = _ from ho] at ho'
            cases ho'
          · cases he
        · rename_i hc
          simp only [Option.some.injEq, Prod.mk.injEq] at he
          obtain ⟨rfl, rfl⟩ := he
          simp only [Bool.or_eq_true, decide_eq_true_eq, not_or] at hc
          refine ⟨(hob.base fun b hb => hE.fresh h ho (.inl (by omega)) hb).keep K fun b _ => rfl, ?_⟩
          cases hb : blk (γ i) <;> simp [ownBlocks, hb]
      · cases he
    · cases he
  case adr i f =>
    cases f
    case none =>
      simp only [resS] at he
      split at he
      · rename_i k x z ho
        split at he
        · cases he
        · rename_i hnp
          simp only [Option.some.injEq, Prod.mk.injEq] at he
          obtain ⟨rfl, rfl⟩ := he
          obtain ⟨_, b, h1, rfl⟩ := hx
          have hob : BoxAt w (Bs X st.ob γ) k x (γ i) := h.ob i _ ho
          have := hob.view (B' := After X.w0 X.B0 (ownBlocks γ D)) (fun b hb => hE.bs hb) (fun b hb => hE.block h ho (.inl (by omega)) (fun hiD => by
            obtain ⟨_, e', k', l', ver', ho'⟩ := hE.own i hiD
            rw [show st.ob.obj i = _ from ho] at ho'
            cases ho') hb)
          rw [h1] at this
          exact ⟨this, rfl⟩
      · cases he
    case some f =>
      simp only [resS, Go.AI.plain, reduceCtorEq] at he
  case v k x =>
    simp only [resS, Go.AI.plain, Option.some.injEq, Prod.mk.injEq] at he
    obtain ⟨rfl, rfl⟩ := he
    exact ⟨RepV.keep K hx, rfl⟩
  case fadr k x =>
    simp only [resS, Go.AI.plain, Option.some.injEq, Prod.mk.injEq] at he
    obtain ⟨rfl, rfl⟩ := he
    exact ⟨RepA.keep K hx, rfl⟩
  all_goals simp only [resS, Go.AI.plain, reduceCtorEq] at he

theorem resS_own {st : St} {np : Nat} {x y : SV} {i : Nat} (he : resS st np x = some (y, some i)) : np ≤ i ∧ ∃ e k l ver, st.ob.obj i = some (.row e k l ver false) := by
  unfold resS at he
  split at he
  · simp at he
  · rename_i j ver
    split at he
    · rename_i e k l ver' z ho
      split at he
      · split at he
        · split at he
          · simp at he
          · cases he
        · rename_i hc
          simp only [Option.some.injEq, Prod.mk.injEq] at he
          obtain ⟨_, rfl⟩ := he
          simp only [Bool.or_eq_true, decide_eq_true_eq, not_or, Bool.not_eq_true] at hc
          refine ⟨by omega, e, k, l, ver', ?_⟩
          rw [show st.ob.obj j = _ from ho, hc.2]
      · cases he
    · cases he
  · split at he
    · split at he
      · cases he
      · simp at he
    · cases he
  · split at he
    · simp at he
    · cases he

theorem resVar_own {st : St} {np : Nat} {r : ResultVar} {x : AV} {i : Nat} (he : resVar C st np r = some (x, some i)) : np ≤ i ∧ ∃ e k l ver, st.ob.obj i = some (.row e k l ver false) := by
  unfold resVar at he
  split at he
  · split at he
    · split at he
      · rename_i y o hy
        simp only [Option.some.injEq, Prod.mk.injEq] at he
        obtain ⟨_, rfl⟩ := he
        exact resS_own hy
      · cases he
    · simp at he
    · cases he
  · split at he
    · split at he
      · split at he
        · simp at he
        · cases he
      · cases he
    · cases he

theorem resVars_own {st : St} {np : Nat} : ∀ {rs : List ResultVar} {as : List AV} {D : List Nat}, resVars C st np rs = some (as, D) → D.Nodup ∧ ∀ i ∈ D, np ≤ i ∧ ∃ e k l ver, st.ob.obj i = some (.row e k l ver false)
  | [], as, D, h => by
    simp only [resVars, Option.some.injEq, Prod.mk.injEq] at h
    obtain ⟨rfl, rfl⟩ := h
    exact ⟨List.nodup_nil, by simp⟩
  | r :: rs, as, D, h => by
    simp only [resVars] at h
    split at h
    · rename_i x o xs os hx hxs
      obtain ⟨h1, h2⟩ := resVars_own hxs
      split at h
      · rename_i hc
        simp only [Option.some.injEq, Prod.mk.injEq] at h
        obtain ⟨rfl, rfl⟩ := h
        cases o with
        | none => exact ⟨by simpa using h1, by simpa using h2⟩
        | some i =>
          simp at hc
          refine ⟨by simp [h1, hc], fun j hj => ?_⟩
          simp at hj
          rcases hj with rfl | hj
          · exact resVar_own hx
          · exact h2 j hj
      · cases h
    · cases h

def ResAs (w : World) (B : Nat → Prop) (N : Nat) : List AV → List Value → List Nat → Prop
  | [], us, os => us = [] ∧ os = []
  | x :: as, us, os => ∃ u us' o1 o2, us = u :: us' ∧ os = o1 ++ o2 ∧ ResA w B N x u o1 ∧ ResAs w B N as us' o2

theorem resVar_sound (hC : CfgOK C) {st : St} {np : Nat} {D : List Nat} (h : InvG X st a w γ) (hE : EndOK X st γ np D) {r : ResultVar} {x : AV} {oi : Option Nat} (he : resVar C st np r = some (x, oi)) (hD : ∀ i, oi = some i → i ∈ D) :
    ∃ u, (match r with | .tmp t => (pure (a.tmps.getD t undef) : Sem Value) | .cell b t => do loadVar t (← asAddr (a.tmps.getD b undef))).run C.P w = .ok u w ∧ ResA w (After X.w0 X.B0 (ownBlocks γ D)) X.w0.heap.size x u (ownBlocks γ oi.toList) := by
  cases r
  · rename_i t
    refine ⟨a.tmps.getD t undef, rfl, ?_⟩
    simp only [resVar] at he
    split at he
    · rename_i y hy
      have hs := h.sl t _ hy
      split at he
      · rename_i z o hz
        simp only [Option.some.injEq, Prod.mk.injEq] at he
        obtain ⟨rfl, rfl⟩ := he
        exact resS_sound h hE hs hz hD
      · cases he
    · rename_i g p q hy
      simp only [Option.some.injEq, Prod.mk.injEq] at he
      obtain ⟨rfl, rfl⟩ := he
      have hs := h.sl t _ hy
      exact ⟨AVRep.keep (x := .fn g p q) (Keeps.of_sub fun b hb => hE.bs hb) hs, rfl⟩
    · cases he
  · rename_i t ty
    simp only [resVar] at he
    split at he
    · rename_i i hi
      split at he
      · rename_i k x z hob
        split at he
        · rename_i hk
          simp only [Option.some.injEq, Prod.mk.injEq] at he
          obtain ⟨rfl, rfl⟩ := he
          obtain ⟨_, b, hb, e⟩ := h.sl t _ hi
          obtain ⟨b', cs, t', e', hh, hr⟩ := h.ob _ _ hob
          rw [hb] at e'
          cases e'
          have hc : CellsAt w ⟨b, 0, none⟩ cs := fun j u hj => by
            have hadd : (⟨b, 0, none⟩ : Addr).add j = ⟨b, j, none⟩ := by unfold Addr.add; split <;> simp_all
            rw [hadd]; simp only [World.cell?, hh]; simpa using hj
          refine ⟨mkV k cs, ?_, ⟨cs, hr.keep (Keeps.of_sub fun b hb => hE.bs hb), rfl⟩, rfl⟩
          have e2 : a.tmps.getD t undef = .pointer (some ⟨b, 0, none⟩) := e
          simp only [e2]
          simp [asAddr, (hC.kd _ _ hk).loadVar hr hc]
        · cases he
      · cases he
    · cases he

theorem resVars_sound (hC : CfgOK C) {st : St} {np : Nat} {D : List Nat} (h : InvG X st a w γ) (hE : EndOK X st γ np D) : ∀ {rs : List ResultVar} {as : List AV} {E : List Nat}, resVars C st np rs = some (as, E) → (∀ i ∈ E, i ∈ D) →
    ∃ us, (rs.mapM (m := Sem) fun r => match r with | .tmp t => pure (a.tmps.getD t undef) | .cell b t => do loadVar t (← asAddr (a.tmps.getD b undef))).run C.P w = .ok us w ∧
      ResAs w (After X.w0 X.B0 (ownBlocks γ D)) X.w0.heap.size as us (ownBlocks γ E)
  | [], as, E, he, hD => by
    simp only [resVars, Option.some.injEq, Prod.mk.injEq] at he
    obtain ⟨rfl, rfl⟩ := he
    exact ⟨[], rfl, rfl, rfl⟩
  | r :: rs, as, E, he, hD => by
    simp only [resVars] at he
    split at he
    · rename_i x o xs os hx hxs
      split at he
      · rename_i hc
        simp only [Option.some.injEq, Prod.mk.injEq] at he
        obtain ⟨rfl, rfl⟩ := he
        obtain ⟨us, h1, h2⟩ := resVars_sound hC h hE hxs fun i hi => hD i (by simp [hi])
        obtain ⟨u, h3, h4⟩ := resVar_sound hC h hE hx fun i hi => hD i (by simp [hi])
        refine ⟨u :: us, ?_, _, us, ownBlocks γ o.toList, ownBlocks γ os, rfl, ?_, h4, h2⟩
        · simp only [List.mapM_cons, Sem.run_bind, h3, Sem.run_pure, Result.andThen_ok, h1]
        · simp [ownBlocks, List.filterMap_append]
      · cases he
    · cases he

theorem ResAs.tup {N : Nat} : ∀ {as : List AV} {us : List Value} {os : List Nat} {l : List SV}, ResAs w B N as us os → mapO toSV as = some l → ResL w B N l us os
  | [], us, os, l, h, e => by
    simp only [mapO, Option.some.injEq] at e
    subst e
    exact h
  | x :: as, us, os, l, ⟨u, us', o1, o2, h1, h2, h3, h4⟩, e => by
    simp only [mapO] at e
    split at e
    · rename_i y ys hy hys
      simp only [Option.some.injEq] at e
      subst e
      cases x <;> simp only [toSV, reduceCtorEq, Option.some.injEq] at hy
      subst hy
      exact ⟨u, us', o1, o2, h1, h2, h3, ResAs.tup h4 hys⟩
    · cases e

theorem ResAs.length {N : Nat} : ∀ {as : List AV} {us : List Value} {os : List Nat}, ResAs w B N as us os → us.length = as.length
  | [], _, _, h => by rw [h.1]; rfl
  | _ :: _, _, _, ⟨_, _, _, _, h1, _, _, h4⟩ => by rw [h1]; simp [h4.length]

theorem resOf_sound (hC : CfgOK C) {st : St} {np : Nat} (h : InvG X st a w γ) {fn : Func} {r : AV} (he : resOf C st np fn.results.toList = some r) (hpm : ∀ i v, (i, v) ∈ X.pm → i < np ∧ ∃ o, st.ob.obj i = some o ∧ o.frz = false ∧ γ i = v) :
    ∃ D v, EndOK X st γ np D ∧ D.Nodup ∧ (results fn a.tmps).run C.P w = .ok v w ∧ ResA w (After X.w0 X.B0 (ownBlocks γ D)) X.w0.heap.size r v (ownBlocks γ D) := by
  unfold resOf at he
  have hrun : ∀ us, (fn.results.toList.mapM (m := Sem) fun r => match r with | .tmp t => pure (a.tmps.getD t undef) | .cell b t => do loadVar t (← asAddr (a.tmps.getD b undef))).run C.P w = .ok us w →
      (results fn a.tmps).run C.P w = .ok (if h : us.toArray.size = 1 then us.toArray[0] else .tuple us.toArray) w := fun us e => by
    unfold results
    rw [Array.mapM_eq_mapM_toList]
    simp only [Sem.run_bind, Sem.run_map, Result.andThen_ok, bind_map_left, map_eq_pure_bind]
    erw [e]
    rfl
  split at he
  · rename_i x D hr
    simp only [Option.some.injEq] at he
    subst he
    obtain ⟨hnd, hown⟩ := resVars_own hr
    have hE : EndOK X st γ np D := ⟨hpm, hown⟩
    obtain ⟨us, h1, h2⟩ := resVars_sound hC h hE hr fun i hi => hi
    obtain ⟨u, us', o1, o2, rfl, ho, h3, rfl, rfl⟩ := h2
    refine ⟨D, u, hE, hnd, by rw [hrun _ h1]; rfl, ?_⟩
    have e1 : o1 = ownBlocks γ D := by simpa using ho.symm
    rw [e1] at h3
    exact h3
  · rename_i as D hne hr
    cases hm : mapO toSV as with
    | none => rw [hm] at he; cases he
    | some l =>
      rw [hm] at he
      simp only [Option.map, Option.some.injEq] at he
      subst he
      obtain ⟨hnd, hown⟩ := resVars_own hr
      have hE : EndOK X st γ np D := ⟨hpm, hown⟩
      obtain ⟨us, h1, h2⟩ := resVars_sound hC h hE hr fun i hi => hi
      have hl := h2.length
      refine ⟨D, .tuple us.toArray, hE, hnd, ?_, us, rfl, h2.tup hm⟩
      rw [hrun _ h1, dif_neg]
      intro e
      match as, hl with
      | [x], _ => exact hne x rfl
      | [], hl => simp at hl; subst hl; simp at e
      | x :: y :: as, hl => simp at e hl; omega
  · cases he

end Go.AI
end

section
/- A function's run is its contract. -/
set_option autoImplicit false
set_option linter.unusedVariables false
set_option linter.unusedSimpArgs false
namespace Go.AI

variable {C : Cfg} {X : Ctx} {a : Act} {w w' : World} {B : Nat → Prop} {γ : Nat → Value}

theorem outs_pm {st : St} : ∀ {as : List AV} {vs mv : List Value} {B0 : Nat → Prop} {i : Nat} {os : List MO}, ArgRep w B0 as vs mv → outsOf st i as = some os → (∀ t v, (t, v) ∈ pmOf i as vs → ∃ o, st.ob.obj t = some o ∧ ((∀ e k l ver z, o = .row e k l ver z → ver = 0) → γ t = v)) →
    (∀ t v, (t, v) ∈ pmOf i as vs → t < i + as.length ∧ ∃ o, st.ob.obj t = some o ∧ o.frz = false ∧ γ t = v) ∧
    ((∀ t o, st.ob.obj t = some o → ObRep w' B (γ t) o) → MOsAt w' B os mv)
  | [], vs, mv, B0, i, os, h, he, hp => by
    simp only [outsOf, Option.some.injEq] at he
    subst he
    exact ⟨fun t v ht => by simp [pmOf] at ht, fun _ => h.2⟩
  | x :: as, vs, mv, B0, i, os, h, he, hp => by
    obtain ⟨u, us, m, rfl, rfl, h3, h4⟩ := h.cons
    have hrest : ∀ {os'}, outsOf st (i + 1) as = some os' → (∀ t v, (t, v) ∈ pmOf (i + 1) as us → t < i + (x :: as).length ∧ ∃ o, st.ob.obj t = some o ∧ o.frz = false ∧ γ t = v) ∧
        ((∀ t o, st.ob.obj t = some o → ObRep w' B (γ t) o) → MOsAt w' B os' m) := fun {os'} he' => by
      have := outs_pm h4 he' (fun t v ht => hp t v (by
        simp only [pmOf]
        split
        · exact List.mem_cons_of_mem _ ht
        · exact ht))
      refine ⟨fun t v ht => ?_, this.2⟩
      obtain ⟨h1, h2⟩ := this.1 t v ht
      exact ⟨by simp only [List.length_cons]; omega, h2⟩
    cases hm : isMut x with
    | false =>
      have he' : outsOf st (i + 1) as = some os := by
        cases x
        · rename_i x
          cases x <;> simp only [isMut, Bool.true_eq_false] at hm <;> exact he
        · exact he
        · exact he
      have := hrest he'
      simp only [pmOf, hm, Bool.false_eq_true, if_false, List.nil_append]
      exact this
    | true =>
      have hpi : ∃ o, st.ob.obj i = some o ∧ ((∀ e k l ver z, o = .row e k l ver z → ver = 0) → γ i = u) := hp i u (by simp [pmOf, hm])
      have key : ∃ mo os' o, os = mo :: os' ∧ outsOf st (i + 1) as = some os' ∧ st.ob.obj i = some o ∧ o.frz = false ∧ γ i = u ∧ ((ObRep w' B (γ i) o) → MOAt w' B mo (γ i)) := by
        cases x <;> simp only [isMut, Bool.false_eq_true] at hm
        rename_i x
        cases x <;> simp only [isMut, Bool.false_eq_true] at hm
        · simp only [outsOf] at he
          split at he
          · rename_i k x os' ho hos
            simp only [Option.some.injEq] at he
            obtain ⟨o, ho', hv⟩ := hpi
            have ho2 : st.ob.obj i = some (.box k x false) := ho
            rw [ho2] at ho'
            cases ho'
            exact ⟨_, os', _, he.symm, hos, ho2, rfl, hv (by intros; simp_all), fun h => h⟩
          · cases he
        · simp only [outsOf] at he
          split at he
          · rename_i e k l os' ho hos
            simp only [Option.some.injEq] at he
            obtain ⟨o, ho', hv⟩ := hpi
            have ho2 : st.ob.obj i = some (.row e k l 0 false) := ho
            rw [ho2] at ho'
            cases ho'
            exact ⟨_, os', _, he.symm, hos, ho2, rfl, hv (fun e k l ver z h => by cases h; rfl), fun h => h⟩
          · cases he
        · simp only [outsOf] at he
          split at he
          · rename_i k l os' ho hos
            simp only [Option.some.injEq] at he
            obtain ⟨o, ho', hv⟩ := hpi
            have ho2 : st.ob.obj i = some (.mp k l false) := ho
            rw [ho2] at ho'
            cases ho'
            exact ⟨_, os', _, he.symm, hos, ho2, rfl, hv (fun e k l ver z h => by cases h), fun h => h⟩
          · cases he
      obtain ⟨mo, os', o, rfl, hos, ho, hz, hγ, hmo⟩ := key
      obtain ⟨h1, h2⟩ := hrest hos
      refine ⟨fun t v ht => ?_, fun hob => ?_⟩
      · simp only [pmOf, hm, if_true] at ht
        rcases List.mem_cons.1 ht with e | e
        · cases e
          exact ⟨by simp only [List.length_cons]; omega, o, ho, hz, hγ⟩
        · exact h1 t v e
      · simp only [if_true, List.singleton_append]
        exact ⟨u, m, rfl, hγ ▸ hmo (hob i o ho), h2 hob⟩

theorem ownBlocks_nodup : ∀ {D : List Nat}, D.Nodup → (∀ i ∈ D, ∀ j ∈ D, i ≠ j → ∀ b, blk (γ i) = some b → blk (γ j) ≠ some b) → (ownBlocks γ D).Nodup
  | [], _, _ => List.nodup_nil
  | i :: D, hn, h => by
    rw [List.nodup_cons] at hn
    have ih := ownBlocks_nodup hn.2 fun j hj k hk => h j (List.mem_cons_of_mem _ hj) k (List.mem_cons_of_mem _ hk)
    unfold ownBlocks at ih ⊢
    rw [List.filterMap_cons]
    split
    · exact ih
    · rename_i b hb
      rw [List.nodup_cons]
      refine ⟨fun hm => ?_, ih⟩
      obtain ⟨j, hj, hjb⟩ := List.mem_filterMap.1 hm
      exact h i (by simp) j (List.mem_cons_of_mem _ hj) (fun e => hn.1 (e ▸ hj)) b hb hjb

/-- **A RUN IS A CONTRACT.** -/
theorem SC_of_run (hC : CfgOK C) {f : FuncId} {fn : Func} {args : List AV} {its : List It} {r : AV} {outs : List MO} {ps : List Prop} (h : arun C f fn args its = some (r, outs, ps)) (hp : All ps)
    (hf : C.P.funcs[f]? = some fn) (hn : fn.name ≠ "runtime.NumGoroutine") : SC C.P f args r outs := by
  unfold arun at h
  split at h
  · cases h
  · rename_i c hb
    have key : ∃ e st, (e = .normal ∨ e = .ret) ∧ aexec C f args.length c its (start fn args) [] = some (e, [], st, ps) ∧ resOf C st args.length fn.results.toList = some r ∧ outsOf st 0 args = some outs := by
      split at h
      · rename_i st lg he
        split at h
        · rename_i r' outs' hr ho
          simp only [Option.some.injEq, Prod.mk.injEq] at h
          obtain ⟨rfl, rfl, rfl⟩ := h
          exact ⟨_, st, .inl rfl, he, hr, ho⟩
        · cases h
      · rename_i st lg he
        split at h
        · rename_i r' outs' hr ho
          simp only [Option.some.injEq, Prod.mk.injEq] at h
          obtain ⟨rfl, rfl, rfl⟩ := h
          exact ⟨_, st, .inr rfl, he, hr, ho⟩
        · cases h
      · cases h
    obtain ⟨e, st, hex, he, hr, ho⟩ := key
    refine ⟨⟨fn, hf, by rw [hb]; rfl, hn⟩, fun w B vs mv hB hd harg => calls_of_wp hf hb ?_⟩
    obtain ⟨qs, e1, hs⟩ := exec_sound hC he
    rw [List.nil_append] at e1
    subst e1
    have hI := start_inv (fn := fn) hB hd harg
    have hlen := harg.length
    refine wp_mono (hs hp (ctxOf w B args vs) _ w (fun iv hiv => ?_) ⟨_, hI⟩) fun e' a' w' ⟨he', γ, hI'⟩ => ?_
    · obtain ⟨j, x, h1, h2, h3, h4⟩ := (mem_pmOf (v := iv.2) (t := iv.1) hlen.symm).1 hiv
      rw [h1, Nat.zero_add]
      exact (List.getElem?_eq_some_iff.1 h2).1
    · have hmv : (ctxOf w B args vs).mv = mv := harg.pm 0
      obtain ⟨hpm, hmo⟩ := outs_pm (w' := w') (B := Bs (ctxOf w B args vs) st.ob γ) harg ho (fun t v ht => hI'.pm t v ht)
      obtain ⟨D, v, hE, hnd, hrun, hres⟩ := resOf_sound hC (np := args.length) hI' hr (fun i v hiv => by simpa using hpm i v hiv)
      have hMO := hmo fun t o hto => hI'.ob t o hto
      have hend : ∃ os, Fr w mv w' ∧ os.Nodup ∧ (∀ b ∈ os, w.heap.size ≤ b) ∧ ResA w' (After w B os) w.heap.size r v os ∧ MOsAt w' (After w B os) outs mv := by
        refine ⟨ownBlocks γ D, hmv ▸ hI'.fr, ?_, fun b hb => ?_, hres, ?_⟩
        · refine ownBlocks_nodup hnd fun i hi j hj hij b hb => ?_
          obtain ⟨_, _, _, _, _, o1⟩ := hE.own i hi
          obtain ⟨_, _, _, _, _, o2⟩ := hE.own j hj
          exact hI'.dj i j _ _ b o1 o2 hij hb
        · obtain ⟨i, hi, hib⟩ := List.mem_filterMap.1 hb
          obtain ⟨h1, _, _, _, _, o1⟩ := hE.own i hi
          exact hE.fresh hI' o1 (.inl h1) hib
        · have hkeep : ∀ (os : List MO) (us : List Value), MOsAt w' (Bs (ctxOf w B args vs) st.ob γ) os us → MOsAt w' (After w B (ownBlocks γ D)) os us := by
            have K : Keeps w' w' (Bs (ctxOf w B args vs) st.ob γ) (After w B (ownBlocks γ D)) := Keeps.of_sub fun b hb => hE.bs hb
            intro os
            induction os with
            | nil => intro us h; exact h
            | cons m os ih =>
              intro us ⟨u, us', e, h1, h2⟩
              refine ⟨u, us', e, ?_, ih us' h2⟩
              cases m
              · exact BoxAt.keep K h1 fun b _ => rfl
              · exact OwnRow.keep K h1 fun b _ => rfl
              · exact MapAt.keep h1 fun b _ => rfl
          exact hkeep _ _ hMO
      obtain ⟨os, h1, h2, h3, h4, h5⟩ := hend
      subst he'
      rcases hex with rfl | rfl
      · exact ⟨hI'.df, v, hrun, v, os, rfl, h1, h2, h3, h4, h5⟩
      · exact ⟨hI'.df, v, hrun, v, os, rfl, h1, h2, h3, h4, h5⟩

end Go.AI
end
