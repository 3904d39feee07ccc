/- Regions: the classes. -/
import Derived.Test.YtmoodcnoncipiaaAiRegion
set_option autoImplicit false
set_option linter.unusedVariables false
set_option linter.unusedSimpArgs false
namespace Go.AI

variable {C : Cfg} {X : Ctx} {ob ob' : Obs} {a : Act} {w w' : World} {o : Oper} {v : Option AV} {ps : List Prop} {ρ ρ' : Ev}

theorem moveStep_cls {ty : TypeId} {x : Operand} (h : moveStep ρ ob ty x = some (v, ob', ps)) : ob' = ob ∧ ∀ ob2, moveStep ρ ob2 ty x = some (v, ob2, ps) := by
  unfold moveStep at h
  split at h
  · rename_i y hy
    simp only [Option.some.injEq, Prod.mk.injEq] at h
    obtain ⟨rfl, rfl, rfl⟩ := h
    exact ⟨rfl, fun _ => by simp only [moveStep, hy]⟩
  · cases h

theorem pure_cls {it : It} {op : Op} {xs : List SV} (hn : xs.any isAlias = false)
    (h : (if xs.any isAlias then aliasStep C it op xs ob else match apure C it op xs with
      | some (z, ps) => some (some (AV.s z), ob, ps)
      | none => none) = some (v, ob', ps)) : ob' = ob ∧ ∀ ob2, (if xs.any isAlias then aliasStep C it op xs ob2 else match apure C it op xs with
      | some (z, ps) => some (some (AV.s z), ob2, ps)
      | none => none) = some (v, ob2, ps) := by
  simp only [hn, Bool.false_eq_true, if_false] at h ⊢
  split at h
  · rename_i z ps' hz
    simp only [Option.some.injEq, Prod.mk.injEq] at h
    obtain ⟨rfl, rfl, rfl⟩ := h
    exact ⟨rfl, fun _ => rfl⟩
  · cases h

theorem astep0_cls0 {it : It} (he : astep0 C it o ρ ob = some (v, ob', ps)) (hc : cls it o ρ = 0) : ob' = ob ∧ ∀ ob2, astep0 C it o ρ ob2 = some (v, ob2, ps) := by
  unfold astep0 at he ⊢
  unfold cls at hc
  generalize hop : o.op = op at *
  cases op <;> (try simp only [] at hc) <;> try (cases hc; done)
  case move x => exact moveStep_cls he
  case assign x => exact moveStep_cls he
  case load t x =>
    try simp only at he ⊢
    split at hc
    · omega
    · rename_i xs _ hxs
      have hn : xs.any isAlias = false := by
        cases h : xs.any isAlias
        · rfl
        · simp [h] at hc
      simp only [hxs] at he ⊢
      exact pure_cls hn he
    · cases hc
  case store t x y =>
    split at hc
    · split at hc
      · cases hc
      · omega
    · cases hc
  case pick c x y =>
    try simp only at he ⊢
    split at he
    · rename_i hx; try simp only [hx]
      exact moveStep_cls he
    · rename_i hx; try simp only [hx]
      exact moveStep_cls he
    · cases he
  case extract x i =>
    try simp only at he ⊢
    split at he
    · rename_i l hx
      split at he
      · rename_i z hz
        simp only [Option.some.injEq, Prod.mk.injEq] at he
        obtain ⟨rfl, rfl, rfl⟩ := he
        exact ⟨rfl, fun _ => by simp only [hx, hz]⟩
      · cases he
    · cases he
  case nilCheck x =>
    try simp only at he ⊢
    split at he
    all_goals first
      | (rename_i hx
         simp only [Option.some.injEq, Prod.mk.injEq] at he
         obtain ⟨rfl, rfl, rfl⟩ := he
         exact ⟨rfl, fun _ => by simp only [hx]⟩)
      | cases he
  case build t ps =>
    try simp only at he ⊢
    split at hc
    · rename_i qs hqs
      have hn : qs.any (fun p => isAlias p.2) = false := by
        cases h : qs.any (fun p => isAlias p.2)
        · rfl
        · simp [h] at hc
      simp only [hqs] at he ⊢
      split at he
      · rename_i p q qs' hk hq
        cases hq
        split at he
        · rename_i z ob1 hz
          obtain ⟨rfl, h2⟩ := parts_na hn hz
          split at he
          · rename_i ht
            simp only [Option.some.injEq, Prod.mk.injEq] at he
            obtain ⟨rfl, rfl, rfl⟩ := he
            exact ⟨rfl, fun ob2 => by simp only [hk, h2, ht, if_true]⟩
          · cases he
        · cases he
      · cases he
    · cases hc
  case call c =>
    obtain ⟨ce, args, ts⟩ := c
    cases ce <;> (try simp only [] at hc) <;> try (cases hc; done)
    case value f =>
      try simp only at he ⊢
      split at hc
      · rename_i r g first caps xs hf hx
        simp only [hf, hx] at he ⊢
        have hn : (first.map AV.s ++ xs ++ caps.map AV.s).any avAlias = false := by
          cases h : (first.map AV.s ++ xs ++ caps.map AV.s).any avAlias
          · rfl
          · rw [h] at hc
            simp only [if_true] at hc
            split at hc
            · cases hc
            · split at hc <;> cases hc
        exact callStep_cls0 he hn
      · cases hc
    case builtin b =>
      cases b <;> (try simp only [] at hc) <;> try (cases hc; done)
      all_goals
        try simp only at he ⊢
        split at hc
        · rename_i xs hxs
          have hn : xs.any isAlias = false := by
            cases h : xs.any isAlias
            · rfl
            · simp [h] at hc
          simp only [hxs] at he ⊢
          exact pure_cls hn he
        · cases hc
  all_goals
    try simp only at he ⊢
    split at hc
    · rename_i xs hxs
      have hn : xs.any isAlias = false := by
        cases h : xs.any isAlias
        · rfl
        · simp [h] at hc
      simp only [hxs] at he ⊢
      exact pure_cls hn he
    · cases hc

theorem aliasStep_cls1 {it : It} {op : Op} {xs : List SV} (h : aliasStep C it op xs ob = some (v, ob', ps)) (hop : ∀ t x l hh m, op ≠ .slice t x l hh m) : ob' = ob := by
  unfold aliasStep at h
  repeat' split at h
  all_goals first
    | cases h; done
    | (simp only [Option.some.injEq, Prod.mk.injEq] at h; exact h.2.1.symm)
    | exact absurd rfl (hop _ _ _ _ _)

theorem pure_cls1 {it : It} {op : Op} {xs : List SV} (hop : ∀ t x l hh m, op ≠ .slice t x l hh m)
    (h : (if xs.any isAlias then aliasStep C it op xs ob else match apure C it op xs with
      | some (z, ps) => some (some (AV.s z), ob, ps)
      | none => none) = some (v, ob', ps)) : ob' = ob := by
  split at h
  · exact aliasStep_cls1 h hop
  · split at h
    · simp only [Option.some.injEq, Prod.mk.injEq] at h; exact h.2.1.symm
    · cases h

theorem astep0_cls1 {it : It} (he : astep0 C it o ρ ob = some (v, ob', ps)) (hc : cls it o ρ = 1) : ob' = ob := by
  unfold astep0 at he
  unfold cls at hc
  generalize hop : o.op = op at *
  cases op <;> (try simp only [] at hc) <;> try (cases hc; done)
  case build t ps =>
    split at hc
    · split at hc <;> cases hc
    · cases hc
  case load t x =>
    try simp only at he
    split at he
    · exact pure_cls1 (by intros; simp) he
    · cases he
  case store t x y =>
    split at hc
    · split at hc
      · cases hc
      · omega
    · cases hc
  case slice =>
    split at hc
    · split at hc <;> cases hc
    · cases hc
  case call c =>
    obtain ⟨ce, args, ts⟩ := c
    cases ce <;> (try simp only [] at hc) <;> try (cases hc; done)
    case value f =>
      try simp only at he
      split at hc
      · rename_i r g first caps xs hf hx
        simp only [hf, hx] at he
        split at hc
        · split at hc
          · cases hc
          · rename_i h2
            split at hc
            · rename_i h3; exact callStep_cls1 he (by simpa using h2) h3
            · cases hc
        · cases hc
      · cases hc
    case builtin b =>
      cases b <;> (try simp only [] at hc) <;> try (cases hc; done)
      all_goals
        try simp only at he
        split at he
        · exact pure_cls1 (by intros; simp) he
        · cases he
  all_goals first
    | (cases hc; done)
    | (try simp only at he
       split at he
       · exact pure_cls1 (by intros; simp) he
       · cases he)

theorem astep_cls0 {it : It} (he : astep C it o ρ ob = some (v, ob', ps)) (hc : cls it o ρ = 0) : ob' = ob ∧ ∀ ob2, astep C it o ρ ob2 = some (v, ob2, ps) := by
  obtain ⟨v0, ps0, h1, _, h3⟩ := decB_spec he
  obtain ⟨h4, h5⟩ := astep0_cls0 h1 hc
  exact ⟨h4, fun ob2 => by unfold astep; rw [h5]; exact h3 ob2⟩

theorem set_obj (ob : Obs) (i : Nat) : ob.setOb i (ob.obj i) = ob := by
  unfold Obs.setOb Obs.obj
  apply List.ext_getElem?
  intro j
  rw [List.getElem?_set]
  split
  · rename_i e
    subst e
    rw [List.getD_eq_getElem?_getD]
    split
    · rename_i hlt
      simp [List.getElem?_eq_getElem hlt]
    · rename_i hlt
      simp [List.getElem?_eq_none (Nat.le_of_not_lt hlt)]
  · rfl

/-- An operation that has to do with one object. -/
theorem astep0_loc {it : It} (he : astep0 C it o ρ ob = some (v, ob', ps)) (hc : 3 ≤ cls it o ρ) :
    (∃ x, ob' = ob.setOb (idxC (cls it o ρ)) x ∧ ∀ ob2 : Obs, ob2.length = ob.length → ob2.obj (idxC (cls it o ρ)) = ob.obj (idxC (cls it o ρ)) → astep0 C it o ρ ob2 = some (v, ob2.setOb (idxC (cls it o ρ)) x, ps)) ∧
    (rdB (cls it o ρ) = true → ob' = ob) := by
  unfold astep0 at he ⊢
  generalize hcl : cls it o ρ = c at *
  unfold cls at hcl
  generalize hop : o.op = op at *
  cases op <;> (try simp only [] at hcl) <;> try (subst hcl; omega)
  case load t x =>
    try simp only at he ⊢
    split at hcl
    · rename_i i f hxs
      have hidx : idxC c = i := by subst hcl; unfold idxC; omega
      rw [hidx]
      simp only [hxs, List.any_cons, isAlias, Bool.true_or, if_true] at he ⊢
      have hob : ob' = ob := aliasStep_cls1 he (by intros; simp)
      subst hob
      refine ⟨⟨ob'.obj i, (set_obj _ _).symm, fun ob2 _ ho => ?_⟩, fun _ => rfl⟩
      have hset : ob2.setOb i (ob'.obj i) = ob2 := by rw [← ho]; exact set_obj _ _
      rw [hset]
      cases f with
      | none =>
        simp only [aliasStep] at he ⊢
        rw [ho]
        split at he
        · rename_i k x z hob
          split at he
          · rename_i hk
            simp only [Option.some.injEq, Prod.mk.injEq] at he
            obtain ⟨rfl, _, rfl⟩ := he
            simp [hk]
          · cases he
        · cases he
      | some f =>
        simp only [aliasStep] at he ⊢
        rw [ho]
        split at he
        · rename_i k x z hob
          split at he
          · rename_i q y hs
            split at he
            · rename_i hk
              simp only [Option.some.injEq, Prod.mk.injEq] at he
              obtain ⟨rfl, _, rfl⟩ := he
              simp [hs, hk]
            · cases he
          · cases he
        · cases he
    · split at hcl <;> (subst hcl; omega)
    · subst hcl; omega
  case store t x y =>
    try simp only at he ⊢
    split at hcl
    · rename_i i f y' hx hy
      split at hcl
      · subst hcl; omega
      · rename_i hna
        have hna' : isAlias y' = false := by simpa using hna
        have hidx : idxC c = i := by subst hcl; unfold idxC; omega
        have hrd : rdB c = false := by subst hcl; simp [rdB]; omega
        rw [hidx, hrd]
        refine ⟨?_, fun h => by cases h⟩
        simp only [hx, hy] at he ⊢
        cases f with
        | none =>
          simp only [storeStep, escK] at he ⊢
          split at he
          · rename_i k x0 hob
            split at he
            · rename_i z ob1 hz
              split at hz
              · rename_i q y2 ob2 hes
                obtain ⟨rfl, hes2⟩ := esc_na hna' hes
                split at hz
                · rename_i hq
                  simp only [Option.some.injEq, Prod.mk.injEq] at hz
                  obtain ⟨rfl, rfl⟩ := hz
                  rw [hob] at he
                  simp only at he
                  split at he
                  · rename_i hk
                    simp only [Option.some.injEq, Prod.mk.injEq] at he
                    obtain ⟨rfl, rfl, rfl⟩ := he
                    refine ⟨_, rfl, fun ob3 _ ho => ?_⟩
                    rw [hob] at ho
                    simp only [ho, hes2, hq, dif_pos, hk, if_true]
                  · cases he
                · cases hz
              · cases hz
            · cases he
          · cases he
        | some f =>
          simp only [storeStep] at he ⊢
          split at he
          · rename_i k x0 hob
            split at he
            · rename_i q z ob1 hes
              obtain ⟨rfl, hes2⟩ := esc_na hna' hes
              rw [hob] at he
              split at he
              · rename_i x' k2 x2 hu ho2
                split at he
                · rename_i hk
                  simp only [Option.some.injEq, Prod.mk.injEq] at he
                  obtain ⟨rfl, rfl, rfl⟩ := he
                  refine ⟨_, rfl, fun ob3 _ ho => ?_⟩
                  rw [hob] at ho
                  simp only [ho, hes2, hu, hk]
                  simp
                · cases he
              · cases he
            · cases he
          · cases he
    · subst hcl; omega
  case build t ps =>
    split at hcl
    · split at hcl <;> (subst hcl; omega)
    · subst hcl; omega
  case call cc =>
    obtain ⟨ce, args, ts⟩ := cc
    cases ce <;> (try simp only [] at hcl) <;> try (subst hcl; omega)
    case value f =>
      split at hcl
      · split at hcl
        · split at hcl
          · subst hcl; omega
          · split at hcl <;> (subst hcl; omega)
        · subst hcl; omega
      · subst hcl; omega
    case builtin b =>
      cases b <;> (try simp only [] at hcl) <;> try (subst hcl; omega)
      all_goals
        split at hcl
        · split at hcl <;> (subst hcl; omega)
        · subst hcl; omega
  all_goals
    split at hcl
    · split at hcl <;> (subst hcl; omega)
    · subst hcl; omega

theorem astep_loc {it : It} (he : astep C it o ρ ob = some (v, ob', ps)) (hc : 3 ≤ cls it o ρ) :
    ∃ x, ob' = ob.setOb (idxC (cls it o ρ)) x ∧ ∀ ob2 : Obs, ob2.length = ob.length → ob2.obj (idxC (cls it o ρ)) = ob.obj (idxC (cls it o ρ)) → astep C it o ρ ob2 = some (v, ob2.setOb (idxC (cls it o ρ)) x, ps) := by
  obtain ⟨v0, ps0, h1, _, h3⟩ := decB_spec he
  obtain ⟨⟨x, h4, h5⟩, _⟩ := astep0_loc h1 hc
  exact ⟨x, h4, fun ob2 hl ho => by unfold astep; rw [h5 ob2 hl ho]; exact h3 _⟩

theorem astep_rd {it : It} (he : astep C it o ρ ob = some (v, ob', ps)) (hc : rdB (cls it o ρ) = true) : ob' = ob := by
  obtain ⟨v0, ps0, h1, _, h3⟩ := decB_spec he
  have h0 := hc
  simp only [rdB, Bool.or_eq_true, beq_iff_eq, Bool.and_eq_true, decide_eq_true_eq] at h0
  rcases h0 with h0 | h0
  · exact astep0_cls1 h1 h0
  · exact (astep0_loc h1 h0.1).2 hc

end Go.AI
