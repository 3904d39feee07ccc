/- A part of the road: what it proves stands in its last texts. -/
import Derived.Test.YtndnckjnnfnnnaaDoorAiD
import Derived.Orders
section
/- Regions: what an operation depends on; every order does what the text's order does. -/
set_option autoImplicit false
set_option linter.unusedVariables false
set_option linter.unusedSimpArgs false
namespace Go.AI

variable {C : Cfg} {X : Ctx} {ob ob' : Obs} {a : Act} {w w' : World} {o : Oper} {v : Option AV} {ps : List Prop} {ρ ρ' : Ev}

/-! ### An operation reads its operands only -/

theorem evS_congr {ty : TypeId} {x : Operand} (h : ∀ t, ρ t x = ρ' t x) : evS ρ ty x = evS ρ' ty x := by simp only [evS, h]

theorem evSs_congr : ∀ {xs : List Operand}, (∀ x ∈ xs, ∀ t, ρ t x = ρ' t x) → evSs ρ xs = evSs ρ' xs
  | [], _ => rfl
  | x :: xs, h => by
    have h1 := evSs_congr (xs := xs) fun y hy => h y (List.mem_cons_of_mem _ hy)
    simp only [evSs, evS_congr (h x (by simp)), h1]

theorem evArgs_congr : ∀ {xs : List Operand} {ts : List TypeId}, (∀ x ∈ xs, ∀ t, ρ t x = ρ' t x) → evArgs ρ xs ts = evArgs ρ' xs ts
  | [], _, _ => rfl
  | x :: xs, ts, h => by
    have h1 := evArgs_congr (xs := xs) (ts := ts.tail) fun y hy => h y (List.mem_cons_of_mem _ hy)
    simp only [evArgs, h x (by simp), h1]

theorem evParts_congr : ∀ {ps : List (Nat × Operand)}, (∀ p ∈ ps, ∀ t, ρ t p.2 = ρ' t p.2) → evParts ρ ps = evParts ρ' ps
  | [], _ => rfl
  | (i, x) :: xs, h => by
    have h1 := evParts_congr (ps := xs) fun y hy => h y (List.mem_cons_of_mem _ hy)
    simp only [evParts, evS_congr (h (i, x) (by simp)), h1]

theorem astep0_congr {it : It} (h : ∀ x ∈ o.op.operands.toList, ∀ t, ρ t x = ρ' t x) : astep0 C it o ρ ob = astep0 C it o ρ' ob := by
  have hs := evSs_congr h
  unfold astep0 moveStep
  generalize hop : o.op = op at *
  cases op
  case move x => simp only [h x (by simp [Op.operands])]
  case assign x => simp only [h x (by simp [Op.operands])]
  case pick c x y => simp only [evS, h c (by simp [Op.operands]), h x (by simp [Op.operands]), h y (by simp [Op.operands])]
  case alloc t => rfl
  case box t x => simp only [evS, h x (by simp [Op.operands])]
  case build t ps =>
    have := evParts_congr (ρ := ρ) (ρ' := ρ') (ps := ps.toList) fun p hp => h p.2 (by simp [Op.operands]; exact ⟨p.1, by simpa using hp⟩)
    simp only [this]
  case buildSlice t n ps =>
    have := evParts_congr (ρ := ρ) (ρ' := ρ') (ps := ps.toList) fun p hp => h p.2 (by simp [Op.operands]; exact ⟨p.1, by simpa using hp⟩)
    simp only [this]
  case store t x y => simp only [evS, h x (by simp [Op.operands]), h y (by simp [Op.operands])]
  case nilCheck x => simp only [evS, h x (by simp [Op.operands])]
  case makeFunc c first caps =>
    cases c
    case func g =>
      have h1 := evSs_congr (ρ := ρ) (ρ' := ρ') (xs := first.toList) fun p hp => h p (by simp [Op.operands]; exact .inl (by simpa using hp))
      have h2 := evSs_congr (ρ := ρ) (ρ' := ρ') (xs := caps.toList) fun p hp => h p (by simp [Op.operands]; exact .inr (by simpa using hp))
      simp only [h1, h2]
    all_goals simp only [hs]
  case makeMap t r =>
    cases r
    · rfl
    · simp only [hs]
  case insert t m x y => simp only [evS, h m (by simp [Op.operands]), h x (by simp [Op.operands]), h y (by simp [Op.operands])]
  case mapUpdate t m x y => simp only [evS, h m (by simp [Op.operands]), h x (by simp [Op.operands]), h y (by simp [Op.operands])]
  case lookup t m x c => simp only [evS, h m (by simp [Op.operands]), h x (by simp [Op.operands])]
  case makeSlice t n m => simp only [evS, h n (by simp [Op.operands]), h m (by simp [Op.operands])]
  case extract x i => simp only [h x (by simp [Op.operands])]
  case call c =>
    obtain ⟨ce, args, ts⟩ := c
    cases ce
    case value f =>
      have h1 := evArgs_congr (ρ := ρ) (ρ' := ρ') (xs := args.toList) (ts := ts.toList) fun p hp => h p (by simp [Op.operands, Call.operands]; exact .inr (by simpa using hp))
      simp only [h1, h f (by simp [Op.operands, Call.operands])]
    case builtin b =>
      cases b
      case append =>
        simp only
        split
        · rename_i x y t t' d hx ht hd
          have h1 : ∀ z, z = x ∨ z = y → ∀ t, ρ t z = ρ' t z := fun z hz => h z (by
            simp only [Op.operands, Call.operands, Array.toList_append, List.mem_append]
            refine .inr ?_
            rw [hx]; simpa using hz)
          simp only [evS, h1 x (.inl rfl), h1 y (.inr rfl)]
        · rfl
      all_goals simp only [hs]
    all_goals simp only [hs]
  all_goals simp only [hs]

theorem astep_congr {it : It} (h : ∀ x ∈ o.op.operands.toList, ∀ t, ρ t x = ρ' t x) : astep C it o ρ ob = astep C it o ρ' ob := by
  unfold astep
  rw [astep0_congr h]

theorem cls_congr {it : It} (h : ∀ x ∈ o.op.operands.toList, ∀ t, ρ t x = ρ' t x) : cls it o ρ = cls it o ρ' := by
  have hs := evSs_congr h
  unfold cls
  generalize hop : o.op = op at *
  cases op
  case store t x y => simp only [evS, h x (by simp [Op.operands]), h y (by simp [Op.operands])]
  case box t x => simp only [evS, h x (by simp [Op.operands])]
  case build t ps =>
    have := evParts_congr (ρ := ρ) (ρ' := ρ') (ps := ps.toList) fun p hp => h p.2 (by simp [Op.operands]; exact ⟨p.1, by simpa using hp⟩)
    simp only [this]
  case buildSlice t n ps =>
    have := evParts_congr (ρ := ρ) (ρ' := ρ') (ps := ps.toList) fun p hp => h p.2 (by simp [Op.operands]; exact ⟨p.1, by simpa using hp⟩)
    simp only [this]
  case call c =>
    obtain ⟨ce, args, ts⟩ := c
    cases ce
    case value f =>
      have h1 := evArgs_congr (ρ := ρ) (ρ' := ρ') (xs := args.toList) (ts := ts.toList) fun p hp => h p (by simp [Op.operands, Call.operands]; exact .inr (by simpa using hp))
      simp only [h1, h f (by simp [Op.operands, Call.operands])]
    case builtin b =>
      cases b
      case append =>
        simp only
        split
        · rename_i x y t t' d hx ht hd
          have h1 : ∀ t, ρ t x = ρ' t x := h x (by
            simp only [Op.operands, Call.operands, Array.toList_append, List.mem_append]
            refine .inr ?_
            rw [hx]; simp)
          simp only [evS, h1]
        · rfl
      all_goals simp only [hs]
    all_goals rfl
  all_goals first | rfl | simp only [hs]

/-! ### What has nothing to do with the objects -/

theorem plain_na {x : SV} (h : isAlias x = false) (ob2 : Obs) : Go.AI.plain ob2 x = Go.AI.plain ob x := by cases x <;> simp_all [isAlias, Go.AI.plain]
theorem frz_na {x : SV} (h : isAlias x = false) : frz ob x = ob := by cases x <;> simp_all [isAlias, frz]

theorem esc_na {x y : SV} (h : isAlias x = false) (he : esc ob x = some (y, ob')) : ob' = ob ∧ ∀ ob2, esc ob2 x = some (y, ob2) := by
  unfold esc at he
  split at he
  · rename_i z hz
    simp only [Option.some.injEq, Prod.mk.injEq] at he
    obtain ⟨rfl, rfl⟩ := he
    refine ⟨frz_na h, fun ob2 => ?_⟩
    simp only [esc, plain_na h (ob := ob) ob2, hz, frz_na h]
  · cases he

theorem parts_na {k : Kd} : ∀ {ps : List (Nat × SV)} {x z : k.ty} {ob ob' : Obs}, ps.any (fun p => isAlias p.2) = false → parts ob k x ps = some (z, ob') → ob' = ob ∧ ∀ ob2, parts ob2 k x ps = some (z, ob2)
  | [], x, z, ob, ob', _, he => by
    simp only [parts, Option.some.injEq, Prod.mk.injEq] at he
    obtain ⟨rfl, rfl⟩ := he
    exact ⟨rfl, fun _ => rfl⟩
  | (i, y) :: ps, x, z, ob, ob', hn, he => by
    simp only [List.any_cons, Bool.or_eq_false_iff] at hn
    simp only [parts] at he
    split at he
    · rename_i q zz ob1 hy
      obtain ⟨rfl, h2⟩ := esc_na hn.1 hy
      split at he
      · rename_i x' hx'
        obtain ⟨h3, h4⟩ := parts_na hn.2 he
        exact ⟨h3, fun ob2 => by simp only [parts, h2, hx', h4]⟩
      · cases he
    · cases he

theorem escK_na {k : Kd} {x : SV} {y : k.ty} {ob ob' : Obs} (h : isAlias x = false) (he : escK ob k x = some (y, ob')) : ob' = ob ∧ ∀ ob2, escK ob2 k x = some (y, ob2) := by
  unfold escK at he
  split at he
  · rename_i q z ob1 hz
    obtain ⟨rfl, h2⟩ := esc_na h hz
    split at he
    · rename_i hk
      simp only [Option.some.injEq, Prod.mk.injEq] at he
      obtain ⟨rfl, rfl⟩ := he
      exact ⟨rfl, fun ob2 => by unfold escK; simp only [h2, dif_pos hk]⟩
    · cases he
  · cases he

theorem elems_na {k : Kd} : ∀ {ps : List (Nat × SV)} {l m : List k.ty} {ob ob' : Obs}, ps.any (fun p => isAlias p.2) = false → elems ob k l ps = some (m, ob') → ob' = ob ∧ ∀ ob2, elems ob2 k l ps = some (m, ob2)
  | [], l, m, ob, ob', _, he => by
    simp only [elems, Option.some.injEq, Prod.mk.injEq] at he
    obtain ⟨rfl, rfl⟩ := he
    exact ⟨rfl, fun _ => rfl⟩
  | (i, y) :: ps, l, m, ob, ob', hn, he => by
    simp only [List.any_cons, Bool.or_eq_false_iff] at hn
    simp only [elems] at he
    split at he
    · rename_i z ob1 hy
      unfold escK at hy
      split at hy
      · rename_i q zz ob2 hy2
        obtain ⟨rfl, h2⟩ := esc_na hn.1 hy2
        split at hy
        · rename_i hq
          simp only [Option.some.injEq, Prod.mk.injEq] at hy
          obtain ⟨rfl, rfl⟩ := hy
          split at he
          · rename_i hil
            obtain ⟨h3, h4⟩ := elems_na hn.2 he
            refine ⟨h3, fun ob2 => ?_⟩
            simp only [elems, escK, h2]
            rw [dif_pos hq]
            simp only [if_pos hil, h4]
          · cases he
        · cases hy
      · cases hy
    · cases he

theorem landS_nil {x y : SV} {ids : List Nat} (h : landS ob [] x = some (y, ids, ob')) : ob' = ob ∧ ids = [] ∧ ∀ ob2, landS ob2 [] x = some (y, [], ob2) := by
  cases x <;> simp_all [landS]

theorem landL_nil : ∀ {xs ys : List SV} {ob ob' : Obs}, landL ob [] xs = some (ys, ob') → ob' = ob ∧ ∀ ob2, landL ob2 [] xs = some (ys, ob2)
  | [], _, _, _, h => by simp only [landL, Option.some.injEq, Prod.mk.injEq] at h; obtain ⟨rfl, rfl⟩ := h; exact ⟨rfl, fun _ => rfl⟩
  | x :: xs, _, ob, _, h => by
    simp only [landL] at h
    split at h
    · rename_i y ids ob1 hy
      obtain ⟨rfl, rfl, h2⟩ := landS_nil hy
      split at h
      · rename_i ys ob2 hys
        obtain ⟨h3, h4⟩ := landL_nil hys
        simp only [Option.some.injEq, Prod.mk.injEq] at h
        obtain ⟨rfl, rfl⟩ := h
        exact ⟨h3, fun ob2 => by simp only [landL, h2, h4]⟩
      · cases h
    · cases h

theorem landA_nil {r y : AV} (h : landA ob [] r = some (y, ob')) : ob' = ob ∧ ∀ ob2, landA ob2 [] r = some (y, ob2) := by
  cases r <;> simp only [landA] at h ⊢
  · split at h
    · rename_i z ids ob1 hz
      obtain ⟨rfl, rfl, h2⟩ := landS_nil hz
      simp only [Option.some.injEq, Prod.mk.injEq] at h
      obtain ⟨rfl, rfl⟩ := h
      exact ⟨rfl, fun ob2 => by simp only [h2]⟩
    · cases h
  · split at h
    · rename_i ys ob1 hz
      obtain ⟨rfl, h2⟩ := landL_nil hz
      simp only [Option.some.injEq, Prod.mk.injEq] at h
      obtain ⟨rfl, rfl⟩ := h
      exact ⟨rfl, fun ob2 => by simp only [h2]⟩
    · cases h
  · simp only [Option.some.injEq, Prod.mk.injEq] at h
    obtain ⟨rfl, rfl⟩ := h
    exact ⟨rfl, fun _ => rfl⟩

theorem argsAV_na : ∀ {as : List AV} {i : Nat}, as.any avAlias = false → ∀ ob2, argsAV ob2 [] i as = argsAV ob [] i as
  | [], _, _, _ => rfl
  | x :: as, i, h, ob2 => by
    simp only [List.any_cons, Bool.or_eq_false_iff] at h
    have h1 : argAV ob2 [] i x = argAV ob [] i x := by
      cases x
      · rename_i x
        cases x <;> simp_all [avAlias, isAlias, argAV, Go.AI.plain]
      · rfl
      · rfl
    simp only [argsAV, h1, argsAV_na h.2 ob2]

theorem mutIds_na : ∀ {as : List AV} {i : Nat}, as.any avAdr = false → mutIds ob [] i as = []
  | [], _, _ => rfl
  | x :: as, i, h => by
    simp only [List.any_cons, Bool.or_eq_false_iff] at h
    have h2 := mutIds_na (as := as) (i := i + 1) h.2
    cases x
    · rename_i x
      cases x <;> simp_all [avAdr, mutIds]
    · simp [mutIds, h2]
    · simp [mutIds, h2]

theorem frzAll_na : ∀ {as : List AV}, as.any avAlias = false → frzAll ob as = ob
  | [], _ => rfl
  | x :: as, h => by
    simp only [List.any_cons, Bool.or_eq_false_iff] at h
    have h2 := frzAll_na (as := as) h.2
    cases x
    · rename_i x
      cases x <;> simp_all [avAlias, isAlias, frzAll]
    · simp [frzAll, h2]
    · simp [frzAll, h2]

theorem any_adr : ∀ {as : List AV}, as.any avAlias = false → as.any avAdr = false
  | [], _ => rfl
  | x :: as, h => by
    simp only [List.any_cons, Bool.or_eq_false_iff] at h ⊢
    refine ⟨?_, any_adr h.2⟩
    cases x
    · rename_i x
      cases x <;> simp_all [avAlias, isAlias, avAdr]
    · rfl
    · rfl

theorem callStep_cls0 {f : FuncId} {as : List AV} {r : AV} (h : callStep C (.res r [] [] []) f as ob = some (v, ob', ps)) (hn : as.any avAlias = false) :
    ob' = ob ∧ ∀ ob2, callStep C (.res r [] [] []) f as ob2 = some (v, ob2, ps) := by
  simp only [callStep] at h
  split at h
  · cases h
  · rename_i xs hxs
    simp only [callMut, mutIds_na (any_adr hn)] at h
    have hf : ∀ ob, callFrz ob as r [] = ob := fun ob => by unfold callFrz; split; rfl; exact frzAll_na hn
    rw [hf] at h
    split at h
    · cases h
    · rename_i y ob3 hy
      obtain ⟨rfl, h2⟩ := landA_nil hy
      simp only [Option.some.injEq, Prod.mk.injEq] at h
      obtain ⟨rfl, rfl, rfl⟩ := h
      refine ⟨rfl, fun ob2 => ?_⟩
      simp only [callStep, argsAV_na hn (ob := ob3) ob2, hxs, callMut, mutIds_na (any_adr hn), hf, h2]

theorem roIds_na : ∀ {as : List AV} {i : Nat}, as.any avAlias = false → roIds ob [] i as = []
  | [], _, _ => rfl
  | x :: as, i, h => by
    simp only [List.any_cons, Bool.or_eq_false_iff] at h
    have h2 := roIds_na (as := as) (i := i + 1) h.2
    cases x
    · rename_i x
      cases x <;> simp_all [avAlias, isAlias, roIds]
    · simp [roIds, h2]
    · simp [roIds, h2]

/-- A call that changes its first argument alone. -/
theorem callStep_mut {f : FuncId} {as : List AV} {r : AV} {mo : MO} {i : Nat} (h : callStep C (.res r [mo] [] []) f (.s (.adr i none) :: as) ob = some (v, ob', ps)) (hn : as.any avAlias = false) :
    ∃ x, ob' = ob.setOb i x ∧ ∀ ob2 : Obs, ob2.length = ob.length → ob2.obj i = ob.obj i → callStep C (.res r [mo] [] []) f (.s (.adr i none) :: as) ob2 = some (v, ob2.setOb i x, ps) := by
  have hf : ∀ ob, callFrz ob (.s (.adr i none) :: as) r [mo] = ob := fun ob => by
    unfold callFrz
    split
    · rfl
    · show frzAll ob as = ob; exact frzAll_na hn
  simp only [callStep] at h
  split at h
  · cases h
  · rename_i xs hxs
    rw [hf] at h
    cases hob : ob.obj i with
    | none => simp [callMut, mutIds, hob, mutIds_na (any_adr hn)] at h
    | some o =>
      cases o with
      | box k x z =>
        cases z with
        | true => simp [callMut, mutIds, hob, mutIds_na (any_adr hn)] at h
        | false =>
          cases mo with
          | row e k' l => simp [callMut, mutIds, hob, mutIds_na (any_adr hn), roIds, roIds_na hn, setMO] at h
          | mp k' l => simp [callMut, mutIds, hob, mutIds_na (any_adr hn), roIds, roIds_na hn, setMO] at h
          | box k' x' =>
            by_cases hk : k' = k
            · subst hk
              simp only [callMut, mutIds, hob, mutIds_na (any_adr hn), roIds, roIds_na hn, setMO, List.contains_nil, Bool.false_eq_true, if_false, dif_pos] at h
              split at h
              · cases h
              · rename_i y ob3 hy
                obtain ⟨rfl, h2⟩ := landA_nil hy
                simp only [Option.some.injEq, Prod.mk.injEq] at h
                obtain ⟨rfl, rfl, rfl⟩ := h
                refine ⟨_, rfl, fun ob2 _ ho => ?_⟩
                have hx2 : argsAV ob2 [] 0 (.s (.adr i none) :: as) = some xs := by
                  rw [← hxs]
                  simp only [argsAV, argAV, ho, hob, argsAV_na hn (ob := ob) ob2]
                simp only [callStep, hx2, hf, callMut, mutIds, ho, mutIds_na (any_adr hn), roIds, roIds_na hn, setMO, List.contains_nil, Bool.false_eq_true, if_false, dif_pos, h2]
            · simp [callMut, mutIds, hob, mutIds_na (any_adr hn), roIds, roIds_na hn, setMO, hk] at h
      | row e k l ver z => simp [callMut, mutIds, hob, mutIds_na (any_adr hn)] at h
      | mp k l z => simp [callMut, mutIds, hob, mutIds_na (any_adr hn)] at h

theorem callStep_cls1 {f : FuncId} {as : List AV} {r : AV} (h : callStep C (.res r [] [] []) f as ob = some (v, ob', ps)) (hn : as.any avAdr = false) (hr : r.flat = true) : ob' = ob := by
  simp only [callStep] at h
  split at h
  · cases h
  · rename_i xs hxs
    simp only [callMut, mutIds_na hn] at h
    have hf : ∀ ob, callFrz ob as r [] = ob := fun ob => by unfold callFrz; simp [hr]
    rw [hf] at h
    split at h
    · cases h
    · rename_i y ob3 hy
      obtain ⟨rfl, h2⟩ := landA_nil hy
      simp only [Option.some.injEq, Prod.mk.injEq] at h
      obtain ⟨rfl, rfl, rfl⟩ := h
      rfl

end Go.AI
end

section
/- Regions: the classes. -/
set_option autoImplicit false
set_option linter.unusedVariables false
set_option linter.unusedSimpArgs false
namespace Go.AI

variable {C : Cfg} {X : Ctx} {ob ob' : Obs} {a : Act} {w w' : World} {o : Oper} {v : Option AV} {ps : List Prop} {ρ ρ' : Ev}

theorem moveStep_cls {ty : TypeId} {x : Operand} (h : moveStep ρ ob ty x = some (v, ob', ps)) : ob' = ob ∧ ∀ ob2, moveStep ρ ob2 ty x = some (v, ob2, ps) := by
  unfold moveStep at h
  simp only [Option.some.injEq, Prod.mk.injEq] at h
  obtain ⟨hy, rfl, rfl⟩ := h
  exact ⟨rfl, fun _ => by simp only [moveStep, hy]⟩

theorem pure_cls {it : It} {op : Op} {xs : List SV} (hn : xs.any isAlias = false)
    (h : (if xs.any isAlias then aliasStep C it op xs ob else match apure C it op xs with
      | some (z, ps) => some (some (AV.s z), ob, ps)
      | none => none) = some (v, ob', ps)) : ob' = ob ∧ ∀ ob2, (if xs.any isAlias then aliasStep C it op xs ob2 else match apure C it op xs with
      | some (z, ps) => some (some (AV.s z), ob2, ps)
      | none => none) = some (v, ob2, ps) := by
  simp only [hn, Bool.false_eq_true, if_false] at h ⊢
  split at h
  · rename_i z ps' hz
    simp only [Option.some.injEq, Prod.mk.injEq] at h
    obtain ⟨rfl, rfl, rfl⟩ := h
    exact ⟨rfl, fun _ => rfl⟩
  · cases h

theorem astep0_cls0 {it : It} (he : astep0 C it o ρ ob = some (v, ob', ps)) (hc : cls it o ρ = 0) : ob' = ob ∧ ∀ ob2, astep0 C it o ρ ob2 = some (v, ob2, ps) := by
  unfold astep0 at he ⊢
  unfold cls at hc
  generalize hop : o.op = op at *
  cases op <;> (try simp only [] at hc) <;> try (cases hc; done)
  case move x => exact moveStep_cls he
  case assign x => exact moveStep_cls he
  case alloc t => split at hc <;> omega
  case load t x =>
    try simp only at he ⊢
    split at hc
    · omega
    · rename_i xs _ hxs
      have hn : xs.any isAlias = false := by
        cases h : xs.any isAlias
        · rfl
        · simp [h] at hc
      simp only [hxs] at he ⊢
      exact pure_cls hn he
    · cases hc
  case fieldAddr t x i =>
    try simp only at he ⊢
    split at hc
    · omega
    · rename_i xs _ hxs
      have hn : xs.any isAlias = false := by
        cases h : xs.any isAlias
        · rfl
        · simp [h] at hc
      simp only [hxs] at he ⊢
      exact pure_cls hn he
    · cases hc
  case store t x y =>
    split at hc
    · split at hc
      · cases hc
      · omega
    · cases hc
  case pick c x y =>
    try simp only at he ⊢
    split at he
    · rename_i hx; try simp only [hx]
      exact moveStep_cls he
    · rename_i hx; try simp only [hx]
      exact moveStep_cls he
    · cases he
  case extract x i =>
    try simp only at he ⊢
    split at he
    · rename_i l hx
      split at he
      · rename_i z hz
        simp only [Option.some.injEq, Prod.mk.injEq] at he
        obtain ⟨rfl, rfl, rfl⟩ := he
        exact ⟨rfl, fun _ => by simp only [hx, hz]⟩
      · cases he
    · cases he
  case nilCheck x =>
    try simp only at he ⊢
    split at he
    all_goals first
      | (rename_i hx
         simp only [Option.some.injEq, Prod.mk.injEq] at he
         obtain ⟨rfl, rfl, rfl⟩ := he
         exact ⟨rfl, fun _ => by simp only [hx]⟩)
      | cases he
  case build t ps =>
    try simp only at he ⊢
    split at hc
    · rename_i qs hqs
      have hn : qs.any (fun p => isAlias p.2) = false := by
        cases h : qs.any (fun p => isAlias p.2)
        · rfl
        · simp [h] at hc
      simp only [hqs] at he ⊢
      split at he
      · rename_i p q qs' hk hq
        cases hq
        split at he
        · rename_i z ob1 hz
          obtain ⟨rfl, h2⟩ := parts_na hn hz
          split at he
          · rename_i ht
            simp only [Option.some.injEq, Prod.mk.injEq] at he
            obtain ⟨rfl, rfl, rfl⟩ := he
            exact ⟨rfl, fun ob2 => by simp only [hk, h2, ht, if_true]⟩
          · cases he
        · cases he
      · rename_i m k qs' hk hq
        cases hq
        split at he
        · rename_i l ob1 hz
          obtain ⟨rfl, h2⟩ := elems_na hn hz
          simp only [Option.some.injEq, Prod.mk.injEq] at he
          obtain ⟨rfl, rfl, rfl⟩ := he
          exact ⟨rfl, fun ob2 => by simp only [hk, h2]⟩
        · cases he
      · cases he
    · cases hc
  case buildSlice t n ps => exfalso; (repeat' split at hc) <;> omega
  case box t x => exfalso; (repeat' split at hc) <;> omega
  case call c =>
    obtain ⟨ce, args, ts⟩ := c
    cases ce <;> (try simp only [] at hc) <;> try (cases hc; done)
    case value f =>
      try simp only at he ⊢
      split at hc
      · rename_i r g first caps xs hf hx
        simp only [hf, hx] at he ⊢
        have hn : (first.map AV.s ++ xs ++ caps.map AV.s).any avAlias = false := by
          cases h : (first.map AV.s ++ xs ++ caps.map AV.s).any avAlias
          · rfl
          · rw [h] at hc
            simp only [if_true] at hc
            split at hc
            · cases hc
            · split at hc <;> cases hc
        exact callStep_cls0 he hn
      · split at hc <;> omega
      · split at hc <;> omega
      · cases hc
    case builtin b =>
      cases b <;> (try simp only [] at hc) <;> try (cases hc; done)
      case append => exfalso; (repeat' split at hc) <;> omega
      all_goals
        try simp only at he ⊢
        split at hc
        · rename_i xs hxs
          have hn : xs.any isAlias = false := by
            cases h : xs.any isAlias
            · rfl
            · simp [h] at hc
          simp only [hxs] at he ⊢
          exact pure_cls hn he
        · cases hc
  all_goals
    try simp only at he ⊢
    split at hc
    · rename_i xs hxs
      have hn : xs.any isAlias = false := by
        cases h : xs.any isAlias
        · rfl
        · first | (simp [h] at hc; done) | (simp only [h, if_true] at hc; split at hc <;> cases hc)
      simp only [hxs] at he ⊢
      exact pure_cls hn he
    · cases hc

theorem aliasStep_cls1 {it : It} {op : Op} {xs : List SV} (h : aliasStep C it op xs ob = some (v, ob', ps)) (hop : ∀ t x l hh m, op ≠ .slice t x l hh m) (hia : ∀ t x y, op = .indexAddr t x y → xs.any isAdr = false) : ob' = ob := by
  unfold aliasStep at h
  repeat' split at h
  all_goals first
    | cases h; done
    | (simp only [Option.some.injEq, Prod.mk.injEq] at h; exact h.2.1.symm)
    | exact absurd rfl (hop _ _ _ _ _)
    | (exfalso; have := hia _ _ _ rfl; simp [isAdr] at this; done)

theorem pure_cls1 {it : It} {op : Op} {xs : List SV} (hop : ∀ t x l hh m, op ≠ .slice t x l hh m) (hia : ∀ t x y, op = .indexAddr t x y → xs.any isAdr = false)
    (h : (if xs.any isAlias then aliasStep C it op xs ob else match apure C it op xs with
      | some (z, ps) => some (some (AV.s z), ob, ps)
      | none => none) = some (v, ob', ps)) : ob' = ob := by
  split at h
  · exact aliasStep_cls1 h hop hia
  · split at h
    · simp only [Option.some.injEq, Prod.mk.injEq] at h; exact h.2.1.symm
    · cases h

theorem astep0_cls1 {it : It} (he : astep0 C it o ρ ob = some (v, ob', ps)) (hc : cls it o ρ = 1) : ob' = ob := by
  unfold astep0 at he
  unfold cls at hc
  generalize hop : o.op = op at *
  cases op <;> (try simp only [] at hc) <;> try (cases hc; done)
  case alloc t => split at hc <;> omega
  case build t ps =>
    split at hc
    · split at hc <;> cases hc
    · cases hc
  case load t x =>
    try simp only at he
    split at he
    · exact pure_cls1 (by intros; simp) (by intros; simp_all) he
    · cases he
  case fieldAddr t x i =>
    try simp only at he
    split at he
    · exact pure_cls1 (by intros; simp) (by intros; simp_all) he
    · cases he
  case store t x y =>
    split at hc
    · split at hc
      · cases hc
      · omega
    · cases hc
  case slice =>
    split at hc
    · split at hc <;> cases hc
    · cases hc
  case indexAddr t x i =>
    try simp only at he
    split at hc
    · rename_i xs hxs
      simp only [hxs] at he
      split at hc
      · split at hc
        · cases hc
        · rename_i hna
          exact pure_cls1 (by intros; simp) (fun _ _ _ _ => by simpa using hna) he
      · cases hc
    · cases hc
  case buildSlice t n ps => exfalso; (repeat' split at hc) <;> omega
  case box t x => exfalso; (repeat' split at hc) <;> omega
  case call c =>
    obtain ⟨ce, args, ts⟩ := c
    cases ce <;> (try simp only [] at hc) <;> try (cases hc; done)
    case value f =>
      try simp only at he
      split at hc
      · rename_i r g first caps xs hf hx
        simp only [hf, hx] at he
        split at hc
        · split at hc
          · cases hc
          · rename_i h2
            split at hc
            · rename_i h3; exact callStep_cls1 he (by simpa using h2) h3
            · cases hc
        · cases hc
      · split at hc <;> omega
      · split at hc <;> omega
      · cases hc
    case builtin b =>
      cases b <;> (try simp only [] at hc) <;> try (cases hc; done)
      case append => exfalso; (repeat' split at hc) <;> omega
      all_goals
        try simp only at he
        split at he
        · exact pure_cls1 (by intros; simp) (by intros; simp_all) he
        · cases he
  all_goals first
    | (cases hc; done)
    | (try simp only at he
       split at he
       · exact pure_cls1 (by intros; simp) (by intros; simp_all) he
       · cases he)

theorem astep_cls0 {it : It} (he : astep C it o ρ ob = some (v, ob', ps)) (hc : cls it o ρ = 0) : ob' = ob ∧ ∀ ob2, astep C it o ρ ob2 = some (v, ob2, ps) := by
  obtain ⟨v0, ps0, h1, _, h3⟩ := decB_spec he
  obtain ⟨h4, h5⟩ := astep0_cls0 h1 hc
  exact ⟨h4, fun ob2 => by unfold astep; rw [h5]; exact h3 ob2⟩

theorem set_obj (ob : Obs) (i : Nat) : ob.setOb i (ob.obj i) = ob := by
  unfold Obs.setOb Obs.obj
  apply List.ext_getElem?
  intro j
  rw [List.getElem?_set]
  split
  · rename_i e
    subst e
    rw [List.getD_eq_getElem?_getD]
    split
    · rename_i hlt
      simp [List.getElem?_eq_getElem hlt]
    · rename_i hlt
      simp [List.getElem?_eq_none (Nat.le_of_not_lt hlt)]
  · rfl

theorem landS_one {d : Nat} {x y : SV} {ids : List Nat} {ob ob' : Obs} (h : landS ob [d] x = some (y, ids, ob')) :
    (ids = [] ∧ ∃ z, ob' = ob.setOb d z ∧ ∀ ob2 : Obs, ob2.length = ob.length → ob2.obj d = ob.obj d → landS ob2 [d] x = some (y, [], ob2.setOb d z)) ∨
    (ids = [d] ∧ ob' = ob ∧ ∀ ob2, landS ob2 [d] x = some (y, [d], ob2)) := by
  cases x <;> simp only [landS, reduceCtorEq, Option.some.injEq, Prod.mk.injEq] at h
  case v k x =>
    obtain ⟨rfl, rfl, rfl⟩ := h
    exact .inr ⟨rfl, rfl, fun _ => rfl⟩
  case fadr k x =>
    obtain ⟨rfl, rfl, rfl⟩ := h
    exact .inr ⟨rfl, rfl, fun _ => rfl⟩
  case own e k l =>
    split at h
    · rename_i hob
      split at h
      · rename_i hlt
        simp only [Option.some.injEq, Prod.mk.injEq] at h
        obtain ⟨rfl, rfl, rfl⟩ := h
        refine .inl ⟨rfl, _, rfl, fun ob2 hl ho => ?_⟩
        simp only [landS]
        rw [ho, hob]
        simp only
        rw [if_pos (by omega)]
      · cases h
    · cases h

theorem landL_one {d : Nat} : ∀ {l ys : List SV} {ob ob' : Obs}, landL ob [d] l = some (ys, ob') →
    ∃ z, ob' = ob.setOb d z ∧ ∀ ob2 : Obs, ob2.length = ob.length → ob2.obj d = ob.obj d → landL ob2 [d] l = some (ys, ob2.setOb d z)
  | [], ys, ob, ob', h => by
    simp only [landL, Option.some.injEq, Prod.mk.injEq] at h
    obtain ⟨rfl, rfl⟩ := h
    exact ⟨ob.obj d, (set_obj _ _).symm, fun ob2 _ ho => by rw [← ho, set_obj]; rfl⟩
  | x :: xs, ys, ob, ob', h => by
    simp only [landL] at h
    split at h
    · rename_i y ids ob1 h1
      split at h
      · rename_i ys' ob2 h2
        simp only [Option.some.injEq, Prod.mk.injEq] at h
        obtain ⟨rfl, rfl⟩ := h
        rcases landS_one h1 with ⟨rfl, z, rfl, h3⟩ | ⟨rfl, rfl, h3⟩
        · obtain ⟨rfl, h4⟩ := landL_nil h2
          exact ⟨z, rfl, fun ob3 hl ho => by simp only [landL, h3 ob3 hl ho, h4]⟩
        · obtain ⟨z, rfl, h4⟩ := landL_one h2
          exact ⟨z, rfl, fun ob3 hl ho => by simp only [landL, h3 ob3, h4 ob3 hl ho]⟩
      · cases h
    · cases h

theorem landA_one {d : Nat} {r y : AV} {ob ob' : Obs} (h : landA ob [d] r = some (y, ob')) :
    ∃ z, ob' = ob.setOb d z ∧ ∀ ob2 : Obs, ob2.length = ob.length → ob2.obj d = ob.obj d → landA ob2 [d] r = some (y, ob2.setOb d z) := by
  cases r <;> simp only [landA] at h
  case s x =>
    split at h
    · rename_i y' ids ob1 h1
      simp only [Option.some.injEq, Prod.mk.injEq] at h
      obtain ⟨rfl, rfl⟩ := h
      rcases landS_one h1 with ⟨rfl, z, rfl, h3⟩ | ⟨rfl, rfl, h3⟩
      · exact ⟨z, rfl, fun ob3 hl ho => by simp only [landA, h3 ob3 hl ho]⟩
      · exact ⟨ob1.obj d, (set_obj _ _).symm, fun ob3 hl ho => by simp only [landA, h3 ob3]; rw [← ho, set_obj]⟩
    · cases h
  case tup l =>
    split at h
    · rename_i ys ob1 h1
      simp only [Option.some.injEq, Prod.mk.injEq] at h
      obtain ⟨rfl, rfl⟩ := h
      obtain ⟨z, rfl, h3⟩ := landL_one h1
      exact ⟨z, rfl, fun ob3 hl ho => by simp only [landA, h3 ob3 hl ho]⟩
    · cases h
  case fn f a b =>
    simp only [Option.some.injEq, Prod.mk.injEq] at h
    obtain ⟨rfl, rfl⟩ := h
    exact ⟨ob.obj d, (set_obj _ _).symm, fun ob3 hl ho => by simp only [landA]; rw [← ho, set_obj]⟩

theorem callStep_loc {f : FuncId} {as : List AV} {r : AV} {d : Nat} (h : callStep C (.res r [] [] [d]) f as ob = some (v, ob', ps)) (hn : as.any avAlias = false) :
    ∃ x, ob' = ob.setOb d x ∧ ∀ ob2 : Obs, ob2.length = ob.length → ob2.obj d = ob.obj d → callStep C (.res r [] [] [d]) f as ob2 = some (v, ob2.setOb d x, ps) := by
  simp only [callStep] at h
  split at h
  · cases h
  · rename_i xs hxs
    simp only [callMut, mutIds_na (any_adr hn)] at h
    have hf : ∀ ob, callFrz ob as r [] = ob := fun ob => by unfold callFrz; split; rfl; exact frzAll_na hn
    rw [hf] at h
    split at h
    · cases h
    · rename_i y ob3 hy
      obtain ⟨z, rfl, h2⟩ := landA_one hy
      simp only [Option.some.injEq, Prod.mk.injEq] at h
      obtain ⟨rfl, rfl, rfl⟩ := h
      refine ⟨z, rfl, fun ob2 hl ho => ?_⟩
      simp only [callStep, argsAV_na hn (ob := ob) ob2, hxs, callMut, mutIds_na (any_adr hn), hf, h2 ob2 hl ho]

/-- An operation that has to do with one object. -/
theorem astep0_loc {it : It} (he : astep0 C it o ρ ob = some (v, ob', ps)) (hc : 3 ≤ cls it o ρ) (hw : wB (cls it o ρ) = false) :
    (∃ x, ob' = ob.setOb (idxC (cls it o ρ)) x ∧ ∀ ob2 : Obs, ob2.length = ob.length → ob2.obj (idxC (cls it o ρ)) = ob.obj (idxC (cls it o ρ)) → astep0 C it o ρ ob2 = some (v, ob2.setOb (idxC (cls it o ρ)) x, ps)) ∧
    (rdB (cls it o ρ) = true → ob' = ob) := by
  unfold astep0 at he ⊢
  generalize hcl : cls it o ρ = c at *
  unfold cls at hcl
  generalize hop : o.op = op at *
  cases op <;> (try simp only [] at hcl) <;> try (subst hcl; omega)
  case buildSlice t n qs =>
    try simp only at he ⊢
    split at hcl
    · rename_i d xs hd hxs
      split at hcl
      · subst hcl; omega
      · rename_i hna
        have hidx : idxC c = d := by subst hcl; unfold idxC; omega
        have hrd : rdB c = false := by subst hcl; simp [rdB]; omega
        rw [hidx, hrd]
        refine ⟨?_, fun h => by cases h⟩
        have hn : xs.any (fun p => isAlias p.2) = false := by simpa using hna
        rw [hd, hxs] at he ⊢
        cases hk : C.kd t with
        | none => rw [hk] at he; simp at he
        | some k0 =>
          rw [hk] at he
          cases hel : C.el t with
          | none => rw [hel] at he; cases k0 <;> simp at he
          | some e0 =>
            rw [hel] at he
            split at he
            · rename_i k e d' xs' hk' hel' hd' hxs'
              cases hd'; cases hxs'; cases hk'; cases hel'
              split at he
              · rename_i hg
                split at he
                · rename_i l ob1 hl
                  obtain ⟨rfl, hl2⟩ := elems_na hn hl
                  unfold newOb at he
                  split at he
                  · rename_i h0
                    split at he
                    · rename_i hlen0
                      simp only [Option.some.injEq, Prod.mk.injEq] at he
                      obtain ⟨rfl, rfl, rfl⟩ := he
                      refine ⟨_, rfl, fun ob2 hlen ho => ?_⟩
                      rw [if_pos hg, hl2]
                      simp only [newOb, ho, h0, hlen, hlen0, if_true]
                    · cases he
                  · cases he
                · cases he
              · cases he
            · cases he
    · subst hcl; omega
  case load t x =>
    try simp only at he ⊢
    split at hcl
    · rename_i i f hxs
      have hidx : idxC c = i := by subst hcl; unfold idxC; omega
      rw [hidx]
      simp only [hxs, List.any_cons, isAlias, Bool.true_or, if_true] at he ⊢
      have hob : ob' = ob := aliasStep_cls1 he (by intros; simp) (by intros; simp_all)
      subst hob
      refine ⟨⟨ob'.obj i, (set_obj _ _).symm, fun ob2 _ ho => ?_⟩, fun _ => rfl⟩
      have hset : ob2.setOb i (ob'.obj i) = ob2 := by rw [← ho]; exact set_obj _ _
      rw [hset]
      cases f with
      | none =>
        simp only [aliasStep] at he ⊢
        rw [ho]
        split at he
        · rename_i k x z hob
          split at he
          · rename_i hk
            simp only [Option.some.injEq, Prod.mk.injEq] at he
            obtain ⟨rfl, _, rfl⟩ := he
            simp [hk]
          · cases he
        · cases he
      | some f =>
        simp only [aliasStep] at he ⊢
        rw [ho]
        split at he
        · rename_i k x z hob
          split at he
          · rename_i q y hs
            split at he
            · rename_i hk
              simp only [Option.some.injEq, Prod.mk.injEq] at he
              obtain ⟨rfl, _, rfl⟩ := he
              simp [hs, hk]
            · cases he
          · cases he
        · cases he
    · split at hcl <;> (subst hcl; omega)
    · subst hcl; omega
  case fieldAddr t x fi =>
    try simp only at he ⊢
    split at hcl
    · rename_i i f hxs
      have hidx : idxC c = i := by subst hcl; unfold idxC; omega
      rw [hidx]
      simp only [hxs, List.any_cons, isAlias, Bool.true_or, if_true] at he ⊢
      have hob : ob' = ob := aliasStep_cls1 he (by intros; simp) (by intros; simp_all)
      subst hob
      refine ⟨⟨ob'.obj i, (set_obj _ _).symm, fun ob2 _ ho => ?_⟩, fun _ => rfl⟩
      have hset : ob2.setOb i (ob'.obj i) = ob2 := by rw [← ho]; exact set_obj _ _
      rw [hset]
      cases f with
      | none =>
        simp only [aliasStep] at he ⊢
        rw [ho]
        split at he
        · rename_i k y z hob
          split at he
          · rename_i q hs
            split at he
            · rename_i h1
              simp only [Option.some.injEq, Prod.mk.injEq] at he
              obtain ⟨rfl, _, rfl⟩ := he
              simp [hs, h1]
            · cases he
          · cases he
        · cases he
      | some f => simp [aliasStep] at he
    · split at hcl <;> (subst hcl; omega)
    · subst hcl; omega
  case alloc t =>
    try simp only at he ⊢
    split at hcl
    · rename_i d hd
      have hidx : idxC c = d := by subst hcl; unfold idxC; omega
      have hrd : rdB c = false := by subst hcl; simp [rdB]; omega
      rw [hidx, hrd]
      refine ⟨?_, fun h => by cases h⟩
      rw [hd] at he ⊢
      cases hk : C.kd t with
      | none => rw [hk] at he; cases he
      | some k =>
        rw [hk] at he
        simp only at he ⊢
        by_cases ht : t = C.tn
        · rw [if_pos ht] at he
          simp only [Option.some.injEq, Prod.mk.injEq] at he
          obtain ⟨rfl, rfl, rfl⟩ := he
          refine ⟨ob.obj d, (set_obj _ _).symm, fun ob2 _ ho => ?_⟩
          have hset : ob2.setOb d (ob.obj d) = ob2 := by rw [← ho]; exact set_obj _ _
          rw [if_pos ht, hset]
        · rw [if_neg ht] at he
          unfold newOb at he
          split at he
          · rename_i hob
            split at he
            · rename_i hlt
              simp only [Option.some.injEq, Prod.mk.injEq] at he
              obtain ⟨rfl, rfl, rfl⟩ := he
              refine ⟨_, rfl, fun ob2 hl ho => ?_⟩
              rw [hob] at ho
              rw [if_neg ht]
              unfold newOb
              rw [ho]
              simp only
              rw [if_pos (by omega)]
            · cases he
          · cases he
    · subst hcl; omega
  case store t x y =>
    try simp only at he ⊢
    split at hcl
    · rename_i i f y' hx hy
      split at hcl
      · subst hcl; omega
      · rename_i hna
        have hna' : isAlias y' = false := by simpa using hna
        have hidx : idxC c = i := by subst hcl; unfold idxC; omega
        have hrd : rdB c = false := by subst hcl; simp [rdB]; omega
        rw [hidx, hrd]
        refine ⟨?_, fun h => by cases h⟩
        simp only [hx, hy] at he ⊢
        cases f with
        | none =>
          simp only [storeStep, escK] at he ⊢
          split at he
          · rename_i k x0 hob
            split at he
            · rename_i z ob1 hz
              split at hz
              · rename_i q y2 ob2 hes
                obtain ⟨rfl, hes2⟩ := esc_na hna' hes
                split at hz
                · rename_i hq
                  simp only [Option.some.injEq, Prod.mk.injEq] at hz
                  obtain ⟨rfl, rfl⟩ := hz
                  rw [hob] at he
                  simp only at he
                  split at he
                  · rename_i hk
                    simp only [Option.some.injEq, Prod.mk.injEq] at he
                    obtain ⟨rfl, rfl, rfl⟩ := he
                    refine ⟨_, rfl, fun ob3 _ ho => ?_⟩
                    rw [hob] at ho
                    simp only [ho, hes2, hq, dif_pos, hk, if_true]
                  · cases he
                · cases hz
              · cases hz
            · cases he
          · cases he
        | some f =>
          simp only [storeStep] at he ⊢
          split at he
          · rename_i k x0 hob
            split at he
            · rename_i q z ob1 hes
              obtain ⟨rfl, hes2⟩ := esc_na hna' hes
              rw [hob] at he
              split at he
              · rename_i x' k2 x2 hu ho2
                split at he
                · rename_i hk
                  simp only [Option.some.injEq, Prod.mk.injEq] at he
                  obtain ⟨rfl, rfl, rfl⟩ := he
                  refine ⟨_, rfl, fun ob3 _ ho => ?_⟩
                  rw [hob] at ho
                  simp only [ho, hes2, hu, hk]
                  simp
                · cases he
              · cases he
            · cases he
          · cases he
    · subst hcl; omega
  case box t x =>
    try simp only at he ⊢
    split at hcl
    · rename_i d y hd hy
      split at hcl
      · subst hcl; omega
      · rename_i hn
        have hn' : isAlias y = false := by simpa using hn
        have hidx : idxC c = d := by subst hcl; unfold idxC; omega
        have hrd : rdB c = false := by subst hcl; simp [rdB]; omega
        rw [hidx, hrd]
        refine ⟨?_, fun h => by cases h⟩
        rw [hd, hy] at he ⊢
        cases hk : C.kd t with
        | none => rw [hk] at he; cases he
        | some k =>
          rw [hk] at he
          simp only at he ⊢
          by_cases ht : t = C.tn
          · rw [if_pos ht] at he
            split at he
            · simp only [Option.some.injEq, Prod.mk.injEq] at he
              obtain ⟨rfl, rfl, rfl⟩ := he
              refine ⟨_, (set_obj _ _).symm, fun ob2 _ ho => ?_⟩
              rw [if_pos ht, ← ho, set_obj]
            · cases he
          · rw [if_neg ht] at he
            split at he
            · rename_i z ob1 hz
              obtain ⟨rfl, hz2⟩ := escK_na hn' hz
              unfold newOb at he
              split at he
              · rename_i h0
                split at he
                · rename_i hl
                  simp only [Option.some.injEq, Prod.mk.injEq] at he
                  obtain ⟨rfl, rfl, rfl⟩ := he
                  refine ⟨_, rfl, fun ob2 hlen ho => ?_⟩
                  rw [if_neg ht, hz2]
                  simp only [newOb, ho, h0, hlen, hl, if_true]
                · cases he
              · cases he
            · cases he
    · subst hcl; omega
  case build t ps =>
    split at hcl
    · split at hcl <;> (subst hcl; omega)
    · subst hcl; omega
  case call cc =>
    obtain ⟨ce, args, ts⟩ := cc
    cases ce <;> (try simp only [] at hcl) <;> try (subst hcl; omega)
    case value f =>
      try simp only at he ⊢
      split at hcl
      · split at hcl
        · split at hcl
          · subst hcl; omega
          · split at hcl <;> (subst hcl; omega)
        · subst hcl; omega
      · rename_i r d g first caps xs hf hx
        split at hcl
        · subst hcl; omega
        · rename_i hn
          have hidx : idxC c = d := by subst hcl; unfold idxC; omega
          have hrd : rdB c = false := by subst hcl; simp [rdB]; omega
          rw [hidx, hrd]
          refine ⟨?_, fun h => by cases h⟩
          simp only [hf, hx] at he ⊢
          exact callStep_loc he (by simpa using hn)
      · rename_i r mo g i xs hf hx
        split at hcl
        · subst hcl; omega
        · rename_i hn
          have hidx : idxC c = i := by subst hcl; unfold idxC; omega
          have hrd : rdB c = false := by subst hcl; simp [rdB]; omega
          rw [hidx, hrd]
          refine ⟨?_, fun h => by cases h⟩
          simp only [hf, hx, List.map_nil, List.nil_append, List.append_nil] at he ⊢
          exact callStep_mut he (by simpa using hn)
      · subst hcl; omega
    case builtin b =>
      cases b <;> (try simp only [] at hcl) <;> try (subst hcl; omega)
      case append => exfalso; (repeat' split at hcl) <;> subst hcl <;> first | omega | (simp [wB] at hw; omega)
      all_goals
        split at hcl
        · split at hcl <;> (subst hcl; omega)
        · subst hcl; omega
  all_goals
    split at hcl
    · split at hcl
      · first | (subst hcl; omega) | (split at hcl <;> (subst hcl; omega))
      · subst hcl; omega
    · subst hcl; omega

/-- An operation that changes one object, whatever it reads. -/
theorem astep0_w {it : It} (he : astep0 C it o ρ ob = some (v, ob', ps)) (hc : wB (cls it o ρ) = true) : ∃ x, ob' = ob.setOb (idxC (cls it o ρ)) x := by
  unfold astep0 at he
  generalize hcl : cls it o ρ = c at *
  have hc3 : 3 ≤ c ∧ (c - 3) % 3 = 2 := by simpa [wB] using hc
  unfold cls at hcl
  generalize hop : o.op = op at *
  cases op <;> (try simp only [] at hcl) <;> try (subst hcl; omega)
  case buildSlice t n qs => exfalso; (repeat' split at hcl) <;> subst hcl <;> omega
  case call c' =>
    obtain ⟨ce, args, ts⟩ := c'
    cases ce <;> (try simp only [] at hcl) <;> try (subst hcl; omega)
    case value f =>
      (repeat' split at hcl) <;> subst hcl <;> omega
    case builtin b =>
      cases b <;> (try simp only [] at hcl) <;> try (subst hcl; omega)
      case append =>
        try simp only at he
        split at hcl
        · rename_i x y t t' d hx ht hd
          simp only [hx, ht, hd] at he
          split at he
          · split at he
            · rename_i sa sb hsa hsb
              unfold appendStep at he
              split at hcl
              · rename_i i ver hxx
                have hidx : idxC c = i := by subst hcl; unfold idxC; omega
                rw [hidx]
                rw [hxx] at hsa
                cases hsa
                split at he
                · rename_i e0; cases e0
                · rename_i e0
                  cases e0
                  split at he
                  · split at he
                    · split at he
                      · simp only [Option.some.injEq, Prod.mk.injEq] at he
                        exact ⟨_, he.2.1.symm⟩
                      · cases he
                    · cases he
                  · cases he
                · cases he
              · rename_i e k hxx
                have hidx : idxC c = d := by subst hcl; unfold idxC; omega
                rw [hidx]
                rw [hxx] at hsa
                cases hsa
                split at he
                · rename_i e0
                  cases e0
                  split at he
                  · split at he
                    · split at he
                      · split at he
                        · split at he
                          · simp only [Option.some.injEq, Prod.mk.injEq] at he
                            exact ⟨_, he.2.1.symm⟩
                          · cases he
                        · cases he
                      · cases he
                    · cases he
                  · cases he
                · rename_i e0; cases e0
                · cases he
              · subst hcl; omega
            · cases he
          · cases he
        · subst hcl; omega
      all_goals
        (repeat' split at hcl) <;> subst hcl <;> omega
  all_goals
    (repeat' split at hcl) <;> subst hcl <;> omega

theorem astep_w {it : It} (he : astep C it o ρ ob = some (v, ob', ps)) (hc : wB (cls it o ρ) = true) : ∃ x, ob' = ob.setOb (idxC (cls it o ρ)) x := by
  obtain ⟨v0, ps0, h1, _, _⟩ := decB_spec he
  exact astep0_w h1 hc

theorem astep_loc {it : It} (he : astep C it o ρ ob = some (v, ob', ps)) (hc : 3 ≤ cls it o ρ) (hw : wB (cls it o ρ) = false) :
    ∃ x, ob' = ob.setOb (idxC (cls it o ρ)) x ∧ ∀ ob2 : Obs, ob2.length = ob.length → ob2.obj (idxC (cls it o ρ)) = ob.obj (idxC (cls it o ρ)) → astep C it o ρ ob2 = some (v, ob2.setOb (idxC (cls it o ρ)) x, ps) := by
  obtain ⟨v0, ps0, h1, _, h3⟩ := decB_spec he
  obtain ⟨⟨x, h4, h5⟩, _⟩ := astep0_loc h1 hc hw
  exact ⟨x, h4, fun ob2 hl ho => by unfold astep; rw [h5 ob2 hl ho]; exact h3 _⟩

theorem astep_rd {it : It} (he : astep C it o ρ ob = some (v, ob', ps)) (hc : rdB (cls it o ρ) = true) : ob' = ob := by
  obtain ⟨v0, ps0, h1, _, h3⟩ := decB_spec he
  have h0 := hc
  simp only [rdB, Bool.or_eq_true, beq_iff_eq, Bool.and_eq_true, decide_eq_true_eq] at h0
  rcases h0 with h0 | h0
  · exact astep0_cls1 h1 h0
  · exact (astep0_loc h1 h0.1 (by simp [wB]; omega)).2 hc

end Go.AI
end

section
/- Regions: every order does what the text's order does. -/
set_option autoImplicit false
set_option linter.unusedVariables false
set_option linter.unusedSimpArgs false
namespace Go.AI

variable {C : Cfg} {X : Ctx} {a : Act} {w w' : World}

theorem All.parts {p q : List Prop} (h : All (p ++ q)) : All p ∧ All q := by
  induction p with
  | nil => exact ⟨trivial, h⟩
  | cons x xs ih => exact ⟨⟨h.1, (ih h.2).1⟩, (ih h.2).2⟩

/-- What one operation of a region does at the slots and the objects. -/
def Eff (C : Cfg) (all : List Oper) (o : Oper) (c : Nat) (sl : List (Option AV)) (ob : Obs) (v : Option AV) (ob' : Obs) : Prop :=
  ∃ it ps, All ps ∧ ((awant all sl o = some true ∧ astep C it o (ev C sl) ob = some (v, ob', ps) ∧ c = cls it o (ev C sl)) ∨
    (awant all sl o = some false ∧ v = some (.tup []) ∧ ob' = ob ∧ c = 0))

def Stp (C : Cfg) (all : List Oper) (o : Oper) (c : Nat) (st st' : St) : Prop :=
  ∃ v ob', Eff C all o c st.sl st.ob v ob' ∧ st' = St.put ⟨st.sl, ob'⟩ o.dst v

theorem awant_congr {all : List Oper} {o : Oper} {sl sl' : List (Option AV)} (h : ∀ t ∈ o.looksAt all.toArray, sl.getD t none = sl'.getD t none) : awant all sl o = awant all sl' o := by
  unfold awant
  split
  · rfl
  · rename_i j b hg
    split
    · rename_i p hp
      split
      · rename_i d hd
        rw [h d (by
          unfold Oper.looksAt
          rw [hg]
          simp [hp, hd])]
      · rfl
    · rfl

theorem ev_congr {o : Oper} {all : List Oper} {sl sl' : List (Option AV)} (h : ∀ t ∈ o.looksAt all.toArray, sl.getD t none = sl'.getD t none) :
    ∀ x ∈ o.op.operands.toList, ∀ t, ev C sl t x = ev C sl' t x := by
  intro x hx ty
  cases x with
  | tmp t =>
    simp only [ev]
    exact h t (by
      unfold Oper.looksAt
      exact List.mem_append_left _ (List.mem_filterMap.2 ⟨.tmp t, hx, rfl⟩))
  | _ => rfl

theorem Eff.local {all : List Oper} {o : Oper} {c : Nat} {sl sl' : List (Option AV)} {ob ob' : Obs} {v : Option AV} (h : ∀ t ∈ o.looksAt all.toArray, sl.getD t none = sl'.getD t none)
    (he : Eff C all o c sl ob v ob') : Eff C all o c sl' ob v ob' := by
  obtain ⟨it, ps, hp, he⟩ := he
  refine ⟨it, ps, hp, ?_⟩
  rw [← awant_congr h]
  rcases he with ⟨h1, h2, h3⟩ | h1
  · exact .inl ⟨h1, by rw [← astep_congr (ev_congr h)]; exact h2, by rw [← cls_congr (ev_congr h)]; exact h3⟩
  · exact .inr h1

theorem Eff.zero {all : List Oper} {o : Oper} {sl : List (Option AV)} {ob ob' : Obs} {v : Option AV} (he : Eff C all o 0 sl ob v ob') : ob' = ob ∧ ∀ ob2, Eff C all o 0 sl ob2 v ob2 := by
  obtain ⟨it, ps, hp, ⟨h1, h2, h3⟩ | ⟨h1, h2, h3, h4⟩⟩ := he
  · obtain ⟨e, h⟩ := astep_cls0 h2 h3.symm
    exact ⟨e, fun ob2 => ⟨it, ps, hp, .inl ⟨h1, h ob2, h3⟩⟩⟩
  · exact ⟨h3, fun ob2 => ⟨it, ps, hp, .inr ⟨h1, h2, rfl, rfl⟩⟩⟩

theorem Eff.rd {all : List Oper} {o : Oper} {c : Nat} {sl : List (Option AV)} {ob ob' : Obs} {v : Option AV} (he : Eff C all o c sl ob v ob') (hc : rdB c = true) : ob' = ob := by
  obtain ⟨it, ps, hp, ⟨h1, h2, h3⟩ | ⟨h1, h2, h3, h4⟩⟩ := he
  · subst h3; exact astep_rd h2 hc
  · exact h3

theorem Eff.loc {all : List Oper} {o : Oper} {c : Nat} {sl : List (Option AV)} {ob ob' : Obs} {v : Option AV} (he : Eff C all o c sl ob v ob') (hc : 3 ≤ c) (hw : wB c = false) :
    ∃ x, ob' = ob.setOb (idxC c) x ∧ ∀ ob2 : Obs, ob2.length = ob.length → ob2.obj (idxC c) = ob.obj (idxC c) → Eff C all o c sl ob2 v (ob2.setOb (idxC c) x) := by
  obtain ⟨it, ps, hp, ⟨h1, h2, h3⟩ | ⟨h1, h2, h3, h4⟩⟩ := he
  · subst h3
    obtain ⟨x, h4, h5⟩ := astep_loc h2 hc hw
    exact ⟨x, h4, fun ob2 hl ho => ⟨it, ps, hp, .inl ⟨h1, h5 ob2 hl ho, rfl⟩⟩⟩
  · omega

theorem Eff.wr {all : List Oper} {o : Oper} {c : Nat} {sl : List (Option AV)} {ob ob' : Obs} {v : Option AV} (he : Eff C all o c sl ob v ob') (hc : wB c = true) :
    ∃ x, ob' = ob.setOb (idxC c) x := by
  obtain ⟨it, ps, hp, ⟨h1, h2, h3⟩ | ⟨h1, h2, h3, h4⟩⟩ := he
  · subst h3; exact astep_w h2 hc
  · subst h4; simp [wB] at hc

theorem put_sl (sl : List (Option AV)) (ob : Obs) (d : Option Nat) (v : Option AV) : (St.put ⟨sl, ob⟩ d v).ob = ob := by cases d <;> rfl
theorem put_get (sl : List (Option AV)) (ob : Obs) (d : Option Nat) (v : Option AV) (t : Nat) (h : ∀ x, d = some x → x ≠ t) : (St.put ⟨sl, ob⟩ d v).sl.getD t none = sl.getD t none := by
  cases d with
  | none => rfl
  | some x =>
    have := h x rfl
    simp only [St.put, List.getD_eq_getElem?_getD, List.getElem?_set_ne this]

theorem put_comm (sl : List (Option AV)) (ob ob' : Obs) (d e : Option Nat) (v u : Option AV) (h : ∀ x, d = some x → e ≠ some x) :
    St.put ⟨(St.put ⟨sl, ob⟩ d v).sl, ob'⟩ e u = St.put ⟨(St.put ⟨sl, ob⟩ e u).sl, ob'⟩ d v := by
  cases d with
  | none => cases e <;> rfl
  | some x =>
    cases e with
    | none => rfl
    | some y =>
      have : x ≠ y := fun e => h x rfl (by rw [e])
      simp only [St.put, St.mk.injEq, and_true]
      exact List.set_comm _ _ this

theorem Stp.swap {all : List Oper} {oi oj : Oper} {ci cj : Nat} {st st1 st2 : St} (hap : oi.apart all.toArray oj = true) (hc : compat ci cj = true)
    (h1 : Stp C all oi ci st st1) (h2 : Stp C all oj cj st1 st2) : ∃ st1', Stp C all oj cj st st1' ∧ Stp C all oi ci st1' st2 := by
  obtain ⟨a1, a2, a3⟩ := Oper.apart_spec hap
  obtain ⟨vi, obi, hi, rfl⟩ := h1
  obtain ⟨vj, obj, hj, rfl⟩ := h2
  rw [put_sl] at hj
  have hj' : Eff C all oj cj st.sl obi vj obj := hj.local fun t ht => put_get _ _ _ _ _ fun x hx e => a1 x hx (e ▸ ht)
  have hi' : ∀ ob2 ob3 u ob', Eff C all oi ci st.sl ob2 u ob3 → Eff C all oi ci (St.put ⟨st.sl, ob'⟩ oj.dst vj).sl ob2 u ob3 := fun ob2 ob3 u ob' h =>
    h.local fun t ht => (put_get _ _ _ _ _ fun x hx e => a3 x hx (e ▸ ht)).symm
  have hcomm : ∀ ob1 ob2, St.put ⟨(St.put ⟨st.sl, ob1⟩ oi.dst vi).sl, obj⟩ oj.dst vj = St.put ⟨(St.put ⟨st.sl, ob2⟩ oj.dst vj).sl, obj⟩ oi.dst vi := fun ob1 ob2 => by
    rw [put_comm _ _ _ _ _ _ _ a2]
    cases oj.dst <;> rfl
  have hfin : ∀ ob'', Eff C all oj cj st.sl st.ob vj ob'' → Eff C all oi ci st.sl ob'' vi obj → ∃ st1', Stp C all oj cj st st1' ∧ Stp C all oi ci st1' (St.put ⟨(St.put ⟨st.sl, obi⟩ oi.dst vi).sl, obj⟩ oj.dst vj) := fun ob'' e1 e2 =>
    ⟨_, ⟨vj, ob'', e1, rfl⟩, vi, obj, by rw [put_sl]; exact hi' _ _ _ _ e2, hcomm _ _⟩
  have hobj : ∀ (ob : Obs) (i j : Nat) (z : Option Ob), i ≠ j → (ob.setOb i z).obj j = ob.obj j := fun ob i j z h => by
    unfold Obs.setOb Obs.obj
    simp only [List.getD_eq_getElem?_getD, List.getElem?_set_ne h]
  have hlen : ∀ (ob : Obs) (i : Nat) (z : Option Ob), (ob.setOb i z).length = ob.length := fun ob i z => by simp [Obs.setOb]
  simp only [compat, Bool.or_eq_true, beq_iff_eq, Bool.and_eq_true, decide_eq_true_eq, Bool.not_eq_true', beq_eq_false_iff_ne, ne_eq] at hc
  rcases hc with ((rfl | rfl) | ⟨r1, r2⟩) | ⟨⟨⟨⟨p1, p2⟩, hne⟩, w1⟩, w2⟩
  · obtain ⟨rfl, h⟩ := hi.zero
    exact hfin obj hj' (h obj)
  · obtain ⟨rfl, h⟩ := hj'.zero
    exact hfin st.ob (h st.ob) hi
  · have e1 := hi.rd r1
    have e2 := hj'.rd r2
    subst e1; subst e2
    exact hfin _ hj' hi
  · cases hwi : wB ci with
    | true =>
      have r2 : rdB cj = true := by rcases w1 with h | h <;> simp_all
      have hwj : wB cj = false := by
        have := r2
        simp [rdB] at this
        cases h : wB cj
        · rfl
        · simp [wB] at h; omega
      obtain ⟨x, e1⟩ := hi.wr hwi
      have e2 := hj'.rd r2
      subst e2
      obtain ⟨y, e3, h2⟩ := hj'.loc p2 hwj
      have a1 := h2 st.ob (by rw [e1]; exact (hlen _ _ _).symm) (by rw [e1]; exact (hobj _ _ _ _ hne).symm)
      have ey := a1.rd r2
      rw [ey] at a1
      exact hfin _ a1 hi
    | false =>
      cases hwj : wB cj with
      | true =>
        have r1 : rdB ci = true := by rcases w2 with h | h <;> simp_all
        have e1 := hi.rd r1
        subst e1
        obtain ⟨x, e2⟩ := hj'.wr hwj
        obtain ⟨y, e3, h2⟩ := hi.loc p1 hwi
        have a2 := h2 obj (by rw [e2]; exact hlen _ _ _) (by rw [e2]; exact hobj _ _ _ _ (Ne.symm hne))
        have ey := a2.rd r1
        rw [ey] at a2
        exact hfin _ hj' a2
      | false =>
        obtain ⟨x, e1, h1⟩ := hi.loc p1 hwi
        subst e1
        obtain ⟨y, e2, h2⟩ := hj'.loc p2 hwj
        have a1 := h2 st.ob (hlen _ _ _).symm (hobj _ _ _ _ hne).symm
        have a2 := h1 (st.ob.setOb (idxC cj) y) (hlen _ _ _) (hobj _ _ _ _ (Ne.symm hne))
        refine hfin _ a1 ?_
        rw [e2]
        have : (st.ob.setOb (idxC cj) y).setOb (idxC ci) x = (st.ob.setOb (idxC ci) x).setOb (idxC cj) y := List.set_comm _ _ (Ne.symm hne)
        rw [← this]
        exact a2

/-! ### Any order -/

def anyA (C : Cfg) (all : List Oper) (cs : List Nat) (Q : St → Prop) : Nat → Array Bool → St → Prop
  | 0, listed, st => Region.ready .any all.toArray listed = [] ∧ Q st
  | fuel + 1, listed, st => (Region.ready .any all.toArray listed = [] → Q st) ∧
    ∀ i ∈ Region.ready .any all.toArray listed, ∃ o st', all.toArray[i]? = some o ∧ Stp C all o (cs.getD i 2) st st' ∧ anyA C all cs Q fuel (listed.setIfInBounds i true) st'

/-- What has come up, came up behind all that it waits for. -/
def Down (all : List Oper) (listed : Array Bool) : Prop :=
  ∀ (j : Nat) (o : Oper), all.toArray[j]? = some o → listed.getD j false = true → ∀ e ∈ o.after, Region.binds .any e = true → listed.getD e.on false = true

theorem Down.set {all : List Oper} {listed : Array Bool} (h : Down all listed) {i : Nat} (hi : i ∈ Region.ready .any all.toArray listed) : Down all (listed.setIfInBounds i true) := by
  obtain ⟨h0, o, ho, hall⟩ := mem_ready.1 hi
  intro j p hj hl e he hb
  by_cases hji : j = i
  · subst hji
    rw [ho] at hj
    cases hj
    exact getD_set_true (hall e he hb)
  · rw [getD_set_ne false (Ne.symm hji)] at hl
    exact getD_set_true (h j p hj hl e he hb)

theorem Down.reach {all : List Oper} {listed : Array Bool} (h : Down all listed) {i : Nat} (hi : listed.getD i false = false) : ∀ (n j : Nat) (o : Oper), all.toArray[j]? = some o →
    (∀ e ∈ o.after, Region.binds .any e = true → listed.getD e.on false = true) → Go.AI.reach all n j i = false
  | 0, _, _, _, _ => rfl
  | n + 1, j, o, ho, hw => by
    have ho' : all[j]? = some o := by simpa using ho
    simp only [Go.AI.reach, ho', List.any_eq_false, Array.mem_toList_iff, Bool.and_eq_true, Bool.or_eq_true, beq_iff_eq, not_and, not_or, Bool.not_eq_true]
    intro e he hb
    have h1 := hw e he hb
    refine ⟨fun e' => (by rw [e'] at h1; rw [h1] at hi; cases hi), ?_⟩
    cases hp : all.toArray[e.on]? with
    | none =>
      have hp' : all[e.on]? = none := by simpa using hp
      cases n with
      | zero => rfl
      | succ n => simp only [Go.AI.reach, hp']
    | some p => exact h.reach hi n e.on p hp fun e' he' hb' => h e.on p hp h1 e' he' hb'

theorem getD_tf {listed : Array Bool} {i : Nat} (h : listed.getD i true = false) : listed.getD i false = false := by
  rcases Nat.lt_or_ge i listed.size with h' | h'
  · simp [h'] at h ⊢; exact h
  · simp [Array.getElem?_eq_none h'] at h

theorem anyA_first {all : List Oper} {cs : List Nat} {Q : St → Prop} {i : Nat} {oi : Oper} (hi : all.toArray[i]? = some oi) :
    ∀ (fuel : Nat) (listed : Array Bool) (st st1 : St), Down all listed →
      (∀ j oj, all.toArray[j]? = some oj → j ≠ i → listed.getD j true = false → reach all (all.length + 1) j i = true ∨ (oi.apart all.toArray oj = true ∧ compat (cs.getD i 2) (cs.getD j 2) = true)) →
      i ∈ Region.ready .any all.toArray listed → Stp C all oi (cs.getD i 2) st st1 →
      anyA C all cs Q fuel (listed.setIfInBounds i true) st1 → anyA C all cs Q (fuel + 1) listed st := by
  intro fuel
  induction fuel with
  | zero =>
    intro listed st st1 _ _ hr hy H
    refine ⟨fun h => (by rw [h] at hr; cases hr), fun j hj => ?_⟩
    by_cases hji : j = i
    · subst hji; exact ⟨oi, st1, hi, hy, H⟩
    · have := ready_mono hj hji
      rw [H.1] at this
      cases this
  | succ fuel ih =>
    intro listed st st1 hD hfree hr hy H
    refine ⟨fun h => (by rw [h] at hr; cases hr), fun j hj => ?_⟩
    by_cases hji : j = i
    · subst hji; exact ⟨oi, st1, hi, hy, H⟩
    · obtain ⟨oj, st2, hoj, h2, h3⟩ := H.2 j (ready_mono hj hji)
      obtain ⟨hjun, oj', hoj', hall⟩ := mem_ready.1 hj
      rw [hoj] at hoj'
      cases hoj'
      have h0 := (mem_ready.1 hr).1
      have hap := (hfree j oj hoj hji hjun).resolve_left (by rw [hD.reach (getD_tf h0) _ j oj hoj hall]; simp)
      obtain ⟨st1', h4, h5⟩ := Stp.swap hap.1 hap.2 hy h2
      refine ⟨oj, st1', hoj, h4, ih (listed.setIfInBounds j true) st1' st2 (hD.set hj) (fun k ok hk hki hun => ?_) (ready_mono hr (Ne.symm hji)) h5 ?_⟩
      · refine hfree k ok hk hki ?_
        by_cases hjk : j = k
        · subst hjk; exact hjun
        · rw [getD_set_ne true hjk] at hun; exact hun
      · rw [Array.setIfInBounds_comm _ _ hji]
        exact h3

/-! ### The text's order -/

def Chain (C : Cfg) (all : List Oper) : List Oper → List Nat → St → St → Prop
  | [], [], st, st' => st' = st
  | o :: l, c :: cs, st, st' => ∃ st1, Stp C all o c st st1 ∧ Chain C all l cs st1 st'
  | _, _, _, _ => False

theorem aone_stp {all : List Oper} {it : It} {o : Oper} {st st' : St} {ps : List Prop} (h : aone C all it o st = some (st', ps)) (hp : All ps) :
    Stp C all o (if awant all st.sl o == some true then cls it o (ev C st.sl) else 0) st st' := by
  unfold aone at h
  split at h
  · rename_i hw
    split at h
    · rename_i v ob ps' hs
      simp only [Option.some.injEq, Prod.mk.injEq] at h
      obtain ⟨rfl, rfl⟩ := h
      exact ⟨v, ob, ⟨it, ps', hp, .inl ⟨hw, hs, by simp [hw]⟩⟩, rfl⟩
    · cases h
  · rename_i hw
    simp only [Option.some.injEq, Prod.mk.injEq] at h
    obtain ⟨rfl, rfl⟩ := h
    exact ⟨_, st.ob, ⟨it, [], trivial, .inr ⟨hw, rfl, rfl, by simp [hw]⟩⟩, rfl⟩
  · cases h

theorem chain_of_aops {all : List Oper} : ∀ {l : List Oper} {its its' : List It} {st st' : St} {lg lg' : List Prop}, aops C all l its st lg = some (st', its', lg') →
    ∃ ps cs, lg' = lg ++ ps ∧ classes C all l its st = some cs ∧ (All ps → Chain C all l cs st st')
  | [], its, its', st, st', lg, lg', h => by
    simp only [aops, Option.some.injEq, Prod.mk.injEq] at h
    obtain ⟨rfl, rfl, rfl⟩ := h
    exact ⟨[], [], by simp, rfl, fun _ => rfl⟩
  | o :: l, its, its', st, st', lg, lg', h => by
    simp only [aops] at h
    split at h
    · rename_i ht
      split at h
      · rename_i it its1
        split at h
        · rename_i st1 ps hone
          obtain ⟨qs, cs, e, hc, hch⟩ := chain_of_aops h
          have hw : (awant all st.sl o == some true) = true := by
            simp only [takes, Bool.and_eq_true] at ht; exact ht.1
          refine ⟨ps ++ qs, cls it o (ev C st.sl) :: cs, by rw [e, List.append_assoc], by simp only [classes, ht, if_true, hone, hc, Option.map], fun hp => ?_⟩
          have h2 := aone_stp hone hp.parts.1
          rw [hw, if_pos rfl] at h2
          exact ⟨st1, h2, hch hp.parts.2⟩
        · cases h
      · cases h
    · rename_i ht
      split at h
      · rename_i st1 ps hone
        obtain ⟨qs, cs, e, hc, hch⟩ := chain_of_aops h
        refine ⟨ps ++ qs, (if awant all st.sl o == some true then cls .std o (ev C st.sl) else 0) :: cs, by rw [e, List.append_assoc], by simp only [classes, ht, Bool.false_eq_true, if_false, hone, hc, Option.map], fun hp => ?_⟩
        exact ⟨st1, aone_stp hone hp.parts.1, hch hp.parts.2⟩
      · cases h

theorem Chain.length {all : List Oper} : ∀ {l : List Oper} {cs : List Nat} {st st' : St}, Chain C all l cs st st' → cs.length = l.length
  | [], [], _, _, _ => rfl
  | _ :: _, _ :: _, _, _, ⟨_, _, h⟩ => by simp [h.length]
  | [], _ :: _, _, _, h => h.elim
  | _ :: _, [], _, _, h => h.elim

theorem reach_mono (ops : List Oper) : ∀ (n m j i : Nat), n ≤ m → reach ops n j i = true → reach ops m j i = true
  | 0, _, _, _, _, h => by cases h
  | n + 1, 0, _, _, hm, _ => by omega
  | n + 1, m + 1, j, i, hm, h => by
    unfold reach at h ⊢
    cases hj : ops[j]? with
    | none => rw [hj] at h; cases h
    | some o =>
      rw [hj] at h
      simp only [List.any_eq_true, Bool.and_eq_true, Bool.or_eq_true] at h ⊢
      obtain ⟨e, he, hb, h⟩ := h
      exact ⟨e, he, hb, h.imp_right fun g => reach_mono ops n m e.on i (by omega) g⟩

theorem mask_fold (ms : List Nat) (i : Nat) : ∀ (l : List Edge) (m : Nat), (l.foldl (fun m e => if Region.binds .any e then (m ||| (1 <<< e.on)) ||| ms.getD e.on 0 else m) m).testBit i = true →
    m.testBit i = true ∨ ∃ e ∈ l, Region.binds .any e = true ∧ (e.on = i ∨ (ms.getD e.on 0).testBit i = true)
  | [], m, h => .inl h
  | e :: l, m, h => by
    rw [List.foldl_cons] at h
    rcases mask_fold ms i l _ h with h | ⟨e', he', h⟩
    · by_cases hb : Region.binds .any e = true
      · rw [if_pos hb, Nat.testBit_or, Nat.testBit_or, Bool.or_eq_true, Bool.or_eq_true] at h
        rcases h with (h | h) | h
        · exact .inl h
        · rw [Nat.shiftLeft_eq, Nat.one_mul, Nat.testBit_two_pow] at h
          exact .inr ⟨e, by simp, hb, .inl (of_decide_eq_true h)⟩
        · exact .inr ⟨e, by simp, hb, .inr h⟩
      · rw [if_neg hb] at h
        exact .inl h
    · exact .inr ⟨e', by simp [he'], h⟩

theorem masks_reach {all : List Oper} {i : Nat} : ∀ (os : List Oper) (ms : List Nat), ms.length + os.length = all.length → (∀ k o, os[k]? = some o → all[ms.length + k]? = some o) →
    (∀ k, (ms.getD k 0).testBit i = true → reach all (k + 1) k i = true) → ∀ k, ((masks os ms).getD k 0).testBit i = true → reach all (k + 1) k i = true
  | [], ms, _, _, h, k, hk => h k hk
  | o :: os, ms, hl, ho, h, k, hk => by
    refine masks_reach os (ms ++ [maskOf ms o]) (by simp at hl ⊢; omega) (fun k' o' h' => ?_) (fun k' hk' => ?_) k hk
    · have := ho (k' + 1) o' (by simpa using h')
      rw [List.length_append, List.length_singleton, Nat.add_assoc, Nat.add_comm 1 k']
      exact this
    · rcases Nat.lt_trichotomy k' ms.length with hc | hc | hc
      · rw [List.getD_eq_getElem?_getD, List.getElem?_append_left hc, ← List.getD_eq_getElem?_getD] at hk'
        exact h k' hk'
      · subst hc
        rw [List.getD_eq_getElem?_getD, List.getElem?_append_right (Nat.le_refl _), Nat.sub_self] at hk'
        have hk2 : (maskOf ms o).testBit i = true := hk'
        unfold maskOf at hk2
        rcases mask_fold ms i _ 0 hk2 with g | ⟨e, he, hb, g⟩
        · simp at g
        · have ho0 := ho 0 o rfl
          rw [Nat.add_zero] at ho0
          unfold reach
          rw [ho0]
          simp only [List.any_eq_true, Bool.and_eq_true, Bool.or_eq_true]
          refine ⟨e, he, hb, ?_⟩
          rcases g with g | g
          · exact .inl (by simp [g])
          · have hlt : e.on < ms.length := by
              by_cases hq : e.on < ms.length
              · exact hq
              · rw [List.getD_eq_getElem?_getD, List.getElem?_eq_none (by omega)] at g
                simp at g
            exact .inr (reach_mono all _ _ _ _ (by omega) (h e.on g))
      · rw [List.getD_eq_getElem?_getD, List.getElem?_eq_none (by simp; omega)] at hk'
        simp at hk'

theorem mask_ok {all : List Oper} {i j : Nat} (h : ((masks all []).getD j 0).testBit i = true) (hj : j < all.length) : reach all (all.length + 1) j i = true :=
  reach_mono all _ _ _ _ (by omega) (masks_reach all [] (by simp) (fun k o h => by simpa using h) (fun k hk => by simp at hk) j h)

theorem pairsOK_spec {all : List Oper} {cs : List Nat} (h : pairsOK all cs = true) {i j : Nat} {oi oj : Oper} (hij : i < j) (hi : all.toArray[i]? = some oi) (hj : all.toArray[j]? = some oj) :
    reach all (all.length + 1) j i = true ∨ (oi.apart all.toArray oj = true ∧ compat (cs.getD i 2) (cs.getD j 2) = true) := by
  have hi' : all[i]? = some oi := by simpa using hi
  have hj' : all[j]? = some oj := by simpa using hj
  have hlt : j < all.length := (List.getElem?_eq_some_iff.1 hj').1
  have := List.all_eq_true.1 (List.all_eq_true.1 h j (List.mem_range.2 hlt)) i (List.mem_range.2 hij)
  simp only [hi', hj', Bool.or_eq_true, Bool.and_eq_true] at this
  exact this.imp_left fun h => mask_ok h hlt

theorem lexOK_spec {all : List Oper} (h : lexOK all = true) {j : Nat} {o : Oper} (hj : all.toArray[j]? = some o) : (∀ e ∈ o.after, Region.binds .any e = true → e.on < j) := by
  have hj' : all[j]? = some o := by simpa using hj
  have hlt : j < all.length := (List.getElem?_eq_some_iff.1 hj').1
  have := List.all_eq_true.1 h j (List.mem_range.2 hlt)
  simp only [hj', Bool.and_eq_true] at this
  intro e he hb
  have := List.all_eq_true.1 this.1 e (by simpa using he)
  simpa [hb] using this

theorem anyA_lex {all : List Oper} {cs : List Nat} {Q : St → Prop} (hlex : lexOK all = true) (hp : pairsOK all cs = true) : ∀ (l : List Oper) (ds : List Nat) (k : Nat) (listed : Array Bool) (st st' : St),
    (∀ j, l[j]? = all[k + j]?) → (∀ j, ds[j]? = cs[k + j]?) → listed.size = all.length → (∀ j, j < all.length → listed.getD j true = decide (j < k)) → Chain C all l ds st st' → Q st' → anyA C all cs Q l.length listed st
  | [], [], k, listed, st, st', hl, _, hsz, hli, h, hQ => by
    have e : st' = st := h
    subst e
    refine ⟨?_, hQ⟩
    rw [List.eq_nil_iff_forall_not_mem]
    intro j hj
    obtain ⟨h0, o, ho, _⟩ := mem_ready.1 hj
    have ho' : all[j]? = some o := by simpa using ho
    have hlt : j < all.length := (List.getElem?_eq_some_iff.1 ho').1
    rw [hli j hlt] at h0
    have hk : k ≤ j := by simpa using h0
    have := hl (j - k)
    rw [show k + (j - k) = j by omega, ho'] at this
    simp at this
  | o :: l, c :: ds, k, listed, st, st', hl, hd, hsz, hli, ⟨st1, h1, h2⟩, hQ => by
    have h0' : all[k]? = some o := by simpa using (hl 0).symm
    have h0 : all.toArray[k]? = some o := by simpa using h0'
    have hlt : k < all.length := (List.getElem?_eq_some_iff.1 h0').1
    have hc : cs.getD k 2 = c := by
      have := hd 0
      simp at this
      simp [List.getD_eq_getElem?_getD, ← this]
    have hDown : Down all listed := by
      intro j p hj hlj e he hb
      have hj' : all[j]? = some p := by simpa using hj
      have hjl : j < all.length := (List.getElem?_eq_some_iff.1 hj').1
      have hjk : j < k := by
        have := hli j hjl
        have e2 : listed.getD j true = listed.getD j false := by simp [hsz, hjl]
        rw [e2, hlj] at this
        simpa using this.symm
      have hek := lexOK_spec hlex hj e he hb
      have := hli e.on (by omega)
      have e2 : listed.getD e.on true = listed.getD e.on false := by simp [hsz, show e.on < all.length by omega]
      rw [← e2, this]
      simp; omega
    have hready : k ∈ Region.ready .any all.toArray listed := by
      rw [mem_ready]
      refine ⟨by rw [hli k hlt]; simp, o, h0, fun e he hb => ?_⟩
      have hek := lexOK_spec hlex h0 e he hb
      have := hli e.on (by omega)
      have e2 : listed.getD e.on true = listed.getD e.on false := by simp [hsz, show e.on < all.length by omega]
      rw [← e2, this]
      simp; omega
    refine anyA_first h0 l.length listed st st1 hDown (fun j oj hj hne hun => ?_) hready (by rw [hc]; exact h1)
      (anyA_lex hlex hp l ds (k + 1) _ st1 st' (fun j => ?_) (fun j => ?_) (by simpa using hsz) (fun j hj => ?_) h2 hQ)
    · have hj' : all[j]? = some oj := by simpa using hj
      have hjl : j < all.length := (List.getElem?_eq_some_iff.1 hj').1
      rw [hli j hjl] at hun
      have : k ≤ j := by simpa using hun
      exact pairsOK_spec hp (by omega) h0 hj
    · have := hl (j + 1); simpa [Nat.add_assoc, Nat.add_comm 1 j] using this
    · have := hd (j + 1); simpa [Nat.add_assoc, Nat.add_comm 1 j] using this
    · by_cases e : j = k
      · subst e
        simp [hsz, hlt]
      · rw [getD_set_ne true (Ne.symm e), hli j hj]
        have : (j < k) = (j < k + 1) := by
          apply propext; omega
        simp [this]
  | [], _ :: _, _, _, _, _, _, _, _, _, h, _ => h.elim
  | _ :: _, [], _, _, _, _, _, _, _, _, h, _ => h.elim

/-! ### The model's regions -/

theorem wanted_of_awant {all : List Oper} {o : Oper} {st : St} {γ : Nat → Value} (h : InvG X st a w γ) {b : Bool} (hw : awant all st.sl o = some b) : Region.wanted o (yielded all.toArray a.tmps) = b := by
  unfold awant at hw
  unfold Region.wanted
  cases hg : o.guard with
  | none => rw [hg] at hw; simpa using hw
  | some jb =>
    obtain ⟨j, want⟩ := jb
    rw [hg] at hw
    simp only at hw ⊢
    split at hw
    · rename_i p hp
      split at hw
      · rename_i d hd
        have hy : yielded all.toArray a.tmps j = match a.tmps[d]? with | some (.bool b) => some b | _ => none := by
          have hp2 : all.toArray[j]? = some p := by simpa using hp
          unfold yielded
          rw [hp2]
          simp only [Option.bind, hd]
          rcases a.tmps[d]? with _ | u
          · rfl
          · cases u <;> rfl
        have hbool : ∀ b', a.tmps.getD d undef = .bool b' → yielded all.toArray a.tmps j = some b' := fun b' e => by
          rw [hy]
          cases ht : a.tmps[d]? with
          | none => simp [Array.getD_eq_getD_getElem?, ht, undef] at e
          | some u => simp [Array.getD_eq_getD_getElem?, ht] at e; subst e; rfl
        split at hw
        · rename_i e
          have := RepV.bool (h.sl d _ e)
          rw [hbool _ this]
          simp only [Option.some.injEq] at hw
          rw [← hw]
          cases want <;> rfl
        · rename_i e
          have := RepV.bool (h.sl d _ e)
          rw [hbool _ this]
          simp only [Option.some.injEq] at hw
          rw [← hw]
          cases want <;> rfl
        · rename_i e
          obtain ⟨vs, e1, e2⟩ := h.sl d _ e
          have e2' : vs = [] := e2
          subst e2'
          have : yielded all.toArray a.tmps j = none := by
            rw [hy]
            cases ht : a.tmps[d]? with
            | none => rfl
            | some u => simp [Array.getD_eq_getD_getElem?, ht] at e1; subst e1; rfl
          rw [this]
          cases hw
          rfl
        · cases hw
      · cases hw
    · cases hw

theorem Stp.sound (hC : CfgOK C) {all : List Oper} {o : Oper} {c : Nat} {st st' : St} (h : Inv X st a w) (hs : Stp C all o c st st') {K : Act → World → Prop} (hK : ∀ a' w', Inv X st' a' w' → K a' w') {Q' : Exit → Act → World → Prop} :
    if Region.wanted o (yielded all.toArray a.tmps) then o.wp C.P a w K Q' else K (a.put o.dst undef) w := by
  obtain ⟨γ, hI⟩ := h
  obtain ⟨sl, ob⟩ := st
  obtain ⟨v, ob', ⟨it, ps, hp, ⟨h1, h2, h3⟩ | ⟨h1, h2, h3, h4⟩⟩, rfl⟩ := hs
  · rw [wanted_of_awant hI h1, if_pos rfl]
    exact Oper.wp_mono hK (astep_sound hC hI h2 hp Q')
  · rw [wanted_of_awant hI h1, if_neg (by simp)]
    simp only at h3
    subst h3
    refine hK _ _ ⟨γ, hI.put fun x hx => ?_⟩
    rw [h2] at hx
    cases hx
    exact ⟨[], rfl, rfl⟩

theorem wpAny_of_anyA (hC : CfgOK C) {all : List Oper} {cs : List Nat} {Q : St → Prop} {Q' : Exit → Act → World → Prop} (hQ : ∀ st a w, Q st → Inv X st a w → Q' .normal a w) :
    ∀ (fuel : Nat) (listed : Array Bool) (st : St) (a : Act) (w : World), Inv X st a w → anyA C all cs Q fuel listed st → wpAny C.P .any all.toArray Q' fuel listed a w
  | 0, _, _, _, _, hI, h => ⟨h.1, hQ _ _ _ h.2 hI⟩
  | fuel + 1, listed, st, a, w, hI, h => ⟨fun h0 => hQ _ _ _ (h.1 h0) hI, fun i hi => by
    obtain ⟨o, st', ho, hs, hn⟩ := h.2 i hi
    unfold wpOp
    simp only [ho]
    have := hs.sound hC hI (K := wpAny C.P .any all.toArray Q' fuel (listed.setIfInBounds i true)) (fun a' w' hI' => wpAny_of_anyA hC hQ fuel _ _ _ _ hI' hn) (Q' := Q')
    split
    · rename_i hw; rw [if_pos hw] at this; exact .inl this
    · rename_i hw; rw [if_neg hw] at this; exact this⟩

theorem wpOps_of_chain (hC : CfgOK C) {all : List Oper} {Q' : Exit → Act → World → Prop} {st' : St} (hQ : ∀ a w, Inv X st' a w → Q' .normal a w) :
    ∀ (l : List Oper) (ds : List Nat) (k : Nat) (st : St) (a : Act) (w : World), (∀ j, l[j]? = all[k + j]?) → Chain C all l ds st st' → Inv X st a w → wpOps C.P all.toArray Q' (List.range' k l.length) a w
  | [], [], _, _, _, _, _, h, hI => by
    have e : st' = _ := h
    subst e
    exact hQ _ _ hI
  | o :: l, c :: ds, k, st, a, w, hl, ⟨st1, h1, h2⟩, hI => by
    have h0' : all[k]? = some o := by simpa using (hl 0).symm
    have h0 : all.toArray[k]? = some o := by simpa using h0'
    rw [List.length_cons, List.range'_succ, wpOps_cons]
    unfold wpOp
    simp only [h0]
    have := h1.sound hC hI (K := wpOps C.P all.toArray Q' (List.range' (k + 1) l.length)) (fun a' w' hI' => wpOps_of_chain hC hQ l ds (k + 1) st1 a' w' (fun j => by have := hl (j + 1); simpa [Nat.add_assoc, Nat.add_comm 1 j] using this) h2 hI') (Q' := Q')
    split
    · rename_i hw; rw [if_pos hw] at this; exact .inl this
    · rename_i hw; rw [if_neg hw] at this; exact this
  | [], _ :: _, _, _, _, _, _, h, _ => h.elim
  | _ :: _, [], _, _, _, _, _, h, _ => h.elim

theorem InvG.drew {st : St} {γ : Nat → Value} (h : InvG X st a w γ) : InvG X st a { w with drawn := w.drawn + 1 } γ := by
  have K : Keeps w { w with drawn := w.drawn + 1 } (Bs X st.ob γ) (Bs X st.ob γ) := ⟨fun b hb _ => ⟨hb, rfl⟩⟩
  refine ⟨⟨h.fr.os, h.fr.tape, h.fr.output, h.fr.size, h.fr.block⟩, h.df, h.sz, fun i o ho => (h.ob i o ho).keep K fun b _ => rfl, h.dj, h.fresh, h.pm, fun t v hv => ?_⟩
  exact (h.sl t v hv).imp K fun x u hx => hx.keep K (fun i o ho => ⟨o, ho, o.le_refl⟩) (fun i o ho => ⟨o, ho, o.le_refl⟩)

theorem region_sound (hC : CfgOK C) {id : Nat} {ops : Array Oper} {draw : Bool} {its its' : List It} {st st' : St} {lg lg' : List Prop} (hd : (!draw || drawOK C ops.toList its st) = true)
    (h : aops C ops.toList ops.toList its st lg = some (st', its', lg')) : ∃ ps, lg' = lg ++ ps ∧ (All ps → ∀ (X : Ctx) a w, Inv X st a w → ∀ Q' : Exit → Act → World → Prop, (∀ a w, Inv X st' a w → Q' .normal a w) → (Code.region id ops draw).wp C.P Q' a w) := by
  obtain ⟨ps, cs, e, hcs, hch⟩ := chain_of_aops h
  refine ⟨ps, e, fun hp X a w hI Q' hQ => ?_⟩
  have hch := hch hp
  cases draw with
  | false =>
    apply wp_region
    rw [List.range_eq_range']
    have := wpOps_of_chain hC (Q' := Q') hQ ops.toList cs 0 st a w (fun j => by simp) hch hI
    simpa using this
  | true =>
    simp only [Bool.not_true, Bool.false_or, drawOK, hcs, Bool.and_eq_true] at hd
    apply wp_region_any hC.mixed
    obtain ⟨γ, hI⟩ := hI
    have hA := anyA_lex (Q := fun s => s = st') hd.1 hd.2 ops.toList cs 0 (Array.replicate ops.size false) st st' (fun j => by simp) (fun j => by simp) (by simp) (fun j hj => by simp at hj; simp [hj]) hch rfl
    have := wpAny_of_anyA hC (X := X) (Q' := Q') (fun s a w e hI => by subst e; exact hQ a w hI) _ _ _ _ _ ⟨γ, hI.drew⟩ hA
    simpa using this

end Go.AI
end
