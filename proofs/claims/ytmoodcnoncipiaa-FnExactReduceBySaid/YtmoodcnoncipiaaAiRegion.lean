/- Regions: what an operation depends on; every order does what the text's order does. -/
import Derived.Test.YtmoodcnoncipiaaAiStep
import Derived.Orders
set_option autoImplicit false
set_option linter.unusedVariables false
set_option linter.unusedSimpArgs false
namespace Go.AI

variable {C : Cfg} {X : Ctx} {ob ob' : Obs} {a : Act} {w w' : World} {o : Oper} {v : Option AV} {ps : List Prop} {ρ ρ' : Ev}

/-! ### An operation reads its operands only -/

theorem evS_congr {ty : TypeId} {x : Operand} (h : ∀ t, ρ t x = ρ' t x) : evS ρ ty x = evS ρ' ty x := by simp only [evS, h]

theorem evSs_congr : ∀ {xs : List Operand}, (∀ x ∈ xs, ∀ t, ρ t x = ρ' t x) → evSs ρ xs = evSs ρ' xs
  | [], _ => rfl
  | x :: xs, h => by
    have h1 := evSs_congr (xs := xs) fun y hy => h y (List.mem_cons_of_mem _ hy)
    simp only [evSs, evS_congr (h x (by simp)), h1]

theorem evArgs_congr : ∀ {xs : List Operand} {ts : List TypeId}, (∀ x ∈ xs, ∀ t, ρ t x = ρ' t x) → evArgs ρ xs ts = evArgs ρ' xs ts
  | [], _, _ => rfl
  | x :: xs, ts, h => by
    have h1 := evArgs_congr (xs := xs) (ts := ts.tail) fun y hy => h y (List.mem_cons_of_mem _ hy)
    simp only [evArgs, h x (by simp), h1]

theorem evParts_congr : ∀ {ps : List (Nat × Operand)}, (∀ p ∈ ps, ∀ t, ρ t p.2 = ρ' t p.2) → evParts ρ ps = evParts ρ' ps
  | [], _ => rfl
  | (i, x) :: xs, h => by
    have h1 := evParts_congr (ps := xs) fun y hy => h y (List.mem_cons_of_mem _ hy)
    simp only [evParts, evS_congr (h (i, x) (by simp)), h1]

theorem astep0_congr {it : It} (h : ∀ x ∈ o.op.operands.toList, ∀ t, ρ t x = ρ' t x) : astep0 C it o ρ ob = astep0 C it o ρ' ob := by
  have hs := evSs_congr h
  unfold astep0 moveStep
  generalize hop : o.op = op at *
  cases op
  case move x => simp only [h x (by simp [Op.operands])]
  case assign x => simp only [h x (by simp [Op.operands])]
  case pick c x y => simp only [evS, h c (by simp [Op.operands]), h x (by simp [Op.operands]), h y (by simp [Op.operands])]
  case alloc t => rfl
  case box t x => simp only [evS, h x (by simp [Op.operands])]
  case build t ps =>
    have := evParts_congr (ρ := ρ) (ρ' := ρ') (ps := ps.toList) fun p hp => h p.2 (by simp [Op.operands]; exact ⟨p.1, by simpa using hp⟩)
    simp only [this]
  case buildSlice t n ps =>
    have := evParts_congr (ρ := ρ) (ρ' := ρ') (ps := ps.toList) fun p hp => h p.2 (by simp [Op.operands]; exact ⟨p.1, by simpa using hp⟩)
    simp only [this]
  case store t x y => simp only [evS, h x (by simp [Op.operands]), h y (by simp [Op.operands])]
  case nilCheck x => simp only [evS, h x (by simp [Op.operands])]
  case makeFunc c first caps =>
    cases c
    case func g =>
      have h1 := evSs_congr (ρ := ρ) (ρ' := ρ') (xs := first.toList) fun p hp => h p (by simp [Op.operands]; exact .inl (by simpa using hp))
      have h2 := evSs_congr (ρ := ρ) (ρ' := ρ') (xs := caps.toList) fun p hp => h p (by simp [Op.operands]; exact .inr (by simpa using hp))
      simp only [h1, h2]
    all_goals simp only [hs]
  case makeSlice t n m => simp only [evS, h n (by simp [Op.operands]), h m (by simp [Op.operands])]
  case extract x i => simp only [h x (by simp [Op.operands])]
  case call c =>
    obtain ⟨ce, args, ts⟩ := c
    cases ce
    case value f =>
      have h1 := evArgs_congr (ρ := ρ) (ρ' := ρ') (xs := args.toList) (ts := ts.toList) fun p hp => h p (by simp [Op.operands, Call.operands]; exact .inr (by simpa using hp))
      simp only [h1, h f (by simp [Op.operands, Call.operands])]
    case builtin b =>
      cases b
      case append =>
        simp only
        split
        · rename_i x y t t' d hx ht hd
          have h1 : ∀ z, z = x ∨ z = y → ∀ t, ρ t z = ρ' t z := fun z hz => h z (by
            simp only [Op.operands, Call.operands, Array.toList_append, List.mem_append]
            refine .inr ?_
            rw [hx]; simpa using hz)
          simp only [evS, h1 x (.inl rfl), h1 y (.inr rfl)]
        · rfl
      all_goals simp only [hs]
    all_goals simp only [hs]
  all_goals simp only [hs]

theorem astep_congr {it : It} (h : ∀ x ∈ o.op.operands.toList, ∀ t, ρ t x = ρ' t x) : astep C it o ρ ob = astep C it o ρ' ob := by
  unfold astep
  rw [astep0_congr h]

theorem cls_congr {it : It} (h : ∀ x ∈ o.op.operands.toList, ∀ t, ρ t x = ρ' t x) : cls it o ρ = cls it o ρ' := by
  have hs := evSs_congr h
  unfold cls
  generalize hop : o.op = op at *
  cases op
  case store t x y => simp only [evS, h x (by simp [Op.operands]), h y (by simp [Op.operands])]
  case build t ps =>
    have := evParts_congr (ρ := ρ) (ρ' := ρ') (ps := ps.toList) fun p hp => h p.2 (by simp [Op.operands]; exact ⟨p.1, by simpa using hp⟩)
    simp only [this]
  case call c =>
    obtain ⟨ce, args, ts⟩ := c
    cases ce
    case value f =>
      have h1 := evArgs_congr (ρ := ρ) (ρ' := ρ') (xs := args.toList) (ts := ts.toList) fun p hp => h p (by simp [Op.operands, Call.operands]; exact .inr (by simpa using hp))
      simp only [h1, h f (by simp [Op.operands, Call.operands])]
    case builtin b =>
      cases b <;> simp only [hs]
    all_goals rfl
  all_goals first | rfl | simp only [hs]

/-! ### What has nothing to do with the objects -/

theorem plain_na {x : SV} (h : isAlias x = false) (ob2 : Obs) : Go.AI.plain ob2 x = Go.AI.plain ob x := by cases x <;> simp_all [isAlias, Go.AI.plain]
theorem frz_na {x : SV} (h : isAlias x = false) : frz ob x = ob := by cases x <;> simp_all [isAlias, frz]

theorem esc_na {x y : SV} (h : isAlias x = false) (he : esc ob x = some (y, ob')) : ob' = ob ∧ ∀ ob2, esc ob2 x = some (y, ob2) := by
  unfold esc at he
  split at he
  · rename_i z hz
    simp only [Option.some.injEq, Prod.mk.injEq] at he
    obtain ⟨rfl, rfl⟩ := he
    refine ⟨frz_na h, fun ob2 => ?_⟩
    simp only [esc, plain_na h (ob := ob) ob2, hz, frz_na h]
  · cases he

theorem parts_na {k : Kd} : ∀ {ps : List (Nat × SV)} {x z : k.ty} {ob ob' : Obs}, ps.any (fun p => isAlias p.2) = false → parts ob k x ps = some (z, ob') → ob' = ob ∧ ∀ ob2, parts ob2 k x ps = some (z, ob2)
  | [], x, z, ob, ob', _, he => by
    simp only [parts, Option.some.injEq, Prod.mk.injEq] at he
    obtain ⟨rfl, rfl⟩ := he
    exact ⟨rfl, fun _ => rfl⟩
  | (i, y) :: ps, x, z, ob, ob', hn, he => by
    simp only [List.any_cons, Bool.or_eq_false_iff] at hn
    simp only [parts] at he
    split at he
    · rename_i q zz ob1 hy
      obtain ⟨rfl, h2⟩ := esc_na hn.1 hy
      split at he
      · rename_i x' hx'
        obtain ⟨h3, h4⟩ := parts_na hn.2 he
        exact ⟨h3, fun ob2 => by simp only [parts, h2, hx', h4]⟩
      · cases he
    · cases he

theorem landS_nil {x y : SV} {ids : List Nat} (h : landS ob [] x = some (y, ids, ob')) : ob' = ob ∧ ids = [] ∧ ∀ ob2, landS ob2 [] x = some (y, [], ob2) := by
  cases x <;> simp_all [landS]

theorem landL_nil : ∀ {xs ys : List SV} {ob ob' : Obs}, landL ob [] xs = some (ys, ob') → ob' = ob ∧ ∀ ob2, landL ob2 [] xs = some (ys, ob2)
  | [], _, _, _, h => by simp only [landL, Option.some.injEq, Prod.mk.injEq] at h; obtain ⟨rfl, rfl⟩ := h; exact ⟨rfl, fun _ => rfl⟩
  | x :: xs, _, ob, _, h => by
    simp only [landL] at h
    split at h
    · rename_i y ids ob1 hy
      obtain ⟨rfl, rfl, h2⟩ := landS_nil hy
      split at h
      · rename_i ys ob2 hys
        obtain ⟨h3, h4⟩ := landL_nil hys
        simp only [Option.some.injEq, Prod.mk.injEq] at h
        obtain ⟨rfl, rfl⟩ := h
        exact ⟨h3, fun ob2 => by simp only [landL, h2, h4]⟩
      · cases h
    · cases h

theorem landA_nil {r y : AV} (h : landA ob [] r = some (y, ob')) : ob' = ob ∧ ∀ ob2, landA ob2 [] r = some (y, ob2) := by
  cases r <;> simp only [landA] at h ⊢
  · split at h
    · rename_i z ids ob1 hz
      obtain ⟨rfl, rfl, h2⟩ := landS_nil hz
      simp only [Option.some.injEq, Prod.mk.injEq] at h
      obtain ⟨rfl, rfl⟩ := h
      exact ⟨rfl, fun ob2 => by simp only [h2]⟩
    · cases h
  · split at h
    · rename_i ys ob1 hz
      obtain ⟨rfl, h2⟩ := landL_nil hz
      simp only [Option.some.injEq, Prod.mk.injEq] at h
      obtain ⟨rfl, rfl⟩ := h
      exact ⟨rfl, fun ob2 => by simp only [h2]⟩
    · cases h
  · simp only [Option.some.injEq, Prod.mk.injEq] at h
    obtain ⟨rfl, rfl⟩ := h
    exact ⟨rfl, fun _ => rfl⟩

theorem argsAV_na : ∀ {as : List AV} {i : Nat}, as.any avAlias = false → ∀ ob2, argsAV ob2 [] i as = argsAV ob [] i as
  | [], _, _, _ => rfl
  | x :: as, i, h, ob2 => by
    simp only [List.any_cons, Bool.or_eq_false_iff] at h
    have h1 : argAV ob2 [] i x = argAV ob [] i x := by
      cases x
      · rename_i x
        cases x <;> simp_all [avAlias, isAlias, argAV, Go.AI.plain]
      · rfl
      · rfl
    simp only [argsAV, h1, argsAV_na h.2 ob2]

theorem mutIds_na : ∀ {as : List AV} {i : Nat}, as.any avAdr = false → mutIds ob [] i as = []
  | [], _, _ => rfl
  | x :: as, i, h => by
    simp only [List.any_cons, Bool.or_eq_false_iff] at h
    have h2 := mutIds_na (as := as) (i := i + 1) h.2
    cases x
    · rename_i x
      cases x <;> simp_all [avAdr, mutIds]
    · simp [mutIds, h2]
    · simp [mutIds, h2]

theorem frzAll_na : ∀ {as : List AV}, as.any avAlias = false → frzAll ob as = ob
  | [], _ => rfl
  | x :: as, h => by
    simp only [List.any_cons, Bool.or_eq_false_iff] at h
    have h2 := frzAll_na (as := as) h.2
    cases x
    · rename_i x
      cases x <;> simp_all [avAlias, isAlias, frzAll]
    · simp [frzAll, h2]
    · simp [frzAll, h2]

theorem any_adr : ∀ {as : List AV}, as.any avAlias = false → as.any avAdr = false
  | [], _ => rfl
  | x :: as, h => by
    simp only [List.any_cons, Bool.or_eq_false_iff] at h ⊢
    refine ⟨?_, any_adr h.2⟩
    cases x
    · rename_i x
      cases x <;> simp_all [avAlias, isAlias, avAdr]
    · rfl
    · rfl

theorem callStep_cls0 {f : FuncId} {as : List AV} {r : AV} (h : callStep C (.res r [] [] []) f as ob = some (v, ob', ps)) (hn : as.any avAlias = false) :
    ob' = ob ∧ ∀ ob2, callStep C (.res r [] [] []) f as ob2 = some (v, ob2, ps) := by
  simp only [callStep] at h
  split at h
  · cases h
  · rename_i xs hxs
    simp only [callMut, mutIds_na (any_adr hn)] at h
    have hf : ∀ ob, callFrz ob as r [] = ob := fun ob => by unfold callFrz; split; rfl; exact frzAll_na hn
    rw [hf] at h
    split at h
    · cases h
    · rename_i y ob3 hy
      obtain ⟨rfl, h2⟩ := landA_nil hy
      simp only [Option.some.injEq, Prod.mk.injEq] at h
      obtain ⟨rfl, rfl, rfl⟩ := h
      refine ⟨rfl, fun ob2 => ?_⟩
      simp only [callStep, argsAV_na hn (ob := ob3) ob2, hxs, callMut, mutIds_na (any_adr hn), hf, h2]

theorem callStep_cls1 {f : FuncId} {as : List AV} {r : AV} (h : callStep C (.res r [] [] []) f as ob = some (v, ob', ps)) (hn : as.any avAdr = false) (hr : r.flat = true) : ob' = ob := by
  simp only [callStep] at h
  split at h
  · cases h
  · rename_i xs hxs
    simp only [callMut, mutIds_na hn] at h
    have hf : ∀ ob, callFrz ob as r [] = ob := fun ob => by unfold callFrz; simp [hr]
    rw [hf] at h
    split at h
    · cases h
    · rename_i y ob3 hy
      obtain ⟨rfl, h2⟩ := landA_nil hy
      simp only [Option.some.injEq, Prod.mk.injEq] at h
      obtain ⟨rfl, rfl, rfl⟩ := h
      rfl

end Go.AI
