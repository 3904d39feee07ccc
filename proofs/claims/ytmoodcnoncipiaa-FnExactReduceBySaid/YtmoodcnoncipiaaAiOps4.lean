/- One operation of the evaluator, one of the model: cuts, lengths, addresses of elements; append, make. -/
import Derived.Test.YtmoodcnoncipiaaAiOps3
import Derived.Laws.OwnMore
set_option autoImplicit false
set_option linter.unusedVariables false
set_option linter.unusedSimpArgs false
namespace Go.AI

variable {C : Cfg} {X : Ctx} {sl : List (Option AV)} {ob ob' : Obs} {a : Act} {w w' : World} {γ γ' : Nat → Value} {B B' : Nat → Prop} {o : Oper} {v : Option AV} {ps : List Prop}

theorem OwnRow.shape {N : Nat} {e : TypeId} {k : Kd} {l : List k.ty} {u : Value} (h : OwnRow w B N e k l u) : ∃ a c, u = .slice a l.length c ∧ l.length ≤ c ∧ (∀ ad, a = some ad → ad.off = 0 ∧ ad.spot = none) := by
  obtain ⟨flat, ho, hr⟩ := h
  rcases ho.2 with ⟨rfl, h1⟩ | ⟨g, cap, cur, rfl, h1, h2, h3, _⟩
  · exact ⟨none, 0, by rw [h1], by omega, fun ad h => by cases h⟩
  · exact ⟨some ⟨g, 0, none⟩, cap, rfl, h3, fun ad h => by cases h; exact ⟨rfl, rfl⟩⟩

theorem goes_indexAddr_alias (hC : CfgOK C) (h : InvG X ⟨sl, ob⟩ a w γ) {it : It} {t : TypeId} {x i : Operand} (ho : o.op = .indexAddr t x i) {xs : List SV} (hxs : SlL w (Bs X ob γ) ob γ xs [a.eval x, a.eval i])
    (he : aliasStep C it (.indexAddr t x i) xs ob = some (v, ob', ps)) (hp : All ps) : Goes C X sl o a w v ob' := by
  simp only [aliasStep] at he
  split at he
  · rename_i d ver ik j k' hk
    obtain ⟨u, us, e0, hx, u2, us2, e2, hj, _⟩ := hxs
    obtain ⟨rfl, rfl⟩ := List.cons.inj e0
    obtain ⟨rfl, _⟩ := List.cons.inj e2
    have ej := RepV.int hj
    split at he
    · rename_i e k l ver' z hob
      split at he
      · rename_i hh
        obtain ⟨rfl, rfl⟩ := hh
        simp only [Option.some.injEq, Prod.mk.injEq] at he
        obtain ⟨rfl, rfl, rfl⟩ := he
        have hj0 : (0 : Int) ≤ j := hp.1
        have hj1 : j < ((List.length l : Nat) : Int) := hp.2.1
        have hjl : j.toNat < List.length l := (Int.toNat_lt hj0).2 hj1
        have hu := hx.2 _ _ _ _ hob
        obtain ⟨et, het, hke⟩ := hC.elk _ _ hk
        have d1 := hC.el _ _ het
        have hsz := fun w => (hC.kd _ _ hke).sizeOf w
        obtain ⟨flat, ho', hr⟩ := h.ob _ _ hob
        rcases ho'.2 with ⟨hn, hl0⟩ | ⟨g, cap, cur, hv, h1, h2, h3, _⟩
        · rw [hl0] at hjl; omega
        rw [hv] at hu
        have hadd : (⟨g, 0, none⟩ : Addr).add (j.toNat * k.n) = ⟨g, j.toNat * k.n, none⟩ := by unfold Addr.add; split <;> simp_all
        refine Goes.value (u := .pointer (some ⟨g, j.toNat * k.n, none⟩)) (by simp [execOp, ho, hu, ej, Instr.indexAt, asIntOf, run_underlying d1, hj0, hj1, hsz, hadd]) h fun y hy => ?_
        cases hy
        refine ⟨⟨e, k, l, ver, z, hob, Nat.le_refl _⟩, fun e2 k2 l2 z2 hi => ?_⟩
        rw [hob] at hi
        cases hi
        exact ⟨g, _, _, hv, rfl⟩
      · cases he
    · cases he
  · cases he

theorem RepK_flat_of {r : SV} {u : Value} (hf : r.flat = true) (h : SVRep w B r u) : SVRep w B' r u := by
  cases r with
  | v k x => obtain ⟨cs, hr, e⟩ := h; exact ⟨cs, hr.flat hf, e⟩
  | own e k l => exact h.elim
  | nilsl e k => simp [SV.flat] at hf
  | fadr k x => simp [SV.flat] at hf
  | adr i f => simp [SV.flat] at hf
  | osl i v => simp [SV.flat] at hf
  | oel i v j f => simp [SV.flat] at hf
  | mbx k x => simp [SV.flat] at hf
  | msl e k l => simp [SV.flat] at hf

theorem InvG.plains (h : InvG X ⟨sl, ob⟩ a w γ) : ∀ {xs ys : List SV} {us : List Value}, SlL w (Bs X ob γ) ob γ xs us → plains ob xs = some ys → SVsRep w (fun _ => True) ys us
  | [], _, _, e, hp => by cases hp; exact e
  | x :: xs, _, _, ⟨u, us, e, h1, h2⟩, hp => by
    simp only [Go.AI.plains] at hp
    split at hp
    · rename_i y ys hy hys
      cases hp
      exact ⟨u, us, e, h.plain h1 hy (fun _ _ => trivial) (fun _ _ _ _ _ _ => trivial), h.plains h2 hys⟩
    · cases hp

theorem apure_flat {it : It} {op : Op} {xs : List SV} {r : SV} (h : apure C it op xs = some (r, ps)) (hop : (∃ s t x, op = .convert s t x) ∨ ∃ args ts, op = .call { callee := .builtin .len, args := args, argTypes := ts }) : r.flat = true := by
  rcases hop with ⟨s, t, x, rfl⟩ | ⟨args, ts, rfl⟩
  · simp only [apure] at h
    split at h
    · cases h; rfl
    · split at h
      · split at h
        · cases h; rfl
        · cases h
      · cases h
    · cases h
  · simp only [apure] at h
    split at h
    · cases h; rfl
    · cases h; rfl
    · cases h; rfl
    · cases h

theorem goes_plains (hC : CfgOK C) (h : InvG X ⟨sl, ob⟩ a w γ) {it : It} {op : Op} (ho : o.op = op) (hop : (∃ s t x, op = .convert s t x) ∨ ∃ args ts, op = .call { callee := .builtin .len, args := args, argTypes := ts })
    {xs : List SV} (hxs : SlL w (Bs X ob γ) ob γ xs (op.operands.toList.map a.eval)) (he : (match plains ob xs with
    | some ys => match apure C it op ys with
      | some (z, ps) => some (some (.s z), ob, ps)
      | none => none
    | none => none) = some (v, ob', ps)) (hp : All ps) : Goes C X sl o a w v ob' := by
  split at he
  · rename_i ys hys
    split at he
    · rename_i z ps' hz
      simp only [Option.some.injEq, Prod.mk.injEq] at he
      obtain ⟨rfl, rfl, rfl⟩ := he
      obtain ⟨u, hu, hr⟩ := apure_sound hC hz hp (h.plains hxs hys) ho rfl
      exact Goes.value hu h fun y hy => by cases hy; exact (RepK_flat_of (apure_flat hz hop) hr).slot
    · cases he
  · cases he

theorem SlL.plain_tail (hle : ObLe ob ob') (h : InvG X ⟨sl, ob⟩ a w γ) : ∀ {xs : List SV} {us : List Value}, SlL w (Bs X ob γ) ob γ xs us → xs.any isAlias = false → SVsRep w (Bs X ob' γ) xs us := fun hx hn =>
  (SlL.noAlias h hx hn).keep (Keeps.of_sub fun b hb => Bs.le hle hb)

theorem bounds_noAlias {n : Nat} {lo hi : Bool} {xs : List SV} {r : Int × Int × List Prop} (h : bounds n lo hi xs = some r) : xs.any isAlias = false := by
  unfold bounds at h
  split at h <;> first | rfl | cases h

theorem apure_slice_noAlias {it : It} {t : TypeId} {x : Operand} {lo hi mx : Option Operand} {y : SV} {ys : List SV} {r : SV × List Prop} (h : apure C it (.slice t x lo hi mx) (y :: ys) = some r) : ys.any isAlias = false := by
  cases mx with
  | some m => simp [apure] at h
  | none =>
    simp only [apure] at h
    split at h
    · rename_i heq _
      cases heq
      split at h
      · rename_i hb; exact bounds_noAlias hb
      · cases h
    · rename_i heq _
      cases heq
      split at h
      · split at h
        · rename_i hb; exact bounds_noAlias hb
        · cases h
      · cases h
    · cases h

theorem goes_slice_alias (hC : CfgOK C) (h : InvG X ⟨sl, ob⟩ a w γ) {it : It} {t : TypeId} {x : Operand} {lo hi mx : Option Operand} (ho : o.op = .slice t x lo hi mx) {xs : List SV}
    (hxs : SlL w (Bs X ob γ) ob γ xs ((Op.slice t x lo hi mx).operands.toList.map a.eval)) (he : aliasStep C it (.slice t x lo hi mx) xs ob = some (v, ob', ps)) (hp : All ps) : Goes C X sl o a w v ob' := by
  cases mx with
  | some m => simp [aliasStep] at he
  | none =>
  have hlist : (Op.slice t x lo hi none).operands.toList.map a.eval = a.eval x :: ((lo.toList.map a.eval) ++ (hi.toList.map a.eval)) := by
    cases lo <;> cases hi <;> rfl
  simp only [aliasStep] at he
  split at he
  · rename_i i ver ys
    rw [hlist] at hxs
    obtain ⟨u, us, e0, hx, hys⟩ := hxs
    obtain ⟨rfl, rfl⟩ := List.cons.inj e0
    split at he
    · rename_i e k m ver' k' hob hk
      split at he
      · rename_i hh
        obtain ⟨rfl, rfl⟩ := hh
        split at he
        · rename_i l0 h' ps' hb
          simp only [Option.some.injEq, Prod.mk.injEq] at he
          obtain ⟨rfl, rfl, rfl⟩ := he
          have hna := bounds_noAlias hb
          obtain ⟨b0, b1, b2, hus, bl, bh⟩ := bounds_sound hb hp (SlL.noAlias h hys hna)
          have hl0 : l0 = 0 := bl rfl
          subst hl0
          have hu := hx.2 _ _ _ _ hob
          have hrow := h.ob _ _ hob
          obtain ⟨ad, c, hg, hle, had⟩ := OwnRow.shape hrow
          rw [hg] at hu
          obtain ⟨et, het, hke⟩ := hC.elk _ _ hk
          have d1 := hC.el _ _ het
          have hsz := fun w => (hC.kd _ _ hke).sizeOf w
          have hhi : hi.map a.eval = some (.int .i64 h') ∨ hi.map a.eval = none ∧ h' = List.length m := by
            cases hi <;> simp_all
          have hrun := run_sliceBounds (C := C) (w := w) true (List.length m) c none (hi.map a.eval) 0 h' (by omega) b1 b2 hle (.inr ⟨rfl, rfl⟩) hhi
          have hval : (if c = (0 : Int).toNat then ad else ad.map (·.add ((0 : Int).toNat * k.n))) = ad := by
            split
            · rfl
            · cases ad <;> simp [Addr.add_zero]
          have hml : (m.take h'.toNat).length = h'.toNat := by rw [List.length_take]; omega
          obtain ⟨h2, K, S⟩ := h.mod (w' := w) hob (o' := .row e k (m.take h'.toNat) (ver + 1) false) (v := .slice ad h'.toNat c) rfl ⟨rfl, rfl, rfl, Nat.le_refl _, fun _ _ _ => rfl⟩ (.inl (by rw [hg]; cases ad <;> rfl)) (.inr ⟨e, k, m.take h'.toNat, ver, false, rfl⟩) (.inl (Nat.lt_succ_self _)) (fun B' K' => by
            obtain ⟨flat, hown, hr⟩ := hrow
            refine ⟨flat.take (h'.toNat * k.n), ⟨by rw [List.length_take, hown.1, hml]; exact Nat.min_eq_left (Nat.mul_le_mul_right _ (by omega)), ?_⟩, RowsOf.take _ (hr.mono fun _ _ h => h.keep K')⟩
            rcases hown.2 with ⟨hn, hl⟩ | ⟨g, cap, cur, hv, h1, h2, h3, h4, h5, h6⟩
            · rw [hg] at hn
              simp only [Value.slice.injEq] at hn
              obtain ⟨rfl, hm0, rfl⟩ := hn
              refine .inl ⟨?_, by rw [hml]; omega⟩
              have : h'.toNat = 0 := by omega
              rw [this]
            · rw [hg] at hv
              cases hv
              refine .inr ⟨g, c, cur, by rw [hml], h1, h2, by omega, h4, h5, ?_⟩
              rw [hml, ← h6, List.take_take, Nat.min_eq_left (Nat.mul_le_mul_right _ (by omega))])
          refine Goes.value (u := .slice ad h'.toNat c) ?_ h2 fun y hy => ?_
          · simp only [execOp, ho, Option.map_none, Instr.sliceAt, Instr.slice, Sem.run_bind, run_underlying d1, Result.andThen_ok, hu, hrun, hsz, Sem.run_pure, hval]
            simp
          · cases hy
            refine ⟨⟨e, k, _, ver + 1, false, by rw [obj_setOb _ _ _ _ (obj_lt hob), if_pos rfl], Nat.le_refl _⟩, fun e2 k2 l2 z2 hi2 => by rw [upd_same]⟩
        · cases he
      · cases he
    · cases he
  · rename_i i ver ys hnt
    rw [hlist] at hxs
    obtain ⟨u, us, e0, hx, hys⟩ := hxs
    obtain ⟨rfl, rfl⟩ := List.cons.inj e0
    split at he
    · rename_i y hy
      split at he
      · rename_i z ps' hz
        simp only [Option.some.injEq, Prod.mk.injEq] at he
        obtain ⟨rfl, rfl, rfl⟩ := he
        obtain ⟨hle, h1, hr⟩ := h.esc (y := y) (ob' := frz ob (.osl i ver)) hx (by simp only [Go.AI.esc, hy])
        have hrep : SVsRep w (Bs X (frz ob (.osl i ver)) γ) (y :: ys) ((Op.slice t x lo hi none).operands.toList.map a.eval) := by
          rw [hlist]
          exact ⟨_, _, rfl, hr, SlL.plain_tail hle h hys (apure_slice_noAlias hz)⟩
        obtain ⟨u, hu, hru⟩ := apure_sound hC hz hp hrep ho rfl
        exact Goes.value hu h1 fun y hy => by cases hy; exact hru.slot
      · cases he
    · cases he
  · cases he

end Go.AI
