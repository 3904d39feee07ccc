/- One operation of the evaluator, one of the model: stores. -/
import Derived.Test.YtmoodcnoncipiaaAiOps2
set_option autoImplicit false
set_option linter.unusedVariables false
set_option linter.unusedSimpArgs false
namespace Go.AI

variable {C : Cfg} {X : Ctx} {sl : List (Option AV)} {ob ob' : Obs} {a : Act} {w w' : World} {γ γ' : Nat → Value} {B B' : Nat → Prop} {o : Oper} {v : Option AV} {ps : List Prop}

theorem grownBy_setRow (w : World) (g : Nat) (cs : Array Value) : w.grownBy (w.setRow g cs) (some g) :=
  ⟨rfl, rfl, rfl, by simp [World.setRow], fun k _ hk => setRow_other w g k _ (fun e => hk (by rw [e]))⟩

theorem run_storeVar {P : Program} {t : TypeId} {k : Kd} (hk : KdOK P t k) {z : k.ty} {u : Value} (hr : RepV w B k z u) {b off : Nat} {cur : Array Value} {e : TypeId} (hh : w.heap[b]? = some (.cells cur e (0, 0))) (hle : off + k.n ≤ cur.size) :
    (storeVar t ⟨b, off, none⟩ u).run P w = .ok () (w.setRow b (cur.toList.take off ++ u.cells.toList ++ cur.toList.drop (off + k.n)).toArray) := by
  have hs := hr.size
  have hst := run_storeCells_at P b off e u.cells.toList 0 cur w hh (by simp [hs]; omega) (hr.cells.one)
  simp only [Nat.add_zero] at hst
  have hs' : u.cells.toList.length = k.n := by simpa using hs
  simp only [storeVar, Sem.run_bind, hk.sizeOf, Result.andThen_ok, hs, ne_eq, not_true_eq_false, if_false, Sem.run_pure, hst, hs']

theorem Kd.upd_rep : ∀ {k : Kd} {x x' : k.ty} {cs : List Value} {f : Nat} {q : Kd} {z : q.ty}, k.thin = true → RepK w B k x cs → k.upd x f q z = some x' →
    isPr q = false ∧ f < k.n ∧ ∀ c, RepK w B q z [c] → RepK w B k x' (cs.set f c)
  | .pr p q', x, x', cs, 0, q, z, ht, ⟨c1, c2, e, h1, h2⟩, h => by
    simp only [Kd.thin, Bool.and_eq_true, beq_iff_eq] at ht
    simp only [Kd.upd] at h
    split at h
    · rename_i hq
      subst hq
      simp only [castK_rfl, Option.some.injEq] at h
      subst h
      refine ⟨?_, by simp only [Kd.n]; have := q.n_pos; omega, fun c hc => ?_⟩
      · cases q with
        | pr a b => exfalso; have := a.n_pos; have := b.n_pos; have h1 := ht.1; simp only [Kd.n] at h1; omega
        | _ => rfl
      · match c1, h1.length.trans ht.1 with
        | [c0], _ => exact ⟨[c], c2, by rw [e]; rfl, hc, h2⟩
    · cases h
  | .pr p q', x, x', cs, f + 1, q, z, ht, ⟨c1, c2, e, h1, h2⟩, h => by
    simp only [Kd.thin, Bool.and_eq_true, beq_iff_eq] at ht
    simp only [Kd.upd] at h
    split at h
    · rename_i y hy
      simp only [Option.some.injEq] at h
      subst h
      obtain ⟨i1, i2, i3⟩ := Kd.upd_rep ht.2 h2 hy
      refine ⟨i1, by simp only [Kd.n]; omega, fun c hc => ?_⟩
      match c1, h1.length.trans ht.1 with
      | [c0], _ => exact ⟨[c0], c2.set f c, by rw [e]; rfl, h1, i3 c hc⟩
    · cases h
  | .int _, x, x', cs, 0, q, z, _, hr, h | .bool, x, x', cs, 0, q, z, _, hr, h | .str, x, x', cs, 0, q, z, _, hr, h | .tree, x, x', cs, 0, q, z, _, hr, h | .sl _, x, x', cs, 0, q, z, _, hr, h => by
    simp only [Kd.upd] at h
    split at h
    · rename_i hq
      subst hq
      simp only [castK_rfl, Option.some.injEq] at h
      subst h
      refine ⟨rfl, by simp [Kd.n], fun c hc => ?_⟩
      match cs, hr.length with
      | [c0], _ => exact hc
    · cases h
  | .int _, x, x', cs, f + 1, q, z, _, _, h | .bool, x, x', cs, f + 1, q, z, _, _, h | .str, x, x', cs, f + 1, q, z, _, _, h | .tree, x, x', cs, f + 1, q, z, _, _, h | .sl _, x, x', cs, f + 1, q, z, _, _, h => by
    simp [Kd.upd] at h

theorem RowsOf.set {k : Kd} : ∀ {l : List k.ty} {flat : List Value} {i : Nat} {z : k.ty} {cz : List Value}, RowsOf (RepK w B k) l flat → i < l.length → RepK w B k z cz →
    RowsOf (RepK w B k) (l.set i z) (flat.take (i * k.n) ++ cz ++ flat.drop (i * k.n + k.n))
  | [], _, i, _, _, _, hi, _ => by simp at hi
  | x :: l, flat, 0, z, cz, ⟨c1, c2, e, h1, h2⟩, _, hz => by
    refine ⟨cz, c2, ?_, hz, h2⟩
    rw [e]
    simp [← h1.length]
  | x :: l, flat, i + 1, z, cz, ⟨c1, c2, e, h1, h2⟩, hi, hz => by
    have ih := RowsOf.set h2 (show i < l.length by simpa using hi) hz
    refine ⟨c1, _, ?_, h1, ih⟩
    have hl := h1.length
    rw [e]
    have e1 : (i + 1) * k.n = c1.length + i * k.n := by rw [Nat.add_mul, hl]; omega
    rw [e1, List.take_length_add_append, Nat.add_assoc, List.drop_length_add_append]
    simp [List.append_assoc]

theorem goes_store (hC : CfgOK C) (h : InvG X ⟨sl, ob⟩ a w γ) {t : TypeId} {x y : Operand} (ho : o.op = .store t x y) {sx sy : SV} (hx : SlS w (Bs X ob γ) ob γ sx (a.eval x)) (hy : SlS w (Bs X ob γ) ob γ sy (a.eval y))
    (he : storeStep C t sx sy ob = some (v, ob', ps)) (hp : All ps) : Goes C X sl o a w v ob' := by
  unfold storeStep at he
  split at he
  · rename_i i
    split at he
    · rename_i k x0 hob
      split at he
      · rename_i z ob1 hz
        split at he
        · rename_i k1 x1 hob1
          split at he
          · rename_i hk
            simp only [Option.some.injEq, Prod.mk.injEq] at he
            obtain ⟨rfl, rfl, _⟩ := he
            obtain ⟨hle, h1, hr⟩ := h.escK hy hz
            obtain ⟨_, b, hb, e⟩ := hx
            obtain ⟨b', cs, t', e', hh, hrc⟩ := h.ob _ _ hob
            rw [hb] at e'
            cases e'
            have hl := hrc.length
            have hrun := run_storeVar (hC.kd _ _ hk) hr (b := b) (off := 0) hh (by simp [hl])
            have e0 : List.take 0 cs.toArray.toList ++ (a.eval y).cells.toList ++ List.drop (0 + k.n) cs.toArray.toList = (a.eval y).cells.toList := by
              have hd : List.drop k.n cs = [] := List.drop_eq_nil_of_le (by omega)
              simp [hd]
            rw [e0] at hrun
            obtain ⟨h2, K, S⟩ := h1.mod (w' := w.setRow b (a.eval y).cells.toList.toArray) hob1 (o' := .box k z false) (v := γ i) rfl (by rw [hb]; exact grownBy_setRow w b _) (.inl rfl) (.inl rfl) (by simp [AliasOK]) (fun B' K' => ⟨b, (a.eval y).cells.toList, t', hb, setRow_heap w b _ _ t' _ hh, hr.cells.keep K'⟩)
            have e1 : a.eval x = .pointer (some ⟨b, 0, none⟩) := e
            exact Goes.skip (by simp only [execOp, ho, e1, Instr.storeAt, Instr.sureAddr, Sem.run_bind, Sem.run_pure, Result.andThen_ok, hrun]) h2
          · cases he
        · cases he
      · cases he
    · cases he
  · rename_i i f
    split at he
    · rename_i k x0 hob
      split at he
      · rename_i q z ob1 hz
        split at he
        · rename_i x' k1 x1 hup hob1
          split at he
          · rename_i hk
            simp only [Option.some.injEq, Prod.mk.injEq] at he
            obtain ⟨rfl, rfl, _⟩ := he
            obtain ⟨hk, ht⟩ := hk
            obtain ⟨hle, h1, hr⟩ := h.esc hy hz
            obtain ⟨_, b, hb, e⟩ := hx
            obtain ⟨b', cs, t', e', hh, hrc⟩ := h.ob _ _ hob
            rw [hb] at e'
            cases e'
            have hl := hrc.length
            obtain ⟨hq1, hf, _⟩ := Kd.upd_rep ht hrc hup
            have hqn : q.n = 1 := by cases q <;> simp_all [Kd.n, isPr]
            have hrun := run_storeVar (hC.kd _ _ hk) hr (b := b) (off := f) hh (by simp [hl, hqn]; omega)
            have hc1 : (a.eval y).cells.toList = [a.eval y] := by
              have := RepV.cell1 hq1 hr
              have h3 := mkV_cells this
              rwa [mkV_one hq1] at h3
            have e0 : List.take f cs.toArray.toList ++ (a.eval y).cells.toList ++ List.drop (f + q.n) cs.toArray.toList = cs.set f (a.eval y) := by
              rw [hc1, hqn, List.set_eq_take_append_cons_drop, if_pos (by omega)]
              simp
            rw [e0] at hrun
            obtain ⟨h2, K, S⟩ := h1.mod (w' := w.setRow b (cs.set f (a.eval y)).toArray) hob1 (o' := .box k x' false) (v := γ i) rfl (by rw [hb]; exact grownBy_setRow w b _) (.inl rfl) (.inl rfl) (by simp [AliasOK]) (fun B' K' => ⟨b, cs.set f (a.eval y), t', hb, setRow_heap w b _ _ t' _ hh, by
              have hrc' : RepK _ B' k x0 cs := (hrc.keep (Keeps.of_sub fun b hb => Bs.le hle hb)).keep K'
              exact (Kd.upd_rep ht hrc' hup).2.2 _ ((RepV.cell1 hq1 hr).keep K')⟩)
            have e1 : a.eval x = .pointer (some ⟨b, f, none⟩) := e
            exact Goes.skip (by simp only [execOp, ho, e1, Instr.storeAt, Instr.sureAddr, Sem.run_bind, Sem.run_pure, Result.andThen_ok, hrun]) h2
          · cases he
        · cases he
      · cases he
    · cases he
  · rename_i i ver j
    split at he
    · rename_i e k l ver' hob
      split at he
      · rename_i hver
        subst hver
        split at he
        · rename_i z ob1 hz
          split at he
          · rename_i e1 k1 l1 v1 hob1
            split at he
            · rename_i hk
              simp only [Option.some.injEq, Prod.mk.injEq] at he
              obtain ⟨rfl, rfl, rfl⟩ := he
              obtain ⟨hle, h1, hr⟩ := h.escK hy hz
              obtain ⟨o1, ho1, hl1⟩ := hle.fwd _ _ hob
              rw [hob1] at ho1
              cases ho1
              obtain ⟨z1, heq, _⟩ := hl1
              cases heq
              obtain ⟨b, n, c, hg, ee⟩ := hx.2 _ _ _ _ hob
              obtain ⟨flat, hown, hrf⟩ := h.ob _ _ hob
              have hj : j < l.length := hp.1
              rcases hown.2 with ⟨hn, _⟩ | ⟨g, cap, cur, hv, hb0, hh, hnc, hcm, hcs, htake⟩
              · rw [hg] at hn; cases hn
              rw [hg] at hv
              cases hv
              have hjc : (j + 1) * k.n ≤ c * k.n := Nat.mul_le_mul_right _ (by omega)
              have hjl : (j + 1) * k.n ≤ l.length * k.n := Nat.mul_le_mul_right _ hj
              rw [Nat.add_mul, Nat.one_mul] at hjc hjl
              have hrun := run_storeVar (hC.kd _ _ hk) hr (b := b) (off := j * k.n) hh (by rw [hcs]; exact hjc)
              have hus : (a.eval y).cells.toList.length = k.n := by simpa using hr.size
              obtain ⟨h2, K, S⟩ := h1.mod (w' := w.setRow b (cur.toList.take (j * k.n) ++ (a.eval y).cells.toList ++ cur.toList.drop (j * k.n + k.n)).toArray) hob1 (o' := .row e k (l.set j z) ver false) (v := γ i) rfl (by rw [hg]; exact grownBy_setRow w b _) (.inl rfl) (.inl rfl) (by simp [AliasOK]) (fun B' K' => by
                refine ⟨flat.take (j * k.n) ++ (a.eval y).cells.toList ++ flat.drop (j * k.n + k.n), ⟨?_, .inr ⟨b, c, _, by rw [hg]; simp, hb0, setRow_heap w b _ _ e _ hh, by simpa using hnc, hcm, ?_, ?_⟩⟩, RowsOf.set ((hrf.mono fun _ _ h => (h.keep (Keeps.of_sub fun b hb => Bs.le hle hb)).keep K')) hj (hr.cells.keep K')⟩
                · have := RowsOf.length hrf
                  simp only [List.length_append, List.length_take, List.length_drop, List.length_set, hus]
                  omega
                · simp only [List.size_toArray, List.length_append, List.length_take, List.length_drop, Array.length_toList, hus, hcs]
                  omega
                · have hfl := RowsOf.length hrf
                  simp only [List.length_set]
                  rw [← htake]
                  have t1 : (List.take (l.length * k.n) cur.toList).take (j * k.n) = cur.toList.take (j * k.n) := by rw [List.take_take, Nat.min_eq_left (by omega)]
                  rw [t1]
                  have hA : (cur.toList.take (j * k.n) ++ (a.eval y).cells.toList).length = j * k.n + k.n := by
                    simp only [List.length_append, List.length_take, Array.length_toList, hcs, hus]; omega
                  show List.take (l.length * k.n) (cur.toList.take (j * k.n) ++ (a.eval y).cells.toList ++ cur.toList.drop (j * k.n + k.n)) = _
                  rw [List.take_append, List.take_of_length_le (by omega), hA, List.drop_take])
              have e1 : a.eval x = .pointer (some ⟨b, j * k.n, none⟩) := by simpa using ee
              exact Goes.skip (by simp only [execOp, ho, e1, Instr.storeAt, Instr.sureAddr, Sem.run_bind, Sem.run_pure, Result.andThen_ok, hrun]) h2
            · cases he
          · cases he
        · cases he
      · cases he
    · cases he
  · rename_i i ver j f
    split at he
    · rename_i e k l ver' hob
      split at he
      · rename_i hver
        subst hver
        split at he
        · rename_i q z ob1 hz
          split at he
          · rename_i x' e1 k1 l1 v1 hup hob1
            split at he
            · rename_i hk
              simp only [Option.some.injEq, Prod.mk.injEq] at he
              obtain ⟨rfl, rfl, rfl⟩ := he
              obtain ⟨hk, ht⟩ := hk
              obtain ⟨hle, h1, hr⟩ := h.esc hy hz
              obtain ⟨o1, ho1, hl1⟩ := hle.fwd _ _ hob
              rw [hob1] at ho1
              cases ho1
              obtain ⟨z1, heq, _⟩ := hl1
              cases heq
              obtain ⟨b, n, c, hg, ee⟩ := hx.2 _ _ _ _ hob
              obtain ⟨flat, hown, hrf⟩ := h.ob _ _ hob
              have hj : j < l.length := hp.1
              rcases hown.2 with ⟨hn, _⟩ | ⟨g, cap, cur, hv, hb0, hh, hnc, hcm, hcs, htake⟩
              · rw [hg] at hn; cases hn
              rw [hg] at hv
              cases hv
              have hge := RowsOf.get hrf j hj k.z
              obtain ⟨hq1, hf, _⟩ := Kd.upd_rep ht hge hup
              have hqn : q.n = 1 := by cases q <;> simp_all [Kd.n, isPr]
              have hjc : (j + 1) * k.n ≤ c * k.n := Nat.mul_le_mul_right _ (by omega)
              have hjl : (j + 1) * k.n ≤ l.length * k.n := Nat.mul_le_mul_right _ hj
              rw [Nat.add_mul, Nat.one_mul] at hjc hjl
              have hrun := run_storeVar (hC.kd _ _ hk) hr (b := b) (off := j * k.n + f) hh (by rw [hcs, hqn]; omega)
              have hc1 : (a.eval y).cells.toList = [a.eval y] := by
                have := RepV.cell1 hq1 hr
                have h3 := mkV_cells this
                rwa [mkV_one hq1] at h3
              rw [hc1, hqn] at hrun
              obtain ⟨h2, K, S⟩ := h1.mod (w' := w.setRow b (cur.toList.take (j * k.n + f) ++ [a.eval y] ++ cur.toList.drop (j * k.n + f + 1)).toArray) hob1 (o' := .row e k (l.set j x') ver false) (v := γ i) rfl (by rw [hg]; exact grownBy_setRow w b _) (.inl rfl) (.inl rfl) (by simp [AliasOK]) (fun B' K' => by
                have hrf' : RowsOf (RepK _ B' k) l flat := hrf.mono fun _ _ h => (h.keep (Keeps.of_sub fun b hb => Bs.le hle hb)).keep K'
                have hge' := RowsOf.get hrf' j hj k.z
                have hset := RowsOf.set hrf' hj ((Kd.upd_rep ht hge' hup).2.2 _ ((RepV.cell1 hq1 hr).keep K'))
                have hfl := RowsOf.length hrf
                have hcl : cur.toList.length = c * k.n := by rw [Array.length_toList, hcs]
                have heq : flat.take (j * k.n) ++ ((flat.drop (j * k.n)).take k.n).set f (a.eval y) ++ flat.drop (j * k.n + k.n) = flat.set (j * k.n + f) (a.eval y) := by
                  apply List.ext_getElem?
                  intro m
                  rw [List.getElem?_set]
                  by_cases c1 : m < j * k.n
                  · rw [List.append_assoc, List.getElem?_append_left (by rw [List.length_take]; omega), List.getElem?_take, if_pos c1, if_neg (by omega)]
                  · by_cases c2 : m < j * k.n + k.n
                    · rw [List.append_assoc, List.getElem?_append_right (by rw [List.length_take]; omega), List.getElem?_append_left (by simp only [List.length_take, List.length_set, List.length_drop]; omega), List.length_take, Nat.min_eq_left (by omega), List.getElem?_set, List.length_take, List.length_drop, List.getElem?_take, List.getElem?_drop]
                      by_cases c3 : j * k.n + f = m
                      · rw [if_pos (by omega), if_pos (by omega), if_pos c3, if_pos (by omega)]
                      · rw [if_neg (by omega), if_neg c3, if_pos (by omega)]
                        congr 1
                        omega
                    · have hL : (flat.take (j * k.n) ++ ((flat.drop (j * k.n)).take k.n).set f (a.eval y)).length = j * k.n + k.n := by
                        simp only [List.length_append, List.length_take, List.length_set, List.length_drop]; omega
                      rw [List.getElem?_append_right (by omega), hL, List.getElem?_drop, if_neg (by omega)]
                      congr 1
                      omega
                rw [heq] at hset
                refine ⟨flat.set (j * k.n + f) (a.eval y), ⟨?_, .inr ⟨b, c, _, by rw [hg]; simp, hb0, setRow_heap w b _ _ e _ hh, by simpa using hnc, hcm, ?_, ?_⟩⟩, hset⟩
                · simp only [List.length_set]
                  omega
                · simp only [List.size_toArray, List.length_append, List.length_take, List.length_drop, Array.length_toList, hcs, List.length_singleton]
                  omega
                · simp only [List.length_set]
                  rw [← htake]
                  apply List.ext_getElem?
                  intro m
                  rw [List.getElem?_set, List.getElem?_take, List.getElem?_take, List.length_take, hcl]
                  show (if m < l.length * k.n then (cur.toList.take (j * k.n + f) ++ [a.eval y] ++ cur.toList.drop (j * k.n + f + 1))[m]? else none) = _
                  by_cases c0 : m < l.length * k.n
                  · rw [if_pos c0, if_pos c0]
                    by_cases c1 : m < j * k.n + f
                    · rw [List.append_assoc, List.getElem?_append_left (by rw [List.length_take, hcl]; omega), List.getElem?_take, if_pos c1, if_neg (by omega)]
                    · by_cases c2 : j * k.n + f = m
                      · rw [if_pos c2, if_pos (by omega), List.append_assoc, List.getElem?_append_right (by rw [List.length_take]; omega), List.length_take, hcl, Nat.min_eq_left (by omega), c2, Nat.sub_self]
                        rfl
                      · have hL : (cur.toList.take (j * k.n + f) ++ [a.eval y]).length = j * k.n + f + 1 := by
                          simp only [List.length_append, List.length_take, hcl, List.length_singleton]; omega
                        rw [List.getElem?_append_right (by omega), hL, List.getElem?_drop, if_neg c2]
                        congr 1
                        omega
                  · rw [if_neg c0, if_neg c0, if_neg (by omega)])
              have e1 : a.eval x = .pointer (some ⟨b, j * k.n + f, none⟩) := by simpa using ee
              exact Goes.skip (by simp only [execOp, ho, e1, Instr.storeAt, Instr.sureAddr, Sem.run_bind, Sem.run_pure, Result.andThen_ok, hrun]) h2
            · cases he
          · cases he
        · cases he
      · cases he
    · cases he
  · cases he

end Go.AI
