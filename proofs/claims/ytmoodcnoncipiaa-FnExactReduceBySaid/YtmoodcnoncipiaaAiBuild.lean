/- Struct and slice literals. -/
import Derived.Test.YtmoodcnoncipiaaAiCall2
set_option autoImplicit false
set_option linter.unusedVariables false
set_option linter.unusedSimpArgs false
namespace Go.AI

variable {C : Cfg} {X : Ctx} {sl : List (Option AV)} {a : Act} {w w' : World} {γ γ' : Nat → Value} {B B' : Nat → Prop} {o : Oper} {v : Option AV} {ps : List Prop}

def PartsRel (w : World) (B : Nat → Prop) (ob : Obs) (γ : Nat → Value) : List (Nat × SV) → List (Nat × Value) → Prop
  | [], us => us = []
  | (i, y) :: qs, us => ∃ u us', us = (i, u) :: us' ∧ SlS w B ob γ y u ∧ PartsRel w B ob γ qs us'

theorem PartsRel.raise {ob ob' : Obs} (hle : ObLe ob ob') : ∀ {qs : List (Nat × SV)} {us : List (Nat × Value)}, PartsRel w (Bs X ob γ) ob γ qs us → PartsRel w (Bs X ob' γ) ob' γ qs us
  | [], _, e => e
  | _ :: _, _, ⟨u, us, e, h1, h2⟩ => ⟨u, us, e, h1.raise hle, h2.raise hle⟩

theorem evParts_rep {ob : Obs} (h : InvG X ⟨sl, ob⟩ a w γ) : ∀ {xs : List (Nat × Operand)} {vs : List (Nat × SV)}, evParts (ev C sl) xs = some vs → PartsRel w (Bs X ob γ) ob γ vs (xs.map fun (i, x) => (i, a.eval x))
  | [], _, e => by cases e; rfl
  | (i, x) :: xs, _, e => by
    simp only [evParts] at e
    split at e
    · rename_i y ys hy hys
      cases e
      exact ⟨_, _, rfl, evS_rep h hy, evParts_rep h hys⟩
    · cases e

theorem fill_seg (vs : Array Value) (cells : Array Value) (off : Nat) (h : off + vs.size ≤ cells.size) :
    (vs.zipIdx.foldl (fun cs (c, j) => cs.setIfInBounds (off + j) c) cells).toList = cells.toList.take off ++ vs.toList ++ cells.toList.drop (off + vs.size) := by
  have key : ∀ (l : List Value) (s : Nat) (cells : Array Value), off + s + l.length ≤ cells.size →
      ((l.zipIdx s).foldl (fun (cs : Array Value) (p : Value × Nat) => cs.setIfInBounds (off + p.2) p.1) cells).toList = cells.toList.take (off + s) ++ l ++ cells.toList.drop (off + s + l.length) := by
    intro l
    induction l with
    | nil => intro s cells h; simp
    | cons c l ih =>
      intro s cells h
      simp only [List.length_cons] at h
      rw [List.zipIdx_cons, List.foldl_cons, ih (s + 1) _ (by simp; omega)]
      simp only [Array.toList_setIfInBounds]
      obtain ⟨A, d, D, hA, hAl⟩ : ∃ A d D, cells.toList = A ++ d :: D ∧ A.length = off + s := by
        refine ⟨cells.toList.take (off + s), cells.toList[off + s]'(by simp; omega), cells.toList.drop (off + s + 1), ?_, by simp; omega⟩
        rw [← List.drop_eq_getElem_cons, List.take_append_drop]
      have e1 : off + (s + 1) = A.length + 1 := by omega
      have e2 : A.length + 1 + l.length = A.length + (1 + l.length) := by omega
      have e3 : off + s + (c :: l).length = A.length + (1 + l.length) := by simp only [List.length_cons]; omega
      rw [e3, e1, e2, hA, ← hAl]
      have e4 : (A ++ d :: D).set A.length c = A ++ c :: D := by simp
      rw [e4, List.take_length_add_append, List.drop_length_add_append, List.drop_length_add_append, List.take_left]
      have e5 : 1 + l.length = l.length + 1 := by omega
      rw [e5]
      simp [List.append_assoc]
  have := key vs.toList 0 cells (by simpa using h)
  rw [← Array.foldl_toList, Array.toList_zipIdx]
  simpa using this

theorem parts_rep {k : Kd} {pl : Nat → Option (Nat × Nat)} (hpl : ∀ i, i < k.n → pl i = some (i, 1)) (ht : k.thin = true) : ∀ (qs : List (Nat × SV)) {us : List (Nat × Value)} {ob ob' : Obs} {x z : k.ty} {cs : List Value},
    InvG X ⟨sl, ob⟩ a w γ → PartsRel w (Bs X ob γ) ob γ qs us → parts ob k x qs = some (z, ob') → RepK w (Bs X ob γ) k x cs →
    ∃ cs', Instr.fill pl cs.toArray us = some cs'.toArray ∧ RepK w (Bs X ob' γ) k z cs' ∧ ObLe ob ob' ∧ InvG X ⟨sl, ob'⟩ a w γ
  | [], us, ob, ob', x, z, cs, h, hr, hp, hx => by
    simp only [parts, Option.some.injEq, Prod.mk.injEq] at hp
    obtain ⟨rfl, rfl⟩ := hp
    rw [show us = [] from hr]
    exact ⟨cs, rfl, hx, ObLe.refl _, h⟩
  | (i, y) :: qs, us, ob, ob', x, z, cs, h, hr, hp, hx => by
    simp only [parts] at hp
    split at hp
    · rename_i q z1 ob1 he
      split at hp
      · rename_i x1 hup
        obtain ⟨u, us', rfl, h1, h2⟩ := hr
        obtain ⟨hle, hi1, hr1⟩ := h.esc h1 he
        have hx1 : RepK w (Bs X ob1 γ) k x cs := hx.keep (Keeps.of_sub fun b hb => Bs.le hle hb)
        obtain ⟨hq, hin, hset⟩ := Kd.upd_rep ht hx1 hup
        have hu1 := RepV.cell1 hq hr1
        obtain ⟨cs', hf, hr', hle', hi'⟩ := parts_rep hpl ht qs hi1 (h2.raise hle) hp (hset u hu1)
        refine ⟨cs', ?_, hr', hle.trans hle', hi'⟩
        have hc1 : u.cells = #[u] := by
          have h3 := mkV_cells hu1
          rw [mkV_one hq] at h3
          exact Array.toList_inj.1 (by simpa using h3)
        have hlen := hx1.length
        rw [Instr.fill, hpl i hin]
        simp only [hc1]
        rw [if_neg (by simp; omega)]
        have : (#[u].zipIdx.foldl (fun cs (p : Value × Nat) => cs.setIfInBounds (i + p.2) p.1) cs.toArray) = (cs.set i u).toArray := by simp
        rw [this]
        exact hf
      · cases hp
    · cases hp

theorem mapM_places {P : Program} : ∀ (l : List Field) (s : Nat), (∀ (i : Nat) (fd : Field), l[i]? = some fd → fd.offset = s + i ∧ ∃ j, P.info? fd.type = some j ∧ j.size = 1) →
    l.mapM (fun f => (P.info? f.type).map fun i => (f.offset, i.size)) = some ((List.range' s l.length).map fun i => (i, 1))
  | [], s, _ => by simp
  | f :: l, s, h => by
    obtain ⟨h1, j, h2, h3⟩ := h 0 f rfl
    have ih := mapM_places l (s + 1) fun i fd hi => by
      have := h (i + 1) fd (by simpa using hi)
      exact ⟨by omega, this.2⟩
    rw [List.mapM_cons, h2, ih]
    simp [h1, h3, List.range'_succ]

theorem goes_build (hC : CfgOK C) {ob ob' : Obs} (h : InvG X ⟨sl, ob⟩ a w γ) {t : TypeId} {qs : Array (Nat × Operand)} (ho : o.op = .build t qs) (he : (match C.kd t, evParts (ev C sl) qs.toList with
    | some (.pr p q), some qs => match parts ob (.pr p q) (Kd.z (.pr p q)) qs with
      | some (z, ob') => if (Kd.pr p q).thin then some (some (AV.s (.v (.pr p q) z)), ob', ([] : List Prop)) else none
      | none => none
    | _, _ => none) = some (v, ob', ps)) : Goes C X sl o a w v ob' := by
  split at he
  · rename_i p q xs hk hxs
    split at he
    · rename_i z ob1 hz
      split at he
      · rename_i ht
        simp only [Option.some.injEq, Prod.mk.injEq] at he
        obtain ⟨rfl, rfl, _⟩ := he
        obtain ⟨it, zv, hi, hsz, hzero, _, hzr⟩ := (hC.kd _ _ hk).info
        obtain ⟨fs, hu, hfs⟩ := (hC.kd _ _ hk).desc
        obtain ⟨hn, hall⟩ := hfs ht
        have hpl := mapM_places (P := C.P) fs.toList 0 fun i fd hi => by
          obtain ⟨h1, j, d, h2, h3, _⟩ := hall i fd (by simpa using hi)
          exact ⟨by omega, j, h2, h3⟩
        have hz0 := (hzr w (Bs X ob γ)).cells
        obtain ⟨cs', hf, hr, hle, h1⟩ := parts_rep (pl := fun i => ((List.range' 0 fs.toList.length).map fun i => (i, 1)).toArray[i]?) (fun i hi => by
          have : i < fs.size := by rw [hn]; exact hi
          simp [this]) ht xs h (evParts_rep h hxs) hz hz0
        have hbuilt : C.P.built t (qs.map fun (i, x) => (i, a.eval x)).toList = some cs'.toArray := by
          unfold Program.built
          rw [hi, hu]
          simp only [hzero, hpl]
          rw [Array.toArray_toList] at hf
          simpa using hf
        have hrun := run_build w t (qs.map fun (i, x) => (i, a.eval x)) cs'.toArray hbuilt
        exact Goes.value (u := .agg cs'.toArray) (by simp [execOp, ho, hrun]) h1 fun y hy => by cases hy; exact ⟨cs', hr, rfl⟩
      · cases he
    · cases he
  · cases he

theorem elems_rep {k : Kd} : ∀ (qs : List (Nat × SV)) {us : List (Nat × Value)} {ob ob' : Obs} {l l' : List k.ty} {flat : List Value},
    InvG X ⟨sl, ob⟩ a w γ → PartsRel w (Bs X ob γ) ob γ qs us → elems ob k l qs = some (l', ob') → RowsOf (RepK w (Bs X ob γ) k) l flat →
    ∃ flat', Instr.fill (fun i => some (i * k.n, k.n)) flat.toArray us = some flat'.toArray ∧ RowsOf (RepK w (Bs X ob' γ) k) l' flat' ∧ ObLe ob ob' ∧ InvG X ⟨sl, ob'⟩ a w γ ∧ l'.length = l.length
  | [], us, ob, ob', l, l', flat, h, hr, hp, hx => by
    simp only [elems, Option.some.injEq, Prod.mk.injEq] at hp
    obtain ⟨rfl, rfl⟩ := hp
    rw [show us = [] from hr]
    exact ⟨flat, rfl, hx, ObLe.refl _, h, rfl⟩
  | (i, y) :: qs, us, ob, ob', l, l', flat, h, hr, hp, hx => by
    simp only [elems] at hp
    split at hp
    · rename_i z1 ob1 he
      split at hp
      · rename_i hil
        obtain ⟨u, us', rfl, h1, h2⟩ := hr
        obtain ⟨hle, hi1, hr1⟩ := h.escK h1 he
        have hx1 : RowsOf (RepK w (Bs X ob1 γ) k) l flat := hx.mono fun _ _ h => h.keep (Keeps.of_sub fun b hb => Bs.le hle hb)
        have hset := RowsOf.set hx1 hil hr1.cells
        obtain ⟨flat', hf, hr', hle', hi', hl'⟩ := elems_rep qs hi1 (h2.raise hle) hp hset
        refine ⟨flat', ?_, hr', hle.trans hle', hi', by simpa using hl'⟩
        have hlen := hx1.length
        have hus := hr1.size
        have hle2 : (i + 1) * k.n ≤ l.length * k.n := Nat.mul_le_mul_right _ hil
        rw [Nat.add_mul, Nat.one_mul] at hle2
        rw [Instr.fill]
        simp only
        rw [if_neg (by simp [hus, hlen]; omega)]
        have hseg := fill_seg u.cells flat.toArray (i * k.n) (by simp [hus, hlen]; omega)
        rw [hus] at hseg
        rw [← Array.toArray_toList (xs := u.cells.zipIdx.foldl _ flat.toArray), hseg]
        exact hf
      · cases hp
    · cases hp

theorem goes_buildSlice (hC : CfgOK C) {ob ob' : Obs} (h : InvG X ⟨sl, ob⟩ a w γ) {t : TypeId} {n : Nat} {qs : Array (Nat × Operand)} (ho : o.op = .buildSlice t n qs) (he : (match C.kd t, C.el t, o.dst, evParts (ev C sl) qs.toList with
    | some (.sl k), some e, some d, some qs => if C.kd e = some k ∧ n ≤ 1000 then match elems ob k (List.replicate n k.z) qs with
        | some (l, ob') => newOb ob' d (.row e k l 0 false) (.osl d 0)
        | none => none
      else none
    | _, _, _, _ => none) = some (v, ob', ps)) : Goes C X sl o a w v ob' := by
  split at he
  · rename_i k e d xs hk het hd hxs
    split at he
    · rename_i hke
      obtain ⟨hke, hn⟩ := hke
      split at he
      · rename_i l ob1 hl
        obtain ⟨i, z, hi, hs, hz, hb, hzr⟩ := (hC.kd _ _ hke).info
        obtain ⟨flat, hf, hr, hle, h1, hlen⟩ := elems_rep xs h (evParts_rep h hxs) hl (RowsOf.zeros (hzr _ _) n)
        simp only [List.length_replicate] at hlen
        unfold newOb at he
        split at he
        · rename_i hod
          split at he
          · rename_i hlt
            simp only [Option.some.injEq, Prod.mk.injEq] at he
            obtain ⟨rfl, rfl, _⟩ := he
            have hkn : n * k.n ≤ 2 ^ 24 := by
              calc n * k.n ≤ 1000 * 64 := Nat.mul_le_mul hn (hC.kd _ _ hke).small
                _ ≤ 2 ^ 24 := by decide
            have hrun : (execOp a.eval o).run C.P w = .ok (.value (.slice (some ⟨w.heap.size, 0, none⟩) n n)) (w.alloc (.cells flat.toArray e)) := by
              have hkn' : ¬ n * k.n > 2 ^ 24 := by omega
              have hf' : ∀ zz : Array Value, (n * k.n ≠ 0 → zz = z.cells) → Instr.fill (fun i => some (i * k.n, k.n)) ((Array.range (n * k.n)).map (zz[· % zz.size]!)) (qs.map fun (i, x) => (i, a.eval x)).toList = some flat.toArray := fun zz hzz => by
                have : (Array.range (n * k.n)).map (zz[· % zz.size]!) = madeCells z.cells (n * k.n) := by
                  by_cases h0 : n * k.n = 0
                  · rw [h0]; simp [madeCells]
                  · rw [hzz h0]; rfl
                rw [this]
                rw [Array.toArray_toList] at hf
                simpa using hf
              simp only [execOp, ho, Instr.buildSlice, Sem.run_bind, run_underlying (hC.el _ _ het), Result.andThen_ok, (hC.kd _ _ hke).sizeOf, if_neg hkn']
              by_cases h0 : n * k.n = 0
              · simp only [h0, if_true, Sem.run_pure, Result.andThen_ok]
                have h1 := hf' #[] (fun h => absurd h0 h)
                rw [h0] at h1
                simp only [h1, Sem.run_bind, Sem.run_pure, Result.andThen_ok]
                rfl
              · simp only [h0, if_false, zeroValue, typeInfo, program, Sem.run_bind, Sem.run, hi, hz, Sem.run_pure, Result.andThen_ok]
                have h1 := hf' z.cells (fun _ => rfl)
                simp only [h1, Sem.run_bind, Sem.run_pure, Result.andThen_ok]
                rfl
            obtain ⟨h2, K, S⟩ := h1.new hod hlt (o := .row e k l 0 false) (v := .slice (some ⟨w.heap.size, 0, none⟩) n n) (World.grownBy_alloc w (.cells flat.toArray e) none) (fun b hb => by simp [blk] at hb; omega)
              (fun B' K' => ⟨flat, ⟨hr.length, .inr ⟨w.heap.size, n, flat.toArray, by rw [hlen], Nat.zero_le _, heap_alloc_new w _, by omega, by simp only [maxLen]; omega, by simp [hr.length, hlen], by
                rw [List.take_of_length_le (by simp [hr.length])]⟩⟩, hr.mono fun _ _ h => h.keep K'⟩)
            exact Goes.value hrun h2 fun y hy => by
              cases hy
              exact ⟨⟨e, k, l, 0, false, by rw [obj_setOb _ _ _ _ hlt, if_pos rfl], Nat.le_refl _⟩, fun e2 k2 l2 z2 hi2 => by rw [upd_same]⟩
          · cases he
        · cases he
      · cases he
    · cases he
  · cases he

end Go.AI
