/- What the evaluator says of an operation over plain values, the model does. -/
import Derived.Test.YtmoodcnoncipiaaAiPure2
set_option autoImplicit false
set_option linter.unusedVariables false
set_option linter.unusedSimpArgs false
namespace Go.AI

variable {C : Cfg} {w : World} {B : Nat → Prop}

/-- The value in the model, and that it stands for the evaluator's. -/
def Does (P : Program) (w : World) (B : Nat → Prop) (o : Oper) (ρ : Operand → Value) (r : SV) : Prop :=
  ∃ u, (execOp ρ o).run P w = .ok (.value u) w ∧ SVRep w B r u

theorem SVsRep.one {x : SV} {us : List Value} (h : SVsRep w B [x] us) : ∃ u, us = [u] ∧ SVRep w B x u := by
  obtain ⟨u, us', rfl, h1, h2⟩ := h
  exact ⟨u, by rw [show us' = [] from h2], h1⟩
theorem SVsRep.two {x y : SV} {us : List Value} (h : SVsRep w B [x, y] us) : ∃ u v, us = [u, v] ∧ SVRep w B x u ∧ SVRep w B y v := by
  obtain ⟨u, us', rfl, h1, h2⟩ := h
  obtain ⟨v, rfl, h3⟩ := SVsRep.one h2
  exact ⟨u, v, rfl, h1, h3⟩

theorem does_load (hC : CfgOK C) {it : It} {t : TypeId} {a : Operand} {xs : List SV} {r : SV} {ps : List Prop} (h : apure C it (.load t a) xs = some (r, ps)) {us : List Value} (hx : SVsRep w B xs us)
    {o : Oper} (ho : o.op = .load t a) {ρ : Operand → Value} (hu : (Op.load t a).operands.toList.map ρ = us) : Does C.P w B o ρ r := by
  simp only [Op.operands, List.map_cons, List.map_nil] at hu
  simp only [apure] at h
  split at h
  · obtain ⟨u, rfl, h1⟩ := SVsRep.one hx
    simp only [List.cons.injEq, and_true] at hu
    split at h
    · rename_i hk
      simp only [Option.some.injEq, Prod.mk.injEq] at h
      obtain ⟨rfl, _⟩ := h
      obtain ⟨z, hz, hr⟩ := run_loadAt hC hk h1
      exact ⟨z, by simp [execOp, ho, hu, hz], hr⟩
    · cases h
  · obtain ⟨u, rfl, h1⟩ := SVsRep.one hx
    simp only [List.cons.injEq, and_true] at hu
    split at h
    · rename_i hk
      simp only [Option.some.injEq, Prod.mk.injEq] at h
      obtain ⟨rfl, _⟩ := h
      obtain ⟨z, hz, hr⟩ := run_loadAt hC (hk ▸ hC.tn) (RepA.node (RepV.tree h1))
      exact ⟨z, by simp [execOp, ho, hu, hz], hr⟩
    · cases h
  · cases h

theorem does_bin (hC : CfgOK C) {it : It} {bo : BinOp} {t t' : TypeId} {a b : Operand} {xs : List SV} {r : SV} {ps : List Prop} (h : apure C it (.binOp bo t a b t') xs = some (r, ps)) (hp : All ps) {us : List Value} (hx : SVsRep w B xs us)
    {o : Oper} (ho : o.op = .binOp bo t a b t') {ρ : Operand → Value} (hu : (Op.binOp bo t a b t').operands.toList.map ρ = us) : Does C.P w B o ρ r := by
  simp only [Op.operands, List.map_cons, List.map_nil] at hu
  simp only [apure] at h
  split at h
  · obtain ⟨u, v, rfl, h1, h2⟩ := SVsRep.two hx
    simp only [List.cons.injEq, and_true] at hu
    obtain ⟨rfl, rfl⟩ := hu
    split at h
    · rename_i q hq
      split at h
      · obtain ⟨hp', hrep⟩ := decided_sound (w := w) (B := B) h hp
        obtain ⟨z, hz, hr⟩ := abin_sound hC hq hp' h1 h2 a b
        exact ⟨z, by simp only [execOp, ho, Sem.run_bind] at hz ⊢; rw [hz]; rfl, hrep z hr⟩
      · simp only [Option.some.injEq] at h
        subst h
        obtain ⟨z, hz, hr⟩ := abin_sound hC hq hp h1 h2 a b
        exact ⟨z, by simp only [execOp, ho, Sem.run_bind] at hz ⊢; rw [hz]; rfl, hr⟩
    · cases h
  · cases h

theorem does_un {it : It} {uo : UnOp} {t : TypeId} {a : Operand} {xs : List SV} {r : SV} {ps : List Prop} (h : apure C it (.unOp uo t a) xs = some (r, ps)) {us : List Value} (hx : SVsRep w B xs us)
    {o : Oper} (ho : o.op = .unOp uo t a) {ρ : Operand → Value} (hu : (Op.unOp uo t a).operands.toList.map ρ = us) : Does C.P w B o ρ r := by
  simp only [Op.operands, List.map_cons, List.map_nil] at hu
  simp only [apure] at h
  split at h
  all_goals first
    | (exfalso; simp at h; done)
    | (simp only [Option.some.injEq, Prod.mk.injEq] at h
       obtain ⟨rfl, _⟩ := h
       obtain ⟨u, rfl, h1⟩ := SVsRep.one hx
       simp only [List.cons.injEq, and_true] at hu
       first
        | (have e := RepV.bool h1; subst e; exact ⟨_, by simp [execOp, ho, hu, Op.unary], RepV.mk_bool _⟩)
        | (have e := RepV.int h1; subst e; exact ⟨_, by simp [execOp, ho, hu, Op.unary, Op.intArith], RepV.mk_int _ _⟩))

theorem strOf_eq (l : List Int) : l.foldl (fun r n => r.push (UInt8.ofNat n.toNat)) ByteArray.empty = strOf l := by
  have : ∀ (l : List Int) (a : ByteArray), l.foldl (fun r n => r.push (UInt8.ofNat n.toNat)) a = ⟨a.data ++ (l.map fun n => UInt8.ofNat n.toNat).toArray⟩ := by
    intro l
    induction l with
    | nil => intro a; simp
    | cons x l ih => intro a; rw [List.foldl_cons, ih]; simp [ByteArray.push]
  rw [this]
  show ByteArray.mk (#[] ++ _) = _
  simp [strOf]

theorem RowsOf.ints {k : IntKind} : ∀ {l : List Int} {flat : List Value}, RowsOf (RepK w B (.int k)) l flat → flat = l.map (Value.int k)
  | [], _, h => h
  | x :: l, _, ⟨c1, c2, e, h1, h2⟩ => by rw [e, show c1 = _ from h1, RowsOf.ints h2]; rfl

theorem does_convert (hC : CfgOK C) {it : It} {s t : TypeId} {a : Operand} {xs : List SV} {r : SV} {ps : List Prop} (h : apure C it (.convert s t a) xs = some (r, ps)) {us : List Value} (hx : SVsRep w B xs us)
    {o : Oper} (ho : o.op = .convert s t a) {ρ : Operand → Value} (hu : (Op.convert s t a).operands.toList.map ρ = us) : Does C.P w B o ρ r := by
  simp only [Op.operands, List.map_cons, List.map_nil] at hu
  simp only [apure] at h
  split at h
  · rename_i k n k0 k' hs ht
    simp only [Option.some.injEq, Prod.mk.injEq] at h
    obtain ⟨rfl, _⟩ := h
    obtain ⟨u, rfl, h1⟩ := SVsRep.one hx
    simp only [List.cons.injEq, and_true] at hu
    have e := RepV.int h1
    subst e
    have d1 : C.P.underlying s = some (.int k0) := (hC.kd _ _ hs).desc
    have d2 : C.P.underlying t = some (.int k') := (hC.kd _ _ ht).desc
    exact ⟨_, by simp [execOp, ho, hu, convert, run_underlying d1, run_underlying d2, Conv.intToInt], RepV.mk_int _ _⟩
  · rename_i l hs ht
    split at h
    · rename_i e0 he0
      split at h
      · rename_i hk0
        simp only [Option.some.injEq, Prod.mk.injEq] at h
        obtain ⟨rfl, _⟩ := h
        obtain ⟨u, rfl, h1⟩ := SVsRep.one hx
        simp only [List.cons.injEq, and_true] at hu
        obtain ⟨ad, c, flat, rfl, hle, hr, hn, hc⟩ := RepV.sl h1
        have d1 := hC.el _ _ he0
        have d0 : C.P.underlying e0 = some (.int .u8) := (hC.kd _ _ hk0).desc
        have d2 : C.P.underlying t = some .string := (hC.kd _ _ ht).desc
        have hfl := RowsOf.ints hr
        cases ad with
        | none =>
          have := hn rfl
          subst this
          exact ⟨_, by simp [execOp, ho, hu, convert, run_underlying d1, run_underlying d2, run_underlying d0, Conv.bytesToString]; rfl, RepV.mk_str _⟩
        | some a0 =>
          obtain ⟨_, hcell, _⟩ := hc a0 rfl
          have hlen : flat.length = l.length := by rw [hfl]; simp
          have hl := run_loadCells_list' (P := C.P) a0 flat hcell
          rw [hlen] at hl
          have hrun := run_bytesToString (P := C.P) w a0 l.length c l (by rw [hl, hfl])
          rw [strOf_eq] at hrun
          exact ⟨_, by simp [execOp, ho, hu, convert, run_underlying d1, run_underlying d2, run_underlying d0, hrun], RepV.mk_str _⟩
      · cases h
    · cases h
  · cases h

theorem does_slice (hC : CfgOK C) {it : It} {t : TypeId} {x : Operand} {lo hi mx : Option Operand} {xs : List SV} {r : SV} {ps : List Prop} (h : apure C it (.slice t x lo hi mx) xs = some (r, ps)) (hp : All ps) {us : List Value} (hx : SVsRep w B xs us)
    {o : Oper} (ho : o.op = .slice t x lo hi mx) {ρ : Operand → Value} (hu : (Op.slice t x lo hi mx).operands.toList.map ρ = us) : Does C.P w B o ρ r := by
  cases mx with
  | some m => simp [apure] at h
  | none =>
  have hu' : ρ x :: ((lo.toList.map ρ) ++ (hi.toList.map ρ)) = us := by
    rw [← hu]; cases lo <;> cases hi <;> rfl
  clear hu
  simp only [apure] at h
  split at h
  · rename_i s ys hk
    split at h
    · rename_i l h' ps' hb
      simp only [Option.some.injEq, Prod.mk.injEq] at h
      obtain ⟨rfl, rfl⟩ := h
      obtain ⟨u, us', rfl, h1, h2⟩ := hx
      obtain ⟨hxu, htl⟩ := List.cons.inj hu'
      have e := RepV.str h1
      subst e
      have d : C.P.underlying t = some .string := (hC.kd _ _ hk).desc
      obtain ⟨b0, b1, b2, hus, bl, bh⟩ := bounds_sound hb hp h2
      have hlo : lo.map ρ = some (.int .i64 l) ∨ lo.map ρ = none ∧ l = 0 := by
        cases lo <;> cases hi <;> simp_all
      have hhi : hi.map ρ = some (.int .i64 h') ∨ hi.map ρ = none ∧ h' = s.size := by
        cases lo <;> cases hi <;> simp_all
      have hrun := run_sliceBounds (C := C) (w := w) false s.size s.size (lo.map ρ) (hi.map ρ) l h' b0 b1 b2 (Nat.le_refl _) hlo hhi
      exact ⟨_, by simp [execOp, ho, hxu, Instr.sliceAt, Instr.slice, run_underlying d, hrun], RepV.mk_str _⟩
    · cases h
  · rename_i k m ys k' hk
    split at h
    · rename_i hkk
      subst hkk
      split at h
      · rename_i l h' ps' hb
        simp only [Option.some.injEq, Prod.mk.injEq] at h
        obtain ⟨rfl, rfl⟩ := h
        obtain ⟨u, us', rfl, h1, h2⟩ := hx
        obtain ⟨hxu, htl⟩ := List.cons.inj hu'
        obtain ⟨ad, c, flat, rfl, hle, hr, hn, hc⟩ := RepV.sl h1
        obtain ⟨e, he, hke⟩ := hC.elk _ _ hk
        have d := hC.el _ _ he
        obtain ⟨b0, b1, b2, hus, bl, bh⟩ := bounds_sound hb hp h2
        have hlo : lo.map ρ = some (.int .i64 l) ∨ lo.map ρ = none ∧ l = 0 := by
          cases lo <;> cases hi <;> simp_all
        have hhi : hi.map ρ = some (.int .i64 h') ∨ hi.map ρ = none ∧ h' = List.length m := by
          cases lo <;> cases hi <;> simp_all
        have hrun := run_sliceBounds (C := C) (w := w) true (List.length m) c (lo.map ρ) (hi.map ρ) l h' b0 b1 b2 hle hlo hhi
        have d' := fun w => (hC.kd _ _ hke).sizeOf w
        refine ⟨_, by simp [execOp, ho, hxu, Instr.sliceAt, Instr.slice, run_underlying d, hrun, d']; rfl, ?_⟩
        have hl1 : (cutL m l h').length = h'.toNat - l.toNat := by
          simp only [cutL, List.length_drop, List.length_take]; omega
        rw [← hl1]
        have hfl := RowsOf.length hr
        refine RepV.mk_sl (flat := (flat.take (h'.toNat * k.n)).drop (l.toNat * k.n)) (by rw [hl1]; omega) (RowsOf.drop _ (RowsOf.take _ hr)) (fun hnone => ?_) (fun ad' had => ?_)
        · have : ad = none := by
            split at hnone
            · exact hnone
            · cases ad <;> simp_all
          have := hn this
          subst this
          simp [cutL]
        · cases ad with
          | none => split at had <;> simp at had
          | some a0 =>
            obtain ⟨hs, hcell, hbb⟩ := hc a0 rfl
            split at had
            · rename_i hcl
              simp only [Option.some.injEq] at had
              subst had
              have e0 : (flat.take (h'.toNat * k.n)).drop (l.toNat * k.n) = [] := by
                apply List.drop_eq_nil_of_le
                rw [List.length_take]
                have : h'.toNat = l.toNat := by omega
                rw [this]; exact Nat.min_le_left _ _
              rw [e0]
              exact ⟨hs, fun j u hj => by simp at hj, fun h => absurd rfl h⟩
            · simp only [Option.map_some, Option.some.injEq] at had
              subst had
              refine ⟨Addr.add_spot _ _ hs, (hcell.take _).drop hs _, fun hne => ?_⟩
              rw [Addr.add_block]
              exact hbb (fun e => hne (by rw [e]; simp))
      · cases h
    · cases h
  · cases h


theorem does_fieldAddr (hC : CfgOK C) {it : It} {s : TypeId} {x : Operand} {f : Nat} {xs : List SV} {r : SV} {ps : List Prop} (h : apure C it (.fieldAddr s x f) xs = some (r, ps)) {us : List Value} (hx : SVsRep w B xs us)
    {o : Oper} (ho : o.op = .fieldAddr s x f) {ρ : Operand → Value} (hu : (Op.fieldAddr s x f).operands.toList.map ρ = us) : Does C.P w B o ρ r := by
  simp only [Op.operands, List.map_cons, List.map_nil] at hu
  simp only [apure] at h
  split at h
  · obtain ⟨u, rfl, h1⟩ := SVsRep.one hx
    simp only [List.cons.injEq, and_true] at hu
    split at h
    · rename_i l r0 hk
      subst hk
      have hA := RepA.node (RepV.tree h1)
      split at h <;> simp only [reduceCtorEq, Option.some.injEq, Prod.mk.injEq] at h
      · obtain ⟨rfl, _⟩ := h
        obtain ⟨ad, e, hz, hr⟩ := run_fieldAt hC hC.tn rfl rfl hA (f := 0) (q := .tree) (y := l) rfl
        exact ⟨_, by simp [execOp, ho, hu, hz], hr⟩
      · obtain ⟨rfl, _⟩ := h
        obtain ⟨ad, e, hz, hr⟩ := run_fieldAt hC hC.tn rfl rfl hA (f := 1) (q := .tree) (y := r0) rfl
        exact ⟨_, by simp [execOp, ho, hu, hz], hr⟩
    · cases h
  · obtain ⟨u, rfl, h1⟩ := SVsRep.one hx
    simp only [List.cons.injEq, and_true] at hu
    split at h
    · rename_i q z hs
      split at h
      · rename_i hk
        simp only [Option.some.injEq, Prod.mk.injEq] at h
        obtain ⟨rfl, _⟩ := h
        obtain ⟨hk, hp, ht⟩ := hk
        obtain ⟨ad, e, hz, hr⟩ := run_fieldAt hC hk hp ht h1 hs
        exact ⟨_, by simp [execOp, ho, hu, hz], hr⟩
      · cases h
    · cases h
  · cases h

theorem does_field (hC : CfgOK C) {it : It} {s : TypeId} {x : Operand} {f : Nat} {xs : List SV} {r : SV} {ps : List Prop} (h : apure C it (.field s x f) xs = some (r, ps)) {us : List Value} (hx : SVsRep w B xs us)
    {o : Oper} (ho : o.op = .field s x f) {ρ : Operand → Value} (hu : (Op.field s x f).operands.toList.map ρ = us) : Does C.P w B o ρ r := by
  simp only [Op.operands, List.map_cons, List.map_nil] at hu
  simp only [apure] at h
  split at h
  · obtain ⟨u, rfl, h1⟩ := SVsRep.one hx
    simp only [List.cons.injEq, and_true] at hu
    split at h
    · rename_i q z hs
      split at h
      · rename_i hk
        simp only [Option.some.injEq, Prod.mk.injEq] at h
        obtain ⟨rfl, _⟩ := h
        obtain ⟨hk, hp, ht⟩ := hk
        obtain ⟨hf, hq⟩ := Kd.sel_n ht hs
        obtain ⟨cs, hr, rfl⟩ := h1
        obtain ⟨fs, fd, hun, hfd, hoff, _, hag⟩ := (hC.kd _ _ hk).field hp ht hf
        obtain ⟨c, hc, hrc⟩ := RepK.sel ht hr hs
        have hmk := mkV_pr hp cs
        exact ⟨c, by simp [execOp, ho, hu, Instr.field, run_underlying hun, hfd, hmk, asAgg, part, hag, hoff, hc], RepV.one hq hrc⟩
      · cases h
    · cases h
  · cases h

theorem does_indexAddr (hC : CfgOK C) {it : It} {t : TypeId} {x i : Operand} {xs : List SV} {r : SV} {ps : List Prop} (h : apure C it (.indexAddr t x i) xs = some (r, ps)) (hp : All ps) {us : List Value} (hx : SVsRep w B xs us)
    {o : Oper} (ho : o.op = .indexAddr t x i) {ρ : Operand → Value} (hu : (Op.indexAddr t x i).operands.toList.map ρ = us) : Does C.P w B o ρ r := by
  simp only [Op.operands, List.map_cons, List.map_nil] at hu
  simp only [apure] at h
  split at h
  · rename_i k l ik j k' hk
    split at h
    · rename_i hkk
      subst hkk
      simp only [Option.some.injEq, Prod.mk.injEq] at h
      obtain ⟨rfl, rfl⟩ := h
      obtain ⟨u, v, rfl, h1, h2⟩ := SVsRep.two hx
      simp only [List.cons.injEq, and_true] at hu
      obtain ⟨hu1, hu2⟩ := hu
      have e := RepV.int h2
      subst e
      obtain ⟨ad, c, flat, rfl, hle, hr, hn, hc⟩ := RepV.sl h1
      obtain ⟨e, he, hke⟩ := hC.elk _ _ hk
      have d := hC.el _ _ he
      have hj0 : (0 : Int) ≤ j := hp.1
      have hj1 : j < ((List.length l : Nat) : Int) := hp.2.1
      have hjl : j.toNat < List.length l := (Int.toNat_lt hj0).2 hj1
      cases ad with
      | none => have := hn rfl; subst this; simp at hjl
      | some a0 =>
        obtain ⟨hs, hcell, hbb⟩ := hc a0 rfl
        have hsz := fun w => (hC.kd _ _ hke).sizeOf w
        refine ⟨.pointer (some (a0.add (j.toNat * k.n))), by simp [execOp, ho, hu1, hu2, Instr.indexAt, asIntOf, run_underlying d, hj0, hj1, hsz], a0.add (j.toNat * k.n), (flat.drop (j.toNat * k.n)).take k.n, rfl, Addr.add_spot _ _ hs, RowsOf.get hr _ hjl _, (hcell.drop hs _).take _, ?_⟩
        rw [Addr.add_block]
        refine hbb (fun e => ?_)
        have := RowsOf.length hr
        rw [e] at this
        have hpos : 0 < List.length l * k.n := Nat.mul_pos (by omega) k.n_pos
        simp only [List.length_nil] at this
        omega
    · cases h
  · cases h

theorem does_index (hC : CfgOK C) {it : It} {t : TypeId} {x i : Operand} {xs : List SV} {r : SV} {ps : List Prop} (h : apure C it (.index t x i) xs = some (r, ps)) (hp : All ps) {us : List Value} (hx : SVsRep w B xs us)
    {o : Oper} (ho : o.op = .index t x i) {ρ : Operand → Value} (hu : (Op.index t x i).operands.toList.map ρ = us) : Does C.P w B o ρ r := by
  simp only [Op.operands, List.map_cons, List.map_nil] at hu
  simp only [apure] at h
  split at h
  · rename_i s ik j hk
    simp only [Option.some.injEq, Prod.mk.injEq] at h
    obtain ⟨rfl, rfl⟩ := h
    obtain ⟨u, v, rfl, h1, h2⟩ := SVsRep.two hx
    simp only [List.cons.injEq, and_true] at hu
    obtain ⟨hu1, hu2⟩ := hu
    have e := RepV.int h2
    have e' := RepV.str h1
    subst e e'
    have d : C.P.underlying t = some .string := (hC.kd _ _ hk).desc
    have hj0 : (0 : Int) ≤ j := hp.1
    have hj1 : j < (s.size : Int) := hp.2.1
    have hjl : j.toNat < s.size := (Int.toNat_lt hj0).2 hj1
    have hb : s[j.toNat]? = some s[j.toNat] := getElem?_pos s _ hjl
    refine ⟨.int .u8 (bt s j), ?_, RepV.mk_int _ _⟩
    have hbt : bt s j = (s[j.toNat].toNat : Int) := by
      simp only [bt]
      congr 2
      show s.data.getD j.toNat 0 = s.data[j.toNat]
      have : j.toNat < s.data.size := hjl
      simp [Array.getElem?_eq_getElem this]
    simp [execOp, ho, hu1, hu2, Instr.index, asIntOf, run_underlying d, hj0, hb, hbt]
  · cases h

theorem does_len (hC : CfgOK C) {it : It} {args : Array Operand} {ts : Array TypeId} {xs : List SV} {r : SV} {ps : List Prop} (h : apure C it (.call { callee := .builtin .len, args := args, argTypes := ts }) xs = some (r, ps)) {us : List Value} (hx : SVsRep w B xs us)
    {o : Oper} (ho : o.op = .call { callee := .builtin .len, args := args, argTypes := ts }) {ρ : Operand → Value} (hu : (Op.call { callee := .builtin .len, args := args, argTypes := ts }).operands.toList.map ρ = us) : Does C.P w B o ρ r := by
  have hu' : args.toList.map ρ = us := by simpa [Op.operands, Call.operands] using hu
  simp only [apure] at h
  split at h
  · rename_i s ha hk hts
    simp only [Option.some.injEq, Prod.mk.injEq] at h
    obtain ⟨rfl, _⟩ := h
    obtain ⟨u, rfl, h1⟩ := SVsRep.one hx
    have e := RepV.str h1
    subst e
    have d : C.P.underlying (ts.getD 0 0) = some .string := (hC.kd _ _ hk).desc
    obtain ⟨x, hx'⟩ : ∃ x, args = #[x] := by
      obtain ⟨l⟩ := args; match l, ha with | [x], _ => exact ⟨x, rfl⟩
    obtain ⟨t, ht'⟩ : ∃ t, ts = #[t] := by
      obtain ⟨l⟩ := ts; match l, hts with | [t], _ => exact ⟨t, rfl⟩
    subst hx' ht'
    simp at hu' d
    exact ⟨_, by simp [execOp, ho, resolve, invoke, builtin, Builtin.len_, hu', run_underlying d, goInt], RepV.mk_int _ _⟩
  · rename_i k l k0 ha hk hts
    simp only [Option.some.injEq, Prod.mk.injEq] at h
    obtain ⟨rfl, _⟩ := h
    obtain ⟨u, rfl, h1⟩ := SVsRep.one hx
    obtain ⟨ad, c, flat, rfl, hle, hr, hn, hc⟩ := RepV.sl h1
    obtain ⟨e, d⟩ := (hC.kd _ _ hk).desc
    obtain ⟨x, hx'⟩ : ∃ x, args = #[x] := by
      obtain ⟨l⟩ := args; match l, ha with | [x], _ => exact ⟨x, rfl⟩
    obtain ⟨t, ht'⟩ : ∃ t, ts = #[t] := by
      obtain ⟨l⟩ := ts; match l, hts with | [t], _ => exact ⟨t, rfl⟩
    subst hx' ht'
    simp at hu' d
    exact ⟨_, by simp [execOp, ho, resolve, invoke, builtin, Builtin.len_, hu', run_underlying d, goInt], RepV.mk_int _ _⟩
  · rename_i e0 k k0 ha hk hts
    simp only [Option.some.injEq, Prod.mk.injEq] at h
    obtain ⟨rfl, _⟩ := h
    obtain ⟨u, rfl, h1⟩ := SVsRep.one hx
    have e1 : u = .slice none 0 0 := h1
    subst e1
    obtain ⟨e, d⟩ := (hC.kd _ _ hk).desc
    obtain ⟨x, hx'⟩ : ∃ x, args = #[x] := by
      obtain ⟨l⟩ := args; match l, ha with | [x], _ => exact ⟨x, rfl⟩
    obtain ⟨t, ht'⟩ : ∃ t, ts = #[t] := by
      obtain ⟨l⟩ := ts; match l, hts with | [t], _ => exact ⟨t, rfl⟩
    subst hx' ht'
    simp at hu' d
    exact ⟨_, by simp [execOp, ho, resolve, invoke, builtin, Builtin.len_, hu', run_underlying d, goInt], RepV.mk_int _ _⟩
  · cases h

theorem does_max {it : It} {args : Array Operand} {ts : Array TypeId} {xs : List SV} {r : SV} {ps : List Prop} (h : apure C it (.call { callee := .builtin .max, args := args, argTypes := ts }) xs = some (r, ps)) {us : List Value} (hx : SVsRep w B xs us)
    {o : Oper} (ho : o.op = .call { callee := .builtin .max, args := args, argTypes := ts }) {ρ : Operand → Value} (hu : (Op.call { callee := .builtin .max, args := args, argTypes := ts }).operands.toList.map ρ = us) : Does C.P w B o ρ r := by
  have hu' : args.toList.map ρ = us := by simpa [Op.operands, Call.operands] using hu
  simp only [apure] at h
  split at h
  · rename_i x y
    simp only [Option.some.injEq, Prod.mk.injEq] at h
    obtain ⟨rfl, _⟩ := h
    obtain ⟨u1, us1, rfl, h1, h2⟩ := hx
    obtain ⟨u2, us2, rfl, h3, h4⟩ := h2
    have h4' : us2 = [] := h4
    subst h4'
    have e1 := RepV.int h1
    have e2 := RepV.int h3
    subst e1 e2
    obtain ⟨p, q, hpq⟩ : ∃ p q, args = #[p, q] := by
      obtain ⟨l⟩ := args
      have := congrArg List.length hu'
      simp at this
      match l, this with | [p, q], _ => exact ⟨p, q, rfl⟩
    subst hpq
    simp at hu'
    exact ⟨.int .i64 (maxI x y), by simp [execOp, ho, resolve, invoke, builtin, Builtin.max_, Builtin.max2, hu'.1, hu'.2, maxI], RepV.mk_int _ _⟩
  · cases h

/-- ALL OF THEM. -/
theorem apure_sound (hC : CfgOK C) {it : It} {op : Op} {xs : List SV} {r : SV} {ps : List Prop} (h : apure C it op xs = some (r, ps)) (hp : All ps) {us : List Value} (hx : SVsRep w B xs us)
    {o : Oper} (ho : o.op = op) {ρ : Operand → Value} (hu : op.operands.toList.map ρ = us) : Does C.P w B o ρ r := by
  cases op
  case load => exact does_load hC h hx ho hu
  case binOp => exact does_bin hC h hp hx ho hu
  case unOp => exact does_un h hx ho hu
  case convert => exact does_convert hC h hx ho hu
  case slice => exact does_slice hC h hp hx ho hu
  case fieldAddr => exact does_fieldAddr hC h hx ho hu
  case field => exact does_field hC h hx ho hu
  case indexAddr => exact does_indexAddr hC h hp hx ho hu
  case index => exact does_index hC h hp hx ho hu
  case call c =>
    obtain ⟨cal, args, ts⟩ := c
    cases cal
    case builtin b => cases b <;> first | exact does_len hC h hx ho hu | exact does_max h hx ho hu | (exfalso; simp [apure] at h; done)
    all_goals (exfalso; simp [apure] at h; done)
  all_goals (exfalso; simp [apure] at h; done)

end Go.AI
