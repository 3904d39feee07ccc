/- A part of the road: what it proves stands in its last texts. -/
import Derived.Test.YtndnckjnnfnnnaaDoorAiB
import Derived.Laws.OwnMore
section
/- One operation of the evaluator, one of the model: what is simple. -/
set_option autoImplicit false
set_option linter.unusedVariables false
set_option linter.unusedSimpArgs false
namespace Go.AI

variable {C : Cfg} {X : Ctx} {sl : List (Option AV)} {ob ob' : Obs} {a : Act} {w w' : World} {γ γ' : Nat → Value} {B B' : Nat → Prop}

/-- The operation leads from the state to the next one. -/
def Goes (C : Cfg) (X : Ctx) (sl : List (Option AV)) (o : Oper) (a : Act) (w : World) (v : Option AV) (ob' : Obs) : Prop :=
  ∀ Q', o.wp C.P a w (fun a' w' => Inv X (St.put ⟨sl, ob'⟩ o.dst v) a' w') Q'

theorem Goes.value {o : Oper} {v : Option AV} {u : Value} (hr : (execOp a.eval o).run C.P w = .ok (.value u) w') (h : InvG X ⟨sl, ob'⟩ a w' γ') (hv : ∀ x, v = some x → SlA w' (Bs X ob' γ') ob' γ' x u) :
    Goes C X sl o a w v ob' := fun Q' => by
  unfold Oper.wp
  rw [hr]
  exact ⟨γ', h.put hv⟩

theorem Goes.skip {o : Oper} (hr : (execOp a.eval o).run C.P w = .ok .skip w') (h : InvG X ⟨sl, ob'⟩ a w' γ') : Goes C X sl o a w none ob' := fun Q' => by
  unfold Oper.wp
  rw [hr]
  exact ⟨γ', h.put (v := none) (fun x hx => by cases hx)⟩

/-! ### Operands -/

theorem constSV_rep {ty : TypeId} {v : Value} {x : SV} (h : constSV C ty v = some x) : SlS w B ob γ x v := by
  unfold constSV at h
  split at h
  · cases h; exact RepV.mk_int _ _
  · cases h; exact RepV.mk_bool _
  · cases h; exact RepV.mk_str _
  · cases h; exact RepV.mk_tree rfl
  · split at h
    · cases h; rfl
    · cases h
  · cases h

theorem ev_rep (h : InvG X ⟨sl, ob⟩ a w γ) {ty : TypeId} {x : Operand} {v : AV} (hv : ev C sl ty x = some v) : SlA w (Bs X ob γ) ob γ v (a.eval x) := by
  cases x <;> simp only [ev, reduceCtorEq, Option.some.injEq] at hv
  · exact h.sl _ _ hv
  · rename_i c
    cases hc : constSV C ty c with
    | none => rw [hc] at hv; cases hv
    | some y => rw [hc] at hv; cases hv; exact constSV_rep hc
  · subst hv
    exact ⟨[], [], rfl, rfl, rfl⟩

theorem evS_rep (h : InvG X ⟨sl, ob⟩ a w γ) {ty : TypeId} {x : Operand} {v : SV} (hv : evS (ev C sl) ty x = some v) : SlS w (Bs X ob γ) ob γ v (a.eval x) := by
  unfold evS at hv
  split at hv
  · rename_i y hy
    cases hv
    exact ev_rep h hy
  · cases hv

theorem evSs_rep (h : InvG X ⟨sl, ob⟩ a w γ) : ∀ {xs : List Operand} {vs : List SV}, evSs (ev C sl) xs = some vs → SlL w (Bs X ob γ) ob γ vs (xs.map a.eval)
  | [], _, e => by cases e; rfl
  | x :: xs, _, e => by
    simp only [evSs] at e
    split at e
    · rename_i y ys hy hys
      cases e
      exact ⟨_, _, rfl, evS_rep h hy, evSs_rep h hys⟩
    · cases e

theorem SlL.noAlias (h : InvG X ⟨sl, ob⟩ a w γ) : ∀ {xs : List SV} {us : List Value}, SlL w B ob γ xs us → xs.any isAlias = false → SVsRep w B xs us
  | [], _, e, _ => e
  | x :: xs, _, ⟨u, us, e, h1, h2⟩, hn => by
    simp only [List.any_cons, Bool.or_eq_false_iff] at hn
    exact ⟨u, us, e, h.noAlias h1 hn.1, SlL.noAlias h h2 hn.2⟩

/-- A plain value in a slot. -/
theorem SVRep.slot {x : SV} {u : Value} (h : SVRep w B x u) : SlS w B ob γ x u := by
  cases x <;> simp only [SVRep] at h <;> exact h

/-! ### What goes into memory -/

theorem InvG.esc (h : InvG X ⟨sl, ob⟩ a w γ) {x y : SV} {u : Value} (hx : SlS w (Bs X ob γ) ob γ x u) (he : esc ob x = some (y, ob')) :
    ObLe ob ob' ∧ InvG X ⟨sl, ob'⟩ a w γ ∧ SVRep w (Bs X ob' γ) y u := by
  unfold Go.AI.esc at he
  split at he
  · rename_i z hz
    simp only [Option.some.injEq, Prod.mk.injEq] at he
    obtain ⟨rfl, rfl⟩ := he
    have hle := frz_le ob x
    refine ⟨hle, h.raise hle, h.plain hx hz (fun b hb => Bs.le hle hb) fun i o hi ho b hb => ⟨?_, fun j p hj hpz hbj => ?_⟩⟩
    · rcases h.fresh i o b ho hb with h1 | h1
      · exact .inr (.inl h1)
      · exact .inr (.inr h1)
    · by_cases e : j = i
      · subst e
        have hlt := obj_lt ho
        cases x <;> simp [svHas] at hi <;> simp only [Go.AI.plain, reduceCtorEq] at hz
        · rename_i i' f
          subst hi
          cases f <;> simp only [reduceCtorEq] at hz
          split at hz
          · rename_i k x z ho'
            simp only [frz, ho', obj_setOb _ _ _ _ hlt, if_true, Option.some.injEq] at hj
            subst hj
            simp [Ob.frz] at hpz
          · cases hz
        · subst hi
          split at hz
          · rename_i ho'
            simp only [frz, ho', obj_setOb _ _ _ _ hlt, if_true, Option.some.injEq] at hj
            subst hj
            simp [Ob.frz] at hpz
          · cases hz
      · obtain ⟨p', hp', _⟩ := hle.bwd j p hj
        exact h.dj i j o p' b ho hp' (Ne.symm e) hb hbj
  · cases he

theorem InvG.escK (h : InvG X ⟨sl, ob⟩ a w γ) {x : SV} {k : Kd} {z : k.ty} {u : Value} (hx : SlS w (Bs X ob γ) ob γ x u) (he : escK ob k x = some (z, ob')) :
    ObLe ob ob' ∧ InvG X ⟨sl, ob'⟩ a w γ ∧ RepV w (Bs X ob' γ) k z u := by
  unfold Go.AI.escK at he
  split at he
  · rename_i q y ob1 hy
    split at he
    · rename_i hq
      subst hq
      simp only [castK_rfl, Option.some.injEq, Prod.mk.injEq] at he
      obtain ⟨rfl, rfl⟩ := he
      exact h.esc hx hy
    · cases he
  · cases he

theorem SlS.raise (hle : ObLe ob ob') {x : SV} {u : Value} (h : SlS w (Bs X ob γ) ob γ x u) : SlS w (Bs X ob' γ) ob' γ x u :=
  SlS.keep (Keeps.of_sub fun b hb => Bs.le hle hb) hle.bwd hle.fwd h

/-! ### The world grows -/

theorem InvG.grow (h : InvG X ⟨sl, ob⟩ a w γ) (hg : w.grownBy w' none) : InvG X ⟨sl, ob⟩ a w' γ ∧ Keeps w w' (Bs X ob γ) (Bs X ob γ) := by
  have K : Keeps w w' (Bs X ob γ) (Bs X ob γ) := ⟨fun b hb hl => ⟨hb, hg.block b hl (by simp)⟩⟩
  exact ⟨⟨h.fr.grown hg (by simp), h.df, h.sz, fun i o hi => (h.ob i o hi).keep K fun b hb => hg.block b ((h.ob i o hi).lt hb) (by simp), h.dj, h.fresh, h.pm,
    fun t v ht => SlA.imp K (fun x u hx => SlS.keep K (fun i o hi => ⟨o, hi, o.le_refl⟩) (fun i o hi => ⟨o, hi, o.le_refl⟩) hx) (h.sl t v ht)⟩, K⟩

theorem InvG.newBlock (h : InvG X ⟨sl, ob⟩ a w γ) : Bs X ob γ w.heap.size :=
  ⟨.inr (.inl h.fr.size), fun i o hi _ hb => by have := (h.ob i o hi).lt hb; omega⟩

theorem run_newVar {P : Program} (t : TypeId) (v : Value) : (newVar t v).run P w = .ok ⟨w.heap.size, 0, none⟩ (w.alloc (.cells v.cells t)) := rfl

theorem cells_alloc (t : TypeId) (cs : Array Value) : CellsAt (w.alloc (.cells cs t)) ⟨w.heap.size, 0, none⟩ cs.toList := fun j u hj => by
  have hadd : (⟨w.heap.size, 0, none⟩ : Addr).add j = ⟨w.heap.size, j, none⟩ := by unfold Addr.add; split <;> simp_all
  rw [hadd]
  simp only [World.cell?, heap_alloc_new]
  simpa using hj

/-- A new node of a tree. -/
theorem InvG.node (h : InvG X ⟨sl, ob⟩ a w γ) {p : Tr × Tr} {v : Value} (hr : RepV w (Bs X ob γ) (.pr .tree .tree) p v) (t : TypeId) :
    InvG X ⟨sl, ob⟩ a (w.alloc (.cells v.cells t)) γ ∧ SlA (w.alloc (.cells v.cells t)) (Bs X ob γ) ob γ (.s (.v .tree (.node p.1 p.2))) (.pointer (some ⟨w.heap.size, 0, none⟩)) := by
  obtain ⟨h', K⟩ := h.grow (World.grownBy_alloc w (.cells v.cells t) none)
  refine ⟨h', RepV.mk_tree ?_⟩
  have hr' := hr.cells.keep K
  obtain ⟨c1, c2, e, ⟨v1, rfl, h1⟩, v2, rfl, h2⟩ := hr'
  have hc := cells_alloc (w := w) t v.cells
  rw [e] at hc
  exact ⟨w.heap.size, 0, v1, v2, rfl, h.newBlock, by simpa [Addr.add] using hc 0 v1 rfl, by simpa [Addr.add] using hc 1 v2 rfl, h1, h2⟩

/-- A new box. -/
theorem InvG.box (h : InvG X ⟨sl, ob⟩ a w γ) {k : Kd} {x : k.ty} {v : Value} (hr : RepV w (Bs X ob γ) k x v) (t : TypeId) {d : Nat} {y : SV} {v' : Option AV} {ps : List Prop}
    (hn : newOb ob d (.box k x false) (.adr d none) = some (v', ob', ps)) :
    ∃ γ', InvG X ⟨sl, ob'⟩ a (w.alloc (.cells v.cells t)) γ' ∧ ∀ z, v' = some z → SlA (w.alloc (.cells v.cells t)) (Bs X ob' γ') ob' γ' z (.pointer (some ⟨w.heap.size, 0, none⟩)) := by
  unfold newOb at hn
  split at hn
  · rename_i hd
    split at hn
    · rename_i hlt
      simp only [Option.some.injEq, Prod.mk.injEq] at hn
      obtain ⟨rfl, rfl, _⟩ := hn
      obtain ⟨h1, K, S⟩ := h.new hd hlt (o := .box k x false) (v := .pointer (some ⟨w.heap.size, 0, none⟩)) (World.grownBy_alloc w (.cells v.cells t) none) (fun b hb => by simp [blk] at hb; omega)
        (fun B' K' => ⟨w.heap.size, v.cells.toList, t, rfl, by rw [Array.toArray_toList]; exact heap_alloc_new w _, hr.cells.keep K'⟩)
      refine ⟨_, h1, fun z hz => ?_⟩
      cases hz
      exact ⟨⟨k, x, false, by rw [obj_setOb _ _ _ _ hlt, if_pos rfl]⟩, w.heap.size, upd_same _ _ _, rfl⟩
    · cases hn
  · cases hn

end Go.AI
end

section
/- One operation of the evaluator, one of the model: moves, boxes, loads, stores. -/
set_option autoImplicit false
set_option linter.unusedVariables false
set_option linter.unusedSimpArgs false
namespace Go.AI

variable {C : Cfg} {X : Ctx} {sl : List (Option AV)} {ob ob' : Obs} {a : Act} {w w' : World} {γ γ' : Nat → Value} {B B' : Nat → Prop} {o : Oper} {v : Option AV} {ps : List Prop}

theorem moveStep_goes (h : InvG X ⟨sl, ob⟩ a w γ) {ty : TypeId} {x : Operand} (hm : moveStep (ev C sl) ob ty x = some (v, ob', ps)) (hr : (execOp a.eval o).run C.P w = .ok (.value (a.eval x)) w) :
    Goes C X sl o a w v ob' := by
  unfold moveStep at hm
  simp only [Option.some.injEq, Prod.mk.injEq] at hm
  obtain ⟨hy, rfl, _⟩ := hm
  exact Goes.value hr h fun z hz => ev_rep h (hy.trans hz)

theorem goes_pick (h : InvG X ⟨sl, ob⟩ a w γ) {c x y : Operand} (ho : o.op = .pick c x y) (he : (match evS (ev C sl) 0 c with
    | some (.v .bool true) => moveStep (ev C sl) ob o.type x
    | some (.v .bool false) => moveStep (ev C sl) ob o.type y
    | _ => none) = some (v, ob', ps)) : Goes C X sl o a w v ob' := by
  split at he
  · rename_i hc
    have e := RepV.bool (evS_rep h hc)
    exact moveStep_goes h he (by simp [execOp, ho, e, asBool])
  · rename_i hc
    have e := RepV.bool (evS_rep h hc)
    exact moveStep_goes h he (by simp [execOp, ho, e, asBool])
  · cases he

theorem goes_alloc (hC : CfgOK C) (h : InvG X ⟨sl, ob⟩ a w γ) {t : TypeId} (ho : o.op = .alloc t) (he : (match C.kd t, o.dst with
    | some k, some d => if t = C.tn then some (some (.s (.v .tree (.node .leaf .leaf))), ob, []) else newOb ob d (.box k k.z false) (.adr d none)
    | _, _ => none) = some (v, ob', ps)) : Goes C X sl o a w v ob' := by
  split at he
  · rename_i k d hk hd
    obtain ⟨z, hz, hzr⟩ := (hC.kd _ _ hk).zero w
    have hrun : (execOp a.eval o).run C.P w = .ok (.value (.pointer (some ⟨w.heap.size, 0, none⟩))) (w.alloc (.cells z.cells t)) := by
      simp [execOp, ho, Instr.alloc, hz, run_newVar]
    split at he
    · rename_i ht
      subst ht
      rw [hC.tn] at hk
      cases hk
      simp only [Option.some.injEq, Prod.mk.injEq] at he
      obtain ⟨rfl, rfl, _⟩ := he
      obtain ⟨h1, h2⟩ := h.node (p := (.leaf, .leaf)) (hzr w (Bs X ob γ)) C.tn
      exact Goes.value hrun h1 fun z hz => by cases hz; exact h2
    · obtain ⟨γ', h1, h2⟩ := h.box (y := .adr d none) (hzr w (Bs X ob γ)) t he
      exact Goes.value hrun h1 h2
  · cases he

theorem goes_box (hC : CfgOK C) (h : InvG X ⟨sl, ob⟩ a w γ) {t : TypeId} {x : Operand} (ho : o.op = .box t x) (he : (match C.kd t, o.dst, evS (ev C sl) t x with
    | some k, some d, some y =>
      if t = C.tn then match y with
        | .v (.pr .tree .tree) p => some (some (.s (.v .tree (.node p.1 p.2))), ob, [])
        | _ => none
      else match escK ob k y with
        | some (z, ob') => newOb ob' d (.box k z false) (.adr d none)
        | none => none
    | _, _, _ => none) = some (v, ob', ps)) : Goes C X sl o a w v ob' := by
  split at he
  · rename_i k d y hk hd hy
    have hx := evS_rep h hy
    have hrun : (execOp a.eval o).run C.P w = .ok (.value (.pointer (some ⟨w.heap.size, 0, none⟩))) (w.alloc (.cells (a.eval x).cells t)) := by
      simp [execOp, ho, Instr.box, run_newVar]
    split at he
    · split at he
      · rename_i p
        simp only [Option.some.injEq, Prod.mk.injEq] at he
        obtain ⟨rfl, rfl, _⟩ := he
        obtain ⟨h1, h2⟩ := h.node (p := p) hx t
        exact Goes.value hrun h1 fun z hz => by cases hz; exact h2
      · cases he
    · split at he
      · rename_i z ob1 hz
        obtain ⟨hle, h1, hr⟩ := h.escK hx hz
        obtain ⟨γ', h2, h3⟩ := h1.box (y := .adr d none) hr t he
        exact Goes.value hrun h2 h3
      · cases he
  · cases he

theorem goes_nilCheck (h : InvG X ⟨sl, ob⟩ a w γ) {x : Operand} (ho : o.op = .nilCheck x) (he : (match evS (ev C sl) 0 x with
    | some (.v .tree (.node l r)) => some (some (.s (.v .tree (.node l r))), ob, [])
    | some (.fadr k y) => some (some (.s (.fadr k y)), ob, [])
    | some (.adr i f) => some (some (.s (.adr i f)), ob, [])
    | _ => none) = some (v, ob', ps)) : Goes C X sl o a w v ob' := by
  split at he
  · rename_i l r hx
    have hr := evS_rep h hx
    simp only [Option.some.injEq, Prod.mk.injEq] at he
    obtain ⟨rfl, rfl, _⟩ := he
    obtain ⟨b, o', vl, vr, e, _⟩ := RepV.tree hr
    exact Goes.value (u := a.eval x) (by simp [execOp, ho, e]) h fun z hz => by cases hz; exact hr
  · rename_i k y hx
    have hr := evS_rep h hx
    simp only [Option.some.injEq, Prod.mk.injEq] at he
    obtain ⟨rfl, rfl, _⟩ := he
    obtain ⟨ad, cs, e, _⟩ := hr
    exact Goes.value (u := a.eval x) (by simp [execOp, ho, e]) h fun z hz => by cases hz; exact evS_rep h hx
  · rename_i i f hx
    have hr := evS_rep h hx
    simp only [Option.some.injEq, Prod.mk.injEq] at he
    obtain ⟨rfl, rfl, _⟩ := he
    obtain ⟨_, b, _, e⟩ := hr
    exact Goes.value (u := a.eval x) (by simp [execOp, ho, e]) h fun z hz => by cases hz; exact evS_rep h hx
  · cases he

theorem SlL.get : ∀ {xs : List SV} {us : List Value} {i : Nat} {x : SV}, SlL w B ob γ xs us → xs[i]? = some x → ∃ u, us[i]? = some u ∧ SlS w B ob γ x u
  | [], _, i, x, _, hx => by simp at hx
  | y :: ys, _, 0, x, ⟨u, us, e, h1, h2⟩, hx => by
    simp at hx; subst hx; exact ⟨u, by rw [e]; rfl, h1⟩
  | y :: ys, _, i + 1, x, ⟨u, us, e, h1, h2⟩, hx => by
    obtain ⟨v, hv, hr⟩ := SlL.get h2 (show ys[i]? = some x by simpa using hx)
    exact ⟨v, by rw [e]; simpa using hv, hr⟩

theorem goes_extract (h : InvG X ⟨sl, ob⟩ a w γ) {x : Operand} {i : Nat} (ho : o.op = .extract x i) (he : (match ev C sl 0 x with
    | some (.tup l) => match l[i]? with
      | some v => some (some (.s v), ob, [])
      | none => none
    | _ => none) = some (v, ob', ps)) : Goes C X sl o a w v ob' := by
  split at he
  · rename_i l hx
    split at he
    · rename_i y hy
      simp only [Option.some.injEq, Prod.mk.injEq] at he
      obtain ⟨rfl, rfl, _⟩ := he
      obtain ⟨vs, e, hl⟩ := ev_rep h hx
      obtain ⟨u, hu, hr⟩ := hl.get hy
      exact Goes.value (u := u) (by simp [execOp, ho, e, Instr.extract, hu]) h fun z hz => by cases hz; exact hr
    · cases he
  · cases he

/-! ### What reads objects -/

theorem goes_load_alias (hC : CfgOK C) (h : InvG X ⟨sl, ob⟩ a w γ) {it : It} {t : TypeId} {x : Operand} (ho : o.op = .load t x) {xs : List SV} (hxs : SlL w (Bs X ob γ) ob γ xs [a.eval x])
    (he : aliasStep C it (.load t x) xs ob = some (v, ob', ps)) (hp : All ps) : Goes C X sl o a w v ob' := by
  simp only [aliasStep] at he
  split at he
  · rename_i i
    obtain ⟨u, us, e0, hx, _⟩ := hxs
    obtain ⟨rfl, _⟩ := List.cons.inj e0
    split at he
    · rename_i k y z hob
      split at he
      · rename_i hk
        simp only [Option.some.injEq, Prod.mk.injEq] at he
        obtain ⟨rfl, rfl, _⟩ := he
        obtain ⟨_, b, hb, e⟩ := hx
        obtain ⟨b', cs, t', e', hh, hr⟩ := h.ob _ _ hob
        rw [hb] at e'
        cases e'
        have hc : CellsAt w ⟨b, 0, none⟩ cs := fun j u hj => by
          have hadd : (⟨b, 0, none⟩ : Addr).add j = ⟨b, j, none⟩ := by unfold Addr.add; split <;> simp_all
          rw [hadd]; simp only [World.cell?, hh]; simpa using hj
        exact Goes.value (u := mkV k cs) (by simp [execOp, ho, e, Instr.loadAt, Instr.sureAddr, (hC.kd _ _ hk).loadVar hr hc]) h fun z hz => by cases hz; exact ⟨cs, hr, rfl⟩
      · cases he
    · cases he
  · rename_i i f
    obtain ⟨u, us, e0, hx, _⟩ := hxs
    obtain ⟨rfl, _⟩ := List.cons.inj e0
    split at he
    · rename_i k y z hob
      split at he
      · rename_i q y' hs
        split at he
        · rename_i hk
          simp only [Option.some.injEq, Prod.mk.injEq] at he
          obtain ⟨rfl, rfl, _⟩ := he
          obtain ⟨hk, ht⟩ := hk
          obtain ⟨_, b, hb, e⟩ := hx
          obtain ⟨b', cs, t', e', hh, hr⟩ := h.ob _ _ hob
          rw [hb] at e'
          cases e'
          obtain ⟨c, hc0, hrc⟩ := RepK.sel ht hr hs
          have hc : CellsAt w ⟨b, f, none⟩ [c] := fun j u hj => by
            match j, hj with
            | 0, hj => simp at hj; subst hj; simp [Addr.add, World.cell?, hh, hc0]
          have e1 : a.eval x = .pointer (some ⟨b, f, none⟩) := e
          exact Goes.value (u := mkV q [c]) (by simp [execOp, ho, e1, Instr.loadAt, Instr.sureAddr, (hC.kd _ _ hk).loadVar hrc hc]) h fun z hz => by cases hz; exact ⟨[c], hrc, rfl⟩
        · cases he
      · cases he
    · cases he
  · rename_i i ver j
    obtain ⟨u, us, e0, hx, _⟩ := hxs
    obtain ⟨rfl, _⟩ := List.cons.inj e0
    split at he
    · rename_i e k l ver' z hob
      split at he
      · rename_i hk
        simp only [Option.some.injEq, Prod.mk.injEq] at he
        obtain ⟨rfl, rfl, rfl⟩ := he
        obtain ⟨rfl, hk⟩ := hk
        obtain ⟨b, n, c, hg, e⟩ := hx.2 _ _ _ _ hob
        obtain ⟨flat, hown, hr⟩ := h.ob _ _ hob
        have hj : j < l.length := hp.1
        rcases hown.2 with ⟨hn, _⟩ | ⟨g, cap, cur, hv, _, hh, hnc, _, hcs, htake⟩
        · rw [hg] at hn; cases hn
        rw [hg] at hv
        cases hv
        have hfl := RowsOf.length hr
        have hle : (j + 1) * k.n ≤ flat.length := by rw [hfl]; exact Nat.mul_le_mul_right _ hj
        have hc : CellsAt w ⟨b, j * k.n, none⟩ ((flat.drop (j * k.n)).take k.n) := fun i u hi => by
          have hadd : (⟨b, j * k.n, none⟩ : Addr).add i = ⟨b, j * k.n + i, none⟩ := by unfold Addr.add; split <;> simp_all
          rw [hadd]
          simp only [World.cell?, hh]
          rw [List.getElem?_take] at hi
          split at hi
          · rw [List.getElem?_drop, ← htake, List.getElem?_take] at hi
            split at hi
            · simpa using hi
            · cases hi
          · cases hi
        have e1 : a.eval x = .pointer (some ⟨b, j * k.n, none⟩) := by simpa using e
        exact Goes.value (u := mkV k ((flat.drop (j * k.n)).take k.n)) (by simp [execOp, ho, e1, Instr.loadAt, Instr.sureAddr, (hC.kd _ _ hk).loadVar (RowsOf.get hr j hj k.z) hc]) h fun z hz => by cases hz; exact ⟨_, RowsOf.get hr j hj k.z, rfl⟩
      · cases he
    · cases he
  · rename_i i ver j f
    obtain ⟨u, us, e0, hx, _⟩ := hxs
    obtain ⟨rfl, _⟩ := List.cons.inj e0
    split at he
    · rename_i e k l ver' z hob
      split at he
      · rename_i q y hs
        split at he
        · rename_i hk
          simp only [Option.some.injEq, Prod.mk.injEq] at he
          obtain ⟨rfl, rfl, rfl⟩ := he
          obtain ⟨rfl, hk, ht⟩ := hk
          obtain ⟨b, n, c, hg, e⟩ := hx.2 _ _ _ _ hob
          obtain ⟨flat, hown, hr⟩ := h.ob _ _ hob
          have hj : j < l.length := hp.1
          rcases hown.2 with ⟨hn, _⟩ | ⟨g, cap, cur, hv, _, hh, hnc, _, hcs, htake⟩
          · rw [hg] at hn; cases hn
          rw [hg] at hv
          cases hv
          have hfl := RowsOf.length hr
          have hle : (j + 1) * k.n ≤ flat.length := by rw [hfl]; exact Nat.mul_le_mul_right _ hj
          obtain ⟨c0, hc0, hrc⟩ := RepK.sel ht (RowsOf.get hr j hj k.z) hs
          have hcf : w.cell? ⟨b, j * k.n + f, none⟩ = some c0 := by
            have hi := hc0
            simp only [World.cell?, hh]
            rw [List.getElem?_take] at hi
            split at hi
            · rw [List.getElem?_drop, ← htake, List.getElem?_take] at hi
              split at hi
              · simpa using hi
              · cases hi
            · cases hi
          have hc : CellsAt w ⟨b, j * k.n + f, none⟩ [c0] := fun i u hi => by
            match i, hi with
            | 0, hi => simp at hi; subst hi; rw [show (⟨b, j * k.n + f, none⟩ : Addr).add 0 = ⟨b, j * k.n + f, none⟩ by unfold Addr.add; split <;> simp_all]; exact hcf
          have e1 : a.eval x = .pointer (some ⟨b, j * k.n + f, none⟩) := by simpa using e
          exact Goes.value (u := mkV q [c0]) (by simp [execOp, ho, e1, Instr.loadAt, Instr.sureAddr, (hC.kd _ _ hk).loadVar hrc hc]) h fun z hz => by cases hz; exact ⟨[c0], hrc, rfl⟩
        · cases he
      · cases he
    · cases he
  · cases he

theorem goes_fieldAddr_alias (hC : CfgOK C) (h : InvG X ⟨sl, ob⟩ a w γ) {it : It} {s : TypeId} {x : Operand} {f : Nat} (ho : o.op = .fieldAddr s x f) {xs : List SV} (hxs : SlL w (Bs X ob γ) ob γ xs [a.eval x])
    (he : aliasStep C it (.fieldAddr s x f) xs ob = some (v, ob', ps)) : Goes C X sl o a w v ob' := by
  simp only [aliasStep] at he
  split at he
  · rename_i i ver j
    obtain ⟨u, us, e0, hx, _⟩ := hxs
    obtain ⟨rfl, _⟩ := List.cons.inj e0
    split at he
    · rename_i e k l ver' z hob
      split at he
      · rename_i q hs
        obtain ⟨q, y'⟩ := q
        split at he
        · rename_i hk
          simp only [Option.some.injEq, Prod.mk.injEq] at he
          obtain ⟨rfl, rfl, _⟩ := he
          obtain ⟨rfl, hk, hp, ht⟩ := hk
          obtain ⟨h1, h2⟩ := hx
          obtain ⟨b, n, c, hg, e⟩ := h2 _ _ _ _ hob
          obtain ⟨hf, _⟩ := Kd.sel_n ht hs
          obtain ⟨fs, fd, hu, hfd, hoff, hsz, _⟩ := (hC.kd _ _ hk).field hp ht hf
          have e1 : a.eval x = .pointer (some ⟨b, j * k.n, none⟩) := by simpa using e
          have hadd : (⟨b, j * k.n, none⟩ : Addr).add f = ⟨b, j * k.n + f, none⟩ := by unfold Addr.add; split <;> simp_all
          exact Goes.value (u := .pointer (some ⟨b, j * k.n + f, none⟩)) (by simp [execOp, ho, e1, Instr.fieldAt, run_underlying hu, hfd, Instr.sureAddr, fieldPlace, hsz, hoff, hadd]) h fun z hz => by
            cases hz
            refine ⟨h1, fun e' k' l' z' hob' => ?_⟩
            rw [hob] at hob'
            cases hob'
            exact ⟨b, n, c, hg, rfl⟩
        · cases he
      · cases he
    · cases he
  · rename_i i
    obtain ⟨u, us, e0, hx, _⟩ := hxs
    obtain ⟨rfl, _⟩ := List.cons.inj e0
    split at he
    · rename_i k y z hob
      split at he
      · rename_i q hs
        obtain ⟨q, y'⟩ := q
        split at he
        · rename_i hk
          simp only [Option.some.injEq, Prod.mk.injEq] at he
          obtain ⟨rfl, rfl, _⟩ := he
          obtain ⟨hk, hp, ht⟩ := hk
          obtain ⟨h1, b, hb, e⟩ := hx
          obtain ⟨hf, _⟩ := Kd.sel_n ht hs
          obtain ⟨fs, fd, hu, hfd, hoff, hsz, _⟩ := (hC.kd _ _ hk).field hp ht hf
          have e1 : a.eval x = .pointer (some ⟨b, 0, none⟩) := e
          have hadd : (⟨b, 0, none⟩ : Addr).add f = ⟨b, f, none⟩ := by unfold Addr.add; split <;> simp_all
          exact Goes.value (u := .pointer (some ⟨b, f, none⟩)) (by simp [execOp, ho, e1, Instr.fieldAt, run_underlying hu, hfd, Instr.sureAddr, fieldPlace, hsz, hoff, hadd]) h fun z hz => by
            cases hz; exact ⟨h1, b, hb, rfl⟩
        · cases he
      · cases he
    · cases he
  · cases he

end Go.AI
end

section
/- One operation of the evaluator, one of the model: stores. -/
set_option autoImplicit false
set_option linter.unusedVariables false
set_option linter.unusedSimpArgs false
namespace Go.AI

variable {C : Cfg} {X : Ctx} {sl : List (Option AV)} {ob ob' : Obs} {a : Act} {w w' : World} {γ γ' : Nat → Value} {B B' : Nat → Prop} {o : Oper} {v : Option AV} {ps : List Prop}

theorem grownBy_setRow (w : World) (g : Nat) (cs : Array Value) : w.grownBy (w.setRow g cs) (some g) :=
  ⟨rfl, rfl, rfl, by simp [World.setRow], fun k _ hk => setRow_other w g k _ (fun e => hk (by rw [e]))⟩

theorem run_storeVar {P : Program} {t : TypeId} {k : Kd} (hk : KdOK P t k) {z : k.ty} {u : Value} (hr : RepV w B k z u) {b off : Nat} {cur : Array Value} {e : TypeId} (hh : w.heap[b]? = some (.cells cur e (0, 0))) (hle : off + k.n ≤ cur.size) :
    (storeVar t ⟨b, off, none⟩ u).run P w = .ok () (w.setRow b (cur.toList.take off ++ u.cells.toList ++ cur.toList.drop (off + k.n)).toArray) := by
  have hs := hr.size
  have hst := run_storeCells_at P b off e u.cells.toList 0 cur w hh (by simp [hs]; omega) (hr.cells.one)
  simp only [Nat.add_zero] at hst
  have hs' : u.cells.toList.length = k.n := by simpa using hs
  simp only [storeVar, Sem.run_bind, hk.sizeOf, Result.andThen_ok, hs, ne_eq, not_true_eq_false, if_false, Sem.run_pure, hst, hs']

theorem Kd.upd_rep : ∀ {k : Kd} {x x' : k.ty} {cs : List Value} {f : Nat} {q : Kd} {z : q.ty}, k.thin = true → RepK w B k x cs → k.upd x f q z = some x' →
    isPr q = false ∧ f < k.n ∧ ∀ c, RepK w B q z [c] → RepK w B k x' (cs.set f c)
  | .pr p q', x, x', cs, 0, q, z, ht, ⟨c1, c2, e, h1, h2⟩, h => by
    simp only [Kd.thin, Bool.and_eq_true, beq_iff_eq] at ht
    simp only [Kd.upd] at h
    split at h
    · rename_i hq
      subst hq
      simp only [castK_rfl, Option.some.injEq] at h
      subst h
      refine ⟨?_, by simp only [Kd.n]; have := q.n_pos; omega, fun c hc => ?_⟩
      · cases q with
        | pr a b => exfalso; have := a.n_pos; have := b.n_pos; have h1 := ht.1; simp only [Kd.n] at h1; omega
        | arr m e => exfalso; have := e.n_pos; have h1 := ht.1; simp only [Kd.n] at h1; have := Nat.mul_le_mul (show 2 ≤ m + 2 by omega) this; omega
        | _ => rfl
      · match c1, h1.length.trans ht.1 with
        | [c0], _ => exact ⟨[c], c2, by rw [e]; rfl, hc, h2⟩
    · cases h
  | .pr p q', x, x', cs, f + 1, q, z, ht, ⟨c1, c2, e, h1, h2⟩, h => by
    simp only [Kd.thin, Bool.and_eq_true, beq_iff_eq] at ht
    simp only [Kd.upd] at h
    split at h
    · rename_i y hy
      simp only [Option.some.injEq] at h
      subst h
      obtain ⟨i1, i2, i3⟩ := Kd.upd_rep ht.2 h2 hy
      refine ⟨i1, by simp only [Kd.n]; omega, fun c hc => ?_⟩
      match c1, h1.length.trans ht.1 with
      | [c0], _ => exact ⟨[c0], c2.set f c, by rw [e]; rfl, h1, i3 c hc⟩
    · cases h
  | .int _, x, x', cs, 0, q, z, _, hr, h | .bool, x, x', cs, 0, q, z, _, hr, h | .str, x, x', cs, 0, q, z, _, hr, h | .tree, x, x', cs, 0, q, z, _, hr, h | .sl _, x, x', cs, 0, q, z, _, hr, h => by
    simp only [Kd.upd] at h
    split at h
    · rename_i hq
      subst hq
      simp only [castK_rfl, Option.some.injEq] at h
      subst h
      refine ⟨rfl, by simp [Kd.n], fun c hc => ?_⟩
      match cs, hr.length with
      | [c0], _ => exact hc
    · cases h
  | .int _, x, x', cs, f + 1, q, z, _, _, h | .bool, x, x', cs, f + 1, q, z, _, _, h | .str, x, x', cs, f + 1, q, z, _, _, h | .tree, x, x', cs, f + 1, q, z, _, _, h | .sl _, x, x', cs, f + 1, q, z, _, _, h => by
    simp [Kd.upd] at h

theorem RowsOf.set {k : Kd} : ∀ {l : List k.ty} {flat : List Value} {i : Nat} {z : k.ty} {cz : List Value}, RowsOf (RepK w B k) l flat → i < l.length → RepK w B k z cz →
    RowsOf (RepK w B k) (l.set i z) (flat.take (i * k.n) ++ cz ++ flat.drop (i * k.n + k.n))
  | [], _, i, _, _, _, hi, _ => by simp at hi
  | x :: l, flat, 0, z, cz, ⟨c1, c2, e, h1, h2⟩, _, hz => by
    refine ⟨cz, c2, ?_, hz, h2⟩
    rw [e]
    simp [← h1.length]
  | x :: l, flat, i + 1, z, cz, ⟨c1, c2, e, h1, h2⟩, hi, hz => by
    have ih := RowsOf.set h2 (show i < l.length by simpa using hi) hz
    refine ⟨c1, _, ?_, h1, ih⟩
    have hl := h1.length
    rw [e]
    have e1 : (i + 1) * k.n = c1.length + i * k.n := by rw [Nat.add_mul, hl]; omega
    rw [e1, List.take_length_add_append, Nat.add_assoc, List.drop_length_add_append]
    simp [List.append_assoc]

theorem goes_store (hC : CfgOK C) (h : InvG X ⟨sl, ob⟩ a w γ) {t : TypeId} {x y : Operand} (ho : o.op = .store t x y) {sx sy : SV} (hx : SlS w (Bs X ob γ) ob γ sx (a.eval x)) (hy : SlS w (Bs X ob γ) ob γ sy (a.eval y))
    (he : storeStep C t sx sy ob = some (v, ob', ps)) (hp : All ps) : Goes C X sl o a w v ob' := by
  unfold storeStep at he
  split at he
  · rename_i i
    split at he
    · rename_i k x0 hob
      split at he
      · rename_i z ob1 hz
        split at he
        · rename_i k1 x1 hob1
          split at he
          · rename_i hk
            simp only [Option.some.injEq, Prod.mk.injEq] at he
            obtain ⟨rfl, rfl, _⟩ := he
            obtain ⟨hle, h1, hr⟩ := h.escK hy hz
            obtain ⟨_, b, hb, e⟩ := hx
            obtain ⟨b', cs, t', e', hh, hrc⟩ := h.ob _ _ hob
            rw [hb] at e'
            cases e'
            have hl := hrc.length
            have hrun := run_storeVar (hC.kd _ _ hk) hr (b := b) (off := 0) hh (by simp [hl])
            have e0 : List.take 0 cs.toArray.toList ++ (a.eval y).cells.toList ++ List.drop (0 + k.n) cs.toArray.toList = (a.eval y).cells.toList := by
              have hd : List.drop k.n cs = [] := List.drop_eq_nil_of_le (by omega)
              simp [hd]
            rw [e0] at hrun
            obtain ⟨h2, K, S⟩ := h1.mod (w' := w.setRow b (a.eval y).cells.toList.toArray) hob1 (o' := .box k z false) (v := γ i) rfl (by rw [hb]; exact grownBy_setRow w b _) (.inl rfl) (.inl rfl) (by simp [AliasOK]) (fun B' K' => ⟨b, (a.eval y).cells.toList, t', hb, setRow_heap w b _ _ t' _ hh, hr.cells.keep K'⟩)
            have e1 : a.eval x = .pointer (some ⟨b, 0, none⟩) := e
            exact Goes.skip (by simp only [execOp, ho, e1, Instr.storeAt, Instr.sureAddr, Sem.run_bind, Sem.run_pure, Result.andThen_ok, hrun]) h2
          · cases he
        · cases he
      · cases he
    · cases he
  · rename_i i f
    split at he
    · rename_i k x0 hob
      split at he
      · rename_i q z ob1 hz
        split at he
        · rename_i x' k1 x1 hup hob1
          split at he
          · rename_i hk
            simp only [Option.some.injEq, Prod.mk.injEq] at he
            obtain ⟨rfl, rfl, _⟩ := he
            obtain ⟨hk, ht⟩ := hk
            obtain ⟨hle, h1, hr⟩ := h.esc hy hz
            obtain ⟨_, b, hb, e⟩ := hx
            obtain ⟨b', cs, t', e', hh, hrc⟩ := h.ob _ _ hob
            rw [hb] at e'
            cases e'
            have hl := hrc.length
            obtain ⟨hq1, hf, _⟩ := Kd.upd_rep ht hrc hup
            have hqn : q.n = 1 := by cases q <;> simp_all [Kd.n, isPr]
            have hrun := run_storeVar (hC.kd _ _ hk) hr (b := b) (off := f) hh (by simp [hl, hqn]; omega)
            have hc1 : (a.eval y).cells.toList = [a.eval y] := by
              have := RepV.cell1 hq1 hr
              have h3 := mkV_cells this
              rwa [mkV_one hq1] at h3
            have e0 : List.take f cs.toArray.toList ++ (a.eval y).cells.toList ++ List.drop (f + q.n) cs.toArray.toList = cs.set f (a.eval y) := by
              rw [hc1, hqn, List.set_eq_take_append_cons_drop, if_pos (by omega)]
              simp
            rw [e0] at hrun
            obtain ⟨h2, K, S⟩ := h1.mod (w' := w.setRow b (cs.set f (a.eval y)).toArray) hob1 (o' := .box k x' false) (v := γ i) rfl (by rw [hb]; exact grownBy_setRow w b _) (.inl rfl) (.inl rfl) (by simp [AliasOK]) (fun B' K' => ⟨b, cs.set f (a.eval y), t', hb, setRow_heap w b _ _ t' _ hh, by
              have hrc' : RepK _ B' k x0 cs := (hrc.keep (Keeps.of_sub fun b hb => Bs.le hle hb)).keep K'
              exact (Kd.upd_rep ht hrc' hup).2.2 _ ((RepV.cell1 hq1 hr).keep K')⟩)
            have e1 : a.eval x = .pointer (some ⟨b, f, none⟩) := e
            exact Goes.skip (by simp only [execOp, ho, e1, Instr.storeAt, Instr.sureAddr, Sem.run_bind, Sem.run_pure, Result.andThen_ok, hrun]) h2
          · cases he
        · cases he
      · cases he
    · cases he
  · rename_i i ver j
    split at he
    · rename_i e k l ver' hob
      split at he
      · rename_i hver
        subst hver
        split at he
        · rename_i z ob1 hz
          split at he
          · rename_i e1 k1 l1 v1 hob1
            split at he
            · rename_i hk
              simp only [Option.some.injEq, Prod.mk.injEq] at he
              obtain ⟨rfl, rfl, rfl⟩ := he
              obtain ⟨hle, h1, hr⟩ := h.escK hy hz
              obtain ⟨o1, ho1, hl1⟩ := hle.fwd _ _ hob
              rw [hob1] at ho1
              cases ho1
              obtain ⟨z1, heq, _⟩ := hl1
              cases heq
              obtain ⟨b, n, c, hg, ee⟩ := hx.2 _ _ _ _ hob
              obtain ⟨flat, hown, hrf⟩ := h.ob _ _ hob
              have hj : j < l.length := hp.1
              rcases hown.2 with ⟨hn, _⟩ | ⟨g, cap, cur, hv, hb0, hh, hnc, hcm, hcs, htake⟩
              · rw [hg] at hn; cases hn
              rw [hg] at hv
              cases hv
              have hjc : (j + 1) * k.n ≤ c * k.n := Nat.mul_le_mul_right _ (by omega)
              have hjl : (j + 1) * k.n ≤ l.length * k.n := Nat.mul_le_mul_right _ hj
              rw [Nat.add_mul, Nat.one_mul] at hjc hjl
              have hrun := run_storeVar (hC.kd _ _ hk) hr (b := b) (off := j * k.n) hh (by rw [hcs]; exact hjc)
              have hus : (a.eval y).cells.toList.length = k.n := by simpa using hr.size
              obtain ⟨h2, K, S⟩ := h1.mod (w' := w.setRow b (cur.toList.take (j * k.n) ++ (a.eval y).cells.toList ++ cur.toList.drop (j * k.n + k.n)).toArray) hob1 (o' := .row e k (l.set j z) ver false) (v := γ i) rfl (by rw [hg]; exact grownBy_setRow w b _) (.inl rfl) (.inl rfl) (by simp [AliasOK]) (fun B' K' => by
                refine ⟨flat.take (j * k.n) ++ (a.eval y).cells.toList ++ flat.drop (j * k.n + k.n), ⟨?_, .inr ⟨b, c, _, by rw [hg]; simp, hb0, setRow_heap w b _ _ e _ hh, by simpa using hnc, hcm, ?_, ?_⟩⟩, RowsOf.set ((hrf.mono fun _ _ h => (h.keep (Keeps.of_sub fun b hb => Bs.le hle hb)).keep K')) hj (hr.cells.keep K')⟩
                · have := RowsOf.length hrf
                  simp only [List.length_append, List.length_take, List.length_drop, List.length_set, hus]
                  omega
                · simp only [List.size_toArray, List.length_append, List.length_take, List.length_drop, Array.length_toList, hus, hcs]
                  omega
                · have hfl := RowsOf.length hrf
                  simp only [List.length_set]
                  rw [← htake]
                  have t1 : (List.take (l.length * k.n) cur.toList).take (j * k.n) = cur.toList.take (j * k.n) := by rw [List.take_take, Nat.min_eq_left (by omega)]
                  rw [t1]
                  have hA : (cur.toList.take (j * k.n) ++ (a.eval y).cells.toList).length = j * k.n + k.n := by
                    simp only [List.length_append, List.length_take, Array.length_toList, hcs, hus]; omega
                  show List.take (l.length * k.n) (cur.toList.take (j * k.n) ++ (a.eval y).cells.toList ++ cur.toList.drop (j * k.n + k.n)) = _
                  rw [List.take_append, List.take_of_length_le (by omega), hA, List.drop_take])
              have e1 : a.eval x = .pointer (some ⟨b, j * k.n, none⟩) := by simpa using ee
              exact Goes.skip (by simp only [execOp, ho, e1, Instr.storeAt, Instr.sureAddr, Sem.run_bind, Sem.run_pure, Result.andThen_ok, hrun]) h2
            · cases he
          · cases he
        · cases he
      · cases he
    · cases he
  · rename_i i ver j f
    split at he
    · rename_i e k l ver' hob
      split at he
      · rename_i hver
        subst hver
        split at he
        · rename_i q z ob1 hz
          split at he
          · rename_i x' e1 k1 l1 v1 hup hob1
            split at he
            · rename_i hk
              simp only [Option.some.injEq, Prod.mk.injEq] at he
              obtain ⟨rfl, rfl, rfl⟩ := he
              obtain ⟨hk, ht⟩ := hk
              obtain ⟨hle, h1, hr⟩ := h.esc hy hz
              obtain ⟨o1, ho1, hl1⟩ := hle.fwd _ _ hob
              rw [hob1] at ho1
              cases ho1
              obtain ⟨z1, heq, _⟩ := hl1
              cases heq
              obtain ⟨b, n, c, hg, ee⟩ := hx.2 _ _ _ _ hob
              obtain ⟨flat, hown, hrf⟩ := h.ob _ _ hob
              have hj : j < l.length := hp.1
              rcases hown.2 with ⟨hn, _⟩ | ⟨g, cap, cur, hv, hb0, hh, hnc, hcm, hcs, htake⟩
              · rw [hg] at hn; cases hn
              rw [hg] at hv
              cases hv
              have hge := RowsOf.get hrf j hj k.z
              obtain ⟨hq1, hf, _⟩ := Kd.upd_rep ht hge hup
              have hqn : q.n = 1 := by cases q <;> simp_all [Kd.n, isPr]
              have hjc : (j + 1) * k.n ≤ c * k.n := Nat.mul_le_mul_right _ (by omega)
              have hjl : (j + 1) * k.n ≤ l.length * k.n := Nat.mul_le_mul_right _ hj
              rw [Nat.add_mul, Nat.one_mul] at hjc hjl
              have hrun := run_storeVar (hC.kd _ _ hk) hr (b := b) (off := j * k.n + f) hh (by rw [hcs, hqn]; omega)
              have hc1 : (a.eval y).cells.toList = [a.eval y] := by
                have := RepV.cell1 hq1 hr
                have h3 := mkV_cells this
                rwa [mkV_one hq1] at h3
              rw [hc1, hqn] at hrun
              obtain ⟨h2, K, S⟩ := h1.mod (w' := w.setRow b (cur.toList.take (j * k.n + f) ++ [a.eval y] ++ cur.toList.drop (j * k.n + f + 1)).toArray) hob1 (o' := .row e k (l.set j x') ver false) (v := γ i) rfl (by rw [hg]; exact grownBy_setRow w b _) (.inl rfl) (.inl rfl) (by simp [AliasOK]) (fun B' K' => by
                have hrf' : RowsOf (RepK _ B' k) l flat := hrf.mono fun _ _ h => (h.keep (Keeps.of_sub fun b hb => Bs.le hle hb)).keep K'
                have hge' := RowsOf.get hrf' j hj k.z
                have hset := RowsOf.set hrf' hj ((Kd.upd_rep ht hge' hup).2.2 _ ((RepV.cell1 hq1 hr).keep K'))
                have hfl := RowsOf.length hrf
                have hcl : cur.toList.length = c * k.n := by rw [Array.length_toList, hcs]
                have heq : flat.take (j * k.n) ++ ((flat.drop (j * k.n)).take k.n).set f (a.eval y) ++ flat.drop (j * k.n + k.n) = flat.set (j * k.n + f) (a.eval y) := by
                  apply List.ext_getElem?
                  intro m
                  rw [List.getElem?_set]
                  by_cases c1 : m < j * k.n
                  · rw [List.append_assoc, List.getElem?_append_left (by rw [List.length_take]; omega), List.getElem?_take, if_pos c1, if_neg (by omega)]
                  · by_cases c2 : m < j * k.n + k.n
                    · rw [List.append_assoc, List.getElem?_append_right (by rw [List.length_take]; omega), List.getElem?_append_left (by simp only [List.length_take, List.length_set, List.length_drop]; omega), List.length_take, Nat.min_eq_left (by omega), List.getElem?_set, List.length_take, List.length_drop, List.getElem?_take, List.getElem?_drop]
                      by_cases c3 : j * k.n + f = m
                      · rw [if_pos (by omega), if_pos (by omega), if_pos c3, if_pos (by omega)]
                      · rw [if_neg (by omega), if_neg c3, if_pos (by omega)]
                        congr 1
                        omega
                    · have hL : (flat.take (j * k.n) ++ ((flat.drop (j * k.n)).take k.n).set f (a.eval y)).length = j * k.n + k.n := by
                        simp only [List.length_append, List.length_take, List.length_set, List.length_drop]; omega
                      rw [List.getElem?_append_right (by omega), hL, List.getElem?_drop, if_neg (by omega)]
                      congr 1
                      omega
                rw [heq] at hset
                refine ⟨flat.set (j * k.n + f) (a.eval y), ⟨?_, .inr ⟨b, c, _, by rw [hg]; simp, hb0, setRow_heap w b _ _ e _ hh, by simpa using hnc, hcm, ?_, ?_⟩⟩, hset⟩
                · simp only [List.length_set]
                  omega
                · simp only [List.size_toArray, List.length_append, List.length_take, List.length_drop, Array.length_toList, hcs, List.length_singleton]
                  omega
                · simp only [List.length_set]
                  rw [← htake]
                  apply List.ext_getElem?
                  intro m
                  rw [List.getElem?_set, List.getElem?_take, List.getElem?_take, List.length_take, hcl]
                  show (if m < l.length * k.n then (cur.toList.take (j * k.n + f) ++ [a.eval y] ++ cur.toList.drop (j * k.n + f + 1))[m]? else none) = _
                  by_cases c0 : m < l.length * k.n
                  · rw [if_pos c0, if_pos c0]
                    by_cases c1 : m < j * k.n + f
                    · rw [List.append_assoc, List.getElem?_append_left (by rw [List.length_take, hcl]; omega), List.getElem?_take, if_pos c1, if_neg (by omega)]
                    · by_cases c2 : j * k.n + f = m
                      · rw [if_pos c2, if_pos (by omega), List.append_assoc, List.getElem?_append_right (by rw [List.length_take]; omega), List.length_take, hcl, Nat.min_eq_left (by omega), c2, Nat.sub_self]
                        rfl
                      · have hL : (cur.toList.take (j * k.n + f) ++ [a.eval y]).length = j * k.n + f + 1 := by
                          simp only [List.length_append, List.length_take, hcl, List.length_singleton]; omega
                        rw [List.getElem?_append_right (by omega), hL, List.getElem?_drop, if_neg c2]
                        congr 1
                        omega
                  · rw [if_neg c0, if_neg c0, if_neg (by omega)])
              have e1 : a.eval x = .pointer (some ⟨b, j * k.n + f, none⟩) := by simpa using ee
              exact Goes.skip (by simp only [execOp, ho, e1, Instr.storeAt, Instr.sureAddr, Sem.run_bind, Sem.run_pure, Result.andThen_ok, hrun]) h2
            · cases he
          · cases he
        · cases he
      · cases he
    · cases he
  · cases he

end Go.AI
end

section
/- One operation of the evaluator, one of the model: cuts, lengths, addresses of elements; append, make. -/
set_option autoImplicit false
set_option linter.unusedVariables false
set_option linter.unusedSimpArgs false
namespace Go.AI

variable {C : Cfg} {X : Ctx} {sl : List (Option AV)} {ob ob' : Obs} {a : Act} {w w' : World} {γ γ' : Nat → Value} {B B' : Nat → Prop} {o : Oper} {v : Option AV} {ps : List Prop}

theorem OwnRow.shape {N : Nat} {e : TypeId} {k : Kd} {l : List k.ty} {u : Value} (h : OwnRow w B N e k l u) : ∃ a c, u = .slice a l.length c ∧ l.length ≤ c ∧ (∀ ad, a = some ad → ad.off = 0 ∧ ad.spot = none) := by
  obtain ⟨flat, ho, hr⟩ := h
  rcases ho.2 with ⟨rfl, h1⟩ | ⟨g, cap, cur, rfl, h1, h2, h3, _⟩
  · exact ⟨none, 0, by rw [h1], by omega, fun ad h => by cases h⟩
  · exact ⟨some ⟨g, 0, none⟩, cap, rfl, h3, fun ad h => by cases h; exact ⟨rfl, rfl⟩⟩

theorem goes_indexAddr_alias (hC : CfgOK C) (h : InvG X ⟨sl, ob⟩ a w γ) {it : It} {t : TypeId} {x i : Operand} (ho : o.op = .indexAddr t x i) {xs : List SV} (hxs : SlL w (Bs X ob γ) ob γ xs [a.eval x, a.eval i])
    (he : aliasStep C it (.indexAddr t x i) xs ob = some (v, ob', ps)) (hp : All ps) : Goes C X sl o a w v ob' := by
  simp only [aliasStep] at he
  split at he
  · rename_i d ver ik j k' hk
    obtain ⟨u, us, e0, hx, u2, us2, e2, hj, _⟩ := hxs
    obtain ⟨rfl, rfl⟩ := List.cons.inj e0
    obtain ⟨rfl, _⟩ := List.cons.inj e2
    have ej := RepV.int hj
    split at he
    · rename_i e k l ver' z hob
      split at he
      · rename_i hh
        obtain ⟨rfl, rfl⟩ := hh
        simp only [Option.some.injEq, Prod.mk.injEq] at he
        obtain ⟨rfl, rfl, rfl⟩ := he
        have hj0 : (0 : Int) ≤ j := hp.1
        have hj1 : j < ((List.length l : Nat) : Int) := hp.2.1
        have hjl : j.toNat < List.length l := (Int.toNat_lt hj0).2 hj1
        have hu := hx.2 _ _ _ _ hob
        obtain ⟨et, het, hke⟩ := hC.elk _ _ hk
        have d1 := hC.el _ _ het
        have hsz := fun w => (hC.kd _ _ hke).sizeOf w
        obtain ⟨flat, ho', hr⟩ := h.ob _ _ hob
        rcases ho'.2 with ⟨hn, hl0⟩ | ⟨g, cap, cur, hv, h1, h2, h3, _⟩
        · rw [hl0] at hjl; omega
        rw [hv] at hu
        have hadd : (⟨g, 0, none⟩ : Addr).add (j.toNat * k.n) = ⟨g, j.toNat * k.n, none⟩ := by unfold Addr.add; split <;> simp_all
        refine Goes.value (u := .pointer (some ⟨g, j.toNat * k.n, none⟩)) (by simp [execOp, ho, hu, ej, Instr.indexAt, asIntOf, run_underlying d1, hj0, hj1, hsz, hadd]) h fun y hy => ?_
        cases hy
        refine ⟨⟨e, k, l, ver, z, hob, Nat.le_refl _⟩, fun e2 k2 l2 z2 hi => ?_⟩
        rw [hob] at hi
        cases hi
        exact ⟨g, _, _, hv, rfl⟩
      · cases he
    · cases he
  · rename_i i0 ik j m k' hk
    obtain ⟨u, us, e0, hx, u2, us2, e2, hj, _⟩ := hxs
    obtain ⟨rfl, rfl⟩ := List.cons.inj e0
    obtain ⟨rfl, _⟩ := List.cons.inj e2
    split at he
    · rename_i y hy
      split at he
      · rename_i z ps' hz
        simp only [Option.some.injEq, Prod.mk.injEq] at he
        obtain ⟨rfl, rfl, rfl⟩ := he
        obtain ⟨hle, h1, hr⟩ := h.esc (y := y) (ob' := frz ob (.adr i0 none)) hx (by simp only [Go.AI.esc, hy])
        have hj' : RepV w (Bs X (frz ob (.adr i0 none)) γ) (.int ik) j (a.eval i) := by
          have e := RepV.int hj
          rw [e]; exact RepV.mk_int _ _
        have hrep : SVsRep w (Bs X (frz ob (.adr i0 none)) γ) [y, .v (.int ik) j] ((Op.indexAddr t x i).operands.toList.map a.eval) :=
          ⟨_, _, rfl, hr, _, _, rfl, hj', rfl⟩
        obtain ⟨u, hu, hru⟩ := apure_sound hC hz hp hrep ho rfl
        exact Goes.value hu h1 fun y hy => by cases hy; exact hru.slot
      · cases he
    · cases he
  · cases he

theorem RepK_flat_of {r : SV} {u : Value} (hf : r.flat = true) (h : SVRep w B r u) : SVRep w B' r u := by
  cases r with
  | v k x => obtain ⟨cs, hr, e⟩ := h; exact ⟨cs, hr.flat hf, e⟩
  | own e k l => exact h.elim
  | nilsl e k => simp [SV.flat] at hf
  | fadr k x => simp [SV.flat] at hf
  | adr i f => simp [SV.flat] at hf
  | osl i v => simp [SV.flat] at hf
  | oel i v j f => simp [SV.flat] at hf
  | mbx k x => simp [SV.flat] at hf
  | msl e k l => simp [SV.flat] at hf
  | omp i => simp [SV.flat] at hf
  | mmp k l => simp [SV.flat] at hf

theorem InvG.plains (h : InvG X ⟨sl, ob⟩ a w γ) : ∀ {xs ys : List SV} {us : List Value}, SlL w (Bs X ob γ) ob γ xs us → plains ob xs = some ys → SVsRep w (fun _ => True) ys us
  | [], _, _, e, hp => by cases hp; exact e
  | x :: xs, _, _, ⟨u, us, e, h1, h2⟩, hp => by
    simp only [Go.AI.plains] at hp
    split at hp
    · rename_i y ys hy hys
      cases hp
      exact ⟨u, us, e, h.plain h1 hy (fun _ _ => trivial) (fun _ _ _ _ _ _ => trivial), h.plains h2 hys⟩
    · cases hp

theorem apure_flat {it : It} {op : Op} {xs : List SV} {r : SV} (h : apure C it op xs = some (r, ps)) (hop : (∃ s t x, op = .convert s t x) ∨ ∃ args ts, op = .call { callee := .builtin .len, args := args, argTypes := ts }) : r.flat = true := by
  rcases hop with ⟨s, t, x, rfl⟩ | ⟨args, ts, rfl⟩
  · simp only [apure] at h
    split at h
    · cases h; rfl
    · split at h
      · split at h
        · cases h; rfl
        · cases h
      · cases h
    · cases h
  · simp only [apure] at h
    split at h
    · cases h; rfl
    · cases h; rfl
    · cases h; rfl
    · cases h

theorem goes_plains (hC : CfgOK C) (h : InvG X ⟨sl, ob⟩ a w γ) {it : It} {op : Op} (ho : o.op = op) (hop : (∃ s t x, op = .convert s t x) ∨ ∃ args ts, op = .call { callee := .builtin .len, args := args, argTypes := ts })
    {xs : List SV} (hxs : SlL w (Bs X ob γ) ob γ xs (op.operands.toList.map a.eval)) (he : (match plains ob xs with
    | some ys => match apure C it op ys with
      | some (z, ps) => some (some (.s z), ob, ps)
      | none => none
    | none => none) = some (v, ob', ps)) (hp : All ps) : Goes C X sl o a w v ob' := by
  split at he
  · rename_i ys hys
    split at he
    · rename_i z ps' hz
      simp only [Option.some.injEq, Prod.mk.injEq] at he
      obtain ⟨rfl, rfl, rfl⟩ := he
      obtain ⟨u, hu, hr⟩ := apure_sound hC hz hp (h.plains hxs hys) ho rfl
      exact Goes.value hu h fun y hy => by cases hy; exact (RepK_flat_of (apure_flat hz hop) hr).slot
    · cases he
  · cases he

theorem SlL.plain_tail (hle : ObLe ob ob') (h : InvG X ⟨sl, ob⟩ a w γ) : ∀ {xs : List SV} {us : List Value}, SlL w (Bs X ob γ) ob γ xs us → xs.any isAlias = false → SVsRep w (Bs X ob' γ) xs us := fun hx hn =>
  (SlL.noAlias h hx hn).keep (Keeps.of_sub fun b hb => Bs.le hle hb)

theorem bounds_noAlias {n : Nat} {lo hi : Bool} {xs : List SV} {r : Int × Int × List Prop} (h : bounds n lo hi xs = some r) : xs.any isAlias = false := by
  unfold bounds at h
  split at h <;> first | rfl | cases h

theorem apure_slice_noAlias {it : It} {t : TypeId} {x : Operand} {lo hi mx : Option Operand} {y : SV} {ys : List SV} {r : SV × List Prop} (h : apure C it (.slice t x lo hi mx) (y :: ys) = some r) : ys.any isAlias = false := by
  cases mx with
  | some m => simp [apure] at h
  | none =>
    simp only [apure] at h
    split at h
    · rename_i heq _
      cases heq
      split at h
      · rename_i hb; exact bounds_noAlias hb
      · cases h
    · rename_i heq _
      cases heq
      split at h
      · split at h
        · rename_i hb; exact bounds_noAlias hb
        · cases h
      · cases h
    · cases h

theorem goes_slice_alias (hC : CfgOK C) (h : InvG X ⟨sl, ob⟩ a w γ) {it : It} {t : TypeId} {x : Operand} {lo hi mx : Option Operand} (ho : o.op = .slice t x lo hi mx) {xs : List SV}
    (hxs : SlL w (Bs X ob γ) ob γ xs ((Op.slice t x lo hi mx).operands.toList.map a.eval)) (he : aliasStep C it (.slice t x lo hi mx) xs ob = some (v, ob', ps)) (hp : All ps) : Goes C X sl o a w v ob' := by
  cases mx with
  | some m => simp [aliasStep] at he
  | none =>
  have hlist : (Op.slice t x lo hi none).operands.toList.map a.eval = a.eval x :: ((lo.toList.map a.eval) ++ (hi.toList.map a.eval)) := by
    cases lo <;> cases hi <;> rfl
  simp only [aliasStep] at he
  split at he
  · rename_i i ver ys
    rw [hlist] at hxs
    obtain ⟨u, us, e0, hx, hys⟩ := hxs
    obtain ⟨rfl, rfl⟩ := List.cons.inj e0
    split at he
    · rename_i e k m ver' k' hob hk
      split at he
      · rename_i hh
        obtain ⟨rfl, rfl⟩ := hh
        split at he
        · rename_i l0 h' ps' hb
          simp only [Option.some.injEq, Prod.mk.injEq] at he
          obtain ⟨rfl, rfl, rfl⟩ := he
          have hna := bounds_noAlias hb
          obtain ⟨b0, b1, b2, hus, bl, bh⟩ := bounds_sound hb hp (SlL.noAlias h hys hna)
          have hl0 : l0 = 0 := bl rfl
          subst hl0
          have hu := hx.2 _ _ _ _ hob
          have hrow := h.ob _ _ hob
          obtain ⟨ad, c, hg, hle, had⟩ := OwnRow.shape hrow
          rw [hg] at hu
          obtain ⟨et, het, hke⟩ := hC.elk _ _ hk
          have d1 := hC.el _ _ het
          have hsz := fun w => (hC.kd _ _ hke).sizeOf w
          have hhi : hi.map a.eval = some (.int .i64 h') ∨ hi.map a.eval = none ∧ h' = List.length m := by
            cases hi <;> simp_all
          have hrun := run_sliceBounds (C := C) (w := w) true (List.length m) c none (hi.map a.eval) 0 h' (by omega) b1 b2 hle (.inr ⟨rfl, rfl⟩) hhi
          have hval : (if c = (0 : Int).toNat then ad else ad.map (·.add ((0 : Int).toNat * k.n))) = ad := by
            split
            · rfl
            · cases ad <;> simp [Addr.add_zero]
          have hml : (m.take h'.toNat).length = h'.toNat := by rw [List.length_take]; omega
          obtain ⟨h2, K, S⟩ := h.mod (w' := w) hob (o' := .row e k (m.take h'.toNat) (ver + 1) false) (v := .slice ad h'.toNat c) rfl ⟨rfl, rfl, rfl, Nat.le_refl _, fun _ _ _ => rfl⟩ (.inl (by rw [hg]; cases ad <;> rfl)) (.inr ⟨e, k, m.take h'.toNat, ver, false, rfl⟩) (.inl (Nat.lt_succ_self _)) (fun B' K' => by
            obtain ⟨flat, hown, hr⟩ := hrow
            refine ⟨flat.take (h'.toNat * k.n), ⟨by rw [List.length_take, hown.1, hml]; exact Nat.min_eq_left (Nat.mul_le_mul_right _ (by omega)), ?_⟩, RowsOf.take _ (hr.mono fun _ _ h => h.keep K')⟩
            rcases hown.2 with ⟨hn, hl⟩ | ⟨g, cap, cur, hv, h1, h2, h3, h4, h5, h6⟩
            · rw [hg] at hn
              simp only [Value.slice.injEq] at hn
              obtain ⟨rfl, hm0, rfl⟩ := hn
              refine .inl ⟨?_, by rw [hml]; omega⟩
              have : h'.toNat = 0 := by omega
              rw [this]
            · rw [hg] at hv
              cases hv
              refine .inr ⟨g, c, cur, by rw [hml], h1, h2, by omega, h4, h5, ?_⟩
              rw [hml, ← h6, List.take_take, Nat.min_eq_left (Nat.mul_le_mul_right _ (by omega))])
          refine Goes.value (u := .slice ad h'.toNat c) ?_ h2 fun y hy => ?_
          · simp only [execOp, ho, Option.map_none, Instr.sliceAt, Instr.slice, Sem.run_bind, run_underlying d1, Result.andThen_ok, hu, hrun, hsz, Sem.run_pure, hval]
            simp
          · cases hy
            refine ⟨⟨e, k, _, ver + 1, false, by rw [obj_setOb _ _ _ _ (obj_lt hob), if_pos rfl], Nat.le_refl _⟩, fun e2 k2 l2 z2 hi2 => by rw [upd_same]⟩
        · cases he
      · cases he
    · cases he
  · rename_i i ver ys hnt
    rw [hlist] at hxs
    obtain ⟨u, us, e0, hx, hys⟩ := hxs
    obtain ⟨rfl, rfl⟩ := List.cons.inj e0
    split at he
    · rename_i y hy
      split at he
      · rename_i z ps' hz
        simp only [Option.some.injEq, Prod.mk.injEq] at he
        obtain ⟨rfl, rfl, rfl⟩ := he
        obtain ⟨hle, h1, hr⟩ := h.esc (y := y) (ob' := frz ob (.osl i ver)) hx (by simp only [Go.AI.esc, hy])
        have hrep : SVsRep w (Bs X (frz ob (.osl i ver)) γ) (y :: ys) ((Op.slice t x lo hi none).operands.toList.map a.eval) := by
          rw [hlist]
          exact ⟨_, _, rfl, hr, SlL.plain_tail hle h hys (apure_slice_noAlias hz)⟩
        obtain ⟨u, hu, hru⟩ := apure_sound hC hz hp hrep ho rfl
        exact Goes.value hu h1 fun y hy => by cases hy; exact hru.slot
      · cases he
    · cases he
  · cases he

end Go.AI
end

section
/- One operation of the evaluator, one of the model: append, make, closures. -/
set_option autoImplicit false
set_option linter.unusedVariables false
set_option linter.unusedSimpArgs false
namespace Go.AI

variable {C : Cfg} {X : Ctx} {sl : List (Option AV)} {ob ob' : Obs} {a : Act} {w w' : World} {γ γ' : Nat → Value} {B B' : Nat → Prop} {o : Oper} {v : Option AV} {ps : List Prop}

theorem grownBy_refl (w : World) (row : Option Nat) : w.grownBy w row := ⟨rfl, rfl, rfl, Nat.le_refl _, fun _ _ _ => rfl⟩

theorem ownBlock_blk {v : Value} (h : ∃ a n c, v = .slice a n c) : v.ownBlock = blk v := by
  obtain ⟨a, n, c, rfl⟩ := h
  cases a <;> rfl

/-- append, from whatever it begins with; where the row lies then. -/
theorem run_append_any {P : Program} (w : World) (t ty e : TypeId) (i : TypeInfo) (z : Value) (ht : P.underlying t = some (.slice e)) (hi : P.info? e = some i) (hz : i.zero = some z)
    (hzs : z.cells.size = i.size) (hsz : 0 < i.size) (v : Value) (n : Nat) (xs : List Value) (hown : w.ownsRow 0 e i.size v n xs)
    (y : Value) (m : Nat) (news : List Value) (hl : news.length = m * i.size) (hy : ∃ a c, y = .slice a m c ∧ (a = none → m = 0) ∧ ∀ ad, a = some ad → ∀ j u, news[j]? = some u → w.cell? (ad.add j) = some u) (h1 : ∀ u ∈ news, u.oneCell' = true)
    (h63 : n + m ≤ maxLen) (hbytes : (n + m) * i.bytes ≤ 140737488355328) :
    ∃ v' w', (Builtin.append_ #[t, t] ty #[v, y]).run P w = .ok v' w' ∧ w'.ownsRow 0 e i.size v' (n + m) (xs ++ news) ∧ w.grownBy w' v.ownBlock ∧
      (v'.ownBlock = v.ownBlock ∨ ∀ g, v'.ownBlock = some g → w.heap.size ≤ g) := by
  obtain ⟨a, c, rfl, hn, hcell⟩ := hy
  cases a with
  | none =>
    have hm := hn rfl
    subst hm
    have hnews : news = [] := List.eq_nil_of_length_eq_zero (by simpa using hl)
    subst hnews
    refine ⟨v, w, ?_, by simpa using hown, grownBy_refl w _, .inl rfl⟩
    rcases hown.2 with ⟨rfl, rfl⟩ | ⟨g, cap, cur, rfl, _, _, h3, _⟩
    · simp [Builtin.append_, run_underlying ht, Go.sizeOf, typeInfo, hi, Builtin.lenOf, Builtin.firstCells]
    · simp [Builtin.append_, run_underlying ht, Go.sizeOf, typeInfo, hi, Builtin.lenOf, Builtin.firstCells, h3, storeCells]
  | some ad =>
    have hc := hcell ad rfl
    have hsmall : n + m ≤ 9223372036854775807 := by simp only [maxLen] at h63; omega
    have hlen : (xs ++ news).length = (n + m) * i.size := by rw [List.length_append, hown.1, hl, Nat.add_mul]
    have grown : ∀ (old : Nat), old < n + m → ∀ (row : Option Nat),
        (w.drew.alloc (.cells (xs.toArray ++ news.toArray ++ Builtin.zeroCells z.cells (grownCap w (n + m) old e - (n + m))) e)).ownsRow 0 e i.size
          (.slice (some ⟨w.heap.size, 0, none⟩) (n + m) (grownCap w (n + m) old e)) (n + m) (xs ++ news) ∧
        w.grownBy (w.drew.alloc (.cells (xs.toArray ++ news.toArray ++ Builtin.zeroCells z.cells (grownCap w (n + m) old e - (n + m))) e)) row := by
      intro old ho row
      have hge := grownCap_ge w (n + m) old e
      have hcm : grownCap w (n + m) old e ≤ maxLen := grownCap_le_maxLen w (n + m) old e h63
      refine ⟨⟨hlen, .inr ⟨w.heap.size, _, _, rfl, Nat.zero_le _, heap_alloc_new w.drew _, hge, hcm, ?_, ?_⟩⟩, ⟨rfl, rfl, rfl, by simp, fun k hk _ => heap_alloc_old w.drew _ k hk⟩⟩
      · simp only [Array.size_append, List.size_toArray, size_zeroCells, hzs, hown.1, hl, ← Nat.add_mul]
        congr 1
        omega
      · simp only [Array.toList_append, List.append_assoc]
        rw [← List.append_assoc, ← hlen]
        exact List.take_left
    rcases hown.2 with ⟨rfl, rfl⟩ | ⟨g, cap, cur, rfl, hbg, hg, hnc, hcm, hcs, htake⟩
    · have hx : xs = [] := List.eq_nil_of_length_eq_zero (by simpa using hown.1)
      subst hx
      by_cases hm : m = 0
      · subst hm
        have hn : news = [] := List.eq_nil_of_length_eq_zero (by simpa using hl)
        subst hn
        refine ⟨.slice none 0 0, w, ?_, World.ownsRow_nil w 0 e i.size, grownBy_refl w _, .inl rfl⟩
        simp [Builtin.append_, run_underlying ht, Go.sizeOf, typeInfo, hi, Builtin.lenOf, Builtin.firstCells, loadCells, loadCellsFrom]
      · have hr := run_append_nil (P := P) w t ty e i z ht hi hz ad m c news hl hc (by omega) (by omega) (by have hb := hbytes; simp only [Nat.zero_add] at hb; omega)
        have hgr := grown 0 (by omega) (Value.ownBlock (.slice none 0 0))
        simp only [Nat.zero_add, List.nil_append, Array.empty_append] at hgr ⊢
        exact ⟨_, _, hr, hgr.1, hgr.2, .inr fun g hg => by simp [Value.ownBlock] at hg; omega⟩
    · by_cases hroom : n + m ≤ cap
      · have hfit : n * i.size + news.length ≤ cur.size := by rw [hl, hcs, ← Nat.add_mul]; exact Nat.mul_le_mul_right _ hroom
        have hr := run_append_room (P := P) w t ty e i ht hi g n cap cur hg ad m c news hl hc h1 hroom hfit
        refine ⟨_, _, hr, ⟨hlen, .inr ⟨g, cap, _, rfl, hbg, setRow_heap w g cur _ e _ hg, hroom, hcm, ?_, ?_⟩⟩, ⟨rfl, rfl, rfl, by simp, fun k _ hk => setRow_other w g k _ (fun e => hk (by simp [Value.ownBlock, e]))⟩, .inl rfl⟩
        · simp only [List.size_toArray, List.length_append, List.length_take, List.length_drop, Array.length_toList]
          omega
        · rw [htake, ← hlen]
          exact List.take_left
      · have holds : ∀ j u, xs[j]? = some u → w.cell? ((⟨g, 0, none⟩ : Addr).add j) = some u := hown.cells (g := g) rfl
        have hr := run_append_grow (P := P) w t ty e i z ht hi hz ⟨g, 0, none⟩ n cap xs hown.1 holds ad m c news hl hc (by omega) (by omega) (growslice_fits (by omega) hbytes)
        have hgr := grown cap (by omega) (Value.ownBlock (.slice (some ⟨g, 0, none⟩) n cap))
        exact ⟨_, _, hr, hgr.1, hgr.2, .inr fun g' hg' => by simp [Value.ownBlock] at hg'; omega⟩

theorem InvG.rowOf (h : InvG X ⟨sl, ob⟩ a w γ) {x : SV} {u : Value} {k : Kd} {m : List k.ty} (hx : SlS w (Bs X ob γ) ob γ x u) (hp : Go.AI.plain ob x = some (.v (.sl k) m)) :
    ∃ flat, RowsOf (RepK w (Bs X ob γ) k) m flat ∧ ∃ a c, u = .slice a m.length c ∧ (a = none → m.length = 0) ∧ ∀ ad, a = some ad → ∀ j x, flat[j]? = some x → w.cell? (ad.add j) = some x := by
  cases x <;> simp only [Go.AI.plain, reduceCtorEq, Option.some.injEq] at hp
  · rename_i k0 x0
    cases hp
    obtain ⟨a, c, flat, rfl, _, hr, hn, hc⟩ := RepV.sl hx
    exact ⟨flat, hr, a, c, rfl, fun h => by rw [hn h]; rfl, fun ad h => (hc ad h).2.1⟩
  · cases hp
    exact ⟨[], rfl, none, 0, hx, fun _ => rfl, fun ad h => by cases h⟩
  · rename_i i f
    cases f <;> simp only [reduceCtorEq] at hp
    split at hp <;> cases hp
  · rename_i i ver
    split at hp
    · rename_i e k' l ver' z ho
      split at hp
      · rename_i hver
        subst hver
        cases hp
        have hu := hx.2 _ _ _ _ ho
        subst hu
        obtain ⟨flat, hown, hr⟩ := h.ob _ _ ho
        refine ⟨flat, hr, ?_⟩
        rcases hown.2 with ⟨e1, hl⟩ | ⟨g, cap, cur, e1, h1, h2, h3, h4, h5, h6⟩
        · exact ⟨none, 0, by rw [e1, hl], fun _ => hl, fun ad h => by cases h⟩
        · refine ⟨some ⟨g, 0, none⟩, cap, e1, (fun h => by cases h), fun ad had j x hj => ?_⟩
          cases had
          exact hown.cells (g := g) (by rw [e1]; rfl) j x hj
      · cases hp
    · cases hp

theorem goes_append (hC : CfgOK C) (h : InvG X ⟨sl, ob⟩ a w γ) {x y : Operand} {t : TypeId} {d : Nat} (ho : o.op = .call { callee := .builtin .append, args := #[x, y], argTypes := #[t, t] })
    {sx sy : SV} (hx : SlS w (Bs X ob γ) ob γ sx (a.eval x)) (hy : SlS w (Bs X ob γ) ob γ sy (a.eval y)) (he : appendStep C d t sx sy ob = some (v, ob', ps)) (hp : All ps) : Goes C X sl o a w v ob' := by
  have hexec : ∀ v' w', (Builtin.append_ #[t, t] o.type #[a.eval x, a.eval y]).run C.P w = .ok v' w' → (execOp a.eval o).run C.P w = .ok (.value v') w' := fun v' w' hr => by
    simp [execOp, ho, resolve, invoke, builtin, hr]
  have hlim : ∀ (e : TypeId) (k : Kd), C.el t = some e → C.kd e = some k → ∀ n, n ≤ lim → ∃ i z, C.P.info? e = some i ∧ i.zero = some z ∧ z.cells.size = i.size ∧ i.size = k.n ∧ n ≤ maxLen ∧ n * i.bytes ≤ 140737488355328 := fun e k het hk n hn => by
    obtain ⟨i, z, hi, hs, hz, hb, hzr⟩ := (hC.kd _ _ hk).info
    have hb := hb (hC.eln _ _ _ het hk)
    refine ⟨i, z, hi, hz, by rw [(hzr w (fun _ => True)).size, hs], hs, ?_, ?_⟩
    · simp only [lim] at hn; simp only [maxLen]; omega
    · simp only [lim] at hn
      calc n * i.bytes ≤ 2 ^ 40 * 64 := Nat.mul_le_mul hn hb
        _ ≤ 140737488355328 := by decide
  unfold appendStep at he
  split at he
  · rename_i e e' k het
    have hu : a.eval x = .slice none 0 0 := hx
    split at he
    · rename_i q m hpl
      split at he
      · rename_i hq
        subst hq
        simp only [castK_rfl] at he
        split at he
        · rename_i hke
          obtain ⟨rfl, hke⟩ := hke
          split at he
          · rename_i hod
            split at he
            · rename_i hlt
              simp only [Option.some.injEq, Prod.mk.injEq] at he
              obtain ⟨rfl, rfl, rfl⟩ := he
              have hle : List.length m ≤ lim := hp.1
              obtain ⟨i, z, hi, hz, hzs, hs, hm1, hm2⟩ := hlim _ _ het hke _ hle
              obtain ⟨flat, hrf, hysl⟩ := h.rowOf hy hpl
              obtain ⟨v', w', hr, hown, hg, hbl⟩ := run_append_any w t o.type _ i z (hC.el _ _ het) hi hz hzs (by rw [hs]; exact k.n_pos) (.slice none 0 0) 0 [] (World.ownsRow_nil w 0 _ _) (a.eval y) (List.length m) flat (by rw [hrf.length, hs]) hysl hrf.one (by omega) (by simpa using hm2)
              have hsh : v'.ownBlock = blk v' := by
                rcases hown.2 with ⟨rfl, _⟩ | ⟨g, cap, cur, rfl, _⟩ <;> rfl
              obtain ⟨h2, K, S⟩ := h.new hod hlt (o := .row e k m 0 false) (v := v') hg (fun b hb => by
                rcases hbl with h1 | h1
                · rw [hsh, hb] at h1; simp [Value.ownBlock] at h1
                · exact h1 b (by rw [hsh]; exact hb)) (fun B' K' => ⟨flat, by simpa [hs] using hown, hrf.mono fun _ _ h => h.keep K'⟩)
              exact Goes.value (hexec v' w' (by rw [hu]; exact hr)) h2 fun y hy => by
                cases hy
                exact ⟨⟨e, k, m, 0, false, by rw [obj_setOb _ _ _ _ hlt, if_pos rfl], Nat.le_refl _⟩, fun e2 k2 l2 z2 hi2 => by rw [upd_same]⟩
            · cases he
          · cases he
        · cases he
      · cases he
    · cases he
  · rename_i e i0 ver het
    split at he
    · rename_i e' k l ver' q m hob hpl
      split at he
      · rename_i hq
        subst hq
        simp only [castK_rfl] at he
        split at he
        · rename_i hh
          obtain ⟨rfl, rfl, hke⟩ := hh
          simp only [Option.some.injEq, Prod.mk.injEq] at he
          obtain ⟨rfl, rfl, rfl⟩ := he
          have hle : l.length + List.length m ≤ lim := hp.1
          obtain ⟨i, z, hi, hz, hzs, hs, hm1, hm2⟩ := hlim _ _ het hke _ hle
          have hu := hx.2 _ _ _ _ hob
          obtain ⟨flat0, hown0, hr0⟩ := h.ob _ _ hob
          obtain ⟨flat, hrf, hysl⟩ := h.rowOf hy hpl
          obtain ⟨v', w', hr, hown, hg, hbl⟩ := run_append_any w t o.type _ i z (hC.el _ _ het) hi hz hzs (by rw [hs]; exact k.n_pos) (γ i0) l.length flat0 (by rw [hs]; exact hown0) (a.eval y) (List.length m) flat (by rw [hrf.length, hs]) hysl hrf.one hm1 hm2
          have hsh : v'.ownBlock = blk v' := by
            rcases hown.2 with ⟨rfl, _⟩ | ⟨g, cap, cur, rfl, _⟩ <;> rfl
          have hsh0 : (γ i0).ownBlock = blk (γ i0) := by
            rcases hown0.2 with ⟨e1, _⟩ | ⟨g, cap, cur, e1, _⟩ <;> rw [e1] <;> rfl
          obtain ⟨h2, K, S⟩ := h.mod (w' := w') hob (o' := .row e k (l ++ m) (ver + 1) false) (v := v') rfl (by rw [← hsh0]; exact hg) (by
            rcases hbl with h1 | h1
            · exact .inl (by rw [← hsh, ← hsh0]; exact h1)
            · exact .inr fun b hb => h1 b (by rw [hsh]; exact hb)) (.inr ⟨e, k, l ++ m, ver, false, rfl⟩) (.inl (Nat.lt_succ_self _)) (fun B' K' => ⟨flat0 ++ flat, by simpa [hs] using hown, RowsOf.append (hr0.mono fun _ _ h => h.keep K') (hrf.mono fun _ _ h => h.keep K')⟩)
          exact Goes.value (hexec v' w' (by rw [hu]; exact hr)) h2 fun y hy => by
            cases hy
            exact ⟨⟨e, k, _, ver + 1, false, by rw [obj_setOb _ _ _ _ (obj_lt hob), if_pos rfl], Nat.le_refl _⟩, fun e2 k2 l2 z2 hi2 => by rw [upd_same]⟩
        · cases he
      · cases he
    · cases he
  · cases he

/-- Cells of a zero value, again and again. -/
theorem RowsOf.zeros {k : Kd} {z : Value} (hz : RepV w B k k.z z) (n : Nat) : RowsOf (RepK w B k) (List.replicate n k.z) (madeCells z.cells (n * k.n)).toList := by
  have hs := hz.size
  have hp := k.n_pos
  induction n with
  | zero => simp [RowsOf, madeCells]
  | succ n ih =>
    have : (madeCells z.cells ((n + 1) * k.n)).toList = z.cells.toList ++ (madeCells z.cells (n * k.n)).toList := by
      apply List.ext_getElem?
      intro i
      have e1 : (n + 1) * k.n = k.n + n * k.n := by rw [Nat.add_mul]; omega
      simp only [madeCells, Array.toList_map, Array.toList_range, List.getElem?_map, hs, e1]
      by_cases h1 : i < k.n
      · rw [List.getElem?_append_left (by simpa [hs] using h1), List.getElem?_range (by omega)]
        simp only [Option.map_some, Nat.mod_eq_of_lt h1]
        have : i < z.cells.size := by omega
        simp [getElem!_pos, this]
      · rw [List.getElem?_append_right (by simp [hs]; omega)]
        simp only [Array.length_toList, hs]
        by_cases h2 : i < k.n + n * k.n
        · rw [List.getElem?_range h2, List.getElem?_map, List.getElem?_range (by omega)]
          simp only [Option.map_some]
          rw [Nat.mod_eq_sub_mod (by omega)]
        · rw [List.getElem?_eq_none (by simp; omega), List.getElem?_eq_none (by simp; omega)]
          rfl
    rw [List.replicate_succ, this]
    exact ⟨_, _, rfl, hz.cells, ih⟩

theorem goes_makeSlice (hC : CfgOK C) (h : InvG X ⟨sl, ob⟩ a w γ) {t : TypeId} {n m : Operand} (ho : o.op = .makeSlice t n m) (he : (match C.kd t, C.el t, o.dst, evS (ev C sl) 0 n, evS (ev C sl) 0 m with
    | some (.sl k), some e, some d, some (.v (.int .i64) a), some (.v (.int .i64) b) => if C.kd e = some k then match ob.obj d with
        | none => if d < ob.length then some (some (.s (.osl d 0)), ob.setOb d (some (.row e k (List.replicate a.toNat k.z) 0 false)), [0 ≤ a, a ≤ (lim : Int), b = a]) else none
        | some _ => none
      else none
    | _, _, _, _, _ => none) = some (v, ob', ps)) (hp : All ps) : Goes C X sl o a w v ob' := by
  split at he
  · rename_i k e d x y hk het hd hn hm
    split at he
    · rename_i hke
      split at he
      · rename_i hod
        split at he
        · rename_i hlt
          simp only [Option.some.injEq, Prod.mk.injEq] at he
          obtain ⟨rfl, rfl, rfl⟩ := he
          have h0 : (0 : Int) ≤ x := hp.1
          have h1 : x ≤ (lim : Int) := hp.2.1
          have h2 : y = x := hp.2.2.1
          have en := RepV.int (evS_rep h hn)
          have em := RepV.int (evS_rep h hm)
          obtain ⟨i, z, hi, hs, hz, hb, hzr⟩ := (hC.kd _ _ hke).info
          have hb := hb (hC.eln _ _ _ het hke)
          have hx : ((Int.toNat x : Nat) : Int) = x := Int.toNat_of_nonneg h0
          have hle : Int.toNat x ≤ lim := Int.toNat_le.2 h1
          obtain ⟨w', hr, hown, hg⟩ := run_make_full (P := C.P) w w.heap.size t e i z k.n (hC.el _ _ het) hi hz hs .i64 .i64 (Int.toNat x) (by
            calc i.bytes * Int.toNat x ≤ 64 * 2 ^ 40 := Nat.mul_le_mul hb hle
              _ ≤ 281474976710656 := by decide) (by simp only [lim] at hle; simp only [maxLen]; omega) (Nat.le_refl _)
          rw [hx] at hr
          obtain ⟨h3, K, S⟩ := h.new hod hlt (o := .row e k (List.replicate (Int.toNat x) k.z) 0 false) (v := .slice (some ⟨w.heap.size, 0, none⟩) (Int.toNat x) (Int.toNat x)) hg (fun b hb => by simp [blk] at hb; omega)
            (fun B' K' => ⟨_, by
              refine ⟨by simpa using hown.1, ?_⟩
              rcases hown.2 with ⟨hn, _⟩ | ⟨g, cap, cur, e1, _, r⟩
              · cases hn
              · exact .inr ⟨g, cap, cur, by simpa using e1, Nat.zero_le _, by simpa using r⟩, RowsOf.zeros (hzr _ _) _⟩)
          exact Goes.value (by simp [execOp, ho, en, em, h2, hr]; rfl) h3 fun y hy => by
            cases hy
            exact ⟨⟨e, k, _, 0, false, by rw [obj_setOb _ _ _ _ hlt, if_pos rfl], Nat.le_refl _⟩, fun e2 k2 l2 z2 hi2 => by rw [upd_same]⟩
        · cases he
      · cases he
    · cases he
  · cases he

end Go.AI
end
