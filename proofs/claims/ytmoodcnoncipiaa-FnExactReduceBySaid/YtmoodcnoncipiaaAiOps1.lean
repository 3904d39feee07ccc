/- One operation of the evaluator, one of the model: what is simple. -/
import Derived.Test.YtmoodcnoncipiaaAiInv
set_option autoImplicit false
set_option linter.unusedVariables false
set_option linter.unusedSimpArgs false
namespace Go.AI

variable {C : Cfg} {X : Ctx} {sl : List (Option AV)} {ob ob' : Obs} {a : Act} {w w' : World} {γ γ' : Nat → Value} {B B' : Nat → Prop}

/-- The operation leads from the state to the next one. -/
def Goes (C : Cfg) (X : Ctx) (sl : List (Option AV)) (o : Oper) (a : Act) (w : World) (v : Option AV) (ob' : Obs) : Prop :=
  ∀ Q', o.wp C.P a w (fun a' w' => Inv X (St.put ⟨sl, ob'⟩ o.dst v) a' w') Q'

theorem Goes.value {o : Oper} {v : Option AV} {u : Value} (hr : (execOp a.eval o).run C.P w = .ok (.value u) w') (h : InvG X ⟨sl, ob'⟩ a w' γ') (hv : ∀ x, v = some x → SlA w' (Bs X ob' γ') ob' γ' x u) :
    Goes C X sl o a w v ob' := fun Q' => by
  unfold Oper.wp
  rw [hr]
  exact ⟨γ', h.put hv⟩

theorem Goes.skip {o : Oper} (hr : (execOp a.eval o).run C.P w = .ok .skip w') (h : InvG X ⟨sl, ob'⟩ a w' γ') : Goes C X sl o a w none ob' := fun Q' => by
  unfold Oper.wp
  rw [hr]
  exact ⟨γ', h.put (v := none) (fun x hx => by cases hx)⟩

/-! ### Operands -/

theorem constSV_rep {ty : TypeId} {v : Value} {x : SV} (h : constSV C ty v = some x) : SlS w B ob γ x v := by
  unfold constSV at h
  split at h
  · cases h; exact RepV.mk_int _ _
  · cases h; exact RepV.mk_bool _
  · cases h; exact RepV.mk_str _
  · cases h; exact RepV.mk_tree rfl
  · split at h
    · cases h; rfl
    · cases h
  · cases h

theorem ev_rep (h : InvG X ⟨sl, ob⟩ a w γ) {ty : TypeId} {x : Operand} {v : AV} (hv : ev C sl ty x = some v) : SlA w (Bs X ob γ) ob γ v (a.eval x) := by
  cases x <;> simp only [ev, reduceCtorEq, Option.some.injEq] at hv
  · exact h.sl _ _ hv
  · rename_i c
    cases hc : constSV C ty c with
    | none => rw [hc] at hv; cases hv
    | some y => rw [hc] at hv; cases hv; exact constSV_rep hc
  · subst hv
    exact ⟨[], [], rfl, rfl, rfl⟩

theorem evS_rep (h : InvG X ⟨sl, ob⟩ a w γ) {ty : TypeId} {x : Operand} {v : SV} (hv : evS (ev C sl) ty x = some v) : SlS w (Bs X ob γ) ob γ v (a.eval x) := by
  unfold evS at hv
  split at hv
  · rename_i y hy
    cases hv
    exact ev_rep h hy
  · cases hv

theorem evSs_rep (h : InvG X ⟨sl, ob⟩ a w γ) : ∀ {xs : List Operand} {vs : List SV}, evSs (ev C sl) xs = some vs → SlL w (Bs X ob γ) ob γ vs (xs.map a.eval)
  | [], _, e => by cases e; rfl
  | x :: xs, _, e => by
    simp only [evSs] at e
    split at e
    · rename_i y ys hy hys
      cases e
      exact ⟨_, _, rfl, evS_rep h hy, evSs_rep h hys⟩
    · cases e

theorem SlL.noAlias (h : InvG X ⟨sl, ob⟩ a w γ) : ∀ {xs : List SV} {us : List Value}, SlL w B ob γ xs us → xs.any isAlias = false → SVsRep w B xs us
  | [], _, e, _ => e
  | x :: xs, _, ⟨u, us, e, h1, h2⟩, hn => by
    simp only [List.any_cons, Bool.or_eq_false_iff] at hn
    exact ⟨u, us, e, h.noAlias h1 hn.1, SlL.noAlias h h2 hn.2⟩

/-- A plain value in a slot. -/
theorem SVRep.slot {x : SV} {u : Value} (h : SVRep w B x u) : SlS w B ob γ x u := by
  cases x <;> simp only [SVRep] at h <;> exact h

/-! ### What goes into memory -/

theorem InvG.esc (h : InvG X ⟨sl, ob⟩ a w γ) {x y : SV} {u : Value} (hx : SlS w (Bs X ob γ) ob γ x u) (he : esc ob x = some (y, ob')) :
    ObLe ob ob' ∧ InvG X ⟨sl, ob'⟩ a w γ ∧ SVRep w (Bs X ob' γ) y u := by
  unfold Go.AI.esc at he
  split at he
  · rename_i z hz
    simp only [Option.some.injEq, Prod.mk.injEq] at he
    obtain ⟨rfl, rfl⟩ := he
    have hle := frz_le ob x
    refine ⟨hle, h.raise hle, h.plain hx hz (fun b hb => Bs.le hle hb) fun i o hi ho b hb => ⟨?_, fun j p hj hpz hbj => ?_⟩⟩
    · rcases h.fresh i o b ho hb with h1 | h1
      · exact .inr (.inl h1)
      · exact .inr (.inr h1)
    · by_cases e : j = i
      · subst e
        have hlt := obj_lt ho
        cases x <;> simp [svHas] at hi <;> simp only [Go.AI.plain, reduceCtorEq] at hz
        · rename_i i' f
          subst hi
          cases f <;> simp only [reduceCtorEq] at hz
          split at hz
          · rename_i k x z ho'
            simp only [frz, ho', obj_setOb _ _ _ _ hlt, if_true, Option.some.injEq] at hj
            subst hj
            simp [Ob.frz] at hpz
          · cases hz
        · subst hi
          split at hz
          · rename_i ho'
            simp only [frz, ho', obj_setOb _ _ _ _ hlt, if_true, Option.some.injEq] at hj
            subst hj
            simp [Ob.frz] at hpz
          · cases hz
      · obtain ⟨p', hp', _⟩ := hle.bwd j p hj
        exact h.dj i j o p' b ho hp' (Ne.symm e) hb hbj
  · cases he

theorem InvG.escK (h : InvG X ⟨sl, ob⟩ a w γ) {x : SV} {k : Kd} {z : k.ty} {u : Value} (hx : SlS w (Bs X ob γ) ob γ x u) (he : escK ob k x = some (z, ob')) :
    ObLe ob ob' ∧ InvG X ⟨sl, ob'⟩ a w γ ∧ RepV w (Bs X ob' γ) k z u := by
  unfold Go.AI.escK at he
  split at he
  · rename_i q y ob1 hy
    split at he
    · rename_i hq
      subst hq
      simp only [castK_rfl, Option.some.injEq, Prod.mk.injEq] at he
      obtain ⟨rfl, rfl⟩ := he
      exact h.esc hx hy
    · cases he
  · cases he

theorem SlS.raise (hle : ObLe ob ob') {x : SV} {u : Value} (h : SlS w (Bs X ob γ) ob γ x u) : SlS w (Bs X ob' γ) ob' γ x u :=
  SlS.keep (Keeps.of_sub fun b hb => Bs.le hle hb) hle.bwd hle.fwd h

/-! ### The world grows -/

theorem InvG.grow (h : InvG X ⟨sl, ob⟩ a w γ) (hg : w.grownBy w' none) : InvG X ⟨sl, ob⟩ a w' γ ∧ Keeps w w' (Bs X ob γ) (Bs X ob γ) := by
  have K : Keeps w w' (Bs X ob γ) (Bs X ob γ) := ⟨fun b hb hl => ⟨hb, hg.block b hl (by simp)⟩⟩
  exact ⟨⟨h.fr.grown hg (by simp), h.df, h.sz, fun i o hi => (h.ob i o hi).keep K fun b hb => hg.block b ((h.ob i o hi).lt hb) (by simp), h.dj, h.fresh, h.pm,
    fun t v ht => SlA.imp K (fun x u hx => SlS.keep K (fun i o hi => ⟨o, hi, o.le_refl⟩) (fun i o hi => ⟨o, hi, o.le_refl⟩) hx) (h.sl t v ht)⟩, K⟩

theorem InvG.newBlock (h : InvG X ⟨sl, ob⟩ a w γ) : Bs X ob γ w.heap.size :=
  ⟨.inr (.inl h.fr.size), fun i o hi _ hb => by have := (h.ob i o hi).lt hb; omega⟩

theorem run_newVar {P : Program} (t : TypeId) (v : Value) : (newVar t v).run P w = .ok ⟨w.heap.size, 0, none⟩ (w.alloc (.cells v.cells t)) := rfl

theorem cells_alloc (t : TypeId) (cs : Array Value) : CellsAt (w.alloc (.cells cs t)) ⟨w.heap.size, 0, none⟩ cs.toList := fun j u hj => by
  have hadd : (⟨w.heap.size, 0, none⟩ : Addr).add j = ⟨w.heap.size, j, none⟩ := by unfold Addr.add; split <;> simp_all
  rw [hadd]
  simp only [World.cell?, heap_alloc_new]
  simpa using hj

/-- A new node of a tree. -/
theorem InvG.node (h : InvG X ⟨sl, ob⟩ a w γ) {p : Tr × Tr} {v : Value} (hr : RepV w (Bs X ob γ) (.pr .tree .tree) p v) (t : TypeId) :
    InvG X ⟨sl, ob⟩ a (w.alloc (.cells v.cells t)) γ ∧ SlA (w.alloc (.cells v.cells t)) (Bs X ob γ) ob γ (.s (.v .tree (.node p.1 p.2))) (.pointer (some ⟨w.heap.size, 0, none⟩)) := by
  obtain ⟨h', K⟩ := h.grow (World.grownBy_alloc w (.cells v.cells t) none)
  refine ⟨h', RepV.mk_tree ?_⟩
  have hr' := hr.cells.keep K
  obtain ⟨c1, c2, e, ⟨v1, rfl, h1⟩, v2, rfl, h2⟩ := hr'
  have hc := cells_alloc (w := w) t v.cells
  rw [e] at hc
  exact ⟨w.heap.size, 0, v1, v2, rfl, h.newBlock, by simpa [Addr.add] using hc 0 v1 rfl, by simpa [Addr.add] using hc 1 v2 rfl, h1, h2⟩

/-- A new box. -/
theorem InvG.box (h : InvG X ⟨sl, ob⟩ a w γ) {k : Kd} {x : k.ty} {v : Value} (hr : RepV w (Bs X ob γ) k x v) (t : TypeId) {d : Nat} {y : SV} {v' : Option AV} {ps : List Prop}
    (hn : newOb ob d (.box k x false) (.adr d none) = some (v', ob', ps)) :
    ∃ γ', InvG X ⟨sl, ob'⟩ a (w.alloc (.cells v.cells t)) γ' ∧ ∀ z, v' = some z → SlA (w.alloc (.cells v.cells t)) (Bs X ob' γ') ob' γ' z (.pointer (some ⟨w.heap.size, 0, none⟩)) := by
  unfold newOb at hn
  split at hn
  · rename_i hd
    split at hn
    · rename_i hlt
      simp only [Option.some.injEq, Prod.mk.injEq] at hn
      obtain ⟨rfl, rfl, _⟩ := hn
      obtain ⟨h1, K, S⟩ := h.new hd hlt (o := .box k x false) (v := .pointer (some ⟨w.heap.size, 0, none⟩)) (World.grownBy_alloc w (.cells v.cells t) none) (fun b hb => by simp [blk] at hb; omega)
        (fun B' K' => ⟨w.heap.size, v.cells.toList, t, rfl, by rw [Array.toArray_toList]; exact heap_alloc_new w _, hr.cells.keep K'⟩)
      refine ⟨_, h1, fun z hz => ?_⟩
      cases hz
      exact ⟨⟨k, x, false, by rw [obj_setOb _ _ _ _ hlt, if_pos rfl]⟩, w.heap.size, upd_same _ _ _, rfl⟩
    · cases hn
  · cases hn

end Go.AI
