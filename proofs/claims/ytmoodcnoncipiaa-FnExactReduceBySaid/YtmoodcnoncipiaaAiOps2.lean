/- One operation of the evaluator, one of the model: moves, boxes, loads, stores. -/
import Derived.Test.YtmoodcnoncipiaaAiOps1
set_option autoImplicit false
set_option linter.unusedVariables false
set_option linter.unusedSimpArgs false
namespace Go.AI

variable {C : Cfg} {X : Ctx} {sl : List (Option AV)} {ob ob' : Obs} {a : Act} {w w' : World} {γ γ' : Nat → Value} {B B' : Nat → Prop} {o : Oper} {v : Option AV} {ps : List Prop}

theorem moveStep_goes (h : InvG X ⟨sl, ob⟩ a w γ) {ty : TypeId} {x : Operand} (hm : moveStep (ev C sl) ob ty x = some (v, ob', ps)) (hr : (execOp a.eval o).run C.P w = .ok (.value (a.eval x)) w) :
    Goes C X sl o a w v ob' := by
  unfold moveStep at hm
  split at hm
  · rename_i y hy
    simp only [Option.some.injEq, Prod.mk.injEq] at hm
    obtain ⟨rfl, rfl, _⟩ := hm
    exact Goes.value hr h fun z hz => by cases hz; exact ev_rep h hy
  · cases hm

theorem goes_pick (h : InvG X ⟨sl, ob⟩ a w γ) {c x y : Operand} (ho : o.op = .pick c x y) (he : (match evS (ev C sl) 0 c with
    | some (.v .bool true) => moveStep (ev C sl) ob o.type x
    | some (.v .bool false) => moveStep (ev C sl) ob o.type y
    | _ => none) = some (v, ob', ps)) : Goes C X sl o a w v ob' := by
  split at he
  · rename_i hc
    have e := RepV.bool (evS_rep h hc)
    exact moveStep_goes h he (by simp [execOp, ho, e, asBool])
  · rename_i hc
    have e := RepV.bool (evS_rep h hc)
    exact moveStep_goes h he (by simp [execOp, ho, e, asBool])
  · cases he

theorem goes_alloc (hC : CfgOK C) (h : InvG X ⟨sl, ob⟩ a w γ) {t : TypeId} (ho : o.op = .alloc t) (he : (match C.kd t, o.dst with
    | some k, some d => if t = C.tn then some (some (.s (.v .tree (.node .leaf .leaf))), ob, []) else newOb ob d (.box k k.z false) (.adr d none)
    | _, _ => none) = some (v, ob', ps)) : Goes C X sl o a w v ob' := by
  split at he
  · rename_i k d hk hd
    obtain ⟨z, hz, hzr⟩ := (hC.kd _ _ hk).zero w
    have hrun : (execOp a.eval o).run C.P w = .ok (.value (.pointer (some ⟨w.heap.size, 0, none⟩))) (w.alloc (.cells z.cells t)) := by
      simp [execOp, ho, Instr.alloc, hz, run_newVar]
    split at he
    · rename_i ht
      subst ht
      rw [hC.tn] at hk
      cases hk
      simp only [Option.some.injEq, Prod.mk.injEq] at he
      obtain ⟨rfl, rfl, _⟩ := he
      obtain ⟨h1, h2⟩ := h.node (p := (.leaf, .leaf)) (hzr w (Bs X ob γ)) C.tn
      exact Goes.value hrun h1 fun z hz => by cases hz; exact h2
    · obtain ⟨γ', h1, h2⟩ := h.box (y := .adr d none) (hzr w (Bs X ob γ)) t he
      exact Goes.value hrun h1 h2
  · cases he

theorem goes_box (hC : CfgOK C) (h : InvG X ⟨sl, ob⟩ a w γ) {t : TypeId} {x : Operand} (ho : o.op = .box t x) (he : (match C.kd t, o.dst, evS (ev C sl) t x with
    | some k, some d, some y =>
      if t = C.tn then match y with
        | .v (.pr .tree .tree) p => some (some (.s (.v .tree (.node p.1 p.2))), ob, [])
        | _ => none
      else match escK ob k y with
        | some (z, ob') => newOb ob' d (.box k z false) (.adr d none)
        | none => none
    | _, _, _ => none) = some (v, ob', ps)) : Goes C X sl o a w v ob' := by
  split at he
  · rename_i k d y hk hd hy
    have hx := evS_rep h hy
    have hrun : (execOp a.eval o).run C.P w = .ok (.value (.pointer (some ⟨w.heap.size, 0, none⟩))) (w.alloc (.cells (a.eval x).cells t)) := by
      simp [execOp, ho, Instr.box, run_newVar]
    split at he
    · split at he
      · rename_i p
        simp only [Option.some.injEq, Prod.mk.injEq] at he
        obtain ⟨rfl, rfl, _⟩ := he
        obtain ⟨h1, h2⟩ := h.node (p := p) hx t
        exact Goes.value hrun h1 fun z hz => by cases hz; exact h2
      · cases he
    · split at he
      · rename_i z ob1 hz
        obtain ⟨hle, h1, hr⟩ := h.escK hx hz
        obtain ⟨γ', h2, h3⟩ := h1.box (y := .adr d none) hr t he
        exact Goes.value hrun h2 h3
      · cases he
  · cases he

theorem goes_nilCheck (h : InvG X ⟨sl, ob⟩ a w γ) {x : Operand} (ho : o.op = .nilCheck x) (he : (match evS (ev C sl) 0 x with
    | some (.v .tree (.node l r)) => some (some (.s (.v .tree (.node l r))), ob, [])
    | some (.fadr k y) => some (some (.s (.fadr k y)), ob, [])
    | some (.adr i f) => some (some (.s (.adr i f)), ob, [])
    | _ => none) = some (v, ob', ps)) : Goes C X sl o a w v ob' := by
  split at he
  · rename_i l r hx
    have hr := evS_rep h hx
    simp only [Option.some.injEq, Prod.mk.injEq] at he
    obtain ⟨rfl, rfl, _⟩ := he
    obtain ⟨b, o', vl, vr, e, _⟩ := RepV.tree hr
    exact Goes.value (u := a.eval x) (by simp [execOp, ho, e]) h fun z hz => by cases hz; exact hr
  · rename_i k y hx
    have hr := evS_rep h hx
    simp only [Option.some.injEq, Prod.mk.injEq] at he
    obtain ⟨rfl, rfl, _⟩ := he
    obtain ⟨ad, cs, e, _⟩ := hr
    exact Goes.value (u := a.eval x) (by simp [execOp, ho, e]) h fun z hz => by cases hz; exact evS_rep h hx
  · rename_i i f hx
    have hr := evS_rep h hx
    simp only [Option.some.injEq, Prod.mk.injEq] at he
    obtain ⟨rfl, rfl, _⟩ := he
    obtain ⟨_, b, _, e⟩ := hr
    exact Goes.value (u := a.eval x) (by simp [execOp, ho, e]) h fun z hz => by cases hz; exact evS_rep h hx
  · cases he

theorem SlL.get : ∀ {xs : List SV} {us : List Value} {i : Nat} {x : SV}, SlL w B ob γ xs us → xs[i]? = some x → ∃ u, us[i]? = some u ∧ SlS w B ob γ x u
  | [], _, i, x, _, hx => by simp at hx
  | y :: ys, _, 0, x, ⟨u, us, e, h1, h2⟩, hx => by
    simp at hx; subst hx; exact ⟨u, by rw [e]; rfl, h1⟩
  | y :: ys, _, i + 1, x, ⟨u, us, e, h1, h2⟩, hx => by
    obtain ⟨v, hv, hr⟩ := SlL.get h2 (show ys[i]? = some x by simpa using hx)
    exact ⟨v, by rw [e]; simpa using hv, hr⟩

theorem goes_extract (h : InvG X ⟨sl, ob⟩ a w γ) {x : Operand} {i : Nat} (ho : o.op = .extract x i) (he : (match ev C sl 0 x with
    | some (.tup l) => match l[i]? with
      | some v => some (some (.s v), ob, [])
      | none => none
    | _ => none) = some (v, ob', ps)) : Goes C X sl o a w v ob' := by
  split at he
  · rename_i l hx
    split at he
    · rename_i y hy
      simp only [Option.some.injEq, Prod.mk.injEq] at he
      obtain ⟨rfl, rfl, _⟩ := he
      obtain ⟨vs, e, hl⟩ := ev_rep h hx
      obtain ⟨u, hu, hr⟩ := hl.get hy
      exact Goes.value (u := u) (by simp [execOp, ho, e, Instr.extract, hu]) h fun z hz => by cases hz; exact hr
    · cases he
  · cases he

/-! ### What reads objects -/

theorem goes_load_alias (hC : CfgOK C) (h : InvG X ⟨sl, ob⟩ a w γ) {it : It} {t : TypeId} {x : Operand} (ho : o.op = .load t x) {xs : List SV} (hxs : SlL w (Bs X ob γ) ob γ xs [a.eval x])
    (he : aliasStep C it (.load t x) xs ob = some (v, ob', ps)) (hp : All ps) : Goes C X sl o a w v ob' := by
  simp only [aliasStep] at he
  split at he
  · rename_i i
    obtain ⟨u, us, e0, hx, _⟩ := hxs
    obtain ⟨rfl, _⟩ := List.cons.inj e0
    split at he
    · rename_i k y z hob
      split at he
      · rename_i hk
        simp only [Option.some.injEq, Prod.mk.injEq] at he
        obtain ⟨rfl, rfl, _⟩ := he
        obtain ⟨_, b, hb, e⟩ := hx
        obtain ⟨b', cs, t', e', hh, hr⟩ := h.ob _ _ hob
        rw [hb] at e'
        cases e'
        have hc : CellsAt w ⟨b, 0, none⟩ cs := fun j u hj => by
          have hadd : (⟨b, 0, none⟩ : Addr).add j = ⟨b, j, none⟩ := by unfold Addr.add; split <;> simp_all
          rw [hadd]; simp only [World.cell?, hh]; simpa using hj
        exact Goes.value (u := mkV k cs) (by simp [execOp, ho, e, Instr.loadAt, Instr.sureAddr, (hC.kd _ _ hk).loadVar hr hc]) h fun z hz => by cases hz; exact ⟨cs, hr, rfl⟩
      · cases he
    · cases he
  · rename_i i f
    obtain ⟨u, us, e0, hx, _⟩ := hxs
    obtain ⟨rfl, _⟩ := List.cons.inj e0
    split at he
    · rename_i k y z hob
      split at he
      · rename_i q y' hs
        split at he
        · rename_i hk
          simp only [Option.some.injEq, Prod.mk.injEq] at he
          obtain ⟨rfl, rfl, _⟩ := he
          obtain ⟨hk, ht⟩ := hk
          obtain ⟨_, b, hb, e⟩ := hx
          obtain ⟨b', cs, t', e', hh, hr⟩ := h.ob _ _ hob
          rw [hb] at e'
          cases e'
          obtain ⟨c, hc0, hrc⟩ := RepK.sel ht hr hs
          have hc : CellsAt w ⟨b, f, none⟩ [c] := fun j u hj => by
            match j, hj with
            | 0, hj => simp at hj; subst hj; simp [Addr.add, World.cell?, hh, hc0]
          have e1 : a.eval x = .pointer (some ⟨b, f, none⟩) := e
          exact Goes.value (u := mkV q [c]) (by simp [execOp, ho, e1, Instr.loadAt, Instr.sureAddr, (hC.kd _ _ hk).loadVar hrc hc]) h fun z hz => by cases hz; exact ⟨[c], hrc, rfl⟩
        · cases he
      · cases he
    · cases he
  · rename_i i ver j
    obtain ⟨u, us, e0, hx, _⟩ := hxs
    obtain ⟨rfl, _⟩ := List.cons.inj e0
    split at he
    · rename_i e k l ver' z hob
      split at he
      · rename_i hk
        simp only [Option.some.injEq, Prod.mk.injEq] at he
        obtain ⟨rfl, rfl, rfl⟩ := he
        obtain ⟨rfl, hk⟩ := hk
        obtain ⟨b, n, c, hg, e⟩ := hx.2 _ _ _ _ hob
        obtain ⟨flat, hown, hr⟩ := h.ob _ _ hob
        have hj : j < l.length := hp.1
        rcases hown.2 with ⟨hn, _⟩ | ⟨g, cap, cur, hv, _, hh, hnc, _, hcs, htake⟩
        · rw [hg] at hn; cases hn
        rw [hg] at hv
        cases hv
        have hfl := RowsOf.length hr
        have hle : (j + 1) * k.n ≤ flat.length := by rw [hfl]; exact Nat.mul_le_mul_right _ hj
        have hc : CellsAt w ⟨b, j * k.n, none⟩ ((flat.drop (j * k.n)).take k.n) := fun i u hi => by
          have hadd : (⟨b, j * k.n, none⟩ : Addr).add i = ⟨b, j * k.n + i, none⟩ := by unfold Addr.add; split <;> simp_all
          rw [hadd]
          simp only [World.cell?, hh]
          rw [List.getElem?_take] at hi
          split at hi
          · rw [List.getElem?_drop, ← htake, List.getElem?_take] at hi
            split at hi
            · simpa using hi
            · cases hi
          · cases hi
        have e1 : a.eval x = .pointer (some ⟨b, j * k.n, none⟩) := by simpa using e
        exact Goes.value (u := mkV k ((flat.drop (j * k.n)).take k.n)) (by simp [execOp, ho, e1, Instr.loadAt, Instr.sureAddr, (hC.kd _ _ hk).loadVar (RowsOf.get hr j hj k.z) hc]) h fun z hz => by cases hz; exact ⟨_, RowsOf.get hr j hj k.z, rfl⟩
      · cases he
    · cases he
  · rename_i i ver j f
    obtain ⟨u, us, e0, hx, _⟩ := hxs
    obtain ⟨rfl, _⟩ := List.cons.inj e0
    split at he
    · rename_i e k l ver' z hob
      split at he
      · rename_i q y hs
        split at he
        · rename_i hk
          simp only [Option.some.injEq, Prod.mk.injEq] at he
          obtain ⟨rfl, rfl, rfl⟩ := he
          obtain ⟨rfl, hk, ht⟩ := hk
          obtain ⟨b, n, c, hg, e⟩ := hx.2 _ _ _ _ hob
          obtain ⟨flat, hown, hr⟩ := h.ob _ _ hob
          have hj : j < l.length := hp.1
          rcases hown.2 with ⟨hn, _⟩ | ⟨g, cap, cur, hv, _, hh, hnc, _, hcs, htake⟩
          · rw [hg] at hn; cases hn
          rw [hg] at hv
          cases hv
          have hfl := RowsOf.length hr
          have hle : (j + 1) * k.n ≤ flat.length := by rw [hfl]; exact Nat.mul_le_mul_right _ hj
          obtain ⟨c0, hc0, hrc⟩ := RepK.sel ht (RowsOf.get hr j hj k.z) hs
          have hcf : w.cell? ⟨b, j * k.n + f, none⟩ = some c0 := by
            have hi := hc0
            simp only [World.cell?, hh]
            rw [List.getElem?_take] at hi
            split at hi
            · rw [List.getElem?_drop, ← htake, List.getElem?_take] at hi
              split at hi
              · simpa using hi
              · cases hi
            · cases hi
          have hc : CellsAt w ⟨b, j * k.n + f, none⟩ [c0] := fun i u hi => by
            match i, hi with
            | 0, hi => simp at hi; subst hi; rw [show (⟨b, j * k.n + f, none⟩ : Addr).add 0 = ⟨b, j * k.n + f, none⟩ by unfold Addr.add; split <;> simp_all]; exact hcf
          have e1 : a.eval x = .pointer (some ⟨b, j * k.n + f, none⟩) := by simpa using e
          exact Goes.value (u := mkV q [c0]) (by simp [execOp, ho, e1, Instr.loadAt, Instr.sureAddr, (hC.kd _ _ hk).loadVar hrc hc]) h fun z hz => by cases hz; exact ⟨[c0], hrc, rfl⟩
        · cases he
      · cases he
    · cases he
  · cases he

theorem goes_fieldAddr_alias (hC : CfgOK C) (h : InvG X ⟨sl, ob⟩ a w γ) {it : It} {s : TypeId} {x : Operand} {f : Nat} (ho : o.op = .fieldAddr s x f) {xs : List SV} (hxs : SlL w (Bs X ob γ) ob γ xs [a.eval x])
    (he : aliasStep C it (.fieldAddr s x f) xs ob = some (v, ob', ps)) : Goes C X sl o a w v ob' := by
  simp only [aliasStep] at he
  split at he
  · rename_i i ver j
    obtain ⟨u, us, e0, hx, _⟩ := hxs
    obtain ⟨rfl, _⟩ := List.cons.inj e0
    split at he
    · rename_i e k l ver' z hob
      split at he
      · rename_i q hs
        obtain ⟨q, y'⟩ := q
        split at he
        · rename_i hk
          simp only [Option.some.injEq, Prod.mk.injEq] at he
          obtain ⟨rfl, rfl, _⟩ := he
          obtain ⟨rfl, hk, hp, ht⟩ := hk
          obtain ⟨h1, h2⟩ := hx
          obtain ⟨b, n, c, hg, e⟩ := h2 _ _ _ _ hob
          obtain ⟨hf, _⟩ := Kd.sel_n ht hs
          obtain ⟨fs, fd, hu, hfd, hoff, hsz, _⟩ := (hC.kd _ _ hk).field hp ht hf
          have e1 : a.eval x = .pointer (some ⟨b, j * k.n, none⟩) := by simpa using e
          have hadd : (⟨b, j * k.n, none⟩ : Addr).add f = ⟨b, j * k.n + f, none⟩ := by unfold Addr.add; split <;> simp_all
          exact Goes.value (u := .pointer (some ⟨b, j * k.n + f, none⟩)) (by simp [execOp, ho, e1, Instr.fieldAt, run_underlying hu, hfd, Instr.sureAddr, fieldPlace, hsz, hoff, hadd]) h fun z hz => by
            cases hz
            refine ⟨h1, fun e' k' l' z' hob' => ?_⟩
            rw [hob] at hob'
            cases hob'
            exact ⟨b, n, c, hg, rfl⟩
        · cases he
      · cases he
    · cases he
  · rename_i i
    obtain ⟨u, us, e0, hx, _⟩ := hxs
    obtain ⟨rfl, _⟩ := List.cons.inj e0
    split at he
    · rename_i k y z hob
      split at he
      · rename_i q hs
        obtain ⟨q, y'⟩ := q
        split at he
        · rename_i hk
          simp only [Option.some.injEq, Prod.mk.injEq] at he
          obtain ⟨rfl, rfl, _⟩ := he
          obtain ⟨hk, hp, ht⟩ := hk
          obtain ⟨h1, b, hb, e⟩ := hx
          obtain ⟨hf, _⟩ := Kd.sel_n ht hs
          obtain ⟨fs, fd, hu, hfd, hoff, hsz, _⟩ := (hC.kd _ _ hk).field hp ht hf
          have e1 : a.eval x = .pointer (some ⟨b, 0, none⟩) := e
          have hadd : (⟨b, 0, none⟩ : Addr).add f = ⟨b, f, none⟩ := by unfold Addr.add; split <;> simp_all
          exact Goes.value (u := .pointer (some ⟨b, f, none⟩)) (by simp [execOp, ho, e1, Instr.fieldAt, run_underlying hu, hfd, Instr.sureAddr, fieldPlace, hsz, hoff, hadd]) h fun z hz => by
            cases hz; exact ⟨h1, b, hb, rfl⟩
        · cases he
      · cases he
    · cases he
  · cases he

end Go.AI
