/- Operations over plain values, all of them. -/
import Derived.Test.YtmoodcnoncipiaaAiPure
set_option autoImplicit false
set_option linter.unusedVariables false
set_option linter.unusedSimpArgs false
namespace Go.AI

variable {C : Cfg} {w : World} {B : Nat → Prop}

theorem run_equal_nil {P : Program} {t e : TypeId} (he : P.underlying t = some (.pointer e)) (a : Option Addr) : (Op.equal t (.pointer a) (.pointer none)).run P w = .ok a.isNone w := by
  show (Op.equalIn (9999 + 1) t _ _).run P w = _
  rw [Op.equalIn]
  simp only [Sem.run_bind, run_underlying he, Result.andThen_ok]
  cases a <;> rfl

theorem run_equal_bool {P : Program} {t : TypeId} (he : P.underlying t = some .bool) (a b : Bool) : (Op.equal t (.bool a) (.bool b)).run P w = .ok (a == b) w := by
  show (Op.equalIn (9999 + 1) t _ _).run P w = _
  rw [Op.equalIn]
  simp only [Sem.run_bind, run_underlying he, Result.andThen_ok]
  rfl

theorem run_eqGuard_plain {P : Program} {op : BinOp} {t : TypeId} {a b : Operand} {x y : Value} (hx : ∀ c, x ≠ .agg c) (hn : x ≠ .nilIface) : (eqGuard op t a b x y).run P w = .ok () w := by
  unfold eqGuard
  cases op <;> cases x <;> simp_all

theorem abin_sound (hC : CfgOK C) {op : BinOp} {t : TypeId} {x y : SV} {r : SV} {ps : List Prop} (h : abin C op t x y = some (r, ps)) (hp : All ps) {u v : Value}
    (hx : SVRep w B x u) (hy : SVRep w B y v) (a b : Operand) :
    ∃ z, ((do eqGuard op t a b u v; binOp op t u v) : Sem Value).run C.P w = .ok z w ∧ SVRep w B r z := by
  unfold abin at h
  split at h
  · rename_i k n k' m
    have hu := RepV.int hx
    have hv := RepV.int hy
    subst hu hv
    split at h
    · simp only [Option.some.injEq, Prod.mk.injEq] at h
      obtain ⟨rfl, rfl⟩ := h
      have h00 : 0 ≤ m := hp.1
      have h0 : ¬ m < 0 := Int.not_lt.mpr h00
      exact ⟨_, by simp [eqGuard, binOp, Op.shift, h0], RepV.mk_int _ _⟩
    · simp only [Option.some.injEq, Prod.mk.injEq] at h
      obtain ⟨rfl, rfl⟩ := h
      have h00 : 0 ≤ m := hp.1
      have h0 : ¬ m < 0 := Int.not_lt.mpr h00
      exact ⟨_, by simp [eqGuard, binOp, Op.shift, h0], RepV.mk_int _ _⟩
    · split at h
      · rename_i e
        subst e
        exact abinI_sound h hp t a b
      · cases h
  · have hu := RepV.str hx
    have hv := RepV.str hy
    subst hu hv
    exact abinS_sound h hp t a b
  · split at h
    · rename_i hk
      have hv : v = .pointer none := RepV.tree hy
      subst hv
      obtain ⟨e, he⟩ := (hC.kd _ _ hk).desc
      rcases RepT.isLeaf (RepV.tree hx) with ⟨rfl, rfl⟩ | ⟨l, r', b', o', rfl, rfl⟩ <;> split at h <;> simp only [reduceCtorEq, Option.some.injEq, Prod.mk.injEq] at h
      all_goals
        obtain ⟨rfl, rfl⟩ := h
        exact ⟨_, by
          rw [Sem.run_bind, run_eqGuard_plain (by simp) (by simp)]
          simp only [Result.andThen_ok, binOp, Sem.run_bind, run_equal_nil he, Sem.run_pure]
          rfl, RepV.mk_bool _⟩
    · cases h
  · split at h
    · rename_i hk
      have hu := RepV.bool hx
      have hv := RepV.bool hy
      subst hu hv
      have he : C.P.underlying t = some .bool := (hC.kd _ _ hk).desc
      split at h <;> simp only [reduceCtorEq, Option.some.injEq, Prod.mk.injEq] at h
      all_goals
        obtain ⟨rfl, rfl⟩ := h
        exact ⟨_, by
          rw [Sem.run_bind, run_eqGuard_plain (by simp) (by simp)]
          simp only [Result.andThen_ok, binOp, Sem.run_bind, run_equal_bool he, Sem.run_pure], RepV.mk_bool _⟩
    · cases h
  · split at h
    · rename_i e
      subst e
      split at h
      · rename_i hk
        obtain ⟨hk, hq⟩ := hk
        simp only [castK_rfl] at h
        split at h <;> simp only [reduceCtorEq, Option.some.injEq, Prod.mk.injEq] at h
        · rename_i p hkeq
          obtain ⟨rfl, rfl⟩ := h
          exact ⟨_, ((hC.eq _ _ hq hk) w B _ _ u v p a b hx hy hkeq).1, RepV.mk_bool _⟩
        · rename_i p hkeq
          obtain ⟨rfl, rfl⟩ := h
          exact ⟨_, ((hC.eq _ _ hq hk) w B _ _ u v p a b hx hy hkeq).2, RepV.mk_bool _⟩
      · cases h
    · cases h
  · cases h

theorem decided_sound {it : It} {r : SV × List Prop} {r' : SV} {ps : List Prop} (h : decided it r = some (r', ps)) (hp : All ps) : All r.2 ∧ ∀ z, SVRep w B r.1 z → SVRep w B r' z := by
  unfold decided at h
  split at h
  · split at h
    · simp only [Option.some.injEq, Prod.mk.injEq] at h
      obtain ⟨rfl, rfl⟩ := h
      exact ⟨hp, fun _ h => h⟩
    · simp only [Option.some.injEq, Prod.mk.injEq] at h
      obtain ⟨rfl, rfl⟩ := h
      have := All.append.1 hp
      refine ⟨this.1, fun z hz => ?_⟩
      have e := this.2.1
      subst e
      exact hz
    · cases h
  · simp only [Option.some.injEq] at h
    subst h
    exact ⟨hp, fun _ h => h⟩

/-- A value at an address, loaded. -/
theorem run_loadAt (hC : CfgOK C) {t : TypeId} {k : Kd} (hk : C.kd t = some k) {x : k.ty} {u : Value} (h : RepA w B k x u) : ∃ z, (Instr.loadAt t u).run C.P w = .ok z w ∧ RepV w B k x z := by
  obtain ⟨ad, cs, rfl, hs, hr, hc, hb⟩ := h
  exact ⟨_, by simp [Instr.loadAt, Instr.sureAddr, (hC.kd _ _ hk).loadVar hr hc], cs, hr, rfl⟩

theorem RepA.node {l r : Tr} {u : Value} (h : RepT w B (.node l r) u) : RepA w B (.pr .tree .tree) (l, r) u := by
  obtain ⟨b, o, vl, vr, rfl, hb, h1, h2, hl, hr⟩ := h
  refine ⟨⟨b, o, none⟩, [vl, vr], rfl, rfl, ⟨[vl], [vr], rfl, ⟨vl, rfl, hl⟩, ⟨vr, rfl, hr⟩⟩, fun j u hj => ?_, hb⟩
  match j, hj with
  | 0, hj => simp at hj; subst hj; exact h1
  | 1, hj => simp at hj; subst hj; simpa [Addr.add] using h2

/-- A field's address. -/
theorem run_fieldAt (hC : CfgOK C) {s : TypeId} {k : Kd} (hk : C.kd s = some k) (hp : isPr k = true) (ht : k.thin = true) {x : k.ty} {u : Value} {f : Nat} {q : Kd} {y : q.ty} (h : RepA w B k x u) (hs : k.sel x f = some ⟨q, y⟩) :
    ∃ ad, u = .pointer (some ad) ∧ (Instr.fieldAt s u f).run C.P w = .ok (.pointer (some (ad.add f))) w ∧ RepA w B q y (.pointer (some (ad.add f))) := by
  obtain ⟨ad, cs, rfl, hsp, hr, hc, hb⟩ := h
  obtain ⟨hf, hq⟩ := Kd.sel_n ht hs
  obtain ⟨fs, fd, hu, hfd, ho, hsz, _⟩ := (hC.kd _ _ hk).field hp ht hf
  obtain ⟨c, hc0, hrc⟩ := RepK.sel ht hr hs
  refine ⟨ad, rfl, ?_, ad.add f, [c], rfl, Addr.add_spot _ _ hsp, hrc, fun j v hj => ?_, by rw [Addr.add_block]; exact hb⟩
  · simp [Instr.fieldAt, run_underlying hu, hfd, Instr.sureAddr, fieldPlace, hsz, ho]
  · match j, hj with
    | 0, hj => simp at hj; subst hj; rw [Addr.add_add _ _ _ hsp]; exact hc f c hc0

theorem Kd.sel_pr {k : Kd} {x : k.ty} {f : Nat} {q : Kd} {y : q.ty} (h : k.sel x f = some ⟨q, y⟩) (hp : isPr k = false) : q = k ∧ f = 0 := by
  cases k <;> simp [isPr] at hp <;> cases f <;> simp [Kd.sel] at h
  all_goals exact ⟨h.1.symm, rfl⟩

theorem run_sliceBound {k : IntKind} {n : Int} {y : Nat} {code : BoundsCode} (h0 : 0 ≤ n) (h1 : n ≤ (y : Int)) : (Instr.sliceBound (.int k n) y code).run C.P w = .ok n.toNat w := by
  simp [Instr.sliceBound, asIntOf, h0, h1]


/-- The bounds of a cut. -/
theorem bounds_sound {n : Nat} {lo hi : Bool} {xs : List SV} {l h : Int} {ps : List Prop} (hb : bounds n lo hi xs = some (l, h, ps)) (hp : All ps) {us : List Value} (hx : SVsRep w B xs us) :
    0 ≤ l ∧ l ≤ h ∧ h ≤ (n : Int) ∧ us = (if lo then [Value.int .i64 l] else []) ++ (if hi then [Value.int .i64 h] else []) ∧ (lo = false → l = 0) ∧ (hi = false → h = n) := by
  unfold bounds at hb
  split at hb <;> simp only [reduceCtorEq, Option.some.injEq, Prod.mk.injEq] at hb
  · obtain ⟨rfl, rfl, rfl⟩ := hb
    exact ⟨Int.le_refl _, by omega, Int.le_refl _, by simpa [SVsRep] using hx, fun _ => rfl, fun _ => rfl⟩
  · obtain ⟨rfl, rfl, rfl⟩ := hb
    obtain ⟨u, us', rfl, h1, h2⟩ := hx
    have e := RepV.int h1
    subst e
    have e2 : us' = [] := h2
    subst e2
    exact ⟨hp.1, hp.2.1, Int.le_refl _, by simp, by simp, fun _ => rfl⟩
  · obtain ⟨rfl, rfl, rfl⟩ := hb
    obtain ⟨u, us', rfl, h1, h2⟩ := hx
    have e := RepV.int h1
    subst e
    have e2 : us' = [] := h2
    subst e2
    exact ⟨Int.le_refl _, hp.1, hp.2.1, by simp, fun _ => rfl, by simp⟩
  · obtain ⟨rfl, rfl, rfl⟩ := hb
    obtain ⟨u, us', rfl, h1, u', us'', rfl, h2, h3⟩ := hx
    have e := RepV.int h1
    have e' := RepV.int h2
    subst e e'
    have e2 : us'' = [] := h3
    subst e2
    exact ⟨hp.1, hp.2.1, hp.2.2.1, by simp, by simp, by simp⟩

theorem run_sliceBounds (b : Bool) (len cap : Nat) (lo hi : Option Value) (l h : Int) (h0 : 0 ≤ l) (h1 : l ≤ h) (h2 : h ≤ (len : Int)) (hc : len ≤ cap)
    (hl : lo = some (.int .i64 l) ∨ lo = none ∧ l = 0) (hh : hi = some (.int .i64 h) ∨ hi = none ∧ h = len) :
    (Instr.sliceBounds b len cap lo hi none).run C.P w = .ok (l.toNat, h.toNat, cap) w := by
  have hcap : h ≤ (cap : Int) := by omega
  have e1 : (h.toNat : Int) = h := Int.toNat_of_nonneg (by omega)
  rcases hl with rfl | ⟨rfl, rfl⟩ <;> rcases hh with rfl | ⟨rfl, rfl⟩
  · simp [Instr.sliceBounds, run_sliceBound (C := C) (w := w) (show 0 ≤ h by omega) hcap, run_sliceBound (C := C) (w := w) (y := h.toNat) h0 (by omega)]
  · simp [Instr.sliceBounds, run_sliceBound (C := C) (w := w) h0 h1]
  · simp [Instr.sliceBounds, run_sliceBound (C := C) (w := w) (show 0 ≤ h by omega) hcap]
  · simp [Instr.sliceBounds]

theorem SVsRep.length : ∀ {xs : List SV} {us : List Value}, SVsRep w B xs us → us.length = xs.length
  | [], _, h => by rw [show _ = [] from h]; rfl
  | _ :: _, _, ⟨u, us, e, _, h⟩ => by rw [e]; simp [h.length]

end Go.AI
