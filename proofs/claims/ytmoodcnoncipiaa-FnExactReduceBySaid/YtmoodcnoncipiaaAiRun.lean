/- What the model's operations do on plain values. -/
import Derived.Test.YtmoodcnoncipiaaAiExec
import Derived.Laws.Sem
import Derived.Laws.Tables
import Derived.Laws.Rows
import Derived.Laws.BytesString
set_option autoImplicit false
set_option linter.unusedVariables false
set_option linter.unusedSimpArgs false
namespace Go.AI

def NotAgg : TypeDesc → Prop
  | .struct _ => False
  | .array _ _ => False
  | _ => True

def DescOK (P : Program) : Kd → Option TypeDesc → Prop
  | .int ik, d => d = some (.int ik)
  | .bool, d => d = some .bool
  | .str, d => d = some .string
  | .tree, d => ∃ e, d = some (.pointer e)
  | .sl _, d => ∃ e, d = some (.slice e)
  | .pr a b, d => ∃ fs, d = some (.struct fs) ∧ ((Kd.pr a b).thin = true → fs.size = (Kd.pr a b).n ∧ ∀ (f : Nat) (fd : Field), fs[f]? = some fd →
      fd.offset = f ∧ ∃ j d, P.info? fd.type = some j ∧ j.size = 1 ∧ P.underlying fd.type = some d ∧ NotAgg d)

structure KdOK (P : Program) (t : TypeId) (k : Kd) : Prop where
  info : ∃ i z, P.info? t = some i ∧ i.size = k.n ∧ i.zero = some z ∧ i.bytes ≤ 64 ∧ ∀ w B, RepV w B k k.z z
  desc : DescOK P k (P.underlying t)
  small : k.n ≤ 64

/-- '==' of a struct type's values. -/
def EqOK (P : Program) (t : TypeId) (k : Kd) : Prop :=
  ∀ (w : World) (B : Nat → Prop) (x y : k.ty) (u v : Value) (p : Bool) (a b : Operand), RepV w B k x u → RepV w B k y v → keq k x y = some p →
    ((do eqGuard .eql t a b u v; binOp .eql t u v) : Sem Value).run P w = .ok (.bool p) w ∧ ((do eqGuard .neq t a b u v; binOp .neq t u v) : Sem Value).run P w = .ok (.bool (!p)) w

structure CfgOK (C : Cfg) : Prop where
  mixed : C.P.follows .mixedOrders = true
  kd : ∀ t k, C.kd t = some k → KdOK C.P t k
  el : ∀ t e, C.el t = some e → C.P.underlying t = some (.slice e)
  elk : ∀ t k, C.kd t = some (.sl k) → ∃ e, C.el t = some e ∧ C.kd e = some k
  tn : C.kd C.tn = some (.pr .tree .tree)
  eq : ∀ t k, C.eqs.contains t = true → C.kd t = some k → EqOK C.P t k

variable {P : Program} {w : World} {B : Nat → Prop}

theorem KdOK.isAgg {t : TypeId} {k : Kd} (h : KdOK P t k) (w : World) : (isAgg t).run P w = .ok (isPr k) w := by
  have hd := h.desc
  cases k <;> simp only [DescOK] at hd
  case tree | sl => obtain ⟨e, he⟩ := hd; simp [Go.isAgg, run_underlying he, isPr]
  case pr a b => obtain ⟨fs, he, _⟩ := hd; simp [Go.isAgg, run_underlying he, isPr]
  all_goals simp [Go.isAgg, run_underlying hd, isPr]

theorem KdOK.sizeOf {t : TypeId} {k : Kd} (h : KdOK P t k) (w : World) : (sizeOf t).run P w = .ok k.n w := by
  obtain ⟨i, z, hi, hs, _⟩ := h.info
  simp [Go.sizeOf, typeInfo, hi, hs]

theorem KdOK.zero {t : TypeId} {k : Kd} (h : KdOK P t k) (w : World) : ∃ z, (zeroValue t).run P w = .ok z w ∧ ∀ w' B, RepV w' B k k.z z := by
  obtain ⟨i, z, hi, hs, hz, _, hr⟩ := h.info
  exact ⟨z, by simp [zeroValue, typeInfo, hi, hz], hr⟩

theorem RepV.cells {k : Kd} {x : k.ty} {v : Value} (h : RepV w B k x v) : RepK w B k x v.cells.toList := by
  obtain ⟨cs, hr, rfl⟩ := h
  rw [mkV_cells hr]; exact hr

theorem RepV.size {k : Kd} {x : k.ty} {v : Value} (h : RepV w B k x v) : v.cells.size = k.n := by
  have := h.cells.length
  simpa using this

theorem mkV_one {k : Kd} (hk : isPr k = false) (c : Value) : mkV k [c] = c := by cases k <;> simp_all [mkV, isPr]

theorem mkV_pr {k : Kd} (hk : isPr k = true) (cs : List Value) : mkV k cs = .agg cs.toArray := by cases k <;> simp_all [mkV, isPr]

theorem run_loadCells_list' (ad : Addr) (cs : List Value) (h : CellsAt w ad cs) : (loadCells ad cs.length).run P w = .ok cs.toArray w := run_loadCells_list w ad cs h

theorem KdOK.loadVar {t : TypeId} {k : Kd} (h : KdOK P t k) {x : k.ty} {ad : Addr} {cs : List Value} (hr : RepK w B k x cs) (hc : CellsAt w ad cs) :
    (loadVar t ad).run P w = .ok (mkV k cs) w := by
  unfold Go.loadVar
  simp only [Sem.run_bind, h.isAgg, Result.andThen_ok]
  have hl := hr.length
  cases hk : isPr k with
  | true =>
    simp only [if_true, Sem.run_bind, h.sizeOf, Result.andThen_ok, ← hl, run_loadCells_list' ad cs hc, Sem.run_pure]
    cases k <;> simp_all [mkV, isPr]
  | false =>
    have h1 : k.n = 1 := by cases k <;> simp_all [Kd.n, isPr]
    match cs, hl.trans h1 with
    | [c], _ =>
      have h0 := hc 0 c rfl
      have e : ad.add 0 = ad := by simp [Addr.add]
      rw [e] at h0
      simp [mkV_one hk, load, Sem.run, h0]

theorem Kd.sel_n : ∀ {k : Kd} {x : k.ty} {f : Nat} {q : Kd} {y : q.ty}, k.thin = true → k.sel x f = some ⟨q, y⟩ → f < k.n ∧ isPr q = false
  | .pr a b, x, 0, q, y, ht, h => by
    simp only [Kd.thin, Bool.and_eq_true, beq_iff_eq] at ht
    simp only [Kd.sel, Option.some.injEq, Sigma.mk.injEq] at h
    obtain ⟨rfl, _⟩ := h
    refine ⟨by simp only [Kd.n]; have := a.n_pos; omega, ?_⟩
    cases a with
    | pr p q => exfalso; have := p.n_pos; have := q.n_pos; have h1 := ht.1; simp only [Kd.n] at h1; omega
    | _ => rfl
  | .pr a b, x, f + 1, q, y, ht, h => by
    simp only [Kd.thin, Bool.and_eq_true, beq_iff_eq] at ht
    simp only [Kd.sel] at h
    have := Kd.sel_n ht.2 h
    simp only [Kd.n]
    exact ⟨by omega, this.2⟩
  | .int _, x, 0, q, y, _, h | .bool, x, 0, q, y, _, h | .str, x, 0, q, y, _, h | .tree, x, 0, q, y, _, h | .sl _, x, 0, q, y, _, h => by
    simp only [Kd.sel, Option.some.injEq, Sigma.mk.injEq] at h
    obtain ⟨rfl, _⟩ := h
    exact ⟨by simp [Kd.n], rfl⟩
  | .int _, x, f + 1, q, y, _, h | .bool, x, f + 1, q, y, _, h | .str, x, f + 1, q, y, _, h | .tree, x, f + 1, q, y, _, h | .sl _, x, f + 1, q, y, _, h => by
    simp [Kd.sel] at h

/-- The field's cell. -/
theorem RepK.sel : ∀ {k : Kd} {x : k.ty} {cs : List Value} {f : Nat} {q : Kd} {y : q.ty}, k.thin = true → RepK w B k x cs → k.sel x f = some ⟨q, y⟩ → ∃ c, cs[f]? = some c ∧ RepK w B q y [c]
  | .pr a b, x, cs, 0, q, y, ht, ⟨c1, c2, e, h1, h2⟩, h => by
    simp only [Kd.thin, Bool.and_eq_true, beq_iff_eq] at ht
    simp only [Kd.sel, Option.some.injEq, Sigma.mk.injEq] at h
    obtain ⟨rfl, h⟩ := h
    obtain rfl := eq_of_heq h
    match c1, h1.length.trans ht.1 with
    | [c], _ => exact ⟨c, by rw [e]; rfl, h1⟩
  | .pr a b, x, cs, f + 1, q, y, ht, ⟨c1, c2, e, h1, h2⟩, h => by
    simp only [Kd.thin, Bool.and_eq_true, beq_iff_eq] at ht
    simp only [Kd.sel] at h
    obtain ⟨c, hc, hr⟩ := RepK.sel ht.2 h2 h
    match c1, h1.length.trans ht.1 with
    | [c0], _ => exact ⟨c, by rw [e]; simpa using hc, hr⟩
  | .int _, x, cs, 0, q, y, _, hr, h | .bool, x, cs, 0, q, y, _, hr, h | .str, x, cs, 0, q, y, _, hr, h | .tree, x, cs, 0, q, y, _, hr, h | .sl _, x, cs, 0, q, y, _, hr, h => by
    simp only [Kd.sel, Option.some.injEq, Sigma.mk.injEq] at h
    obtain ⟨rfl, h⟩ := h
    obtain rfl := eq_of_heq h
    match cs, hr.length with
    | [c], _ => exact ⟨c, rfl, hr⟩
  | .int _, x, cs, f + 1, q, y, _, _, h | .bool, x, cs, f + 1, q, y, _, _, h | .str, x, cs, f + 1, q, y, _, _, h | .tree, x, cs, f + 1, q, y, _, _, h | .sl _, x, cs, f + 1, q, y, _, _, h => by
    simp [Kd.sel] at h

/-- A struct type's field. -/
theorem KdOK.field {t : TypeId} {k : Kd} (h : KdOK P t k) (hp : isPr k = true) (ht : k.thin = true) {f : Nat} (hf : f < k.n) :
    ∃ fs fd, P.underlying t = some (.struct fs) ∧ fs[f]? = some fd ∧ fd.offset = f ∧ (∀ w, (Go.sizeOf fd.type).run P w = .ok 1 w) ∧ ∀ w, (Go.isAgg fd.type).run P w = .ok false w := by
  have hd := h.desc
  cases k <;> simp [isPr] at hp
  rename_i a b
  obtain ⟨fs, he, hx⟩ := hd
  obtain ⟨hs, hall⟩ := hx ht
  have hlt : f < fs.size := by rw [hs]; exact hf
  obtain ⟨ho, j, d, hj, hj1, hd, hn⟩ := hall f fs[f] (Array.getElem?_eq_getElem hlt)
  refine ⟨fs, fs[f], he, Array.getElem?_eq_getElem hlt, ho, fun w => ?_, fun w => ?_⟩
  · simp [Go.sizeOf, typeInfo, hj, hj1]
  · cases d <;> simp_all [Go.isAgg, run_underlying hd, NotAgg]

theorem Addr.add_spot (a : Addr) (n : Nat) (h : a.spot = none) : (a.add n).spot = none := by unfold Addr.add; split <;> simp_all
theorem Addr.add_add (a : Addr) (m n : Nat) (h : a.spot = none) : (a.add m).add n = a.add (m + n) := by
  obtain ⟨b, o, s⟩ := a
  simp only at h
  subst h
  unfold Addr.add
  split <;> split <;> split <;> simp_all <;> omega
theorem Addr.add_zero (a : Addr) : a.add 0 = a := rfl

theorem CellsAt.drop {ad : Addr} {cs : List Value} (hs : ad.spot = none) (h : CellsAt w ad cs) (m : Nat) : CellsAt w (ad.add m) (cs.drop m) := fun j u hj => by
  rw [Addr.add_add _ _ _ hs]
  exact h (m + j) u (by simpa using hj)

theorem CellsAt.take {ad : Addr} {cs : List Value} (h : CellsAt w ad cs) (m : Nat) : CellsAt w ad (cs.take m) := fun j u hj => by
  rw [List.getElem?_take] at hj
  split at hj
  · exact h j u hj
  · cases hj

end Go.AI
