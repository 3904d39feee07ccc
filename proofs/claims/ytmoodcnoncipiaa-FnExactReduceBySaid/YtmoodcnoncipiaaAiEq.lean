/- '==' of structs. -/
import Derived.Test.YtmoodcnoncipiaaAiCfg
import Derived.Laws.StructEq
set_option autoImplicit false
set_option linter.unusedVariables false
set_option linter.unusedSimpArgs false
namespace Go.AI

/-- A field that is compared: of one cell, of this kind. -/
def eqFieldB (P : Program) (k : Kd) (i : Nat) (fd : Field) : Bool :=
  decide (fd.name ≠ "_") && fd.offset == i && (match k, P.underlying fd.type with
    | .int ik, some (.int ik') => decide (ik' = ik)
    | .str, some .string => true
    | .bool, some .bool => true
    | _, _ => false)

/-- What a scalar is in the model. -/
def scal : (k : Kd) → k.ty → Value
  | .int ik, x => .int ik x
  | .str, x => .string x
  | .bool, x => .bool x
  | _, _ => undef

theorem eqField_run {P : Program} {k : Kd} {i : Nat} {fd : Field} (h : eqFieldB P k i fd = true) {x y : k.ty} {xs ys : Array Value} (hx : xs[i]? = some (scal k x)) (hy : ys[i]? = some (scal k y)) {p : Bool} (hp : keq k x y = some p) (d : Nat) (w : World) (fs : List Field) :
    (Op.eqFields (d + 1) xs ys (fd :: fs)).run P w = if p = true then (Op.eqFields (d + 1) xs ys fs).run P w else .ok false w := by
  simp only [eqFieldB, Bool.and_eq_true, decide_eq_true_eq, beq_iff_eq] at h
  obtain ⟨⟨hn, ho⟩, ht⟩ := h
  subst ho
  have hsc : (∃ ik, k = .int ik ∧ P.underlying fd.type = some (.int ik)) ∨ (k = .str ∧ P.underlying fd.type = some .string) ∨ (k = .bool ∧ P.underlying fd.type = some .bool) := by
    split at ht
    · rename_i ik ik' hu
      simp only [decide_eq_true_eq] at ht
      subst ht
      exact .inl ⟨_, rfl, hu⟩
    · rename_i hu; exact .inr (.inl ⟨rfl, hu⟩)
    · rename_i hu; exact .inr (.inr ⟨rfl, hu⟩)
    · cases ht
  have hpart : ∀ (zs : Array Value) (z : Value), zs[fd.offset]? = some z → (part fd.type zs fd.offset).run P w = .ok z w := by
    intro zs z hz
    rcases hsc with ⟨ik, _, hu⟩ | ⟨_, hu⟩ | ⟨_, hu⟩ <;> simp [part, isAgg, run_underlying hu, hz]
  have heq : (Op.equalIn (d + 1) fd.type (scal k x) (scal k y)).run P w = .ok p w := by
    rcases hsc with ⟨ik, rfl, hu⟩ | ⟨rfl, hu⟩ | ⟨rfl, hu⟩
    · simp only [keq, Option.some.injEq] at hp
      rw [← hp]
      exact run_equalIn_int w d _ _ _ _ _ hu
    · simp only [keq, Option.some.injEq] at hp
      rw [← hp]
      exact run_equalIn_string w d _ _ _ hu
    · simp only [keq, Option.some.injEq] at hp
      rw [← hp]
      exact run_equalIn_bool' w d _ _ _ hu
  simp only [Op.eqFields, hn, ne_eq, not_false_eq_true, if_true, Sem.run_bind, hpart _ _ hx, hpart _ _ hy, Result.andThen_ok, heq, Sem.run_ite]
  cases p <;> simp

/-- A struct type whose fields are all scalars. -/
def eqB (P : Program) (t : TypeId) : Kd → Bool
  | .pr a b => !P.stoodInHeld t && !P.eqGuardType P.depth t && (match P.underlying t with
    | some (.struct fs) => go (.pr a b) 0 fs.toList
    | _ => false)
  | _ => false
where go : Kd → Nat → List Field → Bool
  | .pr a b, i, fd :: fs => eqFieldB P a i fd && go b (i + 1) fs
  | k, i, [fd] => !isPr k && eqFieldB P k i fd
  | _, _, _ => false

theorem scal_of {P : Program} {k : Kd} {i : Nat} {fd : Field} (h : eqFieldB P k i fd = true) {w : World} {B : Nat → Prop} {x : k.ty} {cs : List Value} (hr : RepK w B k x cs) : cs = [scal k x] := by
  simp only [eqFieldB, Bool.and_eq_true] at h
  have ht := h.2
  split at ht
  · exact hr
  · exact hr
  · exact hr
  · cases ht

theorem go_run {P : Program} {w : World} {B : Nat → Prop} (d : Nat) : ∀ (k : Kd) (i : Nat) (fs : List Field), eqB.go P k i fs = true → ∀ (x y : k.ty) (cs ds pre pre2 : List Value) (p : Bool), RepK w B k x cs → RepK w B k y ds → pre.length = i → pre2.length = i → keq k x y = some p →
    (Op.eqFields (d + 1) (pre ++ cs).toArray (pre2 ++ ds).toArray fs).run P w = .ok p w := by
  intro k
  induction k with
  | pr a b iha ihb =>
    intro i fs h x y cs ds pre pre2 p hx hy h1 h2 hp
    cases fs with
    | nil => simp [eqB.go] at h
    | cons fd fs =>
      simp only [eqB.go, Bool.and_eq_true] at h
      obtain ⟨c1, c2, rfl, hx1, hx2⟩ := hx
      obtain ⟨d1, d2, rfl, hy1, hy2⟩ := hy
      have e1 := scal_of h.1 hx1
      have e2 := scal_of h.1 hy1
      subst e1; subst e2
      simp only [keq] at hp
      split at hp
      · rename_i p1 p2 hp1 hp2
        cases hp
        have g1 : (pre ++ ([scal a x.1] ++ c2)).toArray[i]? = some (scal a x.1) := by simp [← h1]
        have g2 : (pre2 ++ ([scal a y.1] ++ d2)).toArray[i]? = some (scal a y.1) := by simp [← h2]
        rw [eqField_run h.1 g1 g2 hp1]
        cases p1 with
        | true =>
          have := ihb (i + 1) fs h.2 x.2 y.2 c2 d2 (pre ++ [scal a x.1]) (pre2 ++ [scal a y.1]) p2 hx2 hy2 (by simp [h1]) (by simp [h2]) hp2
          simpa using this
        | false => simp
      · cases hp
  | _ =>
    intro i fs h x y cs ds pre pre2 p hx hy h1 h2 hp
    match fs, h with
    | [fd], h =>
      simp only [eqB.go, Bool.and_eq_true] at h
      have e1 := scal_of h.2 hx
      have e2 := scal_of h.2 hy
      subst e1; subst e2
      rw [eqField_run h.2 (by simp [← h1]) (by simp [← h2]) hp]
      cases p <;> simp [Op.eqFields]
    | [], h => simp [eqB.go] at h
    | _ :: _ :: _, h => simp [eqB.go] at h

theorem eqB_ok {P : Program} {t : TypeId} {k : Kd} (h : eqB P t k = true) : EqOK P t k := by
  intro w B x y u v p a b hu hv hp
  cases k with
  | pr q r =>
    simp only [eqB, Bool.and_eq_true, Bool.not_eq_true'] at h
    obtain ⟨⟨h1, h2⟩, h3⟩ := h
    split at h3
    · rename_i fs hfs
      have hf : P.fieldsOf t = fs := by unfold Program.fieldsOf; rw [hfs]
      obtain ⟨cs, hcs, rfl⟩ := hu
      obtain ⟨ds, hds, rfl⟩ := hv
      have hrun := go_run (P := P) 9999 (.pr q r) 0 fs.toList h3 x y cs ds [] [] p hcs hds rfl rfl hp
      simp only [List.nil_append] at hrun
      have hst : (Op.equalIn 10000 t (.agg cs.toArray) (.agg ds.toArray)).run P w = .ok p w := by
        rw [run_equalIn_struct w 9999 t _ _ (by rw [hf]; exact hfs) h1, hf]
        exact go_run (P := P) 9998 (.pr q r) 0 fs.toList h3 x y cs ds [] [] p hcs hds rfl rfl hp
      rw [mkV_pr rfl, mkV_pr rfl]
      constructor
      · simp only [Sem.run_bind, run_eqGuard_agg w _ _ _ _ _ _ h2, Result.andThen_ok, run_eql_struct, hst]
      · simp only [Sem.run_bind, run_eqGuard_agg w _ _ _ _ _ _ h2, Result.andThen_ok, run_neq_struct, hst]
    · cases h3
  | _ => simp [eqB] at h

theorem eqs_ok {C : Cfg} {l : List (TypeId × Kd)} (hk : C.kd = fun t => l.lookup t) (h : C.eqs.all (fun t => match l.lookup t with | some k => eqB C.P t k | none => true) = true) :
    ∀ t k, C.eqs.contains t = true → C.kd t = some k → EqOK C.P t k := by
  intro t k ht hkd
  have := List.all_eq_true.1 h t (by simpa using ht)
  rw [hk] at hkd
  simp only at hkd
  rw [hkd] at this
  exact eqB_ok this

end Go.AI
