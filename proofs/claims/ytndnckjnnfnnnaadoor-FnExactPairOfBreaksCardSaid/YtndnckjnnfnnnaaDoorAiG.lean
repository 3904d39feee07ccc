/- A part of the road: what it proves stands in its last texts. -/
import Derived.Test.YtndnckjnnfnnnaaDoorAiF
import Derived.KernelRfl
import Derived.Laws.Strings
import Derived.Laws.Strings2
import Derived.IntWalk
import Derived.Laws.StructEq
section
/- The tables of a program's kinds, checked by evaluation; what the printed theorems use. -/
set_option autoImplicit false
set_option linter.unusedVariables false
set_option linter.unusedSimpArgs false
namespace Go.AI

def rowsZ (z : List Value → Bool) (n : Nat) : Nat → List Value → Bool
  | 0, cs => cs.isEmpty
  | m + 1, cs => z (cs.take n) && rowsZ z n m (cs.drop n)

theorem rowsZ_rep {α : Type} {R : α → List Value → Prop} {z : List Value → Bool} {n : Nat} {x : α} (h : ∀ cs, z cs = true → R x cs) : ∀ {m : Nat} {cs : List Value}, rowsZ z n m cs = true → RowsOf R (List.replicate m x) cs
  | 0, cs, hz => by have : cs = [] := by simpa [rowsZ] using hz
                    exact this
  | m + 1, cs, hz => by
    simp only [rowsZ, Bool.and_eq_true] at hz
    exact ⟨cs.take n, cs.drop n, (List.take_append_drop n cs).symm, h _ hz.1, rowsZ_rep h hz.2⟩

/-- The zero value's cells. -/
def isZ : (k : Kd) → List Value → Bool
  | .int ik, [.int ik' n] => decide (ik' = ik) && decide (n = 0)
  | .bool, [.bool b] => !b
  | .str, [.string s] => s.data.size == 0
  | .tree, [.pointer none] => true
  | .sl _, [.slice none 0 0] => true
  | .pr a b, cs => isZ a (cs.take a.n) && isZ b (cs.drop a.n)
  | .arr m e, cs => rowsZ (isZ e) e.n (m + 2) cs
  | _, _ => false

theorem isZ_rep {w : World} {B : Nat → Prop} : ∀ {k : Kd} {cs : List Value}, isZ k cs = true → RepK w B k k.z cs := by
  intro k
  induction k with
  | int ik =>
    intro cs h
    unfold isZ at h
    split at h <;> try simp_all
    rename_i e0
    obtain ⟨rfl, rfl⟩ := h
    first | rfl | (cases e0; rfl) | (subst e0; rfl)
  | bool =>
    intro cs h
    unfold isZ at h
    split at h <;> simp_all
    rfl
  | str =>
    intro cs h
    unfold isZ at h
    split at h <;> simp_all
    rename_i s
    obtain ⟨d⟩ := s
    rfl
  | tree =>
    intro cs h
    unfold isZ at h
    split at h <;> simp_all
    exact ⟨_, rfl, rfl⟩
  | sl e _ =>
    intro cs h
    unfold isZ at h
    split at h <;> simp_all
    exact ⟨none, 0, [], rfl, Nat.le_refl _, rfl, fun _ => rfl, fun ad had => by cases had⟩
  | pr a b iha ihb =>
    intro cs h
    simp only [isZ, Bool.and_eq_true] at h
    exact ⟨_, _, (List.take_append_drop a.n cs).symm, iha h.1, ihb h.2⟩
  | arr m e ih =>
    intro cs h
    exact ⟨List.length_replicate, rowsZ_rep (fun cs => ih) h⟩

def notAggB : TypeDesc → Bool
  | .struct _ => false
  | .array _ _ => false
  | _ => true

theorem notAgg_of {d : TypeDesc} (h : notAggB d = true) : NotAgg d := by cases d <;> simp_all [notAggB, NotAgg]

def fieldB (P : Program) (f : Nat) (fd : Field) : Bool :=
  fd.offset == f && (match P.info? fd.type with | some j => j.size == 1 | none => false) && (match P.underlying fd.type with | some d => notAggB d | none => false)

def fieldsB (P : Program) : Nat → List Field → Bool
  | _, [] => true
  | i, fd :: fs => fieldB P i fd && fieldsB P (i + 1) fs

theorem fieldsB_get {P : Program} : ∀ {fs : List Field} {i : Nat}, fieldsB P i fs = true → ∀ {f : Nat} {fd : Field}, fs[f]? = some fd → fieldB P (i + f) fd = true
  | [], _, _, f, fd, h => by simp at h
  | x :: fs, i, h, 0, fd, he => by simp only [fieldsB, Bool.and_eq_true] at h; simp at he; subst he; exact h.1
  | x :: fs, i, h, f + 1, fd, he => by
    simp only [fieldsB, Bool.and_eq_true] at h
    have := fieldsB_get h.2 (f := f) (fd := fd) (by simpa using he)
    rwa [show i + 1 + f = i + (f + 1) by omega] at this

def descB (P : Program) (k : Kd) (d : Option TypeDesc) : Bool :=
  match k, d with
  | .int ik, some (.int ik') => decide (ik = ik')
  | .bool, some .bool => true
  | .str, some .string => true
  | .tree, some (.pointer _) => true
  | .sl _, some (.slice _) => true
  | .arr m _, some (.array n _) => decide (n = m + 2)
  | .pr a b, some (.struct fs) => !(Kd.pr a b).thin || (fs.size == (Kd.pr a b).n && fieldsB P 0 fs.toList)
  | _, _ => false

theorem descB_ok {P : Program} {k : Kd} {d : Option TypeDesc} (h : descB P k d = true) : DescOK P k d := by
  unfold descB at h
  split at h
  · simp only [decide_eq_true_eq] at h; subst h; rfl
  · rfl
  · rfl
  · exact ⟨_, rfl⟩
  · exact ⟨_, rfl⟩
  · simp only [decide_eq_true_eq] at h; subst h; exact ⟨_, rfl⟩
  · rename_i a b fs
    refine ⟨fs, rfl, fun ht => ?_⟩
    rw [ht] at h
    simp only [Bool.not_true, Bool.false_or, Bool.and_eq_true, beq_iff_eq] at h
    refine ⟨h.1, fun f fd hf => ?_⟩
    have h1 := fieldsB_get h.2 (f := f) (fd := fd) (by simpa using hf)
    simp only [fieldB, Bool.and_eq_true, beq_iff_eq, Nat.zero_add] at h1
    obtain ⟨⟨h2, h3⟩, h4⟩ := h1
    split at h3
    · rename_i j hj
      split at h4
      · rename_i d' hd
        exact ⟨h2, j, d', hj, by simpa using h3, hd, notAgg_of h4⟩
      · cases h4
    · cases h3
  · cases h

def kdB (P : Program) (t : TypeId) (k : Kd) : Bool :=
  (match P.info? t with
    | some i => i.size == k.n && (decide (i.bytes ≤ 64) || decide (8 < k.n)) && (match i.zero with
      | some (.agg cs) => isPr k && isZ k cs.toList
      | some z => !isPr k && isZ k [z]
      | none => false)
    | none => false) && descB P k (P.underlying t) && decide (k.n ≤ 64)

theorem kdB_ok {P : Program} {t : TypeId} {k : Kd} (h : kdB P t k = true) : KdOK P t k := by
  simp only [kdB, Bool.and_eq_true, decide_eq_true_eq] at h
  obtain ⟨⟨h1, h2⟩, h3⟩ := h
  refine ⟨?_, descB_ok h2, h3⟩
  split at h1
  · rename_i i hi
    simp only [Bool.and_eq_true, Bool.or_eq_true, beq_iff_eq, decide_eq_true_eq] at h1
    obtain ⟨⟨h4, h5⟩, h6⟩ := h1
    have h5 : k.n ≤ 8 → i.bytes ≤ 64 := fun h => by omega
    split at h6
    · rename_i cs hz
      simp only [Bool.and_eq_true] at h6
      exact ⟨i, _, hi, h4, hz, h5, fun w B => ⟨cs.toList, isZ_rep h6.2, by rw [mkV_pr h6.1]⟩⟩
    · rename_i z hz2 hz
      simp only [Bool.and_eq_true, Bool.not_eq_true'] at h6
      exact ⟨i, _, hi, h4, hz, h5, fun w B => ⟨[z], isZ_rep h6.2, by rw [mkV_one h6.1]⟩⟩
    · cases h6
  · cases h1

def elB (P : Program) (t e : TypeId) : Bool :=
  match P.underlying t with
  | some (.slice e') => e == e'
  | _ => false

def mapB (P : Program) (l : List (TypeId × Kd)) (t : TypeId) (k : Kd) : Bool :=
  (match k with
    | .bool => true
    | .int _ => true
    | _ => false) &&
  match P.underlying t with
  | some (.map kt e) => (match P.underlying kt with
    | some .string => true
    | _ => false) && decide (l.lookup e = some k)
  | _ => false

def tabB (P : Program) (l : List (TypeId × Kd)) (e : List (TypeId × TypeId)) (tn : TypeId) : Bool :=
  P.follows .mixedOrders && l.all (fun p => kdB P p.1 p.2) && e.all (fun p => elB P p.1 p.2) &&
  l.all (fun p => match p.2 with
    | .sl k => match e.lookup p.1 with
      | some el => decide (l.lookup el = some k)
      | none => false
    | _ => true) && decide (l.lookup tn = some (.pr .tree .tree)) &&
  e.all (fun p => match l.lookup p.2 with
    | some k => decide (k.n ≤ 8)
    | none => true) &&
  l.all (fun p => match p.2 with
    | .arr m k => match P.underlying p.1 with
      | some (.array n el) => decide (n = m + 2) && decide (l.lookup el = some k)
      | _ => false
    | _ => true)

theorem lookup_mem {α β : Type} [BEq α] [LawfulBEq α] : ∀ {l : List (α × β)} {a : α} {b : β}, l.lookup a = some b → (a, b) ∈ l
  | [], _, _, h => by cases h
  | (x, y) :: l, a, b, h => by
    simp only [List.lookup] at h
    split at h
    · rename_i hx
      cases h
      rw [eq_of_beq hx]
      exact List.mem_cons_self
    · exact List.mem_cons_of_mem _ (lookup_mem h)

theorem cfgOK_of {C : Cfg} {l : List (TypeId × Kd)} {e : List (TypeId × TypeId)} {m : List (TypeId × Kd)} (hk : C.kd = fun t => l.lookup t) (he : C.el = fun t => e.lookup t) (hm : C.mp = fun t => m.lookup t) (h : tabB C.P l e C.tn = true) (hmm : m.all (fun p => mapB C.P l p.1 p.2) = true)
    (heq : ∀ t k, C.eqs.contains t = true → C.kd t = some k → EqOK C.P t k) : CfgOK C := by
  simp only [tabB, Bool.and_eq_true, List.all_eq_true, decide_eq_true_eq] at h
  obtain ⟨⟨⟨⟨⟨⟨h1, h2⟩, h3⟩, h4⟩, h5⟩, h6⟩, h7⟩ := h
  refine ⟨h1, fun t k hk' => ?_, fun t d hd => ?_, fun t d k hd hk' => ?_, fun t m k hk' => ?_, fun t k hk' => ?_, fun t k hk' => ?_, by rw [hk]; exact h5, heq⟩
  · rw [hk] at hk'
    exact kdB_ok (h2 _ (lookup_mem hk'))
  · rw [he] at hd
    have := h3 _ (lookup_mem hd)
    simp only [elB] at this
    split at this
    · rename_i e' hu
      rw [hu, eq_of_beq this]
    · cases this
  · rw [he] at hd
    rw [hk] at hk'
    have := h6 _ (lookup_mem hd)
    simp only at this hk'
    rw [hk'] at this
    simpa using this
  · rw [hk] at hk' ⊢
    have := h7 _ (lookup_mem hk')
    simp only at this
    split at this
    · rename_i n el hel
      simp only [Bool.and_eq_true, decide_eq_true_eq] at this
      obtain ⟨rfl, h8⟩ := this
      exact ⟨el, hel, h8⟩
    · cases this
  · rw [hk] at hk'
    have := h4 _ (lookup_mem hk')
    simp only at this
    split at this
    · rename_i el hel
      exact ⟨el, by rw [he]; exact hel, by rw [hk]; simpa using this⟩
    · cases this
  · rw [hm] at hk'
    rw [hk]
    have := List.all_eq_true.1 hmm _ (lookup_mem hk')
    simp only [mapB, Bool.and_eq_true] at this
    obtain ⟨g1, g2⟩ := this
    refine ⟨?_, ?_⟩
    · split at g1
      · exact .inl rfl
      · exact .inr ⟨_, rfl⟩
      · cases g1
    · split at g2
      · rename_i kt el hu
        simp only [Bool.and_eq_true, decide_eq_true_eq] at g2
        obtain ⟨g3, g4⟩ := g2
        refine ⟨kt, el, hu, ?_, g4⟩
        split at g3
        · rename_i hs; exact hs
        · cases g3
      · cases g2

/-! ### What the printed theorems use -/

def mkSt (n : Nat) (sl : List (Nat × AV)) (ob : List (Nat × Ob)) : St := ⟨(List.range n).map fun i => sl.lookup i, (List.range n).map fun i => ob.lookup i⟩

/-- The bodies of the loops, in the text's order. -/
def loopsOf : Code → List Code
  | .seq a b => loopsOf a ++ loopsOf b
  | .cond _ a b => loopsOf a ++ loopsOf b
  | .block _ a => loopsOf a
  | .loop a => a :: loopsOf a
  | _ => []

def lb (f : Func) (i : Nat) : Code := match f.body with
  | some c => (loopsOf c).getD i .skip
  | none => .skip

theorem seq_t {a b : ByteArray} (h : a = b) : (a.toList == b.toList) = true := by rw [h]; exact beq_self_eq_true _
theorem seq_f {a b : ByteArray} (h : a ≠ b) : (a.toList == b.toList) = false := by
  rw [beq_eq_false_iff_ne]
  intro e
  rw [ByteArray.toList_eq, ByteArray.toList_eq] at e
  apply h
  obtain ⟨⟨x⟩⟩ := a
  obtain ⟨⟨y⟩⟩ := b
  simp only at e
  rw [e]
theorem nseq_t {a b : ByteArray} (h : a ≠ b) : (!(a.toList == b.toList)) = true := by rw [seq_f h]; rfl
theorem nseq_f {a b : ByteArray} (h : a = b) : (!(a.toList == b.toList)) = false := by rw [seq_t h]; rfl
theorem beq_t {a b : Int} (h : a = b) : (a == b) = true := beq_iff_eq.mpr h
theorem beq_f {a b : Int} (h : a ≠ b) : (a == b) = false := beq_eq_false_iff_ne.mpr h
theorem bne_t {a b : Int} (h : a ≠ b) : (a != b) = true := by unfold bne; rw [beq_f h]; rfl
theorem bne_f {a b : Int} (h : a = b) : (a != b) = false := by unfold bne; rw [beq_t h]; rfl

/-- A row of the call's own may be looked at only. -/
theorem SC.view {P : Program} {f : FuncId} {args : List AV} {e : TypeId} {k : Kd} {l : List k.ty} {outs : List MO} (h : SC P f args (.s (.own e k l)) outs) : SC P f args (.s (.v (.sl k) l)) outs := by
  refine ⟨h.1, fun w B vs mv hB hd ha => (h.2 w B vs mv hB hd ha).mono fun ee w' ⟨v, os, he, hf, hn, hos, hr, hm⟩ => ?_⟩
  have hA : ∀ b, After w B os b → After w B [] b := fun b hb => ⟨hb.1, by simp⟩
  refine ⟨v, [], he, hf, List.nodup_nil, by simp, ⟨OwnRow.view hr.1 hA fun b hb => ⟨.inr (hos b (by rw [hr.2, hb]; simp)), by simp⟩, rfl⟩, ?_⟩
  have hkeep : ∀ (os' : List MO) (us : List Value), MOsAt w' (After w B os) os' us → MOsAt w' (After w B []) os' us := by
    have K : Keeps w' w' (After w B os) (After w B []) := Keeps.of_sub hA
    intro os'
    induction os' with
    | nil => intro us h; exact h
    | cons m os' ih =>
      intro us ⟨u, us', e, h1, h2⟩
      refine ⟨u, us', e, ?_, ih us' h2⟩
      cases m
      · exact BoxAt.keep K h1 fun b _ => rfl
      · exact OwnRow.keep K h1 fun b _ => rfl
      · exact MapAt.keep h1 fun b _ => rfl
  exact hkeep _ _ hm

end Go.AI
end

section
/- '==' of structs. -/
set_option autoImplicit false
set_option linter.unusedVariables false
set_option linter.unusedSimpArgs false
namespace Go.AI

/-- A field that is compared: of one cell, of this kind. -/
def eqFieldB (P : Program) (k : Kd) (i : Nat) (fd : Field) : Bool :=
  decide (fd.name ≠ "_") && fd.offset == i && (match k, P.underlying fd.type with
    | .int ik, some (.int ik') => decide (ik' = ik)
    | .str, some .string => true
    | .bool, some .bool => true
    | _, _ => false)

/-- What a scalar is in the model. -/
def scal : (k : Kd) → k.ty → Value
  | .int ik, x => .int ik x
  | .str, x => .string x
  | .bool, x => .bool x
  | _, _ => undef

theorem eqField_run {P : Program} {k : Kd} {i : Nat} {fd : Field} (h : eqFieldB P k i fd = true) {x y : k.ty} {xs ys : Array Value} (hx : xs[i]? = some (scal k x)) (hy : ys[i]? = some (scal k y)) {p : Bool} (hp : keq k x y = some p) (d : Nat) (w : World) (fs : List Field) :
    (Op.eqFields (d + 1) xs ys (fd :: fs)).run P w = if p = true then (Op.eqFields (d + 1) xs ys fs).run P w else .ok false w := by
  simp only [eqFieldB, Bool.and_eq_true, decide_eq_true_eq, beq_iff_eq] at h
  obtain ⟨⟨hn, ho⟩, ht⟩ := h
  subst ho
  have hsc : (∃ ik, k = .int ik ∧ P.underlying fd.type = some (.int ik)) ∨ (k = .str ∧ P.underlying fd.type = some .string) ∨ (k = .bool ∧ P.underlying fd.type = some .bool) := by
    split at ht
    · rename_i ik ik' hu
      simp only [decide_eq_true_eq] at ht
      subst ht
      exact .inl ⟨_, rfl, hu⟩
    · rename_i hu; exact .inr (.inl ⟨rfl, hu⟩)
    · rename_i hu; exact .inr (.inr ⟨rfl, hu⟩)
    · cases ht
  have hpart : ∀ (zs : Array Value) (z : Value), zs[fd.offset]? = some z → (part fd.type zs fd.offset).run P w = .ok z w := by
    intro zs z hz
    rcases hsc with ⟨ik, _, hu⟩ | ⟨_, hu⟩ | ⟨_, hu⟩ <;> simp [part, isAgg, run_underlying hu, hz]
  have heq : (Op.equalIn (d + 1) fd.type (scal k x) (scal k y)).run P w = .ok p w := by
    rcases hsc with ⟨ik, rfl, hu⟩ | ⟨rfl, hu⟩ | ⟨rfl, hu⟩
    · simp only [keq, Option.some.injEq] at hp
      rw [← hp]
      exact run_equalIn_int w d _ _ _ _ _ hu
    · simp only [keq, Option.some.injEq] at hp
      rw [← hp]
      exact run_equalIn_string w d _ _ _ hu
    · simp only [keq, Option.some.injEq] at hp
      rw [← hp]
      exact run_equalIn_bool' w d _ _ _ hu
  simp only [Op.eqFields, hn, ne_eq, not_false_eq_true, if_true, Sem.run_bind, hpart _ _ hx, hpart _ _ hy, Result.andThen_ok, heq, Sem.run_ite]
  cases p <;> simp

/-- A struct type whose fields are all scalars. -/
def eqB (P : Program) (t : TypeId) : Kd → Bool
  | .pr a b => !P.stoodInHeld t && !P.eqGuardType P.depth t && (match P.underlying t with
    | some (.struct fs) => go (.pr a b) 0 fs.toList
    | _ => false)
  | _ => false
where go : Kd → Nat → List Field → Bool
  | .pr a b, i, fd :: fs => eqFieldB P a i fd && go b (i + 1) fs
  | k, i, [fd] => !isPr k && eqFieldB P k i fd
  | _, _, _ => false

theorem scal_of {P : Program} {k : Kd} {i : Nat} {fd : Field} (h : eqFieldB P k i fd = true) {w : World} {B : Nat → Prop} {x : k.ty} {cs : List Value} (hr : RepK w B k x cs) : cs = [scal k x] := by
  simp only [eqFieldB, Bool.and_eq_true] at h
  have ht := h.2
  split at ht
  · exact hr
  · exact hr
  · exact hr
  · cases ht

theorem go_run {P : Program} {w : World} {B : Nat → Prop} (d : Nat) : ∀ (k : Kd) (i : Nat) (fs : List Field), eqB.go P k i fs = true → ∀ (x y : k.ty) (cs ds pre pre2 : List Value) (p : Bool), RepK w B k x cs → RepK w B k y ds → pre.length = i → pre2.length = i → keq k x y = some p →
    (Op.eqFields (d + 1) (pre ++ cs).toArray (pre2 ++ ds).toArray fs).run P w = .ok p w := by
  intro k
  induction k with
  | pr a b iha ihb =>
    intro i fs h x y cs ds pre pre2 p hx hy h1 h2 hp
    cases fs with
    | nil => simp [eqB.go] at h
    | cons fd fs =>
      simp only [eqB.go, Bool.and_eq_true] at h
      obtain ⟨c1, c2, rfl, hx1, hx2⟩ := hx
      obtain ⟨d1, d2, rfl, hy1, hy2⟩ := hy
      have e1 := scal_of h.1 hx1
      have e2 := scal_of h.1 hy1
      subst e1; subst e2
      simp only [keq] at hp
      split at hp
      · rename_i p1 p2 hp1 hp2
        cases hp
        have g1 : (pre ++ ([scal a x.1] ++ c2)).toArray[i]? = some (scal a x.1) := by simp [← h1]
        have g2 : (pre2 ++ ([scal a y.1] ++ d2)).toArray[i]? = some (scal a y.1) := by simp [← h2]
        rw [eqField_run h.1 g1 g2 hp1]
        cases p1 with
        | true =>
          have := ihb (i + 1) fs h.2 x.2 y.2 c2 d2 (pre ++ [scal a x.1]) (pre2 ++ [scal a y.1]) p2 hx2 hy2 (by simp [h1]) (by simp [h2]) hp2
          simpa using this
        | false => simp
      · cases hp
  | _ =>
    intro i fs h x y cs ds pre pre2 p hx hy h1 h2 hp
    match fs, h with
    | [fd], h =>
      simp only [eqB.go, Bool.and_eq_true] at h
      have e1 := scal_of h.2 hx
      have e2 := scal_of h.2 hy
      subst e1; subst e2
      rw [eqField_run h.2 (by simp [← h1]) (by simp [← h2]) hp]
      cases p <;> simp [Op.eqFields]
    | [], h => simp [eqB.go] at h
    | _ :: _ :: _, h => simp [eqB.go] at h

theorem eqB_ok {P : Program} {t : TypeId} {k : Kd} (h : eqB P t k = true) : EqOK P t k := by
  intro w B x y u v p a b hu hv hp
  cases k with
  | pr q r =>
    simp only [eqB, Bool.and_eq_true, Bool.not_eq_true'] at h
    obtain ⟨⟨h1, h2⟩, h3⟩ := h
    split at h3
    · rename_i fs hfs
      have hf : P.fieldsOf t = fs := by unfold Program.fieldsOf; rw [hfs]
      obtain ⟨cs, hcs, rfl⟩ := hu
      obtain ⟨ds, hds, rfl⟩ := hv
      have hrun := go_run (P := P) 9999 (.pr q r) 0 fs.toList h3 x y cs ds [] [] p hcs hds rfl rfl hp
      simp only [List.nil_append] at hrun
      have hst : (Op.equalIn 10000 t (.agg cs.toArray) (.agg ds.toArray)).run P w = .ok p w := by
        rw [run_equalIn_struct w 9999 t _ _ (by rw [hf]; exact hfs) h1, hf]
        exact go_run (P := P) 9998 (.pr q r) 0 fs.toList h3 x y cs ds [] [] p hcs hds rfl rfl hp
      rw [mkV_pr rfl, mkV_pr rfl]
      constructor
      · simp only [Sem.run_bind, run_eqGuard_agg w _ _ _ _ _ _ h2, Result.andThen_ok, run_eql_struct, hst]
      · simp only [Sem.run_bind, run_eqGuard_agg w _ _ _ _ _ _ h2, Result.andThen_ok, run_neq_struct, hst]
    · cases h3
  | _ => simp [eqB] at h

theorem eqs_ok {C : Cfg} {l : List (TypeId × Kd)} (hk : C.kd = fun t => l.lookup t) (h : C.eqs.all (fun t => match l.lookup t with | some k => eqB C.P t k | none => true) = true) :
    ∀ t k, C.eqs.contains t = true → C.kd t = some k → EqOK C.P t k := by
  intro t k ht hkd
  have := List.all_eq_true.1 h t (by simpa using ht)
  rw [hk] at hkd
  simp only at hkd
  rw [hkd] at this
  exact eqB_ok this

end Go.AI
end

section
/- Strings as lists of bytes; numbers that fit. -/
set_option autoImplicit false
set_option linter.unusedVariables false
set_option linter.unusedSimpArgs false
namespace Go.AI

/-- A string of bytes. -/
def bs (l : List UInt8) : ByteArray := ⟨l.toArray⟩

theorem bs_ex (s : ByteArray) : ∃ l, s = bs l := ⟨s.data.toList, by obtain ⟨⟨x⟩⟩ := s; rfl⟩
theorem bs_inj {l m : List UInt8} : bs l = bs m ↔ l = m := by
  constructor
  · intro h
    have : (bs l).data.toList = (bs m).data.toList := by rw [h]
    exact this
  · intro h; rw [h]
theorem bs_size (l : List UInt8) : (bs l).size = l.length := rfl
theorem bs_append (l m : List UInt8) : bs l ++ bs m = bs (l ++ m) := by
  have h : (bs l ++ bs m).data.toList = l ++ m := by simp [bs]
  obtain ⟨k, hk⟩ := bs_ex (bs l ++ bs m)
  rw [hk] at h ⊢
  exact congrArg bs h
theorem bs_extract (l : List UInt8) (a b : Nat) : (bs l).extract a b = bs ((l.drop a).take (b - a)) := ByteArray.extract_mk l a b
theorem bs_bt (l : List UInt8) (j : Int) : bt (bs l) j = ((l.getD j.toNat 0).toNat : Int) := by
  simp [bt, bs]

theorem bt_cons (c : UInt8) (l : List UInt8) : bt (bs (c :: l)) 0 = (c.toNat : Int) := by rw [bs_bt]; rfl

theorem byte_eq (c d : UInt8) : ((c.toNat : Int) = (d.toNat : Int)) ↔ c = d := by
  constructor
  · intro h
    have : c.toNat = d.toNat := by omega
    exact UInt8.toNat_inj.mp this
  · intro h; rw [h]

theorem w64 {n : Int} (h0 : -9223372036854775808 ≤ n) (h1 : n ≤ 9223372036854775807) : IntKind.wrap .i64 n = n := IntWalk.i64_in n ⟨h0, h1⟩

/-! ### Trees' texts -/

def txt : Tr → List UInt8
  | .leaf => [46]
  | .node l r => 40 :: (txt l ++ txt r ++ [41])

def Tr.c : Tr → Nat
  | .leaf => 0
  | .node l r => 1 + l.c + r.c

def Tr.h : Tr → Nat
  | .leaf => 0
  | .node l r => 1 + max l.h r.h

theorem txt_len : ∀ t : Tr, (txt t).length = 3 * t.c + 1
  | .leaf => rfl
  | .node l r => by simp only [txt, List.length_cons, List.length_append, txt_len l, txt_len r, Tr.c, List.length_nil]; omega

theorem Tr.h_le : ∀ t : Tr, t.h ≤ t.c
  | .leaf => Nat.le_refl _
  | .node l r => by have := l.h_le; have := r.h_le; simp only [Tr.h, Tr.c]; omega

theorem txt_inj : ∀ (t u : Tr) (a b : List UInt8), txt t ++ a = txt u ++ b → t = u ∧ a = b
  | .leaf, .leaf, a, b, h => by simp [txt] at h; exact ⟨rfl, h⟩
  | .leaf, .node l r, a, b, h => by simp [txt] at h
  | .node l r, .leaf, a, b, h => by simp [txt] at h
  | .node l r, .node l' r', a, b, h => by
    simp only [txt, List.cons_append, List.cons.injEq, true_and, List.append_assoc] at h
    obtain ⟨rfl, h1⟩ := txt_inj l l' _ _ h
    obtain ⟨rfl, h2⟩ := txt_inj r r' _ _ h1
    simp at h2
    exact ⟨rfl, h2⟩

/-- Opening brackets. -/
theorem txt_count : ∀ t : Tr, (txt t).count 40 = t.c
  | .leaf => rfl
  | .node l r => by
    simp only [txt, List.count_cons, List.count_append, txt_count l, txt_count r, Tr.c]
    simp
    omega

/-- Reading a tree, at most so deep. -/
def pd : Nat → List UInt8 → Option (Tr × List UInt8)
  | 0, _ => none
  | _ + 1, [] => none
  | d + 1, c :: r => if c = 46 then some (.leaf, r) else if c = 40 then match pd d r with
      | none => none
      | some (L, r1) => match pd d r1 with
        | none => none
        | some (R, r2) => match r2 with
          | [] => none
          | c2 :: r3 => if c2 = 41 then some (.node L R, r3) else none
    else none

theorem pd_some : ∀ {d : Nat} {l r : List UInt8} {t : Tr}, pd d l = some (t, r) → l = txt t ++ r ∧ t.h < d
  | 0, l, r, t, h => by simp [pd] at h
  | d + 1, [], r, t, h => by simp [pd] at h
  | d + 1, c :: l, r, t, h => by
    simp only [pd] at h
    split at h
    · rename_i hc
      simp at h
      obtain ⟨rfl, rfl⟩ := h
      simp [txt, hc, Tr.h]
    · split at h
      · rename_i hc
        split at h
        · cases h
        · rename_i L r1 h1
          split at h
          · cases h
          · rename_i R r2 h2
            split at h
            · cases h
            · rename_i c2 r3
              split at h
              · rename_i hc2
                simp at h
                obtain ⟨rfl, rfl⟩ := h
                obtain ⟨e1, l1⟩ := pd_some h1
                obtain ⟨e2, l2⟩ := pd_some h2
                subst hc; subst hc2
                refine ⟨by rw [e1, e2]; simp [txt], ?_⟩
                simp only [Tr.h]; omega
              · cases h
      · cases h

theorem pd_txt : ∀ (t : Tr) (d : Nat) (r : List UInt8), t.h < d → pd d (txt t ++ r) = some (t, r)
  | t, 0, r, h => by omega
  | .leaf, d + 1, r, h => by simp [txt, pd]
  | .node L R, d + 1, r, h => by
    simp only [Tr.h] at h
    have h1 := pd_txt L d (txt R ++ ([41] ++ r)) (by omega)
    have h2 := pd_txt R d ([41] ++ r) (by omega)
    have e : txt (.node L R) ++ r = 40 :: (txt L ++ (txt R ++ ([41] ++ r))) := by simp [txt]
    rw [e]
    simp only [pd, h1, h2]
    simp

theorem pd_len {d : Nat} {l r : List UInt8} {t : Tr} (h : pd d l = some (t, r)) : r.length < l.length := by
  rw [(pd_some h).1]
  simp [txt_len]

end Go.AI
end
