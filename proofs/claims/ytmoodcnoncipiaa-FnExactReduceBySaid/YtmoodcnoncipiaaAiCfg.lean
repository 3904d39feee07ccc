/- The tables of a program's kinds, checked by evaluation; what the printed theorems use. -/
import Derived.Test.YtmoodcnoncipiaaAiRunH
import Derived.KernelRfl
import Derived.Laws.Strings
import Derived.Laws.Strings2
import Derived.IntWalk
set_option autoImplicit false
set_option linter.unusedVariables false
set_option linter.unusedSimpArgs false
namespace Go.AI

/-- The zero value's cells. -/
def isZ : (k : Kd) → List Value → Bool
  | .int ik, [.int ik' n] => decide (ik' = ik) && decide (n = 0)
  | .bool, [.bool b] => !b
  | .str, [.string s] => s.data.size == 0
  | .tree, [.pointer none] => true
  | .sl _, [.slice none 0 0] => true
  | .pr a b, cs => isZ a (cs.take a.n) && isZ b (cs.drop a.n)
  | _, _ => false

theorem isZ_rep {w : World} {B : Nat → Prop} : ∀ {k : Kd} {cs : List Value}, isZ k cs = true → RepK w B k k.z cs := by
  intro k
  induction k with
  | int ik =>
    intro cs h
    unfold isZ at h
    split at h <;> try simp_all
    rename_i e0
    obtain ⟨rfl, rfl⟩ := h
    first | rfl | (cases e0; rfl) | (subst e0; rfl)
  | bool =>
    intro cs h
    unfold isZ at h
    split at h <;> simp_all
    rfl
  | str =>
    intro cs h
    unfold isZ at h
    split at h <;> simp_all
    rename_i s
    obtain ⟨d⟩ := s
    rfl
  | tree =>
    intro cs h
    unfold isZ at h
    split at h <;> simp_all
    exact ⟨_, rfl, rfl⟩
  | sl e _ =>
    intro cs h
    unfold isZ at h
    split at h <;> simp_all
    exact ⟨none, 0, [], rfl, Nat.le_refl _, rfl, fun _ => rfl, fun ad had => by cases had⟩
  | pr a b iha ihb =>
    intro cs h
    simp only [isZ, Bool.and_eq_true] at h
    exact ⟨_, _, (List.take_append_drop a.n cs).symm, iha h.1, ihb h.2⟩

def notAggB : TypeDesc → Bool
  | .struct _ => false
  | .array _ _ => false
  | _ => true

theorem notAgg_of {d : TypeDesc} (h : notAggB d = true) : NotAgg d := by cases d <;> simp_all [notAggB, NotAgg]

def fieldB (P : Program) (f : Nat) (fd : Field) : Bool :=
  fd.offset == f && (match P.info? fd.type with | some j => j.size == 1 | none => false) && (match P.underlying fd.type with | some d => notAggB d | none => false)

def fieldsB (P : Program) : Nat → List Field → Bool
  | _, [] => true
  | i, fd :: fs => fieldB P i fd && fieldsB P (i + 1) fs

theorem fieldsB_get {P : Program} : ∀ {fs : List Field} {i : Nat}, fieldsB P i fs = true → ∀ {f : Nat} {fd : Field}, fs[f]? = some fd → fieldB P (i + f) fd = true
  | [], _, _, f, fd, h => by simp at h
  | x :: fs, i, h, 0, fd, he => by simp only [fieldsB, Bool.and_eq_true] at h; simp at he; subst he; exact h.1
  | x :: fs, i, h, f + 1, fd, he => by
    simp only [fieldsB, Bool.and_eq_true] at h
    have := fieldsB_get h.2 (f := f) (fd := fd) (by simpa using he)
    rwa [show i + 1 + f = i + (f + 1) by omega] at this

def descB (P : Program) (k : Kd) (d : Option TypeDesc) : Bool :=
  match k, d with
  | .int ik, some (.int ik') => decide (ik = ik')
  | .bool, some .bool => true
  | .str, some .string => true
  | .tree, some (.pointer _) => true
  | .sl _, some (.slice _) => true
  | .pr a b, some (.struct fs) => !(Kd.pr a b).thin || (fs.size == (Kd.pr a b).n && fieldsB P 0 fs.toList)
  | _, _ => false

theorem descB_ok {P : Program} {k : Kd} {d : Option TypeDesc} (h : descB P k d = true) : DescOK P k d := by
  unfold descB at h
  split at h
  · simp only [decide_eq_true_eq] at h; subst h; rfl
  · rfl
  · rfl
  · exact ⟨_, rfl⟩
  · exact ⟨_, rfl⟩
  · rename_i a b fs
    refine ⟨fs, rfl, fun ht => ?_⟩
    rw [ht] at h
    simp only [Bool.not_true, Bool.false_or, Bool.and_eq_true, beq_iff_eq] at h
    refine ⟨h.1, fun f fd hf => ?_⟩
    have h1 := fieldsB_get h.2 (f := f) (fd := fd) (by simpa using hf)
    simp only [fieldB, Bool.and_eq_true, beq_iff_eq, Nat.zero_add] at h1
    obtain ⟨⟨h2, h3⟩, h4⟩ := h1
    split at h3
    · rename_i j hj
      split at h4
      · rename_i d' hd
        exact ⟨h2, j, d', hj, by simpa using h3, hd, notAgg_of h4⟩
      · cases h4
    · cases h3
  · cases h

def kdB (P : Program) (t : TypeId) (k : Kd) : Bool :=
  (match P.info? t with
    | some i => i.size == k.n && decide (i.bytes ≤ 64) && (match i.zero with
      | some (.agg cs) => isPr k && isZ k cs.toList
      | some z => !isPr k && isZ k [z]
      | none => false)
    | none => false) && descB P k (P.underlying t) && decide (k.n ≤ 64)

theorem kdB_ok {P : Program} {t : TypeId} {k : Kd} (h : kdB P t k = true) : KdOK P t k := by
  simp only [kdB, Bool.and_eq_true, decide_eq_true_eq] at h
  obtain ⟨⟨h1, h2⟩, h3⟩ := h
  refine ⟨?_, descB_ok h2, h3⟩
  split at h1
  · rename_i i hi
    simp only [Bool.and_eq_true, beq_iff_eq, decide_eq_true_eq] at h1
    obtain ⟨⟨h4, h5⟩, h6⟩ := h1
    split at h6
    · rename_i cs hz
      simp only [Bool.and_eq_true] at h6
      exact ⟨i, _, hi, h4, hz, h5, fun w B => ⟨cs.toList, isZ_rep h6.2, by rw [mkV_pr h6.1]⟩⟩
    · rename_i z hz2 hz
      simp only [Bool.and_eq_true, Bool.not_eq_true'] at h6
      exact ⟨i, _, hi, h4, hz, h5, fun w B => ⟨[z], isZ_rep h6.2, by rw [mkV_one h6.1]⟩⟩
    · cases h6
  · cases h1

def elB (P : Program) (t e : TypeId) : Bool :=
  match P.underlying t with
  | some (.slice e') => e == e'
  | _ => false

def tabB (P : Program) (l : List (TypeId × Kd)) (e : List (TypeId × TypeId)) (tn : TypeId) : Bool :=
  P.follows .mixedOrders && l.all (fun p => kdB P p.1 p.2) && e.all (fun p => elB P p.1 p.2) &&
  l.all (fun p => match p.2 with
    | .sl k => match e.lookup p.1 with
      | some el => decide (l.lookup el = some k)
      | none => false
    | _ => true) && decide (l.lookup tn = some (.pr .tree .tree))

theorem lookup_mem {α β : Type} [BEq α] [LawfulBEq α] : ∀ {l : List (α × β)} {a : α} {b : β}, l.lookup a = some b → (a, b) ∈ l
  | [], _, _, h => by cases h
  | (x, y) :: l, a, b, h => by
    simp only [List.lookup] at h
    split at h
    · rename_i hx
      cases h
      rw [eq_of_beq hx]
      exact List.mem_cons_self
    · exact List.mem_cons_of_mem _ (lookup_mem h)

theorem cfgOK_of {C : Cfg} {l : List (TypeId × Kd)} {e : List (TypeId × TypeId)} (hk : C.kd = fun t => l.lookup t) (he : C.el = fun t => e.lookup t) (h : tabB C.P l e C.tn = true)
    (heq : ∀ t k, C.eqs.contains t = true → C.kd t = some k → EqOK C.P t k) : CfgOK C := by
  simp only [tabB, Bool.and_eq_true, List.all_eq_true, decide_eq_true_eq] at h
  obtain ⟨⟨⟨⟨h1, h2⟩, h3⟩, h4⟩, h5⟩ := h
  refine ⟨h1, fun t k hk' => ?_, fun t d hd => ?_, fun t k hk' => ?_, by rw [hk]; exact h5, heq⟩
  · rw [hk] at hk'
    exact kdB_ok (h2 _ (lookup_mem hk'))
  · rw [he] at hd
    have := h3 _ (lookup_mem hd)
    simp only [elB] at this
    split at this
    · rename_i e' hu
      rw [hu, eq_of_beq this]
    · cases this
  · rw [hk] at hk'
    have := h4 _ (lookup_mem hk')
    simp only at this
    split at this
    · rename_i el hel
      exact ⟨el, by rw [he]; exact hel, by rw [hk]; simpa using this⟩
    · cases this

/-! ### What the printed theorems use -/

def mkSt (n : Nat) (sl : List (Nat × AV)) (ob : List (Nat × Ob)) : St := ⟨(List.range n).map fun i => sl.lookup i, (List.range n).map fun i => ob.lookup i⟩

/-- The bodies of the loops, in the text's order. -/
def loopsOf : Code → List Code
  | .seq a b => loopsOf a ++ loopsOf b
  | .cond _ a b => loopsOf a ++ loopsOf b
  | .block _ a => loopsOf a
  | .loop a => a :: loopsOf a
  | _ => []

def lb (f : Func) (i : Nat) : Code := match f.body with
  | some c => (loopsOf c).getD i .skip
  | none => .skip

theorem seq_t {a b : ByteArray} (h : a = b) : (a.toList == b.toList) = true := by rw [h]; exact beq_self_eq_true _
theorem seq_f {a b : ByteArray} (h : a ≠ b) : (a.toList == b.toList) = false := by
  rw [beq_eq_false_iff_ne]
  intro e
  rw [ByteArray.toList_eq, ByteArray.toList_eq] at e
  apply h
  obtain ⟨⟨x⟩⟩ := a
  obtain ⟨⟨y⟩⟩ := b
  simp only at e
  rw [e]
theorem nseq_t {a b : ByteArray} (h : a ≠ b) : (!(a.toList == b.toList)) = true := by rw [seq_f h]; rfl
theorem nseq_f {a b : ByteArray} (h : a = b) : (!(a.toList == b.toList)) = false := by rw [seq_t h]; rfl
theorem beq_t {a b : Int} (h : a = b) : (a == b) = true := beq_iff_eq.mpr h
theorem beq_f {a b : Int} (h : a ≠ b) : (a == b) = false := beq_eq_false_iff_ne.mpr h
theorem bne_t {a b : Int} (h : a ≠ b) : (a != b) = true := by unfold bne; rw [beq_f h]; rfl
theorem bne_f {a b : Int} (h : a = b) : (a != b) = false := by unfold bne; rw [beq_t h]; rfl

/-- A row of the call's own may be looked at only. -/
theorem SC.view {P : Program} {f : FuncId} {args : List AV} {e : TypeId} {k : Kd} {l : List k.ty} {outs : List MO} (h : SC P f args (.s (.own e k l)) outs) : SC P f args (.s (.v (.sl k) l)) outs := by
  refine ⟨h.1, fun w B vs mv hB hd ha => (h.2 w B vs mv hB hd ha).mono fun ee w' ⟨v, os, he, hf, hn, hos, hr, hm⟩ => ?_⟩
  have hA : ∀ b, After w B os b → After w B [] b := fun b hb => ⟨hb.1, by simp⟩
  refine ⟨v, [], he, hf, List.nodup_nil, by simp, ⟨OwnRow.view hr.1 hA fun b hb => ⟨.inr (hos b (by rw [hr.2, hb]; simp)), by simp⟩, rfl⟩, ?_⟩
  have hkeep : ∀ (os' : List MO) (us : List Value), MOsAt w' (After w B os) os' us → MOsAt w' (After w B []) os' us := by
    have K : Keeps w' w' (After w B os) (After w B []) := Keeps.of_sub hA
    intro os'
    induction os' with
    | nil => intro us h; exact h
    | cons m os' ih =>
      intro us ⟨u, us', e, h1, h2⟩
      refine ⟨u, us', e, ?_, ih us' h2⟩
      cases m
      · exact BoxAt.keep K h1 fun b _ => rfl
      · exact OwnRow.keep K h1 fun b _ => rfl
  exact hkeep _ _ hm

end Go.AI
