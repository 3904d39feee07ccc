/- What an operation leaves of a state's meaning. -/
import Derived.Test.YtmoodcnoncipiaaAiPure3
set_option autoImplicit false
set_option linter.unusedVariables false
set_option linter.unusedSimpArgs false
namespace Go.AI

/-! ### Objects -/

theorem obj_setOb (ob : Obs) (d i : Nat) (o : Option Ob) (h : d < ob.length) : (ob.setOb d o).obj i = if i = d then o else ob.obj i := by
  unfold Obs.setOb Obs.obj
  simp only [List.getD_eq_getElem?_getD, List.getElem?_set]
  by_cases e : i = d
  · subst e; simp [h]
  · simp [e, Ne.symm e]

theorem obj_lt {ob : Obs} {i : Nat} {o : Ob} (h : ob.obj i = some o) : i < ob.length := by
  unfold Obs.obj at h
  rw [List.getD_eq_getElem?_getD] at h
  rcases Nat.lt_or_ge i ob.length with h' | h'
  · exact h'
  · simp [List.getElem?_eq_none h'] at h

theorem length_setOb (ob : Obs) (d : Nat) (o : Option Ob) : (ob.setOb d o).length = ob.length := by simp [Obs.setOb]

/-- The same data; more may be nobody's own. -/
def Ob.le : Ob → Ob → Prop
  | .box k x z, o' => ∃ z', o' = .box k x z' ∧ (z = true → z' = true)
  | .row e k l ver z, o' => ∃ z', o' = .row e k l ver z' ∧ (z = true → z' = true)

theorem Ob.le_refl (o : Ob) : o.le o := by cases o <;> exact ⟨_, rfl, id⟩
theorem Ob.le_trans {a b c : Ob} (h : a.le b) (h' : b.le c) : a.le c := by
  cases a <;> obtain ⟨z, rfl, h1⟩ := h <;> obtain ⟨z', rfl, h2⟩ := h' <;> exact ⟨z', rfl, fun h => h2 (h1 h)⟩

structure ObLe (ob ob' : Obs) : Prop where
  len : ob'.length = ob.length
  fwd : ∀ i o, ob.obj i = some o → ∃ o', ob'.obj i = some o' ∧ o.le o'
  bwd : ∀ i o', ob'.obj i = some o' → ∃ o, ob.obj i = some o ∧ o.le o'

theorem ObLe.refl (ob : Obs) : ObLe ob ob := ⟨rfl, fun i o h => ⟨o, h, o.le_refl⟩, fun i o h => ⟨o, h, o.le_refl⟩⟩
theorem ObLe.trans {a b c : Obs} (h : ObLe a b) (h' : ObLe b c) : ObLe a c :=
  ⟨h'.len.trans h.len, fun i o hi => let ⟨o1, h1, l1⟩ := h.fwd i o hi; let ⟨o2, h2, l2⟩ := h'.fwd i o1 h1; ⟨o2, h2, Ob.le_trans l1 l2⟩,
    fun i o hi => let ⟨o1, h1, l1⟩ := h'.bwd i o hi; let ⟨o2, h2, l2⟩ := h.bwd i o1 h1; ⟨o2, h2, Ob.le_trans l2 l1⟩⟩

theorem ObLe.set {ob : Obs} {i : Nat} {o o' : Ob} (h : ob.obj i = some o) (hl : o.le o') : ObLe ob (ob.setOb i (some o')) := by
  have hlt := obj_lt h
  refine ⟨length_setOb _ _ _, fun j p hj => ?_, fun j p hj => ?_⟩
  · rw [obj_setOb _ _ _ _ hlt]
    by_cases e : j = i
    · subst e; rw [h] at hj; cases hj; simp; exact hl
    · simp [e]; exact ⟨p, hj, p.le_refl⟩
  · rw [obj_setOb _ _ _ _ hlt] at hj
    by_cases e : j = i
    · subst e; simp at hj; subst hj; exact ⟨o, h, hl⟩
    · simp [e] at hj; exact ⟨p, hj, p.le_refl⟩

theorem frz_le (ob : Obs) (x : SV) : ObLe ob (frz ob x) := by
  cases x <;> simp only [frz] <;> try exact ObLe.refl ob
  · split
    · rename_i h; exact ObLe.set h ⟨true, rfl, fun _ => rfl⟩
    · exact ObLe.refl ob
  · split
    · rename_i h; exact ObLe.set h ⟨true, rfl, fun _ => rfl⟩
    · exact ObLe.refl ob

theorem frzs_le : ∀ (xs : List SV) (ob : Obs), ObLe ob (frzs ob xs)
  | [], ob => ObLe.refl ob
  | x :: xs, ob => (frz_le ob x).trans (frzs_le xs _)

theorem frzAll_le : ∀ (as : List AV) (ob : Obs), ObLe ob (frzAll ob as)
  | [], ob => ObLe.refl ob
  | .s (.osl i v) :: as, ob => (frz_le ob _).trans (frzAll_le as _)
  | .s (.v ..) :: as, ob | .s (.nilsl ..) :: as, ob | .s (.fadr ..) :: as, ob | .s (.adr ..) :: as, ob | .s (.oel ..) :: as, ob | .s (.own ..) :: as, ob | .s (.mbx ..) :: as, ob | .s (.msl ..) :: as, ob
  | .tup _ :: as, ob | .fn .. :: as, ob => frzAll_le as ob

/-! ### The meaning of a state -/

variable {X : Ctx} {sl : List (Option AV)} {ob ob' : Obs} {a : Act} {w w' : World} {γ γ' : Nat → Value} {B B' : Nat → Prop}

theorem Keeps.of_sub (h : ∀ b, B b → B' b) : Keeps w w B B' := ⟨fun b hb _ => ⟨h b hb, rfl⟩⟩

theorem SVRep.keep (K : Keeps w w' B B') {x : SV} {u : Value} (h : SVRep w B x u) : SVRep w' B' x u := by
  cases x <;> simp only [SVRep] at h ⊢
  · exact h.keep K
  · exact h
  · exact RepA.keep K h

theorem SVsRep.keep (K : Keeps w w' B B') : ∀ {xs : List SV} {us : List Value}, SVsRep w B xs us → SVsRep w' B' xs us
  | [], _, h => h
  | _ :: _, _, ⟨u, us, e, h1, h2⟩ => ⟨u, us, e, h1.keep K, h2.keep K⟩

theorem AVRep.keep (K : Keeps w w' B B') {x : AV} {u : Value} (h : AVRep w B x u) : AVRep w' B' x u := by
  cases x
  · exact SVRep.keep K h
  · obtain ⟨vs, e, h⟩ := h; exact ⟨vs, e, h.keep K⟩
  · obtain ⟨xs, ys, e, h1, h2⟩ := h; exact ⟨xs, ys, e, h1.keep K, h2.keep K⟩

theorem OwnRow.keep (K : Keeps w w' B B') {N : Nat} {e : TypeId} {k : Kd} {l : List k.ty} {v : Value} (h : OwnRow w B N e k l v) (hb : ∀ b, blk v = some b → w'.heap[b]? = w.heap[b]?) : OwnRow w' B' N e k l v := by
  obtain ⟨flat, ho, hr⟩ := h
  refine ⟨flat, ⟨ho.1, ?_⟩, hr.mono (fun x cs h => h.keep K)⟩
  rcases ho.2 with h | ⟨g, cap, cur, rfl, h1, h2, h3⟩
  · exact .inl h
  · exact .inr ⟨g, cap, cur, rfl, h1, by rw [hb g rfl]; exact h2, h3⟩

theorem BoxAt.keep (K : Keeps w w' B B') {k : Kd} {x : k.ty} {v : Value} (h : BoxAt w B k x v) (hb : ∀ b, blk v = some b → w'.heap[b]? = w.heap[b]?) : BoxAt w' B' k x v := by
  obtain ⟨b, cs, t, rfl, h1, h2⟩ := h
  exact ⟨b, cs, t, rfl, by rw [hb b rfl]; exact h1, h2.keep K⟩

theorem ObRep.keep (K : Keeps w w' B B') {v : Value} {o : Ob} (h : ObRep w B v o) (hb : ∀ b, blk v = some b → w'.heap[b]? = w.heap[b]?) : ObRep w' B' v o := by
  cases o
  · exact BoxAt.keep K h hb
  · exact OwnRow.keep K h hb

theorem ObRep.lt {v : Value} {o : Ob} (h : ObRep w B v o) {b : Nat} (hb : blk v = some b) : b < w.heap.size := by
  cases o with
  | box k x z =>
    obtain ⟨b', cs, t, rfl, h1, _⟩ := h
    simp only [blk, Option.some.injEq] at hb
    subst hb
    exact (Array.getElem?_eq_some_iff.1 h1).1
  | row e k l ver z =>
    obtain ⟨flat, ho, hr⟩ := h
    rcases ho.2 with ⟨rfl, _⟩ | ⟨g, cap, cur, rfl, h1, h2, h3⟩
    · simp [blk] at hb
    · simp only [blk, Option.some.injEq] at hb
      subst hb
      exact (Array.getElem?_eq_some_iff.1 h2).1

theorem ObRep.le {v : Value} {o o' : Ob} (h : ObRep w B v o) (hl : o.le o') : ObRep w B v o' := by
  cases o <;> obtain ⟨z, rfl, _⟩ := hl <;> exact h

theorem Bs.le (h : ObLe ob ob') {b : Nat} (hb : Bs X ob γ b) : Bs X ob' γ b :=
  ⟨hb.1, fun i o' hi hz => by
    obtain ⟨o, ho, hl⟩ := h.bwd i o' hi
    refine hb.2 i o ho ?_
    cases o <;> obtain ⟨z', rfl, hzz⟩ := hl <;> simp [Ob.frz] at hz ⊢
    all_goals
      rename_i z
      cases z
      · rfl
      · simp [hz] at hzz⟩

/-- Slots: from state to state, the objects being as they were. -/
theorem SlS.keep (K : Keeps w w' B B') (hle : ∀ i o', ob'.obj i = some o' → ∃ o, ob.obj i = some o ∧ o.le o') (hfw : ∀ i o, ob.obj i = some o → ∃ o', ob'.obj i = some o' ∧ o.le o') {x : SV} {u : Value} (h : SlS w B ob γ x u) : SlS w' B' ob' γ x u := by
  cases x <;> simp only [SlS] at h ⊢
  · exact h.keep K
  · exact h
  · exact RepA.keep K h
  · obtain ⟨⟨k, x, z, h1⟩, h2⟩ := h
    obtain ⟨o', h3, z', rfl, _⟩ := hfw _ _ h1
    exact ⟨⟨k, x, z', h3⟩, h2⟩
  · obtain ⟨⟨e, k, l, ver', z, h1, hv⟩, h2⟩ := h
    obtain ⟨o', h3, z', rfl, _⟩ := hfw _ _ h1
    refine ⟨⟨e, k, l, ver', z', h3, hv⟩, fun e k l z hi => ?_⟩
    obtain ⟨o, h4, hl⟩ := hle _ _ hi
    cases o <;> obtain ⟨z2, heq, _⟩ := hl <;> cases heq
    exact h2 _ _ _ _ h4
  · obtain ⟨⟨e, k, l, ver', z, h1, hv⟩, h2⟩ := h
    obtain ⟨o', h3, z', rfl, _⟩ := hfw _ _ h1
    refine ⟨⟨e, k, l, ver', z', h3, hv⟩, fun e k l z hi => ?_⟩
    obtain ⟨o, h4, hl⟩ := hle _ _ hi
    cases o <;> obtain ⟨z2, heq, _⟩ := hl <;> cases heq
    exact h2 _ _ _ _ h4

theorem SlL.imp {w w' : World} {B B' : Nat → Prop} {ob ob' : Obs} {γ γ' : Nat → Value} (h : ∀ x u, SlS w B ob γ x u → SlS w' B' ob' γ' x u) : ∀ {xs : List SV} {us : List Value}, SlL w B ob γ xs us → SlL w' B' ob' γ' xs us
  | [], _, e => e
  | _ :: _, _, ⟨u, us, e, h1, h2⟩ => ⟨u, us, e, h _ _ h1, h2.imp h⟩

theorem SlA.imp {w w' : World} {B B' : Nat → Prop} {ob ob' : Obs} {γ γ' : Nat → Value} (K : Keeps w w' B B') (h : ∀ x u, SlS w B ob γ x u → SlS w' B' ob' γ' x u) {x : AV} {u : Value} (hx : SlA w B ob γ x u) : SlA w' B' ob' γ' x u := by
  cases x with
  | s x => exact h _ _ hx
  | tup l => obtain ⟨vs, e, h1⟩ := hx; exact ⟨vs, e, h1.imp h⟩
  | fn f p q => exact AVRep.keep (x := .fn f p q) K hx

/-- More is nobody's own. -/
theorem InvG.raise (h : InvG X ⟨sl, ob⟩ a w γ) (hle : ObLe ob ob') : InvG X ⟨sl, ob'⟩ a w γ := by
  have K : Keeps w w (Bs X ob γ) (Bs X ob' γ) := Keeps.of_sub fun b hb => Bs.le hle hb
  refine ⟨h.fr, h.df, h.sz, fun i o' hi => ?_, fun i j o p b hi hj => ?_, fun i o b hi => ?_, fun i v hi => ?_, fun t v ht => ?_⟩
  · obtain ⟨o, ho, hl⟩ := hle.bwd i o' hi
    exact ((h.ob i o ho).keep K fun _ _ => rfl).le hl
  · obtain ⟨o1, ho, _⟩ := hle.bwd i o hi
    obtain ⟨p1, hp, _⟩ := hle.bwd j p hj
    exact h.dj i j o1 p1 b ho hp
  · obtain ⟨o1, ho, _⟩ := hle.bwd i o hi
    exact h.fresh i o1 b ho
  · obtain ⟨o, ho, hv⟩ := h.pm i v hi
    obtain ⟨o', ho', hl⟩ := hle.fwd i o ho
    refine ⟨o', ho', fun hr => hv fun e k l ver z heq => ?_⟩
    subst heq
    obtain ⟨z', rfl, _⟩ := hl
    exact hr e k l ver z' rfl
  · exact SlA.imp K (fun x u hx => SlS.keep K hle.bwd hle.fwd hx) (h.sl t v ht)

theorem Fr.grown {w0 : World} {mv : List Value} (h : Fr w0 mv w) {row : Option Nat} (hg : w.grownBy w' row) (hr : ∀ k, row = some k → w0.heap.size ≤ k ∨ ∃ v ∈ mv, blk v = some k) : Fr w0 mv w' :=
  ⟨hg.os.trans h.os, hg.tape.trans h.tape, hg.output.trans h.output, Nat.le_trans h.size hg.size, fun k hk hmv => by
    rw [hg.block k (Nat.lt_of_lt_of_le hk h.size) (fun e => ?_)]
    · exact h.block k hk hmv
    · rcases hr k e.symm with h1 | ⟨v, hv, hb⟩
      · omega
      · exact hmv v hv hb⟩

def upd (γ : Nat → Value) (d : Nat) (v : Value) : Nat → Value := fun i => if i = d then v else γ i
theorem upd_same (γ : Nat → Value) (d : Nat) (v : Value) : upd γ d v d = v := by simp [upd]
theorem upd_ne (γ : Nat → Value) {d i : Nat} (v : Value) (h : i ≠ d) : upd γ d v i = γ i := by simp [upd, h]

/-- A NEW OBJECT. -/
theorem InvG.new (h : InvG X ⟨sl, ob⟩ a w γ) {d : Nat} (hd : ob.obj d = none) (hlt : d < ob.length) {o : Ob} {v : Value} (hg : w.grownBy w' none) (hv : ∀ b, blk v = some b → w.heap.size ≤ b)
    (hrep : ∀ B', Keeps w w' (Bs X ob γ) B' → ObRep w' B' v o) :
    InvG X ⟨sl, ob.setOb d (some o)⟩ a w' (upd γ d v) ∧ Keeps w w' (Bs X ob γ) (Bs X (ob.setOb d (some o)) (upd γ d v)) ∧
      (∀ x u, SlS w (Bs X ob γ) ob γ x u → SlS w' (Bs X (ob.setOb d (some o)) (upd γ d v)) (ob.setOb d (some o)) (upd γ d v) x u) := by
  have hobj : ∀ i, (ob.setOb d (some o)).obj i = if i = d then some o else ob.obj i := fun i => obj_setOb _ _ _ _ hlt
  have hne : ∀ i p, ob.obj i = some p → i ≠ d := fun i p hi e => by subst e; rw [hd] at hi; cases hi
  have hw0 : X.w0.heap.size ≤ w.heap.size := h.fr.size
  have K : Keeps w w' (Bs X ob γ) (Bs X (ob.setOb d (some o)) (upd γ d v)) := by
    refine ⟨fun b hb hbl => ⟨⟨hb.1, fun i p hi hz => ?_⟩, hg.block b hbl (by simp)⟩⟩
    rw [hobj] at hi
    by_cases e : i = d
    · subst e
      rw [upd_same]
      intro hb'
      have := hv b hb'
      omega
    · rw [if_neg e] at hi
      rw [upd_ne _ _ e]
      exact hb.2 i p hi hz
  have S : ∀ x u, SlS w (Bs X ob γ) ob γ x u → SlS w' (Bs X (ob.setOb d (some o)) (upd γ d v)) (ob.setOb d (some o)) (upd γ d v) x u := by
    intro x u hx
    cases x <;> simp only [SlS] at hx ⊢
    · exact hx.keep K
    · exact hx
    · exact RepA.keep K hx
    · obtain ⟨⟨k, x, z, h1⟩, b, h2, h3⟩ := hx
      have := hne _ _ h1
      exact ⟨⟨k, x, z, by rw [hobj, if_neg this]; exact h1⟩, b, by rw [upd_ne _ _ this]; exact h2, h3⟩
    · obtain ⟨⟨e, k, l, ver', z, h1, hv⟩, h2⟩ := hx
      have := hne _ _ h1
      refine ⟨⟨e, k, l, ver', z, by rw [hobj, if_neg this]; exact h1, hv⟩, fun e k l z hi => ?_⟩
      rw [hobj, if_neg this] at hi
      rw [upd_ne _ _ this]
      exact h2 e k l z hi
    · obtain ⟨⟨e, k, l, ver', z, h1, hv⟩, h2⟩ := hx
      have := hne _ _ h1
      refine ⟨⟨e, k, l, ver', z, by rw [hobj, if_neg this]; exact h1, hv⟩, fun e k l z hi => ?_⟩
      rw [hobj, if_neg this] at hi
      rw [upd_ne _ _ this]
      exact h2 e k l z hi
  refine ⟨⟨h.fr.grown hg (by simp), h.df, h.sz, fun i p hi => ?_, fun i j p q b hi hj hij hb => ?_, fun i p b hi hb => ?_, fun i u hi => ?_, fun t u ht => SlA.imp K S (h.sl t u ht)⟩, K, S⟩
  · rw [hobj] at hi
    by_cases e : i = d
    · subst e
      rw [if_pos rfl] at hi
      cases hi
      rw [upd_same]
      exact hrep _ K
    · rw [if_neg e] at hi
      rw [upd_ne _ _ e]
      exact (h.ob i p hi).keep K fun b hb => hg.block b ((h.ob i p hi).lt hb) (by simp)
  · rw [hobj] at hi hj
    by_cases ei : i = d
    · subst ei
      rw [upd_same] at hb
      rw [if_neg (Ne.symm hij)] at hj
      rw [upd_ne _ _ (Ne.symm hij)]
      intro hb'
      have := (h.ob j q hj).lt hb'
      have := hv b hb
      omega
    · rw [if_neg ei] at hi
      rw [upd_ne _ _ ei] at hb
      by_cases ej : j = d
      · subst ej
        rw [upd_same]
        intro hb'
        have := (h.ob i p hi).lt hb
        have := hv b hb'
        omega
      · rw [if_neg ej] at hj
        rw [upd_ne _ _ ej]
        exact h.dj i j p q b hi hj hij hb
  · rw [hobj] at hi
    by_cases e : i = d
    · subst e
      rw [upd_same] at hb
      have := hv b hb
      exact .inl (by omega)
    · rw [if_neg e] at hi
      rw [upd_ne _ _ e] at hb
      exact h.fresh i p b hi hb
  · obtain ⟨p, hp, hq⟩ := h.pm i u hi
    have := hne _ _ hp
    exact ⟨p, by rw [hobj, if_neg this]; exact hp, fun hr => by rw [upd_ne _ _ this]; exact hq hr⟩


def AliasOK (o o' : Ob) (same : Prop) : Prop :=
  match o, o' with
  | .box _ _ _, .box _ _ _ => same
  | .row _ k _ ver _, .row _ k' _ ver' _ => ver < ver' ∨ (ver = ver' ∧ k = k' ∧ same)
  | _, _ => False

/-- AN OBJECT IS CHANGED. -/
theorem InvG.mod (h : InvG X ⟨sl, ob⟩ a w γ) {d : Nat} {o o' : Ob} {v : Value} (hd : ob.obj d = some o) (hz : o.frz = false) (hg : w.grownBy w' (blk (γ d)))
    (hv : blk v = blk (γ d) ∨ ∀ b, blk v = some b → w.heap.size ≤ b) (hpm : v = γ d ∨ ∃ e k l ver z, o' = .row e k l (ver + 1) z) (hal : AliasOK o o' (v = γ d))
    (hrep : ∀ B', Keeps w w' (Bs X ob γ) B' → ObRep w' B' v o') :
    InvG X ⟨sl, ob.setOb d (some o')⟩ a w' (upd γ d v) ∧ Keeps w w' (Bs X ob γ) (Bs X (ob.setOb d (some o')) (upd γ d v)) ∧
      (∀ x u, SlS w (Bs X ob γ) ob γ x u → SlS w' (Bs X (ob.setOb d (some o')) (upd γ d v)) (ob.setOb d (some o')) (upd γ d v) x u) := by
  have hlt := obj_lt hd
  have hobj : ∀ i, (ob.setOb d (some o')).obj i = if i = d then some o' else ob.obj i := fun i => obj_setOb _ _ _ _ hlt
  have hw0 : X.w0.heap.size ≤ w.heap.size := h.fr.size
  have K : Keeps w w' (Bs X ob γ) (Bs X (ob.setOb d (some o')) (upd γ d v)) := by
    refine ⟨fun b hb hbl => ⟨⟨hb.1, fun i p hi hz' => ?_⟩, hg.block b hbl (fun e => hb.2 d o hd hz e.symm)⟩⟩
    rw [hobj] at hi
    by_cases e : i = d
    · subst e
      rw [upd_same]
      intro hb'
      rcases hv with hv | hv
      · exact hb.2 i o hd hz (hv ▸ hb')
      · have := hv b hb'
        omega
    · rw [if_neg e] at hi
      rw [upd_ne _ _ e]
      exact hb.2 i p hi hz'
  have S : ∀ x u, SlS w (Bs X ob γ) ob γ x u → SlS w' (Bs X (ob.setOb d (some o')) (upd γ d v)) (ob.setOb d (some o')) (upd γ d v) x u := by
    intro x u hx
    cases x <;> simp only [SlS] at hx ⊢
    · exact hx.keep K
    · exact hx
    · exact RepA.keep K hx
    · rename_i i f
      obtain ⟨⟨k, x, z, h1⟩, b, h2, h3⟩ := hx
      by_cases e : i = d
      · subst e
        rw [hd] at h1
        cases h1
        cases o' <;> simp only [AliasOK] at hal
        exact ⟨⟨_, _, _, by rw [hobj, if_pos rfl]⟩, b, by rw [upd_same, hal]; exact h2, h3⟩
      · exact ⟨⟨k, x, z, by rw [hobj, if_neg e]; exact h1⟩, b, by rw [upd_ne _ _ e]; exact h2, h3⟩
    · rename_i i ver0
      obtain ⟨⟨e, k, l, ver', z, h1, hvv⟩, h2⟩ := hx
      by_cases ee : i = d
      · subst ee
        rw [hd] at h1
        cases h1
        cases o' <;> simp only [AliasOK] at hal
        rename_i e1 k1 l1 ver1 z1
        refine ⟨⟨_, _, _, _, _, by rw [hobj, if_pos rfl], by rcases hal with h | h <;> omega⟩, fun e2 k2 l2 z2 hi => ?_⟩
        rw [hobj, if_pos rfl] at hi
        cases hi
        rcases hal with hal | ⟨rfl, rfl, hal⟩
        · omega
        · rw [upd_same, hal]
          exact h2 _ _ _ _ hd
      · refine ⟨⟨e, k, l, ver', z, by rw [hobj, if_neg ee]; exact h1, hvv⟩, fun e k l z hi => ?_⟩
        rw [hobj, if_neg ee] at hi
        rw [upd_ne _ _ ee]
        exact h2 e k l z hi
    · rename_i i ver0 j f
      obtain ⟨⟨e, k, l, ver', z, h1, hvv⟩, h2⟩ := hx
      by_cases ee : i = d
      · subst ee
        rw [hd] at h1
        cases h1
        cases o' <;> simp only [AliasOK] at hal
        rename_i e1 k1 l1 ver1 z1
        refine ⟨⟨_, _, _, _, _, by rw [hobj, if_pos rfl], by rcases hal with h | h <;> omega⟩, fun e2 k2 l2 z2 hi => ?_⟩
        rw [hobj, if_pos rfl] at hi
        cases hi
        rcases hal with hal | ⟨rfl, rfl, hal⟩
        · omega
        · rw [upd_same, hal]
          exact h2 _ _ _ _ hd
      · refine ⟨⟨e, k, l, ver', z, by rw [hobj, if_neg ee]; exact h1, hvv⟩, fun e k l z hi => ?_⟩
        rw [hobj, if_neg ee] at hi
        rw [upd_ne _ _ ee]
        exact h2 e k l z hi
  have hold : ∀ b, blk v = some b → b < w.heap.size → blk (γ d) = some b := fun b hb hlt' => by
    rcases hv with hv | hv
    · exact hv ▸ hb
    · have := hv b hb
      omega
  refine ⟨⟨h.fr.grown hg (fun k hk => h.fresh d o k hd hk), h.df, h.sz, fun i p hi => ?_, fun i j p q b hi hj hij hb => ?_, fun i p b hi hb => ?_, fun i u hi => ?_, fun t u ht => SlA.imp K S (h.sl t u ht)⟩, K, S⟩
  · rw [hobj] at hi
    by_cases e : i = d
    · subst e
      rw [if_pos rfl] at hi
      cases hi
      rw [upd_same]
      exact hrep _ K
    · rw [if_neg e] at hi
      rw [upd_ne _ _ e]
      exact (h.ob i p hi).keep K fun b hb => hg.block b ((h.ob i p hi).lt hb) (fun e' => h.dj i d p o b hi hd e hb e'.symm)
  · rw [hobj] at hi hj
    by_cases ei : i = d
    · subst ei
      rw [upd_same] at hb
      rw [if_neg (Ne.symm hij)] at hj
      rw [upd_ne _ _ (Ne.symm hij)]
      intro hb'
      exact h.dj i j o q b hd hj hij (hold b hb ((h.ob j q hj).lt hb')) hb'
    · rw [if_neg ei] at hi
      rw [upd_ne _ _ ei] at hb
      by_cases ej : j = d
      · subst ej
        rw [upd_same]
        intro hb'
        exact h.dj i j p o b hi hd hij hb (hold b hb' ((h.ob i p hi).lt hb))
      · rw [if_neg ej] at hj
        rw [upd_ne _ _ ej]
        exact h.dj i j p q b hi hj hij hb
  · rw [hobj] at hi
    by_cases e : i = d
    · subst e
      rw [upd_same] at hb
      by_cases hl : b < w.heap.size
      · exact h.fresh i o b hd (hold b hb hl)
      · exact .inl (by omega)
    · rw [if_neg e] at hi
      rw [upd_ne _ _ e] at hb
      exact h.fresh i p b hi hb
  · obtain ⟨p, hp, hq⟩ := h.pm i u hi
    by_cases e : i = d
    · subst e
      rw [hd] at hp
      cases hp
      refine ⟨o', by rw [hobj, if_pos rfl], fun hr => ?_⟩
      rw [upd_same]
      rcases hpm with hpm | ⟨e, k, l, ver, z, rfl⟩
      · rw [hpm]
        refine hq fun e k l ver z heq => ?_
        subst heq
        cases o' <;> simp only [AliasOK] at hal
        have := hr _ _ _ _ _ rfl
        rcases hal with h | h <;> omega
      · have := hr _ _ _ _ _ rfl
        omega
    · exact ⟨p, by rw [hobj, if_neg e]; exact hp, fun hr => by rw [upd_ne _ _ e]; exact hq hr⟩

/-! ### Slots -/

theorem InvG.put (h : InvG X ⟨sl, ob⟩ a w γ) {dst : Option Nat} {v : Option AV} {u : Value} (hv : ∀ x, v = some x → SlA w (Bs X ob γ) ob γ x u) : InvG X (St.put ⟨sl, ob⟩ dst v) (a.put dst u) w γ := by
  cases dst with
  | none => exact h
  | some d =>
    refine ⟨h.fr, h.df, by simp [St.put, Act.put]; exact h.sz, h.ob, h.dj, h.fresh, h.pm, fun t x ht => ?_⟩
    simp only [St.put, List.getD_eq_getElem?_getD, List.getElem?_set] at ht
    have hsz := h.sz
    simp only at hsz
    by_cases e : d = t
    · subst e
      by_cases hl : d < sl.length
      · simp [hl] at ht
        have : (a.put (some d) u).tmps.getD d undef = u := by simp [Act.put, hsz ▸ hl]
        rw [this]
        exact hv x ht
      · simp [hl] at ht
    · rw [if_neg e] at ht
      have : (a.put (some d) u).tmps.getD t undef = a.tmps.getD t undef := by simp [Act.put, Array.getElem?_setIfInBounds_ne e]
      rw [this]
      exact h.sl t x (by rw [List.getD_eq_getElem?_getD]; exact ht)

/-! ### What is read -/

theorem InvG.noAlias (h : InvG X ⟨sl, ob⟩ a w γ) {x : SV} {u : Value} (hx : SlS w B ob γ x u) (hn : isAlias x = false) : SVRep w B x u := by
  cases x <;> simp only [SlS] at hx <;> simp [isAlias] at hn <;> exact hx

theorem OwnRow.view {N : Nat} {e : TypeId} {k : Kd} {l : List k.ty} {v : Value} (h : OwnRow w B N e k l v) (hb : ∀ b, B b → B' b) (hv : ∀ b, blk v = some b → B' b) : RepV w B' (.sl k) l v := by
  obtain ⟨flat, ho, hr⟩ := h
  have hr' := hr.mono (R' := RepK w B' k) fun x cs h => h.keep (Keeps.of_sub hb)
  rcases ho.2 with ⟨rfl, hl⟩ | ⟨g, cap, cur, rfl, h1, h2, h3, h4, h5, h6⟩
  · have : l = [] := List.eq_nil_of_length_eq_zero hl
    subst this
    have hfl : flat = [] := hr
    subst hfl
    exact RepV.mk_sl (a := none) (c := 0) (l := []) (Nat.le_refl _) hr' (fun _ => rfl) (fun ad had => by cases had)
  · refine RepV.mk_sl h3 hr' (fun hn => by cases hn) (fun ad had => ?_)
    cases had
    refine ⟨rfl, fun j u hj => ?_, fun _ => hv g rfl⟩
    have hadd : (⟨g, 0, none⟩ : Addr).add j = ⟨g, j, none⟩ := by unfold Addr.add; split <;> simp_all
    rw [hadd]
    simp only [World.cell?, h2]
    rw [← h6, List.getElem?_take] at hj
    split at hj
    · simpa using hj
    · cases hj

theorem BoxAt.view {k : Kd} {x : k.ty} {v : Value} (h : BoxAt w B k x v) (hb : ∀ b, B b → B' b) (hv : ∀ b, blk v = some b → B' b) : RepA w B' k x v := by
  obtain ⟨b, cs, t, rfl, h1, h2⟩ := h
  refine ⟨⟨b, 0, none⟩, cs, rfl, rfl, h2.keep (Keeps.of_sub hb), fun j u hj => ?_, hv b rfl⟩
  have hadd : (⟨b, 0, none⟩ : Addr).add j = ⟨b, j, none⟩ := by unfold Addr.add; split <;> simp_all
  rw [hadd]
  simp only [World.cell?, h1]
  simpa using hj

/-- The plain value of an object, its block let in. -/
theorem InvG.plain (h : InvG X ⟨sl, ob⟩ a w γ) {x y : SV} {u : Value} (hx : SlS w (Bs X ob γ) ob γ x u) (hp : plain ob x = some y) (hb : ∀ b, Bs X ob γ b → B' b)
    (hv : ∀ i o, svHas i x = true → ob.obj i = some o → ∀ b, blk (γ i) = some b → B' b) : SVRep w B' y u := by
  cases x <;> simp only [Go.AI.plain, reduceCtorEq, Option.some.injEq] at hp
  · subst hp; exact RepV.keep (Keeps.of_sub hb) hx
  · subst hp
    rw [show u = _ from hx]
    exact RepV.mk_sl (a := none) (c := 0) (l := []) (flat := []) (Nat.le_refl _) rfl (fun _ => rfl) (fun ad had => by cases had)
  · subst hp; exact RepA.keep (Keeps.of_sub hb) hx
  · rename_i i f
    cases f <;> simp only [reduceCtorEq] at hp
    split at hp
    · rename_i k x z ho
      simp only [Option.some.injEq] at hp
      subst hp
      obtain ⟨_, b, h1, rfl⟩ := hx
      have hob := h.ob _ _ ho
      have := BoxAt.view hob hb (hv i _ (by simp [svHas]) ho)
      rw [h1] at this
      exact this
    · cases hp
  · rename_i i ver
    split at hp
    · rename_i e k l ver' z ho
      split at hp
      · rename_i hver
        subst hver
        simp only [Option.some.injEq] at hp
        subst hp
        have := hx.2 _ _ _ _ ho
        subst this
        exact OwnRow.view (h.ob _ _ ho) hb (hv i _ (by simp [svHas]) ho)
      · cases hp
    · cases hp

/-- Flat data leads nowhere. -/
theorem RepK.flat : ∀ {k : Kd} {x : k.ty} {cs : List Value}, k.flat = true → RepK w B k x cs → RepK w' B' k x cs
  | .int _, _, _, _, h => h
  | .bool, _, _, _, h => h
  | .str, _, _, _, h => h
  | .pr _ _, _, _, hf, ⟨c1, c2, e, h1, h2⟩ => by
    simp only [Kd.flat, Bool.and_eq_true] at hf
    exact ⟨c1, c2, e, h1.flat hf.1, h2.flat hf.2⟩

end Go.AI
