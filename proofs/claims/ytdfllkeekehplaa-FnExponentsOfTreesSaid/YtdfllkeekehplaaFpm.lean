/- Plain: inverses, mirrors, powers and commutators of pairs. -/
import Derived.Test.YtdfllkeekehplaaJC
import Derived.Test.YtdfllkeekehplaaFcf
set_option autoImplicit false
set_option maxRecDepth 100000
set_option linter.unusedVariables false
namespace Go.AI

/-! ### Inverses -/

abbrev swp (p : Tr × Tr) : Tr × Tr := (p.2, p.1)

theorem both_swp {p : Tr × Tr} (h : bothL p = []) : bothL (swp p) = [] := by
  cases hb : bothL (swp p) with
  | nil => rfl
  | cons k r =>
    have hm : k ∈ bothL (swp p) := by rw [hb]; simp
    obtain ⟨h1, h2⟩ := step_mem.1 hm
    have : k ∈ bothL p := step_mem.2 ⟨h2, h1⟩
    rw [h] at this
    cases this

theorem fOf_swp (p : Tr × Tr) (hp : p.1.c = p.2.c) (s : St2) : fOf (swp p) (fOf p s) = s := fOf_inv p.1 p.2 hp s

theorem fOf_swp' (p : Tr × Tr) (hp : p.1.c = p.2.c) (s : St2) : fOf p (fOf (swp p) s) = s := fOf_inv p.2 p.1 hp.symm s

theorem times_swp (p q : Tr × Tr) (hp : p.1.c = p.2.c) (hq : q.1.c = q.2.c) : timesT (swp q) (swp p) = swp (timesT p q) := by
  have hr := times_eqc p q hp hq
  refine red_unique _ _ (times_eqc _ _ hq.symm hp.symm) hr.symm (times_red _ _) (both_swp (times_red _ _)) fun s => ?_
  rw [fOf_times _ _ hq.symm hp.symm]
  have e : s = fOf (timesT p q) (fOf (swp (timesT p q)) s) := (fOf_swp' _ hr s).symm
  conv => lhs; rw [e]
  rw [fOf_times p q hp hq, fOf_swp q hq, fOf_swp p hp]

/-! ### Mirrors -/

def mir : Tr → Tr
  | .leaf => .leaf
  | .node l r => .node (mir r) (mir l)

theorem mir_c : ∀ t : Tr, (mir t).c = t.c
  | .leaf => rfl
  | .node l r => by simp only [mir, Tr.c, mir_c l, mir_c r]; omega

theorem mir_leaf (t : Tr) : (mir t).isLeaf = t.isLeaf := by cases t <;> rfl

theorem mir_mir : ∀ t : Tr, mir (mir t) = t
  | .leaf => rfl
  | .node l r => by simp only [mir, mir_mir l, mir_mir r]

theorem isEx_mir : ∀ (t : Tr) (k : Nat), isEx t k = true → isEx (mir t) (t.c - 1 - k) = true
  | .leaf, _, h => by simp [isEx] at h
  | .node l r, k, h => by
    rw [isEx] at h
    have e : (Tr.node l r).c = l.c + r.c + 1 := by simp only [Tr.c]; omega
    by_cases hb : l.isLeaf = true ∧ r.isLeaf = true
    · rw [if_pos hb] at h
      have hk : k = 0 := of_decide_eq_true h
      have hl : l.c = 0 := by cases l <;> simp_all [Tr.isLeaf, Tr.c]
      have hr : r.c = 0 := by cases r <;> simp_all [Tr.isLeaf, Tr.c]
      rw [mir, isEx, if_pos ⟨by rw [mir_leaf]; exact hb.2, by rw [mir_leaf]; exact hb.1⟩, decide_eq_true]
      omega
    · rw [if_neg hb] at h
      have nb : ¬ ((mir r).isLeaf = true ∧ (mir l).isLeaf = true) := fun hh => hb ⟨by rw [← mir_leaf]; exact hh.2, by rw [← mir_leaf]; exact hh.1⟩
      have cl := mir_c l
      have cr := mir_c r
      rw [mir, isEx, if_neg nb]
      by_cases hk : l.c + 1 ≤ k
      · rw [if_pos hk] at h
        have i1 := isEx_mir r _ h
        have i2 := isEx_lt r _ h
        rw [if_neg (by omega)]
        have ei : (Tr.node l r).c - 1 - k = r.c - 1 - (k - (l.c + 1)) := by omega
        rw [ei]; exact i1
      · rw [if_neg hk] at h
        have i1 := isEx_mir l _ h
        have i2 := isEx_lt l _ h
        rw [if_pos (by omega)]
        have ei : (Tr.node l r).c - 1 - k - ((mir r).c + 1) = l.c - 1 - k := by omega
        rw [ei]; exact i1

abbrev mirP (p : Tr × Tr) : Tr × Tr := (mir p.1, mir p.2)

theorem both_mir {p : Tr × Tr} (hp : p.1.c = p.2.c) (h : bothL p = []) : bothL (mirP p) = [] := by
  cases hb : bothL (mirP p) with
  | nil => rfl
  | cons k r =>
    have hm : k ∈ bothL (mirP p) := by rw [hb]; simp
    obtain ⟨h1, h2⟩ := step_mem.1 hm
    have j1 := isEx_mir _ _ h1
    have j2 := isEx_mir _ _ h2
    simp only [mir_mir, mir_c] at j1 j2
    rw [← hp] at j2
    have : p.1.c - 1 - k ∈ bothL p := step_mem.2 ⟨j1, j2⟩
    rw [h] at this
    cases this

def flp (s : St2) : St2 := fun n => !s n

theorem flp_flp (s : St2) : flp (flp s) = s := by funext n; simp [flp]
theorem flp_sc (b : Bool) (s : St2) : flp (sc b s) = sc (!b) (flp s) := by funext n; cases n <;> rfl

theorem emit_mir : ∀ (t : Tr) (i : Nat) (s : St2), i ≤ t.c → emit (mir t) (t.c - i) (flp s) = flp (emit t i s)
  | .leaf, i, s, h => rfl
  | .node l r, i, s, h => by
    have e : (Tr.node l r).c = l.c + r.c + 1 := by simp only [Tr.c]; omega
    have cl := mir_c l
    have cr := mir_c r
    rw [mir, emit, emit]
    by_cases hi : i < l.c + 1
    · rw [if_pos hi, if_neg (by omega), flp_sc]
      have ei : (Tr.node l r).c - i - ((mir r).c + 1) = l.c - i := by omega
      rw [ei, emit_mir l i s (by omega)]
      rfl
    · rw [if_neg hi, if_pos (by omega), flp_sc]
      have ei : (Tr.node l r).c - i = r.c - (i - (l.c + 1)) := by omega
      rw [ei, emit_mir r (i - (l.c + 1)) s (by omega)]
      rfl

theorem fOf_mir (p : Tr × Tr) (hp : p.1.c = p.2.c) (s : St2) : fOf (mirP p) (flp s) = flp (fOf p s) := by
  have hw := walk_le p.1 s
  have e : flp s = emit (mir p.1) (p.1.c - (walk p.1 s).1) (flp (walk p.1 s).2) := by
    rw [emit_mir _ _ _ hw, emit_walk]
  rw [e]
  have h1 := fOf_emit (mirP p) (p.1.c - (walk p.1 s).1) (flp (walk p.1 s).2) (by show _ ≤ (mir p.1).c; rw [mir_c]; omega)
  refine h1.trans ?_
  show emit (mir p.2) _ _ = _
  rw [hp, emit_mir _ _ _ (by omega)]
  rfl

theorem times_mir (p q : Tr × Tr) (hp : p.1.c = p.2.c) (hq : q.1.c = q.2.c) : timesT (mirP p) (mirP q) = mirP (timesT p q) := by
  have hr := times_eqc p q hp hq
  have mp : (mirP p).1.c = (mirP p).2.c := by show (mir p.1).c = (mir p.2).c; rw [mir_c, mir_c, hp]
  have mq : (mirP q).1.c = (mirP q).2.c := by show (mir q.1).c = (mir q.2).c; rw [mir_c, mir_c, hq]
  have mr : (mirP (timesT p q)).1.c = (mirP (timesT p q)).2.c := by show (mir _).c = (mir _).c; rw [mir_c, mir_c, hr]
  refine red_unique _ _ (times_eqc _ _ mp mq) mr (times_red _ _) (both_mir hr (times_red _ _)) fun s => ?_
  rw [fOf_times _ _ mp mq]
  have e : s = flp (flp s) := (flp_flp s).symm
  rw [e, fOf_mir p hp, fOf_mir q hq, fOf_mir _ hr, fOf_times p q hp hq]

/-! ### Reduced pairs and what they do -/

theorem red_of (p q : Tr × Tr) (hp : p.1.c = p.2.c) (hq : q.1.c = q.2.c) (rq : bothL q = []) (h : ∀ s, fOf q s = fOf p s) (n : Nat) (hn : p.1.c ≤ n) : red n p = q :=
  red_unique _ _ (red_eqc n p hp) hq (red_done n p hn) rq fun s => by rw [fOf_red n p hp, h]

theorem red_self (q : Tr × Tr) (hq : q.1.c = q.2.c) (rq : bothL q = []) (n : Nat) (hn : q.1.c ≤ n) : red n q = q := red_of q q hq hq rq (fun _ => rfl) n hn

theorem times_back (p q : Tr × Tr) (hp : p.1.c = p.2.c) (hq : q.1.c = q.2.c) : timesT (timesT p q) (swp q) = red p.1.c p := by
  have hr := times_eqc p q hp hq
  refine (red_of p _ hp (times_eqc _ _ hr hq.symm) (times_red _ _) (fun s => ?_) p.1.c (Nat.le_refl _)).symm
  rw [fOf_times _ _ hr hq.symm, fOf_times _ _ hp hq, fOf_swp q hq]

/-- Times a pair and its inverse. -/
theorem times_undo (o p : Tr × Tr) (ho : o.1.c = o.2.c) (ro : bothL o = []) (hp : p.1.c = p.2.c) : timesT (timesT o (swp p)) p = o := by
  have hr := times_eqc o (swp p) ho hp.symm
  refine red_unique _ _ (times_eqc _ _ hr hp) ho (times_red _ _) ro fun s => ?_
  rw [fOf_times _ _ hr hp, fOf_times _ _ ho hp.symm, fOf_swp' p hp]

theorem fOf_unit (s : St2) : fOf (.leaf, .leaf) s = s := rfl

theorem times_unit (p : Tr × Tr) (hp : p.1.c = p.2.c) (s : St2) : fOf (timesT (.leaf, .leaf) p) s = fOf p s := by rw [fOf_times _ _ rfl hp]; rfl

/-! ### Commutators -/

def comT2 (p q : Tr × Tr) : Tr × Tr := timesT (timesT (swp p) (swp q)) (timesT p q)

theorem comT_eqc (p q : Tr × Tr) (hp : p.1.c = p.2.c) (hq : q.1.c = q.2.c) : (comT2 p q).1.c = (comT2 p q).2.c :=
  times_eqc _ _ (times_eqc _ _ hp.symm hq.symm) (times_eqc _ _ hp hq)

theorem fOf_com (p q : Tr × Tr) (hp : p.1.c = p.2.c) (hq : q.1.c = q.2.c) (s : St2) : fOf (comT2 p q) s = fOf q (fOf p (fOf (swp q) (fOf (swp p) s))) := by
  rw [comT2, fOf_times _ _ (times_eqc (swp p) (swp q) hp.symm hq.symm) (times_eqc p q hp hq), fOf_times (swp p) (swp q) hp.symm hq.symm, fOf_times p q hp hq]

theorem com_unit (p q : Tr × Tr) (hp : p.1.c = p.2.c) (hq : q.1.c = q.2.c) : comT2 p q = (.leaf, .leaf) ↔ timesT p q = timesT q p := by
  constructor
  · intro h
    refine red_unique _ _ (times_eqc _ _ hp hq) (times_eqc _ _ hq hp) (times_red _ _) (times_red _ _) fun s => ?_
    rw [fOf_times _ _ hp hq, fOf_times _ _ hq hp]
    have h1 := fOf_com p q hp hq (fOf p (fOf q s))
    rw [h, fOf_swp p hp, fOf_swp q hq] at h1
    exact h1.symm
  · intro h
    refine red_unique _ _ (comT_eqc p q hp hq) rfl (times_red _ _) rfl fun s => ?_
    rw [fOf_com p q hp hq]
    have h1 : ∀ u, fOf q (fOf p u) = fOf p (fOf q u) := fun u => by rw [← fOf_times _ _ hp hq, h, fOf_times _ _ hq hp]
    rw [h1, fOf_swp' q hq, fOf_swp' p hp]
    rfl

/-! ### The slope at the left end -/

def ld : Tr → Nat
  | .leaf => 0
  | .node l _ => ld l + 1

def rd' : Tr → Nat
  | .leaf => 0
  | .node _ r => rd' r + 1

theorem ld_mir : ∀ t : Tr, ld (mir t) = rd' t
  | .leaf => rfl
  | .node l r => by simp only [mir, ld, rd', ld_mir r]

theorem emit_ld : ∀ (t : Tr) (s : St2), emit t 0 s = ap (List.replicate (ld t) false) s
  | .leaf, s => rfl
  | .node l r, s => by
    rw [emit, if_pos (by omega), emit_ld l, ld, List.replicate_succ]; rfl

/-- Words that begin with zeros are moved by a number of zeros. -/
def Sh (F : St2 → St2) (a b : Nat) : Prop := ∀ m s, F (ap (List.replicate (m + a) false) s) = ap (List.replicate (m + b) false) s

theorem ap_rep (a b : Nat) (s : St2) : ap (List.replicate (a + b) false) s = ap (List.replicate a false) (ap (List.replicate b false) s) := by
  rw [ap_ap, List.replicate_append_replicate]

theorem sh_pair (p : Tr × Tr) (hp : p.1.c = p.2.c) : Sh (fOf p) (ld p.1) (ld p.2) := by
  intro m s
  have h1 : ap (List.replicate (m + ld p.1) false) s = emit p.1 0 (ap (List.replicate m false) s) := by rw [emit_ld, Nat.add_comm, ap_rep]
  have h2 : ap (List.replicate (m + ld p.2) false) s = emit p.2 0 (ap (List.replicate m false) s) := by rw [emit_ld, Nat.add_comm, ap_rep]
  rw [h1, h2, fOf_emit _ _ _ (Nat.zero_le _)]

theorem sh_comp {F G : St2 → St2} {a b c d : Nat} (h1 : Sh F a b) (h2 : Sh G c d) : Sh (fun s => G (F s)) (a + c) (b + d) := by
  intro m s
  have e1 : m + (a + c) = (m + c) + a := by omega
  have e2 : (m + c) + b = (m + b) + c := by omega
  have e3 : (m + b) + d = m + (b + d) := by omega
  show G (F _) = _
  rw [e1, h1, e2, h2, e3]

theorem ap_inj : ∀ (a b : Nat), ap (List.replicate a false) (fun _ => true) = ap (List.replicate b false) (fun _ => true) → a = b
  | 0, 0, _ => rfl
  | 0, b + 1, h => by have := congrFun h 0; simp [List.replicate_succ, ap, sc] at this
  | a + 1, 0, h => by have := congrFun h 0; simp [List.replicate_succ, ap, sc] at this
  | a + 1, b + 1, h => by
    rw [List.replicate_succ, List.replicate_succ] at h
    have := ap_inj a b (sc_inj h).2
    omega

theorem com_ld (p q : Tr × Tr) (hp : p.1.c = p.2.c) (hq : q.1.c = q.2.c) : ld (comT2 p q).1 = ld (comT2 p q).2 := by
  have h0 := sh_pair (comT2 p q) (comT_eqc p q hp hq)
  have h1 := sh_comp (sh_comp (sh_comp (sh_pair (swp p) hp.symm) (sh_pair (swp q) hq.symm)) (sh_pair p hp)) (sh_pair q hq)
  generalize hA : ld (swp p).1 + ld (swp q).1 + ld p.1 + ld q.1 = A at h1
  have hB : ld (swp p).2 + ld (swp q).2 + ld p.2 + ld q.2 = A := by
    rw [← hA]; show ld p.1 + ld q.1 + ld p.2 + ld q.2 = ld p.2 + ld q.2 + ld p.1 + ld q.1; omega
  rw [hB] at h1
  have e1 := h0 A (fun _ => true)
  have e2 := h1 (ld (comT2 p q).1) (fun _ => true)
  have e3 : ∀ s, fOf (comT2 p q) s = fOf q (fOf p (fOf (swp q) (fOf (swp p) s))) := fOf_com p q hp hq
  rw [e3, Nat.add_comm] at e1
  have e4 := e1.symm.trans e2
  have := ap_inj _ _ e4
  omega

theorem mir_com (p q : Tr × Tr) (hp : p.1.c = p.2.c) (hq : q.1.c = q.2.c) : comT2 (mirP p) (mirP q) = mirP (comT2 p q) := by
  have h1 := times_mir (swp p) (swp q) hp.symm hq.symm
  have h2 := times_mir p q hp hq
  have h3 := times_mir (timesT (swp p) (swp q)) (timesT p q) (times_eqc _ _ hp.symm hq.symm) (times_eqc _ _ hp hq)
  unfold comT2
  rw [← h3, ← h1, ← h2]

theorem com_rd (p q : Tr × Tr) (hp : p.1.c = p.2.c) (hq : q.1.c = q.2.c) : rd' (comT2 p q).1 = rd' (comT2 p q).2 := by
  have h := com_ld (mirP p) (mirP q) (by show (mir p.1).c = (mir p.2).c; rw [mir_c, mir_c, hp]) (by show (mir q.1).c = (mir q.2).c; rw [mir_c, mir_c, hq])
  rw [mir_com p q hp hq] at h
  have h' : ld (mir (comT2 p q).1) = ld (mir (comT2 p q).2) := h
  rwa [ld_mir, ld_mir] at h'

end Go.AI
