/- What all pieces fix, joined; for the walk. -/
import Derived.Test.YtlkjnlhpdjbjdaaCwB
set_option autoImplicit false
set_option maxRecDepth 100000
set_option linter.unusedVariables false
namespace Go.AI
open Go.Proofs

def fixP (f t : List UInt8) : Option Iv := match fixI f t with
  | ([a, b], true) => some (a, b)
  | _ => none

def mrg (out : List Iv) (r : Iv) : List Iv := match out.getLast? with
  | none => [r]
  | some x => if rlt x.2 r.1 then out ++ [r] else if rlt x.2 r.2 then out.dropLast ++ [(x.1, r.2)] else out

def stp (out : List Iv) (ft : List UInt8 × List UInt8) : List Iv := match fixP ft.1 ft.2 with
  | none => out
  | some r => mrg out r

def FX (ps : List (List UInt8 × List UInt8)) : List Iv := ps.foldl stp []

theorem fixI_yes (f t : List UInt8) (h1 : f.length ≤ 8) (h2 : t.length ≤ 8) (h : (fixI f t).2 = true) : ∃ a b, (fixI f t).1 = [a, b] ∧ fixP f t = some (a, b) ∧ small a ∧ small b := by
  have a1 := sE_le f h1
  have k : ∀ a b : Rt, fixI f t = ([a, b], true) → fixP f t = some (a, b) := fun a b e => by unfold fixP; rw [e]
  by_cases hz : f.length = t.length
  · have e : fixI f t = ([rt (sA f : Int) 256, rt (sE f : Int) 256], decide (sA f = sA t)) := by unfold fixI; rw [if_pos hz]
    rw [e] at h
    have h' : decide (sA f = sA t) = true := h
    rw [h'] at e
    exact ⟨_, _, by rw [e], k _ _ e, rt_small _ _ (by omega) (by omega) (by omega) (by omega), rt_small _ _ (by omega) (by omega) (by omega) (by omega)⟩
  · cases c : (rlt (rt (fxN f t) (fxD f t)) (rt (sA f : Int) 256) || rlt (rt (sE f : Int) 256) (rt (fxN f t) (fxD f t)))
    · have e : fixI f t = ([rt (fxN f t) (fxD f t), rt (fxN f t) (fxD f t)], true) := by unfold fixI; rw [if_neg hz, c]; rfl
      obtain ⟨b1, b2, b3, b4⟩ := fx_bd f t h1 h2 hz
      have s := rt_small (fxN f t) (fxD f t) (by omega) (by omega) b3 (by omega)
      exact ⟨_, _, by rw [e], k _ _ e, s, s⟩
    · have e : fixI f t = ([], false) := by unfold fixI; rw [if_neg hz, c]; rfl
      rw [e] at h; cases h

theorem fixI_not (f t : List UInt8) (h : (fixI f t).2 = false) : fixP f t = none := by
  unfold fixP
  generalize fixI f t = z at h
  obtain ⟨l, b⟩ := z
  simp only at h
  subst h
  split
  · rename_i e
    simp only [Prod.mk.injEq] at e
    cases e.2
  · rfl

theorem mrg_len (out : List Iv) (r : Iv) : (mrg out r).length ≤ out.length + 1 := by
  unfold mrg
  split
  · simp
  · rename_i x hx
    split
    · simp
    · split
      · rw [List.length_append, List.length_dropLast]; simp
      · omega

theorem stp_len (out : List Iv) (ft : List UInt8 × List UInt8) : (stp out ft).length ≤ out.length + 1 := by
  unfold stp
  split
  · omega
  · exact mrg_len _ _

theorem foldl_len (ps : List (List UInt8 × List UInt8)) : ∀ out : List Iv, (ps.foldl stp out).length ≤ out.length + ps.length := by
  induction ps with
  | nil => intro out; simp
  | cons a r ih => intro out; rw [List.foldl_cons]; have := ih (stp out a); have := stp_len out a; rw [List.length_cons]; omega

theorem FX_len (ps : List (List UInt8 × List UInt8)) (k : Nat) : (FX (ps.take k)).length ≤ k := by
  have := foldl_len (ps.take k) []
  unfold FX
  have h2 := List.length_take_le k ps
  simp only [List.length_nil] at this
  omega

theorem FX_succ (ps : List (List UInt8 × List UInt8)) (k : Nat) (h : k < ps.length) : FX (ps.take (k + 1)) = stp (FX (ps.take k)) ps[k] := by
  unfold FX
  rw [List.take_succ_eq_append_getElem h, List.foldl_append]
  rfl

def smalls (l : List Iv) : Prop := ∀ x ∈ l, small x.1 ∧ small x.2

theorem smalls_mrg {l : List Iv} {r : Iv} (h : smalls l) (hr : small r.1 ∧ small r.2) : smalls (mrg l r) := by
  intro y hy
  unfold mrg at hy
  split at hy
  · simp only [List.mem_singleton] at hy; subst hy; exact hr
  · rename_i x hx
    have hxm := h x (List.mem_of_getLast? hx)
    split at hy
    · rcases List.mem_append.1 hy with hy | hy
      · exact h y hy
      · simp only [List.mem_singleton] at hy; subst hy; exact hr
    · split at hy
      · rcases List.mem_append.1 hy with hy | hy
        · exact h y (List.dropLast_subset _ hy)
        · simp only [List.mem_singleton] at hy; subst hy; exact ⟨hxm.1, hr.2⟩
      · exact h y hy

theorem smalls_foldl (ps : List (List UInt8 × List UInt8)) (hb : ∀ a ∈ ps, a.1.length ≤ 8 ∧ a.2.length ≤ 8) : ∀ out : List Iv, smalls out → smalls (ps.foldl stp out) := by
  induction ps with
  | nil => intro out h; exact h
  | cons a r ih =>
    intro out h
    rw [List.foldl_cons]
    refine ih (fun x hx => hb x (List.mem_cons_of_mem _ hx)) _ ?_
    unfold stp
    have hl := hb a (by simp)
    split
    · exact h
    · rename_i z hz
      cases c : (fixI a.1 a.2).2
      · rw [fixI_not _ _ c] at hz; cases hz
      · obtain ⟨x, y, _, e, s1, s2⟩ := fixI_yes a.1 a.2 hl.1 hl.2 c
        rw [e] at hz
        cases hz
        exact smalls_mrg h ⟨s1, s2⟩

theorem smalls_FX (ps : List (List UInt8 × List UInt8)) (hb : ∀ a ∈ ps, a.1.length ≤ 8 ∧ a.2.length ≤ 8) (k : Nat) : smalls (FX (ps.take k)) :=
  smalls_foldl _ (fun a ha => hb a (List.mem_of_mem_take ha)) [] (fun x hx => by cases hx)

/-- The loop's relation. -/
structure Rel (w0 : World) (ps : List (List UInt8 × List UInt8)) (m g : Nat) (cur : Array Value) (k : Nat) (v : Value) (wr : World) (us : List Value) : Prop where
  le : k ≤ m
  fr : Fr w0 [] wr
  pc : wr.heap[g]? = some (.cells cur t_impl_piece (0, 0))
  rr : RR wr w0.heap.size v (FX (ps.take k)) us
  ne : ∀ u ∈ v :: us, u.ownBlock ≠ some g
  gl : w0.heap.size ≤ g

theorem Rel.gs {w0 : World} {ps : List (List UInt8 × List UInt8)} {m g : Nat} {cur : Array Value} {k : Nat} {v : Value} {wr : World} {us : List Value} (h : Rel w0 ps m g cur k v wr us) : g < wr.heap.size := (Array.getElem?_eq_some_iff.1 h.pc).1

def RelX (w0 : World) (ps : List (List UInt8 × List UInt8)) (m g : Nat) (cur : Array Value) (v i : Value) (wr : World) : Prop := ∃ (k : Nat) (us : List Value), i = .int .i64 k ∧ Rel w0 ps m g cur k v wr us

theorem Rel.fr' {w0 w' : World} {ps : List (List UInt8 × List UInt8)} {m g : Nat} {cur : Array Value} {k : Nat} {v : Value} {wr : World} {us : List Value} (h : Rel w0 ps m g cur k v wr us) (hf : Fr wr [] w') : Rel w0 ps m g cur k v w' us :=
  ⟨h.le, h.fr.trans' hf, by rw [hf.block g h.gs (fun _ hv => by cases hv)]; exact h.pc, h.rr.fr hf, h.ne, h.gl⟩

theorem Fr.grown' {w W w5 : World} {row : Option Nat} (h : Fr w [] W) (hg : W.grownBy w5 row) (hr : ∀ b, row = some b → w.heap.size ≤ b) : Fr w [] w5 :=
  ⟨hg.os.trans h.os, hg.tape.trans h.tape, hg.output.trans h.output, Nat.le_trans h.size hg.size, fun k hk hm => by
    rw [hg.block k (Nat.lt_of_lt_of_le hk h.size) (fun e => by have := hr k e.symm; omega)]
    exact h.block k hk hm⟩

theorem FX_stp (ps : List (List UInt8 × List UInt8)) (k : Nat) (f t : List UInt8) (h : ps[k]? = some (f, t)) : FX (ps.take (k + 1)) = stp (FX (ps.take k)) (f, t) := by
  have hk : k < ps.length := (List.getElem?_eq_some_iff.1 h).1
  have := FX_succ ps k hk
  rw [(List.getElem?_eq_some_iff.1 h).2] at this
  exact this

theorem mrg_nil (r : Iv) : mrg [] r = [r] := rfl
theorem mrg_app (l : List Iv) (x r : Iv) : mrg (l ++ [x]) r = if rlt x.2 r.1 then l ++ [x] ++ [r] else if rlt x.2 r.2 then l ++ [(x.1, r.2)] else l ++ [x] := by
  unfold mrg
  rw [List.getLast?_append]
  simp

/-- A round that adds a row. -/
theorem Rel.push {w0 : World} {ps : List (List UInt8 × List UInt8)} {m g : Nat} {cur : Array Value} {k : Nat} {v : Value} {wr : World} {us : List Value} (h : Rel w0 ps m g cur k v wr us) (hk : k < m)
    {W w5 : World} {ur : Value} {x : Iv} {g5 cap5 : Nat} (hf : Fr wr [] W) (hu : W.ownsRow wr.heap.size t_impl_Ratio 2 ur 2 (ivC x)) (e : FX (ps.take (k + 1)) = FX (ps.take k) ++ [x])
    (hown : w5.ownsRow w0.heap.size t_Simpl_Ratio 1 (.slice (some ⟨g5, 0, none⟩) ((FX (ps.take k)).length + 1) cap5) ((FX (ps.take k)).length + 1) (us ++ [ur])) (hg : W.grownBy w5 v.ownBlock) (ha : v.ownBlock = some g5 ∨ g5 = W.heap.size) :
    Rel w0 ps m g cur (k + 1) (.slice (some ⟨g5, 0, none⟩) ((FX (ps.take k)).length + 1) cap5) w5 (us ++ [ur]) := by
  have hW := h.fr' hf
  obtain ⟨bu, capu, curu, rfl, hbu, hbk, _⟩ := own2 hu
  have hd : ∀ y ∈ v :: us, y.ownBlock ≠ (Value.slice (some ⟨bu, 0, none⟩) 2 capu).ownBlock := fun y hy he => by
    have := (h.rr.blocks y hy bu he).2
    omega
  have hv : (Value.slice (some ⟨g5, 0, none⟩) ((FX (ps.take k)).length + 1) cap5).ownBlock = v.ownBlock ∨ ∃ g, (Value.slice (some ⟨g5, 0, none⟩) ((FX (ps.take k)).length + 1) cap5).ownBlock = some g ∧ W.heap.size ≤ g := by
    rcases ha with ha | ha
    · exact .inl ha.symm
    · exact .inr ⟨g5, rfl, by omega⟩
  have hu' : W.ownsRow w0.heap.size t_impl_Ratio 2 (.slice (some ⟨bu, 0, none⟩) 2 capu) 2 (ivC x) := own_base hu h.fr.size
  refine ⟨by omega, hW.fr.grown' hg fun b hb => (h.rr.blocks v (by simp) b hb).1, ?_, by rw [e]; exact hW.rr.push x hu' hd hown hg hv, fun y hy => ?_, h.gl⟩
  · rw [hg.block g hW.gs (fun e => h.ne v (by simp) e.symm)]; exact hW.pc
  · rcases List.mem_cons.1 hy with rfl | hy
    · rcases hv with hv | ⟨q, hq, hq2⟩
      · rw [hv]; exact h.ne v (by simp)
      · rw [hq]
        intro e
        simp only [Option.some.injEq] at e
        have := hW.gs
        omega
    · rcases List.mem_append.1 hy with hy | hy
      · exact h.ne y (List.mem_cons_of_mem _ hy)
      · simp only [List.mem_singleton] at hy
        subst hy
        intro e
        simp only [Value.ownBlock, Option.some.injEq] at e
        have := h.gs
        omega

/-- A round that sets the last row's second ratio. -/
theorem Rel.set {w0 : World} {ps : List (List UInt8 × List UInt8)} {m g : Nat} {cur : Array Value} {k : Nat} {v : Value} {wr : World} {us : List Value} {bl capl : Nat} {l : List Iv} {x : Iv} {y : Rt}
    (h : Rel w0 ps m g cur k v wr (us ++ [.slice (some ⟨bl, 0, none⟩) 2 capl])) (hk : k < m) (hn : FX (ps.take k) = l ++ [x]) (e : FX (ps.take (k + 1)) = l ++ [(x.1, y)])
    {W : World} {curl : Array Value} (hf : Fr wr [] W) (hb : W.heap[bl]? = some (.cells curl t_impl_Ratio (0, 0))) :
    Rel w0 ps m g cur (k + 1) v ((W.setCell ⟨bl, 2, none⟩ (.int .i64 y.1)).setCell ⟨bl, 3, none⟩ (.int .i64 y.2)) (us ++ [.slice (some ⟨bl, 0, none⟩) 2 capl]) := by
  have hW := h.fr' hf
  have h1 := heap_setCell_same W bl 2 _ _ (.int .i64 y.1) hb
  have h2 := heap_setCell_same _ bl 3 _ _ (.int .i64 y.2) h1
  have ho : ∀ j, j ≠ bl → ((W.setCell ⟨bl, 2, none⟩ (.int .i64 y.1)).setCell ⟨bl, 3, none⟩ (.int .i64 y.2)).heap[j]? = W.heap[j]? := fun j hj => by
    rw [heap_setCell_other _ _ _ _ hj, heap_setCell_other _ _ _ _ hj]
  have hbl : w0.heap.size ≤ bl := (h.rr.blocks (.slice (some ⟨bl, 0, none⟩) 2 capl) (by simp) bl rfl).1
  have hrr := hW.rr
  rw [hn] at hrr
  refine ⟨by omega, ⟨hW.fr.os, hW.fr.tape, hW.fr.output, by rw [World.size_setCell, World.size_setCell]; exact hW.fr.size, fun j hj hm => by rw [ho j (by omega)]; exact hW.fr.block j hj hm⟩, ?_, by rw [e]; exact hrr.set hb h2 rfl ho, h.ne, h.gl⟩
  rw [ho g (fun e => h.ne (.slice (some ⟨bl, 0, none⟩) 2 capl) (by simp) (by rw [e]; rfl))]
  exact hW.pc

/-- A round that adds nothing. -/
theorem Rel.same {w0 : World} {ps : List (List UInt8 × List UInt8)} {m g : Nat} {cur : Array Value} {k : Nat} {v : Value} {wr : World} {us : List Value} (h : Rel w0 ps m g cur k v wr us) (hm : ps.length = m) (hk : k < m) (e : FX (ps.take (k + 1)) = FX (ps.take k)) : Rel w0 ps m g cur (k + 1) v wr us :=
  ⟨by omega, h.fr, h.pc, by rw [e]; exact h.rr, h.ne, h.gl⟩

end Go.AI
