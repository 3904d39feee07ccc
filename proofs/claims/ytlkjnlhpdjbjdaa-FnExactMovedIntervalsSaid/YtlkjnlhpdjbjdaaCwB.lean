/- Rows of rows of the call's own: what they are, and how they come to be. -/
import Derived.Test.YtlkjnlhpdjbjdaaCwA
set_option autoImplicit false
set_option maxRecDepth 100000
set_option linter.unusedVariables false
namespace Go.AI
open Go.Proofs

abbrev Iv : Type := Rt × Rt

def ivC (x : Iv) : List Value := [.int .i64 x.1.1, .int .i64 x.1.2, .int .i64 x.2.1, .int .i64 x.2.2]

/-- A row of rows of two ratios, all of them the call's own. -/
structure RR (w : World) (N : Nat) (v : Value) (l : List Iv) (us : List Value) : Prop where
  out : w.ownsRow N t_Simpl_Ratio 1 v l.length us
  inn : ∀ (j : Nat) (x : Iv) (u : Value), l[j]? = some x → us[j]? = some u → w.ownsRow N t_impl_Ratio 2 u 2 (ivC x)
  dj : (v :: us).Pairwise fun a b => a.ownBlock = none ∨ a.ownBlock ≠ b.ownBlock

theorem RR.len {w : World} {N : Nat} {v : Value} {l : List Iv} {us : List Value} (h : RR w N v l us) : us.length = l.length := by
  have := h.out.1; omega

theorem own_lt {w : World} {N s n : Nat} {e : TypeId} {v : Value} {xs : List Value} (h : w.ownsRow N e s v n xs) {b : Nat} (hb : v.ownBlock = some b) : N ≤ b ∧ b < w.heap.size := by
  rcases h.2 with ⟨rfl, _⟩ | ⟨g, cap, cur, rfl, hg, hh, _⟩
  · cases hb
  · simp only [Value.ownBlock, Option.some.injEq] at hb
    subst hb
    exact ⟨hg, (Array.getElem?_eq_some_iff.1 hh).1⟩

theorem own_keep {w w' : World} {N s n : Nat} {e : TypeId} {v : Value} {xs : List Value} (h : w.ownsRow N e s v n xs) (hk : ∀ b, v.ownBlock = some b → w'.heap[b]? = w.heap[b]?) : w'.ownsRow N e s v n xs := by
  refine ⟨h.1, ?_⟩
  rcases h.2 with h0 | ⟨g, cap, cur, rfl, hg, hh, r⟩
  · exact .inl h0
  · exact .inr ⟨g, cap, cur, rfl, hg, by rw [hk g rfl]; exact hh, r⟩

theorem own_base {w : World} {N M s n : Nat} {e : TypeId} {v : Value} {xs : List Value} (h : w.ownsRow N e s v n xs) (hk : M ≤ N) : w.ownsRow M e s v n xs := by
  refine ⟨h.1, ?_⟩
  rcases h.2 with h0 | ⟨g, cap, cur, rfl, hg, hh, r⟩
  · exact .inl h0
  · exact .inr ⟨g, cap, cur, rfl, by omega, hh, r⟩

/-- A row of two ratios: its block. -/
theorem own2 {w : World} {N : Nat} {u : Value} {x : Iv} (h : w.ownsRow N t_impl_Ratio 2 u 2 (ivC x)) :
    ∃ b cap cur, u = .slice (some ⟨b, 0, none⟩) 2 cap ∧ N ≤ b ∧ w.heap[b]? = some (.cells cur t_impl_Ratio (0, 0)) ∧ cur[0]? = some (.int .i64 x.1.1) ∧ cur[1]? = some (.int .i64 x.1.2) ∧ cur[2]? = some (.int .i64 x.2.1) ∧ cur[3]? = some (.int .i64 x.2.2) := by
  rcases h.2 with ⟨_, h0⟩ | ⟨g, cap, cur, rfl, hg, hh, _, _, _, hc⟩
  · omega
  · have hk : ∀ j, j < 4 → cur[j]? = (ivC x)[j]? := fun j hj => by
      rw [← hc, List.getElem?_take, if_pos (by omega), Array.getElem?_toList]
    exact ⟨g, cap, cur, rfl, hg, hh, hk 0 (by omega), hk 1 (by omega), hk 2 (by omega), hk 3 (by omega)⟩

theorem RR.blocks {w : World} {N : Nat} {v : Value} {l : List Iv} {us : List Value} (h : RR w N v l us) : ∀ u ∈ v :: us, ∀ b, u.ownBlock = some b → N ≤ b ∧ b < w.heap.size := by
  intro u hu b hb
  rcases List.mem_cons.1 hu with rfl | hu
  · exact own_lt h.out hb
  · obtain ⟨j, hj, rfl⟩ := List.mem_iff_getElem.1 hu
    have hl := h.len
    exact own_lt (h.inn j _ _ (List.getElem?_eq_getElem (by omega)) (List.getElem?_eq_getElem hj)) hb

theorem RR.keep {w w' : World} {N : Nat} {v : Value} {l : List Iv} {us : List Value} (h : RR w N v l us) (hk : ∀ u ∈ v :: us, ∀ b, u.ownBlock = some b → w'.heap[b]? = w.heap[b]?) : RR w' N v l us :=
  ⟨own_keep h.out (hk v (by simp)), fun j x u hx hu => own_keep (h.inn j x u hx hu) (hk u (List.mem_cons_of_mem _ (List.mem_of_getElem? hu))), h.dj⟩

theorem RR.fr {w w' : World} {N : Nat} {v : Value} {l : List Iv} {us : List Value} (h : RR w N v l us) (hf : Fr w [] w') : RR w' N v l us :=
  h.keep fun u hu b hb => hf.block b (h.blocks u hu b hb).2 (fun _ hv => by cases hv)

theorem RR.nil (w : World) (N : Nat) : RR w N (.slice none 0 0) [] [] :=
  ⟨⟨rfl, .inl ⟨rfl, rfl⟩⟩, fun j x u hx => by simp at hx, by simp⟩

theorem Fr.refl' (w : World) : Fr w [] w := ⟨rfl, rfl, rfl, Nat.le_refl _, fun _ _ _ => rfl⟩
theorem Fr.trans' {w w1 w2 : World} (h : Fr w [] w1) (h' : Fr w1 [] w2) : Fr w [] w2 :=
  ⟨h'.os.trans h.os, h'.tape.trans h.tape, h'.output.trans h.output, Nat.le_trans h.size h'.size, fun k hk hm => by rw [h'.block k (Nat.lt_of_lt_of_le hk h.size) hm, h.block k hk hm]⟩
theorem Fr.alloc' {w w1 : World} (h : Fr w [] w1) (o : Obj) : Fr w [] (w1.alloc o) :=
  ⟨h.os, h.tape, h.output, by have := h.size; simp; omega, fun k hk hm => by rw [heap_alloc_old w1 o (Nat.lt_of_lt_of_le hk h.size)]; exact h.block k hk hm⟩
theorem Fr.drew' {w w1 : World} (h : Fr w [] w1) : Fr w [] w1.drew := ⟨h.os, h.tape, h.output, h.size, h.block⟩
theorem Fr.drewN' {w w1 : World} (h : Fr w [] w1) (n : Nat) : Fr w [] (w1.drewN n) := ⟨h.os, h.tape, h.output, h.size, h.block⟩
theorem Fr.undrew' {w w1 : World} (h : Fr w.drew [] w1) : Fr w [] w1 := ⟨h.os, h.tape, h.output, h.size, h.block⟩

/-- One more row. -/
theorem RR.push {w w' : World} {N : Nat} {v v' u : Value} {l : List Iv} {us : List Value} (h : RR w N v l us) (x : Iv) (hu : w.ownsRow N t_impl_Ratio 2 u 2 (ivC x))
    (hd : ∀ y ∈ v :: us, y.ownBlock ≠ u.ownBlock) (hown : w'.ownsRow N t_Simpl_Ratio 1 v' (l.length + 1) (us ++ [u])) (hg : w.grownBy w' v.ownBlock) (hv : v'.ownBlock = v.ownBlock ∨ ∃ g, v'.ownBlock = some g ∧ w.heap.size ≤ g) :
    RR w' N v' (l ++ [x]) (us ++ [u]) := by
  have hdj := h.dj
  rw [List.pairwise_cons] at hdj
  obtain ⟨d1, d2⟩ := hdj
  have hu0 : ∃ b, u.ownBlock = some b := by obtain ⟨b, cap, cur, rfl, _⟩ := own2 hu; exact ⟨b, rfl⟩
  obtain ⟨bu, hbu⟩ := hu0
  have hul := own_lt hu hbu
  have old : ∀ y ∈ us ++ [u], ∀ b, y.ownBlock = some b → w'.heap[b]? = w.heap[b]? ∧ b < w.heap.size := fun y hy b hb => by
    rcases List.mem_append.1 hy with hy | hy
    · have hl := (h.blocks y (List.mem_cons_of_mem _ hy) b hb).2
      refine ⟨hg.block b hl fun e => ?_, hl⟩
      rcases d1 y hy with hn | hn
      · rw [hn] at e; cases e
      · exact hn (by rw [hb]; exact e.symm)
    · simp only [List.mem_singleton] at hy
      subst hy
      rw [hbu] at hb
      cases hb
      exact ⟨hg.block _ hul.2 fun e => hd v (by simp) (by rw [hbu]; exact e.symm), hul.2⟩
  refine ⟨by rw [List.length_append]; exact hown, fun j y q hy hq => ?_, ?_⟩
  · have hql := List.mem_of_getElem? hq
    rcases Nat.lt_or_ge j l.length with hj | hj
    · rw [List.getElem?_append_left hj] at hy
      rw [List.getElem?_append_left (by rw [h.len]; exact hj)] at hq
      exact own_keep (h.inn j y q hy hq) fun b hb => (old q hql b hb).1
    · rw [List.getElem?_append_right hj] at hy
      rw [List.getElem?_append_right (by rw [h.len]; exact hj), h.len] at hq
      cases hjl : j - l.length with
      | zero =>
        rw [hjl] at hy hq
        simp at hy hq
        subst hy; subst hq
        exact own_keep hu fun b hb => (old u hql b hb).1
      | succ n => rw [hjl] at hy; simp at hy
  · rw [List.pairwise_cons]
    refine ⟨fun y hy => ?_, ?_⟩
    · rcases hv with hv | ⟨g, hv, hg0⟩
      · rw [hv]
        rcases List.mem_append.1 hy with hy | hy
        · exact d1 y hy
        · simp only [List.mem_singleton] at hy
          subst hy
          exact .inr (hd v (by simp))
      · right
        rw [hv]
        intro e
        have := (old y hy g e.symm).2
        omega
    · rw [List.pairwise_append]
      refine ⟨d2, by simp, fun a ha b hb => ?_⟩
      simp only [List.mem_singleton] at hb
      subst hb
      exact .inr (hd a (List.mem_cons_of_mem _ ha))

/-- The last row's second ratio is set. -/
theorem RR.set {w w' : World} {N b cap : Nat} {v : Value} {l : List Iv} {us : List Value} {x : Iv} {y : Rt} {cur cur' : Array Value} (h : RR w N v (l ++ [x]) (us ++ [.slice (some ⟨b, 0, none⟩) 2 cap]))
    (hb : w.heap[b]? = some (.cells cur t_impl_Ratio (0, 0))) (hb' : w'.heap[b]? = some (.cells cur' t_impl_Ratio (0, 0))) (hc : cur' = (cur.set! 2 (.int .i64 y.1)).set! 3 (.int .i64 y.2)) (ho : ∀ k, k ≠ b → w'.heap[k]? = w.heap[k]?) :
    RR w' N v (l ++ [(x.1, y)]) (us ++ [.slice (some ⟨b, 0, none⟩) 2 cap]) := by
  have hlen := h.len
  simp only [List.length_append, List.length_singleton] at hlen
  have hdj := h.dj
  rw [List.pairwise_cons, List.pairwise_append] at hdj
  obtain ⟨d1, d2, _, d3⟩ := hdj
  refine ⟨?_, fun j z q hz hq => ?_, h.dj⟩
  · have := h.out
    rw [show (l ++ [(x.1, y)]).length = (l ++ [x]).length by simp]
    refine own_keep this fun k hk => ho k fun e => ?_
    subst e
    rcases d1 (.slice (some ⟨k, 0, none⟩) 2 cap) (by simp) with hn | hn
    · rw [hn] at hk; cases hk
    · exact hn hk
  · rcases Nat.lt_or_ge j l.length with hj | hj
    · have hz' : (l ++ [x])[j]? = some z := by rw [List.getElem?_append_left hj] at hz ⊢; exact hz
      have hq' : us[j]? = some q := by rw [List.getElem?_append_left (by omega)] at hq; exact hq
      refine own_keep (h.inn j z q hz' hq) fun k hk => ho k fun e => ?_
      subst e
      rcases d3 q (List.mem_of_getElem? hq') (.slice (some ⟨k, 0, none⟩) 2 cap) (by simp) with hn | hn
      · rw [hn] at hk; cases hk
      · exact hn hk
    · rw [List.getElem?_append_right hj] at hz
      rw [List.getElem?_append_right (by omega), show us.length = l.length by omega] at hq
      cases hjl : j - l.length with
      | succ n => rw [hjl] at hz; simp at hz
      | zero =>
        rw [hjl] at hz hq
        simp at hz hq
        subst hz; subst hq
        have hi := h.inn l.length x (.slice (some ⟨b, 0, none⟩) 2 cap) (by simp) (by rw [List.getElem?_append_right (by omega)]; simp [show us.length = l.length by omega])
        rcases hi.2 with ⟨_, h0⟩ | ⟨g, cap', cur0, e, hg, hh, h1, h2, h3, h4⟩
        · omega
        · cases e
          rw [hb] at hh
          cases hh
          refine ⟨rfl, .inr ⟨b, cap, cur', rfl, hg, hb', h1, h2, by rw [hc]; simpa using h3, ?_⟩⟩
          obtain ⟨cl⟩ := cur
          rw [hc]
          have hsz : 4 ≤ cl.length := by simp at h3; omega
          match cl, hsz with
          | c0 :: c1 :: c2 :: c3 :: r, _ =>
            simp [ivC] at h4 ⊢
            exact ⟨h4.1, h4.2.1⟩

end Go.AI
