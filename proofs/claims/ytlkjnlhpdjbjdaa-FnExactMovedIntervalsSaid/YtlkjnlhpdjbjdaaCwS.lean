/- Contract: all that is fixed, looked at only. -/
import Derived.Test.YtlkjnlhpdjbjdaaCwF
import Derived.Test.YtlkjnlhpdjbjdaaCod
set_option autoImplicit false
set_option maxRecDepth 100000
set_option linter.unusedVariables false
namespace Go.AI
open Go.Proofs



theorem own2_view {w : World} {N : Nat} {B : Nat → Prop} {u : Value} {x : Iv} (h : w.ownsRow N t_impl_Ratio 2 u 2 (ivC x)) (hB : ∀ b, u.ownBlock = some b → B b) : RepK w B (.sl RK) [x.1, x.2] [u] := by
  rcases h.2 with ⟨_, h0⟩ | ⟨g, cap, cur, rfl, hg, hh, hc1, hc2, hc3, hc⟩
  · omega
  · refine ⟨some ⟨g, 0, none⟩, cap, ivC x, rfl, hc1, ⟨_, _, rfl, ⟨[_], [_], rfl, rfl, rfl⟩, ⟨_, _, rfl, ⟨[_], [_], rfl, rfl, rfl⟩, rfl⟩⟩, (fun h => by cases h), fun ad had => ?_⟩
    cases had
    refine ⟨rfl, fun j q hq => ?_, fun _ => hB g rfl⟩
    have hj : j < 4 := by
      have := (List.getElem?_eq_some_iff.1 hq).1
      simpa [ivC] using this
    rw [show (⟨g, 0, none⟩ : Addr).add j = ⟨g, j, none⟩ by unfold Addr.add; split <;> simp_all, cell_of_row w g j _ _ (0, 0) hh, ← Array.getElem?_toList, ← hq, ← hc, List.getElem?_take, if_pos (by omega)]

theorem RR.view {w : World} {N : Nat} {B : Nat → Prop} {v : Value} {l : List Iv} {us : List Value} (h : RR w N v l us) (hB : ∀ b, N ≤ b → v.ownBlock ≠ some b → B b) : OwnRow w B N t_Simpl_Ratio (.sl RK) (ivL l) v := by
  have hdj := h.dj
  rw [List.pairwise_cons] at hdj
  refine ⟨us, by rw [List.length_map]; exact h.out, ?_⟩
  have key : ∀ (l : List Iv) (us : List Value), us.length = l.length → (∀ (j : Nat) (x : Iv) (u : Value), l[j]? = some x → us[j]? = some u → w.ownsRow N t_impl_Ratio 2 u 2 (ivC x)) → (∀ u ∈ us, ∀ b, u.ownBlock = some b → B b) → RowsOf (RepK w B (.sl RK)) (ivL l) us := by
    intro l
    induction l with
    | nil => intro us hl _ _; exact List.length_eq_zero_iff.1 hl
    | cons x l ih =>
      intro us hl hi hb
      cases us with
      | nil => simp at hl
      | cons u us => exact ⟨[u], us, rfl, own2_view (hi 0 x u rfl rfl) (hb u (by simp)), ih us (by simpa using hl) (fun j y q hy hq => hi (j + 1) y q hy hq) (fun q hq => hb q (List.mem_cons_of_mem _ hq))⟩
  refine key l us h.len h.inn fun u hu b hb => hB b (h.blocks u (List.mem_cons_of_mem _ hu) b hb).1 fun e => ?_
  rcases hdj.1 u hu with hn | hn
  · rw [hn] at e; cases e
  · exact hn (by rw [e, hb])

theorem blk_own (v : Value) (h : ∀ u, v ≠ .pointer u) (h' : ∀ u, v ≠ .map u) : blk v = v.ownBlock := by
  cases v <;> first | rfl | exact absurd rfl (h _) | exact absurd rfl (h' _) | skip
  rename_i a l c
  cases a <;> rfl

theorem own_form {w : World} {N s n : Nat} {e : TypeId} {v : Value} {xs : List Value} (h : w.ownsRow N e s v n xs) : blk v = v.ownBlock := by
  rcases h.2 with ⟨rfl, _⟩ | ⟨g, cap, cur, rfl, _⟩ <;> rfl




theorem pair_agg {w : World} {B : Nat → Prop} {p : PT} {u : Value} (h : RepV w B (.pr .tree .tree) p u) : ∃ v1 v2, u = .agg #[v1, v2] := by
  obtain ⟨cs, ⟨c1, c2, rfl, ⟨x, rfl, _⟩, ⟨y, rfl, _⟩⟩, rfl⟩ := h
  exact ⟨x, y, rfl⟩

theorem RepV.fr {w w' : World} {B : Nat → Prop} {k : Kd} {x : k.ty} {u : Value} (h : RepV w B k x u) (hf : Fr w [] w') : RepV w' B k x u :=
  RepV.keep ⟨fun b hb hl => ⟨hb, hf.block b hl (fun _ hv => by cases hv)⟩⟩ h

theorem fixed_RR (p : PT) (h1 : p.1.c ≤ 8) (h2 : p.1.c = p.2.c) (w : World) (B : Nat → Prop) (u : Value) (hu : RepV w B (.pr .tree .tree) p u) :
    Calls Try.prog i_impl_pair_fixed #[u] w fun e w' => ∃ (v : Value) (us : List Value), e = .returned v ∧ Fr w [] w' ∧ RR w' w.heap.size v (fxL p) us := by
  obtain ⟨v1, v2, rfl⟩ := pair_agg hu
  exact fixed_any p h1 h2 w B v1 v2 fun w' hf => hu.fr hf

theorem fixed_SC (p : PT) (h1 : p.1.c ≤ 8) (h2 : p.1.c = p.2.c) : SC cfg.P i_impl_pair_fixed [.s (.v (.pr .tree .tree) p)] (.s (.own t_Simpl_Ratio (.sl RK) (ivL (fxL p)))) [] := by
  refine ⟨⟨P_impl_pair_fixed, get_impl_pair_fixed, rfl, by decide⟩, ?_⟩
  rintro w B vs mv hB hd ⟨u, us, rfl, hu, rfl, rfl⟩
  refine (fixed_RR p h1 h2 w B u hu).mono ?_
  rintro e w' ⟨v, us, rfl, hf, hr⟩
  refine ⟨v, (blk v).toList, rfl, hf, by cases blk v <;> simp, fun b hb => ?_, ⟨?_, rfl⟩, rfl⟩
  · rw [own_form hr.out, Option.mem_toList] at hb
    exact (own_lt hr.out hb).1
  · refine hr.view fun b hb hne => ⟨.inr hb, fun hm => hne ?_⟩
    rw [own_form hr.out, Option.mem_toList] at hm
    exact hm

end Go.AI
