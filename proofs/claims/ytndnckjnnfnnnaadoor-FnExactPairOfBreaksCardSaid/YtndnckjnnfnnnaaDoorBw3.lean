/- Walk by hand: what is made of spots; what the walk needs. -/
import Derived.Test.YtndnckjnnfnnnaaDoorJJ
import Derived.Test.YtndnckjnnfnnnaaDoorJG
import Derived.Laws.ResultCell
import Derived.Deep.QuietTactic
import Derived.BigQuiet
set_option autoImplicit false
set_option maxRecDepth 100000
set_option linter.unusedVariables false
namespace Go.AI
open Go.Proofs Go.RowKit

theorem results_cell_row_tmp {P : Program} {fn : Func} {p u : Tmp} {ty : TypeId} (h : fn.results = #[.cell p ty, .tmp u]) (tmps : Array Value) (w : World) (g : Nat) (t : TypeId) (cs : Array Value) (fr : Nat × Nat) (d : TypeDesc)
    (hp : tmps.getD p undef = .pointer (some ⟨g, 0, none⟩)) (hg : w.heap[g]? = some (.cells cs t fr))
    (hu : P.underlying ty = some d) (hd : (match d with | .struct _ | .array _ _ => true | _ => false) = true) (hi : (P.info? ty).map (·.size) = some cs.size) :
    (results fn tmps).run P w = .ok (.tuple #[.agg cs, tmps.getD u undef]) w := by
  rw [results_cell_tmp h, hp]
  simp [asAddr, run_loadVar_row w g t ty cs fr d hg hu hd hi, Result.andThen]

/-- Spots that are read: where they lie. -/
theorem spots_cells {w : World} {B : Nat → Prop} {S : List (Nat × Nat)} {u : Value} (h : RepV w B (.sl (.pr (.int .i64) (.int .i64))) (spN S) u) : ∃ ao cap, u = .slice ao S.length cap ∧ (S.length = 0 ∨ ∃ b o, ao = some ⟨b, o, none⟩ ∧ ∀ (j : Nat) (p : Nat × Nat), S[j]? = some p → w.cell? ⟨b, o + j * 2, none⟩ = some (.int .i64 (p.1 : Int)) ∧ w.cell? ⟨b, o + j * 2 + 1, none⟩ = some (.int .i64 (p.2 : Int))) := by
  obtain ⟨cs, ⟨a, c, flat, rfl, hle, hrow, hnil, hc⟩, rfl⟩ := h
  have hlen : (spN S).length = S.length := List.length_map ..
  have hflat : ∀ {l : List (Nat × Nat)} {fl : List Value}, RowsOf (RepK w B (.pr (.int .i64) (.int .i64))) (spN l) fl → fl = l.flatMap fun p => [.int .i64 (p.1 : Int), .int .i64 (p.2 : Int)] := by
    intro l
    induction l with
    | nil => intro fl h; exact h
    | cons x r ih =>
      intro fl h
      obtain ⟨c1, c2, e, ⟨d1, d2, e1, h1, h2⟩, h3⟩ := h
      have e3 : d1 = [.int .i64 (x.1 : Int)] := h1
      have e4 : d2 = [.int .i64 (x.2 : Int)] := h2
      rw [e, e1, e3, e4, ih h3]
      rfl
  refine ⟨a, c, by show Value.slice a (spN S).length c = _; rw [hlen], ?_⟩
  cases a with
  | none => left; have := hnil rfl; rw [← hlen, this]; rfl
  | some ad =>
    right
    obtain ⟨h0, h1, _⟩ := hc ad rfl
    obtain ⟨b, o, s⟩ := ad
    have hs : s = none := h0
    subst hs
    have hget : ∀ (l : List (Nat × Nat)) (j : Nat) (p : Nat × Nat), l[j]? = some p → (l.flatMap fun p => [Value.int .i64 (p.1 : Int), Value.int .i64 (p.2 : Int)])[j * 2]? = some (.int .i64 (p.1 : Int)) ∧ (l.flatMap fun p => [Value.int .i64 (p.1 : Int), Value.int .i64 (p.2 : Int)])[j * 2 + 1]? = some (.int .i64 (p.2 : Int)) := by
      intro l
      induction l with
      | nil => intro j p h; simp at h
      | cons x r ih =>
        intro j p h
        rw [List.flatMap_cons]
        cases j with
        | zero => simp at h; subst h; exact ⟨rfl, rfl⟩
        | succ j =>
          have := ih j p (by simpa using h)
          rw [show (j + 1) * 2 = j * 2 + 2 by omega, show j * 2 + 2 + 1 = j * 2 + 1 + 2 by omega]
          exact this
    refine ⟨b, o, rfl, fun j p hp => ?_⟩
    obtain ⟨g1, g2⟩ := hget S j p hp
    rw [← hflat hrow] at g1 g2
    have k1 := h1 _ _ g1
    have k2 := h1 _ _ g2
    have ea : ∀ n, (⟨b, o, none⟩ : Addr).add n = ⟨b, o + n, none⟩ := fun n => by unfold Addr.add; split <;> simp_all
    rw [ea] at k1 k2
    exact ⟨k1, k2⟩

theorem low_C (p q : Nat × Nat) (h : Up p q) (h1 : q.1 ≤ 2 ^ 40) (h2 : q.2 ≤ 2 ^ 40) (w : World) :
    Calls Tryd.prog i_impl_lowest #[.int .i64 ((q.1 : Int) - (p.1 : Int)), .int .i64 ((q.2 : Int) - (p.2 : Int))] w fun e w' => e = .returned (.tuple #[.int .i64 ((slp p q).1 : Int), .int .i64 ((slp p q).2 : Int)]) ∧ Fr w [] w' := by
  have hS := low_SC p q h h1 h2
  obtain ⟨u1, u2⟩ := h
  have e3 : IntKind.wrap .i64 ((q.1 : Int) - (p.1 : Int)) = (q.1 : Int) - (p.1 : Int) := by rw [w64] <;> omega
  have e4 : IntKind.wrap .i64 ((q.2 : Int) - (p.2 : Int)) = (q.2 : Int) - (p.2 : Int) := by rw [w64] <;> omega
  rw [e3, e4] at hS
  refine (hS.2 w (fun _ => True) [_, _] [] (fun _ _ v hv => by cases hv) List.Pairwise.nil ⟨_, _, rfl, ⟨[_], rfl, rfl⟩, _, _, rfl, ⟨[_], rfl, rfl⟩, rfl, rfl⟩).mono ?_
  rintro e w' ⟨v, os, he, hf, _, _, ⟨vs, rfl, hr⟩, _⟩
  obtain ⟨u, us, o1, o2, rfl, rfl, ⟨⟨c1, h1, rfl⟩, _⟩, u2, us2, o3, o4, rfl, rfl, ⟨⟨c2, h2, rfl⟩, _⟩, rfl, rfl⟩ := hr
  have e1 : c1 = [.int .i64 ((slp p q).1 : Int)] := h1
  have e2 : c2 = [.int .i64 ((slp p q).2 : Int)] := h2
  subst e1
  subst e2
  exact ⟨he, hf⟩

theorem pop_C (a : Int) (w : World) : Calls Tryd.prog i_math_bits_OnesCount #[.int .u64 a] w fun e w' => e = .returned (.int .i64 (popC a)) ∧ Fr w [] w' := by
  refine ((popC_SC a).2 w (fun _ => True) [_] [] (fun _ _ v hv => by cases hv) List.Pairwise.nil ⟨_, _, rfl, ⟨[_], rfl, rfl⟩, rfl, rfl⟩).mono ?_
  rintro e w' ⟨v, os, he, hf, _, _, ⟨⟨cs, hcs, hv⟩, _⟩, _⟩
  have : cs = [.int .i64 (popC a)] := hcs
  subst this
  subst hv
  exact ⟨he, hf⟩

theorem bent_C (p : Nat × Nat) (rest : List (Nat × Nat)) (hS : rest.length ≤ 2 ^ 9) (hu : ∀ x ∈ rest, Up p x ∧ x.1 ≤ 2 ^ 40 ∧ x.2 ≤ 2 ^ 40) (hw : rest.Pairwise Up) (w : World) (B : Nat → Prop) (lu : Value) (hl : RepV w B (.sl (.pr (.int .i64) (.int .i64))) (spN (p :: rest)) lu) :
    Calls Tryd.prog i_impl_bent #[lu] w fun e w' => ∃ v, e = .returned v ∧ Fr w [] w' ∧ RepV w' (fun b => b < w'.heap.size) (.sl (.pr (.int .i64) (.int .i64))) (spN (p :: bnt p rest)) v := by
  refine ((bent_SC p rest hS hu hw).2 w B [lu] [] (fun _ _ v hv => by cases hv) List.Pairwise.nil ⟨_, _, rfl, hl, rfl, rfl⟩).mono ?_
  rintro e w' ⟨v, os, he, hf, _, _, ⟨hown, _⟩, _⟩
  exact ⟨v, he, hf, rep_lt (OwnRow.view (B := fun _ => True) hown (fun _ _ => trivial) (fun _ _ => trivial))⟩

theorem Fr.set' {w w1 : World} (h : Fr w [] w1) {a : Addr} (ha : w.heap.size ≤ a.block) (v : Value) : Fr w [] (w1.setCell a v) :=
  ⟨h.os, h.tape, h.output, by rw [World.size_setCell]; exact h.size, fun k hk hm => by rw [heap_setCell_other _ _ _ _ (by omega)]; exact h.block k hk hm⟩
theorem Fr.drewN' {w w1 : World} (h : Fr w [] w1) (n : Nat) : Fr w [] (w1.drewN n) := ⟨h.os, h.tape, h.output, h.size, h.block⟩

theorem bits01_nil : bits01 [] := fun c hc => by cases hc

/-- A row of one's own that is read. -/
theorem strs_view {w : World} {N : Nat} {v : Value} {L : LL} (h : w.ownsRow N t_string 1 v L.length (strV L)) : RepV w (fun _ => True) (.sl .str) (strs' L) v := by
  have hrow : ∀ L : LL, RowsOf (RepK w (fun _ => True) .str) (strs' L) (strV L) := by
    intro L
    induction L with
    | nil => rfl
    | cons a r ih => exact ⟨[.string (bs a)], strV r, rfl, rfl, ih⟩
  have hO : OwnRow w (fun _ => True) N t_string .str (strs' L) v := ⟨strV L, by rw [show (strs' L).length = L.length from List.length_map ..]; exact h, hrow L⟩
  exact OwnRow.view hO (fun _ _ => trivial) (fun _ _ => trivial)

theorem cutI_mem (acc : List UInt8 → Option (List UInt8)) (hal : ∀ a b, a.length ≤ 2 ^ 8 → acc a = some b → b.length ≤ 2 ^ 9) : ∀ (f : Nat) (a : List UInt8) (st : LL × LL), a.length + f ≤ 2 ^ 8 → (∀ x ∈ st.1, x.length ≤ 2 ^ 9) → (∀ x ∈ st.2, x.length ≤ 2 ^ 9) →
    (∀ x ∈ (cutI acc f a st).1.1, x.length ≤ 2 ^ 9) ∧ (∀ x ∈ (cutI acc f a st).1.2, x.length ≤ 2 ^ 9)
  | 0, a, st, _, h1, h2 => ⟨h1, h2⟩
  | f + 1, a, st, ha, h1, h2 => by
    unfold cutI
    split
    · exact ⟨h1, h2⟩
    · split
      · rename_i b hb
        refine ⟨fun x hx => ?_, fun x hx => ?_⟩
        · rcases List.mem_append.1 hx with hx | hx
          · exact h1 x hx
          · rw [List.mem_singleton.1 hx]; omega
        · rcases List.mem_append.1 hx with hx | hx
          · exact h2 x hx
          · rw [List.mem_singleton.1 hx]; exact hal a b (by omega) hb
      · obtain ⟨i1, i2⟩ := cutI_mem acc hal f (a ++ [48]) st (by simp; omega) h1 h2
        split
        · exact cutI_mem acc hal f _ _ (by simp; omega) i1 i2
        · exact ⟨i1, i2⟩

/-- The spots that are kept. -/
def bntS : List (Nat × Nat) → List (Nat × Nat)
  | [] => []
  | p :: rest => p :: bnt p rest

theorem ups_pairwise : ∀ (rest : List (Nat × Nat)) (p : Nat × Nat), (∀ j, 1 ≤ j → j < (p :: rest).length → Up (gS (p :: rest) (j - 1)) (gS (p :: rest) j)) → (∀ x ∈ rest, Up p x) ∧ rest.Pairwise Up
  | [], p, _ => ⟨(fun x hx => by cases hx), List.Pairwise.nil⟩
  | q :: r, p, h => by
    have h0 : Up p q := h 1 (Nat.le_refl _) (by simp)
    obtain ⟨i1, i2⟩ := ups_pairwise r q (fun j h1 h2 => by
      have := h (j + 1) (by omega) (by simp at h2 ⊢; omega)
      rw [show j + 1 - 1 = (j - 1) + 1 by omega] at this
      exact this)
    refine ⟨fun x hx => ?_, List.pairwise_cons.2 ⟨i1, i2⟩⟩
    rcases List.mem_cons.1 hx with rfl | hx
    · exact h0
    · exact h0.trans (i1 x hx)

theorem mem_gS {S : List (Nat × Nat)} {x : Nat × Nat} (h : x ∈ S) : ∃ i, i < S.length ∧ gS S i = x := by
  obtain ⟨i, hi, e⟩ := List.getElem_of_mem h
  exact ⟨i, hi, by rw [gS, List.getD_eq_getElem?_getD, List.getElem?_eq_getElem hi, e]; rfl⟩

/-- A box of two cells that is written into. -/
theorem box_facts {w1 : World} {b : Nat} {x y : Value} {t : TypeId} (h : w1.heap[b]? = some (.cells #[x, y] t (0, 0))) (v v' : Value) :
    w1.cell? ⟨b, 0, none⟩ = some x ∧ w1.frozen? ⟨b, 0, none⟩ = false ∧ (w1.setCell ⟨b, 0, none⟩ v).cell? ⟨b, 1, none⟩ = some y ∧ (w1.setCell ⟨b, 0, none⟩ v).frozen? ⟨b, 1, none⟩ = false ∧
    ((w1.setCell ⟨b, 0, none⟩ v).setCell ⟨b, 1, none⟩ v').heap[b]? = some (.cells #[v, v'] t (0, 0)) := by
  have h1 : (w1.setCell ⟨b, 0, none⟩ v).heap[b]? = some (.cells #[v, y] t (0, 0)) := by rw [heap_setCell_same _ _ _ _ _ _ h]; rfl
  have h2 : ((w1.setCell ⟨b, 0, none⟩ v).setCell ⟨b, 1, none⟩ v').heap[b]? = some (.cells #[v, v'] t (0, 0)) := by rw [heap_setCell_same _ _ _ _ _ _ h1]; rfl
  exact ⟨by rw [cell_of_row w1 b 0 _ t (0, 0) h]; rfl, frozen_of_row w1 b 0 _ t h, by rw [cell_of_row _ b 1 _ t (0, 0) h1]; rfl, frozen_of_row _ b 1 _ t h1, h2⟩

/-- What comes back of the walk. -/
def MPost (w : World) (T : Tr × Tr) (b : Bool) (e : Ending) (w' : World) : Prop := ∃ v1 v2, e = .returned (.tuple #[.agg #[v1, v2], .bool b]) ∧ Fr w [] w' ∧ RepT w' (fun x => w.heap.size ≤ x) T.1 v1 ∧ RepT w' (fun x => w.heap.size ≤ x) T.2 v2

end Go.AI
