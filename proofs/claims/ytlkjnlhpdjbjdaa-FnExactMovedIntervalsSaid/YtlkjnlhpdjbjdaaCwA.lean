/- Walks by hand: what contracts say, for the walk. -/
import Derived.Test.YtlkjnlhpdjbjdaaCfy
import Derived.Test.YtlkjnlhpdjbjdaaGX
import Derived.WalkKit
import Derived.Deep.RegionWith
import Derived.Deep.AppendLies
import Derived.Lib.Hide
import Derived.Deep.RegionHeld3
import Derived.Deep.QuietTactic
import Derived.BigQuiet
set_option autoImplicit false
set_option maxRecDepth 100000
set_option linter.unusedVariables false
namespace Go.AI
open Go.Proofs

abbrev PcK : Kd := .pr (.int .i64) (.pr (.int .i64) (.pr (.int .i64) (.int .i64)))

def pcC (x : Pc) : List Value := [.int .i64 x.1, .int .i64 x.2.1, .int .i64 x.2.2.1, .int .i64 x.2.2.2]
def rtC (x : Rt) : List Value := [.int .i64 x.1, .int .i64 x.2]

theorem rows_pc {w : World} {B : Nat → Prop} : ∀ {l : List Pc} {cs : List Value}, RowsOf (RepK w B PcK) l cs → cs = l.flatMap pcC
  | [], _, h => h
  | x :: l, _, ⟨c1, c2, e, ⟨d1, d2, e1, h1, ⟨d3, d4, e2, h2, ⟨d5, d6, e3, h3, h4⟩⟩⟩, hr⟩ => by
    rw [e, rows_pc hr, e1, e2, e3, h1, h2, h3, h4]
    rfl

theorem rows_rt {w : World} {B : Nat → Prop} : ∀ {l : List Rt} {cs : List Value}, RowsOf (RepK w B RK) l cs → cs = l.flatMap rtC
  | [], _, h => h
  | x :: l, _, ⟨c1, c2, e, ⟨d1, d2, e1, h1, h2⟩, hr⟩ => by
    rw [e, rows_rt hr, e1, h1, h2]
    rfl

theorem rt_rows {w : World} {B : Nat → Prop} : ∀ (l : List Rt), RowsOf (RepK w B RK) l (l.flatMap rtC)
  | [] => rfl
  | x :: l => ⟨rtC x, l.flatMap rtC, by rw [List.flatMap_cons], ⟨[.int .i64 x.1], [.int .i64 x.2], rfl, rfl, rfl⟩, rt_rows l⟩

/-- The call of 'pieces'. -/
theorem pieces_C (p : Tr × Tr) (h1 : p.1.c ≤ 2 ^ 19) (h2 : p.1.c = p.2.c) (w : World) (B : Nat → Prop) (u : Value) (hu : RepV w B (.pr .tree .tree) p u) :
    Calls Try.prog i_impl_pair_pieces #[u] w fun e w' => ∃ g cap cur, e = .returned (.slice (some ⟨g, 0, none⟩) (p.1.c + 1) cap) ∧ Fr w [] w' ∧ w.heap.size ≤ g ∧ w'.heap[g]? = some (.cells cur t_impl_piece (0, 0)) ∧
      cur.toList.take ((p.1.c + 1) * 4) = (List.zipWith pc (adL p.1 []) (adL p.2 [])).flatMap pcC := by
  have hS := (pieces_SC p h1 h2).2 w B [u] [] (fun _ _ v hv => by cases hv) List.Pairwise.nil ⟨u, [], rfl, hu, rfl, rfl⟩
  refine hS.mono fun e w' ⟨v, os, he, hf, hnd, hos, hres, _⟩ => ?_
  obtain ⟨⟨flat, ⟨hl, hown⟩, hrow⟩, rfl⟩ := hres
  have hlen : (List.zipWith pc (adL p.1 []) (adL p.2 [])).length = p.1.c + 1 := by rw [List.length_zipWith, adL_len, adL_len]; omega
  rcases hown with ⟨rfl, h0⟩ | ⟨g, cap, cur, rfl, hg, hb, _, _, _, hcur⟩
  · omega
  · rw [hlen] at he hcur
    exact ⟨g, cap, cur, he, hf, hg, hb, hcur.trans (rows_pc hrow)⟩

theorem fixedIn_C (f t : List UInt8) (h1 : f.length ≤ 8) (h2 : t.length ≤ 8) (hk : (fixI f t).2 = true) (w : World) (a b c d : Int) (he : (a, (b, (c, d))) = pc f t) :
    Calls Try.prog i_impl_piece_fixedIn #[.agg #[.int .i64 a, .int .i64 b, .int .i64 c, .int .i64 d]] w fun e w' => ∃ v, e = .returned (.tuple #[v, .bool true]) ∧ Fr w [] w' ∧ w'.ownsRow w.heap.size t_impl_Ratio 2 v (fixI f t).1.length ((fixI f t).1.flatMap rtC) := by
  have hS := (fixedIn_SC f t h1 h2).2 w (fun _ => False) [.agg #[.int .i64 a, .int .i64 b, .int .i64 c, .int .i64 d]] [] (fun _ _ v hv => by cases hv) List.Pairwise.nil
    ⟨_, [], rfl, ⟨[.int .i64 a, .int .i64 b, .int .i64 c, .int .i64 d], by rw [← he]; exact ⟨[_], [_, _, _], rfl, rfl, [_], [_, _], rfl, rfl, [_], [_], rfl, rfl, rfl⟩, rfl⟩, rfl, rfl⟩
  rw [hk] at hS
  refine hS.mono ?_
  rintro e w' ⟨v, os, he, hf, hnd, hos, ⟨vs, rfl, hres⟩, _⟩
  obtain ⟨u, us, o1, o2, rfl, rfl, ⟨⟨flat, hown, hrow⟩, _⟩, u2, us2, o3, o4, rfl, rfl, ⟨hb, _⟩, rfl, rfl⟩ := hres
  obtain ⟨cs, hcs, rfl⟩ := hb
  have : cs = [.bool true] := hcs
  subst this
  rw [rows_rt hrow] at hown
  exact ⟨u, he, hf, hown⟩

theorem fixedIn_no (f t : List UInt8) (h1 : f.length ≤ 8) (h2 : t.length ≤ 8) (hk : (fixI f t).2 = false) (w : World) (a b c d : Int) (he : (a, (b, (c, d))) = pc f t) :
    Calls Try.prog i_impl_piece_fixedIn #[.agg #[.int .i64 a, .int .i64 b, .int .i64 c, .int .i64 d]] w fun e w' => ∃ v, e = .returned (.tuple #[v, .bool false]) ∧ Fr w [] w' := by
  have hS := (fixedIn_SC f t h1 h2).2 w (fun _ => False) [.agg #[.int .i64 a, .int .i64 b, .int .i64 c, .int .i64 d]] [] (fun _ _ v hv => by cases hv) List.Pairwise.nil
    ⟨_, [], rfl, ⟨[.int .i64 a, .int .i64 b, .int .i64 c, .int .i64 d], by rw [← he]; exact ⟨[_], [_, _, _], rfl, rfl, [_], [_, _], rfl, rfl, [_], [_], rfl, rfl, rfl⟩, rfl⟩, rfl, rfl⟩
  rw [hk] at hS
  refine hS.mono ?_
  rintro e w' ⟨v, os, he, hf, hnd, hos, ⟨vs, rfl, hres⟩, _⟩
  obtain ⟨u, us, o1, o2, rfl, rfl, _, u2, us2, o3, o4, rfl, rfl, ⟨hb, _⟩, rfl, rfl⟩ := hres
  obtain ⟨cs, hcs, rfl⟩ := hb
  have : cs = [.bool false] := hcs
  subst this
  exact ⟨u, he, hf⟩

theorem less_C (x y : Rt) (hx : small x) (hy : small y) (r : Bool) (hr : rlt x y = r) (w : World) (a b c d : Int) (h1 : (a, b) = x) (h2 : (c, d) = y) :
    Calls Try.prog i_impl_Ratio_less #[.agg #[.int .i64 a, .int .i64 b], .agg #[.int .i64 c, .int .i64 d]] w fun e w' => e = .returned (.bool r) ∧ Fr w [] w' := by
  have hS := (less_SC x y hx hy).2 w (fun _ => False) [.agg #[.int .i64 a, .int .i64 b], .agg #[.int .i64 c, .int .i64 d]] [] (fun _ _ v hv => by cases hv) List.Pairwise.nil
    ⟨_, [_], rfl, ⟨[.int .i64 a, .int .i64 b], by rw [← h1]; exact ⟨[_], [_], rfl, rfl, rfl⟩, rfl⟩, _, [], rfl, ⟨[.int .i64 c, .int .i64 d], by rw [← h2]; exact ⟨[_], [_], rfl, rfl, rfl⟩, rfl⟩, rfl, rfl⟩
  rw [hr] at hS
  refine hS.mono fun e w' ⟨v, os, he, hf, hnd, hos, ⟨⟨cs, hcs, hv⟩, _⟩, _⟩ => ?_
  have : cs = [.bool r] := hcs
  subst this
  subst hv
  exact ⟨he, hf⟩

/-- The call of 'less', with the cells that stay. -/
theorem less_CC (x y : Rt) (hx : small x) (hy : small y) (r : Bool) (hr : rlt x y = r) (w : World) :
    Calls Try.prog i_impl_Ratio_less #[.agg #[.int .i64 x.1, .int .i64 x.2], .agg #[.int .i64 y.1, .int .i64 y.2]] w fun e w' => e = .returned (.bool r) ∧ (∀ a v, w.cell? a = some v → w'.cell? a = some v) ∧ Fr w [] w' :=
  (less_C x y hx hy r hr w _ _ _ _ rfl rfl).mono fun e w' ⟨h1, h2⟩ => ⟨h1, fun a v h => by rw [World.cell?_of_block (h2.block a.block (World.block_lt_of_cell? _ _ h) (fun _ hv => by cases hv))]; exact h, h2⟩

end Go.AI
