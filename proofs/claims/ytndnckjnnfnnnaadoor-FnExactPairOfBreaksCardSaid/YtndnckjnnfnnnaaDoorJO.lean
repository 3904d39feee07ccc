/- A part of the road: what it proves stands in its last texts. -/
import Derived.Test.YtndnckjnnfnnnaaDoorJN
import Derived.Test.YtndnckjnnfnnnaaDoorCY
import Derived.Lib.SmallJoins
import Derived.Test.YtndnckjnnfnnnaaDoorAiH
import Derived.Deep.SlicePairs
section
/- The law: the program's PairOfBreaks is the reference's. -/
set_option autoImplicit false
set_option maxRecDepth 100000
set_option linter.unusedVariables false
namespace Go.AI
open Go.Proofs

theorem szF_SC (l : List (Int × Int)) (n : Int) (hl : l.length ≤ maxLen) (h0 : 0 ≤ n) (h1 : n ≤ 2 ^ 20) :
    SC cfg.P i_laws_szFractionS [.s (.v FrL l), .s (.v (.int .i64) n)] (.s (.v (.int .i64) (if n < (l.length : Int) then -1 else n - l.length))) [] := by
  have hm : maxLen ≤ 9223372036854775807 := by decide
  have w : IntKind.wrap .i64 (n - ((List.length l : Nat) : Int)) = n - (l.length : Int) := by rw [w64] <;> omega
  by_cases h : n < (l.length : Int)
  · rw [if_pos h]
    exact laws_szFractionS_p1 l n (by rw [w]; omega)
  · rw [if_neg h]
    have := laws_szFractionS_p2 l n (by rw [w]; omega)
    rw [w] at this
    exact this

theorem toF_SC (l : List (Int × Int)) (hl : l.length ≤ 2 ^ 20) : SC cfg.P i_laws_toFractionS [.s (.v FrL l)] (.s (.own t_impl_Fraction FrK l)) [] := by
  have key := loop_up (P := cfg.P) (np := 1) (c := lb P_laws_toFractionS 0) (fun i (cur : List (Int × Int)) => laws_toFractionS_L0a l (i : Int) cur) (fun cur => laws_toFractionS_L0X1 l (l.length : Int) false cur)
    (fun i cur => cur.set i (List.getD l i (0, 0))) (fun _ cur => cur.length = l.length) l.length
    (fun i cur hi hc => ⟨by rw [List.length_set]; exact hc, fun e st hn => by
      rw [← wrap_succ (by omega)] at hn
      have hT : SC cfg.P i_laws_toFraction [.s (.v FrK (List.getD l ((i : Int)).toNat ((0 : Int), (0 : Int))))] (.s (.v FrK (List.getD l ((i : Int)).toNat ((0 : Int), (0 : Int))))) [] := laws_toFraction_p1 _
      exact laws_toFractionS_L0a_i1 _ _ _ _ (by omega) (by omega) (by omega) hT (by omega) (by rw [Int.toNat_natCast]; omega) hn⟩)
    (fun cur hc => laws_toFractionS_L0a_x2 _ _ _ (by omega)) l.length 0 (List.replicate l.length (0, 0)) (by omega) (by simp)
  have hit : itr (fun i (cur : List (Int × Int)) => cur.set i (List.getD l i (0, 0))) 0 l.length (List.replicate l.length (0, 0)) = l := by
    rw [itr_set (fun i => List.getD l i (0, 0)) l.length 0 _ (by simp), List.take_zero, List.nil_append]
    have := map_range' l (0, 0) id
    simpa using this
  have k := key.1
  rw [hit] at k
  exact laws_toFractionS_p1 l l _ _ l (by omega) (by unfold lim; omega) rfl k

theorem eqPair_SC (p : ByteArray × ByteArray) : SC cfg.P i_laws_eqPair [.s (.v (.pr .str .str) p), .s (.v (.pr .str .str) p)] (.s (.v .bool true)) [] := laws_eqPair_p3 _ _ rfl rfl

theorem law_Pb (A B : List (Int × Int)) (wA : A.length ≤ maxLen) (wB : B.length ≤ maxLen) : SC cfg.P i_laws_FnExactPairOfBreaks [.s (.v FrL A), .s (.v FrL B)] (.s (.v .bool true)) [] := by
  have sA := szF_SC A 1048576 wA (by omega) (by omega)
  by_cases hA : (1048576 : Int) < (A.length : Int)
  · rw [if_pos hA] at sA
    exact laws_FnExactPairOfBreaks_p1 A B _ sA (by omega)
  · rw [if_neg hA] at sA
    have sB := szF_SC B (1048576 - A.length) wB (by omega) (by omega)
    by_cases hB : (1048576 - (A.length : Int)) < (B.length : Int)
    · rw [if_pos hB] at sB
      exact laws_FnExactPairOfBreaks_p2 A B _ _ sA (by omega) sB (by omega)
    · rw [if_neg hB] at sB
      have tA := toF_SC A (by omega)
      have tB := toF_SC B (by omega)
      obtain ⟨v, b, h1, h2⟩ := both_breaks A B
      exact laws_FnExactPairOfBreaks_p3 A B _ _ A B v b A B v b A B sA (by omega) sB (by omega) tA tB h1 tA tB h2 (eqPair_SC v) (by cases b <;> rfl) tA (eqFractionS_SC A (by omega)) tB (eqFractionS_SC B (by omega))

end Go.AI
end

section
/- From a contract to a row: slices of fractions that came in. -/
set_option autoImplicit false
set_option linter.unusedVariables false
namespace Go.AI
open Go.ChangeShapes Go.WideShapes Go.ChangeAt Go.RowKit

variable {H : Type} {enc : TypeId × Value → H} {P : Program} {W : World}

def valI : Value → Int
  | .int _ n => n
  | _ => 0

theorem pairs_rep {l : List (Int × Int)} {a : Addr} {cap : Nat} (hl : l.length ≤ cap) (hsp : a.spot = none)
    (hc : ∀ (i : Nat) (x : Int × Int), l[i]? = some x → W.cell? (a.add (i * 2)) = some (.int .i64 x.1) ∧ W.cell? (a.add (i * 2 + 1)) = some (.int .i64 x.2)) : RepV W (fun b => b < W.heap.size) (.sl (.pr (.int .i64) (.int .i64))) l (.slice (some a) l.length cap) := by
  have hrow : ∀ l : List (Int × Int), RowsOf (RepK W (fun b => b < W.heap.size) (.pr (.int .i64) (.int .i64))) l (l.flatMap fun x => [Value.int .i64 x.1, Value.int .i64 x.2]) := by
    intro l
    induction l with
    | nil => rfl
    | cons x r ih => exact ⟨[.int .i64 x.1, .int .i64 x.2], _, rfl, ⟨[.int .i64 x.1], [.int .i64 x.2], rfl, rfl, rfl⟩, ih⟩
  have hget : ∀ (l : List (Int × Int)) (j : Nat) (u : Value), (l.flatMap fun x => [Value.int .i64 x.1, Value.int .i64 x.2])[j]? = some u → ∃ x, l[j / 2]? = some x ∧ u = (if j % 2 = 0 then Value.int .i64 x.1 else Value.int .i64 x.2) := by
    intro l
    induction l with
    | nil => intro j u h; simp at h
    | cons x r ih =>
      intro j u h
      rw [List.flatMap_cons] at h
      match j, h with
      | 0, h => simp at h; exact ⟨x, rfl, by rw [← h]; rfl⟩
      | 1, h => simp at h; exact ⟨x, rfl, by rw [← h]; rfl⟩
      | j + 2, h =>
        have h' : (r.flatMap fun x => [Value.int .i64 x.1, Value.int .i64 x.2])[j]? = some u := h
        obtain ⟨y, hy, hu⟩ := ih j u h'
        refine ⟨y, ?_, ?_⟩
        · rw [show (j + 2) / 2 = j / 2 + 1 by omega]; exact hy
        · rw [show (j + 2) % 2 = j % 2 by omega]; exact hu
  refine ⟨[.slice (some a) l.length cap], ⟨some a, cap, l.flatMap fun x => [Value.int .i64 x.1, Value.int .i64 x.2], rfl, hl, hrow l, (fun e => by cases e), fun ad e => ?_⟩, rfl⟩
  cases e
  refine ⟨hsp, fun j u hj => ?_, fun hne => ?_⟩
  · obtain ⟨x, hx, hu⟩ := hget l j u hj
    obtain ⟨c0, c1⟩ := hc _ x hx
    rw [hu]
    by_cases h0 : j % 2 = 0
    · rw [if_pos h0]
      rw [show j / 2 * 2 = j by omega] at c0
      exact c0
    · rw [if_neg h0]
      rw [show j / 2 * 2 + 1 = j by omega] at c1
      exact c1
  · cases l with
    | nil => exact absurd rfl hne
    | cons x l =>
      have h0 := (hc 0 x rfl).1
      have := World.block_lt_of_cell? _ _ h0
      rwa [Addr.add_block] at this

/-- A slice of fractions that came in. -/
theorem arg_fracs {t e : TypeId} {f0 f1 : Field} {v : Value} {d : DataW H} {ps : List MemPlace} {base : Nat} (ht : P.underlying t = some (.slice e)) (he : P.underlying e = some (.struct #[f0, f1])) (ce : P.cellsOf e = 2)
    (o0 : f0.offset = 0) (o1 : f1.offset = 1) (u0 : P.underlying f0.type = some (.int .i64)) (u1 : P.underlying f1.type = some (.int .i64)) (c0 : P.cellsOf f0.type = 1) (c1 : P.cellsOf f1.type = 1)
    (hv : Value.okWide P W .any base t v) (h : DataW.Trod enc P W 0 (fun _ => true) true t v d ps) :
    ∃ l : List (Int × Int), RepV W (fun b => b < W.heap.size) (.sl (.pr (.int .i64) (.int .i64))) l v ∧ l.length ≤ maxLen ∧ ∀ n ∈ l, (Lit.int .i64 n.1).wf = true ∧ (Lit.int .i64 n.2).wf = true := by
  obtain ⟨a0, len, cap, rfl⟩ := okWide_slice ht hv
  obtain ⟨fuel, hf⟩ := h
  rcases Deep.open_slice_pairs ht he ce o0 o1 c0 c1 hf with ⟨hcs, hx⟩ | ⟨a, len', cap', m, n, V0, V1, D0, D1, P0, P1, hcs, _, hl, hm, hmm, hx, hcell⟩
  · simp [Value.cells] at hcs
    obtain ⟨rfl, rfl, rfl⟩ := hcs
    exact ⟨[], nil_rep _, Nat.zero_le _, fun s hs => by cases hs⟩
  · simp [Value.cells] at hcs
    obtain ⟨rfl, rfl, rfl⟩ := hcs
    simp only [if_true] at hmm
    subst hmm
    have each : ∀ i, i < len → ∃ x y : Int, V0 i = .int .i64 x ∧ V1 i = .int .i64 y ∧ (Lit.int .i64 x).wf = true ∧ (Lit.int .i64 y).wf = true := fun i hi => by
      obtain ⟨_, _, t0, t1⟩ := hcell i (by omega)
      obtain ⟨x, ex, _, wx⟩ := DataW.trod_int u0 t0
      obtain ⟨y, ey, _, wy⟩ := DataW.trod_int u1 t1
      simp at ex ey
      exact ⟨x, y, ex, ey, wx, wy⟩
    have hlen : ((List.range len).map fun i => (valI (V0 i), valI (V1 i))).length = len := by simp
    have key := pairs_rep (W := W) (l := (List.range len).map fun i => (valI (V0 i), valI (V1 i))) (a := a) (cap := m) (by rw [hlen]; exact hl) (spot_of_okWide ht hv) (fun i x hi => by
      have hi' : i < len := by
        have := (List.getElem?_eq_some_iff.1 hi).1
        omega
      rw [List.getElem?_map, List.getElem?_range hi'] at hi
      simp only [Option.map_some, Option.some.injEq] at hi
      subst hi
      obtain ⟨k0, k1, _, _⟩ := hcell i (by omega)
      obtain ⟨x, y, ex, ey, _, _⟩ := each i hi'
      rw [k0, k1, ex, ey]
      exact ⟨rfl, rfl⟩)
    rw [hlen] at key
    refine ⟨_, key, by rw [hlen]; omega, fun x hx => ?_⟩
    obtain ⟨i, hi, rfl⟩ := List.mem_map.1 hx
    obtain ⟨x, y, ex, ey, wx, wy⟩ := each i (List.mem_range.1 hi)
    rw [ex, ey]
    exact ⟨wx, wy⟩

end Go.AI
end
