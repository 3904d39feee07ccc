/- Contracts: drawn forests; rows of texts compared; carets, parts and pairs of forests. -/
import Derived.Test.YtdfllkeekehplaaFfo
import Derived.Test.YtdfllkeekehplaaDd
import Derived.Test.YtdfllkeekehplaaGA
import Derived.Test.YtdfllkeekehplaaCSb
import Derived.Test.YtdfllkeekehplaaAiH
set_option autoImplicit false
set_option maxRecDepth 100000
set_option linter.unusedVariables false
namespace Go.AI
open Go.Proofs

theorem nbeq (b : Bool) : (!(b == b)) = false := by simp

def Bytes (l : List Int) : Prop := ∀ x ∈ l, 0 ≤ x ∧ x ≤ 255

theorem cur0 {l : List Int} (h : Bytes l) (hl : l.length ≤ 2 ^ 40) : CurOk 0 (l, ((0 : Int), (0 : Int))) := ⟨Int.le_refl _, Int.le_refl _, hl, h⟩

/-! ### Rows of texts -/

theorem nT_L (a b : List ByteArray) (hl : a.length ≤ 2 ^ 40) (e : a.length = b.length) : ∀ (m i : Nat), a.length - i = m → i ≤ a.length →
    (a.drop i = b.drop i → LoopSC cfg.P 2 (lb P_laws_nTexts 0) (laws_nTexts_L0a a b (a.length : Int) (i : Int)) (.exit 0) (laws_nTexts_L0X2 a b (a.length : Int) (a.length : Int) false)) ∧
    (a.drop i ≠ b.drop i → LoopSC cfg.P 2 (lb P_laws_nTexts 0) (laws_nTexts_L0a a b (a.length : Int) (i : Int)) .ret (laws_nTexts_L0X1 false)) := by
  intro m
  induction m with
  | zero =>
    intro i hm hi
    have e1 : i = a.length := by omega
    subst e1
    refine ⟨fun _ => laws_nTexts_L0a_x3 _ _ _ _ (by omega), fun g => absurd ?_ g⟩
    rw [List.drop_length, e, List.drop_length]
  | succ m ih =>
    intro i hm hi
    have hlt : i < a.length := by omega
    have hlt2 : i < b.length := by omega
    have da : a.drop i = a[i] :: a.drop (i + 1) := List.drop_eq_getElem_cons hlt
    have db : b.drop i = b[i] :: b.drop (i + 1) := List.drop_eq_getElem_cons hlt2
    have ga : List.getD a ((i : Int)).toNat (⟨#[]⟩ : ByteArray) = a[i] := by rw [Int.toNat_natCast, List.getD_eq_getElem?_getD, List.getElem?_eq_getElem hlt]; rfl
    have gb : List.getD b ((i : Int)).toNat (⟨#[]⟩ : ByteArray) = b[i] := by rw [Int.toNat_natCast, List.getD_eq_getElem?_getD, List.getElem?_eq_getElem hlt2]; rfl
    obtain ⟨k1, k2⟩ := ih (i + 1) (by omega) (by omega)
    rw [← wrap_succ (by omega)] at k1 k2
    rw [da, db]
    refine ⟨fun g => ?_, fun g => ?_⟩
    · have g' := List.cons.inj g
      exact laws_nTexts_L0a_i2 _ _ _ _ (by omega) (by omega) (by omega) (by omega) (by rw [ga, gb]; exact g'.1) (k1 g'.2)
    · by_cases h : a[i] = b[i]
      · exact laws_nTexts_L0a_i2 _ _ _ _ (by omega) (by omega) (by omega) (by omega) (by rw [ga, gb]; exact h) (k2 fun h2 => g (by rw [h, h2]))
      · exact laws_nTexts_L0a_x1 _ _ _ _ (by omega) (by omega) (by omega) (by omega) (by rw [ga, gb]; exact h)

theorem nTexts_SC (a b : List ByteArray) (hl : a.length ≤ 2 ^ 40) : SC cfg.P i_laws_nTexts [.s (.v (.sl .str) a), .s (.v (.sl .str) b)] (.s (.v .bool (decide (a = b)))) [] := by
  by_cases e : a.length = b.length
  · obtain ⟨k1, k2⟩ := nT_L a b hl e _ 0 rfl (by omega)
    rw [List.drop_zero, List.drop_zero] at k1 k2
    by_cases h : a = b
    · rw [decide_eq_true h]; exact laws_nTexts_p3 _ _ _ _ _ _ _ (by omega) (k1 h)
    · rw [decide_eq_false h]; exact laws_nTexts_p2 _ _ _ (by omega) (k2 h)
  · rw [decide_eq_false (fun h => e (by rw [h]))]
    exact laws_nTexts_p1 _ _ (by omega)

theorem txs_inj {a b : List (List UInt8)} (h : txs a = txs b) : a = b := by
  have hi : Function.Injective bs := fun x y hxy => by
    have := congrArg (fun s : ByteArray => s.data.toList) hxy
    simpa [bs] using this
  exact (List.map_inj_right (fun x y hxy => hi hxy)).1 h

/-! ### Forests drawn -/

theorem least_SC (a b : Nat) : SC cfg.P i_spec_l1Least [.s (.v (.int .i64) (a : Int)), .s (.v (.int .i64) (b : Int))] (.s (.v (.int .i64) ((min a b : Nat) : Int))) [] := by
  by_cases h : a < b
  · rw [Nat.min_eq_left (by omega)]; exact spec_l1Least_p1 _ _ (by omega)
  · rw [Nat.min_eq_right (by omega)]; exact spec_l1Least_p2 _ _ (by omega)

theorem sureFo_L : ∀ (m left : Nat) {n : Nat} {c : Cur} (cur : List Tr), CurOk n c → n + 10 * m ≤ 2 ^ 30 → left ≤ 10 → cur.length + m ≤ 10 → (∀ t ∈ cur, t.c ≤ 3) →
    ∃ (left' : Int) (c' : Cur) (ts : List Tr), (ts.length ≤ 10 ∧ ∀ t ∈ ts, t.c ≤ 3) ∧ CurOk (n + 10 * m) c' ∧
      LoopSC cfg.P 2 (lb P_spec_l1Cur_sureForest 0) (spec_l1Cur_sureForest_L0a (left : Int) (m : Int) c (txs (cur.map txt))) (.exit 0) (spec_l1Cur_sureForest_L0X1 left' 0 false c' (txs (ts.map txt))) := by
  intro m
  induction m with
  | zero =>
    intro left n c cur h hn hle hc hs
    exact ⟨_, c, cur, ⟨by omega, hs⟩, h, spec_l1Cur_sureForest_L0a_x2 _ _ _ _ (by omega)⟩
  | succ m ih =>
    intro left n c cur h hn hle hc hs
    have s1 := least_SC left 3
    have w : IntKind.wrap .i64 (((min left 3 : Nat) : Int) + (1 : Int)) = ((min left 3 + 1 : Nat) : Int) := by rw [w64] <;> omega
    obtain ⟨r, c1, hr, h1, s2⟩ := pick_SC h (by omega) ((min left 3 + 1 : Nat) : Int) (by omega)
    obtain ⟨t, c2, ht, h2, s3⟩ := sureTree_SC h1 r (by omega) (by omega)
    obtain ⟨left', c3, ts, k1, k2, k3⟩ := ih (left - r) (cur ++ [t]) (h2.mono (m := n + 10) (by omega)) (by omega) (by omega) (by rw [List.length_append, List.length_singleton]; omega) (fun x hx => by
      rcases List.mem_append.1 hx with g | g
      · exact hs x g
      · rw [List.mem_singleton] at g; rw [g]; omega)
    have e : txs ((cur ++ [t]).map txt) = txs (cur.map txt) ++ [bs (txt t)] := by simp [txs]
    rw [e] at k3
    have w1 : IntKind.wrap .i64 ((left : Int) - (r : Int)) = ((left - r : Nat) : Int) := by rw [w64] <;> omega
    have w2 : IntKind.wrap .i64 (((m + 1 : Nat) : Int) - (1 : Int)) = (m : Int) := by rw [w64] <;> omega
    have st := spec_l1Cur_sureForest_L0a_i1 (left : Int) ((m + 1 : Nat) : Int) c (txs (cur.map txt)) _ _ _ _ _ (by omega) s1 (by rw [w]; exact s2) s3 (by
      have : (txs (cur.map txt)).length = cur.length := by simp [txs]
      unfold sizeOK lim; rw [this, List.length_singleton]; omega) (e := .exit 0) (st := spec_l1Cur_sureForest_L0X1 left' 0 false c3 (txs (ts.map txt)))
    rw [w1, w2] at st
    exact ⟨left', c3, ts, k1, k2.mono (by omega), st k3⟩

theorem sureFo_SC {n : Nat} {c : Cur} (h : CurOk n c) (hn : n ≤ 2 ^ 29) (k : Nat) (hk : k ≤ 10) : ∃ (ts : List Tr) (c' : Cur), (ts.length ≤ 10 ∧ ∀ t ∈ ts, t.c ≤ 3) ∧ CurOk (n + 60) c' ∧
    SC cfg.P i_spec_l1Cur_sureForest [.s (.mbx CurK c), .s (.v (.int .i64) (k : Int))] (.s (.own t_string .str (txs ((trim ts).map txt)))) [.box CurK c'] := by
  obtain ⟨r, c1, hr, h1, s1⟩ := pick_SC h (by omega) 5 (by omega)
  obtain ⟨left', c2, ts, k1, k2, k3⟩ := sureFo_L r k [] h1 (by omega) hk (by simp; omega) (by simp)
  exact ⟨ts, c2, k1, k2.mono (by omega), spec_l1Cur_sureForest_p1 _ _ _ _ _ _ _ _ _ _ s1 k3 (wdShort_SC ts (by have := k1.1; omega))⟩

/-- A row of texts that may be. -/
structure Row (fs : List (List UInt8)) : Prop where
  len : fs.length ≤ 40
  tx : ∀ l ∈ fs, l.length ≤ 2 ^ 40

theorem Row.snoc {fs : List (List UInt8)} {l : List UInt8} (h : Row fs) (hl : l.length ≤ 2 ^ 40) (h2 : fs.length ≤ 39) : Row (fs ++ [l]) :=
  ⟨by rw [List.length_append, List.length_singleton]; omega, fun x hx => by
    rcases List.mem_append.1 hx with g | g
    · exact h.tx x g
    · rw [List.mem_singleton] at g; rw [g]; exact hl⟩

theorem fo_Lb : ∀ (m : Nat) {n : Nat} {c : Cur} (cur : List (List UInt8)), CurOk n c → n + 2 * m ≤ 2 ^ 30 → Row cur → 8 - cur.length < m → cur.length ≤ 30 →
    ∃ (c' : Cur) (fs : List (List UInt8)), Row fs ∧ fs.length ≤ 30 ∧ CurOk (n + 2 * m) c' ∧
      LoopSC cfg.P 2 (lb P_spec_l1Cur_forest 0) (spec_l1Cur_forest_L0b c (txs cur)) (.exit 1) (spec_l1Cur_forest_L0X1 false c' (txs fs)) := by
  intro m
  induction m with
  | zero => intro n c cur h hn hr hm hc; omega
  | succ m ih =>
    intro n c cur h hn hr hm hc
    obtain ⟨r, c1, hr1, h1, s1⟩ := pick_SC h (by omega) 2 (by omega)
    have w : IntKind.wrap .i64 ((7 : Int) + (r : Int)) = 7 + (r : Int) := by rw [w64] <;> omega
    have hl : (txs cur).length = cur.length := by simp [txs]
    by_cases hlt : ((List.length (txs cur) : Nat) : Int) < IntKind.wrap .i64 ((7 : Int) + (r : Int))
    · have hlt' := hlt
      rw [w, hl] at hlt'
      obtain ⟨c2, fs, k1, k2, k3, k4⟩ := ih (cur ++ [[46]]) h1 (by omega) (hr.snoc (by simp) (by omega)) (by rw [List.length_append, List.length_singleton]; omega) (by rw [List.length_append, List.length_singleton]; omega)
      have e : txs (cur ++ [[46]]) = txs cur ++ [(⟨#[46]⟩ : ByteArray)] := by simp [txs]; rfl
      rw [e] at k4
      exact ⟨c2, fs, k1, k2, k3.mono (by omega), spec_l1Cur_forest_L0b_i1 _ _ _ _ s1 hlt (by unfold sizeOK lim; rw [hl, List.length_singleton]; omega) k4⟩
    · exact ⟨c1, cur, hr, hc, h1.mono (by omega), spec_l1Cur_forest_L0b_x2 _ _ _ _ s1 hlt⟩

theorem fo_La {n : Nat} {c : Cur} (x : Bool) (cur : List (List UInt8)) (h : CurOk n c) (hn : n ≤ 2 ^ 29) (hr : Row cur) (hc : cur.length ≤ 29) :
    ∃ (c' : Cur) (fs : List (List UInt8)), Row fs ∧ fs.length ≤ 30 ∧ CurOk (n + 30) c' ∧
      LoopSC cfg.P 2 (lb P_spec_l1Cur_forest 0) (spec_l1Cur_forest_L0a x c (txs cur)) (.exit 1) (spec_l1Cur_forest_L0X1 false c' (txs fs)) := by
  obtain ⟨r, c1, hr1, h1, s1⟩ := pick_SC h (by omega) 2 (by omega)
  have hl : (txs cur).length = cur.length := by simp [txs]
  by_cases hlt : ((List.length (txs cur) : Nat) : Int) < IntKind.wrap .i64 ((7 : Int) + (r : Int))
  · obtain ⟨c2, fs, k1, k2, k3, k4⟩ := fo_Lb 10 (cur ++ [[46]]) h1 (by omega) (hr.snoc (by simp) (by omega)) (by rw [List.length_append, List.length_singleton]; omega) (by rw [List.length_append, List.length_singleton]; omega)
    have e : txs (cur ++ [[46]]) = txs cur ++ [(⟨#[46]⟩ : ByteArray)] := by simp [txs]; rfl
    rw [e] at k4
    exact ⟨c2, fs, k1, k2, k3.mono (by omega), spec_l1Cur_forest_L0a_i1 _ _ _ _ _ s1 hlt (by unfold sizeOK lim; rw [hl, List.length_singleton]; omega) k4⟩
  · exact ⟨c1, cur, hr, by omega, h1.mono (by omega), spec_l1Cur_forest_L0a_x2 _ _ _ _ _ s1 hlt⟩

theorem row_trees {ts : List Tr} (hl : ts.length ≤ 10) (hc : ∀ t ∈ ts, t.c ≤ 2 ^ 20) : Row ((trim ts).map txt) :=
  ⟨by rw [List.length_map]; have := trim_len ts; omega, fun l hl' => by
    obtain ⟨t, ht, rfl⟩ := List.mem_map.1 hl'
    have := hc t (trim_mem ht)
    rw [txt_len]; omega⟩

theorem forest_SC {n : Nat} {c : Cur} (h : CurOk n c) (hn : n ≤ 2 ^ 28) (k : Nat) (hk : k ≤ 10) : ∃ (fs : List (List UInt8)) (c' : Cur), Row fs ∧ CurOk (n + 200) c' ∧
    SC cfg.P i_spec_l1Cur_forest [.s (.mbx CurK c), .s (.v (.int .i64) (k : Int))] (.s (.own t_string .str (txs fs))) [.box CurK c'] := by
  obtain ⟨ts, c1, l1, h1, s1⟩ := sureFo_SC h (by omega) k hk
  obtain ⟨r, c2, _, h2, s2⟩ := pick_SC h1 (by omega) 18 (by omega)
  have hr := row_trees l1.1 fun t ht => by have := l1.2 t ht; omega
  have hl : ((trim ts).map txt).length ≤ 10 := by rw [List.length_map]; have := trim_len ts; have := l1.1; omega
  have hl2 : (txs ((trim ts).map txt)).length = ((trim ts).map txt).length := List.length_map ..
  by_cases r0 : r = 0
  · subst r0
    obtain ⟨s, c3, hs, h3, s3⟩ := of_SC h2 (by omega) [(⟨#[46]⟩ : ByteArray), (⟨#[]⟩ : ByteArray), (⟨#[40, 46, 41]⟩ : ByteArray), (⟨#[40, 40, 40, 40, 40, 40, 40, 40, 46, 46, 41, 46, 41, 46, 41, 46, 41, 46, 41, 46, 41, 46, 41, 46, 41]⟩ : ByteArray)] (by decide) (by decide)
    have hsz : s.size ≤ 100 := by
      simp only [List.mem_cons, List.not_mem_nil, or_false] at hs
      rcases hs with rfl | rfl | rfl | rfl <;> decide
    obtain ⟨s, rfl⟩ := bs_ex s
    rw [bs_size] at hsz
    refine ⟨(trim ts).map txt ++ [s], c3, hr.snoc (by omega) (by omega), h3.mono (by omega), ?_⟩
    have e : txs ((trim ts).map txt ++ [s]) = txs ((trim ts).map txt) ++ [bs s] := by simp [txs]
    rw [e]
    exact spec_l1Cur_forest_p1 _ _ _ _ _ _ _ _ s1 s2 rfl s3 (by unfold sizeOK lim; rw [hl2, List.length_singleton]; omega)
  · by_cases r1 : r = 1
    · subst r1
      obtain ⟨c3, fs, k1, k2, k3, k4⟩ := fo_La true ((trim ts).map txt) h2 (by omega) hr (by omega)
      refine ⟨fs ++ [[40, 46, 46, 41]], c3, k1.snoc (by simp) (by omega), k3.mono (by omega), ?_⟩
      have e : txs (fs ++ [[40, 46, 46, 41]]) = txs fs ++ [(⟨#[40, 46, 46, 41]⟩ : ByteArray)] := by simp [txs]; rfl
      rw [e]
      have hl3 : (txs fs).length = fs.length := List.length_map ..
      exact spec_l1Cur_forest_p2 _ _ _ _ _ _ _ _ _ s1 s2 (by omega) (by omega) k4 (by unfold sizeOK lim; rw [hl3, List.length_singleton]; omega)
    · exact ⟨_, c2, hr, h2.mono (by omega), spec_l1Cur_forest_p3 _ _ _ _ _ _ s1 s2 (by omega) (by omega)⟩

end Go.AI
