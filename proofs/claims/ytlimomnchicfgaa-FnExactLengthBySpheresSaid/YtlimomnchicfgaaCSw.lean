/- The law of ShortestWord. -/
import Derived.Test.YtlimomnchicfgaaCNl
import Derived.Test.YtlimomnchicfgaaFxA
import Derived.Test.YtlimomnchicfgaaGC
set_option autoImplicit false
set_option maxRecDepth 100000
set_option linter.unusedVariables false
namespace Go.AI
open Go.Proofs

/-- The first letter of a row that makes a reduced pair shorter than a number. -/
def fndL (p : Tr × Tr) (n : Int) : List Int → Option Int
  | [] => none
  | l :: L => if lenT (timesT (letT (-l)) p) < n then some l else fndL p n L

def fnd (p : Tr × Tr) (n : Int) : Option Int := fndL p n ltrs

theorem fndL_mem (p : Tr × Tr) (n : Int) : ∀ (L : List Int) (l : Int), fndL p n L = some l → l ∈ L ∧ lenT (timesT (letT (-l)) p) < n
  | [], l, h => by cases h
  | x :: L, l, h => by
    rw [fndL] at h
    split at h
    · rename_i hx
      cases h
      exact ⟨by simp, hx⟩
    · obtain ⟨h1, h2⟩ := fndL_mem p n L l h
      exact ⟨by simp [h1], h2⟩

/-- A word, letter by letter. -/
def swT : Nat → Tr × Tr → List Int → List Int
  | 0, p, out => out
  | n + 1, p, out => match fnd p ((n + 1 : Nat) : Int) with
    | some l => swT n (timesT (letT (-l)) p) (out ++ [l])
    | none => swT n p out

theorem ltrs_neg : ∀ l ∈ ltrs, (-l = 1 ∨ -l = -1 ∨ -l = 2 ∨ -l = -2) ∧ -l ≠ 0 ∧ (-l).natAbs ≤ 2 ∧ IntKind.wrap .i64 (0 - l) = -l := by
  intro l hl
  simp only [ltrs, List.mem_cons, List.not_mem_nil, or_false] at hl
  rcases hl with rfl | rfl | rfl | rfl <;> refine ⟨by decide, by decide, by decide, ?_⟩ <;> rw [w64] <;> decide

/-- What the search needs of a pair. -/
structure Ok (p : Tr × Tr) (n : Int) : Prop where
  e : p.1.c = p.2.c
  r : bothL p = []
  c : p.1.c ≤ 40
  l : n ≤ lenT p

theorem Ok.near {p : Tr × Tr} {n : Int} (h : Ok p n) {l : Int} (hl : l ∈ ltrs) : lenT (timesT (letT (-l)) p) < n ↔ lenT (timesT (letT (-l)) p) = n - 1 := by
  have := (len_step p h.e h.r (-l) (ltrs_neg l hl).1).2
  have := h.l
  omega

theorem Ok.next {p : Tr × Tr} {n : Nat} (h : Ok p ((n + 1 : Nat) : Int)) (hn : n ≤ 32) {l : Int} (hl : l ∈ ltrs) (h1 : lenT (timesT (letT (-l)) p) < ((n + 1 : Nat) : Int)) : Ok (timesT (letT (-l)) p) (n : Int) := by
  have e := (h.near hl).1 h1
  have hc := let_c (-l)
  have he := times_eqc (letT (-l)) p (by omega) h.e
  have hlow := len_low _ he (times_red _ _)
  exact ⟨he, times_red _ _, by omega, by omega⟩

theorem Ok.stay {p : Tr × Tr} {n : Nat} (h : Ok p ((n + 1 : Nat) : Int)) : Ok p (n : Int) := ⟨h.e, h.r, h.c, by have := h.l; omega⟩

/-- A product is that of the reduced pair. -/
theorem times_redR (p q : Tr × Tr) (n : Nat) (hp : p.1.c = p.2.c) (hq : q.1.c = q.2.c) : timesT p (red n q) = timesT p q := by
  have hr := red_eqc n q hq
  refine red_unique _ _ (times_eqc _ _ hp hr) (times_eqc _ _ hp hq) (times_red _ _) (times_red _ _) fun s => ?_
  rw [fOf_times _ _ hp hr, fOf_times _ _ hp hq, fOf_red n q hq]

/-- A pair that may be reduced still. -/
structure Un (x p : Tr × Tr) : Prop where
  e : x.1.c = x.2.c
  c : x.1.c ≤ 40
  t : ∀ y : Tr × Tr, y.1.c = y.2.c → timesT y x = timesT y p

/-! ### The program's -/

theorem isw_L1 (L : List Int) (hl : L.length = 4) (hL : ∀ l ∈ L, l ∈ ltrs) (x p : Tr × Tr) (hx : Un x p) (n : Nat) (hn : n ≤ 32) (h : Ok p ((n + 1 : Nat) : Int)) (out : List Int) (ho : out.length ≤ 2 ^ 20) : ∀ (m i : Nat), 4 - i = m → i ≤ 4 →
    (∀ l, fndL p ((n + 1 : Nat) : Int) (L.drop i) = some l → LoopSC cfg.P 1 (lb P_impl_ShortestWord 1) (impl_ShortestWord_L1a ((n + 1 : Nat) : Int) L (i : Int) x out) (.exit 2) (impl_ShortestWord_L1X1 ((n + 1 : Nat) : Int) (timesT (letT (-l)) p) (out ++ [l]))) ∧
    (fndL p ((n + 1 : Nat) : Int) (L.drop i) = none → LoopSC cfg.P 1 (lb P_impl_ShortestWord 1) (impl_ShortestWord_L1a ((n + 1 : Nat) : Int) L (i : Int) x out) (.exit 2) (impl_ShortestWord_L1X2 ((n + 1 : Nat) : Int) L 4 false x out)) := by
  intro m
  induction m with
  | zero =>
    intro i hm hi
    have e : i = 4 := by omega
    subst e
    rw [List.drop_eq_nil_of_le (by omega)]
    exact ⟨fun l h => (by cases h), fun _ => impl_ShortestWord_L1a_x3 _ _ _ _ _ (by omega)⟩
  | succ m ih =>
    intro i hm hi
    have hlt : i < L.length := by omega
    have hd : L.drop i = L[i] :: L.drop (i + 1) := List.drop_eq_getElem_cons hlt
    have hg : List.getD L ((i : Int)).toNat (0 : Int) = L[i] := by rw [Int.toNat_natCast, List.getD_eq_getElem?_getD, List.getElem?_eq_getElem hlt]; rfl
    have hmem := hL _ (List.getElem_mem hlt)
    obtain ⟨g0, g1, g2, g3⟩ := ltrs_neg _ hmem
    have hlc := let_c (-L[i])
    have hL1 := letter_SC (-L[i]) g1 (by omega)
    have ht := times_SC (letT (-L[i])) x (by omega) hx.e (by omega) (by have := hx.c; omega)
    rw [hx.t _ (by omega)] at ht
    have he := times_eqc (letT (-L[i])) p (by omega) h.e
    have hc := raw_c (letT (-L[i])) p (by omega)
    have hs := length_SC (timesT (letT (-L[i])) p) he (by have := h.c; omega)
    rw [red_self _ (times_red _ _)] at hs
    have ew : IntKind.wrap .i64 (((n + 1 : Nat) : Int) - 1) = (n : Int) := by rw [w64] <;> omega
    obtain ⟨i1, i2⟩ := ih (i + 1) (by omega) (by omega)
    rw [← wrap_succ (i := i) (by omega)] at i1 i2
    have hN := h.near hmem
    have q1 : SC cfg.P i_impl_letter [.s (.v (.int .i64) (IntKind.wrap .i64 (0 - (List.getD L ((i : Int)).toNat (0 : Int)))))] (.s (.v (.pr .tree .tree) (letT (-L[i])))) [] := by
      rw [hg, g3]; exact hL1
    rw [hd, fndL]
    by_cases hq : lenT (timesT (letT (-L[i])) p) < ((n + 1 : Nat) : Int)
    · rw [if_pos hq]
      refine ⟨fun l e => ?_, fun e => by cases e⟩
      cases e
      have := impl_ShortestWord_L1a_x1 ((n + 1 : Nat) : Int) L (i : Int) x out (letT (-L[i])) (timesT (letT (-L[i])) p) (lenT (timesT (letT (-L[i])) p)) (by omega) (by omega) (by omega) q1 ht hs (by rw [ew, hN.1 hq]; omega) (by rw [hg]; exact sizeOK_one (by omega))
      rw [hg] at this
      exact this
    · rw [if_neg hq]
      have step := fun {e : AEx} {st : St} => impl_ShortestWord_L1a_i2 ((n + 1 : Nat) : Int) L (i : Int) x out (letT (-L[i])) (timesT (letT (-L[i])) p) (lenT (timesT (letT (-L[i])) p)) (by omega) (by omega) (by omega) q1 ht hs (by rw [ew]; intro e; exact hq (hN.2 (by omega))) (e := e) (st := st)
      exact ⟨fun l e => step (i1 l e), fun e => step (i2 e)⟩

theorem isw_L : ∀ (n : Nat) (x p : Tr × Tr) (out : List Int), Un x p → n ≤ 33 → Ok p (n : Int) → out.length + n ≤ 33 →
    ∃ z, LoopSC cfg.P 1 (lb P_impl_ShortestWord 0) (impl_ShortestWord_L0a (n : Int) x out) (.exit 0) (impl_ShortestWord_L0X1 0 false z (swT n p out))
  | 0, x, p, out, _, _, h, _ => ⟨x, impl_ShortestWord_L0a_x3 _ _ _ (by omega)⟩
  | n + 1, x, p, out, hx, hn, h, ho => by
    obtain ⟨h1, h2⟩ := isw_L1 ltrs rfl (fun l hl => hl) x p hx n (by omega) h out (by omega) 4 0 rfl (by omega)
    rw [List.drop_zero] at h1 h2
    have ew : IntKind.wrap .i64 (((n + 1 : Nat) : Int) - 1) = (n : Int) := by rw [w64] <;> omega
    rw [swT]
    cases hf : fnd p ((n + 1 : Nat) : Int) with
    | none =>
      obtain ⟨z, ih⟩ := isw_L n x p out hx (by omega) h.stay (by omega)
      rw [← ew] at ih
      exact ⟨z, impl_ShortestWord_L0a_i2 _ _ _ _ _ _ _ _ _ _ (by omega) letters_SC (h2 hf) ih⟩
    | some l =>
      obtain ⟨hm, hlt⟩ := fndL_mem _ _ _ _ hf
      have hk := h.next (by omega) hm hlt
      obtain ⟨z, ih⟩ := isw_L n (timesT (letT (-l)) p) (timesT (letT (-l)) p) (out ++ [l]) ⟨hk.e, hk.c, fun _ _ => rfl⟩ (by omega) hk (by simp; omega)
      rw [← ew] at ih
      exact ⟨z, impl_ShortestWord_L0a_i1 _ _ _ _ _ _ _ (by omega) letters_SC (h1 l hf) ih⟩

/-! ### The reference's -/

theorem ssw_L1 (L : List Int) (hl : L.length = 4) (hL : ∀ l ∈ L, l ∈ ltrs) (p : Tr × Tr) (n : Nat) (hn : n ≤ 32) (h : Ok p ((n + 1 : Nat) : Int)) (out : List Int) (ho : out.length ≤ 2 ^ 20) : ∀ (m i : Nat), 4 - i = m → i ≤ 4 →
    (∀ l, fndL p ((n + 1 : Nat) : Int) (L.drop i) = some l → LoopSC cfg.P 1 (lb P_spec_ShortestWord 1) (spec_ShortestWord_L1a ((n + 1 : Nat) : Int) L ((L.length : Nat) : Int) (i : Int) (pt p) out) (.exit 2) (spec_ShortestWord_L1X1 ((n + 1 : Nat) : Int) (pt (timesT (letT (-l)) p)) (out ++ [l]))) ∧
    (fndL p ((n + 1 : Nat) : Int) (L.drop i) = none → LoopSC cfg.P 1 (lb P_spec_ShortestWord 1) (spec_ShortestWord_L1a ((n + 1 : Nat) : Int) L ((L.length : Nat) : Int) (i : Int) (pt p) out) (.exit 2) (spec_ShortestWord_L1X2 ((n + 1 : Nat) : Int) L ((L.length : Nat) : Int) 4 false (pt p) out)) := by
  intro m
  induction m with
  | zero =>
    intro i hm hi
    have e : i = 4 := by omega
    subst e
    rw [List.drop_eq_nil_of_le (by omega)]
    exact ⟨fun l h => (by cases h), fun _ => spec_ShortestWord_L1a_x3 _ _ _ _ _ _ (by omega)⟩
  | succ m ih =>
    intro i hm hi
    have hlt : i < L.length := by omega
    have hd : L.drop i = L[i] :: L.drop (i + 1) := List.drop_eq_getElem_cons hlt
    have hg : List.getD L ((i : Int)).toNat (0 : Int) = L[i] := by rw [Int.toNat_natCast, List.getD_eq_getElem?_getD, List.getElem?_eq_getElem hlt]; rfl
    have hmem := hL _ (List.getElem_mem hlt)
    obtain ⟨g0, g1, g2, g3⟩ := ltrs_neg _ hmem
    have hlc := let_c (-L[i])
    have hL1 := wdLetter_SC (-L[i]) g1 (by omega)
    have ht := prTimes_SC (letT (-L[i])) p (by omega) h.e (by have := h.c; omega)
    have he := times_eqc (letT (-L[i])) p (by omega) h.e
    have hc := raw_c (letT (-L[i])) p (by omega)
    have hs := lnOf_SC (timesT (letT (-L[i])) p) he (by have := h.c; omega)
    obtain ⟨i1, i2⟩ := ih (i + 1) (by omega) (by omega)
    rw [← wrap_succ (i := i) (by omega)] at i1 i2
    have q1 : SC cfg.P i_spec_wdLetter [.s (.v (.int .i64) (IntKind.wrap .i64 (0 - (List.getD L ((i : Int)).toNat (0 : Int)))))] (.s (.v (.pr .str .str) (pt (letT (-L[i]))))) [] := by
      rw [hg, g3]; exact hL1
    rw [hd, fndL]
    by_cases hq : lenT (timesT (letT (-L[i])) p) < ((n + 1 : Nat) : Int)
    · rw [if_pos hq]
      refine ⟨fun l e => ?_, fun e => by cases e⟩
      cases e
      have := spec_ShortestWord_L1a_x1 ((n + 1 : Nat) : Int) L ((L.length : Nat) : Int) (i : Int) (pt p) out (pt (letT (-L[i]))) (pt (timesT (letT (-L[i])) p)) (lenT (timesT (letT (-L[i])) p)) (by omega) (by omega) (by omega) q1 ht hs hq (by rw [hg]; exact sizeOK_one (by omega))
      rw [hg] at this
      exact this
    · rw [if_neg hq]
      have step := fun {e : AEx} {st : St} => spec_ShortestWord_L1a_i2 ((n + 1 : Nat) : Int) L ((L.length : Nat) : Int) (i : Int) (pt p) out (pt (letT (-L[i]))) (pt (timesT (letT (-L[i])) p)) (lenT (timesT (letT (-L[i])) p)) (by omega) (by omega) (by omega) q1 ht hs hq (e := e) (st := st)
      exact ⟨fun l e => step (i1 l e), fun e => step (i2 e)⟩

theorem ssw_L : ∀ (n : Nat) (p : Tr × Tr) (out : List Int), n ≤ 33 → Ok p (n : Int) → out.length + n ≤ 33 →
    ∃ z, LoopSC cfg.P 1 (lb P_spec_ShortestWord 0) (spec_ShortestWord_L0a (n : Int) (pt p) out) (.exit 0) (spec_ShortestWord_L0X1 0 false z (swT n p out))
  | 0, p, out, _, h, _ => ⟨pt p, spec_ShortestWord_L0a_x3 _ _ _ (by omega)⟩
  | n + 1, p, out, hn, h, ho => by
    obtain ⟨h1, h2⟩ := ssw_L1 ltrs rfl (fun l hl => hl) p n (by omega) h out (by omega) 4 0 rfl (by omega)
    rw [List.drop_zero] at h1 h2
    have ew : IntKind.wrap .i64 (((n + 1 : Nat) : Int) - 1) = (n : Int) := by rw [w64] <;> omega
    rw [swT]
    cases hf : fnd p ((n + 1 : Nat) : Int) with
    | none =>
      obtain ⟨z, ih⟩ := ssw_L n p out (by omega) h.stay (by omega)
      rw [← ew] at ih
      exact ⟨z, spec_ShortestWord_L0a_i2 _ _ _ _ _ _ _ _ _ _ _ (by omega) lnLetters_SC.view (h2 hf) ih⟩
    | some l =>
      obtain ⟨hm, hlt⟩ := fndL_mem _ _ _ _ hf
      obtain ⟨z, ih⟩ := ssw_L n (timesT (letT (-l)) p) (out ++ [l]) (by omega) (h.next (by omega) hm hlt) (by simp; omega)
      rw [← ew] at ih
      exact ⟨z, spec_ShortestWord_L0a_i1 _ _ _ _ _ _ _ (by omega) lnLetters_SC.view (h1 l hf) ih⟩

theorem swT_len : ∀ (n : Nat) (p : Tr × Tr) (out : List Int), (swT n p out).length ≤ out.length + n
  | 0, p, out => Nat.le_refl _
  | n + 1, p, out => by
    rw [swT]
    split
    · rename_i l _
      have := swT_len n (timesT (letT (-l)) p) (out ++ [l])
      simp at this
      omega
    · have := swT_len n p out; omega

def swR (a b : List UInt8) : Tr × Tr := red (treeOf a).c (treeOf a, treeOf b)
def swV (a b : List UInt8) : List Int := if isPair a b = true then swT (lenT (swR a b)).toNat (swR a b) [] else []

theorem swR_facts {a b : List UInt8} (t : isPair a b = true) : Ok (swR a b) (((lenT (swR a b)).toNat : Nat) : Int) ∧ (lenT (swR a b)).toNat ≤ 32 ∧ (((lenT (swR a b)).toNat : Nat) : Int) = lenT (swR a b) := by
  obtain ⟨a1, a2, a3, a4, a5⟩ := isPair_trees t
  have hr := red_c (treeOf a).c (treeOf a, treeOf b)
  simp only at hr
  have he : (swR a b).1.c = (swR a b).2.c := red_eqc _ _ (by simp only; omega)
  have hc : (swR a b).1.c ≤ 8 := by have : (swR a b).1.c ≤ (treeOf a).c := hr.1; omega
  have hb := lenT_bound (swR a b) he (by omega)
  have h0 : (((lenT (swR a b)).toNat : Nat) : Int) = lenT (swR a b) := Int.toNat_of_nonneg hb.1
  exact ⟨⟨he, red_done _ _ (by simp only; omega), by omega, by omega⟩, by omega, h0⟩

theorem implSw_SC (a b : List UInt8) (ha : a.length ≤ 2 ^ 40) (hb : b.length ≤ 2 ^ 40) :
    SC cfg.P i_impl_ShortestWord [.s (.v (.pr .str .str) (bs a, bs b))] (.tup [.own t_int (.int .i64) (swV a b), .v .bool (isPair a b)]) [] := by
  have h1 := pairOf_SC a b ha hb
  unfold swV
  cases t : isPair a b with
  | false => rw [t] at h1; exact impl_ShortestWord_p2 _ _ h1
  | true =>
    rw [t] at h1
    obtain ⟨a1, a2, a3, a4, a5⟩ := isPair_trees t
    obtain ⟨f1, f2, f3⟩ := swR_facts t
    have hs := length_SC (treeOf a, treeOf b) (by simp only; omega) (by simp only; omega)
    have e : lenT (red (treeOf a, treeOf b).1.c (treeOf a, treeOf b)) = lenT (swR a b) := rfl
    rw [e, ← f3] at hs
    obtain ⟨z, hL⟩ := isw_L (lenT (swR a b)).toNat (treeOf a, treeOf b) (swR a b) [] ⟨by simp only; omega, by simp only; omega, fun y hy => (times_redR y _ _ hy (by simp only; omega)).symm⟩ (by omega) f1 (by simp; omega)
    rw [if_pos rfl]
    exact impl_ShortestWord_p1 _ _ _ _ _ _ _ h1 hs hL

theorem specSw_SC (a b : List UInt8) (ha : a.length ≤ 2 ^ 40) (hb : b.length ≤ 2 ^ 40) :
    SC cfg.P i_spec_ShortestWord [.s (.v (.pr .str .str) (bs a, bs b))] (.tup [.own t_int (.int .i64) (swV a b), .v .bool (isPair a b)]) [] := by
  have h1 := prGood_SC a b ha hb
  unfold swV
  cases t : isPair a b with
  | false => rw [t] at h1; exact spec_ShortestWord_p2 _ h1
  | true =>
    rw [t] at h1
    obtain ⟨a1, a2, a3, a4, a5⟩ := isPair_trees t
    obtain ⟨f1, f2, f3⟩ := swR_facts t
    have e1 : pt (treeOf a, treeOf b) = (bs a, bs b) := by rw [pt, ← a1, ← a2]
    have h2 : SC cfg.P i_spec_prReduce [.s (.v (.pr .str .str) (pt (treeOf a, treeOf b))), .s (.v (.sl (.int .i64)) ([] : List Int))] (.s (.v (.pr .str .str) (pt (swR a b)))) [] := prReduce_SC (treeOf a, treeOf b) (by simp only; omega) (by simp only; omega)
    rw [e1] at h2
    have hs := lnOf_SC (swR a b) f1.e (by have := f1.c; omega)
    rw [← f3] at hs
    obtain ⟨z, hL⟩ := ssw_L (lenT (swR a b)).toNat (swR a b) [] (by omega) f1 (by simp; omega)
    rw [if_pos rfl]
    exact spec_ShortestWord_p1 _ _ _ _ _ _ _ h1 h2 hs hL

/-- The law of ShortestWord. -/
theorem law_Sw (x y : ByteArray) (hx : x.size ≤ 2 ^ 63 - 1) (hy : y.size ≤ 2 ^ 63 - 1) :
    SC cfg.P i_laws_FnExactShortestWord [.s (.v (.pr .str .str) (x, y))] (.s (.v .bool true)) [] := by
  obtain ⟨a, rfl⟩ := bs_ex x
  obtain ⟨b, rfl⟩ := bs_ex y
  rw [bs_size] at hx hy
  by_cases h : a.length + b.length ≤ 1048576
  · have hS := specSw_SC a b (by omega) (by omega)
    have hI := implSw_SC a b (by omega) (by omega)
    have hv : (swV a b).length ≤ 32 := by
      unfold swV
      split
      · rename_i t
        obtain ⟨f1, f2, f3⟩ := swR_facts t
        have := swT_len (lenT (swR a b)).toNat (swR a b) []
        simp at this
        omega
      · simp
    have e := eqIntS_SC (swV a b) (by omega)
    have m := markIntS_SC (swV a b) (by omega)
    have hh := heldIntS_SC (swV a b).length (by omega)
    exact laws_FnExactShortestWord_p2 _ _ _ _ _ _ _ _ _ _ _ _ _ _ _ (szPair_in a b h) (by omega) (laws_toPair_p1 _) hS (laws_toPair_p1 _) hI e (by simp) m hh (by omega) rfl (laws_toPair_p1 _) hI e (by simp) hh (by omega) rfl
  · exact laws_FnExactShortestWord_p1 _ _ (szPair_out a b hx hy h) (by omega)

end Go.AI
