/- A part of the road: what it proves stands in its last texts. -/
import Derived.Test.YtndnckjnnfnnnaaDoorGZ
import Derived.Test.YtndnckjnnfnnnaaDoorCtw
import Derived.Test.YtndnckjnnfnnnaaDoorJB
section
/- Trees by their addresses: both sides say the same. -/
set_option autoImplicit false
set_option maxRecDepth 100000
set_option linter.unusedVariables false
namespace Go.AI
open Go.Proofs

theorem adL_map : ∀ (t : Tr) (p : List UInt8), adL t p = (adL t []).map (p ++ ·)
  | .leaf, p => by simp [adL]
  | .node l r, p => by
    simp only [adL, List.nil_append]
    rw [adL_map l (p ++ [48]), adL_map r (p ++ [49]), adL_map l [48], adL_map r [49], List.map_append, List.map_map, List.map_map]
    simp [Function.comp_def]

theorem foldl_put_l : ∀ (M : List (List UInt8)) (x y : Tr), (M.map ([48] ++ ·)).foldl putT (.node x y) = .node (M.foldl putT x) y
  | [], _, _ => rfl
  | a :: M, x, y => by
    simp only [List.map_cons, List.foldl_cons]
    have : putT (.node x y) ([48] ++ a) = .node (putT x a) y := by
      show putT (.node x y) (48 :: a) = _
      rw [putT, if_pos rfl]
    rw [this, foldl_put_l M]

theorem foldl_put_r : ∀ (M : List (List UInt8)) (x y : Tr), (M.map ([49] ++ ·)).foldl putT (.node x y) = .node x (M.foldl putT y)
  | [], _, _ => rfl
  | a :: M, x, y => by
    simp only [List.map_cons, List.foldl_cons]
    have : putT (.node x y) ([49] ++ a) = .node x (putT y a) := by
      show putT (.node x y) (49 :: a) = _
      rw [putT, if_neg (by decide)]
    rw [this, foldl_put_r M]

theorem adL_ne : ∀ (t : Tr) (p : List UInt8), adL t p ≠ []
  | t, p, h => by have := adL_len t p; rw [h] at this; simp at this

/-- The tree of its own addresses. -/
theorem fold_put : ∀ t : Tr, (adL t []).foldl putT .leaf = t
  | .leaf => rfl
  | .node l r => by
    have e : adL (.node l r) [] = (adL l []).map ([48] ++ ·) ++ (adL r []).map ([49] ++ ·) := by
      show adL l [48] ++ adL r [49] = _
      rw [adL_map l, adL_map r]
    rw [e, List.foldl_append]
    have h1 : ((adL l []).map ([48] ++ ·)).foldl putT .leaf = .node l .leaf := by
      have hl := fold_put l
      cases hM : adL l [] with
      | nil => exact absurd hM (adL_ne l [])
      | cons a M =>
        rw [hM] at hl
        simp only [List.map_cons, List.foldl_cons] at hl ⊢
        have : putT .leaf ([48] ++ a) = .node (putT .leaf a) .leaf := by
          show putT .leaf (48 :: a) = _
          rw [putT, if_pos rfl]
        rw [this, foldl_put_l, hl]
    rw [h1, foldl_put_r, fold_put r]

/-- The reference's reading of addresses. -/
def trW : Nat → List (List UInt8) → List UInt8 → Option (Tr × Nat)
  | 0, _, _ => none
  | _ + 1, [], _ => none
  | d + 1, a :: L, p => if a = p then some (.leaf, 1) else
    match trW d (a :: L) (p ++ [48]) with
    | none => none
    | some (l, n) => match trW d ((a :: L).drop n) (p ++ [49]) with
      | none => none
      | some (r, m) => some (.node l r, n + m)

theorem trW_some : ∀ (d : Nat) (L : List (List UInt8)) (p : List UInt8) (t : Tr) (n : Nat), trW d L p = some (t, n) → n = t.c + 1 ∧ n ≤ L.length ∧ L.take n = adL t p
  | 0, _, _, _, _, h => by cases h
  | _ + 1, [], _, _, _, h => by cases h
  | d + 1, a :: L, p, t, n, h => by
    simp only [trW] at h
    split at h
    · rename_i e
      cases h
      exact ⟨rfl, by simp, by rw [e]; rfl⟩
    · split at h
      · cases h
      · rename_i l k hl
        split at h
        · cases h
        · rename_i r m hr
          cases h
          obtain ⟨a1, a2, a3⟩ := trW_some d _ _ _ _ hl
          obtain ⟨b1, b2, b3⟩ := trW_some d _ _ _ _ hr
          rw [List.length_drop] at b2
          refine ⟨by simp only [Tr.c]; omega, by omega, ?_⟩
          rw [List.take_add, a3, b3]
          rfl

theorem adL_head : ∀ (t : Tr) (p a : List UInt8) (M : List (List UInt8)), adL t p = a :: M → p.length ≤ a.length ∧ (t ≠ .leaf → p.length < a.length)
  | .leaf, p, a, M, h => by
    simp only [adL, List.cons.injEq] at h
    rw [h.1]
    exact ⟨Nat.le_refl _, fun h => absurd rfl h⟩
  | .node l r, p, a, M, h => by
    simp only [adL] at h
    cases hl : adL l (p ++ [48]) with
    | nil => exact absurd hl (adL_ne _ _)
    | cons b N =>
      rw [hl] at h
      simp only [List.cons_append, List.cons.injEq] at h
      have := (adL_head l _ _ _ hl).1
      rw [h.1] at this
      simp at this
      exact ⟨by omega, fun _ => by omega⟩

theorem trW_of : ∀ (t : Tr) (d : Nat) (p : List UInt8) (R : List (List UInt8)), t.h < d → trW d (adL t p ++ R) p = some (t, t.c + 1)
  | .leaf, d + 1, p, R, _ => by simp [adL, trW, Tr.c]
  | .node l r, d + 1, p, R, h => by
    simp only [Tr.h] at h
    cases hl : adL (.node l r) p with
    | nil => exact absurd hl (adL_ne _ _)
    | cons a M =>
      have hne : a ≠ p := fun e => by
        have := (adL_head _ _ _ _ hl).2 (by intro e; cases e)
        rw [e] at this
        omega
      have h1 := trW_of l d (p ++ [48]) (adL r (p ++ [49]) ++ R) (by omega)
      have h2 := trW_of r d (p ++ [49]) R (by omega)
      have e : adL l (p ++ [48]) ++ (adL r (p ++ [49]) ++ R) = a :: (M ++ R) := by
        rw [← List.append_assoc]
        show adL (.node l r) p ++ R = _
        rw [hl]
        rfl
      rw [e] at h1
      have hd : (a :: (M ++ R)).drop (l.c + 1) = adL r (p ++ [49]) ++ R := by
        rw [← e, List.drop_append_of_le_length (by rw [adL_len]; omega), List.drop_of_length_le (by rw [adL_len]; omega), List.nil_append]
      show trW (d + 1) (a :: (M ++ R)) p = _
      simp only [trW, if_neg hne, h1, hd, h2]
      simp only [Tr.c]
      congr 2
      omega
  | _, 0, _, _, h => by omega

def twT (L : List (List UInt8)) : Option Tr := match trW 9 L [] with
  | some (t, n) => if n = L.length then some t else none
  | none => none

theorem twT_iff (L : List (List UInt8)) (hl : L.length ≤ 9) (t : Tr) : twT L = some t ↔ L = adL t [] := by
  constructor
  · intro h
    unfold twT at h
    split at h
    · rename_i t' n hw
      split at h
      · rename_i hn
        cases h
        obtain ⟨_, _, h3⟩ := trW_some _ _ _ _ _ hw
        rw [hn, List.take_length] at h3
        exact h3
      · cases h
    · cases h
  · intro h
    have hc : t.c ≤ 8 := by have := adL_len t []; rw [← h] at this; omega
    have hh := Tr.h_le t
    have hw := trW_of t 9 [] [] (by omega)
    rw [List.append_nil, ← h] at hw
    unfold twT
    rw [hw]
    have := adL_len t []
    rw [← h] at this
    simp only
    rw [if_pos this.symm]

def twB (L : List (List UInt8)) : Bool := decide (L.length ≤ 9) && (twT L).isSome
def twV (L : List (List UInt8)) : ByteArray := if L.length ≤ 9 then (match twT L with | some t => bs (txt t) | none => E1) else E1

def rW (o : Option (Tr × Nat)) : ByteArray := match o with | some (t, _) => bs (txt t) | none => E1
def nW (o : Option (Tr × Nat)) : Int := match o with | some (_, n) => (n : Int) | none => 0

theorem cut_drop (L : List (List UInt8)) (n : Nat) (h : n ≤ L.length) : cutL (strs' L) (n : Int) ((List.length (strs' L) : Nat) : Int) = strs' (L.drop n) := by
  unfold cutL
  rw [Int.toNat_natCast, Int.toNat_natCast, List.take_of_length_le (Nat.le_refl _)]
  exact List.map_drop.symm

theorem bs48 (p : List UInt8) : bs p ++ (⟨#[48]⟩ : ByteArray) = bs (p ++ [48]) := by show bs p ++ bs [48] = _; rw [bs_append]
theorem bs49 (p : List UInt8) : bs p ++ (⟨#[49]⟩ : ByteArray) = bs (p ++ [49]) := by show bs p ++ bs [49] = _; rw [bs_append]

theorem trWith_SC : ∀ (d : Nat) (L : List (List UInt8)) (p : List UInt8), L.length ≤ 2 ^ 20 → d + p.length = 9 → SC cfg.P i_spec_trWith [.s (.v (.sl .str) (strs' L)), .s (.v .str (bs p))] (.tup [.v .str (rW (trW d L p)), .v (.int .i64) (nW (trW d L p))]) []
  | 0, [], p, _, hp => spec_trWith_p1 _ _ rfl
  | 0, a :: L, p, _, hp => spec_trWith_p2 _ _ (by rw [List.length_map, List.length_cons]; omega) (by rw [bs_size]; omega)
  | _ + 1, [], p, _, hp => spec_trWith_p1 _ _ rfl
  | d + 1, a :: L, p, hL, hp => by
    have e1 : ((List.length (strs' (a :: L)) : Nat) : Int) ≠ (0 : Int) := by rw [List.length_map, List.length_cons]; omega
    have e2 : ¬ (((bs p).size : Int) > (8 : Int)) := by rw [bs_size]; omega
    have e3 : (0 : Int) < (List.length (strs' (a :: L)) : Int) := by rw [List.length_map, List.length_cons]; omega
    have s48 : ((⟨#[48]⟩ : ByteArray)).size = 1 := rfl
    have s49 : ((⟨#[49]⟩ : ByteArray)).size = 1 := rfl
    simp only [trW]
    by_cases h : a = p
    · rw [if_pos h]
      exact spec_trWith_p3 _ _ e1 e2 e3 (by rw [← h]; rfl)
    · rw [if_neg h]
      have hne : (List.getD (strs' (a :: L)) ((0 : Int)).toNat (⟨#[]⟩ : ByteArray)) ≠ bs p := fun e => h (bs_inj.1 e)
      have h1 := trWith_SC d (a :: L) (p ++ [48]) hL (by simp; omega)
      rw [← bs48] at h1
      cases c1 : trW d (a :: L) (p ++ [48]) with
      | none =>
        rw [c1] at h1
        exact spec_trWith_p4 _ _ _ _ e1 e2 e3 hne (by rw [bs_size, s48]; omega) h1 rfl
      | some q =>
        obtain ⟨l, n⟩ := q
        obtain ⟨a1, a2, a3⟩ := trW_some _ _ _ _ _ c1
        rw [c1] at h1
        have h2 := trWith_SC d ((a :: L).drop n) (p ++ [49]) (by rw [List.length_drop]; omega) (by simp; omega)
        rw [← bs49, ← cut_drop _ _ a2] at h2
        have lL : List.length (strs' (a :: L)) = (a :: L).length := List.length_map ..
        simp only
        cases c2 : trW d ((a :: L).drop n) (p ++ [49]) with
        | none =>
          rw [c2] at h2
          exact spec_trWith_p5 _ _ _ _ _ _ e1 e2 e3 hne (by rw [bs_size, s48]; omega) h1 (by show (n : Int) ≠ 0; omega) (by show 0 ≤ (n : Int); omega) (by show (n : Int) ≤ _; rw [lL]; omega) (by rw [bs_size, s49]; omega) h2 rfl
        | some q =>
          obtain ⟨r, m⟩ := q
          obtain ⟨b1, b2, b3⟩ := trW_some _ _ _ _ _ c2
          rw [List.length_drop] at b2
          rw [c2] at h2
          have hlen := txt_len l
          have hlenr := txt_len r
          have cl : l.c ≤ 2 ^ 30 := by omega
          have cr : r.c ≤ 2 ^ 30 := by omega
          have ht := trOf_SC l r cl cr
          have := spec_trWith_p6 _ _ _ _ _ _ _ e1 e2 e3 hne (by rw [bs_size, s48]; omega) h1 (by show (n : Int) ≠ 0; omega) (by show 0 ≤ (n : Int); omega) (by show (n : Int) ≤ _; rw [lL]; omega) (by rw [bs_size, s49]; omega) h2 (by show (m : Int) ≠ 0; omega) ht
          have ew : IntKind.wrap .i64 ((n : Int) + (m : Int)) = ((n + m : Nat) : Int) := by rw [w64 (by omega) (by omega)]; omega
          rw [show IntKind.wrap .i64 (nW (some (l, n)) + nW (some (r, m))) = ((n + m : Nat) : Int) from ew] at this
          exact this

end Go.AI
end

section
/- Contracts: the reference's tree with addresses. -/
set_option autoImplicit false
set_option maxRecDepth 100000
set_option linter.unusedVariables false
namespace Go.AI
open Go.Proofs

/-! ### TreeWith -/

theorem spTW_SC (L : List (List UInt8)) (hL : L.length ≤ 2 ^ 20) : SC cfg.P i_spec_TreeWith [.s (.v (.sl .str) (strs' L))] (.tup [.v .str (twV L), .v .bool (twB L)]) [] := by
  have hlen : List.length (strs' L) = L.length := List.length_map ..
  unfold twV twB
  by_cases h9 : L.length ≤ 9
  · rw [if_pos h9, decide_eq_true h9, Bool.true_and]
    have hw := trWith_SC 9 L [] hL rfl
    have n9 : ¬ (((List.length (strs' L) : Nat) : Int) > (9 : Int)) := by omega
    unfold twT
    cases c : trW 9 L [] with
    | none =>
      rw [c] at hw
      exact spec_TreeWith_p2 _ _ _ n9 hw rfl
    | some q =>
      obtain ⟨t, n⟩ := q
      rw [c] at hw
      obtain ⟨a1, a2, a3⟩ := trW_some _ _ _ _ _ c
      simp only
      by_cases hn : n = L.length
      · rw [if_pos hn]
        exact spec_TreeWith_p4 _ _ _ n9 hw (by show (n : Int) ≠ 0; omega) (by show (n : Int) = _; omega)
      · rw [if_neg hn]
        exact spec_TreeWith_p3 _ _ _ n9 hw (by show (n : Int) ≠ 0; omega) (by show (n : Int) ≠ _; omega)
  · rw [if_neg h9, decide_eq_false h9, Bool.false_and]
    exact spec_TreeWith_p1 _ (by omega)


end Go.AI
end
