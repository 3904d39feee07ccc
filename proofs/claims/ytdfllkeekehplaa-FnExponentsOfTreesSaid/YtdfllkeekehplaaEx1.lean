/- Contracts: trees of exponents. -/
import Derived.Test.YtdfllkeekehplaaFex
import Derived.Test.YtdfllkeekehplaaCFw
import Derived.Test.YtdfllkeekehplaaCPh2
import Derived.Test.YtdfllkeekehplaaCWs
import Derived.Test.YtdfllkeekehplaaDd
import Derived.Test.YtdfllkeekehplaaGA
import Derived.Test.YtdfllkeekehplaaJE
import Derived.Test.YtdfllkeekehplaaCSb
import Derived.Test.YtdfllkeekehplaaAiH
set_option autoImplicit false
set_option maxRecDepth 100000
set_option linter.unusedVariables false
namespace Go.AI
open Go.Proofs

theorem nbeq (b : Bool) : (!(b == b)) = false := by simp

def Bytes (l : List Int) : Prop := ∀ x ∈ l, 0 ≤ x ∧ x ≤ 255

theorem cur0 {l : List Int} (h : Bytes l) (hl : l.length ≤ 2 ^ 40) : CurOk 0 (l, ((0 : Int), (0 : Int))) := ⟨Int.le_refl _, Int.le_refl _, hl, h⟩

theorem l1In_SC (n lo hi : Int) : SC cfg.P i_spec_l1In [.s (.v (.int .i64) n), .s (.v (.int .i64) lo), .s (.v (.int .i64) hi)] (.s (.v .bool (decide (lo ≤ n ∧ n ≤ hi)))) [] := by
  by_cases h1 : lo ≤ n
  · by_cases h2 : n ≤ hi
    · rw [decide_eq_true ⟨h1, h2⟩]; exact spec_l1In_p1 _ _ _ (by omega) h2
    · rw [decide_eq_false (fun h => h2 h.2)]; exact spec_l1In_p2 _ _ _ (by omega) h2
  · rw [decide_eq_false (fun h => h1 h.1)]; exact spec_l1In_p3 _ _ _ (by omega)

def ok8 (n : Int) : Bool := decide (0 ≤ n ∧ n ≤ 8)

theorem l1All_SC (l : List Int) (hl : l.length ≤ 2 ^ 40) : SC cfg.P i_spec_l1All [.s (.v (.sl (.int .i64)) l), .s (.v (.int .i64) (0 : Int)), .s (.v (.int .i64) (8 : Int))] (.s (.v .bool (l.all ok8))) [] := by
  have key := loop_ret (P := cfg.P) (np := 3) (c := lb P_spec_l1All 0) (fun i (a : Unit) => spec_l1All_L0a (0 : Int) (8 : Int) l ((l.length : Nat) : Int) (i : Int)) (fun a => spec_l1All_L0X2 (0 : Int) (8 : Int) l ((l.length : Nat) : Int) (l.length : Int) false) (spec_l1All_L0X1 false)
    (fun i a => a) (fun i a => True) (fun i => ok8 (l.getD i 0)) l.length
    (fun i a hi hI hp => by
      refine ⟨trivial, fun e st hn => ?_⟩
      have hL := l1In_SC (l.getD i 0) 0 8
      rw [show decide (0 ≤ l.getD i 0 ∧ l.getD i 0 ≤ 8) = true from hp] at hL
      rw [← wrap_succ (by omega)] at hn
      exact spec_l1All_L0a_i1 _ _ _ _ _ (by omega) (by omega) (by omega) hL hn)
    (fun i a hi hI hp => by
      have hL := l1In_SC (l.getD i 0) 0 8
      rw [show decide (0 ≤ l.getD i 0 ∧ l.getD i 0 ≤ 8) = false from hp] at hL
      exact spec_l1All_L0a_x2 _ _ _ _ _ (by omega) (by omega) (by omega) hL)
    (fun a _ => spec_l1All_L0a_x3 _ _ _ _ _ (by omega)) l.length 0 () (by omega) trivial
  rw [all_range' l 0 ok8] at key
  cases hf : l.all ok8 with
  | true => exact spec_l1All_p2 _ _ _ _ _ _ _ _ _ (key.1 hf)
  | false => exact spec_l1All_p1 _ _ _ _ (key.2 hf)

/-! ### Carets of what is joined -/

theorem jn_sum : ∀ (n : Nat) (t : Tr) (R : List Tr), n ≤ R.length → sumC (jn n (t :: R)) = t.c + sumC R + n
  | 0, t, R, _ => by simp [jn, sumC]
  | n + 1, t, [], h => by simp at h
  | n + 1, t, u :: R, h => by
    rw [List.length_cons] at h
    have e : sumC (u :: R) = u.c + sumC R := by simp [sumC]
    rw [jn, jn_sum n _ R (by omega), e]
    simp only [Tr.c]
    omega

theorem sum_leaves (n : Nat) : sumC (List.replicate n .leaf) = 0 := by simp [sumC, Tr.c]

theorem bld_sum : ∀ (X : List Nat) (P : List Tr), X.sum ≤ P.length → sumC (bldP X P) = X.sum + sumC P
  | [], P, _ => by simp [bldP]
  | a :: X, P, h => by
    rw [List.sum_cons] at h
    have l := bld_len X P (by omega)
    rw [bldP, jn_sum a _ _ (by omega), bld_sum X P (by omega), List.sum_cons]
    simp only [Tr.c]
    omega

theorem jn_succ : ∀ (j : Nat) (t0 : Tr) (R0 : List Tr), j + 1 ≤ R0.length → ∃ t u R, jn j (t0 :: R0) = t :: u :: R ∧ jn (j + 1) (t0 :: R0) = .node t u :: R
  | 0, t0, [], h => by simp at h
  | 0, t0, u :: R, _ => ⟨t0, u, R, rfl, rfl⟩
  | j + 1, t0, [], h => by simp at h
  | j + 1, t0, v :: R, h => by
    rw [List.length_cons] at h
    obtain ⟨t, u, R', e1, e2⟩ := jn_succ j (.node t0 v) R (by omega)
    exact ⟨t, u, R', e1, e2⟩

/-! ### The reference's forest -/

section
variable (a : List Nat) (hl : a.length ≤ 9) (ha : ∀ x ∈ a, x ≤ 8)
include hl ha

theorem sum72 : a.sum ≤ 72 := by
  have key : ∀ l : List Nat, (∀ x ∈ l, x ≤ 8) → l.sum ≤ l.length * 8 := fun l => by
    induction l with
    | nil => intro _; simp
    | cons x l ih => intro h; rw [List.sum_cons, List.length_cons]; have := ih (fun y hy => h y (List.mem_cons_of_mem _ hy)); have := h x (by simp); omega
  have := key a ha
  omega

theorem wf0 : ∀ (m i : Nat), a.length - i = m → i ≤ a.length → LoopSC cfg.P 1 (lb P_spec_wdForest 0) (spec_wdForest_L0a (ints a) ((a.length + 1 + (a.take i).sum : Nat) : Int) (ints a) ((List.length (ints a) : Nat) : Int) (i : Int) []) (.exit 0) (spec_wdForest_L0X1 (ints a) ((a.length + 1 + a.sum : Nat) : Int) (ints a) ((List.length (ints a) : Nat) : Int) (a.length : Int) false []) := by
  have hlen : List.length (ints a) = a.length := List.length_map ..
  intro m
  induction m with
  | zero =>
    intro i hm hi
    have e : i = a.length := by omega
    subst e
    rw [List.take_length]
    exact spec_wdForest_L0a_x2 _ _ _ _ _ _ (by omega)
  | succ m ih =>
    intro i hm hi
    have hlt : i < a.length := by omega
    have k := ih (i + 1) (by omega) (by omega)
    have hg : List.getD (ints a) ((i : Int)).toNat 0 = ((a.getD i 0 : Nat) : Int) := by rw [Int.toNat_natCast]; exact ints_get a i hlt
    have hs := sum72 (a.take (i + 1)) (by rw [List.length_take]; omega) (fun x hx => ha x (List.mem_of_mem_take hx))
    have et : (a.take (i + 1)).sum = (a.take i).sum + a.getD i 0 := by
      rw [List.take_succ_eq_append_getElem hlt, List.sum_append, List.getD_eq_getElem?_getD, List.getElem?_eq_getElem hlt]; simp
    have w : IntKind.wrap .i64 (((a.length + 1 + (a.take i).sum : Nat) : Int) + List.getD (ints a) ((i : Int)).toNat 0) = ((a.length + 1 + (a.take (i + 1)).sum : Nat) : Int) := by
      rw [hg, et]; rw [w64] <;> omega
    refine spec_wdForest_L0a_i1 _ _ _ _ _ _ (by omega) (by omega) (by omega) ?_
    rw [w, wrap_succ (by omega)]
    exact k

omit hl ha in
theorem wf1 (n : Nat) (hn : n ≤ 100) : ∀ (m i : Nat), n - i = m → i ≤ n → LoopSC cfg.P 1 (lb P_spec_wdForest 1) (spec_wdForest_L1a (ints a) (n : Int) (i : Int) (txs ((List.replicate i Tr.leaf).map txt))) (.exit 2) (spec_wdForest_L1X1 (ints a) (n : Int) (n : Int) false (txs ((List.replicate n Tr.leaf).map txt))) := by
  intro m
  induction m with
  | zero =>
    intro i hm hi
    have e : i = n := by omega
    subst e
    exact spec_wdForest_L1a_x2 _ _ _ _ (by omega)
  | succ m ih =>
    intro i hm hi
    have k := ih (i + 1) (by omega) (by omega)
    have e : txs ((List.replicate (i + 1) Tr.leaf).map txt) = txs ((List.replicate i Tr.leaf).map txt) ++ [(⟨#[46]⟩ : ByteArray)] := by
      rw [List.replicate_succ', List.map_append]; simp [txs, txt]; rfl
    rw [e, ← wrap_succ (by omega)] at k
    exact spec_wdForest_L1a_i1 _ _ _ _ (by omega) (by
      have : (txs ((List.replicate i Tr.leaf).map txt)).length = i := by simp [txs]
      unfold sizeOK lim; rw [this, List.length_singleton]; omega) k

theorem wf3 (k : Nat) (hk : k < a.length) (R : List Tr) (hR : a.getD k 0 + 1 ≤ R.length) (hRl : R.length ≤ 200) (hRs : sumC R ≤ 200) : ∀ (m j : Nat), a.getD k 0 - j = m → j ≤ a.getD k 0 →
    LoopSC cfg.P 1 (lb P_spec_wdForest 3) (spec_wdForest_L3a (ints a) (txs ((List.replicate k Tr.leaf ++ jn j (.leaf :: R)).map txt)) (k : Int) (j : Int)) (.exit 6)
      (spec_wdForest_L3X1 (ints a) (txs ((List.replicate k Tr.leaf ++ jn (a.getD k 0) (.leaf :: R)).map txt)) (k : Int) ((a.getD k 0 : Nat) : Int) false) := by
  have hlen : List.length (ints a) = a.length := List.length_map ..
  have hg : List.getD (ints a) ((k : Int)).toNat 0 = ((a.getD k 0 : Nat) : Int) := by rw [Int.toNat_natCast]; exact ints_get a k hk
  have hax : a.getD k 0 ≤ 8 := by
    rw [List.getD_eq_getElem?_getD, List.getElem?_eq_getElem hk]; exact ha _ (List.getElem_mem hk)
  intro m
  induction m with
  | zero =>
    intro j hm hj
    have e : j = a.getD k 0 := by omega
    subst e
    exact spec_wdForest_L3a_x2 _ _ _ _ (by omega) (by omega) (by rw [hg]; omega)
  | succ m ih =>
    intro j hm hj
    have kk := ih (j + 1) (by omega) (by omega)
    obtain ⟨t, u, R', e1, e2⟩ := jn_succ j .leaf R (by omega)
    have hsum := jn_sum j .leaf R (by omega)
    rw [e1] at hsum
    have hs2 : sumC (t :: u :: R') = t.c + (u.c + sumC R') := by simp [sumC]
    have h0 : (Tr.leaf).c = 0 := rfl
    have hl1 := jn_len j .leaf R (by omega)
    rw [e1, List.length_cons, List.length_cons] at hl1
    rw [e2] at kk
    rw [e1]
    generalize hT : txs ((List.replicate k Tr.leaf ++ t :: u :: R').map txt) = T
    have eT : T = txs ((List.replicate k Tr.leaf).map txt) ++ bs (txt t) :: bs (txt u) :: txs (R'.map txt) := by rw [← hT]; simp [txs]
    have lk : (txs ((List.replicate k Tr.leaf).map txt)).length = k := by simp [txs]
    have lR : (txs (R'.map txt)).length = R'.length := by simp [txs]
    have lT : T.length = k + (R'.length + 2) := by rw [eT, List.length_append, lk, List.length_cons, List.length_cons, lR]
    have w1 : IntKind.wrap .i64 ((k : Int) + (1 : Int)) = ((k + 1 : Nat) : Int) := wrap_succ (by omega)
    have w2 : IntKind.wrap .i64 ((k : Int) + (2 : Int)) = ((k + 2 : Nat) : Int) := by rw [w64] <;> omega
    have g1 : List.getD T ((k : Int)).toNat (⟨#[]⟩ : ByteArray) = bs (txt t) := by
      rw [Int.toNat_natCast, eT, List.getD_eq_getElem?_getD, List.getElem?_append_right (by omega), lk, Nat.sub_self]; rfl
    have g2 : List.getD T (((k + 1 : Nat) : Int)).toNat (⟨#[]⟩ : ByteArray) = bs (txt u) := by
      rw [Int.toNat_natCast, eT, List.getD_eq_getElem?_getD, List.getElem?_append_right (by omega), lk, show k + 1 - k = 1 by omega]; rfl
    have c1 : cutL T (0 : Int) (k : Int) = txs ((List.replicate k Tr.leaf).map txt) := by
      unfold cutL
      rw [Int.toNat_natCast, eT, List.take_append_of_le_length (by omega), List.take_of_length_le (by omega)]; rfl
    have c2 : cutL T ((k + 2 : Nat) : Int) ((List.length T : Nat) : Int) = txs (R'.map txt) := by
      unfold cutL
      rw [Int.toNat_natCast, Int.toNat_natCast, List.take_length, eT, List.drop_append, lk, show k + 2 - k = 2 by omega, List.drop_of_length_le (by omega)]; rfl
    have eN : txs ((List.replicate k Tr.leaf ++ .node t u :: R').map txt) = (([] ++ txs ((List.replicate k Tr.leaf).map txt)) ++ [bs (txt (.node t u))]) ++ txs (R'.map txt) := by simp [txs]
    rw [eN] at kk
    have ho := trOf_SC t u (by omega) (by omega)
    rw [← wrap_succ (by omega)] at kk
    exact spec_wdForest_L3a_i1 (ints a) T (k : Int) (j : Int) (bs (txt (.node t u))) (by omega) (by omega) (by rw [hg]; omega) (by omega) (by rw [w1]; omega) (by rw [w1]; omega) (by rw [w1, g1, g2]; exact ho) (by omega)
      (by unfold sizeOK lim; rw [c1, lk]; simp; omega) (by unfold sizeOK lim; rw [c1, List.length_append, lk]; simp; omega) (by rw [w2]; omega) (by rw [w2]; omega)
      (by unfold sizeOK lim; rw [w2, c1, c2, List.length_append, List.length_append, lk, lR]; simp; omega) (by rw [w2, c1, c2]; exact kk)

theorem wf2 (P : List Tr) (hP : P.length = a.sum + 1) (hPs : sumC P = 0) : ∀ (k : Nat), k ≤ a.length →
    LoopSC cfg.P 1 (lb P_spec_wdForest 2) (spec_wdForest_L2a (ints a) (txs ((List.replicate k Tr.leaf ++ bldP (a.drop k) P).map txt)) ((k : Int) - 1)) (.exit 4)
      (spec_wdForest_L2X1 (ints a) (txs ((bldP a P).map txt)) (-1) false) := by
  intro k
  induction k with
  | zero =>
    intro hk
    rw [List.drop_zero, List.replicate_zero, List.nil_append]
    exact spec_wdForest_L2a_x2 _ _ _ (by omega)
  | succ k ih =>
    intro hk
    have hlt : k < a.length := by omega
    have kk := ih (by omega)
    have s72 := sum72 a hl ha
    have ed : a.drop k = a.getD k 0 :: a.drop (k + 1) := by
      rw [List.drop_eq_getElem_cons hlt, List.getD_eq_getElem?_getD, List.getElem?_eq_getElem hlt]; rfl
    have es : a.sum = (a.take k).sum + (a.getD k 0 + (a.drop (k + 1)).sum) := by
      conv => lhs; rw [← List.take_append_drop k a, List.sum_append, ed, List.sum_cons]
    have hle : (a.drop (k + 1)).sum ≤ P.length := by omega
    have lR := bld_len (a.drop (k + 1)) P hle
    have sR := bld_sum (a.drop (k + 1)) P hle
    have ld : (a.drop (k + 1)).length = a.length - (k + 1) := List.length_drop
    have l3 := wf3 a hl ha k hlt (bldP (a.drop (k + 1)) P) (by omega) (by omega) (by omega) _ 0 rfl (by omega)
    have e0 : List.replicate k Tr.leaf ++ jn 0 (.leaf :: bldP (a.drop (k + 1)) P) = List.replicate (k + 1) Tr.leaf ++ bldP (a.drop (k + 1)) P := by
      rw [List.replicate_succ', List.append_assoc]; rfl
    rw [e0] at l3
    have e1 : jn (a.getD k 0) (.leaf :: bldP (a.drop (k + 1)) P) = bldP (a.drop k) P := by rw [ed]; rfl
    rw [e1] at l3
    have w : ((k + 1 : Nat) : Int) - 1 = (k : Int) := by omega
    rw [w]
    have w2 : IntKind.wrap .i64 ((k : Int) - (1 : Int)) = (k : Int) - 1 := by rw [w64] <;> omega
    exact spec_wdForest_L2a_i1 _ _ _ _ _ _ _ _ (by omega) l3 (by rw [w2]; exact kk)

theorem wdForest_SC : SC cfg.P i_spec_wdForest [.s (.v (.sl (.int .i64)) (ints a))] (.s (.v (.sl .str) (txs ((bldP a (List.replicate (a.sum + 1) .leaf)).map txt)))) [] := by
  have hlen : List.length (ints a) = a.length := List.length_map ..
  have s72 := sum72 a hl ha
  have k0 := wf0 a hl ha _ 0 rfl (by omega)
  have k1 := wf1 a (a.length + 1 + a.sum) (by omega) _ 0 rfl (by omega)
  have k2 := wf2 a hl ha (List.replicate (a.sum + 1) .leaf) (by rw [List.length_replicate]) (sum_leaves _) a.length (by omega)
  rw [List.drop_length] at k2
  have e2 : List.replicate a.length Tr.leaf ++ bldP [] (List.replicate (a.sum + 1) .leaf) = List.replicate (a.length + 1 + a.sum) .leaf := by
    show List.replicate a.length Tr.leaf ++ List.replicate (a.sum + 1) .leaf = _
    rw [List.replicate_append_replicate]; congr 1; omega
  rw [e2] at k2
  have w : IntKind.wrap .i64 (((List.length (ints a) : Nat) : Int) + (1 : Int)) = ((a.length + 1 + (a.take 0).sum : Nat) : Int) := by
    have t0 : (a.take 0).sum = 0 := by simp
    rw [hlen, t0]; rw [w64] <;> omega
  have w2 : IntKind.wrap .i64 (((List.length (ints a) : Nat) : Int) - (1 : Int)) = (a.length : Int) - 1 := by rw [hlen]; rw [w64] <;> omega
  exact spec_wdForest_p1 _ _ _ _ _ _ _ _ _ _ _ _ _ _ _ _ _ (by rw [w]; exact k0) k1 (by rw [w2]; exact k2)

end

end Go.AI
