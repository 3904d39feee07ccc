/- Plain: forests of exponents. -/
import Derived.Test.YtdfllkeekehplaaFfq
import Derived.Test.YtdfllkeekehplaaJJ
set_option autoImplicit false
set_option maxRecDepth 100000
set_option linter.unusedVariables false
namespace Go.AI

/-- The exponents of a forest's leaves. -/
def expsL (ts : List Tr) : List Nat := ts.flatMap fun t => clT t 0

theorem exR_hang : ∀ t : Tr, exR t = expsL (hangT t) ++ [0]
  | .leaf => rfl
  | .node l r => by
    rw [exR, exR_hang r, hangT]
    simp [expsL]

theorem woR_zeros : ∀ (n k : Nat), woR (List.replicate n 0) k = []
  | 0, _ => rfl
  | n + 1, k => by rw [List.replicate_succ, woR, woR_zeros n]; rfl

theorem expsL_app (A B : List Tr) : expsL (A ++ B) = expsL A ++ expsL B := List.flatMap_append

theorem expsL_leaves : ∀ n, expsL (List.replicate n .leaf) = List.replicate n 0
  | 0 => rfl
  | n + 1 => by
    have := expsL_leaves n
    rw [List.replicate_succ, List.replicate_succ, ← this]
    rfl

theorem wo_trim (ts : List Tr) : woR (expsL (trim ts)) 0 = woR (expsL ts) 0 := by
  obtain ⟨r, e, hr⟩ := trim_prefix ts
  have er : r = List.replicate r.length .leaf := List.eq_replicate_iff.2 ⟨rfl, fun t ht => by have := hr t ht; cases t <;> simp_all [Tr.isLeaf]⟩
  conv => rhs; rw [e, er, expsL_app, expsL_leaves, woR_append, woR_zeros, List.append_nil]

theorem wo_hang (t : Tr) : woR (exR t) 0 = woR (expsL (trim (hangT t))) 0 := by
  rw [wo_trim, exR_hang, woR_append]
  have := woR_zeros 1 (0 + (expsL (hangT t)).length)
  rw [show List.replicate 1 0 = [0] from rfl] at this
  rw [this, List.append_nil]

/-- Joined n times at its beginning. -/
def jn : Nat → List Tr → List Tr
  | 0, l => l
  | n + 1, t :: u :: r => jn n (.node t u :: r)
  | _ + 1, l => l

/-- The forest of exponents, with enough leaves behind. -/
def bldP : List Nat → List Tr → List Tr
  | [], P => P
  | a :: X, P => jn a (.leaf :: bldP X P)

theorem jn_len : ∀ (n : Nat) (t : Tr) (R : List Tr), n ≤ R.length → (jn n (t :: R)).length = 1 + R.length - n
  | 0, t, R, _ => by rw [jn, List.length_cons]; omega
  | n + 1, t, [], h => by simp at h
  | n + 1, t, u :: R, h => by
    rw [List.length_cons] at h
    rw [jn, jn_len n _ R (by omega), List.length_cons]; omega

theorem jn_app : ∀ (n : Nat) (t : Tr) (R S : List Tr), n ≤ R.length → jn n (t :: (R ++ S)) = jn n (t :: R) ++ S
  | 0, t, R, S, _ => rfl
  | n + 1, t, [], S, h => by simp at h
  | n + 1, t, u :: R, S, h => by
    rw [List.length_cons] at h
    rw [List.cons_append, jn, jn_app n _ R S (by omega), jn]

theorem bld_len : ∀ (X : List Nat) (P : List Tr), X.sum ≤ P.length → (bldP X P).length = X.length + P.length - X.sum
  | [], P, _ => by simp [bldP]
  | a :: X, P, h => by
    rw [List.sum_cons] at h
    have ih := bld_len X P (by omega)
    rw [bldP, jn_len a _ _ (by omega), ih, List.sum_cons, List.length_cons]; omega

theorem bld_app : ∀ (X : List Nat) (P S : List Tr), X.sum ≤ P.length → bldP X (P ++ S) = bldP X P ++ S
  | [], P, S, _ => rfl
  | a :: X, P, S, h => by
    rw [List.sum_cons] at h
    have l := bld_len X P (by omega)
    rw [bldP, bld_app X P S (by omega), jn_app a _ _ _ (by omega), bldP]

/-! ### Exponents -/

theorem exps_jn : ∀ (n : Nat) (t : Tr) (R : List Tr), n ≤ R.length → expsL (jn n (t :: R)) = clT t n ++ expsL R
  | 0, t, R, _ => rfl
  | n + 1, t, [], h => by simp at h
  | n + 1, t, u :: R, h => by
    rw [List.length_cons] at h
    rw [jn, exps_jn n _ R (by omega), clT, List.append_assoc]
    rfl

theorem exps_bld : ∀ (X : List Nat) (P : List Tr), X.sum ≤ P.length → expsL (bldP X P) = X ++ expsL P
  | [], P, _ => rfl
  | a :: X, P, h => by
    rw [List.sum_cons] at h
    have l := bld_len X P (by omega)
    rw [bldP, exps_jn a _ _ (by omega), exps_bld X P (by omega)]
    rfl

/-! ### One more caret -/

theorem gl_app (us : List Tr) : ∀ (A B : List Tr) (n : Nat), gl us (A ++ B) n = gl us A n ++ gl us B (n + offs A 0 A.length)
  | [], B, n => rfl
  | t :: A, B, n => by
    rw [List.cons_append, gl, gl, gl_app us A B, List.cons_append, List.length_cons, offs, offs_cons, List.getD_cons_zero]
    congr 2
    congr 1
    omega

theorem gl_jn (us : List Tr) : ∀ (m : Nat) (t : Tr) (R : List Tr) (n : Nat), m ≤ R.length → gl us (jn m (t :: R)) n = jn m (growT us t n :: gl us R (n + (t.c + 1)))
  | 0, t, R, n, _ => rfl
  | m + 1, t, [], n, h => by simp at h
  | m + 1, t, u :: R, n, h => by
    rw [List.length_cons] at h
    rw [jn, gl_jn us m _ R n (by omega), growT, gl, jn]
    congr 3
    simp only [Tr.c]
    omega

theorem gl_leaves (us : List Tr) : ∀ (k n : Nat), (∀ i, n ≤ i → us.getD i .leaf = .leaf) → gl us (List.replicate k .leaf) n = List.replicate k .leaf
  | 0, n, _ => rfl
  | k + 1, n, h => by
    rw [List.replicate_succ, gl, growT, h n (Nat.le_refl _), gl_leaves us k _ (fun i hi => h i (by omega))]

theorem caret_at (k i : Nat) : (letF k).getD i .leaf = if i = k then .node .leaf .leaf else .leaf := caretAt_at k i

/-- One more caret at the last exponent's leaf. -/
theorem gl_bld (j : Nat) : ∀ (X : List Nat) (N n k : Nat), (X ++ [j]).sum ≤ N → k = n + X.length →
    gl (letF k) (bldP (X ++ [j]) (List.replicate N .leaf)) n = bldP (X ++ [j + 1]) (List.replicate (N + 1) .leaf)
  | [], N, n, k, h, hk => by
    have hk' : k = n := by simpa using hk
    subst hk'
    have hj : j ≤ N := by simpa using h
    show gl (letF k) (jn j (.leaf :: List.replicate N .leaf)) k = jn (j + 1) (.leaf :: List.replicate (N + 1) .leaf)
    rw [gl_jn _ _ _ _ _ (by rw [List.length_replicate]; exact hj), growT, caret_at, if_pos rfl, gl_leaves _ _ _ (fun i hi => by rw [caret_at, if_neg (by simp only [Tr.c] at hi; omega)]), List.replicate_succ, jn]
  | a :: X, N, n, k, h, hk => by
    rw [List.cons_append, List.sum_cons] at h
    rw [List.length_cons] at hk
    have l := bld_len (X ++ [j]) (List.replicate N .leaf) (by rw [List.length_replicate]; omega)
    rw [List.length_replicate, List.length_append, List.length_singleton] at l
    rw [List.cons_append, bldP, gl_jn _ _ _ _ _ (by omega), growT, caret_at, if_neg (by omega), gl_bld j X N _ k (by omega) (by simp only [Tr.c]; omega)]
    rfl

/-- As rows without an end they are alike. -/
def Sim (A B : List Tr) : Prop := ∀ i, A.getD i .leaf = B.getD i .leaf

theorem sim_pad (A : List Tr) (n : Nat) : Sim A (A ++ List.replicate n .leaf) := fun i => (pad_get A n i).symm

theorem Sim.tr {A B C : List Tr} (h : Sim A B) (g : Sim B C) : Sim A C := fun i => (h i).trans (g i)
theorem Sim.sy {A B : List Tr} (h : Sim A B) : Sim B A := fun i => (h i).symm

theorem sim_bld (X : List Nat) (N M : Nat) (h1 : X.sum ≤ N) (h2 : N ≤ M) : Sim (bldP X (List.replicate N .leaf)) (bldP X (List.replicate M .leaf)) := by
  have e : List.replicate M Tr.leaf = List.replicate N .leaf ++ List.replicate (M - N) .leaf := by rw [List.replicate_append_replicate]; congr 1; omega
  rw [e, bld_app _ _ _ (by rw [List.length_replicate]; exact h1)]
  exact sim_pad _ _

/-- A caret stacked. -/
theorem split_sim {f : List Tr} {X : List Nat} {j N : Nat} (hs : (X ++ [j]).sum ≤ N) (h : Sim f (bldP (X ++ [j]) (List.replicate N .leaf))) :
    Sim (stackL f (letF X.length)) (bldP (X ++ [j + 1]) (List.replicate (N + 1) .leaf)) := fun i => by
  have l := bld_len (X ++ [j]) (List.replicate N .leaf) (by rw [List.length_replicate]; exact hs)
  rw [List.length_replicate, List.length_append, List.length_singleton] at l
  have g := gl_bld j X N 0 X.length hs (by omega)
  rw [stackL_get, ← g]
  by_cases hi : i < (bldP (X ++ [j]) (List.replicate N .leaf)).length
  · rw [gl_get _ _ _ _ hi, h i, Nat.zero_add, offS_ext h, offS_offs]
  · rw [getD_far (ts := gl _ _ _) (by rw [gl_len]; omega), h i, getD_far (by omega), growT, caret_at, if_neg]
    have h1 := offS_ge f i
    have h2 : X.length < (bldP (X ++ [j]) (List.replicate N .leaf)).length := by
      have : j ≤ (X ++ [j]).sum := by simp
      omega
    omega

theorem sim_nil : Sim [] (bldP [] (List.replicate 0 .leaf)) := fun i => rfl

/-- The next exponent begins. -/
theorem sim_next {f : List Tr} {X : List Nat} {N : Nat} (hs : X.sum ≤ N) (h : Sim f (bldP X (List.replicate N .leaf))) : Sim f (bldP (X ++ [0]) (List.replicate N .leaf)) := by
  have key : ∀ (Y : List Nat) (P : List Tr), bldP (Y ++ [0]) P = bldP Y (.leaf :: P) := fun Y => by
    induction Y with
    | nil => intro P; rfl
    | cons a Y ih => intro P; rw [List.cons_append, bldP, ih P, bldP]
  rw [key]
  exact h.tr (sim_bld X N (N + 1) hs (by omega))

/-! ### Combs do not reduce a tree further than its leaves at the end -/

theorem exL_comb : ∀ (n k : Nat), exL (combR (n + 1)) k = [k + n]
  | 0, k => rfl
  | n + 1, k => by
    rw [combR, exL_node, if_neg (by simp [combR, Tr.isLeaf]), exL_comb n]
    simp [exL, Tr.c]
    omega

theorem exL_last : ∀ (F : List Tr) (k : Nat), F ≠ [] → trim F = F → k + (combT F).c - 1 ∉ exL (combT F) k
  | [], k, h, _ => absurd rfl h
  | [t], k, _, ht => by
    have hl : t.isLeaf = false := by
      cases e : t.isLeaf with
      | false => rfl
      | true =>
        have : trim [t] = [] := by rw [trim, trim]; simp [e]
        rw [this] at ht
        cases ht
    intro hm
    rw [combT, combT, exL_node, if_neg (by simp [hl])] at hm
    simp only [exL, List.append_nil] at hm
    have := (exL_range t k _ hm).2
    simp only [Tr.c] at this
    omega
  | t :: u :: F, k, _, ht => by
    have ht2 : trim (u :: F) = u :: F := by
      rw [trim] at ht
      cases e : trim (u :: F) with
      | nil => rw [e] at ht; simp only at ht; split at ht <;> simp at ht
      | cons v V => rw [e] at ht; exact (List.cons.inj ht).2
    intro hm
    have e : (combT (t :: u :: F)).c = 1 + t.c + (combT (u :: F)).c := rfl
    have hc : 0 < (combT (u :: F)).c := by rw [combT_c, List.length_cons]; omega
    rw [e] at hm
    rw [combT, exL_node, if_neg (by simp [combT, Tr.isLeaf])] at hm
    rcases List.mem_append.1 hm with g | g
    · have := (exL_range t k _ g).2
      omega
    · refine exL_last (u :: F) (k + t.c + 1) (by simp) ht2 ?_
      rw [show k + t.c + 1 + (combT (u :: F)).c - 1 = k + (1 + t.c + (combT (u :: F)).c) - 1 by omega]
      exact g

theorem both_comb {F : List Tr} (h : trim F = F) : bothL (combT F, combR (combT F).c) = [] := by
  cases hb : bothL (combT F, combR (combT F).c) with
  | nil => rfl
  | cons k ks =>
    exfalso
    have hm : k ∈ bothL (combT F, combR (combT F).c) := by rw [hb]; simp
    obtain ⟨h1, h2⟩ := bothL_mem hm
    simp only at h1 h2
    cases F with
    | nil => simp [combT, exL] at h1
    | cons t F =>
      have hc : 0 < (combT (t :: F)).c := by rw [combT_c, List.length_cons]; omega
      obtain ⟨n, hn⟩ : ∃ n, (combT (t :: F)).c = n + 1 := ⟨(combT (t :: F)).c - 1, by omega⟩
      rw [hn, exL_comb] at h2
      have hk : k = 0 + n := by simpa using h2
      have := exL_last (t :: F) 0 (by simp) h
      rw [hn, show 0 + (n + 1) - 1 = 0 + n by omega, ← hk] at this
      exact this h1

/-- The reduced pair of a tree and the comb. -/
theorem red_comb (t : Tr) : red t.c (t, combR t.c) = (combT (trim (hangT t)), combR (combT (trim (hangT t))).c) := by
  refine red_unique _ _ (red_eqc _ _ (by rw [combR_c])) (by rw [combR_c]) (red_done _ _ (Nat.le_refl _)) (both_comb (trim_trim _)) fun s => ?_
  rw [fOf_red _ _ (by rw [combR_c]), ← foF_hang]
  rfl

theorem exR_combR : ∀ n, exR (combR n) = List.replicate (n + 1) 0
  | 0 => rfl
  | n + 1 => by rw [combR, exR, exR_combR n]; rfl

theorem hang_comb : ∀ ts : List Tr, hangT (combT ts) = ts
  | [] => rfl
  | t :: ts => by rw [combT, hangT, hang_comb ts]

end Go.AI
