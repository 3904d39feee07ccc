/- Plain law: pairs that move nothing in common commute. -/
import Derived.Test.YtnhjfdkogbelaaaJD
import Derived.Test.YtnhjfdkogbelaaaCSm
set_option autoImplicit false
set_option maxRecDepth 100000
set_option linter.unusedVariables false
namespace Go.AI
open Go.Proofs

/-! ### Streams and addresses -/

def apA : List UInt8 → St2 → St2
  | [], s => s
  | c :: l, s => sc (c == 49) (apA l s)

theorem emit_adL : ∀ (t : Tr) (p : List UInt8) (i : Nat), i ≤ t.c → ∃ x : List UInt8, (adL t p)[i]? = some (p ++ x) ∧ ∀ s, emit t i s = apA x s
  | .leaf, p, i, h => by
    have : i = 0 := by simp only [Tr.c] at h; omega
    subst this
    exact ⟨[], by simp [adL], fun s => rfl⟩
  | .node l r, p, i, h => by
    simp only [Tr.c] at h
    have hl := adL_len l (p ++ [48])
    by_cases g : i < l.c + 1
    · obtain ⟨x, h1, h2⟩ := emit_adL l (p ++ [48]) i (by omega)
      refine ⟨48 :: x, ?_, fun s => ?_⟩
      · simp only [adL]
        rw [List.getElem?_append_left (by omega), h1]
        simp
      · rw [emit, if_pos g, h2]
        rfl
    · obtain ⟨x, h1, h2⟩ := emit_adL r (p ++ [49]) (i - (l.c + 1)) (by omega)
      refine ⟨49 :: x, ?_, fun s => ?_⟩
      · simp only [adL]
        rw [List.getElem?_append_right (by omega), hl, h1]
        simp
      · rw [emit, if_neg g, h2]
        rfl

/-- The number of the first letters. -/
def bN : Nat → St2 → Nat
  | 0, _ => 0
  | n + 1, s => (if s 0 = true then 2 ^ n else 0) + bN n (tl s)

theorem bN_lt : ∀ (n : Nat) (s : St2), bN n s < 2 ^ n
  | 0, s => by simp [bN]
  | n + 1, s => by
    have := bN_lt n (tl s)
    rw [bN, Nat.pow_succ]
    split <;> omega

theorem bN_eq : ∀ (n : Nat) (s u : St2), bN n s = bN n u → ∀ k, k < n → s k = u k
  | 0, _, _, _, k, hk => absurd hk (by omega)
  | n + 1, s, u, h, k, hk => by
    have h1 := bN_lt n (tl s)
    have h2 := bN_lt n (tl u)
    simp only [bN] at h
    have e0 : s 0 = u 0 := by
      cases c : s 0 <;> cases d : u 0 <;> simp only [c, d] at h ⊢
      · simp at h; omega
      · simp at h; omega
    rw [e0] at h
    cases k with
    | zero => exact e0
    | succ k => exact bN_eq n (tl s) (tl u) (by omega) k (by omega)

theorem bN_add : ∀ (a j : Nat) (s : St2), ∃ w, w < 2 ^ j ∧ bN (a + j) s = bN a s * 2 ^ j + w
  | 0, j, s => ⟨bN j s, bN_lt j s, by simp [bN]⟩
  | a + 1, j, s => by
    obtain ⟨w, hw, e⟩ := bN_add a j (tl s)
    refine ⟨w, hw, ?_⟩
    rw [show a + 1 + j = (a + j) + 1 by omega, bN, bN, e, Nat.add_mul]
    split
    · rw [Nat.pow_add]; omega
    · omega

/-- The number of an address's letters and more. -/
theorem bN_ap : ∀ (x : List UInt8) (M : Nat) (s : St2), bN (x.length + M) (apA x s) = bn x * 2 ^ M + bN M s
  | [], M, s => by simp [apA, bn]
  | c :: x, M, s => by
    have := bN_ap x M s
    rw [List.length_cons, show x.length + 1 + M = (x.length + M) + 1 by omega, bN]
    have e0 : (apA (c :: x) s) 0 = (c == 49) := rfl
    have e1 : tl (apA (c :: x) s) = apA x s := rfl
    rw [e0, e1, this, bn, Nat.add_mul]
    by_cases h : c = 49
    · rw [if_pos h, if_pos (by simp [h]), Nat.pow_add]; omega
    · rw [if_neg h, if_neg (by simp [h])]; omega

/-! ### What is between two numbers near a word that is moved -/

theorem gap_up (d e a b v M k : Nat) (s u : St2) (hed : e < d) (h8 : d ≤ 8) (hs : bN (d + M) s = a * 2 ^ M + v) (hu : bN (e + M) u = b * 2 ^ M + v) (hk : k < e + M) (hne : s k ≠ u k)
    (n : Int) (D : Nat) (hn : n = 2 ^ (8 - d) * 2 ^ (d - e) * ((a : Int) - b)) (hD : D = 256 * (2 ^ (d - e) - 1))
    (h1 : ((a * 2 ^ M + v : Nat) : Int) * D < n * (2 ^ (d + M) : Nat)) (h2 : n * (2 ^ (d + M) : Nat) < ((a * 2 ^ M + v + 1 : Nat) : Int) * D) : False := by
  obtain ⟨w, hw, ew⟩ := bN_add (e + M) (d - e) s
  rw [show e + M + (d - e) = d + M by omega, hs] at ew
  have hP : 2 ≤ 2 ^ (d - e) := by have := Nat.pow_le_pow_right (n := 2) (by omega) (show 1 ≤ d - e by omega); omega
  have e8 : (2 : Int) ^ (8 - d) * ((2 ^ (d + M) : Nat) : Int) = 256 * ((2 ^ M : Nat) : Int) := by
    have : 2 ^ (8 - d) * 2 ^ (d + M) = 256 * 2 ^ M := by
      rw [← Nat.pow_add, show 8 - d + (d + M) = 8 + M by omega, Nat.pow_add]
    have := congrArg (fun z : Nat => (z : Int)) this
    simpa using this
  have en : n * ((2 ^ (d + M) : Nat) : Int) = 256 * ((2 ^ M : Nat) : Int) * ((2 ^ (d - e) : Nat) : Int) * ((a : Int) - b) := by
    rw [hn]
    have : (2 : Int) ^ (d - e) = ((2 ^ (d - e) : Nat) : Int) := by push_cast; rfl
    rw [this, ← e8]
    ac_rfl
  rw [en, hD] at h1 h2
  generalize 2 ^ (d - e) = P at *
  generalize 2 ^ M = Q at *
  have ed : ((256 * (P - 1) : Nat) : Int) = 256 * ((P : Int) - 1) := by omega
  rw [ed] at h1 h2
  push_cast at h1 h2
  -- all is linear in the products
  have x1 : (Q : Int) * P * ((a : Int) - b) = Q * P * a - Q * P * b := by rw [Int.mul_sub]
  have y1 : ((a : Int) * Q + v) * (256 * ((P : Int) - 1)) = 256 * (Q * P * a + v * P - (a * Q + v)) := by
    have : ((a : Int) * Q + v) * (256 * ((P : Int) - 1)) = 256 * (((a : Int) * Q + v) * (P - 1)) := by ac_rfl
    rw [this, Int.mul_sub, Int.mul_one, Int.add_mul]
    congr 2
    congr 1
    ac_rfl
  have y2 : ((a : Int) * Q + v + 1) * (256 * ((P : Int) - 1)) = 256 * (Q * P * a + v * P + P - (a * Q + v + 1)) := by
    have : ((a : Int) * Q + v + 1) * (256 * ((P : Int) - 1)) = 256 * (((a : Int) * Q + v + 1) * (P - 1)) := by ac_rfl
    rw [this, Int.mul_sub, Int.mul_one, Int.add_mul, Int.add_mul, Int.one_mul]
    congr 2
    congr 2
    ac_rfl
  have z1 : 256 * (Q : Int) * P * ((a : Int) - b) = 256 * (Q * P * a - Q * P * b) := by rw [← x1]; ac_rfl
  rw [z1, y1] at h1
  rw [z1, y2] at h2
  have k1 : ((v : Int) * P + Q * P * b) < a * Q + v := by omega
  have k2 : (a : Int) * Q + v + 1 < v * P + Q * P * b + P := by omega
  have q1 : (v : Int) * P + Q * P * b = ((b * Q + v : Nat) : Int) * P := by
    push_cast
    rw [Int.add_mul]
    have : (Q : Int) * P * b = b * Q * P := by ac_rfl
    omega
  rw [q1] at k1 k2
  have k1' : (b * Q + v) * P < a * Q + v := by have := k1; push_cast at this ⊢; exact_mod_cast this
  have k2' : a * Q + v + 1 < (b * Q + v) * P + P := by exact_mod_cast k2
  have same : bN (e + M) s = b * Q + v := by
    rw [ew] at k1' k2'
    have u1 : bN (e + M) s * P < (b * Q + v + 1) * P := by rw [Nat.add_mul (b * Q + v), Nat.one_mul]; omega
    have u2 : (b * Q + v) * P < (bN (e + M) s + 1) * P := by rw [Nat.add_mul (bN _ _), Nat.one_mul]; omega
    have := Nat.lt_of_mul_lt_mul_right u1
    have := Nat.lt_of_mul_lt_mul_right u2
    omega
  rw [← hu] at same
  exact hne (bN_eq _ _ _ same k hk)

theorem gap_dn (d e a b v M k : Nat) (s u : St2) (hde : d < e) (h8 : e ≤ 8) (hs : bN (d + M) s = a * 2 ^ M + v) (hu : bN (e + M) u = b * 2 ^ M + v) (hk : k < d + M) (hne : s k ≠ u k)
    (n : Int) (D : Nat) (hn : n = 2 ^ (8 - d) * ((b : Int) - a)) (hD : D = 256 * (2 ^ (e - d) - 1))
    (h1 : ((a * 2 ^ M + v : Nat) : Int) * D < n * (2 ^ (d + M) : Nat)) (h2 : n * (2 ^ (d + M) : Nat) < ((a * 2 ^ M + v + 1 : Nat) : Int) * D) : False := by
  obtain ⟨w, hw, ew⟩ := bN_add (d + M) (e - d) u
  rw [show d + M + (e - d) = e + M by omega, hu] at ew
  have hP : 2 ≤ 2 ^ (e - d) := by have := Nat.pow_le_pow_right (n := 2) (by omega) (show 1 ≤ e - d by omega); omega
  have e8 : (2 : Int) ^ (8 - d) * ((2 ^ (d + M) : Nat) : Int) = 256 * ((2 ^ M : Nat) : Int) := by
    have : 2 ^ (8 - d) * 2 ^ (d + M) = 256 * 2 ^ M := by
      rw [← Nat.pow_add, show 8 - d + (d + M) = 8 + M by omega, Nat.pow_add]
    have := congrArg (fun z : Nat => (z : Int)) this
    simpa using this
  have en : n * ((2 ^ (d + M) : Nat) : Int) = 256 * ((2 ^ M : Nat) : Int) * ((b : Int) - a) := by
    rw [hn, ← e8]
    ac_rfl
  rw [en, hD] at h1 h2
  generalize 2 ^ (e - d) = P at *
  generalize 2 ^ M = Q at *
  have ed : ((256 * (P - 1) : Nat) : Int) = 256 * ((P : Int) - 1) := by omega
  rw [ed] at h1 h2
  push_cast at h1 h2
  have z1 : 256 * (Q : Int) * ((b : Int) - a) = 256 * (b * Q - a * Q) := by
    rw [Int.mul_assoc, Int.mul_sub, Int.mul_comm (Q : Int) b, Int.mul_comm (Q : Int) a]
  have y1 : ((a : Int) * Q + v) * (256 * ((P : Int) - 1)) = 256 * (((a : Int) * Q + v) * P - (a * Q + v)) := by
    have : ((a : Int) * Q + v) * (256 * ((P : Int) - 1)) = 256 * (((a : Int) * Q + v) * (P - 1)) := by ac_rfl
    rw [this, Int.mul_sub, Int.mul_one]
  have y2 : ((a : Int) * Q + v + 1) * (256 * ((P : Int) - 1)) = 256 * (((a : Int) * Q + v) * P + P - (a * Q + v + 1)) := by
    have : ((a : Int) * Q + v + 1) * (256 * ((P : Int) - 1)) = 256 * (((a : Int) * Q + v + 1) * (P - 1)) := by ac_rfl
    rw [this, Int.mul_sub, Int.mul_one, Int.add_mul, Int.one_mul]
  rw [z1, y1] at h1
  rw [z1, y2] at h2
  have k1 : ((a : Int) * Q + v) * P < b * Q + v := by omega
  have k2 : (b : Int) * Q + v + 1 < ((a : Int) * Q + v) * P + P := by omega
  have k1' : (a * Q + v) * P < b * Q + v := by exact_mod_cast k1
  have k2' : b * Q + v + 1 < (a * Q + v) * P + P := by exact_mod_cast k2
  have same : bN (d + M) u = a * Q + v := by
    rw [ew] at k1' k2'
    have u1 : bN (d + M) u * P < (a * Q + v + 1) * P := by rw [Nat.add_mul (a * Q + v), Nat.one_mul]; omega
    have u2 : (a * Q + v) * P < (bN (d + M) u + 1) * P := by rw [Nat.add_mul (bN _ _), Nat.one_mul]; omega
    have := Nat.lt_of_mul_lt_mul_right u1
    have := Nat.lt_of_mul_lt_mul_right u2
    omega
  rw [← hs] at same
  exact hne (bN_eq _ _ _ same.symm k hk)

/-! ### A word that is moved has room around it -/

abbrev nX (N : Nat) (s : St2) : Rt := rt (bN N s : Int) (2 ^ N)
abbrev nY (N : Nat) (s : St2) : Rt := rt ((bN N s + 1 : Nat) : Int) (2 ^ N)

theorem two_pos' (N : Nat) : 0 < 2 ^ N := Nat.pow_pos (by omega)

theorem piece_gap (f t : List UInt8) (h1 : f.length ≤ 8) (h2 : t.length ≤ 8) (s' : St2) (k : Nat) (hne : apA f s' k ≠ apA t s' k) (M : Nat) (hM : k < M) :
    gap (nX (f.length + M) (apA f s')) (nY (f.length + M) (apA f s')) (f, t) := by
  intro r hr
  have hs := bN_ap f M s'
  have hu := bN_ap t M s'
  have hp := two_pos' (f.length + M)
  by_cases hz : f.length = t.length
  · exfalso
    rw [fixP_eq f t hz] at hr
    by_cases e : sA f = sA t
    · unfold sA at e
      rw [hz] at e
      have eb := Nat.eq_of_mul_eq_mul_right (two_pos' _) e
      rw [eb, ← hu, hz] at hs
      exact hne (bN_eq _ _ _ hs k (by omega))
    · rw [if_neg e] at hr
      cases hr
  · have hr' := fixP_ne' f t hz r hr
    obtain ⟨_, _, c3, _⟩ := fx_bd f t h1 h2 hz
    subst hr'
    show rle (rt (fxN f t) (fxD f t)) _ ∨ rle _ (rt (fxN f t) (fxD f t))
    rw [rle_iff, rle_iff]
    cases q1 : rlt (nX (f.length + M) (apA f s')) (rt (fxN f t) (fxD f t))
    · exact .inl rfl
    · cases q2 : rlt (rt (fxN f t) (fxD f t)) (nY (f.length + M) (apA f s'))
      · exact .inr rfl
      · exfalso
        rw [rlt_rt _ _ _ _ hp c3, decide_eq_true_eq] at q1
        rw [rlt_rt _ _ _ _ c3 hp, decide_eq_true_eq] at q2
        rw [hs] at q1 q2
        by_cases g : t.length < f.length
        · refine gap_up f.length t.length (bn f) (bn t) (bN M s') M k (apA f s') (apA t s') g h1 hs hu (by omega) hne (fxN f t) (fxD f t) ?_ ?_ q1 q2
          · unfold fxN sA
            rw [if_pos g]
            have e8 : (8 - t.length) = (8 - f.length) + (f.length - t.length) := by omega
            rw [e8, Nat.pow_add]
            push_cast
            rw [Int.mul_sub]
            congr 1 <;> ac_rfl
          · unfold fxD
            rw [if_pos g]
        · have g' : f.length < t.length := by omega
          refine gap_dn f.length t.length (bn f) (bn t) (bN M s') M k (apA f s') (apA t s') g' h2 hs hu (by omega) hne (fxN f t) (fxD f t) ?_ ?_ q1 q2
          · unfold fxN sA
            rw [if_neg g]
            have e8 : (8 - f.length) = (8 - t.length) + (t.length - f.length) := by omega
            rw [e8, Nat.pow_add]
            push_cast
            rw [Int.mul_sub]
            rw [Int.pow_add]
            congr 1 <;> ac_rfl
          · unfold fxD
            rw [if_neg g]

theorem onEnd_apart : ∀ (ps : Pcs) (A B : Nat), onEnd ps A B → ∀ x ∈ ps, ∀ y ∈ ps, x = y ∨ sE x.1 ≤ sA y.1 ∨ sE y.1 ≤ sA x.1
  | [], _, _, _, x, hx, _, _ => by cases hx
  | (f, t) :: r, A, B, h, x, hx, y, hy => by
    obtain ⟨_, _, _, _, h5⟩ := h
    have ge := onEnd_ge r _ _ h5
    rcases List.mem_cons.1 hx with rfl | hx
    · rcases List.mem_cons.1 hy with rfl | hy
      · exact .inl rfl
      · exact .inr (.inl (ge y hy))
    · rcases List.mem_cons.1 hy with rfl | hy
      · exact .inr (.inr (ge x hx))
      · exact onEnd_apart r _ _ h5 x hx y hy

/-- The numbers around lie in the interval of the address. -/
theorem nX_in (f : List UInt8) (h1 : f.length ≤ 8) (s' : St2) (M : Nat) : rle (rt (sA f : Int) 256) (nX (f.length + M) (apA f s')) ∧ rle (nY (f.length + M) (apA f s')) (rt (sE f : Int) 256) := by
  have hs := bN_ap f M s'
  have hv := bN_lt M s'
  have hp := two_pos' (f.length + M)
  rw [rt_A f h1, rt_E f h1, rle_iff, rle_iff, rlt_rt _ _ _ _ hp (two_pos' _), rlt_rt _ _ _ _ (two_pos' _) hp, decide_eq_false_iff_not, decide_eq_false_iff_not, hs, Nat.pow_add]
  generalize 2 ^ M = Q at *
  generalize 2 ^ f.length = R at *
  have e1 : (bn f * Q + bN M s') * R = bn f * (R * Q) + bN M s' * R := by rw [Nat.add_mul]; congr 1; ac_rfl
  have e2 : (bn f * Q + bN M s' + 1) * R ≤ (bn f + 1) * (R * Q) := by
    have : (bn f * Q + bN M s' + 1) ≤ (bn f + 1) * Q := by rw [Nat.add_mul]; omega
    calc (bn f * Q + bN M s' + 1) * R ≤ (bn f + 1) * Q * R := Nat.mul_le_mul_right _ this
      _ = (bn f + 1) * (R * Q) := by ac_rfl
  constructor
  · have : bn f * (R * Q) ≤ (bn f * Q + bN M s') * R := by omega
    have := Int.ofNat_le.2 this
    push_cast at this ⊢
    omega
  · have := Int.ofNat_le.2 e2
    push_cast at this ⊢
    omega

theorem moved_gap (p : PT) (h1 : p.1.c ≤ 8) (h2 : p.1.c = p.2.c) (s : St2) (hm : fOf p s ≠ s) : ∃ N0, ∀ N, N0 ≤ N → ∀ ft ∈ psP p, gap (nX N s) (nY N s) ft := by
  obtain ⟨k, hk⟩ : ∃ k, s k ≠ fOf p s k := by
    by_cases h : ∃ k, s k ≠ fOf p s k
    · exact h
    · exfalso
      apply hm
      funext k
      by_cases e : s k = fOf p s k
      · exact e.symm
      · exact absurd ⟨k, e⟩ h
  have hw := walk_le p.1 s
  obtain ⟨f, f1, f2⟩ := emit_adL p.1 [] (walk p.1 s).1 hw
  obtain ⟨t, t1, t2⟩ := emit_adL p.2 [] (walk p.1 s).1 (by omega)
  rw [List.nil_append] at f1 t1
  have es : s = apA f (walk p.1 s).2 := by rw [← f2]; exact (emit_walk p.1 s).symm
  have et : fOf p s = apA t (walk p.1 s).2 := t2 _
  have lf := (adL_8 h1 f (List.mem_of_getElem? f1)).1
  have lt' := (adL_8 (t := p.2) (by omega) t (List.mem_of_getElem? t1)).1
  have hft : (f, t) ∈ psP p := by
    have : (psP p)[(walk p.1 s).1]? = some (f, t) := by
      rw [List.getElem?_zip_eq_some]
      exact ⟨f1, t1⟩
    exact List.mem_of_getElem? this
  rw [et] at hk
  generalize (walk p.1 s).2 = s' at *
  have hE := onEnd_P p h1 h2
  refine ⟨f.length + (k + 1), fun N hN ft hfm => ?_⟩
  obtain ⟨M, rfl⟩ : ∃ M, N = f.length + M := ⟨N - f.length, by omega⟩
  rw [es]
  rw [es] at hk
  rcases onEnd_apart _ _ _ hE _ hft _ hfm with e | e | e
  · rw [← e]
    exact piece_gap f t lf lt' s' k hk M (by omega)
  · intro r hr
    have hl := onEnd_len _ _ _ hE ft hfm
    obtain ⟨k1, k2, k3, k4, k5⟩ := fixP_facts _ _ hl.1 hl.2 r hr
    right
    have := (nX_in f lf s' M).2
    have pY := rt_pos ((bN (f.length + M) (apA f s') + 1 : Nat) : Int) (2 ^ (f.length + M)) (two_pos' _)
    refine rle_trans pY (rt_pos (sE f : Int) 256 (by omega)) (can_pos k1) this (rle_trans (rt_pos (sE f : Int) 256 (by omega)) (rt_pos (sA ft.1 : Int) 256 (by omega)) (can_pos k1) ?_ k3)
    rw [rle_iff, rlt_rt _ _ _ _ (by omega) (by omega), decide_eq_false_iff_not]
    have e' : sE f ≤ sA ft.1 := e
    omega
  · intro r hr
    have hl := onEnd_len _ _ _ hE ft hfm
    obtain ⟨k1, k2, k3, k4, k5⟩ := fixP_facts _ _ hl.1 hl.2 r hr
    left
    have := (nX_in f lf s' M).1
    have pX := rt_pos (bN (f.length + M) (apA f s') : Int) (2 ^ (f.length + M)) (two_pos' _)
    refine rle_trans (can_pos k2) (rt_pos (sE ft.1 : Int) 256 (by omega)) pX k5 (rle_trans (rt_pos (sE ft.1 : Int) 256 (by omega)) (rt_pos (sA f : Int) 256 (by omega)) pX ?_ this)
    rw [rle_iff, rlt_rt _ _ _ _ (by omega) (by omega), decide_eq_false_iff_not]
    have e' : sE ft.1 ≤ sA f := e
    omega

end Go.AI
