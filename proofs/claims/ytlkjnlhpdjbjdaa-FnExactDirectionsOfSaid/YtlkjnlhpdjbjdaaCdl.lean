/- The law of DirectionsOf. -/
import Derived.Test.YtlkjnlhpdjbjdaaCdu
import Derived.Test.YtlkjnlhpdjbjdaaCmv
import Derived.Test.YtlkjnlhpdjbjdaaC8i
import Derived.Test.YtlkjnlhpdjbjdaaCZb
set_option autoImplicit false
set_option maxRecDepth 100000
set_option linter.unusedVariables false
namespace Go.AI
open Go.Proofs

def sm20 (x : Rt) : Prop := -2 ^ 20 ≤ x.1 ∧ x.1 ≤ 2 ^ 20 ∧ 0 < x.2 ∧ x.2 ≤ 2 ^ 20

theorem rt_sm20 (n : Int) (d : Nat) (h1 : -2 ^ 20 ≤ n) (h2 : n ≤ 2 ^ 20) (hd : 0 < d) (hd2 : d ≤ 2 ^ 20) : sm20 (rt n d) := by
  have hg0 := Nat.gcd_pos_of_pos_right n.natAbs hd
  have hg : (0 : Int) < ((Nat.gcd n.natAbs d : Nat) : Int) := by omega
  have b1 := div_le_abs n _ hg
  have b2 := div_le_abs (d : Int) _ hg
  have b3 := rt_pos n d hd
  refine ⟨?_, ?_, b3, ?_⟩
  · show _ ≤ n / _; omega
  · show n / _ ≤ _; omega
  · show (d : Int) / _ ≤ _; omega

theorem fixP_sm20 (f t : List UInt8) (h1 : f.length ≤ 8) (h2 : t.length ≤ 8) (r : Iv) (h : fixP f t = some r) : sm20 r.1 ∧ sm20 r.2 := by
  have a1 := sE_le f h1
  by_cases hz : f.length = t.length
  · rw [fixP_eq f t hz] at h
    split at h
    · cases h
      exact ⟨rt_sm20 _ _ (by omega) (by omega) (by omega) (by omega), rt_sm20 _ _ (by omega) (by omega) (by omega) (by omega)⟩
    · cases h
  · obtain ⟨c1, c2, c3, c4⟩ := fx_bd f t h1 h2 hz
    have := fixP_ne' f t hz r h
    rw [this]
    exact ⟨rt_sm20 _ _ c1 c2 c3 c4, rt_sm20 _ _ c1 c2 c3 c4⟩

theorem sm_mrg {P : Rt → Prop} {l : List Iv} {r : Iv} (h : ∀ x ∈ l, P x.1 ∧ P x.2) (hr : P r.1 ∧ P r.2) : ∀ x ∈ mrg l r, P x.1 ∧ P x.2 := by
  intro y hy
  unfold mrg at hy
  split at hy
  · simp only [List.mem_singleton] at hy; subst hy; exact hr
  · rename_i x hx
    have hxm := h x (List.mem_of_getLast? hx)
    split at hy
    · rcases List.mem_append.1 hy with hy | hy
      · exact h y hy
      · simp only [List.mem_singleton] at hy; subst hy; exact hr
    · split at hy
      · rcases List.mem_append.1 hy with hy | hy
        · exact h y (List.dropLast_subset _ hy)
        · simp only [List.mem_singleton] at hy; subst hy; exact ⟨hxm.1, hr.2⟩
      · exact h y hy

theorem sm_foldl {P : Rt → Prop} : ∀ (ps : Pcs) (out : List Iv), (∀ a ∈ ps, ∀ r, fixP a.1 a.2 = some r → P r.1 ∧ P r.2) → (∀ x ∈ out, P x.1 ∧ P x.2) → ∀ x ∈ ps.foldl stp out, P x.1 ∧ P x.2
  | [], out, _, h => h
  | a :: r, out, hb, h => by
    rw [List.foldl_cons]
    refine sm_foldl r _ (fun x hx => hb x (List.mem_cons_of_mem _ hx)) ?_
    unfold stp
    split
    · exact h
    · rename_i z hz
      exact sm_mrg h (hb a (by simp) z hz)

theorem sm_mvL {P : Rt → Prop} {l : List Iv} (h : ∀ x ∈ l, P x.1 ∧ P x.2) : ∀ x ∈ mvL l, P x.1 ∧ P x.2 := fun a ha => by
  obtain ⟨l1, x, y, l2, e, rfl⟩ := mvL_mem l a ha
  exact ⟨(h x (by rw [e]; simp)).2, (h y (by rw [e]; simp)).1⟩

theorem sm20_mvP (p : PT) (h1 : p.1.c ≤ 8) (h2 : p.1.c = p.2.c) : ∀ a ∈ mvP p, sm20 a.1 ∧ sm20 a.2 :=
  sm_mvL (sm_foldl (psP p) [] (fun a ha r hr => by
    have hl := onEnd_len _ _ _ (onEnd_P p h1 h2) a ha
    exact fixP_sm20 _ _ hl.1 hl.2 r hr) (fun x hx => by cases hx))

/-- The middle. -/
def midR (a : Iv) : Rt := rt (a.1.1 * a.2.2 + a.2.1 * a.1.2) (2 * a.1.2 * a.2.2).toNat

theorem bd20 {a b : Int} (h1 : -2 ^ 20 ≤ a) (h2 : a ≤ 2 ^ 20) (h3 : 0 < b) (h4 : b ≤ 2 ^ 20) : -2 ^ 40 ≤ a * b ∧ a * b ≤ 2 ^ 40 := by
  constructor
  · have e1 : -2 ^ 20 * b ≤ a * b := Int.mul_le_mul_of_nonneg_right h1 (by omega)
    omega
  · have e1 : a * b ≤ 2 ^ 20 * b := Int.mul_le_mul_of_nonneg_right h2 (by omega)
    omega

theorem mid_facts (a : Iv) (h1 : sm20 a.1) (h2 : sm20 a.2) (h : rlt a.1 a.2 = true) : mid41 (midR a) ∧ rlt a.1 (midR a) = true ∧ rlt (midR a) a.2 = true ∧
    SC cfg.P i_impl_ratio [.s (.v (.int .i64) (IntKind.wrap .i64 ((IntKind.wrap .i64 (a.1.1 * a.2.2)) + (IntKind.wrap .i64 (a.2.1 * a.1.2))))), .s (.v (.int .i64) (IntKind.wrap .i64 ((IntKind.wrap .i64 ((2 : Int) * a.1.2)) * a.2.2)))] (.s (.v RK (midR a))) [] := by
  obtain ⟨a1, a2, a3, a4⟩ := h1
  obtain ⟨b1, b2, b3, b4⟩ := h2
  have m1 := bd20 a1 a2 b3 b4
  have m2 := bd20 b1 b2 a3 a4
  have m3 := bd20 (a := a.1.2) (by omega) a4 b3 b4
  have m4 : 0 < a.1.2 * a.2.2 := Int.mul_pos a3 b3
  have e0 : 2 * a.1.2 * a.2.2 = 2 * (a.1.2 * a.2.2) := Int.mul_assoc ..
  have eD : (((2 * a.1.2 * a.2.2).toNat : Nat) : Int) = 2 * (a.1.2 * a.2.2) := by rw [Int.toNat_of_nonneg (by omega)]; omega
  have hD : 0 < (2 * a.1.2 * a.2.2).toNat := by omega
  unfold rlt at h
  have h' := of_decide_eq_true h
  refine ⟨?_, ?_, ?_, ?_⟩
  · unfold midR
    have hg0 := Nat.gcd_pos_of_pos_right (a.1.1 * a.2.2 + a.2.1 * a.1.2).natAbs hD
    have hg : (0 : Int) < ((Nat.gcd (a.1.1 * a.2.2 + a.2.1 * a.1.2).natAbs (2 * a.1.2 * a.2.2).toNat : Nat) : Int) := by omega
    have k1 := div_le_abs (a.1.1 * a.2.2 + a.2.1 * a.1.2) _ hg
    have k2 := div_le_abs (((2 * a.1.2 * a.2.2).toNat : Nat) : Int) _ hg
    have k3 := rt_pos (a.1.1 * a.2.2 + a.2.1 * a.1.2) _ hD
    refine ⟨?_, ?_, k3, ?_⟩
    · show _ ≤ (a.1.1 * a.2.2 + a.2.1 * a.1.2) / _; omega
    · show (a.1.1 * a.2.2 + a.2.1 * a.1.2) / _ ≤ _; omega
    · show (((2 * a.1.2 * a.2.2).toNat : Nat) : Int) / _ ≤ _; omega
  · unfold midR
    rw [rlt_right _ _ hD, eD, decide_eq_true_eq]
    have q : a.1.1 * a.2.2 * a.1.2 < a.2.1 * a.1.2 * a.1.2 := Int.mul_lt_mul_of_pos_right h' a3
    have q1 : a.1.1 * (2 * (a.1.2 * a.2.2)) = 2 * (a.1.1 * a.2.2 * a.1.2) := by ac_rfl
    rw [q1, Int.add_mul]
    omega
  · unfold midR
    rw [rlt_left _ _ hD, eD, decide_eq_true_eq]
    have q : a.1.1 * a.2.2 * a.2.2 < a.2.1 * a.1.2 * a.2.2 := Int.mul_lt_mul_of_pos_right h' b3
    have q1 : a.2.1 * (2 * (a.1.2 * a.2.2)) = 2 * (a.2.1 * a.1.2 * a.2.2) := by ac_rfl
    rw [q1, Int.add_mul]
    omega
  · have := ratio_SC (a.1.1 * a.2.2 + a.2.1 * a.1.2) (2 * a.1.2 * a.2.2).toNat (by omega) (by omega) hD (by omega)
    rw [eD] at this
    rw [w64 (n := a.1.1 * a.2.2) (by omega) (by omega), w64 (n := a.2.1 * a.1.2) (by omega) (by omega), w64 (by omega) (by omega), w64 (n := 2 * a.1.2) (by omega) (by omega), w64 (by omega) (by omega), e0]
    exact this

def sgn (b : Bool) : Int := if b then 1 else -1

def dirsP (p : PT) : List Int := (mvP p).map fun a => sgn (signL (psP p) a.1)

theorem dir_eq (p : PT) (h1 : p.1.c ≤ 8) (h2 : p.1.c = p.2.c) (a : Iv) (ha : a ∈ mvP p) : goesUpL (psP p) (midR a) = signL (psP p) a.1 := by
  obtain ⟨k1, k2, k3, k4, k5⟩ := dir_law p h1 h2 a ha
  obtain ⟨s1, s2⟩ := sm20_mvP p h1 h2 a ha
  obtain ⟨m1, m2, m3, _⟩ := mid_facts a s1 s2 k3
  exact k5 _ m1.2.2.1 m2 m3

theorem implDir_L (p : PT) (h1 : p.1.c ≤ 8) (h2 : p.1.c = p.2.c) : ∀ (m i : Nat) (out : List Int), (mvP p).length - i = m → i ≤ (mvP p).length → out.length = i →
    LoopSC cfg.P 1 (lb P_impl_DirectionsOf 0) (impl_DirectionsOf_L0a ((List.length (ivL (mvP p)) : Nat) : Int) (i : Int) p out (ivL (mvP p))) (.exit 0) (impl_DirectionsOf_L0X1 ((List.length (ivL (mvP p)) : Nat) : Int) ((mvP p).length : Int) false p (out ++ ((mvP p).drop i).map fun a => sgn (signL (psP p) a.1)) (ivL (mvP p))) := by
  have lL : List.length (ivL (mvP p)) = (mvP p).length := List.length_map ..
  have hlen := mvP_len p h1
  intro m
  induction m with
  | zero =>
    intro i out hm hi ho
    have e : i = (mvP p).length := by omega
    subst e
    rw [List.drop_length, List.map_nil, List.append_nil]
    exact impl_DirectionsOf_L0a_x3 _ _ _ _ _ (by rw [lL]; omega)
  | succ m ih =>
    intro i out hm hi ho
    have hlt : i < (mvP p).length := by omega
    have hmem := List.getElem_mem hlt
    have g := iv_getD (mvP p) i hlt
    obtain ⟨k1, k2, k3, k4, k5⟩ := dir_law p h1 h2 _ hmem
    obtain ⟨s1, s2⟩ := sm20_mvP p h1 h2 _ hmem
    obtain ⟨m1, m2, m3, m4⟩ := mid_facts _ s1 s2 k3
    have hgo := goesUp_SC p h1 h2 _ m1
    rw [dir_eq p h1 h2 _ hmem] at hgo
    have hn := ih (i + 1) (out ++ [sgn (signL (psP p) (mvP p)[i].1)]) (by omega) (by omega) (by simp; omega)
    have e2 : ((i + 1 : Nat) : Int) = IntKind.wrap .i64 ((i : Int) + 1) := by rw [w64 (by omega) (by omega)]; omega
    have hd : (mvP p).drop i = (mvP p)[i] :: (mvP p).drop (i + 1) := List.drop_eq_getElem_cons hlt
    rw [hd, List.map_cons]
    rw [e2, List.append_assoc, List.singleton_append] at hn
    have hsz : sizeOK (List.length out + List.length [sgn (signL (psP p) (mvP p)[i].1)]) := by show _ ≤ 2 ^ 40; simp; omega
    cases c : signL (psP p) (mvP p)[i].1
    · rw [c] at hgo hn hsz
      exact impl_DirectionsOf_L0a_i2 _ _ _ _ _ _ (by rw [lL]; omega) (by omega) (by rw [lL]; omega) (by rw [lL]; omega) (by rw [Int.toNat_natCast, g]; exact l2p0 _ _) (by rw [Int.toNat_natCast, g]; exact l2p1 _ _) (by rw [Int.toNat_natCast, g]; exact m4) hgo hsz hn
    · rw [c] at hgo hn hsz
      exact impl_DirectionsOf_L0a_i1 _ _ _ _ _ _ (by rw [lL]; omega) (by omega) (by rw [lL]; omega) (by rw [lL]; omega) (by rw [Int.toNat_natCast, g]; exact l2p0 _ _) (by rw [Int.toNat_natCast, g]; exact l2p1 _ _) (by rw [Int.toNat_natCast, g]; exact m4) hgo hsz hn

def dirV (a b : List UInt8) : List Int := if isPair a b then dirsP (treeOf a, treeOf b) else []

theorem implDir_SC (a b : List UInt8) (ha : a.length ≤ 2 ^ 40) (hb : b.length ≤ 2 ^ 40) :
    SC cfg.P i_impl_DirectionsOf [.s (.v (.pr .str .str) (bs a, bs b))] (.tup [.own t_int (.int .i64) (dirV a b), .v .bool (isPair a b)]) [] := by
  have h := pairOf_SC a b ha hb
  unfold dirV
  cases c : isPair a b
  · rw [c] at h
    exact impl_DirectionsOf_p2 _ _ h
  · rw [c] at h
    obtain ⟨a1, a2, a3, a4, a5⟩ := isPair_trees c
    have hL := implDir_L (treeOf a, treeOf b) a3 a5 _ 0 [] rfl (by omega) rfl
    rw [List.drop_zero, List.nil_append] at hL
    exact impl_DirectionsOf_p1 _ _ _ _ _ _ _ _ _ h (moved_SC (treeOf a, treeOf b) a3 a5) hL

theorem specDir_in (F T : List (List UInt8)) (hl : F.length = T.length) (hF : ∀ a ∈ F, a.length ≤ 8 ∧ bits01 a) (hT : ∀ a ∈ T, a.length ≤ 8 ∧ bits01 a) (h9 : F.length ≤ 9) (a : Iv) (ha : small a.1) (x18 x19 : Int) (xo1 : ByteArray × ByteArray) (xo4 : List Int) (xo17 : List (List Rt)) : ∀ (m i : Nat), F.length - i = m → i ≤ F.length →
    (signL ((F.zip T).drop i) a.1 = true ∧ LoopSC cfg.P 1 (lb P_spec_DirectionsOf 1) (spec_DirectionsOf_L1a [a.1, a.2] (-1 : Int) x18 x19 (F.length : Int) (i : Int) xo1 xo4 xo17 (strs' T) (strs' F)) (.exit 2) (spec_DirectionsOf_L1X1 (1 : Int) x18 x19 xo1 xo4 xo17)) ∨
    (signL ((F.zip T).drop i) a.1 = false ∧ (LoopSC cfg.P 1 (lb P_spec_DirectionsOf 1) (spec_DirectionsOf_L1a [a.1, a.2] (-1 : Int) x18 x19 (F.length : Int) (i : Int) xo1 xo4 xo17 (strs' T) (strs' F)) (.exit 2) (spec_DirectionsOf_L1X2 (-1 : Int) x18 x19 false xo1 xo4 xo17) ∨
      LoopSC cfg.P 1 (lb P_spec_DirectionsOf 1) (spec_DirectionsOf_L1a [a.1, a.2] (-1 : Int) x18 x19 (F.length : Int) (i : Int) xo1 xo4 xo17 (strs' T) (strs' F)) (.exit 2) (spec_DirectionsOf_L1X3 [a.1, a.2] (-1 : Int) x18 x19 (F.length : Int) (F.length : Int) false xo1 xo4 xo17 (strs' T) (strs' F)))) := by
  have lF : List.length (strs' F) = F.length := List.length_map ..
  have lT : List.length (strs' T) = T.length := List.length_map ..
  intro m
  induction m with
  | zero =>
    intro i hm hi
    have e : i = F.length := by omega
    subst e
    rw [List.drop_of_length_le (by rw [List.length_zip]; omega)]
    exact .inr ⟨rfl, .inr (spec_DirectionsOf_L1a_x4 _ _ _ _ _ _ _ _ _ _ _ (by omega))⟩
  | succ m ih =>
    intro i hm hi
    have hlt : i < F.length := by omega
    obtain ⟨fl, fb⟩ := hF F[i] (List.getElem_mem hlt)
    have gF := strs_get F i hlt
    have gT := strs_get T i (by omega)
    have hd : (F.zip T).drop i = (F[i], T[i]) :: (F.zip T).drop (i + 1) := by
      rw [List.drop_eq_getElem_cons (by rw [List.length_zip]; omega), List.getElem_zip]
    rw [hd]
    simp only [signL]
    generalize F[i] = f at *
    generalize T[i] = t at *
    have s5 := mpOf_SC f (by omega) fb
    rw [← gF] at s5
    obtain ⟨n, d, g, ef, e1, e2, hg, hd0, hd2, hn2⟩ := frA_parts f fl
    have s5' : SC cfg.P i_spec_mpOf [.s (.v .str (List.getD (strs' F) ((i : Int)).toNat (⟨#[]⟩ : ByteArray)))] (.s (.v RK ((n : Int), (d : Int)))) [] := by rw [← ef]; exact s5
    have zF : (((List.getD (strs' F) ((i : Int)).toNat (⟨#[]⟩ : ByteArray))).size : Int) = (f.length : Int) := by rw [gF, bs_size]
    have zT : (((List.getD (strs' T) ((i : Int)).toNat (⟨#[]⟩ : ByteArray))).size : Int) = (t.length : Int) := by rw [gT, bs_size]
    have z1 : IntKind.wrap .i64 ((1 : Int) * 2 ^ (min ((((List.getD (strs' F) ((i : Int)).toNat (⟨#[]⟩ : ByteArray))).size : Int)).toNat (IntKind.bits .i64))) = ((2 ^ f.length : Nat) : Int) := by rw [gF, bs_size]; exact shl1_w f.length fl
    have pF := pow_8 f.length fl
    have s8 : SC cfg.P i_spec_obRatio [.s (.v (.int .i64) (IntKind.wrap .i64 ((IntKind.wrap .i64 ((n : Int) * (IntKind.wrap .i64 (Int.tdiv (IntKind.wrap .i64 ((1 : Int) * 2 ^ (min ((((List.getD (strs' F) ((i : Int)).toNat (⟨#[]⟩ : ByteArray))).size : Int)).toNat (IntKind.bits .i64)))) (d : Int))))) + (1 : Int)))), .s (.v (.int .i64) (IntKind.wrap .i64 ((1 : Int) * 2 ^ (min ((((List.getD (strs' F) ((i : Int)).toNat (⟨#[]⟩ : ByteArray))).size : Int)).toNat (IntKind.bits .i64)))))] (.s (.v RK (rt (sE f : Int) 256))) [] := by
      have hbl := bn_lt f
      have := obRatio_SC ((bn f + 1 : Nat) : Int) (2 ^ f.length) (by omega) (by omega) (by omega) (by omega)
      rw [← rt_E f fl] at this
      rw [z1, end_num f fl n d g e1 e2 hd0]
      exact this
    have a1 := sE_le f fl
    have se := rt_small (sE f : Int) 256 (by omega) (by omega) (by omega) (by omega)
    have s10 := obLess_SC a.1 _ ha se
    cases k : rlt a.1 (rt (sE f : Int) 256)
    · rw [k] at s10
      rw [if_neg Bool.false_ne_true]
      have e2 : ((i + 1 : Nat) : Int) = IntKind.wrap .i64 ((i : Int) + 1) := by rw [w64 (by omega) (by omega)]; omega
      have step := fun (e : AEx) (st : St) => spec_DirectionsOf_L1a_i3 [a.1, a.2] (-1 : Int) x18 x19 (F.length : Int) (i : Int) xo1 xo4 xo17 (strs' T) (strs' F) _ _ (by omega) (by omega) (by rw [lF]; omega) (by rw [lF]; omega) s5' (by omega) (by show (d : Int) ≠ 0; omega) s8 (l2p0 _ _) s10 (e := e) (st := st)
      rw [← e2] at step
      rcases ih (i + 1) (by omega) (by omega) with ⟨h0, h⟩ | ⟨h0, h | h⟩
      · exact .inl ⟨h0, step _ _ h⟩
      · exact .inr ⟨h0, .inl (step _ _ h)⟩
      · exact .inr ⟨h0, .inr (step _ _ h)⟩
    · rw [k] at s10
      rw [if_pos rfl]
      by_cases hgt : t.length < f.length
      · exact .inl ⟨decide_eq_true hgt, spec_DirectionsOf_L1a_x1 [a.1, a.2] (-1 : Int) x18 x19 (F.length : Int) (i : Int) xo1 xo4 xo17 (strs' T) (strs' F) _ _ (by omega) (by omega) (by rw [lF]; omega) (by rw [lF]; omega) s5' (by omega) (by show (d : Int) ≠ 0; omega) s8 (l2p0 _ _) s10 (by rw [lT]; omega) (by rw [lT]; omega) (by rw [zF, zT]; omega)⟩
      · exact .inr ⟨decide_eq_false hgt, .inl (spec_DirectionsOf_L1a_x2 [a.1, a.2] (-1 : Int) x18 x19 (F.length : Int) (i : Int) xo1 xo4 xo17 (strs' T) (strs' F) _ _ (by omega) (by omega) (by rw [lF]; omega) (by rw [lF]; omega) s5' (by omega) (by show (d : Int) ≠ 0; omega) s8 (l2p0 _ _) s10 (by rw [lT]; omega) (by rw [lT]; omega) (by rw [zF, zT]; omega))⟩

theorem specDir_L (p : PT) (h1 : p.1.c ≤ 8) (h2 : p.1.c = p.2.c) : ∀ (m i : Nat) (out : List Int), (mvP p).length - i = m → i ≤ (mvP p).length → out.length = i →
    LoopSC cfg.P 1 (lb P_spec_DirectionsOf 0) (spec_DirectionsOf_L0a ((List.length (ivL (mvP p)) : Nat) : Int) (i : Int) (bs (txt p.1), bs (txt p.2)) out (ivL (mvP p))) (.exit 0) (spec_DirectionsOf_L0X1 ((List.length (ivL (mvP p)) : Nat) : Int) ((mvP p).length : Int) false (bs (txt p.1), bs (txt p.2)) (out ++ ((mvP p).drop i).map fun a => sgn (signL (psP p) a.1)) (ivL (mvP p))) := by
  have lL : List.length (ivL (mvP p)) = (mvP p).length := List.length_map ..
  have hlen := mvP_len p h1
  have t1 := trAddresses_SC p.2 [] (by omega) (by simp; omega)
  have t2 := trAddresses_SC p.1 [] (by omega) (by simp; omega)
  have hlz : ((List.length (strs' (adL p.1 [])) : Nat) : Int) = ((adL p.1 []).length : Int) := by rw [List.length_map]
  intro m
  induction m with
  | zero =>
    intro i out hm hi ho
    have e : i = (mvP p).length := by omega
    subst e
    rw [List.drop_length, List.map_nil, List.append_nil]
    exact spec_DirectionsOf_L0a_x4 _ _ _ _ _ (by rw [lL]; omega)
  | succ m ih =>
    intro i out hm hi ho
    have hlt : i < (mvP p).length := by omega
    have hmem := List.getElem_mem hlt
    have g := iv_getD (mvP p) i hlt
    have hsm := (smalls_mvL (smalls_fxL p h1 h2)) _ hmem
    have hn := ih (i + 1) (out ++ [sgn (signL (psP p) (mvP p)[i].1)]) (by omega) (by omega) (by simp; omega)
    have e2 : ((i + 1 : Nat) : Int) = IntKind.wrap .i64 ((i : Int) + 1) := by rw [w64 (by omega) (by omega)]; omega
    have hd : (mvP p).drop i = (mvP p)[i] :: (mvP p).drop (i + 1) := List.drop_eq_getElem_cons hlt
    rw [hd, List.map_cons]
    rw [e2, List.append_assoc, List.singleton_append] at hn
    have hsz : ∀ z : Int, sizeOK (List.length out + List.length [z]) := fun z => by show _ ≤ 2 ^ 40; simp; omega
    have hin := specDir_in (adL p.1 []) (adL p.2 []) (by rw [adL_len, adL_len, h2]) (adL_8 h1) (adL_8 (by omega)) (by rw [adL_len]; omega) (mvP p)[i] hsm.1 ((List.length (ivL (mvP p)) : Nat) : Int) (i : Int) (bs (txt p.1), bs (txt p.2)) out (ivL (mvP p)) _ 0 rfl (by omega)
    rw [List.drop_zero, ← hlz, ← g] at hin
    rcases hin with ⟨c, hL⟩ | ⟨c, hL | hL⟩
    · rw [show signL (psP p) (mvP p)[i].1 = true from c] at hn ⊢
      exact spec_DirectionsOf_L0a_i1 _ _ _ _ _ _ _ _ _ _ _ _ _ (by rw [lL]; omega) (by omega) (by rw [lL]; omega) (by rw [lL]; omega) t1 t2 (by rw [Int.toNat_natCast]; exact hL) (hsz _) hn
    · rw [show signL (psP p) (mvP p)[i].1 = false from c] at hn ⊢
      exact spec_DirectionsOf_L0a_i2 _ _ _ _ _ _ _ _ _ _ _ _ _ _ (by rw [lL]; omega) (by omega) (by rw [lL]; omega) (by rw [lL]; omega) t1 t2 (by rw [Int.toNat_natCast]; exact hL) (hsz _) hn
    · rw [show signL (psP p) (mvP p)[i].1 = false from c] at hn ⊢
      exact spec_DirectionsOf_L0a_i3 _ _ _ _ _ _ _ _ _ _ _ _ _ _ _ _ _ _ _ (by rw [lL]; omega) (by omega) (by rw [lL]; omega) (by rw [lL]; omega) t1 t2 (by rw [Int.toNat_natCast]; exact hL) (hsz _) hn

theorem specDir_SC (a b : List UInt8) (ha : a.length ≤ 2 ^ 40) (hb : b.length ≤ 2 ^ 40) :
    SC cfg.P i_spec_DirectionsOf [.s (.v (.pr .str .str) (bs a, bs b))] (.tup [.own t_int (.int .i64) (dirV a b), .v .bool (isPair a b)]) [] := by
  have h := prGood_SC a b ha hb
  unfold dirV
  cases c : isPair a b
  · rw [c] at h
    exact spec_DirectionsOf_p2 _ h
  · rw [c] at h
    obtain ⟨a1, a2, a3, a4, a5⟩ := isPair_trees c
    have hL := specDir_L (treeOf a, treeOf b) a3 a5 _ 0 [] rfl (by omega) rfl
    have hM := obMoved_SC (treeOf a, treeOf b) a3 a5
    rw [List.drop_zero, List.nil_append] at hL
    simp only [← a1, ← a2] at hL hM
    exact spec_DirectionsOf_p1 _ _ _ _ _ _ _ _ h hM hL

theorem dirV_len (a b : List UInt8) : (dirV a b).length ≤ 2 ^ 30 := by
  unfold dirV
  split
  · rename_i c
    obtain ⟨a1, a2, a3, a4, a5⟩ := isPair_trees c
    unfold dirsP
    rw [List.length_map]
    exact mvP_len _ a3
  · simp

/-- The law of DirectionsOf. -/
theorem law_DI (x y : ByteArray) (h1 : x.size ≤ 2 ^ 63 - 1) (h2 : y.size ≤ 2 ^ 63 - 1) : SC cfg.P i_laws_FnExactDirectionsOf [.s (.v (.pr .str .str) (x, y))] (.s (.v .bool true)) [] := by
  obtain ⟨a, rfl⟩ := bs_ex x
  obtain ⟨b, rfl⟩ := bs_ex y
  rw [bs_size] at h1 h2
  by_cases h : a.length + b.length ≤ 1048576
  · have hs := szPair_in a b h
    have la : a.length ≤ 2 ^ 40 := by omega
    have lb' : b.length ≤ 2 ^ 40 := by omega
    have hl := dirV_len a b
    have e := eqIntS_SC (dirV a b) hl
    have m := markIntS_SC (dirV a b) hl
    have hh := heldIntS_SC (dirV a b).length hl
    exact laws_FnExactDirectionsOf_p2 _ _ _ _ _ _ _ _ _ _ _ _ _ _ _ hs (by omega) (laws_toPair_p1 _) (specDir_SC a b la lb') (laws_toPair_p1 _) (implDir_SC a b la lb') e (by simp) m hh (by omega) rfl (laws_toPair_p1 _) (implDir_SC a b la lb') e (by simp) hh (by omega) rfl
  · exact laws_FnExactDirectionsOf_p1 _ _ (szPair_out a b h1 h2 h) (by omega)

end Go.AI
