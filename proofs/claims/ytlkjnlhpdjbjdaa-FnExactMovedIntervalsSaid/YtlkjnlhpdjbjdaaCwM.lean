/- Contracts: rows of ratios compared, marked and held. -/
import Derived.Test.YtlkjnlhpdjbjdaaCwS
import Derived.Test.YtlkjnlhpdjbjdaaGC
set_option autoImplicit false
set_option maxRecDepth 100000
set_option linter.unusedVariables false
namespace Go.AI
open Go.Proofs

theorem eqRatioS_SC (x : Iv) : SC cfg.P i_laws_eqRatioS [.s (.v (.sl RK) [x.1, x.2]), .s (.v (.sl RK) [x.1, x.2])] (.s (.v .bool true)) [] := by
  have h0 := laws_eqRatio_p3 x.1 x.1 rfl rfl
  have h1 := laws_eqRatio_p3 x.2 x.2 rfl rfl
  have s2 := laws_eqRatioS_L0a_x3 [x.1, x.2] [x.1, x.2] 2 (by show ¬ ((2 : Int) < ((2 : Nat) : Int)); omega)
  have s1 := laws_eqRatioS_L0a_i1 [x.1, x.2] [x.1, x.2] 1 (l2p1 _ _) (by decide) (l2p1 _ _) (l2p1 _ _) h1 s2
  have s0 := laws_eqRatioS_L0a_i1 [x.1, x.2] [x.1, x.2] 0 (l2p0 _ _) (by decide) (l2p0 _ _) (l2p0 _ _) h0 s1
  exact laws_eqRatioS_p3 _ _ _ _ _ _ rfl s0

theorem ivg (l : List Iv) (i : Nat) (h : i < l.length) : List.getD (ivL l) i ([] : List Rt) = [l[i].1, l[i].2] := by
  rw [List.getD_eq_getElem?_getD, List.getElem?_map, List.getElem?_eq_getElem h]; rfl

theorem eqRatioSS_SC (l : List Iv) (hl : l.length ≤ 2 ^ 30) : SC cfg.P i_laws_eqRatioSS [.s (.v (.sl (.sl RK)) (ivL l)), .s (.v (.sl (.sl RK)) (ivL l))] (.s (.v .bool true)) [] := by
  have lL : List.length (ivL l) = l.length := List.length_map ..
  have key : ∀ (m i : Nat), l.length - i = m → i ≤ l.length → LoopSC cfg.P 2 (lb P_laws_eqRatioSS 0) (laws_eqRatioSS_L0a (ivL l) (ivL l) (i : Int)) (.exit 0) (laws_eqRatioSS_L0X2 (ivL l) (ivL l) (l.length : Int) false) := by
    intro m
    induction m with
    | zero =>
      intro i hm hi
      have e : i = l.length := by omega
      subst e
      exact laws_eqRatioSS_L0a_x3 _ _ _ (by rw [lL]; omega)
    | succ m ih =>
      intro i hm hi
      have hlt : i < l.length := by omega
      have hn := ih (i + 1) (by omega) (by omega)
      have e2 : ((i + 1 : Nat) : Int) = IntKind.wrap .i64 ((i : Int) + 1) := by rw [w64 (by omega) (by omega)]; omega
      rw [e2] at hn
      exact laws_eqRatioSS_L0a_i1 _ _ _ (by rw [lL]; omega) (by omega) (by rw [lL]; omega) (by rw [lL]; omega) (by rw [Int.toNat_natCast, ivg l i hlt]; exact eqRatioS_SC _) hn
  exact laws_eqRatioSS_p3 _ _ _ _ _ _ rfl (key l.length 0 rfl (by omega))

theorem wr1 (k : Nat) (h : k ≤ 2 ^ 40) : IntKind.wrap .i64 ((k : Int) + 1) = ((k + 1 : Nat) : Int) := by rw [w64 (by omega) (by omega)]; omega

/-- The marks of a row. -/
def mkR (k : Nat) : Iv := (((k : Int), ((k + 1 : Nat) : Int)), (((k + 2 : Nat) : Int), ((k + 3 : Nat) : Int)))

theorem markRatioS_SC (x : Iv) (k : Nat) (hk : k ≤ 2 ^ 38) : SC cfg.P i_laws_markRatioS [.s (.msl t_impl_Ratio RK [x.1, x.2]), .s (.v (.int .i64) (k : Int))] (.s (.v (.int .i64) ((k + 4 : Nat) : Int))) [.row t_impl_Ratio RK [(mkR k).1, (mkR k).2]] := by
  have e1 := wr1 k (by omega)
  have e2 := wr1 (k + 1) (by omega)
  have e3 := wr1 (k + 2) (by omega)
  have e4 := wr1 (k + 3) (by omega)
  have s2 := laws_markRatioS_L0a_x2 ((k + 4 : Nat) : Int) 2 [(mkR k).1, (mkR k).2] (by show ¬ ((2 : Int) < ((2 : Nat) : Int)); omega)
  have s1 : LoopSC cfg.P 2 (lb P_laws_markRatioS 0) (laws_markRatioS_L0a ((k + 2 : Nat) : Int) 1 [(mkR k).1, x.2]) (.exit 0) (laws_markRatioS_L0X1 ((k + 4 : Nat) : Int) 2 false [(mkR k).1, (mkR k).2]) :=
    laws_markRatioS_L0a_i1 ((k + 2 : Nat) : Int) 1 [(mkR k).1, x.2] (l2p1 _ _) (by decide) (l2p1 _ _) (l2n1 _ _) (l2p1 _ _) (l2n1 _ _) (by
      rw [e3, e4]
      exact s2)
  have s0 : LoopSC cfg.P 2 (lb P_laws_markRatioS 0) (laws_markRatioS_L0a ((k : Nat) : Int) 0 [x.1, x.2]) (.exit 0) (laws_markRatioS_L0X1 ((k + 4 : Nat) : Int) 2 false [(mkR k).1, (mkR k).2]) :=
    laws_markRatioS_L0a_i1 ((k : Nat) : Int) 0 [x.1, x.2] (l2p0 _ _) (by decide) (l2p0 _ _) (l2n0 _ _) (l2p0 _ _) (l2n0 _ _) (by
      rw [e1, e2]
      exact s1)
  exact laws_markRatioS_p1 _ _ _ _ _ _ s0

theorem heldRatioS_SC (k : Nat) (hk : k ≤ 2 ^ 38) : SC cfg.P i_laws_heldRatioS [.s (.v (.sl RK) [(mkR k).1, (mkR k).2]), .s (.v (.int .i64) (k : Int))] (.s (.v (.int .i64) ((k + 4 : Nat) : Int))) [] := by
  have e1 := wr1 k (by omega)
  have e2 := wr1 (k + 1) (by omega)
  have e3 := wr1 (k + 2) (by omega)
  have e4 := wr1 (k + 3) (by omega)
  have s2 := laws_heldRatioS_L0a_x4 [(mkR k).1, (mkR k).2] ((k + 4 : Nat) : Int) 2 (by show ¬ ((2 : Int) < ((2 : Nat) : Int)); omega)
  have s1 : LoopSC cfg.P 2 (lb P_laws_heldRatioS 0) (laws_heldRatioS_L0a [(mkR k).1, (mkR k).2] ((k + 2 : Nat) : Int) 1) (.exit 0) (laws_heldRatioS_L0X2 [(mkR k).1, (mkR k).2] ((k + 4 : Nat) : Int) 2 false) :=
    laws_heldRatioS_L0a_i3 [(mkR k).1, (mkR k).2] ((k + 2 : Nat) : Int) 1 (l2p1 _ _) (by decide) (l2p1 _ _) rfl (by rw [e3]; rfl) (by
      rw [e3, e4]
      exact s2)
  have s0 : LoopSC cfg.P 2 (lb P_laws_heldRatioS 0) (laws_heldRatioS_L0a [(mkR k).1, (mkR k).2] ((k : Nat) : Int) 0) (.exit 0) (laws_heldRatioS_L0X2 [(mkR k).1, (mkR k).2] ((k + 4 : Nat) : Int) 2 false) :=
    laws_heldRatioS_L0a_i3 [(mkR k).1, (mkR k).2] ((k : Nat) : Int) 0 (l2p0 _ _) (by decide) (l2p0 _ _) rfl (by rw [e1]; rfl) (by
      rw [e1, e2]
      exact s1)
  exact laws_heldRatioS_p2 _ _ _ _ _ _ s0

/-- The marks of rows from a number on. -/
def mkRows (k : Nat) : Nat → List Iv
  | 0 => []
  | n + 1 => mkR k :: mkRows (k + 4) n

theorem mkRows_len : ∀ (n k : Nat), (mkRows k n).length = n
  | 0, _ => rfl
  | n + 1, k => by rw [mkRows, List.length_cons, mkRows_len n]

theorem mkRows_get : ∀ (n k i : Nat) (h : i < (mkRows k n).length), (mkRows k n)[i] = mkR (k + 4 * i)
  | 0, _, _, h => by simp [mkRows] at h
  | n + 1, k, 0, _ => rfl
  | n + 1, k, i + 1, h => by
    have := mkRows_get n (k + 4) i (by simpa [mkRows] using h)
    simp only [mkRows, List.getElem_cons_succ]
    rw [this]
    congr 1
    omega

theorem heldRatioSS_SC (n : Nat) (hn : n ≤ 2 ^ 30) : SC cfg.P i_laws_heldRatioSS [.s (.v (.sl (.sl RK)) (ivL (mkRows 1 n))), .s (.v (.int .i64) (1 : Int))] (.s (.v (.int .i64) ((1 + 4 * n : Nat) : Int))) [] := by
  have lL : List.length (ivL (mkRows 1 n)) = n := by rw [List.length_map, mkRows_len]
  have key : ∀ (m i : Nat), n - i = m → i ≤ n → LoopSC cfg.P 2 (lb P_laws_heldRatioSS 0) (laws_heldRatioSS_L0a (ivL (mkRows 1 n)) ((1 + 4 * i : Nat) : Int) (i : Int)) (.exit 0) (laws_heldRatioSS_L0X2 (ivL (mkRows 1 n)) ((1 + 4 * n : Nat) : Int) (n : Int) false) := by
    intro m
    induction m with
    | zero =>
      intro i hm hi
      have e : i = n := by omega
      subst e
      exact laws_heldRatioSS_L0a_x3 _ _ _ (by rw [lL]; omega)
    | succ m ih =>
      intro i hm hi
      have hlt : i < (mkRows 1 n).length := by rw [mkRows_len]; omega
      have hn' := ih (i + 1) (by omega) (by omega)
      have e2 : ((i + 1 : Nat) : Int) = IntKind.wrap .i64 ((i : Int) + 1) := by rw [w64 (by omega) (by omega)]; omega
      have e3 : ((1 + 4 * (i + 1) : Nat) : Int) = ((1 + 4 * i + 4 : Nat) : Int) := by omega
      have hh := heldRatioS_SC (1 + 4 * i) (by omega)
      rw [e2, e3] at hn'
      exact laws_heldRatioSS_L0a_i2 _ _ _ _ (by rw [lL]; omega) (by omega) (by rw [lL]; omega) (by rw [Int.toNat_natCast, ivg _ i hlt, mkRows_get]; exact hh) (by omega) hn'
  exact laws_heldRatioSS_p2 _ _ _ _ _ _ (key n 0 rfl (by omega))

end Go.AI
