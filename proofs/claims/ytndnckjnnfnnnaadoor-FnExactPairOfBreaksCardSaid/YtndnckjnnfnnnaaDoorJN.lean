/- A part of the road: what it proves stands in its last texts. -/
import Derived.Test.YtndnckjnnfnnnaaDoorJM
import Derived.Test.YtndnckjnnfnnnaaDoorCDr
import Derived.Test.YtndnckjnnfnnnaaDoorJC
section
/- Contracts: both sides say the same of all breaks. -/
set_option autoImplicit false
set_option maxRecDepth 100000
set_option linter.unusedVariables false
namespace Go.AI
open Go.Proofs

abbrev EE : ByteArray × ByteArray := ((⟨#[]⟩ : ByteArray), (⟨#[]⟩ : ByteArray))

theorem pb_of {A B : List (Int × Int)} (hA : A.length ≤ 8) (hB : B.length = A.length) (gA : ∀ x ∈ A, goodF x = true) (gB : ∀ x ∈ B, goodF x = true) (uA : upl (0, 1) A) (uB : upl (0, 1) B) : PB (ends A) (ends B) := by
  have la : (ends A).length = A.length + 2 := by simp
  have lb : (ends B).length = A.length + 2 := by simp [hB]
  refine ⟨fun i hi => ends_good gA i hi, fun i hi => ends_good gB i (by omega), by omega, by omega, fun i h1 h2 => ⟨(upl_idx A (0, 1)).1 uA i h1 h2, (upl_idx B (0, 1)).1 uB i h1 (by show i < (ends B).length; omega)⟩⟩

theorem bntS_last {l : List (Nat × Nat)} {z : Nat × Nat} (h : l.getLast? = some z) : (bntS l).getLast? = some z := by
  cases l with
  | nil => cases h
  | cons p r =>
    cases r with
    | nil => exact h
    | cons q r =>
      have h' : (q :: r).getLast? = some z := by rw [← h, List.getLast?_cons_cons]
      have := bnt_last (q :: r) p z h'
      show (p :: bnt p (q :: r)).getLast? = some z
      cases hb : bnt p (q :: r) with
      | nil => rw [hb] at this; cases this
      | cons a b => rw [hb] at this; rw [List.getLast?_cons_cons]; exact this

/-- The joined parts. -/
theorem joined_RV {A B : List (Int × Int)} (hA : A.length ≤ 8) (hB : B.length = A.length) (h : PB (ends A) (ends B)) {S V : List (Int × Int)} {L : List Int}
    (hm : mrg (ends A) (ends B) ((ends A).length - 1) 1 ([gF (ends A) 0], [gF (ends B) 0], []) = some (S, V, L)) :
    RV S V L ∧ SplitOK S V L ∧ ZS S V = bntS ([(0, 0)] ++ spts A B A.length 0 ++ [(2 ^ 40, 2 ^ 40)]) := by
  have la : (ends A).length = A.length + 2 := by simp
  obtain ⟨z1, z2, z3, z4, z5, z6, z7, z8⟩ := mrg_all h (by omega) S V L hm
  rw [sps_all A B hB] at z1
  have hlen : (ZS S V).length ≤ A.length + 2 := by
    rw [z1]
    have h1 := bnt_len (spts A B A.length 0 ++ [(2 ^ 40, 2 ^ 40)]) (0, 0)
    have h2 : ([(0, 0)] ++ spts A B A.length 0 ++ [(2 ^ 40, 2 ^ 40)]).length = A.length + 2 := by rw [← sps_all A B hB, sps_len, la]
    simp only [List.length_append, List.length_cons, List.length_nil] at h1 h2
    show ((0, 0) :: bnt (0, 0) (spts A B A.length 0 ++ [(2 ^ 40, 2 ^ 40)])).length ≤ _
    rw [List.length_cons]
    omega
  have hzl := z2.len
  have G : GZ (ZS S V) L := by
    refine ⟨z2, z5, by omega, ?_, ?_, fun k hk => ?_⟩
    · rw [z1]; rfl
    · refine gS_last hzl ?_
      rw [z1]
      exact bntS_last List.getLast?_concat
    · rw [ZS_get z3 z4 hk]
      exact ⟨(good_Pw (getD_mem' z6 _ _ (by omega))).2.2, (good_Pw (getD_mem' z7 _ _ (by omega))).2.2⟩
  refine ⟨⟨z3, z4, z6, z7, G⟩, ⟨fun x hx => good_FS (z6 x hx), fun x hx => good_FS (z7 x hx), z3, z4, z5, by omega, fun s hs => ?_, ?_⟩, z1⟩
  · obtain ⟨k, hk, e⟩ := List.getElem_of_mem hs
    have := G.sl hk
    rw [List.getD_eq_getElem?_getD, List.getElem?_eq_getElem hk] at this
    rw [← e]
    exact this
  · have e : gF S 0 = gF (ends A) 0 := z8
    exact e

theorem strs_inj {L M : LL} (h : strs' L = strs' M) : L = M := by
  have : ∀ (L M : LL), strs' L = strs' M → L = M := by
    intro L
    induction L with
    | nil => intro M h; cases M with
      | nil => rfl
      | cons a r => cases h
    | cons a r ih =>
      intro M h
      cases M with
      | nil => cases h
      | cons b s =>
        simp only [List.map_cons, List.cons.injEq] at h
        rw [bs_inj.1 h.1, ih s h.2]
  exact this L M h

theorem okW_iff (L : LL) : okW L = true ↔ ∃ u, L = adL u [] := by
  unfold okW
  rw [decide_eq_true_eq]
  constructor
  · intro h; exact ⟨_, (strs_inj h).symm⟩
  · rintro ⟨u, rfl⟩; rw [fold_put]

theorem twB_iff (L : LL) (hl : L.length ≤ 9) : twB L = true ↔ ∃ u, L = adL u [] := by
  unfold twB
  rw [decide_eq_true hl, Bool.true_and]
  constructor
  · intro h
    obtain ⟨u, hu⟩ := Option.isSome_iff_exists.1 h
    exact ⟨u, (twT_iff L hl u).1 hu⟩
  · rintro ⟨u, hu⟩
    rw [(twT_iff L hl u).2 hu]; rfl

/-- What is cut is reduced. -/
theorem cut_reduced {Z : List (Nat × Nat)} {L : List Int} (hz : GZ Z L) {t u : Tr} {y : LL} (h : CT (accI Z L) [] t y) (hy : y = adL u []) (ht : t.h ≤ 9) : bothL (t, u) = [] := by
  rw [List.eq_nil_iff_forall_not_mem]
  intro k hk
  obtain ⟨k1, k2⟩ := bothL_mem hk
  obtain ⟨q, b0, b1, g0, g1, g2, g3, g4, g5⟩ := h.exposed 0 k k1
  obtain ⟨r, r1, r2⟩ := exL_adL u [] 0 k k2
  rw [← hy] at r1 r2
  rw [g3] at r1
  rw [g4] at r2
  simp only [Option.some.injEq] at r1 r2
  subst r1
  subst r2
  exact halves hz q r (by simp at g5; omega) g0 g1 g2

theorem red_nil (p : Tr × Tr) (h : bothL p = []) : ∀ n, red n p = p
  | 0 => rfl
  | n + 1 => by simp only [red, h]

end Go.AI
end

section
/- Contracts: the program's PairOfBreaks and the reference's say the same. -/
set_option autoImplicit false
set_option maxRecDepth 100000
set_option linter.unusedVariables false
namespace Go.AI
open Go.Proofs

abbrev FrL : Kd := .sl FrK

/-- The program's side, once its list is there. -/
theorem impl_of_made (A B : List (Int × Int)) (hA : A.length ≤ 8) (hB : B.length = A.length) (hg : sgood A B A.length 0 = true) (acc : List UInt8 → Option (List UInt8))
    (hacc : mdOk ([(0, 0)] ++ spts A B A.length 0 ++ [(2 ^ 40, 2 ^ 40)]) (([(0, 0)] ++ spts A B A.length 0 ++ [(2 ^ 40, 2 ^ 40)]).length - 1) 1 = true → SaysOf (bntS ([(0, 0)] ++ spts A B A.length 0 ++ [(2 ^ 40, 2 ^ 40)])) acc ∧ ∀ a b, a.length ≤ 2 ^ 8 → acc a = some b → b.length ≤ 2 ^ 9) :
    ((mdR ([(0, 0)] ++ spts A B A.length 0 ++ [(2 ^ 40, 2 ^ 40)]) acc).2 = false → SC cfg.P i_impl_PairOfBreaks [.s (.v FrL A), .s (.v FrL B)] (.tup [.v (.pr .str .str) EE, .v .bool false]) []) ∧
    (∀ t u : Tr, mdR ([(0, 0)] ++ spts A B A.length 0 ++ [(2 ^ 40, 2 ^ 40)]) acc = ((t, u), true) → t.c ≤ 8 → u.c ≤ 2 ^ 20 → SC cfg.P i_impl_PairOfBreaks [.s (.v FrL A), .s (.v FrL B)] (.tup [.v (.pr .str .str) (bs (txt t), bs (txt u)), .v .bool true]) []) := by
  have gA := (sgood_iff A B A.length 0 (by omega)).1 hg
  obtain ⟨_, k2⟩ := spots_L A B EE hA hB A.length 0 [(0, 0)] (by omega) (by simp)
  have k2 := k2 hg
  have hsl : (spts A B A.length 0).length = A.length := by
    have : ([(0, 0)] ++ spts A B A.length 0 ++ [(2 ^ 40, 2 ^ 40)]).length = (ends A).length := by rw [← sps_all A B hB, sps_len]
    simp at this
    omega
  have hlen : ([(0, 0)] ++ spts A B A.length 0 ++ [(2 ^ 40, 2 ^ 40)]).length = A.length + 2 := by simp [hsl]
  have hbd : ∀ i, i < ([(0, 0)] ++ spts A B A.length 0 ++ [(2 ^ 40, 2 ^ 40)]).length → (gS ([(0, 0)] ++ spts A B A.length 0 ++ [(2 ^ 40, 2 ^ 40)]) i).1 ≤ 2 ^ 40 ∧ (gS ([(0, 0)] ++ spts A B A.length 0 ++ [(2 ^ 40, 2 ^ 40)]) i).2 ≤ 2 ^ 40 := by
    intro i hi
    rw [← sps_all A B hB] at hi ⊢
    rw [sps_len] at hi
    rw [sps_get _ _ _ _ _ hi, Nat.zero_add]
    have g1 : goodF (gF (ends A) i) = true := ends_good (fun x hx => by
      obtain ⟨j, hj, e⟩ := mem_gF hx
      rw [← e]; exact (gA j (by omega) hj).1) i hi
    have g2 : goodF (gF (ends B) i) = true := ends_good (fun x hx => by
      obtain ⟨j, hj, e⟩ := mem_gF hx
      rw [← e]; exact (gA j (by omega) (by omega)).2) i (by simp at hi ⊢; omega)
    exact ⟨(good_Pw g1).2.1, (good_Pw g2).2.1⟩
  have hmade := made_SC ([(0, 0)] ++ spts A B A.length 0 ++ [(2 ^ 40, 2 ^ 40)]) acc hacc (by omega) (by omega) hbd
  have es : spN ([(0, 0)] ++ spts A B A.length 0 ++ [(2 ^ 40, 2 ^ 40)]) = spN ([(0, 0)] ++ spts A B A.length 0) ++ ([((1099511627776 : Int), (1099511627776 : Int))] : List (Int × Int)) := List.map_append ..
  rw [es] at hmade
  have c1 : ¬ (((List.length A : Nat) : Int) > (8 : Int)) := by omega
  have c2 : ((List.length B : Nat) : Int) = ((List.length A : Nat) : Int) := by omega
  have zz : sizeOK (List.length (spN ([(0, 0)] ++ spts A B A.length 0)) + List.length ([((1099511627776 : Int), (1099511627776 : Int))] : List (Int × Int))) := zS _ _ (by simp [hsl]; omega)
  constructor
  · intro hb
    obtain ⟨T, b⟩ : (Tr × Tr) × Bool := mdR ([(0, 0)] ++ spts A B A.length 0 ++ [(2 ^ 40, 2 ^ 40)]) acc
    rw [hb] at hmade
    exact impl_PairOfBreaks_p5 A B _ _ _ _ _ _ _ _ c1 c2 k2 zz hmade
  · intro t u hr ht hu
    rw [hr] at hmade
    have hf : SC cfg.P i_impl_pair_fits [.s (.v (.pr .tree .tree) (t, u))] (.tup [.v (.pr .str .str) (bs (txt t), bs (txt u)), .v .bool true]) [] :=
      impl_pair_fits_p2 (t, u) (t.c : Int) _ (carets_SC t (by omega)) (by omega) (plain_SC (t, u) (by show t.c ≤ 2 ^ 20; omega) hu)
    exact impl_PairOfBreaks_p4 A B _ _ _ _ _ _ _ _ _ _ c1 c2 k2 zz hmade hf

theorem both_breaks (A B : List (Int × Int)) : ∃ (v : ByteArray × ByteArray) (b : Bool), SC cfg.P i_spec_PairOfBreaks [.s (.v FrL A), .s (.v FrL B)] (.tup [.v (.pr .str .str) v, .v .bool b]) [] ∧ SC cfg.P i_impl_PairOfBreaks [.s (.v FrL A), .s (.v FrL B)] (.tup [.v (.pr .str .str) v, .v .bool b]) [] := by
  have RA := mpRising_SC A
  have RB := mpRising_SC B
  by_cases hA : A.length ≤ 8
  · by_cases hB : B.length = A.length
    · cases hg : sgood A B A.length 0 with
      | false =>
        refine ⟨EE, false, ?_, ?_⟩
        · cases h1 : risF A with
          | false => rw [h1] at RA; exact spec_PairOfBreaks_p4 A B RA
          | true =>
            rw [h1] at RA
            cases h2 : risF B with
            | false => rw [h2] at RB; exact spec_PairOfBreaks_p3 A B RA RB
            | true =>
              exfalso
              have g1 := risG_good A none (by unfold risF at h1; rw [Bool.and_eq_true] at h1; exact h1.2)
              have g2 := risG_good B none (by unfold risF at h2; rw [Bool.and_eq_true] at h2; exact h2.2)
              have : sgood A B A.length 0 = true := (sgood_iff A B A.length 0 (by omega)).2 fun j j1 j2 => ⟨getD_mem' g1 _ _ j2, getD_mem' g2 _ _ (by omega)⟩
              rw [hg] at this
              cases this
        · obtain ⟨k1, _⟩ := spots_L A B EE hA hB A.length 0 [(0, 0)] (by omega) (by simp)
          exact impl_PairOfBreaks_p3 A B _ _ (by omega) (by omega) (k1 hg)
      | true =>
        have gAB := (sgood_iff A B A.length 0 (by omega)).1 hg
        have gA : ∀ x ∈ A, goodF x = true := fun x hx => by
          obtain ⟨j, hj, e⟩ := mem_gF hx
          rw [← e]; exact (gAB j (by omega) hj).1
        have gB : ∀ x ∈ B, goodF x = true := fun x hx => by
          obtain ⟨j, hj, e⟩ := mem_gF hx
          rw [← e]; exact (gAB j (by omega) (by omega)).2
        have iA := risF_upl A hA gA
        have iB := risF_upl B (by omega) gB
        have la : (ends A).length = A.length + 2 := by simp
        have lb : (ends B).length = A.length + 2 := by simp [hB]
        have hslen : ([(0, 0)] ++ spts A B A.length 0 ++ [(2 ^ 40, 2 ^ 40)]).length = A.length + 2 := by rw [← sps_all A B hB, sps_len, la]
        by_cases hup : upl (0, 1) A ∧ upl (0, 1) B
        · have h1 := iA.2 hup.1
          have h2 := iB.2 hup.2
          rw [h1] at RA
          rw [h2] at RB
          have hP := pb_of hA hB gA gB hup.1 hup.2
          have eA : SC cfg.P i_spec_mpEnds [.s (.v FrL A)] (.s (.v FrL (ends A))) [] := SC.view (mpEnds_SC A (by omega))
          have eB : SC cfg.P i_spec_mpEnds [.s (.v FrL B)] (.s (.v FrL (ends B))) [] := SC.view (mpEnds_SC B (by omega))
          obtain ⟨m1, m2⟩ := mrg_L (ends A) (ends B) hP.mok EE ((ends A).length - 1) 1 [gF (ends A) 0] [gF (ends B) 0] [] (by omega) (by omega) rfl rfl (by simp)
          have lenAB : ((List.length A : Nat) : Int) = ((List.length B : Nat) : Int) := by omega
          have p0 : (0 : Int) < (List.length (ends A) : Int) := by omega
          have p1 : (0 : Int) < (List.length (ends B) : Int) := by omega
          cases hm : mrg (ends A) (ends B) ((ends A).length - 1) 1 ([gF (ends A) 0], [gF (ends B) 0], []) with
          | none =>
            refine ⟨EE, false, spec_PairOfBreaks_p2 A B _ _ RA RB lenAB (spec_mpPair_p1 A B (ends A) (ends B) _ _ eA eB p0 p1 (m1 hm)), ?_⟩
            have hmd := (md_mrg hP (by omega) ([gF (ends A) 0], [gF (ends B) 0], [])).2 hm
            rw [sps_all A B hB] at hmd
            refine (impl_of_made A B hA hB hg (fun _ => none) (fun c => by rw [hmd] at c; cases c)).1 ?_
            unfold mdR
            rw [if_neg (by rw [hmd]; decide)]
          | some st =>
            obtain ⟨S, V, L⟩ := st
            have m2 := m2 S V L hm
            obtain ⟨hRV, hSp, hZ⟩ := joined_RV hA hB hP hm
            have hmd : mdOk ([(0, 0)] ++ spts A B A.length 0 ++ [(2 ^ 40, 2 ^ 40)]) (([(0, 0)] ++ spts A B A.length 0 ++ [(2 ^ 40, 2 ^ 40)]).length - 1) 1 = true := by
              have := (md_mrg hP (by omega) ([gF (ends A) 0], [gF (ends B) 0], []))
              rw [sps_all A B hB, hm] at this
              cases hq : mdOk ([(0, 0)] ++ spts A B A.length 0 ++ [(2 ^ 40, 2 ^ 40)]) (([(0, 0)] ++ spts A B A.length 0 ++ [(2 ^ 40, 2 ^ 40)]).length - 1) 1 with
              | true => rfl
              | false => have := this.1 hq; cases this
            have I := impl_of_made A B hA hB hg (accI (ZS S V) L) (fun _ => ⟨by rw [← hZ]; exact says hRV.z, fun a b ha hb => accI_len hRV.z a b ha hb⟩)
            obtain ⟨I1, I2⟩ := I
            have hsp := mpSplit_SC S V L hSp 9 [] bits01_nil (by simp)
            have two := fun x y => cut_two hRV.z (fun a ha => accR_eq hRV a ha) 9 [] x y (by simp)
            obtain ⟨q1, q2, q3⟩ := cut_eq (accI (ZS S V) L) 9 [] ([], [])
            have failS : cutR (accR S V L) 9 [] = none → SC cfg.P i_spec_PairOfBreaks [.s (.v FrL A), .s (.v FrL B)] (.tup [.v (.pr .str .str) EE, .v .bool false]) [] := fun hn => by
              rw [hn] at hsp
              exact spec_PairOfBreaks_p2 A B _ _ RA RB lenAB (spec_mpPair_p4 A B (ends A) (ends B) _ _ _ _ _ _ _ _ _ _ eA eB p0 p1 m2 hsp)
            cases hc : cutR (accI (ZS S V) L) 9 [] with
            | none =>
              refine ⟨EE, false, failS ?_, I1 ?_⟩
              · cases hr : cutR (accR S V L) 9 [] with
                | none => rfl
                | some xy =>
                  obtain ⟨x, y⟩ := xy
                  have := ((two x y).1 hr).1
                  rw [hc] at this
                  cases this
              · unfold mdR
                rw [if_pos hmd, if_neg (by rw [q3 hc]; decide)]
            | some xy =>
              obtain ⟨x, y⟩ := xy
              have hx9 := cutR_len _ _ _ _ _ hc
              obtain ⟨t, e1, g1, h9⟩ := cut_tree _ _ _ _ _ hc
              have htc : t.c + 1 = x.length := by rw [e1, adL_len]
              have hcI := q1 x y hc (by show [].length + x.length ≤ 9; simp; omega)
              have hfold : x.foldl putT .leaf = t := by rw [e1, fold_put]
              have okx : okW x = true := (okW_iff x).2 ⟨t, e1⟩
              have hmdR : mdR ([(0, 0)] ++ spts A B A.length 0 ++ [(2 ^ 40, 2 ^ 40)]) (accI (ZS S V) L) = ((t, y.foldl putT .leaf), okW y) := by
                unfold mdR
                rw [if_pos hmd, hcI, if_pos rfl]
                show ((([] ++ x).foldl putT .leaf, ([] ++ y).foldl putT .leaf), okW ([] ++ x) && okW ([] ++ y)) = _
                rw [List.nil_append, List.nil_append, hfold, okx, Bool.true_and]
              by_cases hy : ∃ u, y = adL u []
              · obtain ⟨u, hu⟩ := hy
                have huc : u.c + 1 = y.length := by rw [hu, adL_len]
                have hshort : ∀ b ∈ y, b.length ≤ 8 := fun b hb => by
                  rw [hu] at hb
                  have := adL_bound u [] b hb
                  simp at this
                  omega
                have hr := (two x y).2 ⟨hc, hshort⟩
                rw [hr] at hsp
                have oky : okW y = true := (okW_iff y).2 ⟨u, hu⟩
                have T1 := spTW_SC x (by omega)
                have T2 := spTW_SC y (by omega)
                have tb : twB y = true := (twB_iff y (by omega)).2 ⟨u, hu⟩
                have v1 : twV x = bs (txt t) := by unfold twV; rw [if_pos (by omega), (twT_iff x (by omega) t).2 e1]
                have v2 : twV y = bs (txt u) := by unfold twV; rw [if_pos (by omega), (twT_iff y (by omega) u).2 hu]
                rw [v1] at T1
                rw [v2, tb] at T2
                have hbo := cut_reduced hRV.z g1 hu (by omega)
                have hpr := prReduce_SC (t, u) (by show t.c ≤ 2 ^ 20; omega) (by show u.c ≤ 2 ^ 20; omega)
                rw [red_nil (t, u) hbo] at hpr
                have hfu : y.foldl putT .leaf = u := by rw [hu, fold_put]
                refine ⟨(bs (txt t), bs (txt u)), true, ?_, I2 t u (by rw [hmdR, hfu, oky]) (by omega) (by omega)⟩
                exact spec_PairOfBreaks_p2 A B _ _ RA RB lenAB (spec_mpPair_p2 A B (ends A) (ends B) _ _ _ _ _ _ _ _ _ _ _ _ _ _ eA eB p0 p1 m2 hsp T1 T2 hpr)
              · have oky : okW y = false := by
                  cases ho : okW y with
                  | false => rfl
                  | true => exact absurd ((okW_iff y).1 ho) hy
                refine ⟨EE, false, ?_, I1 (by rw [hmdR]; exact oky)⟩
                by_cases hshort : ∀ b ∈ y, b.length ≤ 8
                · have hr := (two x y).2 ⟨hc, hshort⟩
                  rw [hr] at hsp
                  have T1 := spTW_SC x (by omega)
                  have T2 := spTW_SC y (by omega)
                  have tb : twB y = false := by
                    cases ho : twB y with
                    | false => rfl
                    | true => exact absurd ((twB_iff y (by omega)).1 ho) hy
                  rw [tb] at T2
                  exact spec_PairOfBreaks_p2 A B _ _ RA RB lenAB (spec_mpPair_p3 A B (ends A) (ends B) _ _ _ _ _ _ _ _ _ _ _ _ _ eA eB p0 p1 m2 hsp T1 T2)
                · refine failS ?_
                  cases hr : cutR (accR S V L) 9 [] with
                  | none => rfl
                  | some xy =>
                    obtain ⟨x', y'⟩ := xy
                    have g := (two x' y').1 hr
                    rw [hc] at g
                    simp only [Option.some.injEq, Prod.mk.injEq] at g
                    exact absurd (by rw [g.1.2]; exact g.2) hshort
        · refine ⟨EE, false, ?_, ?_⟩
          · cases h1 : risF A with
            | false => rw [h1] at RA; exact spec_PairOfBreaks_p4 A B RA
            | true =>
              rw [h1] at RA
              cases h2 : risF B with
              | false => rw [h2] at RB; exact spec_PairOfBreaks_p3 A B RA RB
              | true => exact absurd ⟨iA.1 h1, iB.1 h2⟩ hup
          · have hmd : mdOk ([(0, 0)] ++ spts A B A.length 0 ++ [(2 ^ 40, 2 ^ 40)]) (([(0, 0)] ++ spts A B A.length 0 ++ [(2 ^ 40, 2 ^ 40)]).length - 1) 1 = false := by
              cases hq : mdOk ([(0, 0)] ++ spts A B A.length 0 ++ [(2 ^ 40, 2 ^ 40)]) (([(0, 0)] ++ spts A B A.length 0 ++ [(2 ^ 40, 2 ^ 40)]).length - 1) 1 with
              | false => rfl
              | true =>
                exfalso
                apply hup
                have st := mdOk_step _ _ _ hq
                have up : ∀ j, 1 ≤ j → j < A.length + 2 → Up (spt (ends A) (ends B) (j - 1)) (spt (ends A) (ends B) j) := fun j j1 j2 => by
                  have := okSt_up (st j j1 (by omega))
                  rw [← sps_all A B hB, sps_get _ _ _ _ _ (by omega), sps_get _ _ _ _ _ (by omega), Nat.zero_add, Nat.zero_add] at this
                  exact this
                exact ⟨(upl_idx A (0, 1)).2 fun j j1 j2 => (up j j1 (by rw [← la]; exact j2)).1, (upl_idx B (0, 1)).2 fun j j1 j2 => (up j j1 (by rw [← lb]; exact j2)).2⟩
            refine (impl_of_made A B hA hB hg (fun _ => none) (fun c => by rw [hmd] at c; cases c)).1 ?_
            unfold mdR
            rw [if_neg (by rw [hmd]; decide)]
    · refine ⟨EE, false, ?_, impl_PairOfBreaks_p2 A B (by omega) (by omega)⟩
      cases h1 : risF A with
      | false => rw [h1] at RA; exact spec_PairOfBreaks_p4 A B RA
      | true =>
        rw [h1] at RA
        cases h2 : risF B with
        | false => rw [h2] at RB; exact spec_PairOfBreaks_p3 A B RA RB
        | true => rw [h2] at RB; exact spec_PairOfBreaks_p1 A B RA RB (by omega)
  · refine ⟨EE, false, ?_, impl_PairOfBreaks_p1 A B (by omega)⟩
    have h1 : risF A = false := by unfold risF; rw [decide_eq_false hA]; rfl
    rw [h1] at RA
    exact spec_PairOfBreaks_p4 A B RA

end Go.AI
end
