/- Plain law: both find the same intervals; the reference's contract. -/
import Derived.Test.YtlkjnlhpdjbjdaaCoc
import Derived.Test.YtlkjnlhpdjbjdaaCwC
set_option autoImplicit false
set_option maxRecDepth 100000
set_option linter.unusedVariables false
namespace Go.AI
open Go.Proofs

theorem fixP_facts (f t : List UInt8) (h1 : f.length ≤ 8) (h2 : t.length ≤ 8) (r : Iv) (h : fixP f t = some r) :
    can r.1 ∧ can r.2 ∧ rle (rt (sA f : Int) 256) r.1 ∧ rle r.1 r.2 ∧ rle r.2 (rt (sE f : Int) 256) := by
  have a1 := sE_le f h1
  have cA := can_rt (sA f : Int) 256 (by omega)
  have cE := can_rt (sE f : Int) 256 (by omega)
  have hAE : rle (rt (sA f : Int) 256) (rt (sE f : Int) 256) := by
    rw [rle_iff, rlt_rt _ _ _ _ (by omega) (by omega), decide_eq_false_iff_not]
    omega
  by_cases hz : f.length = t.length
  · have e : fixI f t = ([rt (sA f : Int) 256, rt (sE f : Int) 256], decide (sA f = sA t)) := by unfold fixI; rw [if_pos hz]
    unfold fixP at h
    rw [e] at h
    cases hd : decide (sA f = sA t) <;> rw [hd] at h
    · cases h
    · cases h
      exact ⟨cA, cE, rle_refl _, hAE, rle_refl _⟩
  · obtain ⟨c1, c2, c3, c4⟩ := fx_bd f t h1 h2 hz
    have cN := can_rt (fxN f t) (fxD f t) c3
    cases k1 : rlt (rt (fxN f t) (fxD f t)) (rt (sA f : Int) 256)
    · cases k2 : rlt (rt (sE f : Int) 256) (rt (fxN f t) (fxD f t))
      · have e : fixP f t = some (rt (fxN f t) (fxD f t), rt (fxN f t) (fxD f t)) := by unfold fixP fixI; rw [if_neg hz, k1, k2]; rfl
        rw [e] at h
        cases h
        exact ⟨cN, cN, (rle_iff _ _).2 k1, rle_refl _, (rle_iff _ _).2 k2⟩
      · have e : fixP f t = none := by unfold fixP fixI; rw [if_neg hz, k1, k2]; rfl
        rw [e] at h; cases h
    · have e : fixP f t = none := by unfold fixP fixI; rw [if_neg hz, k1]; rfl
      rw [e] at h; cases h

/-- What has been found lies in front of a place. -/
def front (out : List Iv) (y : Rt) : Prop := ∀ l x, out = l ++ [x] → can x.2 ∧ rle x.2 y

theorem front_mono {out : List Iv} {y z : Rt} (h : front out y) (hy : can y) (hz : can z) (hyz : rle y z) : front out z := fun l x e => by
  obtain ⟨a, b⟩ := h l x e
  exact ⟨a, rle_trans (can_pos a) (can_pos hy) (can_pos hz) b hyz⟩

theorem front_app {l : List Iv} {x : Iv} {y : Rt} (h : can x.2) (h2 : rle x.2 y) : front (l ++ [x]) y := fun l' x' e => by
  have := List.append_inj_right' e rfl
  simp only [List.cons.injEq, and_true] at this
  subst this
  exact ⟨h, h2⟩

theorem mrg_same {out : List Iv} {r : Iv} {y z : Rt} (ho : front out y) (hy : can y) (hz : can z) (c1 : can r.1) (c2 : can r.2) (h1 : rle y r.1) (h2 : rle r.1 r.2) (h3 : rle r.2 z) : mrg out r = mrgS out r ∧ front (mrg out r) z := by
  rcases List.eq_nil_or_concat out with hn | ⟨l, x, hn⟩
  · subst hn
    exact ⟨rfl, front_app (l := []) c2 h3⟩
  · rw [List.concat_eq_append] at hn
    subst hn
    obtain ⟨cx, hx⟩ := ho l x rfl
    rw [mrg_app, mrgS_app]
    have hx1 : rle x.2 r.1 := rle_trans (can_pos cx) (can_pos hy) (can_pos c1) hx h1
    cases k1 : rlt x.2 r.1
    · have e : x.2 = r.1 := can_antisymm cx c1 hx1 ((rle_iff _ _).2 k1)
      rw [if_neg Bool.false_ne_true, if_pos e]
      cases k2 : rlt x.2 r.2
      · have e2 : r.2 = x.2 := can_antisymm c2 cx ((rle_iff _ _).2 k2) (by rw [e]; exact h2)
        rw [if_neg Bool.false_ne_true, e2]
        exact ⟨rfl, front_app (x := x) cx (by rw [← e2]; exact h3)⟩
      · rw [if_pos rfl]
        exact ⟨rfl, front_app (x := (x.1, r.2)) c2 h3⟩
    · have hne : ¬ x.2 = r.1 := fun e => by
        rw [e] at k1
        have := (rle_iff r.1 r.1).1 (rle_refl _)
        rw [this] at k1; cases k1
      rw [if_pos rfl, if_neg hne]
      exact ⟨rfl, front_app c2 h3⟩

theorem fold_same : ∀ (F T : List (List UInt8)) (A b : Nat) (out : List Iv), F.length = T.length → (∀ a ∈ F, a.length ≤ 8) → (∀ a ∈ T, a.length ≤ 8) → tiles (F.map iv) (A * 4294967296) b → front out (rt (A : Int) 256) →
    (F.zip T).foldl stp out = (F.zip T).foldl stpS out
  | [], _, _, _, _, _, _, _, _, _ => rfl
  | f :: F, [], _, _, _, hl, _, _, _, _ => by simp at hl
  | f :: F, t :: T, A, b, out, hl, hF, hT, ht, ho => by
    obtain ⟨h1, h2, h3⟩ := ht
    have fl := hF f (by simp)
    have tl := hT t (by simp)
    have eA : sA f = A := by
      have h1' : plF f 1099511627776 0 = A * 4294967296 := h1
      rw [plF_A f fl] at h1'
      omega
    have h3' : tiles (F.map iv) (sE f * 4294967296) b := by rw [← iv_E f fl]; exact h3
    have a1 := sE_le f fl
    rw [← eA] at ho
    have cA := can_rt (sA f : Int) 256 (by omega)
    have cE := can_rt (sE f : Int) 256 (by omega)
    have hAE : rle (rt (sA f : Int) 256) (rt (sE f : Int) 256) := by
      rw [rle_iff, rlt_rt _ _ _ _ (by omega) (by omega), decide_eq_false_iff_not]
      omega
    rw [List.zip_cons_cons, List.foldl_cons, List.foldl_cons]
    cases hp : fixP f t with
    | none =>
      have e1 : stp out (f, t) = out := by unfold stp; rw [show fixP (f, t).1 (f, t).2 = _ from hp]
      have e2 : stpS out (f, t) = out := by unfold stpS; rw [show fixP (f, t).1 (f, t).2 = _ from hp]
      rw [e1, e2]
      exact fold_same F T (sE f) b out (by simpa using hl) (fun a ha => hF a (by simp [ha])) (fun a ha => hT a (by simp [ha])) h3' (front_mono ho cA cE hAE)
    | some r =>
      obtain ⟨c1, c2, c3, c4, c5⟩ := fixP_facts f t fl tl r hp
      obtain ⟨e0, hfr⟩ := mrg_same ho cA cE c1 c2 c3 c4 c5
      have e1 : stp out (f, t) = mrg out r := by unfold stp; rw [show fixP (f, t).1 (f, t).2 = _ from hp]
      have e2 : stpS out (f, t) = mrg out r := by unfold stpS; rw [show fixP (f, t).1 (f, t).2 = _ from hp, e0]
      rw [e1, e2]
      exact fold_same F T (sE f) b (mrg out r) (by simpa using hl) (fun a ha => hF a (by simp [ha])) (fun a ha => hT a (by simp [ha])) h3' hfr

abbrev PT : Type := Tr × Tr
def fxL (p : PT) : List Iv := FX ((adL p.1 []).zip (adL p.2 []))

theorem adL_8 {t : Tr} (h : t.c ≤ 8) : ∀ a ∈ adL t [], a.length ≤ 8 ∧ bits01 a := fun a ha => by
  have := adL_ok h a ha
  exact this

theorem fx_eq (p : PT) (h1 : p.1.c ≤ 8) (h2 : p.1.c = p.2.c) : ((adL p.1 []).zip (adL p.2 [])).foldl stpS [] = fxL p := by
  have ht := tiles_adL p.1 [] (by simp; omega)
  refine (fold_same (adL p.1 []) (adL p.2 []) 0 _ [] (by rw [adL_len, adL_len, h2]) (fun a ha => (adL_8 h1 a ha).1) (fun a ha => (adL_8 (by omega) a ha).1) (by rw [Nat.zero_mul]; exact ht) (fun l x e => ?_)).symm
  simp at e

theorem obFixed_L (F T : List (List UInt8)) (hl : F.length = T.length) (hF : ∀ a ∈ F, a.length ≤ 8 ∧ bits01 a) (hT : ∀ a ∈ T, a.length ≤ 8 ∧ bits01 a) (h9 : F.length ≤ 9) : ∀ (m i : Nat) (out : List Iv), F.length - i = m → i ≤ F.length → out.length ≤ i →
    LoopSC cfg.P 1 (lb P_spec_obFixed 0) (spec_obFixed_L0a (strs' T) (strs' F) (F.length : Int) (i : Int) (ivL out)) (.exit 0) (spec_obFixed_L0X1 (strs' T) (strs' F) (F.length : Int) (F.length : Int) false (ivL (((F.zip T).drop i).foldl stpS out))) := by
  intro m
  induction m with
  | zero =>
    intro i out hm hi ho
    have e : i = F.length := by omega
    subst e
    rw [List.drop_of_length_le (by rw [List.length_zip]; omega)]
    exact spec_obFixed_L0a_x21 _ _ _ _ _ (by omega)
  | succ m ih =>
    intro i out hm hi ho
    have hlt : i < F.length := by omega
    have hn := ih (i + 1) (stpS out (F[i], T[i])) (by omega) (by omega) (by have := stpS_len out (F[i], T[i]); omega)
    have hd : (F.zip T).drop i = (F[i], T[i]) :: (F.zip T).drop (i + 1) := by
      rw [List.drop_eq_getElem_cons (by rw [List.length_zip]; omega), List.getElem_zip]
    rw [hd, List.foldl_cons]
    exact obFixed_step F T hl hF hT h9 i hlt out ho hn

theorem obFixed_SC (p : PT) (h1 : p.1.c ≤ 8) (h2 : p.1.c = p.2.c) : SC cfg.P i_spec_obFixed [.s (.v (.pr .str .str) (bs (txt p.1), bs (txt p.2)))] (.s (.own t_Simpl_Ratio (.sl RK) (ivL (fxL p)))) [] := by
  have a1 := (trAddresses_SC p.1 [] (by omega) (by simp; omega)).view
  have a2 := (trAddresses_SC p.2 [] (by omega) (by simp; omega)).view
  have hL := obFixed_L (adL p.1 []) (adL p.2 []) (by rw [adL_len, adL_len, h2]) (adL_8 h1) (adL_8 (by omega)) (by rw [adL_len]; omega) _ 0 [] rfl (by omega) (by simp)
  rw [List.drop_zero, fx_eq p h1 h2] at hL
  have e : ((List.length (strs' (adL p.1 [])) : Nat) : Int) = ((adL p.1 []).length : Int) := by rw [List.length_map]
  rw [← e] at hL
  exact spec_obFixed_p1 (bs (txt p.1), bs (txt p.2)) _ _ _ _ _ _ _ _ a2 a1 hL

end Go.AI
