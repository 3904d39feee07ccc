/- Contracts: slopes, pieces at places, breaks, fractions at places. -/
import Derived.Test.YtcnmifjicepkhaaDoorGM
import Derived.Test.YtcnmifjicepkhaaDoorCI
import Derived.Test.YtcnmifjicepkhaaDoorCU
set_option autoImplicit false
set_option maxRecDepth 100000
set_option linter.unusedVariables false
namespace Go.AI
open Go.Proofs

abbrev PcK : Kd := .pr (.int .i64) (.pr (.int .i64) (.pr (.int .i64) (.int .i64)))
abbrev pc0 : Pc := ((0 : Int), ((0 : Int), ((0 : Int), (0 : Int))))

theorem getD_zip {α β γ : Type} (g : α → β → γ) (l : List α) (m : List β) (i : Nat) (h1 : i < l.length) (h2 : i < m.length) (a : α) (b : β) (d : γ) :
    List.getD (List.zipWith g l m) i d = g (l.getD i a) (m.getD i b) := by
  simp [List.getD_eq_getElem?_getD, List.getElem?_zipWith, List.getElem?_eq_getElem h1, List.getElem?_eq_getElem h2]

theorem getD_mem {α : Type} {l : List α} {i : Nat} (h : i < l.length) (d : α) : l.getD i d ∈ l := by
  rw [List.getD_eq_getElem?_getD, List.getElem?_eq_getElem h]; exact List.getElem_mem h

theorem getD_mapN {α β : Type} (f : α → β) (l : List α) (i : Nat) (h : i < l.length) (a : α) (d : β) : List.getD (l.map f) i d = f (l.getD i a) := by
  simp [List.getD_eq_getElem?_getD, List.getElem?_map, List.getElem?_eq_getElem h]

theorem zip_range {α β γ : Type} (g : α → β → γ) (l : List α) (m : List β) (h : l.length = m.length) (a : α) (b : β) :
    (List.range' 0 l.length).map (fun i => g (l.getD i a) (m.getD i b)) = List.zipWith g l m := by
  apply List.ext_getElem?
  intro i
  rw [List.getElem?_map, List.getElem?_zipWith]
  by_cases hi : i < l.length
  · rw [List.getElem?_range' (by simpa using hi), List.getElem?_eq_getElem hi, List.getElem?_eq_getElem (by omega : i < m.length)]
    simp [List.getD_eq_getElem?_getD, List.getElem?_eq_getElem hi, List.getElem?_eq_getElem (by omega : i < m.length)]
  · rw [List.getElem?_eq_none (by simp; omega), List.getElem?_eq_none (by omega)]
    rfl

/-- The slope of a leaf that goes from one address to another one. -/
def slF (a b : List UInt8) : Int := (a.length : Int) - (b.length : Int)

def slopesL (t u : Tr) : List Int := List.zipWith slF (adL t []) (adL u [])

theorem slopesL_len (t u : Tr) (e : t.c = u.c) : (slopesL t u).length = t.c + 1 := by
  rw [slopesL, List.length_zipWith, adL_len, adL_len, e, Nat.min_self]

theorem mpSlopes_SC (t u : Tr) (h : t.c ≤ 20) (e : t.c = u.c) :
    SC cfg.P i_spec_mpSlopes [.s (.v (.pr .str .str) (bs (txt t), bs (txt u)))] (.s (.own t_int (.int .i64) (slopesL t u))) [] := by
  have a1 := trAddresses_SC t [] (by omega) (by simp; omega)
  have a2 := trAddresses_SC u [] (by omega) (by simp; omega)
  have l1 := adL_len t []
  have l2 := adL_len u []
  have s1 : List.length (strs' (adL t [])) = (adL t []).length := List.length_map ..
  have s2 : List.length (strs' (adL u [])) = (adL u []).length := List.length_map ..
  have key := loop_up (P := cfg.P) (np := 1) (c := lb P_spec_mpSlopes 0)
    (fun i (cur : List Int) => spec_mpSlopes_L0a ((List.length (strs' (adL t [])) : Nat) : Int) (i : Int) cur (strs' (adL u [])) (strs' (adL t [])))
    (fun cur => spec_mpSlopes_L0X1 ((List.length (strs' (adL t [])) : Nat) : Int) ((List.length (strs' (adL t [])) : Nat) : Int) false cur (strs' (adL u [])) (strs' (adL t [])))
    (fun i cur => cur ++ [slF ((adL t []).getD i []) ((adL u []).getD i [])]) (fun i cur => cur.length ≤ i) (adL t []).length
    (fun i cur hi hI => by
      refine ⟨by simp; omega, fun e st hn => ?_⟩
      have g1 := strs_get (adL t []) i hi
      have g2 := strs_get (adL u []) i (by omega)
      have b1 := (adL_ok h _ (List.getElem_mem hi)).1
      have b2 := (adL_ok (n := 20) (by omega) _ (List.getElem_mem (show i < (adL u []).length by omega))).1
      have d1 : (adL t []).getD i [] = (adL t [])[i] := by rw [List.getD_eq_getElem?_getD, List.getElem?_eq_getElem hi]; rfl
      have d2 : (adL u []).getD i [] = (adL u [])[i] := by rw [List.getD_eq_getElem?_getD, List.getElem?_eq_getElem (by omega)]; rfl
      have ev : IntKind.wrap .i64 ((((List.getD (strs' (adL t [])) ((i : Int)).toNat (⟨#[]⟩ : ByteArray))).size : Int) - (((List.getD (strs' (adL u [])) ((i : Int)).toNat (⟨#[]⟩ : ByteArray))).size : Int)) = slF ((adL t []).getD i []) ((adL u []).getD i []) := by
        rw [g1, g2, bs_size, bs_size, d1, d2, slF, w64] <;> omega
      rw [← wrap_succ (by omega), ← ev] at hn
      exact spec_mpSlopes_L0a_i1 _ _ _ _ _ (by omega) (by omega) (by omega) (by omega) (by omega) (by omega) (sizeOK_one (by omega)) hn)
    (fun cur _ => by rw [← s1]; exact spec_mpSlopes_L0a_x2 _ _ _ _ _ (by omega))
    (adL t []).length 0 [] (by omega) (by simp)
  have hL := key.1
  rw [itr_map (fun i => slF ((adL t []).getD i []) ((adL u []).getD i [])), List.nil_append, zip_range slF _ _ (by omega)] at hL
  exact spec_mpSlopes_p1 _ _ _ _ _ _ _ _ _ a2 a1 hL

theorem lf_bound : ∀ (l : List (Nat × Nat)) (x i : Nat), l ≠ [] → i ≤ lf l x i ∧ lf l x i < i + l.length
  | [], _, _, h => absurd rfl h
  | (s, e) :: r, x, i, _ => by
    simp only [lf, List.length_cons]
    split
    · omega
    · cases r with
      | nil => simp [lf]
      | cons y r' => have := lf_bound (y :: r') x (i + 1) (by simp); simp only [List.length_cons] at this ⊢; omega

theorem leafAt_lt (t : Tr) (x : Nat) : leafAt t x < t.c + 1 := by
  have h := lf_bound ((adL t []).map iv) x 0 (by
    intro e
    have := congrArg List.length e
    simp [adL_len] at this)
  simp only [List.length_map, adL_len, Nat.zero_add] at h
  exact h.2

abbrev piecesL (t u : Tr) : List Pc := List.zipWith pc (adL t []) (adL u [])

theorem slope_SC (a b : List UInt8) (ha : a.length ≤ 2 ^ 30) (hb : b.length ≤ 2 ^ 30) : SC cfg.P i_impl_piece_slope [.s (.v PcK (pc a b))] (.s (.v (.int .i64) (slF a b))) [] := by
  have := impl_piece_slope_p1 (pc a b)
  have e : IntKind.wrap .i64 ((pc a b).2.2.1 - (pc a b).2.2.2) = slF a b := by
    show IntKind.wrap .i64 ((a.length : Int) - (b.length : Int)) = _
    rw [slF, w64] <;> omega
  rw [e] at this
  exact this

/-- The slope at a leaf. -/
def slA (t u : Tr) (k : Nat) : Int := slF ((adL t []).getD k []) ((adL u []).getD k [])

theorem slopesL_get (t u : Tr) (e : t.c = u.c) (k : Nat) (h : k < t.c + 1) : List.getD (slopesL t u) k 0 = slA t u k := by
  have l1 := adL_len t []
  have l2 := adL_len u []
  exact getD_zip slF _ _ k (by omega) (by omega) [] [] 0

theorem piecesL_get (t u : Tr) (e : t.c = u.c) (k : Nat) (h : k < t.c + 1) : List.getD (piecesL t u) k pc0 = pc ((adL t []).getD k []) ((adL u []).getD k []) := by
  have l1 := adL_len t []
  have l2 := adL_len u []
  exact getD_zip pc _ _ k (by omega) (by omega) [] [] pc0

theorem ad_get_len (t : Tr) (k : Nat) (h : k < t.c + 1) : ((adL t []).getD k []).length ≤ t.c :=
  (adL_ok (Nat.le_refl _) _ (getD_mem (by rw [adL_len]; omega) [])).1

theorem slopeAt_SC (t u : Tr) (h : t.c ≤ 20) (e : t.c = u.c) (k : Nat) (hk : k < t.c + 1) : SC cfg.P i_impl_piece_slope [.s (.v PcK (List.getD (piecesL t u) k pc0))] (.s (.v (.int .i64) (slA t u k))) [] := by
  rw [piecesL_get t u e k hk]
  have h1 := ad_get_len t k hk
  have h2 := ad_get_len u k (by omega)
  exact slope_SC _ _ (by omega) (by omega)

end Go.AI
