/- Contracts: pieces. -/
import Derived.Test.YtdfllkeekehplaaGK
import Derived.Test.YtdfllkeekehplaaCFa
set_option autoImplicit false
set_option maxRecDepth 100000
set_option linter.unusedVariables false
namespace Go.AI
open Go.Proofs

def plF : List UInt8 → Nat → Nat → Nat
  | [], _, place => place
  | c :: r, part, place => plF r (part / 2) (if c = 49 then place + part / 2 else place)

theorem placeOf_SC (l : List UInt8) (hl : l.length ≤ 2 ^ 20) : SC cfg.P i_impl_placeOf [.s (.v .str (bs l))] (.s (.v (.int .i64) ((plF l 1099511627776 0 : Nat) : Int))) [] := by
  have key : ∀ (m i part place : Nat), l.length - i = m → i ≤ l.length → part ≤ 2 ^ 40 → place + part ≤ 2 ^ 41 →
      ∃ part' : Nat, LoopSC cfg.P 1 (lb P_impl_placeOf 0) (impl_placeOf_L0a (bs l) (place : Int) (part : Int) ((bs l).size : Int) (i : Int)) (.exit 0) (impl_placeOf_L0X1 (bs l) ((plF (l.drop i) part place : Nat) : Int) (part' : Int) ((bs l).size : Int) (l.length : Int) false) := by
    intro m
    induction m with
    | zero =>
      intro i part place hm hi hp hq
      have e : i = l.length := by omega
      subst e
      rw [List.drop_length]
      exact ⟨part, impl_placeOf_L0a_x3 _ _ _ _ _ (by rw [bs_size]; omega)⟩
    | succ m ih =>
      intro i part place hm hi hp hq
      have hlt : i < l.length := by omega
      have hd : l.drop i = l[i] :: l.drop (i + 1) := List.drop_eq_getElem_cons hlt
      have hg : bt (bs l) (i : Int) = (l[i].toNat : Int) := by rw [bs_bt, Int.toNat_natCast, List.getD_eq_getElem?_getD, List.getElem?_eq_getElem hlt]; rfl
      have ew : IntKind.wrap .i64 ((i : Int) + 1) = ((i + 1 : Nat) : Int) := by rw [w64] <;> omega
      have eh : IntKind.wrap .i64 (Int.tdiv (part : Int) 2) = ((part / 2 : Nat) : Int) := by
        have e1 : Int.tdiv (part : Int) 2 = ((part / 2 : Nat) : Int) := by rfl
        rw [e1, w64] <;> omega
      rw [hd]
      simp only [plF]
      by_cases h : l[i] = 49
      · rw [if_pos h]
        obtain ⟨p', hn⟩ := ih (i + 1) (part / 2) (place + part / 2) (by omega) (by omega) (by omega) (by omega)
        have ep : IntKind.wrap .i64 ((place : Int) + ((part / 2 : Nat) : Int)) = ((place + part / 2 : Nat) : Int) := by rw [w64] <;> omega
        rw [← ew, ← ep, ← eh] at hn
        exact ⟨p', impl_placeOf_L0a_i1 _ _ _ _ _ (by rw [bs_size]; omega) (by decide) (by omega) (by rw [bs_size]; omega) (by rw [hg, h]; rfl) hn⟩
      · rw [if_neg h]
        obtain ⟨p', hn⟩ := ih (i + 1) (part / 2) place (by omega) (by omega) (by omega) (by omega)
        rw [← ew, ← eh] at hn
        exact ⟨p', impl_placeOf_L0a_i2 _ _ _ _ _ (by rw [bs_size]; omega) (by decide) (by omega) (by rw [bs_size]; omega) (by rw [hg]; intro e; exact h ((byte_eq _ 49).1 e)) hn⟩
  obtain ⟨p', h⟩ := key l.length 0 1099511627776 0 (by omega) (by omega) (by omega) (by omega)
  exact impl_placeOf_p1 _ _ _ _ _ _ _ h


def pc (f t : List UInt8) : Int × (Int × (Int × Int)) := (((plF f 1099511627776 0 : Nat) : Int), (((plF t 1099511627776 0 : Nat) : Int), ((f.length : Int), (t.length : Int))))

abbrev Pc : Type := Int × (Int × (Int × Int))


theorem pieces_L (f t : List (List UInt8)) (hl : f.length = t.length) (hf : f.length ≤ 2 ^ 30) (hbf : ∀ a ∈ f, a.length ≤ 2 ^ 20) (hbt : ∀ a ∈ t, a.length ≤ 2 ^ 20) : ∀ (m i : Nat) (cur : List Pc), f.length - i = m → i ≤ f.length → cur.length ≤ i →
    LoopSC cfg.P 1 (lb P_impl_pair_pieces 0) (impl_pair_pieces_L0a ((List.length (strs' f) : Nat) : Int) (i : Int) cur (strs' t) (strs' f)) (.exit 0)
      (impl_pair_pieces_L0X1 ((List.length (strs' f) : Nat) : Int) (f.length : Int) false (cur ++ List.zipWith pc (f.drop i) (t.drop i)) (strs' t) (strs' f)) := by
  have hlf : List.length (strs' f) = f.length := List.length_map ..
  have hlt' : List.length (strs' t) = t.length := List.length_map ..
  intro m
  induction m with
  | zero =>
    intro i cur hm hi hc
    have e : i = f.length := by omega
    subst e
    rw [List.drop_length, List.zipWith_nil_left, List.append_nil]
    exact impl_pair_pieces_L0a_x2 _ _ _ _ _ (by rw [hlf]; omega)
  | succ m ih =>
    intro i cur hm hi hc
    have hi1 : i < f.length := by omega
    have hi2 : i < t.length := by omega
    have ew : IntKind.wrap .i64 ((i : Int) + 1) = ((i + 1 : Nat) : Int) := by rw [w64] <;> omega
    have hg1 := strs_get f i hi1
    have hg2 := strs_get t i hi2
    have h1 := placeOf_SC f[i] (hbf _ (List.getElem_mem hi1))
    have h2 := placeOf_SC t[i] (hbt _ (List.getElem_mem hi2))
    rw [← hg1] at h1
    rw [← hg2] at h2
    have hn := ih (i + 1) (cur ++ [pc f[i] t[i]]) (by omega) (by omega) (by simp; omega)
    rw [List.drop_eq_getElem_cons hi1, List.drop_eq_getElem_cons hi2, List.zipWith_cons_cons]
    rw [List.append_assoc, List.singleton_append, ← ew] at hn
    have epc : pc f[i] t[i] = (((plF f[i] 1099511627776 0 : Nat) : Int), (((plF t[i] 1099511627776 0 : Nat) : Int), (((List.getD (strs' f) ((i : Int)).toNat ⟨#[]⟩).size : Int), ((List.getD (strs' t) ((i : Int)).toNat ⟨#[]⟩).size : Int)))) := by
      rw [hg1, hg2]; rfl
    have hz : ∀ x : Pc, sizeOK (List.length cur + List.length ([x] : List Pc)) := fun x => by unfold sizeOK lim; simp; omega
    have e2 : cur ++ [pc f[i] t[i]] = cur ++ [(((plF f[i] 1099511627776 0 : Nat) : Int), (((plF t[i] 1099511627776 0 : Nat) : Int), (((List.getD (strs' f) ((i : Int)).toNat ⟨#[]⟩).size : Int), ((List.getD (strs' t) ((i : Int)).toNat ⟨#[]⟩).size : Int))))] := by rw [epc]
    rw [e2] at hn
    exact impl_pair_pieces_L0a_i1 _ _ _ _ _ _ _ (by rw [hlf]; omega) (by omega) (by rw [hlf]; omega) (by rw [hlf]; omega) h1 (by rw [hlt']; omega) (by rw [hlt']; omega) h2 (hz _) hn

theorem pieces_SC (p : Tr × Tr) (h1 : p.1.c ≤ 2 ^ 19) (h2 : p.1.c = p.2.c) :
    SC cfg.P i_impl_pair_pieces [.s (.v (.pr .tree .tree) p)] (.s (.own t_impl_piece (.pr (.int .i64) (.pr (.int .i64) (.pr (.int .i64) (.int .i64)))) (List.zipWith pc (adL p.1 []) (adL p.2 [])))) [] := by
  have a1 := addresses_SC p.1 [] (by omega) (by simp; omega)
  have a2 := addresses_SC p.2 [] (by omega) (by simp; omega)
  have l1 := adL_len p.1 []
  have l2 := adL_len p.2 []
  have hL := pieces_L (adL p.1 []) (adL p.2 []) (by omega) (by omega) (fun a ha => by have := adL_bound _ _ _ ha; simp at this; omega) (fun a ha => by have := adL_bound _ _ _ ha; simp at this; omega) _ 0 [] rfl (by omega) (by simp)
  rw [List.drop_zero, List.drop_zero, List.nil_append] at hL
  exact impl_pair_pieces_p1 _ _ _ _ _ _ _ _ _ a2 a1 hL

/-! ### Fractions -/


end Go.AI
