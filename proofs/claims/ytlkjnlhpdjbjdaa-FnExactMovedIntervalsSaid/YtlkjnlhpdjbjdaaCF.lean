/- Contracts: addresses of leaves. -/
import Derived.Test.YtlkjnlhpdjbjdaaGF
import Derived.Test.YtlkjnlhpdjbjdaaCT
set_option autoImplicit false
set_option maxRecDepth 100000
set_option linter.unusedVariables false
namespace Go.AI
open Go.Proofs

/-- The addresses of the leaves, behind that of the tree. -/
def adL : Tr → List UInt8 → List (List UInt8)
  | .leaf, p => [p]
  | .node l r, p => adL l (p ++ [48]) ++ adL r (p ++ [49])

abbrev strs' (l : List (List UInt8)) : List ByteArray := l.map bs

theorem adL_len : ∀ (t : Tr) (p : List UInt8), (adL t p).length = t.c + 1
  | .leaf, _ => rfl
  | .node l r, p => by simp only [adL, List.length_append, adL_len l, adL_len r, Tr.c]; omega

theorem zokS (l m : List ByteArray) (h : l.length + m.length ≤ 2 ^ 40) : sizeOK (List.length l + List.length m) := h

theorem addresses_SC : ∀ (t : Tr) (p : List UInt8), t.c ≤ 2 ^ 20 → p.length + t.c ≤ 2 ^ 30 → SC cfg.P i_impl_node_addresses [.s (.v .tree t), .s (.v .str (bs p))] (.s (.own t_string .str (strs' (adL t p)))) []
  | .leaf, p, _, _ => impl_node_addresses_p1 _
  | .node l r, p, h, hp => by
    simp only [Tr.c] at h hp
    have h1 := addresses_SC l (p ++ [48]) (by omega) (by simp; omega)
    have h2 := addresses_SC r (p ++ [49]) (by omega) (by simp; omega)
    have e0 : bs (p ++ [48]) = bs p ++ (⟨#[48]⟩ : ByteArray) := by show _ = bs p ++ bs [48]; rw [bs_append]
    have e1 : bs (p ++ [49]) = bs p ++ (⟨#[49]⟩ : ByteArray) := by show _ = bs p ++ bs [49]; rw [bs_append]
    rw [e0] at h1
    rw [e1] at h2
    have e : strs' (adL (.node l r) p) = strs' (adL l (p ++ [48])) ++ strs' (adL r (p ++ [49])) := by simp [adL]
    rw [e]
    have s0 : ((⟨#[48]⟩ : ByteArray)).size = 1 := rfl
    have s1 : ((⟨#[49]⟩ : ByteArray)).size = 1 := rfl
    exact impl_node_addresses_p2 _ _ _ _ _ (by rw [bs_size, s0]; omega) h1 (by rw [bs_size, s1]; omega) h2 (zokS _ _ (by simp [adL_len]; omega))

theorem trAddresses_SC : ∀ (t : Tr) (p : List UInt8), t.c ≤ 50 → p.length + t.c ≤ 2 ^ 30 → SC cfg.P i_spec_trAddresses [.s (.v .str (bs (txt t))), .s (.v .str (bs p))] (.s (.own t_string .str (strs' (adL t p)))) []
  | .leaf, p, _, _ => spec_trAddresses_p1 _ _ trLeaf_leaf
  | .node l r, p, h, hp => by
    have h' := h
    simp only [Tr.c] at h hp
    have h1 := trAddresses_SC l (p ++ [48]) (by omega) (by simp; omega)
    have h2 := trAddresses_SC r (p ++ [49]) (by omega) (by simp; omega)
    have e0 : bs (p ++ [48]) = bs p ++ (⟨#[48]⟩ : ByteArray) := by show _ = bs p ++ bs [48]; rw [bs_append]
    have e1 : bs (p ++ [49]) = bs p ++ (⟨#[49]⟩ : ByteArray) := by show _ = bs p ++ bs [49]; rw [bs_append]
    rw [e0] at h1
    rw [e1] at h2
    have e : strs' (adL (.node l r) p) = strs' (adL l (p ++ [48])) ++ strs' (adL r (p ++ [49])) := by simp [adL]
    rw [e]
    have s0 : ((⟨#[48]⟩ : ByteArray)).size = 1 := rfl
    have s1 : ((⟨#[49]⟩ : ByteArray)).size = 1 := rfl
    exact spec_trAddresses_p2 _ _ _ _ _ _ (trLeaf_node _ _) (trSides_SC _ _ h') (by rw [bs_size, s0]; omega) h1 (by rw [bs_size, s1]; omega) h2 (zokS _ _ (by simp [adL_len]; omega))

/-- Where the interval of an address begins. -/
def plF : List UInt8 → Nat → Nat → Nat
  | [], _, place => place
  | c :: r, part, place => plF r (part / 2) (if c = 49 then place + part / 2 else place)

theorem placeOf_SC (l : List UInt8) (hl : l.length ≤ 2 ^ 20) : SC cfg.P i_impl_placeOf [.s (.v .str (bs l))] (.s (.v (.int .i64) ((plF l 1099511627776 0 : Nat) : Int))) [] := by
  have key : ∀ (m i part place : Nat), l.length - i = m → i ≤ l.length → part ≤ 2 ^ 40 → place + part ≤ 2 ^ 41 →
      ∃ part' : Nat, LoopSC cfg.P 1 (lb P_impl_placeOf 0) (impl_placeOf_L0a (bs l) (place : Int) (part : Int) ((bs l).size : Int) (i : Int)) (.exit 0) (impl_placeOf_L0X1 (bs l) ((plF (l.drop i) part place : Nat) : Int) (part' : Int) ((bs l).size : Int) (l.length : Int) false) := by
    intro m
    induction m with
    | zero =>
      intro i part place hm hi hp hq
      have e : i = l.length := by omega
      subst e
      rw [List.drop_length]
      exact ⟨part, impl_placeOf_L0a_x3 _ _ _ _ _ (by rw [bs_size]; omega)⟩
    | succ m ih =>
      intro i part place hm hi hp hq
      have hlt : i < l.length := by omega
      have hd : l.drop i = l[i] :: l.drop (i + 1) := List.drop_eq_getElem_cons hlt
      have hg : bt (bs l) (i : Int) = (l[i].toNat : Int) := by rw [bs_bt, Int.toNat_natCast, List.getD_eq_getElem?_getD, List.getElem?_eq_getElem hlt]; rfl
      have ew : IntKind.wrap .i64 ((i : Int) + 1) = ((i + 1 : Nat) : Int) := by rw [w64] <;> omega
      have eh : IntKind.wrap .i64 (Int.tdiv (part : Int) 2) = ((part / 2 : Nat) : Int) := by
        have e1 : Int.tdiv (part : Int) 2 = ((part / 2 : Nat) : Int) := by rfl
        rw [e1, w64] <;> omega
      rw [hd]
      simp only [plF]
      by_cases h : l[i] = 49
      · rw [if_pos h]
        obtain ⟨p', hn⟩ := ih (i + 1) (part / 2) (place + part / 2) (by omega) (by omega) (by omega) (by omega)
        have ep : IntKind.wrap .i64 ((place : Int) + ((part / 2 : Nat) : Int)) = ((place + part / 2 : Nat) : Int) := by rw [w64] <;> omega
        rw [← ew, ← ep, ← eh] at hn
        exact ⟨p', impl_placeOf_L0a_i1 _ _ _ _ _ (by rw [bs_size]; omega) (by decide) (by omega) (by rw [bs_size]; omega) (by rw [hg, h]; rfl) hn⟩
      · rw [if_neg h]
        obtain ⟨p', hn⟩ := ih (i + 1) (part / 2) place (by omega) (by omega) (by omega) (by omega)
        rw [← ew, ← eh] at hn
        exact ⟨p', impl_placeOf_L0a_i2 _ _ _ _ _ (by rw [bs_size]; omega) (by decide) (by omega) (by rw [bs_size]; omega) (by rw [hg]; intro e; exact h ((byte_eq _ 49).1 e)) hn⟩
  obtain ⟨p', h⟩ := key l.length 0 1099511627776 0 (by omega) (by omega) (by omega) (by omega)
  exact impl_placeOf_p1 _ _ _ _ _ _ _ h

theorem adL_bound : ∀ (t : Tr) (p a : List UInt8), a ∈ adL t p → a.length ≤ p.length + t.c
  | .leaf, p, a, h => by simp [adL] at h; subst h; simp [Tr.c]
  | .node l r, p, a, h => by
    simp only [adL] at h
    simp only [Tr.c]
    rcases List.mem_append.1 h with h | h
    · have := adL_bound l _ a h; simp at this; omega
    · have := adL_bound r _ a h; simp at this; omega

/-- A piece: where it begins on both sides, and how deep it lies. -/
def pc (f t : List UInt8) : Int × (Int × (Int × Int)) := (((plF f 1099511627776 0 : Nat) : Int), (((plF t 1099511627776 0 : Nat) : Int), ((f.length : Int), (t.length : Int))))

abbrev Pc : Type := Int × (Int × (Int × Int))

theorem strs_get (l : List (List UInt8)) (i : Nat) (h : i < l.length) : List.getD (strs' l) ((i : Int)).toNat ⟨#[]⟩ = bs l[i] := by
  rw [Int.toNat_natCast, List.getD_eq_getElem?_getD, List.getElem?_map, List.getElem?_eq_getElem h]; rfl

theorem pieces_L (f t : List (List UInt8)) (hl : f.length = t.length) (hf : f.length ≤ 2 ^ 30) (hbf : ∀ a ∈ f, a.length ≤ 2 ^ 20) (hbt : ∀ a ∈ t, a.length ≤ 2 ^ 20) : ∀ (m i : Nat) (cur : List Pc), f.length - i = m → i ≤ f.length → cur.length ≤ i →
    LoopSC cfg.P 1 (lb P_impl_pair_pieces 0) (impl_pair_pieces_L0a ((List.length (strs' f) : Nat) : Int) (i : Int) cur (strs' t) (strs' f)) (.exit 0)
      (impl_pair_pieces_L0X1 ((List.length (strs' f) : Nat) : Int) (f.length : Int) false (cur ++ List.zipWith pc (f.drop i) (t.drop i)) (strs' t) (strs' f)) := by
  have hlf : List.length (strs' f) = f.length := List.length_map ..
  have hlt' : List.length (strs' t) = t.length := List.length_map ..
  intro m
  induction m with
  | zero =>
    intro i cur hm hi hc
    have e : i = f.length := by omega
    subst e
    rw [List.drop_length, List.zipWith_nil_left, List.append_nil]
    exact impl_pair_pieces_L0a_x2 _ _ _ _ _ (by rw [hlf]; omega)
  | succ m ih =>
    intro i cur hm hi hc
    have hi1 : i < f.length := by omega
    have hi2 : i < t.length := by omega
    have ew : IntKind.wrap .i64 ((i : Int) + 1) = ((i + 1 : Nat) : Int) := by rw [w64] <;> omega
    have hg1 := strs_get f i hi1
    have hg2 := strs_get t i hi2
    have h1 := placeOf_SC f[i] (hbf _ (List.getElem_mem hi1))
    have h2 := placeOf_SC t[i] (hbt _ (List.getElem_mem hi2))
    rw [← hg1] at h1
    rw [← hg2] at h2
    have hn := ih (i + 1) (cur ++ [pc f[i] t[i]]) (by omega) (by omega) (by simp; omega)
    rw [List.drop_eq_getElem_cons hi1, List.drop_eq_getElem_cons hi2, List.zipWith_cons_cons]
    rw [List.append_assoc, List.singleton_append, ← ew] at hn
    have epc : pc f[i] t[i] = (((plF f[i] 1099511627776 0 : Nat) : Int), (((plF t[i] 1099511627776 0 : Nat) : Int), (((List.getD (strs' f) ((i : Int)).toNat ⟨#[]⟩).size : Int), ((List.getD (strs' t) ((i : Int)).toNat ⟨#[]⟩).size : Int)))) := by
      rw [hg1, hg2]; rfl
    have hz : ∀ x : Pc, sizeOK (List.length cur + List.length ([x] : List Pc)) := fun x => by unfold sizeOK lim; simp; omega
    have e2 : cur ++ [pc f[i] t[i]] = cur ++ [(((plF f[i] 1099511627776 0 : Nat) : Int), (((plF t[i] 1099511627776 0 : Nat) : Int), (((List.getD (strs' f) ((i : Int)).toNat ⟨#[]⟩).size : Int), ((List.getD (strs' t) ((i : Int)).toNat ⟨#[]⟩).size : Int))))] := by rw [epc]
    rw [e2] at hn
    exact impl_pair_pieces_L0a_i1 _ _ _ _ _ _ _ (by rw [hlf]; omega) (by omega) (by rw [hlf]; omega) (by rw [hlf]; omega) h1 (by rw [hlt']; omega) (by rw [hlt']; omega) h2 (hz _) hn

theorem pieces_SC (p : Tr × Tr) (h1 : p.1.c ≤ 2 ^ 19) (h2 : p.1.c = p.2.c) :
    SC cfg.P i_impl_pair_pieces [.s (.v (.pr .tree .tree) p)] (.s (.own t_impl_piece (.pr (.int .i64) (.pr (.int .i64) (.pr (.int .i64) (.int .i64)))) (List.zipWith pc (adL p.1 []) (adL p.2 [])))) [] := by
  have a1 := addresses_SC p.1 [] (by omega) (by simp; omega)
  have a2 := addresses_SC p.2 [] (by omega) (by simp; omega)
  have l1 := adL_len p.1 []
  have l2 := adL_len p.2 []
  have hL := pieces_L (adL p.1 []) (adL p.2 []) (by omega) (by omega) (fun a ha => by have := adL_bound _ _ _ ha; simp at this; omega) (fun a ha => by have := adL_bound _ _ _ ha; simp at this; omega) _ 0 [] rfl (by omega) (by simp)
  rw [List.drop_zero, List.drop_zero, List.nil_append] at hL
  exact impl_pair_pieces_p1 _ _ _ _ _ _ _ _ _ a2 a1 hL

/-! ### Fractions -/

/-- How many bits are set, as the library counts them. -/
def popC (a0 : Int) : Int := (IntKind.wrap .i64 ((BitVec.ofInt (IntKind.bits .i64) (IntKind.wrap .i64 (IntKind.wrap .u64 ((IntKind.wrap .u64 ((IntKind.wrap .u64 ((IntKind.wrap .u64 ((BitVec.ofInt (IntKind.bits .u64) (IntKind.wrap .u64 ((Int.fdiv (IntKind.wrap .u64 ((IntKind.wrap .u64 ((BitVec.ofInt (IntKind.bits .u64) (Int.fdiv (IntKind.wrap .u64 ((IntKind.wrap .u64 ((BitVec.ofInt (IntKind.bits .u64) (Int.fdiv a0 (2 ^ (min ((1 : Int)).toNat (IntKind.bits .u64)))) &&& BitVec.ofInt (IntKind.bits .u64) (6148914691236517205 : Int)).toNat)) + (IntKind.wrap .u64 ((BitVec.ofInt (IntKind.bits .u64) a0 &&& BitVec.ofInt (IntKind.bits .u64) (6148914691236517205 : Int)).toNat)))) (2 ^ (min ((2 : Int)).toNat (IntKind.bits .u64)))) &&& BitVec.ofInt (IntKind.bits .u64) (3689348814741910323 : Int)).toNat)) + (IntKind.wrap .u64 ((BitVec.ofInt (IntKind.bits .u64) (IntKind.wrap .u64 ((IntKind.wrap .u64 ((BitVec.ofInt (IntKind.bits .u64) (Int.fdiv a0 (2 ^ (min ((1 : Int)).toNat (IntKind.bits .u64)))) &&& BitVec.ofInt (IntKind.bits .u64) (6148914691236517205 : Int)).toNat)) + (IntKind.wrap .u64 ((BitVec.ofInt (IntKind.bits .u64) a0 &&& BitVec.ofInt (IntKind.bits .u64) (6148914691236517205 : Int)).toNat)))) &&& BitVec.ofInt (IntKind.bits .u64) (3689348814741910323 : Int)).toNat)))) (2 ^ (min ((4 : Int)).toNat (IntKind.bits .u64)))) + (IntKind.wrap .u64 ((IntKind.wrap .u64 ((BitVec.ofInt (IntKind.bits .u64) (Int.fdiv (IntKind.wrap .u64 ((IntKind.wrap .u64 ((BitVec.ofInt (IntKind.bits .u64) (Int.fdiv a0 (2 ^ (min ((1 : Int)).toNat (IntKind.bits .u64)))) &&& BitVec.ofInt (IntKind.bits .u64) (6148914691236517205 : Int)).toNat)) + (IntKind.wrap .u64 ((BitVec.ofInt (IntKind.bits .u64) a0 &&& BitVec.ofInt (IntKind.bits .u64) (6148914691236517205 : Int)).toNat)))) (2 ^ (min ((2 : Int)).toNat (IntKind.bits .u64)))) &&& BitVec.ofInt (IntKind.bits .u64) (3689348814741910323 : Int)).toNat)) + (IntKind.wrap .u64 ((BitVec.ofInt (IntKind.bits .u64) (IntKind.wrap .u64 ((IntKind.wrap .u64 ((BitVec.ofInt (IntKind.bits .u64) (Int.fdiv a0 (2 ^ (min ((1 : Int)).toNat (IntKind.bits .u64)))) &&& BitVec.ofInt (IntKind.bits .u64) (6148914691236517205 : Int)).toNat)) + (IntKind.wrap .u64 ((BitVec.ofInt (IntKind.bits .u64) a0 &&& BitVec.ofInt (IntKind.bits .u64) (6148914691236517205 : Int)).toNat)))) &&& BitVec.ofInt (IntKind.bits .u64) (3689348814741910323 : Int)).toNat)))))) &&& BitVec.ofInt (IntKind.bits .u64) (1085102592571150095 : Int)).toNat)) + (Int.fdiv (IntKind.wrap .u64 ((BitVec.ofInt (IntKind.bits .u64) (IntKind.wrap .u64 ((Int.fdiv (IntKind.wrap .u64 ((IntKind.wrap .u64 ((BitVec.ofInt (IntKind.bits .u64) (Int.fdiv (IntKind.wrap .u64 ((IntKind.wrap .u64 ((BitVec.ofInt (IntKind.bits .u64) (Int.fdiv a0 (2 ^ (min ((1 : Int)).toNat (IntKind.bits .u64)))) &&& BitVec.ofInt (IntKind.bits .u64) (6148914691236517205 : Int)).toNat)) + (IntKind.wrap .u64 ((BitVec.ofInt (IntKind.bits .u64) a0 &&& BitVec.ofInt (IntKind.bits .u64) (6148914691236517205 : Int)).toNat)))) (2 ^ (min ((2 : Int)).toNat (IntKind.bits .u64)))) &&& BitVec.ofInt (IntKind.bits .u64) (3689348814741910323 : Int)).toNat)) + (IntKind.wrap .u64 ((BitVec.ofInt (IntKind.bits .u64) (IntKind.wrap .u64 ((IntKind.wrap .u64 ((BitVec.ofInt (IntKind.bits .u64) (Int.fdiv a0 (2 ^ (min ((1 : Int)).toNat (IntKind.bits .u64)))) &&& BitVec.ofInt (IntKind.bits .u64) (6148914691236517205 : Int)).toNat)) + (IntKind.wrap .u64 ((BitVec.ofInt (IntKind.bits .u64) a0 &&& BitVec.ofInt (IntKind.bits .u64) (6148914691236517205 : Int)).toNat)))) &&& BitVec.ofInt (IntKind.bits .u64) (3689348814741910323 : Int)).toNat)))) (2 ^ (min ((4 : Int)).toNat (IntKind.bits .u64)))) + (IntKind.wrap .u64 ((IntKind.wrap .u64 ((BitVec.ofInt (IntKind.bits .u64) (Int.fdiv (IntKind.wrap .u64 ((IntKind.wrap .u64 ((BitVec.ofInt (IntKind.bits .u64) (Int.fdiv a0 (2 ^ (min ((1 : Int)).toNat (IntKind.bits .u64)))) &&& BitVec.ofInt (IntKind.bits .u64) (6148914691236517205 : Int)).toNat)) + (IntKind.wrap .u64 ((BitVec.ofInt (IntKind.bits .u64) a0 &&& BitVec.ofInt (IntKind.bits .u64) (6148914691236517205 : Int)).toNat)))) (2 ^ (min ((2 : Int)).toNat (IntKind.bits .u64)))) &&& BitVec.ofInt (IntKind.bits .u64) (3689348814741910323 : Int)).toNat)) + (IntKind.wrap .u64 ((BitVec.ofInt (IntKind.bits .u64) (IntKind.wrap .u64 ((IntKind.wrap .u64 ((BitVec.ofInt (IntKind.bits .u64) (Int.fdiv a0 (2 ^ (min ((1 : Int)).toNat (IntKind.bits .u64)))) &&& BitVec.ofInt (IntKind.bits .u64) (6148914691236517205 : Int)).toNat)) + (IntKind.wrap .u64 ((BitVec.ofInt (IntKind.bits .u64) a0 &&& BitVec.ofInt (IntKind.bits .u64) (6148914691236517205 : Int)).toNat)))) &&& BitVec.ofInt (IntKind.bits .u64) (3689348814741910323 : Int)).toNat)))))) &&& BitVec.ofInt (IntKind.bits .u64) (1085102592571150095 : Int)).toNat)) (2 ^ (min ((8 : Int)).toNat (IntKind.bits .u64)))))) + (Int.fdiv (IntKind.wrap .u64 ((IntKind.wrap .u64 ((BitVec.ofInt (IntKind.bits .u64) (IntKind.wrap .u64 ((Int.fdiv (IntKind.wrap .u64 ((IntKind.wrap .u64 ((BitVec.ofInt (IntKind.bits .u64) (Int.fdiv (IntKind.wrap .u64 ((IntKind.wrap .u64 ((BitVec.ofInt (IntKind.bits .u64) (Int.fdiv a0 (2 ^ (min ((1 : Int)).toNat (IntKind.bits .u64)))) &&& BitVec.ofInt (IntKind.bits .u64) (6148914691236517205 : Int)).toNat)) + (IntKind.wrap .u64 ((BitVec.ofInt (IntKind.bits .u64) a0 &&& BitVec.ofInt (IntKind.bits .u64) (6148914691236517205 : Int)).toNat)))) (2 ^ (min ((2 : Int)).toNat (IntKind.bits .u64)))) &&& BitVec.ofInt (IntKind.bits .u64) (3689348814741910323 : Int)).toNat)) + (IntKind.wrap .u64 ((BitVec.ofInt (IntKind.bits .u64) (IntKind.wrap .u64 ((IntKind.wrap .u64 ((BitVec.ofInt (IntKind.bits .u64) (Int.fdiv a0 (2 ^ (min ((1 : Int)).toNat (IntKind.bits .u64)))) &&& BitVec.ofInt (IntKind.bits .u64) (6148914691236517205 : Int)).toNat)) + (IntKind.wrap .u64 ((BitVec.ofInt (IntKind.bits .u64) a0 &&& BitVec.ofInt (IntKind.bits .u64) (6148914691236517205 : Int)).toNat)))) &&& BitVec.ofInt (IntKind.bits .u64) (3689348814741910323 : Int)).toNat)))) (2 ^ (min ((4 : Int)).toNat (IntKind.bits .u64)))) + (IntKind.wrap .u64 ((IntKind.wrap .u64 ((BitVec.ofInt (IntKind.bits .u64) (Int.fdiv (IntKind.wrap .u64 ((IntKind.wrap .u64 ((BitVec.ofInt (IntKind.bits .u64) (Int.fdiv a0 (2 ^ (min ((1 : Int)).toNat (IntKind.bits .u64)))) &&& BitVec.ofInt (IntKind.bits .u64) (6148914691236517205 : Int)).toNat)) + (IntKind.wrap .u64 ((BitVec.ofInt (IntKind.bits .u64) a0 &&& BitVec.ofInt (IntKind.bits .u64) (6148914691236517205 : Int)).toNat)))) (2 ^ (min ((2 : Int)).toNat (IntKind.bits .u64)))) &&& BitVec.ofInt (IntKind.bits .u64) (3689348814741910323 : Int)).toNat)) + (IntKind.wrap .u64 ((BitVec.ofInt (IntKind.bits .u64) (IntKind.wrap .u64 ((IntKind.wrap .u64 ((BitVec.ofInt (IntKind.bits .u64) (Int.fdiv a0 (2 ^ (min ((1 : Int)).toNat (IntKind.bits .u64)))) &&& BitVec.ofInt (IntKind.bits .u64) (6148914691236517205 : Int)).toNat)) + (IntKind.wrap .u64 ((BitVec.ofInt (IntKind.bits .u64) a0 &&& BitVec.ofInt (IntKind.bits .u64) (6148914691236517205 : Int)).toNat)))) &&& BitVec.ofInt (IntKind.bits .u64) (3689348814741910323 : Int)).toNat)))))) &&& BitVec.ofInt (IntKind.bits .u64) (1085102592571150095 : Int)).toNat)) + (Int.fdiv (IntKind.wrap .u64 ((BitVec.ofInt (IntKind.bits .u64) (IntKind.wrap .u64 ((Int.fdiv (IntKind.wrap .u64 ((IntKind.wrap .u64 ((BitVec.ofInt (IntKind.bits .u64) (Int.fdiv (IntKind.wrap .u64 ((IntKind.wrap .u64 ((BitVec.ofInt (IntKind.bits .u64) (Int.fdiv a0 (2 ^ (min ((1 : Int)).toNat (IntKind.bits .u64)))) &&& BitVec.ofInt (IntKind.bits .u64) (6148914691236517205 : Int)).toNat)) + (IntKind.wrap .u64 ((BitVec.ofInt (IntKind.bits .u64) a0 &&& BitVec.ofInt (IntKind.bits .u64) (6148914691236517205 : Int)).toNat)))) (2 ^ (min ((2 : Int)).toNat (IntKind.bits .u64)))) &&& BitVec.ofInt (IntKind.bits .u64) (3689348814741910323 : Int)).toNat)) + (IntKind.wrap .u64 ((BitVec.ofInt (IntKind.bits .u64) (IntKind.wrap .u64 ((IntKind.wrap .u64 ((BitVec.ofInt (IntKind.bits .u64) (Int.fdiv a0 (2 ^ (min ((1 : Int)).toNat (IntKind.bits .u64)))) &&& BitVec.ofInt (IntKind.bits .u64) (6148914691236517205 : Int)).toNat)) + (IntKind.wrap .u64 ((BitVec.ofInt (IntKind.bits .u64) a0 &&& BitVec.ofInt (IntKind.bits .u64) (6148914691236517205 : Int)).toNat)))) &&& BitVec.ofInt (IntKind.bits .u64) (3689348814741910323 : Int)).toNat)))) (2 ^ (min ((4 : Int)).toNat (IntKind.bits .u64)))) + (IntKind.wrap .u64 ((IntKind.wrap .u64 ((BitVec.ofInt (IntKind.bits .u64) (Int.fdiv (IntKind.wrap .u64 ((IntKind.wrap .u64 ((BitVec.ofInt (IntKind.bits .u64) (Int.fdiv a0 (2 ^ (min ((1 : Int)).toNat (IntKind.bits .u64)))) &&& BitVec.ofInt (IntKind.bits .u64) (6148914691236517205 : Int)).toNat)) + (IntKind.wrap .u64 ((BitVec.ofInt (IntKind.bits .u64) a0 &&& BitVec.ofInt (IntKind.bits .u64) (6148914691236517205 : Int)).toNat)))) (2 ^ (min ((2 : Int)).toNat (IntKind.bits .u64)))) &&& BitVec.ofInt (IntKind.bits .u64) (3689348814741910323 : Int)).toNat)) + (IntKind.wrap .u64 ((BitVec.ofInt (IntKind.bits .u64) (IntKind.wrap .u64 ((IntKind.wrap .u64 ((BitVec.ofInt (IntKind.bits .u64) (Int.fdiv a0 (2 ^ (min ((1 : Int)).toNat (IntKind.bits .u64)))) &&& BitVec.ofInt (IntKind.bits .u64) (6148914691236517205 : Int)).toNat)) + (IntKind.wrap .u64 ((BitVec.ofInt (IntKind.bits .u64) a0 &&& BitVec.ofInt (IntKind.bits .u64) (6148914691236517205 : Int)).toNat)))) &&& BitVec.ofInt (IntKind.bits .u64) (3689348814741910323 : Int)).toNat)))))) &&& BitVec.ofInt (IntKind.bits .u64) (1085102592571150095 : Int)).toNat)) (2 ^ (min ((8 : Int)).toNat (IntKind.bits .u64)))))) (2 ^ (min ((16 : Int)).toNat (IntKind.bits .u64)))))) + (Int.fdiv (IntKind.wrap .u64 ((IntKind.wrap .u64 ((IntKind.wrap .u64 ((BitVec.ofInt (IntKind.bits .u64) (IntKind.wrap .u64 ((Int.fdiv (IntKind.wrap .u64 ((IntKind.wrap .u64 ((BitVec.ofInt (IntKind.bits .u64) (Int.fdiv (IntKind.wrap .u64 ((IntKind.wrap .u64 ((BitVec.ofInt (IntKind.bits .u64) (Int.fdiv a0 (2 ^ (min ((1 : Int)).toNat (IntKind.bits .u64)))) &&& BitVec.ofInt (IntKind.bits .u64) (6148914691236517205 : Int)).toNat)) + (IntKind.wrap .u64 ((BitVec.ofInt (IntKind.bits .u64) a0 &&& BitVec.ofInt (IntKind.bits .u64) (6148914691236517205 : Int)).toNat)))) (2 ^ (min ((2 : Int)).toNat (IntKind.bits .u64)))) &&& BitVec.ofInt (IntKind.bits .u64) (3689348814741910323 : Int)).toNat)) + (IntKind.wrap .u64 ((BitVec.ofInt (IntKind.bits .u64) (IntKind.wrap .u64 ((IntKind.wrap .u64 ((BitVec.ofInt (IntKind.bits .u64) (Int.fdiv a0 (2 ^ (min ((1 : Int)).toNat (IntKind.bits .u64)))) &&& BitVec.ofInt (IntKind.bits .u64) (6148914691236517205 : Int)).toNat)) + (IntKind.wrap .u64 ((BitVec.ofInt (IntKind.bits .u64) a0 &&& BitVec.ofInt (IntKind.bits .u64) (6148914691236517205 : Int)).toNat)))) &&& BitVec.ofInt (IntKind.bits .u64) (3689348814741910323 : Int)).toNat)))) (2 ^ (min ((4 : Int)).toNat (IntKind.bits .u64)))) + (IntKind.wrap .u64 ((IntKind.wrap .u64 ((BitVec.ofInt (IntKind.bits .u64) (Int.fdiv (IntKind.wrap .u64 ((IntKind.wrap .u64 ((BitVec.ofInt (IntKind.bits .u64) (Int.fdiv a0 (2 ^ (min ((1 : Int)).toNat (IntKind.bits .u64)))) &&& BitVec.ofInt (IntKind.bits .u64) (6148914691236517205 : Int)).toNat)) + (IntKind.wrap .u64 ((BitVec.ofInt (IntKind.bits .u64) a0 &&& BitVec.ofInt (IntKind.bits .u64) (6148914691236517205 : Int)).toNat)))) (2 ^ (min ((2 : Int)).toNat (IntKind.bits .u64)))) &&& BitVec.ofInt (IntKind.bits .u64) (3689348814741910323 : Int)).toNat)) + (IntKind.wrap .u64 ((BitVec.ofInt (IntKind.bits .u64) (IntKind.wrap .u64 ((IntKind.wrap .u64 ((BitVec.ofInt (IntKind.bits .u64) (Int.fdiv a0 (2 ^ (min ((1 : Int)).toNat (IntKind.bits .u64)))) &&& BitVec.ofInt (IntKind.bits .u64) (6148914691236517205 : Int)).toNat)) + (IntKind.wrap .u64 ((BitVec.ofInt (IntKind.bits .u64) a0 &&& BitVec.ofInt (IntKind.bits .u64) (6148914691236517205 : Int)).toNat)))) &&& BitVec.ofInt (IntKind.bits .u64) (3689348814741910323 : Int)).toNat)))))) &&& BitVec.ofInt (IntKind.bits .u64) (1085102592571150095 : Int)).toNat)) + (Int.fdiv (IntKind.wrap .u64 ((BitVec.ofInt (IntKind.bits .u64) (IntKind.wrap .u64 ((Int.fdiv (IntKind.wrap .u64 ((IntKind.wrap .u64 ((BitVec.ofInt (IntKind.bits .u64) (Int.fdiv (IntKind.wrap .u64 ((IntKind.wrap .u64 ((BitVec.ofInt (IntKind.bits .u64) (Int.fdiv a0 (2 ^ (min ((1 : Int)).toNat (IntKind.bits .u64)))) &&& BitVec.ofInt (IntKind.bits .u64) (6148914691236517205 : Int)).toNat)) + (IntKind.wrap .u64 ((BitVec.ofInt (IntKind.bits .u64) a0 &&& BitVec.ofInt (IntKind.bits .u64) (6148914691236517205 : Int)).toNat)))) (2 ^ (min ((2 : Int)).toNat (IntKind.bits .u64)))) &&& BitVec.ofInt (IntKind.bits .u64) (3689348814741910323 : Int)).toNat)) + (IntKind.wrap .u64 ((BitVec.ofInt (IntKind.bits .u64) (IntKind.wrap .u64 ((IntKind.wrap .u64 ((BitVec.ofInt (IntKind.bits .u64) (Int.fdiv a0 (2 ^ (min ((1 : Int)).toNat (IntKind.bits .u64)))) &&& BitVec.ofInt (IntKind.bits .u64) (6148914691236517205 : Int)).toNat)) + (IntKind.wrap .u64 ((BitVec.ofInt (IntKind.bits .u64) a0 &&& BitVec.ofInt (IntKind.bits .u64) (6148914691236517205 : Int)).toNat)))) &&& BitVec.ofInt (IntKind.bits .u64) (3689348814741910323 : Int)).toNat)))) (2 ^ (min ((4 : Int)).toNat (IntKind.bits .u64)))) + (IntKind.wrap .u64 ((IntKind.wrap .u64 ((BitVec.ofInt (IntKind.bits .u64) (Int.fdiv (IntKind.wrap .u64 ((IntKind.wrap .u64 ((BitVec.ofInt (IntKind.bits .u64) (Int.fdiv a0 (2 ^ (min ((1 : Int)).toNat (IntKind.bits .u64)))) &&& BitVec.ofInt (IntKind.bits .u64) (6148914691236517205 : Int)).toNat)) + (IntKind.wrap .u64 ((BitVec.ofInt (IntKind.bits .u64) a0 &&& BitVec.ofInt (IntKind.bits .u64) (6148914691236517205 : Int)).toNat)))) (2 ^ (min ((2 : Int)).toNat (IntKind.bits .u64)))) &&& BitVec.ofInt (IntKind.bits .u64) (3689348814741910323 : Int)).toNat)) + (IntKind.wrap .u64 ((BitVec.ofInt (IntKind.bits .u64) (IntKind.wrap .u64 ((IntKind.wrap .u64 ((BitVec.ofInt (IntKind.bits .u64) (Int.fdiv a0 (2 ^ (min ((1 : Int)).toNat (IntKind.bits .u64)))) &&& BitVec.ofInt (IntKind.bits .u64) (6148914691236517205 : Int)).toNat)) + (IntKind.wrap .u64 ((BitVec.ofInt (IntKind.bits .u64) a0 &&& BitVec.ofInt (IntKind.bits .u64) (6148914691236517205 : Int)).toNat)))) &&& BitVec.ofInt (IntKind.bits .u64) (3689348814741910323 : Int)).toNat)))))) &&& BitVec.ofInt (IntKind.bits .u64) (1085102592571150095 : Int)).toNat)) (2 ^ (min ((8 : Int)).toNat (IntKind.bits .u64)))))) + (Int.fdiv (IntKind.wrap .u64 ((IntKind.wrap .u64 ((BitVec.ofInt (IntKind.bits .u64) (IntKind.wrap .u64 ((Int.fdiv (IntKind.wrap .u64 ((IntKind.wrap .u64 ((BitVec.ofInt (IntKind.bits .u64) (Int.fdiv (IntKind.wrap .u64 ((IntKind.wrap .u64 ((BitVec.ofInt (IntKind.bits .u64) (Int.fdiv a0 (2 ^ (min ((1 : Int)).toNat (IntKind.bits .u64)))) &&& BitVec.ofInt (IntKind.bits .u64) (6148914691236517205 : Int)).toNat)) + (IntKind.wrap .u64 ((BitVec.ofInt (IntKind.bits .u64) a0 &&& BitVec.ofInt (IntKind.bits .u64) (6148914691236517205 : Int)).toNat)))) (2 ^ (min ((2 : Int)).toNat (IntKind.bits .u64)))) &&& BitVec.ofInt (IntKind.bits .u64) (3689348814741910323 : Int)).toNat)) + (IntKind.wrap .u64 ((BitVec.ofInt (IntKind.bits .u64) (IntKind.wrap .u64 ((IntKind.wrap .u64 ((BitVec.ofInt (IntKind.bits .u64) (Int.fdiv a0 (2 ^ (min ((1 : Int)).toNat (IntKind.bits .u64)))) &&& BitVec.ofInt (IntKind.bits .u64) (6148914691236517205 : Int)).toNat)) + (IntKind.wrap .u64 ((BitVec.ofInt (IntKind.bits .u64) a0 &&& BitVec.ofInt (IntKind.bits .u64) (6148914691236517205 : Int)).toNat)))) &&& BitVec.ofInt (IntKind.bits .u64) (3689348814741910323 : Int)).toNat)))) (2 ^ (min ((4 : Int)).toNat (IntKind.bits .u64)))) + (IntKind.wrap .u64 ((IntKind.wrap .u64 ((BitVec.ofInt (IntKind.bits .u64) (Int.fdiv (IntKind.wrap .u64 ((IntKind.wrap .u64 ((BitVec.ofInt (IntKind.bits .u64) (Int.fdiv a0 (2 ^ (min ((1 : Int)).toNat (IntKind.bits .u64)))) &&& BitVec.ofInt (IntKind.bits .u64) (6148914691236517205 : Int)).toNat)) + (IntKind.wrap .u64 ((BitVec.ofInt (IntKind.bits .u64) a0 &&& BitVec.ofInt (IntKind.bits .u64) (6148914691236517205 : Int)).toNat)))) (2 ^ (min ((2 : Int)).toNat (IntKind.bits .u64)))) &&& BitVec.ofInt (IntKind.bits .u64) (3689348814741910323 : Int)).toNat)) + (IntKind.wrap .u64 ((BitVec.ofInt (IntKind.bits .u64) (IntKind.wrap .u64 ((IntKind.wrap .u64 ((BitVec.ofInt (IntKind.bits .u64) (Int.fdiv a0 (2 ^ (min ((1 : Int)).toNat (IntKind.bits .u64)))) &&& BitVec.ofInt (IntKind.bits .u64) (6148914691236517205 : Int)).toNat)) + (IntKind.wrap .u64 ((BitVec.ofInt (IntKind.bits .u64) a0 &&& BitVec.ofInt (IntKind.bits .u64) (6148914691236517205 : Int)).toNat)))) &&& BitVec.ofInt (IntKind.bits .u64) (3689348814741910323 : Int)).toNat)))))) &&& BitVec.ofInt (IntKind.bits .u64) (1085102592571150095 : Int)).toNat)) + (Int.fdiv (IntKind.wrap .u64 ((BitVec.ofInt (IntKind.bits .u64) (IntKind.wrap .u64 ((Int.fdiv (IntKind.wrap .u64 ((IntKind.wrap .u64 ((BitVec.ofInt (IntKind.bits .u64) (Int.fdiv (IntKind.wrap .u64 ((IntKind.wrap .u64 ((BitVec.ofInt (IntKind.bits .u64) (Int.fdiv a0 (2 ^ (min ((1 : Int)).toNat (IntKind.bits .u64)))) &&& BitVec.ofInt (IntKind.bits .u64) (6148914691236517205 : Int)).toNat)) + (IntKind.wrap .u64 ((BitVec.ofInt (IntKind.bits .u64) a0 &&& BitVec.ofInt (IntKind.bits .u64) (6148914691236517205 : Int)).toNat)))) (2 ^ (min ((2 : Int)).toNat (IntKind.bits .u64)))) &&& BitVec.ofInt (IntKind.bits .u64) (3689348814741910323 : Int)).toNat)) + (IntKind.wrap .u64 ((BitVec.ofInt (IntKind.bits .u64) (IntKind.wrap .u64 ((IntKind.wrap .u64 ((BitVec.ofInt (IntKind.bits .u64) (Int.fdiv a0 (2 ^ (min ((1 : Int)).toNat (IntKind.bits .u64)))) &&& BitVec.ofInt (IntKind.bits .u64) (6148914691236517205 : Int)).toNat)) + (IntKind.wrap .u64 ((BitVec.ofInt (IntKind.bits .u64) a0 &&& BitVec.ofInt (IntKind.bits .u64) (6148914691236517205 : Int)).toNat)))) &&& BitVec.ofInt (IntKind.bits .u64) (3689348814741910323 : Int)).toNat)))) (2 ^ (min ((4 : Int)).toNat (IntKind.bits .u64)))) + (IntKind.wrap .u64 ((IntKind.wrap .u64 ((BitVec.ofInt (IntKind.bits .u64) (Int.fdiv (IntKind.wrap .u64 ((IntKind.wrap .u64 ((BitVec.ofInt (IntKind.bits .u64) (Int.fdiv a0 (2 ^ (min ((1 : Int)).toNat (IntKind.bits .u64)))) &&& BitVec.ofInt (IntKind.bits .u64) (6148914691236517205 : Int)).toNat)) + (IntKind.wrap .u64 ((BitVec.ofInt (IntKind.bits .u64) a0 &&& BitVec.ofInt (IntKind.bits .u64) (6148914691236517205 : Int)).toNat)))) (2 ^ (min ((2 : Int)).toNat (IntKind.bits .u64)))) &&& BitVec.ofInt (IntKind.bits .u64) (3689348814741910323 : Int)).toNat)) + (IntKind.wrap .u64 ((BitVec.ofInt (IntKind.bits .u64) (IntKind.wrap .u64 ((IntKind.wrap .u64 ((BitVec.ofInt (IntKind.bits .u64) (Int.fdiv a0 (2 ^ (min ((1 : Int)).toNat (IntKind.bits .u64)))) &&& BitVec.ofInt (IntKind.bits .u64) (6148914691236517205 : Int)).toNat)) + (IntKind.wrap .u64 ((BitVec.ofInt (IntKind.bits .u64) a0 &&& BitVec.ofInt (IntKind.bits .u64) (6148914691236517205 : Int)).toNat)))) &&& BitVec.ofInt (IntKind.bits .u64) (3689348814741910323 : Int)).toNat)))))) &&& BitVec.ofInt (IntKind.bits .u64) (1085102592571150095 : Int)).toNat)) (2 ^ (min ((8 : Int)).toNat (IntKind.bits .u64)))))) (2 ^ (min ((16 : Int)).toNat (IntKind.bits .u64)))))) (2 ^ (min ((32 : Int)).toNat (IntKind.bits .u64))))))) &&& BitVec.ofInt (IntKind.bits .i64) (127 : Int)).toNat))

def pow2 (d : Nat) : Bool := [1, 2, 4, 8, 16, 32, 64, 128, 256, 512, 1024].contains d

theorem pop_all : (List.range 1025).all (fun d => decide (popC (d : Int) = 1) == pow2 d) = true := by decide +kernel

theorem pop_iff (d : Nat) (h : d ≤ 1024) : popC (d : Int) = 1 ↔ pow2 d = true := by
  have := List.all_eq_true.1 pop_all d (List.mem_range.2 (by omega))
  rw [beq_iff_eq] at this
  rw [← this, decide_eq_true_eq]

/-- Is it a fraction? -/
def goodF (x : Int × Int) : Bool := decide (1 ≤ x.2) && decide (x.2 ≤ 1024) && pow2 x.2.toNat && decide (0 ≤ x.1) && decide (x.1 ≤ x.2) && (decide (x.2 = 1) || decide (x.1 % 2 = 1))

theorem goodF_false {x : Int × Int} (h : ¬ (1 ≤ x.2 ∧ x.2 ≤ 1024 ∧ pow2 x.2.toNat = true ∧ 0 ≤ x.1 ∧ x.1 ≤ x.2 ∧ (x.2 = 1 ∨ x.1 % 2 = 1))) : goodF x = false := by
  cases hg : goodF x with
  | false => rfl
  | true =>
    simp only [goodF, Bool.and_eq_true, Bool.or_eq_true, decide_eq_true_eq] at hg
    exact absurd ⟨hg.1.1.1.1.1, hg.1.1.1.1.2, hg.1.1.1.2, hg.1.1.2, hg.1.2, hg.2⟩ h

theorem goodF_true {x : Int × Int} (h : 1 ≤ x.2 ∧ x.2 ≤ 1024 ∧ pow2 x.2.toNat = true ∧ 0 ≤ x.1 ∧ x.1 ≤ x.2 ∧ (x.2 = 1 ∨ x.1 % 2 = 1)) : goodF x = true := by
  obtain ⟨h1, h2, h3, h4, h5, h6⟩ := h
  simp only [goodF, Bool.and_eq_true, Bool.or_eq_true, decide_eq_true_eq]
  exact ⟨⟨⟨⟨⟨h1, h2⟩, h3⟩, h4⟩, h5⟩, h6⟩

theorem pow2_step : (List.range 1025).all (fun d => decide (d ≤ 1) || (if d % 2 = 1 then !pow2 d else pow2 d == pow2 (d / 2))) = true := by decide +kernel

theorem pow2_odd {d : Nat} (h1 : 1 < d) (h2 : d ≤ 1024) (h : d % 2 = 1) : pow2 d = false := by
  have := List.all_eq_true.1 pow2_step d (List.mem_range.2 (by omega))
  rw [decide_eq_false (by omega), Bool.false_or, if_pos h] at this
  simpa using this

theorem pow2_half {d : Nat} (h1 : 1 < d) (h2 : d ≤ 1024) (h : ¬ d % 2 = 1) : pow2 d = pow2 (d / 2) := by
  have := List.all_eq_true.1 pow2_step d (List.mem_range.2 (by omega))
  rw [decide_eq_false (by omega), Bool.false_or, if_neg h, beq_iff_eq] at this
  exact this

end Go.AI
