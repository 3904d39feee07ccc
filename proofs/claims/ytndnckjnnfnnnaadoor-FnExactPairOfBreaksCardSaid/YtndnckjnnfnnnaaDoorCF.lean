/- Contracts: addresses of leaves. -/
import Derived.Test.YtndnckjnnfnnnaaDoorGZ
import Derived.Test.YtndnckjnnfnnnaaDoorCT
set_option autoImplicit false
set_option maxRecDepth 100000
set_option linter.unusedVariables false
namespace Go.AI
open Go.Proofs

/-- The addresses of the leaves, behind that of the tree. -/
def adL : Tr → List UInt8 → List (List UInt8)
  | .leaf, p => [p]
  | .node l r, p => adL l (p ++ [48]) ++ adL r (p ++ [49])

abbrev strs' (l : List (List UInt8)) : List ByteArray := l.map bs

theorem adL_len : ∀ (t : Tr) (p : List UInt8), (adL t p).length = t.c + 1
  | .leaf, _ => rfl
  | .node l r, p => by simp only [adL, List.length_append, adL_len l, adL_len r, Tr.c]; omega

theorem zokS (l m : List ByteArray) (h : l.length + m.length ≤ 2 ^ 40) : sizeOK (List.length l + List.length m) := h

theorem addresses_SC : ∀ (t : Tr) (p : List UInt8), t.c ≤ 2 ^ 20 → p.length + t.c ≤ 2 ^ 30 → SC cfg.P i_impl_node_addresses [.s (.v .tree t), .s (.v .str (bs p))] (.s (.own t_string .str (strs' (adL t p)))) []
  | .leaf, p, _, _ => impl_node_addresses_p1 _
  | .node l r, p, h, hp => by
    simp only [Tr.c] at h hp
    have h1 := addresses_SC l (p ++ [48]) (by omega) (by simp; omega)
    have h2 := addresses_SC r (p ++ [49]) (by omega) (by simp; omega)
    have e0 : bs (p ++ [48]) = bs p ++ (⟨#[48]⟩ : ByteArray) := by show _ = bs p ++ bs [48]; rw [bs_append]
    have e1 : bs (p ++ [49]) = bs p ++ (⟨#[49]⟩ : ByteArray) := by show _ = bs p ++ bs [49]; rw [bs_append]
    rw [e0] at h1
    rw [e1] at h2
    have e : strs' (adL (.node l r) p) = strs' (adL l (p ++ [48])) ++ strs' (adL r (p ++ [49])) := by simp [adL]
    rw [e]
    have s0 : ((⟨#[48]⟩ : ByteArray)).size = 1 := rfl
    have s1 : ((⟨#[49]⟩ : ByteArray)).size = 1 := rfl
    exact impl_node_addresses_p2 _ _ _ _ _ (by rw [bs_size, s0]; omega) h1 (by rw [bs_size, s1]; omega) h2 (zokS _ _ (by simp [adL_len]; omega))

/-- Where the interval of an address begins. -/
def plF : List UInt8 → Nat → Nat → Nat
  | [], _, place => place
  | c :: r, part, place => plF r (part / 2) (if c = 49 then place + part / 2 else place)

theorem placeOf_SC (l : List UInt8) (hl : l.length ≤ 2 ^ 20) : SC cfg.P i_impl_placeOf [.s (.v .str (bs l))] (.s (.v (.int .i64) ((plF l 1099511627776 0 : Nat) : Int))) [] := by
  have key : ∀ (m i part place : Nat), l.length - i = m → i ≤ l.length → part ≤ 2 ^ 40 → place + part ≤ 2 ^ 41 →
      ∃ part' : Nat, LoopSC cfg.P 1 (lb P_impl_placeOf 0) (impl_placeOf_L0a (bs l) (place : Int) (part : Int) ((bs l).size : Int) (i : Int)) (.exit 0) (impl_placeOf_L0X1 (bs l) ((plF (l.drop i) part place : Nat) : Int) (part' : Int) ((bs l).size : Int) (l.length : Int) false) := by
    intro m
    induction m with
    | zero =>
      intro i part place hm hi hp hq
      have e : i = l.length := by omega
      subst e
      rw [List.drop_length]
      exact ⟨part, impl_placeOf_L0a_x3 _ _ _ _ _ (by rw [bs_size]; omega)⟩
    | succ m ih =>
      intro i part place hm hi hp hq
      have hlt : i < l.length := by omega
      have hd : l.drop i = l[i] :: l.drop (i + 1) := List.drop_eq_getElem_cons hlt
      have hg : bt (bs l) (i : Int) = (l[i].toNat : Int) := by rw [bs_bt, Int.toNat_natCast, List.getD_eq_getElem?_getD, List.getElem?_eq_getElem hlt]; rfl
      have ew : IntKind.wrap .i64 ((i : Int) + 1) = ((i + 1 : Nat) : Int) := by rw [w64] <;> omega
      have eh : IntKind.wrap .i64 (Int.tdiv (part : Int) 2) = ((part / 2 : Nat) : Int) := by
        have e1 : Int.tdiv (part : Int) 2 = ((part / 2 : Nat) : Int) := by rfl
        rw [e1, w64] <;> omega
      rw [hd]
      simp only [plF]
      by_cases h : l[i] = 49
      · rw [if_pos h]
        obtain ⟨p', hn⟩ := ih (i + 1) (part / 2) (place + part / 2) (by omega) (by omega) (by omega) (by omega)
        have ep : IntKind.wrap .i64 ((place : Int) + ((part / 2 : Nat) : Int)) = ((place + part / 2 : Nat) : Int) := by rw [w64] <;> omega
        rw [← ew, ← ep, ← eh] at hn
        exact ⟨p', impl_placeOf_L0a_i1 _ _ _ _ _ (by rw [bs_size]; omega) (by decide) (by omega) (by rw [bs_size]; omega) (by rw [hg, h]; rfl) hn⟩
      · rw [if_neg h]
        obtain ⟨p', hn⟩ := ih (i + 1) (part / 2) place (by omega) (by omega) (by omega) (by omega)
        rw [← ew, ← eh] at hn
        exact ⟨p', impl_placeOf_L0a_i2 _ _ _ _ _ (by rw [bs_size]; omega) (by decide) (by omega) (by rw [bs_size]; omega) (by rw [hg]; intro e; exact h ((byte_eq _ 49).1 e)) hn⟩
  obtain ⟨p', h⟩ := key l.length 0 1099511627776 0 (by omega) (by omega) (by omega) (by omega)
  exact impl_placeOf_p1 _ _ _ _ _ _ _ h

theorem adL_bound : ∀ (t : Tr) (p a : List UInt8), a ∈ adL t p → a.length ≤ p.length + t.c
  | .leaf, p, a, h => by simp [adL] at h; subst h; simp [Tr.c]
  | .node l r, p, a, h => by
    simp only [adL] at h
    simp only [Tr.c]
    rcases List.mem_append.1 h with h | h
    · have := adL_bound l _ a h; simp at this; omega
    · have := adL_bound r _ a h; simp at this; omega

/-- A piece: where it begins on both sides, and how deep it lies. -/
def pc (f t : List UInt8) : Int × (Int × (Int × Int)) := (((plF f 1099511627776 0 : Nat) : Int), (((plF t 1099511627776 0 : Nat) : Int), ((f.length : Int), (t.length : Int))))

abbrev Pc : Type := Int × (Int × (Int × Int))

theorem strs_get (l : List (List UInt8)) (i : Nat) (h : i < l.length) : List.getD (strs' l) ((i : Int)).toNat ⟨#[]⟩ = bs l[i] := by
  rw [Int.toNat_natCast, List.getD_eq_getElem?_getD, List.getElem?_map, List.getElem?_eq_getElem h]; rfl

/-! ### Fractions -/

/-- How many bits are set, as the library counts them. -/
def popC (a0 : Int) : Int := (IntKind.wrap .i64 ((BitVec.ofInt (IntKind.bits .i64) (IntKind.wrap .i64 (IntKind.wrap .u64 ((IntKind.wrap .u64 ((IntKind.wrap .u64 ((IntKind.wrap .u64 ((BitVec.ofInt (IntKind.bits .u64) (IntKind.wrap .u64 ((Int.fdiv (IntKind.wrap .u64 ((IntKind.wrap .u64 ((BitVec.ofInt (IntKind.bits .u64) (Int.fdiv (IntKind.wrap .u64 ((IntKind.wrap .u64 ((BitVec.ofInt (IntKind.bits .u64) (Int.fdiv a0 (2 ^ (min ((1 : Int)).toNat (IntKind.bits .u64)))) &&& BitVec.ofInt (IntKind.bits .u64) (6148914691236517205 : Int)).toNat)) + (IntKind.wrap .u64 ((BitVec.ofInt (IntKind.bits .u64) a0 &&& BitVec.ofInt (IntKind.bits .u64) (6148914691236517205 : Int)).toNat)))) (2 ^ (min ((2 : Int)).toNat (IntKind.bits .u64)))) &&& BitVec.ofInt (IntKind.bits .u64) (3689348814741910323 : Int)).toNat)) + (IntKind.wrap .u64 ((BitVec.ofInt (IntKind.bits .u64) (IntKind.wrap .u64 ((IntKind.wrap .u64 ((BitVec.ofInt (IntKind.bits .u64) (Int.fdiv a0 (2 ^ (min ((1 : Int)).toNat (IntKind.bits .u64)))) &&& BitVec.ofInt (IntKind.bits .u64) (6148914691236517205 : Int)).toNat)) + (IntKind.wrap .u64 ((BitVec.ofInt (IntKind.bits .u64) a0 &&& BitVec.ofInt (IntKind.bits .u64) (6148914691236517205 : Int)).toNat)))) &&& BitVec.ofInt (IntKind.bits .u64) (3689348814741910323 : Int)).toNat)))) (2 ^ (min ((4 : Int)).toNat (IntKind.bits .u64)))) + (IntKind.wrap .u64 ((IntKind.wrap .u64 ((BitVec.ofInt (IntKind.bits .u64) (Int.fdiv (IntKind.wrap .u64 ((IntKind.wrap .u64 ((BitVec.ofInt (IntKind.bits .u64) (Int.fdiv a0 (2 ^ (min ((1 : Int)).toNat (IntKind.bits .u64)))) &&& BitVec.ofInt (IntKind.bits .u64) (6148914691236517205 : Int)).toNat)) + (IntKind.wrap .u64 ((BitVec.ofInt (IntKind.bits .u64) a0 &&& BitVec.ofInt (IntKind.bits .u64) (6148914691236517205 : Int)).toNat)))) (2 ^ (min ((2 : Int)).toNat (IntKind.bits .u64)))) &&& BitVec.ofInt (IntKind.bits .u64) (3689348814741910323 : Int)).toNat)) + (IntKind.wrap .u64 ((BitVec.ofInt (IntKind.bits .u64) (IntKind.wrap .u64 ((IntKind.wrap .u64 ((BitVec.ofInt (IntKind.bits .u64) (Int.fdiv a0 (2 ^ (min ((1 : Int)).toNat (IntKind.bits .u64)))) &&& BitVec.ofInt (IntKind.bits .u64) (6148914691236517205 : Int)).toNat)) + (IntKind.wrap .u64 ((BitVec.ofInt (IntKind.bits .u64) a0 &&& BitVec.ofInt (IntKind.bits .u64) (6148914691236517205 : Int)).toNat)))) &&& BitVec.ofInt (IntKind.bits .u64) (3689348814741910323 : Int)).toNat)))))) &&& BitVec.ofInt (IntKind.bits .u64) (1085102592571150095 : Int)).toNat)) + (Int.fdiv (IntKind.wrap .u64 ((BitVec.ofInt (IntKind.bits .u64) (IntKind.wrap .u64 ((Int.fdiv (IntKind.wrap .u64 ((IntKind.wrap .u64 ((BitVec.ofInt (IntKind.bits .u64) (Int.fdiv (IntKind.wrap .u64 ((IntKind.wrap .u64 ((BitVec.ofInt (IntKind.bits .u64) (Int.fdiv a0 (2 ^ (min ((1 : Int)).toNat (IntKind.bits .u64)))) &&& BitVec.ofInt (IntKind.bits .u64) (6148914691236517205 : Int)).toNat)) + (IntKind.wrap .u64 ((BitVec.ofInt (IntKind.bits .u64) a0 &&& BitVec.ofInt (IntKind.bits .u64) (6148914691236517205 : Int)).toNat)))) (2 ^ (min ((2 : Int)).toNat (IntKind.bits .u64)))) &&& BitVec.ofInt (IntKind.bits .u64) (3689348814741910323 : Int)).toNat)) + (IntKind.wrap .u64 ((BitVec.ofInt (IntKind.bits .u64) (IntKind.wrap .u64 ((IntKind.wrap .u64 ((BitVec.ofInt (IntKind.bits .u64) (Int.fdiv a0 (2 ^ (min ((1 : Int)).toNat (IntKind.bits .u64)))) &&& BitVec.ofInt (IntKind.bits .u64) (6148914691236517205 : Int)).toNat)) + (IntKind.wrap .u64 ((BitVec.ofInt (IntKind.bits .u64) a0 &&& BitVec.ofInt (IntKind.bits .u64) (6148914691236517205 : Int)).toNat)))) &&& BitVec.ofInt (IntKind.bits .u64) (3689348814741910323 : Int)).toNat)))) (2 ^ (min ((4 : Int)).toNat (IntKind.bits .u64)))) + (IntKind.wrap .u64 ((IntKind.wrap .u64 ((BitVec.ofInt (IntKind.bits .u64) (Int.fdiv (IntKind.wrap .u64 ((IntKind.wrap .u64 ((BitVec.ofInt (IntKind.bits .u64) (Int.fdiv a0 (2 ^ (min ((1 : Int)).toNat (IntKind.bits .u64)))) &&& BitVec.ofInt (IntKind.bits .u64) (6148914691236517205 : Int)).toNat)) + (IntKind.wrap .u64 ((BitVec.ofInt (IntKind.bits .u64) a0 &&& BitVec.ofInt (IntKind.bits .u64) (6148914691236517205 : Int)).toNat)))) (2 ^ (min ((2 : Int)).toNat (IntKind.bits .u64)))) &&& BitVec.ofInt (IntKind.bits .u64) (3689348814741910323 : Int)).toNat)) + (IntKind.wrap .u64 ((BitVec.ofInt (IntKind.bits .u64) (IntKind.wrap .u64 ((IntKind.wrap .u64 ((BitVec.ofInt (IntKind.bits .u64) (Int.fdiv a0 (2 ^ (min ((1 : Int)).toNat (IntKind.bits .u64)))) &&& BitVec.ofInt (IntKind.bits .u64) (6148914691236517205 : Int)).toNat)) + (IntKind.wrap .u64 ((BitVec.ofInt (IntKind.bits .u64) a0 &&& BitVec.ofInt (IntKind.bits .u64) (6148914691236517205 : Int)).toNat)))) &&& BitVec.ofInt (IntKind.bits .u64) (3689348814741910323 : Int)).toNat)))))) &&& BitVec.ofInt (IntKind.bits .u64) (1085102592571150095 : Int)).toNat)) (2 ^ (min ((8 : Int)).toNat (IntKind.bits .u64)))))) + (Int.fdiv (IntKind.wrap .u64 ((IntKind.wrap .u64 ((BitVec.ofInt (IntKind.bits .u64) (IntKind.wrap .u64 ((Int.fdiv (IntKind.wrap .u64 ((IntKind.wrap .u64 ((BitVec.ofInt (IntKind.bits .u64) (Int.fdiv (IntKind.wrap .u64 ((IntKind.wrap .u64 ((BitVec.ofInt (IntKind.bits .u64) (Int.fdiv a0 (2 ^ (min ((1 : Int)).toNat (IntKind.bits .u64)))) &&& BitVec.ofInt (IntKind.bits .u64) (6148914691236517205 : Int)).toNat)) + (IntKind.wrap .u64 ((BitVec.ofInt (IntKind.bits .u64) a0 &&& BitVec.ofInt (IntKind.bits .u64) (6148914691236517205 : Int)).toNat)))) (2 ^ (min ((2 : Int)).toNat (IntKind.bits .u64)))) &&& BitVec.ofInt (IntKind.bits .u64) (3689348814741910323 : Int)).toNat)) + (IntKind.wrap .u64 ((BitVec.ofInt (IntKind.bits .u64) (IntKind.wrap .u64 ((IntKind.wrap .u64 ((BitVec.ofInt (IntKind.bits .u64) (Int.fdiv a0 (2 ^ (min ((1 : Int)).toNat (IntKind.bits .u64)))) &&& BitVec.ofInt (IntKind.bits .u64) (6148914691236517205 : Int)).toNat)) + (IntKind.wrap .u64 ((BitVec.ofInt (IntKind.bits .u64) a0 &&& BitVec.ofInt (IntKind.bits .u64) (6148914691236517205 : Int)).toNat)))) &&& BitVec.ofInt (IntKind.bits .u64) (3689348814741910323 : Int)).toNat)))) (2 ^ (min ((4 : Int)).toNat (IntKind.bits .u64)))) + (IntKind.wrap .u64 ((IntKind.wrap .u64 ((BitVec.ofInt (IntKind.bits .u64) (Int.fdiv (IntKind.wrap .u64 ((IntKind.wrap .u64 ((BitVec.ofInt (IntKind.bits .u64) (Int.fdiv a0 (2 ^ (min ((1 : Int)).toNat (IntKind.bits .u64)))) &&& BitVec.ofInt (IntKind.bits .u64) (6148914691236517205 : Int)).toNat)) + (IntKind.wrap .u64 ((BitVec.ofInt (IntKind.bits .u64) a0 &&& BitVec.ofInt (IntKind.bits .u64) (6148914691236517205 : Int)).toNat)))) (2 ^ (min ((2 : Int)).toNat (IntKind.bits .u64)))) &&& BitVec.ofInt (IntKind.bits .u64) (3689348814741910323 : Int)).toNat)) + (IntKind.wrap .u64 ((BitVec.ofInt (IntKind.bits .u64) (IntKind.wrap .u64 ((IntKind.wrap .u64 ((BitVec.ofInt (IntKind.bits .u64) (Int.fdiv a0 (2 ^ (min ((1 : Int)).toNat (IntKind.bits .u64)))) &&& BitVec.ofInt (IntKind.bits .u64) (6148914691236517205 : Int)).toNat)) + (IntKind.wrap .u64 ((BitVec.ofInt (IntKind.bits .u64) a0 &&& BitVec.ofInt (IntKind.bits .u64) (6148914691236517205 : Int)).toNat)))) &&& BitVec.ofInt (IntKind.bits .u64) (3689348814741910323 : Int)).toNat)))))) &&& BitVec.ofInt (IntKind.bits .u64) (1085102592571150095 : Int)).toNat)) + (Int.fdiv (IntKind.wrap .u64 ((BitVec.ofInt (IntKind.bits .u64) (IntKind.wrap .u64 ((Int.fdiv (IntKind.wrap .u64 ((IntKind.wrap .u64 ((BitVec.ofInt (IntKind.bits .u64) (Int.fdiv (IntKind.wrap .u64 ((IntKind.wrap .u64 ((BitVec.ofInt (IntKind.bits .u64) (Int.fdiv a0 (2 ^ (min ((1 : Int)).toNat (IntKind.bits .u64)))) &&& BitVec.ofInt (IntKind.bits .u64) (6148914691236517205 : Int)).toNat)) + (IntKind.wrap .u64 ((BitVec.ofInt (IntKind.bits .u64) a0 &&& BitVec.ofInt (IntKind.bits .u64) (6148914691236517205 : Int)).toNat)))) (2 ^ (min ((2 : Int)).toNat (IntKind.bits .u64)))) &&& BitVec.ofInt (IntKind.bits .u64) (3689348814741910323 : Int)).toNat)) + (IntKind.wrap .u64 ((BitVec.ofInt (IntKind.bits .u64) (IntKind.wrap .u64 ((IntKind.wrap .u64 ((BitVec.ofInt (IntKind.bits .u64) (Int.fdiv a0 (2 ^ (min ((1 : Int)).toNat (IntKind.bits .u64)))) &&& BitVec.ofInt (IntKind.bits .u64) (6148914691236517205 : Int)).toNat)) + (IntKind.wrap .u64 ((BitVec.ofInt (IntKind.bits .u64) a0 &&& BitVec.ofInt (IntKind.bits .u64) (6148914691236517205 : Int)).toNat)))) &&& BitVec.ofInt (IntKind.bits .u64) (3689348814741910323 : Int)).toNat)))) (2 ^ (min ((4 : Int)).toNat (IntKind.bits .u64)))) + (IntKind.wrap .u64 ((IntKind.wrap .u64 ((BitVec.ofInt (IntKind.bits .u64) (Int.fdiv (IntKind.wrap .u64 ((IntKind.wrap .u64 ((BitVec.ofInt (IntKind.bits .u64) (Int.fdiv a0 (2 ^ (min ((1 : Int)).toNat (IntKind.bits .u64)))) &&& BitVec.ofInt (IntKind.bits .u64) (6148914691236517205 : Int)).toNat)) + (IntKind.wrap .u64 ((BitVec.ofInt (IntKind.bits .u64) a0 &&& BitVec.ofInt (IntKind.bits .u64) (6148914691236517205 : Int)).toNat)))) (2 ^ (min ((2 : Int)).toNat (IntKind.bits .u64)))) &&& BitVec.ofInt (IntKind.bits .u64) (3689348814741910323 : Int)).toNat)) + (IntKind.wrap .u64 ((BitVec.ofInt (IntKind.bits .u64) (IntKind.wrap .u64 ((IntKind.wrap .u64 ((BitVec.ofInt (IntKind.bits .u64) (Int.fdiv a0 (2 ^ (min ((1 : Int)).toNat (IntKind.bits .u64)))) &&& BitVec.ofInt (IntKind.bits .u64) (6148914691236517205 : Int)).toNat)) + (IntKind.wrap .u64 ((BitVec.ofInt (IntKind.bits .u64) a0 &&& BitVec.ofInt (IntKind.bits .u64) (6148914691236517205 : Int)).toNat)))) &&& BitVec.ofInt (IntKind.bits .u64) (3689348814741910323 : Int)).toNat)))))) &&& BitVec.ofInt (IntKind.bits .u64) (1085102592571150095 : Int)).toNat)) (2 ^ (min ((8 : Int)).toNat (IntKind.bits .u64)))))) (2 ^ (min ((16 : Int)).toNat (IntKind.bits .u64)))))) + (Int.fdiv (IntKind.wrap .u64 ((IntKind.wrap .u64 ((IntKind.wrap .u64 ((BitVec.ofInt (IntKind.bits .u64) (IntKind.wrap .u64 ((Int.fdiv (IntKind.wrap .u64 ((IntKind.wrap .u64 ((BitVec.ofInt (IntKind.bits .u64) (Int.fdiv (IntKind.wrap .u64 ((IntKind.wrap .u64 ((BitVec.ofInt (IntKind.bits .u64) (Int.fdiv a0 (2 ^ (min ((1 : Int)).toNat (IntKind.bits .u64)))) &&& BitVec.ofInt (IntKind.bits .u64) (6148914691236517205 : Int)).toNat)) + (IntKind.wrap .u64 ((BitVec.ofInt (IntKind.bits .u64) a0 &&& BitVec.ofInt (IntKind.bits .u64) (6148914691236517205 : Int)).toNat)))) (2 ^ (min ((2 : Int)).toNat (IntKind.bits .u64)))) &&& BitVec.ofInt (IntKind.bits .u64) (3689348814741910323 : Int)).toNat)) + (IntKind.wrap .u64 ((BitVec.ofInt (IntKind.bits .u64) (IntKind.wrap .u64 ((IntKind.wrap .u64 ((BitVec.ofInt (IntKind.bits .u64) (Int.fdiv a0 (2 ^ (min ((1 : Int)).toNat (IntKind.bits .u64)))) &&& BitVec.ofInt (IntKind.bits .u64) (6148914691236517205 : Int)).toNat)) + (IntKind.wrap .u64 ((BitVec.ofInt (IntKind.bits .u64) a0 &&& BitVec.ofInt (IntKind.bits .u64) (6148914691236517205 : Int)).toNat)))) &&& BitVec.ofInt (IntKind.bits .u64) (3689348814741910323 : Int)).toNat)))) (2 ^ (min ((4 : Int)).toNat (IntKind.bits .u64)))) + (IntKind.wrap .u64 ((IntKind.wrap .u64 ((BitVec.ofInt (IntKind.bits .u64) (Int.fdiv (IntKind.wrap .u64 ((IntKind.wrap .u64 ((BitVec.ofInt (IntKind.bits .u64) (Int.fdiv a0 (2 ^ (min ((1 : Int)).toNat (IntKind.bits .u64)))) &&& BitVec.ofInt (IntKind.bits .u64) (6148914691236517205 : Int)).toNat)) + (IntKind.wrap .u64 ((BitVec.ofInt (IntKind.bits .u64) a0 &&& BitVec.ofInt (IntKind.bits .u64) (6148914691236517205 : Int)).toNat)))) (2 ^ (min ((2 : Int)).toNat (IntKind.bits .u64)))) &&& BitVec.ofInt (IntKind.bits .u64) (3689348814741910323 : Int)).toNat)) + (IntKind.wrap .u64 ((BitVec.ofInt (IntKind.bits .u64) (IntKind.wrap .u64 ((IntKind.wrap .u64 ((BitVec.ofInt (IntKind.bits .u64) (Int.fdiv a0 (2 ^ (min ((1 : Int)).toNat (IntKind.bits .u64)))) &&& BitVec.ofInt (IntKind.bits .u64) (6148914691236517205 : Int)).toNat)) + (IntKind.wrap .u64 ((BitVec.ofInt (IntKind.bits .u64) a0 &&& BitVec.ofInt (IntKind.bits .u64) (6148914691236517205 : Int)).toNat)))) &&& BitVec.ofInt (IntKind.bits .u64) (3689348814741910323 : Int)).toNat)))))) &&& BitVec.ofInt (IntKind.bits .u64) (1085102592571150095 : Int)).toNat)) + (Int.fdiv (IntKind.wrap .u64 ((BitVec.ofInt (IntKind.bits .u64) (IntKind.wrap .u64 ((Int.fdiv (IntKind.wrap .u64 ((IntKind.wrap .u64 ((BitVec.ofInt (IntKind.bits .u64) (Int.fdiv (IntKind.wrap .u64 ((IntKind.wrap .u64 ((BitVec.ofInt (IntKind.bits .u64) (Int.fdiv a0 (2 ^ (min ((1 : Int)).toNat (IntKind.bits .u64)))) &&& BitVec.ofInt (IntKind.bits .u64) (6148914691236517205 : Int)).toNat)) + (IntKind.wrap .u64 ((BitVec.ofInt (IntKind.bits .u64) a0 &&& BitVec.ofInt (IntKind.bits .u64) (6148914691236517205 : Int)).toNat)))) (2 ^ (min ((2 : Int)).toNat (IntKind.bits .u64)))) &&& BitVec.ofInt (IntKind.bits .u64) (3689348814741910323 : Int)).toNat)) + (IntKind.wrap .u64 ((BitVec.ofInt (IntKind.bits .u64) (IntKind.wrap .u64 ((IntKind.wrap .u64 ((BitVec.ofInt (IntKind.bits .u64) (Int.fdiv a0 (2 ^ (min ((1 : Int)).toNat (IntKind.bits .u64)))) &&& BitVec.ofInt (IntKind.bits .u64) (6148914691236517205 : Int)).toNat)) + (IntKind.wrap .u64 ((BitVec.ofInt (IntKind.bits .u64) a0 &&& BitVec.ofInt (IntKind.bits .u64) (6148914691236517205 : Int)).toNat)))) &&& BitVec.ofInt (IntKind.bits .u64) (3689348814741910323 : Int)).toNat)))) (2 ^ (min ((4 : Int)).toNat (IntKind.bits .u64)))) + (IntKind.wrap .u64 ((IntKind.wrap .u64 ((BitVec.ofInt (IntKind.bits .u64) (Int.fdiv (IntKind.wrap .u64 ((IntKind.wrap .u64 ((BitVec.ofInt (IntKind.bits .u64) (Int.fdiv a0 (2 ^ (min ((1 : Int)).toNat (IntKind.bits .u64)))) &&& BitVec.ofInt (IntKind.bits .u64) (6148914691236517205 : Int)).toNat)) + (IntKind.wrap .u64 ((BitVec.ofInt (IntKind.bits .u64) a0 &&& BitVec.ofInt (IntKind.bits .u64) (6148914691236517205 : Int)).toNat)))) (2 ^ (min ((2 : Int)).toNat (IntKind.bits .u64)))) &&& BitVec.ofInt (IntKind.bits .u64) (3689348814741910323 : Int)).toNat)) + (IntKind.wrap .u64 ((BitVec.ofInt (IntKind.bits .u64) (IntKind.wrap .u64 ((IntKind.wrap .u64 ((BitVec.ofInt (IntKind.bits .u64) (Int.fdiv a0 (2 ^ (min ((1 : Int)).toNat (IntKind.bits .u64)))) &&& BitVec.ofInt (IntKind.bits .u64) (6148914691236517205 : Int)).toNat)) + (IntKind.wrap .u64 ((BitVec.ofInt (IntKind.bits .u64) a0 &&& BitVec.ofInt (IntKind.bits .u64) (6148914691236517205 : Int)).toNat)))) &&& BitVec.ofInt (IntKind.bits .u64) (3689348814741910323 : Int)).toNat)))))) &&& BitVec.ofInt (IntKind.bits .u64) (1085102592571150095 : Int)).toNat)) (2 ^ (min ((8 : Int)).toNat (IntKind.bits .u64)))))) + (Int.fdiv (IntKind.wrap .u64 ((IntKind.wrap .u64 ((BitVec.ofInt (IntKind.bits .u64) (IntKind.wrap .u64 ((Int.fdiv (IntKind.wrap .u64 ((IntKind.wrap .u64 ((BitVec.ofInt (IntKind.bits .u64) (Int.fdiv (IntKind.wrap .u64 ((IntKind.wrap .u64 ((BitVec.ofInt (IntKind.bits .u64) (Int.fdiv a0 (2 ^ (min ((1 : Int)).toNat (IntKind.bits .u64)))) &&& BitVec.ofInt (IntKind.bits .u64) (6148914691236517205 : Int)).toNat)) + (IntKind.wrap .u64 ((BitVec.ofInt (IntKind.bits .u64) a0 &&& BitVec.ofInt (IntKind.bits .u64) (6148914691236517205 : Int)).toNat)))) (2 ^ (min ((2 : Int)).toNat (IntKind.bits .u64)))) &&& BitVec.ofInt (IntKind.bits .u64) (3689348814741910323 : Int)).toNat)) + (IntKind.wrap .u64 ((BitVec.ofInt (IntKind.bits .u64) (IntKind.wrap .u64 ((IntKind.wrap .u64 ((BitVec.ofInt (IntKind.bits .u64) (Int.fdiv a0 (2 ^ (min ((1 : Int)).toNat (IntKind.bits .u64)))) &&& BitVec.ofInt (IntKind.bits .u64) (6148914691236517205 : Int)).toNat)) + (IntKind.wrap .u64 ((BitVec.ofInt (IntKind.bits .u64) a0 &&& BitVec.ofInt (IntKind.bits .u64) (6148914691236517205 : Int)).toNat)))) &&& BitVec.ofInt (IntKind.bits .u64) (3689348814741910323 : Int)).toNat)))) (2 ^ (min ((4 : Int)).toNat (IntKind.bits .u64)))) + (IntKind.wrap .u64 ((IntKind.wrap .u64 ((BitVec.ofInt (IntKind.bits .u64) (Int.fdiv (IntKind.wrap .u64 ((IntKind.wrap .u64 ((BitVec.ofInt (IntKind.bits .u64) (Int.fdiv a0 (2 ^ (min ((1 : Int)).toNat (IntKind.bits .u64)))) &&& BitVec.ofInt (IntKind.bits .u64) (6148914691236517205 : Int)).toNat)) + (IntKind.wrap .u64 ((BitVec.ofInt (IntKind.bits .u64) a0 &&& BitVec.ofInt (IntKind.bits .u64) (6148914691236517205 : Int)).toNat)))) (2 ^ (min ((2 : Int)).toNat (IntKind.bits .u64)))) &&& BitVec.ofInt (IntKind.bits .u64) (3689348814741910323 : Int)).toNat)) + (IntKind.wrap .u64 ((BitVec.ofInt (IntKind.bits .u64) (IntKind.wrap .u64 ((IntKind.wrap .u64 ((BitVec.ofInt (IntKind.bits .u64) (Int.fdiv a0 (2 ^ (min ((1 : Int)).toNat (IntKind.bits .u64)))) &&& BitVec.ofInt (IntKind.bits .u64) (6148914691236517205 : Int)).toNat)) + (IntKind.wrap .u64 ((BitVec.ofInt (IntKind.bits .u64) a0 &&& BitVec.ofInt (IntKind.bits .u64) (6148914691236517205 : Int)).toNat)))) &&& BitVec.ofInt (IntKind.bits .u64) (3689348814741910323 : Int)).toNat)))))) &&& BitVec.ofInt (IntKind.bits .u64) (1085102592571150095 : Int)).toNat)) + (Int.fdiv (IntKind.wrap .u64 ((BitVec.ofInt (IntKind.bits .u64) (IntKind.wrap .u64 ((Int.fdiv (IntKind.wrap .u64 ((IntKind.wrap .u64 ((BitVec.ofInt (IntKind.bits .u64) (Int.fdiv (IntKind.wrap .u64 ((IntKind.wrap .u64 ((BitVec.ofInt (IntKind.bits .u64) (Int.fdiv a0 (2 ^ (min ((1 : Int)).toNat (IntKind.bits .u64)))) &&& BitVec.ofInt (IntKind.bits .u64) (6148914691236517205 : Int)).toNat)) + (IntKind.wrap .u64 ((BitVec.ofInt (IntKind.bits .u64) a0 &&& BitVec.ofInt (IntKind.bits .u64) (6148914691236517205 : Int)).toNat)))) (2 ^ (min ((2 : Int)).toNat (IntKind.bits .u64)))) &&& BitVec.ofInt (IntKind.bits .u64) (3689348814741910323 : Int)).toNat)) + (IntKind.wrap .u64 ((BitVec.ofInt (IntKind.bits .u64) (IntKind.wrap .u64 ((IntKind.wrap .u64 ((BitVec.ofInt (IntKind.bits .u64) (Int.fdiv a0 (2 ^ (min ((1 : Int)).toNat (IntKind.bits .u64)))) &&& BitVec.ofInt (IntKind.bits .u64) (6148914691236517205 : Int)).toNat)) + (IntKind.wrap .u64 ((BitVec.ofInt (IntKind.bits .u64) a0 &&& BitVec.ofInt (IntKind.bits .u64) (6148914691236517205 : Int)).toNat)))) &&& BitVec.ofInt (IntKind.bits .u64) (3689348814741910323 : Int)).toNat)))) (2 ^ (min ((4 : Int)).toNat (IntKind.bits .u64)))) + (IntKind.wrap .u64 ((IntKind.wrap .u64 ((BitVec.ofInt (IntKind.bits .u64) (Int.fdiv (IntKind.wrap .u64 ((IntKind.wrap .u64 ((BitVec.ofInt (IntKind.bits .u64) (Int.fdiv a0 (2 ^ (min ((1 : Int)).toNat (IntKind.bits .u64)))) &&& BitVec.ofInt (IntKind.bits .u64) (6148914691236517205 : Int)).toNat)) + (IntKind.wrap .u64 ((BitVec.ofInt (IntKind.bits .u64) a0 &&& BitVec.ofInt (IntKind.bits .u64) (6148914691236517205 : Int)).toNat)))) (2 ^ (min ((2 : Int)).toNat (IntKind.bits .u64)))) &&& BitVec.ofInt (IntKind.bits .u64) (3689348814741910323 : Int)).toNat)) + (IntKind.wrap .u64 ((BitVec.ofInt (IntKind.bits .u64) (IntKind.wrap .u64 ((IntKind.wrap .u64 ((BitVec.ofInt (IntKind.bits .u64) (Int.fdiv a0 (2 ^ (min ((1 : Int)).toNat (IntKind.bits .u64)))) &&& BitVec.ofInt (IntKind.bits .u64) (6148914691236517205 : Int)).toNat)) + (IntKind.wrap .u64 ((BitVec.ofInt (IntKind.bits .u64) a0 &&& BitVec.ofInt (IntKind.bits .u64) (6148914691236517205 : Int)).toNat)))) &&& BitVec.ofInt (IntKind.bits .u64) (3689348814741910323 : Int)).toNat)))))) &&& BitVec.ofInt (IntKind.bits .u64) (1085102592571150095 : Int)).toNat)) (2 ^ (min ((8 : Int)).toNat (IntKind.bits .u64)))))) (2 ^ (min ((16 : Int)).toNat (IntKind.bits .u64)))))) (2 ^ (min ((32 : Int)).toNat (IntKind.bits .u64))))))) &&& BitVec.ofInt (IntKind.bits .i64) (127 : Int)).toNat))

def pow2 (d : Nat) : Bool := [1, 2, 4, 8, 16, 32, 64, 128, 256, 512, 1024].contains d

theorem pop_all : (List.range 1025).all (fun d => decide (popC (d : Int) = 1) == pow2 d) = true := by decide +kernel

theorem pop_iff (d : Nat) (h : d ≤ 1024) : popC (d : Int) = 1 ↔ pow2 d = true := by
  have := List.all_eq_true.1 pop_all d (List.mem_range.2 (by omega))
  rw [beq_iff_eq] at this
  rw [← this, decide_eq_true_eq]

theorem popC_SC (a : Int) : SC cfg.P i_math_bits_OnesCount [.s (.v (.int .u64) a)] (.s (.v (.int .i64) (popC a))) [] :=
  math_bits_OnesCount_p1 _ _ (math_bits_OnesCount64_p1 a)

/-- Is it a fraction? -/
def goodF (x : Int × Int) : Bool := decide (1 ≤ x.2) && decide (x.2 ≤ 1024) && pow2 x.2.toNat && decide (0 ≤ x.1) && decide (x.1 ≤ x.2) && (decide (x.2 = 1) || decide (x.1 % 2 = 1))

theorem goodF_false {x : Int × Int} (h : ¬ (1 ≤ x.2 ∧ x.2 ≤ 1024 ∧ pow2 x.2.toNat = true ∧ 0 ≤ x.1 ∧ x.1 ≤ x.2 ∧ (x.2 = 1 ∨ x.1 % 2 = 1))) : goodF x = false := by
  cases hg : goodF x with
  | false => rfl
  | true =>
    simp only [goodF, Bool.and_eq_true, Bool.or_eq_true, decide_eq_true_eq] at hg
    exact absurd ⟨hg.1.1.1.1.1, hg.1.1.1.1.2, hg.1.1.1.2, hg.1.1.2, hg.1.2, hg.2⟩ h

theorem goodF_true {x : Int × Int} (h : 1 ≤ x.2 ∧ x.2 ≤ 1024 ∧ pow2 x.2.toNat = true ∧ 0 ≤ x.1 ∧ x.1 ≤ x.2 ∧ (x.2 = 1 ∨ x.1 % 2 = 1)) : goodF x = true := by
  obtain ⟨h1, h2, h3, h4, h5, h6⟩ := h
  simp only [goodF, Bool.and_eq_true, Bool.or_eq_true, decide_eq_true_eq]
  exact ⟨⟨⟨⟨⟨h1, h2⟩, h3⟩, h4⟩, h5⟩, h6⟩

theorem isFraction_SC (x : Int × Int) : SC cfg.P i_impl_IsFraction [.s (.v (.pr (.int .i64) (.int .i64)) x)] (.s (.v .bool (goodF x))) [] := by
  by_cases h1 : x.2 < 1
  · rw [goodF_false (fun h => by omega)]
    exact impl_IsFraction_p1 _ h1
  · by_cases h2 : x.2 > 1024
    · rw [goodF_false (fun h => by omega)]
      exact impl_IsFraction_p2 _ h1 h2
    · have hu : IntKind.wrap .u64 x.2 = x.2 := by simp [IntKind.wrap, IntKind.bits, IntKind.signed]; omega
      have hc := popC_SC x.2
      rw [← hu] at hc
      have hd : x.2 = ((x.2.toNat : Nat) : Int) := by omega
      have hiff := pop_iff x.2.toNat (by omega)
      rw [← hd] at hiff
      rw [← hu] at hiff
      by_cases hp : pow2 x.2.toNat = true
      · have c1 := hiff.2 (by rw [hu]; exact hp)
        by_cases h3 : x.1 < 0
        · rw [goodF_false (fun h => by omega)]
          exact impl_IsFraction_p4 _ _ h1 h2 (by rw [hu] at hc ⊢; exact hc) (by rw [hu] at c1; exact c1) h3
        · by_cases h4 : x.1 > x.2
          · rw [goodF_false (fun h => by omega)]
            exact impl_IsFraction_p5 _ _ h1 h2 (by rw [hu] at hc ⊢; exact hc) (by rw [hu] at c1; exact c1) h3 h4
          · by_cases h5 : x.2 = 1
            · rw [goodF_true ⟨by omega, by omega, hp, by omega, by omega, .inl h5⟩]
              exact impl_IsFraction_p6 _ _ h1 h2 (by rw [hu] at hc ⊢; exact hc) (by rw [hu] at c1; exact c1) h3 h4 h5
            · have ht : Int.tmod x.1 2 = x.1 % 2 := Int.tmod_eq_emod_of_nonneg (by omega)
              by_cases h6 : x.1 % 2 = 1
              · rw [goodF_true ⟨by omega, by omega, hp, by omega, by omega, .inr h6⟩]
                exact impl_IsFraction_p7 _ _ h1 h2 (by rw [hu] at hc ⊢; exact hc) (by rw [hu] at c1; exact c1) h3 h4 h5 (by decide) (by rw [ht]; exact h6)
              · rw [goodF_false (fun h => by omega)]
                exact impl_IsFraction_p8 _ _ h1 h2 (by rw [hu] at hc ⊢; exact hc) (by rw [hu] at c1; exact c1) h3 h4 h5 (by decide) (by rw [ht]; exact h6)
      · rw [goodF_false (fun h => hp h.2.2.1)]
        exact impl_IsFraction_p3 _ _ h1 h2 (by rw [hu] at hc ⊢; exact hc) (fun e => hp (by
          have := hiff.1 (by rw [hu]; exact e)
          rw [hu] at this
          exact this))

theorem pow2_step : (List.range 1025).all (fun d => decide (d ≤ 1) || (if d % 2 = 1 then !pow2 d else pow2 d == pow2 (d / 2))) = true := by decide +kernel

theorem pow2_odd {d : Nat} (h1 : 1 < d) (h2 : d ≤ 1024) (h : d % 2 = 1) : pow2 d = false := by
  have := List.all_eq_true.1 pow2_step d (List.mem_range.2 (by omega))
  rw [decide_eq_false (by omega), Bool.false_or, if_pos h] at this
  simpa using this

theorem pow2_half {d : Nat} (h1 : 1 < d) (h2 : d ≤ 1024) (h : ¬ d % 2 = 1) : pow2 d = pow2 (d / 2) := by
  have := List.all_eq_true.1 pow2_step d (List.mem_range.2 (by omega))
  rw [decide_eq_false (by omega), Bool.false_or, if_neg h, beq_iff_eq] at this
  exact this

theorem mpGood_L (x : Int × Int) : ∀ (n d : Nat), d ≤ n → 1 ≤ d → d ≤ 1024 →
    (pow2 d = false → LoopSC cfg.P 1 (lb P_spec_mpGood 0) (spec_mpGood_L0a (d : Int) x) .ret (spec_mpGood_L0X1 false)) ∧
    (pow2 d = true → LoopSC cfg.P 1 (lb P_spec_mpGood 0) (spec_mpGood_L0a (d : Int) x) (.exit 0) (spec_mpGood_L0X2 1 false x)) := by
  intro n
  induction n with
  | zero => intro d h1 h2; omega
  | succ n ih =>
    intro d hn h1 h2
    by_cases hd : d = 1
    · subst hd
      exact ⟨fun h => absurd h (by decide), fun _ => spec_mpGood_L0a_x3 _ _ (by decide)⟩
    · have ht : Int.tmod (d : Int) 2 = ((d % 2 : Nat) : Int) := rfl
      have ew : IntKind.wrap .i64 (Int.tdiv (d : Int) 2) = ((d / 2 : Nat) : Int) := by
        have e1 : Int.tdiv (d : Int) 2 = ((d / 2 : Nat) : Int) := rfl
        rw [e1, w64] <;> omega
      by_cases ho : d % 2 = 1
      · have hf := pow2_odd (by omega) h2 ho
        refine ⟨fun _ => spec_mpGood_L0a_x1 _ _ (by omega) (by decide) (by rw [ht, ho]; rfl), fun h => by rw [hf] at h; cases h⟩
      · have hh := pow2_half (by omega) h2 ho
        obtain ⟨i1, i2⟩ := ih (d / 2) (by omega) (by omega) (by omega)
        rw [← ew] at i1 i2
        have hne : Int.tmod (d : Int) 2 ≠ 1 := by rw [ht]; omega
        exact ⟨fun h => spec_mpGood_L0a_i2 _ _ (by omega) (by decide) hne (i1 (by rw [← hh]; exact h)), fun h => spec_mpGood_L0a_i2 _ _ (by omega) (by decide) hne (i2 (by rw [← hh]; exact h))⟩

theorem l1In_SC (a b c : Int) : SC cfg.P i_spec_l1In [.s (.v (.int .i64) a), .s (.v (.int .i64) b), .s (.v (.int .i64) c)] (.s (.v .bool (decide (a ≥ b ∧ a ≤ c)))) [] := by
  by_cases h1 : a ≥ b
  · by_cases h2 : a ≤ c
    · rw [decide_eq_true ⟨h1, h2⟩]; exact spec_l1In_p1 _ _ _ h1 h2
    · rw [decide_eq_false (fun h => h2 h.2)]; exact spec_l1In_p2 _ _ _ h1 h2
  · rw [decide_eq_false (fun h => h1 h.1)]; exact spec_l1In_p3 _ _ _ h1

theorem mpGood_SC (x : Int × Int) : SC cfg.P i_spec_mpGood [.s (.v (.pr (.int .i64) (.int .i64)) x)] (.s (.v .bool (goodF x))) [] := by
  have c1 := l1In_SC x.2 1 1024
  have c2 := l1In_SC x.1 0 x.2
  by_cases h1 : x.2 ≥ 1 ∧ x.2 ≤ 1024
  · rw [decide_eq_true h1] at c1
    by_cases h2 : x.1 ≥ 0 ∧ x.1 ≤ x.2
    · rw [decide_eq_true h2] at c2
      obtain ⟨i1, i2⟩ := mpGood_L x x.2.toNat x.2.toNat (Nat.le_refl _) (by omega) (by omega)
      have hd : ((x.2.toNat : Nat) : Int) = x.2 := by omega
      rw [hd] at i1 i2
      cases hp : pow2 x.2.toNat with
      | false =>
        rw [goodF_false (fun h => by rw [hp] at h; exact absurd h.2.2.1 (by decide))]
        exact spec_mpGood_p1 _ _ c1 c2 (i1 hp)
      | true =>
        have hL := i2 hp
        by_cases h5 : x.2 = 1
        · rw [goodF_true ⟨by omega, by omega, hp, by omega, by omega, .inl h5⟩]
          exact spec_mpGood_p2 _ _ _ _ c1 c2 hL h5
        · have ht : Int.tmod x.1 2 = x.1 % 2 := Int.tmod_eq_emod_of_nonneg (by omega)
          by_cases h6 : x.1 % 2 = 1
          · rw [goodF_true ⟨by omega, by omega, hp, by omega, by omega, .inr h6⟩]
            exact spec_mpGood_p3 _ _ _ _ c1 c2 hL h5 (by decide) (by rw [ht]; exact h6)
          · rw [goodF_false (fun h => by omega)]
            exact spec_mpGood_p4 _ _ _ _ c1 c2 hL h5 (by decide) (by rw [ht]; exact h6)
    · rw [decide_eq_false h2] at c2
      rw [goodF_false (fun h => h2 ⟨by omega, by omega⟩)]
      exact spec_mpGood_p5 _ c1 c2
  · rw [decide_eq_false h1] at c1
    rw [goodF_false (fun h => h1 ⟨by omega, by omega⟩)]
    exact spec_mpGood_p6 _ c1

end Go.AI
