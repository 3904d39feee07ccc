/- A part of the road: what it proves stands in its last texts. -/
import Derived.Test.YtnhjfdkogbelaaaGZ
import Derived.Test.YtnhjfdkogbelaaaCT
section
/- Contracts: addresses of leaves. -/
set_option autoImplicit false
set_option maxRecDepth 100000
set_option linter.unusedVariables false
namespace Go.AI
open Go.Proofs

/-- The addresses of the leaves, behind that of the tree. -/
def adL : Tr → List UInt8 → List (List UInt8)
  | .leaf, p => [p]
  | .node l r, p => adL l (p ++ [48]) ++ adL r (p ++ [49])

abbrev strs' (l : List (List UInt8)) : List ByteArray := l.map bs

theorem adL_len : ∀ (t : Tr) (p : List UInt8), (adL t p).length = t.c + 1
  | .leaf, _ => rfl
  | .node l r, p => by simp only [adL, List.length_append, adL_len l, adL_len r, Tr.c]; omega

theorem zokS (l m : List ByteArray) (h : l.length + m.length ≤ 2 ^ 40) : sizeOK (List.length l + List.length m) := h

theorem addresses_SC : ∀ (t : Tr) (p : List UInt8), t.c ≤ 2 ^ 20 → p.length + t.c ≤ 2 ^ 30 → SC cfg.P i_impl_node_addresses [.s (.v .tree t), .s (.v .str (bs p))] (.s (.own t_string .str (strs' (adL t p)))) []
  | .leaf, p, _, _ => impl_node_addresses_p1 _
  | .node l r, p, h, hp => by
    simp only [Tr.c] at h hp
    have h1 := addresses_SC l (p ++ [48]) (by omega) (by simp; omega)
    have h2 := addresses_SC r (p ++ [49]) (by omega) (by simp; omega)
    have e0 : bs (p ++ [48]) = bs p ++ (⟨#[48]⟩ : ByteArray) := by show _ = bs p ++ bs [48]; rw [bs_append]
    have e1 : bs (p ++ [49]) = bs p ++ (⟨#[49]⟩ : ByteArray) := by show _ = bs p ++ bs [49]; rw [bs_append]
    rw [e0] at h1
    rw [e1] at h2
    have e : strs' (adL (.node l r) p) = strs' (adL l (p ++ [48])) ++ strs' (adL r (p ++ [49])) := by simp [adL]
    rw [e]
    have s0 : ((⟨#[48]⟩ : ByteArray)).size = 1 := rfl
    have s1 : ((⟨#[49]⟩ : ByteArray)).size = 1 := rfl
    exact impl_node_addresses_p2 _ _ _ _ _ (by rw [bs_size, s0]; omega) h1 (by rw [bs_size, s1]; omega) h2 (zokS _ _ (by simp [adL_len]; omega))

theorem trAddresses_SC : ∀ (t : Tr) (p : List UInt8), t.c ≤ 50 → p.length + t.c ≤ 2 ^ 30 → SC cfg.P i_spec_trAddresses [.s (.v .str (bs (txt t))), .s (.v .str (bs p))] (.s (.own t_string .str (strs' (adL t p)))) []
  | .leaf, p, _, _ => spec_trAddresses_p1 _ _ trLeaf_leaf
  | .node l r, p, h, hp => by
    have h' := h
    simp only [Tr.c] at h hp
    have h1 := trAddresses_SC l (p ++ [48]) (by omega) (by simp; omega)
    have h2 := trAddresses_SC r (p ++ [49]) (by omega) (by simp; omega)
    have e0 : bs (p ++ [48]) = bs p ++ (⟨#[48]⟩ : ByteArray) := by show _ = bs p ++ bs [48]; rw [bs_append]
    have e1 : bs (p ++ [49]) = bs p ++ (⟨#[49]⟩ : ByteArray) := by show _ = bs p ++ bs [49]; rw [bs_append]
    rw [e0] at h1
    rw [e1] at h2
    have e : strs' (adL (.node l r) p) = strs' (adL l (p ++ [48])) ++ strs' (adL r (p ++ [49])) := by simp [adL]
    rw [e]
    have s0 : ((⟨#[48]⟩ : ByteArray)).size = 1 := rfl
    have s1 : ((⟨#[49]⟩ : ByteArray)).size = 1 := rfl
    exact spec_trAddresses_p2 _ _ _ _ _ _ (trLeaf_node _ _) (trSides_SC _ _ h') (by rw [bs_size, s0]; omega) h1 (by rw [bs_size, s1]; omega) h2 (zokS _ _ (by simp [adL_len]; omega))

/-- Where the interval of an address begins. -/
def plF : List UInt8 → Nat → Nat → Nat
  | [], _, place => place
  | c :: r, part, place => plF r (part / 2) (if c = 49 then place + part / 2 else place)

theorem placeOf_SC (l : List UInt8) (hl : l.length ≤ 2 ^ 20) : SC cfg.P i_impl_placeOf [.s (.v .str (bs l))] (.s (.v (.int .i64) ((plF l 1099511627776 0 : Nat) : Int))) [] := by
  have key : ∀ (m i part place : Nat), l.length - i = m → i ≤ l.length → part ≤ 2 ^ 40 → place + part ≤ 2 ^ 41 →
      ∃ part' : Nat, LoopSC cfg.P 1 (lb P_impl_placeOf 0) (impl_placeOf_L0a (bs l) (place : Int) (part : Int) ((bs l).size : Int) (i : Int)) (.exit 0) (impl_placeOf_L0X1 (bs l) ((plF (l.drop i) part place : Nat) : Int) (part' : Int) ((bs l).size : Int) (l.length : Int) false) := by
    intro m
    induction m with
    | zero =>
      intro i part place hm hi hp hq
      have e : i = l.length := by omega
      subst e
      rw [List.drop_length]
      exact ⟨part, impl_placeOf_L0a_x3 _ _ _ _ _ (by rw [bs_size]; omega)⟩
    | succ m ih =>
      intro i part place hm hi hp hq
      have hlt : i < l.length := by omega
      have hd : l.drop i = l[i] :: l.drop (i + 1) := List.drop_eq_getElem_cons hlt
      have hg : bt (bs l) (i : Int) = (l[i].toNat : Int) := by rw [bs_bt, Int.toNat_natCast, List.getD_eq_getElem?_getD, List.getElem?_eq_getElem hlt]; rfl
      have ew : IntKind.wrap .i64 ((i : Int) + 1) = ((i + 1 : Nat) : Int) := by rw [w64] <;> omega
      have eh : IntKind.wrap .i64 (Int.tdiv (part : Int) 2) = ((part / 2 : Nat) : Int) := by
        have e1 : Int.tdiv (part : Int) 2 = ((part / 2 : Nat) : Int) := by rfl
        rw [e1, w64] <;> omega
      rw [hd]
      simp only [plF]
      by_cases h : l[i] = 49
      · rw [if_pos h]
        obtain ⟨p', hn⟩ := ih (i + 1) (part / 2) (place + part / 2) (by omega) (by omega) (by omega) (by omega)
        have ep : IntKind.wrap .i64 ((place : Int) + ((part / 2 : Nat) : Int)) = ((place + part / 2 : Nat) : Int) := by rw [w64] <;> omega
        rw [← ew, ← ep, ← eh] at hn
        exact ⟨p', impl_placeOf_L0a_i1 _ _ _ _ _ (by rw [bs_size]; omega) (by decide) (by omega) (by rw [bs_size]; omega) (by rw [hg, h]; rfl) hn⟩
      · rw [if_neg h]
        obtain ⟨p', hn⟩ := ih (i + 1) (part / 2) place (by omega) (by omega) (by omega) (by omega)
        rw [← ew, ← eh] at hn
        exact ⟨p', impl_placeOf_L0a_i2 _ _ _ _ _ (by rw [bs_size]; omega) (by decide) (by omega) (by rw [bs_size]; omega) (by rw [hg]; intro e; exact h ((byte_eq _ 49).1 e)) hn⟩
  obtain ⟨p', h⟩ := key l.length 0 1099511627776 0 (by omega) (by omega) (by omega) (by omega)
  exact impl_placeOf_p1 _ _ _ _ _ _ _ h

theorem adL_bound : ∀ (t : Tr) (p a : List UInt8), a ∈ adL t p → a.length ≤ p.length + t.c
  | .leaf, p, a, h => by simp [adL] at h; subst h; simp [Tr.c]
  | .node l r, p, a, h => by
    simp only [adL] at h
    simp only [Tr.c]
    rcases List.mem_append.1 h with h | h
    · have := adL_bound l _ a h; simp at this; omega
    · have := adL_bound r _ a h; simp at this; omega

/-- A piece: where it begins on both sides, and how deep it lies. -/
def pc (f t : List UInt8) : Int × (Int × (Int × Int)) := (((plF f 1099511627776 0 : Nat) : Int), (((plF t 1099511627776 0 : Nat) : Int), ((f.length : Int), (t.length : Int))))

abbrev Pc : Type := Int × (Int × (Int × Int))

theorem strs_get (l : List (List UInt8)) (i : Nat) (h : i < l.length) : List.getD (strs' l) ((i : Int)).toNat ⟨#[]⟩ = bs l[i] := by
  rw [Int.toNat_natCast, List.getD_eq_getElem?_getD, List.getElem?_map, List.getElem?_eq_getElem h]; rfl

theorem pieces_L (f t : List (List UInt8)) (hl : f.length = t.length) (hf : f.length ≤ 2 ^ 30) (hbf : ∀ a ∈ f, a.length ≤ 2 ^ 20) (hbt : ∀ a ∈ t, a.length ≤ 2 ^ 20) : ∀ (m i : Nat) (cur : List Pc), f.length - i = m → i ≤ f.length → cur.length ≤ i →
    LoopSC cfg.P 1 (lb P_impl_pair_pieces 0) (impl_pair_pieces_L0a ((List.length (strs' f) : Nat) : Int) (i : Int) cur (strs' t) (strs' f)) (.exit 0)
      (impl_pair_pieces_L0X1 ((List.length (strs' f) : Nat) : Int) (f.length : Int) false (cur ++ List.zipWith pc (f.drop i) (t.drop i)) (strs' t) (strs' f)) := by
  have hlf : List.length (strs' f) = f.length := List.length_map ..
  have hlt' : List.length (strs' t) = t.length := List.length_map ..
  intro m
  induction m with
  | zero =>
    intro i cur hm hi hc
    have e : i = f.length := by omega
    subst e
    rw [List.drop_length, List.zipWith_nil_left, List.append_nil]
    exact impl_pair_pieces_L0a_x2 _ _ _ _ _ (by rw [hlf]; omega)
  | succ m ih =>
    intro i cur hm hi hc
    have hi1 : i < f.length := by omega
    have hi2 : i < t.length := by omega
    have ew : IntKind.wrap .i64 ((i : Int) + 1) = ((i + 1 : Nat) : Int) := by rw [w64] <;> omega
    have hg1 := strs_get f i hi1
    have hg2 := strs_get t i hi2
    have h1 := placeOf_SC f[i] (hbf _ (List.getElem_mem hi1))
    have h2 := placeOf_SC t[i] (hbt _ (List.getElem_mem hi2))
    rw [← hg1] at h1
    rw [← hg2] at h2
    have hn := ih (i + 1) (cur ++ [pc f[i] t[i]]) (by omega) (by omega) (by simp; omega)
    rw [List.drop_eq_getElem_cons hi1, List.drop_eq_getElem_cons hi2, List.zipWith_cons_cons]
    rw [List.append_assoc, List.singleton_append, ← ew] at hn
    have epc : pc f[i] t[i] = (((plF f[i] 1099511627776 0 : Nat) : Int), (((plF t[i] 1099511627776 0 : Nat) : Int), (((List.getD (strs' f) ((i : Int)).toNat ⟨#[]⟩).size : Int), ((List.getD (strs' t) ((i : Int)).toNat ⟨#[]⟩).size : Int)))) := by
      rw [hg1, hg2]; rfl
    have hz : ∀ x : Pc, sizeOK (List.length cur + List.length ([x] : List Pc)) := fun x => by unfold sizeOK lim; simp; omega
    have e2 : cur ++ [pc f[i] t[i]] = cur ++ [(((plF f[i] 1099511627776 0 : Nat) : Int), (((plF t[i] 1099511627776 0 : Nat) : Int), (((List.getD (strs' f) ((i : Int)).toNat ⟨#[]⟩).size : Int), ((List.getD (strs' t) ((i : Int)).toNat ⟨#[]⟩).size : Int))))] := by rw [epc]
    rw [e2] at hn
    exact impl_pair_pieces_L0a_i1 _ _ _ _ _ _ _ (by rw [hlf]; omega) (by omega) (by rw [hlf]; omega) (by rw [hlf]; omega) h1 (by rw [hlt']; omega) (by rw [hlt']; omega) h2 (hz _) hn

theorem pieces_SC (p : Tr × Tr) (h1 : p.1.c ≤ 2 ^ 19) (h2 : p.1.c = p.2.c) :
    SC cfg.P i_impl_pair_pieces [.s (.v (.pr .tree .tree) p)] (.s (.own t_impl_piece (.pr (.int .i64) (.pr (.int .i64) (.pr (.int .i64) (.int .i64)))) (List.zipWith pc (adL p.1 []) (adL p.2 [])))) [] := by
  have a1 := addresses_SC p.1 [] (by omega) (by simp; omega)
  have a2 := addresses_SC p.2 [] (by omega) (by simp; omega)
  have l1 := adL_len p.1 []
  have l2 := adL_len p.2 []
  have hL := pieces_L (adL p.1 []) (adL p.2 []) (by omega) (by omega) (fun a ha => by have := adL_bound _ _ _ ha; simp at this; omega) (fun a ha => by have := adL_bound _ _ _ ha; simp at this; omega) _ 0 [] rfl (by omega) (by simp)
  rw [List.drop_zero, List.drop_zero, List.nil_append] at hL
  exact impl_pair_pieces_p1 _ _ _ _ _ _ _ _ _ a2 a1 hL

/-! ### Fractions -/

end Go.AI
end

section
/- Contracts: where the leaves begin; the law of the leaf at a fraction. -/
set_option autoImplicit false
set_option maxRecDepth 100000
set_option linter.unusedVariables false
namespace Go.AI
open Go.Proofs

theorem gcd_L : ∀ (n a b : Nat), b ≤ n → a ≤ 2 ^ 40 → b ≤ 2 ^ 40 → LoopSC cfg.P 2 (lb P_spec_mpGcd 0) (spec_mpGcd_L0a (a : Int) (b : Int)) (.exit 0) (spec_mpGcd_L0X1 ((Nat.gcd a b : Nat) : Int) 0 false) := by
  intro n
  induction n with
  | zero =>
    intro a b hb _ _
    have : b = 0 := by omega
    subst this
    rw [Nat.gcd_zero_right]
    exact spec_mpGcd_L0a_x2 _ _ (by decide)
  | succ n ih =>
    intro a b hb h1 h2
    by_cases h : b = 0
    · subst h
      rw [Nat.gcd_zero_right]
      exact spec_mpGcd_L0a_x2 _ _ (by decide)
    · have hm : a % b < b := Nat.mod_lt _ (by omega)
      have hn := ih b (a % b) (by omega) h2 (by omega)
      have e : Nat.gcd b (a % b) = Nat.gcd a b := by rw [Nat.gcd_comm b (a % b), ← Nat.gcd_rec, Nat.gcd_comm]
      rw [e] at hn
      exact spec_mpGcd_L0a_i1 _ _ (by omega) (by omega) hn

theorem gcd_SC (a b : Nat) (h1 : a ≤ 2 ^ 40) (h2 : b ≤ 2 ^ 40) : SC cfg.P i_spec_mpGcd [.s (.v (.int .i64) (a : Int)), .s (.v (.int .i64) (b : Int))] (.s (.v (.int .i64) ((Nat.gcd a b : Nat) : Int))) [] :=
  spec_mpGcd_p1 _ _ _ _ _ (gcd_L b a b (Nat.le_refl _) h1 h2)

theorem short_SC (a b : Nat) (h1 : a ≤ 2 ^ 40) (h2 : b ≤ 2 ^ 40) (hb : 0 < b) : SC cfg.P i_spec_mpShort [.s (.v (.int .i64) (a : Int)), .s (.v (.int .i64) (b : Int))] (.s (.v (.pr (.int .i64) (.int .i64)) (((a / Nat.gcd a b : Nat) : Int), ((b / Nat.gcd a b : Nat) : Int)))) [] := by
  have hg : 0 < Nat.gcd a b := Nat.gcd_pos_of_pos_right _ hb
  have e1 : IntKind.wrap .i64 (Int.tdiv (a : Int) ((Nat.gcd a b : Nat) : Int)) = ((a / Nat.gcd a b : Nat) : Int) := by
    have e : Int.tdiv (a : Int) ((Nat.gcd a b : Nat) : Int) = ((a / Nat.gcd a b : Nat) : Int) := rfl
    have hq := Nat.div_le_self a (Nat.gcd a b)
    rw [e]
    generalize a / Nat.gcd a b = q at hq ⊢
    rw [w64] <;> omega
  have e2 : IntKind.wrap .i64 (Int.tdiv (b : Int) ((Nat.gcd a b : Nat) : Int)) = ((b / Nat.gcd a b : Nat) : Int) := by
    have e : Int.tdiv (b : Int) ((Nat.gcd a b : Nat) : Int) = ((b / Nat.gcd a b : Nat) : Int) := rfl
    have hq := Nat.div_le_self b (Nat.gcd a b)
    rw [e]
    generalize b / Nat.gcd a b = q at hq ⊢
    rw [w64] <;> omega
  have := spec_mpShort_p2 (a : Int) (b : Int) _ (gcd_SC a b h1 h2) (by omega) (by omega)
  rw [e1, e2] at this
  exact this

/-- The number that an address spells. -/
def bn : List UInt8 → Nat
  | [] => 0
  | c :: r => (if c = 49 then 2 ^ r.length else 0) + bn r

theorem bn_lt : ∀ l : List UInt8, bn l < 2 ^ l.length
  | [] => by simp [bn]
  | c :: r => by
    have := bn_lt r
    simp only [bn, List.length_cons, Nat.pow_succ]
    split <;> omega

def bits01 (l : List UInt8) : Prop := ∀ c ∈ l, c = 48 ∨ c = 49

theorem plF_eq : ∀ (l : List UInt8) (k p : Nat), l.length ≤ k → plF l (2 ^ k) p = p + bn l * 2 ^ (k - l.length)
  | [], k, p, _ => by simp [plF, bn]
  | c :: r, k, p, h => by
    simp only [List.length_cons] at h
    obtain ⟨k', rfl⟩ : ∃ k', k = k' + 1 := ⟨k - 1, by omega⟩
    have e : 2 ^ (k' + 1) / 2 = 2 ^ k' := by rw [Nat.pow_succ]; omega
    simp only [plF, e, bn, List.length_cons]
    rw [plF_eq r k' _ (by omega)]
    have e2 : k' + 1 - (r.length + 1) = k' - r.length := by omega
    rw [e2]
    have e3 : 2 ^ r.length * 2 ^ (k' - r.length) = 2 ^ k' := by rw [← Nat.pow_add]; congr 1; omega
    split
    · rw [Nat.add_mul, e3]; omega
    · rw [Nat.zero_add]

theorem mpOf_SC (l : List UInt8) (hl : l.length ≤ 20) (h01 : bits01 l) : SC cfg.P i_spec_mpOf [.s (.v .str (bs l))] (.s (.v (.pr (.int .i64) (.int .i64)) (((bn l / Nat.gcd (bn l) (2 ^ l.length) : Nat) : Int), ((2 ^ l.length / Nat.gcd (bn l) (2 ^ l.length) : Nat) : Int)))) [] := by
  have hp20 : 2 ^ l.length ≤ 2 ^ 20 := Nat.pow_le_pow_right (by omega) hl
  have key : ∀ (m i acc : Nat), l.length - i = m → i ≤ l.length → acc < 2 ^ i →
      LoopSC cfg.P 1 (lb P_spec_mpOf 0) (spec_mpOf_L0a (bs l) (acc : Int) (i : Int) ((0 : Int), (0 : Int))) (.exit 0) (spec_mpOf_L0X1 (bs l) ((acc * 2 ^ (l.length - i) + bn (l.drop i) : Nat) : Int) (l.length : Int) false ((0 : Int), (0 : Int))) := by
    intro m
    induction m with
    | zero =>
      intro i acc hm hi ha
      have e : i = l.length := by omega
      subst e
      rw [List.drop_length]
      simp only [Nat.sub_self, Nat.pow_zero, Nat.mul_one, bn, Nat.add_zero]
      exact spec_mpOf_L0a_x2 _ _ _ _ (by rw [bs_size]; omega)
    | succ m ih =>
      intro i acc hm hi ha
      have hlt : i < l.length := by omega
      have hd : l.drop i = l[i] :: l.drop (i + 1) := List.drop_eq_getElem_cons hlt
      have hg : bt (bs l) (i : Int) = (l[i].toNat : Int) := by rw [bs_bt, Int.toNat_natCast, List.getD_eq_getElem?_getD, List.getElem?_eq_getElem hlt]; rfl
      have ew : IntKind.wrap .i64 ((i : Int) + 1) = ((i + 1 : Nat) : Int) := by rw [w64] <;> omega
      have hi20 : 2 ^ i ≤ 2 ^ 20 := Nat.pow_le_pow_right (by omega) (by omega)
      obtain ⟨v, hv, hv1⟩ : ∃ v : Nat, v ≤ 1 ∧ (IntKind.wrap .i64 (IntKind.wrap .u8 (bt (bs l) (i : Int) - 48)) = (v : Int)) ∧ (if l[i] = 49 then 1 else 0) = v := by
        rcases h01 l[i] (List.getElem_mem hlt) with h | h
        · refine ⟨0, by omega, ?_, by rw [h]; rfl⟩
          rw [hg, h]; rfl
        · refine ⟨1, by omega, ?_, by rw [h]; rfl⟩
          rw [hg, h]; rfl
      have e1 : IntKind.wrap .i64 ((2 : Int) * (acc : Int)) = ((2 * acc : Nat) : Int) := by rw [w64] <;> omega
      have e2 : IntKind.wrap .i64 (((2 * acc : Nat) : Int) + (v : Int)) = ((2 * acc + v : Nat) : Int) := by rw [w64] <;> omega
      have hn := ih (i + 1) (2 * acc + v) (by omega) (by omega) (by rw [Nat.pow_succ]; omega)
      have hval : (2 * acc + v) * 2 ^ (l.length - (i + 1)) + bn (l.drop (i + 1)) = acc * 2 ^ (l.length - i) + bn (l.drop i) := by
        rw [hd]
        simp only [bn]
        have hlen : (l.drop (i + 1)).length = l.length - (i + 1) := by simp
        have hpw : 2 ^ (l.length - i) = 2 * 2 ^ (l.length - (i + 1)) := by
          rw [← Nat.pow_succ']
          congr 1
          omega
        rw [hlen, hpw, Nat.add_mul, ← hv1.2]
        split
        · rw [Nat.one_mul, ← Nat.mul_assoc, Nat.mul_comm acc 2, Nat.add_assoc]
        · rw [Nat.zero_mul, ← Nat.mul_assoc, Nat.mul_comm acc 2, Nat.zero_add, Nat.add_zero]
      rw [hval, ← ew, ← e2, ← e1, ← hv1.1] at hn
      exact spec_mpOf_L0a_i1 _ _ _ _ (by rw [bs_size]; omega) (by omega) hn
  have h0 := key l.length 0 0 (by omega) (by omega) (by simp)
  rw [Nat.zero_mul, Nat.zero_add, List.drop_zero] at h0
  have hlt := bn_lt l
  have hs := short_SC (bn l) (2 ^ l.length) (by omega) (by omega) (Nat.pow_pos (by omega))
  have ep : IntKind.wrap .i64 ((1 : Int) * 2 ^ (min (((bs l).size : Int)).toNat (IntKind.bits .i64))) = ((2 ^ l.length : Nat) : Int) := by
    rw [bs_size, Int.toNat_natCast]
    have hmin : min l.length (IntKind.bits .i64) = l.length := by
      have : IntKind.bits .i64 = 64 := rfl
      omega
    rw [hmin, Int.one_mul]
    have hc : ((2 : Int) ^ l.length) = ((2 ^ l.length : Nat) : Int) := by push_cast; rfl
    rw [hc, w64] <;> omega
  rw [← ep] at hs
  exact spec_mpOf_p1 _ _ _ _ _ _ _ h0 (by omega) hs

end Go.AI
end

section
/- The plain law of leaves and places: intervals of leaves follow one another. -/
set_option autoImplicit false
set_option maxRecDepth 100000
set_option linter.unusedVariables false
namespace Go.AI
open Go.Proofs

/-- The interval of an address, in grains. -/
def iv (a : List UInt8) : Nat × Nat := (plF a 1099511627776 0, plF a 1099511627776 0 + 1099511627776 / 2 ^ a.length)

def tiles : List (Nat × Nat) → Nat → Nat → Prop
  | [], a, b => a = b
  | (s, e) :: r, a, b => s = a ∧ a < e ∧ tiles r e b

theorem tiles_app : ∀ (l m : List (Nat × Nat)) (a b c : Nat), tiles l a b → tiles m b c → tiles (l ++ m) a c
  | [], m, a, b, c, h1, h2 => by rw [show a = b from h1]; exact h2
  | (s, e) :: r, m, a, b, c, ⟨h1, h2, h3⟩, h4 => ⟨h1, h2, tiles_app r m e b c h3 h4⟩

theorem plF_snoc : ∀ (p : List UInt8) (c : UInt8) (k pl : Nat), plF (p ++ [c]) k pl = if c = 49 then plF p k pl + k / 2 ^ (p.length + 1) else plF p k pl
  | [], c, k, pl => by simp [plF]
  | d :: r, c, k, pl => by
    simp only [List.cons_append, plF, List.length_cons]
    rw [plF_snoc r c (k / 2) _, Nat.div_div_eq_div_mul, ← Nat.pow_succ']

theorem grain_div {n : Nat} (h : n ≤ 40) : 1099511627776 / 2 ^ n = 2 ^ (40 - n) := by
  have e : (1099511627776 : Nat) = 2 ^ n * 2 ^ (40 - n) := by
    rw [← Nat.pow_add, show n + (40 - n) = 40 by omega]
  rw [e, Nat.mul_div_cancel_left _ (Nat.pow_pos (by omega))]

theorem tiles_adL : ∀ (t : Tr) (p : List UInt8), p.length + t.c ≤ 40 → tiles ((adL t p).map iv) (plF p 1099511627776 0) (plF p 1099511627776 0 + 1099511627776 / 2 ^ p.length)
  | .leaf, p, h => by
    simp only [Tr.c] at h
    have hp : 0 < 1099511627776 / 2 ^ p.length := by rw [grain_div (by omega)]; exact Nat.pow_pos (by omega)
    exact ⟨rfl, Nat.lt_add_of_pos_right hp, rfl⟩
  | .node l r, p, h => by
    simp only [Tr.c] at h
    have h1 := tiles_adL l (p ++ [48]) (by simp; omega)
    have h2 := tiles_adL r (p ++ [49]) (by simp; omega)
    simp only [plF_snoc, List.length_append, List.length_singleton] at h1 h2
    rw [if_neg (by decide)] at h1
    simp only [if_true] at h2
    simp only [adL, List.map_append]
    have e : 1099511627776 / 2 ^ p.length = 1099511627776 / 2 ^ (p.length + 1) + 1099511627776 / 2 ^ (p.length + 1) := by
      rw [grain_div (by omega), grain_div (by omega), show 40 - p.length = (40 - (p.length + 1)) + 1 by omega, Nat.pow_succ]
      omega
    rw [e, ← Nat.add_assoc]
    exact tiles_app _ _ _ _ _ h1 h2

/-- The first interval that ends behind a place; else the last one. -/
def lf : List (Nat × Nat) → Nat → Nat → Nat
  | [], _, i => i - 1
  | (_, e) :: r, x, i => if x < e then i else lf r x (i + 1)

theorem adL_bits : ∀ (t : Tr) (p a : List UInt8), bits01 p → a ∈ adL t p → bits01 a
  | .leaf, p, a, hp, h => by simp [adL] at h; subst h; exact hp
  | .node l r, p, a, hp, h => by
    simp only [adL] at h
    rcases List.mem_append.1 h with h | h
    · exact adL_bits l _ a (by intro c hc; rcases List.mem_append.1 hc with h | h; exact hp c h; simp at h; exact .inl h) h
    · exact adL_bits r _ a (by intro c hc; rcases List.mem_append.1 hc with h | h; exact hp c h; simp at h; exact .inr h) h

end Go.AI
end

section
/- Contracts: the leaf at a fraction. -/
set_option autoImplicit false
set_option maxRecDepth 100000
set_option linter.unusedVariables false
namespace Go.AI
open Go.Proofs

/-- The fraction of an address. -/
def frA (a : List UInt8) : Int × Int := (((bn a / Nat.gcd (bn a) (2 ^ a.length) : Nat) : Int), ((2 ^ a.length / Nat.gcd (bn a) (2 ^ a.length) : Nat) : Int))

theorem adL_ok {t : Tr} {n : Nat} (h : t.c ≤ n) : ∀ a ∈ adL t [], a.length ≤ n ∧ bits01 a := fun a ha =>
  ⟨by have := adL_bound t [] a ha; simp at this; omega, adL_bits t [] a (by intro c hc; cases hc) ha⟩

theorem iv_le (a : List UInt8) (ha : a.length ≤ 40) : plF a 1099511627776 0 < 1099511627776 ∧ (iv a).2 ≤ 1099511627776 := by
  have e := plF_eq a 40 0 ha
  rw [Nat.zero_add, show (2 : Nat) ^ 40 = 1099511627776 from rfl] at e
  have hb := bn_lt a
  have hk : 2 ^ a.length * 2 ^ (40 - a.length) = 1099511627776 := by
    rw [← Nat.pow_add, show a.length + (40 - a.length) = 40 by omega]
  have hpos : 0 < 2 ^ (40 - a.length) := Nat.pow_pos (by omega)
  have h1 : (bn a + 1) * 2 ^ (40 - a.length) ≤ 1099511627776 := by
    rw [← hk]; exact Nat.mul_le_mul_right _ hb
  rw [Nat.add_mul, Nat.one_mul] at h1
  simp only [iv]
  rw [grain_div ha, e]
  omega

theorem end_SC (a b : List UInt8) (ha : a.length ≤ 40) : SC cfg.P i_impl_piece_end [.s (.v (.pr (.int .i64) (.pr (.int .i64) (.pr (.int .i64) (.int .i64)))) (pc a b))] (.s (.v (.int .i64) (((iv a).2 : Nat) : Int))) [] := by
  have h := impl_piece_end_p1 (pc a b) (by show (0 : Int) ≤ (a.length : Int); omega)
  have hle := iv_le a ha
  have ew : IntKind.wrap .i64 ((pc a b).1 + (Int.fdiv (1099511627776 : Int) (2 ^ (min ((pc a b).2.2.1).toNat (IntKind.bits .i64))))) = (((iv a).2 : Nat) : Int) := by
    show IntKind.wrap .i64 (((plF a 1099511627776 0 : Nat) : Int) + (Int.fdiv (1099511627776 : Int) (2 ^ (min ((a.length : Int)).toNat (IntKind.bits .i64))))) = _
    rw [Int.toNat_natCast]
    have hmin : min a.length (IntKind.bits .i64) = a.length := by
      have : IntKind.bits .i64 = 64 := rfl
      omega
    rw [hmin]
    have hc : ((2 : Int) ^ a.length) = ((2 ^ a.length : Nat) : Int) := by push_cast; rfl
    have hd : Int.fdiv (1099511627776 : Int) ((2 ^ a.length : Nat) : Int) = ((1099511627776 / 2 ^ a.length : Nat) : Int) := by
      rw [Int.fdiv_eq_ediv_of_nonneg _ (Int.natCast_nonneg _)]; rfl
    rw [hc, hd, ← Int.natCast_add]
    show IntKind.wrap .i64 (((iv a).2 : Nat) : Int) = _
    rw [w64] <;> omega
  rw [ew] at h
  exact h

end Go.AI
end
