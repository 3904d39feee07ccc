/- Contracts: texts joined; the law of ForestText. -/
import Derived.Test.YtnoajkfmokcekaaShJ
import Derived.Test.YtnoajkfmokcekaaGV
import Derived.Test.YtnoajkfmokcekaaCQ
import Derived.Test.YtnoajkfmokcekaaCPs
import Derived.Test.YtnoajkfmokcekaaCL
import Derived.Test.YtnoajkfmokcekaaAiSh2
set_option autoImplicit false
set_option maxRecDepth 100000
set_option linter.unusedVariables false
namespace Go.AI
open Go.Proofs

/-- Texts joined by points of their own kind. -/
def joinL (sep : List UInt8) (fs : List (List UInt8)) : List UInt8 := Lib.join fs sep

theorem strings_Join_SC (fs : List (List UInt8)) (hf : fs ≠ []) (sep : List UInt8) (hl : fs.length ≤ 2 ^ 30) (hj : (joinL sep fs).length ≤ 2 ^ 40) :
    SC cfg.P i_strings_Join [.s (.v (.sl .str) (txs fs)), .s (.v .str (bs sep))] (.s (.v .str (bs (joinL sep fs)))) [] := by
  refine ⟨⟨_, get_strings_Join, by kernel_rfl, by decide⟩, fun w B vs mv hB hd hA => ?_⟩
  obtain ⟨u, us, rfl, hu, u', us', rfl, hu', rfl, rfl⟩ := hA
  have e2 : u' = .string (bs sep) := RepV.str hu'
  subst e2
  obtain ⟨bk, o, c, rfl, hc, hb, hcells⟩ := strs_cells hu (by simpa using hf)
  have hm : (txs fs).map (fun x : ByteArray => x.data.toList) = fs := by
    rw [txs, List.map_map]
    conv => rhs; rw [← List.map_id fs]
    rfl
  have hs : (bs sep).data.toList = sep := rfl
  have hlt : (txs fs).length = fs.length := List.length_map ..
  have h := Try.strings_Join bk o c (txs fs) (bs sep) w hcells hb (by omega) hc (by rw [hm, hs]; show (joinL sep fs).length ≤ _; omega)
  rw [hm, hs] at h
  exact h.mono fun e w' ⟨he, hw⟩ => ⟨.string (bs (joinL sep fs)), [], he, Fr.ofBelow hw, List.nodup_nil, by simp, ⟨RepV.mk_str _, rfl⟩, rfl⟩

theorem join_snoc (sep : List UInt8) (fs : List (List UInt8)) (hf : fs ≠ []) (x : List UInt8) : joinL sep (fs ++ [x]) = joinL sep fs ++ sep ++ x := by
  obtain ⟨y, r, rfl⟩ : ∃ y r, fs = y :: r := by cases fs with
    | nil => exact absurd rfl hf
    | cons y r => exact ⟨y, r, rfl⟩
  unfold joinL
  rw [List.cons_append, Lib.join_cons, Lib.join_cons]
  simp [Lib.joinTail]

theorem join_one' (sep x : List UInt8) : joinL sep [x] = x := Lib.join_one x sep

theorem join_len (sep : List UInt8) (b : Nat) : ∀ (fs : List (List UInt8)), (∀ l ∈ fs, l.length ≤ b) → (joinL sep fs).length ≤ fs.length * (b + sep.length) := by
  intro fs h
  cases fs with
  | nil => simp [joinL, Lib.join_nil]
  | cons x r =>
    have h1 := h x (by simp)
    have h2 : ∀ r : List (List UInt8), (∀ l ∈ r, l.length ≤ b) → (Lib.joinTail sep r).length ≤ r.length * (b + sep.length) := by
      intro r
      induction r with
      | nil => intro _; simp [Lib.joinTail]
      | cons y r ih =>
        intro h
        have h3 := ih (fun l hl => h l (List.mem_cons_of_mem _ hl))
        have h4 := h y (by simp)
        have e : Lib.joinTail sep (y :: r) = sep ++ y ++ Lib.joinTail sep r := by simp [Lib.joinTail]
        rw [e, List.length_append, List.length_append, List.length_cons, Nat.add_mul, Nat.one_mul]
        omega
    have h3 := h2 r (fun l hl => h l (List.mem_cons_of_mem _ hl))
    unfold joinL
    rw [Lib.join_cons, List.length_append, List.length_cons, Nat.add_mul, Nat.one_mul]
    omega

theorem join_ne (sep : List UInt8) (x : List UInt8) (r : List (List UInt8)) (hx : x ≠ []) : joinL sep (x :: r) ≠ [] := by
  unfold joinL
  rw [Lib.join_cons]
  intro h
  exact hx (List.append_eq_nil_iff.1 h).1

def ftV (fs : List (List UInt8)) : List UInt8 := if fs = [] then [45] else joinL [32] fs

theorem foText_SC (fs : List (List UInt8)) (hl : fs.length ≤ 8) (hb : ∀ l ∈ fs, l.length ≤ 100 ∧ l ≠ []) : SC cfg.P i_spec_foText [.s (.v (.sl .str) (txs fs))] (.s (.v .str (bs (ftV fs)))) [] := by
  have hlt : (txs fs).length = fs.length := List.length_map ..
  have key : ∀ (m i : Nat), fs.length - i = m → i ≤ fs.length →
      LoopSC cfg.P 1 (lb P_spec_foText 0) (spec_foText_L0a (bs (joinL [32] (fs.take i))) (txs fs) ((List.length (txs fs) : Nat) : Int) (i : Int)) (.exit 0) (spec_foText_L0X1 (bs (joinL [32] fs)) (txs fs) ((List.length (txs fs) : Nat) : Int) (fs.length : Int) false) := by
    intro m
    induction m with
    | zero =>
      intro i hm hi
      have e : i = fs.length := by omega
      subst e
      rw [List.take_length]
      exact spec_foText_L0a_x3 _ _ _ _ (by omega)
    | succ m ih =>
      intro i hm hi
      have hi1 : i < fs.length := by omega
      have ht : fs.take (i + 1) = fs.take i ++ [fs[i]] := (List.take_append_getElem hi1).symm
      have hg : List.getD (txs fs) ((i : Int)).toNat (⟨#[]⟩ : ByteArray) = bs fs[i] := by
        rw [Int.toNat_natCast, txs_get fs i hi1, List.getD_eq_getElem?_getD, List.getElem?_eq_getElem hi1]; rfl
      have hlen := join_len [32] 100 (fs.take i) (fun l hl => (hb l (List.mem_of_mem_take hl)).1)
      have hmul : (fs.take i).length * (100 + [(32 : UInt8)].length) ≤ 8 * 101 := Nat.mul_le_mul (by rw [List.length_take]; omega) (Nat.le_refl _)
      have hb1 := (hb fs[i] (List.getElem_mem hi1)).1
      have hn := ih (i + 1) (by omega) (by omega)
      rw [← wrap_succ (by omega), ht] at hn
      by_cases h0 : i = 0
      · subst h0
        have e0 : bs (joinL [32] (fs.take 0)) = (⟨#[]⟩ : ByteArray) := rfl
        have e1 : joinL [32] (fs.take 0 ++ [fs[0]]) = fs[0] := by rw [List.take_zero, List.nil_append, join_one']
        have e2 : (⟨#[]⟩ : ByteArray) ++ bs fs[0] = bs fs[0] := by show bs [] ++ _ = _; rw [bs_append]; rfl
        rw [e1, ← e2, ← hg] at hn
        rw [e0]
        exact spec_foText_L0a_i2 _ _ _ _ (by omega) (by omega) (by omega) (by omega) (by rw [hg, bs_size]; show 0 + _ ≤ _; omega) hn
      · have hne : fs.take i ≠ [] := List.ne_nil_of_length_pos (by rw [List.length_take]; omega)
        have e2 : bs (joinL [32] (fs.take i)) ++ (⟨#[32]⟩ : ByteArray) ++ bs fs[i] = bs (joinL [32] (fs.take i ++ [fs[i]])) := by
          rw [join_snoc _ _ hne]
          show bs (joinL [32] (fs.take i)) ++ bs [32] ++ _ = _
          rw [bs_append, bs_append]
        have e3 : bs (joinL [32] (fs.take i)) ++ (⟨#[32]⟩ : ByteArray) = bs (joinL [32] (fs.take i) ++ [32]) := by
          show bs (joinL [32] (fs.take i)) ++ bs [32] = _; rw [bs_append]
        rw [← e2, ← hg] at hn
        have s1 : ((⟨#[32]⟩ : ByteArray)).size = 1 := rfl
        exact spec_foText_L0a_i1 _ _ _ _ (by omega) (by omega) (by omega) (by omega) (by rw [bs_size, s1]; omega) (by rw [e3, hg, bs_size, bs_size]; simp; omega) hn
  have h0 := key fs.length 0 (by omega) (by omega)
  unfold ftV
  by_cases he : fs = []
  · subst he
    rw [if_pos rfl]
    exact spec_foText_p1 _ _ _ _ _ _ h0 rfl
  · rw [if_neg he]
    obtain ⟨y, r, rfl⟩ : ∃ y r, fs = y :: r := by cases fs with
      | nil => exact absurd rfl he
      | cons y r => exact ⟨y, r, rfl⟩
    have hne := join_ne [32] y r (hb y (by simp)).2
    refine spec_foText_p2 _ _ _ _ _ _ h0 (fun e => hne ?_)
    have e' : bs (joinL [32] (y :: r)) = bs [] := e
    exact bs_inj.1 e'

theorem implFoText_SC (fs : List (List UInt8)) (hl : fs.length ≤ 8) (hb : ∀ l ∈ fs, l.length ≤ 100) : SC cfg.P i_impl_forestText [.s (.v (.sl .str) (txs fs))] (.s (.v .str (bs (ftV fs)))) [] := by
  have hlt : (txs fs).length = fs.length := List.length_map ..
  unfold ftV
  by_cases he : fs = []
  · subst he
    rw [if_pos rfl]
    exact impl_forestText_p1 _ rfl
  · rw [if_neg he]
    have hlen := join_len [32] 100 fs hb
    have hmul : fs.length * (100 + [(32 : UInt8)].length) ≤ 8 * 101 := Nat.mul_le_mul hl (Nat.le_refl _)
    have h0 : 0 < fs.length := List.length_pos_iff.2 he
    exact impl_forestText_p2 _ _ (by omega) (strings_Join_SC fs he [32] (by omega) (by omega))

def ftxV (fs : List (List UInt8)) : ByteArray := if isFo fs = true then bs (ftV fs) else (⟨#[]⟩ : ByteArray)

theorem fo_texts {fs : List (List UInt8)} (h : isFo fs = true) : fs.length ≤ 8 ∧ ∀ l ∈ fs, l.length ≤ 100 ∧ l ≠ [] := by
  obtain ⟨h1, h2, h3, h4, h5⟩ := isFo_spec h
  refine ⟨h1, fun l hl => ?_⟩
  obtain ⟨e, hc⟩ := treeOf_txt (h2 l hl)
  have := txt_len (treeOf l)
  rw [← e] at this
  refine ⟨by omega, fun e0 => ?_⟩
  rw [e0] at this
  simp at this

theorem implFt_SC (fs : List (List UInt8)) (hs : ∀ l ∈ fs, l.length ≤ 2 ^ 40) (hfl : fs.length ≤ 2 ^ 40) :
    SC cfg.P i_impl_ForestText [.s (.v (.sl .str) (txs fs))] (.tup [.v .str (ftxV fs), .v .bool (isFo fs)]) [] := by
  obtain ⟨ts, h1, h2⟩ := forestOf_SC fs hs hfl
  have h3 := impl_IsForest_p1 _ _ _ h2
  unfold ftxV
  cases hb : isFo fs with
  | false => rw [hb] at h3; exact impl_ForestText_p2 _ h3
  | true =>
    rw [hb] at h3
    obtain ⟨f1, f2⟩ := fo_texts hb
    exact impl_ForestText_p1 _ _ h3 (implFoText_SC fs f1 (fun l hl => (f2 l hl).1))

theorem specFt_SC (fs : List (List UInt8)) (hs : ∀ l ∈ fs, l.length ≤ 2 ^ 40) (hfl : fs.length ≤ 2 ^ 40) :
    SC cfg.P i_spec_ForestText [.s (.v (.sl .str) (txs fs))] (.tup [.v .str (ftxV fs), .v .bool (isFo fs)]) [] := by
  have h1 := foGood_SC fs hs hfl
  unfold ftxV
  cases hb : isFo fs with
  | false => rw [hb] at h1; exact spec_ForestText_p2 _ h1
  | true =>
    rw [hb] at h1
    obtain ⟨f1, f2⟩ := fo_texts hb
    exact spec_ForestText_p1 _ _ h1 (foText_SC fs f1 f2)

/-- The law of ForestText. -/
theorem law_Ft (x : List ByteArray) (hx : x.length ≤ 2 ^ 63 - 1) (hxs : ∀ a ∈ x, a.size ≤ 2 ^ 63 - 1) :
    SC cfg.P i_laws_FnExactForestText [.s (.v (.sl .str) x)] (.s (.v .bool true)) [] := by
  obtain ⟨fs, rfl⟩ := txs_ex x
  have hsz : ∀ a ∈ fs, a.length ≤ 2 ^ 63 - 1 := fun a ha => hxs (bs a) (List.mem_map.2 ⟨a, ha, rfl⟩)
  have l1 : (txs fs).length = fs.length := List.length_map ..
  rcases szStringS_SC fs (by omega) hsz 1048576 (by omega) (by omega) with ⟨c, g1, g2, g3, g4, s1⟩ | s1
  · have hs : ∀ l ∈ fs, l.length ≤ 2 ^ 40 := fun l hl => by have := g4 l hl; omega
    have t1 := toStringS_SC (txs fs) (by omega)
    have e1 := eqStringS_SC (txs fs) (by omega)
    exact laws_FnExactForestText_p2 _ _ _ _ _ _ _ _ _ s1 (by omega) t1 (specFt_SC fs hs (by omega)) t1 (implFt_SC fs hs (by omega)) rfl (by simp) t1 e1
  · exact laws_FnExactForestText_p1 _ _ s1 (by omega)

end Go.AI
