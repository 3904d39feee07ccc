/- Contracts: texts split at each mark; pairs read from their texts. -/
import Derived.Test.YtlimomnchicfgaaGP
import Derived.Test.YtlimomnchicfgaaCE
import Derived.Test.YtlimomnchicfgaaCPg
set_option autoImplicit false
set_option maxRecDepth 100000
set_option linter.unusedVariables false
namespace Go.AI
open Go.Proofs

/-- A text split at each mark, with what was read of the first piece. -/
def spl (b : UInt8) : List UInt8 → List UInt8 → List (List UInt8)
  | acc, [] => [acc]
  | acc, c :: r => if c = b then acc :: spl b [] r else spl b (acc ++ [c]) r

theorem spl_none (b : UInt8) : ∀ (l acc : List UInt8), b ∉ l → spl b acc l = [acc ++ l]
  | [], acc, _ => by simp [spl]
  | c :: r, acc, h => by
    simp only [List.mem_cons, not_or] at h
    rw [spl, if_neg (fun e => h.1 e.symm), spl_none b r _ h.2, List.append_assoc]; rfl

theorem spl_some (b : UInt8) : ∀ (u v acc : List UInt8), b ∉ u → spl b acc (u ++ b :: v) = (acc ++ u) :: spl b [] v
  | [], v, acc, _ => by simp [spl]
  | c :: r, v, acc, h => by
    simp only [List.mem_cons, not_or] at h
    rw [List.cons_append, spl, if_neg (fun e => h.1 e.symm), spl_some b r v _ h.2, List.append_assoc]; rfl

theorem l1Split_SC (l : List UInt8) (b : UInt8) (hl : l.length ≤ 2 ^ 30) : SC cfg.P i_spec_l1Split [.s (.v .str (bs l)), .s (.v (.int .u8) (b.toNat : Int))] (.s (.own t_string .str (txs (spl b [] l)))) [] := by
  have key : ∀ (m i f : Nat) (cur : List (List UInt8)), l.length - i = m → i ≤ l.length → f ≤ i → cur.length ≤ i →
      ∃ (f' : Nat) (cur' : List (List UInt8)), f' ≤ l.length ∧ cur'.length ≤ l.length ∧ cur' ++ [l.drop f'] = cur ++ spl b ((l.take i).drop f) (l.drop i) ∧
      LoopSC cfg.P 2 (lb P_spec_l1Split 0) (spec_l1Split_L0a (bs l) (b.toNat : Int) (f : Int) (i : Int) (txs cur)) (.exit 0) (spec_l1Split_L0X1 (bs l) (b.toNat : Int) (f' : Int) (l.length : Int) false (txs cur')) := by
    intro m
    induction m with
    | zero =>
      intro i f cur hm hi hf hc
      have e : i = l.length := by omega
      subst e
      exact ⟨f, cur, hf, hc, by rw [List.drop_length, spl, List.take_length], spec_l1Split_L0a_x3 _ _ _ _ _ (by rw [bs_size]; omega)⟩
    | succ m ih =>
      intro i f cur hm hi hf hc
      have hi1 : i < l.length := by omega
      have hd : l.drop i = l[i] :: l.drop (i + 1) := List.drop_eq_getElem_cons hi1
      have ht : l.take (i + 1) = l.take i ++ [l[i]] := (List.take_append_getElem hi1).symm
      have hg : bt (bs l) (i : Int) = (l[i].toNat : Int) := by rw [bs_bt, Int.toNat_natCast, List.getD_eq_getElem?_getD, List.getElem?_eq_getElem hi1]; rfl
      have ew := wrap_succ (i := i) (by omega)
      rw [hd, spl]
      by_cases h : l[i] = b
      · rw [if_pos h]
        obtain ⟨f', cur', a1, a2, a3, hn⟩ := ih (i + 1) (i + 1) (cur ++ [(l.take i).drop f]) (by omega) (by omega) (by omega) (by rw [List.length_append, List.length_singleton]; omega)
        have hx : ByteArray.extract (bs l) ((f : Int)).toNat ((i : Int)).toNat = bs ((l.take i).drop f) := by
          rw [Int.toNat_natCast, Int.toNat_natCast, bs_extract, List.drop_take]
        have e1 : txs (cur ++ [(l.take i).drop f]) = txs cur ++ [bs ((l.take i).drop f)] := by simp
        have e2 : (l.take (i + 1)).drop (i + 1) = [] := List.drop_eq_nil_of_le (by simp; omega)
        rw [e1, ← hx, ← ew] at hn
        rw [e2, List.append_assoc] at a3
        refine ⟨f', cur', a1, a2, a3, spec_l1Split_L0a_i1 _ _ _ _ _ (by rw [bs_size]; omega) (by omega) (by rw [hg, h]) (by omega) (by omega) (by rw [bs_size]; omega) (sizeOK_one (by rw [List.length_map]; omega)) hn⟩
      · rw [if_neg h]
        obtain ⟨f', cur', a1, a2, a3, hn⟩ := ih (i + 1) f cur (by omega) (by omega) (by omega) (by omega)
        have e2 : (l.take (i + 1)).drop f = (l.take i).drop f ++ [l[i]] := by
          rw [ht, List.drop_append_of_le_length (by rw [List.length_take]; omega)]
        rw [← ew] at hn
        rw [e2] at a3
        exact ⟨f', cur', a1, a2, a3, spec_l1Split_L0a_i2 _ _ _ _ _ (by rw [bs_size]; omega) (by omega) (by rw [hg]; intro e; exact h ((byte_eq _ b).1 e)) hn⟩
  obtain ⟨f', cur', a1, a2, a3, hn⟩ := key _ 0 0 [] rfl (by omega) (by omega) (by simp)
  simp only [List.take_zero, List.drop_zero, List.nil_append, List.drop_nil] at a3
  have hx : ByteArray.extract (bs l) ((f' : Int)).toNat (((bs l).size : Int)).toNat = bs (l.drop f') := by
    rw [Int.toNat_natCast, Int.toNat_natCast, bs_size, bs_extract]
    congr 1
    apply List.take_of_length_le
    rw [List.length_drop]
    omega
  have := spec_l1Split_p1 _ _ _ _ _ _ _ _ hn (by omega) (by rw [bs_size]; omega) (sizeOK_one (by rw [List.length_map]; omega))
  rw [hx] at this
  rw [← a3]
  have e : txs (cur' ++ [l.drop f']) = txs cur' ++ [bs (l.drop f')] := by simp
  rw [e]
  exact this


theorem no_mark (t : Tr) : (62 : UInt8) ∉ txt t := by
  induction t with
  | leaf => simp [txt]
  | node a b iha ihb => simp [txt, iha, ihb]

/-- A pair's text. -/
def prT (p : Tr × Tr) : ByteArray := bs (txt p.1 ++ 62 :: txt p.2)

theorem prT_inj {p q : Tr × Tr} (h : prT p = prT q) : p = q := by
  have h := bs_inj.1 h
  obtain ⟨e1, h2⟩ := txt_inj _ _ _ _ h
  have h3 : txt p.2 = txt q.2 := (List.cons.inj h2).2
  obtain ⟨e2, _⟩ := txt_inj p.2 q.2 [] [] (by rw [List.append_nil, List.append_nil]; exact h3)
  exact Prod.ext e1 e2

theorem prT_eq (p : Tr × Tr) : prT p = (bs (txt p.1) ++ (⟨#[62]⟩ : ByteArray)) ++ bs (txt p.2) := by
  show _ = (bs (txt p.1) ++ bs [62]) ++ bs (txt p.2)
  rw [bs_append, bs_append, List.append_assoc]; rfl

theorem prText_SC (p : Tr × Tr) (h1 : p.1.c ≤ 2 ^ 20) (h2 : p.2.c ≤ 2 ^ 20) : SC cfg.P i_spec_prText [.s (.v (.pr .str .str) (pt p))] (.s (.v .str (prT p))) [] := by
  have l1 := txt_len p.1
  have l2 := txt_len p.2
  rw [prT_eq]
  have e2 : (bs (txt p.1) ++ (⟨#[62]⟩ : ByteArray)) = bs (txt p.1 ++ [62]) := bs_append _ _
  refine spec_prText_p1 (pt p) ?_ ?_
  · show (bs (txt p.1)).size + (bs [62]).size ≤ _
    rw [bs_size, bs_size]; simp; omega
  · show ((bs (txt p.1)) ++ (⟨#[62]⟩ : ByteArray)).size + (bs (txt p.2)).size ≤ _
    rw [e2, bs_size, bs_size]; simp; omega

theorem pairText_SC (p : Tr × Tr) (h1 : p.1.c ≤ 2 ^ 20) (h2 : p.2.c ≤ 2 ^ 20) : SC cfg.P i_impl_pair_text [.s (.v (.pr .tree .tree) p)] (.s (.v .str (prT p))) [] := by
  have l1 := txt_len p.1
  have l2 := txt_len p.2
  rw [prT_eq]
  have e2 : (bs (txt p.1) ++ (⟨#[62]⟩ : ByteArray)) = bs (txt p.1 ++ [62]) := bs_append _ _
  refine impl_pair_text_p1 p _ _ (text_SC _ (by omega)) ?_ (text_SC _ (by omega)) ?_
  · show (bs (txt p.1)).size + (bs [62]).size ≤ _
    rw [bs_size, bs_size]; simp; omega
  · rw [e2, bs_size, bs_size]; simp; omega

theorem prParse_SC (p : Tr × Tr) (hp : p.1.c = p.2.c) (h : p.1.c ≤ 8) : SC cfg.P i_spec_prParse [.s (.v .str (prT p))] (.tup [.v (.pr .str .str) (pt p), .v .bool true]) [] := by
  have l1 := txt_len p.1
  have l2 := txt_len p.2
  have hl : (txt p.1 ++ 62 :: txt p.2).length ≤ 200 := by simp; omega
  have hs := l1Split_SC (txt p.1 ++ 62 :: txt p.2) 62 (by omega)
  rw [spl_some 62 _ _ _ (no_mark _), spl_none 62 _ _ (no_mark _)] at hs
  have hq := prIf_SC p hp (by omega)
  rw [decide_eq_true h] at hq
  have e : fitV p = pt p := by unfold fitV; rw [if_pos h]
  rw [e] at hq
  exact spec_prParse_p3 _ _ _ _ hs (by show ¬ ((((bs (txt p.1 ++ 62 :: txt p.2)).size : Nat) : Int) > 200); rw [bs_size]; omega) rfl (by simp) (by simp) (by simp) (by simp) hq

end Go.AI
