/- Contracts: a text cut at its first mark; texts split at each mark; the law of ParsePair. -/
import Derived.Test.YtdfllkeekehplaaSh8
import Derived.Test.YtdfllkeekehplaaGO
import Derived.Test.YtdfllkeekehplaaGN
import Derived.Test.YtdfllkeekehplaaCD
import Derived.Test.YtdfllkeekehplaaCPg
import Derived.Test.YtdfllkeekehplaaAiSh
set_option autoImplicit false
set_option maxRecDepth 100000
set_option linter.unusedVariables false
namespace Go.AI
open Go.Proofs

theorem first_at (b : UInt8) : ∀ l : List UInt8, b ∉ l ∨ ∃ u v, l = u ++ b :: v ∧ b ∉ u
  | [] => .inl (by simp)
  | c :: r => by
    by_cases h : c = b
    · subst h; exact .inr ⟨[], r, rfl, by simp⟩
    · rcases first_at b r with h1 | ⟨u, v, rfl, h1⟩
      · exact .inl (by simp only [List.mem_cons, not_or]; exact ⟨fun e => h e.symm, h1⟩)
      · exact .inr ⟨c :: u, v, rfl, by simp only [List.mem_cons, not_or]; exact ⟨fun e => h e.symm, h1⟩⟩

theorem idx_none (b : UInt8) : ∀ l : List UInt8, b ∉ l → Lib.indexByte l b = -1
  | [], _ => rfl
  | c :: r, h => by
    simp only [List.mem_cons, not_or] at h
    have e : (c == b) = false := by rw [beq_eq_false_iff_ne]; exact fun e => h.1 e.symm
    rw [Lib.indexByte, e, idx_none b r h.2]
    rfl

theorem idx_some (b : UInt8) : ∀ u v : List UInt8, b ∉ u → Lib.indexByte (u ++ b :: v) b = (u.length : Int)
  | [], v, _ => by simp [Lib.indexByte]
  | c :: r, v, h => by
    simp only [List.mem_cons, not_or] at h
    have e : (c == b) = false := by rw [beq_eq_false_iff_ne]; exact fun e => h.1 e.symm
    rw [List.cons_append, Lib.indexByte, e, idx_some b r v h.2]
    have h2 : (((r.length : Int)) == -1) = false := by rw [beq_eq_false_iff_ne]; omega
    rw [h2]
    simp only [Bool.false_eq_true, if_false, List.length_cons]
    omega

theorem indexByte_SC (l : List UInt8) (b : UInt8) : SC cfg.P i_internal_stringslite_IndexByte [.s (.v .str (bs l)), .s (.v (.int .u8) (b.toNat : Int))] (.s (.v (.int .i64) (Lib.indexByte l b))) [] := by
  refine SC_str_byte ⟨_, get_internal_stringslite_IndexByte, by kernel_rfl, by decide⟩ fun w => ?_
  have h := Try.stringslite_IndexByte (bs l) (b.toNat : Int) w
  have e1 : ((b.toNat : Int)).toNat.toUInt8 = b := by rw [Int.toNat_natCast]; exact UInt8.ofNat_toNat
  have e2 : (bs l).data.toList = l := rfl
  rw [e1, e2] at h
  exact h

theorem index_one_SC (l : List UInt8) (b : UInt8) : SC cfg.P i_internal_stringslite_Index [.s (.v .str (bs l)), .s (.v .str (bs [b]))] (.s (.v (.int .i64) (Lib.indexByte l b))) [] := by
  have h1 : ((bs [b]).size : Int) ≠ 0 := by rw [bs_size]; simp
  by_cases h : bs [b] = bs l
  · rw [bs_inj] at h
    subst h
    have e : Lib.indexByte [b] b = 0 := by simp [Lib.indexByte]
    rw [e]
    exact internal_stringslite_Index_p2 _ _ h1 rfl
  · refine internal_stringslite_Index_p3 _ _ _ h1 h (by rw [bs_size]; rfl) (by rw [bs_size]; simp) ?_
    exact indexByte_SC l b

theorem cut_none (l : List UInt8) (b : UInt8) (h : b ∉ l) : SC cfg.P i_strings_Cut [.s (.v .str (bs l)), .s (.v .str (bs [b]))] (.tup [.v .str (bs l), .v .str (⟨#[]⟩ : ByteArray), .v .bool false]) [] := by
  have hi := index_one_SC l b
  rw [idx_none b l h] at hi
  exact strings_Cut_p1 _ _ _ _ _ (internal_stringslite_Cut_p2 _ _ _ hi (by decide))

theorem cut_some (u v : List UInt8) (b : UInt8) (h : b ∉ u) (hl : u.length + v.length ≤ 2 ^ 40) : SC cfg.P i_strings_Cut [.s (.v .str (bs (u ++ b :: v))), .s (.v .str (bs [b]))] (.tup [.v .str (bs u), .v .str (bs v), .v .bool true]) [] := by
  have hi := index_one_SC (u ++ b :: v) b
  rw [idx_some b u v h] at hi
  have hlen : (u ++ b :: v).length = u.length + 1 + v.length := by simp; omega
  have s1 : ((bs [b]).size : Int) = 1 := by rw [bs_size]; rfl
  have w1 : IntKind.wrap .i64 ((u.length : Int) + ((bs [b]).size : Int)) = ((u.length + 1 : Nat) : Int) := by rw [s1, w64] <;> omega
  have x1 : ByteArray.extract (bs (u ++ b :: v)) ((0 : Int)).toNat (((u.length : Nat) : Int)).toNat = bs u := by
    rw [bs_extract, Int.toNat_natCast]; simp
  have x2 : ByteArray.extract (bs (u ++ b :: v)) (((u.length + 1 : Nat) : Int)).toNat (((bs (u ++ b :: v)).size : Int)).toNat = bs v := by
    rw [bs_extract, Int.toNat_natCast, bs_size, Int.toNat_natCast, hlen]
    have hd : (u ++ b :: v).drop (u.length + 1) = v := by
      have : u ++ b :: v = (u ++ [b]) ++ v := by simp
      rw [this, List.drop_left' (by simp)]
    rw [hd]
    congr 1
    apply List.take_of_length_le
    omega
  have := internal_stringslite_Cut_p1 _ _ _ hi (by omega) (by omega) (by rw [bs_size, hlen]; omega) (by rw [w1]; omega) (by rw [w1, bs_size, hlen]; omega)
  rw [w1, x1, x2] at this
  exact strings_Cut_p1 _ _ _ _ _ this

/-- A text split at each mark, with what was read of the first piece. -/
def spl (b : UInt8) : List UInt8 → List UInt8 → List (List UInt8)
  | acc, [] => [acc]
  | acc, c :: r => if c = b then acc :: spl b [] r else spl b (acc ++ [c]) r

theorem spl_none (b : UInt8) : ∀ (l acc : List UInt8), b ∉ l → spl b acc l = [acc ++ l]
  | [], acc, _ => by simp [spl]
  | c :: r, acc, h => by
    simp only [List.mem_cons, not_or] at h
    rw [spl, if_neg (fun e => h.1 e.symm), spl_none b r _ h.2, List.append_assoc]; rfl

theorem spl_some (b : UInt8) : ∀ (u v acc : List UInt8), b ∉ u → spl b acc (u ++ b :: v) = (acc ++ u) :: spl b [] v
  | [], v, acc, _ => by simp [spl]
  | c :: r, v, acc, h => by
    simp only [List.mem_cons, not_or] at h
    rw [List.cons_append, spl, if_neg (fun e => h.1 e.symm), spl_some b r v _ h.2, List.append_assoc]; rfl

theorem l1Split_SC (l : List UInt8) (b : UInt8) (hl : l.length ≤ 2 ^ 30) : SC cfg.P i_spec_l1Split [.s (.v .str (bs l)), .s (.v (.int .u8) (b.toNat : Int))] (.s (.own t_string .str (txs (spl b [] l)))) [] := by
  have key : ∀ (m i f : Nat) (cur : List (List UInt8)), l.length - i = m → i ≤ l.length → f ≤ i → cur.length ≤ i →
      ∃ (f' : Nat) (cur' : List (List UInt8)), f' ≤ l.length ∧ cur'.length ≤ l.length ∧ cur' ++ [l.drop f'] = cur ++ spl b ((l.take i).drop f) (l.drop i) ∧
      LoopSC cfg.P 2 (lb P_spec_l1Split 0) (spec_l1Split_L0a (bs l) (b.toNat : Int) (f : Int) (i : Int) (txs cur)) (.exit 0) (spec_l1Split_L0X1 (bs l) (b.toNat : Int) (f' : Int) (l.length : Int) false (txs cur')) := by
    intro m
    induction m with
    | zero =>
      intro i f cur hm hi hf hc
      have e : i = l.length := by omega
      subst e
      exact ⟨f, cur, hf, hc, by rw [List.drop_length, spl, List.take_length], spec_l1Split_L0a_x3 _ _ _ _ _ (by rw [bs_size]; omega)⟩
    | succ m ih =>
      intro i f cur hm hi hf hc
      have hi1 : i < l.length := by omega
      have hd : l.drop i = l[i] :: l.drop (i + 1) := List.drop_eq_getElem_cons hi1
      have ht : l.take (i + 1) = l.take i ++ [l[i]] := (List.take_append_getElem hi1).symm
      have hg : bt (bs l) (i : Int) = (l[i].toNat : Int) := by rw [bs_bt, Int.toNat_natCast, List.getD_eq_getElem?_getD, List.getElem?_eq_getElem hi1]; rfl
      have ew := wrap_succ (i := i) (by omega)
      rw [hd, spl]
      by_cases h : l[i] = b
      · rw [if_pos h]
        obtain ⟨f', cur', a1, a2, a3, hn⟩ := ih (i + 1) (i + 1) (cur ++ [(l.take i).drop f]) (by omega) (by omega) (by omega) (by rw [List.length_append, List.length_singleton]; omega)
        have hx : ByteArray.extract (bs l) ((f : Int)).toNat ((i : Int)).toNat = bs ((l.take i).drop f) := by
          rw [Int.toNat_natCast, Int.toNat_natCast, bs_extract, List.drop_take]
        have e1 : txs (cur ++ [(l.take i).drop f]) = txs cur ++ [bs ((l.take i).drop f)] := by simp
        have e2 : (l.take (i + 1)).drop (i + 1) = [] := List.drop_eq_nil_of_le (by simp; omega)
        rw [e1, ← hx, ← ew] at hn
        rw [e2, List.append_assoc] at a3
        refine ⟨f', cur', a1, a2, a3, spec_l1Split_L0a_i1 _ _ _ _ _ (by rw [bs_size]; omega) (by omega) (by rw [hg, h]) (by omega) (by omega) (by rw [bs_size]; omega) (sizeOK_one (by rw [List.length_map]; omega)) hn⟩
      · rw [if_neg h]
        obtain ⟨f', cur', a1, a2, a3, hn⟩ := ih (i + 1) f cur (by omega) (by omega) (by omega) (by omega)
        have e2 : (l.take (i + 1)).drop f = (l.take i).drop f ++ [l[i]] := by
          rw [ht, List.drop_append_of_le_length (by rw [List.length_take]; omega)]
        rw [← ew] at hn
        rw [e2] at a3
        exact ⟨f', cur', a1, a2, a3, spec_l1Split_L0a_i2 _ _ _ _ _ (by rw [bs_size]; omega) (by omega) (by rw [hg]; intro e; exact h ((byte_eq _ b).1 e)) hn⟩
  obtain ⟨f', cur', a1, a2, a3, hn⟩ := key _ 0 0 [] rfl (by omega) (by omega) (by simp)
  simp only [List.take_zero, List.drop_zero, List.nil_append, List.drop_nil] at a3
  have hx : ByteArray.extract (bs l) ((f' : Int)).toNat (((bs l).size : Int)).toNat = bs (l.drop f') := by
    rw [Int.toNat_natCast, Int.toNat_natCast, bs_size, bs_extract]
    congr 1
    apply List.take_of_length_le
    rw [List.length_drop]
    omega
  have := spec_l1Split_p1 _ _ _ _ _ _ _ _ hn (by omega) (by rw [bs_size]; omega) (sizeOK_one (by rw [List.length_map]; omega))
  rw [hx] at this
  rw [← a3]
  have e : txs (cur' ++ [l.drop f']) = txs cur' ++ [bs (l.drop f')] := by simp
  rw [e]
  exact this

/-! ### ParsePair -/

theorem tree_bytes {l : List UInt8} (h : isTree l = true) : (62 : UInt8) ∉ l ∧ l.length ≤ 25 := by
  obtain ⟨e, hc⟩ := treeOf_txt h
  have key : ∀ t : Tr, (62 : UInt8) ∉ txt t := by
    intro t
    induction t with
    | leaf => simp [txt]
    | node a b iha ihb => simp [txt, iha, ihb]
  refine ⟨by rw [e]; exact key _, ?_⟩
  have := txt_len (treeOf l)
  rw [← e] at this
  omega

def nop2 : ByteArray × ByteArray := (⟨#[]⟩, ⟨#[]⟩)

theorem pp_both (l : List UInt8) (hl : l.length ≤ 2 ^ 20) : ∃ (V : ByteArray × ByteArray) (B : Bool), SC cfg.P i_impl_ParsePair [.s (.v .str (bs l))] (.tup [.v (.pr .str .str) V, .v .bool B]) [] ∧
    SC cfg.P i_spec_ParsePair [.s (.v .str (bs l))] (.tup [.v (.pr .str .str) V, .v .bool B]) [] ∧ (B = true → ∃ u v : List UInt8, l = u ++ 62 :: v ∧ isPair u v = true ∧ V = (bs u, bs v)) := by
  have hs := l1Split_SC l 62 (by omega)
  rcases first_at 62 l with h | ⟨u, v, rfl, h⟩
  · refine ⟨nop2, false, impl_ParsePair_p3 _ _ _ (cut_none l 62 h), ?_, fun h => by cases h⟩
    rw [spl_none 62 l [] h] at hs
    by_cases h2 : l.length > 200
    · exact spec_ParsePair_p1 _ _ _ (spec_prParse_p1 _ _ hs (by rw [bs_size]; omega))
    · exact spec_ParsePair_p1 _ _ _ (spec_prParse_p2 _ _ hs (by rw [bs_size]; omega) (by simp))
  · have hlen : (u ++ 62 :: v).length = u.length + 1 + v.length := by simp; omega
    have hc := cut_some u v 62 h (by omega)
    have hp := pairOf_SC u v (by omega) (by omega)
    have hq := impl_IsPair_p1 _ _ _ hp
    rw [spl_some 62 u v [] h, List.nil_append] at hs
    have bad : isPair u v = false → ∃ (V : ByteArray × ByteArray) (B : Bool), SC cfg.P i_impl_ParsePair [.s (.v .str (bs (u ++ 62 :: v)))] (.tup [.v (.pr .str .str) V, .v .bool B]) [] ∧ V = nop2 ∧ B = false := by
      intro hb
      rw [hb] at hq
      exact ⟨_, _, impl_ParsePair_p2 _ _ _ hc hq, rfl, rfl⟩
    have facts : isPair u v = true → (62 : UInt8) ∉ v ∧ u.length ≤ 25 ∧ v.length ≤ 25 := by
      intro hb
      simp only [isPair, Bool.and_eq_true] at hb
      have t1 := tree_bytes hb.1.1
      have t2 := tree_bytes hb.1.2
      exact ⟨t2.1, t1.2, t2.2⟩
    by_cases h2 : (u ++ 62 :: v).length > 200
    · have hb : isPair u v = false := by
        cases hb : isPair u v with
        | false => rfl
        | true => have := facts hb; omega
      obtain ⟨V, B, h3, rfl, rfl⟩ := bad hb
      exact ⟨_, _, h3, spec_ParsePair_p1 _ _ _ (spec_prParse_p1 _ _ hs (by rw [bs_size]; omega)), fun h => by cases h⟩
    · by_cases h4 : (62 : UInt8) ∈ v
      · have hb : isPair u v = false := by
          cases hb : isPair u v with
          | false => rfl
          | true => exact absurd h4 (facts hb).1
        obtain ⟨V, B, h3, rfl, rfl⟩ := bad hb
        obtain ⟨x, y, rfl, hx⟩ : ∃ x y, v = x ++ 62 :: y ∧ (62 : UInt8) ∉ x := by
          rcases first_at 62 v with h5 | h5
          · exact absurd h4 h5
          · exact h5
        refine ⟨_, _, h3, spec_ParsePair_p1 _ _ _ (spec_prParse_p2 _ _ hs (by rw [bs_size]; omega) ?_), fun h => by cases h⟩
        rw [spl_some 62 x y [] hx]
        have : (spl 62 [] y).length ≠ 0 := by
          have key : ∀ (y acc : List UInt8), (spl 62 acc y).length ≠ 0 := by
            intro y
            induction y with
            | nil => intro acc; simp [spl]
            | cons c r ih => intro acc; rw [spl]; split; · simp
                             · exact ih _
          exact key y []
        simp only [txs, List.map_cons, List.length_cons, List.length_map]
        omega
      · rw [spl_none 62 v [] h4, List.nil_append] at hs
        have hg := prGood_SC u v (by omega) (by omega)
        have hl2 : (List.length (txs [u, v]) : Int) = 2 := rfl
        cases hb : isPair u v with
        | true =>
          rw [hb] at hq hg
          exact ⟨(bs u, bs v), true, impl_ParsePair_p1 _ _ _ hc hq, spec_ParsePair_p1 _ _ _ (spec_prParse_p3 _ _ _ _ hs (by rw [bs_size]; omega) rfl (by simp) (by simp) (by simp) (by simp) (spec_prIf_p1 _ hg)), fun _ => ⟨u, v, rfl, hb, rfl⟩⟩
        | false =>
          rw [hb] at hg
          obtain ⟨V, B, h3, rfl, rfl⟩ := bad hb
          exact ⟨_, _, h3, spec_ParsePair_p1 _ _ _ (spec_prParse_p3 _ _ _ _ hs (by rw [bs_size]; omega) rfl (by simp) (by simp) (by simp) (by simp) (spec_prIf_p2 _ hg)), fun h => by cases h⟩


end Go.AI
