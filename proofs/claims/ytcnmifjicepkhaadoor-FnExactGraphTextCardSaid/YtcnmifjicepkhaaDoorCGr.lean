/- Contracts: numbers as texts; texts joined; the law of GraphText. -/
import Derived.Test.YtcnmifjicepkhaaDoorShG
import Derived.Test.YtcnmifjicepkhaaDoorGN
import Derived.Test.YtcnmifjicepkhaaDoorCDq
import Derived.Test.YtcnmifjicepkhaaDoorCO
import Derived.Test.YtcnmifjicepkhaaDoorAiSh2
set_option autoImplicit false
set_option maxRecDepth 100000
set_option linter.unusedVariables false
namespace Go.AI
open Go.Proofs

/-! ### Numbers -/

theorem lo_tab {w : World} {mv : List Value} (h : LaidOK w mv) : Lib.TabIs Tryd.prog w "internal/strconv.uint64pow10" .u64 Lib.pow10Tab := by
  obtain ⟨_, _, t, z, hb⟩ := h
  have hg : Tryd.prog.globalNamed "internal/strconv.uint64pow10" = some tabBlock := by kernel_rfl
  show (Tryd.prog.globalNamed "internal/strconv.uint64pow10").bind _ = _
  rw [hg, Option.bind_some, hb]

theorem strconv_Itoa_SC (n : Nat) (hn : n ≤ 2 ^ 62) : SC cfg.P i_strconv_Itoa [.s (.v (.int .i64) (n : Int))] (.s (.v .str (bs (Lib.decDigits n)))) [] := by
  refine ⟨⟨_, get_strconv_Itoa, by kernel_rfl, by decide⟩, fun w B vs mv hlo hB hd hA => ?_⟩
  obtain ⟨u, us, rfl, hu, rfl, rfl⟩ := hA
  have e1 : u = .int .i64 (n : Int) := RepV.int hu
  subst e1
  refine (Tryd.strconv_Itoa (n : Int) (by omega) (by omega) w (lo_tab hlo)).mono fun e w' ⟨he, k, os, hw⟩ => ?_
  have ei : Lib.itoa (n : Int) = Lib.decDigits n := by unfold Lib.itoa; rw [if_neg (by omega), Int.toNat_natCast]
  rw [ei] at he
  refine ⟨.string (bs (Lib.decDigits n)), [], he, ⟨?_, ?_, ?_, ?_, ?_⟩, List.nodup_nil, by simp, ⟨RepV.mk_str _, rfl⟩, rfl⟩
  · rw [hw]; rfl
  · rw [hw]; rfl
  · rw [hw]; rfl
  · rw [hw]
    show w.heap.size ≤ (w.heap ++ os).size
    rw [Array.size_append]; omega
  · intro b hb _
    rw [hw]
    show (w.heap ++ os)[b]? = _
    rw [Array.getElem?_append_left hb]

theorem dec_small (n : Nat) (h : n < 10) : Lib.decDigits n = [UInt8.ofNat (48 + n)] := by rw [Lib.decDigits, dif_pos h]
theorem dec_big (n : Nat) (h : ¬ n < 10) : Lib.decDigits n = Lib.decDigits (n / 10) ++ [UInt8.ofNat (48 + n % 10)] := by rw [Lib.decDigits, dif_neg h]

theorem dec_len : ∀ (m n : Nat), n ≤ m → (Lib.decDigits n).length ≤ n + 1 := by
  intro m
  induction m with
  | zero =>
    intro n h
    rw [dec_small n (by omega)]; simp
  | succ m ih =>
    intro n h
    by_cases h0 : n < 10
    · rw [dec_small n h0]; simp
    · rw [dec_big n h0, List.length_append, List.length_singleton]
      have := ih (n / 10) (by omega)
      omega

theorem digit_str (d : Nat) (h : d < 10) : strOf ([(IntKind.wrap .u8 (IntKind.wrap .i64 (48 + (d : Int))))] : List Int) = bs [UInt8.ofNat (48 + d)] := by
  have : ∀ d : Fin 10, strOf ([(IntKind.wrap .u8 (IntKind.wrap .i64 (48 + ((d.val : Nat) : Int))))] : List Int) = bs [UInt8.ofNat (48 + d.val)] := by decide +kernel
  exact this ⟨d, h⟩

theorem l1Num_SC : ∀ (m n : Nat), n ≤ m → n ≤ 2 ^ 41 → SC cfg.P i_spec_l1Num [.s (.v (.int .i64) (n : Int))] (.s (.v .str (bs (Lib.decDigits n)))) [] := by
  intro m
  induction m with
  | zero =>
    intro n h _
    have e : n = 0 := by omega
    subst e
    have := spec_l1Num_p1 ((0 : Nat) : Int) (by omega)
    rw [digit_str 0 (by omega)] at this
    rw [dec_small 0 (by omega)]
    exact this
  | succ m ih =>
    intro n h h2
    by_cases h0 : n < 10
    · have := spec_l1Num_p1 (n : Int) (by omega)
      rw [digit_str n h0] at this
      rw [dec_small n h0]
      exact this
    · have e1 : IntKind.wrap .i64 (Int.tdiv (n : Int) 10) = ((n / 10 : Nat) : Int) := by
        have : Int.tdiv (n : Int) 10 = ((n / 10 : Nat) : Int) := by rw [Int.tdiv_eq_ediv_of_nonneg (by omega)]; omega
        rw [this, w64] <;> omega
      have e2 : Int.tmod (n : Int) 10 = ((n % 10 : Nat) : Int) := by rw [Int.tmod_eq_emod_of_nonneg (by omega)]; omega
      have i1 := ih (n / 10) (by omega) (by omega)
      rw [← e1] at i1
      have hl := dec_len (n / 10) (n / 10) (Nat.le_refl _)
      have ds := digit_str (n % 10) (by omega)
      rw [← e2] at ds
      have r := spec_l1Num_p2 (n : Int) _ (by omega) (by decide) i1 (by rw [ds, bs_size, bs_size, List.length_singleton]; omega)
      rw [ds, bs_append, ← dec_big n h0] at r
      exact r

/-! ### Fractions -/

def ftx (x : Nat × Nat) : List UInt8 := Lib.decDigits x.1 ++ [47] ++ Lib.decDigits x.2

theorem ftx_len (x : Nat × Nat) (h1 : x.1 ≤ 2 ^ 20) (h2 : x.2 ≤ 2 ^ 20) : (ftx x).length ≤ 2 ^ 22 := by
  have := dec_len x.1 x.1 (Nat.le_refl _)
  have := dec_len x.2 x.2 (Nat.le_refl _)
  unfold ftx
  rw [List.length_append, List.length_append, List.length_singleton]
  omega

theorem text_SC (x : Nat × Nat) (h1 : x.1 ≤ 2 ^ 20) (h2 : x.2 ≤ 2 ^ 20) : SC cfg.P i_impl_Fraction_text [.s (.v (.pr (.int .i64) (.int .i64)) ((x.1 : Int), (x.2 : Int)))] (.s (.v .str (bs (ftx x)))) [] := by
  have l1 := dec_len x.1 x.1 (Nat.le_refl _)
  have l2 := dec_len x.2 x.2 (Nat.le_refl _)
  have e1 : (⟨#[47]⟩ : ByteArray) = bs [47] := rfl
  have r := impl_Fraction_text_p1 ((x.1 : Int), (x.2 : Int)) _ _ (strconv_Itoa_SC x.1 (by omega)) (by rw [e1, bs_size, bs_size, List.length_singleton]; omega) (strconv_Itoa_SC x.2 (by omega)) (by rw [e1, bs_append, bs_size, bs_size, List.length_append, List.length_singleton]; omega)
  rw [e1, bs_append, bs_append] at r
  exact r

theorem mpText_SC (x : Nat × Nat) (h1 : x.1 ≤ 2 ^ 20) (h2 : x.2 ≤ 2 ^ 20) : SC cfg.P i_spec_mpText [.s (.v (.pr (.int .i64) (.int .i64)) ((x.1 : Int), (x.2 : Int)))] (.s (.v .str (bs (ftx x)))) [] := by
  have l1 := dec_len x.1 x.1 (Nat.le_refl _)
  have l2 := dec_len x.2 x.2 (Nat.le_refl _)
  have e1 : (⟨#[47]⟩ : ByteArray) = bs [47] := rfl
  have r := spec_mpText_p1 ((x.1 : Int), (x.2 : Int)) _ _ (l1Num_SC x.1 x.1 (Nat.le_refl _) (by omega)) (by rw [e1, bs_size, bs_size, List.length_singleton]; omega) (l1Num_SC x.2 x.2 (Nat.le_refl _) (by omega)) (by rw [e1, bs_append, bs_size, bs_size, List.length_append, List.length_singleton]; omega)
  rw [e1, bs_append, bs_append] at r
  exact r

def frP (a : List UInt8) : Nat × Nat := (bn a / Nat.gcd (bn a) (2 ^ a.length), 2 ^ a.length / Nat.gcd (bn a) (2 ^ a.length))

theorem frP_frA (a : List UInt8) : frA a = (((frP a).1 : Int), ((frP a).2 : Int)) := rfl

theorem frP_le (a : List UInt8) (h : a.length ≤ 20) : (frP a).1 ≤ 2 ^ 20 ∧ (frP a).2 ≤ 2 ^ 20 := by
  have h1 := bn_lt a
  have h2 : 2 ^ a.length ≤ 2 ^ 20 := Nat.pow_le_pow_right (by omega) h
  have h3 := Nat.div_le_self (bn a) (Nat.gcd (bn a) (2 ^ a.length))
  have h4 := Nat.div_le_self (2 ^ a.length) (Nat.gcd (bn a) (2 ^ a.length))
  unfold frP
  exact ⟨by show bn a / _ ≤ _; omega, by show 2 ^ a.length / _ ≤ _; omega⟩

/-! ### Texts joined -/

def joinL (sep : List UInt8) (fs : List (List UInt8)) : List UInt8 := Lib.join fs sep

theorem strings_Join_SC (fs : List (List UInt8)) (hf : fs ≠ []) (sep : List UInt8) (hl : fs.length ≤ 2 ^ 30) (hj : (joinL sep fs).length ≤ 2 ^ 40) :
    SC cfg.P i_strings_Join [.s (.v (.sl .str) (txs fs)), .s (.v .str (bs sep))] (.s (.v .str (bs (joinL sep fs)))) [] := by
  refine ⟨⟨_, get_strings_Join, by kernel_rfl, by decide⟩, fun w B vs mv hlo hB hd hA => ?_⟩
  obtain ⟨u, us, rfl, hu, u', us', rfl, hu', rfl, rfl⟩ := hA
  have e2 : u' = .string (bs sep) := RepV.str hu'
  subst e2
  obtain ⟨bk, o, c, rfl, hc, hb, hcells⟩ := strs_cells hu (by simpa using hf)
  have hm : (txs fs).map (fun x : ByteArray => x.data.toList) = fs := by
    rw [txs, List.map_map]
    conv => rhs; rw [← List.map_id fs]
    rfl
  have hs : (bs sep).data.toList = sep := rfl
  have hlt : (txs fs).length = fs.length := List.length_map ..
  have h := Tryd.strings_Join bk o c (txs fs) (bs sep) w hcells hb (by omega) hc (by rw [hm, hs]; show (joinL sep fs).length ≤ _; omega)
  rw [hm, hs] at h
  exact h.mono fun e w' ⟨he, hw⟩ => ⟨.string (bs (joinL sep fs)), [], he, Fr.ofBelow hw, List.nodup_nil, by simp, ⟨RepV.mk_str _, rfl⟩, rfl⟩

theorem join_snoc (sep : List UInt8) (fs : List (List UInt8)) (hf : fs ≠ []) (x : List UInt8) : joinL sep (fs ++ [x]) = joinL sep fs ++ sep ++ x := by
  obtain ⟨y, r, rfl⟩ : ∃ y r, fs = y :: r := by cases fs with
    | nil => exact absurd rfl hf
    | cons y r => exact ⟨y, r, rfl⟩
  unfold joinL
  rw [List.cons_append, Lib.join_cons, Lib.join_cons]
  simp [Lib.joinTail]

theorem join_one' (sep x : List UInt8) : joinL sep [x] = x := Lib.join_one x sep

theorem join_len (sep : List UInt8) (b : Nat) : ∀ (fs : List (List UInt8)), (∀ l ∈ fs, l.length ≤ b) → (joinL sep fs).length ≤ fs.length * (b + sep.length) := by
  intro fs h
  cases fs with
  | nil => simp [joinL, Lib.join_nil]
  | cons x r =>
    have h1 := h x (by simp)
    have h2 : ∀ r : List (List UInt8), (∀ l ∈ r, l.length ≤ b) → (Lib.joinTail sep r).length ≤ r.length * (b + sep.length) := by
      intro r
      induction r with
      | nil => intro _; simp [Lib.joinTail]
      | cons y r ih =>
        intro h
        have h3 := ih (fun l hl => h l (List.mem_cons_of_mem _ hl))
        have h4 := h y (by simp)
        have e : Lib.joinTail sep (y :: r) = sep ++ y ++ Lib.joinTail sep r := by simp [Lib.joinTail]
        rw [e, List.length_append, List.length_append, List.length_cons, Nat.add_mul, Nat.one_mul]
        omega
    have h3 := h2 r (fun l hl => h l (List.mem_cons_of_mem _ hl))
    unfold joinL
    rw [Lib.join_cons, List.length_append, List.length_cons, Nat.add_mul, Nat.one_mul]
    omega

/-! ### Graphs -/

/-- What is told of a break. -/
def wordK (t u : Tr) (k : Nat) : List UInt8 := ftx (frP ((adL t []).getD k [])) ++ [62] ++ ftx (frP ((adL u []).getD k []))

def wordsG (t u : Tr) : List (List UInt8) := (brk t u).map (wordK t u)

theorem wordsG_len (t u : Tr) : (wordsG t u).length = (brk t u).length := List.length_map ..

theorem fr_bounds (t : Tr) (h : t.c ≤ 8) (k : Nat) (hk : k < t.c + 1) : (frP ((adL t []).getD k [])).1 ≤ 2 ^ 20 ∧ (frP ((adL t []).getD k [])).2 ≤ 2 ^ 20 := by
  have := ad_get_len t k hk
  exact frP_le _ (by omega)

theorem wordK_len (t u : Tr) (h : t.c ≤ 8) (e : t.c = u.c) (k : Nat) (hk : k < t.c + 1) : (wordK t u k).length ≤ 2 ^ 24 := by
  obtain ⟨a1, a2⟩ := fr_bounds t h k hk
  obtain ⟨b1, b2⟩ := fr_bounds u (by omega) k (by omega)
  have := ftx_len _ a1 a2
  have := ftx_len _ b1 b2
  unfold wordK
  rw [List.length_append, List.length_append, List.length_singleton]
  omega

theorem words_mem (t u : Tr) (h : t.c ≤ 8) (e : t.c = u.c) : ∀ l ∈ wordsG t u, l.length ≤ 2 ^ 24 := by
  intro l hl
  obtain ⟨k, hk, rfl⟩ := List.mem_map.1 hl
  exact wordK_len t u h e k (by have := brk_mem hk; omega)

def gtV (t u : Tr) : List UInt8 := if wordsG t u = [] then [45] else joinL [44] (wordsG t u)

theorem implGraph_SC (a b : List UInt8) (ha : a.length ≤ 2 ^ 40) (hb : b.length ≤ 2 ^ 40) :
    SC cfg.P i_impl_GraphText [.s (.v (.pr .str .str) (bs a, bs b))] (.tup [.v .str (if isPair a b = true then bs (gtV (treeOf a) (treeOf b)) else (⟨#[]⟩ : ByteArray)), .v .bool (isPair a b)]) [] := by
  have hp := pairOf_SC a b ha hb
  cases ht : isPair a b with
  | false =>
    rw [ht] at hp
    rw [if_neg (by simp)]
    exact impl_GraphText_p3 _ _ hp
  | true =>
    rw [ht] at hp
    rw [if_pos rfl]
    obtain ⟨x1, x2, x3, x4, x5⟩ := isPair_trees ht
    generalize treeOf a = t at *
    generalize treeOf b = u at *
    have hs := breaks_SC (t, u) (by simp only; omega) x5
    have hl := brk_len t u
    have hbl : (brkP t u).length = (brk t u).length := List.length_map ..
    have key := loop_up (P := cfg.P) (np := 1) (c := lb P_impl_GraphText 0) (fun i (cur : List ByteArray) => impl_GraphText_L0a ((List.length (brkP t u) : Nat) : Int) (i : Int) cur (brkP t u)) (fun cur => impl_GraphText_L0X1 ((List.length (brkP t u) : Nat) : Int) ((brk t u).length : Int) false cur (brkP t u))
      (fun i cur => cur ++ [bs (wordK t u ((brk t u).getD i 0))]) (fun i cur => cur.length ≤ i) (brk t u).length
      (fun i cur hi hI => by
        refine ⟨by simp; omega, fun e' st hn => ?_⟩
        have hg := brkP_get t u x5 i hi
        have hk := brk_mem (getD_mem hi 0)
        generalize (brk t u).getD i 0 = k at *
        obtain ⟨b1, hf1⟩ := fractionAt_SC (stA t k) (Nat.le_of_lt (stA_lt _ (by omega) _ (by omega)))
        obtain ⟨b2, hf2⟩ := fractionAt_SC (stA u k) (Nat.le_of_lt (stA_lt _ (by omega) _ (by omega)))
        rw [frN_stA _ (by omega) _ (by omega), frP_frA] at hf1 hf2
        obtain ⟨a1, a2⟩ := fr_bounds t x3 k (by omega)
        obtain ⟨c1, c2⟩ := fr_bounds u x4 k (by omega)
        have q1 := text_SC _ a1 a2
        have q2 := text_SC _ c1 c2
        have l1 := ftx_len _ a1 a2
        have l2 := ftx_len _ c1 c2
        have e1 : (⟨#[62]⟩ : ByteArray) = bs [62] := rfl
        have ew : bs (wordK t u k) = (bs (ftx (frP ((adL t []).getD k []))) ++ (⟨#[62]⟩ : ByteArray)) ++ bs (ftx (frP ((adL u []).getD k []))) := by
          rw [e1, bs_append, bs_append]; rfl
        rw [← wrap_succ (by omega), ew] at hn
        exact impl_GraphText_L0a_i1 _ _ _ _ _ b1 _ b2 _ _ (by omega) (by omega) (by omega) (by omega) (by rw [hg]; exact hf1) (by rw [hg]; exact hf2) q1 (by rw [e1, bs_size, bs_size, List.length_singleton]; omega) q2 (by rw [e1, bs_append, bs_size, bs_size, List.length_append, List.length_singleton]; omega) (sizeOK_one (by omega)) hn)
      (fun cur _ => impl_GraphText_L0a_x2 _ _ _ _ (by omega)) (brk t u).length 0 [] (by omega) (by simp)
    have hL := key.1
    rw [itr_map (fun i => bs (wordK t u ((brk t u).getD i 0))), List.nil_append, map_range' (brk t u) 0 (fun k => bs (wordK t u k))] at hL
    have em : (brk t u).map (fun k => bs (wordK t u k)) = txs (wordsG t u) := by rw [txs, wordsG, List.map_map]; rfl
    rw [em] at hL
    have lw := wordsG_len t u
    have lt : (txs (wordsG t u)).length = (wordsG t u).length := List.length_map ..
    unfold gtV
    by_cases h0 : wordsG t u = []
    · rw [if_pos h0]
      exact impl_GraphText_p1 _ _ _ _ _ _ _ _ hp hs hL (by rw [lt, h0]; rfl)
    · rw [if_neg h0]
      have h1 : 0 < (wordsG t u).length := List.length_pos_iff.2 h0
      have hj := join_len [44] (2 ^ 24) (wordsG t u) (words_mem t u x3 x5)
      have hm : (wordsG t u).length * (2 ^ 24 + [(44 : UInt8)].length) ≤ 8 * (2 ^ 24 + 1) := Nat.mul_le_mul (by omega) (Nat.le_refl _)
      exact impl_GraphText_p2 _ _ _ _ _ _ _ _ _ hp hs hL (by rw [lt]; omega) (strings_Join_SC (wordsG t u) h0 [44] (by omega) (by omega))

theorem specGraph_SC (a b : List UInt8) (ha : a.length ≤ 2 ^ 40) (hb : b.length ≤ 2 ^ 40) :
    SC cfg.P i_spec_GraphText [.s (.v (.pr .str .str) (bs a, bs b))] (.tup [.v .str (if isPair a b = true then bs (gtV (treeOf a) (treeOf b)) else (⟨#[]⟩ : ByteArray)), .v .bool (isPair a b)]) [] := by
  have hp := prGood_SC a b ha hb
  cases ht : isPair a b with
  | false =>
    rw [ht] at hp
    rw [if_neg (by simp)]
    exact spec_GraphText_p3 _ hp
  | true =>
    rw [ht] at hp
    rw [if_pos rfl]
    obtain ⟨x1, x2, x3, x4, x5⟩ := isPair_trees ht
    have hs := mpBreaks_SC (treeOf a) (treeOf b) (by omega) x5
    have hat := mpAt_SC (treeOf a) (by omega) (brk (treeOf a) (treeOf b)) (fun k hk => by have := brk_mem hk; omega) (by have := brk_len (treeOf a) (treeOf b); omega)
    have hbt := mpAt_SC (treeOf b) (by omega) (brk (treeOf a) (treeOf b)) (fun k hk => by have := brk_mem hk; omega) (by have := brk_len (treeOf a) (treeOf b); omega)
    rw [← x1, ← x2] at hs
    rw [← x1] at hat
    rw [← x2] at hbt
    generalize treeOf a = t at *
    generalize treeOf b = u at *
    have hl := brk_len t u
    have lw := wordsG_len t u
    have li : (ints (brk t u)).length = (brk t u).length := List.length_map ..
    unfold gtV
    by_cases h0 : wordsG t u = []
    · rw [if_pos h0]
      have : (brk t u).length = 0 := by rw [← lw, h0]; rfl
      exact spec_GraphText_p1 _ _ hp hs (by rw [li]; omega)
    · rw [if_neg h0]
      have h1 : 0 < (wordsG t u).length := List.length_pos_iff.2 h0
      have lA : ((brk t u).map fun k => frA ((adL t []).getD k [])).length = (brk t u).length := List.length_map ..
      have lB : ((brk t u).map fun k => frA ((adL u []).getD k [])).length = (brk t u).length := List.length_map ..
      have key : ∀ (m i : Nat), (wordsG t u).length - i = m → i ≤ (wordsG t u).length →
          LoopSC cfg.P 1 (lb P_spec_GraphText 0) (spec_GraphText_L0a (bs (joinL [44] ((wordsG t u).take i))) ((List.length ((brk t u).map fun k => frA ((adL t []).getD k [])) : Nat) : Int) (i : Int) ((brk t u).map fun k => frA ((adL u []).getD k [])) ((brk t u).map fun k => frA ((adL t []).getD k []))) (.exit 0)
            (spec_GraphText_L0X1 (bs (joinL [44] (wordsG t u))) ((List.length ((brk t u).map fun k => frA ((adL t []).getD k [])) : Nat) : Int) ((wordsG t u).length : Int) false ((brk t u).map fun k => frA ((adL u []).getD k [])) ((brk t u).map fun k => frA ((adL t []).getD k []))) := by
        intro m
        induction m with
        | zero =>
          intro i hm hi
          have e : i = (wordsG t u).length := by omega
          subst e
          rw [List.take_length]
          exact spec_GraphText_L0a_x3 _ _ _ _ _ (by omega)
        | succ m ih =>
          intro i hm hi
          have hi1 : i < (wordsG t u).length := by omega
          have hi2 : i < (brk t u).length := by omega
          have htk : (wordsG t u).take (i + 1) = (wordsG t u).take i ++ [(wordsG t u)[i]] := (List.take_append_getElem hi1).symm
          have hk := brk_mem (getD_mem hi2 0)
          have gA : List.getD ((brk t u).map fun k => frA ((adL t []).getD k [])) ((i : Int)).toNat ((0 : Int), (0 : Int)) = frA ((adL t []).getD ((brk t u).getD i 0) []) := by
            rw [Int.toNat_natCast]; exact getD_mapN _ _ _ hi2 0 _
          have gB : List.getD ((brk t u).map fun k => frA ((adL u []).getD k [])) ((i : Int)).toNat ((0 : Int), (0 : Int)) = frA ((adL u []).getD ((brk t u).getD i 0) []) := by
            rw [Int.toNat_natCast]; exact getD_mapN _ _ _ hi2 0 _
          have gW : (wordsG t u)[i] = wordK t u ((brk t u).getD i 0) := by
            have := getD_mapN (wordK t u) (brk t u) i hi2 0 []
            rw [← this]
            show _ = (wordsG t u).getD i []
            rw [List.getD_eq_getElem?_getD, List.getElem?_eq_getElem hi1]; rfl
          generalize (brk t u).getD i 0 = k at *
          obtain ⟨a1, a2⟩ := fr_bounds t x3 k (by omega)
          obtain ⟨c1, c2⟩ := fr_bounds u x4 k (by omega)
          have q1 := mpText_SC _ a1 a2
          have q2 := mpText_SC _ c1 c2
          rw [← frP_frA, ← gA] at q1
          rw [← frP_frA, ← gB] at q2
          have l1 := ftx_len _ a1 a2
          have l2 := ftx_len _ c1 c2
          have e1 : (⟨#[62]⟩ : ByteArray) = bs [62] := rfl
          have e4 : (⟨#[44]⟩ : ByteArray) = bs [44] := rfl
          have ew : (bs (ftx (frP ((adL t []).getD k []))) ++ (⟨#[62]⟩ : ByteArray)) ++ bs (ftx (frP ((adL u []).getD k []))) = bs (wordK t u k) := by
            rw [e1, bs_append, bs_append]; rfl
          have hlen := join_len [44] (2 ^ 24) ((wordsG t u).take i) (fun l hl => words_mem t u x3 x5 l (List.mem_of_mem_take hl))
          have hmul : ((wordsG t u).take i).length * (2 ^ 24 + [(44 : UInt8)].length) ≤ 8 * (2 ^ 24 + 1) := Nat.mul_le_mul (by rw [List.length_take]; omega) (Nat.le_refl _)
          have lk := wordK_len t u x3 x5 k (by omega)
          have hn := ih (i + 1) (by omega) (by omega)
          rw [← wrap_succ (by omega), htk, gW] at hn
          have z1 : (bs (ftx (frP ((adL t []).getD k [])))).size + (⟨#[62]⟩ : ByteArray).size ≤ 2 ^ 62 := by rw [e1, bs_size, bs_size, List.length_singleton]; omega
          have z2 : (bs (ftx (frP ((adL t []).getD k []))) ++ (⟨#[62]⟩ : ByteArray)).size + (bs (ftx (frP ((adL u []).getD k [])))).size ≤ 2 ^ 62 := by rw [e1, bs_append, bs_size, bs_size, List.length_append, List.length_singleton]; omega
          by_cases hz : i = 0
          · subst hz
            have e0 : bs (joinL [44] ((wordsG t u).take 0)) = (⟨#[]⟩ : ByteArray) := rfl
            have e5 : joinL [44] ((wordsG t u).take 0 ++ [wordK t u k]) = wordK t u k := by rw [List.take_zero, List.nil_append, join_one']
            have e2 : (⟨#[]⟩ : ByteArray) ++ bs (wordK t u k) = bs (wordK t u k) := by show bs [] ++ _ = _; rw [bs_append]; rfl
            rw [e5, ← e2, ← ew] at hn
            rw [e0]
            exact spec_GraphText_L0a_i2 _ _ _ _ _ _ _ (by omega) (by omega) (by omega) (by omega) (by omega) q1 z1 (by omega) (by omega) q2 z2 (by rw [ew, bs_size]; show 0 + _ ≤ _; omega) hn
          · have hne : (wordsG t u).take i ≠ [] := List.ne_nil_of_length_pos (by rw [List.length_take]; omega)
            have e2 : (bs (joinL [44] ((wordsG t u).take i)) ++ (⟨#[44]⟩ : ByteArray)) ++ bs (wordK t u k) = bs (joinL [44] ((wordsG t u).take i ++ [wordK t u k])) := by
              rw [join_snoc _ _ hne, e4, bs_append, bs_append]
            rw [← e2, ← ew] at hn
            exact spec_GraphText_L0a_i1 _ _ _ _ _ _ _ (by omega) (by omega) (by omega) (by omega) (by omega) (by rw [e4, bs_size, bs_size, List.length_singleton]; omega) q1 z1 (by omega) (by omega) q2 z2 (by rw [ew, e4, bs_append, bs_size, bs_size, List.length_append, List.length_singleton]; omega) hn
      have hL := key _ 0 rfl (by omega)
      exact spec_GraphText_p2 _ _ _ _ _ _ _ _ _ _ hp hs (by rw [li]; omega) hbt hat hL

/-- The law of GraphText. -/
theorem law_Graph (x y : ByteArray) (hx : x.size ≤ 2 ^ 63 - 1) (hy : y.size ≤ 2 ^ 63 - 1) :
    SC cfg.P i_laws_FnExactGraphText [.s (.v (.pr .str .str) (x, y))] (.s (.v .bool true)) [] := by
  obtain ⟨a, rfl⟩ := bs_ex x
  obtain ⟨b, rfl⟩ := bs_ex y
  rw [bs_size] at hx hy
  by_cases h : a.length + b.length ≤ 1048576
  · exact laws_FnExactGraphText_p2 _ _ _ _ _ _ _ _ (szPair_in a b h) (by omega) (laws_toPair_p1 _) (specGraph_SC a b (by omega) (by omega)) (laws_toPair_p1 _) (implGraph_SC a b (by omega) (by omega)) rfl (by simp)
  · exact laws_FnExactGraphText_p1 _ _ (szPair_out a b hx hy h) (by omega)

end Go.AI
