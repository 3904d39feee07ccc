/- The law of ReducedAreUnique. -/
import Derived.Test.YtdfllkeekehplaaQa
set_option autoImplicit false
set_option maxRecDepth 100000
set_option linter.unusedVariables false
namespace Go.AI
open Go.Proofs

theorem pbeq (x y : ByteArray × ByteArray) : (((x.1).toList == (y.1).toList) && ((x.2).toList == (y.2).toList)) = decide (x = y) := by
  by_cases h : x = y
  · subst h
    rw [seq_t rfl, seq_t rfl, decide_eq_true rfl]; rfl
  · rw [decide_eq_false h, Bool.and_eq_false_iff]
    by_cases g : x.1 = y.1
    · exact .inr (seq_f fun g2 => h (Prod.ext g g2))
    · exact .inl (seq_f g)

theorem npbeq (x : ByteArray × ByteArray) : (!(((x.1).toList == (x.1).toList) && ((x.2).toList == (x.2).toList))) = false := by
  rw [pbeq, decide_eq_true rfl]; rfl

theorem nbeq (b : Bool) : (!(b == b)) = false := by simp

/-- Bytes that came in. -/
def Bytes (l : List Int) : Prop := ∀ x ∈ l, 0 ≤ x ∧ x ≤ 255

theorem cur0 {l : List Int} (h : Bytes l) (hl : l.length ≤ 2 ^ 40) : CurOk 0 (l, ((0 : Int), (0 : Int))) := ⟨Int.le_refl _, Int.le_refl _, hl, h⟩

theorem pair_bs {n : Nat} {c : Cur} (h : CurOk n c) (hn : n ≤ 2 ^ 29) (most : Nat) (hm : most ≤ 10) : ∃ (a b : List UInt8) (c' : Cur), a.length ≤ 2 ^ 11 ∧ b.length ≤ 2 ^ 11 ∧ CurOk (n + 2000) c' ∧
    SC cfg.P i_spec_l1Cur_pair [.s (.mbx CurK c), .s (.v (.int .i64) (most : Int))] (.s (.v (.pr .str .str) (bs a, bs b))) [.box CurK c'] := by
  obtain ⟨a, b, c', ha, hb, h1, s⟩ := pair_SC h hn most hm
  obtain ⟨a, rfl⟩ := bs_ex a
  obtain ⟨b, rfl⟩ := bs_ex b
  exact ⟨a, b, c', ha, hb, h1, s⟩

theorem loose_bs {n : Nat} {c : Cur} (h : CurOk n c) (hn : n ≤ 2 ^ 29) : ∃ (p : Tr × Tr) (c' : Cur), Ok8 p ∧ CurOk (n + 100) c' ∧
    SC cfg.P i_spec_l1Cur_loose [.s (.mbx CurK c)] (.s (.v (.pr .str .str) (bs (txt p.1), bs (txt p.2)))) [.box CurK c'] := by
  obtain ⟨p, c', h1, h2, h3, s⟩ := loose_SC h hn
  exact ⟨p, c', ⟨h1, h2⟩, h3, s⟩

/-! ### Texts -/

theorem ru32 (x : ByteArray) (b : Bool) (v : ByteArray × ByteArray) : RestSC cfg.P 2 (rest P_laws_FnReducedAreUnique 32) (laws_FnReducedAreUnique_C32a x b v) .ret (laws_FnReducedAreUnique_R1 true) :=
  laws_FnReducedAreUnique_C32a_x1 _ _ _

theorem ru30 (l : List UInt8) (B : Bool) (V : ByteArray × ByteArray) (x255 : Bool) (h : B = true → ∃ u v : List UInt8, l = u ++ 62 :: v ∧ isPair u v = true ∧ V = (bs u, bs v)) :
    RestSC cfg.P 2 (rest P_laws_FnReducedAreUnique 30) (laws_FnReducedAreUnique_C30a (bs l) B x255 V) .ret (laws_FnReducedAreUnique_R1 true) := by
  cases B with
  | false => exact laws_FnReducedAreUnique_C30a_i2 _ _ _ (ru32 _ _ _)
  | true =>
    obtain ⟨u, v, rfl, hp, rfl⟩ := h rfl
    obtain ⟨o, e⟩ := ok_of hp
    have t := tree_bytes (l := u) (by unfold isPair at hp; simp only [Bool.and_eq_true] at hp; exact hp.1.1)
    have t2 := tree_bytes (l := v) (by unfold isPair at hp; simp only [Bool.and_eq_true] at hp; exact hp.1.2)
    have hq := pairOf_SC u v (by omega) (by omega)
    rw [hp] at hq
    have e1 : (⟨#[62]⟩ : ByteArray) = bs [62] := rfl
    have r := impl_PairText_p1 (bs u, bs v) (impl_IsPair_p1 _ _ _ hq) (by rw [e1, bs_size, bs_size, List.length_singleton]; omega) (by rw [e1, bs_append, bs_size, bs_size, List.length_append, List.length_singleton]; omega)
    refine laws_FnReducedAreUnique_C30a_x1 _ _ _ _ r ?_
    show bs u ++ (⟨#[62]⟩ : ByteArray) ++ bs v = _
    rw [e1, bs_append, bs_append]
    congr 1
    simp

theorem drawSame {l : List Int} (h : Bytes l) (hl : l.length ≤ 2 ^ 40) : ∃ a b e f : List UInt8, a.length ≤ 2 ^ 11 ∧ b.length ≤ 2 ^ 11 ∧ e.length ≤ 2 ^ 11 ∧ f.length ≤ 2 ^ 11 ∧
    SC cfg.P i_spec_DrawAreSamePairs [.s (.v (.sl (.int .u8)) l)] (.tup [.v (.pr .str .str) (bs a, bs b), .v (.pr .str .str) (bs e, bs f)]) [] := by
  obtain ⟨p, c1, o, h1, s1⟩ := loose_bs (cur0 h hl) (by omega)
  obtain ⟨t, c2, h2, s2⟩ := one_SC h1 (by omega) 3 (by omega)
  have tp := txt8 o
  cases t with
  | true =>
    obtain ⟨e, f, c3, he, hf, h3, s3⟩ := pair_bs h2 (by omega) 5 (by omega)
    exact ⟨_, _, e, f, by omega, by omega, he, hf, spec_DrawAreSamePairs_p1 _ _ _ _ _ _ s1 s2 s3⟩
  | false =>
    obtain ⟨cs, c3, hc, s3⟩ := choices0_SC h2 (by omega)
    have o1 := o.1
    have o2 := o.2
    have r := redByS_SC cs (by omega) p (by omega) (by omega)
    rw [redBy_red] at r
    have c := redP_c p
    have l1 := txt_len (redP p).1
    have l2 := txt_len (redP p).2
    exact ⟨_, _, _, _, by omega, by omega, by omega, by omega, spec_DrawAreSamePairs_p2 _ _ _ _ _ _ _ s1 s2 s3.view r⟩

theorem drawRed {l : List Int} (h : Bytes l) (hl : l.length ≤ 2 ^ 40) : ∃ a b : List UInt8, a.length ≤ 2 ^ 11 ∧ b.length ≤ 2 ^ 11 ∧
    SC cfg.P i_spec_DrawIsReduced [.s (.v (.sl (.int .u8)) l)] (.s (.v (.pr .str .str) (bs a, bs b))) [] := by
  obtain ⟨t, c1, h1, s1⟩ := one_SC (cur0 h hl) (by omega) 2 (by omega)
  cases t with
  | true =>
    obtain ⟨p, c2, o, h2, s2⟩ := loose_bs h1 (by omega)
    have tp := txt8 o
    exact ⟨_, _, by omega, by omega, spec_DrawIsReduced_p1 _ _ _ _ s1 s2⟩
  | false =>
    obtain ⟨a, b, c2, ha, hb, h2, s2⟩ := pair_bs h1 (by omega) 6 (by omega)
    exact ⟨a, b, ha, hb, spec_DrawIsReduced_p2 _ _ _ _ s1 s2⟩

theorem prT_SC (p : Tr × Tr) (h1 : p.1.c ≤ 2 ^ 20) (h2 : p.2.c ≤ 2 ^ 20) : ∃ t : ByteArray, t.size = 3 * p.1.c + 3 * p.2.c + 3 ∧ SC cfg.P i_spec_prText [.s (.v (.pr .str .str) (pt p))] (.s (.v .str t)) [] := by
  have l1 := txt_len p.1
  have l2 := txt_len p.2
  have e1 : (⟨#[62]⟩ : ByteArray) = bs [62] := rfl
  have r := spec_prText_p1 (pt p) (by show (bs (txt p.1)).size + _ ≤ _; rw [e1, bs_size, bs_size, List.length_singleton]; omega) (by show (bs (txt p.1) ++ (⟨#[62]⟩ : ByteArray)).size + (bs (txt p.2)).size ≤ _; rw [e1, bs_append, bs_size, bs_size, List.length_append, List.length_singleton]; omega)
  refine ⟨_, ?_, r⟩
  show ((bs (txt p.1) ++ (⟨#[62]⟩ : ByteArray)) ++ bs (txt p.2)).size = _
  rw [e1, bs_append, bs_append, bs_size, List.length_append, List.length_append, List.length_singleton]
  omega

theorem drawPP {l : List Int} (h : Bytes l) (hl : l.length ≤ 2 ^ 40) : ∃ t : List UInt8, t.length ≤ 2 ^ 11 ∧ SC cfg.P i_spec_DrawParsePair [.s (.v (.sl (.int .u8)) l)] (.s (.v .str (bs t))) [] := by
  obtain ⟨k, c1, hk, h1, s1⟩ := pick_SC (cur0 h hl) (by omega) 6 (by omega)
  obtain ⟨p, c2, p1, p2, h2, s2⟩ := surePair_SC h1 k (by omega) (by omega)
  obtain ⟨t, ht, s3⟩ := prT_SC p (by omega) (by omega)
  obtain ⟨b, c3, h3, s4⟩ := one_SC h2 (by omega) 3 (by omega)
  cases b with
  | true =>
    obtain ⟨t', c4, ht', h4, s5⟩ := spoilt_SC h3 (by omega) t (⟨#[40, 46, 41, 62]⟩ : ByteArray) (by omega) (by decide) (by decide)
    obtain ⟨t', rfl⟩ := bs_ex t'
    rw [bs_size] at ht'
    exact ⟨t', by omega, spec_DrawParsePair_p1 _ _ _ _ _ _ _ _ _ s1 s2 s3 s4 s5⟩
  | false =>
    obtain ⟨t, rfl⟩ := bs_ex t
    rw [bs_size] at ht
    exact ⟨t, by omega, spec_DrawParsePair_p2 _ _ _ _ _ _ _ s1 s2 s3 s4⟩

theorem ru19 (l m : List Int) (h : Bytes l) (hm : Bytes m) (hl : l.length ≤ 2 ^ 40) (hml : m.length ≤ 2 ^ 40) :
    (∀ x, RestSC cfg.P 2 (rest P_laws_FnReducedAreUnique 19) (laws_FnReducedAreUnique_C19a l m x) .ret (laws_FnReducedAreUnique_R1 true)) ∧
    (∀ x u v, RestSC cfg.P 2 (rest P_laws_FnReducedAreUnique 19) (laws_FnReducedAreUnique_C19b l m x u v) .ret (laws_FnReducedAreUnique_R1 true)) := by
  obtain ⟨a, b, e, f, ha, hb, he, hf, s1⟩ := drawSame hm hml
  have i1 := implSame_SC a b e f (by omega) (by omega) (by omega) (by omega)
  have i2 := specSame_SC a b e f (by omega) (by omega) (by omega) (by omega)
  obtain ⟨a', b', ha', hb', s2⟩ := drawRed hm hml
  have i3 := implIR_SC a' b' (by omega) (by omega)
  have i4 := specIR_SC a' b' (by omega) (by omega)
  obtain ⟨t, ht, s3⟩ := drawPP h hl
  obtain ⟨V, B, p1, p2, p3⟩ := pp_both t (by omega)
  have n := ru30 t B V false p3
  exact ⟨fun x => laws_FnReducedAreUnique_C19a_i1 _ _ _ _ _ _ _ _ _ _ _ _ _ _ _ _ _ _ _ s1 i1 i2 s2 i3 i4 s3 p1 p2 (nbeq _) (nbeq _) (nbeq _) (nbeq _) (nbeq _) (npbeq _) n,
    fun x u v => laws_FnReducedAreUnique_C19b_i1 _ _ _ _ _ _ _ _ _ _ _ _ _ _ _ _ _ _ _ _ _ s1 i1 i2 s2 i3 i4 s3 p1 p2 (nbeq _) (nbeq _) (nbeq _) (nbeq _) (nbeq _) (npbeq _) n⟩

/-! ### Expanded pairs -/

theorem ru17 (l m : List Int) (h : Bytes l) (hm : Bytes m) (hl : l.length ≤ 2 ^ 40) (hml : m.length ≤ 2 ^ 40) (a b : List UInt8) (k : Int) (x : Bool) :
    RestSC cfg.P 2 (rest P_laws_FnReducedAreUnique 17) (laws_FnReducedAreUnique_C17a l m (exB a b k) x (bs a, bs b) (exV a b k)) .ret (laws_FnReducedAreUnique_R1 true) := by
  obtain ⟨n1, n2⟩ := ru19 l m h hm hl hml
  cases hB : exB a b k with
  | false => exact laws_FnReducedAreUnique_C17a_i2 _ _ _ _ _ (n2 _ _ _)
  | true =>
    unfold exV
    rw [if_pos hB]
    unfold exB at hB
    simp only [Bool.and_eq_true, decide_eq_true_eq] at hB
    obtain ⟨hp, ⟨k1, k2⟩, k3⟩ := hB
    obtain ⟨o, e⟩ := ok_of hp
    have o1 := o.1
    rw [e]
    have st := exP_step (treeOf a, treeOf b) k.toNat o1 (by show k.toNat ≤ (treeOf a).c; omega)
    have sc := st.c
    have ok2 : Ok8 (exP (treeOf a, treeOf b) k.toNat) := ⟨by omega, by
      have : (exP (treeOf a, treeOf b) k.toNat).1.c = (treeOf a).c + 1 := sc.1.symm
      omega⟩
    have hb : bothL (exP (treeOf a, treeOf b) k.toNat) ≠ [] := fun hb => nf_both.2 hb _ st
    have r := isRed_SC _ ok2
    rw [decide_eq_false hb] at r
    exact laws_FnReducedAreUnique_C17a_i1 _ _ _ _ _ r (same_SC' _ _ o ok2 (redP_step st).symm) (n1 _)

theorem drawEx {l : List Int} (h : Bytes l) (hl : l.length ≤ 2 ^ 40) : ∃ (a b : List UInt8) (k : Int), a.length ≤ 2 ^ 11 ∧ b.length ≤ 2 ^ 11 ∧
    SC cfg.P i_spec_DrawExpandPair [.s (.v (.sl (.int .u8)) l)] (.tup [.v (.pr .str .str) (bs a, bs b), .v (.int .i64) k]) [] := by
  obtain ⟨a, b, c1, ha, hb, h1, s1⟩ := pair_bs (cur0 h hl) (by omega) 6 (by omega)
  have hc := trCarets_SC a (by omega)
  have hle : a.count 40 ≤ a.length := List.count_le_length
  have e : IntKind.wrap .i64 (((a.count 40 : Nat) : Int) + 3) = ((a.count 40 + 3 : Nat) : Int) := by rw [w64] <;> omega
  obtain ⟨r, c2, hr, h2, s2⟩ := pick_SC h1 (by omega) ((a.count 40 + 3 : Nat) : Int) (by omega)
  rw [← e] at s2
  exact ⟨a, b, _, ha, hb, spec_DrawExpandPair_p1 _ _ _ _ _ _ s1 hc s2⟩

theorem ru12 (l m : List Int) (h : Bytes l) (hm : Bytes m) (hl : l.length ≤ 2 ^ 40) (hml : m.length ≤ 2 ^ 40) :
    (∀ x, RestSC cfg.P 2 (rest P_laws_FnReducedAreUnique 12) (laws_FnReducedAreUnique_C12a l m x) .ret (laws_FnReducedAreUnique_R1 true)) ∧
    (∀ x u v, RestSC cfg.P 2 (rest P_laws_FnReducedAreUnique 12) (laws_FnReducedAreUnique_C12b l m x u v) .ret (laws_FnReducedAreUnique_R1 true)) := by
  obtain ⟨a, b, k, ha, hb, s⟩ := drawEx hm hml
  have i1 := implEx_SC a b (by omega) (by omega) k
  have i2 := specEx_SC a b (by omega) (by omega) k
  exact ⟨fun x => laws_FnReducedAreUnique_C12a_i1 _ _ _ _ _ _ _ _ _ s i1 i2 (nbeq _) (npbeq _) (ru17 l m h hm hl hml a b k _),
    fun x u v => laws_FnReducedAreUnique_C12b_i1 _ _ _ _ _ _ _ _ _ _ _ s i1 i2 (nbeq _) (npbeq _) (ru17 l m h hm hl hml a b k _)⟩

/-! ### Reduced pairs -/

theorem ru10 (l m : List Int) (h : Bytes l) (hm : Bytes m) (hl : l.length ≤ 2 ^ 40) (hml : m.length ≤ 2 ^ 40) (a b : List UInt8) (x : Bool) :
    RestSC cfg.P 2 (rest P_laws_FnReducedAreUnique 10) (laws_FnReducedAreUnique_C10a l m (isPair a b) x (bs a, bs b) (rpV a b)) .ret (laws_FnReducedAreUnique_R1 true) := by
  obtain ⟨n1, n2⟩ := ru12 l m h hm hl hml
  cases hp : isPair a b with
  | false => exact laws_FnReducedAreUnique_C10a_i3 _ _ _ _ _ (n2 _ _ _)
  | true =>
    unfold rpV
    rw [if_pos hp]
    obtain ⟨o, e⟩ := ok_of hp
    rw [e]
    generalize (treeOf a, treeOf b) = p at *
    have c := redP_c p
    have o1 := o.1
    have o2 := o.2
    have q1 : (redP p).1.c = (redP p).2.c := red_eqc _ p o1
    have ok2 : Ok8 (redP p) := ⟨q1, by omega⟩
    have nb : bothL (redP p) = [] := red_done _ p (Nat.le_refl _)
    have r1 := isRed_SC (redP p) ok2
    rw [decide_eq_true nb] at r1
    have r2 := isRed_SC p o
    have hs := same_SC' p (redP p) o ok2 (by
      show redP p = red (redP p).1.c (redP p)
      exact (red_self (redP p) q1 nb _ (Nat.le_refl _)).symm)
    by_cases hb : bothL p = []
    · rw [decide_eq_true hb] at r2
      have e2 : redP p = p := red_self p o1 hb _ (Nat.le_refl _)
      exact laws_FnReducedAreUnique_C10a_i1 _ _ _ _ _ _ r1 r2 (by rw [pbeq, e2, decide_eq_true rfl]) rfl hs (n1 _)
    · rw [decide_eq_false hb] at r2
      have e2 : redP p ≠ p := fun g => hb (by rw [← g]; exact nb)
      exact laws_FnReducedAreUnique_C10a_i2 _ _ _ _ _ _ r1 r2 (by rw [pbeq, decide_eq_false (fun g => e2 (pt_inj.1 g))]) rfl hs (n1 _)

theorem drawRB {l : List Int} (h : Bytes l) (hl : l.length ≤ 2 ^ 40) : ∃ (a b : List UInt8) (k : List Int), a.length ≤ 2 ^ 11 ∧ b.length ≤ 2 ^ 11 ∧ k.length ≤ 8 ∧
    SC cfg.P i_spec_DrawReduceBy [.s (.v (.sl (.int .u8)) l)] (.tup [.v (.pr .str .str) (bs a, bs b), .own t_int (.int .i64) k]) [] := by
  obtain ⟨t, c1, h1, s1⟩ := one_SC (cur0 h hl) (by omega) 4 (by omega)
  cases t with
  | true =>
    obtain ⟨a, b, c2, ha, hb, h2, s2⟩ := pair_bs h1 (by omega) 6 (by omega)
    obtain ⟨k, c3, hk, s3⟩ := choices_SC h2 (by omega)
    exact ⟨a, b, k, ha, hb, hk, spec_DrawReduceBy_p1 _ _ _ _ _ _ s1 s2 s3⟩
  | false =>
    obtain ⟨p, c2, o, h2, s2⟩ := loose_bs h1 (by omega)
    have tp := txt8 o
    obtain ⟨k, c3, hk, s3⟩ := choices_SC h2 (by omega)
    exact ⟨_, _, k, by omega, by omega, hk, spec_DrawReduceBy_p2 _ _ _ _ _ _ s1 s2 s3⟩

theorem ru3 (l m : List Int) (h : Bytes l) (hm : Bytes m) (hl : l.length ≤ 2 ^ 40) (hml : m.length ≤ 2 ^ 40) (x : Bool) :
    RestSC cfg.P 2 (rest P_laws_FnReducedAreUnique 3) (laws_FnReducedAreUnique_C3a l m x) .ret (laws_FnReducedAreUnique_R1 true) := by
  obtain ⟨a, b, k, ha, hb, hk, s⟩ := drawRB h hl
  have i1 := implRB_SC a b (by omega) (by omega) k (by omega)
  have i2 := specRB_SC a b (by omega) (by omega) k (by omega)
  have i3 := implRP_SC a b (by omega) (by omega)
  have i4 := specRP_SC a b (by omega) (by omega)
  have i5 := impl_IsPair_p1 _ _ _ (pairOf_SC a b (by omega) (by omega))
  have n := ru10 l m h hm hl hml a b false
  cases hB : rbB a b k with
  | true =>
    have hp : isPair a b = true := by unfold rbB at hB; rw [Bool.and_eq_true] at hB; exact hB.1
    have ev : rbV a b k = rpV a b := by
      unfold rbV rpV
      rw [if_pos hB, if_pos hp]
      have := redBy_red (k.map Int.toNat) (treeOf a, treeOf b)
      rw [this]
    rw [hB] at i1 i2
    rw [hp] at i3 i4 i5 n
    rw [ev] at i1 i2
    exact laws_FnReducedAreUnique_C3a_i1 _ _ _ _ _ _ _ _ _ _ _ _ s i1 i2 i3 i4 rfl (npbeq _) rfl (npbeq _) (npbeq _) i5 rfl n
  | false =>
    rw [hB] at i1 i2
    exact laws_FnReducedAreUnique_C3a_i2 _ _ _ _ _ _ _ _ _ _ _ _ _ s i1 i2 i3 i4 rfl (npbeq _) (nbeq _) (npbeq _) i5 (nbeq _) n

/-- The law. -/
theorem law_Ru (a b : List Int) (_ha : a.length ≤ 2 ^ 63 - 1) (h1 : ∀ n ∈ a, (Lit.int .u8 n).wf = true) (_hb : b.length ≤ 2 ^ 63 - 1) (h2 : ∀ n ∈ b, (Lit.int .u8 n).wf = true) :
    SC cfg.P i_laws_FnReducedAreUnique [.s (.v (.sl (.int .u8)) a), .s (.v (.sl (.int .u8)) b)] (.s (.v .bool true)) [] := by
  by_cases g1 : a.length ≤ 1048576
  · have w : IntKind.wrap .i64 (1048576 - ((a.length : Nat) : Int)) = 1048576 - ((a.length : Nat) : Int) := by rw [w64] <;> omega
    by_cases g2 : a.length + b.length ≤ 1048576
    · have hbig : SC cfg.P i_laws_big [.s (.v (.sl (.int .u8)) a), .s (.v (.sl (.int .u8)) b)] (.s (.v .bool false)) [] := laws_big_p3 _ _ (by omega) (by rw [w]; omega)
      exact laws_FnReducedAreUnique_R1_of _ _ _ (laws_FnReducedAreUnique_C0a_i2 _ _ hbig (ru3 a b (fun x hx => byte_wf (h1 x hx)) (fun x hx => byte_wf (h2 x hx)) (by omega) (by omega) _))
    · exact laws_FnReducedAreUnique_R1_of _ _ _ (laws_FnReducedAreUnique_C0a_x1 _ _ (laws_big_p2 _ _ (by omega) (by rw [w]; omega)))
  · exact laws_FnReducedAreUnique_R1_of _ _ _ (laws_FnReducedAreUnique_C0a_x1 _ _ (laws_big_p1 _ _ (by omega)))

end Go.AI
