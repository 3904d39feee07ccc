/- The law of PairsMultiply. -/
import Derived.Test.YtdfllkeekehplaaPd
import Derived.Test.YtdfllkeekehplaaDd
import Derived.Test.YtdfllkeekehplaaGA
import Derived.Test.YtdfllkeekehplaaAiH
set_option autoImplicit false
set_option maxRecDepth 100000
set_option linter.unusedVariables false
namespace Go.AI
open Go.Proofs

theorem pbeq (x y : ByteArray × ByteArray) : (((x.1).toList == (y.1).toList) && ((x.2).toList == (y.2).toList)) = decide (x = y) := by
  by_cases h : x = y
  · subst h
    rw [seq_t rfl, seq_t rfl, decide_eq_true rfl]; rfl
  · rw [decide_eq_false h, Bool.and_eq_false_iff]
    by_cases g : x.1 = y.1
    · exact .inr (seq_f fun g2 => h (Prod.ext g g2))
    · exact .inl (seq_f g)

theorem npbeq (x : ByteArray × ByteArray) : (!(((x.1).toList == (x.1).toList) && ((x.2).toList == (x.2).toList))) = false := by
  rw [pbeq, decide_eq_true rfl]; rfl

theorem nbeq (b : Bool) : (!(b == b)) = false := by simp

/-- Bytes that came in. -/
def Bytes (l : List Int) : Prop := ∀ x ∈ l, 0 ≤ x ∧ x ≤ 255

theorem cur0 {l : List Int} (h : Bytes l) (hl : l.length ≤ 2 ^ 40) : CurOk 0 (l, ((0 : Int), (0 : Int))) := ⟨Int.le_refl _, Int.le_refl _, hl, h⟩

theorem two_of {a b e f : List UInt8} (h : twoB a b e f = true) : isPair a b = true ∧ isPair e f = true := by
  unfold twoB at h
  rwa [Bool.and_eq_true] at h


/-! ### Commutators -/

theorem pm24 (x273 : Bool) (u v w : ByteArray × ByteArray) : RestSC cfg.P 2 (rest P_laws_FnPairsMultiply 24) (laws_FnPairsMultiply_C24a x273 u v w) .ret (laws_FnPairsMultiply_R1 true) :=
  laws_FnPairsMultiply_C24a_x1 _ _ _ _

theorem pm22 (a b e f : List UInt8) (x272 : Bool) : RestSC cfg.P 2 (rest P_laws_FnPairsMultiply 22) (laws_FnPairsMultiply_C22a (cmB a b e f) x272 (bs a, bs b) (bs e, bs f) (cmV a b e f)) .ret (laws_FnPairsMultiply_R1 true) := by
  cases hc : cmB a b e f with
  | false => exact laws_FnPairsMultiply_C22a_i7 _ _ _ _ (pm24 _ _ _ _)
  | true =>
    unfold cmB at hc
    rw [Bool.and_eq_true] at hc
    obtain ⟨ht, h8⟩ := hc
    obtain ⟨t1, t2⟩ := two_of ht
    obtain ⟨o1, e1⟩ := ok_of t1
    obtain ⟨o2, e2⟩ := ok_of t2
    unfold cmV
    rw [if_pos ht, e1, e2]
    unfold cmP at h8 ⊢
    generalize (treeOf a, treeOf b) = p at *
    generalize (treeOf e, treeOf f) = q at *
    have hq8 : (comT2 p q).1.c ≤ 8 := of_decide_eq_true h8
    have okc : Ok8 (comT2 p q) := ⟨comT_eqc p q o1.1 o2.1, hq8⟩
    have hv : fitV (comP p q) = pt (comT2 p q) := fit_ok hq8
    rw [hv]
    have hin := inner_SC (comT2 p q) okc (com_ld p q o1.1 o2.1) (com_rd p q o1.1 o2.1)
    have hu := com_unit p q o1.1 o2.1
    have s1 := prod_SC p q o1 o2
    have s2 := prod_SC q p o2 o1
    have hid := impl_IdentityPair_p1
    have ei : ((⟨#[46]⟩ : ByteArray), (⟨#[46]⟩ : ByteArray)) = pt (.leaf, .leaf) := rfl
    rw [ei] at hid
    by_cases c1 : (timesT p q).1.c ≤ 8
    · rw [decide_eq_true c1] at s1
      by_cases c2 : (timesT q p).1.c ≤ 8
      · rw [decide_eq_true c2] at s2
        rw [fit_ok c1] at s1
        rw [fit_ok c2] at s2
        by_cases h : timesT p q = timesT q p
        · exact laws_FnPairsMultiply_C22a_x1 _ _ _ _ _ _ _ _ s1 s2 (by rw [pbeq, h, decide_eq_true rfl]) hid (by rw [pbeq, hu.2 h, decide_eq_true rfl]) rfl hin
        · exact laws_FnPairsMultiply_C22a_x4 _ _ _ _ _ _ _ _ s1 s2 (by rw [pbeq, decide_eq_false (fun g => h (pt_inj.1 g))]) hid (by rw [pbeq, decide_eq_false (fun g => h (hu.1 (pt_inj.1 g)))]) rfl hin
      · rw [decide_eq_false c2] at s2
        exact laws_FnPairsMultiply_C22a_x5 _ _ _ _ _ _ _ s1 s2 hin
    · rw [decide_eq_false c1] at s1
      exact laws_FnPairsMultiply_C22a_x6 _ _ _ _ _ _ _ _ s1 s2 hin

theorem draw2 {l : List Int} (h : Bytes l) (hl : l.length ≤ 2 ^ 40) (k : Nat) (hk : k ≤ 10) : ∃ (a b e f : List UInt8) (c1 c2 : Cur), a.length ≤ 2 ^ 11 ∧ b.length ≤ 2 ^ 11 ∧ e.length ≤ 2 ^ 11 ∧ f.length ≤ 2 ^ 11 ∧
    SC cfg.P i_spec_l1Cur_pair [.s (.mbx CurK (l, ((0 : Int), (0 : Int)))), .s (.v (.int .i64) (k : Int))] (.s (.v (.pr .str .str) (bs a, bs b))) [.box CurK c1] ∧
    SC cfg.P i_spec_l1Cur_pair [.s (.mbx CurK c1), .s (.v (.int .i64) (k : Int))] (.s (.v (.pr .str .str) (bs e, bs f))) [.box CurK c2] := by
  obtain ⟨a, b, c1, ha, hb, h1, s1⟩ := pair_SC (cur0 h hl) (by omega) k hk
  obtain ⟨e, f, c2, he, hf, h2, s2⟩ := pair_SC h1 (by omega) k hk
  obtain ⟨a, rfl⟩ := bs_ex a
  obtain ⟨b, rfl⟩ := bs_ex b
  obtain ⟨e, rfl⟩ := bs_ex e
  obtain ⟨f, rfl⟩ := bs_ex f
  exact ⟨a, b, e, f, c1, c2, ha, hb, he, hf, s1, s2⟩

theorem pm17a (l : List Int) (h : Bytes l) (hl : l.length ≤ 2 ^ 40) (x : Bool) : RestSC cfg.P 2 (rest P_laws_FnPairsMultiply 17) (laws_FnPairsMultiply_C17a l x) .ret (laws_FnPairsMultiply_R1 true) := by
  obtain ⟨a, b, e, f, c1, c2, ha, hb, he, hf, s1, s2⟩ := draw2 h hl 3 (by omega)
  exact laws_FnPairsMultiply_C17a_i1 _ _ _ _ _ _ _ _ (spec_DrawCommutatorPair_p1 _ _ _ _ _ s1 s2) (implCM_SC a b e f (by omega) (by omega) (by omega) (by omega)) (specCM_SC a b e f (by omega) (by omega) (by omega) (by omega)) (nbeq _) (npbeq _) (pm22 a b e f _)

theorem pm17b (l : List Int) (h : Bytes l) (hl : l.length ≤ 2 ^ 40) (k : Int) (x : Bool) (u v : ByteArray × ByteArray) : RestSC cfg.P 2 (rest P_laws_FnPairsMultiply 17) (laws_FnPairsMultiply_C17b l k x u v) .ret (laws_FnPairsMultiply_R1 true) := by
  obtain ⟨a, b, e, f, c1, c2, ha, hb, he, hf, s1, s2⟩ := draw2 h hl 3 (by omega)
  exact laws_FnPairsMultiply_C17b_i1 _ _ _ _ _ _ _ _ _ _ _ (spec_DrawCommutatorPair_p1 _ _ _ _ _ s1 s2) (implCM_SC a b e f (by omega) (by omega) (by omega) (by omega)) (specCM_SC a b e f (by omega) (by omega) (by omega) (by omega)) (nbeq _) (npbeq _) (pm22 a b e f _)

/-! ### Powers -/

theorem powO_snoc (p : Tr × Tr) : ∀ (n : Nat) (out : Tr × Tr), powO (n + 1) out p = (powO n out p).bind fun o => if (timesT o p).1.c ≤ 8 then some (timesT o p) else none := by
  intro n
  induction n with
  | zero => intro out; simp [powO]
  | succ n ih =>
    intro out
    rw [powO]
    split
    · rename_i h
      rw [ih, powO, if_pos h]
    · rename_i h
      rw [powO, if_neg h]; rfl

theorem powO_red (p : Tr × Tr) : ∀ (n : Nat) (out o : Tr × Tr), powO n out p = some o → bothL out = [] → bothL o = [] := by
  intro n
  induction n with
  | zero => intro out o h hb; simp [powO] at h; rw [← h]; exact hb
  | succ n ih =>
    intro out o h hb
    rw [powO] at h
    split at h
    · exact ih _ _ h (times_red _ _)
    · cases h

/-- The power of a pair, if it may be. -/
def pwT (p : Tr × Tr) (k : Int) : Option (Tr × Tr) := if -10 ≤ k ∧ k ≤ 10 then powO k.natAbs (.leaf, .leaf) (if k < 0 then swp p else p) else none

theorem pw_SC (p : Tr × Tr) (h : Ok8 p) (k : Int) : (∀ o, pwT p k = some o → SC cfg.P i_impl_PowerPair [.s (.v (.pr .str .str) (pt p)), .s (.v (.int .i64) k)] (.tup [.v (.pr .str .str) (pt o), .v .bool true]) []) ∧
    (pwT p k = none → ∃ v, SC cfg.P i_impl_PowerPair [.s (.v (.pr .str .str) (pt p)), .s (.v (.int .i64) k)] (.tup [.v (.pr .str .str) v, .v .bool false]) []) := by
  have t1 := txt8 h
  have r := implPW_SC (txt p.1) (txt p.2) (by omega) (by omega) k
  have e : pwO (txt p.1) (txt p.2) k = pwT p k := by
    unfold pwO pwT pwP
    rw [is_txt h, (tree_txt h).1, (tree_txt h).2]
    by_cases hk : -10 ≤ k ∧ k ≤ 10
    · rw [if_pos ⟨rfl, hk⟩, if_pos hk]
    · rw [if_neg (fun g => hk g.2), if_neg hk]
  unfold pwV pwB at r
  rw [e] at r
  refine ⟨fun o ho => ?_, fun ho => ?_⟩
  · rw [ho] at r; exact r
  · rw [ho] at r; exact ⟨_, r⟩

theorem pm15 (l : List Int) (h : Bytes l) (hl : l.length ≤ 2 ^ 40) (a b : List UInt8) (k : Int) (hk1 : -11 ≤ k) (hk2 : k ≤ 11) (x214 : Bool) :
    RestSC cfg.P 2 (rest P_laws_FnPairsMultiply 15) (laws_FnPairsMultiply_C15a l k (pwB a b k) x214 (bs a, bs b) (pwV a b k)) .ret (laws_FnPairsMultiply_R1 true) := by
  cases hb : pwB a b k with
  | false => exact laws_FnPairsMultiply_C15a_i5 _ _ _ _ _ (pm17b l h hl _ _ _ _)
  | true =>
    have hp : isPair a b = true := by
      unfold pwB pwO at hb
      cases hp : isPair a b with
      | true => rfl
      | false => rw [if_neg (by rw [hp]; simp)] at hb; cases hb
    obtain ⟨okp, ep⟩ := ok_of hp
    have ew : IntKind.wrap .i64 (k + 1) = k + 1 := by rw [w64] <;> omega
    have hO : pwO a b k = pwT (treeOf a, treeOf b) k := by
      unfold pwO pwT pwP
      by_cases hk : -10 ≤ k ∧ k ≤ 10
      · rw [if_pos ⟨hp, hk⟩, if_pos hk]
      · rw [if_neg (fun g => hk g.2), if_neg hk]
    unfold pwB at hb
    unfold pwV
    rw [hO] at hb ⊢
    rw [ep]
    generalize (treeOf a, treeOf b) = p at *
    obtain ⟨o, ho⟩ := Option.isSome_iff_exists.1 hb
    rw [ho]
    show RestSC cfg.P 2 (rest P_laws_FnPairsMultiply 15) (laws_FnPairsMultiply_C15a l k true x214 (pt p) (pt o)) .ret (laws_FnPairsMultiply_R1 true)
    have n17 := pm17a l h hl false
    have hin : -10 ≤ k ∧ k ≤ 10 := by
      unfold pwT at ho
      by_cases hin : -10 ≤ k ∧ k ≤ 10
      · exact hin
      · rw [if_neg hin] at ho; cases ho
    have hid := impl_IdentityPair_p1
    have ei : ((⟨#[46]⟩ : ByteArray), (⟨#[46]⟩ : ByteArray)) = pt (.leaf, .leaf) := rfl
    rw [ei] at hid
    have hu : bothL ((.leaf, .leaf) : Tr × Tr) = [] := rfl
    have ho2 := ho
    unfold pwT at ho2
    rw [if_pos hin] at ho2
    have okq : (if k < 0 then swp p else p).1.c = (if k < 0 then swp p else p).2.c := by
      split
      · exact okp.1.symm
      · exact okp.1
    have oko := powO_ok _ _ _ _ ho2 rfl (Nat.zero_le 8) okq
    have oko8 : Ok8 o := ⟨oko.1, oko.2⟩
    have redo := powO_red _ _ _ _ ho2 hu
    obtain ⟨w1, w2⟩ := pw_SC p okp (k + 1)
    rw [← ew] at w1 w2
    have pr := prod_SC o p oko8 okp
    have unit0 : k = 0 → o = (.leaf, .leaf) := fun e => by
      subst e
      have : powO 0 ((.leaf, .leaf) : Tr × Tr) (if (0 : Int) < 0 then swp p else p) = some o := ho2
      simp only [powO, Option.some.injEq] at this
      exact this.symm
    -- what the next power is
    have key : ∀ o', pwT p (k + 1) = some o' → timesT o p = o' ∧ o'.1.c ≤ 8 := by
      intro o' h'
      by_cases hneg : k < 0
      · rw [if_pos hneg] at ho2
        have en : k.natAbs = (k + 1).natAbs + 1 := by omega
        rw [en, powO_snoc] at ho2
        obtain ⟨o1, h1, h2⟩ := Option.bind_eq_some_iff.1 ho2
        have e1 : o' = o1 := by
          unfold pwT at h'
          rw [if_pos (by omega)] at h'
          by_cases h0 : k + 1 < 0
          · rw [if_pos h0, h1] at h'
            exact (Option.some.inj h').symm
          · have z : (k + 1).natAbs = 0 := by omega
            rw [z] at h1 h'
            simp only [powO, Option.some.injEq] at h1 h'
            rw [← h1, ← h']
        split at h2
        · have e2 := Option.some.inj h2
          have q1 := powO_ok _ _ _ _ h1 rfl (Nat.zero_le 8) okp.1.symm
          have q2 := powO_red _ _ _ _ h1 hu
          rw [e1]
          refine ⟨?_, q1.2⟩
          rw [← e2]
          exact times_undo o1 p q1.1 q2 okp.1
        · cases h2
      · rw [if_neg hneg] at ho2
        unfold pwT at h'
        by_cases h10 : -10 ≤ k + 1 ∧ k + 1 ≤ 10
        · rw [if_pos h10, if_neg (by omega)] at h'
          have en : (k + 1).natAbs = k.natAbs + 1 := by omega
          rw [en, powO_snoc, ho2, Option.bind_some] at h'
          split at h'
          · rename_i h8
            have e2 := Option.some.inj h'
            exact ⟨e2, e2 ▸ h8⟩
          · cases h'
        · rw [if_neg h10] at h'; cases h'
    cases hn : pwT p (k + 1) with
    | some o' =>
      obtain ⟨k1, k2⟩ := key o' hn
      have s1 := w1 o' (by rw [ew]; exact hn)
      rw [k1, fit_ok k2, decide_eq_true k2] at pr
      by_cases h0 : k = 0
      · rw [unit0 h0] at pr ⊢
        exact laws_FnPairsMultiply_C15a_i1 _ _ _ _ _ _ _ _ s1 pr (npbeq _) h0 hid (npbeq _) n17
      · exact laws_FnPairsMultiply_C15a_i2 _ _ _ _ _ _ _ s1 pr (npbeq _) h0 n17
    | none =>
      obtain ⟨v, s1⟩ := w2 (by rw [ew]; exact hn)
      by_cases h0 : k = 0
      · rw [unit0 h0] at pr ⊢
        exact laws_FnPairsMultiply_C15a_i3 _ _ _ _ _ _ _ _ _ s1 pr h0 hid (npbeq _) n17
      · exact laws_FnPairsMultiply_C15a_i4 _ _ _ _ _ _ _ _ s1 pr h0 n17

theorem drawPw {l : List Int} (h : Bytes l) (hl : l.length ≤ 2 ^ 40) : ∃ (a b : List UInt8) (k : Int), a.length ≤ 2 ^ 11 ∧ b.length ≤ 2 ^ 11 ∧ -11 ≤ k ∧ k ≤ 11 ∧
    SC cfg.P i_spec_DrawPowerPair [.s (.v (.sl (.int .u8)) l)] (.tup [.v (.pr .str .str) (bs a, bs b), .v (.int .i64) k]) [] := by
  obtain ⟨t, c0, h0, s0⟩ := one_SC (cur0 h hl) (by omega) 10 (by omega)
  obtain ⟨a, b, c1, ha, hb, h1, s1⟩ := pair_SC h0 (by omega) 4 (by omega)
  obtain ⟨a, rfl⟩ := bs_ex a
  obtain ⟨b, rfl⟩ := bs_ex b
  cases t with
  | true =>
    obtain ⟨k, c2, hk, h2, s2⟩ := among_SC h1 (by omega) ([-11, -10, 10, 11] : List Int) (by decide) (by decide)
    have hb2 : -11 ≤ k ∧ k ≤ 11 := by
      simp only [List.mem_cons, List.not_mem_nil, or_false] at hk
      omega
    exact ⟨a, b, k, ha, hb, hb2.1, hb2.2, spec_DrawPowerPair_p1 _ _ _ _ _ _ s0 s1 s2⟩
  | false =>
    obtain ⟨k, c2, hk, h2, s2⟩ := pick_SC h1 (by omega) 9 (by omega)
    have e : IntKind.wrap .i64 ((k : Int) - 4) = (k : Int) - 4 := by rw [w64] <;> omega
    have r := spec_DrawPowerPair_p2 _ _ _ _ _ _ s0 s1 s2
    rw [e] at r
    exact ⟨a, b, (k : Int) - 4, ha, hb, by omega, by omega, r⟩

theorem pm10a (l : List Int) (h : Bytes l) (hl : l.length ≤ 2 ^ 40) (x : Bool) : RestSC cfg.P 2 (rest P_laws_FnPairsMultiply 10) (laws_FnPairsMultiply_C10a l x) .ret (laws_FnPairsMultiply_R1 true) := by
  obtain ⟨a, b, k, ha, hb, k1, k2, s⟩ := drawPw h hl
  exact laws_FnPairsMultiply_C10a_i1 _ _ _ _ _ _ _ _ s (implPW_SC a b (by omega) (by omega) k) (specPW_SC a b (by omega) (by omega) k) (nbeq _) (npbeq _) (pm15 l h hl a b k k1 k2 _)

theorem pm10b (l : List Int) (h : Bytes l) (hl : l.length ≤ 2 ^ 40) (x : Bool) (u v w : ByteArray × ByteArray) : RestSC cfg.P 2 (rest P_laws_FnPairsMultiply 10) (laws_FnPairsMultiply_C10b l x u v w) .ret (laws_FnPairsMultiply_R1 true) := by
  obtain ⟨a, b, k, ha, hb, k1, k2, s⟩ := drawPw h hl
  exact laws_FnPairsMultiply_C10b_i1 _ _ _ _ _ _ _ _ _ _ _ s (implPW_SC a b (by omega) (by omega) k) (specPW_SC a b (by omega) (by omega) k) (nbeq _) (npbeq _) (pm15 l h hl a b k k1 k2 _)

/-! ### Products -/

theorem pm8 (l : List Int) (h : Bytes l) (hl : l.length ≤ 2 ^ 40) (a b e f : List UInt8) (x80 : Bool) :
    RestSC cfg.P 2 (rest P_laws_FnPairsMultiply 8) (laws_FnPairsMultiply_C8a l (ppB a b e f) x80 (bs a, bs b) (bs e, bs f) (ppV a b e f)) .ret (laws_FnPairsMultiply_R1 true) := by
  cases hc : ppB a b e f with
  | false => exact laws_FnPairsMultiply_C8a_i3 _ _ _ _ _ (pm10b l h hl _ _ _ _)
  | true =>
    unfold ppB at hc
    rw [Bool.and_eq_true] at hc
    obtain ⟨ht, h8⟩ := hc
    obtain ⟨t1, t2⟩ := two_of ht
    obtain ⟨o1, e1⟩ := ok_of t1
    obtain ⟨o2, e2⟩ := ok_of t2
    unfold ppV
    rw [if_pos ht, e1, e2]
    unfold prodP at h8 ⊢
    generalize (treeOf a, treeOf b) = p at *
    generalize (treeOf e, treeOf f) = q at *
    have hr8 : (timesT p q).1.c ≤ 8 := of_decide_eq_true h8
    have req := times_eqc p q o1.1 o2.1
    have okr : Ok8 (timesT p q) := ⟨req, hr8⟩
    rw [fit_ok hr8]
    have sp : Ok8 (swp p) := ⟨o1.1.symm, by show p.2.c ≤ 8; rw [← o1.1]; exact o1.2⟩
    have sq : Ok8 (swp q) := ⟨o2.1.symm, by show q.2.c ≤ 8; rw [← o2.1]; exact o2.2⟩
    have mp : Ok8 (mirP p) := ⟨by show (mir p.1).c = (mir p.2).c; rw [mir_c, mir_c]; exact o1.1, by show (mir p.1).c ≤ 8; rw [mir_c]; exact o1.2⟩
    have mq : Ok8 (mirP q) := ⟨by show (mir q.1).c = (mir q.2).c; rw [mir_c, mir_c]; exact o2.1, by show (mir q.1).c ≤ 8; rw [mir_c]; exact o2.2⟩
    have k3 := prod_SC (swp q) (swp p) sq sp
    rw [times_swp p q o1.1 o2.1] at k3
    have c3 : (swp (timesT p q)).1.c ≤ 8 := by show (timesT p q).2.c ≤ 8; rw [← req]; exact hr8
    rw [fit_ok c3, decide_eq_true c3] at k3
    have k7 := prod_SC (mirP p) (mirP q) mp mq
    rw [times_mir p q o1.1 o2.1] at k7
    have c7 : (mirP (timesT p q)).1.c ≤ 8 := by show (mir (timesT p q).1).c ≤ 8; rw [mir_c]; exact hr8
    rw [fit_ok c7, decide_eq_true c7] at k7
    have k12 := prod_SC (timesT p q) (swp q) okr sq
    have eb := times_back p q o1.1 o2.1
    have n10 := pm10a l h hl false
    have bb : bothL (timesT p q) = [] := times_red p q
    by_cases c12 : (timesT (timesT p q) (swp q)).1.c ≤ 8
    · rw [fit_ok c12, decide_eq_true c12] at k12
      have okb : Ok8 (timesT (timesT p q) (swp q)) := ⟨times_eqc _ _ req o2.1.symm, c12⟩
      have hs := same_SC' (timesT (timesT p q) (swp q)) p okb o1 (by
        unfold redP
        rw [red_self _ okb.1 (times_red _ _) _ (Nat.le_refl _), eb])
      exact laws_FnPairsMultiply_C8a_i1 _ _ _ _ _ _ _ _ _ _ _ _ _ _ (inv_SC p o1) (inv_SC q o2) k3 (inv_SC _ okr) (mirP_SC p o1) (mirP_SC q o2) k7 (mirP_SC _ okr) (isRed_SC _ okr bb) (npbeq _) (npbeq _) k12 hs n10
    · rw [decide_eq_false c12] at k12
      exact laws_FnPairsMultiply_C8a_i2 _ _ _ _ _ _ _ _ _ _ _ _ _ _ (inv_SC p o1) (inv_SC q o2) k3 (inv_SC _ okr) (mirP_SC p o1) (mirP_SC q o2) k7 (mirP_SC _ okr) (isRed_SC _ okr bb) (npbeq _) (npbeq _) k12 n10

theorem pm3 (l m : List Int) (h : Bytes l) (hm : Bytes m) (hl : l.length ≤ 2 ^ 40) (hml : m.length ≤ 2 ^ 40) (x : Bool) : RestSC cfg.P 2 (rest P_laws_FnPairsMultiply 3) (laws_FnPairsMultiply_C3a l m x) .ret (laws_FnPairsMultiply_R1 true) := by
  obtain ⟨a, b, e, f, c1, c2, ha, hb, he, hf, s1, s2⟩ := draw2 h hl 4 (by omega)
  exact laws_FnPairsMultiply_C3a_i1 _ _ _ _ _ _ _ _ _ (spec_DrawProductPair_p1 _ _ _ _ _ s1 s2) (implPP_SC a b e f (by omega) (by omega) (by omega) (by omega)) (specPP_SC a b e f (by omega) (by omega) (by omega) (by omega)) (nbeq _) (npbeq _) (pm8 m hm hml a b e f _)

/-- The law. -/
theorem law_Pm (a b : List Int) (_ha : a.length ≤ 2 ^ 63 - 1) (h1 : ∀ n ∈ a, (Lit.int .u8 n).wf = true) (_hb : b.length ≤ 2 ^ 63 - 1) (h2 : ∀ n ∈ b, (Lit.int .u8 n).wf = true) :
    SC cfg.P i_laws_FnPairsMultiply [.s (.v (.sl (.int .u8)) a), .s (.v (.sl (.int .u8)) b)] (.s (.v .bool true)) [] := by
  by_cases g1 : a.length ≤ 1048576
  · have w : IntKind.wrap .i64 (1048576 - ((a.length : Nat) : Int)) = 1048576 - ((a.length : Nat) : Int) := by rw [w64] <;> omega
    by_cases g2 : a.length + b.length ≤ 1048576
    · have hbig : SC cfg.P i_laws_big [.s (.v (.sl (.int .u8)) a), .s (.v (.sl (.int .u8)) b)] (.s (.v .bool false)) [] := laws_big_p3 _ _ (by omega) (by rw [w]; omega)
      exact laws_FnPairsMultiply_R1_of _ _ _ (laws_FnPairsMultiply_C0a_i2 _ _ hbig (pm3 a b (fun x hx => byte_wf (h1 x hx)) (fun x hx => byte_wf (h2 x hx)) (by omega) (by omega) _))
    · exact laws_FnPairsMultiply_R1_of _ _ _ (laws_FnPairsMultiply_C0a_x1 _ _ (laws_big_p2 _ _ (by omega) (by rw [w]; omega)))
  · exact laws_FnPairsMultiply_R1_of _ _ _ (laws_FnPairsMultiply_C0a_x1 _ _ (laws_big_p1 _ _ (by omega)))

end Go.AI
