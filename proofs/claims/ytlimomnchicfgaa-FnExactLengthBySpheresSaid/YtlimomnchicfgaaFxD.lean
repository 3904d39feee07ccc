/- A part of the road: what it proves stands in its last texts. -/
import Derived.Test.YtlimomnchicfgaaAiG
import Derived.Lib.Strings
import Derived.Test.YtlimomnchicfgaaGP
import Derived.Test.YtlimomnchicfgaaCU
import Derived.Test.YtlimomnchicfgaaCPg
section
/- The order of texts; rows in order. -/
set_option autoImplicit false
set_option maxRecDepth 100000
set_option linter.unusedVariables false
namespace Go.AI

theorem bl_irr : ∀ x : List UInt8, ¬ Op.bytesLess x x = true
  | [] => by simp [Op.bytesLess]
  | a :: x => by
    have := bl_irr x
    simp only [Op.bytesLess, Bool.or_eq_true, Bool.and_eq_true, decide_eq_true_eq, UInt8.lt_iff_toNat_lt]
    intro h
    rcases h with h | h
    · omega
    · exact this h.2

theorem bl_tr : ∀ x y z : List UInt8, Op.bytesLess x y = true → Op.bytesLess y z = true → Op.bytesLess x z = true
  | [], [], _, h, _ => by simp [Op.bytesLess] at h
  | _ :: _, [], _, h, _ => by simp [Op.bytesLess] at h
  | _, _ :: _, [], _, h => by simp [Op.bytesLess] at h
  | [], _ :: _, _ :: _, _, _ => by simp [Op.bytesLess]
  | a :: x, b :: y, c :: z, h1, h2 => by
    simp only [Op.bytesLess, Bool.or_eq_true, Bool.and_eq_true, decide_eq_true_eq, UInt8.lt_iff_toNat_lt, beq_iff_eq] at h1 h2 ⊢
    rcases h1 with h1 | ⟨rfl, h1⟩
    · rcases h2 with h2 | ⟨rfl, h2⟩
      · left; omega
      · left; exact h1
    · rcases h2 with h2 | ⟨rfl, h2⟩
      · left; exact h2
      · right; exact ⟨rfl, bl_tr x y z h1 h2⟩

theorem bl_tot : ∀ x y : List UInt8, x ≠ y → ¬ Op.bytesLess x y = true → Op.bytesLess y x = true
  | [], [], h, _ => absurd rfl h
  | _ :: _, [], _, _ => by simp [Op.bytesLess]
  | [], _ :: _, _, h => by simp [Op.bytesLess] at h
  | a :: x, b :: y, h, h1 => by
    simp only [Op.bytesLess, Bool.or_eq_true, Bool.and_eq_true, decide_eq_true_eq, UInt8.lt_iff_toNat_lt, beq_iff_eq] at h1 ⊢
    by_cases e : a = b
    · subst e
      right
      exact ⟨rfl, bl_tot x y (fun g => h (by rw [g])) fun g => h1 (.inr ⟨rfl, g⟩)⟩
    · left
      have : a.toNat ≠ b.toNat := fun g => e (UInt8.toNat_inj.1 g)
      have : ¬ a.toNat < b.toNat := fun g => h1 (.inl g)
      omega

/-- One text lies before another one. -/
def Lt (x y : ByteArray) : Prop := Op.bytesLess x.toList y.toList = true

theorem tl_inj {x y : ByteArray} (h : x.toList = y.toList) : x = y := by
  rw [Lib.toList_data, Lib.toList_data] at h
  obtain ⟨⟨a⟩⟩ := x
  obtain ⟨⟨b⟩⟩ := y
  simp only at h
  rw [h]

theorem Lt.irr (x : ByteArray) : ¬ Lt x x := bl_irr _
theorem Lt.tr {x y z : ByteArray} (h1 : Lt x y) (h2 : Lt y z) : Lt x z := bl_tr _ _ _ h1 h2
theorem Lt.tot {x y : ByteArray} (h : x ≠ y) (h1 : ¬ Lt x y) : Lt y x := bl_tot _ _ (fun e => h (tl_inj e)) h1

def Le (x y : ByteArray) : Prop := x = y ∨ Lt x y

theorem Le.tr {x y z : ByteArray} (h1 : Le x y) (h2 : Le y z) : Le x z := by
  rcases h1 with rfl | h1
  · exact h2
  · rcases h2 with rfl | h2
    · exact .inr h1
    · exact .inr (h1.tr h2)

theorem Le.tot (x y : ByteArray) : Le x y ∨ Lt y x := by
  by_cases e : x = y
  · exact .inl (.inl e)
  · by_cases h : Lt x y
    · exact .inl (.inr h)
    · exact .inr (Lt.tot e h)

theorem le_test (x y : ByteArray) (b : Bool) : ((Op.bytesLess x.toList y.toList || (x.toList == y.toList)) = b) ↔ (b = true ↔ Le x y) := by
  have h : (Op.bytesLess x.toList y.toList || (x.toList == y.toList)) = true ↔ Le x y := by
    rw [Bool.or_eq_true, beq_iff_eq]
    exact ⟨fun h => h.elim (fun h => .inr h) fun h => .inl (tl_inj h), fun h => h.elim (fun h => .inr (by rw [h])) fun h => .inl h⟩
  constructor
  · intro e; rw [← e]; exact h
  · intro e
    exact Bool.eq_iff_iff.2 (h.trans e.symm)

instance memD (s : ByteArray) (T : List ByteArray) : Decidable (s ∈ T) := @List.instDecidableMemOfLawfulBEq ByteArray instBEqOfDecidableEq inferInstance s T

/-- Each text lies before those behind it. -/
abbrev Srt (T : List ByteArray) : Prop := T.Pairwise Lt

theorem Srt.nodup {T : List ByteArray} (h : Srt T) : T.Nodup := List.Pairwise.imp (fun {a b} h (e : a = b) => by subst e; exact Lt.irr _ h) h

/-- A text put behind a row in order, unless it is the last one. -/
theorem Srt.put {T : List ByteArray} (h : Srt T) {s : ByteArray} (hs : ∀ x ∈ T, Le x s) (hn : ∀ x, T.getLast? = some x → x ≠ s) : Srt (T ++ [s]) := by
  refine List.pairwise_append.2 ⟨h, by simp, fun x hx y hy => ?_⟩
  rw [List.mem_singleton] at hy
  subst hy
  rcases hs x hx with e | h1
  · subst e
    obtain ⟨A, B, rfl⟩ := List.append_of_mem hx
    cases B with
    | nil => exact absurd rfl (hn x (by simp))
    | cons b B =>
      obtain ⟨y, hy⟩ : ∃ y, y ∈ b :: B := ⟨b, by simp⟩
      have h2 : Lt x y := by
        have := (List.pairwise_append.1 h).2.1
        exact (List.pairwise_cons.1 this).1 y hy
      rcases hs y (by simp [List.mem_cons.1 hy]) with e | h3
      · subst e; exact h2
      · exact h2.tr h3
  · exact h1

/-- Rows without repetitions that have the same members are of the same length. -/
theorem len_of_mem {α : Type} [DecidableEq α] : ∀ (A B : List α), A.Nodup → (∀ x, x ∈ A → x ∈ B) → A.length ≤ B.length
  | [], B, _, _ => Nat.zero_le _
  | a :: A, B, hA, h => by
    rw [List.nodup_cons] at hA
    have hb : a ∈ B := h a (by simp)
    have := len_of_mem A (B.erase a) hA.2 fun x hx => by
      have hne : x ≠ a := fun e => hA.1 (e ▸ hx)
      exact (List.mem_erase_of_ne hne).2 (h x (by simp [hx]))
    rw [List.length_erase_of_mem hb] at this
    have : 0 < B.length := List.length_pos_of_mem hb
    simp only [List.length_cons]
    omega

end Go.AI
end

section
/- Contracts: rows of texts in order: the search, the merge. -/
set_option autoImplicit false
set_option maxRecDepth 100000
set_option linter.unusedVariables false
namespace Go.AI
open Go.Proofs

abbrev E0 : ByteArray := (⟨#[]⟩ : ByteArray)

theorem gD_lt {T : List ByteArray} {i : Nat} (h : i < T.length) : T.getD i E0 = T[i] := by
  rw [List.getD_eq_getElem?_getD, List.getElem?_eq_getElem h]; rfl

theorem mid_w {a b : Nat} (h : a < b) (hb : b ≤ 2 ^ 40) : IntKind.wrap .i64 (Int.tdiv (IntKind.wrap .i64 ((a : Int) + (b : Int))) 2) = (((a + b) / 2 : Nat) : Int) := by
  have e1 : IntKind.wrap .i64 ((a : Int) + (b : Int)) = ((a + b : Nat) : Int) := by rw [w64] <;> omega
  rw [e1, Int.tdiv_eq_ediv_of_nonneg (by omega), w64] <;> omega

theorem lnHas_L (T : List ByteArray) (s : ByteArray) (hT : Srt T) (hl : T.length ≤ 2 ^ 30) : ∀ (m a b : Nat), b - a = m → a ≤ b → b ≤ T.length →
    (∀ i, i < a → Lt (T.getD i E0) s) → (∀ i, b ≤ i → i < T.length → ¬ Lt (T.getD i E0) s) →
    ∃ c, c ≤ T.length ∧ (∀ i, i < c → Lt (T.getD i E0) s) ∧ (∀ i, c ≤ i → i < T.length → ¬ Lt (T.getD i E0) s) ∧
    LoopSC cfg.P 2 (lb P_spec_lnHas 0) (spec_lnHas_L0a T s (a : Int) (b : Int)) (.exit 0) (spec_lnHas_L0X1 T s (c : Int) (c : Int) false) := by
  intro m
  induction m using Nat.strongRecOn with
  | ind m ih =>
    intro a b hm hab hb h1 h2
    by_cases h : a < b
    · have ew := mid_w h (by omega)
      have hk : (a + b) / 2 < T.length := by omega
      by_cases hlt : Lt (T.getD ((a + b) / 2) E0) s
      · obtain ⟨c, c1, c2, c3, hn⟩ := ih (b - ((a + b) / 2 + 1)) (by omega) ((a + b) / 2 + 1) b rfl (by omega) hb (fun i hi => by
          by_cases e : i = (a + b) / 2
          · rw [e]; exact hlt
          · have hi2 : i < (a + b) / 2 := by omega
            have := List.pairwise_iff_getElem.1 hT i ((a + b) / 2) (by omega) hk hi2
            rw [gD_lt (by omega)]
            rw [gD_lt hk] at hlt
            exact this.tr hlt) h2
        refine ⟨c, c1, c2, c3, ?_⟩
        have st := fun {e : AEx} {st : St} => spec_lnHas_L0a_i1 T s (a : Int) (b : Int) (by omega) (by omega) (by rw [ew]; omega) (by rw [ew]; omega) (by rw [ew, Int.toNat_natCast]; exact hlt) (e := e) (st := st)
        rw [ew, wrap_succ (i := (a + b) / 2) (by omega)] at st
        exact st hn
      · obtain ⟨c, c1, c2, c3, hn⟩ := ih ((a + b) / 2 - a) (by omega) a ((a + b) / 2) rfl (by omega) (by omega) h1 (fun i hi hi2 hl2 => by
          by_cases e : i = (a + b) / 2
          · rw [e] at hl2; exact hlt hl2
          · have hi3 : (a + b) / 2 < i := by omega
            have := List.pairwise_iff_getElem.1 hT ((a + b) / 2) i hk hi2 hi3
            rw [gD_lt hi2] at hl2
            rw [gD_lt hk] at hlt
            exact hlt (this.tr hl2))
        refine ⟨c, c1, c2, c3, ?_⟩
        have st := fun {e : AEx} {st : St} => spec_lnHas_L0a_i2 T s (a : Int) (b : Int) (by omega) (by omega) (by rw [ew]; omega) (by rw [ew]; omega) (by rw [ew, Int.toNat_natCast]; exact Bool.eq_false_iff.2 hlt) (e := e) (st := st)
        rw [ew] at st
        exact st hn
    · have e : a = b := by omega
      subst e
      exact ⟨a, hb, h1, h2, spec_lnHas_L0a_x3 T s (a : Int) (a : Int) (by omega)⟩

theorem lnHas_SC (T : List ByteArray) (s : ByteArray) (hT : Srt T) (hl : T.length ≤ 2 ^ 30) :
    SC cfg.P i_spec_lnHas [.s (.v (.sl .str) T), .s (.v .str s)] (.s (.v .bool (decide (s ∈ T)))) [] := by
  obtain ⟨c, c1, c2, c3, hn⟩ := lnHas_L T s hT hl _ 0 T.length rfl (by omega) (by omega) (fun i hi => by omega) (fun i hi hi2 => by omega)
  by_cases h : c < T.length
  · by_cases e : T.getD c E0 = s
    · have hm : s ∈ T := by rw [← e, gD_lt h]; exact List.getElem_mem h
      rw [decide_eq_true hm]
      exact spec_lnHas_p1 T s _ _ _ _ _ hn (by omega) (by omega) (by omega) (by rw [Int.toNat_natCast]; exact e)
    · have hm : ¬ s ∈ T := by
        intro hm
        obtain ⟨i, hi, e2⟩ := List.getElem_of_mem hm
        by_cases h3 : i < c
        · have := c2 i h3
          rw [gD_lt hi, e2] at this
          exact Lt.irr _ this
        · by_cases h4 : i = c
          · subst h4; rw [gD_lt hi] at e; exact e e2
          · have h5 := List.pairwise_iff_getElem.1 hT c i h hi (by omega)
            rw [e2] at h5
            have := c3 c (by omega) h
            rw [gD_lt h] at this
            exact this h5
      rw [decide_eq_false hm]
      exact spec_lnHas_p2 T s _ _ _ _ _ hn (by omega) (by omega) (by omega) (by rw [Int.toNat_natCast]; exact e)
  · have hm : ¬ s ∈ T := by
      intro hm
      obtain ⟨i, hi, e2⟩ := List.getElem_of_mem hm
      have := c2 i (by omega)
      rw [gD_lt hi, e2] at this
      exact Lt.irr _ this
    rw [decide_eq_false hm]
    exact spec_lnHas_p3 T s _ _ _ _ _ hn (by omega)

/-! ### The merge -/

theorem last_D {T : List ByteArray} (h : T ≠ []) (hl : T.length ≤ 2 ^ 40) : 0 < T.length ∧ IntKind.wrap .i64 (((List.length T : Nat) : Int) - 1) = ((T.length - 1 : Nat) : Int) ∧ T.getLast? = some (T.getD (T.length - 1) E0) := by
  have h0 : 0 < T.length := List.length_pos_iff.2 h
  refine ⟨h0, by rw [w64] <;> omega, ?_⟩
  rw [List.getLast?_eq_getElem?, List.getD_eq_getElem?_getD, List.getElem?_eq_getElem (by omega)]
  rfl

/-- What the merge makes of a row and the texts that are left. -/
structure Mrg (out R1 R2 out' : List ByteArray) : Prop where
  s : Srt out'
  l : out'.length ≤ out.length + R1.length + R2.length
  m : ∀ t, t ∈ out' ↔ t ∈ out ∨ t ∈ R1 ∨ t ∈ R2

theorem merge_L (A B : List ByteArray) (hA : Srt A) (hB : Srt B) (lA : A.length ≤ 2 ^ 29) (lB : B.length ≤ 2 ^ 29) : ∀ (m i j : Nat) (out : List ByteArray), (A.length - i) + (B.length - j) = m → i ≤ A.length → j ≤ B.length →
    Srt out → out.length ≤ i + j → (∀ x ∈ out, (∀ y ∈ A.drop i, Le x y) ∧ ∀ y ∈ B.drop j, Le x y) →
    ∃ out', Mrg out (A.drop i) (B.drop j) out' ∧
    LoopSC cfg.P 1 (lb P_spec_lnSorted 0) (spec_lnSorted_L0a A B (i : Int) (j : Int) out) (.exit 0) (spec_lnSorted_L0X1 A B (A.length : Int) (B.length : Int) false out') ∧
    ∀ x8 x80, LoopSC cfg.P 1 (lb P_spec_lnSorted 0) (spec_lnSorted_L0b A B (i : Int) (j : Int) x8 x80 out) (.exit 0) (spec_lnSorted_L0X1 A B (A.length : Int) (B.length : Int) false out') := by
  intro m
  induction m with
  | zero =>
    intro i j out hm hi hj hs hl hb
    have e1 : i = A.length := by omega
    have e2 : j = B.length := by omega
    subst e1
    subst e2
    refine ⟨out, ⟨hs, by omega, fun t => by rw [List.drop_length, List.drop_length]; simp⟩, spec_lnSorted_L0a_x16 _ _ _ _ _ (by omega) (by omega), fun x8 x80 => spec_lnSorted_L0b_x16 _ _ _ _ _ _ _ (by omega) (by omega)⟩
  | succ m ih =>
    intro i j out hm hi hj hs hl hb
    -- a text of the first row
    have first : ∀ (h : i < A.length) (hmin : ∀ y ∈ B.drop j, Le A[i] y),
        ∃ out', Mrg out (A.drop i) (B.drop j) out' ∧ ((out = [] ∨ (out ≠ [] ∧ out.getD (out.length - 1) E0 ≠ A[i])) → LoopSC cfg.P 1 (lb P_spec_lnSorted 0) (spec_lnSorted_L0a A B ((i + 1 : Nat) : Int) (j : Int) (out ++ [A[i]])) (.exit 0) (spec_lnSorted_L0X1 A B (A.length : Int) (B.length : Int) false out')) ∧
        ((out ≠ [] ∧ out.getD (out.length - 1) E0 = A[i]) → ∀ x8 x80, LoopSC cfg.P 1 (lb P_spec_lnSorted 0) (spec_lnSorted_L0b A B ((i + 1 : Nat) : Int) (j : Int) x8 x80 out) (.exit 0) (spec_lnSorted_L0X1 A B (A.length : Int) (B.length : Int) false out')) := by
      intro h hmin
      have hd : A.drop i = A[i] :: A.drop (i + 1) := List.drop_eq_getElem_cons h
      have hsub : ∀ y ∈ A.drop (i + 1), Lt A[i] y := by
        have := hA.drop (i := i)
        rw [hd] at this
        exact (List.pairwise_cons.1 this).1
      have hle : ∀ x ∈ out, Le x A[i] := fun x hx => (hb x hx).1 A[i] (by rw [hd]; exact List.mem_cons_self)
      by_cases hc : out ≠ [] ∧ out.getD (out.length - 1) E0 = A[i]
      · obtain ⟨out', hM, k1, k2⟩ := ih (i + 1) j out (by omega) (by omega) hj hs (by omega) (fun x hx => ⟨fun y hy => (hle x hx).tr (.inr (hsub y hy)), (hb x hx).2⟩)
        refine ⟨out', ⟨hM.s, by have := hM.l; rw [hd]; simp only [List.length_cons]; omega, fun t => ?_⟩, fun hn => ?_, fun _ => k2⟩
        · rw [hM.m t, hd, List.mem_cons]
          have hin : A[i] ∈ out := by
            rw [← hc.2, gD_lt (by have := List.length_pos_iff.2 hc.1; omega)]
            exact List.getElem_mem _
          constructor
          · rintro (h | h | h)
            · exact .inl h
            · exact .inr (.inl (.inr h))
            · exact .inr (.inr h)
          · rintro (h | (rfl | h) | h)
            · exact .inl h
            · exact .inl hin
            · exact .inr (.inl h)
            · exact .inr (.inr h)
        · rcases hn with hn | hn
          · exact absurd hn hc.1
          · exact absurd hc.2 hn.2
      · have hs2 : Srt (out ++ [A[i]]) := hs.put hle fun x hx e => hc (by
          have hne : out ≠ [] := by intro e0; rw [e0] at hx; cases hx
          refine ⟨hne, ?_⟩
          rw [(last_D hne (by omega)).2.2] at hx
          rw [Option.some.inj hx, e])
        obtain ⟨out', hM, k1, k2⟩ := ih (i + 1) j (out ++ [A[i]]) (by omega) (by omega) hj hs2 (by simp; omega) (fun x hx => by
          rcases List.mem_append.1 hx with hx | hx
          · exact ⟨fun y hy => (hle x hx).tr (.inr (hsub y hy)), (hb x hx).2⟩
          · rw [List.mem_singleton] at hx
            subst hx
            exact ⟨fun y hy => .inr (hsub y hy), hmin⟩)
        refine ⟨out', ⟨hM.s, by have := hM.l; rw [hd]; simp only [List.length_cons, List.length_append, List.length_nil] at this ⊢; omega, fun t => ?_⟩, fun _ => k1, fun h => absurd h hc⟩
        rw [hM.m t, hd, List.mem_cons, List.mem_append, List.mem_singleton]
        constructor
        · rintro ((h | h) | h | h)
          · exact .inl h
          · exact .inr (.inl (.inl h))
          · exact .inr (.inl (.inr h))
          · exact .inr (.inr h)
        · rintro (h | (h | h) | h)
          · exact .inl (.inl h)
          · exact .inl (.inr h)
          · exact .inr (.inl h)
          · exact .inr (.inr h)
    have second : ∀ (h : j < B.length) (hmin : ∀ y ∈ A.drop i, Le B[j] y),
        ∃ out', Mrg out (A.drop i) (B.drop j) out' ∧ ((out = [] ∨ (out ≠ [] ∧ out.getD (out.length - 1) E0 ≠ B[j])) → LoopSC cfg.P 1 (lb P_spec_lnSorted 0) (spec_lnSorted_L0a A B (i : Int) ((j + 1 : Nat) : Int) (out ++ [B[j]])) (.exit 0) (spec_lnSorted_L0X1 A B (A.length : Int) (B.length : Int) false out')) ∧
        ((out ≠ [] ∧ out.getD (out.length - 1) E0 = B[j]) → ∀ x8 x80, LoopSC cfg.P 1 (lb P_spec_lnSorted 0) (spec_lnSorted_L0b A B (i : Int) ((j + 1 : Nat) : Int) x8 x80 out) (.exit 0) (spec_lnSorted_L0X1 A B (A.length : Int) (B.length : Int) false out')) := by
      intro h hmin
      have hd : B.drop j = B[j] :: B.drop (j + 1) := List.drop_eq_getElem_cons h
      have hsub : ∀ y ∈ B.drop (j + 1), Lt B[j] y := by
        have := hB.drop (i := j)
        rw [hd] at this
        exact (List.pairwise_cons.1 this).1
      have hle : ∀ x ∈ out, Le x B[j] := fun x hx => (hb x hx).2 B[j] (by rw [hd]; exact List.mem_cons_self)
      by_cases hc : out ≠ [] ∧ out.getD (out.length - 1) E0 = B[j]
      · obtain ⟨out', hM, k1, k2⟩ := ih i (j + 1) out (by omega) hi (by omega) hs (by omega) (fun x hx => ⟨(hb x hx).1, fun y hy => (hle x hx).tr (.inr (hsub y hy))⟩)
        refine ⟨out', ⟨hM.s, by have := hM.l; rw [hd]; simp only [List.length_cons]; omega, fun t => ?_⟩, fun hn => ?_, fun _ => k2⟩
        · rw [hM.m t, hd, List.mem_cons]
          have hin : B[j] ∈ out := by
            rw [← hc.2, gD_lt (by have := List.length_pos_iff.2 hc.1; omega)]
            exact List.getElem_mem _
          constructor
          · rintro (h | h | h)
            · exact .inl h
            · exact .inr (.inl h)
            · exact .inr (.inr (.inr h))
          · rintro (h | h | (rfl | h))
            · exact .inl h
            · exact .inr (.inl h)
            · exact .inl hin
            · exact .inr (.inr h)
        · rcases hn with hn | hn
          · exact absurd hn hc.1
          · exact absurd hc.2 hn.2
      · have hs2 : Srt (out ++ [B[j]]) := hs.put hle fun x hx e => hc (by
          have hne : out ≠ [] := by intro e0; rw [e0] at hx; cases hx
          refine ⟨hne, ?_⟩
          rw [(last_D hne (by omega)).2.2] at hx
          rw [Option.some.inj hx, e])
        obtain ⟨out', hM, k1, k2⟩ := ih i (j + 1) (out ++ [B[j]]) (by omega) hi (by omega) hs2 (by simp; omega) (fun x hx => by
          rcases List.mem_append.1 hx with hx | hx
          · exact ⟨(hb x hx).1, fun y hy => (hle x hx).tr (.inr (hsub y hy))⟩
          · rw [List.mem_singleton] at hx
            subst hx
            exact ⟨hmin, fun y hy => .inr (hsub y hy)⟩)
        refine ⟨out', ⟨hM.s, by have := hM.l; rw [hd]; simp only [List.length_cons, List.length_append, List.length_nil] at this ⊢; omega, fun t => ?_⟩, fun _ => k1, fun h => absurd h hc⟩
        rw [hM.m t, hd, List.mem_cons, List.mem_append, List.mem_singleton]
        constructor
        · rintro ((h | h) | h | h)
          · exact .inl h
          · exact .inr (.inr (.inl h))
          · exact .inr (.inl h)
          · exact .inr (.inr (.inr h))
        · rintro (h | h | (h | h))
          · exact .inl (.inl h)
          · exact .inr (.inl h)
          · exact .inl (.inr h)
          · exact .inr (.inr h)
    have wi := wrap_succ (i := i) (by omega)
    have wj := wrap_succ (i := j) (by omega)
    have zero_iff : ((List.length out : Nat) : Int) = 0 ↔ out = [] := by
      rw [← List.length_eq_zero_iff]; omega
    have three : out = [] ∨ (out ≠ [] ∧ (0 ≤ IntKind.wrap .i64 (((List.length out : Nat) : Int) - 1) ∧ IntKind.wrap .i64 (((List.length out : Nat) : Int) - 1) < (List.length out : Int) ∧ (IntKind.wrap .i64 (((List.length out : Nat) : Int) - 1)).toNat < List.length out) ∧ List.getD out (IntKind.wrap .i64 (((List.length out : Nat) : Int) - 1)).toNat E0 = out.getD (out.length - 1) E0) := by
      by_cases e : out = []
      · exact .inl e
      · obtain ⟨g1, g2, g3⟩ := last_D e (by omega)
        refine .inr ⟨e, ?_, ?_⟩
        · rw [g2, Int.toNat_natCast]; omega
        · rw [g2, Int.toNat_natCast]
    have hsz : ∀ x : ByteArray, sizeOK (List.length out + List.length [x]) := fun x => sizeOK_one (by omega)
    by_cases hA1 : i < A.length
    · have gA : List.getD A ((i : Int)).toNat E0 = A[i] := by rw [Int.toNat_natCast, gD_lt hA1]
      by_cases hB1 : j < B.length
      · have gB : List.getD B ((j : Int)).toNat E0 = B[j] := by rw [Int.toNat_natCast, gD_lt hB1]
        rcases Le.tot A[i] B[j] with hle | hgt
        · obtain ⟨out', hM, k1, k2⟩ := first hA1 fun y hy => by
            have hd : B.drop j = B[j] :: B.drop (j + 1) := List.drop_eq_getElem_cons hB1
            have := hB.drop (i := j)
            rw [hd] at this hy
            rcases List.mem_cons.1 hy with rfl | hy
            · exact hle
            · exact hle.tr (.inr ((List.pairwise_cons.1 this).1 y hy))
          have ht : (Op.bytesLess (List.getD A ((i : Int)).toNat E0).toList (List.getD B ((j : Int)).toNat E0).toList || ((List.getD A ((i : Int)).toNat E0).toList == (List.getD B ((j : Int)).toNat E0).toList)) = true := by
            rw [gA, gB]; exact (le_test _ _ true).2 ⟨fun _ => hle, fun _ => rfl⟩
          rw [← wi] at k1 k2
          rw [← gA] at k1 k2
          refine ⟨out', hM, ?_, fun x8 x80 => ?_⟩
          · rcases three with e | ⟨e, g, ge⟩
            · exact spec_lnSorted_L0a_i4 A B _ _ out (by omega) (by omega) (by omega) (by omega) (by omega) (by omega) ht (zero_iff.2 e) (hsz _) (k1 (.inl e))
            · by_cases hx : out.getD (out.length - 1) E0 = List.getD A ((i : Int)).toNat E0
              · exact spec_lnSorted_L0a_i6 A B _ _ out (by omega) (by omega) (by omega) (by omega) (by omega) (by omega) ht (fun h => e (zero_iff.1 h)) g.1 g.2.1 g.2.2 (ge.trans hx) (k2 ⟨e, hx⟩ _ _)
              · exact spec_lnSorted_L0a_i5 A B _ _ out (by omega) (by omega) (by omega) (by omega) (by omega) (by omega) ht (fun h => e (zero_iff.1 h)) g.1 g.2.1 g.2.2 (fun h => hx (ge.symm.trans h)) (hsz _) (k1 (.inr ⟨e, hx⟩))
          · rcases three with e | ⟨e, g, ge⟩
            · exact spec_lnSorted_L0b_i4 A B _ _ x8 x80 out (by omega) (by omega) (by omega) (by omega) (by omega) (by omega) ht (zero_iff.2 e) (hsz _) (k1 (.inl e))
            · by_cases hx : out.getD (out.length - 1) E0 = List.getD A ((i : Int)).toNat E0
              · exact spec_lnSorted_L0b_i6 A B _ _ x8 x80 out (by omega) (by omega) (by omega) (by omega) (by omega) (by omega) ht (fun h => e (zero_iff.1 h)) g.1 g.2.1 g.2.2 (ge.trans hx) (k2 ⟨e, hx⟩ _ _)
              · exact spec_lnSorted_L0b_i5 A B _ _ x8 x80 out (by omega) (by omega) (by omega) (by omega) (by omega) (by omega) ht (fun h => e (zero_iff.1 h)) g.1 g.2.1 g.2.2 (fun h => hx (ge.symm.trans h)) (hsz _) (k1 (.inr ⟨e, hx⟩))
        · obtain ⟨out', hM, k1, k2⟩ := second hB1 fun y hy => by
            have hd : A.drop i = A[i] :: A.drop (i + 1) := List.drop_eq_getElem_cons hA1
            have := hA.drop (i := i)
            rw [hd] at this hy
            rcases List.mem_cons.1 hy with rfl | hy
            · exact .inr hgt
            · exact .inr (hgt.tr ((List.pairwise_cons.1 this).1 y hy))
          have ht : (Op.bytesLess (List.getD A ((i : Int)).toNat E0).toList (List.getD B ((j : Int)).toNat E0).toList || ((List.getD A ((i : Int)).toNat E0).toList == (List.getD B ((j : Int)).toNat E0).toList)) = false := by
            rw [gA, gB]
            exact (le_test _ _ false).2 ⟨fun h => (by cases h), fun h => by
              rcases h with e | h
              · rw [e] at hgt; exact absurd hgt (Lt.irr _)
              · exact absurd (h.tr hgt) (Lt.irr _)⟩
          rw [← wj] at k1 k2
          rw [← gB] at k1 k2
          refine ⟨out', hM, ?_, fun x8 x80 => ?_⟩
          · rcases three with e | ⟨e, g, ge⟩
            · exact spec_lnSorted_L0a_i7 A B _ _ out (by omega) (by omega) (by omega) (by omega) (by omega) (by omega) ht (zero_iff.2 e) (hsz _) (k1 (.inl e))
            · by_cases hx : out.getD (out.length - 1) E0 = List.getD B ((j : Int)).toNat E0
              · exact spec_lnSorted_L0a_i9 A B _ _ out (by omega) (by omega) (by omega) (by omega) (by omega) (by omega) ht (fun h => e (zero_iff.1 h)) g.1 g.2.1 g.2.2 (ge.trans hx) (k2 ⟨e, hx⟩ _ _)
              · exact spec_lnSorted_L0a_i8 A B _ _ out (by omega) (by omega) (by omega) (by omega) (by omega) (by omega) ht (fun h => e (zero_iff.1 h)) g.1 g.2.1 g.2.2 (fun h => hx (ge.symm.trans h)) (hsz _) (k1 (.inr ⟨e, hx⟩))
          · rcases three with e | ⟨e, g, ge⟩
            · exact spec_lnSorted_L0b_i7 A B _ _ x8 x80 out (by omega) (by omega) (by omega) (by omega) (by omega) (by omega) ht (zero_iff.2 e) (hsz _) (k1 (.inl e))
            · by_cases hx : out.getD (out.length - 1) E0 = List.getD B ((j : Int)).toNat E0
              · exact spec_lnSorted_L0b_i9 A B _ _ x8 x80 out (by omega) (by omega) (by omega) (by omega) (by omega) (by omega) ht (fun h => e (zero_iff.1 h)) g.1 g.2.1 g.2.2 (ge.trans hx) (k2 ⟨e, hx⟩ _ _)
              · exact spec_lnSorted_L0b_i8 A B _ _ x8 x80 out (by omega) (by omega) (by omega) (by omega) (by omega) (by omega) ht (fun h => e (zero_iff.1 h)) g.1 g.2.1 g.2.2 (fun h => hx (ge.symm.trans h)) (hsz _) (k1 (.inr ⟨e, hx⟩))
      · obtain ⟨out', hM, k1, k2⟩ := first hA1 fun y hy => by
          rw [List.drop_eq_nil_of_le (by omega)] at hy
          cases hy
        rw [← wi] at k1 k2
        rw [← gA] at k1 k2
        refine ⟨out', hM, ?_, fun x8 x80 => ?_⟩
        · rcases three with e | ⟨e, g, ge⟩
          · exact spec_lnSorted_L0a_i1 A B _ _ out (by omega) (by omega) (by omega) (by omega) (zero_iff.2 e) (hsz _) (k1 (.inl e))
          · by_cases hx : out.getD (out.length - 1) E0 = List.getD A ((i : Int)).toNat E0
            · exact spec_lnSorted_L0a_i3 A B _ _ out (by omega) (by omega) (by omega) (by omega) (fun h => e (zero_iff.1 h)) g.1 g.2.1 g.2.2 (ge.trans hx) (k2 ⟨e, hx⟩ _ _)
            · exact spec_lnSorted_L0a_i2 A B _ _ out (by omega) (by omega) (by omega) (by omega) (fun h => e (zero_iff.1 h)) g.1 g.2.1 g.2.2 (fun h => hx (ge.symm.trans h)) (hsz _) (k1 (.inr ⟨e, hx⟩))
        · rcases three with e | ⟨e, g, ge⟩
          · exact spec_lnSorted_L0b_i1 A B _ _ x8 x80 out (by omega) (by omega) (by omega) (by omega) (zero_iff.2 e) (hsz _) (k1 (.inl e))
          · by_cases hx : out.getD (out.length - 1) E0 = List.getD A ((i : Int)).toNat E0
            · exact spec_lnSorted_L0b_i3 A B _ _ x8 x80 out (by omega) (by omega) (by omega) (by omega) (fun h => e (zero_iff.1 h)) g.1 g.2.1 g.2.2 (ge.trans hx) (k2 ⟨e, hx⟩ _ _)
            · exact spec_lnSorted_L0b_i2 A B _ _ x8 x80 out (by omega) (by omega) (by omega) (by omega) (fun h => e (zero_iff.1 h)) g.1 g.2.1 g.2.2 (fun h => hx (ge.symm.trans h)) (hsz _) (k1 (.inr ⟨e, hx⟩))
    · have hB1 : j < B.length := by omega
      have gB : List.getD B ((j : Int)).toNat E0 = B[j] := by rw [Int.toNat_natCast, gD_lt hB1]
      obtain ⟨out', hM, k1, k2⟩ := second hB1 fun y hy => by
        rw [List.drop_eq_nil_of_le (by omega)] at hy
        cases hy
      rw [← wj] at k1 k2
      rw [← gB] at k1 k2
      refine ⟨out', hM, ?_, fun x8 x80 => ?_⟩
      · rcases three with e | ⟨e, g, ge⟩
        · exact spec_lnSorted_L0a_i13 A B _ _ out (by omega) (by omega) (by omega) (by omega) (by omega) (zero_iff.2 e) (hsz _) (k1 (.inl e))
        · by_cases hx : out.getD (out.length - 1) E0 = List.getD B ((j : Int)).toNat E0
          · exact spec_lnSorted_L0a_i15 A B _ _ out (by omega) (by omega) (by omega) (by omega) (by omega) (fun h => e (zero_iff.1 h)) g.1 g.2.1 g.2.2 (ge.trans hx) (k2 ⟨e, hx⟩ _ _)
          · exact spec_lnSorted_L0a_i14 A B _ _ out (by omega) (by omega) (by omega) (by omega) (by omega) (fun h => e (zero_iff.1 h)) g.1 g.2.1 g.2.2 (fun h => hx (ge.symm.trans h)) (hsz _) (k1 (.inr ⟨e, hx⟩))
      · rcases three with e | ⟨e, g, ge⟩
        · exact spec_lnSorted_L0b_i13 A B _ _ x8 x80 out (by omega) (by omega) (by omega) (by omega) (by omega) (zero_iff.2 e) (hsz _) (k1 (.inl e))
        · by_cases hx : out.getD (out.length - 1) E0 = List.getD B ((j : Int)).toNat E0
          · exact spec_lnSorted_L0b_i15 A B _ _ x8 x80 out (by omega) (by omega) (by omega) (by omega) (by omega) (fun h => e (zero_iff.1 h)) g.1 g.2.1 g.2.2 (ge.trans hx) (k2 ⟨e, hx⟩ _ _)
          · exact spec_lnSorted_L0b_i14 A B _ _ x8 x80 out (by omega) (by omega) (by omega) (by omega) (by omega) (fun h => e (zero_iff.1 h)) g.1 g.2.1 g.2.2 (fun h => hx (ge.symm.trans h)) (hsz _) (k1 (.inr ⟨e, hx⟩))

/-- A row of texts in order, each once. -/
structure Sorted (l out : List ByteArray) : Prop where
  s : Srt out
  n : out.length ≤ l.length
  m : ∀ t, t ∈ out ↔ t ∈ l

theorem lnSorted_step (l A B : List ByteArray) (h : ¬ l.length < 2) (hl : l.length ≤ 2 ^ 29)
    (hA : Sorted (l.take (l.length / 2)) A) (hB : Sorted (l.drop (l.length / 2)) B)
    (cA : SC cfg.P i_spec_lnSorted [.s (.v (.sl .str) (l.take (l.length / 2)))] (.s (.v (.sl .str) A)) [])
    (cB : SC cfg.P i_spec_lnSorted [.s (.v (.sl .str) (l.drop (l.length / 2)))] (.s (.v (.sl .str) B)) []) :
    ∃ out, Sorted l out ∧ SC cfg.P i_spec_lnSorted [.s (.v (.sl .str) l)] (.s (.own t_string .str out)) [] := by
  have lA := hA.n
  have lB := hB.n
  rw [List.length_take] at lA
  rw [List.length_drop] at lB
  have ew : IntKind.wrap .i64 (Int.tdiv ((List.length l : Nat) : Int) 2) = ((l.length / 2 : Nat) : Int) := by
    rw [Int.tdiv_eq_ediv_of_nonneg (by omega), w64] <;> omega
  obtain ⟨out, hM, k1, _⟩ := merge_L A B hA.s hB.s (by omega) (by omega) _ 0 0 [] rfl (by omega) (by omega) List.Pairwise.nil (by simp) (fun x hx => by cases hx)
  rw [List.drop_zero, List.drop_zero] at hM
  refine ⟨out, ⟨hM.s, by have := hM.l; simp at this; omega, fun t => ?_⟩, ?_⟩
  · rw [hM.m t, hA.m, hB.m]
    have e : l = l.take (l.length / 2) ++ l.drop (l.length / 2) := (List.take_append_drop _ _).symm
    constructor
    · rintro (h | h | h)
      · cases h
      · exact List.mem_of_mem_take h
      · exact List.mem_of_mem_drop h
    · intro h
      rw [e] at h
      exact .inr (List.mem_append.1 h)
  · have c1 : cutL l 0 (((l.length / 2 : Nat) : Int)) = l.take (l.length / 2) := by
      unfold cutL
      rw [Int.toNat_natCast]
      simp
    have c2 : cutL l (((l.length / 2 : Nat) : Int)) (((List.length l : Nat) : Int)) = l.drop (l.length / 2) := by
      unfold cutL
      rw [Int.toNat_natCast, Int.toNat_natCast, List.take_of_length_le (Nat.le_refl _)]
    rw [← c1] at cA
    rw [← c2] at cB
    rw [← ew] at cA cB
    exact spec_lnSorted_p2 l A B _ _ _ _ _ _ (by omega) (by omega) (by rw [ew]; omega) (by rw [ew]; omega) cA cB k1

theorem lnSorted_V : ∀ (n : Nat) (l : List ByteArray), l.length = n → l.length ≤ 2 ^ 29 → ∃ out, Sorted l out ∧ SC cfg.P i_spec_lnSorted [.s (.v (.sl .str) l)] (.s (.v (.sl .str) out)) [] := by
  intro n
  induction n using Nat.strongRecOn with
  | ind n ih =>
    intro l hn hl
    by_cases h : l.length < 2
    · refine ⟨l, ⟨?_, Nat.le_refl _, fun t => Iff.rfl⟩, spec_lnSorted_p1 l (by omega)⟩
      match l, h with
      | [], _ => exact List.Pairwise.nil
      | [a], _ => exact List.pairwise_singleton _ _
      | _ :: _ :: _, h => exact absurd h (by simp only [List.length_cons]; omega)
    · obtain ⟨A, hA, cA⟩ := ih (l.length / 2) (by omega) (l.take (l.length / 2)) (by rw [List.length_take]; omega) (by rw [List.length_take]; omega)
      obtain ⟨B, hB, cB⟩ := ih (l.length - l.length / 2) (by omega) (l.drop (l.length / 2)) (by rw [List.length_drop]) (by rw [List.length_drop]; omega)
      obtain ⟨out, h1, h2⟩ := lnSorted_step l A B h hl hA hB cA cB
      exact ⟨out, h1, h2.view⟩

theorem lnSorted_SC (l : List ByteArray) (h : 2 ≤ l.length) (hl : l.length ≤ 2 ^ 29) : ∃ out, Sorted l out ∧ SC cfg.P i_spec_lnSorted [.s (.v (.sl .str) l)] (.s (.own t_string .str out)) [] := by
  obtain ⟨A, hA, cA⟩ := lnSorted_V _ (l.take (l.length / 2)) rfl (by rw [List.length_take]; omega)
  obtain ⟨B, hB, cB⟩ := lnSorted_V _ (l.drop (l.length / 2)) rfl (by rw [List.length_drop]; omega)
  exact lnSorted_step l A B (by omega) hl hA hB cA cB

end Go.AI
end
