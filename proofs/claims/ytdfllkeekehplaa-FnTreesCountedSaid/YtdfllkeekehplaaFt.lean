/- Rows of all trees with so many carets. -/
import Derived.Test.YtdfllkeekehplaaFxD
import Derived.Test.YtdfllkeekehplaaCT
import Derived.Sort.Walk0
set_option autoImplicit false
set_option maxRecDepth 100000
set_option linter.unusedVariables false
namespace Go.AI
open Go.Proofs

abbrev nodeT (a b : ByteArray) : ByteArray := (((⟨#[40]⟩ : ByteArray) ++ a) ++ b) ++ (⟨#[41]⟩ : ByteArray)

theorem nodeT_txt (l r : Tr) : nodeT (bs (txt l)) (bs (txt r)) = bs (txt (.node l r)) := by
  show ((bs [40] ++ bs (txt l)) ++ bs (txt r)) ++ bs [41] = _
  rw [bs_append, bs_append, bs_append]
  show bs (([40] ++ txt l ++ txt r) ++ [41]) = bs (40 :: (txt l ++ txt r ++ [41]))
  simp

theorem txtB_inj {t u : Tr} (h : bs (txt t) = bs (txt u)) : t = u := by
  have h := bs_inj.1 h
  exact (txt_inj t u [] [] (by rw [List.append_nil, List.append_nil]; exact h)).1

structure AllT (n : Nat) (L : List ByteArray) : Prop where
  nd : L.Nodup
  mem : ∀ s, s ∈ L ↔ ∃ t : Tr, t.c = n ∧ s = bs (txt t)
  len : L.length ≤ 16 ^ n

theorem AllT.perm {n : Nat} {L L' : List ByteArray} (h : AllT n L) (p : L.Perm L') : AllT n L' :=
  ⟨p.nodup_iff.1 h.nd, fun s => by rw [← p.mem_iff]; exact h.mem s, by rw [← p.length_eq]; exact h.len⟩

def prodL (A B : List ByteArray) : List ByteArray := A.flatMap fun a => B.map (nodeT a)

theorem prodL_len (A B : List ByteArray) : (prodL A B).length = A.length * B.length := by
  induction A with
  | nil => simp [prodL]
  | cons a A ih =>
    have e : prodL (a :: A) B = B.map (nodeT a) ++ prodL A B := rfl
    rw [e, List.length_append, ih, List.length_map, List.length_cons, Nat.succ_mul]; omega

theorem mem_prodL {A B : List ByteArray} {s : ByteArray} : s ∈ prodL A B ↔ ∃ a ∈ A, ∃ b ∈ B, s = nodeT a b := by
  unfold prodL
  rw [List.mem_flatMap]
  constructor
  · rintro ⟨a, ha, h⟩
    obtain ⟨b, hb, e⟩ := List.mem_map.1 h
    exact ⟨a, ha, b, hb, e.symm⟩
  · rintro ⟨a, ha, b, hb, e⟩
    exact ⟨a, ha, List.mem_map.2 ⟨b, hb, e.symm⟩⟩

def wholeL (f : Nat → List ByteArray) (n : Nat) : List ByteArray := (List.range' 0 n).flatMap fun i => prodL (f i) (f (n - 1 - i))

theorem flat_len {α β : Type} (g : α → List β) (K : Nat) : ∀ l : List α, (∀ a ∈ l, (g a).length ≤ K) → (l.flatMap g).length ≤ l.length * K
  | [], _ => by simp
  | a :: l, h => by
    have h1 := h a (by simp)
    have h2 := flat_len g K l fun b hb => h b (by simp [hb])
    rw [List.flatMap_cons, List.length_append, List.length_cons, Nat.succ_mul]
    omega

theorem AllT.whole (f : Nat → List ByteArray) (n : Nat) (hn : n ≤ 15) (h : ∀ i, i ≤ n → AllT i (f i)) : AllT (n + 1) (wholeL f (n + 1)) := by
  refine ⟨?_, fun s => ?_, ?_⟩
  · unfold wholeL
    show List.Pairwise _ _
    rw [List.pairwise_flatMap]
    constructor
    · intro i hi
      rw [List.mem_range'_1] at hi
      unfold prodL
      show List.Pairwise _ _
      rw [List.pairwise_flatMap]
      have hA := h i (by omega)
      have hB := h (n + 1 - 1 - i) (by omega)
      constructor
      · intro a ha
        refine List.pairwise_map.2 (List.Pairwise.imp_of_mem ?_ hB.nd)
        intro b c hb hc hne e
        obtain ⟨t, _, rfl⟩ := (hA.mem a).1 ha
        obtain ⟨u, _, rfl⟩ := (hB.mem b).1 hb
        obtain ⟨v, _, rfl⟩ := (hB.mem c).1 hc
        rw [nodeT_txt, nodeT_txt] at e
        have := txtB_inj e
        injection this with _ e2
        exact hne (by rw [e2])
      · refine List.Pairwise.imp_of_mem ?_ hA.nd
        intro a b ha hb hne x hx y hy e
        obtain ⟨c, hc, rfl⟩ := List.mem_map.1 hx
        obtain ⟨d, hd, rfl⟩ := List.mem_map.1 hy
        obtain ⟨t, _, rfl⟩ := (hA.mem a).1 ha
        obtain ⟨t', _, rfl⟩ := (hA.mem b).1 hb
        obtain ⟨u, _, rfl⟩ := (hB.mem c).1 hc
        obtain ⟨v, _, rfl⟩ := (hB.mem d).1 hd
        rw [nodeT_txt, nodeT_txt] at e
        have := txtB_inj e
        injection this with e1 _
        exact hne (by rw [e1])
    · refine List.Pairwise.imp_of_mem ?_ (List.nodup_range' (s := 0) (n := n + 1))
      intro i j hi hj hne x hx y hy e
      rw [List.mem_range'_1] at hi hj
      obtain ⟨a, ha, b, hb, rfl⟩ := mem_prodL.1 hx
      obtain ⟨c, hc, d, hd, rfl⟩ := mem_prodL.1 hy
      obtain ⟨t, e1, rfl⟩ := ((h i (by omega)).mem a).1 ha
      obtain ⟨t', e2, rfl⟩ := ((h j (by omega)).mem c).1 hc
      obtain ⟨u, _, rfl⟩ := ((h (n + 1 - 1 - i) (by omega)).mem b).1 hb
      obtain ⟨v, _, rfl⟩ := ((h (n + 1 - 1 - j) (by omega)).mem d).1 hd
      rw [nodeT_txt, nodeT_txt] at e
      have := txtB_inj e
      injection this with e3 _
      exact hne (by rw [← e1, ← e2, e3])
  · unfold wholeL
    rw [List.mem_flatMap]
    constructor
    · rintro ⟨i, hi, hs⟩
      rw [List.mem_range'_1] at hi
      obtain ⟨a, ha, b, hb, rfl⟩ := mem_prodL.1 hs
      obtain ⟨t, e1, rfl⟩ := ((h i (by omega)).mem a).1 ha
      obtain ⟨u, e2, rfl⟩ := ((h (n + 1 - 1 - i) (by omega)).mem b).1 hb
      exact ⟨.node t u, by simp only [Tr.c]; omega, nodeT_txt t u⟩
    · rintro ⟨t, ht, rfl⟩
      cases t with
      | leaf => simp [Tr.c] at ht
      | node l r =>
        simp only [Tr.c] at ht
        refine ⟨l.c, ?_, ?_⟩
        · rw [List.mem_range'_1]; omega
        · exact mem_prodL.2 ⟨_, ((h l.c (by omega)).mem _).2 ⟨l, rfl, rfl⟩, _, ((h (n + 1 - 1 - l.c) (by omega)).mem _).2 ⟨r, by omega, rfl⟩, (nodeT_txt l r).symm⟩
  · unfold wholeL
    have hK : ∀ i ∈ List.range' 0 (n + 1), (prodL (f i) (f (n + 1 - 1 - i))).length ≤ 16 ^ n := fun i hi => by
      rw [List.mem_range'_1] at hi
      have h1 := (h i (by omega)).len
      have h2 := (h (n + 1 - 1 - i) (by omega)).len
      rw [prodL_len]
      have h3 := Nat.mul_le_mul h1 h2
      rw [← Nat.pow_add] at h3
      rw [show i + (n + 1 - 1 - i) = n by omega] at h3
      exact h3
    have := flat_len _ _ _ hK
    rw [List.length_range'] at this
    have h2 : (n + 1) * 16 ^ n ≤ 16 * 16 ^ n := Nat.mul_le_mul_right _ (by omega)
    rw [Nat.pow_succ, Nat.mul_comm (16 ^ n) 16]
    omega

theorem AllT.zero : AllT 0 [bs [46]] := by
  refine ⟨by simp, fun s => ?_, by simp⟩
  rw [List.mem_singleton]
  constructor
  · intro e; exact ⟨.leaf, rfl, e⟩
  · rintro ⟨t, ht, rfl⟩
    cases t with
    | leaf => rfl
    | node l r => simp [Tr.c] at ht

/-! ### In order -/

def sortT (l : List ByteArray) : List ByteArray := ((l.map fun s => s.data.toList).mergeSort fun x y => decide (x ≤ y)).map bs

theorem bs_data (s : ByteArray) : bs s.data.toList = s := by obtain ⟨⟨x⟩⟩ := s; rfl

theorem sortT_perm (l : List ByteArray) : (sortT l).Perm l := by
  have h := (List.mergeSort_perm (l.map fun s => s.data.toList) fun x y => decide (x ≤ y)).map bs
  rw [List.map_map] at h
  have e : l.map (bs ∘ fun s => s.data.toList) = l := by
    conv => rhs; rw [← List.map_id l]
    exact List.map_congr_left fun s _ => bs_data s
  rw [e] at h
  exact h

theorem le_iff (x y : List UInt8) : (decide (x ≤ y) = true) ↔ ¬ Op.bytesLess y x = true := by
  rw [bytesLess_eq, decide_eq_true_eq, decide_eq_true_eq]
  exact Iff.rfl

theorem sortT_srt {l : List ByteArray} (h : l.Nodup) : Srt (sortT l) := by
  have hp := sortT_perm l
  have hn : (sortT l).Nodup := hp.nodup_iff.2 h
  have hs := List.pairwise_mergeSort (le := fun (x y : List UInt8) => decide (x ≤ y))
    (fun a b c h1 h2 => by
      rw [le_iff] at h1 h2 ⊢
      intro h3
      by_cases e : a = b
      · subst e; exact h2 h3
      · exact h2 (bl_tr _ _ _ h3 (bl_tot _ _ (fun g => e g.symm) h1)))
    (fun a b => by
      rw [Bool.or_eq_true, le_iff, le_iff]
      by_cases h1 : Op.bytesLess b a = true
      · right
        intro h2
        exact bl_irr _ (bl_tr _ _ _ h1 h2)
      · exact .inl h1) (l.map fun s => s.data.toList)
  have hq : (sortT l).Pairwise fun a b => ¬ Lt b a := by
    unfold sortT
    refine List.pairwise_map.2 (hs.imp fun {a b} h => ?_)
    rw [le_iff] at h
    intro h2
    unfold Lt at h2
    rw [Lib.toList_data, Lib.toList_data] at h2
    exact h h2
  refine (hq.and hn).imp fun {a b} h => ?_
  exact Lt.tot (fun e => h.2 e.symm) h.1

/-- Where a text lies in a row in order: behind as many as lie before it. -/
theorem rank_split {L : List ByteArray} (h : Srt L) {t : ByteArray} (ht : t ∈ L) : ∃ A B, L = A ++ t :: B ∧ (∀ x ∈ A, Lt x t) ∧ ∀ x ∈ B, ¬ Lt x t := by
  obtain ⟨A, B, rfl⟩ := List.append_of_mem ht
  have h1 := List.pairwise_append.1 h
  refine ⟨A, B, rfl, fun x hx => h1.2.2 x hx t (by simp), fun x hx h2 => ?_⟩
  have := (List.pairwise_cons.1 h1.2.1).1 x hx
  exact Lt.irr _ (this.tr h2)

def ltB (t x : ByteArray) : Bool := Op.bytesLess x.toList t.toList

theorem rank_count {L L' : List ByteArray} {n : Nat} (h : AllT n L) (h' : AllT n L') (t : ByteArray) : (L.filter (ltB t)).length = (L'.filter (ltB t)).length := by
  have k : ∀ {L L' : List ByteArray}, AllT n L → AllT n L' → (L.filter (ltB t)).length ≤ (L'.filter (ltB t)).length := fun {L L'} h h' =>
    len_of_mem _ _ (h.nd.filter _) fun x hx => by
      rw [List.mem_filter] at hx ⊢
      exact ⟨(h'.mem x).2 ((h.mem x).1 hx.1), hx.2⟩
  exact Nat.le_antisymm (k h h') (k h' h)

theorem rank_filter {A B : List ByteArray} {t : ByteArray} (hA : ∀ x ∈ A, Lt x t) (hB : ∀ x ∈ B, ¬ Lt x t) : ((A ++ t :: B).filter (ltB t)).length = A.length := by
  rw [List.filter_append, List.filter_cons]
  have e1 : A.filter (ltB t) = A := List.filter_eq_self.2 fun x hx => hA x hx
  have e2 : B.filter (ltB t) = [] := List.filter_eq_nil_iff.2 fun x hx => hB x hx
  have e3 : ¬ ltB t t = true := Lt.irr t
  rw [e1, e2, if_neg e3, List.append_nil]

end Go.AI
