/- Plain law: drops of sorted words. -/
import Derived.Test.YtcbhdileamhklaaJA
set_option autoImplicit false
set_option maxRecDepth 100000
set_option linter.unusedVariables false
namespace Go.AI

def dm (x : Int) : Int := if x > 0 then x - 1 else x + 1

/-- A letter of which one can be dropped. -/
def dq (v : List Int) (n : Int) : Bool := v.contains n && v.contains (-n) && !v.contains (n + 1) && !v.contains (-n - 1)

def dpF : Nat → List Int → Nat
  | 0, _ => 0
  | k + 1, v => if dq v ((k + 1 : Nat) : Int) = true then k + 1 else dpF k v

theorem dpF_le : ∀ (k : Nat) (v : List Int), dpF k v ≤ k
  | 0, _ => Nat.le_refl _
  | k + 1, v => by
    have := dpF_le k v
    rw [dpF]
    split <;> omega

theorem dpF_q : ∀ (k : Nat) (v : List Int), dpF k v ≠ 0 → dq v (dpF k v : Int) = true
  | 0, _, h => absurd rfl h
  | k + 1, v, h => by
    rw [dpF] at h ⊢
    split
    · assumption
    · rename_i hn
      rw [if_neg hn] at h
      exact dpF_q k v h

theorem dpF_great (v : List Int) (hg : Al Gd v) : ∀ j, dpF (21 + j) v = dpF 21 v
  | 0 => rfl
  | j + 1 => by
    rw [show 21 + (j + 1) = (21 + j) + 1 by omega, dpF, if_neg, dpF_great v hg j]
    intro h
    unfold dq at h
    simp only [Bool.and_eq_true] at h
    have hm := List.contains_iff_mem.1 h.1.1.1
    have := hg _ hm
    unfold Gd Lo at this
    push_cast at this
    omega

theorem So_pos {a : Int} : ∀ {l : List Int}, So (a :: l) → Al Nz (a :: l) → (a < 0 → ∀ x ∈ l, a ≤ x ∧ x < 0) ∧ (a > 0 → ∀ x ∈ l, x < 0 ∨ a ≤ x)
  | [], _, _ => ⟨fun _ x hx => (by cases hx), fun _ x hx => (by cases hx)⟩
  | b :: l, h, n => by
    have h1 := rl_no n.head n.tail.head h.1
    obtain ⟨k1, k2⟩ := So_pos (a := b) h.2 n.tail
    refine ⟨fun ha x hx => ?_, fun ha x hx => ?_⟩
    · rcases List.mem_cons.1 hx with rfl | hx
      · omega
      · have := k1 (by omega) x hx; omega
    · rcases List.mem_cons.1 hx with rfl | hx
      · omega
      · by_cases hb : b < 0
        · have := k1 hb x hx; omega
        · rcases k2 (by have : b ≠ 0 := n.tail.head; omega) x hx with h | h <;> omega

theorem last_split {n : Int} {v : List Int} (h : n ∈ v) : ∃ A W, v = A ++ n :: W ∧ n ∉ W := by
  obtain ⟨a, b, e, hn⟩ := List.eq_append_cons_of_mem (List.mem_reverse.2 h)
  refine ⟨b.reverse, a.reverse, ?_, fun hh => hn (List.mem_reverse.1 hh)⟩
  have := congrArg List.reverse e
  rw [List.reverse_reverse] at this
  rw [this]
  simp

structure Dec (v : List Int) (n : Int) (A M C : List Int) : Prop where
  eq : v = A ++ n :: (M ++ -n :: C)
  pos : 0 < n
  a : ∀ x ∈ A, 0 < x ∧ x ≤ n
  m : ∀ x ∈ M, n + 2 ≤ x ∨ x ≤ -n - 2
  c : ∀ x ∈ C, -n ≤ x ∧ x < 0
  ne : M ≠ []

theorem dec_of {v : List Int} {n : Int} (hs : So v) (nz : Al Nz v) (hn : 0 < n) (hq : dq v n = true) : ∃ A M C, Dec v n A M C := by
  unfold dq at hq
  simp only [Bool.and_eq_true, Bool.not_eq_true'] at hq
  obtain ⟨⟨⟨q1, q2⟩, q3⟩, q4⟩ := hq
  have m1 := List.contains_iff_mem.1 q1
  have m2 := List.contains_iff_mem.1 q2
  have m3 : n + 1 ∉ v := fun h => by rw [List.contains_iff_mem.2 h] at q3; cases q3
  have m4 : -n - 1 ∉ v := fun h => by rw [List.contains_iff_mem.2 h] at q4; cases q4
  obtain ⟨A, W, e, hW⟩ := last_split m1
  subst e
  have sA : ∀ x ∈ A, 0 < x ∧ x ≤ n := by
    intro x hx
    obtain ⟨a1, a2, rfl⟩ := List.append_of_mem hx
    have s1 : So (x :: (a2 ++ n :: W)) := by
      have : a1 ++ x :: a2 ++ n :: W = a1 ++ (x :: (a2 ++ n :: W)) := by simp
      rw [this] at hs
      exact So_right a1 _ hs
    have n1 : Al Nz (x :: (a2 ++ n :: W)) := by
      have : a1 ++ x :: a2 ++ n :: W = a1 ++ (x :: (a2 ++ n :: W)) := by simp
      rw [this] at nz
      exact nz.app_r
    obtain ⟨k1, k2⟩ := So_pos s1 n1
    have hx0 : x ≠ 0 := n1.head
    by_cases h : x < 0
    · have := k1 h n (by simp); omega
    · rcases k2 (by omega) n (by simp) with h | h <;> omega
  have m2' : -n ∈ W := by
    rcases List.mem_append.1 m2 with h | h
    · have := sA _ h; omega
    · rcases List.mem_cons.1 h with h | h
      · omega
      · exact h
  obtain ⟨M, C, e, hM⟩ := List.eq_append_cons_of_mem m2'
  subst e
  have s2 := So_right A _ hs
  have n2 := nz.app_r
  have k2 := (So_pos s2 n2).2 hn
  refine ⟨A, M, C, rfl, hn, sA, fun x hx => ?_, fun x hx => ?_, fun hM0 => ?_⟩
  · have hxv : x ∈ A ++ n :: (M ++ -n :: C) := by simp [hx]
    have x1 : x ≠ n := fun e => hW (by rw [← e]; simp [hx])
    have x2 : x ≠ n + 1 := fun e => m3 (by rw [← e]; exact hxv)
    have x3 : x ≠ -n := fun e => hM (by rw [← e]; exact hx)
    have x4 : x ≠ -n - 1 := fun e => m4 (by rw [← e]; exact hxv)
    rcases k2 x (by simp [hx]) with h | h
    · obtain ⟨b1, b2, rfl⟩ := List.append_of_mem hx
      have e3 : A ++ n :: (b1 ++ x :: b2 ++ -n :: C) = (A ++ n :: b1) ++ (x :: (b2 ++ -n :: C)) := by simp
      have s3 : So (x :: (b2 ++ -n :: C)) := by rw [e3] at hs; exact So_right _ _ hs
      have n3 : Al Nz (x :: (b2 ++ -n :: C)) := by rw [e3] at nz; exact nz.app_r
      have := (So_pos s3 n3).1 h (-n) (by simp)
      omega
    · omega
  · have e3 : A ++ n :: (M ++ -n :: C) = (A ++ n :: M) ++ (-n :: C) := by simp
    have s3 : So (-n :: C) := by rw [e3] at hs; exact So_right _ _ hs
    have n3 : Al Nz (-n :: C) := by rw [e3] at nz; exact nz.app_r
    exact (So_pos s3 n3).1 (by omega) x hx
  · subst hM0
    have := So_mid A n (-n) C hs
    rw [rl_nil.2 (by omega)] at this
    cases this

/-- The word behind the drop. -/
def drp (A M C : List Int) : List Int := A ++ (M.map dm ++ C)

theorem SoJ : ∀ (l m : List Int), So l → So m → (∀ x ∈ l, ∀ y ∈ m, rl x y = none) → So (l ++ m)
  | [], m, _, h, _ => h
  | [x], [], _, _, _ => trivial
  | [x], y :: m, _, h, hj => ⟨hj x (by simp) y (by simp), h⟩
  | x :: y :: l, m, h1, h2, hj => ⟨h1.1, SoJ (y :: l) m h1.2 h2 fun u hu => hj u (List.mem_cons_of_mem _ hu)⟩

theorem SoM : ∀ (l m r : List Int), So (l ++ m) → So (m ++ r) → m ≠ [] → So (l ++ (m ++ r))
  | [], m, r, _, h, _ => h
  | [x], [], r, _, _, hm => absurd rfl hm
  | [x], y :: m, r, h1, h2, _ => ⟨h1.1, h2⟩
  | x :: y :: l, m, r, h1, h2, hm => ⟨h1.1, SoM (y :: l) m r h1.2 h2 hm⟩

theorem So_dm : ∀ (M : List Int), So M → (∀ x ∈ M, 3 ≤ x ∨ x ≤ -3) → So (M.map dm)
  | [], _, _ => trivial
  | [_], _, _ => trivial
  | a :: b :: M, h, hm => by
    refine ⟨?_, So_dm (b :: M) h.2 fun x hx => hm x (List.mem_cons_of_mem _ hx)⟩
    have ha := hm a (by simp)
    have hb := hm b (by simp)
    have := rl_no (by omega) (by omega) h.1
    unfold dm
    apply rl_is_no
    split <;> split <;> omega

theorem drp_facts {v : List Int} {n : Int} {A M C : List Int} (hs : So v) (nz : Al Nz v) (d : Dec v n A M C) : So (drp A M C) ∧ Al Nz (drp A M C) ∧ (drp A M C).length + 2 = v.length ∧ (∀ K : Int, 0 ≤ K → Al (Lo K) v → Al (Lo K) (drp A M C)) := by
  have hp := d.pos
  have e1 : v = A ++ (n :: (M ++ -n :: C)) := d.eq
  have e2 : v = (A ++ [n]) ++ (M ++ -n :: C) := by rw [d.eq]; simp
  have e3 : v = (A ++ n :: M ++ [-n]) ++ C := by rw [d.eq]; simp
  have sA : So A := by rw [e1] at hs; exact So_left _ _ hs
  have sM : So M := by rw [e2] at hs; exact So_left _ _ (So_right _ _ hs)
  have sC : So C := by rw [e3] at hs; exact So_right _ _ hs
  have hm : ∀ y ∈ M.map dm, n + 1 ≤ y ∨ y ≤ -n - 1 := by
    intro y hy
    obtain ⟨x, hx, rfl⟩ := List.mem_map.1 hy
    have := d.m x hx
    unfold dm
    split <;> omega
  have sM' := So_dm M sM fun x hx => by have := d.m x hx; omega
  refine ⟨?_, ?_, ?_, ?_⟩
  · refine SoM _ _ _ (SoJ _ _ sA sM' fun x hx y hy => ?_) (SoJ _ _ sM' sC fun x hx y hy => ?_) (by simpa using d.ne)
    · have := d.a x hx
      have := hm y hy
      exact rl_is_no (by omega)
    · have := hm x hx
      have := d.c y hy
      exact rl_is_no (by omega)
  · refine Al.app (fun x hx => ?_) (Al.app (fun x hx => ?_) fun x hx => ?_)
    · have := d.a x hx; show x ≠ 0; omega
    · have := hm x hx; show x ≠ 0; omega
    · have := d.c x hx; show x ≠ 0; omega
  · rw [d.eq]
    unfold drp
    simp
    omega
  · intro K hK hb
    rw [d.eq] at hb
    refine Al.app hb.app_l (Al.app (fun y hy => ?_) fun y hy => hb y (by simp [hy]))
    obtain ⟨x, hx, rfl⟩ := List.mem_map.1 hy
    have h1 := hb x (by simp [hx])
    have := d.m x hx
    unfold Lo at *
    unfold dm
    split <;> omega

theorem dec_uniq {v : List Int} {n : Int} {A M C A' M' C' : List Int} (d : Dec v n A M C) (d' : Dec v n A' M' C') : drp A M C = drp A' M' C' := by
  have hp := d.pos
  have key : ∀ (A A' : List Int) (W W' : List Int), A ++ n :: W = A' ++ n :: W' → n ∉ W → n ∉ W' → A = A' ∧ W = W' := by
    intro A
    induction A with
    | nil =>
      intro A' W W' e h1 h2
      cases A' with
      | nil => exact ⟨rfl, by simpa using e⟩
      | cons x A' =>
        simp only [List.nil_append, List.cons_append, List.cons.injEq] at e
        exact absurd (by rw [e.2]; simp) h1
    | cons x A ih =>
      intro A' W W' e h1 h2
      cases A' with
      | nil =>
        simp only [List.nil_append, List.cons_append, List.cons.injEq] at e
        exact absurd (by rw [← e.2]; simp) h2
      | cons y A' =>
        simp only [List.cons_append, List.cons.injEq] at e
        obtain ⟨i1, i2⟩ := ih A' W W' e.2 h1 h2
        exact ⟨by rw [e.1, i1], i2⟩
  have nW : ∀ {A M C : List Int}, Dec v n A M C → n ∉ M ++ -n :: C := fun d h => by
    rcases List.mem_append.1 h with h | h
    · have := d.m n h; omega
    · rcases List.mem_cons.1 h with h | h
      · omega
      · have := d.c n h; omega
  obtain ⟨e1, e2⟩ := key A A' _ _ (by rw [← d.eq, ← d'.eq]) (nW d) (nW d')
  have key2 : ∀ (M M' C C' : List Int), M ++ -n :: C = M' ++ -n :: C' → -n ∉ M → -n ∉ M' → M = M' ∧ C = C' := by
    intro M
    induction M with
    | nil =>
      intro M' C C' e h1 h2
      cases M' with
      | nil => exact ⟨rfl, by simpa using e⟩
      | cons x M' =>
        simp only [List.nil_append, List.cons_append, List.cons.injEq] at e
        exact absurd (by rw [e.1]; simp) h2
    | cons x M ih =>
      intro M' C C' e h1 h2
      cases M' with
      | nil =>
        simp only [List.nil_append, List.cons_append, List.cons.injEq] at e
        exact absurd (by rw [e.1]; simp) h1
      | cons y M' =>
        simp only [List.cons_append, List.cons.injEq] at e
        obtain ⟨i1, i2⟩ := ih M' C C' e.2 (fun h => h1 (List.mem_cons_of_mem _ h)) (fun h => h2 (List.mem_cons_of_mem _ h))
        exact ⟨by rw [e.1, i1], i2⟩
  obtain ⟨e3, e4⟩ := key2 M M' C C' e2 (fun h => by have := d.m _ h; omega) (fun h => by have := d'.m _ h; omega)
  rw [e1, e3, e4]

/-- One drop, as a function. -/
noncomputable def dstep (v : List Int) : List Int := by
  classical exact if h : ∃ A M C, Dec v (dpF 21 v : Int) A M C then drp h.choose h.choose_spec.choose h.choose_spec.choose_spec.choose else v

theorem dstep_eq {v : List Int} {A M C : List Int} (d : Dec v (dpF 21 v : Int) A M C) : dstep v = drp A M C := by
  have h : ∃ A M C, Dec v (dpF 21 v : Int) A M C := ⟨A, M, C, d⟩
  unfold dstep
  rw [dif_pos h]
  exact dec_uniq h.choose_spec.choose_spec.choose_spec d

theorem dec_dp {v : List Int} (hs : So v) (nz : Al Nz v) (h : dpF 21 v ≠ 0) : ∃ A M C, Dec v (dpF 21 v : Int) A M C := dec_of hs nz (by omega) (dpF_q 21 v h)

end Go.AI
