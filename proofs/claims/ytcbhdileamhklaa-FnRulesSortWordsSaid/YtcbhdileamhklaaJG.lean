/- A part of the road: what it proves stands in its last texts. -/
import Derived.Test.YtcbhdileamhklaaWdc
import Derived.Test.YtcbhdileamhklaaJE
section
/- Contracts: normal words; one drop. -/
set_option autoImplicit false
set_option maxRecDepth 100000
set_option linter.unusedVariables false
namespace Go.AI
open Go.Proofs

noncomputable def nf : Nat → List Int → List Int
  | 0, v => v
  | k + 1, v => if dpF 21 v = 0 then v else nf k (dstep v)

noncomputable def nor (v : List Int) : List Int := nf v.length v

theorem dpF_nil : dpF 21 [] = 0 := by decide

theorem dstep_facts {v : List Int} (hs : So v) (nz : Al Nz v) (hg : Al Gd v) (h : dpF 21 v ≠ 0) : So (dstep v) ∧ Al Nz (dstep v) ∧ Al Gd (dstep v) ∧ (dstep v).length + 2 = v.length := by
  obtain ⟨A, M, C, d⟩ := dec_dp hs nz h
  rw [dstep_eq d]
  obtain ⟨h1, h2, h3, h4⟩ := drp_facts hs nz d
  exact ⟨h1, h2, h4 21 (by omega) hg, h3⟩

theorem inorm_L : ∀ (k : Nat) (v : List Int), v.length ≤ k → k ≤ 2 ^ 19 → So v → Al Nz v → Al Gd v →
    LoopSC cfg.P 1 (lb P_impl_NormalByRules 0) (impl_NormalByRules_L0a v (dpF 21 v : Int)) (.exit 0) (impl_NormalByRules_L0X1 (nf k v) (0 : Int) false)
  | 0, v, hl, _, _, _, _ => by
    have : v = [] := List.length_eq_zero_iff.1 (by omega)
    subst this
    rw [dpF_nil]
    exact impl_NormalByRules_L0a_x2 _ _ (by decide)
  | k + 1, v, hl, hk, hs, nz, hg => by
    rw [nf]
    by_cases h : dpF 21 v = 0
    · rw [if_pos h, h]
      exact impl_NormalByRules_L0a_x2 _ _ (by decide)
    · rw [if_neg h]
      obtain ⟨A, M, C, d⟩ := dec_dp hs nz h
      obtain ⟨h1, h2, h3, h4⟩ := dstep_facts hs nz hg h
      have i := inorm_L k (dstep v) (by omega) (by omega) h1 h2 h3
      have hd := dropped_SC v A M C _ d (gd_sm hg) (by omega)
      rw [← dstep_eq d] at hd
      exact impl_NormalByRules_L0a_i1 _ _ _ _ (by omega) hd (droppable_SC _ (by omega)) i

theorem snorm_L : ∀ (k : Nat) (v : List Int), v.length ≤ k → k ≤ 2 ^ 19 → So v → Al Nz v → Al Gd v →
    LoopSC cfg.P 1 (lb P_spec_wdNormal 0) (spec_wdNormal_L0a v) .ret (spec_wdNormal_L0X1 (nf k v))
  | 0, v, hl, _, hs, nz, hg => by
    have : v = [] := List.length_eq_zero_iff.1 (by omega)
    subst this
    exact spec_wdNormal_L0a_x2 _ _ (wdDrop_no [] hs nz hg (by simp) dpF_nil)
  | k + 1, v, hl, hk, hs, nz, hg => by
    rw [nf]
    by_cases h : dpF 21 v = 0
    · rw [if_pos h]
      exact spec_wdNormal_L0a_x2 _ _ (wdDrop_no v hs nz hg (by omega) h)
    · rw [if_neg h]
      obtain ⟨A, M, C, d⟩ := dec_dp hs nz h
      obtain ⟨h1, h2, h3, h4⟩ := dstep_facts hs nz hg h
      have i := snorm_L k (dstep v) (by omega) (by omega) h1 h2 h3
      have hd := wdDrop_yes v A M C hs nz hg (by omega) h d
      rw [← dstep_eq d] at hd
      exact spec_wdNormal_L0a_i1 _ _ _ _ hd (wdSort_id (dstep v) h1 h2 (h3.mono fun x hx => by unfold Gd Lo at *; omega) (by omega)) i

noncomputable def nbV (w : List Int) : List Int := if soB w = true then nor (srt [] w).1 else []

theorem soB_facts {w : List Int} (h : soB w = true) : isWd w = true ∧ So (srt [] w).1 ∧ Al Nz (srt [] w).1 ∧ Al Gd (srt [] w).1 ∧ (srt [] w).1.length ≤ w.length ∧ w.length ≤ 20 := by
  unfold soB at h
  rw [Bool.and_eq_true] at h
  obtain ⟨k1, k2, k3, k4, k5, k6⟩ := srt_good_facts w h.1
  exact ⟨h.1, k2, k3, ((isWd_iff _).1 h.2).2.2, k5, ((isWd_iff w).1 h.1).1⟩

theorem implNB_SC (w : List Int) (hl : w.length ≤ 2 ^ 20) (hd : isWd w = true → Drawn w) : SC cfg.P i_impl_NormalByRules [.s (.v (.sl (.int .i64)) w)] (.tup [.v (.sl (.int .i64)) (nbV w), .v .bool (soB w)]) [] := by
  have h := implSort_SC w hl hd
  unfold nbV
  cases c : soB w with
  | false => rw [c] at h; exact (impl_NormalByRules_p2 _ _ _ h).viewT
  | true =>
    rw [c] at h
    obtain ⟨k1, k2, k3, k4, k5, k6⟩ := soB_facts c
    have e : soV w = (srt [] w).1 := by unfold soV; rw [if_pos c]
    rw [e] at h
    exact impl_NormalByRules_p1 _ _ _ _ _ _ _ h (droppable_SC _ (by omega)) (inorm_L _ _ (Nat.le_refl _) (by omega) k2 k3 k4)

theorem specNB_SC (w : List Int) (hl : w.length ≤ 2 ^ 20) : SC cfg.P i_spec_NormalByRules [.s (.v (.sl (.int .i64)) w)] (.tup [.v (.sl (.int .i64)) (nbV w), .v .bool (soB w)]) [] := by
  have hw := wdGood_SC w (by omega)
  unfold nbV
  cases c : soB w with
  | true =>
    obtain ⟨k1, k2, k3, k4, k5, k6⟩ := soB_facts c
    rw [k1] at hw
    have hv := wdGood_SC (srt [] w).1 (by omega)
    rw [(isWd_iff _).2 ⟨by omega, k3, k4⟩] at hv
    exact spec_NormalByRules_p1 _ _ _ _ hw (wdSort_SC w k1) hv (spec_wdNormal_p1 _ _ _ _ (wdSort_SC w k1) (snorm_L _ _ (Nat.le_refl _) (by omega) k2 k3 k4))
  | false =>
    cases d : isWd w with
    | false => rw [d] at hw; exact (spec_NormalByRules_p3 _ hw).viewT
    | true =>
      rw [d] at hw
      have h20 := ((isWd_iff w).1 d).1
      obtain ⟨k1, k2, k3, k4, k5, k6⟩ := srt_good_facts w d
      have hv := wdGood_SC (srt [] w).1 (by omega)
      unfold soB at c
      rw [d, Bool.true_and] at c
      rw [c] at hv
      exact (spec_NormalByRules_p2 _ _ _ hw (wdSort_SC w d) hv).viewT

/-! ### One drop -/

def dsB (w : List Int) : Bool := isWd w && !(st w).isSome && decide (dpF 21 w ≠ 0)
noncomputable def dsV (w : List Int) : List Int := if dsB w = true then dstep w else []

theorem So_of' {w : List Int} (h : (st w).isSome = false) : So w := So_of (by cases c : st w with | none => rfl | some v => rw [c] at h; cases h)

theorem implDS_SC (w : List Int) (hl : w.length ≤ 2 ^ 20) : SC cfg.P i_impl_DropStep [.s (.v (.sl (.int .i64)) w)] (.tup [.v (.sl (.int .i64)) (dsV w), .v .bool (dsB w)]) [] := by
  have hw := isWord_SC w (by omega)
  unfold dsV dsB
  cases c : isWd w with
  | false => rw [c] at hw; exact (impl_DropStep_p4 _ hw).viewT
  | true =>
    rw [c] at hw
    obtain ⟨h1, h2, h3⟩ := (isWd_iff w).1 c
    have hs := sorted_SC w (gd_sm h3) h2 hl
    cases s : (st w).isSome with
    | true => rw [s] at hs; exact (impl_DropStep_p3 _ hw hs).viewT
    | false =>
      rw [s] at hs
      have so := So_of' s
      have hd := droppable_SC w (by omega)
      by_cases h : dpF 21 w = 0
      · have : decide (dpF 21 w ≠ 0) = false := decide_eq_false (fun k => k h)
        rw [this]
        exact (impl_DropStep_p1 _ _ hw hs hd (by omega)).viewT
      · have : decide (dpF 21 w ≠ 0) = true := decide_eq_true h
        rw [this]
        obtain ⟨A, M, C, d⟩ := dec_dp so h2 h
        have hp := dropped_SC w A M C _ d (gd_sm h3) (by omega)
        rw [← dstep_eq d] at hp
        exact impl_DropStep_p2 _ _ _ hw hs hd (by omega) hp

theorem specDS_SC (w : List Int) (hl : w.length ≤ 2 ^ 20) : SC cfg.P i_spec_DropStep [.s (.v (.sl (.int .i64)) w)] (.tup [.v (.sl (.int .i64)) (dsV w), .v .bool (dsB w)]) [] := by
  have hw := wdGood_SC w (by omega)
  unfold dsV dsB
  cases c : isWd w with
  | false => rw [c] at hw; exact (spec_DropStep_p4 _ hw).viewT
  | true =>
    rw [c] at hw
    obtain ⟨h1, h2, h3⟩ := (isWd_iff w).1 c
    have hs := wdSorted_SC w (gd_sm h3) h2 hl
    cases s : (st w).isSome with
    | true => rw [s] at hs; exact (spec_DropStep_p3 _ hw hs).viewT
    | false =>
      rw [s] at hs
      have so := So_of' s
      by_cases h : dpF 21 w = 0
      · have : decide (dpF 21 w ≠ 0) = false := decide_eq_false (fun k => k h)
        rw [this]
        exact (spec_DropStep_p2 _ _ hw hs (wdDrop_no w so h2 h3 (by omega) h)).viewT
      · have : decide (dpF 21 w ≠ 0) = true := decide_eq_true h
        rw [this]
        obtain ⟨A, M, C, d⟩ := dec_dp so h2 h
        have hp := wdDrop_yes w A M C so h2 h3 (by omega) h d
        rw [← dstep_eq d] at hp
        exact spec_DropStep_p1 _ _ hw hs hp

end Go.AI
end

section
/- Plain law: rules and drops keep sums and products. -/
set_option autoImplicit false
set_option maxRecDepth 100000
set_option linter.unusedVariables false
namespace Go.AI
open Go.Proofs

/-! ### Sums -/

def g1 (x : Int) : Int := if x = 1 then 1 else if x = -1 then -1 else 0
def g2 (x : Int) : Int := if x = 1 ∨ x = -1 then 0 else if x < 0 then -1 else 1
def s1 : List Int → Int
  | [] => 0
  | x :: l => g1 x + s1 l
def s2 : List Int → Int
  | [] => 0
  | x :: l => g2 x + s2 l

theorem s1_app : ∀ l m : List Int, s1 (l ++ m) = s1 l + s1 m
  | [], m => by simp [s1]
  | x :: l, m => by simp only [List.cons_append, s1, s1_app l m]; omega
theorem s2_app : ∀ l m : List Int, s2 (l ++ m) = s2 l + s2 m
  | [], m => by simp [s2]
  | x :: l, m => by simp only [List.cons_append, s2, s2_app l m]; omega

theorem g_two {a b c d : Int} (h : rl a b = some (some (c, d))) : g1 c + g1 d = g1 a + g1 b ∧ g2 c + g2 d = g2 a + g2 b := by
  unfold g1 g2
  rcases rl_two h with ⟨h1, h2, h3, rfl, rfl⟩ | ⟨h1, h2, h3, rfl, rfl⟩ | ⟨h1, h2, h3, rfl, rfl⟩ | ⟨h1, h2, h3, rfl, rfl⟩ <;> constructor <;> (repeat' split) <;> omega

theorem g_neg {a : Int} (h : a ≠ 0) : g1 a + g1 (-a) = 0 ∧ g2 a + g2 (-a) = 0 := by
  unfold g1 g2
  constructor <;> (repeat' split) <;> omega

theorem st_sums : ∀ (w v : List Int), st w = some v → Al Nz w → s1 v = s1 w ∧ s2 v = s2 w
  | [], _, h, _ => by cases h
  | [_], _, h, _ => by cases h
  | a :: b :: r, v, h, n => by
    rw [st] at h
    cases c : rl a b with
    | none =>
      rw [c] at h
      simp only [Option.map_eq_some_iff] at h
      obtain ⟨u, hu, rfl⟩ := h
      obtain ⟨h1, h2⟩ := st_sums (b :: r) u hu n.tail
      simp only [s1, s2] at h1 h2 ⊢
      omega
    | some q =>
      rw [c] at h
      cases q with
      | none =>
        simp only [Option.some.injEq] at h
        subst h
        have e := rl_nil.1 c
        have nb : b ≠ 0 := n.tail.head
        obtain ⟨k1, k2⟩ := g_neg nb
        have eb : -b = a := by omega
        rw [eb] at k1 k2
        simp only [s1, s2]
        omega
      | some q =>
        obtain ⟨x, y⟩ := q
        simp only [Option.some.injEq] at h
        subst h
        obtain ⟨k1, k2⟩ := g_two c
        simp only [s1, s2]
        omega

theorem steps_sums {P : List Int → Prop} {w v : List Int} {n : Nat} (h : Steps P w n v) : Al Nz w → s1 v = s1 w ∧ s2 v = s2 w := by
  induction h with
  | refl => exact fun _ => ⟨rfl, rfl⟩
  | step p s _ ih =>
    intro nz
    obtain ⟨k1, k2⟩ := st_sums _ _ s nz
    obtain ⟨k3, k4⟩ := ih (st_facts _ _ s nz).1
    exact ⟨by rw [k3, k1], by rw [k4, k2]⟩

theorem s_dm : ∀ (M : List Int), (∀ x ∈ M, 3 ≤ x ∨ x ≤ -3) → s1 (M.map dm) = s1 M ∧ s2 (M.map dm) = s2 M
  | [], _ => ⟨rfl, rfl⟩
  | x :: M, h => by
    obtain ⟨k1, k2⟩ := s_dm M fun y hy => h y (List.mem_cons_of_mem _ hy)
    have hx := h x (by simp)
    have : g1 (dm x) = g1 x ∧ g2 (dm x) = g2 x := by
      unfold g1 g2 dm
      constructor <;> (repeat' split) <;> omega
    simp only [List.map_cons, s1, s2]
    omega

theorem dstep_sums {v : List Int} (hs : So v) (nz : Al Nz v) (h : dpF 21 v ≠ 0) : s1 (dstep v) = s1 v ∧ s2 (dstep v) = s2 v := by
  obtain ⟨A, M, C, d⟩ := dec_dp hs nz h
  rw [dstep_eq d]
  have hp := d.pos
  obtain ⟨k1, k2⟩ := s_dm M fun x hx => by have := d.m x hx; omega
  obtain ⟨e1, e2⟩ := g_neg (a := (dpF 21 v : Int)) (by omega)
  have e := d.eq
  have q1 : s1 v = s1 A + (g1 (dpF 21 v : Int) + (s1 M + (g1 (-(dpF 21 v : Int)) + s1 C))) := by
    conv => lhs; rw [e]
    rw [s1_app]; simp only [s1]; rw [s1_app]; simp only [s1]
  have q2 : s2 v = s2 A + (g2 (dpF 21 v : Int) + (s2 M + (g2 (-(dpF 21 v : Int)) + s2 C))) := by
    conv => lhs; rw [e]
    rw [s2_app]; simp only [s2]; rw [s2_app]; simp only [s2]
  unfold drp
  rw [s1_app, s1_app, s2_app, s2_app, k1, k2, q1, q2]
  omega

theorem nf_facts : ∀ (k : Nat) (v : List Int), v.length ≤ k → So v → Al Nz v → Al Gd v → s1 (nf k v) = s1 v ∧ s2 (nf k v) = s2 v ∧ Al Nz (nf k v) ∧ Al Gd (nf k v) ∧ (nf k v).length ≤ v.length ∧ So (nf k v)
  | 0, v, _, hs, nz, hg => ⟨rfl, rfl, nz, hg, Nat.le_refl _, hs⟩
  | k + 1, v, hl, hs, nz, hg => by
    rw [nf]
    by_cases h : dpF 21 v = 0
    · rw [if_pos h]
      exact ⟨rfl, rfl, nz, hg, Nat.le_refl _, hs⟩
    · rw [if_neg h]
      obtain ⟨h1, h2, h3, h4⟩ := dstep_facts hs nz hg h
      obtain ⟨a1, a2⟩ := dstep_sums hs nz h
      obtain ⟨b1, b2, b3, b4, b5, b6⟩ := nf_facts k (dstep v) (by omega) h1 h2 h3
      exact ⟨by rw [b1, a1], by rw [b2, a2], b3, b4, by omega, b6⟩

/-! ### Products -/

def ew : List Int → St2 → St2
  | [], s => s
  | n :: w, s => ew w (fOf (letT n) s)

theorem ev_app : ∀ (a b : List Int) (s : St2), ew (a ++ b) s = ew b (ew a s)
  | [], _, _ => rfl
  | n :: a, b, s => ev_app a b _

theorem let_eqc (n : Int) : (letT n).1.c = (letT n).2.c := by rw [(let_c n).1, (let_c n).2]

theorem powW_ev : ∀ (w : List Int) (out o : Tr × Tr), powW w out = some o → out.1.c = out.2.c → bothL out = [] → (∀ s, fOf o s = ew w (fOf out s)) ∧ o.1.c = o.2.c ∧ bothL o = []
  | [], out, o, h, hc, hb => by
    have : out = o := by simpa [powW] using h
    subst this
    exact ⟨fun _ => rfl, hc, hb⟩
  | n :: w, out, o, h, hc, hb => by
    rw [powW] at h
    split at h
    · obtain ⟨k1, k2, k3⟩ := powW_ev w _ o h (times_eqc _ _ hc (let_eqc n)) (times_red _ _)
      refine ⟨fun s => ?_, k2, k3⟩
      rw [k1 s, fOf_times _ _ hc (let_eqc n)]
      rfl
    · cases h

def lets : List Int := [-7, -6, -5, -4, -3, -2, -1, 1, 2, 3, 4, 5, 6, 7]

theorem mem_lets {x : Int} (h : lok x) : x ∈ lets := by
  obtain ⟨h1, h2⟩ := h
  have : x = -7 ∨ x = -6 ∨ x = -5 ∨ x = -4 ∨ x = -3 ∨ x = -2 ∨ x = -1 ∨ x = 1 ∨ x = 2 ∨ x = 3 ∨ x = 4 ∨ x = 5 ∨ x = 6 ∨ x = 7 := by omega
  unfold lets
  simp only [List.mem_cons, List.not_mem_nil, or_false]
  exact this

def relB (a b : Int) : Bool := match rl a b with
  | some (some (c, d)) => !(lets.contains c && lets.contains d) || decide (timesT (letT a) (letT b) = timesT (letT c) (letT d))
  | some none => decide (timesT (letT a) (letT b) = (.leaf, .leaf))
  | none => true

theorem relB_all : ∀ a ∈ lets, ∀ b ∈ lets, relB a b = true := by decide +kernel

theorem rel_two (a : Int) (ha : a ∈ lets) (b : Int) (hb : b ∈ lets) : (∀ c d, rl a b = some (some (c, d)) → c ∈ lets → d ∈ lets → timesT (letT a) (letT b) = timesT (letT c) (letT d)) ∧ (rl a b = some none → timesT (letT a) (letT b) = (.leaf, .leaf)) := by
  have h := relB_all a ha b hb
  unfold relB at h
  refine ⟨fun c d e hc hd => ?_, fun e => ?_⟩
  · rw [e] at h
    simp only at h
    rw [List.contains_iff_mem.2 hc, List.contains_iff_mem.2 hd] at h
    simpa using h
  · rw [e] at h
    simpa using h

theorem rel_dm : ∀ n ∈ lets, ∀ m ∈ lets, 0 < n → (n + 2 ≤ m ∨ m ≤ -n - 2) → timesT (letT n) (letT m) = timesT (letT (dm m)) (letT n) := by
  decide +kernel

theorem ev_two (a b : Int) (s : St2) : fOf (letT b) (fOf (letT a) s) = fOf (timesT (letT a) (letT b)) s := (fOf_times _ _ (let_eqc a) (let_eqc b) s).symm

theorem fOf_unit (s : St2) : fOf (.leaf, .leaf) s = s := rfl

theorem ev_st : ∀ (w v : List Int), st w = some v → (∀ x ∈ w, lok x) → (∀ x ∈ v, lok x) → ∀ s, ew v s = ew w s
  | [], _, h, _, _, _ => by cases h
  | [_], _, h, _, _, _ => by cases h
  | a :: b :: r, v, h, hw, hv, s => by
    rw [st] at h
    have la := mem_lets (hw a (by simp))
    have lb := mem_lets (hw b (by simp))
    have hrel := rel_two a la b lb
    cases c : rl a b with
    | none =>
      rw [c] at h
      simp only [Option.map_eq_some_iff] at h
      obtain ⟨u, hu, rfl⟩ := h
      exact ev_st (b :: r) u hu (fun x hx => hw x (List.mem_cons_of_mem _ hx)) (fun x hx => hv x (List.mem_cons_of_mem _ hx)) _
    | some q =>
      rw [c] at h
      cases q with
      | none =>
        simp only [Option.some.injEq] at h
        subst h
        show ew r s = ew r (fOf (letT b) (fOf (letT a) s))
        rw [ev_two, hrel.2 c, fOf_unit]
      | some q =>
        obtain ⟨x, y⟩ := q
        simp only [Option.some.injEq] at h
        subst h
        show ew r (fOf (letT y) (fOf (letT x) s)) = ew r (fOf (letT b) (fOf (letT a) s))
        rw [ev_two, ev_two, hrel.1 x y c (mem_lets (hv x (by simp))) (mem_lets (hv y (by simp)))]

theorem ev_push (n : Int) (hn : 0 < n) (ln : lok n) : ∀ (M : List Int) (r : List Int), (∀ m ∈ M, n + 2 ≤ m ∨ m ≤ -n - 2) → (∀ m ∈ M, lok m) → ∀ s, ew (n :: (M ++ r)) s = ew (M.map dm ++ n :: r) s
  | [], r, _, _, s => rfl
  | m :: M, r, h1, h2, s => by
    have hr := rel_dm n (mem_lets ln) m (mem_lets (h2 m (by simp))) hn (h1 m (by simp))
    have ih := ev_push n hn ln M r (fun x hx => h1 x (List.mem_cons_of_mem _ hx)) (fun x hx => h2 x (List.mem_cons_of_mem _ hx)) (fOf (letT (dm m)) s)
    show ew (M ++ r) (fOf (letT m) (fOf (letT n) s)) = ew (M.map dm ++ n :: r) (fOf (letT (dm m)) s)
    rw [← ih, ev_two, hr, ← ev_two]
    rfl

theorem ev_dec {v : List Int} {n : Int} {A M C : List Int} (d : Dec v n A M C) (hv : ∀ x ∈ v, lok x) (s : St2) : ew (drp A M C) s = ew v s := by
  have ln : lok n := hv n (by rw [d.eq]; simp)
  have lm : ∀ m ∈ M, lok m := fun m hm => hv m (by rw [d.eq]; simp [hm])
  have hrel := rel_two n (mem_lets ln) (-n) (mem_lets (hv (-n) (by rw [d.eq]; simp)))
  have hr : timesT (letT n) (letT (-n)) = (.leaf, .leaf) := hrel.2 (rl_nil.2 (by omega : n = - -n))
  conv => rhs; rw [d.eq]
  unfold drp
  rw [ev_app, ev_app A, ev_push n d.pos ln M (-n :: C) d.m lm, ev_app, ev_app]
  show ew C (ew (M.map dm) (ew A s)) = ew C (fOf (letT (-n)) (fOf (letT n) (ew (M.map dm) (ew A s))))
  rw [ev_two, hr, fOf_unit]

/-- Words that do the same have the same pair. -/
theorem pww_same (u v : List Int) (hu : pwwB u = true) (hv : pwwB v = true) (h : (∀ x ∈ u, lok x) → (∀ x ∈ v, lok x) → ∀ s, ew v s = ew u s) : pwwV u = pwwV v := by
  have get : ∀ l : List Int, pwwB l = true → ∃ o, pwwO l = some o ∧ powW l (.leaf, .leaf) = some o ∧ ∀ x ∈ l, lok x := by
    intro l hl
    unfold pwwB at hl
    obtain ⟨o, ho⟩ := Option.isSome_iff_exists.1 hl
    refine ⟨o, ho, ?_⟩
    unfold pwwO at ho
    split at ho
    · rename_i hg
      refine ⟨ho, fun x hx => ?_⟩
      unfold pwwG at hg
      rw [Bool.and_eq_true, List.all_eq_true] at hg
      have h1 := (wd_facts hg.1).2 x hx
      have h2 := hg.2 x hx
      rw [decide_eq_true_eq] at h2
      exact ⟨h1.1, h2⟩
    · cases ho
  obtain ⟨o1, a1, b1, c1⟩ := get u hu
  obtain ⟨o2, a2, b2, c2⟩ := get v hv
  obtain ⟨d1, e1, f1⟩ := powW_ev u _ o1 b1 rfl rfl
  obtain ⟨d2, e2, f2⟩ := powW_ev v _ o2 b2 rfl rfl
  have : o1 = o2 := red_unique o1 o2 e1 e2 f1 f2 fun s => by rw [d1, d2, fOf_unit, h c1 c2]
  unfold pwwV
  rw [a1, a2, this]

end Go.AI
end
