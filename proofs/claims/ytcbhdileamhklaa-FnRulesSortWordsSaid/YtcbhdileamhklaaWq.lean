/- Contracts: sums, words without inverses next to each other, draws. -/
import Derived.Test.YtcbhdileamhklaaJG
import Derived.Test.YtcbhdileamhklaaDc
set_option autoImplicit false
set_option maxRecDepth 100000
set_option linter.unusedVariables false
namespace Go.AI
open Go.Proofs

theorem nSame_SC (L : List Int) (hl : L.length ≤ 2 ^ 40) : SC cfg.P i_laws_nSame [.s (.v (.sl (.int .i64)) L), .s (.v (.sl (.int .i64)) L)] (.s (.v .bool true)) [] := by
  have key : ∀ (m k : Nat), L.length - k = m → k ≤ L.length → LoopSC cfg.P 2 (lb P_laws_nSame 0) (laws_nSame_L0a L L ((List.length L : Nat) : Int) (k : Int)) (.exit 0) (laws_nSame_L0X2 L L ((List.length L : Nat) : Int) (L.length : Int) false) := by
    intro m
    induction m with
    | zero =>
      intro k hm hk
      have e : k = L.length := by omega
      subst e
      exact laws_nSame_L0a_x3 _ _ _ _ (by omega)
    | succ m ih =>
      intro k hm hk
      have k1 := ih (k + 1) (by omega) (by omega)
      rw [← wrap_succ (by omega)] at k1
      exact laws_nSame_L0a_i2 _ _ _ _ (by omega) (by omega) (by omega) (by omega) rfl k1
  exact laws_nSame_p3 _ _ _ _ _ _ _ rfl (key _ 0 rfl (by omega))

/-! ### Sums -/

theorem s_take (w : List Int) (i : Nat) (h : i < w.length) : s1 (w.take (i + 1)) = s1 (w.take i) + g1 w[i] ∧ s2 (w.take (i + 1)) = s2 (w.take i) + g2 w[i] := by
  rw [List.take_add_one, List.getElem?_eq_getElem h, s1_app, s2_app]
  simp [s1, s2]

theorem s_bd : ∀ w : List Int, -(w.length : Int) ≤ s1 w ∧ s1 w ≤ w.length ∧ -(w.length : Int) ≤ s2 w ∧ s2 w ≤ w.length
  | [] => by simp [s1, s2]
  | x :: w => by
    have := s_bd w
    have h1 : -1 ≤ g1 x ∧ g1 x ≤ 1 := by unfold g1; (repeat' split) <;> omega
    have h2 : -1 ≤ g2 x ∧ g2 x ≤ 1 := by unfold g2; (repeat' split) <;> omega
    simp only [s1, s2, List.length_cons]
    omega

theorem sums_L (w : List Int) (hw : Al Sm w) (hl : w.length ≤ 2 ^ 20) : ∀ (m i : Nat), w.length - i = m → i ≤ w.length →
    LoopSC cfg.P 1 (lb P_impl_sums 0) (impl_sums_L0a (s1 (w.take i)) (s2 (w.take i)) w ((List.length w : Nat) : Int) (i : Int)) (.exit 0) (impl_sums_L0X1 (s1 w) (s2 w) w ((List.length w : Nat) : Int) (w.length : Int) false) := by
  intro m
  induction m with
  | zero =>
    intro i hm hi
    have e : i = w.length := by omega
    subst e
    rw [List.take_of_length_le (Nat.le_refl _)]
    exact impl_sums_L0a_x5 _ _ _ _ _ (by omega)
  | succ m ih =>
    intro i hm hi
    have hlt : i < w.length := by omega
    have k := ih (i + 1) (by omega) (by omega)
    have hg : List.getD w ((i : Int)).toNat (0 : Int) = w[i] := by
      rw [Int.toNat_natCast, List.getD_eq_getElem?_getD, List.getElem?_eq_getElem hlt]; rfl
    have hs := hw w[i] (List.getElem_mem hlt)
    have hsz := size_SC w[i] (by unfold Sm Lo at hs; omega)
    obtain ⟨t1, t2⟩ := s_take w i hlt
    have bd := s_bd (w.take i)
    have hti : (w.take i).length = i := by rw [List.length_take]; omega
    rw [hti] at bd
    rw [t1, t2, ← wrap_succ (by omega)] at k
    by_cases hn : w[i] < 0
    · by_cases ho : ((w[i].natAbs : Nat) : Int) = 1
      · have ex : w[i] = -1 := by omega
        have q1 : g1 w[i] = -1 := by rw [ex]; rfl
        have q2 : g2 w[i] = 0 := by rw [ex]; rfl
        have v1 : IntKind.wrap .i64 (s1 (w.take i) + (-1 : Int)) = s1 (w.take i) + -1 := by rw [w64] <;> omega
        rw [q1, q2, Int.add_zero, ← v1] at k
        exact impl_sums_L0a_i1 _ _ _ _ _ _ (by omega) (by omega) (by omega) (by rw [hg]; exact hn) (by rw [hg]; exact hsz) ho k
      · have q1 : g1 w[i] = 0 := by unfold g1; rw [if_neg (by omega), if_neg (by omega)]
        have q2 : g2 w[i] = -1 := by unfold g2; rw [if_neg (by omega), if_pos hn]
        have v1 : IntKind.wrap .i64 (s2 (w.take i) + (-1 : Int)) = s2 (w.take i) + -1 := by rw [w64] <;> omega
        rw [q1, q2, Int.add_zero, ← v1] at k
        exact impl_sums_L0a_i2 _ _ _ _ _ _ (by omega) (by omega) (by omega) (by rw [hg]; exact hn) (by rw [hg]; exact hsz) ho k
    · by_cases ho : ((w[i].natAbs : Nat) : Int) = 1
      · have ex : w[i] = 1 := by omega
        have q1 : g1 w[i] = 1 := by rw [ex]; rfl
        have q2 : g2 w[i] = 0 := by rw [ex]; rfl
        have v1 : IntKind.wrap .i64 (s1 (w.take i) + (1 : Int)) = s1 (w.take i) + 1 := by rw [w64] <;> omega
        rw [q1, q2, Int.add_zero, ← v1] at k
        exact impl_sums_L0a_i3 _ _ _ _ _ _ (by omega) (by omega) (by omega) (by rw [hg]; exact hn) (by rw [hg]; exact hsz) ho k
      · have q1 : g1 w[i] = 0 := by unfold g1; rw [if_neg (by omega), if_neg (by omega)]
        have q2 : g2 w[i] = 1 := by unfold g2; rw [if_neg (by omega), if_neg hn]
        have v1 : IntKind.wrap .i64 (s2 (w.take i) + (1 : Int)) = s2 (w.take i) + 1 := by rw [w64] <;> omega
        rw [q1, q2, Int.add_zero, ← v1] at k
        exact impl_sums_L0a_i4 _ _ _ _ _ _ (by omega) (by omega) (by omega) (by rw [hg]; exact hn) (by rw [hg]; exact hsz) ho k

theorem sums_SC (w : List Int) (hg : isWd w = true) : SC cfg.P i_impl_SumsOfWord [.s (.v (.sl (.int .i64)) w)] (.tup [.v (.int .i64) (s1 w), .v (.int .i64) (s2 w), .v .bool true]) [] := by
  obtain ⟨h1, h2, h3⟩ := (isWd_iff w).1 hg
  have hw := isWord_SC w (by omega)
  rw [hg] at hw
  exact impl_SumsOfWord_p1 _ _ _ hw (impl_sums_p1 _ _ _ _ _ _ _ (sums_L w (gd_sm h3) (by omega) _ 0 rfl (by omega)))

/-! ### Letters next to their inverses -/

def fr : List Int → List Int → List Int
  | out, [] => out
  | out, n :: r => match out.getLast? with
    | some x => if x = -n then fr out.dropLast r else fr (out ++ [n]) r
    | none => fr [n] r

theorem fr_snoc (o : List Int) (x n : Int) (r : List Int) : fr (o ++ [x]) (n :: r) = if x = -n then fr o r else fr (o ++ [x] ++ [n]) r := by
  rw [fr, List.getLast?_append]
  simp

/-- No letter stands next to its inverse. -/
def NI (l : List Int) : Prop := ∀ (i : Nat) (h : i + 1 < l.length), l[i + 1] ≠ -l[i]

theorem NI_snoc {o : List Int} {x n : Int} (h : NI (o ++ [x])) (hx : x ≠ -n) : NI (o ++ [x] ++ [n]) := by
  intro i hi
  have hi' : i + 1 < o.length + 1 + 1 := by simpa using hi
  by_cases e : i + 1 < (o ++ [x]).length
  · have a1 : (o ++ [x] ++ [n])[i + 1] = (o ++ [x])[i + 1] := List.getElem_append_left e
    have a2 : (o ++ [x] ++ [n])[i]'(by omega) = (o ++ [x])[i]'(by omega) := List.getElem_append_left (by omega)
    rw [a1, a2]
    exact h i e
  · have e' : ¬ (i + 1 < o.length + 1) := by simpa using e
    have ei : i = o.length := by omega
    subst ei
    simp
    omega

theorem NI_left {o : List Int} {x : Int} (h : NI (o ++ [x])) : NI o := by
  intro i hi
  have := h i (by simp; omega)
  rw [List.getElem_append_left hi, List.getElem_append_left (by omega)] at this
  exact this

theorem fr_NI : ∀ (r out : List Int), NI out → NI (fr out r)
  | [], out, h => h
  | n :: r, out, h => by
    rcases List.eq_nil_or_concat out with e | ⟨o, x, e⟩
    · subst e
      exact fr_NI r [n] fun i hi => by simp at hi
    · rw [List.concat_eq_append] at e
      subst e
      rw [fr_snoc]
      split
      · exact fr_NI r o (NI_left h)
      · exact fr_NI r _ (NI_snoc h (by assumption))

theorem fr_len : ∀ (r out : List Int), (fr out r).length ≤ out.length + r.length
  | [], out => by simp [fr]
  | n :: r, out => by
    rcases List.eq_nil_or_concat out with e | ⟨o, x, e⟩
    · subst e
      have := fr_len r [n]
      show (fr [n] r).length ≤ _
      simp at this ⊢
      omega
    · rw [List.concat_eq_append] at e
      subst e
      rw [fr_snoc]
      split
      · have := fr_len r o; simp; omega
      · have := fr_len r (o ++ [x] ++ [n]); simp at this ⊢; omega

theorem fr_mem : ∀ (r out : List Int) (y : Int), y ∈ fr out r → y ∈ out ∨ y ∈ r
  | [], out, y, h => .inl h
  | n :: r, out, y, h => by
    rcases List.eq_nil_or_concat out with e | ⟨o, x, e⟩
    · subst e
      rcases fr_mem r [n] y h with h | h
      · exact .inr (by simp at h; simp [h])
      · exact .inr (List.mem_cons_of_mem _ h)
    · rw [List.concat_eq_append] at e
      subst e
      rw [fr_snoc] at h
      split at h
      · rcases fr_mem r o y h with h | h
        · exact .inl (by simp [h])
        · exact .inr (List.mem_cons_of_mem _ h)
      · rcases fr_mem r _ y h with h | h
        · rcases List.mem_append.1 h with h | h
          · exact .inl h
          · exact .inr (by simp at h; simp [h])
        · exact .inr (List.mem_cons_of_mem _ h)

theorem ifree_L (w : List Int) (hw : Al Sm w) (hl : w.length ≤ 2 ^ 20) : ∀ (m i : Nat) (out : List Int), w.length - i = m → i ≤ w.length → out.length ≤ i →
    LoopSC cfg.P 1 (lb P_impl_freely 0) (impl_freely_L0a w ((List.length w : Nat) : Int) (i : Int) out) (.exit 0) (impl_freely_L0X1 w ((List.length w : Nat) : Int) (w.length : Int) false (fr out (w.drop i))) := by
  intro m
  induction m with
  | zero =>
    intro i out hm hi ho
    have e : i = w.length := by omega
    subst e
    rw [List.drop_length]
    exact impl_freely_L0a_x4 _ _ _ _ (by omega)
  | succ m ih =>
    intro i out hm hi ho
    have hlt : i < w.length := by omega
    have hg : List.getD w ((i : Int)).toNat (0 : Int) = w[i] := by
      rw [Int.toNat_natCast, List.getD_eq_getElem?_getD, List.getElem?_eq_getElem hlt]; rfl
    obtain ⟨wn, _, _⟩ := neg_w (hw w[i] (List.getElem_mem hlt))
    rw [List.drop_eq_getElem_cons hlt]
    rcases List.eq_nil_or_concat out with e | ⟨o, x, e⟩
    · subst e
      have k := ih (i + 1) [w[i]] (by omega) (by omega) (by simp)
      rw [← wrap_succ (by omega)] at k
      have := impl_freely_L0a_i3 w ((List.length w : Nat) : Int) (i : Int) [] (by omega) (by omega) (by omega) (by simp) (zI _ _ (by simp)) (by rw [hg]; exact k)
      exact this
    · rw [List.concat_eq_append] at e
      subst e
      have hlen : ((List.length (o ++ [x]) : Nat) : Int) = (o.length : Int) + 1 := by simp
      have ho' : o.length + 1 ≤ i := by simpa using ho
      have w1 : IntKind.wrap .i64 (((List.length (o ++ [x]) : Nat) : Int) - (1 : Int)) = (o.length : Int) := by rw [hlen, w64] <;> omega
      have gx := get_mid o x []
      rw [fr_snoc]
      by_cases hx : x = -w[i]
      · rw [if_pos hx]
        have k := ih (i + 1) o (by omega) (by omega) (by omega)
        rw [← wrap_succ (by omega)] at k
        refine impl_freely_L0a_i1 _ _ _ _ (by omega) (by omega) (by omega) (by rw [hlen]; omega) (by rw [w1]; omega) (by rw [w1, hlen]; omega) (by rw [w1, Int.toNat_natCast]; simp) (by rw [w1, gx, hg, wn]; exact hx) (by rw [w1, hlen]; omega) ?_
        rw [w1, Int.toNat_natCast, List.take_append_of_le_length (Nat.le_refl _), List.take_of_length_le (Nat.le_refl _)]
        exact k
      · rw [if_neg hx]
        have k := ih (i + 1) (o ++ [x] ++ [w[i]]) (by omega) (by omega) (by simp; omega)
        rw [← wrap_succ (by omega)] at k
        refine impl_freely_L0a_i2 _ _ _ _ (by omega) (by omega) (by omega) (by rw [hlen]; omega) (by rw [w1]; omega) (by rw [w1, hlen]; omega) (by rw [w1, Int.toNat_natCast]; simp) (by rw [w1, gx, hg, wn]; exact hx) (zI _ _ (by simp; omega)) ?_
        rw [hg]
        exact k

theorem sfree_L (w : List Int) (hw : Al Sm w) (hl : w.length ≤ 2 ^ 20) : ∀ (m i : Nat) (out : List Int), w.length - i = m → i ≤ w.length → out.length ≤ i →
    LoopSC cfg.P 1 (lb P_spec_wdFree 0) (spec_wdFree_L0a w ((List.length w : Nat) : Int) (i : Int) out) (.exit 0) (spec_wdFree_L0X1 w ((List.length w : Nat) : Int) (w.length : Int) false (fr out (w.drop i))) := by
  intro m
  induction m with
  | zero =>
    intro i out hm hi ho
    have e : i = w.length := by omega
    subst e
    rw [List.drop_length]
    exact spec_wdFree_L0a_x4 _ _ _ _ (by omega)
  | succ m ih =>
    intro i out hm hi ho
    have hlt : i < w.length := by omega
    have hg : List.getD w ((i : Int)).toNat (0 : Int) = w[i] := by
      rw [Int.toNat_natCast, List.getD_eq_getElem?_getD, List.getElem?_eq_getElem hlt]; rfl
    obtain ⟨wn, _, _⟩ := neg_w (hw w[i] (List.getElem_mem hlt))
    rw [List.drop_eq_getElem_cons hlt]
    rcases List.eq_nil_or_concat out with e | ⟨o, x, e⟩
    · subst e
      have k := ih (i + 1) [w[i]] (by omega) (by omega) (by simp)
      rw [← wrap_succ (by omega)] at k
      have := spec_wdFree_L0a_i3 w ((List.length w : Nat) : Int) (i : Int) [] (by omega) (by omega) (by omega) (by simp) (zI _ _ (by simp)) (by rw [hg]; exact k)
      exact this
    · rw [List.concat_eq_append] at e
      subst e
      have hlen : ((List.length (o ++ [x]) : Nat) : Int) = (o.length : Int) + 1 := by simp
      have ho' : o.length + 1 ≤ i := by simpa using ho
      have w1 : IntKind.wrap .i64 (((List.length (o ++ [x]) : Nat) : Int) - (1 : Int)) = (o.length : Int) := by rw [hlen, w64] <;> omega
      have gx := get_mid o x []
      rw [fr_snoc]
      by_cases hx : x = -w[i]
      · rw [if_pos hx]
        have k := ih (i + 1) o (by omega) (by omega) (by omega)
        rw [← wrap_succ (by omega)] at k
        refine spec_wdFree_L0a_i1 _ _ _ _ (by omega) (by omega) (by omega) (by rw [hlen]; omega) (by rw [w1]; omega) (by rw [w1, hlen]; omega) (by rw [w1, Int.toNat_natCast]; simp) (by rw [w1, gx, hg, wn]; exact hx) (by rw [w1, hlen]; omega) ?_
        rw [w1, Int.toNat_natCast, List.take_append_of_le_length (Nat.le_refl _), List.take_of_length_le (Nat.le_refl _)]
        exact k
      · rw [if_neg hx]
        have k := ih (i + 1) (o ++ [x] ++ [w[i]]) (by omega) (by omega) (by simp; omega)
        rw [← wrap_succ (by omega)] at k
        refine spec_wdFree_L0a_i2 _ _ _ _ (by omega) (by omega) (by omega) (by rw [hlen]; omega) (by rw [w1]; omega) (by rw [w1, hlen]; omega) (by rw [w1, Int.toNat_natCast]; simp) (by rw [w1, gx, hg, wn]; exact hx) (zI _ _ (by simp; omega)) ?_
        rw [hg]
        exact k

def frV (w : List Int) : List Int := if isWd w = true then fr [] w else []

theorem implFR_SC (w : List Int) (hl : w.length ≤ 2 ^ 20) : SC cfg.P i_impl_FreeReduce [.s (.v (.sl (.int .i64)) w)] (.tup [.v (.sl (.int .i64)) (frV w), .v .bool (isWd w)]) [] := by
  have hw := isWord_SC w (by omega)
  unfold frV
  cases c : isWd w with
  | false => rw [c] at hw; exact (impl_FreeReduce_p2 _ hw).viewT
  | true =>
    rw [c] at hw
    have := ifree_L w (gd_sm ((isWd_iff w).1 c).2.2) hl _ 0 [] rfl (by omega) (by simp)
    exact (impl_FreeReduce_p1 _ _ hw (impl_freely_p1 _ _ _ _ _ _ this)).viewT

theorem specFR_SC (w : List Int) (hl : w.length ≤ 2 ^ 20) : SC cfg.P i_spec_FreeReduce [.s (.v (.sl (.int .i64)) w)] (.tup [.v (.sl (.int .i64)) (frV w), .v .bool (isWd w)]) [] := by
  have hw := wdGood_SC w (by omega)
  unfold frV
  cases c : isWd w with
  | false => rw [c] at hw; exact (spec_FreeReduce_p2 _ hw).viewT
  | true =>
    rw [c] at hw
    have := sfree_L w (gd_sm ((isWd_iff w).1 c).2.2) hl _ 0 [] rfl (by omega) (by simp)
    exact (spec_FreeReduce_p1 _ _ hw (spec_wdFree_p1 _ _ _ _ _ _ this)).viewT

/-! ### Draws -/

theorem sureWord_L (g : Nat) (hg : 1 ≤ g) (hg6 : g ≤ 6) : ∀ (k n : Nat) (c : Cur) (out : List Int), k ≤ 100 → n + 4 * k ≤ 2 ^ 30 → CurOk n c → Al (Lo 6) out → Al Nz out → out.length + k ≤ 2 ^ 20 →
    ∃ (u : List Int) (c' : Cur), u.length = out.length + k ∧ Al (Lo 6) u ∧ Al Nz u ∧ CurOk (n + 4 * k) c' ∧ LoopSC cfg.P 3 (lb P_spec_l1Cur_sureWord 0) (spec_l1Cur_sureWord_L0a (g : Int) (k : Int) c out) (.exit 0) (spec_l1Cur_sureWord_L0X1 (g : Int) (0 : Int) false c' u)
  | 0, n, c, out, _, _, h, h1, h2, _ => ⟨out, c, by omega, h1, h2, h.mono (by omega), spec_l1Cur_sureWord_L0a_x3 _ _ _ _ (by decide)⟩
  | k + 1, n, c, out, hk, hn, h, h1, h2, hl => by
    obtain ⟨r, c1, hr, k1, e1⟩ := pick_SC h (by omega) (g : Int) (by omega)
    obtain ⟨b, c2, k2, e2⟩ := one_SC k1 (by omega) 2 (by omega)
    have w1 : IntKind.wrap .i64 ((1 : Int) + (r : Int)) = 1 + (r : Int) := by rw [w64] <;> omega
    have w2 : IntKind.wrap .i64 (0 - (1 + (r : Int))) = -(1 + (r : Int)) := by rw [w64] <;> omega
    have w3 : IntKind.wrap .i64 (((k + 1 : Nat) : Int) - (1 : Int)) = (k : Int) := by rw [w64] <;> omega
    have a6 : ∀ x : Int, (x = 1 + (r : Int) ∨ x = -(1 + (r : Int))) → Al (Lo 6) (out ++ [x]) ∧ Al Nz (out ++ [x]) := fun x hx =>
      ⟨h1.app (.cons (by unfold Lo; omega) .nil), h2.app (.cons (by show x ≠ 0; omega) .nil)⟩
    cases b with
    | true =>
      obtain ⟨q1, q2⟩ := a6 (-(1 + (r : Int))) (.inr rfl)
      obtain ⟨u, c', l1, l2, l3, l4, l5⟩ := sureWord_L g hg hg6 k (n + 4) c2 (out ++ [-(1 + (r : Int))]) (by omega) (by omega) (k2.mono (by omega)) q1 q2 (by simp; omega)
      refine ⟨u, c', by simp at l1; omega, l2, l3, l4.mono (by omega), ?_⟩
      refine spec_l1Cur_sureWord_L0a_i1 _ _ _ _ _ _ _ (by omega) e1 e2 (zI _ _ (by simp; omega)) ?_
      rw [w1, w2, w3]
      exact l5
    | false =>
      obtain ⟨q1, q2⟩ := a6 (1 + (r : Int)) (.inl rfl)
      obtain ⟨u, c', l1, l2, l3, l4, l5⟩ := sureWord_L g hg hg6 k (n + 4) c2 (out ++ [1 + (r : Int)]) (by omega) (by omega) (k2.mono (by omega)) q1 q2 (by simp; omega)
      refine ⟨u, c', by simp at l1; omega, l2, l3, l4.mono (by omega), ?_⟩
      refine spec_l1Cur_sureWord_L0a_i2 _ _ _ _ _ _ _ (by omega) e1 e2 (zI _ _ (by simp; omega)) ?_
      rw [w1, w3]
      exact l5

theorem sureWord_SC {n : Nat} {c : Cur} (h : CurOk n c) (hn : n ≤ 2 ^ 29) (most g : Nat) (hm : most ≤ 50) (hg : 1 ≤ g) (hg6 : g ≤ 6) : ∃ (u : List Int) (c' : Cur), u.length ≤ most ∧ Al (Lo 6) u ∧ Al Nz u ∧ CurOk (n + 300) c' ∧
    SC cfg.P i_spec_l1Cur_sureWord [.s (.mbx CurK c), .s (.v (.int .i64) (most : Int)), .s (.v (.int .i64) (g : Int))] (.s (.own t_int (.int .i64) u)) [.box CurK c'] := by
  have w1 : IntKind.wrap .i64 ((most : Int) + (1 : Int)) = ((most + 1 : Nat) : Int) := by rw [w64] <;> omega
  obtain ⟨r, c1, hr, k1, e1⟩ := pick_SC h (by omega) ((most + 1 : Nat) : Int) (by omega)
  obtain ⟨u, c', l1, l2, l3, l4, l5⟩ := sureWord_L g hg hg6 r (n + 2) c1 [] (by omega) (by omega) k1 .nil .nil (by simp; omega)
  refine ⟨u, c', by simp at l1; omega, l2, l3, l4.mono (by omega), ?_⟩
  rw [← w1] at e1
  exact spec_l1Cur_sureWord_p1 _ _ _ _ _ _ _ _ _ _ e1 l5

theorem ones_L : ∀ (m n : Nat) (c : Cur) (out : List Int), 21 - out.length ≤ m → n + 2 * m ≤ 2 ^ 30 → m ≤ 50 → CurOk n c → out.length ≤ 2 ^ 20 →
    ∃ (j : Nat) (c' : Cur), j ≤ m ∧ CurOk (n + 2 * m + 2) c' ∧ LoopSC cfg.P 2 (lb P_spec_l1Cur_letters 0) (spec_l1Cur_letters_L0b c out) (.exit 1) (spec_l1Cur_letters_L0X1 false c' (out ++ List.replicate j 1)) := by
  intro m
  induction m with
  | zero =>
    intro n c out hm hn _ h hl
    obtain ⟨r, c1, hr, k1, e1⟩ := pick_SC h (by omega) 2 (by omega)
    have w1 : IntKind.wrap .i64 ((20 : Int) + (r : Int)) = 20 + (r : Int) := by rw [w64] <;> omega
    refine ⟨0, c1, by omega, k1.mono (by omega), ?_⟩
    rw [List.replicate_zero, List.append_nil]
    exact spec_l1Cur_letters_L0b_x2 _ _ _ _ e1 (by rw [w1]; omega)
  | succ m ih =>
    intro n c out hm hn hm2 h hl
    obtain ⟨r, c1, hr, k1, e1⟩ := pick_SC h (by omega) 2 (by omega)
    have w1 : IntKind.wrap .i64 ((20 : Int) + (r : Int)) = 20 + (r : Int) := by rw [w64] <;> omega
    by_cases hlt : ((List.length out : Nat) : Int) < 20 + (r : Int)
    · obtain ⟨j, c', l0, l1, l2⟩ := ih (n + 2) c1 (out ++ [1]) (by simp; omega) (by omega) (by omega) k1 (by simp; omega)
      refine ⟨j + 1, c', by omega, l1.mono (by omega), ?_⟩
      rw [List.append_assoc] at l2
      exact spec_l1Cur_letters_L0b_i1 _ _ _ _ e1 (by rw [w1]; exact hlt) (zI _ _ (by simp; omega)) l2
    · refine ⟨0, c1, by omega, k1.mono (by omega), ?_⟩
      rw [List.replicate_zero, List.append_nil]
      exact spec_l1Cur_letters_L0b_x2 _ _ _ _ e1 (by rw [w1]; exact hlt)

theorem letters_SC {n : Nat} {c : Cur} (h : CurOk n c) (hn : n ≤ 2 ^ 28) (most : Nat) (hm : most ≤ 12) : ∃ (w : List Int) (c' : Cur), Drawn w ∧ w.length ≤ 2 ^ 10 ∧ CurOk (n + 1000) c' ∧
    SC cfg.P i_spec_l1Cur_letters [.s (.mbx CurK c), .s (.v (.int .i64) (most : Int))] (.s (.own t_int (.int .i64) w)) [.box CurK c'] := by
  obtain ⟨g, c1, hg, k1, e1⟩ := among_SC h (by omega) [2, 3, 4, 6] (by decide) (by decide)
  obtain ⟨gn, rfl, g1', g6⟩ : ∃ gn : Nat, g = (gn : Int) ∧ 1 ≤ gn ∧ gn ≤ 6 := by
    simp only [List.mem_cons, List.not_mem_nil, or_false] at hg
    rcases hg with rfl | rfl | rfl | rfl
    · exact ⟨2, rfl, by omega, by omega⟩
    · exact ⟨3, rfl, by omega, by omega⟩
    · exact ⟨4, rfl, by omega, by omega⟩
    · exact ⟨6, rfl, by omega, by omega⟩
  obtain ⟨u, c2, l1, l2, l3, k2, e2⟩ := sureWord_SC k1 (by omega) most gn (by omega) g1' g6
  obtain ⟨r, c3, hr, k3, e3⟩ := pick_SC k2 (by omega) 20 (by omega)
  have dr : ∀ t : List Int, (t = [] ∨ t.length = 1 ∨ (∃ j, t = List.replicate j 1) ∨ t = [20, 5, 20]) → Drawn (u ++ t) := fun t ht => ⟨u, t, rfl, by omega, l2, l3, ht⟩
  by_cases r0 : (r : Int) = 0
  · obtain ⟨x, c4, hx, k4, e4⟩ := among_SC k3 (by omega) [0, 21, -21, 22, -22, 4611686018427387904] (by decide) (by decide)
    exact ⟨u ++ [x], c4, dr _ (.inr (.inl rfl)), by simp; omega, k4.mono (by omega), spec_l1Cur_letters_p1 _ _ _ _ _ _ _ _ _ _ e1 e2 e3 r0 e4 (zI _ _ (by simp; omega))⟩
  · by_cases r1 : (r : Int) = 1
    · obtain ⟨q, c4, hq, k4, e4⟩ := pick_SC k3 (by omega) 2 (by omega)
      have w1 : IntKind.wrap .i64 ((20 : Int) + (q : Int)) = 20 + (q : Int) := by rw [w64] <;> omega
      obtain ⟨j, c5, hj, k5, e5⟩ := ones_L 30 (n + 2 + 300 + 2 + 2) c4 (u ++ [1]) (by simp; omega) (by omega) (by omega) (k4.mono (by omega)) (by simp; omega)
      rw [List.append_assoc] at e5
      have e6 := spec_l1Cur_letters_L0a_i1 (r : Int) true c3 u _ _ e4 (by rw [w1]; omega) (zI _ _ (by simp; omega)) e5
      exact ⟨u ++ List.replicate (j + 1) 1, c5, dr _ (.inr (.inr (.inl ⟨_, rfl⟩))), by simp; omega, k5.mono (by omega), spec_l1Cur_letters_p2 _ _ _ _ _ _ _ _ _ _ _ e1 e2 e3 r0 r1 e6⟩
    · by_cases r2 : (r : Int) = 2
      · exact ⟨u ++ [20, 5, 20], c3, dr _ (.inr (.inr (.inr rfl))), by simp; omega, k3.mono (by omega), spec_l1Cur_letters_p3 _ _ _ _ _ _ _ _ e1 e2 e3 r0 r1 r2 (zI _ _ (by simp; omega))⟩
      · have := dr [] (.inl rfl)
        rw [List.append_nil] at this
        exact ⟨u, c3, this, by omega, k3.mono (by omega), spec_l1Cur_letters_p4 _ _ _ _ _ _ _ _ e1 e2 e3 r0 r1 r2⟩

end Go.AI
