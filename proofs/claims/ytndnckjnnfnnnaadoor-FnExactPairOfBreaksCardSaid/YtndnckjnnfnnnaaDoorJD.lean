/- A part of the road: what it proves stands in its last texts. -/
import Derived.Test.YtndnckjnnfnnnaaDoorBk1
import Derived.Test.YtndnckjnnfnnnaaDoorCU
import Derived.Test.YtndnckjnnfnnnaaDoorShI
section
/- Contracts: where an interval is carried straight. -/
set_option autoImplicit false
set_option maxRecDepth 100000
set_option linter.unusedVariables false
namespace Go.AI
open Go.Proofs

def bit (b : Nat) : UInt8 := if b % 2 = 1 then 49 else 48

theorem itoa_bit (b : Nat) (hb : b < 2) : SC cfg.P i_strconv_Itoa [.s (.v (.int .i64) (b : Int))] (.s (.v .str (bs [bit b]))) [] := by
  refine ⟨⟨_, get_strconv_Itoa, by kernel_rfl, by decide⟩, fun w B vs mv hB hd hA => ?_⟩
  obtain ⟨u, us, rfl, hu, rfl, rfl⟩ := hA
  have e1 : u = .int .i64 (b : Int) := RepV.int hu
  subst e1
  refine (Tryd.itoa_small b (by omega) w).mono fun e w' ⟨he, hw⟩ => ?_
  subst hw
  have ed : (⟨(Lib.decDigits b).toArray⟩ : ByteArray) = bs [bit b] := by
    have : b = 0 ∨ b = 1 := by omega
    have d0 : Lib.decDigits 0 = [48] := by decide +kernel
    have d1 : Lib.decDigits 1 = [49] := by decide +kernel
    rcases this with rfl | rfl
    · rw [d0]; rfl
    · rw [d1]; rfl
  rw [ed] at he
  exact ⟨_, [], he, Fr.refl' w', List.nodup_nil, by simp, ⟨RepV.mk_str _, rfl⟩, rfl⟩

/-- So many digits, the first ones of a place. -/
def dig (at_ : Nat) : Nat → Nat → List UInt8
  | 0, _ => []
  | n + 1, k => bit (at_ / 2 ^ k) :: dig at_ n (k - 1)

theorem tdivN (a b : Nat) : Int.tdiv (a : Int) (b : Int) = ((a / b : Nat) : Int) := (Int.ofNat_tdiv a b).symm
theorem tmodN (a b : Nat) : Int.tmod (a : Int) (b : Int) = ((a % b : Nat) : Int) := (Int.ofNat_tmod a b).symm

theorem half_pow (k : Nat) : 2 ^ (k + 1) / 2 = 2 ^ k := by rw [Nat.pow_succ]; exact Nat.mul_div_cancel _ (by omega)

/-- The digits down to the length 2 ^ e, from the part 2 ^ (e + n - 1) on. -/
theorem digits_L (at_ e : Nat) (hat : at_ ≤ 2 ^ 41) : ∀ (n : Nat) (out : List UInt8), e + n ≤ 40 → 1 ≤ e + n → out.length + n ≤ 2 ^ 20 →
    ∃ part : Int, LoopSC cfg.P 3 (lb P_impl_straight 1) (impl_straight_L1a (at_ : Int) ((2 ^ e : Nat) : Int) (bs out) ((2 ^ (e + n) / 2 : Nat) : Int)) (.exit 2) (impl_straight_L1X1 (at_ : Int) ((2 ^ e : Nat) : Int) (bs (out ++ dig at_ n (e + n - 1))) part false)
  | 0, out, _, h1, _ => by
    have hp : 2 ^ (e + 0) / 2 < 2 ^ e := Nat.div_lt_self (Nat.pow_pos (by omega)) (by omega)
    rw [dig, List.append_nil]
    exact ⟨_, impl_straight_L1a_x2 _ _ _ _ (by omega)⟩
  | n + 1, out, h, h1, ho => by
    have hp : 2 ^ (e + (n + 1)) / 2 = 2 ^ (e + n) := half_pow (e + n)
    have hq : 2 ^ e ≤ 2 ^ (e + n) := Nat.pow_le_pow_right (by omega) (by omega)
    have h0 : 0 < 2 ^ e := Nat.pow_pos (by omega)
    have h40 : 2 ^ (e + n) ≤ 2 ^ 40 := Nat.pow_le_pow_right (by omega) (by omega)
    rw [hp]
    have hd : at_ / 2 ^ (e + n) ≤ at_ := Nat.div_le_self _ _
    have w1 : IntKind.wrap .i64 (Int.tdiv (at_ : Int) ((2 ^ (e + n) : Nat) : Int)) = ((at_ / 2 ^ (e + n) : Nat) : Int) := by
      rw [tdivN]
      generalize at_ / 2 ^ (e + n) = q at *
      rw [w64] <;> omega
    have w2 : Int.tmod ((at_ / 2 ^ (e + n) : Nat) : Int) (2 : Int) = ((at_ / 2 ^ (e + n) % 2 : Nat) : Int) := tmodN _ 2
    have w3 : IntKind.wrap .i64 (Int.tdiv ((2 ^ (e + n) : Nat) : Int) (2 : Int)) = ((2 ^ (e + n) / 2 : Nat) : Int) := by
      rw [show (2 : Int) = ((2 : Nat) : Int) from rfl, tdivN]
      have hle : 2 ^ (e + n) / 2 ≤ 2 ^ (e + n) := Nat.div_le_self _ _
      generalize 2 ^ (e + n) / 2 = q at *
      generalize 2 ^ (e + n) = p at *
      rw [w64] <;> omega
    have hI := itoa_bit (at_ / 2 ^ (e + n) % 2) (Nat.mod_lt _ (by omega))
    have eb : bit (at_ / 2 ^ (e + n) % 2) = bit (at_ / 2 ^ (e + n)) := by unfold bit; rw [Nat.mod_mod]
    rw [eb] at hI
    have go : ∀ (st : St), LoopSC cfg.P 3 (lb P_impl_straight 1) (impl_straight_L1a (at_ : Int) ((2 ^ e : Nat) : Int) (bs (out ++ [bit (at_ / 2 ^ (e + n))])) ((2 ^ (e + n) / 2 : Nat) : Int)) (.exit 2) st →
        LoopSC cfg.P 3 (lb P_impl_straight 1) (impl_straight_L1a (at_ : Int) ((2 ^ e : Nat) : Int) (bs out) ((2 ^ (e + n) : Nat) : Int)) (.exit 2) st := fun st hk => by
      have e2 : bs out ++ bs [bit (at_ / 2 ^ (e + n))] = bs (out ++ [bit (at_ / 2 ^ (e + n))]) := by rw [bs_append]
      rw [← e2, ← w3] at hk
      refine impl_straight_L1a_i1 _ _ _ _ _ ?_ ?_ (by decide) ?_ ?_ hk
      · show ((2 ^ e : Nat) : Int) ≤ ((2 ^ (e + n) : Nat) : Int); exact Int.ofNat_le.2 hq
      · have : 0 < 2 ^ (e + n) := Nat.pow_pos (by omega)
        generalize 2 ^ (e + n) = p at *
        omega
      · rw [w1, w2]; exact hI
      · rw [bs_size, bs_size, List.length_singleton]; omega
    have ed : out ++ dig at_ (n + 1) (e + (n + 1) - 1) = out ++ [bit (at_ / 2 ^ (e + n))] ++ dig at_ n (e + n - 1) := by
      rw [show e + (n + 1) - 1 = e + n by omega, dig]; simp
    rw [ed]
    by_cases hz : e + n = 0
    · have hn : n = 0 := by omega
      have he : e = 0 := by omega
      subst hn; subst he
      have := impl_straight_L1a_x2 (at_ : Int) ((2 ^ 0 : Nat) : Int) (bs (out ++ [bit (at_ / 2 ^ (0 + 0))])) ((2 ^ (0 + 0) / 2 : Nat) : Int) (by decide)
      rw [dig, List.append_nil]
      exact ⟨_, go _ this⟩
    · obtain ⟨part, hk⟩ := digits_L at_ e hat n (out ++ [bit (at_ / 2 ^ (e + n))]) (by omega) (by omega) (by simp; omega)
      exact ⟨part, go _ hk⟩

abbrev spN (S : List (Nat × Nat)) : List (Int × Int) := S.map fun p => ((p.1 : Int), (p.2 : Int))

theorem sp_getD (S : List (Nat × Nat)) (k : Nat) (h : k < S.length) : List.getD (spN S) ((k : Int)).toNat ((0 : Int), (0 : Int)) = ((S[k].1 : Int), (S[k].2 : Int)) := by
  rw [Int.toNat_natCast, List.getD_eq_getElem?_getD, List.getElem?_map, List.getElem?_eq_getElem h]; rfl

theorem find_L (S : List (Nat × Nat)) (hS : S.length ≤ 2 ^ 20) (s e : Int) (k : Nat) (hk : k < S.length) (h1 : ∀ j (h : j < S.length), j < k → (S[j].1 : Int) ≤ s) (h2 : ¬ ((S[k].1 : Int) ≤ s)) : ∀ (m i : Nat), k - i = m → i ≤ k →
    LoopSC cfg.P 3 (lb P_impl_straight 0) (impl_straight_L0a (spN S) s e (i : Int)) (.exit 0) (impl_straight_L0X1 (spN S) s e (k : Int) false) := by
  have hl : List.length (spN S) = S.length := List.length_map ..
  intro m
  induction m with
  | zero =>
    intro i hm hi
    have : i = k := by omega
    subst this
    exact impl_straight_L0a_x2 _ _ _ _ (by omega) (by omega) (by rw [sp_getD S i hk]; exact h2)
  | succ m ih =>
    intro i hm hi
    have hlt : i < k := by omega
    have n := ih (i + 1) (by omega) (by omega)
    rw [← wrap_succ (by omega)] at n
    exact impl_straight_L0a_i1 _ _ _ _ (by omega) (by omega) (by rw [sp_getD S i (by omega)]; exact h1 i (by omega) hlt) n

/-- A length under a slope: over and under without a common divisor. -/
def scl (n dy dx : Nat) : Nat := n / (dx / Nat.gcd dy dx) * (dy / Nat.gcd dy dx)

theorem scl_le (n dy dx : Nat) (hy : 0 < dy) (hx : 0 < dx) (hn : n ≤ dx) : scl n dy dx ≤ dy := by
  unfold scl
  have hg := Nat.gcd_pos_of_pos_left dx hy
  have e1 := Nat.div_mul_cancel (Nat.gcd_dvd_right dy dx)
  have e2 := Nat.div_mul_cancel (Nat.gcd_dvd_left dy dx)
  have hD : 0 < dx / Nat.gcd dy dx := Nat.div_pos (Nat.le_of_dvd hx (Nat.gcd_dvd_right _ _)) hg
  have h1 : n / (dx / Nat.gcd dy dx) ≤ Nat.gcd dy dx := by
    have : n / (dx / Nat.gcd dy dx) ≤ dx / (dx / Nat.gcd dy dx) := Nat.div_le_div_right hn
    have e3 : dx / (dx / Nat.gcd dy dx) = Nat.gcd dy dx := by
      conv => lhs; lhs; rw [← e1]
      exact Nat.mul_div_cancel_left _ hD
    omega
  calc n / (dx / Nat.gcd dy dx) * (dy / Nat.gcd dy dx) ≤ Nat.gcd dy dx * (dy / Nat.gcd dy dx) := Nat.mul_le_mul_right _ h1
    _ = dy := by rw [Nat.mul_comm]; exact e2

/-- The part in which a place lies. -/
structure InPart (S : List (Nat × Nat)) (s k : Nat) : Prop where
  lt : k + 1 < S.length
  le : ∀ j (h : j < S.length), j ≤ k → S[j].1 ≤ s
  gt : s < (S[k + 1]'lt).1

theorem straight_SC (S : List (Nat × Nat)) (hS : S.length ≤ 2 ^ 10) (s e k : Nat) (h : InPart S s k) (hse : s < e) (x0 y0 x1 y1 : Nat) (e0 : S[k]'(by have := h.lt; omega) = (x0, y0)) (e1 : S[k + 1]'h.lt = (x1, y1))
    (hx : x0 < x1) (hy : y0 < y1) (hx2 : x1 ≤ 2 ^ 40) (hy2 : y1 ≤ 2 ^ 40) :
    (x1 < e → SC cfg.P i_impl_straight [.s (.v (.sl (.pr (.int .i64) (.int .i64))) (spN S)), .s (.v (.int .i64) (s : Int)), .s (.v (.int .i64) (e : Int))] (.tup [.v .str E1, .v .bool false]) []) ∧
    (e ≤ x1 → 0 < scl (e - s) (y1 - y0) (x1 - x0) → ¬ ((y0 + scl (s - x0) (y1 - y0) (x1 - x0)) % scl (e - s) (y1 - y0) (x1 - x0) = 0 ∧ 2 ^ 40 % scl (e - s) (y1 - y0) (x1 - x0) = 0) → SC cfg.P i_impl_straight [.s (.v (.sl (.pr (.int .i64) (.int .i64))) (spN S)), .s (.v (.int .i64) (s : Int)), .s (.v (.int .i64) (e : Int))] (.tup [.v .str E1, .v .bool false]) []) ∧
    (∀ n, n ≤ 40 → e ≤ x1 → scl (e - s) (y1 - y0) (x1 - x0) = 2 ^ (40 - n) → (y0 + scl (s - x0) (y1 - y0) (x1 - x0)) % 2 ^ (40 - n) = 0 → SC cfg.P i_impl_straight [.s (.v (.sl (.pr (.int .i64) (.int .i64))) (spN S)), .s (.v (.int .i64) (s : Int)), .s (.v (.int .i64) (e : Int))] (.tup [.v .str (bs (dig (y0 + scl (s - x0) (y1 - y0) (x1 - x0)) n 39)), .v .bool true]) []) := by
  have hl : List.length (spN S) = S.length := List.length_map ..
  have hlt := h.lt
  have hgt := h.gt
  rw [e1] at hgt
  have hx0s : x0 ≤ s := by have := h.le k (by omega) (Nat.le_refl _); rw [e0] at this; exact this
  have f := find_L S (by omega) (s : Int) (e : Int) (k + 1) hlt (fun j hj hjk => by have := h.le j hj (by omega); omega) (by rw [e1]; show ¬ ((x1 : Int) ≤ (s : Int)); have : s < x1 := hgt; omega) _ 1 rfl (by omega)
  have g1 := sp_getD S (k + 1) hlt
  rw [e1] at g1
  have g0 := sp_getD S k (by omega)
  rw [e0] at g0
  have w1 : IntKind.wrap .i64 (((k + 1 : Nat) : Int) - (1 : Int)) = (k : Int) := by rw [w64] <;> omega
  have hs1 : s < x1 := hgt
  refine ⟨fun hxe => ?_, fun hex hpos hno => ?_, fun n hn hex hlong hmod => ?_⟩
  · exact impl_straight_p1 _ _ _ _ _ _ _ _ f (by omega) (by omega) (by rw [g1]; show (x1 : Int) < (e : Int); omega)
  all_goals
    have a1 := scaled_SC (s - x0) (y1 - y0) (x1 - x0) (by omega) (by omega) (by omega) (by omega) (by omega) (by have := scl_le (s - x0) (y1 - y0) (x1 - x0) (by omega) (by omega) (by omega); unfold scl at this; omega)
    have a2 := scaled_SC (e - s) (y1 - y0) (x1 - x0) (by omega) (by omega) (by omega) (by omega) (by omega) (by have := scl_le (e - s) (y1 - y0) (x1 - x0) (by omega) (by omega) (by omega); unfold scl at this; omega)
    have b1 := scl_le (s - x0) (y1 - y0) (x1 - x0) (by omega) (by omega) (by omega)
    have b2 := scl_le (e - s) (y1 - y0) (x1 - x0) (by omega) (by omega) (by omega)
    rw [show (s - x0) / ((x1 - x0) / Nat.gcd (y1 - y0) (x1 - x0)) * ((y1 - y0) / Nat.gcd (y1 - y0) (x1 - x0)) = scl (s - x0) (y1 - y0) (x1 - x0) from rfl] at a1
    rw [show (e - s) / ((x1 - x0) / Nat.gcd (y1 - y0) (x1 - x0)) * ((y1 - y0) / Nat.gcd (y1 - y0) (x1 - x0)) = scl (e - s) (y1 - y0) (x1 - x0) from rfl] at a2
    generalize scl (s - x0) (y1 - y0) (x1 - x0) = A at *
    generalize scl (e - s) (y1 - y0) (x1 - x0) = L at *
    have u1 : IntKind.wrap .i64 ((s : Int) - (x0 : Int)) = ((s - x0 : Nat) : Int) := by rw [w64] <;> omega
    have u2 : IntKind.wrap .i64 ((y1 : Int) - (y0 : Int)) = ((y1 - y0 : Nat) : Int) := by rw [w64] <;> omega
    have u3 : IntKind.wrap .i64 ((x1 : Int) - (x0 : Int)) = ((x1 - x0 : Nat) : Int) := by rw [w64] <;> omega
    have u4 : IntKind.wrap .i64 ((e : Int) - (s : Int)) = ((e - s : Nat) : Int) := by rw [w64] <;> omega
    have u5 : IntKind.wrap .i64 ((y0 : Int) + (A : Int)) = ((y0 + A : Nat) : Int) := by rw [w64] <;> omega
    rw [← u1, ← u2, ← u3] at a1
    rw [← u4, ← u2, ← u3] at a2
  · by_cases hm : (y0 + A) % L = 0
    · have hm2 : 2 ^ 40 % L ≠ 0 := fun c => hno ⟨hm, c⟩
      refine impl_straight_p3 _ _ _ _ _ _ _ _ (A : Int) (L : Int) f (by omega) (by omega) (by rw [g1]; show ¬ ((x1 : Int) < (e : Int)); omega) (by rw [w1]; omega) (by rw [w1, hl]; omega) (by rw [w1, g0, g1]; exact a1) (by rw [w1, g0, g1]; exact a2) (by omega) ?_ ?_
      · rw [w1, g0]; show Int.tmod (IntKind.wrap .i64 ((y0 : Int) + (A : Int))) (L : Int) = 0; rw [u5, tmodN, hm]; rfl
      · rw [show (1099511627776 : Int) = ((2 ^ 40 : Nat) : Int) from rfl, tmodN]; omega
    · refine impl_straight_p2 _ _ _ _ _ _ _ _ (A : Int) (L : Int) f (by omega) (by omega) (by rw [g1]; show ¬ ((x1 : Int) < (e : Int)); omega) (by rw [w1]; omega) (by rw [w1, hl]; omega) (by rw [w1, g0, g1]; exact a1) (by rw [w1, g0, g1]; exact a2) (by omega) ?_
      rw [w1, g0]; show Int.tmod (IntKind.wrap .i64 ((y0 : Int) + (A : Int))) (L : Int) ≠ 0; rw [u5, tmodN]; omega
  · subst hlong
    have h0 : 0 < 2 ^ (40 - n) := Nat.pow_pos (by omega)
    have hdv : 2 ^ 40 % 2 ^ (40 - n) = 0 := Nat.mod_eq_zero_of_dvd (Nat.pow_dvd_pow 2 (by omega))
    obtain ⟨part, hd⟩ := digits_L (y0 + A) (40 - n) (by omega) n [] (by omega) (by omega) (by simp; omega)
    rw [show 40 - n + n = 40 by omega, List.nil_append, show 40 - 1 = 39 from rfl] at hd
    refine impl_straight_p4 _ _ _ _ _ _ _ _ (A : Int) ((2 ^ (40 - n) : Nat) : Int) ((y0 + A : Nat) : Int) ((2 ^ (40 - n) : Nat) : Int) (bs (dig (y0 + A) n 39)) part false f (by omega) (by omega) (by rw [g1]; show ¬ ((x1 : Int) < (e : Int)); omega) (by rw [w1]; omega) (by rw [w1, hl]; omega) (by rw [w1, g0, g1]; exact a1) (by rw [w1, g0, g1]; exact a2) (by omega) ?_ ?_ ?_
    · rw [w1, g0]; show Int.tmod (IntKind.wrap .i64 ((y0 : Int) + (A : Int))) _ = 0; rw [u5, tmodN, hmod]; rfl
    · rw [show (1099511627776 : Int) = ((2 ^ 40 : Nat) : Int) from rfl, tmodN, hdv]; rfl
    · rw [w1, g0]
      show LoopSC cfg.P 3 (lb P_impl_straight 1) (impl_straight_L1a (IntKind.wrap .i64 ((y0 : Int) + (A : Int))) ((2 ^ (40 - n) : Nat) : Int) (bs []) (549755813888 : Int)) (.exit 2) _
      rw [u5]
      exact hd

end Go.AI
end

section
/- Contracts: the spots at which the slope changes. -/
set_option autoImplicit false
set_option maxRecDepth 100000
set_option linter.unusedVariables false
namespace Go.AI
open Go.Proofs

/-- A slope, without a common divisor. -/
def slp (p q : Nat × Nat) : Nat × Nat := ((q.1 - p.1) / Nat.gcd (q.1 - p.1) (q.2 - p.2), (q.2 - p.2) / Nat.gcd (q.1 - p.1) (q.2 - p.2))

/-- What is kept of the spots behind one. -/
def bnt : Nat × Nat → List (Nat × Nat) → List (Nat × Nat)
  | _, [] => []
  | _, [x] => [x]
  | l, x :: y :: r => if slp l x = slp x y then bnt l (y :: r) else x :: bnt x (y :: r)

def Up (a b : Nat × Nat) : Prop := a.1 < b.1 ∧ a.2 < b.2

theorem Up.trans {a b c : Nat × Nat} (h1 : Up a b) (h2 : Up b c) : Up a c := ⟨Nat.lt_trans h1.1 h2.1, Nat.lt_trans h1.2 h2.2⟩

theorem low_SC (p q : Nat × Nat) (h : Up p q) (h1 : q.1 ≤ 2 ^ 40) (h2 : q.2 ≤ 2 ^ 40) : SC cfg.P i_impl_lowest [.s (.v (.int .i64) (IntKind.wrap .i64 ((q.1 : Int) - (p.1 : Int)))), .s (.v (.int .i64) (IntKind.wrap .i64 ((q.2 : Int) - (p.2 : Int))))] (.tup [.v (.int .i64) ((slp p q).1 : Int), .v (.int .i64) ((slp p q).2 : Int)]) [] := by
  obtain ⟨a, b⟩ := h
  have := lowest_SC (q.1 - p.1) (q.2 - p.2) (by omega) (by omega) (by omega) (by omega)
  have u1 : IntKind.wrap .i64 ((q.1 : Int) - (p.1 : Int)) = ((q.1 - p.1 : Nat) : Int) := by rw [w64] <;> omega
  have u2 : IntKind.wrap .i64 ((q.2 : Int) - (p.2 : Int)) = ((q.2 - p.2 : Nat) : Int) := by rw [w64] <;> omega
  rw [u1, u2]
  exact this

theorem zS (l m : List (Int × Int)) (h : l.length + m.length ≤ 2 ^ 40) : sizeOK (List.length l + List.length m) := h

theorem spN_last (pre : List (Nat × Nat)) (l : Nat × Nat) : List.getD (spN (pre ++ [l])) ((pre.length : Int)).toNat ((0 : Int), (0 : Int)) = ((l.1 : Int), (l.2 : Int)) := by
  rw [sp_getD _ _ (by simp)]
  simp

theorem bent_L (S : List (Nat × Nat)) (hS : S.length ≤ 2 ^ 10) : ∀ (rest done pre : List (Nat × Nat)) (l : Nat × Nat), S = done ++ rest → pre.length ≤ done.length → (∀ x ∈ rest, Up l x ∧ x.1 ≤ 2 ^ 40 ∧ x.2 ≤ 2 ^ 40) → rest.Pairwise Up →
    LoopSC cfg.P 1 (lb P_impl_bent 0) (impl_bent_L0a (spN S) (done.length : Int) (spN (pre ++ [l]))) (.exit 0) (impl_bent_L0X1 (spN S) (S.length : Int) false (spN (pre ++ [l] ++ bnt l rest))) := by
  have hl : List.length (spN S) = S.length := List.length_map ..
  intro rest
  induction rest with
  | nil =>
    intro done pre l e hp hu hw
    have : done.length = S.length := by rw [e]; simp
    rw [bnt, List.append_nil, this]
    exact impl_bent_L0a_x5 _ _ _ (by omega)
  | cons x rest ih =>
    intro done pre l e hp hu hw
    have hlen : S.length = done.length + 1 + rest.length := by rw [e]; simp; omega
    have hx := hu x List.mem_cons_self
    have gx : List.getD (spN S) ((done.length : Int)).toNat ((0 : Int), (0 : Int)) = ((x.1 : Int), (x.2 : Int)) := by
      rw [sp_getD S done.length (by omega)]; simp [e]
    have e1 : IntKind.wrap .i64 ((done.length : Int) + (1 : Int)) = ((done.length + 1 : Nat) : Int) := by rw [w64] <;> omega
    have hd : ((done ++ [x]).length : Int) = ((done.length + 1 : Nat) : Int) := by simp
    have w2 : IntKind.wrap .i64 (((List.length (spN (pre ++ [l])) : Nat) : Int) - (1 : Int)) = (pre.length : Int) := by
      rw [List.length_map, List.length_append, List.length_singleton, w64] <;> omega
    have gl := spN_last pre l
    have esx : spN (pre ++ [l] ++ [x]) = spN (pre ++ [l]) ++ ([((x.1 : Int), (x.2 : Int))] : List (Int × Int)) := by simp
    have zz : sizeOK (List.length (spN (pre ++ [l])) + List.length ([((x.1 : Int), (x.2 : Int))] : List (Int × Int))) := zS _ _ (by simp; omega)
    rw [List.pairwise_cons] at hw
    cases rest with
    | nil =>
      have n := ih (done ++ [x]) (pre ++ [l]) x (by rw [e]; simp) (by simp; omega) (fun y hy => by cases hy) List.Pairwise.nil
      rw [hd, ← e1, esx] at n
      have eb : pre ++ [l] ++ bnt l [x] = pre ++ [l] ++ [x] ++ bnt x [] := by simp [bnt]
      rw [eb]
      have := impl_bent_L0a_i4 (spN S) (done.length : Int) (spN (pre ++ [l])) (by omega) (by rw [e1, hl, hlen]; simp) (by omega) (by omega) (by rw [gx]; exact zz) (by rw [gx]; exact n)
      exact this
    | cons y rest =>
      have hy := hu y (by simp)
      have hxy := hw.1 y List.mem_cons_self
      have gy : List.getD (spN S) (((done.length + 1 : Nat) : Int)).toNat ((0 : Int), (0 : Int)) = ((y.1 : Int), (y.2 : Int)) := by
        rw [sp_getD S (done.length + 1) (by simp at hlen; omega)]; simp [e]
      have l1 := low_SC l x hx.1 hx.2.1 hx.2.2
      have l2 := low_SC x y hxy hy.2.1 hy.2.2
      simp only [List.length_cons] at hlen
      have c1 : (done.length : Int) < ((List.length (spN S) : Nat) : Int) := by omega
      have c2 : IntKind.wrap .i64 ((done.length : Int) + (1 : Int)) < ((List.length (spN S) : Nat) : Int) := by rw [e1]; omega
      have c5 : 0 ≤ IntKind.wrap .i64 (((List.length (spN (pre ++ [l])) : Nat) : Int) - (1 : Int)) := by rw [w2]; omega
      have c6 : IntKind.wrap .i64 (((List.length (spN (pre ++ [l])) : Nat) : Int) - (1 : Int)) < (List.length (spN (pre ++ [l])) : Int) := by rw [w2, List.length_map, List.length_append, List.length_singleton]; omega
      have c7 : (IntKind.wrap .i64 (((List.length (spN (pre ++ [l])) : Nat) : Int) - (1 : Int))).toNat < List.length (spN (pre ++ [l])) := by rw [w2, Int.toNat_natCast]; simp
      rw [bnt]
      by_cases hs : slp l x = slp x y
      · rw [if_pos hs]
        have n := ih (done ++ [x]) pre l (by rw [e]; simp) (by simp; omega) (fun z hz => hu z (List.mem_cons_of_mem _ hz)) hw.2
        rw [hd, ← e1] at n
        exact impl_bent_L0a_i1 _ _ _ _ _ _ _ c1 c2 (by omega) (by omega) c5 c6 c7 (by rw [w2, gx, gl]; exact l1) (by rw [e1]; omega) (by rw [e1]; omega) (by rw [e1, gy, gx]; exact l2) (by rw [hs]) (by rw [hs]) n
      · rw [if_neg hs]
        have n := ih (done ++ [x]) (pre ++ [l]) x (by rw [e]; simp) (by simp; omega) (fun z hz => ⟨hw.1 z hz, (hu z (List.mem_cons_of_mem _ hz)).2⟩) hw.2
        rw [hd, ← e1, esx] at n
        have eb : pre ++ [l] ++ (x :: bnt x (y :: rest)) = pre ++ [l] ++ [x] ++ bnt x (y :: rest) := by simp
        rw [eb]
        by_cases h1 : (slp l x).1 = (slp x y).1
        · have h2 : (slp l x).2 ≠ (slp x y).2 := fun h => hs (Prod.ext h1 h)
          exact impl_bent_L0a_i2 _ _ _ _ _ _ _ c1 c2 (by omega) (by omega) c5 c6 c7 (by rw [w2, gx, gl]; exact l1) (by rw [e1]; omega) (by rw [e1]; omega) (by rw [e1, gy, gx]; exact l2) (by rw [h1]) (by omega) (by rw [gx]; exact zz) (by rw [gx]; exact n)
        · exact impl_bent_L0a_i3 _ _ _ _ _ _ _ c1 c2 (by omega) (by omega) c5 c6 c7 (by rw [w2, gx, gl]; exact l1) (by rw [e1]; omega) (by rw [e1]; omega) (by rw [e1, gy, gx]; exact l2) (by omega) (by rw [gx]; exact zz) (by rw [gx]; exact n)

theorem bent_SC (p : Nat × Nat) (rest : List (Nat × Nat)) (hS : rest.length ≤ 2 ^ 9) (hu : ∀ x ∈ rest, Up p x ∧ x.1 ≤ 2 ^ 40 ∧ x.2 ≤ 2 ^ 40) (hw : rest.Pairwise Up) : SC cfg.P i_impl_bent [.s (.v (.sl (.pr (.int .i64) (.int .i64))) (spN (p :: rest)))] (.s (.own t_impl_spot (.pr (.int .i64) (.int .i64)) (spN (p :: bnt p rest)))) [] := by
  have := bent_L (p :: rest) (by simp only [List.length_cons]; omega) rest [p] [] p rfl (by simp) hu hw
  have g0 := sp_getD (p :: rest) 0 (by simp)
  exact impl_bent_p1 _ _ _ _ _ (by simp) this

end Go.AI
end

section
/- Contracts: the reference's slope of two lengths. -/
set_option autoImplicit false
set_option maxRecDepth 100000
set_option linter.unusedVariables false
namespace Go.AI
open Go.Proofs

theorem slope0_L (den : Nat) (hd : den ≤ 2 ^ 50) : ∀ (f num : Nat) (k : Int), 0 < num → den ≤ num * 2 ^ f → -2 ^ 20 + f ≤ k → k ≤ 2 ^ 20 →
    ∃ a : Nat, den ≤ num * 2 ^ a ∧ (∀ b, b < a → num * 2 ^ b < den) ∧ a ≤ f ∧ LoopSC cfg.P 2 (lb P_spec_mpSlope 0) (spec_mpSlope_L0a (num : Int) (den : Int) k) (.exit 0) (spec_mpSlope_L0X1 ((num * 2 ^ a : Nat) : Int) (den : Int) (k - a) false)
  | 0, num, k, hn, h, _, _ => by
    refine ⟨0, h, fun b hb => absurd hb (by omega), Nat.le_refl _, ?_⟩
    have := spec_mpSlope_L0a_x2 (num : Int) (den : Int) k (by simp at h; omega)
    simpa using this
  | f + 1, num, k, hn, h, hk, hk2 => by
    by_cases hlt : num < den
    · obtain ⟨a, h1, h2, h3, h4⟩ := slope0_L den hd f (num * 2) (k - 1) (by omega) (by rw [Nat.mul_assoc, ← Nat.pow_succ']; exact h) (by omega) (by omega)
      refine ⟨a + 1, by rw [Nat.pow_succ', ← Nat.mul_assoc]; exact h1, fun b hb => ?_, by omega, ?_⟩
      · cases b with
        | zero => simpa using hlt
        | succ b => rw [Nat.pow_succ', ← Nat.mul_assoc]; exact h2 b (by omega)
      · have w1 : IntKind.wrap .i64 ((num : Int) * (2 : Int)) = ((num * 2 : Nat) : Int) := by rw [w64] <;> omega
        have w2 : IntKind.wrap .i64 (k - (1 : Int)) = k - 1 := by rw [w64] <;> omega
        rw [← w1, ← w2] at h4
        have e1 : num * 2 * 2 ^ a = num * 2 ^ (a + 1) := by rw [Nat.pow_succ', Nat.mul_assoc]
        have e2 : IntKind.wrap .i64 (k - (1 : Int)) - (a : Int) = k - ((a + 1 : Nat) : Int) := by rw [w2]; omega
        rw [e1, e2] at h4
        exact spec_mpSlope_L0a_i1 _ _ _ (by omega) h4
    · refine ⟨0, by omega, fun b hb => absurd hb (by omega), by omega, ?_⟩
      have := spec_mpSlope_L0a_x2 (num : Int) (den : Int) k (by omega)
      simpa using this

theorem slope1b_L (num : Nat) (hd : num ≤ 2 ^ 50) : ∀ (f den : Nat) (k : Int), 0 < den → num ≤ den * 2 ^ f → -2 ^ 20 ≤ k → k + f ≤ 2 ^ 20 →
    ∃ a : Nat, num ≤ den * 2 ^ a ∧ (∀ b, b < a → den * 2 ^ b < num) ∧ LoopSC cfg.P 2 (lb P_spec_mpSlope 1) (spec_mpSlope_L1b (num : Int) (den : Int) k) (.exit 2) (spec_mpSlope_L1X1 (num : Int) ((den * 2 ^ a : Nat) : Int) (k + a) false)
  | 0, den, k, hn, h, _, _ => by
    refine ⟨0, h, fun b hb => absurd hb (by omega), ?_⟩
    have := spec_mpSlope_L1b_x2 (num : Int) (den : Int) k (by simp at h; omega)
    simpa using this
  | f + 1, den, k, hn, h, hk, hk2 => by
    by_cases hlt : den < num
    · obtain ⟨a, h1, h2, h4⟩ := slope1b_L num hd f (den * 2) (k + 1) (by omega) (by rw [Nat.mul_assoc, ← Nat.pow_succ']; exact h) (by omega) (by omega)
      refine ⟨a + 1, by rw [Nat.pow_succ', ← Nat.mul_assoc]; exact h1, fun b hb => ?_, ?_⟩
      · cases b with
        | zero => simpa using hlt
        | succ b => rw [Nat.pow_succ', ← Nat.mul_assoc]; exact h2 b (by omega)
      · have w1 : IntKind.wrap .i64 ((den : Int) * (2 : Int)) = ((den * 2 : Nat) : Int) := by rw [w64] <;> omega
        have w2 : IntKind.wrap .i64 (k + (1 : Int)) = k + 1 := by rw [w64] <;> omega
        rw [← w1, ← w2] at h4
        have e1 : den * 2 * 2 ^ a = den * 2 ^ (a + 1) := by rw [Nat.pow_succ', Nat.mul_assoc]
        have e2 : IntKind.wrap .i64 (k + (1 : Int)) + (a : Int) = k + ((a + 1 : Nat) : Int) := by rw [w2]; omega
        rw [e1, e2] at h4
        exact spec_mpSlope_L1b_i1 _ _ _ (by omega) h4
    · refine ⟨0, by omega, fun b hb => absurd hb (by omega), ?_⟩
      have := spec_mpSlope_L1b_x2 (num : Int) (den : Int) k (by omega)
      simpa using this

theorem slope1_L (num den : Nat) (hd : num ≤ 2 ^ 50) (k : Int) (q : Bool) (hn : 0 < den) (f : Nat) (h : num ≤ den * 2 ^ f) (hk : -2 ^ 20 ≤ k) (hk2 : k + f ≤ 2 ^ 20) :
    ∃ a : Nat, num ≤ den * 2 ^ a ∧ (∀ b, b < a → den * 2 ^ b < num) ∧ LoopSC cfg.P 2 (lb P_spec_mpSlope 1) (spec_mpSlope_L1a (num : Int) (den : Int) k q) (.exit 2) (spec_mpSlope_L1X1 (num : Int) ((den * 2 ^ a : Nat) : Int) (k + a) false) := by
  by_cases hlt : den < num
  · cases f with
    | zero => simp at h; omega
    | succ f =>
      obtain ⟨a, h1, h2, h4⟩ := slope1b_L num hd f (den * 2) (k + 1) (by omega) (by rw [Nat.mul_assoc, ← Nat.pow_succ']; exact h) (by omega) (by omega)
      refine ⟨a + 1, by rw [Nat.pow_succ', ← Nat.mul_assoc]; exact h1, fun b hb => ?_, ?_⟩
      · cases b with
        | zero => simpa using hlt
        | succ b => rw [Nat.pow_succ', ← Nat.mul_assoc]; exact h2 b (by omega)
      · have w1 : IntKind.wrap .i64 ((den : Int) * (2 : Int)) = ((den * 2 : Nat) : Int) := by rw [w64] <;> omega
        have w2 : IntKind.wrap .i64 (k + (1 : Int)) = k + 1 := by rw [w64] <;> omega
        rw [← w1, ← w2] at h4
        have e1 : den * 2 * 2 ^ a = den * 2 ^ (a + 1) := by rw [Nat.pow_succ', Nat.mul_assoc]
        have e2 : IntKind.wrap .i64 (k + (1 : Int)) + (a : Int) = k + ((a + 1 : Nat) : Int) := by rw [w2]; omega
        rw [e1, e2] at h4
        exact spec_mpSlope_L1a_i1 _ _ _ _ (by omega) h4
  · refine ⟨0, by omega, fun b hb => absurd hb (by omega), ?_⟩
    have := spec_mpSlope_L1a_x2 (num : Int) (den : Int) k q (by omega)
    simpa using this

/-- The reference's slope: exact if, and only if, it is a power of 2. -/
theorem mpSlope_SC (num den : Nat) (h1 : 0 < num) (h2 : 0 < den) (h3 : num ≤ 2 ^ 45) (h4 : den ≤ 2 ^ 45) : ∃ (k : Int) (b : Bool),
    SC cfg.P i_spec_mpSlope [.s (.v (.int .i64) (num : Int)), .s (.v (.int .i64) (den : Int))] (.tup [.v (.int .i64) k, .v .bool b]) [] ∧
    (b = true → (0 ≤ k ∧ num = den * 2 ^ k.toNat) ∨ (k ≤ 0 ∧ den = num * 2 ^ (-k).toNat)) ∧ ((∃ e : Nat, num = den * 2 ^ e ∨ den = num * 2 ^ e) → b = true) := by
  have big : ∀ x y : Nat, 0 < x → y ≤ 2 ^ 45 → y ≤ x * 2 ^ 45 := fun x y hx hy => by
    have := Nat.mul_le_mul_right (2 ^ 45) hx
    omega
  obtain ⟨a, a1, a2, a3, a4⟩ := slope0_L den (by omega) 45 num 0 h1 (big num den h1 h4) (by omega) (by omega)
  have ha : num * 2 ^ a ≤ 2 ^ 46 := by
    cases a with
    | zero => simp; omega
    | succ a =>
      have := a2 a (by omega)
      rw [Nat.pow_succ, ← Nat.mul_assoc]
      omega
  obtain ⟨c, c1, c2, c4⟩ := slope1_L (num * 2 ^ a) den (by omega) (0 - a) false h2 46 (by have := Nat.mul_le_mul_right (2 ^ 46) h2; omega) (by omega) (by omega)
  by_cases heq : num * 2 ^ a = den * 2 ^ c
  · refine ⟨0 - (a : Int) + c, true, spec_mpSlope_p1 _ _ _ _ _ _ _ _ _ _ a4 c4 (by rw [heq]), fun _ => ?_, fun _ => rfl⟩
    cases a with
    | zero =>
      left
      refine ⟨by omega, ?_⟩
      have : ((0 : Int) - ((0 : Nat) : Int) + (c : Int)).toNat = c := by omega
      rw [this]
      simpa using heq
    | succ a =>
      have hlow := a2 a (by omega)
      cases c with
      | zero =>
        right
        refine ⟨by omega, ?_⟩
        have : (-((0 : Int) - ((a + 1 : Nat) : Int) + ((0 : Nat) : Int))).toNat = a + 1 := by omega
        rw [this]
        simpa using heq.symm
      | succ c =>
        exfalso
        have := c2 0 (by omega)
        rw [Nat.pow_succ, ← Nat.mul_assoc] at heq
        rw [Nat.pow_succ, ← Nat.mul_assoc] at heq
        have hc : den ≤ den * 2 ^ c := Nat.le_mul_of_pos_right _ (Nat.pow_pos (by omega))
        omega
  · refine ⟨0 - (a : Int) + c, false, spec_mpSlope_p2 _ _ _ _ _ _ _ _ _ _ a4 c4 (fun h => heq (Int.ofNat_inj.1 h)), (fun h => by cases h), fun ⟨e, he⟩ => ?_⟩
    exfalso
    apply heq
    rcases he with he | he
    · have ha0 : a = 0 := by
        cases a with
        | zero => rfl
        | succ a =>
          have := a2 0 (by omega)
          have : den ≤ den * 2 ^ e := Nat.le_mul_of_pos_right _ (Nat.pow_pos (by omega))
          omega
      subst ha0
      rw [Nat.pow_zero, Nat.mul_one] at c1 c2 ⊢
      have hce : c = e := by
        have h5 : ¬ e < c := fun hlt => by have := c2 e hlt; omega
        have h6 : ¬ c < e := fun hlt => by
          have : den * 2 ^ c < den * 2 ^ e := Nat.mul_lt_mul_of_pos_left (Nat.pow_lt_pow_right (by omega) hlt) h2
          omega
        omega
      rw [hce, he]
    · have hae : a = e := by
        have h5 : ¬ e < a := fun hlt => by have := a2 e hlt; omega
        have h6 : ¬ a < e := fun hlt => by
          have : num * 2 ^ a < num * 2 ^ e := Nat.mul_lt_mul_of_pos_left (Nat.pow_lt_pow_right (by omega) hlt) h1
          omega
        omega
      subst hae
      have hc0 : c = 0 := by
        cases c with
        | zero => rfl
        | succ c => have := c2 0 (by omega); omega
      rw [hc0, Nat.pow_zero, Nat.mul_one, he]

end Go.AI
end
