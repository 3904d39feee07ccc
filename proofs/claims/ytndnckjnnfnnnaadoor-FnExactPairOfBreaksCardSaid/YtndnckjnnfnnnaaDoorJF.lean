/- A part of the road: what it proves stands in its last texts. -/
import Derived.Test.YtndnckjnnfnnnaaDoorGS
import Derived.Test.YtndnckjnnfnnnaaDoorJE
section
/- Contracts: the reference's parting of an interval, as plain functions. -/
set_option autoImplicit false
set_option maxRecDepth 100000
set_option linter.unusedVariables false
namespace Go.AI
open Go.Proofs

structure FB (x : Int × Int) : Prop where
  a : 0 ≤ x.1
  b : x.1 ≤ 2 ^ 20
  c : 1 ≤ x.2
  d : x.2 ≤ 2 ^ 20

def fLt (x y : Int × Int) : Bool := decide (x.1 * y.2 < y.1 * x.2)

theorem mulBd {a b A B : Int} (h1 : 0 ≤ a) (h2 : a ≤ A) (h3 : 0 ≤ b) (h4 : b ≤ B) : 0 ≤ a * b ∧ a * b ≤ A * B :=
  ⟨Int.mul_nonneg h1 h3, Int.mul_le_mul h2 h4 h3 (by omega)⟩

theorem lessB_SC (x y : Int × Int) (hx : FB x) (hy : FB y) : SC cfg.P i_spec_mpLess [.s (.v FrK x), .s (.v FrK y)] (.s (.v .bool (fLt x y))) [] := by
  obtain ⟨a1, a2, a3, a4⟩ := hx
  obtain ⟨b1, b2, b3, b4⟩ := hy
  obtain ⟨m1, m2⟩ := mulBd a1 a2 (by omega : 0 ≤ y.2) b4
  obtain ⟨m3, m4⟩ := mulBd b1 b2 (by omega : 0 ≤ x.2) a4
  have w1 : IntKind.wrap .i64 (x.1 * y.2) = x.1 * y.2 := by rw [w64] <;> omega
  have w2 : IntKind.wrap .i64 (y.1 * x.2) = y.1 * x.2 := by rw [w64] <;> omega
  unfold fLt
  by_cases h : x.1 * y.2 < y.1 * x.2
  · rw [decide_eq_true h]; exact spec_mpLess_p1 x y (by rw [w1, w2]; exact h)
  · rw [decide_eq_false h]; exact spec_mpLess_p2 x y (by rw [w1, w2]; exact h)

/-- The part in which a fraction lies. -/
def kS (X : List (Int × Int)) (n : Nat) (s : Int × Int) : Nat → Nat → Nat
  | 0, k => k
  | m + 1, k => if k + 1 < n then (if fLt s (List.getD X (k + 1) (0, 0)) then k else kS X n s m (k + 1)) else k

theorem kS_lt (X : List (Int × Int)) (n : Nat) (s : Int × Int) : ∀ (m k : Nat), k < n → kS X n s m k < n
  | 0, k, h => h
  | m + 1, k, h => by
    unfold kS
    split
    · split
      · exact h
      · exact kS_lt X n s m (k + 1) (by omega)
    · exact h

theorem getD_FB {X : List (Int × Int)} (hX : ∀ x ∈ X, FB x) (i : Nat) (h : i < X.length) : FB (List.getD X i (0, 0)) := by
  rw [List.getD_eq_getElem?_getD, List.getElem?_eq_getElem h]
  exact hX _ (List.getElem_mem h)

theorem splitK_L (X Y : List (Int × Int)) (L : List Int) (a : ByteArray) (s : Int × Int) (hs : FB s) (hX : ∀ x ∈ X, FB x) (hl : X.length = L.length + 1) (hL : L.length ≤ 2 ^ 10) :
    ∀ (m k : Nat), L.length ≤ k + m + 1 → k < L.length → LoopSC cfg.P 4 (lb P_spec_mpSplit 0) (spec_mpSplit_L0a X Y L a (k : Int) s) (.exit 0) (spec_mpSplit_L0X1 X Y L a ((kS X L.length s m k : Nat) : Int) false s)
  | m, k, hm, hk => by
    have w : IntKind.wrap .i64 ((k : Int) + (1 : Int)) = ((k + 1 : Nat) : Int) := wrap_succ (by omega)
    by_cases h : k + 1 < L.length
    · have hS := lessB_SC s (List.getD X (k + 1) (0, 0)) hs (getD_FB hX _ (by omega))
      have e : List.getD X (IntKind.wrap .i64 ((k : Int) + (1 : Int))).toNat ((0 : Int), (0 : Int)) = List.getD X (k + 1) (0, 0) := by rw [w, Int.toNat_natCast]
      rw [← e] at hS
      cases m with
      | zero => omega
      | succ m =>
        unfold kS
        rw [if_pos h]
        cases hq : fLt s (List.getD X (k + 1) (0, 0)) with
        | true =>
          rw [if_pos rfl]
          rw [e, hq, ← e] at hS
          exact spec_mpSplit_L0a_x1 X Y L a (k : Int) s (by rw [w]; omega) (by rw [w]; omega) (by rw [w]; omega) hS
        | false =>
          rw [if_neg (by decide)]
          rw [e, hq, ← e] at hS
          have ih := splitK_L X Y L a s hs hX hl hL m (k + 1) (by omega) h
          rw [← w] at ih
          exact spec_mpSplit_L0a_i2 X Y L a (k : Int) s (by rw [w]; omega) (by rw [w]; omega) (by rw [w]; omega) hS ih
    · have hx := spec_mpSplit_L0a_x3 X Y L a (k : Int) s (by rw [w]; omega)
      cases m with
      | zero => exact hx
      | succ m =>
        unfold kS
        rw [if_neg h]
        exact hx

/-- The address of a fraction. -/
def adrF (v : Int × Int) (len : Nat) : List UInt8 × Bool :=
  if goodF v = true ∧ v.1 ≠ v.2 ∧ v.2.toNat ≤ 2 ^ len then (dig (v.1.toNat * (2 ^ len / v.2.toNat)) len (len - 1), true) else ([], false)

theorem adrF_SC (v : Int × Int) (len : Nat) (hlen : len ≤ 10) : SC cfg.P i_spec_AddressOf [.s (.v FrK v), .s (.v (.int .i64) (len : Int))] (.tup [.v .str (bs (adrF v len).1), .v .bool (adrF v len).2]) [] := by
  have hG := mpGood_SC v
  have hI := l1In_SC (len : Int) 0 10
  rw [decide_eq_true (by omega)] at hI
  cases hg : goodF v with
  | false =>
    rw [hg] at hG
    have : adrF v len = ([], false) := by simp [adrF, hg]
    rw [this]
    exact spec_AddressOf_p5 v _ hG
  | true =>
    rw [hg] at hG
    obtain ⟨b1, b2, b3, b4⟩ := goodF_bd hg
    by_cases h1 : v.1 = v.2
    · have : adrF v len = ([], false) := by simp [adrF, h1]
      rw [this]
      exact spec_AddressOf_p1 v _ hG h1
    · by_cases h2 : v.2.toNat ≤ 2 ^ len
      · have : adrF v len = (dig (v.1.toNat * (2 ^ len / v.2.toNat)) len (len - 1), true) := if_pos ⟨hg, h1, h2⟩
        rw [this]
        exact AddressOf_SC v v.1.toNat v.2.toNat len (Prod.ext (by show v.1 = _; omega) (by show v.2 = _; omega)) hg (by omega) hlen h2
      · have : adrF v len = ([], false) := if_neg (fun h => h2 h.2.2)
        rw [this]
        have e1 : IntKind.wrap .i64 ((1 : Int) * 2 ^ (min ((len : Int)).toNat (IntKind.bits .i64))) = ((2 ^ len : Nat) : Int) := by
          have : min ((len : Int)).toNat (IntKind.bits .i64) = len := by rw [Int.toNat_natCast]; show min len 64 = len; omega
          have hp : 2 ^ len ≤ 2 ^ 10 := Nat.pow_le_pow_right (by omega) hlen
          rw [this, Int.one_mul, show ((2 : Int) ^ len) = ((2 ^ len : Nat) : Int) by rw [Int.natCast_pow]; rfl]
          generalize 2 ^ len = q at hp ⊢
          rw [w64] <;> omega
        exact spec_AddressOf_p2 v _ hG h1 hI (by omega) (by rw [e1]; generalize 2 ^ len = q at h2 ⊢; omega)

/-- The parting of an interval: what is taken, and what is cut further. -/
def cutR (acc : List UInt8 → Option (List UInt8)) : Nat → List UInt8 → Option (List (List UInt8) × List (List UInt8))
  | 0, _ => none
  | f + 1, a => match acc a with
    | some b => some ([a], [b])
    | none => match cutR acc f (a ++ [48]) with
      | none => none
      | some (x, y) => match cutR acc f (a ++ [49]) with
        | none => none
        | some (z, w) => if x.length + z.length > 9 then none else some (x ++ z, y ++ w)

end Go.AI
end

section
/- Contracts: the value of a fraction under a straight part. -/
set_option autoImplicit false
set_option maxRecDepth 100000
set_option linter.unusedVariables false
namespace Go.AI
open Go.Proofs

def shortF (a b : Int) : Int × Int := (((a.toNat / Nat.gcd a.toNat b.toNat : Nat) : Int), ((b.toNat / Nat.gcd a.toNat b.toNat : Nat) : Int))

def nV (s x y : Int × Int) (up dn : Nat) : Int := (s.1 * x.2 - x.1 * s.2) * ((2 ^ up : Nat) : Int) * y.2 + y.1 * (s.2 * x.2) * ((2 ^ dn : Nat) : Int)
def dV (s x y : Int × Int) (dn : Nat) : Int := s.2 * x.2 * ((2 ^ dn : Nat) : Int) * y.2

theorem pw_wrap (up : Int) (h0 : 0 ≤ up) (h : up ≤ 10) : IntKind.wrap .i64 ((1 : Int) * 2 ^ (min (up).toNat (IntKind.bits .i64))) = ((2 ^ up.toNat : Nat) : Int) := by
  have e : min (up).toNat (IntKind.bits .i64) = up.toNat := by show min up.toNat 64 = up.toNat; omega
  have hp : 2 ^ up.toNat ≤ 2 ^ 10 := Nat.pow_le_pow_right (by omega) (by omega)
  rw [e, Int.one_mul, show ((2 : Int) ^ up.toNat) = ((2 ^ up.toNat : Nat) : Int) by rw [Int.natCast_pow]; rfl]
  generalize 2 ^ up.toNat = q at hp ⊢
  rw [w64] <;> omega

theorem shortV (s x y : Int × Int) (up dn : Int) (hu : 0 ≤ up) (hu2 : up ≤ 10) (hd : 0 ≤ dn) (hd2 : dn ≤ 10)
    (s1 : 0 ≤ s.1) (s2 : s.1 ≤ 2 ^ 8) (s3 : 1 ≤ s.2) (s4 : s.2 ≤ 2 ^ 8) (x1 : 0 ≤ x.1) (x2 : x.1 ≤ 2 ^ 10) (x3 : 1 ≤ x.2) (x4 : x.2 ≤ 2 ^ 10)
    (y1 : 0 ≤ y.1) (y2 : y.1 ≤ 2 ^ 10) (y3 : 1 ≤ y.2) (y4 : y.2 ≤ 2 ^ 10) (hge : x.1 * s.2 ≤ s.1 * x.2) :
    SC cfg.P i_spec_mpShort [.s (.v (.int .i64) (IntKind.wrap .i64 ((IntKind.wrap .i64 ((IntKind.wrap .i64 ((IntKind.wrap .i64 ((IntKind.wrap .i64 (s.1 * x.2)) - (IntKind.wrap .i64 (x.1 * s.2)))) * (IntKind.wrap .i64 ((1 : Int) * 2 ^ (min (up).toNat (IntKind.bits .i64)))))) * y.2)) + (IntKind.wrap .i64 ((IntKind.wrap .i64 (y.1 * (IntKind.wrap .i64 (s.2 * x.2)))) * (IntKind.wrap .i64 ((1 : Int) * 2 ^ (min (dn).toNat (IntKind.bits .i64))))))))), .s (.v (.int .i64) (IntKind.wrap .i64 ((IntKind.wrap .i64 ((IntKind.wrap .i64 (s.2 * x.2)) * (IntKind.wrap .i64 ((1 : Int) * 2 ^ (min (dn).toNat (IntKind.bits .i64)))))) * y.2)))]
      (.s (.v (.pr (.int .i64) (.int .i64)) (shortF (nV s x y up.toNat dn.toNat) (dV s x y dn.toNat)))) [] := by
  rw [pw_wrap up hu hu2, pw_wrap dn hd hd2]
  have pu : ((2 ^ up.toNat : Nat) : Int) ≤ 2 ^ 10 ∧ 1 ≤ ((2 ^ up.toNat : Nat) : Int) := by
    have h1 : 2 ^ up.toNat ≤ 2 ^ 10 := Nat.pow_le_pow_right (by omega) (by omega)
    have h2 : 0 < 2 ^ up.toNat := Nat.pow_pos (by omega)
    generalize 2 ^ up.toNat = q at h1 h2 ⊢
    omega
  have pd : ((2 ^ dn.toNat : Nat) : Int) ≤ 2 ^ 10 ∧ 1 ≤ ((2 ^ dn.toNat : Nat) : Int) := by
    have h1 : 2 ^ dn.toNat ≤ 2 ^ 10 := Nat.pow_le_pow_right (by omega) (by omega)
    have h2 : 0 < 2 ^ dn.toNat := Nat.pow_pos (by omega)
    generalize 2 ^ dn.toNat = q at h1 h2 ⊢
    omega
  unfold nV dV
  generalize ((2 ^ up.toNat : Nat) : Int) = U at pu ⊢
  generalize ((2 ^ dn.toNat : Nat) : Int) = D at pd ⊢
  obtain ⟨u1, u2⟩ := pu
  obtain ⟨d1, d2⟩ := pd
  obtain ⟨a1, a2⟩ := mulBd s1 s2 (by omega : 0 ≤ x.2) x4
  obtain ⟨b1, b2⟩ := mulBd x1 x2 (by omega : 0 ≤ s.2) s4
  obtain ⟨c1, c2⟩ := mulBd (by omega : 0 ≤ s.2) s4 (by omega : 0 ≤ x.2) x4
  have c3 : 0 < s.2 * x.2 := Int.mul_pos (by omega) (by omega)
  generalize s.1 * x.2 = A at *
  generalize x.1 * s.2 = B at *
  generalize s.2 * x.2 = C at *
  obtain ⟨e1, e2⟩ := mulBd (by omega : 0 ≤ A - B) (by omega : A - B ≤ 2 ^ 18) (by omega : 0 ≤ U) u1
  have wA : IntKind.wrap .i64 A = A := by rw [w64] <;> omega
  have wB : IntKind.wrap .i64 B = B := by rw [w64] <;> omega
  have wC : IntKind.wrap .i64 C = C := by rw [w64] <;> omega
  have wAB : IntKind.wrap .i64 (A - B) = A - B := by rw [w64] <;> omega
  rw [wA, wB, wC, wAB]
  generalize (A - B) * U = E at *
  obtain ⟨f1, f2⟩ := mulBd e1 e2 (by omega : 0 ≤ y.2) y4
  obtain ⟨g1, g2⟩ := mulBd y1 y2 (by omega : 0 ≤ C) c2
  obtain ⟨i1, i2⟩ := mulBd (by omega : 0 ≤ C) c2 (by omega : 0 ≤ D) d1
  have i3 : 0 < C * D := Int.mul_pos c3 (by omega)
  have wE : IntKind.wrap .i64 E = E := by rw [w64] <;> omega
  rw [wE]
  generalize E * y.2 = F at *
  generalize y.1 * C = G at *
  have wG : IntKind.wrap .i64 G = G := by rw [w64] <;> omega
  rw [wG]
  obtain ⟨h1, h2⟩ := mulBd g1 g2 (by omega : 0 ≤ D) d1
  generalize C * D = I at *
  have wI : IntKind.wrap .i64 I = I := by rw [w64] <;> omega
  rw [wI]
  obtain ⟨j1, j2⟩ := mulBd (by omega : 0 ≤ I) i2 (by omega : 0 ≤ y.2) y4
  have j3 : 0 < I * y.2 := Int.mul_pos i3 (by omega)
  generalize G * D = H at *
  generalize I * y.2 = J at *
  have wF : IntKind.wrap .i64 F = F := by rw [w64] <;> omega
  have wH : IntKind.wrap .i64 H = H := by rw [w64] <;> omega
  have wJ : IntKind.wrap .i64 J = J := by rw [w64] <;> omega
  have wS : IntKind.wrap .i64 (F + H) = F + H := by rw [w64] <;> omega
  rw [wF, wH, wJ, wS]
  have hS := short_SC (F + H).toNat J.toNat (by omega) (by omega) (by omega)
  have t1 : (((F + H).toNat : Nat) : Int) = F + H := by omega
  have t2 : ((J.toNat : Nat) : Int) = J := by omega
  rw [t1, t2] at hS
  exact hS

theorem l1Most_SC (a b : Int) : SC cfg.P i_spec_l1Most [.s (.v (.int .i64) a), .s (.v (.int .i64) b)] (.s (.v (.int .i64) (max a b))) [] := by
  by_cases h : a > b
  · have : max a b = a := by omega
    rw [this]; exact spec_l1Most_p1 a b h
  · have : max a b = b := by omega
    rw [this]; exact spec_l1Most_p2 a b h

/-- The end of an interval. -/
def endF (a : List UInt8) : Int × Int := ((frA a).1 * ((2 ^ a.length / (2 ^ a.length / Nat.gcd (bn a) (2 ^ a.length)) : Nat) : Int) + 1, ((2 ^ a.length : Nat) : Int))

/-- The reference's image of an interval, if it is carried straight to one. -/
def accR (X Y : List (Int × Int)) (L : List Int) (a : List UInt8) : Option (List UInt8) :=
  let s := frA a
  let k := kS X L.length s L.length 0
  let sl := List.getD L k 0
  let v := shortF (nV s (List.getD X k (0, 0)) (List.getD Y k (0, 0)) (max 0 sl).toNat (max 0 (0 - sl)).toNat) (dV s (List.getD X k (0, 0)) (List.getD Y k (0, 0)) (max 0 (0 - sl)).toNat)
  if fLt (List.getD X (k + 1) (0, 0)) (endF a) = true then none
  else if 0 ≤ (a.length : Int) - sl ∧ (a.length : Int) - sl ≤ 8 then
    if v.2 ≤ ((2 ^ ((a.length : Int) - sl).toNat : Nat) : Int) then some (adrF v ((a.length : Int) - sl).toNat).1 else none
  else none

end Go.AI
end

section
/- Contracts: the reference's parting of an interval. -/
set_option autoImplicit false
set_option maxRecDepth 100000
set_option linter.unusedVariables false
namespace Go.AI
open Go.Proofs

structure FS (x : Int × Int) : Prop where
  a : 0 ≤ x.1
  b : x.1 ≤ 2 ^ 10
  c : 1 ≤ x.2
  d : x.2 ≤ 2 ^ 10

theorem FS.fb {x : Int × Int} (h : FS x) : FB x := ⟨h.a, by have := h.b; omega, h.c, by have := h.d; omega⟩

structure SplitOK (X Y : List (Int × Int)) (L : List Int) : Prop where
  hX : ∀ x ∈ X, FS x
  hY : ∀ x ∈ Y, FS x
  lX : X.length = L.length + 1
  lY : Y.length = L.length + 1
  l0 : 0 < L.length
  l1 : L.length ≤ 2 ^ 10
  hL : ∀ s ∈ L, -10 ≤ s ∧ s ≤ 10
  h0 : List.getD X 0 (0, 0) = (0, 1)

theorem getD_mem' {α : Type} {P : α → Prop} {X : List α} (hX : ∀ x ∈ X, P x) (d : α) (i : Nat) (h : i < X.length) : P (List.getD X i d) := by
  rw [List.getD_eq_getElem?_getD, List.getElem?_eq_getElem h]
  exact hX _ (List.getElem_mem h)

theorem kS_ge (X : List (Int × Int)) (n : Nat) (s : Int × Int) : ∀ (m k : Nat), (List.getD X k (0, 0)).1 * s.2 ≤ s.1 * (List.getD X k (0, 0)).2 →
    (List.getD X (kS X n s m k) (0, 0)).1 * s.2 ≤ s.1 * (List.getD X (kS X n s m k) (0, 0)).2
  | 0, k, h => h
  | m + 1, k, h => by
    unfold kS
    split
    · split
      · exact h
      · rename_i h2
        refine kS_ge X n s m (k + 1) ?_
        unfold fLt at h2
        rw [decide_eq_true_eq] at h2
        omega
    · exact h

theorem frA_bd (a : List UInt8) (h : a.length ≤ 8) : 0 ≤ (frA a).1 ∧ (frA a).1 ≤ 2 ^ 8 ∧ 1 ≤ (frA a).2 ∧ (frA a).2 ≤ 2 ^ 8 := by
  have hp : 2 ^ a.length ≤ 2 ^ 8 := Nat.pow_le_pow_right (by omega) h
  have h0 : 0 < 2 ^ a.length := Nat.pow_pos (by omega)
  have hb := bn_lt a
  have hE := Nat.div_le_self (2 ^ a.length) (Nat.gcd (bn a) (2 ^ a.length))
  have hN := Nat.div_le_self (bn a) (Nat.gcd (bn a) (2 ^ a.length))
  have hq : 0 < 2 ^ a.length / Nat.gcd (bn a) (2 ^ a.length) := Nat.div_pos (Nat.le_of_dvd h0 (Nat.gcd_dvd_right _ _)) (Nat.gcd_pos_of_pos_right _ h0)
  simp only [frA]
  generalize 2 ^ a.length / Nat.gcd (bn a) (2 ^ a.length) = q at *
  generalize bn a / Nat.gcd (bn a) (2 ^ a.length) = p at *
  generalize 2 ^ a.length = r at *
  omega

theorem pwS (a : List UInt8) (h : a.length ≤ 8) : IntKind.wrap .i64 ((1 : Int) * 2 ^ (min (((bs a).size : Int)).toNat (IntKind.bits .i64))) = ((2 ^ a.length : Nat) : Int) := by
  rw [bs_size, pw_wrap _ (by omega) (by omega), Int.toNat_natCast]

theorem endF_eq (a : List UInt8) (h : a.length ≤ 8) :
    ((IntKind.wrap .i64 ((IntKind.wrap .i64 ((frA a).1 * (IntKind.wrap .i64 (Int.tdiv (IntKind.wrap .i64 ((1 : Int) * 2 ^ (min (((bs a).size : Int)).toNat (IntKind.bits .i64)))) (frA a).2)))) + (1 : Int))), (IntKind.wrap .i64 ((1 : Int) * 2 ^ (min (((bs a).size : Int)).toNat (IntKind.bits .i64))))) = endF a := by
  rw [pwS a h]
  obtain ⟨b1, b2, b3, b4⟩ := frA_bd a h
  have hp : 2 ^ a.length ≤ 2 ^ 8 := Nat.pow_le_pow_right (by omega) h
  have e2 : (frA a).2 = ((2 ^ a.length / Nat.gcd (bn a) (2 ^ a.length) : Nat) : Int) := rfl
  have hq := Nat.div_le_self (2 ^ a.length) (2 ^ a.length / Nat.gcd (bn a) (2 ^ a.length))
  unfold endF
  rw [e2, tdivN]
  generalize 2 ^ a.length / (2 ^ a.length / Nat.gcd (bn a) (2 ^ a.length)) = q at *
  generalize 2 ^ a.length = r at *
  have wq : IntKind.wrap .i64 (q : Int) = (q : Int) := by rw [w64] <;> omega
  rw [wq]
  obtain ⟨m1, m2⟩ := mulBd b1 b2 (by omega : (0 : Int) ≤ (q : Int)) (by omega : (q : Int) ≤ 2 ^ 8)
  generalize (frA a).1 * (q : Int) = p at *
  have wp : IntKind.wrap .i64 p = p := by rw [w64] <;> omega
  rw [wp]
  have wp1 : IntKind.wrap .i64 (p + 1) = p + 1 := by rw [w64] <;> omega
  rw [wp1]

theorem endF_FB (a : List UInt8) (h : a.length ≤ 8) : FB (endF a) := by
  obtain ⟨b1, b2, b3, b4⟩ := frA_bd a h
  have hp : 2 ^ a.length ≤ 2 ^ 8 := Nat.pow_le_pow_right (by omega) h
  have h0 : 0 < 2 ^ a.length := Nat.pow_pos (by omega)
  have hq := Nat.div_le_self (2 ^ a.length) (2 ^ a.length / Nat.gcd (bn a) (2 ^ a.length))
  unfold endF
  generalize 2 ^ a.length / (2 ^ a.length / Nat.gcd (bn a) (2 ^ a.length)) = q at *
  generalize 2 ^ a.length = r at *
  obtain ⟨m1, m2⟩ := mulBd b1 b2 (by omega : (0 : Int) ≤ (q : Int)) (by omega : (q : Int) ≤ 2 ^ 8)
  constructor
  · show 0 ≤ (frA a).1 * (q : Int) + 1; omega
  · show (frA a).1 * (q : Int) + 1 ≤ 2 ^ 20; omega
  · show 1 ≤ (r : Int); omega
  · show (r : Int) ≤ 2 ^ 20; omega

def sp1 (R : Option (List (List UInt8) × List (List UInt8))) : List ByteArray := match R with | none => [] | some (x, _) => x.map bs
def sp2 (R : Option (List (List UInt8) × List (List UInt8))) : List ByteArray := match R with | none => [] | some (_, y) => y.map bs

end Go.AI
end
