/- A part of the road: what it proves stands in its last texts. -/
import Derived.Test.YtndnckjnnfnnnaaDoorBw4
import Derived.Test.YtndnckjnnfnnnaaDoorJI
section
/- Contract: what is made of spots. -/
set_option autoImplicit false
set_option maxRecDepth 100000
set_option linter.unusedVariables false
namespace Go.AI
open Go.Proofs Go.RowKit

theorem made_SC (S : List (Nat × Nat)) (acc : List UInt8 → Option (List UInt8)) (hacc : mdOk S (S.length - 1) 1 = true → SaysOf (bntS S) acc ∧ ∀ a b, a.length ≤ 2 ^ 8 → acc a = some b → b.length ≤ 2 ^ 9) (hS2 : 2 ≤ S.length) (hS : S.length ≤ 2 ^ 9) (hb : ∀ i, i < S.length → (gS S i).1 ≤ 2 ^ 40 ∧ (gS S i).2 ≤ 2 ^ 40) :
    SC cfg.P i_impl_made [.s (.v (.sl (.pr (.int .i64) (.int .i64))) (spN S))] (.tup [.v (.pr .tree .tree) (mdR S acc).1, .v .bool (mdR S acc).2]) [] := by
  refine ⟨⟨P_impl_made, get_impl_made, rfl, by decide⟩, ?_⟩
  rintro w B vs mv hB hd ⟨u, us, rfl, hu, rfl, rfl⟩
  refine (made_any S acc hacc hS2 hS hb w B u hu).mono ?_
  rintro e w' ⟨v1, v2, rfl, hf, r1, r2⟩
  have hK : ∀ {t : Tr} {v : Value}, RepT w' (fun x => w.heap.size ≤ x) t v → RepT w' (After w B []) t v := fun h => RepT.keep ⟨fun b hb hl => ⟨⟨.inr hb, by simp⟩, rfl⟩⟩ h
  exact ⟨_, [], rfl, hf, List.nodup_nil, (fun b hb => by cases hb), ⟨[.agg #[v1, v2], .bool _], rfl, _, [.bool _], [], [], rfl, rfl, ⟨⟨[v1, v2], ⟨[v1], [v2], rfl, ⟨v1, rfl, hK r1⟩, ⟨v2, rfl, hK r2⟩⟩, rfl⟩, rfl⟩, .bool _, [], [], [], rfl, rfl, ⟨⟨[.bool _], rfl, rfl⟩, rfl⟩, rfl, rfl⟩, rfl⟩

end Go.AI
end

section
/- Plain law: the reference joins the parts that the program joins. -/
set_option autoImplicit false
set_option maxRecDepth 100000
set_option linter.unusedVariables false
namespace Go.AI

/-- Breaks with their ends, that rise on both sides. -/
structure PB (X Y : List (Int × Int)) : Prop where
  gX : ∀ i, i < X.length → goodF (gF X i) = true
  gY : ∀ i, i < X.length → goodF (gF Y i) = true
  l : Y.length = X.length
  l1 : X.length ≤ 2 ^ 9
  rise : ∀ i, 1 ≤ i → i < X.length → plI (gF X (i - 1)) < plI (gF X i) ∧ plI (gF Y (i - 1)) < plI (gF Y i)

abbrev spt (X Y : List (Int × Int)) (i : Nat) : Nat × Nat := (plI (gF X i), plI (gF Y i))

theorem good_FS {x : Int × Int} (h : goodF x = true) : FS x := by
  obtain ⟨a, b, c, d⟩ := goodF_bd h
  exact ⟨c, by omega, a, by omega⟩

theorem mem_gF {X : List (Int × Int)} {x : Int × Int} (h : x ∈ X) : ∃ i, i < X.length ∧ gF X i = x := by
  obtain ⟨i, hi, e⟩ := List.getElem_of_mem h
  exact ⟨i, hi, by rw [gF, List.getD_eq_getElem?_getD, List.getElem?_eq_getElem hi, e]; rfl⟩

theorem PB.mok {X Y : List (Int × Int)} (h : PB X Y) : MOK X Y := by
  refine ⟨fun x hx => ?_, fun x hx => ?_, h.l, by have := h.l1; omega, fun i h1 h2 => ?_, fun i h1 h2 => ?_⟩
  · obtain ⟨i, hi, rfl⟩ := mem_gF hx
    exact good_FS (h.gX i hi)
  · obtain ⟨i, hi, rfl⟩ := mem_gF hx
    exact good_FS (h.gY i (by have := h.l; omega))
  · rw [(good_Pw (h.gX (i - 1) (by omega))).1.lt (good_Pw (h.gX i h2)).1]
    exact decide_eq_true (h.rise i h1 h2).1
  · rw [(good_Pw (h.gY (i - 1) (by omega))).1.lt (good_Pw (h.gY i h2)).1]
    exact decide_eq_true (h.rise i h1 h2).2

theorem PB.step {X Y : List (Int × Int)} (h : PB X Y) {i : Nat} (h1 : 1 ≤ i) (h2 : i < X.length) :
    ((slAt X Y i).2 = true ↔ ∃ k, Slope (spt X Y (i - 1)) (spt X Y i) k) ∧ ((slAt X Y i).2 = true → Slope (spt X Y (i - 1)) (spt X Y i) (slAt X Y i).1) := by
  have hm := h.mok
  obtain ⟨r1, r2⟩ := h.rise i h1 h2
  obtain ⟨p1, p2, p3⟩ := ratio (good_Pw (h.gX i h2)).1 (good_Pw (h.gX (i - 1) (by omega))).1 (good_Pw (h.gY i h2)).1 (good_Pw (h.gY (i - 1) (by omega))).1 r1 r2
  obtain ⟨_, a2, a3⟩ := numI_wrap (gF Y i) (gF Y (i - 1)) (gF X i) (gF X (i - 1)) (good_FS (h.gY i h2)) (good_FS (h.gY (i - 1) (by omega))) (good_FS (h.gX i h2)) (good_FS (h.gX (i - 1) (by omega))) (hm.uY i h1 h2)
  obtain ⟨_, c2, c3⟩ := numI_wrap (gF X i) (gF X (i - 1)) (gF Y i) (gF Y (i - 1)) (good_FS (h.gX i h2)) (good_FS (h.gX (i - 1) (by omega))) (good_FS (h.gY i h2)) (good_FS (h.gY (i - 1) (by omega))) (hm.uX i h1 h2)
  obtain ⟨_, q1, q2⟩ := slq_spec _ _ p1 p2 a3 c3
  have fwd : (slAt X Y i).2 = true → Slope (spt X Y (i - 1)) (spt X Y i) (slAt X Y i).1 := fun hs => IsSl.cross p2 p1 p3 (q1 hs)
  refine ⟨⟨fun hs => ⟨_, fwd hs⟩, fun ⟨k, hk⟩ => ?_⟩, fwd⟩
  have hk' : IsSl (numI (gF Y i) (gF Y (i - 1)) (gF X i) (gF X (i - 1))).toNat (numI (gF X i) (gF X (i - 1)) (gF Y i) (gF Y (i - 1))).toNat k := by
    refine IsSl.cross (n := plI (gF Y i) - plI (gF Y (i - 1))) (d := plI (gF X i) - plI (gF X (i - 1))) (by omega) (by omega) ?_ hk
    rw [Nat.mul_comm, ← p3, Nat.mul_comm]
  refine q2 ?_
  rcases hk' with ⟨_, e⟩ | ⟨_, e⟩
  · exact ⟨_, .inl e⟩
  · exact ⟨_, .inr e⟩

/-- Parts, each with its slope; slopes that follow one another differ. -/
structure Parts (Z : List (Nat × Nat)) (L : List Int) : Prop where
  len : Z.length = L.length + 1
  up : ∀ k, k < L.length → Up (gS Z k) (gS Z (k + 1)) ∧ Slope (gS Z k) (gS Z (k + 1)) (List.getD L k 0)
  ne : ∀ k, k + 1 < L.length → List.getD L k 0 ≠ List.getD L (k + 1) 0

theorem getD_app {α : Type} (l m : List α) (d : α) (k : Nat) (h : k < l.length) : List.getD (l ++ m) k d = List.getD l k d := by
  rw [List.getD_eq_getElem?_getD, List.getD_eq_getElem?_getD, List.getElem?_append_left h]

theorem getD_snoc {α : Type} (l : List α) (x d : α) : List.getD (l ++ [x]) l.length d = x := by
  rw [List.getD_eq_getElem?_getD, List.getElem?_append_right (Nat.le_refl _), Nat.sub_self]; rfl

theorem Parts.snoc {Z : List (Nat × Nat)} {l q : Nat × Nat} {L : List Int} {s : Int} (h : Parts (Z ++ [l]) L) (hu : Up l q) (hs : Slope l q s) (hn : 0 < L.length → List.getD L (L.length - 1) 0 ≠ s) : Parts (Z ++ [l] ++ [q]) (L ++ [s]) := by
  have hl := h.len
  have hz : (Z ++ [l]).length = Z.length + 1 := by simp
  refine ⟨by simp at hl ⊢; omega, fun k hk => ?_, fun k hk => ?_⟩
  · rw [List.length_append, List.length_singleton] at hk
    by_cases hlt : k < L.length
    · have e1 : gS (Z ++ [l] ++ [q]) k = gS (Z ++ [l]) k := getD_app _ _ _ _ (by omega)
      have e2 : gS (Z ++ [l] ++ [q]) (k + 1) = gS (Z ++ [l]) (k + 1) := getD_app _ _ _ _ (by omega)
      rw [e1, e2, getD_app _ _ _ _ hlt]
      exact h.up k hlt
    · have hk' : k = L.length := by omega
      have e1 : gS (Z ++ [l] ++ [q]) k = l := by
        rw [show gS (Z ++ [l] ++ [q]) k = gS (Z ++ [l]) k from getD_app _ _ _ _ (by omega), show k = Z.length by omega]
        exact getD_snoc _ _ _
      have e2 : gS (Z ++ [l] ++ [q]) (k + 1) = q := by
        rw [show k + 1 = (Z ++ [l]).length by omega]
        exact getD_snoc _ _ _
      rw [e1, e2, hk', getD_snoc]
      exact ⟨hu, hs⟩
  · rw [List.length_append, List.length_singleton] at hk
    by_cases hlt : k + 1 < L.length
    · rw [getD_app _ _ _ _ (by omega), getD_app _ _ _ _ hlt]
      exact h.ne k hlt
    · rw [getD_app _ _ _ _ (by omega), show k + 1 = L.length by omega, getD_snoc, show k = L.length - 1 by omega]
      exact hn (by omega)

theorem Slope.join {l x y : Nat × Nat} {k : Int} (h1 : Up l x) (h2 : Up x y) (a : Slope l x k) (b : Slope x y k) : Slope l y k := by
  obtain ⟨u1, u2⟩ := h1
  obtain ⟨v1, v2⟩ := h2
  have e1 : y.1 - l.1 = (x.1 - l.1) + (y.1 - x.1) := by omega
  have e2 : y.2 - l.2 = (x.2 - l.2) + (y.2 - x.2) := by omega
  unfold Slope IsSl at *
  rw [e1, e2]
  by_cases hk : 0 ≤ k
  · left
    refine ⟨hk, ?_⟩
    have a' : x.2 - l.2 = (x.1 - l.1) * 2 ^ k.toNat := by
      rcases a with ⟨_, e⟩ | ⟨h0, e⟩
      · exact e
      · have : k = 0 := by omega
        subst this
        simp at e ⊢; omega
    have b' : y.2 - x.2 = (y.1 - x.1) * 2 ^ k.toNat := by
      rcases b with ⟨_, e⟩ | ⟨h0, e⟩
      · exact e
      · have : k = 0 := by omega
        subst this
        simp at e ⊢; omega
    rw [Nat.add_mul, ← a', ← b']
  · right
    refine ⟨by omega, ?_⟩
    have a' : x.1 - l.1 = (x.2 - l.2) * 2 ^ (-k).toNat := by
      rcases a with ⟨h0, _⟩ | ⟨_, e⟩
      · omega
      · exact e
    have b' : y.1 - x.1 = (y.2 - x.2) * 2 ^ (-k).toNat := by
      rcases b with ⟨h0, _⟩ | ⟨_, e⟩
      · omega
      · exact e
    rw [Nat.add_mul, ← a', ← b']

/-- Places of breaks and of their values. -/
abbrev ZS (S V : List (Int × Int)) : List (Nat × Nat) := List.zipWith (fun x y => (plI x, plI y)) S V

theorem ZS_app {S V : List (Int × Int)} (h : S.length = V.length) (x y : Int × Int) : ZS (S ++ [x]) (V ++ [y]) = ZS S V ++ [(plI x, plI y)] := List.zipWith_append h

theorem ZS_set : ∀ (S V : List (Int × Int)) (n : Nat) (x y : Int × Int), ZS (S.set n x) (V.set n y) = (ZS S V).set n (plI x, plI y)
  | [], _, _, _, _ => by simp [ZS]
  | _ :: _, [], _, _, _ => by simp [ZS]
  | _ :: S, _ :: V, 0, _, _ => rfl
  | a :: S, b :: V, n + 1, x, y => by
    show (plI a, plI b) :: ZS (S.set n x) (V.set n y) = (plI a, plI b) :: (ZS S V).set n (plI x, plI y)
    rw [ZS_set S V n x y]

theorem set_last {α : Type} (l : List α) (x y : α) : (l ++ [x]).set l.length y = l ++ [y] := by
  rw [List.set_append_right _ _ (Nat.le_refl _), Nat.sub_self]
  rfl

/-- Spots from a number on. -/
def sps (X Y : List (Int × Int)) : Nat → Nat → List (Nat × Nat)
  | 0, _ => []
  | m + 1, i => spt X Y i :: sps X Y m (i + 1)

/-- What has been joined so far. -/
structure JInv (X Y : List (Int × Int)) (i : Nat) (S V : List (Int × Int)) (L : List Int) (K : List (Nat × Nat)) (l : Nat × Nat) (Ls : List Int) (s : Int) : Prop where
  z : ZS S V = K ++ [l] ++ [spt X Y (i - 1)]
  eL : L = Ls ++ [s]
  lS : S.length = L.length + 1
  lV : V.length = L.length + 1
  parts : Parts (K ++ [l]) Ls
  up : Up l (spt X Y (i - 1))
  sl : Slope l (spt X Y (i - 1)) s
  ne : 0 < Ls.length → List.getD Ls (Ls.length - 1) 0 ≠ s
  gS : ∀ x ∈ S, goodF x = true
  gV : ∀ x ∈ V, goodF x = true
  f0 : gF S 0 = gF X 0

theorem mem_set {α : Type} {P : α → Prop} {l : List α} {n : Nat} {x : α} (h : ∀ y ∈ l, P y) (hx : P x) : ∀ y ∈ l.set n x, P y := fun y hy => by
  rcases List.mem_or_eq_of_mem_set hy with hy | hy
  · exact h y hy
  · rw [hy]; exact hx

theorem mrg_bnt {X Y : List (Int × Int)} (h : PB X Y) : ∀ (m i : Nat) (S V : List (Int × Int)) (L : List Int) (K : List (Nat × Nat)) (l : Nat × Nat) (Ls : List Int) (s : Int), 1 ≤ i → i + m = X.length → JInv X Y i S V L K l Ls s →
    ∀ S' V' L', mrg X Y m i (S, V, L) = some (S', V', L') → ZS S' V' = K ++ [l] ++ bnt l (spt X Y (i - 1) :: sps X Y m i) ∧ Parts (ZS S' V') L' ∧ S'.length = L'.length + 1 ∧ V'.length = L'.length + 1 ∧ 0 < L'.length ∧ (∀ x ∈ S', goodF x = true) ∧ (∀ x ∈ V', goodF x = true) ∧ gF S' 0 = gF X 0
  | 0, i, S, V, L, K, l, Ls, s, h1, hi, J, S', V', L', hm => by
    simp only [mrg, Option.some.injEq, Prod.mk.injEq] at hm
    obtain ⟨rfl, rfl, rfl⟩ := hm
    refine ⟨J.z, ?_, J.lS, J.lV, by rw [J.eL]; simp, J.gS, J.gV, J.f0⟩
    rw [J.z, J.eL]
    exact J.parts.snoc J.up J.sl J.ne
  | m + 1, i, S, V, L, K, l, Ls, s, h1, hi, J, S', V', L', hm => by
    unfold mrg at hm
    split at hm
    · rename_i hok
      obtain ⟨_, hsl⟩ := h.step h1 (by omega)
      have hsl := hsl hok
      obtain ⟨r1, r2⟩ := h.rise i h1 (by omega)
      have hup : Up (spt X Y (i - 1)) (spt X Y i) := ⟨r1, r2⟩
      have hlL : L.length = Ls.length + 1 := by rw [J.eL]; simp
      have hlast : List.getD L (L.length - 1) 0 = s := by
        rw [hlL, Nat.add_sub_cancel, J.eL]; exact getD_snoc _ _ _
      have hiff := Slope.eq_iff J.up hup J.sl hsl
      have hKl : (K ++ [l]).length = L.length := by have := J.parts.len; omega
      rw [sps, bnt]
      by_cases hs : s = (slAt X Y i).1
      · rw [if_pos (hiff.2 hs)]
        have em : mst X Y i (S, V, L) = (S.set L.length (gF X i), V.set L.length (gF Y i), L) := by
          unfold mst
          rw [if_pos ⟨by show 0 < L.length; omega, by show List.getD L (L.length - 1) 0 = _; rw [hlast]; exact hs⟩]
        rw [em] at hm
        have J' : JInv X Y (i + 1) (S.set L.length (gF X i)) (V.set L.length (gF Y i)) L K l Ls s := by
          refine ⟨?_, J.eL, by rw [List.length_set]; exact J.lS, by rw [List.length_set]; exact J.lV, J.parts, J.up.trans hup, J.sl.join J.up hup (hs ▸ hsl), J.ne, mem_set J.gS (h.gX i (by omega)), mem_set J.gV (h.gY i (by omega)), ?_⟩
          · rw [ZS_set, J.z, ← hKl, set_last]
            rfl
          · have hne : 0 ≠ L.length := by omega
            rw [gF, List.getD_eq_getElem?_getD, List.getElem?_set_ne (by omega), ← List.getD_eq_getElem?_getD]
            exact J.f0
        have := mrg_bnt h m (i + 1) _ _ _ K l Ls s (by omega) (by omega) J' S' V' L' hm
        rw [show i + 1 - 1 = i by omega] at this
        exact this
      · rw [if_neg (fun c => hs (hiff.1 c))]
        have em : mst X Y i (S, V, L) = (S ++ [gF X i], V ++ [gF Y i], L ++ [(slAt X Y i).1]) := by
          unfold mst
          rw [if_neg (fun c => hs (hlast.symm.trans c.2))]
        rw [em] at hm
        have J' : JInv X Y (i + 1) (S ++ [gF X i]) (V ++ [gF Y i]) (L ++ [(slAt X Y i).1]) (K ++ [l]) (spt X Y (i - 1)) L (slAt X Y i).1 := by
          refine ⟨?_, rfl, by simp [J.lS], by simp [J.lV], ?_, hup, hsl, fun _ => by rw [hlast]; exact hs, fun x hx => ?_, fun x hx => ?_, ?_⟩
          · rw [ZS_app (by rw [J.lS, J.lV]), J.z]
            rfl
          · rw [J.eL]; exact J.parts.snoc J.up J.sl J.ne
          · rcases List.mem_append.1 hx with hx | hx
            · exact J.gS x hx
            · rw [List.mem_singleton.1 hx]; exact h.gX i (by omega)
          · rcases List.mem_append.1 hx with hx | hx
            · exact J.gV x hx
            · rw [List.mem_singleton.1 hx]; exact h.gY i (by omega)
          · rw [gF, getD_app _ _ _ _ (by rw [J.lS]; omega)]
            exact J.f0
        have t := mrg_bnt h m (i + 1) _ _ _ (K ++ [l]) (spt X Y (i - 1)) L (slAt X Y i).1 (by omega) (by omega) J' S' V' L' hm
        rw [show i + 1 - 1 = i by omega] at t
        exact ⟨by rw [t.1]; simp, t.2⟩
    · cases hm

theorem sps_len (X Y : List (Int × Int)) : ∀ (m i : Nat), (sps X Y m i).length = m
  | 0, _ => rfl
  | m + 1, i => by rw [sps, List.length_cons, sps_len X Y m (i + 1)]

theorem sps_get (X Y : List (Int × Int)) : ∀ (m i k : Nat), k < m → gS (sps X Y m i) k = spt X Y (i + k)
  | 0, _, _, h => by omega
  | m + 1, i, 0, _ => rfl
  | m + 1, i, k + 1, h => by
    show gS (sps X Y m (i + 1)) k = _
    rw [sps_get X Y m (i + 1) k (by omega), show i + 1 + k = i + (k + 1) by omega]

theorem mrg_none (X Y : List (Int × Int)) : ∀ (m i : Nat) (st : Mst), mrg X Y m i st = none ↔ ∃ j, i ≤ j ∧ j < i + m ∧ (slAt X Y j).2 = false
  | 0, i, st => by
    simp only [mrg]
    constructor
    · intro h; cases h
    · rintro ⟨j, h1, h2, _⟩; omega
  | m + 1, i, st => by
    unfold mrg
    split
    · rename_i h0
      rw [mrg_none X Y m (i + 1)]
      constructor
      · rintro ⟨j, h1, h2, h3⟩; exact ⟨j, by omega, by omega, h3⟩
      · rintro ⟨j, h1, h2, h3⟩
        refine ⟨j, ?_, by omega, h3⟩
        by_cases e : j = i
        · subst e; rw [h0] at h3; cases h3
        · omega
    · rename_i h0
      exact ⟨fun _ => ⟨i, Nat.le_refl _, by omega, by simpa using h0⟩, fun _ => rfl⟩

/-- The program's check of all steps. -/
theorem md_mrg {X Y : List (Int × Int)} (h : PB X Y) (h2 : 2 ≤ X.length) (st : Mst) : mdOk (sps X Y X.length 0) ((sps X Y X.length 0).length - 1) 1 = false ↔ mrg X Y (X.length - 1) 1 st = none := by
  rw [mrg_none, sps_len]
  have key : ∀ j, 1 ≤ j → j < X.length → (okSt (gS (sps X Y X.length 0) (j - 1)) (gS (sps X Y X.length 0) j) = (slAt X Y j).2) := fun j h3 h4 => by
    rw [sps_get _ _ _ _ _ (by omega), sps_get _ _ _ _ _ h4, Nat.zero_add, Nat.zero_add]
    obtain ⟨i1, _⟩ := h.step h3 h4
    obtain ⟨r1, r2⟩ := h.rise j h3 h4
    have a1 := good_Pw (h.gX j h4)
    have a2 := good_Pw (h.gY j h4)
    have b1 := good_Pw (h.gX (j - 1) (by omega))
    have b2 := good_Pw (h.gY (j - 1) (by omega))
    have i2 := okSt_iff (p := spt X Y (j - 1)) (q := spt X Y j) ⟨r1, r2⟩ a1.2.1 a2.2.1 (Nat.dvd_sub a1.2.2 b1.2.2) (Nat.dvd_sub a2.2.2 b2.2.2)
    rw [Bool.eq_iff_iff, i2, i1]
  constructor
  · intro hm
    by_cases hx : ∃ j, 1 ≤ j ∧ j < 1 + (X.length - 1) ∧ (slAt X Y j).2 = false
    · exact hx
    · exfalso
      have : mdOk (sps X Y X.length 0) (X.length - 1) 1 = true := mdOk_all _ _ _ fun j h3 h4 => by
        rw [key j h3 (by omega)]
        cases e : (slAt X Y j).2 with
        | true => rfl
        | false => exact absurd ⟨j, h3, h4, e⟩ hx
      rw [this] at hm
      cases hm
  · rintro ⟨j, h3, h4, h5⟩
    exact mdOk_fail _ _ _ j h3 h4 (by rw [key j h3 (by omega)]; exact h5)

theorem mrg_all {X Y : List (Int × Int)} (h : PB X Y) (h2 : 2 ≤ X.length) : ∀ S' V' L', mrg X Y (X.length - 1) 1 ([gF X 0], [gF Y 0], []) = some (S', V', L') →
    ZS S' V' = bntS (sps X Y X.length 0) ∧ Parts (ZS S' V') L' ∧ S'.length = L'.length + 1 ∧ V'.length = L'.length + 1 ∧ 0 < L'.length ∧ (∀ x ∈ S', goodF x = true) ∧ (∀ x ∈ V', goodF x = true) ∧ gF S' 0 = gF X 0 := by
  intro S' V' L' hm
  obtain ⟨n, hn⟩ : ∃ n, X.length = n + 2 := ⟨X.length - 2, by omega⟩
  rw [show X.length - 1 = n + 1 by omega] at hm
  unfold mrg at hm
  split at hm
  · rename_i hok
    obtain ⟨_, hsl⟩ := h.step (Nat.le_refl 1) (by omega)
    have hsl := hsl hok
    obtain ⟨r1, r2⟩ := h.rise 1 (Nat.le_refl _) (by omega)
    have em : mst X Y 1 ([gF X 0], [gF Y 0], []) = ([gF X 0, gF X 1], [gF Y 0, gF Y 1], [(slAt X Y 1).1]) := by
      unfold mst
      rw [if_neg (fun c => by simp at c)]
      rfl
    rw [em] at hm
    have J : JInv X Y 2 [gF X 0, gF X 1] [gF Y 0, gF Y 1] [(slAt X Y 1).1] [] (spt X Y 0) [] (slAt X Y 1).1 := by
      refine ⟨rfl, rfl, rfl, rfl, ⟨rfl, fun k hk => by simp at hk, fun k hk => by simp at hk⟩, ⟨r1, r2⟩, hsl, fun c => by simp at c, fun x hx => ?_, fun x hx => ?_, rfl⟩
      · simp only [List.mem_cons, List.not_mem_nil, or_false] at hx
        rcases hx with rfl | rfl
        · exact h.gX 0 (by omega)
        · exact h.gX 1 (by omega)
      · simp only [List.mem_cons, List.not_mem_nil, or_false] at hx
        rcases hx with rfl | rfl
        · exact h.gY 0 (by omega)
        · exact h.gY 1 (by omega)
    have t := mrg_bnt h n 2 _ _ _ _ _ _ _ (by omega) (by omega) J S' V' L' hm
    refine ⟨?_, t.2⟩
    rw [t.1, hn]
    rfl
  · cases hm

end Go.AI
end
