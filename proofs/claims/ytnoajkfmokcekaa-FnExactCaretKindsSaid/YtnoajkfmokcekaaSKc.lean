/- Contracts: trees' texts. -/
import Derived.Test.YtnoajkfmokcekaaSK
import Derived.Test.YtnoajkfmokcekaaAiBase
set_option autoImplicit false
set_option maxRecDepth 100000
set_option linter.unusedVariables false
namespace Go.AI
open Go.Proofs

/-- Where the tree ends that begins at a place. -/
def endOf (l : List UInt8) (k d : Nat) : Int := match pd d (l.drop k) with
  | none => -1
  | some (_, r) => (l.length : Int) - r.length

theorem drop_of {l r : List UInt8} (h : ∃ p, l = p ++ r) : l.drop (l.length - r.length) = r := by
  obtain ⟨p, rfl⟩ := h
  simp

theorem trEnd_SC : ∀ (d : Nat) (l : List UInt8) (k : Nat), d ≤ 61 → l.length ≤ 2 ^ 40 → k ≤ 2 ^ 40 →
    SC cfg.P i_spec_trEnd [.s (.v .str (bs l)), .s (.v (.int .i64) (k : Int)), .s (.v (.int .i64) (61 - d : Int))] (.s (.v (.int .i64) (endOf l k d))) [] := by
  intro d
  induction d with
  | zero =>
    intro l k _ hl hk
    have e : endOf l k 0 = -1 := by simp [endOf, pd]
    rw [e]
    by_cases h : l.length ≤ k
    · exact spec_trEnd_p1 _ _ _ (by rw [bs_size]; omega)
    · exact spec_trEnd_p2 _ _ _ (by rw [bs_size]; omega) (by omega)
  | succ d ih =>
    intro l k hd hl hk
    by_cases h : l.length ≤ k
    · have e : endOf l k (d + 1) = -1 := by simp [endOf, List.drop_eq_nil_of_le h, pd]
      rw [e]
      exact spec_trEnd_p1 _ _ _ (by rw [bs_size]; omega)
    · have hlt : k < l.length := by omega
      obtain ⟨c, r, hcr⟩ : ∃ c r, l.drop k = c :: r := ⟨_, _, (List.drop_eq_getElem_cons hlt)⟩
      have hc : l.getD k 0 = c := by
        have : (l.drop k)[0]? = some c := by rw [hcr]; rfl
        rw [List.getElem?_drop] at this
        simp only [Nat.add_zero] at this
        simp only [List.getD_eq_getElem?_getD, this, Option.getD]
      have hr : l.drop (k + 1) = r := by
        have : (l.drop k).drop 1 = r := by rw [hcr]; rfl
        rw [List.drop_drop] at this
        exact this
      have hrl : r.length + k + 1 = l.length := by
        have := congrArg List.length hcr
        simp at this
        omega
      have hbt : bt (bs l) (k : Int) = (c.toNat : Int) := by rw [bs_bt, Int.toNat_natCast, hc]
      have g1 : ¬ ((k : Int) ≥ ((bs l).size : Int)) := by rw [bs_size]; omega
      have g2 : ¬ ((61 - ((d + 1 : Nat) : Int)) > 60) := by omega
      have g3 : (0 : Int) ≤ k := by omega
      have g4 : (k : Int) < ((bs l).size : Int) := by rw [bs_size]; omega
      have ek : IntKind.wrap .i64 ((k : Int) + 1) = ((k + 1 : Nat) : Int) := by rw [w64] <;> omega
      have ed : IntKind.wrap .i64 ((61 - ((d + 1 : Nat) : Int)) + 1) = (61 - (d : Int)) := by rw [w64] <;> omega
      by_cases h46 : c = 46
      · have e : endOf l k (d + 1) = IntKind.wrap .i64 ((k : Int) + 1) := by
          rw [ek]; simp only [endOf, hcr, pd, h46, if_true]; omega
        rw [e]
        exact spec_trEnd_p3 _ _ _ g1 g2 g3 g4 (by rw [hbt, h46]; rfl)
      · have n46 : bt (bs l) (k : Int) ≠ 46 := by rw [hbt]; intro e; exact h46 ((byte_eq c 46).1 e)
        by_cases h40 : c = 40
        · have y40 : bt (bs l) (k : Int) = 40 := by rw [hbt, h40]; rfl
          have ih1 := ih l (k + 1) (by omega) hl (by omega)
          rw [← ek, ← ed] at ih1
          cases h1 : pd d r with
          | none =>
            have e1 : endOf l (k + 1) d = -1 := by simp only [endOf, hr, h1]
            rw [e1] at ih1
            have e : endOf l k (d + 1) = -1 := by simp [endOf, hcr, pd, h40, h1]
            rw [e]
            exact spec_trEnd_p5 _ _ _ _ g1 g2 g3 g4 n46 y40 ih1 (by omega)
          | some x =>
            obtain ⟨L, r1⟩ := x
            have e1 : endOf l (k + 1) d = ((l.length - r1.length : Nat) : Int) := by
              have := pd_len h1
              simp only [endOf, hr, h1]; omega
            rw [e1] at ih1
            have hpre : ∃ p, l = p ++ r1 := ⟨l.take k ++ (c :: txt L), by
              rw [List.append_assoc, List.cons_append, ← (pd_some h1).1, ← hcr, List.take_append_drop]⟩
            have hdr := drop_of hpre
            have ih2 := ih l (l.length - r1.length) (by omega) hl (by omega)
            rw [← ed] at ih2
            cases h2 : pd d r1 with
            | none =>
              have e2 : endOf l (l.length - r1.length) d = -1 := by simp only [endOf, hdr, h2]
              rw [e2] at ih2
              have e : endOf l k (d + 1) = -1 := by simp [endOf, hcr, pd, h40, h1, h2]
              rw [e]
              exact spec_trEnd_p6 _ _ _ _ _ g1 g2 g3 g4 n46 y40 ih1 (by omega) ih2 (by omega)
            | some y =>
              obtain ⟨R, r2⟩ := y
              have hl2 := pd_len h2
              have hl1 := pd_len h1
              have e2 : endOf l (l.length - r1.length) d = ((l.length - r2.length : Nat) : Int) := by
                simp only [endOf, hdr, h2]; omega
              rw [e2] at ih2
              have hpre2 : ∃ p, l = p ++ r2 := by
                obtain ⟨p, hp⟩ := hpre
                exact ⟨p ++ txt R, by rw [List.append_assoc, ← (pd_some h2).1]; exact hp⟩
              have hdr2 := drop_of hpre2
              cases r2 with
              | nil =>
                have e : endOf l k (d + 1) = -1 := by simp [endOf, hcr, pd, h40, h1, h2]
                rw [e]
                exact spec_trEnd_p7 _ _ _ _ _ g1 g2 g3 g4 n46 y40 ih1 (by omega) ih2 (by omega) (by rw [bs_size]; simp)
              | cons c2 r3 =>
                simp only [List.length_cons] at hl2 hdr2 ih2
                have hlt2 : l.length - (r3.length + 1) < l.length := by omega
                have hc2 : l.getD (l.length - (r3.length + 1)) 0 = c2 := by
                  have : (l.drop (l.length - (r3.length + 1)))[0]? = some c2 := by rw [hdr2]; rfl
                  rw [List.getElem?_drop] at this
                  simp only [Nat.add_zero] at this
                  simp only [List.getD_eq_getElem?_getD, this, Option.getD]
                have hbt2 : bt (bs l) ((l.length - (r3.length + 1) : Nat) : Int) = (c2.toNat : Int) := by rw [bs_bt, Int.toNat_natCast, hc2]
                have g5 : ¬ (((l.length - (r3.length + 1) : Nat) : Int) ≥ ((bs l).size : Int)) := by rw [bs_size]; omega
                have g6 : ((l.length - (r3.length + 1) : Nat) : Int) < ((bs l).size : Int) := by rw [bs_size]; omega
                by_cases h41 : c2 = 41
                · have e : endOf l k (d + 1) = IntKind.wrap .i64 (((l.length - (r3.length + 1) : Nat) : Int) + 1) := by
                    rw [w64] <;> try omega
                    simp only [endOf, hcr, pd, h40, h1, h2, h41]
                    simp
                    omega
                  rw [e]
                  exact spec_trEnd_p9 _ _ _ _ _ g1 g2 g3 g4 n46 y40 ih1 (by omega) ih2 (by omega) g5 (by omega) g6 (by rw [hbt2, h41]; rfl)
                · have e : endOf l k (d + 1) = -1 := by simp [endOf, hcr, pd, h40, h1, h2, h41]
                  rw [e]
                  exact spec_trEnd_p8 _ _ _ _ _ g1 g2 g3 g4 n46 y40 ih1 (by omega) ih2 (by omega) g5 (by omega) g6 (by rw [hbt2]; intro e; exact h41 ((byte_eq c2 41).1 e))
        · have e : endOf l k (d + 1) = -1 := by simp [endOf, hcr, pd, h46, h40]
          rw [e]
          exact spec_trEnd_p4 _ _ _ g1 g2 g3 g4 n46 (by rw [hbt]; intro e; exact h40 ((byte_eq c 40).1 e))

end Go.AI
