/- Strings as lists of bytes; numbers that fit. -/
import Derived.Test.YtmoodcnoncipiaaAiCfg
set_option autoImplicit false
set_option linter.unusedVariables false
set_option linter.unusedSimpArgs false
namespace Go.AI

/-- A string of bytes. -/
def bs (l : List UInt8) : ByteArray := ⟨l.toArray⟩

theorem bs_ex (s : ByteArray) : ∃ l, s = bs l := ⟨s.data.toList, by obtain ⟨⟨x⟩⟩ := s; rfl⟩
theorem bs_inj {l m : List UInt8} : bs l = bs m ↔ l = m := by
  constructor
  · intro h
    have : (bs l).data.toList = (bs m).data.toList := by rw [h]
    exact this
  · intro h; rw [h]
theorem bs_size (l : List UInt8) : (bs l).size = l.length := rfl
theorem bs_append (l m : List UInt8) : bs l ++ bs m = bs (l ++ m) := by
  have h : (bs l ++ bs m).data.toList = l ++ m := by simp [bs]
  obtain ⟨k, hk⟩ := bs_ex (bs l ++ bs m)
  rw [hk] at h ⊢
  exact congrArg bs h
theorem bs_extract (l : List UInt8) (a b : Nat) : (bs l).extract a b = bs ((l.drop a).take (b - a)) := ByteArray.extract_mk l a b
theorem bs_bt (l : List UInt8) (j : Int) : bt (bs l) j = ((l.getD j.toNat 0).toNat : Int) := by
  simp [bt, bs]

theorem bt_cons (c : UInt8) (l : List UInt8) : bt (bs (c :: l)) 0 = (c.toNat : Int) := by rw [bs_bt]; rfl

theorem byte_eq (c d : UInt8) : ((c.toNat : Int) = (d.toNat : Int)) ↔ c = d := by
  constructor
  · intro h
    have : c.toNat = d.toNat := by omega
    exact UInt8.toNat_inj.mp this
  · intro h; rw [h]

theorem w64 {n : Int} (h0 : -9223372036854775808 ≤ n) (h1 : n ≤ 9223372036854775807) : IntKind.wrap .i64 n = n := IntWalk.i64_in n ⟨h0, h1⟩

/-! ### Trees' texts -/

def txt : Tr → List UInt8
  | .leaf => [46]
  | .node l r => 40 :: (txt l ++ txt r ++ [41])

def Tr.c : Tr → Nat
  | .leaf => 0
  | .node l r => 1 + l.c + r.c

def Tr.h : Tr → Nat
  | .leaf => 0
  | .node l r => 1 + max l.h r.h

theorem txt_len : ∀ t : Tr, (txt t).length = 3 * t.c + 1
  | .leaf => rfl
  | .node l r => by simp only [txt, List.length_cons, List.length_append, txt_len l, txt_len r, Tr.c, List.length_nil]; omega

theorem Tr.h_le : ∀ t : Tr, t.h ≤ t.c
  | .leaf => Nat.le_refl _
  | .node l r => by have := l.h_le; have := r.h_le; simp only [Tr.h, Tr.c]; omega

theorem txt_inj : ∀ (t u : Tr) (a b : List UInt8), txt t ++ a = txt u ++ b → t = u ∧ a = b
  | .leaf, .leaf, a, b, h => by simp [txt] at h; exact ⟨rfl, h⟩
  | .leaf, .node l r, a, b, h => by simp [txt] at h
  | .node l r, .leaf, a, b, h => by simp [txt] at h
  | .node l r, .node l' r', a, b, h => by
    simp only [txt, List.cons_append, List.cons.injEq, true_and, List.append_assoc] at h
    obtain ⟨rfl, h1⟩ := txt_inj l l' _ _ h
    obtain ⟨rfl, h2⟩ := txt_inj r r' _ _ h1
    simp at h2
    exact ⟨rfl, h2⟩

/-- Opening brackets. -/
theorem txt_count : ∀ t : Tr, (txt t).count 40 = t.c
  | .leaf => rfl
  | .node l r => by
    simp only [txt, List.count_cons, List.count_append, txt_count l, txt_count r, Tr.c]
    simp
    omega

/-- Reading a tree, at most so deep. -/
def pd : Nat → List UInt8 → Option (Tr × List UInt8)
  | 0, _ => none
  | _ + 1, [] => none
  | d + 1, c :: r => if c = 46 then some (.leaf, r) else if c = 40 then match pd d r with
      | none => none
      | some (L, r1) => match pd d r1 with
        | none => none
        | some (R, r2) => match r2 with
          | [] => none
          | c2 :: r3 => if c2 = 41 then some (.node L R, r3) else none
    else none

theorem pd_some : ∀ {d : Nat} {l r : List UInt8} {t : Tr}, pd d l = some (t, r) → l = txt t ++ r ∧ t.h < d
  | 0, l, r, t, h => by simp [pd] at h
  | d + 1, [], r, t, h => by simp [pd] at h
  | d + 1, c :: l, r, t, h => by
    simp only [pd] at h
    split at h
    · rename_i hc
      simp at h
      obtain ⟨rfl, rfl⟩ := h
      simp [txt, hc, Tr.h]
    · split at h
      · rename_i hc
        split at h
        · cases h
        · rename_i L r1 h1
          split at h
          · cases h
          · rename_i R r2 h2
            split at h
            · cases h
            · rename_i c2 r3
              split at h
              · rename_i hc2
                simp at h
                obtain ⟨rfl, rfl⟩ := h
                obtain ⟨e1, l1⟩ := pd_some h1
                obtain ⟨e2, l2⟩ := pd_some h2
                subst hc; subst hc2
                refine ⟨by rw [e1, e2]; simp [txt], ?_⟩
                simp only [Tr.h]; omega
              · cases h
      · cases h

theorem pd_txt : ∀ (t : Tr) (d : Nat) (r : List UInt8), t.h < d → pd d (txt t ++ r) = some (t, r)
  | t, 0, r, h => by omega
  | .leaf, d + 1, r, h => by simp [txt, pd]
  | .node L R, d + 1, r, h => by
    simp only [Tr.h] at h
    have h1 := pd_txt L d (txt R ++ ([41] ++ r)) (by omega)
    have h2 := pd_txt R d ([41] ++ r) (by omega)
    have e : txt (.node L R) ++ r = 40 :: (txt L ++ (txt R ++ ([41] ++ r))) := by simp [txt]
    rw [e]
    simp only [pd, h1, h2]
    simp

theorem pd_len {d : Nat} {l r : List UInt8} {t : Tr} (h : pd d l = some (t, r)) : r.length < l.length := by
  rw [(pd_some h).1]
  simp [txt_len]

end Go.AI
