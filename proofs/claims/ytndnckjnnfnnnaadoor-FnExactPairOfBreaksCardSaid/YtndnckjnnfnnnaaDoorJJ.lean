/- A part of the road: what it proves stands in its last texts. -/
import Derived.Test.YtndnckjnnfnnnaaDoorCtw
import Derived.Test.YtndnckjnnfnnnaaDoorBk15
import Derived.Test.YtndnckjnnfnnnaaDoorJD
import Derived.Test.YtndnckjnnfnnnaaDoorJA
import Derived.Test.YtndnckjnnfnnnaaDoorAiH
import Derived.WalkKit
import Derived.Deep.RegionWith
import Derived.Deep.AppendLies
import Derived.Lib.Hide
import Derived.Test.YtndnckjnnfnnnaaDoorJC
section
/- Walk by hand: an interval is cut up. -/
set_option autoImplicit false
set_option maxRecDepth 100000
set_option linter.unusedVariables false
namespace Go.AI
open Go.Proofs Go.RowKit

theorem Tryd.info9' : (Tryd.prog.info? 9).map (fun i => (i.zero, i.size, i.bytes)) = some (some (.string ⟨#[]⟩), 1, 16) := by kernel_rfl
theorem Tryd.under54' : Tryd.prog.underlying 54 = some (.slice 9) := by kernel_rfl

abbrev strV (L : LL) : List Value := L.map fun a => .string (bs a)

/-- A row of addresses of one's own, in a variable. -/
structure Cel (w : World) (N b : Nat) (v : Value) (L : LL) : Prop where
  cell : w.heap[b]? = some (.cells #[v] 54 (0, 0))
  own : w.ownsRow N t_string 1 v L.length (strV L)

structure CuR (w : World) (N bf bt : Nat) (v u : Value) (F T : LL) : Prop where
  f : Cel w N bf v F
  t : Cel w N bt u T
  nf : N ≤ bf
  nt : N ≤ bt
  ne : bf ≠ bt
  dj : ∀ b, v.ownBlock = some b → u.ownBlock ≠ some b
  fv : ∀ b, v.ownBlock = some b → b ≠ bf ∧ b ≠ bt
  fu : ∀ b, u.ownBlock = some b → b ≠ bf ∧ b ≠ bt

structure FrN (N : Nat) (w w' : World) : Prop where
  os : w'.os = w.os
  tape : w'.tape = w.tape
  output : w'.output = w.output
  size : w.heap.size ≤ w'.heap.size
  block : ∀ k, k < N → w'.heap[k]? = w.heap[k]?

theorem FrN.refl (N : Nat) (w : World) : FrN N w w := ⟨rfl, rfl, rfl, Nat.le_refl _, fun _ _ => rfl⟩
theorem FrN.trans {N : Nat} {w w1 w2 : World} (h : FrN N w w1) (h' : FrN N w1 w2) : FrN N w w2 :=
  ⟨h'.os.trans h.os, h'.tape.trans h.tape, h'.output.trans h.output, Nat.le_trans h.size h'.size, fun k hk => (h'.block k hk).trans (h.block k hk)⟩
theorem FrN.of {N : Nat} {w w1 : World} (h : Fr w [] w1) (hN : N ≤ w.heap.size) : FrN N w w1 :=
  ⟨h.os, h.tape, h.output, h.size, fun k hk => h.block k (by omega) (fun _ hv => by cases hv)⟩

theorem CuR.swap {w : World} {N bf bt : Nat} {v u : Value} {F T : LL} (h : CuR w N bf bt v u F T) : CuR w N bt bf u v T F :=
  ⟨h.t, h.f, h.nt, h.nf, h.ne.symm, fun b hb hv => h.dj b hv hb, fun b hb => (h.fu b hb).symm, fun b hb => (h.fv b hb).symm⟩

theorem cell_lt' {w : World} {b : Nat} {o : Obj} (h : w.heap[b]? = some o) : b < w.heap.size := (Array.getElem?_eq_some_iff.1 h).1

theorem own_lt {w : World} {N s n : Nat} {e : TypeId} {v : Value} {xs : List Value} (h : w.ownsRow N e s v n xs) {b : Nat} (hb : v.ownBlock = some b) : N ≤ b ∧ b < w.heap.size := by
  rcases h.2 with ⟨rfl, _⟩ | ⟨g, cap, cur, rfl, h1, h2, _⟩
  · cases hb
  · simp only [Value.ownBlock, Option.some.injEq] at hb
    subst hb
    exact ⟨h1, cell_lt' h2⟩

theorem own_keep {w w' : World} {N s n : Nat} {e : TypeId} {v : Value} {xs : List Value} (h : w.ownsRow N e s v n xs) (hk : ∀ b, v.ownBlock = some b → w'.heap[b]? = w.heap[b]?) : w'.ownsRow N e s v n xs := by
  refine ⟨h.1, ?_⟩
  rcases h.2 with h2 | ⟨g, cap, cur, rfl, h1, h2, h3⟩
  · exact .inl h2
  · exact .inr ⟨g, cap, cur, rfl, h1, by rw [hk g rfl]; exact h2, h3⟩

theorem own_form {w : World} {N n : Nat} {e : TypeId} {v : Value} {xs : List Value} (h : w.ownsRow N e 1 v n xs) : ∃ ao cap, v = .slice ao n cap := by
  rcases h.2 with ⟨rfl, rfl⟩ | ⟨g, cap, cur, rfl, _⟩
  · exact ⟨_, _, rfl⟩
  · exact ⟨_, _, rfl⟩

theorem CuR.keep {w w' : World} {N bf bt : Nat} {v u : Value} {F T : LL} (h : CuR w N bf bt v u F T) (hk : ∀ b, N ≤ b → b < w.heap.size → w'.heap[b]? = w.heap[b]?) : CuR w' N bf bt v u F T :=
  ⟨⟨by rw [hk bf h.nf (cell_lt' h.f.cell)]; exact h.f.cell, own_keep h.f.own fun b hb => hk b (own_lt h.f.own hb).1 (own_lt h.f.own hb).2⟩,
   ⟨by rw [hk bt h.nt (cell_lt' h.t.cell)]; exact h.t.cell, own_keep h.t.own fun b hb => hk b (own_lt h.t.own hb).1 (own_lt h.t.own hb).2⟩, h.nf, h.nt, h.ne, h.dj, h.fv, h.fu⟩

theorem CuR.fr {w w' : World} {N bf bt : Nat} {v u : Value} {F T : LL} (h : CuR w N bf bt v u F T) (hf : Fr w [] w') : CuR w' N bf bt v u F T :=
  h.keep fun b _ hb => hf.block b hb (fun _ hv => by cases hv)

/-- One more address behind the first variable. -/
theorem CuR.push {w w1 w2 : World} {N bf bt g cap : Nat} {v u : Value} {F T : LL} {a : List UInt8} (h : CuR w N bf bt v u F T) (hf : Fr w [] w1)
    (hg : w1.grownBy w2 v.ownBlock) (hown : w2.ownsRow N t_string 1 (.slice (some ⟨g, 0, none⟩) (F.length + 1) cap) (F.length + 1) (strV F ++ [.string (bs a)]))
    (hat : v.ownBlock = some g ∨ g = w1.heap.size) (hN : N ≤ w.heap.size) :
    CuR (w2.setCell ⟨bf, 0, none⟩ (.slice (some ⟨g, 0, none⟩) (F.length + 1) cap)) N bf bt (.slice (some ⟨g, 0, none⟩) (F.length + 1) cap) u (F ++ [a]) T ∧ FrN N w (w2.setCell ⟨bf, 0, none⟩ (.slice (some ⟨g, 0, none⟩) (F.length + 1) cap)) := by
  have h1 := h.fr hf
  have lf := cell_lt' h1.f.cell
  have lt := cell_lt' h1.t.cell
  have gb : g ≠ bf ∧ g ≠ bt ∧ u.ownBlock ≠ some g := by
    rcases hat with e | e
    · exact ⟨(h.fv g e).1, (h.fv g e).2, h.dj g e⟩
    · refine ⟨by omega, by omega, fun hu => ?_⟩
      have := (own_lt h1.t.own hu).2
      omega
  have kf : w2.heap[bf]? = w1.heap[bf]? := hg.block bf lf (fun e => (h.fv bf e.symm).1 rfl)
  have kt : w2.heap[bt]? = w1.heap[bt]? := hg.block bt lt (fun e => (h.fv bt e.symm).2 rfl)
  have ho : ∀ k, k ≠ bf → (w2.setCell ⟨bf, 0, none⟩ (.slice (some ⟨g, 0, none⟩) (F.length + 1) cap)).heap[k]? = w2.heap[k]? := fun k hk => heap_setCell_other _ _ _ _ hk
  refine ⟨⟨⟨?_, ?_⟩, ⟨?_, ?_⟩, h.nf, h.nt, h.ne, fun b hb hu => ?_, fun b hb => ?_, h.fu⟩, ⟨hg.os.trans hf.os, hg.tape.trans hf.tape, hg.output.trans hf.output, ?_, fun k hk => ?_⟩⟩
  · rw [heap_setCell_same _ _ _ _ _ _ (kf.trans h1.f.cell)]; rfl
  · have e : (F ++ [a]).length = F.length + 1 := by simp
    have e2 : strV (F ++ [a]) = strV F ++ [.string (bs a)] := by simp [strV]
    rw [e, e2]
    exact own_keep hown fun b hb => ho b (by simp only [Value.ownBlock, Option.some.injEq] at hb; subst hb; exact gb.1)
  · rw [ho bt h.ne.symm, kt]; exact h1.t.cell
  · refine own_keep h1.t.own fun b hb => ?_
    have hb' := (own_lt h1.t.own hb).2
    rw [ho b (h.fu b hb).1, hg.block b hb' (fun e => h.dj b e.symm hb)]
  · simp only [Value.ownBlock, Option.some.injEq] at hb
    subst hb
    exact gb.2.2 hu
  · simp only [Value.ownBlock, Option.some.injEq] at hb
    subst hb
    exact ⟨gb.1, gb.2.1⟩
  · rw [World.size_setCell]; exact Nat.le_trans hf.size hg.size
  · have hs := hf.size
    rw [ho k (by have := h.nf; omega), hg.block k (by omega) (fun e => by have := (own_lt h.f.own e.symm).1; omega)]
    exact hf.block k (by omega) (fun _ hv => by cases hv)

/-- The variable itself, after its row has grown. -/
theorem CuR.at1 {w w1 w2 : World} {N bf bt : Nat} {v u : Value} {F T : LL} (h : CuR w N bf bt v u F T) (hf : Fr w [] w1) (hg : w1.grownBy w2 v.ownBlock) : w2.heap[bf]? = some (.cells #[v] 54 (0, 0)) := by
  have h1 := h.fr hf
  rw [hg.block bf (cell_lt' h1.f.cell) (fun e => (h.fv bf e.symm).1 rfl)]
  exact h1.f.cell

theorem cutI_len (acc : List UInt8 → Option (List UInt8)) : ∀ (f : Nat) (a : List UInt8) (st : LL × LL), st.1.length = st.2.length → st.1.length ≤ 9 → (cutI acc f a st).1.1.length = (cutI acc f a st).1.2.length ∧ (cutI acc f a st).1.1.length ≤ 9
  | 0, a, st, h1, h2 => ⟨h1, h2⟩
  | f + 1, a, st, h1, h2 => by
    unfold cutI
    split
    · exact ⟨h1, h2⟩
    · split
      · simp; omega
      · split
        · obtain ⟨i1, i2⟩ := cutI_len acc f (a ++ [48]) st h1 h2
          exact cutI_len acc f _ _ i1 i2
        · exact cutI_len acc f _ _ h1 h2

end Go.AI
end

section
/- Walk by hand: an interval is cut up; the walk. -/
set_option autoImplicit false
set_option maxRecDepth 100000
set_option linter.unusedVariables false
namespace Go.AI
open Go.Proofs Go.RowKit

theorem Fr.alloc' {w w1 : World} (h : Fr w [] w1) (o : Obj) : Fr w [] (w1.alloc o) :=
  ⟨h.os, h.tape, h.output, by show w.heap.size ≤ (w1.heap.push _).size; rw [Array.size_push]; have := h.size; omega, fun k hk hm => by rw [heap_alloc_old w1 _ (Nat.lt_of_lt_of_le hk h.size)]; exact h.block k hk hm⟩

def stA (a : List UInt8) : Nat := plF a 1099511627776 0
def enA (a : List UInt8) : Nat := stA a + 1099511627776 / 2 ^ a.length

/-- What the program says of an interval. -/
def SaysOf (S : List (Nat × Nat)) (acc : List UInt8 → Option (List UInt8)) : Prop := ∀ a, bits01 a → a.length ≤ 8 →
  SC cfg.P i_impl_straight [.s (.v (.sl (.pr (.int .i64) (.int .i64))) (spN S)), .s (.v (.int .i64) ((stA a : Nat) : Int)), .s (.v (.int .i64) ((enA a : Nat) : Int))] (.tup [.v .str (bs ((acc a).getD [])), .v .bool (acc a).isSome]) []

theorem placeOf_C (a : List UInt8) (ha : a.length ≤ 8) (w : World) : Calls Tryd.prog i_impl_placeOf #[.string (bs a)] w fun e w' => e = .returned (.int .i64 ((stA a : Nat) : Int)) ∧ Fr w [] w' := by
  refine ((placeOf_SC a (by omega)).2 w (fun _ => True) [.string (bs a)] [] (fun _ _ v hv => by cases hv) List.Pairwise.nil ⟨_, _, rfl, ⟨[.string (bs a)], rfl, rfl⟩, rfl, rfl⟩).mono ?_
  rintro e w' ⟨v, os, he, hf, _, _, ⟨⟨cs, hcs, hv⟩, _⟩, _⟩
  have : cs = [.int .i64 ((stA a : Nat) : Int)] := hcs
  subst this
  subst hv
  exact ⟨he, hf⟩

theorem straight_C {S : List (Nat × Nat)} {acc : List UInt8 → Option (List UInt8)} (h : SaysOf S acc) (a : List UInt8) (h01 : bits01 a) (ha : a.length ≤ 8) (w : World) (B : Nat → Prop) (lu : Value) (hl : RepV w B (.sl (.pr (.int .i64) (.int .i64))) (spN S) lu) :
    Calls Tryd.prog i_impl_straight #[lu, .int .i64 ((stA a : Nat) : Int), .int .i64 ((enA a : Nat) : Int)] w fun e w' => e = .returned (.tuple #[.string (bs ((acc a).getD [])), .bool (acc a).isSome]) ∧ Fr w [] w' := by
  refine ((h a h01 ha).2 w B [lu, .int .i64 ((stA a : Nat) : Int), .int .i64 ((enA a : Nat) : Int)] [] (fun _ _ v hv => by cases hv) List.Pairwise.nil ⟨_, _, rfl, hl, _, _, rfl, ⟨[_], rfl, rfl⟩, _, _, rfl, ⟨[_], rfl, rfl⟩, rfl, rfl⟩).mono ?_
  rintro e w' ⟨v, os, he, hf, _, _, ⟨vs, rfl, hr⟩, _⟩
  obtain ⟨u, us, o1, o2, rfl, rfl, ⟨⟨c1, h1, rfl⟩, _⟩, u2, us2, o3, o4, rfl, rfl, ⟨⟨c2, h2, rfl⟩, _⟩, rfl, rfl⟩ := hr
  have e1 : c1 = [.string (bs ((acc a).getD []))] := h1
  have e2 : c2 = [.bool (acc a).isSome] := h2
  subst e1
  subst e2
  exact ⟨he, hf⟩

theorem enA_shift (a : List UInt8) (ha : a.length ≤ 8) : wrap64 (((stA a : Nat) : Int) + 1099511627776 / 2 ^ a.length) = ((enA a : Nat) : Int) := by
  have h := iv_le a (by omega)
  have e : (1099511627776 : Int) / 2 ^ a.length = ((1099511627776 / 2 ^ a.length : Nat) : Int) := by
    rw [show ((2 : Int) ^ a.length) = ((2 ^ a.length : Nat) : Int) by rw [Int.natCast_pow]; rfl]; rfl
  rw [e]
  simp only [iv] at h
  unfold enA stA
  generalize 1099511627776 / 2 ^ a.length = q at h ⊢
  generalize plF a 1099511627776 0 = p at h ⊢
  rw [← Int.natCast_add]
  have := w64 (n := ((p + q : Nat) : Int)) (by omega) (by omega)
  rw [IntWalk.i64_left] at this
  exact this

set_option maxHeartbeats 1600000 in
set_option maxRecDepth 1000000 in
theorem cutUp_any (S : List (Nat × Nat)) (acc : List UInt8 → Option (List UInt8)) (hacc : SaysOf S acc) (N bf bt : Nat) (w0 : World) (ao : Option Addr) (ln cp : Nat)
    (hlist : ∀ w' : World, (∀ k, k < N → w'.heap[k]? = w0.heap[k]?) → RepV w' (fun b => b < N) (.sl (.pr (.int .i64) (.int .i64))) (spN S) (.slice ao ln cp)) :
    ∀ (f : Nat) (a : List UInt8) (F T : LL) (w : World) (v u : Value), a.length + f = 9 → bits01 a → F.length = T.length → F.length ≤ 9 → N ≤ w.heap.size → FrN N w0 w → CuR w N bf bt v u F T →
      Calls Tryd.prog i_impl_cutUp #[.slice ao ln cp, .string (bs a), .pointer (some ⟨bf, 0, none⟩), .pointer (some ⟨bt, 0, none⟩)] w fun e w' => ∃ v' u' : Value, e = .returned (.bool (cutI acc f a (F, T)).2) ∧ FrN N w w' ∧ CuR w' N bf bt v' u' (cutI acc f a (F, T)).1.1 (cutI acc f a (F, T)).1.2 := by
  intro f
  induction f with
  | zero =>
    intro a F T w v u hf h01 hlen hl9 hN hfr hC
    have HLEN := Lib.hid hlen
    clear hlen
    obtain ⟨av, cv, rfl⟩ := own_form hC.f.own
    have k1 : w.cell? ⟨bf, 0, none⟩ = some (.slice av F.length cv) := by rw [cell_of_row w bf 0 _ _ (0, 0) hC.f.cell]; rfl
    have HC := Lib.hid hC
    have HL := Lib.hid hlist
    have HA := Lib.hid hacc
    have HF := Lib.hid hfr
    have hs : ((bs a).size : Int) > 8 := by rw [bs_size]; omega
    clear hC hlist hacc hfr
    by_cases h8 : (F.length : Int) > 8
    · go_enter Tryd.func28, Tryd.ntmps28
      go_wp2_with (fail)
      go_ret
      first | exact ⟨rfl, FrN.refl _ _, _, _, HC.out⟩ | exact ⟨_, _, rfl, FrN.refl _ _, HC.out⟩
    · go_enter Tryd.func28, Tryd.ntmps28
      go_wp2_with (fail)
      go_ret
      first | exact ⟨rfl, FrN.refl _ _, _, _, HC.out⟩ | exact ⟨_, _, rfl, FrN.refl _ _, HC.out⟩
  | succ f ih =>
    intro a F T w v u hf h01 hlen hl9 hN hfr hC
    have HLEN := Lib.hid hlen
    clear hlen
    obtain ⟨av, cv, rfl⟩ := own_form hC.f.own
    obtain ⟨au, cu, rfl⟩ := own_form hC.t.own
    have k1 : w.cell? ⟨bf, 0, none⟩ = some (.slice av F.length cv) := by rw [cell_of_row w bf 0 _ _ (0, 0) hC.f.cell]; rfl
    have hs : ¬ (((bs a).size : Int) > 8) := by rw [bs_size]; omega
    have ha8 : a.length ≤ 8 := by omega
    by_cases h8 : (F.length : Int) > 8
    · have e : cutI acc (f + 1) a (F, T) = ((F, T), false) := by unfold cutI; rw [if_pos (by show F.length > 8; omega)]
      rw [e]
      have HC := Lib.hid hC
      clear hC hlist hacc hfr
      go_enter Tryd.func28, Tryd.ntmps28
      go_wp2_with (fail)
      go_ret
      first | exact ⟨rfl, FrN.refl _ _, _, _, HC.out⟩ | exact ⟨_, _, rfl, FrN.refl _ _, HC.out⟩
    · have hpl := placeOf_C a ha8 w
      have HC := Lib.hid hC
      have HL := Lib.hid hlist
      have HA := Lib.hid hacc
      have HF := Lib.hid hfr
      have HI := Lib.hid ih
      have HP := Lib.hid hpl
      have hsz : ((bs a).size : Int) = (a.length : Int) := rfl
      have HE := Lib.hid (enA_shift a ha8)
      clear hC hlist hacc hfr ih hpl
      go_enter Tryd.func28, Tryd.ntmps28
      go_wp2_with (fail)
      refine HP.out.mono ?_
      rintro e w1 ⟨rfl, hf1⟩
      have HF1 := Lib.hid hf1
      clear hf1
      go_wp2_with (fail)
      rw [HE.out]
      refine (straight_C HA.out a h01 ha8 w1 (fun b => b < N) _ ?_).mono ?_
      · exact HL.out w1 fun k hk => (HF1.out.block k (by omega) (fun _ hv => by cases hv)).trans (HF.out.block k hk)
      cases hac : acc a with
      | none =>
        have hc : cutI acc (f + 1) a (F, T) = if (cutI acc f (a ++ [48]) (F, T)).2 = true then cutI acc f (a ++ [49]) (cutI acc f (a ++ [48]) (F, T)).1 else cutI acc f (a ++ [48]) (F, T) := by
          conv => lhs; unfold cutI
          rw [if_neg (by show ¬ F.length > 8; omega), hac]
        have HCI := Lib.hid hc
        rintro e w2 ⟨rfl, hf2⟩
        have HF2 := Lib.hid hf2
        clear hf2 hac hc
        go_wp2_with (fail)
        rw [bs48]
        have h01' : bits01 (a ++ [48]) := fun c hc => by
          rcases List.mem_append.1 hc with hc | hc
          · exact h01 c hc
          · exact .inl (List.mem_singleton.1 hc)
        have h01'' : bits01 (a ++ [49]) := fun c hc => by
          rcases List.mem_append.1 hc with hc | hc
          · exact h01 c hc
          · exact .inr (List.mem_singleton.1 hc)
        have H01 := Lib.hid h01''
        have hcl := cutI_len acc f (a ++ [48]) (F, T) HLEN.out hl9
        have HCL := Lib.hid hcl
        clear hcl h01''
        refine (HI.out (a ++ [48]) F T w2 _ _ (by simp; omega) h01' HLEN.out hl9 ?_ ?_ ((HC.out.fr HF1.out).fr HF2.out)).mono ?_
        · have := HF1.out.size; have := HF2.out.size; omega
        · exact HF.out.trans (FrN.of (HF1.out.trans' HF2.out) hN)
        have HR := Lib.hid (rfl : cutI acc f (a ++ [48]) (F, T) = cutI acc f (a ++ [48]) (F, T))
        generalize hq : cutI acc f (a ++ [48]) (F, T) = q at HCI HCL
        obtain ⟨⟨F', T'⟩, ok⟩ := q
        clear HR
        have HQ := Lib.hid hq
        clear hq
        rintro e w3 ⟨v3, u3, rfl, hf3, hc3⟩
        dsimp only at hc3 ⊢
        have HF3 := Lib.hid hf3
        have HC3 := Lib.hid hc3
        clear hf3 hc3
        have hs3 := HF1.out.size
        have hs3' := HF2.out.size
        have hs3'' := HF3.out.size
        cases ok with
        | true =>
          go_wp2_with (fail)
          rw [bs49]
          refine (HI.out (a ++ [49]) F' T' w3 _ _ (by simp; omega) H01.out HCL.out.1 HCL.out.2 (by omega) ((HF.out.trans (FrN.of (HF1.out.trans' HF2.out) hN)).trans HF3.out) HC3.out).mono ?_
          rintro e w4 ⟨v4, u4, rfl, hf4, hc4⟩
          have HF4 := Lib.hid hf4
          have HC4 := Lib.hid hc4
          clear hf4 hc4
          go_wp2_with (fail)
          go_ret
          have hc : cutI acc (f + 1) a (F, T) = cutI acc f (a ++ [49]) (F', T') := HCI.out.trans (if_pos (by simp))
          rw [hc]
          first | exact ⟨rfl, ((FrN.of (HF1.out.trans' HF2.out) hN).trans HF3.out).trans HF4.out, _, _, HC4.out⟩ | exact ⟨_, _, rfl, ((FrN.of (HF1.out.trans' HF2.out) hN).trans HF3.out).trans HF4.out, HC4.out⟩
        | false =>
          go_wp2_with (fail)
          go_ret
          have hc : cutI acc (f + 1) a (F, T) = ((F', T'), false) := HCI.out.trans (if_neg (by simp))
          rw [hc]
          first | exact ⟨rfl, (FrN.of (HF1.out.trans' HF2.out) hN).trans HF3.out, _, _, HC3.out⟩ | exact ⟨_, _, rfl, (FrN.of (HF1.out.trans' HF2.out) hN).trans HF3.out, HC3.out⟩
      | some b =>
        have hc : cutI acc (f + 1) a (F, T) = ((F ++ [a], T ++ [b]), true) := by
          conv => lhs; unfold cutI
          rw [if_neg (by show ¬ F.length > 8; omega), hac]
        rintro e w2 ⟨rfl, hf2⟩
        have HF2 := Lib.hid hf2
        have HCI := Lib.hid hc
        have hC2 := (HC.out.fr HF1.out).fr HF2.out
        have k2 : w2.cell? ⟨bf, 0, none⟩ = some (.slice av F.length cv) := by rw [cell_of_row w2 bf 0 _ _ (0, 0) hC2.f.cell]; rfl
        have HC2 := Lib.hid hC2
        have hown := (hC2.fr ((Fr.refl' w2).alloc' (.cells #[.string (bs a)] 9))).f.own
        have HOWN := Lib.hid hown
        clear hf2 hac hc hC2 hown
        obtain ⟨i0, hi, hz0, hz1, hz2⟩ := info_parts Tryd.info9'
        have hN2 : N ≤ w2.heap.size := by have := HF1.out.size; have := HF2.out.size; omega
        go_wp2_with (first | (at_builtin; refine wpList_append_lies _ rfl _ _ 54 rfl N 9 i0 (.string ⟨#[]⟩) 1 16 Tryd.under54' hi hz0 hz1 hz2 rfl (by decide) _ _ _ rfl HOWN.out ⟨w2.heap.size, 0, none⟩ 1 1 [.string (bs a)] rfl rfl ?c1 ?c2 (by omega) ?c3 ?c4 ?c5 (w2.heap.size + 1) ?c6 ?_))
        case c1 =>
          intro j u hj
          match j, hj with
          | 0, hj =>
            simp at hj; subst hj
            have e0 := heap_alloc_new w2 (.cells #[.string (bs a)] 9)
            show World.cell? _ ⟨w2.heap.size, 0, none⟩ = _
            rw [cell_of_row _ w2.heap.size 0 _ _ (0, 0) e0]; rfl
        case c2 => intro u hu; simp at hu; subst hu; rfl
        case c3 => unfold maxLen; omega
        case c4 => omega
        case c5 => simp; omega
        case c6 => simp
        intro g5 cap5 w5 hown5 hgrow hat hlt5
        have hF5 : Fr w [] (w2.alloc (.cells #[.string (bs a)] 9)) := (HF1.out.trans' HF2.out).alloc' _
        have hb5 := HC.out.at1 hF5 hgrow
        have k5 : w5.cell? ⟨bf, 0, none⟩ = some (.slice av F.length cv) := by rw [cell_of_row w5 bf 0 _ _ (0, 0) hb5]; rfl
        have z5 : w5.frozen? ⟨bf, 0, none⟩ = false := frozen_of_row w5 bf 0 _ _ hb5
        obtain ⟨hc6, hf6⟩ := HC.out.push hF5 hgrow hown5 (by rcases hat with h | h; exact .inl h; exact .inr (by rw [h]; simp)) hN
        have HC6 := Lib.hid hc6
        have HF6 := Lib.hid hf6
        have k6 : (w5.setCell ⟨bf, 0, none⟩ (.slice (some ⟨g5, 0, none⟩) (F.length + 1) cap5)).cell? ⟨bt, 0, none⟩ = some (.slice au T.length cu) := by rw [cell_of_row _ bt 0 _ _ (0, 0) hc6.t.cell]; rfl
        have hown6 := (hc6.fr ((Fr.refl' _).alloc' (.cells #[.string (bs b)] 9))).t.own
        have HOWN6 := Lib.hid hown6
        have hN6 : N ≤ (w5.setCell ⟨bf, 0, none⟩ (.slice (some ⟨g5, 0, none⟩) (F.length + 1) cap5)).heap.size := Nat.le_trans hN hf6.size
        clear hown5 hgrow hat hlt5 hF5 hb5 hc6 hf6 hown6
        have hl8 : T.length ≤ 8 := by rw [← HLEN.out]; omega
        go_wp2_with (first | (at_builtin; refine wpList_append_lies _ rfl _ _ 54 rfl N 9 i0 (.string ⟨#[]⟩) 1 16 Tryd.under54' hi hz0 hz1 hz2 rfl (by decide) _ _ _ rfl HOWN6.out ⟨_, 0, none⟩ 1 1 [.string (bs b)] rfl rfl ?d1 ?d2 (by omega) ?d3 ?d4 ?d5 _ rfl ?_))
        case d1 =>
          intro j u hj
          match j, hj with
          | 0, hj =>
            simp at hj; subst hj
            have e0 := heap_alloc_new (w5.setCell ⟨bf, 0, none⟩ (.slice (some ⟨g5, 0, none⟩) (F.length + 1) cap5)) (.cells #[.string (bs b)] 9)
            rw [World.size_setCell] at e0
            show World.cell? _ ⟨w5.heap.size, 0, none⟩ = _
            rw [cell_of_row _ w5.heap.size 0 _ _ (0, 0) e0]; rfl
        case d2 => intro u hu; simp at hu; subst hu; rfl
        case d3 => unfold maxLen; omega
        case d4 => omega
        case d5 => simp; simp at hN6; omega
        intro g8 cap8 w8 hown8 hgrow8 hat8 hlt8
        have hF8 := (Fr.refl' (w5.setCell ⟨bf, 0, none⟩ (.slice (some ⟨g5, 0, none⟩) (F.length + 1) cap5))).alloc' (.cells #[.string (bs b)] 9)
        have hb8 := HC6.out.swap.at1 hF8 hgrow8
        have k8 : w8.cell? ⟨bt, 0, none⟩ = some (.slice au T.length cu) := by rw [cell_of_row w8 bt 0 _ _ (0, 0) hb8]; rfl
        have z8 : w8.frozen? ⟨bt, 0, none⟩ = false := frozen_of_row w8 bt 0 _ _ hb8
        obtain ⟨hc9, hf9⟩ := HC6.out.swap.push hF8 hgrow8 hown8 (by rcases hat8 with h | h; exact .inl h; exact .inr (by rw [h]; simp)) hN6
        have hc9 := hc9.swap
        have k9 : (w8.setCell ⟨bt, 0, none⟩ (.slice (some ⟨g8, 0, none⟩) (T.length + 1) cap8)).cell? ⟨bf, 0, none⟩ = some (.slice (some ⟨g5, 0, none⟩) (F.length + 1) cap5) := by rw [cell_of_row _ bf 0 _ _ (0, 0) hc9.f.cell]; rfl
        have HC9 := Lib.hid hc9
        have HF9 := Lib.hid hf9
        have hl9' : ((F.length : Int) + 1 ≤ 9) := by omega
        clear hown8 hgrow8 hat8 hlt8 hF8 hb8 hc9 hf9
        go_wp2_with (fail)
        go_ret
        rw [HCI.out]
        first | exact ⟨rfl, HF6.out.trans HF9.out, _, _, HC9.out⟩ | exact ⟨_, _, rfl, HF6.out.trans HF9.out, HC9.out⟩
end Go.AI
end
