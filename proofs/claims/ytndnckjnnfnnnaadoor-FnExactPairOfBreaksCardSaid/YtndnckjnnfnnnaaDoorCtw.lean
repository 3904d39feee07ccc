/- Walk by hand: the tree whose leaves have some addresses. -/
import Derived.Test.YtndnckjnnfnnnaaDoorPut
import Derived.Test.YtndnckjnnfnnnaaDoorCF
import Derived.Test.YtndnckjnnfnnnaaDoorGZ
import Derived.Lib.Hide
set_option autoImplicit false
set_option maxRecDepth 100000
set_option linter.unusedVariables false
namespace Go.AI
open Go.Proofs Go.RowKit

theorem equal_SC (l m : List ByteArray) (hl : l.length ≤ 2 ^ 40) (hm' : m.length ≤ 2 ^ 40) : SC cfg.P i_slices_Equal [.s (.v (.sl .str) l), .s (.v (.sl .str) m)] (.s (.v .bool (decide (l = m)))) [] := by
  by_cases hlen : l.length = m.length
  · have key : ∀ (n i : Nat), l.length - i = n → i ≤ l.length → (∀ j, j < i → l.getD j ⟨#[]⟩ = m.getD j ⟨#[]⟩) →
        (l = m ∧ LoopSC cfg.P 2 (lb P_slices_Equal 0) (slices_Equal_L0a l m (l.length : Int) (i : Int)) (.exit 0) (slices_Equal_L0X2 l m (l.length : Int) (l.length : Int) false)) ∨
        (l ≠ m ∧ LoopSC cfg.P 2 (lb P_slices_Equal 0) (slices_Equal_L0a l m (l.length : Int) (i : Int)) (.ret) (slices_Equal_L0X1 false)) := by
      intro n
      induction n with
      | zero =>
        intro i hn hi hj
        have e : i = l.length := by omega
        subst e
        refine .inl ⟨?_, slices_Equal_L0a_x3 _ _ _ _ (by omega)⟩
        refine List.ext_getElem hlen fun j h1 h2 => ?_
        have := hj j h1
        rw [List.getD_eq_getElem?_getD, List.getD_eq_getElem?_getD, List.getElem?_eq_getElem h1, List.getElem?_eq_getElem h2] at this
        exact this
      | succ n ih =>
        intro i hn hi hj
        have hlt : i < l.length := by omega
        by_cases he : l.getD i ⟨#[]⟩ = m.getD i ⟨#[]⟩
        · have e2 : ((i + 1 : Nat) : Int) = IntKind.wrap .i64 ((i : Int) + 1) := by rw [w64 (by omega) (by omega)]; omega
          have step := fun (e : AEx) (st : St) => slices_Equal_L0a_i2 l m (l.length : Int) (i : Int) (by omega) (by omega) (by omega) (by omega) (by rw [Int.toNat_natCast]; exact he) (e := e) (st := st)
          rw [← e2] at step
          rcases ih (i + 1) (by omega) (by omega) (fun j h => by
            by_cases q : j = i
            · subst q; exact he
            · exact hj j (by omega)) with ⟨h0, h⟩ | ⟨h0, h⟩
          · exact .inl ⟨h0, step _ _ h⟩
          · exact .inr ⟨h0, step _ _ h⟩
        · exact .inr ⟨fun e => he (by rw [e]), slices_Equal_L0a_x1 l m (l.length : Int) (i : Int) (by omega) (by omega) (by omega) (by omega) (by rw [Int.toNat_natCast]; exact he)⟩
    rcases key l.length 0 rfl (by omega) (fun j h => absurd h (by omega)) with ⟨h0, h⟩ | ⟨h0, h⟩
    · rw [decide_eq_true h0]
      exact slices_Equal_p3 _ _ _ _ _ _ _ (by omega) h
    · rw [decide_eq_false h0]
      exact slices_Equal_p2 _ _ _ (by omega) h
  · rw [decide_eq_false (fun e => hlen (by rw [e]))]
    exact slices_Equal_p1 _ _ (by omega)

theorem Kp.fr {w w' : World} (h : Kp w w' []) : Fr w [] w' := ⟨h.os, h.tape, h.output, h.size, fun k hk _ => h.block k hk (by simp)⟩

theorem Fr.refl' (w : World) : Fr w [] w := ⟨rfl, rfl, rfl, Nat.le_refl _, fun _ _ _ => rfl⟩
theorem Fr.trans' {w w1 w2 : World} (h : Fr w [] w1) (h' : Fr w1 [] w2) : Fr w [] w2 :=
  ⟨h'.os.trans h.os, h'.tape.trans h.tape, h'.output.trans h.output, Nat.le_trans h.size h'.size, fun k hk hm => by rw [h'.block k (Nat.lt_of_lt_of_le hk h.size) hm, h.block k hk hm]⟩
theorem RepV.fr {w w' : World} {B : Nat → Prop} {k : Kd} {x : k.ty} {u : Value} (h : RepV w B k x u) (hf : Fr w [] w') : RepV w' B k x u :=
  RepV.keep ⟨fun b hb hl => ⟨hb, hf.block b hl (fun _ hv => by cases hv)⟩⟩ h
theorem rep_lt {w : World} {B : Nat → Prop} {k : Kd} {x : k.ty} {v : Value} (h : RepV w B k x v) : RepV w (fun b => b < w.heap.size) k x v := RepV.keep ⟨fun b _ hl => ⟨hl, rfl⟩⟩ h

/-- What the loop keeps. -/
structure TRel (w : World) (L : List (List UInt8)) (k : Nat) (T : LT) (wr : World) : Prop where
  le : k ≤ L.length
  lies : T.In wr
  nd : T.bl.Nodup
  new : ∀ b ∈ T.bl, w.heap.size ≤ b
  fr : Fr w [] wr
  tr : T.tr = (L.take k).foldl putT .leaf

theorem TRel.step {w wr w1 : World} {L : List (List UInt8)} {k : Nat} {T T' : LT} {a : List UInt8} (h : TRel w L k T wr) (ha : L[k]? = some a) (hw : Wr wr w1 T T' (putT T.tr a)) : TRel w L (k + 1) T' w1 := by
  have hk := (List.getElem?_eq_some_iff.1 ha).1
  refine ⟨by omega, hw.lies, hw.nd, fun b hb => ?_, ⟨hw.kp.os.trans h.fr.os, hw.kp.tape.trans h.fr.tape, hw.kp.output.trans h.fr.output, Nat.le_trans h.fr.size hw.kp.size, fun j hj hm => ?_⟩, ?_⟩
  · rcases hw.sub b hb with x | x
    · exact h.new b x
    · have := h.fr.size; omega
  · rw [hw.kp.block j (Nat.lt_of_lt_of_le hj h.fr.size) (fun x => by have := h.new j x; omega)]
    exact h.fr.block j hj hm
  · rw [hw.tr, h.tr, List.take_succ_eq_append_getElem hk, List.foldl_append, (List.getElem?_eq_some_iff.1 ha).2]
    rfl

def TRelX (w : World) (L : List (List UInt8)) (v i : Value) (wr : World) : Prop := ∃ (k : Nat) (T : LT), v = T.ptr ∧ i = .int .i64 k ∧ TRel w L k T wr

theorem LT.repT {w : World} {B : Nat → Prop} : ∀ {T : LT}, T.In w → (∀ b ∈ T.bl, B b) → RepT w B T.tr T.ptr
  | .nil, _, _ => rfl
  | .node b l r, ⟨⟨t, h⟩, hl, hr⟩, hB => by
    refine ⟨b, 0, l.ptr, r.ptr, rfl, hB b (by simp [LT.bl]), ?_, ?_, LT.repT hl fun x hx => hB x (by simp [LT.bl, hx]), LT.repT hr fun x hx => hB x (by simp [LT.bl, hx])⟩
    · rw [cell_of_row w b 0 _ t (0, 0) h]; rfl
    · rw [cell_of_row w b 1 _ t (0, 0) h]; rfl

/-- A row that is read: where its elements lie. -/
theorem strs_cells {w : World} {B : Nat → Prop} {L : List (List UInt8)} {u : Value} (h : RepV w B (.sl .str) (strs' L) u) : ∃ ao cap, u = .slice ao L.length cap ∧ (L.length = 0 ∨ ∃ b o, ao = some ⟨b, o, none⟩ ∧ ∀ (j : Nat) (a : List UInt8), L[j]? = some a → w.cell? ⟨b, o + j, none⟩ = some (.string (bs a))) := by
  obtain ⟨cs, ⟨a, c, flat, rfl, hle, hrow, hnil, hc⟩, rfl⟩ := h
  have hlen : (strs' L).length = L.length := List.length_map ..
  have hflat : ∀ {l : List (List UInt8)} {fl : List Value}, RowsOf (RepK w B .str) (strs' l) fl → fl = l.map fun a => .string (bs a) := by
    intro l
    induction l with
    | nil => intro fl h; exact h
    | cons x r ih =>
      intro fl h
      obtain ⟨c1, c2, e, h1, h2⟩ := h
      have e1 : c1 = [.string (bs x)] := h1
      rw [e, e1, ih h2]
      rfl
  refine ⟨a, c, by show Value.slice a (strs' L).length c = _; rw [hlen], ?_⟩
  cases a with
  | none => left; have := hnil rfl; rw [← hlen, this]; rfl
  | some ad =>
    right
    obtain ⟨h0, h1, _⟩ := hc ad rfl
    obtain ⟨b, o, s⟩ := ad
    have hs : s = none := h0
    subst hs
    refine ⟨b, o, rfl, fun j a ha => ?_⟩
    have := h1 j (.string (bs a)) (by rw [hflat hrow, List.getElem?_map, ha]; rfl)
    rw [← this]
    congr 1
    unfold Addr.add
    split <;> simp_all

/-- What comes back. -/
def TwPost (w : World) (L : List (List UInt8)) (e : Ending) (w' : World) : Prop := ∃ (T : LT) (b : Bool), e = .returned (.tuple #[T.ptr, .bool b]) ∧ Fr w [] w' ∧ T.In w' ∧ (∀ x ∈ T.bl, w.heap.size ≤ x) ∧ T.tr = L.foldl putT .leaf ∧ b = decide (strs' (adL (L.foldl putT .leaf) []) = strs' L)

theorem put_c : ∀ (a : List UInt8) (t : Tr), (putT t a).c ≤ t.c + a.length
  | [], t => by cases t <;> simp [putT]
  | c :: a, .leaf => by
    have h := put_c a .leaf
    simp only [putT]
    split <;> simp only [Tr.c, List.length_cons] at * <;> omega
  | c :: a, .node l r => by
    have h1 := put_c a l
    have h2 := put_c a r
    simp only [putT]
    split <;> simp only [Tr.c, List.length_cons] at * <;> omega

theorem puts_c (K : Nat) : ∀ (L : List (List UInt8)) (t : Tr), (∀ a ∈ L, a.length ≤ K) → (L.foldl putT t).c ≤ t.c + L.length * K
  | [], t, _ => by simp
  | a :: r, t, h => by
    rw [List.foldl_cons]
    have h1 := puts_c K r (putT t a) (fun x hx => h x (by simp [hx]))
    have h2 := put_c a t
    have h3 := h a (by simp)
    rw [List.length_cons, Nat.add_mul, Nat.one_mul]
    omega

theorem addr_C (T : LT) (w : World) (h : T.In w) (hc : T.tr.c ≤ 2 ^ 20) : Calls Tryd.prog i_impl_node_addresses #[T.ptr, .string ⟨#[]⟩] w fun e w' => ∃ v, e = .returned v ∧ Fr w [] w' ∧ RepV w' (fun _ => True) (.sl .str) (strs' (adL T.tr [])) v := by
  have hS := (addresses_SC T.tr [] hc (by simp; omega)).2 w (fun _ => True) [T.ptr, .string ⟨#[]⟩] [] (fun _ _ v hv => by cases hv) List.Pairwise.nil
    ⟨_, _, rfl, ⟨[T.ptr], ⟨T.ptr, rfl, LT.repT h (fun _ _ => trivial)⟩, by rw [mkV_one rfl]⟩, _, _, rfl, ⟨[.string ⟨#[]⟩], rfl, rfl⟩, rfl, rfl⟩
  refine hS.mono ?_
  rintro e w' ⟨v, os, he, hf, _, _, ⟨hown, _⟩, _⟩
  exact ⟨v, he, hf, OwnRow.view hown (fun _ _ => trivial) (fun _ _ => trivial)⟩

theorem equal_C (l m : List ByteArray) (hl : l.length ≤ 2 ^ 40) (hm : m.length ≤ 2 ^ 40) (w : World) (u v : Value) (h1 : RepV w (fun _ => True) (.sl .str) l u) (h2 : RepV w (fun _ => True) (.sl .str) m v) :
    Calls Tryd.prog i_slices_Equal #[u, v] w fun e w' => e = .returned (.bool (decide (l = m))) ∧ Fr w [] w' := by
  refine ((equal_SC l m hl hm).2 w (fun _ => True) [u, v] [] (fun _ _ v hv => by cases hv) List.Pairwise.nil ⟨_, _, rfl, h1, _, _, rfl, h2, rfl, rfl⟩).mono ?_
  rintro e w' ⟨v, os, he, hf, _, _, ⟨⟨cs, hcs, hv⟩, _⟩, _⟩
  have : cs = [.bool (decide (l = m))] := hcs
  subst this
  subst hv
  exact ⟨he, hf⟩

set_option maxHeartbeats 1600000 in
set_option maxRecDepth 1000000 in
theorem treeWith_any (L : List (List UInt8)) (hn : L.length ≤ 2 ^ 10) (hL : ∀ a ∈ L, a.length ≤ 2 ^ 9) (w : World) (B : Nat → Prop) (u : Value) (hu : RepV w B (.sl .str) (strs' L) u) :
    Calls Tryd.prog i_impl_treeWith #[u] w (TwPost w L) := by
  obtain ⟨ao, cap, rfl, hcell⟩ := strs_cells hu
  have HU := Lib.hid (rep_lt hu)
  have HC := Lib.hid hcell
  have HL := Lib.hid hL
  have hcc := puts_c (2 ^ 9) L .leaf hL
  have hmul : L.length * 2 ^ 9 ≤ 2 ^ 10 * 2 ^ 9 := Nat.mul_le_mul_right _ hn
  have HCC := Lib.hid (show (L.foldl putT .leaf).c ≤ 2 ^ 20 by simp only [Tr.c] at hcc; omega)
  clear hu hcell hL hcc hmul
  go_enter Tryd.func29, Tryd.ntmps29
  go_wp2_with (fail)
  go_loopw [4, 9] (fun v i wr => TRelX w L v i wr) (fun _ i _ => L.length - (intOf i).toNat)
  case atStart => exact ⟨0, .nil, rfl, rfl, ⟨Nat.zero_le _, trivial, List.nodup_nil, fun b hb => by simp [LT.bl] at hb, Fr.refl' _, rfl⟩⟩
  case round =>
    obtain ⟨k, T, rfl, rfl, hR⟩ := hrel
    by_cases hlt : k < L.length
    · obtain ⟨a, ha⟩ : ∃ a, L[k]? = some a := ⟨_, List.getElem?_eq_getElem hlt⟩
      obtain ⟨b, o, rfl, hc⟩ : ∃ b o, ao = some ⟨b, o, none⟩ ∧ wr.cell? ⟨b, o + k, none⟩ = some (.string (bs a)) := by
        rcases HC.out with h | ⟨b, o, h1, h2⟩
        · omega
        · refine ⟨b, o, h1, ?_⟩
          have := h2 k a ha
          rw [World.cell?_of_block (hR.fr.block b (World.block_lt_of_cell? w _ this) (fun _ hv => by cases hv))]
          exact this
      obtain ⟨pt, hpt⟩ := LT.ptr_pointer T
      have hput := put_any a T wr (by have := HL.out a (List.mem_of_getElem? ha); omega) hR.lies hR.nd
      rw [hpt] at hput ⊢
      have HR := Lib.hid hR
      have HA := Lib.hid ha
      have HPT := Lib.hid hpt
      have HPUT := Lib.hid hput
      clear hR ha hpt hput
      go_wp2_with (fail)
      refine HPUT.out.mono ?_
      rintro e w1 ⟨T', rfl, hw⟩
      have HW := Lib.hid (HR.out.step HA.out hw)
      clear hw
      obtain ⟨pt', hpt'⟩ := LT.ptr_pointer T'
      rw [hpt']
      have HPT' := Lib.hid hpt'
      clear hpt'
      go_wp2_with (fail)
      go_roundw
      case rel => exact ⟨k + 1, T', HPT'.out.symm, by go_num, HW.out⟩
      case measure => simp [intOf]; omega
    · have hk : k = L.length := by have := hR.le; omega
      subst hk
      have htr := hR.tr
      rw [List.take_length] at htr
      have hadd := addr_C T wr hR.lies (by rw [htr]; exact HCC.out)
      obtain ⟨pt, hpt⟩ := LT.ptr_pointer T
      rw [hpt] at hadd ⊢
      have HR := Lib.hid hR
      have HT := Lib.hid htr
      have HPT := Lib.hid hpt
      have HADD := Lib.hid hadd
      clear hR htr hpt hadd
      go_wp2_with (fail)
      refine HADD.out.mono ?_
      rintro e w1 ⟨v, rfl, hf1, hv⟩
      have HF1 := Lib.hid (HR.out.fr.trans' hf1)
      have HI1 : Hid (T.In w1) := Lib.hid (LT.In_keep HR.out.lies fun b hb => hf1.block b (LT.In_lt HR.out.lies b hb) (fun _ hv => by cases hv))
      have hU1 := RepV.keep (w' := w1) (B' := fun _ => True) ⟨fun b hb hl => ⟨trivial, HF1.out.block b hl (fun _ hv => by cases hv)⟩⟩ HU.out
      have heq := equal_C (strs' (adL T.tr [])) (strs' L) (by rw [List.length_map, adL_len, HT.out]; have := HCC.out; omega) (by rw [List.length_map]; omega) w1 v _ hv hU1
      have HEQ := Lib.hid heq
      clear hf1 hv hU1 heq
      go_wp2_with (fail)
      refine HEQ.out.mono ?_
      rintro e w2 ⟨rfl, hf2⟩
      have HF2 := Lib.hid (HF1.out.trans' hf2)
      have HI2 : Hid (T.In w2) := Lib.hid (LT.In_keep HI1.out fun b hb => hf2.block b (LT.In_lt HI1.out b hb) (fun _ hv => by cases hv))
      clear hf2
      go_wp2_with (fail)
      go_ret2
      exact ⟨T, decide (strs' (adL T.tr []) = strs' L), by rw [HPT.out]; rfl, HF2.out, HI2.out, HR.out.new, HT.out, by rw [HT.out]⟩

theorem treeWith_SC (L : List (List UInt8)) (hn : L.length ≤ 2 ^ 10) (hL : ∀ a ∈ L, a.length ≤ 2 ^ 9) : SC cfg.P i_impl_treeWith [.s (.v (.sl .str) (strs' L))] (.tup [.v .tree (L.foldl putT .leaf), .v .bool (decide (strs' (adL (L.foldl putT .leaf) []) = strs' L))]) [] := by
  refine ⟨⟨P_impl_treeWith, get_impl_treeWith, rfl, by decide⟩, ?_⟩
  rintro w B vs mv hB hd ⟨u, us, rfl, hu, rfl, rfl⟩
  refine (treeWith_any L hn hL w B u hu).mono ?_
  rintro e w' ⟨T, b, rfl, hf, hin, hnew, htr, rfl⟩
  refine ⟨_, [], rfl, hf, List.nodup_nil, (fun b hb => by cases hb), ⟨[T.ptr, .bool _], rfl, T.ptr, [.bool _], [], [], rfl, rfl, ⟨⟨[T.ptr], ⟨T.ptr, rfl, ?_⟩, by rw [mkV_one rfl]⟩, rfl⟩, .bool _, [], [], [], rfl, rfl, ⟨⟨[.bool _], rfl, rfl⟩, rfl⟩, rfl, rfl⟩, rfl⟩
  rw [← htr]
  exact LT.repT hin fun x hx => ⟨.inr (hnew x hx), by simp⟩

end Go.AI
