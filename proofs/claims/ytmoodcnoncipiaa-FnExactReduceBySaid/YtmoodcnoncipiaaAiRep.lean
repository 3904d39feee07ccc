/- What the values of the abstract interpreter stand for in the model's memory; calls as contracts over them. -/
import Derived.Test.YtmoodcnoncipiaaAiDef
set_option autoImplicit false
namespace Go.AI

inductive SV where
  | v (k : Kd) (x : k.ty)
  | nilsl (e : TypeId) (k : Kd)
  | fadr (k : Kd) (x : k.ty)
  | adr (i : Nat) (f : Option Nat)
  | osl (i ver : Nat)
  | oel (i ver : Nat) (j f : Nat)
  | own (e : TypeId) (k : Kd) (l : List k.ty)
  | mbx (k : Kd) (x : k.ty)
  | msl (e : TypeId) (k : Kd) (l : List k.ty)

inductive AV where
  | s (x : SV)
  | tup (l : List SV)
  | fn (f : FuncId) (first caps : List SV)

/-- An object of the call's own: a box, or a row that a slice is over. -/
inductive Ob where
  | box (k : Kd) (x : k.ty) (frz : Bool)
  | row (e : TypeId) (k : Kd) (l : List k.ty) (ver : Nat) (frz : Bool)

section
variable (w : World) (B : Nat → Prop)

def RepT : Tr → Value → Prop
  | .leaf, v => v = .pointer none
  | .node l r, v => ∃ b o vl vr, v = .pointer (some ⟨b, o, none⟩) ∧ B b ∧ w.cell? ⟨b, o, none⟩ = some vl ∧ w.cell? ⟨b, o + 1, none⟩ = some vr ∧ RepT l vl ∧ RepT r vr

def RowsOf {α : Type} (R : α → List Value → Prop) : List α → List Value → Prop
  | [], cs => cs = []
  | x :: l, cs => ∃ c1 c2, cs = c1 ++ c2 ∧ R x c1 ∧ RowsOf R l c2

/-- The cells that lie at an address. -/
def CellsAt (ad : Addr) (cs : List Value) : Prop := ∀ j u, cs[j]? = some u → w.cell? (ad.add j) = some u

def RepK : (k : Kd) → k.ty → List Value → Prop
  | .int ik, x, cs => cs = [.int ik x]
  | .bool, x, cs => cs = [.bool x]
  | .str, x, cs => cs = [.string x]
  | .tree, t, cs => ∃ v, cs = [v] ∧ RepT w B t v
  | .sl e, l, cs => ∃ a c flat, cs = [.slice a l.length c] ∧ l.length ≤ c ∧ RowsOf (RepK e) l flat ∧ (a = none → l = []) ∧ ∀ ad, a = some ad → ad.spot = none ∧ CellsAt w ad flat ∧ (flat ≠ [] → B ad.block)
  | .pr a b, x, cs => ∃ c1 c2, cs = c1 ++ c2 ∧ RepK a x.1 c1 ∧ RepK b x.2 c2

end

/-- A value out of its cells. -/
def mkV (k : Kd) (cs : List Value) : Value := match k with
  | .pr _ _ => .agg cs.toArray
  | _ => cs.headD undef

def RepV (w : World) (B : Nat → Prop) (k : Kd) (x : k.ty) (v : Value) : Prop := ∃ cs, RepK w B k x cs ∧ v = mkV k cs

def RepA (w : World) (B : Nat → Prop) (k : Kd) (x : k.ty) (v : Value) : Prop :=
  ∃ ad cs, v = .pointer (some ad) ∧ ad.spot = none ∧ RepK w B k x cs ∧ CellsAt w ad cs ∧ B ad.block

/-- A row of the call's own, and its block. -/
def OwnRow (w : World) (B : Nat → Prop) (N : Nat) (e : TypeId) (k : Kd) (l : List k.ty) (v : Value) : Prop :=
  ∃ flat, w.ownsRow N e k.n v l.length flat ∧ RowsOf (RepK w B k) l flat

/-! ### From world to world -/

structure Keeps (w w' : World) (B B' : Nat → Prop) : Prop where
  keep : ∀ b, B b → b < w.heap.size → B' b ∧ w'.heap[b]? = w.heap[b]?

theorem cell_lt {w : World} {a : Addr} {v : Value} (h : w.cell? a = some v) : a.block < w.heap.size := World.block_lt_of_cell? _ _ h

theorem Keeps.cell {w w' : World} {B B' : Nat → Prop} (K : Keeps w w' B B') {a : Addr} {v : Value} (hb : B a.block) (h : w.cell? a = some v) : w'.cell? a = some v := by
  rw [World.cell?_of_block (K.keep _ hb (cell_lt h)).2]; exact h

theorem RepT.keep {w w' : World} {B B' : Nat → Prop} (K : Keeps w w' B B') : ∀ {t : Tr} {v : Value}, RepT w B t v → RepT w' B' t v
  | .leaf, _, h => h
  | .node _ _, _, ⟨b, o, vl, vr, e, hb, h1, h2, hl, hr⟩ =>
    ⟨b, o, vl, vr, e, (K.keep b hb (cell_lt h1)).1, K.cell (a := ⟨b, o, none⟩) hb h1, K.cell (a := ⟨b, o + 1, none⟩) hb h2, hl.keep K, hr.keep K⟩

theorem RowsOf.mono {α : Type} {R R' : α → List Value → Prop} (h : ∀ x cs, R x cs → R' x cs) : ∀ {l : List α} {cs : List Value}, RowsOf R l cs → RowsOf R' l cs
  | [], _, e => e
  | _ :: _, _, ⟨c1, c2, e, h1, h2⟩ => ⟨c1, c2, e, h _ _ h1, h2.mono h⟩

theorem Addr.add_block (a : Addr) (j : Nat) : (a.add j).block = a.block := by unfold Addr.add; split <;> rfl

theorem CellsAt.keep {w w' : World} {B B' : Nat → Prop} (K : Keeps w w' B B') {ad : Addr} {cs : List Value} (hb : cs ≠ [] → B ad.block) (h : CellsAt w ad cs) :
    CellsAt w' ad cs ∧ (cs ≠ [] → B' ad.block) := by
  refine ⟨fun j u hj => ?_, fun hne => ?_⟩
  · have hne : cs ≠ [] := by intro e; subst e; simp at hj
    exact K.cell (by rw [Addr.add_block]; exact hb hne) (h j u hj)
  · cases cs with
    | nil => exact absurd rfl hne
    | cons c l =>
      have h0 := h 0 c rfl
      have := cell_lt h0
      rw [Addr.add_block] at this
      exact (K.keep _ (hb hne) this).1

theorem RepK.keep {w w' : World} {B B' : Nat → Prop} (K : Keeps w w' B B') : ∀ {k : Kd} {x : k.ty} {cs : List Value}, RepK w B k x cs → RepK w' B' k x cs
  | .int _, _, _, h => h
  | .bool, _, _, h => h
  | .str, _, _, h => h
  | .tree, _, _, ⟨v, e, h⟩ => ⟨v, e, h.keep K⟩
  | .sl _, _, _, ⟨a, c, flat, e, hle, hr, hn, hc⟩ => by
    refine ⟨a, c, flat, e, hle, hr.mono (fun x cs h => h.keep K), hn, fun ad had => ?_⟩
    obtain ⟨h0, h1, h2⟩ := hc ad had
    obtain ⟨h3, h4⟩ := CellsAt.keep K h2 h1
    exact ⟨h0, h3, h4⟩
  | .pr _ _, _, _, ⟨c1, c2, e, h1, h2⟩ => ⟨c1, c2, e, h1.keep K, h2.keep K⟩

theorem RepV.keep {w w' : World} {B B' : Nat → Prop} (K : Keeps w w' B B') {k : Kd} {x : k.ty} {v : Value} : RepV w B k x v → RepV w' B' k x v
  | ⟨cs, h, e⟩ => ⟨cs, h.keep K, e⟩

theorem RepK.length {w : World} {B : Nat → Prop} : ∀ {k : Kd} {x : k.ty} {cs : List Value}, RepK w B k x cs → cs.length = k.n
  | .int _, _, _, h => by rw [h]; rfl
  | .bool, _, _, h => by rw [h]; rfl
  | .str, _, _, h => by rw [h]; rfl
  | .tree, _, _, ⟨v, e, _⟩ => by rw [e]; rfl
  | .sl _, _, _, ⟨a, c, flat, e, _⟩ => by rw [e]; rfl
  | .pr _ _, _, _, ⟨c1, c2, e, h1, h2⟩ => by rw [e, List.length_append, h1.length, h2.length]; rfl

theorem Kd.n_pos : ∀ k : Kd, 0 < k.n
  | .int _ | .bool | .str | .tree | .sl _ => Nat.one_pos
  | .pr a b => by have := a.n_pos; simp only [Kd.n]; omega

theorem RepA.keep {w w' : World} {B B' : Nat → Prop} (K : Keeps w w' B B') {k : Kd} {x : k.ty} {v : Value} : RepA w B k x v → RepA w' B' k x v
  | ⟨ad, cs, e, hs, h, hc, hb⟩ => by
    obtain ⟨h1, h2⟩ := CellsAt.keep K (fun _ => hb) hc
    have hne : cs ≠ [] := by intro e; have := h.length; rw [e] at this; have := k.n_pos; simp at *; omega
    exact ⟨ad, cs, e, hs, h.keep K, h1, h2 hne⟩

theorem RowsOf.length {w : World} {B : Nat → Prop} {k : Kd} : ∀ {l : List k.ty} {cs : List Value}, RowsOf (RepK w B k) l cs → cs.length = l.length * k.n
  | [], _, e => by rw [e]; simp
  | _ :: l, _, ⟨c1, c2, e, h1, h2⟩ => by rw [e, List.length_append, h1.length, h2.length]; simp [Nat.add_mul, Nat.add_comm]

theorem RepT.one {w : World} {B : Nat → Prop} {t : Tr} {v : Value} (h : RepT w B t v) : v.oneCell' = true := by
  cases t with
  | leaf => rw [h]; rfl
  | node l r => obtain ⟨b, o, vl, vr, e, _⟩ := h; rw [e]; rfl

theorem RepK.one {w : World} {B : Nat → Prop} : ∀ {k : Kd} {x : k.ty} {cs : List Value}, RepK w B k x cs → ∀ u ∈ cs, u.oneCell' = true
  | .int _, _, _, h, u, hu => by rw [h] at hu; simp at hu; rw [hu]; rfl
  | .bool, _, _, h, u, hu => by rw [h] at hu; simp at hu; rw [hu]; rfl
  | .str, _, _, h, u, hu => by rw [h] at hu; simp at hu; rw [hu]; rfl
  | .tree, _, _, ⟨v, e, h⟩, u, hu => by rw [e] at hu; simp at hu; rw [hu]; exact h.one
  | .sl _, _, _, ⟨a, c, flat, e, _⟩, u, hu => by rw [e] at hu; simp at hu; rw [hu]; rfl
  | .pr _ _, _, _, ⟨c1, c2, e, h1, h2⟩, u, hu => by
    rw [e] at hu
    rcases List.mem_append.1 hu with h | h
    · exact h1.one u h
    · exact h2.one u h

theorem RowsOf.one {w : World} {B : Nat → Prop} {k : Kd} : ∀ {l : List k.ty} {cs : List Value}, RowsOf (RepK w B k) l cs → ∀ u ∈ cs, u.oneCell' = true
  | [], _, e, u, hu => by rw [e] at hu; simp at hu
  | _ :: l, _, ⟨c1, c2, e, h1, h2⟩, u, hu => by
    rw [e] at hu
    rcases List.mem_append.1 hu with h | h
    · exact h1.one u h
    · exact RowsOf.one h2 u h

theorem RowsOf.append {α : Type} {R : α → List Value → Prop} : ∀ {l m : List α} {cs ds : List Value}, RowsOf R l cs → RowsOf R m ds → RowsOf R (l ++ m) (cs ++ ds)
  | [], _, _, _, e, h => by rw [e]; exact h
  | _ :: _, _, _, _, ⟨c1, c2, e, h1, h2⟩, h => ⟨c1, c2 ++ _, by rw [e, List.append_assoc], h1, h2.append h⟩

/-- Where the element number j lies. -/
theorem RowsOf.get {w : World} {B : Nat → Prop} {k : Kd} : ∀ {l : List k.ty} {cs : List Value}, RowsOf (RepK w B k) l cs → ∀ (j : Nat), j < l.length → ∀ d : k.ty,
    RepK w B k (l.getD j d) ((cs.drop (j * k.n)).take k.n)
  | [], _, _, j, hj, _ => by simp at hj
  | x :: l, cs, ⟨c1, c2, e, h1, h2⟩, 0, _, d => by
    subst e
    have := h1.length
    simp [← this]
    exact h1
  | x :: l, cs, ⟨c1, c2, e, h1, h2⟩, j + 1, hj, d => by
    subst e
    have hl := h1.length
    have := RowsOf.get h2 j (by simpa using hj) d
    have e1 : (c1 ++ c2).drop ((j + 1) * k.n) = c2.drop (j * k.n) := by
      rw [List.drop_append, Nat.add_mul, Nat.one_mul, hl]
      simp [hl, List.drop_eq_nil_of_le]
    rw [e1]
    simpa using this

theorem mkV_cells {w : World} {B : Nat → Prop} {k : Kd} {x : k.ty} {cs : List Value} (h : RepK w B k x cs) : (mkV k cs).cells.toList = cs := by
  have h1 := h.one
  cases k with
  | pr a b => rfl
  | _ =>
    have hl := h.length
    match cs, hl with
    | [c], _ =>
      have := h1 c (by simp)
      cases c <;> simp_all [mkV, Value.cells, Value.oneCell']

end Go.AI
