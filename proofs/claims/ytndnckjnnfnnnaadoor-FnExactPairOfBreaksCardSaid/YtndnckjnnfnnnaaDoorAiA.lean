/- A part of the road: what it proves stands in its last texts. -/
import Derived.Calls
import Derived.Orders
import Derived.Laws.AppendOwn
import Derived.Laws.MakeOwn
import Derived.Below
import Derived.Laws.Sem
import Derived.Laws.Tables
import Derived.Laws.Rows
import Derived.Laws.BytesString
section
/- An abstract interpreter over the model's own code: values, what they stand for in memory, states, and the evaluator. -/
set_option autoImplicit false
namespace Go.AI

/-- Binary trees. -/
inductive Tr where
  | leaf
  | node (l r : Tr)
  deriving DecidableEq, Inhabited

def Tr.isLeaf : Tr → Bool
  | .leaf => true
  | .node _ _ => false

/-- Kinds of data. -/
inductive Kd where
  | int (k : IntKind)
  | bool
  | str
  | tree
  | sl (e : Kd)
  | pr (a b : Kd)
  | arr (m : Nat) (e : Kd)
  deriving DecidableEq

@[reducible] def Kd.ty : Kd → Type
  | .int _ => Int
  | .bool => Bool
  | .str => ByteArray
  | .tree => Tr
  | .sl e => List e.ty
  | .pr a b => a.ty × b.ty
  | .arr _ e => List e.ty

/-- How many cells. -/
def Kd.n : Kd → Nat
  | .pr a b => a.n + b.n
  | .arr m e => (m + 2) * e.n
  | _ => 1

def Kd.z : (k : Kd) → k.ty
  | .int _ => (0 : Int)
  | .bool => false
  | .str => (⟨#[]⟩ : ByteArray)
  | .tree => Tr.leaf
  | .sl _ => []
  | .pr a b => (a.z, b.z)
  | .arr m e => List.replicate (m + 2) e.z

/-- Nothing in it leads to memory. -/
def Kd.flat : Kd → Bool
  | .tree => false
  | .sl _ => false
  | .pr a b => a.flat && b.flat
  | .arr _ e => e.flat
  | _ => true

/-- The field number i of a struct, and where it begins. -/
def Kd.sel : (k : Kd) → k.ty → Nat → Option (Σ q : Kd, q.ty)
  | .pr a _, x, 0 => some ⟨a, x.1⟩
  | .pr _ b, x, i + 1 => Kd.sel b x.2 i
  | .int k, x, 0 => some ⟨.int k, x⟩
  | .bool, x, 0 => some ⟨.bool, x⟩
  | .str, x, 0 => some ⟨.str, x⟩
  | .tree, x, 0 => some ⟨.tree, x⟩
  | .sl e, x, 0 => some ⟨.sl e, x⟩
  | _, _, _ => none

def castK {q k : Kd} (h : q = k) (x : q.ty) : k.ty := cast (congrArg Kd.ty h) x

@[simp] theorem castK_rfl {k : Kd} (h : k = k) (x : k.ty) : castK h x = x := rfl

def Kd.upd : (k : Kd) → k.ty → Nat → (q : Kd) → q.ty → Option k.ty
  | .pr a _, x, 0, q, y => if h : q = a then some (castK h y, x.2) else none
  | .pr _ b, x, i + 1, q, y => match Kd.upd b x.2 i q y with
    | some z => some (x.1, z)
    | none => none
  | .int k, _, 0, q, y => if h : q = .int k then some (castK h y) else none
  | .bool, _, 0, q, y => if h : q = .bool then some (castK h y) else none
  | .str, _, 0, q, y => if h : q = .str then some (castK h y) else none
  | .tree, _, 0, q, y => if h : q = .tree then some (castK h y) else none
  | .sl e, _, 0, q, y => if h : q = .sl e then some (castK h y) else none
  | _, _, _, _, _ => none

/-- All cells but a struct's are one cell wide: the field number i is the cell number i. -/
def Kd.thin : Kd → Bool
  | .pr a b => a.n == 1 && b.thin
  | .arr _ _ => false
  | _ => true

def isPr : Kd → Bool
  | .pr _ _ => true
  | .arr _ _ => true
  | _ => false

end Go.AI
end

section
/- What the values of the abstract interpreter stand for in the model's memory; calls as contracts over them. -/
set_option autoImplicit false
namespace Go.AI

inductive SV where
  | v (k : Kd) (x : k.ty)
  | nilsl (e : TypeId) (k : Kd)
  | fadr (k : Kd) (x : k.ty)
  | adr (i : Nat) (f : Option Nat)
  | osl (i ver : Nat)
  | oel (i ver : Nat) (j f : Nat)
  | own (e : TypeId) (k : Kd) (l : List k.ty)
  | mbx (k : Kd) (x : k.ty)
  | msl (e : TypeId) (k : Kd) (l : List k.ty)
  | omp (i : Nat)
  | mmp (k : Kd) (l : List (ByteArray × k.ty))

inductive AV where
  | s (x : SV)
  | tup (l : List SV)
  | fn (f : FuncId) (first caps : List SV)

/-- An object of the call's own: a box, or a row that a slice is over. -/
inductive Ob where
  | box (k : Kd) (x : k.ty) (frz : Bool)
  | row (e : TypeId) (k : Kd) (l : List k.ty) (ver : Nat) (frz : Bool)
  | mp (k : Kd) (l : List (ByteArray × k.ty)) (frz : Bool)

section
variable (w : World) (B : Nat → Prop)

def RepT : Tr → Value → Prop
  | .leaf, v => v = .pointer none
  | .node l r, v => ∃ b o vl vr, v = .pointer (some ⟨b, o, none⟩) ∧ B b ∧ w.cell? ⟨b, o, none⟩ = some vl ∧ w.cell? ⟨b, o + 1, none⟩ = some vr ∧ RepT l vl ∧ RepT r vr

def RowsOf {α : Type} (R : α → List Value → Prop) : List α → List Value → Prop
  | [], cs => cs = []
  | x :: l, cs => ∃ c1 c2, cs = c1 ++ c2 ∧ R x c1 ∧ RowsOf R l c2

/-- The cells that lie at an address. -/
def CellsAt (ad : Addr) (cs : List Value) : Prop := ∀ j u, cs[j]? = some u → w.cell? (ad.add j) = some u

def RepK : (k : Kd) → k.ty → List Value → Prop
  | .int ik, x, cs => cs = [.int ik x]
  | .bool, x, cs => cs = [.bool x]
  | .str, x, cs => cs = [.string x]
  | .tree, t, cs => ∃ v, cs = [v] ∧ RepT w B t v
  | .sl e, l, cs => ∃ a c flat, cs = [.slice a l.length c] ∧ l.length ≤ c ∧ RowsOf (RepK e) l flat ∧ (a = none → l = []) ∧ ∀ ad, a = some ad → ad.spot = none ∧ CellsAt w ad flat ∧ (flat ≠ [] → B ad.block)
  | .pr a b, x, cs => ∃ c1 c2, cs = c1 ++ c2 ∧ RepK a x.1 c1 ∧ RepK b x.2 c2
  | .arr m e, l, cs => List.length (α := e.ty) l = m + 2 ∧ RowsOf (RepK e) l cs

end

/-- A value out of its cells. -/
def mkV (k : Kd) (cs : List Value) : Value := match k with
  | .pr _ _ => .agg cs.toArray
  | .arr _ _ => .agg cs.toArray
  | _ => cs.headD undef

def RepV (w : World) (B : Nat → Prop) (k : Kd) (x : k.ty) (v : Value) : Prop := ∃ cs, RepK w B k x cs ∧ v = mkV k cs

def RepA (w : World) (B : Nat → Prop) (k : Kd) (x : k.ty) (v : Value) : Prop :=
  ∃ ad cs, v = .pointer (some ad) ∧ ad.spot = none ∧ RepK w B k x cs ∧ CellsAt w ad cs ∧ B ad.block

/-- A row of the call's own, and its block. -/
def OwnRow (w : World) (B : Nat → Prop) (N : Nat) (e : TypeId) (k : Kd) (l : List k.ty) (v : Value) : Prop :=
  ∃ flat, w.ownsRow N e k.n v l.length flat ∧ RowsOf (RepK w B k) l flat

/-! ### From world to world -/

structure Keeps (w w' : World) (B B' : Nat → Prop) : Prop where
  keep : ∀ b, B b → b < w.heap.size → B' b ∧ w'.heap[b]? = w.heap[b]?

theorem cell_lt {w : World} {a : Addr} {v : Value} (h : w.cell? a = some v) : a.block < w.heap.size := World.block_lt_of_cell? _ _ h

theorem Keeps.cell {w w' : World} {B B' : Nat → Prop} (K : Keeps w w' B B') {a : Addr} {v : Value} (hb : B a.block) (h : w.cell? a = some v) : w'.cell? a = some v := by
  rw [World.cell?_of_block (K.keep _ hb (cell_lt h)).2]; exact h

theorem RepT.keep {w w' : World} {B B' : Nat → Prop} (K : Keeps w w' B B') : ∀ {t : Tr} {v : Value}, RepT w B t v → RepT w' B' t v
  | .leaf, _, h => h
  | .node _ _, _, ⟨b, o, vl, vr, e, hb, h1, h2, hl, hr⟩ =>
    ⟨b, o, vl, vr, e, (K.keep b hb (cell_lt h1)).1, K.cell (a := ⟨b, o, none⟩) hb h1, K.cell (a := ⟨b, o + 1, none⟩) hb h2, hl.keep K, hr.keep K⟩

theorem RowsOf.mono {α : Type} {R R' : α → List Value → Prop} (h : ∀ x cs, R x cs → R' x cs) : ∀ {l : List α} {cs : List Value}, RowsOf R l cs → RowsOf R' l cs
  | [], _, e => e
  | _ :: _, _, ⟨c1, c2, e, h1, h2⟩ => ⟨c1, c2, e, h _ _ h1, h2.mono h⟩

theorem Addr.add_block (a : Addr) (j : Nat) : (a.add j).block = a.block := by unfold Addr.add; split <;> rfl

theorem CellsAt.keep {w w' : World} {B B' : Nat → Prop} (K : Keeps w w' B B') {ad : Addr} {cs : List Value} (hb : cs ≠ [] → B ad.block) (h : CellsAt w ad cs) :
    CellsAt w' ad cs ∧ (cs ≠ [] → B' ad.block) := by
  refine ⟨fun j u hj => ?_, fun hne => ?_⟩
  · have hne : cs ≠ [] := by intro e; subst e; simp at hj
    exact K.cell (by rw [Addr.add_block]; exact hb hne) (h j u hj)
  · cases cs with
    | nil => exact absurd rfl hne
    | cons c l =>
      have h0 := h 0 c rfl
      have := cell_lt h0
      rw [Addr.add_block] at this
      exact (K.keep _ (hb hne) this).1

theorem RepK.keep {w w' : World} {B B' : Nat → Prop} (K : Keeps w w' B B') : ∀ {k : Kd} {x : k.ty} {cs : List Value}, RepK w B k x cs → RepK w' B' k x cs
  | .int _, _, _, h => h
  | .bool, _, _, h => h
  | .str, _, _, h => h
  | .tree, _, _, ⟨v, e, h⟩ => ⟨v, e, h.keep K⟩
  | .sl _, _, _, ⟨a, c, flat, e, hle, hr, hn, hc⟩ => by
    refine ⟨a, c, flat, e, hle, hr.mono (fun x cs h => h.keep K), hn, fun ad had => ?_⟩
    obtain ⟨h0, h1, h2⟩ := hc ad had
    obtain ⟨h3, h4⟩ := CellsAt.keep K h2 h1
    exact ⟨h0, h3, h4⟩
  | .pr _ _, _, _, ⟨c1, c2, e, h1, h2⟩ => ⟨c1, c2, e, h1.keep K, h2.keep K⟩
  | .arr _ _, _, _, ⟨h1, h2⟩ => ⟨h1, h2.mono (fun x cs h => h.keep K)⟩

theorem RepV.keep {w w' : World} {B B' : Nat → Prop} (K : Keeps w w' B B') {k : Kd} {x : k.ty} {v : Value} : RepV w B k x v → RepV w' B' k x v
  | ⟨cs, h, e⟩ => ⟨cs, h.keep K, e⟩

theorem rows_len {α : Type} {R : α → List Value → Prop} {n : Nat} (h : ∀ x cs, R x cs → cs.length = n) : ∀ {l : List α} {cs : List Value}, RowsOf R l cs → cs.length = l.length * n
  | [], _, e => by rw [e]; simp
  | _ :: l, _, ⟨c1, c2, e, h1, h2⟩ => by rw [e, List.length_append, h _ _ h1, rows_len h h2]; simp [Nat.add_mul, Nat.add_comm]

theorem rows_all {α : Type} {R : α → List Value → Prop} {Q : Value → Prop} (h : ∀ x cs, R x cs → ∀ u ∈ cs, Q u) : ∀ {l : List α} {cs : List Value}, RowsOf R l cs → ∀ u ∈ cs, Q u
  | [], _, e, u, hu => by rw [e] at hu; simp at hu
  | _ :: l, _, ⟨c1, c2, e, h1, h2⟩, u, hu => by
    rw [e] at hu
    rcases List.mem_append.1 hu with h' | h'
    · exact h _ _ h1 u h'
    · exact rows_all h h2 u h'

theorem RepK.length {w : World} {B : Nat → Prop} : ∀ {k : Kd} {x : k.ty} {cs : List Value}, RepK w B k x cs → cs.length = k.n
  | .int _, _, _, h => by rw [h]; rfl
  | .bool, _, _, h => by rw [h]; rfl
  | .str, _, _, h => by rw [h]; rfl
  | .tree, _, _, ⟨v, e, _⟩ => by rw [e]; rfl
  | .sl _, _, _, ⟨a, c, flat, e, _⟩ => by rw [e]; rfl
  | .pr _ _, _, _, ⟨c1, c2, e, h1, h2⟩ => by rw [e, List.length_append, h1.length, h2.length]; rfl
  | .arr _ _, _, _, ⟨h1, h2⟩ => by rw [rows_len (fun _ _ h => RepK.length h) h2, h1]; rfl

theorem Kd.n_pos : ∀ k : Kd, 0 < k.n
  | .int _ | .bool | .str | .tree | .sl _ => Nat.one_pos
  | .pr a b => by have := a.n_pos; simp only [Kd.n]; omega
  | .arr m e => by have := e.n_pos; simp only [Kd.n]; exact Nat.mul_pos (by omega) this

theorem RepA.keep {w w' : World} {B B' : Nat → Prop} (K : Keeps w w' B B') {k : Kd} {x : k.ty} {v : Value} : RepA w B k x v → RepA w' B' k x v
  | ⟨ad, cs, e, hs, h, hc, hb⟩ => by
    obtain ⟨h1, h2⟩ := CellsAt.keep K (fun _ => hb) hc
    have hne : cs ≠ [] := by intro e; have := h.length; rw [e] at this; have := k.n_pos; simp at *; omega
    exact ⟨ad, cs, e, hs, h.keep K, h1, h2 hne⟩

theorem RowsOf.length {w : World} {B : Nat → Prop} {k : Kd} : ∀ {l : List k.ty} {cs : List Value}, RowsOf (RepK w B k) l cs → cs.length = l.length * k.n
  | [], _, e => by rw [e]; simp
  | _ :: l, _, ⟨c1, c2, e, h1, h2⟩ => by rw [e, List.length_append, h1.length, h2.length]; simp [Nat.add_mul, Nat.add_comm]

theorem RepT.one {w : World} {B : Nat → Prop} {t : Tr} {v : Value} (h : RepT w B t v) : v.oneCell' = true := by
  cases t with
  | leaf => rw [h]; rfl
  | node l r => obtain ⟨b, o, vl, vr, e, _⟩ := h; rw [e]; rfl

theorem RepK.one {w : World} {B : Nat → Prop} : ∀ {k : Kd} {x : k.ty} {cs : List Value}, RepK w B k x cs → ∀ u ∈ cs, u.oneCell' = true
  | .int _, _, _, h, u, hu => by rw [h] at hu; simp at hu; rw [hu]; rfl
  | .bool, _, _, h, u, hu => by rw [h] at hu; simp at hu; rw [hu]; rfl
  | .str, _, _, h, u, hu => by rw [h] at hu; simp at hu; rw [hu]; rfl
  | .tree, _, _, ⟨v, e, h⟩, u, hu => by rw [e] at hu; simp at hu; rw [hu]; exact h.one
  | .sl _, _, _, ⟨a, c, flat, e, _⟩, u, hu => by rw [e] at hu; simp at hu; rw [hu]; rfl
  | .pr _ _, _, _, ⟨c1, c2, e, h1, h2⟩, u, hu => by
    rw [e] at hu
    rcases List.mem_append.1 hu with h | h
    · exact h1.one u h
    · exact h2.one u h
  | .arr _ _, _, _, ⟨_, h2⟩, u, hu => rows_all (fun _ _ h => RepK.one h) h2 u hu

theorem RowsOf.one {w : World} {B : Nat → Prop} {k : Kd} : ∀ {l : List k.ty} {cs : List Value}, RowsOf (RepK w B k) l cs → ∀ u ∈ cs, u.oneCell' = true
  | [], _, e, u, hu => by rw [e] at hu; simp at hu
  | _ :: l, _, ⟨c1, c2, e, h1, h2⟩, u, hu => by
    rw [e] at hu
    rcases List.mem_append.1 hu with h | h
    · exact h1.one u h
    · exact RowsOf.one h2 u h

theorem RowsOf.append {α : Type} {R : α → List Value → Prop} : ∀ {l m : List α} {cs ds : List Value}, RowsOf R l cs → RowsOf R m ds → RowsOf R (l ++ m) (cs ++ ds)
  | [], _, _, _, e, h => by rw [e]; exact h
  | _ :: _, _, _, _, ⟨c1, c2, e, h1, h2⟩, h => ⟨c1, c2 ++ _, by rw [e, List.append_assoc], h1, h2.append h⟩

/-- Where the element number j lies. -/
theorem RowsOf.get {w : World} {B : Nat → Prop} {k : Kd} : ∀ {l : List k.ty} {cs : List Value}, RowsOf (RepK w B k) l cs → ∀ (j : Nat), j < l.length → ∀ d : k.ty,
    RepK w B k (l.getD j d) ((cs.drop (j * k.n)).take k.n)
  | [], _, _, j, hj, _ => by simp at hj
  | x :: l, cs, ⟨c1, c2, e, h1, h2⟩, 0, _, d => by
    subst e
    have := h1.length
    simp [← this]
    exact h1
  | x :: l, cs, ⟨c1, c2, e, h1, h2⟩, j + 1, hj, d => by
    subst e
    have hl := h1.length
    have := RowsOf.get h2 j (by simpa using hj) d
    have e1 : (c1 ++ c2).drop ((j + 1) * k.n) = c2.drop (j * k.n) := by
      rw [List.drop_append, Nat.add_mul, Nat.one_mul, hl]
      simp [hl, List.drop_eq_nil_of_le]
    rw [e1]
    simpa using this

theorem mkV_cells {w : World} {B : Nat → Prop} {k : Kd} {x : k.ty} {cs : List Value} (h : RepK w B k x cs) : (mkV k cs).cells.toList = cs := by
  have h1 := h.one
  cases k with
  | pr a b => rfl
  | arr m e => rfl
  | _ =>
    have hl := h.length
    match cs, hl with
    | [c], _ =>
      have := h1 c (by simp)
      cases c <;> simp_all [mkV, Value.cells, Value.oneCell']

end Go.AI
end

section
/- Contracts of calls; the states of the abstract interpreter; the evaluator. -/
set_option autoImplicit false
set_option linter.unusedVariables false
namespace Go.AI

/-! ### Contracts -/

def blk : Value → Option Nat
  | .pointer (some a) => some a.block
  | .slice (some a) _ _ => some a.block
  | .map (some b) => some b
  | _ => none

def SVRep (w : World) (B : Nat → Prop) : SV → Value → Prop
  | .v k x, u => RepV w B k x u
  | .nilsl _ _, u => u = .slice none 0 0
  | .fadr k x, u => RepA w B k x u
  | _, _ => False

def SVsRep (w : World) (B : Nat → Prop) : List SV → List Value → Prop
  | [], vs => vs = []
  | x :: xs, vs => ∃ u us, vs = u :: us ∧ SVRep w B x u ∧ SVsRep w B xs us

def AVRep (w : World) (B : Nat → Prop) : AV → Value → Prop
  | .s x, u => SVRep w B x u
  | .tup l, u => ∃ vs, u = .tuple vs.toArray ∧ SVsRep w B l vs
  | .fn f a b, u => ∃ xs ys, u = .func (.func f) xs.toArray ys.toArray ∧ SVsRep w B a xs ∧ SVsRep w B b ys

/-- A struct of the caller's that is handed over to be changed. -/
def BoxAt (w : World) (B : Nat → Prop) (k : Kd) (x : k.ty) (v : Value) : Prop :=
  ∃ b cs t, v = .pointer (some ⟨b, 0, none⟩) ∧ w.heap[b]? = some (.cells cs.toArray t (0, 0)) ∧ RepK w B k x cs

/-- A plain value of one cell. -/
def valC : (k : Kd) → k.ty → Value
  | .int ik, x => .int ik x
  | .bool, x => .bool x
  | _, _ => undef

def EntsOf (k : Kd) : List (ByteArray × k.ty) → List MapEntry → Prop
  | [], es => es = []
  | p :: l, es => ∃ e r, es = e :: r ∧ e.key = .string p.1 ∧ e.val = valC k p.2 ∧ EntsOf k l r

/-- A map of the call's own, from texts to plain values. -/
def MapAt (w : World) (k : Kd) (l : List (ByteArray × k.ty)) (v : Value) : Prop :=
  ∃ b es clock, v = .map (some b) ∧ w.heap[b]? = some (.map es clock) ∧ EntsOf k l es.toList

/-- What a call may change of its caller's. -/
inductive MO where
  | box (k : Kd) (x : k.ty)
  | row (e : TypeId) (k : Kd) (l : List k.ty)
  | mp (k : Kd) (l : List (ByteArray × k.ty))

def MOAt (w : World) (B : Nat → Prop) : MO → Value → Prop
  | .box k x, v => BoxAt w B k x v
  | .row e k l, v => OwnRow w B 0 e k l v
  | .mp k l, v => MapAt w k l v

def MOsAt (w : World) (B : Nat → Prop) : List MO → List Value → Prop
  | [], vs => vs = []
  | m :: ms, vs => ∃ u us, vs = u :: us ∧ MOAt w B m u ∧ MOsAt w B ms us

def ArgRep (w : World) (B : Nat → Prop) : List AV → List Value → List Value → Prop
  | [], vs, mv => vs = [] ∧ mv = []
  | .s (.mbx k x) :: as, vs, mv => ∃ u us m, vs = u :: us ∧ mv = u :: m ∧ BoxAt w B k x u ∧ ArgRep w B as us m
  | .s (.msl e k l) :: as, vs, mv => ∃ u us m, vs = u :: us ∧ mv = u :: m ∧ OwnRow w B 0 e k l u ∧ ArgRep w B as us m
  | .s (.mmp k l) :: as, vs, mv => ∃ u us m, vs = u :: us ∧ mv = u :: m ∧ MapAt w k l u ∧ ArgRep w B as us m
  | a :: as, vs, mv => ∃ u us, vs = u :: us ∧ AVRep w B a u ∧ ArgRep w B as us mv

def ResS (w : World) (B : Nat → Prop) (N : Nat) : SV → Value → List Nat → Prop
  | .own e k l, u, os => OwnRow w B N e k l u ∧ os = (blk u).toList
  | x, u, os => SVRep w B x u ∧ os = []

def ResL (w : World) (B : Nat → Prop) (N : Nat) : List SV → List Value → List Nat → Prop
  | [], vs, os => vs = [] ∧ os = []
  | x :: xs, vs, os => ∃ u us o1 o2, vs = u :: us ∧ os = o1 ++ o2 ∧ ResS w B N x u o1 ∧ ResL w B N xs us o2

def ResA (w : World) (B : Nat → Prop) (N : Nat) : AV → Value → List Nat → Prop
  | .s x, u, os => ResS w B N x u os
  | .tup l, u, os => ∃ vs, u = .tuple vs.toArray ∧ ResL w B N l vs os
  | .fn f a b, u, os => AVRep w B (.fn f a b) u ∧ os = []

/-- Of what was there only the blocks of 'mv' may have turned. -/
structure Fr (w : World) (mv : List Value) (w' : World) : Prop where
  os : w'.os = w.os
  tape : w'.tape = w.tape
  output : w'.output = w.output
  size : w.heap.size ≤ w'.heap.size
  block : ∀ k, k < w.heap.size → (∀ v ∈ mv, blk v ≠ some k) → w'.heap[k]? = w.heap[k]?

/-- The blocks that what comes back may lead to: what the arguments led to, and new ones that are nobody's own. -/
def After (w : World) (B : Nat → Prop) (os : List Nat) (b : Nat) : Prop := (B b ∨ w.heap.size ≤ b) ∧ b ∉ os

/-- A function of Go's, with a body. -/
def Callable (P : Program) (f : FuncId) : Prop := ∃ fn, P.funcs[f]? = some fn ∧ fn.body.isSome = true ∧ fn.name ≠ "runtime.NumGoroutine"

/-- THE CONTRACT OF A CALL. -/
def SC (P : Program) (f : FuncId) (args : List AV) (r : AV) (outs : List MO) : Prop :=
  Callable P f ∧ ∀ (w : World) (B : Nat → Prop) (vs mv : List Value), (∀ b, B b → ∀ v ∈ mv, blk v ≠ some b) → (mv.map blk).Pairwise (fun a b => a = none ∨ a ≠ b) → ArgRep w B args vs mv →
    Calls P f vs.toArray w fun e w' => ∃ v os, e = .returned v ∧ Fr w mv w' ∧ os.Nodup ∧ (∀ b ∈ os, w.heap.size ≤ b) ∧
      ResA w' (After w B os) w.heap.size r v os ∧ MOsAt w' (After w B os) outs mv

/-- The contract of a call that hands its first argument back. -/
def SCS (P : Program) (f : FuncId) (args : List AV) (x : SV) : Prop :=
  Callable P f ∧ ∀ (w : World) (B : Nat → Prop) (vs : List Value), ArgRep w B args vs [] →
    Calls P f vs.toArray w fun e w' => ∃ u us v, vs = u :: us ∧ e = .returned (.tuple #[u, v]) ∧ Fr w [] w' ∧ SVRep w' B x v

/-! ### States -/

abbrev Obs := List (Option Ob)

structure St where
  sl : List (Option AV)
  ob : Obs

def Obs.obj (ob : Obs) (i : Nat) : Option Ob := ob.getD i none
def Obs.setOb (ob : Obs) (i : Nat) (o : Option Ob) : Obs := List.set ob i o

def St.get (st : St) (t : Nat) : Option AV := st.sl.getD t none
def St.obj (st : St) (i : Nat) : Option Ob := st.ob.obj i
def St.put (st : St) (d : Option Nat) (v : Option AV) : St :=
  match d with
  | some d => ⟨st.sl.set d v, st.ob⟩
  | none => st

/-- The kinds of the program's types. -/
structure Cfg where
  P : Program
  kd : TypeId → Option Kd
  el : TypeId → Option TypeId        -- of a slice type, its elements' type
  tn : TypeId                        -- the nodes' struct type
  eqs : List TypeId                  -- struct types that are compared
  live : FuncId → Nat → List Nat     -- behind which region which slots are wanted still
  mp : TypeId → Option Kd := fun _ => none     -- of a type of maps from texts, the values' kind
  vw : FuncId → Nat → List Nat := fun _ _ => []     -- behind which region which slots' rows are nobody's own any more

inductive AEx where
  | normal
  | ret
  | exit (id : Nat)

inductive It where
  | std
  | bool (d : Bool)
  | res (r : AV) (outs : List MO) (ms ids : List Nat)
  | same (x : SV)
  | trunc
  | loop (g : St → AEx × St)

def lim : Nat := 2 ^ 40

/-! ### Operands -/

def constSV (C : Cfg) (ty : TypeId) : Value → Option SV
  | .int k n => some (.v (.int k) n)
  | .bool b => some (.v .bool b)
  | .string s => some (.v .str s)
  | .pointer none => some (.v .tree .leaf)
  | .slice none 0 0 => match C.kd ty, C.el ty with
    | some (.sl k), some e => some (.nilsl e k)
    | _, _ => none
  | _ => none

def ev (C : Cfg) (sl : List (Option AV)) (ty : TypeId) : Operand → Option AV
  | .tmp t => sl.getD t none
  | .const v => (constSV C ty v).map .s
  | .func f => some (.fn f [] [])
  | .global _ => none

abbrev Ev := TypeId → Operand → Option AV

def evS (ρ : Ev) (ty : TypeId) (x : Operand) : Option SV :=
  match ρ ty x with
  | some (.s v) => some v
  | _ => none

/-- The plain value of what is read, without more. -/
def plain (ob : Obs) : SV → Option SV
  | .v k x => some (.v k x)
  | .nilsl _ k => some (.v (.sl k) [])
  | .fadr k x => some (.fadr k x)
  | .osl i ver => match ob.obj i with
    | some (.row _ k l ver' _) => if ver = ver' then some (.v (.sl k) l) else none
    | _ => none
  | .adr i none => match ob.obj i with
    | some (.box k x _) => some (.fadr k x)
    | _ => none
  | _ => none

/-- What it leads to is nobody's own any more. -/
def frz (ob : Obs) : SV → Obs
  | .osl i _ => match ob.obj i with
    | some (.row e k l ver _) => ob.setOb i (some (.row e k l ver true))
    | _ => ob
  | .adr i _ => match ob.obj i with
    | some (.box k x _) => ob.setOb i (some (.box k x true))
    | _ => ob
  | _ => ob

/-- A value that goes into memory. -/
def esc (ob : Obs) (x : SV) : Option (SV × Obs) :=
  match plain ob x with
  | some y => some (y, frz ob x)
  | none => none

/-- A value of a kind that goes into memory. -/
def escK (ob : Obs) (k : Kd) (x : SV) : Option (k.ty × Obs) :=
  match esc ob x with
  | some (.v q y, ob') => if h : q = k then some (castK h y, ob') else none
  | _ => none

/-! ### Arithmetic -/

def keq : (k : Kd) → k.ty → k.ty → Option Bool
  | .int _, x, y => some (x == y)
  | .bool, x, y => some (x == y)
  | .str, x, y => some (x.toList == y.toList)
  | .pr a b, x, y => match keq a x.1 y.1, keq b x.2 y.2 with
    | some p, some q => some (p && q)
    | _, _ => none
  | _, _, _ => none

/-- Numbers: the value, and what is owed. -/
def abinI (op : BinOp) (k : IntKind) (x y : Int) : Option (SV × List Prop) :=
  match op with
  | .add => some (.v (.int k) (k.wrap (x + y)), [])
  | .sub => some (.v (.int k) (k.wrap (x - y)), [])
  | .mul => some (.v (.int k) (k.wrap (x * y)), [])
  | .quo => some (.v (.int k) (k.wrap (x.tdiv y)), [y ≠ 0])
  | .rem => some (.v (.int k) (x.tmod y), [y ≠ 0])
  | .and => some (.v (.int k) (k.wrap (BitVec.ofInt k.bits x &&& BitVec.ofInt k.bits y).toNat), [])
  | .or => some (.v (.int k) (k.wrap (BitVec.ofInt k.bits x ||| BitVec.ofInt k.bits y).toNat), [])
  | .xor => some (.v (.int k) (k.wrap (BitVec.ofInt k.bits x ^^^ BitVec.ofInt k.bits y).toNat), [])
  | .andNot => some (.v (.int k) (k.wrap (BitVec.ofInt k.bits x &&& ~~~BitVec.ofInt k.bits y).toNat), [])
  | .eql => some (.v .bool (x == y), [])
  | .neq => some (.v .bool (x != y), [])
  | .lss => some (.v .bool (decide (x < y)), [])
  | .leq => some (.v .bool (decide (x ≤ y)), [])
  | .gtr => some (.v .bool (decide (x > y)), [])
  | .geq => some (.v .bool (decide (x ≥ y)), [])
  | _ => none

def abinS (op : BinOp) (x y : ByteArray) : Option (SV × List Prop) :=
  match op with
  | .add => some (.v .str (x ++ y), [x.size + y.size ≤ 2 ^ 62])
  | .eql => some (.v .bool (x.toList == y.toList), [])
  | .neq => some (.v .bool (!(x.toList == y.toList)), [])
  | .lss => some (.v .bool (Op.bytesLess x.toList y.toList), [])
  | .leq => some (.v .bool (Op.bytesLess x.toList y.toList || x.toList == y.toList), [])
  | .gtr => some (.v .bool (!(Op.bytesLess x.toList y.toList || x.toList == y.toList)), [])
  | .geq => some (.v .bool (!Op.bytesLess x.toList y.toList), [])
  | _ => none

def abin (C : Cfg) (op : BinOp) (t : TypeId) : SV → SV → Option (SV × List Prop)
  | .v (.int k) x, .v (.int k') y =>
    match op with
    | .shl => some (.v (.int k) (k.wrap (x * 2 ^ (min y.toNat k.bits))), [0 ≤ y])
    | .shr => some (.v (.int k) (x.fdiv (2 ^ (min y.toNat k.bits))), [0 ≤ y])
    | _ => if k = k' then abinI op k x y else none
  | .v .str x, .v .str y => abinS op x y
  | .v .tree x, .v .tree .leaf => if C.kd t = some .tree then match op with
    | .eql => some (.v .bool x.isLeaf, [])
    | .neq => some (.v .bool (!x.isLeaf), [])
    | _ => none
    else none
  | .v .bool x, .v .bool y => if C.kd t = some .bool then match op with
    | .eql => some (.v .bool (x == y), [])
    | .neq => some (.v .bool (!(x == y)), [])
    | _ => none
    else none
  | .v (.pr a b) x, .v q y => if h : q = .pr a b then (if C.kd t = some (.pr a b) ∧ C.eqs.contains t = true then match op, keq (.pr a b) x (castK h y) with
    | .eql, some p => some (.v .bool p, [])
    | .neq, some p => some (.v .bool (!p), [])
    | _, _ => none
    else none) else none
  | _, _ => none

/-- A test's result, as the script has it. -/
def decided (it : It) : SV × List Prop → Option (SV × List Prop)
  | (.v .bool b, ps) => match it with
    | .std => some (.v .bool b, ps)
    | .bool d => some (.v .bool d, ps ++ [b = d])
    | _ => none
  | r => some r

def isCmp : BinOp → Bool
  | .eql | .neq | .lss | .leq | .gtr | .geq => true
  | _ => false

def strOf (l : List Int) : ByteArray := ⟨(l.map fun n => UInt8.ofNat n.toNat).toArray⟩
def bt (s : ByteArray) (j : Int) : Int := (s.data.getD j.toNat 0).toNat

/-! ### One operation -/

/-- The value at a text: the first entry's. -/
def mget {α : Type} : List (ByteArray × α) → ByteArray → Option α
  | [], _ => none
  | p :: l, s => if s = p.1 then some p.2 else mget l s

/-- A value set at a text. -/
def mput {α : Type} : List (ByteArray × α) → ByteArray → α → List (ByteArray × α)
  | [], s, y => [(s, y)]
  | p :: l, s, y => if s = p.1 then (p.1, y) :: l else p :: mput l s y

/-- What an operation does: the new value of its slot, the objects, what is owed. -/
abbrev Out := Option AV × Obs × List Prop

def newOb (ob : Obs) (d : Nat) (o : Ob) (v : SV) : Option Out :=
  match ob.obj d with
  | none => if d < ob.length then some (some (.s v), ob.setOb d (some o), []) else none
  | some _ => none

/-- A result goes into its slot: what is the call's own becomes an object, if it has a number. -/
def landS (ob : Obs) (ids : List Nat) : SV → Option (SV × List Nat × Obs)
  | .own e k l => match ids with
    | [] => none
    | d :: ids => match ob.obj d with
      | none => if d < ob.length then some (.osl d 0, ids, ob.setOb d (some (.row e k l 0 false))) else none
      | some _ => none
  | .v k x => some (.v k x, ids, ob)
  | .fadr k x => some (.fadr k x, ids, ob)
  | _ => none

def landL (ob : Obs) (ids : List Nat) : List SV → Option (List SV × Obs)
  | [] => some ([], ob)
  | x :: xs => match landS ob ids x with
    | some (y, ids', ob') => match landL ob' ids' xs with
      | some (ys, ob'') => some (y :: ys, ob'')
      | none => none
    | none => none

def landA (ob : Obs) (ids : List Nat) : AV → Option (AV × Obs)
  | .s x => match landS ob ids x with
    | some (y, _, ob') => some (.s y, ob')
    | none => none
  | .tup l => match landL ob ids l with
    | some (ys, ob') => some (.tup ys, ob')
    | none => none
  | .fn f a b => some (.fn f a b, ob)

def mapO {α β : Type} (f : α → Option β) : List α → Option (List β)
  | [] => some []
  | x :: xs => match f x, mapO f xs with
    | some y, some ys => some (y :: ys)
    | _, _ => none

def SV.flat : SV → Bool
  | .v k _ => k.flat
  | .own _ k _ => k.flat
  | _ => false

def AV.flat : AV → Bool
  | .s x => x.flat
  | .tup l => l.all SV.flat
  | .fn .. => false

/-- The arguments of a call: each as it is handed over. -/
def argAV (ob : Obs) (ms : List Nat) (i : Nat) : AV → Option AV
  | .s (.adr j none) => match ob.obj j with
    | some (.box k x false) => some (.s (.mbx k x))
    | some (.box k x true) => some (.s (.fadr k x))
    | _ => none
  | .s (.osl j ver) => match ob.obj j with
    | some (.row e k l ver' fz) => if ver = ver' then (if ms.contains i then (if fz then none else some (.s (.msl e k l))) else some (.s (.v (.sl k) l))) else none
    | _ => none
  | .s (.omp j) => match ob.obj j with
    | some (.mp k l false) => some (.s (.mmp k l))
    | _ => none
  | .s x => (plain ob x).map .s
  | .tup _ => none
  | .fn f a b => some (.fn f a b)

def argsAV (ob : Obs) (ms : List Nat) : Nat → List AV → Option (List AV)
  | _, [] => some []
  | i, a :: as => match argAV ob ms i a, argsAV ob ms (i + 1) as with
    | some x, some xs => some (x :: xs)
    | _, _ => none

def castM {q k : Kd} (h : q = k) (l : List (ByteArray × q.ty)) : List (ByteArray × k.ty) := h ▸ l

@[simp] theorem castM_rfl {k : Kd} (h : k = k) (l : List (ByteArray × k.ty)) : castM h l = l := rfl

/-- What was handed over to be changed is changed. -/
def setMO (ob : Obs) (j : Nat) : MO → Option Obs
  | .box k' x' => match ob.obj j with
    | some (.box k _ false) => if h : k' = k then some (ob.setOb j (some (.box k (castK h x') false))) else none
    | _ => none
  | .row e' k' l' => match ob.obj j with
    | some (.row e k l ver false) => if h : k' = k then (if e' = e then some (ob.setOb j (some (.row e k (castK (k := .sl k) (q := .sl k') (congrArg Kd.sl h) l') ver false))) else none) else none
    | _ => none
  | .mp k' l' => match ob.obj j with
    | some (.mp k _ false) => if h : k' = k then some (ob.setOb j (some (.mp k (castM h l') false))) else none
    | _ => none

/-- The slices among the arguments are nobody's own any more. -/
def frzAll (ob : Obs) : List AV → Obs
  | [] => ob
  | .s (.osl i v) :: as => frzAll (frz ob (.osl i v)) as
  | _ :: as => frzAll ob as

def frzs (ob : Obs) : List SV → Obs
  | [] => ob
  | x :: xs => frzs (frz ob x) xs

def evArgs (ρ : Ev) : List Operand → List TypeId → Option (List AV)
  | [], _ => some []
  | x :: xs, ts => match ρ (ts.headD 0) x, evArgs ρ xs ts.tail with
    | some y, some ys => some (y :: ys)
    | _, _ => none

/-- The objects that are handed over to be changed, and those that are read. -/
def mutIds (ob : Obs) (ms : List Nat) : Nat → List AV → List Nat
  | _, [] => []
  | i, .s (.adr j none) :: as => match ob.obj j with
    | some (.box _ _ false) => j :: mutIds ob ms (i + 1) as
    | _ => mutIds ob ms (i + 1) as
  | i, .s (.osl j _) :: as => if ms.contains i then j :: mutIds ob ms (i + 1) as else mutIds ob ms (i + 1) as
  | i, .s (.omp j) :: as => j :: mutIds ob ms (i + 1) as
  | i, _ :: as => mutIds ob ms (i + 1) as

/-- Those that are read. -/
def roIds (ob : Obs) (ms : List Nat) : Nat → List AV → List Nat
  | _, [] => []
  | i, .s (.adr j none) :: as => match ob.obj j with
    | some (.box _ _ false) => roIds ob ms (i + 1) as
    | _ => j :: roIds ob ms (i + 1) as
  | i, .s (.osl j _) :: as => if ms.contains i then roIds ob ms (i + 1) as else j :: roIds ob ms (i + 1) as
  | i, _ :: as => roIds ob ms (i + 1) as

def MO.flat : MO → Bool
  | .box k _ => k.flat
  | .row _ k _ => k.flat
  | .mp k _ => k.flat

def callFrz (ob : Obs) (as : List AV) (r : AV) (outs : List MO) : Obs := if r.flat && outs.all MO.flat then ob else frzAll ob as

def callMut (ob ob1 : Obs) (ms : List Nat) (as : List AV) (outs : List MO) : Option Obs :=
  match mutIds ob ms 0 as, outs with
  | [], [] => some ob1
  | [j], [mo] => if (roIds ob ms 0 as).contains j then none else setMO ob1 j mo
  | _, _ => none

def callStep (C : Cfg) (it : It) (f : FuncId) (as : List AV) (ob : Obs) : Option Out :=
  match it with
  | .res r outs ms ids =>
    match argsAV ob ms 0 as with
    | none => none
    | some xs =>
      match callMut ob (callFrz ob as r outs) ms as outs with
      | none => none
      | some ob2 => match landA ob2 ids r with
        | none => none
        | some (y, ob3) => some (some y, ob3, [SC C.P f xs r outs])
  | .same x => match as, argsAV ob [] 0 as, mutIds ob [] 0 as with
    | .s (.osl j ver) :: _, some xs, [] => if x.flat = true then some (some (.tup [.osl j ver, x]), ob, [SCS C.P f xs x]) else none
    | _, _, _ => none
  | _ => none

def sizeOK (n : Nat) : Prop := n ≤ lim

def parts (ob : Obs) (k : Kd) (x : k.ty) : List (Nat × SV) → Option (k.ty × Obs)
  | [] => some (x, ob)
  | (i, y) :: ps => match esc ob y with
    | some (.v q z, ob') => match k.upd x i q z with
      | some x' => parts ob' k x' ps
      | none => none
    | _ => none

def elems (ob : Obs) (k : Kd) (l : List k.ty) : List (Nat × SV) → Option (List k.ty × Obs)
  | [] => some (l, ob)
  | (i, y) :: ps => match escK ob k y with
    | some (z, ob') => if i < l.length then elems ob' k (l.set i z) ps else none
    | none => none

def evParts (ρ : Ev) : List (Nat × Operand) → Option (List (Nat × SV))
  | [] => some []
  | (i, x) :: ps => match evS ρ 0 x, evParts ρ ps with
    | some y, some ys => some ((i, y) :: ys)
    | _, _ => none

/-- A cut of a list. -/
def cutL {α : Type} (l : List α) (lo hi : Int) : List α := (l.take hi.toNat).drop lo.toNat

/-- The bounds of a cut: below, above; what is owed. -/
def bounds (n : Nat) (lo hi : Bool) (xs : List SV) : Option (Int × Int × List Prop) :=
  match lo, hi, xs with
  | false, false, [] => some (0, n, [])
  | true, false, [.v (.int .i64) l] => some (l, n, [0 ≤ l, l ≤ (n : Int)])
  | false, true, [.v (.int .i64) h] => some (0, h, [0 ≤ h, h ≤ (n : Int)])
  | true, true, [.v (.int .i64) l, .v (.int .i64) h] => some (l, h, [0 ≤ l, l ≤ h, h ≤ (n : Int)])
  | _, _, _ => none

def maxI (x y : Int) : Int := if y > x then y else x

/-- Operations over plain values: nothing of the call's own is read. -/
def apure (C : Cfg) (it : It) (op : Op) (xs : List SV) : Option (SV × List Prop) :=
  match op with
  | .load t _ => match xs with
    | [.fadr k x] => if C.kd t = some k then some (.v k x, []) else none
    | [.v .tree (.node l r)] => if t = C.tn then some (.v (.pr .tree .tree) (l, r), []) else none
    | _ => none
  | .binOp bo t _ _ _ => match xs with
    | [a, b] => match abin C bo t a b with
      | some r => if isCmp bo then decided it r else some r
      | none => none
    | _ => none
  | .unOp uo _ _ => match uo, xs with
    | .not, [.v .bool b] => some (.v .bool (!b), [])
    | .neg, [.v (.int k) n] => some (.v (.int k) (k.wrap (0 - n)), [])
    | _, _ => none
  | .convert s t _ => match xs, C.kd s, C.kd t with
    | [.v (.int _) n], some (.int _), some (.int k') => some (.v (.int k') (k'.wrap n), [])
    | [.v (.sl (.int .u8)) l], some (.sl (.int .u8)), some .str => match C.el s with
      | some e => if C.kd e = some (.int .u8) then some (.v .str (strOf l), []) else none
      | none => none
    | _, _, _ => none
  | .slice t _ lo hi none => match xs, C.kd t with
    | .v .str s :: ys, some .str => match bounds s.size lo.isSome hi.isSome ys with
      | some (l, h, ps) => some (.v .str (s.extract l.toNat h.toNat), ps)
      | none => none
    | .v (.sl k) m :: ys, some (.sl k') => if k = k' then match bounds (List.length m) lo.isSome hi.isSome ys with
        | some (l, h, ps) => some (.v (.sl k) (cutL m l h), ps)
        | none => none
      else none
    | _, _ => none
  | .fieldAddr s _ f => match xs with
    | [.v .tree (.node l r)] => if s = C.tn then match f with
        | 0 => some (.fadr .tree l, [])
        | 1 => some (.fadr .tree r, [])
        | _ => none
      else none
    | [.fadr k y] => match k.sel y f with
      | some ⟨q, z⟩ => if C.kd s = some k ∧ isPr k = true ∧ k.thin = true then some (.fadr q z, []) else none
      | none => none
    | _ => none
  | .field s _ f => match xs with
    | [.v k y] => match k.sel y f with
      | some ⟨q, z⟩ => if C.kd s = some k ∧ isPr k = true ∧ k.thin = true then some (.v q z, []) else none
      | none => none
    | _ => none
  | .indexAddr t _ _ => match xs, C.kd t with
    | [.v (.sl k) l, .v (.int _) j], some (.sl k') => if k = k' then some (.fadr k (List.getD l j.toNat k.z), [0 ≤ j, j < (List.length l : Int)]) else none
    | [.fadr (.arr m k) l, .v (.int _) j], some (.arr m' k') => if m = m' ∧ k = k' then some (.fadr k (List.getD (α := k.ty) l j.toNat k.z), [0 ≤ j, j < ((m + 2 : Nat) : Int)]) else none
    | _, _ => none
  | .index t _ _ => match xs, C.kd t with
    | [.v .str s, .v (.int _) j], some .str => some (.v (.int .u8) (bt s j), [0 ≤ j, j < (s.size : Int)])
    | [.v (.arr m k) l, .v (.int _) j], some (.arr m' k') => if m = m' ∧ k = k' then some (.v k (List.getD (α := k.ty) l j.toNat k.z), [0 ≤ j, j < ((m + 2 : Nat) : Int)]) else none
    | _, _ => none
  | .call { callee := .builtin .len, args, argTypes } => match xs, args.size, C.kd (argTypes.getD 0 0), argTypes.size with
    | [.v .str s], 1, some .str, 1 => some (.v (.int .i64) s.size, [])
    | [.v (.sl k) l], 1, some (.sl _), 1 => some (.v (.int .i64) (List.length l), [])
    | [.nilsl _ _], 1, some (.sl _), 1 => some (.v (.int .i64) (0 : Int), [])
    | _, _, _, _ => none
  | .call { callee := .builtin .max, .. } => match xs with
    | [.v (.int .i64) x, .v (.int .i64) y] => some (.v (.int .i64) (maxI x y), [])
    | _ => none
  | _ => none

def isAlias : SV → Bool
  | .adr _ _ | .osl _ _ | .oel _ _ _ _ | .omp _ => true
  | _ => false

/-- The plain values of operands, whatever is read. -/
def plains (ob : Obs) : List SV → Option (List SV)
  | [] => some []
  | x :: xs => match plain ob x, plains ob xs with
    | some y, some ys => some (y :: ys)
    | _, _ => none

def evSs (ρ : Ev) : List Operand → Option (List SV)
  | [] => some []
  | x :: xs => match evS ρ 0 x, evSs ρ xs with
    | some y, some ys => some (y :: ys)
    | _, _ => none

def appendStep (C : Cfg) (d : Nat) (t : TypeId) (x y : SV) (ob : Obs) : Option Out :=
  match C.el t, x with
  | some e, .nilsl e' k => match plain ob y with
    | some (.v q m) => if h : q = .sl k then
        if e = e' ∧ C.kd e = some k then match ob.obj d with
          | none => if d < ob.length then some (some (.s (.osl d 0)), ob.setOb d (some (.row e k (castK h m) 0 false)), [sizeOK (List.length (α := k.ty) (castK h m))]) else none
          | some _ => none
        else none
      else none
    | _ => none
  | some e, .osl i ver => match ob.obj i, plain ob y with
    | some (.row e' k l ver' false), some (.v q m) => if h : q = .sl k then
        if ver = ver' ∧ e = e' ∧ C.kd e = some k then
          some (some (.s (.osl i (ver + 1))), ob.setOb i (some (.row e k (l ++ (castK h m)) (ver + 1) false)), [sizeOK (l.length + List.length (α := k.ty) (castK h m))])
        else none
      else none
    | _, _ => none
  | _, _ => none

/-- A store. -/
def storeStep (C : Cfg) (t : TypeId) (a y : SV) (ob : Obs) : Option Out :=
  match a with
  | .adr i none => match ob.obj i with
    | some (.box k _ false) => match escK ob k y with
      | some (z, ob') => match ob'.obj i with
        | some (.box _ _ false) => if C.kd t = some k then some (none, ob'.setOb i (some (.box k z false)), []) else none
        | _ => none
      | none => none
    | _ => none
  | .adr i (some f) => match ob.obj i with
    | some (.box k x false) => match esc ob y with
      | some (.v q z, ob') => match k.upd x f q z, ob'.obj i with
        | some x', some (.box _ _ false) => if C.kd t = some q ∧ k.thin then some (none, ob'.setOb i (some (.box k x' false)), []) else none
        | _, _ => none
      | _ => none
    | _ => none
  | .oel i ver j 0 => match ob.obj i with
    | some (.row e k l ver' false) => if ver = ver' then match escK ob k y with
        | some (z, ob') => match ob'.obj i with
          | some (.row _ _ _ _ false) => if C.kd t = some k then some (none, ob'.setOb i (some (.row e k (l.set j z) ver' false)), [j < l.length]) else none
          | _ => none
        | none => none
      else none
    | _ => none
  | .oel i ver j (f + 1) => match ob.obj i with
    | some (.row e k l ver' false) => if ver = ver' then match esc ob y with
        | some (.v q z, ob') => match k.upd (l.getD j k.z) f q z, ob'.obj i with
          | some x', some (.row _ _ _ _ false) => if C.kd t = some q ∧ k.thin then some (none, ob'.setOb i (some (.row e k (l.set j x') ver' false)), [j < l.length]) else none
          | _, _ => none
        | _ => none
      else none
    | _ => none
  | _ => none

/-- What reads the call's own objects. -/
def aliasStep (C : Cfg) (it : It) (op : Op) (xs : List SV) (ob : Obs) : Option Out :=
  match op with
  | .load t _ => match xs with
    | [.adr i none] => match ob.obj i with
      | some (.box k x _) => if C.kd t = some k then some (some (.s (.v k x)), ob, []) else none
      | _ => none
    | [.adr i (some f)] => match ob.obj i with
      | some (.box k x _) => match k.sel x f with
        | some ⟨q, y⟩ => if C.kd t = some q ∧ k.thin then some (some (.s (.v q y)), ob, []) else none
        | none => none
      | _ => none
    | [.oel i ver j 0] => match ob.obj i with
      | some (.row _ k l ver' _) => if ver = ver' ∧ C.kd t = some k then some (some (.s (.v k (l.getD j k.z))), ob, [j < l.length]) else none
      | _ => none
    | [.oel i ver j (f + 1)] => match ob.obj i with
      | some (.row _ k l ver' _) => match k.sel (l.getD j k.z) f with
        | some ⟨q, y⟩ => if ver = ver' ∧ C.kd t = some q ∧ k.thin then some (some (.s (.v q y)), ob, [j < l.length]) else none
        | none => none
      | _ => none
    | _ => none
  | .fieldAddr s _ f => match xs with
    | [.oel i ver j 0] => match ob.obj i with
      | some (.row _ k l ver' _) => match k.sel (l.getD j k.z) f with
        | some _ => if ver = ver' ∧ C.kd s = some k ∧ isPr k = true ∧ k.thin = true then some (some (.s (.oel i ver j (f + 1))), ob, []) else none
        | none => none
      | _ => none
    | [.adr i none] => match ob.obj i with
      | some (.box k x _) => match k.sel x f with
        | some _ => if C.kd s = some k ∧ isPr k = true ∧ k.thin = true then some (some (.s (.adr i (some f))), ob, []) else none
        | none => none
      | _ => none
    | _ => none
  | .indexAddr t _ _ => match xs, C.kd t with
    | [.osl i ver, .v (.int _) j], some (.sl k') => match ob.obj i with
      | some (.row _ k l ver' _) => if ver = ver' ∧ k = k' then some (some (.s (.oel i ver j.toNat 0)), ob, [0 ≤ j, j < (l.length : Int)]) else none
      | _ => none
    | [.adr i none, .v (.int ik) j], some (.arr _ _) => match plain ob (.adr i none) with
      | some y => match apure C it op [y, .v (.int ik) j] with
        | some (z, ps) => some (some (.s z), frz ob (.adr i none), ps)
        | none => none
      | none => none
    | _, _ => none
  | .slice t _ lo hi none => match xs, it with
    | .osl i ver :: ys, .trunc => match ob.obj i, lo, C.kd t with
      | some (.row e k m ver' false), none, some (.sl k') => if ver = ver' ∧ k = k' then match bounds m.length false hi.isSome ys with
          | some (_, h, ps) => some (some (.s (.osl i (ver + 1))), ob.setOb i (some (.row e k (m.take h.toNat) (ver + 1) false)), ps)
          | none => none
        else none
      | _, _, _ => none
    | .osl i ver :: ys, _ => match plain ob (.osl i ver) with
      | some y => match apure C it op (y :: ys) with
        | some (z, ps) => some (some (.s z), frz ob (.osl i ver), ps)
        | none => none
      | none => none
    | _, _ => none
  | .convert .. => match plains ob xs with
    | some ys => match apure C it op ys with
      | some (z, ps) => some (some (.s z), ob, ps)
      | none => none
    | none => none
  | .call { callee := .builtin .len, .. } => match plains ob xs with
    | some ys => match apure C it op ys with
      | some (z, ps) => some (some (.s z), ob, ps)
      | none => none
    | none => none
  | _ => none

def moveStep (ρ : Ev) (ob : Obs) (ty : TypeId) (x : Operand) : Option Out :=
  some (ρ ty x, ob, [])

/-- A value is set in a map. -/
def mputStep (C : Cfg) (t : TypeId) (m s y : SV) (ob : Obs) : Option Out :=
  match m, s, y with
  | .omp i, .v .str s, .v q y => match ob.obj i with
    | some (.mp k l false) => if h : q = k then (if C.mp t = some k then some (none, ob.setOb i (some (.mp k (mput l s (castK h y)) false)), []) else none) else none
    | _ => none
  | _, _, _ => none

/-- A value is looked up in a map. -/
def mgetStep (C : Cfg) (it : It) (t : TypeId) (comma : Bool) (m s : SV) (ob : Obs) : Option Out :=
  match m, s with
  | .omp i, .v .str s => match ob.obj i with
    | some (.mp k l false) => if C.mp t = some k then
        (if comma then match it with
          | .bool d => some (some (.tup [.v k ((mget l s).getD k.z), .v .bool d]), ob, [(mget l s).isSome = d])
          | _ => none
        else match k, l with
          | .bool, l => match it with
            | .bool d => some (some (.s (.v .bool d)), ob, [(mget l s).getD false = d])
            | _ => none
          | k, l => some (some (.s (.v k ((mget l s).getD k.z))), ob, []))
      else none
    | _ => none
  | _, _ => none

def astep0 (C : Cfg) (it : It) (o : Oper) (ρ : Ev) (ob : Obs) : Option Out :=
  match o.op with
  | .move x | .assign x => moveStep ρ ob o.type x
  | .pick c a b => match evS ρ 0 c with
    | some (.v .bool true) => moveStep ρ ob o.type a
    | some (.v .bool false) => moveStep ρ ob o.type b
    | _ => none
  | .alloc t => match C.kd t, o.dst with
    | some k, some d => if t = C.tn then some (some (.s (.v .tree (.node .leaf .leaf))), ob, []) else newOb ob d (.box k k.z false) (.adr d none)
    | _, _ => none
  | .box t x => match C.kd t, o.dst, evS ρ t x with
    | some k, some d, some y =>
      if t = C.tn then match y with
        | .v (.pr .tree .tree) p => some (some (.s (.v .tree (.node p.1 p.2))), ob, [])
        | _ => none
      else match escK ob k y with
        | some (z, ob') => newOb ob' d (.box k z false) (.adr d none)
        | none => none
    | _, _, _ => none
  | .build t ps => match C.kd t, evParts ρ ps.toList with
    | some (.pr a b), some qs => match parts ob (.pr a b) (Kd.z (.pr a b)) qs with
      | some (z, ob') => if (Kd.pr a b).thin then some (some (.s (.v (.pr a b) z)), ob', []) else none
      | none => none
    | some (.arr m k), some qs => match elems ob k (List.replicate (m + 2) k.z) qs with
      | some (l, ob') => some (some (.s (.v (.arr m k) l)), ob', [])
      | none => none
    | _, _ => none
  | .buildSlice t n ps => match C.kd t, C.el t, o.dst, evParts ρ ps.toList with
    | some (.sl k), some e, some d, some qs => if C.kd e = some k ∧ n ≤ 1000 then match elems ob k (List.replicate n k.z) qs with
        | some (l, ob') => newOb ob' d (.row e k l 0 false) (.osl d 0)
        | none => none
      else none
    | _, _, _, _ => none
  | .store t a v => match evS ρ 0 a, evS ρ t v with
    | some x, some y => storeStep C t x y ob
    | _, _ => none
  | .makeMap t none => match C.mp t, o.dst with
    | some k, some d => newOb ob d (.mp k [] false) (.omp d)
    | _, _ => none
  | .insert t m x y | .mapUpdate t m x y => match evS ρ 0 m, evS ρ 0 x, evS ρ 0 y with
    | some a, some b, some c => mputStep C t a b c ob
    | _, _, _ => none
  | .lookup t m x comma => match evS ρ 0 m, evS ρ 0 x with
    | some a, some b => mgetStep C it t comma a b ob
    | _, _ => none
  | .nilCheck x => match evS ρ 0 x with
    | some (.v .tree (.node l r)) => some (some (.s (.v .tree (.node l r))), ob, [])
    | some (.fadr k y) => some (some (.s (.fadr k y)), ob, [])
    | some (.adr i f) => some (some (.s (.adr i f)), ob, [])
    | _ => none
  | .makeFunc (.func g) first caps => match evSs ρ first.toList, evSs ρ caps.toList with
    | some xs, some ys => match plains ob xs, plains ob ys with
      | some xs', some ys' => some (some (.fn g xs' ys'), frzs ob (xs ++ ys), [])
      | _, _ => none
    | _, _ => none
  | .makeSlice t n m => match C.kd t, C.el t, o.dst, evS ρ 0 n, evS ρ 0 m with
    | some (.sl k), some e, some d, some (.v (.int .i64) a), some (.v (.int .i64) b) => if C.kd e = some k then match ob.obj d with
        | none => if d < ob.length then some (some (.s (.osl d 0)), ob.setOb d (some (.row e k (List.replicate a.toNat k.z) 0 false)), [0 ≤ a, a ≤ (lim : Int), b = a]) else none
        | some _ => none
      else none
    | _, _, _, _, _ => none
  | .extract x i => match ρ 0 x with
    | some (.tup l) => match l[i]? with
      | some v => some (some (.s v), ob, [])
      | none => none
    | _ => none
  | .call { callee := .builtin .append, args, argTypes } => match args.toList, argTypes.toList, o.dst with
    | [x, y], [t, t'], some d => if t = t' then match evS ρ t x, evS ρ t y with
        | some a, some b => appendStep C d t a b ob
        | _, _ => none
      else none
    | _, _, _ => none
  | .call { callee := .value f, args, argTypes } => match ρ 0 f, evArgs ρ args.toList argTypes.toList with
    | some (.fn g first caps), some xs => callStep C it g (first.map .s ++ xs ++ caps.map .s) ob
    | _, _ => none
  | op => match evSs ρ op.operands.toList with
    | some xs => if xs.any isAlias then aliasStep C it op xs ob else match apure C it op xs with
      | some (z, ps) => some (some (.s z), ob, ps)
      | none => none
    | none => none

/-- A truth that is read is decided by the script. -/
def decB (it : It) (op : Op) : Option Out → Option Out
  | some (some (.s (.v .bool b)), ob, ps) => match it, op with
    | .bool d, .load .. => some (some (.s (.v .bool d)), ob, ps ++ [b = d])
    | .bool d, .field .. => some (some (.s (.v .bool d)), ob, ps ++ [b = d])
    | _, _ => some (some (.s (.v .bool b)), ob, ps)
  | r => r

def astep (C : Cfg) (it : It) (o : Oper) (ρ : Ev) (ob : Obs) : Option Out := decB it o.op (astep0 C it o ρ ob)

/-! ### Regions -/

def needs (C : Cfg) (sl : List (Option AV)) (o : Oper) : Bool :=
  match o.op with
  | .load .. => decide (C.kd o.type = some .bool)
  | .field .. => decide (C.kd o.type = some .bool)
  | .binOp op .. => isCmp op
  | .call { callee := .value _, .. } => true
  | .lookup .. => true
  | .slice _ (.tmp t) .. => match sl.getD t none with
    | some (.s (.osl ..)) => true
    | _ => false
  | _ => false

/-- Is an operation carried out? -/
def awant (all : List Oper) (sl : List (Option AV)) (o : Oper) : Option Bool :=
  match o.guard with
  | none => some true
  | some (j, b) => match all[j]? with
    | some p => match p.dst with
      | some d => match sl.getD d none with
        | some (.s (.v .bool true)) => some b
        | some (.s (.v .bool false)) => some (!b)
        | some (.tup []) => some false
        | _ => none
      | none => none
    | none => none

/-- One operation of a region: the item of the script, if it wants one. -/
def aone (C : Cfg) (all : List Oper) (it : It) (o : Oper) (st : St) : Option (St × List Prop) :=
  match awant all st.sl o with
  | some true => match astep C it o (ev C st.sl) st.ob with
    | some (v, ob, ps) => some (St.put ⟨st.sl, ob⟩ o.dst v, ps)
    | none => none
  | some false => some (st.put o.dst (some (.tup [])), [])
  | none => none

def takes (C : Cfg) (all : List Oper) (st : St) (o : Oper) : Bool := awant all st.sl o == some true && needs C st.sl o

def aops (C : Cfg) (all : List Oper) : List Oper → List It → St → List Prop → Option (St × List It × List Prop)
  | [], its, st, lg => some (st, its, lg)
  | o :: rest, its, st, lg =>
    if takes C all st o then
      match its with
      | it :: its' => match aone C all it o st with
        | some (st', ps) => aops C all rest its' st' (lg ++ ps)
        | none => none
      | [] => none
    else match aone C all .std o st with
      | some (st', ps) => aops C all rest its st' (lg ++ ps)
      | none => none

/-- Only these slots are wanted still. -/
def only (ks : List Nat) : Nat → List (Option AV) → List (Option AV)
  | _, [] => []
  | i, v :: vs => (if ks.contains i then v else none) :: only ks (i + 1) vs

def svHas (i : Nat) : SV → Bool
  | .adr j _ => i == j
  | .osl j _ => i == j
  | .oel j _ _ _ => i == j
  | .omp j => i == j
  | _ => false

def avHas (i : Nat) : Option AV → Bool
  | some (.s x) => svHas i x
  | some (.tup l) => l.any (svHas i)
  | _ => false

def onlyOb (np : Nat) (sl : List (Option AV)) : Nat → Obs → Obs
  | _, [] => []
  | i, o :: os => (match o with
    | none => none
    | some x => if i < np || sl.any (avHas i) then some x else none) :: onlyOb np sl (i + 1) os

def sweep (np : Nat) (ks : List Nat) (st : St) : St :=
  let sl := only ks 0 st.sl
  ⟨sl, onlyOb np sl 0 st.ob⟩

/-- A row of the call's own that a slot is over becomes nobody's own: the slot holds its data. -/
def viewOne (i : Nat) (st : St) : St :=
  match st.sl.getD i none with
  | some (.s (.osl j ver)) => match esc st.ob (.osl j ver) with
    | some (y, ob') => ⟨st.sl.set i (some (.s y)), ob'⟩
    | none => st
  | _ => st

def viewAll : List Nat → St → St
  | [], st => st
  | i :: is, st => viewAll is (viewOne i st)

/-- Is every slice over the row at its latest version? -/
def svVer (i ver : Nat) : SV → Bool
  | .osl j v => !(i == j) || ver == v
  | .oel j _ _ _ => !(i == j)
  | _ => true

def avVer (i ver : Nat) : Option AV → Bool
  | some (.s x) => svVer i ver x
  | some (.tup l) => l.all (svVer i ver)
  | _ => true

def renS (i : Nat) : SV → SV
  | .osl j v => if i = j then .osl j 0 else .osl j v
  | x => x

def renA (i : Nat) : AV → AV
  | .s x => .s (renS i x)
  | .tup l => .tup (l.map (renS i))
  | x => x

/-- A row's versions are counted anew. -/
def renOne (i : Nat) (st : St) : St :=
  match st.ob.obj i with
  | some (.row e k l ver z) => if ver ≠ 0 ∧ st.sl.all (avVer i ver) = true then ⟨st.sl.map (Option.map (renA i)), st.ob.setOb i (some (.row e k l 0 z))⟩ else st
  | _ => st

def renFrom : Nat → Nat → St → St
  | _, 0, st => st
  | i, n + 1, st => renFrom (i + 1) n (renOne i st)

/-- A nil slice in a variable becomes a row of the call's own, without elements. -/
def nilOne (i : Nat) (st : St) : St :=
  match st.sl.getD i none, st.ob.obj i with
  | some (.s (.nilsl e k)), none => if i < st.ob.length then ⟨st.sl.set i (some (.s (.osl i 0))), st.ob.setOb i (some (.row e k [] 0 false))⟩ else st
  | _, _ => st

def nilFrom : Nat → Nat → St → St
  | _, 0, st => st
  | i, n + 1, st => nilFrom (i + 1) n (nilOne i st)

def needRen : Option Ob → Bool
  | some (.row _ _ _ (_ + 1) _) => true
  | _ => false

def needNil : Option AV → Bool
  | some (.s (.nilsl ..)) => true
  | _ => false

def renumN (np : Nat) (st : St) : St := if st.sl.any needNil then nilFrom np (st.ob.length - np) st else st

def renum (np : Nat) (st : St) : St := renumN np (if st.ob.any needRen then renFrom np (st.ob.length - np) st else st)

/-! ### Regions that draw their order -/

def avAlias : AV → Bool
  | .s x => isAlias x
  | _ => false

def isAdr : SV → Bool
  | .adr .. => true
  | _ => false

def avAdr : AV → Bool
  | .s (.adr ..) => true
  | .s (.omp _) => true
  | _ => false

/-- What an operation has to do with the objects: 0: nothing; 1: it may read them; 2: more. -/
def cls (it : It) (o : Oper) (ρ : Ev) : Nat :=
  match o.op with
  | .move _ | .assign _ | .pick .. | .extract .. | .nilCheck _ => 0
  | .alloc _ => match o.dst with
    | some d => 4 + 3 * d
    | none => 2
  | .load .. => match evSs ρ o.op.operands.toList with
    | some [.adr i _] => 3 + 3 * i
    | some xs => if xs.any isAlias then 1 else 0
    | none => 2
  | .store t a x => match evS ρ 0 a, evS ρ t x with
    | some (.adr i _), some y => if isAlias y then 2 else 4 + 3 * i
    | _, _ => 2
  | .fieldAddr .. => match evSs ρ o.op.operands.toList with
    | some [.adr i _] => 3 + 3 * i
    | some xs => if xs.any isAlias then 1 else 0
    | none => 2
  | .binOp .. | .unOp .. | .convert .. | .slice .. | .field .. | .indexAddr .. | .index .. | .call { callee := .builtin .len, .. } | .call { callee := .builtin .max, .. } =>
    match evSs ρ o.op.operands.toList with
    | some xs => if xs.any isAlias then (match o.op with | .slice .. => 2 | .indexAddr .. => if xs.any isAdr then 2 else 1 | _ => 1) else 0
    | none => 2
  | .call { callee := .value f, args, argTypes } => match it, ρ 0 f, evArgs ρ args.toList argTypes.toList with
    | .res r [] [] [], some (.fn _ first caps), some xs =>
      if (first.map AV.s ++ xs ++ caps.map AV.s).any avAlias then (if (first.map AV.s ++ xs ++ caps.map AV.s).any avAdr then 2 else if r.flat then 1 else 2) else 0
    | .res _ [] [] [d], some (.fn _ first caps), some xs => if (first.map AV.s ++ xs ++ caps.map AV.s).any avAlias then 2 else 4 + 3 * d
    | .res _ [_] [] [], some (.fn _ [] []), some (.s (.adr i none) :: xs) => if xs.any avAlias then 2 else 4 + 3 * i
    | _, _, _ => 2
  | .buildSlice _ _ ps => match o.dst, evParts ρ ps.toList with
    | some d, some xs => if xs.any (fun p => isAlias p.2) then 2 else 4 + 3 * d
    | _, _ => 2
  | .call { callee := .builtin .append, args, argTypes } => match args.toList, argTypes.toList, o.dst with
    | [x, _], [t, _], some d => match evS ρ t x with
      | some (.osl i _) => 5 + 3 * i
      | some (.nilsl _ _) => 5 + 3 * d
      | _ => 2
    | _, _, _ => 2
  | .box t x => match o.dst, evS ρ t x with
    | some d, some y => if isAlias y then 2 else 4 + 3 * d
    | _, _ => 2
  | .build _ ps => match evParts ρ ps.toList with
    | some xs => if xs.any (fun p => isAlias p.2) then 2 else 0
    | none => 2
  | _ => 2

/-- Does the operation j wait for i? -/
def reach (ops : List Oper) : Nat → Nat → Nat → Bool
  | 0, _, _ => false
  | n + 1, j, i => match ops[j]? with
    | some o => o.after.toList.any fun e => Region.binds .any e && (e.on == i || reach ops n e.on i)
    | none => false

/-- It leaves the objects as they are. -/
def rdB (c : Nat) : Bool := c == 1 || (decide (3 ≤ c) && (c - 3) % 3 == 0)
/-- It changes one object, whatever it reads. -/
def wB (c : Nat) : Bool := decide (3 ≤ c) && (c - 3) % 3 == 2
/-- The one object that it has to do with. -/
def idxC (c : Nat) : Nat := (c - 3) / 3

def compat (a b : Nat) : Bool := a == 0 || b == 0 || (rdB a && rdB b) || (decide (3 ≤ a) && decide (3 ≤ b) && !(idxC a == idxC b) && (!wB a || rdB b) && (!wB b || rdB a))

/-- The classes of the operations, in the text's order. -/
def classes (C : Cfg) (all : List Oper) : List Oper → List It → St → Option (List Nat)
  | [], _, _ => some []
  | o :: rest, its, st =>
    if takes C all st o then
      match its with
      | it :: its' => match aone C all it o st, aone C all it o st with
        | some (st', _), _ => (classes C all rest its' st').map (cls it o (ev C st.sl) :: ·)
        | none, _ => none
      | [] => none
    else match aone C all .std o st with
      | some (st', _) => (classes C all rest its st').map ((if awant all st.sl o == some true then cls .std o (ev C st.sl) else 0) :: ·)
      | none => none

/-- For which operations one waits, as bits. -/
def maskOf (ms : List Nat) (o : Oper) : Nat := o.after.toList.foldl (fun m e => if Region.binds .any e then (m ||| (1 <<< e.on)) ||| ms.getD e.on 0 else m) 0

def masks : List Oper → List Nat → List Nat
  | [], ms => ms
  | o :: os, ms => masks os (ms ++ [maskOf ms o])

def pairsOK (all : List Oper) (cs : List Nat) : Bool :=
  (List.range all.length).all fun j => (List.range j).all fun i =>
    ((masks all []).getD j 0).testBit i || match all[i]?, all[j]? with
      | some x, some y => x.apart all.toArray y && compat (cs.getD i 2) (cs.getD j 2)
      | _, _ => false

def lexOK (all : List Oper) : Bool :=
  (List.range all.length).all fun j => match all[j]? with
    | some o => o.after.toList.all (fun e => !Region.binds .any e || decide (e.on < j)) && (match o.op with | .select .. => false | _ => true)
    | none => true

def drawOK (C : Cfg) (all : List Oper) (its : List It) (st : St) : Bool :=
  lexOK all && match classes C all all its st with
    | some cs => pairsOK all cs
    | none => false

end Go.AI
end

section
/- What a state says of a frame and a world; loops' contracts; the evaluator over code; the run of a function. -/
set_option autoImplicit false
set_option linter.unusedVariables false
namespace Go.AI

/-- The call that a frame belongs to: its world at the beginning, what its arguments may lead to, and the places that it may change. -/
structure Ctx where
  w0 : World
  B0 : Nat → Prop
  pm : List (Nat × Value)

def Ctx.mv (X : Ctx) : List Value := X.pm.map (·.2)

def Ob.frz : Ob → Bool
  | .box _ _ f => f
  | .row _ _ _ _ f => f
  | .mp _ _ f => f

/-- The blocks that values may lead to. -/
def Bs (X : Ctx) (ob : Obs) (γ : Nat → Value) (b : Nat) : Prop :=
  (X.B0 b ∨ X.w0.heap.size ≤ b ∨ ∃ v ∈ X.mv, blk v = some b) ∧ ∀ i o, ob.obj i = some o → o.frz = false → blk (γ i) ≠ some b

def ObRep (w : World) (B : Nat → Prop) (v : Value) : Ob → Prop
  | .box k x _ => BoxAt w B k x v
  | .row e k l _ _ => OwnRow w B 0 e k l v
  | .mp k l _ => MapAt w k l v

def SlS (w : World) (B : Nat → Prop) (ob : Obs) (γ : Nat → Value) : SV → Value → Prop
  | .v k x, u => RepV w B k x u
  | .nilsl _ _, u => u = .slice none 0 0
  | .fadr k x, u => RepA w B k x u
  | .adr i f, u => (∃ k x z, ob.obj i = some (.box k x z)) ∧ ∃ b, γ i = .pointer (some ⟨b, 0, none⟩) ∧ u = .pointer (some ⟨b, f.getD 0, none⟩)
  | .osl i ver, u => (∃ e k l ver' z, ob.obj i = some (.row e k l ver' z) ∧ ver ≤ ver') ∧ ∀ e k l z, ob.obj i = some (.row e k l ver z) → u = γ i
  | .omp i, u => (∃ k l z, ob.obj i = some (.mp k l z)) ∧ u = γ i
  | .oel i ver j f, u => (∃ e k l ver' z, ob.obj i = some (.row e k l ver' z) ∧ ver ≤ ver') ∧ ∀ e k l z, ob.obj i = some (.row e k l ver z) → ∃ b n c, γ i = .slice (some ⟨b, 0, none⟩) n c ∧ u = .pointer (some ⟨b, j * k.n + (f - 1), none⟩)
  | _, _ => False

def SlL (w : World) (B : Nat → Prop) (ob : Obs) (γ : Nat → Value) : List SV → List Value → Prop
  | [], vs => vs = []
  | x :: xs, vs => ∃ u us, vs = u :: us ∧ SlS w B ob γ x u ∧ SlL w B ob γ xs us

def SlA (w : World) (B : Nat → Prop) (ob : Obs) (γ : Nat → Value) : AV → Value → Prop
  | .s x, u => SlS w B ob γ x u
  | .tup l, u => ∃ vs, u = .tuple vs.toArray ∧ SlL w B ob γ l vs
  | .fn f a b, u => AVRep w B (.fn f a b) u

structure InvG (X : Ctx) (st : St) (a : Act) (w : World) (γ : Nat → Value) : Prop where
  fr : Fr X.w0 X.mv w
  df : a.defers = []
  sz : st.sl.length = a.tmps.size
  ob : ∀ i o, st.ob.obj i = some o → ObRep w (Bs X st.ob γ) (γ i) o
  dj : ∀ i j o p b, st.ob.obj i = some o → st.ob.obj j = some p → i ≠ j → blk (γ i) = some b → blk (γ j) ≠ some b
  fresh : ∀ i o b, st.ob.obj i = some o → blk (γ i) = some b → X.w0.heap.size ≤ b ∨ ∃ v ∈ X.mv, blk v = some b
  pm : ∀ i v, (i, v) ∈ X.pm → ∃ o, st.ob.obj i = some o ∧ ((∀ e k l ver z, o = .row e k l ver z → ver = 0) → γ i = v)
  sl : ∀ t v, st.sl.getD t none = some v → SlA w (Bs X st.ob γ) st.ob γ v (a.tmps.getD t undef)

def Inv (X : Ctx) (st : St) (a : Act) (w : World) : Prop := ∃ γ, InvG X st a w γ

def exOf : AEx → Exit
  | .normal => .normal
  | .ret => .ret
  | .exit id => .exit id

/-- What is reached. -/
def Post (X : Ctx) (e : AEx) (st : St) : Exit → Act → World → Prop := fun e' a w => e' = exOf e ∧ Inv X st a w

/-- From the head of a round on. -/
def LoopWp (P : Program) (c : Code) (Q : Exit → Act → World → Prop) (a : Act) (w : World) : Prop :=
  ∀ (b : Frame) (k : List Item) (cs : List Frame), ∃ e a' w', Q e a' w' ∧ Arrives P (lone (b.at a (.code c :: .inLoop c :: k)) cs w) b k cs e a' w'

/-- THE CONTRACT OF A LOOP. -/
def LoopSC (P : Program) (np : Nat) (c : Code) (st : St) (e : AEx) (st' : St) : Prop :=
  ∀ X a w, (∀ iv ∈ X.pm, iv.1 < np) → Inv X st a w → LoopWp P c (Post X e st') a w

def aexec (C : Cfg) (f : FuncId) (np : Nat) : Code → List It → St → List Prop → Option (AEx × List It × St × List Prop)
  | .skip, its, st, lg => some (.normal, its, st, lg)
  | .region id ops draw, its, st, lg => if !draw || drawOK C ops.toList its st then match aops C ops.toList ops.toList its st lg with
      | some (st', its', lg') => some (.normal, its', renum np (sweep np (C.live f id) (viewAll (C.vw f id) st')), lg')
      | none => none
    else none
  | .seq x y, its, st, lg => match aexec C f np x its st lg with
    | some (.normal, its', st', lg') => aexec C f np y its' st' lg'
    | r => r
  | .cond c x y, its, st, lg => match evS (ev C st.sl) 0 c with
    | some (.v .bool true) => aexec C f np x its st lg
    | some (.v .bool false) => aexec C f np y its st lg
    | _ => none
  | .block id x, its, st, lg => match aexec C f np x its st lg with
    | some (.exit id', its', st', lg') => if id' = id then some (.normal, its', st', lg') else some (.exit id', its', st', lg')
    | r => r
  | .exit id, its, st, lg => some (.exit id, its, st, lg)
  | .ret, its, st, lg => some (.ret, its, st, lg)
  | .loop x, its, st, lg => match its with
    | .loop g :: its' => some ((g st).1, its', (g st).2, lg ++ [LoopSC C.P np x st (g st).1 (g st).2])
    | _ => none
  | _, _, _, _ => none

/-! ### A call's beginning and end -/

def paramA (i : Nat) : AV → AV
  | .s (.mbx _ _) => .s (.adr i none)
  | .s (.msl _ _ _) => .s (.osl i 0)
  | .s (.mmp _ _) => .s (.omp i)
  | a => a

def paramO : AV → Option Ob
  | .s (.mbx k x) => some (.box k x false)
  | .s (.msl e k l) => some (.row e k l 0 false)
  | .s (.mmp k l) => some (.mp k l false)
  | _ => none

def params : Nat → List AV → List (Option AV)
  | _, [] => []
  | i, a :: as => some (paramA i a) :: params (i + 1) as

def start (fn : Func) (args : List AV) : St :=
  ⟨params 0 args ++ List.replicate (fn.ntmps - args.length) none, args.map paramO ++ List.replicate (fn.ntmps - args.length) none⟩

def outsOf (st : St) : Nat → List AV → Option (List MO)
  | _, [] => some []
  | i, .s (.mbx _ _) :: as => match st.obj i, outsOf st (i + 1) as with
    | some (.box k x false), some os => some (.box k x :: os)
    | _, _ => none
  | i, .s (.msl _ _ _) :: as => match st.obj i, outsOf st (i + 1) as with
    | some (.row e k l 0 false), some os => some (.row e k l :: os)
    | _, _ => none
  | i, .s (.mmp _ _) :: as => match st.obj i, outsOf st (i + 1) as with
    | some (.mp k l false), some os => some (.mp k l :: os)
    | _, _ => none
  | i, _ :: as => outsOf st (i + 1) as

/-- A result: what is the call's own, and no parameter's, is handed over. -/
def resS (st : St) (np : Nat) (x : SV) : Option (SV × Option Nat) :=
  match x with
  | .nilsl e k => some (.own e k [], none)
  | .osl i ver => match st.obj i with
    | some (.row e k l ver' z) => if ver = ver' then (if i < np || z then (if z then some (.v (.sl k) l, none) else none) else some (.own e k l, some i)) else none
    | _ => none
  | .adr i none => match st.obj i with
    | some (.box k x z) => if i < np then none else some (.fadr k x, none)
    | _ => none
  | x => match plain st.ob x with
    | some y => some (y, none)
    | none => none

def resVar (C : Cfg) (st : St) (np : Nat) : ResultVar → Option (AV × Option Nat)
  | .tmp t => match st.get t with
    | some (.s x) => match resS st np x with
      | some (y, o) => some (.s y, o)
      | none => none
    | some (.fn g a b) => some (.fn g a b, none)
    | _ => none
  | .cell t ty => match st.get t with
    | some (.s (.adr i none)) => match st.obj i with
      | some (.box k x _) => if C.kd ty = some k then some (.s (.v k x), none) else none
      | _ => none
    | _ => none

def resVars (C : Cfg) (st : St) (np : Nat) : List ResultVar → Option (List AV × List Nat)
  | [] => some ([], [])
  | r :: rs => match resVar C st np r, resVars C st np rs with
    | some (a, o), some (as, os) => if o.all (fun i => !os.contains i) then some (a :: as, o.toList ++ os) else none
    | _, _ => none

def toSV : AV → Option SV
  | .s x => some x
  | _ => none

def resOf (C : Cfg) (st : St) (np : Nat) (rs : List ResultVar) : Option AV :=
  match resVars C st np rs with
  | some ([a], _) => some a
  | some (as, _) => (mapO toSV as).map .tup
  | none => none

/-- THE RUN OF A FUNCTION: what it hands back, what it makes of what it may change, and what is owed for it. -/
def arun (C : Cfg) (f : FuncId) (fn : Func) (args : List AV) (its : List It) : Option (AV × List MO × List Prop) :=
  match fn.body with
  | none => none
  | some c =>
    match aexec C f args.length c its (start fn args) [] with
    | some (.normal, [], st, lg) | some (.ret, [], st, lg) =>
      match resOf C st args.length fn.results.toList, outsOf st 0 args with
      | some r, some outs => some (r, outs, lg)
      | _, _ => none
    | _ => none

def All : List Prop → Prop
  | [] => True
  | p :: ps => p ∧ All ps

end Go.AI
end

section
/- What the model's operations do on plain values. -/
set_option autoImplicit false
set_option linter.unusedVariables false
set_option linter.unusedSimpArgs false
namespace Go.AI

def NotAgg : TypeDesc → Prop
  | .struct _ => False
  | .array _ _ => False
  | _ => True

def DescOK (P : Program) : Kd → Option TypeDesc → Prop
  | .int ik, d => d = some (.int ik)
  | .bool, d => d = some .bool
  | .str, d => d = some .string
  | .tree, d => ∃ e, d = some (.pointer e)
  | .sl _, d => ∃ e, d = some (.slice e)
  | .arr m _, d => ∃ e, d = some (.array (m + 2) e)
  | .pr a b, d => ∃ fs, d = some (.struct fs) ∧ ((Kd.pr a b).thin = true → fs.size = (Kd.pr a b).n ∧ ∀ (f : Nat) (fd : Field), fs[f]? = some fd →
      fd.offset = f ∧ ∃ j d, P.info? fd.type = some j ∧ j.size = 1 ∧ P.underlying fd.type = some d ∧ NotAgg d)

structure KdOK (P : Program) (t : TypeId) (k : Kd) : Prop where
  info : ∃ i z, P.info? t = some i ∧ i.size = k.n ∧ i.zero = some z ∧ (k.n ≤ 8 → i.bytes ≤ 64) ∧ ∀ w B, RepV w B k k.z z
  desc : DescOK P k (P.underlying t)
  small : k.n ≤ 64

/-- '==' of a struct type's values. -/
def EqOK (P : Program) (t : TypeId) (k : Kd) : Prop :=
  ∀ (w : World) (B : Nat → Prop) (x y : k.ty) (u v : Value) (p : Bool) (a b : Operand), RepV w B k x u → RepV w B k y v → keq k x y = some p →
    ((do eqGuard .eql t a b u v; binOp .eql t u v) : Sem Value).run P w = .ok (.bool p) w ∧ ((do eqGuard .neq t a b u v; binOp .neq t u v) : Sem Value).run P w = .ok (.bool (!p)) w

structure CfgOK (C : Cfg) : Prop where
  mixed : C.P.follows .mixedOrders = true
  kd : ∀ t k, C.kd t = some k → KdOK C.P t k
  el : ∀ t e, C.el t = some e → C.P.underlying t = some (.slice e)
  eln : ∀ t e k, C.el t = some e → C.kd e = some k → k.n ≤ 8
  ark : ∀ t m k, C.kd t = some (.arr m k) → ∃ e, C.P.underlying t = some (.array (m + 2) e) ∧ C.kd e = some k
  elk : ∀ t k, C.kd t = some (.sl k) → ∃ e, C.el t = some e ∧ C.kd e = some k
  mp : ∀ t k, C.mp t = some k → (k = .bool ∨ ∃ ik, k = .int ik) ∧ ∃ kt e, C.P.underlying t = some (.map kt e) ∧ C.P.underlying kt = some .string ∧ C.kd e = some k
  tn : C.kd C.tn = some (.pr .tree .tree)
  eq : ∀ t k, C.eqs.contains t = true → C.kd t = some k → EqOK C.P t k

variable {P : Program} {w : World} {B : Nat → Prop}

theorem KdOK.isAgg {t : TypeId} {k : Kd} (h : KdOK P t k) (w : World) : (isAgg t).run P w = .ok (isPr k) w := by
  have hd := h.desc
  cases k <;> simp only [DescOK] at hd
  case tree | sl | arr => obtain ⟨e, he⟩ := hd; simp [Go.isAgg, run_underlying he, isPr]
  case pr a b => obtain ⟨fs, he, _⟩ := hd; simp [Go.isAgg, run_underlying he, isPr]
  all_goals simp [Go.isAgg, run_underlying hd, isPr]

theorem KdOK.sizeOf {t : TypeId} {k : Kd} (h : KdOK P t k) (w : World) : (sizeOf t).run P w = .ok k.n w := by
  obtain ⟨i, z, hi, hs, _⟩ := h.info
  simp [Go.sizeOf, typeInfo, hi, hs]

theorem KdOK.zero {t : TypeId} {k : Kd} (h : KdOK P t k) (w : World) : ∃ z, (zeroValue t).run P w = .ok z w ∧ ∀ w' B, RepV w' B k k.z z := by
  obtain ⟨i, z, hi, hs, hz, _, hr⟩ := h.info
  exact ⟨z, by simp [zeroValue, typeInfo, hi, hz], hr⟩

theorem RepV.cells {k : Kd} {x : k.ty} {v : Value} (h : RepV w B k x v) : RepK w B k x v.cells.toList := by
  obtain ⟨cs, hr, rfl⟩ := h
  rw [mkV_cells hr]; exact hr

theorem RepV.size {k : Kd} {x : k.ty} {v : Value} (h : RepV w B k x v) : v.cells.size = k.n := by
  have := h.cells.length
  simpa using this

theorem mkV_one {k : Kd} (hk : isPr k = false) (c : Value) : mkV k [c] = c := by cases k <;> simp_all [mkV, isPr]

theorem mkV_pr {k : Kd} (hk : isPr k = true) (cs : List Value) : mkV k cs = .agg cs.toArray := by cases k <;> simp_all [mkV, isPr]

theorem run_loadCells_list' (ad : Addr) (cs : List Value) (h : CellsAt w ad cs) : (loadCells ad cs.length).run P w = .ok cs.toArray w := run_loadCells_list w ad cs h

theorem KdOK.loadVar {t : TypeId} {k : Kd} (h : KdOK P t k) {x : k.ty} {ad : Addr} {cs : List Value} (hr : RepK w B k x cs) (hc : CellsAt w ad cs) :
    (loadVar t ad).run P w = .ok (mkV k cs) w := by
  unfold Go.loadVar
  simp only [Sem.run_bind, h.isAgg, Result.andThen_ok]
  have hl := hr.length
  cases hk : isPr k with
  | true =>
    simp only [if_true, Sem.run_bind, h.sizeOf, Result.andThen_ok, ← hl, run_loadCells_list' ad cs hc, Sem.run_pure]
    cases k <;> simp_all [mkV, isPr]
  | false =>
    have h1 : k.n = 1 := by cases k <;> simp_all [Kd.n, isPr]
    match cs, hl.trans h1 with
    | [c], _ =>
      have h0 := hc 0 c rfl
      have e : ad.add 0 = ad := by simp [Addr.add]
      rw [e] at h0
      simp [mkV_one hk, load, Sem.run, h0]

theorem Kd.sel_n : ∀ {k : Kd} {x : k.ty} {f : Nat} {q : Kd} {y : q.ty}, k.thin = true → k.sel x f = some ⟨q, y⟩ → f < k.n ∧ isPr q = false
  | .pr a b, x, 0, q, y, ht, h => by
    simp only [Kd.thin, Bool.and_eq_true, beq_iff_eq] at ht
    simp only [Kd.sel, Option.some.injEq, Sigma.mk.injEq] at h
    obtain ⟨rfl, _⟩ := h
    refine ⟨by simp only [Kd.n]; have := a.n_pos; omega, ?_⟩
    cases a with
    | pr p q => exfalso; have := p.n_pos; have := q.n_pos; have h1 := ht.1; simp only [Kd.n] at h1; omega
    | arr m e => exfalso; have := e.n_pos; have h1 := ht.1; simp only [Kd.n] at h1; have := Nat.mul_le_mul (show 2 ≤ m + 2 by omega) this; omega
    | _ => rfl
  | .pr a b, x, f + 1, q, y, ht, h => by
    simp only [Kd.thin, Bool.and_eq_true, beq_iff_eq] at ht
    simp only [Kd.sel] at h
    have := Kd.sel_n ht.2 h
    simp only [Kd.n]
    exact ⟨by omega, this.2⟩
  | .int _, x, 0, q, y, _, h | .bool, x, 0, q, y, _, h | .str, x, 0, q, y, _, h | .tree, x, 0, q, y, _, h | .sl _, x, 0, q, y, _, h => by
    simp only [Kd.sel, Option.some.injEq, Sigma.mk.injEq] at h
    obtain ⟨rfl, _⟩ := h
    exact ⟨by simp [Kd.n], rfl⟩
  | .int _, x, f + 1, q, y, _, h | .bool, x, f + 1, q, y, _, h | .str, x, f + 1, q, y, _, h | .tree, x, f + 1, q, y, _, h | .sl _, x, f + 1, q, y, _, h => by
    simp [Kd.sel] at h

/-- The field's cell. -/
theorem RepK.sel : ∀ {k : Kd} {x : k.ty} {cs : List Value} {f : Nat} {q : Kd} {y : q.ty}, k.thin = true → RepK w B k x cs → k.sel x f = some ⟨q, y⟩ → ∃ c, cs[f]? = some c ∧ RepK w B q y [c]
  | .pr a b, x, cs, 0, q, y, ht, ⟨c1, c2, e, h1, h2⟩, h => by
    simp only [Kd.thin, Bool.and_eq_true, beq_iff_eq] at ht
    simp only [Kd.sel, Option.some.injEq, Sigma.mk.injEq] at h
    obtain ⟨rfl, h⟩ := h
    obtain rfl := eq_of_heq h
    match c1, h1.length.trans ht.1 with
    | [c], _ => exact ⟨c, by rw [e]; rfl, h1⟩
  | .pr a b, x, cs, f + 1, q, y, ht, ⟨c1, c2, e, h1, h2⟩, h => by
    simp only [Kd.thin, Bool.and_eq_true, beq_iff_eq] at ht
    simp only [Kd.sel] at h
    obtain ⟨c, hc, hr⟩ := RepK.sel ht.2 h2 h
    match c1, h1.length.trans ht.1 with
    | [c0], _ => exact ⟨c, by rw [e]; simpa using hc, hr⟩
  | .int _, x, cs, 0, q, y, _, hr, h | .bool, x, cs, 0, q, y, _, hr, h | .str, x, cs, 0, q, y, _, hr, h | .tree, x, cs, 0, q, y, _, hr, h | .sl _, x, cs, 0, q, y, _, hr, h => by
    simp only [Kd.sel, Option.some.injEq, Sigma.mk.injEq] at h
    obtain ⟨rfl, h⟩ := h
    obtain rfl := eq_of_heq h
    match cs, hr.length with
    | [c], _ => exact ⟨c, rfl, hr⟩
  | .int _, x, cs, f + 1, q, y, _, _, h | .bool, x, cs, f + 1, q, y, _, _, h | .str, x, cs, f + 1, q, y, _, _, h | .tree, x, cs, f + 1, q, y, _, _, h | .sl _, x, cs, f + 1, q, y, _, _, h => by
    simp [Kd.sel] at h

/-- A struct type's field. -/
theorem KdOK.field {t : TypeId} {k : Kd} (h : KdOK P t k) (hp : isPr k = true) (ht : k.thin = true) {f : Nat} (hf : f < k.n) :
    ∃ fs fd, P.underlying t = some (.struct fs) ∧ fs[f]? = some fd ∧ fd.offset = f ∧ (∀ w, (Go.sizeOf fd.type).run P w = .ok 1 w) ∧ ∀ w, (Go.isAgg fd.type).run P w = .ok false w := by
  have hd := h.desc
  cases k <;> simp [isPr] at hp
  case arr => cases ht
  rename_i a b
  obtain ⟨fs, he, hx⟩ := hd
  obtain ⟨hs, hall⟩ := hx ht
  have hlt : f < fs.size := by rw [hs]; exact hf
  obtain ⟨ho, j, d, hj, hj1, hd, hn⟩ := hall f fs[f] (Array.getElem?_eq_getElem hlt)
  refine ⟨fs, fs[f], he, Array.getElem?_eq_getElem hlt, ho, fun w => ?_, fun w => ?_⟩
  · simp [Go.sizeOf, typeInfo, hj, hj1]
  · cases d <;> simp_all [Go.isAgg, run_underlying hd, NotAgg]

theorem Addr.add_spot (a : Addr) (n : Nat) (h : a.spot = none) : (a.add n).spot = none := by unfold Addr.add; split <;> simp_all
theorem Addr.add_add (a : Addr) (m n : Nat) (h : a.spot = none) : (a.add m).add n = a.add (m + n) := by
  obtain ⟨b, o, s⟩ := a
  simp only at h
  subst h
  unfold Addr.add
  split <;> split <;> split <;> simp_all <;> omega
theorem Addr.add_zero (a : Addr) : a.add 0 = a := rfl

theorem CellsAt.drop {ad : Addr} {cs : List Value} (hs : ad.spot = none) (h : CellsAt w ad cs) (m : Nat) : CellsAt w (ad.add m) (cs.drop m) := fun j u hj => by
  rw [Addr.add_add _ _ _ hs]
  exact h (m + j) u (by simpa using hj)

theorem CellsAt.take {ad : Addr} {cs : List Value} (h : CellsAt w ad cs) (m : Nat) : CellsAt w ad (cs.take m) := fun j u hj => by
  rw [List.getElem?_take] at hj
  split at hj
  · exact h j u hj
  · cases hj

end Go.AI
end
