/- An abstract interpreter over the model's own code: values, what they stand for in memory, states, and the evaluator. -/
import Derived.Calls
import Derived.Orders
import Derived.Laws.AppendOwn
import Derived.Laws.MakeOwn
import Derived.Below
set_option autoImplicit false
namespace Go.AI

/-- Binary trees. -/
inductive Tr where
  | leaf
  | node (l r : Tr)
  deriving DecidableEq, Inhabited

def Tr.isLeaf : Tr → Bool
  | .leaf => true
  | .node _ _ => false

/-- Kinds of data. -/
inductive Kd where
  | int (k : IntKind)
  | bool
  | str
  | tree
  | sl (e : Kd)
  | pr (a b : Kd)
  deriving DecidableEq

@[reducible] def Kd.ty : Kd → Type
  | .int _ => Int
  | .bool => Bool
  | .str => ByteArray
  | .tree => Tr
  | .sl e => List e.ty
  | .pr a b => a.ty × b.ty

/-- How many cells. -/
def Kd.n : Kd → Nat
  | .pr a b => a.n + b.n
  | _ => 1

def Kd.z : (k : Kd) → k.ty
  | .int _ => (0 : Int)
  | .bool => false
  | .str => (⟨#[]⟩ : ByteArray)
  | .tree => Tr.leaf
  | .sl _ => []
  | .pr a b => (a.z, b.z)

/-- Nothing in it leads to memory. -/
def Kd.flat : Kd → Bool
  | .tree => false
  | .sl _ => false
  | .pr a b => a.flat && b.flat
  | _ => true

/-- The field number i of a struct, and where it begins. -/
def Kd.sel : (k : Kd) → k.ty → Nat → Option (Σ q : Kd, q.ty)
  | .pr a _, x, 0 => some ⟨a, x.1⟩
  | .pr _ b, x, i + 1 => Kd.sel b x.2 i
  | .int k, x, 0 => some ⟨.int k, x⟩
  | .bool, x, 0 => some ⟨.bool, x⟩
  | .str, x, 0 => some ⟨.str, x⟩
  | .tree, x, 0 => some ⟨.tree, x⟩
  | .sl e, x, 0 => some ⟨.sl e, x⟩
  | _, _, _ => none

def castK {q k : Kd} (h : q = k) (x : q.ty) : k.ty := cast (congrArg Kd.ty h) x

@[simp] theorem castK_rfl {k : Kd} (h : k = k) (x : k.ty) : castK h x = x := rfl

def Kd.upd : (k : Kd) → k.ty → Nat → (q : Kd) → q.ty → Option k.ty
  | .pr a _, x, 0, q, y => if h : q = a then some (castK h y, x.2) else none
  | .pr _ b, x, i + 1, q, y => match Kd.upd b x.2 i q y with
    | some z => some (x.1, z)
    | none => none
  | .int k, _, 0, q, y => if h : q = .int k then some (castK h y) else none
  | .bool, _, 0, q, y => if h : q = .bool then some (castK h y) else none
  | .str, _, 0, q, y => if h : q = .str then some (castK h y) else none
  | .tree, _, 0, q, y => if h : q = .tree then some (castK h y) else none
  | .sl e, _, 0, q, y => if h : q = .sl e then some (castK h y) else none
  | _, _, _, _, _ => none

/-- All cells but a struct's are one cell wide: the field number i is the cell number i. -/
def Kd.thin : Kd → Bool
  | .pr a b => a.n == 1 && b.thin
  | _ => true

def isPr : Kd → Bool
  | .pr _ _ => true
  | _ => false

end Go.AI
