/- Contracts of calls; the states of the abstract interpreter; the evaluator. -/
import Derived.Test.YtmoodcnoncipiaaAiRep
set_option autoImplicit false
set_option linter.unusedVariables false
namespace Go.AI

/-! ### Contracts -/

def blk : Value → Option Nat
  | .pointer (some a) => some a.block
  | .slice (some a) _ _ => some a.block
  | _ => none

def SVRep (w : World) (B : Nat → Prop) : SV → Value → Prop
  | .v k x, u => RepV w B k x u
  | .nilsl _ _, u => u = .slice none 0 0
  | .fadr k x, u => RepA w B k x u
  | _, _ => False

def SVsRep (w : World) (B : Nat → Prop) : List SV → List Value → Prop
  | [], vs => vs = []
  | x :: xs, vs => ∃ u us, vs = u :: us ∧ SVRep w B x u ∧ SVsRep w B xs us

def AVRep (w : World) (B : Nat → Prop) : AV → Value → Prop
  | .s x, u => SVRep w B x u
  | .tup l, u => ∃ vs, u = .tuple vs.toArray ∧ SVsRep w B l vs
  | .fn f a b, u => ∃ xs ys, u = .func (.func f) xs.toArray ys.toArray ∧ SVsRep w B a xs ∧ SVsRep w B b ys

/-- A struct of the caller's that is handed over to be changed. -/
def BoxAt (w : World) (B : Nat → Prop) (k : Kd) (x : k.ty) (v : Value) : Prop :=
  ∃ b cs t, v = .pointer (some ⟨b, 0, none⟩) ∧ w.heap[b]? = some (.cells cs.toArray t (0, 0)) ∧ RepK w B k x cs

/-- What a call may change of its caller's. -/
inductive MO where
  | box (k : Kd) (x : k.ty)
  | row (e : TypeId) (k : Kd) (l : List k.ty)

def MOAt (w : World) (B : Nat → Prop) : MO → Value → Prop
  | .box k x, v => BoxAt w B k x v
  | .row e k l, v => OwnRow w B 0 e k l v

def MOsAt (w : World) (B : Nat → Prop) : List MO → List Value → Prop
  | [], vs => vs = []
  | m :: ms, vs => ∃ u us, vs = u :: us ∧ MOAt w B m u ∧ MOsAt w B ms us

def ArgRep (w : World) (B : Nat → Prop) : List AV → List Value → List Value → Prop
  | [], vs, mv => vs = [] ∧ mv = []
  | .s (.mbx k x) :: as, vs, mv => ∃ u us m, vs = u :: us ∧ mv = u :: m ∧ BoxAt w B k x u ∧ ArgRep w B as us m
  | .s (.msl e k l) :: as, vs, mv => ∃ u us m, vs = u :: us ∧ mv = u :: m ∧ OwnRow w B 0 e k l u ∧ ArgRep w B as us m
  | a :: as, vs, mv => ∃ u us, vs = u :: us ∧ AVRep w B a u ∧ ArgRep w B as us mv

def ResS (w : World) (B : Nat → Prop) (N : Nat) : SV → Value → List Nat → Prop
  | .own e k l, u, os => OwnRow w B N e k l u ∧ os = (blk u).toList
  | x, u, os => SVRep w B x u ∧ os = []

def ResL (w : World) (B : Nat → Prop) (N : Nat) : List SV → List Value → List Nat → Prop
  | [], vs, os => vs = [] ∧ os = []
  | x :: xs, vs, os => ∃ u us o1 o2, vs = u :: us ∧ os = o1 ++ o2 ∧ ResS w B N x u o1 ∧ ResL w B N xs us o2

def ResA (w : World) (B : Nat → Prop) (N : Nat) : AV → Value → List Nat → Prop
  | .s x, u, os => ResS w B N x u os
  | .tup l, u, os => ∃ vs, u = .tuple vs.toArray ∧ ResL w B N l vs os
  | .fn f a b, u, os => AVRep w B (.fn f a b) u ∧ os = []

/-- Of what was there only the blocks of 'mv' may have turned. -/
structure Fr (w : World) (mv : List Value) (w' : World) : Prop where
  os : w'.os = w.os
  tape : w'.tape = w.tape
  output : w'.output = w.output
  size : w.heap.size ≤ w'.heap.size
  block : ∀ k, k < w.heap.size → (∀ v ∈ mv, blk v ≠ some k) → w'.heap[k]? = w.heap[k]?

/-- The blocks that what comes back may lead to: what the arguments led to, and new ones that are nobody's own. -/
def After (w : World) (B : Nat → Prop) (os : List Nat) (b : Nat) : Prop := (B b ∨ w.heap.size ≤ b) ∧ b ∉ os

/-- A function of Go's, with a body. -/
def Callable (P : Program) (f : FuncId) : Prop := ∃ fn, P.funcs[f]? = some fn ∧ fn.body.isSome = true ∧ fn.name ≠ "runtime.NumGoroutine"

/-- THE CONTRACT OF A CALL. -/
def SC (P : Program) (f : FuncId) (args : List AV) (r : AV) (outs : List MO) : Prop :=
  Callable P f ∧ ∀ (w : World) (B : Nat → Prop) (vs mv : List Value), (∀ b, B b → ∀ v ∈ mv, blk v ≠ some b) → (mv.map blk).Pairwise (fun a b => a = none ∨ a ≠ b) → ArgRep w B args vs mv →
    Calls P f vs.toArray w fun e w' => ∃ v os, e = .returned v ∧ Fr w mv w' ∧ os.Nodup ∧ (∀ b ∈ os, w.heap.size ≤ b) ∧
      ResA w' (After w B os) w.heap.size r v os ∧ MOsAt w' (After w B os) outs mv

/-! ### States -/

abbrev Obs := List (Option Ob)

structure St where
  sl : List (Option AV)
  ob : Obs

def Obs.obj (ob : Obs) (i : Nat) : Option Ob := ob.getD i none
def Obs.setOb (ob : Obs) (i : Nat) (o : Option Ob) : Obs := List.set ob i o

def St.get (st : St) (t : Nat) : Option AV := st.sl.getD t none
def St.obj (st : St) (i : Nat) : Option Ob := st.ob.obj i
def St.put (st : St) (d : Option Nat) (v : Option AV) : St :=
  match d with
  | some d => ⟨st.sl.set d v, st.ob⟩
  | none => st

/-- The kinds of the program's types. -/
structure Cfg where
  P : Program
  kd : TypeId → Option Kd
  el : TypeId → Option TypeId        -- of a slice type, its elements' type
  tn : TypeId                        -- the nodes' struct type
  eqs : List TypeId                  -- struct types that are compared
  live : FuncId → Nat → List Nat     -- behind which region which slots are wanted still

inductive AEx where
  | normal
  | ret
  | exit (id : Nat)

inductive It where
  | std
  | bool (d : Bool)
  | res (r : AV) (outs : List MO) (ms ids : List Nat)
  | trunc
  | loop (g : St → AEx × St)

def lim : Nat := 2 ^ 40

/-! ### Operands -/

def constSV (C : Cfg) (ty : TypeId) : Value → Option SV
  | .int k n => some (.v (.int k) n)
  | .bool b => some (.v .bool b)
  | .string s => some (.v .str s)
  | .pointer none => some (.v .tree .leaf)
  | .slice none 0 0 => match C.kd ty, C.el ty with
    | some (.sl k), some e => some (.nilsl e k)
    | _, _ => none
  | _ => none

def ev (C : Cfg) (sl : List (Option AV)) (ty : TypeId) : Operand → Option AV
  | .tmp t => sl.getD t none
  | .const v => (constSV C ty v).map .s
  | .func f => some (.fn f [] [])
  | .global _ => none

abbrev Ev := TypeId → Operand → Option AV

def evS (ρ : Ev) (ty : TypeId) (x : Operand) : Option SV :=
  match ρ ty x with
  | some (.s v) => some v
  | _ => none

/-- The plain value of what is read, without more. -/
def plain (ob : Obs) : SV → Option SV
  | .v k x => some (.v k x)
  | .nilsl _ k => some (.v (.sl k) [])
  | .fadr k x => some (.fadr k x)
  | .osl i ver => match ob.obj i with
    | some (.row _ k l ver' _) => if ver = ver' then some (.v (.sl k) l) else none
    | _ => none
  | .adr i none => match ob.obj i with
    | some (.box k x _) => some (.fadr k x)
    | _ => none
  | _ => none

/-- What it leads to is nobody's own any more. -/
def frz (ob : Obs) : SV → Obs
  | .osl i _ => match ob.obj i with
    | some (.row e k l ver _) => ob.setOb i (some (.row e k l ver true))
    | _ => ob
  | .adr i _ => match ob.obj i with
    | some (.box k x _) => ob.setOb i (some (.box k x true))
    | _ => ob
  | _ => ob

/-- A value that goes into memory. -/
def esc (ob : Obs) (x : SV) : Option (SV × Obs) :=
  match plain ob x with
  | some y => some (y, frz ob x)
  | none => none

/-- A value of a kind that goes into memory. -/
def escK (ob : Obs) (k : Kd) (x : SV) : Option (k.ty × Obs) :=
  match esc ob x with
  | some (.v q y, ob') => if h : q = k then some (castK h y, ob') else none
  | _ => none

/-! ### Arithmetic -/

def keq : (k : Kd) → k.ty → k.ty → Option Bool
  | .int _, x, y => some (x == y)
  | .bool, x, y => some (x == y)
  | .str, x, y => some (x.toList == y.toList)
  | .pr a b, x, y => match keq a x.1 y.1, keq b x.2 y.2 with
    | some p, some q => some (p && q)
    | _, _ => none
  | _, _, _ => none

/-- Numbers: the value, and what is owed. -/
def abinI (op : BinOp) (k : IntKind) (x y : Int) : Option (SV × List Prop) :=
  match op with
  | .add => some (.v (.int k) (k.wrap (x + y)), [])
  | .sub => some (.v (.int k) (k.wrap (x - y)), [])
  | .mul => some (.v (.int k) (k.wrap (x * y)), [])
  | .quo => some (.v (.int k) (k.wrap (x.tdiv y)), [y ≠ 0])
  | .rem => some (.v (.int k) (x.tmod y), [y ≠ 0])
  | .and => some (.v (.int k) (k.wrap (BitVec.ofInt k.bits x &&& BitVec.ofInt k.bits y).toNat), [])
  | .or => some (.v (.int k) (k.wrap (BitVec.ofInt k.bits x ||| BitVec.ofInt k.bits y).toNat), [])
  | .xor => some (.v (.int k) (k.wrap (BitVec.ofInt k.bits x ^^^ BitVec.ofInt k.bits y).toNat), [])
  | .andNot => some (.v (.int k) (k.wrap (BitVec.ofInt k.bits x &&& ~~~BitVec.ofInt k.bits y).toNat), [])
  | .eql => some (.v .bool (x == y), [])
  | .neq => some (.v .bool (x != y), [])
  | .lss => some (.v .bool (decide (x < y)), [])
  | .leq => some (.v .bool (decide (x ≤ y)), [])
  | .gtr => some (.v .bool (decide (x > y)), [])
  | .geq => some (.v .bool (decide (x ≥ y)), [])
  | _ => none

def abinS (op : BinOp) (x y : ByteArray) : Option (SV × List Prop) :=
  match op with
  | .add => some (.v .str (x ++ y), [x.size + y.size ≤ 2 ^ 62])
  | .eql => some (.v .bool (x.toList == y.toList), [])
  | .neq => some (.v .bool (!(x.toList == y.toList)), [])
  | .lss => some (.v .bool (Op.bytesLess x.toList y.toList), [])
  | .leq => some (.v .bool (Op.bytesLess x.toList y.toList || x.toList == y.toList), [])
  | .gtr => some (.v .bool (!(Op.bytesLess x.toList y.toList || x.toList == y.toList)), [])
  | .geq => some (.v .bool (!Op.bytesLess x.toList y.toList), [])
  | _ => none

def abin (C : Cfg) (op : BinOp) (t : TypeId) : SV → SV → Option (SV × List Prop)
  | .v (.int k) x, .v (.int k') y =>
    match op with
    | .shl => some (.v (.int k) (k.wrap (x * 2 ^ (min y.toNat k.bits))), [0 ≤ y])
    | .shr => some (.v (.int k) (x.fdiv (2 ^ (min y.toNat k.bits))), [0 ≤ y])
    | _ => if k = k' then abinI op k x y else none
  | .v .str x, .v .str y => abinS op x y
  | .v .tree x, .v .tree .leaf => if C.kd t = some .tree then match op with
    | .eql => some (.v .bool x.isLeaf, [])
    | .neq => some (.v .bool (!x.isLeaf), [])
    | _ => none
    else none
  | .v .bool x, .v .bool y => if C.kd t = some .bool then match op with
    | .eql => some (.v .bool (x == y), [])
    | .neq => some (.v .bool (!(x == y)), [])
    | _ => none
    else none
  | .v (.pr a b) x, .v q y => if h : q = .pr a b then (if C.kd t = some (.pr a b) ∧ C.eqs.contains t = true then match op, keq (.pr a b) x (castK h y) with
    | .eql, some p => some (.v .bool p, [])
    | .neq, some p => some (.v .bool (!p), [])
    | _, _ => none
    else none) else none
  | _, _ => none

/-- A test's result, as the script has it. -/
def decided (it : It) : SV × List Prop → Option (SV × List Prop)
  | (.v .bool b, ps) => match it with
    | .std => some (.v .bool b, ps)
    | .bool d => some (.v .bool d, ps ++ [b = d])
    | _ => none
  | r => some r

def isCmp : BinOp → Bool
  | .eql | .neq | .lss | .leq | .gtr | .geq => true
  | _ => false

def strOf (l : List Int) : ByteArray := ⟨(l.map fun n => UInt8.ofNat n.toNat).toArray⟩
def bt (s : ByteArray) (j : Int) : Int := (s.data.getD j.toNat 0).toNat

/-! ### One operation -/

/-- What an operation does: the new value of its slot, the objects, what is owed. -/
abbrev Out := Option AV × Obs × List Prop

def newOb (ob : Obs) (d : Nat) (o : Ob) (v : SV) : Option Out :=
  match ob.obj d with
  | none => if d < ob.length then some (some (.s v), ob.setOb d (some o), []) else none
  | some _ => none

/-- A result goes into its slot: what is the call's own becomes an object, if it has a number. -/
def landS (ob : Obs) (ids : List Nat) : SV → Option (SV × List Nat × Obs)
  | .own e k l => match ids with
    | [] => none
    | d :: ids => match ob.obj d with
      | none => if d < ob.length then some (.osl d 0, ids, ob.setOb d (some (.row e k l 0 false))) else none
      | some _ => none
  | .v k x => some (.v k x, ids, ob)
  | .fadr k x => some (.fadr k x, ids, ob)
  | _ => none

def landL (ob : Obs) (ids : List Nat) : List SV → Option (List SV × Obs)
  | [] => some ([], ob)
  | x :: xs => match landS ob ids x with
    | some (y, ids', ob') => match landL ob' ids' xs with
      | some (ys, ob'') => some (y :: ys, ob'')
      | none => none
    | none => none

def landA (ob : Obs) (ids : List Nat) : AV → Option (AV × Obs)
  | .s x => match landS ob ids x with
    | some (y, _, ob') => some (.s y, ob')
    | none => none
  | .tup l => match landL ob ids l with
    | some (ys, ob') => some (.tup ys, ob')
    | none => none
  | .fn f a b => some (.fn f a b, ob)

def mapO {α β : Type} (f : α → Option β) : List α → Option (List β)
  | [] => some []
  | x :: xs => match f x, mapO f xs with
    | some y, some ys => some (y :: ys)
    | _, _ => none

def SV.flat : SV → Bool
  | .v k _ => k.flat
  | .own _ k _ => k.flat
  | _ => false

def AV.flat : AV → Bool
  | .s x => x.flat
  | .tup l => l.all SV.flat
  | .fn .. => false

/-- The arguments of a call: each as it is handed over. -/
def argAV (ob : Obs) (ms : List Nat) (i : Nat) : AV → Option AV
  | .s (.adr j none) => match ob.obj j with
    | some (.box k x false) => some (.s (.mbx k x))
    | some (.box k x true) => some (.s (.fadr k x))
    | _ => none
  | .s (.osl j ver) => match ob.obj j with
    | some (.row e k l ver' fz) => if ver = ver' then (if ms.contains i then (if fz then none else some (.s (.msl e k l))) else some (.s (.v (.sl k) l))) else none
    | _ => none
  | .s x => (plain ob x).map .s
  | .tup _ => none
  | .fn f a b => some (.fn f a b)

def argsAV (ob : Obs) (ms : List Nat) : Nat → List AV → Option (List AV)
  | _, [] => some []
  | i, a :: as => match argAV ob ms i a, argsAV ob ms (i + 1) as with
    | some x, some xs => some (x :: xs)
    | _, _ => none

/-- What was handed over to be changed is changed. -/
def setMO (ob : Obs) (j : Nat) : MO → Option Obs
  | .box k' x' => match ob.obj j with
    | some (.box k _ false) => if h : k' = k then some (ob.setOb j (some (.box k (castK h x') false))) else none
    | _ => none
  | .row e' k' l' => match ob.obj j with
    | some (.row e k l ver false) => if h : k' = k then (if e' = e then some (ob.setOb j (some (.row e k (castK (k := .sl k) (q := .sl k') (congrArg Kd.sl h) l') ver false))) else none) else none
    | _ => none

/-- The slices among the arguments are nobody's own any more. -/
def frzAll (ob : Obs) : List AV → Obs
  | [] => ob
  | .s (.osl i v) :: as => frzAll (frz ob (.osl i v)) as
  | _ :: as => frzAll ob as

def frzs (ob : Obs) : List SV → Obs
  | [] => ob
  | x :: xs => frzs (frz ob x) xs

def evArgs (ρ : Ev) : List Operand → List TypeId → Option (List AV)
  | [], _ => some []
  | x :: xs, ts => match ρ (ts.headD 0) x, evArgs ρ xs ts.tail with
    | some y, some ys => some (y :: ys)
    | _, _ => none

/-- The objects that are handed over to be changed, and those that are read. -/
def mutIds (ob : Obs) (ms : List Nat) : Nat → List AV → List Nat
  | _, [] => []
  | i, .s (.adr j none) :: as => match ob.obj j with
    | some (.box _ _ false) => j :: mutIds ob ms (i + 1) as
    | _ => mutIds ob ms (i + 1) as
  | i, .s (.osl j _) :: as => if ms.contains i then j :: mutIds ob ms (i + 1) as else mutIds ob ms (i + 1) as
  | i, _ :: as => mutIds ob ms (i + 1) as

/-- Those that are read. -/
def roIds (ob : Obs) (ms : List Nat) : Nat → List AV → List Nat
  | _, [] => []
  | i, .s (.adr j none) :: as => match ob.obj j with
    | some (.box _ _ false) => roIds ob ms (i + 1) as
    | _ => j :: roIds ob ms (i + 1) as
  | i, .s (.osl j _) :: as => if ms.contains i then roIds ob ms (i + 1) as else j :: roIds ob ms (i + 1) as
  | i, _ :: as => roIds ob ms (i + 1) as

def MO.flat : MO → Bool
  | .box k _ => k.flat
  | .row _ k _ => k.flat

def callFrz (ob : Obs) (as : List AV) (r : AV) (outs : List MO) : Obs := if r.flat && outs.all MO.flat then ob else frzAll ob as

def callMut (ob ob1 : Obs) (ms : List Nat) (as : List AV) (outs : List MO) : Option Obs :=
  match mutIds ob ms 0 as, outs with
  | [], [] => some ob1
  | [j], [mo] => if (roIds ob ms 0 as).contains j then none else setMO ob1 j mo
  | _, _ => none

def callStep (C : Cfg) (it : It) (f : FuncId) (as : List AV) (ob : Obs) : Option Out :=
  match it with
  | .res r outs ms ids =>
    match argsAV ob ms 0 as with
    | none => none
    | some xs =>
      match callMut ob (callFrz ob as r outs) ms as outs with
      | none => none
      | some ob2 => match landA ob2 ids r with
        | none => none
        | some (y, ob3) => some (some y, ob3, [SC C.P f xs r outs])
  | _ => none

def sizeOK (n : Nat) : Prop := n ≤ lim

def parts (ob : Obs) (k : Kd) (x : k.ty) : List (Nat × SV) → Option (k.ty × Obs)
  | [] => some (x, ob)
  | (i, y) :: ps => match esc ob y with
    | some (.v q z, ob') => match k.upd x i q z with
      | some x' => parts ob' k x' ps
      | none => none
    | _ => none

def elems (ob : Obs) (k : Kd) (l : List k.ty) : List (Nat × SV) → Option (List k.ty × Obs)
  | [] => some (l, ob)
  | (i, y) :: ps => match escK ob k y with
    | some (z, ob') => if i < l.length then elems ob' k (l.set i z) ps else none
    | none => none

def evParts (ρ : Ev) : List (Nat × Operand) → Option (List (Nat × SV))
  | [] => some []
  | (i, x) :: ps => match evS ρ 0 x, evParts ρ ps with
    | some y, some ys => some ((i, y) :: ys)
    | _, _ => none

/-- A cut of a list. -/
def cutL {α : Type} (l : List α) (lo hi : Int) : List α := (l.take hi.toNat).drop lo.toNat

/-- The bounds of a cut: below, above; what is owed. -/
def bounds (n : Nat) (lo hi : Bool) (xs : List SV) : Option (Int × Int × List Prop) :=
  match lo, hi, xs with
  | false, false, [] => some (0, n, [])
  | true, false, [.v (.int .i64) l] => some (l, n, [0 ≤ l, l ≤ (n : Int)])
  | false, true, [.v (.int .i64) h] => some (0, h, [0 ≤ h, h ≤ (n : Int)])
  | true, true, [.v (.int .i64) l, .v (.int .i64) h] => some (l, h, [0 ≤ l, l ≤ h, h ≤ (n : Int)])
  | _, _, _ => none

def maxI (x y : Int) : Int := if y > x then y else x

/-- Operations over plain values: nothing of the call's own is read. -/
def apure (C : Cfg) (it : It) (op : Op) (xs : List SV) : Option (SV × List Prop) :=
  match op with
  | .load t _ => match xs with
    | [.fadr k x] => if C.kd t = some k then some (.v k x, []) else none
    | [.v .tree (.node l r)] => if t = C.tn then some (.v (.pr .tree .tree) (l, r), []) else none
    | _ => none
  | .binOp bo t _ _ _ => match xs with
    | [a, b] => match abin C bo t a b with
      | some r => if isCmp bo then decided it r else some r
      | none => none
    | _ => none
  | .unOp uo _ _ => match uo, xs with
    | .not, [.v .bool b] => some (.v .bool (!b), [])
    | .neg, [.v (.int k) n] => some (.v (.int k) (k.wrap (0 - n)), [])
    | _, _ => none
  | .convert s t _ => match xs, C.kd s, C.kd t with
    | [.v (.int _) n], some (.int _), some (.int k') => some (.v (.int k') (k'.wrap n), [])
    | [.v (.sl (.int .u8)) l], some (.sl (.int .u8)), some .str => match C.el s with
      | some e => if C.kd e = some (.int .u8) then some (.v .str (strOf l), []) else none
      | none => none
    | _, _, _ => none
  | .slice t _ lo hi none => match xs, C.kd t with
    | .v .str s :: ys, some .str => match bounds s.size lo.isSome hi.isSome ys with
      | some (l, h, ps) => some (.v .str (s.extract l.toNat h.toNat), ps)
      | none => none
    | .v (.sl k) m :: ys, some (.sl k') => if k = k' then match bounds (List.length m) lo.isSome hi.isSome ys with
        | some (l, h, ps) => some (.v (.sl k) (cutL m l h), ps)
        | none => none
      else none
    | _, _ => none
  | .fieldAddr s _ f => match xs with
    | [.v .tree (.node l r)] => if s = C.tn then match f with
        | 0 => some (.fadr .tree l, [])
        | 1 => some (.fadr .tree r, [])
        | _ => none
      else none
    | [.fadr k y] => match k.sel y f with
      | some ⟨q, z⟩ => if C.kd s = some k ∧ isPr k = true ∧ k.thin = true then some (.fadr q z, []) else none
      | none => none
    | _ => none
  | .field s _ f => match xs with
    | [.v k y] => match k.sel y f with
      | some ⟨q, z⟩ => if C.kd s = some k ∧ isPr k = true ∧ k.thin = true then some (.v q z, []) else none
      | none => none
    | _ => none
  | .indexAddr t _ _ => match xs, C.kd t with
    | [.v (.sl k) l, .v (.int _) j], some (.sl k') => if k = k' then some (.fadr k (List.getD l j.toNat k.z), [0 ≤ j, j < (List.length l : Int)]) else none
    | _, _ => none
  | .index t _ _ => match xs, C.kd t with
    | [.v .str s, .v (.int _) j], some .str => some (.v (.int .u8) (bt s j), [0 ≤ j, j < (s.size : Int)])
    | _, _ => none
  | .call { callee := .builtin .len, args, argTypes } => match xs, args.size, C.kd (argTypes.getD 0 0), argTypes.size with
    | [.v .str s], 1, some .str, 1 => some (.v (.int .i64) s.size, [])
    | [.v (.sl k) l], 1, some (.sl _), 1 => some (.v (.int .i64) (List.length l), [])
    | [.nilsl _ _], 1, some (.sl _), 1 => some (.v (.int .i64) (0 : Int), [])
    | _, _, _, _ => none
  | .call { callee := .builtin .max, .. } => match xs with
    | [.v (.int .i64) x, .v (.int .i64) y] => some (.v (.int .i64) (maxI x y), [])
    | _ => none
  | _ => none

def isAlias : SV → Bool
  | .adr _ _ | .osl _ _ | .oel _ _ _ _ => true
  | _ => false

/-- The plain values of operands, whatever is read. -/
def plains (ob : Obs) : List SV → Option (List SV)
  | [] => some []
  | x :: xs => match plain ob x, plains ob xs with
    | some y, some ys => some (y :: ys)
    | _, _ => none

def evSs (ρ : Ev) : List Operand → Option (List SV)
  | [] => some []
  | x :: xs => match evS ρ 0 x, evSs ρ xs with
    | some y, some ys => some (y :: ys)
    | _, _ => none

def appendStep (C : Cfg) (d : Nat) (t : TypeId) (x y : SV) (ob : Obs) : Option Out :=
  match C.el t, x with
  | some e, .nilsl e' k => match plain ob y with
    | some (.v q m) => if h : q = .sl k then
        if e = e' ∧ C.kd e = some k then match ob.obj d with
          | none => if d < ob.length then some (some (.s (.osl d 0)), ob.setOb d (some (.row e k (castK h m) 0 false)), [sizeOK (List.length (α := k.ty) (castK h m))]) else none
          | some _ => none
        else none
      else none
    | _ => none
  | some e, .osl i ver => match ob.obj i, plain ob y with
    | some (.row e' k l ver' false), some (.v q m) => if h : q = .sl k then
        if ver = ver' ∧ e = e' ∧ C.kd e = some k then
          some (some (.s (.osl i (ver + 1))), ob.setOb i (some (.row e k (l ++ (castK h m)) (ver + 1) false)), [sizeOK (l.length + List.length (α := k.ty) (castK h m))])
        else none
      else none
    | _, _ => none
  | _, _ => none

/-- A store. -/
def storeStep (C : Cfg) (t : TypeId) (a y : SV) (ob : Obs) : Option Out :=
  match a with
  | .adr i none => match ob.obj i with
    | some (.box k _ false) => match escK ob k y with
      | some (z, ob') => match ob'.obj i with
        | some (.box _ _ false) => if C.kd t = some k then some (none, ob'.setOb i (some (.box k z false)), []) else none
        | _ => none
      | none => none
    | _ => none
  | .adr i (some f) => match ob.obj i with
    | some (.box k x false) => match esc ob y with
      | some (.v q z, ob') => match k.upd x f q z, ob'.obj i with
        | some x', some (.box _ _ false) => if C.kd t = some q ∧ k.thin then some (none, ob'.setOb i (some (.box k x' false)), []) else none
        | _, _ => none
      | _ => none
    | _ => none
  | .oel i ver j 0 => match ob.obj i with
    | some (.row e k l ver' false) => if ver = ver' then match escK ob k y with
        | some (z, ob') => match ob'.obj i with
          | some (.row _ _ _ _ false) => if C.kd t = some k then some (none, ob'.setOb i (some (.row e k (l.set j z) ver' false)), [j < l.length]) else none
          | _ => none
        | none => none
      else none
    | _ => none
  | .oel i ver j (f + 1) => match ob.obj i with
    | some (.row e k l ver' false) => if ver = ver' then match esc ob y with
        | some (.v q z, ob') => match k.upd (l.getD j k.z) f q z, ob'.obj i with
          | some x', some (.row _ _ _ _ false) => if C.kd t = some q ∧ k.thin then some (none, ob'.setOb i (some (.row e k (l.set j x') ver' false)), [j < l.length]) else none
          | _, _ => none
        | _ => none
      else none
    | _ => none
  | _ => none

/-- What reads the call's own objects. -/
def aliasStep (C : Cfg) (it : It) (op : Op) (xs : List SV) (ob : Obs) : Option Out :=
  match op with
  | .load t _ => match xs with
    | [.adr i none] => match ob.obj i with
      | some (.box k x _) => if C.kd t = some k then some (some (.s (.v k x)), ob, []) else none
      | _ => none
    | [.adr i (some f)] => match ob.obj i with
      | some (.box k x _) => match k.sel x f with
        | some ⟨q, y⟩ => if C.kd t = some q ∧ k.thin then some (some (.s (.v q y)), ob, []) else none
        | none => none
      | _ => none
    | [.oel i ver j 0] => match ob.obj i with
      | some (.row _ k l ver' _) => if ver = ver' ∧ C.kd t = some k then some (some (.s (.v k (l.getD j k.z))), ob, [j < l.length]) else none
      | _ => none
    | [.oel i ver j (f + 1)] => match ob.obj i with
      | some (.row _ k l ver' _) => match k.sel (l.getD j k.z) f with
        | some ⟨q, y⟩ => if ver = ver' ∧ C.kd t = some q ∧ k.thin then some (some (.s (.v q y)), ob, [j < l.length]) else none
        | none => none
      | _ => none
    | _ => none
  | .fieldAddr s _ f => match xs with
    | [.oel i ver j 0] => match ob.obj i with
      | some (.row _ k l ver' _) => match k.sel (l.getD j k.z) f with
        | some _ => if ver = ver' ∧ C.kd s = some k ∧ isPr k = true ∧ k.thin = true then some (some (.s (.oel i ver j (f + 1))), ob, []) else none
        | none => none
      | _ => none
    | [.adr i none] => match ob.obj i with
      | some (.box k x _) => match k.sel x f with
        | some _ => if C.kd s = some k ∧ isPr k = true ∧ k.thin = true then some (some (.s (.adr i (some f))), ob, []) else none
        | none => none
      | _ => none
    | _ => none
  | .indexAddr t _ _ => match xs, C.kd t with
    | [.osl i ver, .v (.int _) j], some (.sl k') => match ob.obj i with
      | some (.row _ k l ver' _) => if ver = ver' ∧ k = k' then some (some (.s (.oel i ver j.toNat 0)), ob, [0 ≤ j, j < (l.length : Int)]) else none
      | _ => none
    | _, _ => none
  | .slice t _ lo hi none => match xs, it with
    | .osl i ver :: ys, .trunc => match ob.obj i, lo, C.kd t with
      | some (.row e k m ver' false), none, some (.sl k') => if ver = ver' ∧ k = k' then match bounds m.length false hi.isSome ys with
          | some (_, h, ps) => some (some (.s (.osl i (ver + 1))), ob.setOb i (some (.row e k (m.take h.toNat) (ver + 1) false)), ps)
          | none => none
        else none
      | _, _, _ => none
    | .osl i ver :: ys, _ => match plain ob (.osl i ver) with
      | some y => match apure C it op (y :: ys) with
        | some (z, ps) => some (some (.s z), frz ob (.osl i ver), ps)
        | none => none
      | none => none
    | _, _ => none
  | .convert .. => match plains ob xs with
    | some ys => match apure C it op ys with
      | some (z, ps) => some (some (.s z), ob, ps)
      | none => none
    | none => none
  | .call { callee := .builtin .len, .. } => match plains ob xs with
    | some ys => match apure C it op ys with
      | some (z, ps) => some (some (.s z), ob, ps)
      | none => none
    | none => none
  | _ => none

def moveStep (ρ : Ev) (ob : Obs) (ty : TypeId) (x : Operand) : Option Out :=
  match ρ ty x with
  | some v => some (some v, ob, [])
  | none => none

def astep0 (C : Cfg) (it : It) (o : Oper) (ρ : Ev) (ob : Obs) : Option Out :=
  match o.op with
  | .move x | .assign x => moveStep ρ ob o.type x
  | .pick c a b => match evS ρ 0 c with
    | some (.v .bool true) => moveStep ρ ob o.type a
    | some (.v .bool false) => moveStep ρ ob o.type b
    | _ => none
  | .alloc t => match C.kd t, o.dst with
    | some k, some d => if t = C.tn then some (some (.s (.v .tree (.node .leaf .leaf))), ob, []) else newOb ob d (.box k k.z false) (.adr d none)
    | _, _ => none
  | .box t x => match C.kd t, o.dst, evS ρ t x with
    | some k, some d, some y =>
      if t = C.tn then match y with
        | .v (.pr .tree .tree) p => some (some (.s (.v .tree (.node p.1 p.2))), ob, [])
        | _ => none
      else match escK ob k y with
        | some (z, ob') => newOb ob' d (.box k z false) (.adr d none)
        | none => none
    | _, _, _ => none
  | .build t ps => match C.kd t, evParts ρ ps.toList with
    | some (.pr a b), some qs => match parts ob (.pr a b) (Kd.z (.pr a b)) qs with
      | some (z, ob') => if (Kd.pr a b).thin then some (some (.s (.v (.pr a b) z)), ob', []) else none
      | none => none
    | _, _ => none
  | .buildSlice t n ps => match C.kd t, C.el t, o.dst, evParts ρ ps.toList with
    | some (.sl k), some e, some d, some qs => if C.kd e = some k ∧ n ≤ 1000 then match elems ob k (List.replicate n k.z) qs with
        | some (l, ob') => newOb ob' d (.row e k l 0 false) (.osl d 0)
        | none => none
      else none
    | _, _, _, _ => none
  | .store t a v => match evS ρ 0 a, evS ρ t v with
    | some x, some y => storeStep C t x y ob
    | _, _ => none
  | .nilCheck x => match evS ρ 0 x with
    | some (.v .tree (.node l r)) => some (some (.s (.v .tree (.node l r))), ob, [])
    | some (.fadr k y) => some (some (.s (.fadr k y)), ob, [])
    | some (.adr i f) => some (some (.s (.adr i f)), ob, [])
    | _ => none
  | .makeFunc (.func g) first caps => match evSs ρ first.toList, evSs ρ caps.toList with
    | some xs, some ys => match plains ob xs, plains ob ys with
      | some xs', some ys' => some (some (.fn g xs' ys'), frzs ob (xs ++ ys), [])
      | _, _ => none
    | _, _ => none
  | .makeSlice t n m => match C.kd t, C.el t, o.dst, evS ρ 0 n, evS ρ 0 m with
    | some (.sl k), some e, some d, some (.v (.int .i64) a), some (.v (.int .i64) b) => if C.kd e = some k then match ob.obj d with
        | none => if d < ob.length then some (some (.s (.osl d 0)), ob.setOb d (some (.row e k (List.replicate a.toNat k.z) 0 false)), [0 ≤ a, a ≤ (lim : Int), b = a]) else none
        | some _ => none
      else none
    | _, _, _, _, _ => none
  | .extract x i => match ρ 0 x with
    | some (.tup l) => match l[i]? with
      | some v => some (some (.s v), ob, [])
      | none => none
    | _ => none
  | .call { callee := .builtin .append, args, argTypes } => match args.toList, argTypes.toList, o.dst with
    | [x, y], [t, t'], some d => if t = t' then match evS ρ t x, evS ρ t y with
        | some a, some b => appendStep C d t a b ob
        | _, _ => none
      else none
    | _, _, _ => none
  | .call { callee := .value f, args, argTypes } => match ρ 0 f, evArgs ρ args.toList argTypes.toList with
    | some (.fn g first caps), some xs => callStep C it g (first.map .s ++ xs ++ caps.map .s) ob
    | _, _ => none
  | op => match evSs ρ op.operands.toList with
    | some xs => if xs.any isAlias then aliasStep C it op xs ob else match apure C it op xs with
      | some (z, ps) => some (some (.s z), ob, ps)
      | none => none
    | none => none

/-- A truth that is read is decided by the script. -/
def decB (it : It) (op : Op) : Option Out → Option Out
  | some (some (.s (.v .bool b)), ob, ps) => match it, op with
    | .bool d, .load .. => some (some (.s (.v .bool d)), ob, ps ++ [b = d])
    | .bool d, .field .. => some (some (.s (.v .bool d)), ob, ps ++ [b = d])
    | _, _ => some (some (.s (.v .bool b)), ob, ps)
  | r => r

def astep (C : Cfg) (it : It) (o : Oper) (ρ : Ev) (ob : Obs) : Option Out := decB it o.op (astep0 C it o ρ ob)

/-! ### Regions -/

def needs (C : Cfg) (sl : List (Option AV)) (o : Oper) : Bool :=
  match o.op with
  | .load .. => decide (C.kd o.type = some .bool)
  | .field .. => decide (C.kd o.type = some .bool)
  | .binOp op .. => isCmp op
  | .call { callee := .value _, .. } => true
  | .slice _ (.tmp t) .. => match sl.getD t none with
    | some (.s (.osl ..)) => true
    | _ => false
  | _ => false

/-- Is an operation carried out? -/
def awant (all : List Oper) (sl : List (Option AV)) (o : Oper) : Option Bool :=
  match o.guard with
  | none => some true
  | some (j, b) => match all[j]? with
    | some p => match p.dst with
      | some d => match sl.getD d none with
        | some (.s (.v .bool true)) => some b
        | some (.s (.v .bool false)) => some (!b)
        | some (.tup []) => some false
        | _ => none
      | none => none
    | none => none

/-- One operation of a region: the item of the script, if it wants one. -/
def aone (C : Cfg) (all : List Oper) (it : It) (o : Oper) (st : St) : Option (St × List Prop) :=
  match awant all st.sl o with
  | some true => match astep C it o (ev C st.sl) st.ob with
    | some (v, ob, ps) => some (St.put ⟨st.sl, ob⟩ o.dst v, ps)
    | none => none
  | some false => some (st.put o.dst (some (.tup [])), [])
  | none => none

def takes (C : Cfg) (all : List Oper) (st : St) (o : Oper) : Bool := awant all st.sl o == some true && needs C st.sl o

def aops (C : Cfg) (all : List Oper) : List Oper → List It → St → List Prop → Option (St × List It × List Prop)
  | [], its, st, lg => some (st, its, lg)
  | o :: rest, its, st, lg =>
    if takes C all st o then
      match its with
      | it :: its' => match aone C all it o st with
        | some (st', ps) => aops C all rest its' st' (lg ++ ps)
        | none => none
      | [] => none
    else match aone C all .std o st with
      | some (st', ps) => aops C all rest its st' (lg ++ ps)
      | none => none

/-- Only these slots are wanted still. -/
def only (ks : List Nat) : Nat → List (Option AV) → List (Option AV)
  | _, [] => []
  | i, v :: vs => (if ks.contains i then v else none) :: only ks (i + 1) vs

def svHas (i : Nat) : SV → Bool
  | .adr j _ => i == j
  | .osl j _ => i == j
  | .oel j _ _ _ => i == j
  | _ => false

def avHas (i : Nat) : Option AV → Bool
  | some (.s x) => svHas i x
  | some (.tup l) => l.any (svHas i)
  | _ => false

def onlyOb (np : Nat) (sl : List (Option AV)) : Nat → Obs → Obs
  | _, [] => []
  | i, o :: os => (match o with
    | none => none
    | some x => if i < np || sl.any (avHas i) then some x else none) :: onlyOb np sl (i + 1) os

def sweep (np : Nat) (ks : List Nat) (st : St) : St :=
  let sl := only ks 0 st.sl
  ⟨sl, onlyOb np sl 0 st.ob⟩

/-- Is every slice over the row at its latest version? -/
def svVer (i ver : Nat) : SV → Bool
  | .osl j v => !(i == j) || ver == v
  | .oel j _ _ _ => !(i == j)
  | _ => true

def avVer (i ver : Nat) : Option AV → Bool
  | some (.s x) => svVer i ver x
  | some (.tup l) => l.all (svVer i ver)
  | _ => true

def renS (i : Nat) : SV → SV
  | .osl j v => if i = j then .osl j 0 else .osl j v
  | x => x

def renA (i : Nat) : AV → AV
  | .s x => .s (renS i x)
  | .tup l => .tup (l.map (renS i))
  | x => x

/-- A row's versions are counted anew. -/
def renOne (i : Nat) (st : St) : St :=
  match st.ob.obj i with
  | some (.row e k l ver z) => if ver ≠ 0 ∧ st.sl.all (avVer i ver) = true then ⟨st.sl.map (Option.map (renA i)), st.ob.setOb i (some (.row e k l 0 z))⟩ else st
  | _ => st

def renFrom : Nat → Nat → St → St
  | _, 0, st => st
  | i, n + 1, st => renFrom (i + 1) n (renOne i st)

/-- A nil slice in a variable becomes a row of the call's own, without elements. -/
def nilOne (i : Nat) (st : St) : St :=
  match st.sl.getD i none, st.ob.obj i with
  | some (.s (.nilsl e k)), none => if i < st.ob.length then ⟨st.sl.set i (some (.s (.osl i 0))), st.ob.setOb i (some (.row e k [] 0 false))⟩ else st
  | _, _ => st

def nilFrom : Nat → Nat → St → St
  | _, 0, st => st
  | i, n + 1, st => nilFrom (i + 1) n (nilOne i st)

def renum (np : Nat) (st : St) : St := nilFrom np (st.ob.length - np) (renFrom np (st.ob.length - np) st)

/-! ### Regions that draw their order -/

def avAlias : AV → Bool
  | .s x => isAlias x
  | _ => false

def avAdr : AV → Bool
  | .s (.adr ..) => true
  | _ => false

/-- What an operation has to do with the objects: 0: nothing; 1: it may read them; 2: more. -/
def cls (it : It) (o : Oper) (ρ : Ev) : Nat :=
  match o.op with
  | .move _ | .assign _ | .pick .. | .extract .. | .nilCheck _ => 0
  | .load .. => match evSs ρ o.op.operands.toList with
    | some [.adr i _] => 3 + 2 * i
    | some xs => if xs.any isAlias then 1 else 0
    | none => 2
  | .store t a x => match evS ρ 0 a, evS ρ t x with
    | some (.adr i _), some y => if isAlias y then 2 else 4 + 2 * i
    | _, _ => 2
  | .binOp .. | .unOp .. | .convert .. | .slice .. | .fieldAddr .. | .field .. | .indexAddr .. | .index .. | .call { callee := .builtin .len, .. } | .call { callee := .builtin .max, .. } =>
    match evSs ρ o.op.operands.toList with
    | some xs => if xs.any isAlias then (match o.op with | .slice .. => 2 | _ => 1) else 0
    | none => 2
  | .call { callee := .value f, args, argTypes } => match it, ρ 0 f, evArgs ρ args.toList argTypes.toList with
    | .res r [] [] [], some (.fn _ first caps), some xs =>
      if (first.map AV.s ++ xs ++ caps.map AV.s).any avAlias then (if (first.map AV.s ++ xs ++ caps.map AV.s).any avAdr then 2 else if r.flat then 1 else 2) else 0
    | _, _, _ => 2
  | .build _ ps => match evParts ρ ps.toList with
    | some xs => if xs.any (fun p => isAlias p.2) then 2 else 0
    | none => 2
  | _ => 2

/-- Does the operation j wait for i? -/
def reach (ops : List Oper) : Nat → Nat → Nat → Bool
  | 0, _, _ => false
  | n + 1, j, i => match ops[j]? with
    | some o => o.after.toList.any fun e => Region.binds .any e && (e.on == i || reach ops n e.on i)
    | none => false

/-- It leaves the objects as they are. -/
def rdB (c : Nat) : Bool := c == 1 || (decide (3 ≤ c) && (c - 3) % 2 == 0)
/-- The one object that it has to do with. -/
def idxC (c : Nat) : Nat := (c - 3) / 2

def compat (a b : Nat) : Bool := a == 0 || b == 0 || (rdB a && rdB b) || (decide (3 ≤ a) && decide (3 ≤ b) && !(idxC a == idxC b))

/-- The classes of the operations, in the text's order. -/
def classes (C : Cfg) (all : List Oper) : List Oper → List It → St → Option (List Nat)
  | [], _, _ => some []
  | o :: rest, its, st =>
    if takes C all st o then
      match its with
      | it :: its' => match aone C all it o st, aone C all it o st with
        | some (st', _), _ => (classes C all rest its' st').map (cls it o (ev C st.sl) :: ·)
        | none, _ => none
      | [] => none
    else match aone C all .std o st with
      | some (st', _) => (classes C all rest its st').map ((if awant all st.sl o == some true then cls .std o (ev C st.sl) else 0) :: ·)
      | none => none

def pairsOK (all : List Oper) (cs : List Nat) : Bool :=
  (List.range all.length).all fun j => (List.range j).all fun i =>
    reach all (all.length + 1) j i || match all[i]?, all[j]? with
      | some x, some y => x.apart all.toArray y && compat (cs.getD i 2) (cs.getD j 2)
      | _, _ => false

def lexOK (all : List Oper) : Bool :=
  (List.range all.length).all fun j => match all[j]? with
    | some o => o.after.toList.all (fun e => !Region.binds .any e || decide (e.on < j)) && (match o.op with | .select .. => false | _ => true)
    | none => true

def drawOK (C : Cfg) (all : List Oper) (its : List It) (st : St) : Bool :=
  lexOK all && match classes C all all its st with
    | some cs => pairsOK all cs
    | none => false

end Go.AI
