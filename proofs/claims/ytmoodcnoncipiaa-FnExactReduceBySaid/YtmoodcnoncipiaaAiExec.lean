/- What a state says of a frame and a world; loops' contracts; the evaluator over code; the run of a function. -/
import Derived.Test.YtmoodcnoncipiaaAiEval
set_option autoImplicit false
set_option linter.unusedVariables false
namespace Go.AI

/-- The call that a frame belongs to: its world at the beginning, what its arguments may lead to, and the places that it may change. -/
structure Ctx where
  w0 : World
  B0 : Nat → Prop
  pm : List (Nat × Value)

def Ctx.mv (X : Ctx) : List Value := X.pm.map (·.2)

def Ob.frz : Ob → Bool
  | .box _ _ f => f
  | .row _ _ _ _ f => f

/-- The blocks that values may lead to. -/
def Bs (X : Ctx) (ob : Obs) (γ : Nat → Value) (b : Nat) : Prop :=
  (X.B0 b ∨ X.w0.heap.size ≤ b ∨ ∃ v ∈ X.mv, blk v = some b) ∧ ∀ i o, ob.obj i = some o → o.frz = false → blk (γ i) ≠ some b

def ObRep (w : World) (B : Nat → Prop) (v : Value) : Ob → Prop
  | .box k x _ => BoxAt w B k x v
  | .row e k l _ _ => OwnRow w B 0 e k l v

def SlS (w : World) (B : Nat → Prop) (ob : Obs) (γ : Nat → Value) : SV → Value → Prop
  | .v k x, u => RepV w B k x u
  | .nilsl _ _, u => u = .slice none 0 0
  | .fadr k x, u => RepA w B k x u
  | .adr i f, u => (∃ k x z, ob.obj i = some (.box k x z)) ∧ ∃ b, γ i = .pointer (some ⟨b, 0, none⟩) ∧ u = .pointer (some ⟨b, f.getD 0, none⟩)
  | .osl i ver, u => (∃ e k l ver' z, ob.obj i = some (.row e k l ver' z) ∧ ver ≤ ver') ∧ ∀ e k l z, ob.obj i = some (.row e k l ver z) → u = γ i
  | .oel i ver j f, u => (∃ e k l ver' z, ob.obj i = some (.row e k l ver' z) ∧ ver ≤ ver') ∧ ∀ e k l z, ob.obj i = some (.row e k l ver z) → ∃ b n c, γ i = .slice (some ⟨b, 0, none⟩) n c ∧ u = .pointer (some ⟨b, j * k.n + (f - 1), none⟩)
  | _, _ => False

def SlL (w : World) (B : Nat → Prop) (ob : Obs) (γ : Nat → Value) : List SV → List Value → Prop
  | [], vs => vs = []
  | x :: xs, vs => ∃ u us, vs = u :: us ∧ SlS w B ob γ x u ∧ SlL w B ob γ xs us

def SlA (w : World) (B : Nat → Prop) (ob : Obs) (γ : Nat → Value) : AV → Value → Prop
  | .s x, u => SlS w B ob γ x u
  | .tup l, u => ∃ vs, u = .tuple vs.toArray ∧ SlL w B ob γ l vs
  | .fn f a b, u => AVRep w B (.fn f a b) u

structure InvG (X : Ctx) (st : St) (a : Act) (w : World) (γ : Nat → Value) : Prop where
  fr : Fr X.w0 X.mv w
  df : a.defers = []
  sz : st.sl.length = a.tmps.size
  ob : ∀ i o, st.ob.obj i = some o → ObRep w (Bs X st.ob γ) (γ i) o
  dj : ∀ i j o p b, st.ob.obj i = some o → st.ob.obj j = some p → i ≠ j → blk (γ i) = some b → blk (γ j) ≠ some b
  fresh : ∀ i o b, st.ob.obj i = some o → blk (γ i) = some b → X.w0.heap.size ≤ b ∨ ∃ v ∈ X.mv, blk v = some b
  pm : ∀ i v, (i, v) ∈ X.pm → ∃ o, st.ob.obj i = some o ∧ ((∀ e k l ver z, o = .row e k l ver z → ver = 0) → γ i = v)
  sl : ∀ t v, st.sl.getD t none = some v → SlA w (Bs X st.ob γ) st.ob γ v (a.tmps.getD t undef)

def Inv (X : Ctx) (st : St) (a : Act) (w : World) : Prop := ∃ γ, InvG X st a w γ

def exOf : AEx → Exit
  | .normal => .normal
  | .ret => .ret
  | .exit id => .exit id

/-- What is reached. -/
def Post (X : Ctx) (e : AEx) (st : St) : Exit → Act → World → Prop := fun e' a w => e' = exOf e ∧ Inv X st a w

/-- From the head of a round on. -/
def LoopWp (P : Program) (c : Code) (Q : Exit → Act → World → Prop) (a : Act) (w : World) : Prop :=
  ∀ (b : Frame) (k : List Item) (cs : List Frame), ∃ e a' w', Q e a' w' ∧ Arrives P (lone (b.at a (.code c :: .inLoop c :: k)) cs w) b k cs e a' w'

/-- THE CONTRACT OF A LOOP. -/
def LoopSC (P : Program) (np : Nat) (c : Code) (st : St) (e : AEx) (st' : St) : Prop :=
  ∀ X a w, (∀ iv ∈ X.pm, iv.1 < np) → Inv X st a w → LoopWp P c (Post X e st') a w

def aexec (C : Cfg) (f : FuncId) (np : Nat) : Code → List It → St → List Prop → Option (AEx × List It × St × List Prop)
  | .skip, its, st, lg => some (.normal, its, st, lg)
  | .region id ops draw, its, st, lg => if !draw || drawOK C ops.toList its st then match aops C ops.toList ops.toList its st lg with
      | some (st', its', lg') => some (.normal, its', renum np (sweep np (C.live f id) st'), lg')
      | none => none
    else none
  | .seq x y, its, st, lg => match aexec C f np x its st lg with
    | some (.normal, its', st', lg') => aexec C f np y its' st' lg'
    | r => r
  | .cond c x y, its, st, lg => match evS (ev C st.sl) 0 c with
    | some (.v .bool true) => aexec C f np x its st lg
    | some (.v .bool false) => aexec C f np y its st lg
    | _ => none
  | .block id x, its, st, lg => match aexec C f np x its st lg with
    | some (.exit id', its', st', lg') => if id' = id then some (.normal, its', st', lg') else some (.exit id', its', st', lg')
    | r => r
  | .exit id, its, st, lg => some (.exit id, its, st, lg)
  | .ret, its, st, lg => some (.ret, its, st, lg)
  | .loop x, its, st, lg => match its with
    | .loop g :: its' => some ((g st).1, its', (g st).2, lg ++ [LoopSC C.P np x st (g st).1 (g st).2])
    | _ => none
  | _, _, _, _ => none

/-! ### A call's beginning and end -/

def paramA (i : Nat) : AV → AV
  | .s (.mbx _ _) => .s (.adr i none)
  | .s (.msl _ _ _) => .s (.osl i 0)
  | a => a

def paramO : AV → Option Ob
  | .s (.mbx k x) => some (.box k x false)
  | .s (.msl e k l) => some (.row e k l 0 false)
  | _ => none

def params : Nat → List AV → List (Option AV)
  | _, [] => []
  | i, a :: as => some (paramA i a) :: params (i + 1) as

def start (fn : Func) (args : List AV) : St :=
  ⟨params 0 args ++ List.replicate (fn.ntmps - args.length) none, args.map paramO ++ List.replicate (fn.ntmps - args.length) none⟩

def outsOf (st : St) : Nat → List AV → Option (List MO)
  | _, [] => some []
  | i, .s (.mbx _ _) :: as => match st.obj i, outsOf st (i + 1) as with
    | some (.box k x false), some os => some (.box k x :: os)
    | _, _ => none
  | i, .s (.msl _ _ _) :: as => match st.obj i, outsOf st (i + 1) as with
    | some (.row e k l 0 false), some os => some (.row e k l :: os)
    | _, _ => none
  | i, _ :: as => outsOf st (i + 1) as

/-- A result: what is the call's own, and no parameter's, is handed over. -/
def resS (st : St) (np : Nat) (x : SV) : Option (SV × Option Nat) :=
  match x with
  | .nilsl e k => some (.own e k [], none)
  | .osl i ver => match st.obj i with
    | some (.row e k l ver' z) => if ver = ver' then (if i < np || z then (if z then some (.v (.sl k) l, none) else none) else some (.own e k l, some i)) else none
    | _ => none
  | .adr i none => match st.obj i with
    | some (.box k x z) => if i < np then none else some (.fadr k x, none)
    | _ => none
  | x => match plain st.ob x with
    | some y => some (y, none)
    | none => none

def resVar (C : Cfg) (st : St) (np : Nat) : ResultVar → Option (AV × Option Nat)
  | .tmp t => match st.get t with
    | some (.s x) => match resS st np x with
      | some (y, o) => some (.s y, o)
      | none => none
    | some (.fn g a b) => some (.fn g a b, none)
    | _ => none
  | .cell t ty => match st.get t with
    | some (.s (.adr i none)) => match st.obj i with
      | some (.box k x _) => if C.kd ty = some k then some (.s (.v k x), none) else none
      | _ => none
    | _ => none

def resVars (C : Cfg) (st : St) (np : Nat) : List ResultVar → Option (List AV × List Nat)
  | [] => some ([], [])
  | r :: rs => match resVar C st np r, resVars C st np rs with
    | some (a, o), some (as, os) => if o.all (fun i => !os.contains i) then some (a :: as, o.toList ++ os) else none
    | _, _ => none

def toSV : AV → Option SV
  | .s x => some x
  | _ => none

def resOf (C : Cfg) (st : St) (np : Nat) (rs : List ResultVar) : Option AV :=
  match resVars C st np rs with
  | some ([a], _) => some a
  | some (as, _) => (mapO toSV as).map .tup
  | none => none

/-- THE RUN OF A FUNCTION: what it hands back, what it makes of what it may change, and what is owed for it. -/
def arun (C : Cfg) (f : FuncId) (fn : Func) (args : List AV) (its : List It) : Option (AV × List MO × List Prop) :=
  match fn.body with
  | none => none
  | some c =>
    match aexec C f args.length c its (start fn args) [] with
    | some (.normal, [], st, lg) | some (.ret, [], st, lg) =>
      match resOf C st args.length fn.results.toList, outsOf st 0 args with
      | some r, some outs => some (r, outs, lg)
      | _, _ => none
    | _ => none

def All : List Prop → Prop
  | [] => True
  | p :: ps => p ∧ All ps

end Go.AI
