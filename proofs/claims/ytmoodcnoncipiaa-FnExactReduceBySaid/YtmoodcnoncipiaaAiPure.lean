/- The evaluator's operations over plain values do what the model's do. -/
import Derived.Test.YtmoodcnoncipiaaAiRun
import Derived.RowKit3
set_option autoImplicit false
set_option linter.unusedVariables false
set_option linter.unusedSimpArgs false
namespace Go.AI

variable {P : Program} {w : World} {B : Nat → Prop}

theorem RepV.int {k : IntKind} {x : Int} {u : Value} (h : RepV w B (.int k) x u) : u = .int k x := by
  obtain ⟨cs, hr, rfl⟩ := h; simp only [RepK] at hr; subst hr; rfl
theorem RepV.bool {x : Bool} {u : Value} (h : RepV w B .bool x u) : u = .bool x := by
  obtain ⟨cs, hr, rfl⟩ := h; simp only [RepK] at hr; subst hr; rfl
theorem RepV.str {x : ByteArray} {u : Value} (h : RepV w B .str x u) : u = .string x := by
  obtain ⟨cs, hr, rfl⟩ := h; simp only [RepK] at hr; subst hr; rfl
theorem RepV.tree {x : Tr} {u : Value} (h : RepV w B .tree x u) : RepT w B x u := by
  obtain ⟨cs, ⟨v, rfl, hr⟩, rfl⟩ := h; exact hr
theorem RepV.mk_int (k : IntKind) (x : Int) : RepV w B (.int k) x (.int k x) := ⟨[.int k x], rfl, rfl⟩
theorem RepV.mk_bool (x : Bool) : RepV w B .bool x (.bool x) := ⟨[.bool x], rfl, rfl⟩
theorem RepV.mk_str (x : ByteArray) : RepV w B .str x (.string x) := ⟨[.string x], rfl, rfl⟩
theorem RepV.mk_tree {x : Tr} {u : Value} (h : RepT w B x u) : RepV w B .tree x u := ⟨[u], ⟨u, rfl, h⟩, rfl⟩

theorem RepV.one {k : Kd} (hk : isPr k = false) {x : k.ty} {c : Value} (h : RepK w B k x [c]) : RepV w B k x c := ⟨[c], h, (mkV_one hk c).symm⟩
theorem RepV.cell1 {k : Kd} (hk : isPr k = false) {x : k.ty} {u : Value} (h : RepV w B k x u) : RepK w B k x [u] := by
  obtain ⟨cs, hr, rfl⟩ := h
  have h1 : k.n = 1 := by cases k <;> simp_all [Kd.n, isPr]
  match cs, hr.length.trans h1 with
  | [c], _ => rwa [mkV_one hk]

/-- A slice: its address, its cells. -/
theorem RepV.sl {k : Kd} {l : List k.ty} {u : Value} (h : RepV w B (.sl k) l u) :
    ∃ a c flat, u = .slice a l.length c ∧ l.length ≤ c ∧ RowsOf (RepK w B k) l flat ∧ (a = none → l = []) ∧ ∀ ad, a = some ad → ad.spot = none ∧ CellsAt w ad flat ∧ (flat ≠ [] → B ad.block) := by
  obtain ⟨cs, ⟨a, c, flat, rfl, hle, hr, hn, hc⟩, rfl⟩ := h
  exact ⟨a, c, flat, rfl, hle, hr, hn, hc⟩

theorem RepV.mk_sl {k : Kd} {l : List k.ty} {a : Option Addr} {c : Nat} {flat : List Value} (hle : l.length ≤ c) (hr : RowsOf (RepK w B k) l flat) (hn : a = none → l = [])
    (hc : ∀ ad, a = some ad → ad.spot = none ∧ CellsAt w ad flat ∧ (flat ≠ [] → B ad.block)) : RepV w B (.sl k) l (.slice a l.length c) :=
  ⟨[.slice a l.length c], ⟨a, c, flat, rfl, hle, hr, hn, hc⟩, rfl⟩

theorem RowsOf.take {k : Kd} : ∀ {l : List k.ty} {flat : List Value} (m : Nat), RowsOf (RepK w B k) l flat → RowsOf (RepK w B k) (l.take m) (flat.take (m * k.n))
  | [], _, m, h => by rw [show _ = [] from h]; simp [RowsOf]
  | x :: l, flat, 0, h => by simp [RowsOf]
  | x :: l, flat, m + 1, ⟨c1, c2, e, h1, h2⟩ => by
    refine ⟨c1, c2.take (m * k.n), ?_, h1, RowsOf.take m h2⟩
    rw [e, List.take_append, h1.length]
    have : (m + 1) * k.n - k.n = m * k.n := by rw [Nat.add_mul]; omega
    rw [this, List.take_of_length_le (by rw [h1.length, Nat.add_mul]; omega)]

theorem RowsOf.drop {k : Kd} : ∀ {l : List k.ty} {flat : List Value} (m : Nat), RowsOf (RepK w B k) l flat → RowsOf (RepK w B k) (l.drop m) (flat.drop (m * k.n))
  | [], _, m, h => by rw [show _ = [] from h]; simp [RowsOf]
  | x :: l, flat, 0, h => by simpa using h
  | x :: l, flat, m + 1, ⟨c1, c2, e, h1, h2⟩ => by
    have : flat.drop ((m + 1) * k.n) = c2.drop (m * k.n) := by
      rw [e, List.drop_append, h1.length, List.drop_eq_nil_of_le (by rw [h1.length, Nat.add_mul]; omega)]
      have : (m + 1) * k.n - k.n = m * k.n := by rw [Nat.add_mul]; omega
      rw [this]; rfl
    rw [this]
    exact RowsOf.drop m h2

theorem All.append {ps qs : List Prop} : All (ps ++ qs) ↔ All ps ∧ All qs := by
  induction ps with
  | nil => simp [All]
  | cons p ps ih => simp [All, ih, and_assoc]

theorem RepT.isLeaf {t : Tr} {u : Value} (h : RepT w B t u) : (t = .leaf ∧ u = .pointer none) ∨ (∃ l r b o, t = .node l r ∧ u = .pointer (some ⟨b, o, none⟩)) := by
  cases t with
  | leaf => exact .inl ⟨rfl, h⟩
  | node l r => obtain ⟨b, o, vl, vr, e, _⟩ := h; exact .inr ⟨l, r, b, o, rfl, e⟩

/-! ### Binary operations -/

theorem run_intBits (op : BinOp) (k : IntKind) (x y : Int) : (Op.intBits .and k x y).run P w = .ok (.int k (k.wrap (BitVec.ofInt k.bits x &&& BitVec.ofInt k.bits y).toNat)) w ∧
    (Op.intBits .or k x y).run P w = .ok (.int k (k.wrap (BitVec.ofInt k.bits x ||| BitVec.ofInt k.bits y).toNat)) w ∧
    (Op.intBits .xor k x y).run P w = .ok (.int k (k.wrap (BitVec.ofInt k.bits x ^^^ BitVec.ofInt k.bits y).toNat)) w ∧
    (Op.intBits .andNot k x y).run P w = .ok (.int k (k.wrap (BitVec.ofInt k.bits x &&& ~~~BitVec.ofInt k.bits y).toNat)) w := ⟨rfl, rfl, rfl, rfl⟩

theorem abinI_sound {op : BinOp} {k : IntKind} {x y : Int} {r : SV} {ps : List Prop} (h : abinI op k x y = some (r, ps)) (hp : All ps) (t : TypeId) (a b : Operand) :
    ∃ u, ((do eqGuard op t a b (.int k x) (.int k y); binOp op t (.int k x) (.int k y)) : Sem Value).run P w = .ok u w ∧ SVRep w B r u := by
  cases op <;> simp only [abinI, reduceCtorEq, Option.some.injEq, Prod.mk.injEq] at h
  case quo | rem =>
    obtain ⟨rfl, rfl⟩ := h
    have hy : ¬ y = 0 := hp.1
    refine ⟨_, ?_, RepV.mk_int _ _⟩
    simp [eqGuard, binOp, Op.intDiv, hy]
  case and | or | xor | andNot =>
    obtain ⟨rfl, rfl⟩ := h
    exact ⟨_, by simp [eqGuard, binOp, Op.intBits], RepV.mk_int _ _⟩
  case add | sub | mul =>
    obtain ⟨rfl, rfl⟩ := h
    exact ⟨_, by simp [eqGuard, binOp, Op.intArith], RepV.mk_int _ _⟩
  all_goals
    obtain ⟨rfl, rfl⟩ := h
    exact ⟨_, by simp [eqGuard, binOp, Op.intCmp], RepV.mk_bool _⟩

theorem abinS_sound {op : BinOp} {x y : ByteArray} {r : SV} {ps : List Prop} (h : abinS op x y = some (r, ps)) (hp : All ps) (t : TypeId) (a b : Operand) :
    ∃ u, ((do eqGuard op t a b (.string x) (.string y); binOp op t (.string x) (.string y)) : Sem Value).run P w = .ok u w ∧ SVRep w B r u := by
  cases op <;> simp only [abinS, reduceCtorEq, Option.some.injEq, Prod.mk.injEq] at h
  case add =>
    obtain ⟨rfl, rfl⟩ := h
    have hs : x.size + y.size ≤ 2 ^ 62 := hp.1
    have hn : ¬ ((x.size + y.size : Nat) : Int) > IntKind.i64.max := by
      simp only [IntKind.max, IntKind.bits, IntKind.signed]
      simp
      omega
    exact ⟨_, by simp only [eqGuard, binOp, Op.stringOp, Sem.run_bind, Sem.run_pure, Result.andThen_ok, if_neg hn]; simp, RepV.mk_str _⟩
  all_goals
    obtain ⟨rfl, rfl⟩ := h
    exact ⟨_, by simp [eqGuard, binOp, Op.stringOp], RepV.mk_bool _⟩

end Go.AI
