/- A part of the road: what it proves stands in its last texts. -/
import Derived.Test.YtndnckjnnfnnnaaDoorAiA
import Derived.RowKit3
section
/- The evaluator's operations over plain values do what the model's do. -/
set_option autoImplicit false
set_option linter.unusedVariables false
set_option linter.unusedSimpArgs false
namespace Go.AI

variable {P : Program} {w : World} {B : Nat → Prop}

theorem RepV.int {k : IntKind} {x : Int} {u : Value} (h : RepV w B (.int k) x u) : u = .int k x := by
  obtain ⟨cs, hr, rfl⟩ := h; simp only [RepK] at hr; subst hr; rfl
theorem RepV.bool {x : Bool} {u : Value} (h : RepV w B .bool x u) : u = .bool x := by
  obtain ⟨cs, hr, rfl⟩ := h; simp only [RepK] at hr; subst hr; rfl
theorem RepV.str {x : ByteArray} {u : Value} (h : RepV w B .str x u) : u = .string x := by
  obtain ⟨cs, hr, rfl⟩ := h; simp only [RepK] at hr; subst hr; rfl
theorem RepV.tree {x : Tr} {u : Value} (h : RepV w B .tree x u) : RepT w B x u := by
  obtain ⟨cs, ⟨v, rfl, hr⟩, rfl⟩ := h; exact hr
theorem RepV.mk_int (k : IntKind) (x : Int) : RepV w B (.int k) x (.int k x) := ⟨[.int k x], rfl, rfl⟩
theorem RepV.mk_bool (x : Bool) : RepV w B .bool x (.bool x) := ⟨[.bool x], rfl, rfl⟩
theorem RepV.mk_str (x : ByteArray) : RepV w B .str x (.string x) := ⟨[.string x], rfl, rfl⟩
theorem RepV.mk_tree {x : Tr} {u : Value} (h : RepT w B x u) : RepV w B .tree x u := ⟨[u], ⟨u, rfl, h⟩, rfl⟩

theorem RepV.one {k : Kd} (hk : isPr k = false) {x : k.ty} {c : Value} (h : RepK w B k x [c]) : RepV w B k x c := ⟨[c], h, (mkV_one hk c).symm⟩
theorem RepV.cell1 {k : Kd} (hk : isPr k = false) {x : k.ty} {u : Value} (h : RepV w B k x u) : RepK w B k x [u] := by
  obtain ⟨cs, hr, rfl⟩ := h
  have h1 : k.n = 1 := by cases k <;> simp_all [Kd.n, isPr]
  match cs, hr.length.trans h1 with
  | [c], _ => rwa [mkV_one hk]

/-- A slice: its address, its cells. -/
theorem RepV.sl {k : Kd} {l : List k.ty} {u : Value} (h : RepV w B (.sl k) l u) :
    ∃ a c flat, u = .slice a l.length c ∧ l.length ≤ c ∧ RowsOf (RepK w B k) l flat ∧ (a = none → l = []) ∧ ∀ ad, a = some ad → ad.spot = none ∧ CellsAt w ad flat ∧ (flat ≠ [] → B ad.block) := by
  obtain ⟨cs, ⟨a, c, flat, rfl, hle, hr, hn, hc⟩, rfl⟩ := h
  exact ⟨a, c, flat, rfl, hle, hr, hn, hc⟩

theorem RepV.mk_sl {k : Kd} {l : List k.ty} {a : Option Addr} {c : Nat} {flat : List Value} (hle : l.length ≤ c) (hr : RowsOf (RepK w B k) l flat) (hn : a = none → l = [])
    (hc : ∀ ad, a = some ad → ad.spot = none ∧ CellsAt w ad flat ∧ (flat ≠ [] → B ad.block)) : RepV w B (.sl k) l (.slice a l.length c) :=
  ⟨[.slice a l.length c], ⟨a, c, flat, rfl, hle, hr, hn, hc⟩, rfl⟩

theorem RowsOf.take {k : Kd} : ∀ {l : List k.ty} {flat : List Value} (m : Nat), RowsOf (RepK w B k) l flat → RowsOf (RepK w B k) (l.take m) (flat.take (m * k.n))
  | [], _, m, h => by rw [show _ = [] from h]; simp [RowsOf]
  | x :: l, flat, 0, h => by simp [RowsOf]
  | x :: l, flat, m + 1, ⟨c1, c2, e, h1, h2⟩ => by
    refine ⟨c1, c2.take (m * k.n), ?_, h1, RowsOf.take m h2⟩
    rw [e, List.take_append, h1.length]
    have : (m + 1) * k.n - k.n = m * k.n := by rw [Nat.add_mul]; omega
    rw [this, List.take_of_length_le (by rw [h1.length, Nat.add_mul]; omega)]

theorem RowsOf.drop {k : Kd} : ∀ {l : List k.ty} {flat : List Value} (m : Nat), RowsOf (RepK w B k) l flat → RowsOf (RepK w B k) (l.drop m) (flat.drop (m * k.n))
  | [], _, m, h => by rw [show _ = [] from h]; simp [RowsOf]
  | x :: l, flat, 0, h => by simpa using h
  | x :: l, flat, m + 1, ⟨c1, c2, e, h1, h2⟩ => by
    have : flat.drop ((m + 1) * k.n) = c2.drop (m * k.n) := by
      rw [e, List.drop_append, h1.length, List.drop_eq_nil_of_le (by rw [h1.length, Nat.add_mul]; omega)]
      have : (m + 1) * k.n - k.n = m * k.n := by rw [Nat.add_mul]; omega
      rw [this]; rfl
    rw [this]
    exact RowsOf.drop m h2

theorem All.append {ps qs : List Prop} : All (ps ++ qs) ↔ All ps ∧ All qs := by
  induction ps with
  | nil => simp [All]
  | cons p ps ih => simp [All, ih, and_assoc]

theorem RepT.isLeaf {t : Tr} {u : Value} (h : RepT w B t u) : (t = .leaf ∧ u = .pointer none) ∨ (∃ l r b o, t = .node l r ∧ u = .pointer (some ⟨b, o, none⟩)) := by
  cases t with
  | leaf => exact .inl ⟨rfl, h⟩
  | node l r => obtain ⟨b, o, vl, vr, e, _⟩ := h; exact .inr ⟨l, r, b, o, rfl, e⟩

/-! ### Binary operations -/

theorem run_intBits (op : BinOp) (k : IntKind) (x y : Int) : (Op.intBits .and k x y).run P w = .ok (.int k (k.wrap (BitVec.ofInt k.bits x &&& BitVec.ofInt k.bits y).toNat)) w ∧
    (Op.intBits .or k x y).run P w = .ok (.int k (k.wrap (BitVec.ofInt k.bits x ||| BitVec.ofInt k.bits y).toNat)) w ∧
    (Op.intBits .xor k x y).run P w = .ok (.int k (k.wrap (BitVec.ofInt k.bits x ^^^ BitVec.ofInt k.bits y).toNat)) w ∧
    (Op.intBits .andNot k x y).run P w = .ok (.int k (k.wrap (BitVec.ofInt k.bits x &&& ~~~BitVec.ofInt k.bits y).toNat)) w := ⟨rfl, rfl, rfl, rfl⟩

theorem abinI_sound {op : BinOp} {k : IntKind} {x y : Int} {r : SV} {ps : List Prop} (h : abinI op k x y = some (r, ps)) (hp : All ps) (t : TypeId) (a b : Operand) :
    ∃ u, ((do eqGuard op t a b (.int k x) (.int k y); binOp op t (.int k x) (.int k y)) : Sem Value).run P w = .ok u w ∧ SVRep w B r u := by
  cases op <;> simp only [abinI, reduceCtorEq, Option.some.injEq, Prod.mk.injEq] at h
  case quo | rem =>
    obtain ⟨rfl, rfl⟩ := h
    have hy : ¬ y = 0 := hp.1
    refine ⟨_, ?_, RepV.mk_int _ _⟩
    simp [eqGuard, binOp, Op.intDiv, hy]
  case and | or | xor | andNot =>
    obtain ⟨rfl, rfl⟩ := h
    exact ⟨_, by simp [eqGuard, binOp, Op.intBits], RepV.mk_int _ _⟩
  case add | sub | mul =>
    obtain ⟨rfl, rfl⟩ := h
    exact ⟨_, by simp [eqGuard, binOp, Op.intArith], RepV.mk_int _ _⟩
  all_goals
    obtain ⟨rfl, rfl⟩ := h
    exact ⟨_, by simp [eqGuard, binOp, Op.intCmp], RepV.mk_bool _⟩

theorem abinS_sound {op : BinOp} {x y : ByteArray} {r : SV} {ps : List Prop} (h : abinS op x y = some (r, ps)) (hp : All ps) (t : TypeId) (a b : Operand) :
    ∃ u, ((do eqGuard op t a b (.string x) (.string y); binOp op t (.string x) (.string y)) : Sem Value).run P w = .ok u w ∧ SVRep w B r u := by
  cases op <;> simp only [abinS, reduceCtorEq, Option.some.injEq, Prod.mk.injEq] at h
  case add =>
    obtain ⟨rfl, rfl⟩ := h
    have hs : x.size + y.size ≤ 2 ^ 62 := hp.1
    have hn : ¬ ((x.size + y.size : Nat) : Int) > IntKind.i64.max := by
      simp only [IntKind.max, IntKind.bits, IntKind.signed]
      simp
      omega
    exact ⟨_, by simp only [eqGuard, binOp, Op.stringOp, Sem.run_bind, Sem.run_pure, Result.andThen_ok, if_neg hn]; simp, RepV.mk_str _⟩
  all_goals
    obtain ⟨rfl, rfl⟩ := h
    exact ⟨_, by simp [eqGuard, binOp, Op.stringOp], RepV.mk_bool _⟩

end Go.AI
end

section
/- Operations over plain values, all of them. -/
set_option autoImplicit false
set_option linter.unusedVariables false
set_option linter.unusedSimpArgs false
namespace Go.AI

variable {C : Cfg} {w : World} {B : Nat → Prop}

theorem run_equal_nil {P : Program} {t e : TypeId} (he : P.underlying t = some (.pointer e)) (a : Option Addr) : (Op.equal t (.pointer a) (.pointer none)).run P w = .ok a.isNone w := by
  show (Op.equalIn (9999 + 1) t _ _).run P w = _
  rw [Op.equalIn]
  simp only [Sem.run_bind, run_underlying he, Result.andThen_ok]
  cases a <;> rfl

theorem run_equal_bool {P : Program} {t : TypeId} (he : P.underlying t = some .bool) (a b : Bool) : (Op.equal t (.bool a) (.bool b)).run P w = .ok (a == b) w := by
  show (Op.equalIn (9999 + 1) t _ _).run P w = _
  rw [Op.equalIn]
  simp only [Sem.run_bind, run_underlying he, Result.andThen_ok]
  rfl

theorem run_eqGuard_plain {P : Program} {op : BinOp} {t : TypeId} {a b : Operand} {x y : Value} (hx : ∀ c, x ≠ .agg c) (hn : x ≠ .nilIface) : (eqGuard op t a b x y).run P w = .ok () w := by
  unfold eqGuard
  cases op <;> cases x <;> simp_all

theorem abin_sound (hC : CfgOK C) {op : BinOp} {t : TypeId} {x y : SV} {r : SV} {ps : List Prop} (h : abin C op t x y = some (r, ps)) (hp : All ps) {u v : Value}
    (hx : SVRep w B x u) (hy : SVRep w B y v) (a b : Operand) :
    ∃ z, ((do eqGuard op t a b u v; binOp op t u v) : Sem Value).run C.P w = .ok z w ∧ SVRep w B r z := by
  unfold abin at h
  split at h
  · rename_i k n k' m
    have hu := RepV.int hx
    have hv := RepV.int hy
    subst hu hv
    split at h
    · simp only [Option.some.injEq, Prod.mk.injEq] at h
      obtain ⟨rfl, rfl⟩ := h
      have h00 : 0 ≤ m := hp.1
      have h0 : ¬ m < 0 := Int.not_lt.mpr h00
      exact ⟨_, by simp [eqGuard, binOp, Op.shift, h0], RepV.mk_int _ _⟩
    · simp only [Option.some.injEq, Prod.mk.injEq] at h
      obtain ⟨rfl, rfl⟩ := h
      have h00 : 0 ≤ m := hp.1
      have h0 : ¬ m < 0 := Int.not_lt.mpr h00
      exact ⟨_, by simp [eqGuard, binOp, Op.shift, h0], RepV.mk_int _ _⟩
    · split at h
      · rename_i e
        subst e
        exact abinI_sound h hp t a b
      · cases h
  · have hu := RepV.str hx
    have hv := RepV.str hy
    subst hu hv
    exact abinS_sound h hp t a b
  · split at h
    · rename_i hk
      have hv : v = .pointer none := RepV.tree hy
      subst hv
      obtain ⟨e, he⟩ := (hC.kd _ _ hk).desc
      rcases RepT.isLeaf (RepV.tree hx) with ⟨rfl, rfl⟩ | ⟨l, r', b', o', rfl, rfl⟩ <;> split at h <;> simp only [reduceCtorEq, Option.some.injEq, Prod.mk.injEq] at h
      all_goals
        obtain ⟨rfl, rfl⟩ := h
        exact ⟨_, by
          rw [Sem.run_bind, run_eqGuard_plain (by simp) (by simp)]
          simp only [Result.andThen_ok, binOp, Sem.run_bind, run_equal_nil he, Sem.run_pure]
          rfl, RepV.mk_bool _⟩
    · cases h
  · split at h
    · rename_i hk
      have hu := RepV.bool hx
      have hv := RepV.bool hy
      subst hu hv
      have he : C.P.underlying t = some .bool := (hC.kd _ _ hk).desc
      split at h <;> simp only [reduceCtorEq, Option.some.injEq, Prod.mk.injEq] at h
      all_goals
        obtain ⟨rfl, rfl⟩ := h
        exact ⟨_, by
          rw [Sem.run_bind, run_eqGuard_plain (by simp) (by simp)]
          simp only [Result.andThen_ok, binOp, Sem.run_bind, run_equal_bool he, Sem.run_pure], RepV.mk_bool _⟩
    · cases h
  · split at h
    · rename_i e
      subst e
      split at h
      · rename_i hk
        obtain ⟨hk, hq⟩ := hk
        simp only [castK_rfl] at h
        split at h <;> simp only [reduceCtorEq, Option.some.injEq, Prod.mk.injEq] at h
        · rename_i p hkeq
          obtain ⟨rfl, rfl⟩ := h
          exact ⟨_, ((hC.eq _ _ hq hk) w B _ _ u v p a b hx hy hkeq).1, RepV.mk_bool _⟩
        · rename_i p hkeq
          obtain ⟨rfl, rfl⟩ := h
          exact ⟨_, ((hC.eq _ _ hq hk) w B _ _ u v p a b hx hy hkeq).2, RepV.mk_bool _⟩
      · cases h
    · cases h
  · cases h

theorem decided_sound {it : It} {r : SV × List Prop} {r' : SV} {ps : List Prop} (h : decided it r = some (r', ps)) (hp : All ps) : All r.2 ∧ ∀ z, SVRep w B r.1 z → SVRep w B r' z := by
  unfold decided at h
  split at h
  · split at h
    · simp only [Option.some.injEq, Prod.mk.injEq] at h
      obtain ⟨rfl, rfl⟩ := h
      exact ⟨hp, fun _ h => h⟩
    · simp only [Option.some.injEq, Prod.mk.injEq] at h
      obtain ⟨rfl, rfl⟩ := h
      have := All.append.1 hp
      refine ⟨this.1, fun z hz => ?_⟩
      have e := this.2.1
      subst e
      exact hz
    · cases h
  · simp only [Option.some.injEq] at h
    subst h
    exact ⟨hp, fun _ h => h⟩

/-- A value at an address, loaded. -/
theorem run_loadAt (hC : CfgOK C) {t : TypeId} {k : Kd} (hk : C.kd t = some k) {x : k.ty} {u : Value} (h : RepA w B k x u) : ∃ z, (Instr.loadAt t u).run C.P w = .ok z w ∧ RepV w B k x z := by
  obtain ⟨ad, cs, rfl, hs, hr, hc, hb⟩ := h
  exact ⟨_, by simp [Instr.loadAt, Instr.sureAddr, (hC.kd _ _ hk).loadVar hr hc], cs, hr, rfl⟩

theorem RepA.node {l r : Tr} {u : Value} (h : RepT w B (.node l r) u) : RepA w B (.pr .tree .tree) (l, r) u := by
  obtain ⟨b, o, vl, vr, rfl, hb, h1, h2, hl, hr⟩ := h
  refine ⟨⟨b, o, none⟩, [vl, vr], rfl, rfl, ⟨[vl], [vr], rfl, ⟨vl, rfl, hl⟩, ⟨vr, rfl, hr⟩⟩, fun j u hj => ?_, hb⟩
  match j, hj with
  | 0, hj => simp at hj; subst hj; exact h1
  | 1, hj => simp at hj; subst hj; simpa [Addr.add] using h2

/-- A field's address. -/
theorem run_fieldAt (hC : CfgOK C) {s : TypeId} {k : Kd} (hk : C.kd s = some k) (hp : isPr k = true) (ht : k.thin = true) {x : k.ty} {u : Value} {f : Nat} {q : Kd} {y : q.ty} (h : RepA w B k x u) (hs : k.sel x f = some ⟨q, y⟩) :
    ∃ ad, u = .pointer (some ad) ∧ (Instr.fieldAt s u f).run C.P w = .ok (.pointer (some (ad.add f))) w ∧ RepA w B q y (.pointer (some (ad.add f))) := by
  obtain ⟨ad, cs, rfl, hsp, hr, hc, hb⟩ := h
  obtain ⟨hf, hq⟩ := Kd.sel_n ht hs
  obtain ⟨fs, fd, hu, hfd, ho, hsz, _⟩ := (hC.kd _ _ hk).field hp ht hf
  obtain ⟨c, hc0, hrc⟩ := RepK.sel ht hr hs
  refine ⟨ad, rfl, ?_, ad.add f, [c], rfl, Addr.add_spot _ _ hsp, hrc, fun j v hj => ?_, by rw [Addr.add_block]; exact hb⟩
  · simp [Instr.fieldAt, run_underlying hu, hfd, Instr.sureAddr, fieldPlace, hsz, ho]
  · match j, hj with
    | 0, hj => simp at hj; subst hj; rw [Addr.add_add _ _ _ hsp]; exact hc f c hc0

theorem Kd.sel_pr {k : Kd} {x : k.ty} {f : Nat} {q : Kd} {y : q.ty} (h : k.sel x f = some ⟨q, y⟩) (hp : isPr k = false) : q = k ∧ f = 0 := by
  cases k <;> simp [isPr] at hp <;> cases f <;> simp [Kd.sel] at h
  all_goals exact ⟨h.1.symm, rfl⟩

theorem run_sliceBound {k : IntKind} {n : Int} {y : Nat} {code : BoundsCode} (h0 : 0 ≤ n) (h1 : n ≤ (y : Int)) : (Instr.sliceBound (.int k n) y code).run C.P w = .ok n.toNat w := by
  simp [Instr.sliceBound, asIntOf, h0, h1]


/-- The bounds of a cut. -/
theorem bounds_sound {n : Nat} {lo hi : Bool} {xs : List SV} {l h : Int} {ps : List Prop} (hb : bounds n lo hi xs = some (l, h, ps)) (hp : All ps) {us : List Value} (hx : SVsRep w B xs us) :
    0 ≤ l ∧ l ≤ h ∧ h ≤ (n : Int) ∧ us = (if lo then [Value.int .i64 l] else []) ++ (if hi then [Value.int .i64 h] else []) ∧ (lo = false → l = 0) ∧ (hi = false → h = n) := by
  unfold bounds at hb
  split at hb <;> simp only [reduceCtorEq, Option.some.injEq, Prod.mk.injEq] at hb
  · obtain ⟨rfl, rfl, rfl⟩ := hb
    exact ⟨Int.le_refl _, by omega, Int.le_refl _, by simpa [SVsRep] using hx, fun _ => rfl, fun _ => rfl⟩
  · obtain ⟨rfl, rfl, rfl⟩ := hb
    obtain ⟨u, us', rfl, h1, h2⟩ := hx
    have e := RepV.int h1
    subst e
    have e2 : us' = [] := h2
    subst e2
    exact ⟨hp.1, hp.2.1, Int.le_refl _, by simp, by simp, fun _ => rfl⟩
  · obtain ⟨rfl, rfl, rfl⟩ := hb
    obtain ⟨u, us', rfl, h1, h2⟩ := hx
    have e := RepV.int h1
    subst e
    have e2 : us' = [] := h2
    subst e2
    exact ⟨Int.le_refl _, hp.1, hp.2.1, by simp, fun _ => rfl, by simp⟩
  · obtain ⟨rfl, rfl, rfl⟩ := hb
    obtain ⟨u, us', rfl, h1, u', us'', rfl, h2, h3⟩ := hx
    have e := RepV.int h1
    have e' := RepV.int h2
    subst e e'
    have e2 : us'' = [] := h3
    subst e2
    exact ⟨hp.1, hp.2.1, hp.2.2.1, by simp, by simp, by simp⟩

theorem run_sliceBounds (b : Bool) (len cap : Nat) (lo hi : Option Value) (l h : Int) (h0 : 0 ≤ l) (h1 : l ≤ h) (h2 : h ≤ (len : Int)) (hc : len ≤ cap)
    (hl : lo = some (.int .i64 l) ∨ lo = none ∧ l = 0) (hh : hi = some (.int .i64 h) ∨ hi = none ∧ h = len) :
    (Instr.sliceBounds b len cap lo hi none).run C.P w = .ok (l.toNat, h.toNat, cap) w := by
  have hcap : h ≤ (cap : Int) := by omega
  have e1 : (h.toNat : Int) = h := Int.toNat_of_nonneg (by omega)
  rcases hl with rfl | ⟨rfl, rfl⟩ <;> rcases hh with rfl | ⟨rfl, rfl⟩
  · simp [Instr.sliceBounds, run_sliceBound (C := C) (w := w) (show 0 ≤ h by omega) hcap, run_sliceBound (C := C) (w := w) (y := h.toNat) h0 (by omega)]
  · simp [Instr.sliceBounds, run_sliceBound (C := C) (w := w) h0 h1]
  · simp [Instr.sliceBounds, run_sliceBound (C := C) (w := w) (show 0 ≤ h by omega) hcap]
  · simp [Instr.sliceBounds]

theorem SVsRep.length : ∀ {xs : List SV} {us : List Value}, SVsRep w B xs us → us.length = xs.length
  | [], _, h => by rw [show _ = [] from h]; rfl
  | _ :: _, _, ⟨u, us, e, _, h⟩ => by rw [e]; simp [h.length]

end Go.AI
end

section
/- What the evaluator says of an operation over plain values, the model does. -/
set_option autoImplicit false
set_option linter.unusedVariables false
set_option linter.unusedSimpArgs false
namespace Go.AI

variable {C : Cfg} {w : World} {B : Nat → Prop}

/-- The value in the model, and that it stands for the evaluator's. -/
def Does (P : Program) (w : World) (B : Nat → Prop) (o : Oper) (ρ : Operand → Value) (r : SV) : Prop :=
  ∃ u, (execOp ρ o).run P w = .ok (.value u) w ∧ SVRep w B r u

theorem SVsRep.one {x : SV} {us : List Value} (h : SVsRep w B [x] us) : ∃ u, us = [u] ∧ SVRep w B x u := by
  obtain ⟨u, us', rfl, h1, h2⟩ := h
  exact ⟨u, by rw [show us' = [] from h2], h1⟩
theorem SVsRep.two {x y : SV} {us : List Value} (h : SVsRep w B [x, y] us) : ∃ u v, us = [u, v] ∧ SVRep w B x u ∧ SVRep w B y v := by
  obtain ⟨u, us', rfl, h1, h2⟩ := h
  obtain ⟨v, rfl, h3⟩ := SVsRep.one h2
  exact ⟨u, v, rfl, h1, h3⟩

theorem does_load (hC : CfgOK C) {it : It} {t : TypeId} {a : Operand} {xs : List SV} {r : SV} {ps : List Prop} (h : apure C it (.load t a) xs = some (r, ps)) {us : List Value} (hx : SVsRep w B xs us)
    {o : Oper} (ho : o.op = .load t a) {ρ : Operand → Value} (hu : (Op.load t a).operands.toList.map ρ = us) : Does C.P w B o ρ r := by
  simp only [Op.operands, List.map_cons, List.map_nil] at hu
  simp only [apure] at h
  split at h
  · obtain ⟨u, rfl, h1⟩ := SVsRep.one hx
    simp only [List.cons.injEq, and_true] at hu
    split at h
    · rename_i hk
      simp only [Option.some.injEq, Prod.mk.injEq] at h
      obtain ⟨rfl, _⟩ := h
      obtain ⟨z, hz, hr⟩ := run_loadAt hC hk h1
      exact ⟨z, by simp [execOp, ho, hu, hz], hr⟩
    · cases h
  · obtain ⟨u, rfl, h1⟩ := SVsRep.one hx
    simp only [List.cons.injEq, and_true] at hu
    split at h
    · rename_i hk
      simp only [Option.some.injEq, Prod.mk.injEq] at h
      obtain ⟨rfl, _⟩ := h
      obtain ⟨z, hz, hr⟩ := run_loadAt hC (hk ▸ hC.tn) (RepA.node (RepV.tree h1))
      exact ⟨z, by simp [execOp, ho, hu, hz], hr⟩
    · cases h
  · cases h

theorem does_bin (hC : CfgOK C) {it : It} {bo : BinOp} {t t' : TypeId} {a b : Operand} {xs : List SV} {r : SV} {ps : List Prop} (h : apure C it (.binOp bo t a b t') xs = some (r, ps)) (hp : All ps) {us : List Value} (hx : SVsRep w B xs us)
    {o : Oper} (ho : o.op = .binOp bo t a b t') {ρ : Operand → Value} (hu : (Op.binOp bo t a b t').operands.toList.map ρ = us) : Does C.P w B o ρ r := by
  simp only [Op.operands, List.map_cons, List.map_nil] at hu
  simp only [apure] at h
  split at h
  · obtain ⟨u, v, rfl, h1, h2⟩ := SVsRep.two hx
    simp only [List.cons.injEq, and_true] at hu
    obtain ⟨rfl, rfl⟩ := hu
    split at h
    · rename_i q hq
      split at h
      · obtain ⟨hp', hrep⟩ := decided_sound (w := w) (B := B) h hp
        obtain ⟨z, hz, hr⟩ := abin_sound hC hq hp' h1 h2 a b
        exact ⟨z, by simp only [execOp, ho, Sem.run_bind] at hz ⊢; rw [hz]; rfl, hrep z hr⟩
      · simp only [Option.some.injEq] at h
        subst h
        obtain ⟨z, hz, hr⟩ := abin_sound hC hq hp h1 h2 a b
        exact ⟨z, by simp only [execOp, ho, Sem.run_bind] at hz ⊢; rw [hz]; rfl, hr⟩
    · cases h
  · cases h

theorem does_un {it : It} {uo : UnOp} {t : TypeId} {a : Operand} {xs : List SV} {r : SV} {ps : List Prop} (h : apure C it (.unOp uo t a) xs = some (r, ps)) {us : List Value} (hx : SVsRep w B xs us)
    {o : Oper} (ho : o.op = .unOp uo t a) {ρ : Operand → Value} (hu : (Op.unOp uo t a).operands.toList.map ρ = us) : Does C.P w B o ρ r := by
  simp only [Op.operands, List.map_cons, List.map_nil] at hu
  simp only [apure] at h
  split at h
  all_goals first
    | (exfalso; simp at h; done)
    | (simp only [Option.some.injEq, Prod.mk.injEq] at h
       obtain ⟨rfl, _⟩ := h
       obtain ⟨u, rfl, h1⟩ := SVsRep.one hx
       simp only [List.cons.injEq, and_true] at hu
       first
        | (have e := RepV.bool h1; subst e; exact ⟨_, by simp [execOp, ho, hu, Op.unary], RepV.mk_bool _⟩)
        | (have e := RepV.int h1; subst e; exact ⟨_, by simp [execOp, ho, hu, Op.unary, Op.intArith], RepV.mk_int _ _⟩))

theorem strOf_eq (l : List Int) : l.foldl (fun r n => r.push (UInt8.ofNat n.toNat)) ByteArray.empty = strOf l := by
  have : ∀ (l : List Int) (a : ByteArray), l.foldl (fun r n => r.push (UInt8.ofNat n.toNat)) a = ⟨a.data ++ (l.map fun n => UInt8.ofNat n.toNat).toArray⟩ := by
    intro l
    induction l with
    | nil => intro a; simp
    | cons x l ih => intro a; rw [List.foldl_cons, ih]; simp [ByteArray.push]
  rw [this]
  show ByteArray.mk (#[] ++ _) = _
  simp [strOf]

theorem RowsOf.ints {k : IntKind} : ∀ {l : List Int} {flat : List Value}, RowsOf (RepK w B (.int k)) l flat → flat = l.map (Value.int k)
  | [], _, h => h
  | x :: l, _, ⟨c1, c2, e, h1, h2⟩ => by rw [e, show c1 = _ from h1, RowsOf.ints h2]; rfl

theorem does_convert (hC : CfgOK C) {it : It} {s t : TypeId} {a : Operand} {xs : List SV} {r : SV} {ps : List Prop} (h : apure C it (.convert s t a) xs = some (r, ps)) {us : List Value} (hx : SVsRep w B xs us)
    {o : Oper} (ho : o.op = .convert s t a) {ρ : Operand → Value} (hu : (Op.convert s t a).operands.toList.map ρ = us) : Does C.P w B o ρ r := by
  simp only [Op.operands, List.map_cons, List.map_nil] at hu
  simp only [apure] at h
  split at h
  · rename_i k n k0 k' hs ht
    simp only [Option.some.injEq, Prod.mk.injEq] at h
    obtain ⟨rfl, _⟩ := h
    obtain ⟨u, rfl, h1⟩ := SVsRep.one hx
    simp only [List.cons.injEq, and_true] at hu
    have e := RepV.int h1
    subst e
    have d1 : C.P.underlying s = some (.int k0) := (hC.kd _ _ hs).desc
    have d2 : C.P.underlying t = some (.int k') := (hC.kd _ _ ht).desc
    exact ⟨_, by simp [execOp, ho, hu, convert, run_underlying d1, run_underlying d2, Conv.intToInt], RepV.mk_int _ _⟩
  · rename_i l hs ht
    split at h
    · rename_i e0 he0
      split at h
      · rename_i hk0
        simp only [Option.some.injEq, Prod.mk.injEq] at h
        obtain ⟨rfl, _⟩ := h
        obtain ⟨u, rfl, h1⟩ := SVsRep.one hx
        simp only [List.cons.injEq, and_true] at hu
        obtain ⟨ad, c, flat, rfl, hle, hr, hn, hc⟩ := RepV.sl h1
        have d1 := hC.el _ _ he0
        have d0 : C.P.underlying e0 = some (.int .u8) := (hC.kd _ _ hk0).desc
        have d2 : C.P.underlying t = some .string := (hC.kd _ _ ht).desc
        have hfl := RowsOf.ints hr
        cases ad with
        | none =>
          have := hn rfl
          subst this
          exact ⟨_, by simp [execOp, ho, hu, convert, run_underlying d1, run_underlying d2, run_underlying d0, Conv.bytesToString]; rfl, RepV.mk_str _⟩
        | some a0 =>
          obtain ⟨_, hcell, _⟩ := hc a0 rfl
          have hlen : flat.length = l.length := by rw [hfl]; simp
          have hl := run_loadCells_list' (P := C.P) a0 flat hcell
          rw [hlen] at hl
          have hrun := run_bytesToString (P := C.P) w a0 l.length c l (by rw [hl, hfl])
          rw [strOf_eq] at hrun
          exact ⟨_, by simp [execOp, ho, hu, convert, run_underlying d1, run_underlying d2, run_underlying d0, hrun], RepV.mk_str _⟩
      · cases h
    · cases h
  · cases h

theorem does_slice (hC : CfgOK C) {it : It} {t : TypeId} {x : Operand} {lo hi mx : Option Operand} {xs : List SV} {r : SV} {ps : List Prop} (h : apure C it (.slice t x lo hi mx) xs = some (r, ps)) (hp : All ps) {us : List Value} (hx : SVsRep w B xs us)
    {o : Oper} (ho : o.op = .slice t x lo hi mx) {ρ : Operand → Value} (hu : (Op.slice t x lo hi mx).operands.toList.map ρ = us) : Does C.P w B o ρ r := by
  cases mx with
  | some m => simp [apure] at h
  | none =>
  have hu' : ρ x :: ((lo.toList.map ρ) ++ (hi.toList.map ρ)) = us := by
    rw [← hu]; cases lo <;> cases hi <;> rfl
  clear hu
  simp only [apure] at h
  split at h
  · rename_i s ys hk
    split at h
    · rename_i l h' ps' hb
      simp only [Option.some.injEq, Prod.mk.injEq] at h
      obtain ⟨rfl, rfl⟩ := h
      obtain ⟨u, us', rfl, h1, h2⟩ := hx
      obtain ⟨hxu, htl⟩ := List.cons.inj hu'
      have e := RepV.str h1
      subst e
      have d : C.P.underlying t = some .string := (hC.kd _ _ hk).desc
      obtain ⟨b0, b1, b2, hus, bl, bh⟩ := bounds_sound hb hp h2
      have hlo : lo.map ρ = some (.int .i64 l) ∨ lo.map ρ = none ∧ l = 0 := by
        cases lo <;> cases hi <;> simp_all
      have hhi : hi.map ρ = some (.int .i64 h') ∨ hi.map ρ = none ∧ h' = s.size := by
        cases lo <;> cases hi <;> simp_all
      have hrun := run_sliceBounds (C := C) (w := w) false s.size s.size (lo.map ρ) (hi.map ρ) l h' b0 b1 b2 (Nat.le_refl _) hlo hhi
      exact ⟨_, by simp [execOp, ho, hxu, Instr.sliceAt, Instr.slice, run_underlying d, hrun], RepV.mk_str _⟩
    · cases h
  · rename_i k m ys k' hk
    split at h
    · rename_i hkk
      subst hkk
      split at h
      · rename_i l h' ps' hb
        simp only [Option.some.injEq, Prod.mk.injEq] at h
        obtain ⟨rfl, rfl⟩ := h
        obtain ⟨u, us', rfl, h1, h2⟩ := hx
        obtain ⟨hxu, htl⟩ := List.cons.inj hu'
        obtain ⟨ad, c, flat, rfl, hle, hr, hn, hc⟩ := RepV.sl h1
        obtain ⟨e, he, hke⟩ := hC.elk _ _ hk
        have d := hC.el _ _ he
        obtain ⟨b0, b1, b2, hus, bl, bh⟩ := bounds_sound hb hp h2
        have hlo : lo.map ρ = some (.int .i64 l) ∨ lo.map ρ = none ∧ l = 0 := by
          cases lo <;> cases hi <;> simp_all
        have hhi : hi.map ρ = some (.int .i64 h') ∨ hi.map ρ = none ∧ h' = List.length m := by
          cases lo <;> cases hi <;> simp_all
        have hrun := run_sliceBounds (C := C) (w := w) true (List.length m) c (lo.map ρ) (hi.map ρ) l h' b0 b1 b2 hle hlo hhi
        have d' := fun w => (hC.kd _ _ hke).sizeOf w
        refine ⟨_, by simp [execOp, ho, hxu, Instr.sliceAt, Instr.slice, run_underlying d, hrun, d']; rfl, ?_⟩
        have hl1 : (cutL m l h').length = h'.toNat - l.toNat := by
          simp only [cutL, List.length_drop, List.length_take]; omega
        rw [← hl1]
        have hfl := RowsOf.length hr
        refine RepV.mk_sl (flat := (flat.take (h'.toNat * k.n)).drop (l.toNat * k.n)) (by rw [hl1]; omega) (RowsOf.drop _ (RowsOf.take _ hr)) (fun hnone => ?_) (fun ad' had => ?_)
        · have : ad = none := by
            split at hnone
            · exact hnone
            · cases ad <;> simp_all
          have := hn this
          subst this
          simp [cutL]
        · cases ad with
          | none => split at had <;> simp at had
          | some a0 =>
            obtain ⟨hs, hcell, hbb⟩ := hc a0 rfl
            split at had
            · rename_i hcl
              simp only [Option.some.injEq] at had
              subst had
              have e0 : (flat.take (h'.toNat * k.n)).drop (l.toNat * k.n) = [] := by
                apply List.drop_eq_nil_of_le
                rw [List.length_take]
                have : h'.toNat = l.toNat := by omega
                rw [this]; exact Nat.min_le_left _ _
              rw [e0]
              exact ⟨hs, fun j u hj => by simp at hj, fun h => absurd rfl h⟩
            · simp only [Option.map_some, Option.some.injEq] at had
              subst had
              refine ⟨Addr.add_spot _ _ hs, (hcell.take _).drop hs _, fun hne => ?_⟩
              rw [Addr.add_block]
              exact hbb (fun e => hne (by rw [e]; simp))
      · cases h
    · cases h
  · cases h


theorem does_fieldAddr (hC : CfgOK C) {it : It} {s : TypeId} {x : Operand} {f : Nat} {xs : List SV} {r : SV} {ps : List Prop} (h : apure C it (.fieldAddr s x f) xs = some (r, ps)) {us : List Value} (hx : SVsRep w B xs us)
    {o : Oper} (ho : o.op = .fieldAddr s x f) {ρ : Operand → Value} (hu : (Op.fieldAddr s x f).operands.toList.map ρ = us) : Does C.P w B o ρ r := by
  simp only [Op.operands, List.map_cons, List.map_nil] at hu
  simp only [apure] at h
  split at h
  · obtain ⟨u, rfl, h1⟩ := SVsRep.one hx
    simp only [List.cons.injEq, and_true] at hu
    split at h
    · rename_i l r0 hk
      subst hk
      have hA := RepA.node (RepV.tree h1)
      split at h <;> simp only [reduceCtorEq, Option.some.injEq, Prod.mk.injEq] at h
      · obtain ⟨rfl, _⟩ := h
        obtain ⟨ad, e, hz, hr⟩ := run_fieldAt hC hC.tn rfl rfl hA (f := 0) (q := .tree) (y := l) rfl
        exact ⟨_, by simp [execOp, ho, hu, hz], hr⟩
      · obtain ⟨rfl, _⟩ := h
        obtain ⟨ad, e, hz, hr⟩ := run_fieldAt hC hC.tn rfl rfl hA (f := 1) (q := .tree) (y := r0) rfl
        exact ⟨_, by simp [execOp, ho, hu, hz], hr⟩
    · cases h
  · obtain ⟨u, rfl, h1⟩ := SVsRep.one hx
    simp only [List.cons.injEq, and_true] at hu
    split at h
    · rename_i q z hs
      split at h
      · rename_i hk
        simp only [Option.some.injEq, Prod.mk.injEq] at h
        obtain ⟨rfl, _⟩ := h
        obtain ⟨hk, hp, ht⟩ := hk
        obtain ⟨ad, e, hz, hr⟩ := run_fieldAt hC hk hp ht h1 hs
        exact ⟨_, by simp [execOp, ho, hu, hz], hr⟩
      · cases h
    · cases h
  · cases h

theorem does_field (hC : CfgOK C) {it : It} {s : TypeId} {x : Operand} {f : Nat} {xs : List SV} {r : SV} {ps : List Prop} (h : apure C it (.field s x f) xs = some (r, ps)) {us : List Value} (hx : SVsRep w B xs us)
    {o : Oper} (ho : o.op = .field s x f) {ρ : Operand → Value} (hu : (Op.field s x f).operands.toList.map ρ = us) : Does C.P w B o ρ r := by
  simp only [Op.operands, List.map_cons, List.map_nil] at hu
  simp only [apure] at h
  split at h
  · obtain ⟨u, rfl, h1⟩ := SVsRep.one hx
    simp only [List.cons.injEq, and_true] at hu
    split at h
    · rename_i q z hs
      split at h
      · rename_i hk
        simp only [Option.some.injEq, Prod.mk.injEq] at h
        obtain ⟨rfl, _⟩ := h
        obtain ⟨hk, hp, ht⟩ := hk
        obtain ⟨hf, hq⟩ := Kd.sel_n ht hs
        obtain ⟨cs, hr, rfl⟩ := h1
        obtain ⟨fs, fd, hun, hfd, hoff, _, hag⟩ := (hC.kd _ _ hk).field hp ht hf
        obtain ⟨c, hc, hrc⟩ := RepK.sel ht hr hs
        have hmk := mkV_pr hp cs
        exact ⟨c, by simp [execOp, ho, hu, Instr.field, run_underlying hun, hfd, hmk, asAgg, part, hag, hoff, hc], RepV.one hq hrc⟩
      · cases h
    · cases h
  · cases h

theorem does_indexAddr (hC : CfgOK C) {it : It} {t : TypeId} {x i : Operand} {xs : List SV} {r : SV} {ps : List Prop} (h : apure C it (.indexAddr t x i) xs = some (r, ps)) (hp : All ps) {us : List Value} (hx : SVsRep w B xs us)
    {o : Oper} (ho : o.op = .indexAddr t x i) {ρ : Operand → Value} (hu : (Op.indexAddr t x i).operands.toList.map ρ = us) : Does C.P w B o ρ r := by
  simp only [Op.operands, List.map_cons, List.map_nil] at hu
  simp only [apure] at h
  split at h
  · rename_i k l ik j k' hk
    split at h
    · rename_i hkk
      subst hkk
      simp only [Option.some.injEq, Prod.mk.injEq] at h
      obtain ⟨rfl, rfl⟩ := h
      obtain ⟨u, v, rfl, h1, h2⟩ := SVsRep.two hx
      simp only [List.cons.injEq, and_true] at hu
      obtain ⟨hu1, hu2⟩ := hu
      have e := RepV.int h2
      subst e
      obtain ⟨ad, c, flat, rfl, hle, hr, hn, hc⟩ := RepV.sl h1
      obtain ⟨e, he, hke⟩ := hC.elk _ _ hk
      have d := hC.el _ _ he
      have hj0 : (0 : Int) ≤ j := hp.1
      have hj1 : j < ((List.length l : Nat) : Int) := hp.2.1
      have hjl : j.toNat < List.length l := (Int.toNat_lt hj0).2 hj1
      cases ad with
      | none => have := hn rfl; subst this; simp at hjl
      | some a0 =>
        obtain ⟨hs, hcell, hbb⟩ := hc a0 rfl
        have hsz := fun w => (hC.kd _ _ hke).sizeOf w
        refine ⟨.pointer (some (a0.add (j.toNat * k.n))), by simp [execOp, ho, hu1, hu2, Instr.indexAt, asIntOf, run_underlying d, hj0, hj1, hsz], a0.add (j.toNat * k.n), (flat.drop (j.toNat * k.n)).take k.n, rfl, Addr.add_spot _ _ hs, RowsOf.get hr _ hjl _, (hcell.drop hs _).take _, ?_⟩
        rw [Addr.add_block]
        refine hbb (fun e => ?_)
        have := RowsOf.length hr
        rw [e] at this
        have hpos : 0 < List.length l * k.n := Nat.mul_pos (by omega) k.n_pos
        simp only [List.length_nil] at this
        omega
    · cases h
  · rename_i m k l ik j m' k' hk
    split at h
    · rename_i hkk
      obtain ⟨hm, hkk⟩ := hkk
      subst hm
      subst hkk
      simp only [Option.some.injEq, Prod.mk.injEq] at h
      obtain ⟨rfl, rfl⟩ := h
      obtain ⟨u, v, rfl, h1, h2⟩ := SVsRep.two hx
      simp only [List.cons.injEq, and_true] at hu
      obtain ⟨hu1, hu2⟩ := hu
      have e := RepV.int h2
      subst e
      obtain ⟨ad, cs, rfl, hs, ⟨hlen, hrows⟩, hcell, hb⟩ := h1
      obtain ⟨e, d, hke⟩ := hC.ark _ _ _ hk
      have hj0 : (0 : Int) ≤ j := hp.1
      have hj1 : j < ((m + 2 : Nat) : Int) := hp.2.1
      have hjl : j.toNat < List.length (α := k.ty) l := by rw [hlen]; exact (Int.toNat_lt hj0).2 hj1
      have hsz := fun w => (hC.kd _ _ hke).sizeOf w
      refine ⟨.pointer (some (ad.add (j.toNat * k.n))), ?_, ad.add (j.toNat * k.n), (cs.drop (j.toNat * k.n)).take k.n, rfl, Addr.add_spot _ _ hs, RowsOf.get hrows _ hjl _, (hcell.drop hs _).take _, by rw [Addr.add_block]; exact hb⟩
      simp only [execOp, ho, hu1, hu2, Instr.indexAt, Instr.sureAddr, asIntOf, Sem.run_bind, Sem.run_pure, Result.andThen_ok, run_underlying d, hj0, hj1, hsz, and_self, if_true]
    · cases h
  · cases h

theorem does_index (hC : CfgOK C) {it : It} {t : TypeId} {x i : Operand} {xs : List SV} {r : SV} {ps : List Prop} (h : apure C it (.index t x i) xs = some (r, ps)) (hp : All ps) {us : List Value} (hx : SVsRep w B xs us)
    {o : Oper} (ho : o.op = .index t x i) {ρ : Operand → Value} (hu : (Op.index t x i).operands.toList.map ρ = us) : Does C.P w B o ρ r := by
  simp only [Op.operands, List.map_cons, List.map_nil] at hu
  simp only [apure] at h
  split at h
  · rename_i s ik j hk
    simp only [Option.some.injEq, Prod.mk.injEq] at h
    obtain ⟨rfl, rfl⟩ := h
    obtain ⟨u, v, rfl, h1, h2⟩ := SVsRep.two hx
    simp only [List.cons.injEq, and_true] at hu
    obtain ⟨hu1, hu2⟩ := hu
    have e := RepV.int h2
    have e' := RepV.str h1
    subst e e'
    have d : C.P.underlying t = some .string := (hC.kd _ _ hk).desc
    have hj0 : (0 : Int) ≤ j := hp.1
    have hj1 : j < (s.size : Int) := hp.2.1
    have hjl : j.toNat < s.size := (Int.toNat_lt hj0).2 hj1
    have hb : s[j.toNat]? = some s[j.toNat] := getElem?_pos s _ hjl
    refine ⟨.int .u8 (bt s j), ?_, RepV.mk_int _ _⟩
    have hbt : bt s j = (s[j.toNat].toNat : Int) := by
      simp only [bt]
      congr 2
      show s.data.getD j.toNat 0 = s.data[j.toNat]
      have : j.toNat < s.data.size := hjl
      simp [Array.getElem?_eq_getElem this]
    simp [execOp, ho, hu1, hu2, Instr.index, asIntOf, run_underlying d, hj0, hb, hbt]
  · rename_i m k l ik j m' k' hk
    split at h
    · rename_i hkk
      obtain ⟨hm, hkk⟩ := hkk
      subst hm
      subst hkk
      simp only [Option.some.injEq, Prod.mk.injEq] at h
      obtain ⟨rfl, rfl⟩ := h
      obtain ⟨u, v, rfl, h1, h2⟩ := SVsRep.two hx
      simp only [List.cons.injEq, and_true] at hu
      obtain ⟨hu1, hu2⟩ := hu
      have e := RepV.int h2
      subst e
      obtain ⟨cs, ⟨hlen, hrows⟩, rfl⟩ := h1
      obtain ⟨e, d, hke⟩ := hC.ark _ _ _ hk
      have hj0 : (0 : Int) ≤ j := hp.1
      have hj1 : j < ((m + 2 : Nat) : Int) := hp.2.1
      have hjl : j.toNat < List.length (α := k.ty) l := by rw [hlen]; exact (Int.toNat_lt hj0).2 hj1
      have hsz := fun w => (hC.kd _ _ hke).sizeOf w
      have hag := fun w => (hC.kd _ _ hke).isAgg w
      have hg := RowsOf.get hrows _ hjl k.z
      have hgl := hg.length
      refine ⟨mkV k ((cs.drop (j.toNat * k.n)).take k.n), ?_, _, hg, rfl⟩
      have hmk : mkV (.arr m k) cs = .agg cs.toArray := rfl
      rw [hmk] at hu1
      simp only [execOp, ho, hu1, hu2, Instr.index, asIntOf, Sem.run_bind, Sem.run_pure, Result.andThen_ok, run_underlying d, hj0, hj1, hsz, and_self, if_true, Go.part, hag]
      cases hk : isPr k with
      | true => simp [mkV_pr hk, hsz]
      | false =>
        have hn1 : k.n = 1 := by cases k <;> simp_all [Kd.n, isPr]
        obtain ⟨c, hc⟩ : ∃ c, (cs.drop (j.toNat * k.n)).take k.n = [c] := by
          match hs : (cs.drop (j.toNat * k.n)).take k.n, hgl.trans hn1 with
          | [c], _ => exact ⟨c, rfl⟩
        have hcs : cs[j.toNat * k.n]? = some c := by
          have h0 : ((cs.drop (j.toNat * k.n)).take k.n)[0]? = some c := by rw [hc]; rfl
          rw [List.getElem?_take, hn1] at h0
          simpa [hn1] using h0
        rw [hc, mkV_one hk]
        simp [hcs]
    · cases h
  · cases h

theorem does_len (hC : CfgOK C) {it : It} {args : Array Operand} {ts : Array TypeId} {xs : List SV} {r : SV} {ps : List Prop} (h : apure C it (.call { callee := .builtin .len, args := args, argTypes := ts }) xs = some (r, ps)) {us : List Value} (hx : SVsRep w B xs us)
    {o : Oper} (ho : o.op = .call { callee := .builtin .len, args := args, argTypes := ts }) {ρ : Operand → Value} (hu : (Op.call { callee := .builtin .len, args := args, argTypes := ts }).operands.toList.map ρ = us) : Does C.P w B o ρ r := by
  have hu' : args.toList.map ρ = us := by simpa [Op.operands, Call.operands] using hu
  simp only [apure] at h
  split at h
  · rename_i s ha hk hts
    simp only [Option.some.injEq, Prod.mk.injEq] at h
    obtain ⟨rfl, _⟩ := h
    obtain ⟨u, rfl, h1⟩ := SVsRep.one hx
    have e := RepV.str h1
    subst e
    have d : C.P.underlying (ts.getD 0 0) = some .string := (hC.kd _ _ hk).desc
    obtain ⟨x, hx'⟩ : ∃ x, args = #[x] := by
      obtain ⟨l⟩ := args; match l, ha with | [x], _ => exact ⟨x, rfl⟩
    obtain ⟨t, ht'⟩ : ∃ t, ts = #[t] := by
      obtain ⟨l⟩ := ts; match l, hts with | [t], _ => exact ⟨t, rfl⟩
    subst hx' ht'
    simp at hu' d
    exact ⟨_, by simp [execOp, ho, resolve, invoke, builtin, Builtin.len_, hu', run_underlying d, goInt], RepV.mk_int _ _⟩
  · rename_i k l k0 ha hk hts
    simp only [Option.some.injEq, Prod.mk.injEq] at h
    obtain ⟨rfl, _⟩ := h
    obtain ⟨u, rfl, h1⟩ := SVsRep.one hx
    obtain ⟨ad, c, flat, rfl, hle, hr, hn, hc⟩ := RepV.sl h1
    obtain ⟨e, d⟩ := (hC.kd _ _ hk).desc
    obtain ⟨x, hx'⟩ : ∃ x, args = #[x] := by
      obtain ⟨l⟩ := args; match l, ha with | [x], _ => exact ⟨x, rfl⟩
    obtain ⟨t, ht'⟩ : ∃ t, ts = #[t] := by
      obtain ⟨l⟩ := ts; match l, hts with | [t], _ => exact ⟨t, rfl⟩
    subst hx' ht'
    simp at hu' d
    exact ⟨_, by simp [execOp, ho, resolve, invoke, builtin, Builtin.len_, hu', run_underlying d, goInt], RepV.mk_int _ _⟩
  · rename_i e0 k k0 ha hk hts
    simp only [Option.some.injEq, Prod.mk.injEq] at h
    obtain ⟨rfl, _⟩ := h
    obtain ⟨u, rfl, h1⟩ := SVsRep.one hx
    have e1 : u = .slice none 0 0 := h1
    subst e1
    obtain ⟨e, d⟩ := (hC.kd _ _ hk).desc
    obtain ⟨x, hx'⟩ : ∃ x, args = #[x] := by
      obtain ⟨l⟩ := args; match l, ha with | [x], _ => exact ⟨x, rfl⟩
    obtain ⟨t, ht'⟩ : ∃ t, ts = #[t] := by
      obtain ⟨l⟩ := ts; match l, hts with | [t], _ => exact ⟨t, rfl⟩
    subst hx' ht'
    simp at hu' d
    exact ⟨_, by simp [execOp, ho, resolve, invoke, builtin, Builtin.len_, hu', run_underlying d, goInt], RepV.mk_int _ _⟩
  · cases h

theorem does_max {it : It} {args : Array Operand} {ts : Array TypeId} {xs : List SV} {r : SV} {ps : List Prop} (h : apure C it (.call { callee := .builtin .max, args := args, argTypes := ts }) xs = some (r, ps)) {us : List Value} (hx : SVsRep w B xs us)
    {o : Oper} (ho : o.op = .call { callee := .builtin .max, args := args, argTypes := ts }) {ρ : Operand → Value} (hu : (Op.call { callee := .builtin .max, args := args, argTypes := ts }).operands.toList.map ρ = us) : Does C.P w B o ρ r := by
  have hu' : args.toList.map ρ = us := by simpa [Op.operands, Call.operands] using hu
  simp only [apure] at h
  split at h
  · rename_i x y
    simp only [Option.some.injEq, Prod.mk.injEq] at h
    obtain ⟨rfl, _⟩ := h
    obtain ⟨u1, us1, rfl, h1, h2⟩ := hx
    obtain ⟨u2, us2, rfl, h3, h4⟩ := h2
    have h4' : us2 = [] := h4
    subst h4'
    have e1 := RepV.int h1
    have e2 := RepV.int h3
    subst e1 e2
    obtain ⟨p, q, hpq⟩ : ∃ p q, args = #[p, q] := by
      obtain ⟨l⟩ := args
      have := congrArg List.length hu'
      simp at this
      match l, this with | [p, q], _ => exact ⟨p, q, rfl⟩
    subst hpq
    simp at hu'
    exact ⟨.int .i64 (maxI x y), by simp [execOp, ho, resolve, invoke, builtin, Builtin.max_, Builtin.max2, hu'.1, hu'.2, maxI], RepV.mk_int _ _⟩
  · cases h

/-- ALL OF THEM. -/
theorem apure_sound (hC : CfgOK C) {it : It} {op : Op} {xs : List SV} {r : SV} {ps : List Prop} (h : apure C it op xs = some (r, ps)) (hp : All ps) {us : List Value} (hx : SVsRep w B xs us)
    {o : Oper} (ho : o.op = op) {ρ : Operand → Value} (hu : op.operands.toList.map ρ = us) : Does C.P w B o ρ r := by
  cases op
  case load => exact does_load hC h hx ho hu
  case binOp => exact does_bin hC h hp hx ho hu
  case unOp => exact does_un h hx ho hu
  case convert => exact does_convert hC h hx ho hu
  case slice => exact does_slice hC h hp hx ho hu
  case fieldAddr => exact does_fieldAddr hC h hx ho hu
  case field => exact does_field hC h hx ho hu
  case indexAddr => exact does_indexAddr hC h hp hx ho hu
  case index => exact does_index hC h hp hx ho hu
  case call c =>
    obtain ⟨cal, args, ts⟩ := c
    cases cal
    case builtin b => cases b <;> first | exact does_len hC h hx ho hu | exact does_max h hx ho hu | (exfalso; simp [apure] at h; done)
    all_goals (exfalso; simp [apure] at h; done)
  all_goals (exfalso; simp [apure] at h; done)

end Go.AI
end

section
/- What an operation leaves of a state's meaning. -/
set_option autoImplicit false
set_option linter.unusedVariables false
set_option linter.unusedSimpArgs false
namespace Go.AI

/-! ### Objects -/

theorem obj_setOb (ob : Obs) (d i : Nat) (o : Option Ob) (h : d < ob.length) : (ob.setOb d o).obj i = if i = d then o else ob.obj i := by
  unfold Obs.setOb Obs.obj
  simp only [List.getD_eq_getElem?_getD, List.getElem?_set]
  by_cases e : i = d
  · subst e; simp [h]
  · simp [e, Ne.symm e]

theorem obj_lt {ob : Obs} {i : Nat} {o : Ob} (h : ob.obj i = some o) : i < ob.length := by
  unfold Obs.obj at h
  rw [List.getD_eq_getElem?_getD] at h
  rcases Nat.lt_or_ge i ob.length with h' | h'
  · exact h'
  · simp [List.getElem?_eq_none h'] at h

theorem length_setOb (ob : Obs) (d : Nat) (o : Option Ob) : (ob.setOb d o).length = ob.length := by simp [Obs.setOb]

/-- The same data; more may be nobody's own. -/
def Ob.le : Ob → Ob → Prop
  | .box k x z, o' => ∃ z', o' = .box k x z' ∧ (z = true → z' = true)
  | .row e k l ver z, o' => ∃ z', o' = .row e k l ver z' ∧ (z = true → z' = true)
  | .mp k l z, o' => ∃ z', o' = .mp k l z' ∧ (z = true → z' = true)

theorem Ob.le_refl (o : Ob) : o.le o := by cases o <;> exact ⟨_, rfl, id⟩
theorem Ob.le_trans {a b c : Ob} (h : a.le b) (h' : b.le c) : a.le c := by
  cases a <;> obtain ⟨z, rfl, h1⟩ := h <;> obtain ⟨z', rfl, h2⟩ := h' <;> exact ⟨z', rfl, fun h => h2 (h1 h)⟩

structure ObLe (ob ob' : Obs) : Prop where
  len : ob'.length = ob.length
  fwd : ∀ i o, ob.obj i = some o → ∃ o', ob'.obj i = some o' ∧ o.le o'
  bwd : ∀ i o', ob'.obj i = some o' → ∃ o, ob.obj i = some o ∧ o.le o'

theorem ObLe.refl (ob : Obs) : ObLe ob ob := ⟨rfl, fun i o h => ⟨o, h, o.le_refl⟩, fun i o h => ⟨o, h, o.le_refl⟩⟩
theorem ObLe.trans {a b c : Obs} (h : ObLe a b) (h' : ObLe b c) : ObLe a c :=
  ⟨h'.len.trans h.len, fun i o hi => let ⟨o1, h1, l1⟩ := h.fwd i o hi; let ⟨o2, h2, l2⟩ := h'.fwd i o1 h1; ⟨o2, h2, Ob.le_trans l1 l2⟩,
    fun i o hi => let ⟨o1, h1, l1⟩ := h'.bwd i o hi; let ⟨o2, h2, l2⟩ := h.bwd i o1 h1; ⟨o2, h2, Ob.le_trans l2 l1⟩⟩

theorem ObLe.set {ob : Obs} {i : Nat} {o o' : Ob} (h : ob.obj i = some o) (hl : o.le o') : ObLe ob (ob.setOb i (some o')) := by
  have hlt := obj_lt h
  refine ⟨length_setOb _ _ _, fun j p hj => ?_, fun j p hj => ?_⟩
  · rw [obj_setOb _ _ _ _ hlt]
    by_cases e : j = i
    · subst e; rw [h] at hj; cases hj; simp; exact hl
    · simp [e]; exact ⟨p, hj, p.le_refl⟩
  · rw [obj_setOb _ _ _ _ hlt] at hj
    by_cases e : j = i
    · subst e; simp at hj; subst hj; exact ⟨o, h, hl⟩
    · simp [e] at hj; exact ⟨p, hj, p.le_refl⟩

theorem frz_le (ob : Obs) (x : SV) : ObLe ob (frz ob x) := by
  cases x <;> simp only [frz] <;> try exact ObLe.refl ob
  · split
    · rename_i h; exact ObLe.set h ⟨true, rfl, fun _ => rfl⟩
    · exact ObLe.refl ob
  · split
    · rename_i h; exact ObLe.set h ⟨true, rfl, fun _ => rfl⟩
    · exact ObLe.refl ob

theorem frzs_le : ∀ (xs : List SV) (ob : Obs), ObLe ob (frzs ob xs)
  | [], ob => ObLe.refl ob
  | x :: xs, ob => (frz_le ob x).trans (frzs_le xs _)

theorem frzAll_le : ∀ (as : List AV) (ob : Obs), ObLe ob (frzAll ob as)
  | [], ob => ObLe.refl ob
  | .s (.osl i v) :: as, ob => (frz_le ob _).trans (frzAll_le as _)
  | .s (.v ..) :: as, ob | .s (.nilsl ..) :: as, ob | .s (.fadr ..) :: as, ob | .s (.adr ..) :: as, ob | .s (.oel ..) :: as, ob | .s (.own ..) :: as, ob | .s (.mbx ..) :: as, ob | .s (.msl ..) :: as, ob | .s (.omp ..) :: as, ob | .s (.mmp ..) :: as, ob
  | .tup _ :: as, ob | .fn .. :: as, ob => frzAll_le as ob

/-! ### The meaning of a state -/

variable {X : Ctx} {sl : List (Option AV)} {ob ob' : Obs} {a : Act} {w w' : World} {γ γ' : Nat → Value} {B B' : Nat → Prop}

theorem Keeps.of_sub (h : ∀ b, B b → B' b) : Keeps w w B B' := ⟨fun b hb _ => ⟨h b hb, rfl⟩⟩

theorem SVRep.keep (K : Keeps w w' B B') {x : SV} {u : Value} (h : SVRep w B x u) : SVRep w' B' x u := by
  cases x <;> simp only [SVRep] at h ⊢
  · exact h.keep K
  · exact h
  · exact RepA.keep K h

theorem SVsRep.keep (K : Keeps w w' B B') : ∀ {xs : List SV} {us : List Value}, SVsRep w B xs us → SVsRep w' B' xs us
  | [], _, h => h
  | _ :: _, _, ⟨u, us, e, h1, h2⟩ => ⟨u, us, e, h1.keep K, h2.keep K⟩

theorem AVRep.keep (K : Keeps w w' B B') {x : AV} {u : Value} (h : AVRep w B x u) : AVRep w' B' x u := by
  cases x
  · exact SVRep.keep K h
  · obtain ⟨vs, e, h⟩ := h; exact ⟨vs, e, h.keep K⟩
  · obtain ⟨xs, ys, e, h1, h2⟩ := h; exact ⟨xs, ys, e, h1.keep K, h2.keep K⟩

theorem OwnRow.keep (K : Keeps w w' B B') {N : Nat} {e : TypeId} {k : Kd} {l : List k.ty} {v : Value} (h : OwnRow w B N e k l v) (hb : ∀ b, blk v = some b → w'.heap[b]? = w.heap[b]?) : OwnRow w' B' N e k l v := by
  obtain ⟨flat, ho, hr⟩ := h
  refine ⟨flat, ⟨ho.1, ?_⟩, hr.mono (fun x cs h => h.keep K)⟩
  rcases ho.2 with h | ⟨g, cap, cur, rfl, h1, h2, h3⟩
  · exact .inl h
  · exact .inr ⟨g, cap, cur, rfl, h1, by rw [hb g rfl]; exact h2, h3⟩

theorem BoxAt.keep (K : Keeps w w' B B') {k : Kd} {x : k.ty} {v : Value} (h : BoxAt w B k x v) (hb : ∀ b, blk v = some b → w'.heap[b]? = w.heap[b]?) : BoxAt w' B' k x v := by
  obtain ⟨b, cs, t, rfl, h1, h2⟩ := h
  exact ⟨b, cs, t, rfl, by rw [hb b rfl]; exact h1, h2.keep K⟩

theorem MapAt.keep {k : Kd} {l : List (ByteArray × k.ty)} {v : Value} (h : MapAt w k l v) (hb : ∀ b, blk v = some b → w'.heap[b]? = w.heap[b]?) : MapAt w' k l v := by
  obtain ⟨b, es, clock, rfl, h1, h2⟩ := h
  exact ⟨b, es, clock, rfl, by rw [hb b rfl]; exact h1, h2⟩

theorem ObRep.keep (K : Keeps w w' B B') {v : Value} {o : Ob} (h : ObRep w B v o) (hb : ∀ b, blk v = some b → w'.heap[b]? = w.heap[b]?) : ObRep w' B' v o := by
  cases o
  · exact BoxAt.keep K h hb
  · exact OwnRow.keep K h hb
  · exact MapAt.keep h hb

theorem ObRep.lt {v : Value} {o : Ob} (h : ObRep w B v o) {b : Nat} (hb : blk v = some b) : b < w.heap.size := by
  cases o with
  | box k x z =>
    obtain ⟨b', cs, t, rfl, h1, _⟩ := h
    simp only [blk, Option.some.injEq] at hb
    subst hb
    exact (Array.getElem?_eq_some_iff.1 h1).1
  | row e k l ver z =>
    obtain ⟨flat, ho, hr⟩ := h
    rcases ho.2 with ⟨rfl, _⟩ | ⟨g, cap, cur, rfl, h1, h2, h3⟩
    · simp [blk] at hb
    · simp only [blk, Option.some.injEq] at hb
      subst hb
      exact (Array.getElem?_eq_some_iff.1 h2).1
  | mp k l z =>
    obtain ⟨b', es, clock, rfl, h1, _⟩ := h
    simp only [blk, Option.some.injEq] at hb
    subst hb
    exact (Array.getElem?_eq_some_iff.1 h1).1

theorem ObRep.le {v : Value} {o o' : Ob} (h : ObRep w B v o) (hl : o.le o') : ObRep w B v o' := by
  cases o <;> obtain ⟨z, rfl, _⟩ := hl <;> exact h

theorem Bs.le (h : ObLe ob ob') {b : Nat} (hb : Bs X ob γ b) : Bs X ob' γ b :=
  ⟨hb.1, fun i o' hi hz => by
    obtain ⟨o, ho, hl⟩ := h.bwd i o' hi
    refine hb.2 i o ho ?_
    cases o <;> obtain ⟨z', rfl, hzz⟩ := hl <;> simp [Ob.frz] at hz ⊢
    all_goals
      rename_i z
      cases z
      · rfl
      · simp [hz] at hzz⟩

/-- Slots: from state to state, the objects being as they were. -/
theorem SlS.keep (K : Keeps w w' B B') (hle : ∀ i o', ob'.obj i = some o' → ∃ o, ob.obj i = some o ∧ o.le o') (hfw : ∀ i o, ob.obj i = some o → ∃ o', ob'.obj i = some o' ∧ o.le o') {x : SV} {u : Value} (h : SlS w B ob γ x u) : SlS w' B' ob' γ x u := by
  cases x <;> simp only [SlS] at h ⊢
  · exact h.keep K
  · exact h
  · exact RepA.keep K h
  · obtain ⟨⟨k, x, z, h1⟩, h2⟩ := h
    obtain ⟨o', h3, z', rfl, _⟩ := hfw _ _ h1
    exact ⟨⟨k, x, z', h3⟩, h2⟩
  · obtain ⟨⟨e, k, l, ver', z, h1, hv⟩, h2⟩ := h
    obtain ⟨o', h3, z', rfl, _⟩ := hfw _ _ h1
    refine ⟨⟨e, k, l, ver', z', h3, hv⟩, fun e k l z hi => ?_⟩
    obtain ⟨o, h4, hl⟩ := hle _ _ hi
    cases o <;> obtain ⟨z2, heq, _⟩ := hl <;> cases heq
    exact h2 _ _ _ _ h4
  · obtain ⟨⟨e, k, l, ver', z, h1, hv⟩, h2⟩ := h
    obtain ⟨o', h3, z', rfl, _⟩ := hfw _ _ h1
    refine ⟨⟨e, k, l, ver', z', h3, hv⟩, fun e k l z hi => ?_⟩
    obtain ⟨o, h4, hl⟩ := hle _ _ hi
    cases o <;> obtain ⟨z2, heq, _⟩ := hl <;> cases heq
    exact h2 _ _ _ _ h4
  · obtain ⟨⟨k, l, z, h1⟩, h2⟩ := h
    obtain ⟨o', h3, z', rfl, _⟩ := hfw _ _ h1
    exact ⟨⟨k, l, z', h3⟩, h2⟩

theorem SlL.imp {w w' : World} {B B' : Nat → Prop} {ob ob' : Obs} {γ γ' : Nat → Value} (h : ∀ x u, SlS w B ob γ x u → SlS w' B' ob' γ' x u) : ∀ {xs : List SV} {us : List Value}, SlL w B ob γ xs us → SlL w' B' ob' γ' xs us
  | [], _, e => e
  | _ :: _, _, ⟨u, us, e, h1, h2⟩ => ⟨u, us, e, h _ _ h1, h2.imp h⟩

theorem SlA.imp {w w' : World} {B B' : Nat → Prop} {ob ob' : Obs} {γ γ' : Nat → Value} (K : Keeps w w' B B') (h : ∀ x u, SlS w B ob γ x u → SlS w' B' ob' γ' x u) {x : AV} {u : Value} (hx : SlA w B ob γ x u) : SlA w' B' ob' γ' x u := by
  cases x with
  | s x => exact h _ _ hx
  | tup l => obtain ⟨vs, e, h1⟩ := hx; exact ⟨vs, e, h1.imp h⟩
  | fn f p q => exact AVRep.keep (x := .fn f p q) K hx

/-- More is nobody's own. -/
theorem InvG.raise (h : InvG X ⟨sl, ob⟩ a w γ) (hle : ObLe ob ob') : InvG X ⟨sl, ob'⟩ a w γ := by
  have K : Keeps w w (Bs X ob γ) (Bs X ob' γ) := Keeps.of_sub fun b hb => Bs.le hle hb
  refine ⟨h.fr, h.df, h.sz, fun i o' hi => ?_, fun i j o p b hi hj => ?_, fun i o b hi => ?_, fun i v hi => ?_, fun t v ht => ?_⟩
  · obtain ⟨o, ho, hl⟩ := hle.bwd i o' hi
    exact ((h.ob i o ho).keep K fun _ _ => rfl).le hl
  · obtain ⟨o1, ho, _⟩ := hle.bwd i o hi
    obtain ⟨p1, hp, _⟩ := hle.bwd j p hj
    exact h.dj i j o1 p1 b ho hp
  · obtain ⟨o1, ho, _⟩ := hle.bwd i o hi
    exact h.fresh i o1 b ho
  · obtain ⟨o, ho, hv⟩ := h.pm i v hi
    obtain ⟨o', ho', hl⟩ := hle.fwd i o ho
    refine ⟨o', ho', fun hr => hv fun e k l ver z heq => ?_⟩
    subst heq
    obtain ⟨z', rfl, _⟩ := hl
    exact hr e k l ver z' rfl
  · exact SlA.imp K (fun x u hx => SlS.keep K hle.bwd hle.fwd hx) (h.sl t v ht)

theorem Fr.grown {w0 : World} {mv : List Value} (h : Fr w0 mv w) {row : Option Nat} (hg : w.grownBy w' row) (hr : ∀ k, row = some k → w0.heap.size ≤ k ∨ ∃ v ∈ mv, blk v = some k) : Fr w0 mv w' :=
  ⟨hg.os.trans h.os, hg.tape.trans h.tape, hg.output.trans h.output, Nat.le_trans h.size hg.size, fun k hk hmv => by
    rw [hg.block k (Nat.lt_of_lt_of_le hk h.size) (fun e => ?_)]
    · exact h.block k hk hmv
    · rcases hr k e.symm with h1 | ⟨v, hv, hb⟩
      · omega
      · exact hmv v hv hb⟩

def upd (γ : Nat → Value) (d : Nat) (v : Value) : Nat → Value := fun i => if i = d then v else γ i
theorem upd_same (γ : Nat → Value) (d : Nat) (v : Value) : upd γ d v d = v := by simp [upd]
theorem upd_ne (γ : Nat → Value) {d i : Nat} (v : Value) (h : i ≠ d) : upd γ d v i = γ i := by simp [upd, h]

/-- A NEW OBJECT. -/
theorem InvG.new (h : InvG X ⟨sl, ob⟩ a w γ) {d : Nat} (hd : ob.obj d = none) (hlt : d < ob.length) {o : Ob} {v : Value} (hg : w.grownBy w' none) (hv : ∀ b, blk v = some b → w.heap.size ≤ b)
    (hrep : ∀ B', Keeps w w' (Bs X ob γ) B' → ObRep w' B' v o) :
    InvG X ⟨sl, ob.setOb d (some o)⟩ a w' (upd γ d v) ∧ Keeps w w' (Bs X ob γ) (Bs X (ob.setOb d (some o)) (upd γ d v)) ∧
      (∀ x u, SlS w (Bs X ob γ) ob γ x u → SlS w' (Bs X (ob.setOb d (some o)) (upd γ d v)) (ob.setOb d (some o)) (upd γ d v) x u) := by
  have hobj : ∀ i, (ob.setOb d (some o)).obj i = if i = d then some o else ob.obj i := fun i => obj_setOb _ _ _ _ hlt
  have hne : ∀ i p, ob.obj i = some p → i ≠ d := fun i p hi e => by subst e; rw [hd] at hi; cases hi
  have hw0 : X.w0.heap.size ≤ w.heap.size := h.fr.size
  have K : Keeps w w' (Bs X ob γ) (Bs X (ob.setOb d (some o)) (upd γ d v)) := by
    refine ⟨fun b hb hbl => ⟨⟨hb.1, fun i p hi hz => ?_⟩, hg.block b hbl (by simp)⟩⟩
    rw [hobj] at hi
    by_cases e : i = d
    · subst e
      rw [upd_same]
      intro hb'
      have := hv b hb'
      omega
    · rw [if_neg e] at hi
      rw [upd_ne _ _ e]
      exact hb.2 i p hi hz
  have S : ∀ x u, SlS w (Bs X ob γ) ob γ x u → SlS w' (Bs X (ob.setOb d (some o)) (upd γ d v)) (ob.setOb d (some o)) (upd γ d v) x u := by
    intro x u hx
    cases x <;> simp only [SlS] at hx ⊢
    · exact hx.keep K
    · exact hx
    · exact RepA.keep K hx
    · obtain ⟨⟨k, x, z, h1⟩, b, h2, h3⟩ := hx
      have := hne _ _ h1
      exact ⟨⟨k, x, z, by rw [hobj, if_neg this]; exact h1⟩, b, by rw [upd_ne _ _ this]; exact h2, h3⟩
    · obtain ⟨⟨e, k, l, ver', z, h1, hv⟩, h2⟩ := hx
      have := hne _ _ h1
      refine ⟨⟨e, k, l, ver', z, by rw [hobj, if_neg this]; exact h1, hv⟩, fun e k l z hi => ?_⟩
      rw [hobj, if_neg this] at hi
      rw [upd_ne _ _ this]
      exact h2 e k l z hi
    · obtain ⟨⟨e, k, l, ver', z, h1, hv⟩, h2⟩ := hx
      have := hne _ _ h1
      refine ⟨⟨e, k, l, ver', z, by rw [hobj, if_neg this]; exact h1, hv⟩, fun e k l z hi => ?_⟩
      rw [hobj, if_neg this] at hi
      rw [upd_ne _ _ this]
      exact h2 e k l z hi
    · obtain ⟨⟨k, l, z, h1⟩, h2⟩ := hx
      have := hne _ _ h1
      exact ⟨⟨k, l, z, by rw [hobj, if_neg this]; exact h1⟩, by rw [upd_ne _ _ this]; exact h2⟩
  refine ⟨⟨h.fr.grown hg (by simp), h.df, h.sz, fun i p hi => ?_, fun i j p q b hi hj hij hb => ?_, fun i p b hi hb => ?_, fun i u hi => ?_, fun t u ht => SlA.imp K S (h.sl t u ht)⟩, K, S⟩
  · rw [hobj] at hi
    by_cases e : i = d
    · subst e
      rw [if_pos rfl] at hi
      cases hi
      rw [upd_same]
      exact hrep _ K
    · rw [if_neg e] at hi
      rw [upd_ne _ _ e]
      exact (h.ob i p hi).keep K fun b hb => hg.block b ((h.ob i p hi).lt hb) (by simp)
  · rw [hobj] at hi hj
    by_cases ei : i = d
    · subst ei
      rw [upd_same] at hb
      rw [if_neg (Ne.symm hij)] at hj
      rw [upd_ne _ _ (Ne.symm hij)]
      intro hb'
      have := (h.ob j q hj).lt hb'
      have := hv b hb
      omega
    · rw [if_neg ei] at hi
      rw [upd_ne _ _ ei] at hb
      by_cases ej : j = d
      · subst ej
        rw [upd_same]
        intro hb'
        have := (h.ob i p hi).lt hb
        have := hv b hb'
        omega
      · rw [if_neg ej] at hj
        rw [upd_ne _ _ ej]
        exact h.dj i j p q b hi hj hij hb
  · rw [hobj] at hi
    by_cases e : i = d
    · subst e
      rw [upd_same] at hb
      have := hv b hb
      exact .inl (by omega)
    · rw [if_neg e] at hi
      rw [upd_ne _ _ e] at hb
      exact h.fresh i p b hi hb
  · obtain ⟨p, hp, hq⟩ := h.pm i u hi
    have := hne _ _ hp
    exact ⟨p, by rw [hobj, if_neg this]; exact hp, fun hr => by rw [upd_ne _ _ this]; exact hq hr⟩


def AliasOK (o o' : Ob) (same : Prop) : Prop :=
  match o, o' with
  | .box _ _ _, .box _ _ _ => same
  | .row _ k _ ver _, .row _ k' _ ver' _ => ver < ver' ∨ (ver = ver' ∧ k = k' ∧ same)
  | .mp _ _ _, .mp _ _ _ => same
  | _, _ => False

/-- AN OBJECT IS CHANGED. -/
theorem InvG.mod (h : InvG X ⟨sl, ob⟩ a w γ) {d : Nat} {o o' : Ob} {v : Value} (hd : ob.obj d = some o) (hz : o.frz = false) (hg : w.grownBy w' (blk (γ d)))
    (hv : blk v = blk (γ d) ∨ ∀ b, blk v = some b → w.heap.size ≤ b) (hpm : v = γ d ∨ ∃ e k l ver z, o' = .row e k l (ver + 1) z) (hal : AliasOK o o' (v = γ d))
    (hrep : ∀ B', Keeps w w' (Bs X ob γ) B' → ObRep w' B' v o') :
    InvG X ⟨sl, ob.setOb d (some o')⟩ a w' (upd γ d v) ∧ Keeps w w' (Bs X ob γ) (Bs X (ob.setOb d (some o')) (upd γ d v)) ∧
      (∀ x u, SlS w (Bs X ob γ) ob γ x u → SlS w' (Bs X (ob.setOb d (some o')) (upd γ d v)) (ob.setOb d (some o')) (upd γ d v) x u) := by
  have hlt := obj_lt hd
  have hobj : ∀ i, (ob.setOb d (some o')).obj i = if i = d then some o' else ob.obj i := fun i => obj_setOb _ _ _ _ hlt
  have hw0 : X.w0.heap.size ≤ w.heap.size := h.fr.size
  have K : Keeps w w' (Bs X ob γ) (Bs X (ob.setOb d (some o')) (upd γ d v)) := by
    refine ⟨fun b hb hbl => ⟨⟨hb.1, fun i p hi hz' => ?_⟩, hg.block b hbl (fun e => hb.2 d o hd hz e.symm)⟩⟩
    rw [hobj] at hi
    by_cases e : i = d
    · subst e
      rw [upd_same]
      intro hb'
      rcases hv with hv | hv
      · exact hb.2 i o hd hz (hv ▸ hb')
      · have := hv b hb'
        omega
    · rw [if_neg e] at hi
      rw [upd_ne _ _ e]
      exact hb.2 i p hi hz'
  have S : ∀ x u, SlS w (Bs X ob γ) ob γ x u → SlS w' (Bs X (ob.setOb d (some o')) (upd γ d v)) (ob.setOb d (some o')) (upd γ d v) x u := by
    intro x u hx
    cases x <;> simp only [SlS] at hx ⊢
    · exact hx.keep K
    · exact hx
    · exact RepA.keep K hx
    · rename_i i f
      obtain ⟨⟨k, x, z, h1⟩, b, h2, h3⟩ := hx
      by_cases e : i = d
      · subst e
        rw [hd] at h1
        cases h1
        cases o' <;> simp only [AliasOK] at hal
        exact ⟨⟨_, _, _, by rw [hobj, if_pos rfl]⟩, b, by rw [upd_same, hal]; exact h2, h3⟩
      · exact ⟨⟨k, x, z, by rw [hobj, if_neg e]; exact h1⟩, b, by rw [upd_ne _ _ e]; exact h2, h3⟩
    · rename_i i ver0
      obtain ⟨⟨e, k, l, ver', z, h1, hvv⟩, h2⟩ := hx
      by_cases ee : i = d
      · subst ee
        rw [hd] at h1
        cases h1
        cases o' <;> simp only [AliasOK] at hal
        rename_i e1 k1 l1 ver1 z1
        refine ⟨⟨_, _, _, _, _, by rw [hobj, if_pos rfl], by rcases hal with h | h <;> omega⟩, fun e2 k2 l2 z2 hi => ?_⟩
        rw [hobj, if_pos rfl] at hi
        cases hi
        rcases hal with hal | ⟨rfl, rfl, hal⟩
        · omega
        · rw [upd_same, hal]
          exact h2 _ _ _ _ hd
      · refine ⟨⟨e, k, l, ver', z, by rw [hobj, if_neg ee]; exact h1, hvv⟩, fun e k l z hi => ?_⟩
        rw [hobj, if_neg ee] at hi
        rw [upd_ne _ _ ee]
        exact h2 e k l z hi
    · rename_i i ver0 j f
      obtain ⟨⟨e, k, l, ver', z, h1, hvv⟩, h2⟩ := hx
      by_cases ee : i = d
      · subst ee
        rw [hd] at h1
        cases h1
        cases o' <;> simp only [AliasOK] at hal
        rename_i e1 k1 l1 ver1 z1
        refine ⟨⟨_, _, _, _, _, by rw [hobj, if_pos rfl], by rcases hal with h | h <;> omega⟩, fun e2 k2 l2 z2 hi => ?_⟩
        rw [hobj, if_pos rfl] at hi
        cases hi
        rcases hal with hal | ⟨rfl, rfl, hal⟩
        · omega
        · rw [upd_same, hal]
          exact h2 _ _ _ _ hd
      · refine ⟨⟨e, k, l, ver', z, by rw [hobj, if_neg ee]; exact h1, hvv⟩, fun e k l z hi => ?_⟩
        rw [hobj, if_neg ee] at hi
        rw [upd_ne _ _ ee]
        exact h2 e k l z hi
    · rename_i i
      obtain ⟨⟨k, l, z, h1⟩, h2⟩ := hx
      by_cases e : i = d
      · subst e
        rw [hd] at h1
        cases h1
        cases o' <;> simp only [AliasOK] at hal
        exact ⟨⟨_, _, _, by rw [hobj, if_pos rfl]⟩, by rw [upd_same, hal]; exact h2⟩
      · exact ⟨⟨k, l, z, by rw [hobj, if_neg e]; exact h1⟩, by rw [upd_ne _ _ e]; exact h2⟩
  have hold : ∀ b, blk v = some b → b < w.heap.size → blk (γ d) = some b := fun b hb hlt' => by
    rcases hv with hv | hv
    · exact hv ▸ hb
    · have := hv b hb
      omega
  refine ⟨⟨h.fr.grown hg (fun k hk => h.fresh d o k hd hk), h.df, h.sz, fun i p hi => ?_, fun i j p q b hi hj hij hb => ?_, fun i p b hi hb => ?_, fun i u hi => ?_, fun t u ht => SlA.imp K S (h.sl t u ht)⟩, K, S⟩
  · rw [hobj] at hi
    by_cases e : i = d
    · subst e
      rw [if_pos rfl] at hi
      cases hi
      rw [upd_same]
      exact hrep _ K
    · rw [if_neg e] at hi
      rw [upd_ne _ _ e]
      exact (h.ob i p hi).keep K fun b hb => hg.block b ((h.ob i p hi).lt hb) (fun e' => h.dj i d p o b hi hd e hb e'.symm)
  · rw [hobj] at hi hj
    by_cases ei : i = d
    · subst ei
      rw [upd_same] at hb
      rw [if_neg (Ne.symm hij)] at hj
      rw [upd_ne _ _ (Ne.symm hij)]
      intro hb'
      exact h.dj i j o q b hd hj hij (hold b hb ((h.ob j q hj).lt hb')) hb'
    · rw [if_neg ei] at hi
      rw [upd_ne _ _ ei] at hb
      by_cases ej : j = d
      · subst ej
        rw [upd_same]
        intro hb'
        exact h.dj i j p o b hi hd hij hb (hold b hb' ((h.ob i p hi).lt hb))
      · rw [if_neg ej] at hj
        rw [upd_ne _ _ ej]
        exact h.dj i j p q b hi hj hij hb
  · rw [hobj] at hi
    by_cases e : i = d
    · subst e
      rw [upd_same] at hb
      by_cases hl : b < w.heap.size
      · exact h.fresh i o b hd (hold b hb hl)
      · exact .inl (by omega)
    · rw [if_neg e] at hi
      rw [upd_ne _ _ e] at hb
      exact h.fresh i p b hi hb
  · obtain ⟨p, hp, hq⟩ := h.pm i u hi
    by_cases e : i = d
    · subst e
      rw [hd] at hp
      cases hp
      refine ⟨o', by rw [hobj, if_pos rfl], fun hr => ?_⟩
      rw [upd_same]
      rcases hpm with hpm | ⟨e, k, l, ver, z, rfl⟩
      · rw [hpm]
        refine hq fun e k l ver z heq => ?_
        subst heq
        cases o' <;> simp only [AliasOK] at hal
        have := hr _ _ _ _ _ rfl
        rcases hal with h | h <;> omega
      · have := hr _ _ _ _ _ rfl
        omega
    · exact ⟨p, by rw [hobj, if_neg e]; exact hp, fun hr => by rw [upd_ne _ _ e]; exact hq hr⟩

/-! ### Slots -/

theorem InvG.put (h : InvG X ⟨sl, ob⟩ a w γ) {dst : Option Nat} {v : Option AV} {u : Value} (hv : ∀ x, v = some x → SlA w (Bs X ob γ) ob γ x u) : InvG X (St.put ⟨sl, ob⟩ dst v) (a.put dst u) w γ := by
  cases dst with
  | none => exact h
  | some d =>
    refine ⟨h.fr, h.df, by simp [St.put, Act.put]; exact h.sz, h.ob, h.dj, h.fresh, h.pm, fun t x ht => ?_⟩
    simp only [St.put, List.getD_eq_getElem?_getD, List.getElem?_set] at ht
    have hsz := h.sz
    simp only at hsz
    by_cases e : d = t
    · subst e
      by_cases hl : d < sl.length
      · simp [hl] at ht
        have : (a.put (some d) u).tmps.getD d undef = u := by simp [Act.put, hsz ▸ hl]
        rw [this]
        exact hv x ht
      · simp [hl] at ht
    · rw [if_neg e] at ht
      have : (a.put (some d) u).tmps.getD t undef = a.tmps.getD t undef := by simp [Act.put, Array.getElem?_setIfInBounds_ne e]
      rw [this]
      exact h.sl t x (by rw [List.getD_eq_getElem?_getD]; exact ht)

/-! ### What is read -/

theorem InvG.noAlias (h : InvG X ⟨sl, ob⟩ a w γ) {x : SV} {u : Value} (hx : SlS w B ob γ x u) (hn : isAlias x = false) : SVRep w B x u := by
  cases x <;> simp only [SlS] at hx <;> simp [isAlias] at hn <;> exact hx

theorem OwnRow.view {N : Nat} {e : TypeId} {k : Kd} {l : List k.ty} {v : Value} (h : OwnRow w B N e k l v) (hb : ∀ b, B b → B' b) (hv : ∀ b, blk v = some b → B' b) : RepV w B' (.sl k) l v := by
  obtain ⟨flat, ho, hr⟩ := h
  have hr' := hr.mono (R' := RepK w B' k) fun x cs h => h.keep (Keeps.of_sub hb)
  rcases ho.2 with ⟨rfl, hl⟩ | ⟨g, cap, cur, rfl, h1, h2, h3, h4, h5, h6⟩
  · have : l = [] := List.eq_nil_of_length_eq_zero hl
    subst this
    have hfl : flat = [] := hr
    subst hfl
    exact RepV.mk_sl (a := none) (c := 0) (l := []) (Nat.le_refl _) hr' (fun _ => rfl) (fun ad had => by cases had)
  · refine RepV.mk_sl h3 hr' (fun hn => by cases hn) (fun ad had => ?_)
    cases had
    refine ⟨rfl, fun j u hj => ?_, fun _ => hv g rfl⟩
    have hadd : (⟨g, 0, none⟩ : Addr).add j = ⟨g, j, none⟩ := by unfold Addr.add; split <;> simp_all
    rw [hadd]
    simp only [World.cell?, h2]
    rw [← h6, List.getElem?_take] at hj
    split at hj
    · simpa using hj
    · cases hj

theorem BoxAt.view {k : Kd} {x : k.ty} {v : Value} (h : BoxAt w B k x v) (hb : ∀ b, B b → B' b) (hv : ∀ b, blk v = some b → B' b) : RepA w B' k x v := by
  obtain ⟨b, cs, t, rfl, h1, h2⟩ := h
  refine ⟨⟨b, 0, none⟩, cs, rfl, rfl, h2.keep (Keeps.of_sub hb), fun j u hj => ?_, hv b rfl⟩
  have hadd : (⟨b, 0, none⟩ : Addr).add j = ⟨b, j, none⟩ := by unfold Addr.add; split <;> simp_all
  rw [hadd]
  simp only [World.cell?, h1]
  simpa using hj

/-- The plain value of an object, its block let in. -/
theorem InvG.plain (h : InvG X ⟨sl, ob⟩ a w γ) {x y : SV} {u : Value} (hx : SlS w (Bs X ob γ) ob γ x u) (hp : plain ob x = some y) (hb : ∀ b, Bs X ob γ b → B' b)
    (hv : ∀ i o, svHas i x = true → ob.obj i = some o → ∀ b, blk (γ i) = some b → B' b) : SVRep w B' y u := by
  cases x <;> simp only [Go.AI.plain, reduceCtorEq, Option.some.injEq] at hp
  · subst hp; exact RepV.keep (Keeps.of_sub hb) hx
  · subst hp
    rw [show u = _ from hx]
    exact RepV.mk_sl (a := none) (c := 0) (l := []) (flat := []) (Nat.le_refl _) rfl (fun _ => rfl) (fun ad had => by cases had)
  · subst hp; exact RepA.keep (Keeps.of_sub hb) hx
  · rename_i i f
    cases f <;> simp only [reduceCtorEq] at hp
    split at hp
    · rename_i k x z ho
      simp only [Option.some.injEq] at hp
      subst hp
      obtain ⟨_, b, h1, rfl⟩ := hx
      have hob := h.ob _ _ ho
      have := BoxAt.view hob hb (hv i _ (by simp [svHas]) ho)
      rw [h1] at this
      exact this
    · cases hp
  · rename_i i ver
    split at hp
    · rename_i e k l ver' z ho
      split at hp
      · rename_i hver
        subst hver
        simp only [Option.some.injEq] at hp
        subst hp
        have := hx.2 _ _ _ _ ho
        subst this
        exact OwnRow.view (h.ob _ _ ho) hb (hv i _ (by simp [svHas]) ho)
      · cases hp
    · cases hp

/-- Flat data leads nowhere. -/
theorem RepK.flat : ∀ {k : Kd} {x : k.ty} {cs : List Value}, k.flat = true → RepK w B k x cs → RepK w' B' k x cs
  | .int _, _, _, _, h => h
  | .bool, _, _, _, h => h
  | .str, _, _, _, h => h
  | .pr _ _, _, _, hf, ⟨c1, c2, e, h1, h2⟩ => by
    simp only [Kd.flat, Bool.and_eq_true] at hf
    exact ⟨c1, c2, e, h1.flat hf.1, h2.flat hf.2⟩
  | .arr _ _, _, _, hf, ⟨h1, h2⟩ => ⟨h1, h2.mono fun _ _ h => RepK.flat (by simpa [Kd.flat] using hf) h⟩

end Go.AI
end
