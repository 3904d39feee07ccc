/- One operation of the evaluator, one of the model: append, make, closures. -/
import Derived.Test.YtmoodcnoncipiaaAiOps4
set_option autoImplicit false
set_option linter.unusedVariables false
set_option linter.unusedSimpArgs false
namespace Go.AI

variable {C : Cfg} {X : Ctx} {sl : List (Option AV)} {ob ob' : Obs} {a : Act} {w w' : World} {γ γ' : Nat → Value} {B B' : Nat → Prop} {o : Oper} {v : Option AV} {ps : List Prop}

theorem grownBy_refl (w : World) (row : Option Nat) : w.grownBy w row := ⟨rfl, rfl, rfl, Nat.le_refl _, fun _ _ _ => rfl⟩

theorem ownBlock_blk {v : Value} (h : ∃ a n c, v = .slice a n c) : v.ownBlock = blk v := by
  obtain ⟨a, n, c, rfl⟩ := h
  cases a <;> rfl

/-- append, from whatever it begins with; where the row lies then. -/
theorem run_append_any {P : Program} (w : World) (t ty e : TypeId) (i : TypeInfo) (z : Value) (ht : P.underlying t = some (.slice e)) (hi : P.info? e = some i) (hz : i.zero = some z)
    (hzs : z.cells.size = i.size) (hsz : 0 < i.size) (v : Value) (n : Nat) (xs : List Value) (hown : w.ownsRow 0 e i.size v n xs)
    (y : Value) (m : Nat) (news : List Value) (hl : news.length = m * i.size) (hy : ∃ a c, y = .slice a m c ∧ (a = none → m = 0) ∧ ∀ ad, a = some ad → ∀ j u, news[j]? = some u → w.cell? (ad.add j) = some u) (h1 : ∀ u ∈ news, u.oneCell' = true)
    (h63 : n + m ≤ maxLen) (hbytes : (n + m) * i.bytes ≤ 140737488355328) :
    ∃ v' w', (Builtin.append_ #[t, t] ty #[v, y]).run P w = .ok v' w' ∧ w'.ownsRow 0 e i.size v' (n + m) (xs ++ news) ∧ w.grownBy w' v.ownBlock ∧
      (v'.ownBlock = v.ownBlock ∨ ∀ g, v'.ownBlock = some g → w.heap.size ≤ g) := by
  obtain ⟨a, c, rfl, hn, hcell⟩ := hy
  cases a with
  | none =>
    have hm := hn rfl
    subst hm
    have hnews : news = [] := List.eq_nil_of_length_eq_zero (by simpa using hl)
    subst hnews
    refine ⟨v, w, ?_, by simpa using hown, grownBy_refl w _, .inl rfl⟩
    rcases hown.2 with ⟨rfl, rfl⟩ | ⟨g, cap, cur, rfl, _, _, h3, _⟩
    · simp [Builtin.append_, run_underlying ht, Go.sizeOf, typeInfo, hi, Builtin.lenOf, Builtin.firstCells]
    · simp [Builtin.append_, run_underlying ht, Go.sizeOf, typeInfo, hi, Builtin.lenOf, Builtin.firstCells, h3, storeCells]
  | some ad =>
    have hc := hcell ad rfl
    have hsmall : n + m ≤ 9223372036854775807 := by simp only [maxLen] at h63; omega
    have hlen : (xs ++ news).length = (n + m) * i.size := by rw [List.length_append, hown.1, hl, Nat.add_mul]
    have grown : ∀ (old : Nat), old < n + m → ∀ (row : Option Nat),
        (w.drew.alloc (.cells (xs.toArray ++ news.toArray ++ Builtin.zeroCells z.cells (grownCap w (n + m) old e - (n + m))) e)).ownsRow 0 e i.size
          (.slice (some ⟨w.heap.size, 0, none⟩) (n + m) (grownCap w (n + m) old e)) (n + m) (xs ++ news) ∧
        w.grownBy (w.drew.alloc (.cells (xs.toArray ++ news.toArray ++ Builtin.zeroCells z.cells (grownCap w (n + m) old e - (n + m))) e)) row := by
      intro old ho row
      have hge := grownCap_ge w (n + m) old e
      have hcm : grownCap w (n + m) old e ≤ maxLen := grownCap_le_maxLen w (n + m) old e h63
      refine ⟨⟨hlen, .inr ⟨w.heap.size, _, _, rfl, Nat.zero_le _, heap_alloc_new w.drew _, hge, hcm, ?_, ?_⟩⟩, ⟨rfl, rfl, rfl, by simp, fun k hk _ => heap_alloc_old w.drew _ k hk⟩⟩
      · simp only [Array.size_append, List.size_toArray, size_zeroCells, hzs, hown.1, hl, ← Nat.add_mul]
        congr 1
        omega
      · simp only [Array.toList_append, List.append_assoc]
        rw [← List.append_assoc, ← hlen]
        exact List.take_left
    rcases hown.2 with ⟨rfl, rfl⟩ | ⟨g, cap, cur, rfl, hbg, hg, hnc, hcm, hcs, htake⟩
    · have hx : xs = [] := List.eq_nil_of_length_eq_zero (by simpa using hown.1)
      subst hx
      by_cases hm : m = 0
      · subst hm
        have hn : news = [] := List.eq_nil_of_length_eq_zero (by simpa using hl)
        subst hn
        refine ⟨.slice none 0 0, w, ?_, World.ownsRow_nil w 0 e i.size, grownBy_refl w _, .inl rfl⟩
        simp [Builtin.append_, run_underlying ht, Go.sizeOf, typeInfo, hi, Builtin.lenOf, Builtin.firstCells, loadCells, loadCellsFrom]
      · have hr := run_append_nil (P := P) w t ty e i z ht hi hz ad m c news hl hc (by omega) (by omega) (by have hb := hbytes; simp only [Nat.zero_add] at hb; omega)
        have hgr := grown 0 (by omega) (Value.ownBlock (.slice none 0 0))
        simp only [Nat.zero_add, List.nil_append, Array.empty_append] at hgr ⊢
        exact ⟨_, _, hr, hgr.1, hgr.2, .inr fun g hg => by simp [Value.ownBlock] at hg; omega⟩
    · by_cases hroom : n + m ≤ cap
      · have hfit : n * i.size + news.length ≤ cur.size := by rw [hl, hcs, ← Nat.add_mul]; exact Nat.mul_le_mul_right _ hroom
        have hr := run_append_room (P := P) w t ty e i ht hi g n cap cur hg ad m c news hl hc h1 hroom hfit
        refine ⟨_, _, hr, ⟨hlen, .inr ⟨g, cap, _, rfl, hbg, setRow_heap w g cur _ e _ hg, hroom, hcm, ?_, ?_⟩⟩, ⟨rfl, rfl, rfl, by simp, fun k _ hk => setRow_other w g k _ (fun e => hk (by simp [Value.ownBlock, e]))⟩, .inl rfl⟩
        · simp only [List.size_toArray, List.length_append, List.length_take, List.length_drop, Array.length_toList]
          omega
        · rw [htake, ← hlen]
          exact List.take_left
      · have holds : ∀ j u, xs[j]? = some u → w.cell? ((⟨g, 0, none⟩ : Addr).add j) = some u := hown.cells (g := g) rfl
        have hr := run_append_grow (P := P) w t ty e i z ht hi hz ⟨g, 0, none⟩ n cap xs hown.1 holds ad m c news hl hc (by omega) (by omega) (growslice_fits (by omega) hbytes)
        have hgr := grown cap (by omega) (Value.ownBlock (.slice (some ⟨g, 0, none⟩) n cap))
        exact ⟨_, _, hr, hgr.1, hgr.2, .inr fun g' hg' => by simp [Value.ownBlock] at hg'; omega⟩

theorem InvG.rowOf (h : InvG X ⟨sl, ob⟩ a w γ) {x : SV} {u : Value} {k : Kd} {m : List k.ty} (hx : SlS w (Bs X ob γ) ob γ x u) (hp : Go.AI.plain ob x = some (.v (.sl k) m)) :
    ∃ flat, RowsOf (RepK w (Bs X ob γ) k) m flat ∧ ∃ a c, u = .slice a m.length c ∧ (a = none → m.length = 0) ∧ ∀ ad, a = some ad → ∀ j x, flat[j]? = some x → w.cell? (ad.add j) = some x := by
  cases x <;> simp only [Go.AI.plain, reduceCtorEq, Option.some.injEq] at hp
  · rename_i k0 x0
    cases hp
    obtain ⟨a, c, flat, rfl, _, hr, hn, hc⟩ := RepV.sl hx
    exact ⟨flat, hr, a, c, rfl, fun h => by rw [hn h]; rfl, fun ad h => (hc ad h).2.1⟩
  · cases hp
    exact ⟨[], rfl, none, 0, hx, fun _ => rfl, fun ad h => by cases h⟩
  · rename_i i f
    cases f <;> simp only [reduceCtorEq] at hp
    split at hp <;> cases hp
  · rename_i i ver
    split at hp
    · rename_i e k' l ver' z ho
      split at hp
      · rename_i hver
        subst hver
        cases hp
        have hu := hx.2 _ _ _ _ ho
        subst hu
        obtain ⟨flat, hown, hr⟩ := h.ob _ _ ho
        refine ⟨flat, hr, ?_⟩
        rcases hown.2 with ⟨e1, hl⟩ | ⟨g, cap, cur, e1, h1, h2, h3, h4, h5, h6⟩
        · exact ⟨none, 0, by rw [e1, hl], fun _ => hl, fun ad h => by cases h⟩
        · refine ⟨some ⟨g, 0, none⟩, cap, e1, (fun h => by cases h), fun ad had j x hj => ?_⟩
          cases had
          exact hown.cells (g := g) (by rw [e1]; rfl) j x hj
      · cases hp
    · cases hp

theorem goes_append (hC : CfgOK C) (h : InvG X ⟨sl, ob⟩ a w γ) {x y : Operand} {t : TypeId} {d : Nat} (ho : o.op = .call { callee := .builtin .append, args := #[x, y], argTypes := #[t, t] })
    {sx sy : SV} (hx : SlS w (Bs X ob γ) ob γ sx (a.eval x)) (hy : SlS w (Bs X ob γ) ob γ sy (a.eval y)) (he : appendStep C d t sx sy ob = some (v, ob', ps)) (hp : All ps) : Goes C X sl o a w v ob' := by
  have hexec : ∀ v' w', (Builtin.append_ #[t, t] o.type #[a.eval x, a.eval y]).run C.P w = .ok v' w' → (execOp a.eval o).run C.P w = .ok (.value v') w' := fun v' w' hr => by
    simp [execOp, ho, resolve, invoke, builtin, hr]
  have hlim : ∀ (e : TypeId) (k : Kd), C.kd e = some k → ∀ n, n ≤ lim → ∃ i z, C.P.info? e = some i ∧ i.zero = some z ∧ z.cells.size = i.size ∧ i.size = k.n ∧ n ≤ maxLen ∧ n * i.bytes ≤ 140737488355328 := fun e k hk n hn => by
    obtain ⟨i, z, hi, hs, hz, hb, hzr⟩ := (hC.kd _ _ hk).info
    refine ⟨i, z, hi, hz, by rw [(hzr w (fun _ => True)).size, hs], hs, ?_, ?_⟩
    · simp only [lim] at hn; simp only [maxLen]; omega
    · simp only [lim] at hn
      calc n * i.bytes ≤ 2 ^ 40 * 64 := Nat.mul_le_mul hn hb
        _ ≤ 140737488355328 := by decide
  unfold appendStep at he
  split at he
  · rename_i e e' k het
    have hu : a.eval x = .slice none 0 0 := hx
    split at he
    · rename_i q m hpl
      split at he
      · rename_i hq
        subst hq
        simp only [castK_rfl] at he
        split at he
        · rename_i hke
          obtain ⟨rfl, hke⟩ := hke
          split at he
          · rename_i hod
            split at he
            · rename_i hlt
              simp only [Option.some.injEq, Prod.mk.injEq] at he
              obtain ⟨rfl, rfl, rfl⟩ := he
              have hle : List.length m ≤ lim := hp.1
              obtain ⟨i, z, hi, hz, hzs, hs, hm1, hm2⟩ := hlim _ _ hke _ hle
              obtain ⟨flat, hrf, hysl⟩ := h.rowOf hy hpl
              obtain ⟨v', w', hr, hown, hg, hbl⟩ := run_append_any w t o.type _ i z (hC.el _ _ het) hi hz hzs (by rw [hs]; exact k.n_pos) (.slice none 0 0) 0 [] (World.ownsRow_nil w 0 _ _) (a.eval y) (List.length m) flat (by rw [hrf.length, hs]) hysl hrf.one (by omega) (by simpa using hm2)
              have hsh : v'.ownBlock = blk v' := by
                rcases hown.2 with ⟨rfl, _⟩ | ⟨g, cap, cur, rfl, _⟩ <;> rfl
              obtain ⟨h2, K, S⟩ := h.new hod hlt (o := .row e k m 0 false) (v := v') hg (fun b hb => by
                rcases hbl with h1 | h1
                · rw [hsh, hb] at h1; simp [Value.ownBlock] at h1
                · exact h1 b (by rw [hsh]; exact hb)) (fun B' K' => ⟨flat, by simpa [hs] using hown, hrf.mono fun _ _ h => h.keep K'⟩)
              exact Goes.value (hexec v' w' (by rw [hu]; exact hr)) h2 fun y hy => by
                cases hy
                exact ⟨⟨e, k, m, 0, false, by rw [obj_setOb _ _ _ _ hlt, if_pos rfl], Nat.le_refl _⟩, fun e2 k2 l2 z2 hi2 => by rw [upd_same]⟩
            · cases he
          · cases he
        · cases he
      · cases he
    · cases he
  · rename_i e i0 ver het
    split at he
    · rename_i e' k l ver' q m hob hpl
      split at he
      · rename_i hq
        subst hq
        simp only [castK_rfl] at he
        split at he
        · rename_i hh
          obtain ⟨rfl, rfl, hke⟩ := hh
          simp only [Option.some.injEq, Prod.mk.injEq] at he
          obtain ⟨rfl, rfl, rfl⟩ := he
          have hle : l.length + List.length m ≤ lim := hp.1
          obtain ⟨i, z, hi, hz, hzs, hs, hm1, hm2⟩ := hlim _ _ hke _ hle
          have hu := hx.2 _ _ _ _ hob
          obtain ⟨flat0, hown0, hr0⟩ := h.ob _ _ hob
          obtain ⟨flat, hrf, hysl⟩ := h.rowOf hy hpl
          obtain ⟨v', w', hr, hown, hg, hbl⟩ := run_append_any w t o.type _ i z (hC.el _ _ het) hi hz hzs (by rw [hs]; exact k.n_pos) (γ i0) l.length flat0 (by rw [hs]; exact hown0) (a.eval y) (List.length m) flat (by rw [hrf.length, hs]) hysl hrf.one hm1 hm2
          have hsh : v'.ownBlock = blk v' := by
            rcases hown.2 with ⟨rfl, _⟩ | ⟨g, cap, cur, rfl, _⟩ <;> rfl
          have hsh0 : (γ i0).ownBlock = blk (γ i0) := by
            rcases hown0.2 with ⟨e1, _⟩ | ⟨g, cap, cur, e1, _⟩ <;> rw [e1] <;> rfl
          obtain ⟨h2, K, S⟩ := h.mod (w' := w') hob (o' := .row e k (l ++ m) (ver + 1) false) (v := v') rfl (by rw [← hsh0]; exact hg) (by
            rcases hbl with h1 | h1
            · exact .inl (by rw [← hsh, ← hsh0]; exact h1)
            · exact .inr fun b hb => h1 b (by rw [hsh]; exact hb)) (.inr ⟨e, k, l ++ m, ver, false, rfl⟩) (.inl (Nat.lt_succ_self _)) (fun B' K' => ⟨flat0 ++ flat, by simpa [hs] using hown, RowsOf.append (hr0.mono fun _ _ h => h.keep K') (hrf.mono fun _ _ h => h.keep K')⟩)
          exact Goes.value (hexec v' w' (by rw [hu]; exact hr)) h2 fun y hy => by
            cases hy
            exact ⟨⟨e, k, _, ver + 1, false, by rw [obj_setOb _ _ _ _ (obj_lt hob), if_pos rfl], Nat.le_refl _⟩, fun e2 k2 l2 z2 hi2 => by rw [upd_same]⟩
        · cases he
      · cases he
    · cases he
  · cases he

/-- Cells of a zero value, again and again. -/
theorem RowsOf.zeros {k : Kd} {z : Value} (hz : RepV w B k k.z z) (n : Nat) : RowsOf (RepK w B k) (List.replicate n k.z) (madeCells z.cells (n * k.n)).toList := by
  have hs := hz.size
  have hp := k.n_pos
  induction n with
  | zero => simp [RowsOf, madeCells]
  | succ n ih =>
    have : (madeCells z.cells ((n + 1) * k.n)).toList = z.cells.toList ++ (madeCells z.cells (n * k.n)).toList := by
      apply List.ext_getElem?
      intro i
      have e1 : (n + 1) * k.n = k.n + n * k.n := by rw [Nat.add_mul]; omega
      simp only [madeCells, Array.toList_map, Array.toList_range, List.getElem?_map, hs, e1]
      by_cases h1 : i < k.n
      · rw [List.getElem?_append_left (by simpa [hs] using h1), List.getElem?_range (by omega)]
        simp only [Option.map_some, Nat.mod_eq_of_lt h1]
        have : i < z.cells.size := by omega
        simp [getElem!_pos, this]
      · rw [List.getElem?_append_right (by simp [hs]; omega)]
        simp only [Array.length_toList, hs]
        by_cases h2 : i < k.n + n * k.n
        · rw [List.getElem?_range h2, List.getElem?_map, List.getElem?_range (by omega)]
          simp only [Option.map_some]
          rw [Nat.mod_eq_sub_mod (by omega)]
        · rw [List.getElem?_eq_none (by simp; omega), List.getElem?_eq_none (by simp; omega)]
          rfl
    rw [List.replicate_succ, this]
    exact ⟨_, _, rfl, hz.cells, ih⟩

theorem goes_makeSlice (hC : CfgOK C) (h : InvG X ⟨sl, ob⟩ a w γ) {t : TypeId} {n m : Operand} (ho : o.op = .makeSlice t n m) (he : (match C.kd t, C.el t, o.dst, evS (ev C sl) 0 n, evS (ev C sl) 0 m with
    | some (.sl k), some e, some d, some (.v (.int .i64) a), some (.v (.int .i64) b) => if C.kd e = some k then match ob.obj d with
        | none => if d < ob.length then some (some (.s (.osl d 0)), ob.setOb d (some (.row e k (List.replicate a.toNat k.z) 0 false)), [0 ≤ a, a ≤ (lim : Int), b = a]) else none
        | some _ => none
      else none
    | _, _, _, _, _ => none) = some (v, ob', ps)) (hp : All ps) : Goes C X sl o a w v ob' := by
  split at he
  · rename_i k e d x y hk het hd hn hm
    split at he
    · rename_i hke
      split at he
      · rename_i hod
        split at he
        · rename_i hlt
          simp only [Option.some.injEq, Prod.mk.injEq] at he
          obtain ⟨rfl, rfl, rfl⟩ := he
          have h0 : (0 : Int) ≤ x := hp.1
          have h1 : x ≤ (lim : Int) := hp.2.1
          have h2 : y = x := hp.2.2.1
          have en := RepV.int (evS_rep h hn)
          have em := RepV.int (evS_rep h hm)
          obtain ⟨i, z, hi, hs, hz, hb, hzr⟩ := (hC.kd _ _ hke).info
          have hx : ((Int.toNat x : Nat) : Int) = x := Int.toNat_of_nonneg h0
          have hle : Int.toNat x ≤ lim := Int.toNat_le.2 h1
          obtain ⟨w', hr, hown, hg⟩ := run_make_full (P := C.P) w w.heap.size t e i z k.n (hC.el _ _ het) hi hz hs .i64 .i64 (Int.toNat x) (by
            calc i.bytes * Int.toNat x ≤ 64 * 2 ^ 40 := Nat.mul_le_mul hb hle
              _ ≤ 281474976710656 := by decide) (by simp only [lim] at hle; simp only [maxLen]; omega) (Nat.le_refl _)
          rw [hx] at hr
          obtain ⟨h3, K, S⟩ := h.new hod hlt (o := .row e k (List.replicate (Int.toNat x) k.z) 0 false) (v := .slice (some ⟨w.heap.size, 0, none⟩) (Int.toNat x) (Int.toNat x)) hg (fun b hb => by simp [blk] at hb; omega)
            (fun B' K' => ⟨_, by
              refine ⟨by simpa using hown.1, ?_⟩
              rcases hown.2 with ⟨hn, _⟩ | ⟨g, cap, cur, e1, _, r⟩
              · cases hn
              · exact .inr ⟨g, cap, cur, by simpa using e1, Nat.zero_le _, by simpa using r⟩, RowsOf.zeros (hzr _ _) _⟩)
          exact Goes.value (by simp [execOp, ho, en, em, h2, hr]; rfl) h3 fun y hy => by
            cases hy
            exact ⟨⟨e, k, _, 0, false, by rw [obj_setOb _ _ _ _ hlt, if_pos rfl], Nat.le_refl _⟩, fun e2 k2 l2 z2 hi2 => by rw [upd_same]⟩
        · cases he
      · cases he
    · cases he
  · cases he

end Go.AI
