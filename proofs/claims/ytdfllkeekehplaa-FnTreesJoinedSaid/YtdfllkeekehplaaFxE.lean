/- A part of the road: what it proves stands in its last texts. -/
import Derived.Test.YtdfllkeekehplaaDt
import Derived.Test.YtdfllkeekehplaaDc
import Derived.Test.YtdfllkeekehplaaGE
import Derived.Test.YtdfllkeekehplaaGB
import Derived.Test.YtdfllkeekehplaaGA
import Derived.Test.YtdfllkeekehplaaAiH
import Derived.Test.YtdfllkeekehplaaDKc
import Derived.Test.YtdfllkeekehplaaCFt
section
/- The law of TreesJoined. -/
set_option autoImplicit false
set_option maxRecDepth 100000
set_option linter.unusedVariables false
namespace Go.AI
open Go.Proofs

abbrev E1 : ByteArray := (⟨#[]⟩ : ByteArray)

def both (a b : List UInt8) : Bool := isTree a && isTree b

def jtB (a b : List UInt8) : Bool := both a b && decide ((joiT (treeOf a) (treeOf b)).c ≤ 8)
def jtV (a b : List UInt8) : ByteArray := if jtB a b = true then bs (txt (joiT (treeOf a) (treeOf b))) else E1

theorem told_SC (t : Tr) (h : t.c ≤ 2 ^ 20) : SC cfg.P i_impl_told [.s (.v .tree t)] (.tup [.v .str (if t.c ≤ 8 then bs (txt t) else E1), .v .bool (decide (t.c ≤ 8))]) [] := by
  by_cases g : t.c ≤ 8
  · rw [if_pos g, decide_eq_true g]
    exact impl_told_p2 _ _ _ (carets_SC t (by omega)) (by omega) (text_SC t (by omega))
  · rw [if_neg g, decide_eq_false g]
    exact impl_told_p1 _ _ (carets_SC t (by omega)) (by omega)

theorem implJT_SC (a b : List UInt8) (ha : a.length ≤ 2 ^ 40) (hb : b.length ≤ 2 ^ 40) : SC cfg.P i_impl_JoinTrees [.s (.v .str (bs a)), .s (.v .str (bs b))] (.tup [.v .str (jtV a b), .v .bool (jtB a b)]) [] := by
  have h1 := parse_SC a ha
  have h2 := parse_SC b hb
  unfold jtV jtB both
  cases t1 : isTree a with
  | false => rw [t1] at h1; exact impl_JoinTrees_p3 _ _ _ _ _ h1 h2
  | true =>
    rw [t1] at h1
    cases t2 : isTree b with
    | false => rw [t2] at h2; exact impl_JoinTrees_p2 _ _ _ _ h1 h2
    | true =>
      rw [t2] at h2
      have c1 := (treeOf_txt t1).2
      have c2 := (treeOf_txt t2).2
      have hc := joiT_c (treeOf a) (treeOf b)
      have ht := told_SC (joiT (treeOf a) (treeOf b)) (by omega)
      have e : (if (true && true && decide ((joiT (treeOf a) (treeOf b)).c ≤ 8)) = true then bs (txt (joiT (treeOf a) (treeOf b))) else E1) = if (joiT (treeOf a) (treeOf b)).c ≤ 8 then bs (txt (joiT (treeOf a) (treeOf b))) else E1 := by simp
      rw [e]
      exact impl_JoinTrees_p1 _ _ _ _ _ _ _ h1 h2 (join_SC _ _) ht

theorem specJT_SC (a b : List UInt8) (ha : a.length ≤ 2 ^ 40) (hb : b.length ≤ 2 ^ 40) : SC cfg.P i_spec_JoinTrees [.s (.v .str (bs a)), .s (.v .str (bs b))] (.tup [.v .str (jtV a b), .v .bool (jtB a b)]) [] := by
  have h1 := trIs_SC a ha
  have h2 := trIs_SC b hb
  unfold jtV jtB both
  cases t1 : isTree a with
  | false => rw [t1] at h1; exact spec_JoinTrees_p4 _ _ h1
  | true =>
    rw [t1] at h1
    cases t2 : isTree b with
    | false => rw [t2] at h2; exact spec_JoinTrees_p3 _ _ h1 h2
    | true =>
      rw [t2] at h2
      obtain ⟨e1, c1⟩ := treeOf_txt t1
      obtain ⟨e2, c2⟩ := treeOf_txt t2
      have hc := joiT_c (treeOf a) (treeOf b)
      have hj := trJoin_SC (treeOf a) (treeOf b) (by omega) (by omega)
      rw [← e1, ← e2] at hj
      have lt := txt_len (joiT (treeOf a) (treeOf b))
      have hk := trCarets_SC (txt (joiT (treeOf a) (treeOf b))) (by omega)
      rw [txt_count] at hk
      by_cases g : (joiT (treeOf a) (treeOf b)).c ≤ 8
      · rw [decide_eq_true g]
        exact spec_JoinTrees_p2 _ _ _ _ h1 h2 hj hk (by omega)
      · rw [decide_eq_false g]
        exact spec_JoinTrees_p1 _ _ _ _ h1 h2 hj hk (by omega)

def coV (a b : List UInt8) : ByteArray := if both a b = true then bs (txt (comT (treeOf a) (treeOf b))) else E1

theorem implCo_SC (a b : List UInt8) (ha : a.length ≤ 2 ^ 40) (hb : b.length ≤ 2 ^ 40) : SC cfg.P i_impl_CommonTree [.s (.v .str (bs a)), .s (.v .str (bs b))] (.tup [.v .str (coV a b), .v .bool (both a b)]) [] := by
  have h1 := parse_SC a ha
  have h2 := parse_SC b hb
  unfold coV both
  cases t1 : isTree a with
  | false => rw [t1] at h1; exact impl_CommonTree_p3 _ _ _ _ _ h1 h2
  | true =>
    rw [t1] at h1
    cases t2 : isTree b with
    | false => rw [t2] at h2; exact impl_CommonTree_p2 _ _ _ _ h1 h2
    | true =>
      rw [t2] at h2
      have c1 := (treeOf_txt t1).2
      have hc := comT_c (treeOf a) (treeOf b)
      exact impl_CommonTree_p1 _ _ _ _ _ _ h1 h2 (common_SC _ _) (text_SC _ (by omega))

theorem specCo_SC (a b : List UInt8) (ha : a.length ≤ 2 ^ 40) (hb : b.length ≤ 2 ^ 40) : SC cfg.P i_spec_CommonTree [.s (.v .str (bs a)), .s (.v .str (bs b))] (.tup [.v .str (coV a b), .v .bool (both a b)]) [] := by
  have h1 := trIs_SC a ha
  have h2 := trIs_SC b hb
  unfold coV both
  cases t1 : isTree a with
  | false => rw [t1] at h1; exact spec_CommonTree_p3 _ _ h1
  | true =>
    rw [t1] at h1
    cases t2 : isTree b with
    | false => rw [t2] at h2; exact spec_CommonTree_p2 _ _ h1 h2
    | true =>
      rw [t2] at h2
      obtain ⟨e1, c1⟩ := treeOf_txt t1
      obtain ⟨e2, c2⟩ := treeOf_txt t2
      have hj := trCommon_SC (treeOf a) (treeOf b) (by omega) (by omega)
      rw [← e1, ← e2] at hj
      exact spec_CommonTree_p1 _ _ _ h1 h2 hj

def ipV (a b : List UInt8) : Bool := both a b && partB (treeOf a) (treeOf b)

theorem implIp_SC (a b : List UInt8) (ha : a.length ≤ 2 ^ 40) (hb : b.length ≤ 2 ^ 40) : SC cfg.P i_impl_IsPartOf [.s (.v .str (bs a)), .s (.v .str (bs b))] (.tup [.v .bool (ipV a b), .v .bool (both a b)]) [] := by
  have h1 := parse_SC a ha
  have h2 := parse_SC b hb
  unfold ipV both
  cases t1 : isTree a with
  | false => rw [t1] at h1; exact impl_IsPartOf_p3 _ _ _ _ _ h1 h2
  | true =>
    rw [t1] at h1
    cases t2 : isTree b with
    | false => rw [t2] at h2; exact impl_IsPartOf_p2 _ _ _ _ h1 h2
    | true => rw [t2] at h2; exact impl_IsPartOf_p1 _ _ _ _ _ h1 h2 (isPart_SC _ _)

theorem specIp_SC (a b : List UInt8) (ha : a.length ≤ 2 ^ 40) (hb : b.length ≤ 2 ^ 40) : SC cfg.P i_spec_IsPartOf [.s (.v .str (bs a)), .s (.v .str (bs b))] (.tup [.v .bool (ipV a b), .v .bool (both a b)]) [] := by
  have h1 := trIs_SC a ha
  have h2 := trIs_SC b hb
  unfold ipV both
  cases t1 : isTree a with
  | false => rw [t1] at h1; exact spec_IsPartOf_p4 _ _ h1
  | true =>
    rw [t1] at h1
    cases t2 : isTree b with
    | false => rw [t2] at h2; exact spec_IsPartOf_p3 _ _ h1 h2
    | true =>
      rw [t2] at h2
      obtain ⟨e1, c1⟩ := treeOf_txt t1
      obtain ⟨e2, c2⟩ := treeOf_txt t2
      have hj := trCommon_SC (treeOf a) (treeOf b) (by omega) (by omega)
      rw [← e1, ← e2] at hj
      have hiff : bs (txt (comT (treeOf a) (treeOf b))) = bs a ↔ partB (treeOf a) (treeOf b) = true := by
        rw [← com_eq, bs_inj]
        constructor
        · intro e
          exact (txt_inj _ _ [] [] (by rw [List.append_nil, List.append_nil]; exact e.trans e1)).1
        · intro e
          rw [e, ← e1]
      cases g : partB (treeOf a) (treeOf b) with
      | true => exact spec_IsPartOf_p1 _ _ _ h1 h2 hj (hiff.2 g)
      | false => exact spec_IsPartOf_p2 _ _ _ h1 h2 hj (fun e => by rw [hiff.1 e] at g; cases g)

end Go.AI
end

section
/- Subtrees and grafts; the draws of TreesJoined. -/
set_option autoImplicit false
set_option maxRecDepth 100000
set_option linter.unusedVariables false
namespace Go.AI
open Go.Proofs

theorem atF_len : ∀ (t : Tr) (l : List UInt8) (u : Tr), atF t l = some u → l.length ≤ t.c
  | t, [], u, h => Nat.zero_le _
  | .leaf, _ :: _, u, h => by cases h
  | .node a b, c :: cs, u, h => by
    rw [atF] at h
    simp only [List.length_cons, Tr.c]
    split at h
    · have := atF_len a cs u h; omega
    · split at h
      · have := atF_len b cs u h; omega
      · cases h

def suB (a p : List UInt8) : Bool := isTree a && atB (treeOf a) p
def suV (a p : List UInt8) : ByteArray := if suB a p = true then bs (txt ((atF (treeOf a) p).getD .leaf)) else E1

theorem implSu_SC (a p : List UInt8) (ha : a.length ≤ 2 ^ 40) (hp : p.length ≤ 2 ^ 20) : SC cfg.P i_impl_SubtreeAt [.s (.v .str (bs a)), .s (.v .str (bs p))] (.tup [.v .str (suV a p), .v .bool (suB a p)]) [] := by
  have h1 := parse_SC a ha
  unfold suV suB
  cases t1 : isTree a with
  | false => rw [t1] at h1; exact impl_SubtreeAt_p3 _ _ _ h1
  | true =>
    rw [t1] at h1
    have c1 := (treeOf_txt t1).2
    have h2 := nodeAt_SC (treeOf a) p (by omega)
    cases g : atF (treeOf a) p with
    | none =>
      have e : atB (treeOf a) p = false := by unfold atB; rw [g]; rfl
      rw [e, g] at h2
      rw [e]
      exact impl_SubtreeAt_p2 _ _ _ _ h1 h2
    | some u =>
      have e : atB (treeOf a) p = true := by unfold atB; rw [g]; rfl
      rw [e, g] at h2
      rw [e]
      have := atF_c _ _ _ g
      exact impl_SubtreeAt_p1 _ _ _ _ _ h1 h2 (text_SC u (by omega))

theorem specSu_SC (a p : List UInt8) (ha : a.length ≤ 2 ^ 40) (hp : p.length ≤ 2 ^ 20) : SC cfg.P i_spec_SubtreeAt [.s (.v .str (bs a)), .s (.v .str (bs p))] (.tup [.v .str (suV a p), .v .bool (suB a p)]) [] := by
  have h1 := trIs_SC a ha
  unfold suV suB
  cases t1 : isTree a with
  | false => rw [t1] at h1; exact spec_SubtreeAt_p3 _ _ h1
  | true =>
    rw [t1] at h1
    obtain ⟨e1, c1⟩ := treeOf_txt t1
    by_cases h8 : p.length ≤ 8
    · obtain ⟨k1, k2⟩ := trAt_L p (by omega) _ 0 (treeOf a) rfl (by omega) (by omega)
      rw [List.drop_zero, ← e1] at k1 k2
      cases g : atF (treeOf a) p with
      | none =>
        have e : atB (treeOf a) p = false := by unfold atB; rw [g]; rfl
        rw [e]
        exact spec_SubtreeAt_p2 _ _ _ _ h1 (by rw [bs_size]; omega) (spec_trAt_p1 _ _ _ _ (k2 g))
      | some u =>
        have e : atB (treeOf a) p = true := by unfold atB; rw [g]; rfl
        rw [e]
        exact spec_SubtreeAt_p2 _ _ _ _ h1 (by rw [bs_size]; omega) (spec_trAt_p2 _ _ _ _ _ _ (k1 u g))
    · have e : atB (treeOf a) p = false := by
        unfold atB
        cases g : atF (treeOf a) p with
        | none => rfl
        | some u => have := atF_len _ _ _ g; omega
      rw [e]
      exact spec_SubtreeAt_p1 _ _ h1 (by rw [bs_size]; omega)

end Go.AI
end

section
/- Grafts, draws; the law of TreesJoined. -/
set_option autoImplicit false
set_option maxRecDepth 100000
set_option linter.unusedVariables false
namespace Go.AI
open Go.Proofs

theorem treeOf_self {t : Tr} (h : t.c ≤ 8) : isTree (txt t) = true ∧ treeOf (txt t) = t := by
  have h1 : isTree (txt t) = true := by rw [isTree_txt, decide_eq_true h]
  refine ⟨h1, ?_⟩
  have e := (treeOf_txt h1).1
  exact (txt_inj _ _ [] [] (by rw [List.append_nil, List.append_nil]; exact e.symm)).1

def grQ (a : List UInt8) (k : Int) (b : List UInt8) : Bool := both a b && decide (0 ≤ k ∧ k ≤ ((treeOf a).c : Int))
def grB (a : List UInt8) (k : Int) (b : List UInt8) : Bool := grQ a k b && decide ((treeOf a).c + (treeOf b).c ≤ 8)
def grV (a : List UInt8) (k : Int) (b : List UInt8) : ByteArray := if grB a k b = true then bs (txt (grf (treeOf a) k.toNat (treeOf b))) else E1

theorem implGr_SC (a : List UInt8) (k : Int) (b : List UInt8) (ha : a.length ≤ 2 ^ 40) (hb : b.length ≤ 2 ^ 40) :
    SC cfg.P i_impl_GraftAt [.s (.v .str (bs a)), .s (.v (.int .i64) k), .s (.v .str (bs b))] (.tup [.v .str (grV a k b), .v .bool (grB a k b)]) [] := by
  have h1 := parse_SC a ha
  have h2 := parse_SC b hb
  unfold grV grB grQ both
  cases t1 : isTree a with
  | false => rw [t1] at h1; exact impl_GraftAt_p4 _ _ _ _ _ _ h1 h2
  | true =>
    rw [t1] at h1
    cases t2 : isTree b with
    | false => rw [t2] at h2; exact impl_GraftAt_p3 _ _ _ _ _ h1 h2
    | true =>
      rw [t2] at h2
      have c1 := (treeOf_txt t1).2
      have c2 := (treeOf_txt t2).2
      have hl := leaves_SC (treeOf a) (by omega)
      by_cases g : 0 ≤ k ∧ k ≤ ((treeOf a).c : Int)
      · rw [decide_eq_true g]
        obtain ⟨m, rfl⟩ : ∃ m : Nat, k = (m : Int) := ⟨k.toNat, by omega⟩
        have hh : SC cfg.P i_impl_hasLeaf [.s (.v .tree (treeOf a)), .s (.v (.int .i64) (m : Int))] (.s (.v .bool true)) [] := impl_hasLeaf_p1 _ _ _ (by omega) hl (by omega)
        have hg := graftN_SC (treeOf a) m (treeOf b) (by omega) (by omega)
        have hc := grf_c (treeOf a) m (treeOf b) (by omega)
        have ht := told_SC (grf (treeOf a) m (treeOf b)) (by omega)
        rw [hc] at ht
        have e : (if (true && true && true && decide ((treeOf a).c + (treeOf b).c ≤ 8)) = true then bs (txt (grf (treeOf a) ((m : Int)).toNat (treeOf b))) else E1) = if (treeOf a).c + (treeOf b).c ≤ 8 then bs (txt (grf (treeOf a) m (treeOf b))) else E1 := by simp
        rw [e]
        exact impl_GraftAt_p1 _ _ _ _ _ _ _ _ h1 h2 hh hg ht
      · rw [decide_eq_false g]
        refine impl_GraftAt_p2 _ _ _ _ _ h1 h2 ?_
        by_cases g0 : k ≥ 0
        · exact impl_hasLeaf_p2 _ _ _ g0 hl (by omega)
        · exact impl_hasLeaf_p3 _ _ g0

theorem specGr_SC (a : List UInt8) (k : Int) (b : List UInt8) (ha : a.length ≤ 2 ^ 40) (hb : b.length ≤ 2 ^ 40) :
    SC cfg.P i_spec_GraftAt [.s (.v .str (bs a)), .s (.v (.int .i64) k), .s (.v .str (bs b))] (.tup [.v .str (grV a k b), .v .bool (grB a k b)]) [] := by
  have h1 := trIs_SC a ha
  have h2 := trIs_SC b hb
  unfold grV grB grQ both
  cases t1 : isTree a with
  | false => rw [t1] at h1; exact spec_GraftAt_p4 _ _ _ (spec_trLeaves_p2 _ _ h1)
  | true =>
    rw [t1] at h1
    obtain ⟨e1, c1⟩ := treeOf_txt t1
    have k1 := trCarets_SC a ha
    have ec : a.count 40 = (treeOf a).c := by rw [← txt_count, ← e1]
    rw [ec] at k1
    by_cases g : 0 ≤ k ∧ k ≤ ((treeOf a).c : Int)
    · rw [decide_eq_true g]
      have hL := spec_trLeaves_p1 _ _ _ _ h1 k1 (spec_l1In_p1 k 0 _ g.1 g.2)
      cases t2 : isTree b with
      | false => rw [t2] at h2; exact spec_GraftAt_p3 _ _ _ hL h2
      | true =>
        rw [t2] at h2
        obtain ⟨e2, c2⟩ := treeOf_txt t2
        have k2 := trCarets_SC b hb
        have ec2 : b.count 40 = (treeOf b).c := by rw [← txt_count, ← e2]
        rw [ec2] at k2
        have w : IntKind.wrap .i64 (((treeOf a).c : Int) + ((treeOf b).c : Int)) = (((treeOf a).c + (treeOf b).c : Nat) : Int) := by rw [w64] <;> omega
        obtain ⟨m, rfl⟩ : ∃ m : Nat, k = (m : Int) := ⟨k.toNat, by omega⟩
        by_cases g8 : (treeOf a).c + (treeOf b).c ≤ 8
        · rw [decide_eq_true g8]
          have hg := trGraft_SC (treeOf a) m (treeOf b) (by omega) (by omega) (by omega)
          rw [← e1, ← e2] at hg
          exact spec_GraftAt_p2 _ _ _ _ _ _ hL h2 k1 k2 (by rw [w]; omega) hg
        · rw [decide_eq_false g8]
          exact spec_GraftAt_p1 _ _ _ _ _ hL h2 k1 k2 (by rw [w]; omega)
    · rw [decide_eq_false g]
      have hL : SC cfg.P i_spec_trLeaves [.s (.v .str (bs a)), .s (.v (.int .i64) k)] (.s (.v .bool false)) [] := by
        by_cases g0 : k ≥ 0
        · exact spec_trLeaves_p1 _ _ _ _ h1 k1 (spec_l1In_p2 k 0 _ g0 (by omega))
        · exact spec_trLeaves_p1 _ _ _ _ h1 k1 (spec_l1In_p3 k 0 _ g0)
      have e : (true && isTree b && false && decide ((treeOf a).c + (treeOf b).c ≤ 8)) = false := by cases isTree b <;> rfl
      rw [e]
      exact spec_GraftAt_p4 _ _ _ hL

end Go.AI
end

section
/- The draws and the law of TreesJoined. -/
set_option autoImplicit false
set_option maxRecDepth 100000
set_option linter.unusedVariables false
namespace Go.AI
open Go.Proofs

theorem treeD_SC {n : Nat} {c : Cur} (h : CurOk n c) (hn : n ≤ 2 ^ 30) (k : Nat) (hk : k ≤ 100) : ∃ (t : List UInt8) (c' : Cur), t.length ≤ 2 ^ 10 ∧ CurOk (n + 1000) c' ∧ SC cfg.P i_spec_l1Cur_tree [.s (.mbx CurK c), .s (.v (.int .i64) (k : Int))] (.s (.v .str (bs t))) [.box CurK c'] := by
  obtain ⟨t, c', h1, h2, h3⟩ := tree_SC h hn k hk
  obtain ⟨t, rfl⟩ := bs_ex t
  exact ⟨t, c', h1, h2, h3⟩

theorem drawJT_SC {l : List Int} (h : Bytes l) (hl : l.length ≤ 2 ^ 40) : ∃ a b : List UInt8, a.length ≤ 2 ^ 10 ∧ b.length ≤ 2 ^ 10 ∧ SC cfg.P i_spec_DrawJoinTrees [.s (.v (.sl (.int .u8)) l)] (.tup [.v .str (bs a), .v .str (bs b)]) [] := by
  obtain ⟨a, c1, ha, h1, s1⟩ := treeD_SC (cur0 h hl) (by omega) 6 (by decide)
  obtain ⟨b, c2, hb, h2, s2⟩ := treeD_SC h1 (by omega) 6 (by decide)
  exact ⟨a, b, ha, hb, spec_DrawJoinTrees_p1 _ _ _ _ _ s1 s2⟩

theorem drawGr_SC {l : List Int} (h : Bytes l) (hl : l.length ≤ 2 ^ 40) : ∃ (a : List UInt8) (k : Int) (b : List UInt8), a.length ≤ 2 ^ 10 ∧ b.length ≤ 2 ^ 10 ∧ SC cfg.P i_spec_DrawGraftAt [.s (.v (.sl (.int .u8)) l)] (.tup [.v .str (bs a), .v (.int .i64) k, .v .str (bs b)]) [] := by
  obtain ⟨a, c1, ha, h1, s1⟩ := treeD_SC (cur0 h hl) (by omega) 5 (by decide)
  have hk := trCarets_SC a (by omega)
  have hc : a.count 40 ≤ a.length := List.count_le_length
  have w : IntKind.wrap .i64 (((a.count 40 : Nat) : Int) + 3) = ((a.count 40 + 3 : Nat) : Int) := by rw [w64] <;> omega
  obtain ⟨r, c2, hr, h2, s2⟩ := pick_SC h1 (by omega) (IntKind.wrap .i64 (((a.count 40 : Nat) : Int) + 3)) (by rw [w]; omega)
  obtain ⟨b, c3, hb, h3, s3⟩ := treeD_SC h2 (by omega) 4 (by decide)
  exact ⟨a, _, b, ha, hb, spec_DrawGraftAt_p1 _ _ _ _ _ _ _ _ s1 hk s2 s3⟩

def addrs : List ByteArray := [(⟨#[]⟩ : ByteArray), (⟨#[48]⟩ : ByteArray), (⟨#[49]⟩ : ByteArray), (⟨#[48, 48]⟩ : ByteArray), (⟨#[49, 48]⟩ : ByteArray), (⟨#[50]⟩ : ByteArray), (⟨#[48, 120]⟩ : ByteArray), (⟨#[48, 48, 48, 48, 48, 48, 48, 48, 48, 48]⟩ : ByteArray)]

theorem addrs_len : ∀ x ∈ addrs, x.size ≤ 10 := by decide

theorem drawSu_SC {l : List Int} (h : Bytes l) (hl : l.length ≤ 2 ^ 40) : ∃ a p : List UInt8, a.length ≤ 2 ^ 10 ∧ p.length ≤ 2 ^ 10 ∧ SC cfg.P i_spec_DrawSubtreeAt [.s (.v (.sl (.int .u8)) l)] (.tup [.v .str (bs a), .v .str (bs p)]) [] := by
  obtain ⟨a, c1, ha, h1, s1⟩ := treeD_SC (cur0 h hl) (by omega) 7 (by decide)
  have ht := trIs_SC a (by omega)
  cases t : isTree a with
  | false =>
    rw [t] at ht
    obtain ⟨s, c2, hs, h2, s2⟩ := of_SC h1 (by omega) addrs (by decide) (by decide)
    have hlen := addrs_len s hs
    obtain ⟨p, rfl⟩ := bs_ex s
    rw [bs_size] at hlen
    exact ⟨a, p, ha, by omega, spec_DrawSubtreeAt_p3 _ _ _ _ _ s1 ht s2⟩
  | true =>
    rw [t] at ht
    obtain ⟨e1, hc⟩ := treeOf_txt t
    obtain ⟨b, c2, h2, s2⟩ := one_SC h1 (by omega) 5 (by decide)
    cases b with
    | true =>
      obtain ⟨s, c3, hs, h3, s3⟩ := of_SC h2 (by omega) addrs (by decide) (by decide)
      have hlen := addrs_len s hs
      obtain ⟨p, rfl⟩ := bs_ex s
      rw [bs_size] at hlen
      exact ⟨a, p, ha, by omega, spec_DrawSubtreeAt_p1 _ _ _ _ _ _ s1 ht s2 s3⟩
    | false =>
      have ad := trAddresses_SC (treeOf a) [] (by omega) (by simp; omega)
      rw [← e1] at ad
      have la := adL_len (treeOf a) []
      have ls : List.length (strs' (adL (treeOf a) [])) = (treeOf a).c + 1 := by rw [List.length_map, la]
      obtain ⟨r, c3, hr, h3, s3⟩ := pick_SC h2 (by omega) ((List.length (strs' (adL (treeOf a) [])) : Nat) : Int) (by omega)
      have hr2 : r < (adL (treeOf a) []).length := by omega
      have hg := strs_get (adL (treeOf a) []) r hr2
      have hal := adL_bound (treeOf a) [] _ (List.getElem_mem hr2)
      simp only [List.length_nil, Nat.zero_add] at hal
      have w : IntKind.wrap .i64 (((bs (adL (treeOf a) [])[r]).size : Int) + 1) = (((adL (treeOf a) [])[r].length + 1 : Nat) : Int) := by rw [bs_size, w64] <;> omega
      obtain ⟨q, c4, hq, h4, s4⟩ := pick_SC h3 (by omega) (IntKind.wrap .i64 (((bs (adL (treeOf a) [])[r]).size : Int) + 1)) (by rw [w]; omega)
      rw [w] at hq
      have st := spec_DrawSubtreeAt_p2 l _ _ _ _ _ _ _ _ s1 ht s2 ad s3 (by omega) (by omega) (by rw [Int.toNat_natCast]; omega) (by rw [hg]; exact s4) (by omega) (by rw [hg, bs_size]; omega)
      rw [hg, bs_extract] at st
      exact ⟨a, _, ha, by rw [List.length_take, List.length_drop]; omega, st⟩

end Go.AI
end

section
/- The law of TreesJoined. -/
set_option autoImplicit false
set_option maxRecDepth 100000
set_option linter.unusedVariables false
namespace Go.AI
open Go.Proofs

theorem drawIp_L (a : ByteArray) : ∀ (m : Nat) (t : Tr) (n : Nat) (c : Cur), m ≤ 10 → t.c + m ≤ 30 → n + 2 * m ≤ 2 ^ 30 → CurOk n c →
    ∃ (t' : Tr) (c' : Cur), t'.c ≤ 30 ∧ LoopSC cfg.P 1 (lb P_spec_DrawIsPartOf 0) (spec_DrawIsPartOf_L0a a (bs (txt t)) (m : Int) c) (.exit 0) (spec_DrawIsPartOf_L0X1 a (bs (txt t')) 0 false c')
  | 0, t, n, c, hm, ht, hn, h => ⟨t, c, by omega, spec_DrawIsPartOf_L0a_x2 _ _ _ _ (by omega)⟩
  | m + 1, t, n, c, hm, ht, hn, h => by
    have lt := txt_len t
    have hk := trCarets_SC (txt t) (by omega)
    rw [txt_count] at hk
    have w := wrap_succ (i := t.c) (by omega)
    have w1 : IntKind.wrap .i64 (((m + 1 : Nat) : Int) - 1) = (m : Int) := by rw [w64] <;> omega
    obtain ⟨r, c1, hr, h1, s1⟩ := pick_SC h (by omega) (IntKind.wrap .i64 ((t.c : Int) + 1)) (by rw [w]; omega)
    rw [w] at hr
    have hg := trGraft_SC t r (.node .leaf .leaf) (by omega) (by omega) (by decide)
    have hc := grf_c t r (.node .leaf .leaf) (by omega)
    have hcr : (Tr.node .leaf .leaf).c = 1 := rfl
    obtain ⟨t', c', k1, k2⟩ := drawIp_L a m (grf t r (.node .leaf .leaf)) (n + 2) c1 (by omega) (by omega) (by omega) h1
    rw [← w1] at k2
    exact ⟨t', c', k1, spec_DrawIsPartOf_L0a_i1 _ _ _ _ _ _ _ _ (by omega) hk s1 hg k2⟩

theorem drawIp_SC {l : List Int} (h : Bytes l) (hl : l.length ≤ 2 ^ 40) : ∃ a b : List UInt8, a.length ≤ 2 ^ 10 ∧ b.length ≤ 2 ^ 10 ∧ SC cfg.P i_spec_DrawIsPartOf [.s (.v (.sl (.int .u8)) l)] (.tup [.v .str (bs a), .v .str (bs b)]) [] := by
  obtain ⟨a, c1, ha, h1, s1⟩ := treeD_SC (cur0 h hl) (by omega) 4 (by decide)
  have ht := trIs_SC a (by omega)
  cases t : isTree a with
  | false =>
    rw [t] at ht
    obtain ⟨b, c2, hb, h2, s2⟩ := treeD_SC h1 (by omega) 6 (by decide)
    exact ⟨a, b, ha, hb, spec_DrawIsPartOf_p3 _ _ _ _ _ s1 ht s2⟩
  | true =>
    rw [t] at ht
    obtain ⟨e1, hc⟩ := treeOf_txt t
    obtain ⟨q, c2, h2, s2⟩ := one_SC h1 (by omega) 3 (by decide)
    cases q with
    | true =>
      obtain ⟨b, c3, hb, h3, s3⟩ := treeD_SC h2 (by omega) 6 (by decide)
      exact ⟨a, b, ha, hb, spec_DrawIsPartOf_p1 _ _ _ _ _ _ s1 ht s2 s3⟩
    | false =>
      obtain ⟨r, c3, hr, h3, s3⟩ := pick_SC h2 (by omega) 4 (by decide)
      obtain ⟨t', c', k1, k2⟩ := drawIp_L (bs a) r (treeOf a) _ c3 (by omega) (by omega) (by omega) h3
      rw [← e1] at k2
      have lt := txt_len t'
      exact ⟨a, txt t', ha, by omega, spec_DrawIsPartOf_p2 _ _ _ _ _ _ _ _ _ _ _ s1 ht s2 s3 k2⟩

end Go.AI
end

section
/- The law of TreesJoined: the cases. -/
set_option autoImplicit false
set_option maxRecDepth 100000
set_option linter.unusedVariables false
namespace Go.AI
open Go.Proofs

abbrev RTj (k : Nat) (s : St) : Prop := RestSC cfg.P 2 (rest P_laws_FnTreesJoined k) s .ret (laws_FnTreesJoined_R1 true)

theorem tj29 (g : List UInt8) (k : Int) (o : List UInt8) (hg : g.length ≤ 2 ^ 10) (ho : o.length ≤ 2 ^ 10) : RTj 29 (laws_FnTreesJoined_C29a (bs g) k (bs o) (grV g k o) (grB g k o) false) := by
  cases e : grB g k o with
  | false => exact laws_FnTreesJoined_C29a_i2 _ _ _ _ _ (laws_FnTreesJoined_C31a_x1 _ _ _ _ _)
  | true =>
    have e2 := e
    unfold grB grQ both at e2
    simp only [Bool.and_eq_true, decide_eq_true_eq] at e2
    obtain ⟨⟨⟨t1, t2⟩, hk⟩, h8⟩ := e2
    obtain ⟨m, rfl⟩ : ∃ m : Nat, k = (m : Int) := ⟨k.toNat, by omega⟩
    have hV : grV g (m : Int) o = bs (txt (grf (treeOf g) m (treeOf o))) := by unfold grV; rw [if_pos e, Int.toNat_natCast]
    have hpg := parse_SC g (by omega)
    rw [t1] at hpg
    have hc1 := (treeOf_txt t1).2
    have eo := (treeOf_txt t2).1
    have hA := impl_AddressesOf_p1 _ _ _ hpg (addresses_SC (treeOf g) [] (by omega) (by simp; omega))
    have la := adL_len (treeOf g) []
    have ls : List.length (strs' (adL (treeOf g) [])) = (treeOf g).c + 1 := by rw [List.length_map, la]
    have hm : m < (adL (treeOf g) []).length := by omega
    have hgt := strs_get (adL (treeOf g) []) m hm
    have had : (adL (treeOf g) [])[m] = adr (treeOf g) m := by
      have := adL_get (treeOf g) [] m (by omega)
      rw [List.getD_eq_getElem?_getD, List.getElem?_eq_getElem hm] at this
      exact this
    rw [had] at hgt
    have hcg := grf_c (treeOf g) m (treeOf o) (by omega)
    obtain ⟨q1, q2⟩ := treeOf_self (t := grf (treeOf g) m (treeOf o)) (by omega)
    have hl := txt_len (grf (treeOf g) m (treeOf o))
    have hal : (adr (treeOf g) m).length ≤ 2 ^ 20 := by
      rw [← had]
      have := adL_bound (treeOf g) [] _ (List.getElem_mem hm)
      simp at this; omega
    have hS := implSu_SC (txt (grf (treeOf g) m (treeOf o))) (adr (treeOf g) m) (by omega) hal
    have hat := at_grf (treeOf g) m (treeOf o) (by omega)
    have hB : suB (txt (grf (treeOf g) m (treeOf o))) (adr (treeOf g) m) = true := by unfold suB atB; rw [q1, q2, hat]; rfl
    have hW : suV (txt (grf (treeOf g) m (treeOf o))) (adr (treeOf g) m) = bs o := by
      unfold suV
      rw [if_pos hB, q2, hat, Option.getD_some, ← eo]
    rw [hB, hW, ← hgt] at hS
    rw [hV]
    exact laws_FnTreesJoined_C29a_x1 _ _ _ _ _ _ _ hA (by omega) (by omega) (by rw [Int.toNat_natCast]; omega) hS rfl

section
variable {la lb : List Int} (h1 : Bytes la) (h2 : Bytes lb) (l1 : la.length ≤ 2 ^ 40) (l2 : lb.length ≤ 2 ^ 40)
include h1 h2 l1 l2

theorem tj21 : (∀ x, RTj 21 (laws_FnTreesJoined_C21a la lb x)) ∧ ∀ x33 x34 x35 x254, RTj 21 (laws_FnTreesJoined_C21b la lb x33 x34 x35 x254) := by
  obtain ⟨s, p, hs, hp, sS⟩ := drawSu_SC h2 l2
  obtain ⟨g, k, o, hg, ho, sG⟩ := drawGr_SC h1 l1
  have a1 := implSu_SC s p (by omega) (by omega)
  have a2 := specSu_SC s p (by omega) (by omega)
  have a3 := implGr_SC g k o (by omega) (by omega)
  have a4 := specGr_SC g k o (by omega) (by omega)
  have hE := tj29 g k o hg ho
  exact ⟨fun x => laws_FnTreesJoined_C21a_i1 _ _ _ _ _ _ _ _ _ _ _ _ _ _ _ _ sS a1 a2 sG a3 a4 (by simp) rfl (by simp) rfl hE,
    fun x33 x34 x35 x254 => laws_FnTreesJoined_C21b_i1 _ _ _ _ _ _ _ _ _ _ _ _ _ _ _ _ _ _ _ sS a1 a2 sG a3 a4 (by simp) rfl (by simp) rfl hE⟩

theorem tj19 (u v : List UInt8) (hu : u.length ≤ 2 ^ 10) (hv : v.length ≤ 2 ^ 10) : RTj 19 (laws_FnTreesJoined_C19a la lb (bs u) (bs v) (ipV u v) (both u v) false) := by
  obtain ⟨k1, k2⟩ := tj21 h1 h2 l1 l2
  cases e : both u v with
  | false => exact laws_FnTreesJoined_C19a_i4 _ _ _ _ _ _ (k2 _ _ _ _)
  | true =>
    have hJ := implJT_SC u v (by omega) (by omega)
    have e2 := e
    unfold both at e2
    rw [Bool.and_eq_true] at e2
    obtain ⟨eu, cu⟩ := treeOf_txt e2.1
    obtain ⟨ev, cv⟩ := treeOf_txt e2.2
    cases g : jtB u v with
    | false => rw [g] at hJ; exact laws_FnTreesJoined_C19a_i3 _ _ _ _ _ _ _ hJ (k1 _)
    | true =>
      rw [g] at hJ
      have hV : jtV u v = bs (txt (joiT (treeOf u) (treeOf v))) := by unfold jtV; rw [if_pos g]
      have hiff : jtV u v = bs v ↔ partB (treeOf u) (treeOf v) = true := by
        rw [hV, ← joiT_eq, bs_inj]
        constructor
        · intro q
          exact (txt_inj _ _ [] [] (by rw [List.append_nil, List.append_nil]; exact q.trans ev)).1
        · intro q
          rw [q, ← ev]
      cases q : partB (treeOf u) (treeOf v) with
      | true =>
        have hi : ipV u v = true := by unfold ipV; rw [e, q]; rfl
        rw [hi]
        exact laws_FnTreesJoined_C19a_i1 _ _ _ _ _ _ _ hJ (hiff.2 q) rfl (k1 _)
      | false =>
        have hi : ipV u v = false := by unfold ipV; rw [e, q]; rfl
        rw [hi]
        exact laws_FnTreesJoined_C19a_i2 _ _ _ _ _ _ _ hJ (fun w => by rw [hiff.1 w] at q; cases q) rfl (k1 _)

theorem tj14 : (∀ x, RTj 14 (laws_FnTreesJoined_C14a la lb x)) ∧ ∀ x5 x6 x7 x11 x142, RTj 14 (laws_FnTreesJoined_C14b la lb x5 x6 x7 x11 x142) := by
  obtain ⟨u, v, hu, hv, sI⟩ := drawIp_SC h2 l2
  have a1 := implIp_SC u v (by omega) (by omega)
  have a2 := specIp_SC u v (by omega) (by omega)
  have hE := tj19 h1 h2 l1 l2 u v hu hv
  exact ⟨fun x => laws_FnTreesJoined_C14a_i1 _ _ _ _ _ _ _ _ _ sI a1 a2 (by simp) (by simp) hE,
    fun x5 x6 x7 x11 x142 => laws_FnTreesJoined_C14b_i1 _ _ _ _ _ _ _ _ _ _ _ _ _ sI a1 a2 (by simp) (by simp) hE⟩

end

end Go.AI
end

section
/- The law of TreesJoined. -/
set_option autoImplicit false
set_option maxRecDepth 100000
set_option linter.unusedVariables false
namespace Go.AI
open Go.Proofs

theorem ip_txt {t : Tr} {a : List UInt8} (ht : t.c ≤ 8) (ha : isTree a = true) (hl : a.length ≤ 2 ^ 20) (hp : partB t (treeOf a) = true) :
    SC cfg.P i_impl_IsPartOf [.s (.v .str (bs (txt t))), .s (.v .str (bs a))] (.tup [.v .bool true, .v .bool true]) [] := by
  obtain ⟨q1, q2⟩ := treeOf_self ht
  have l := txt_len t
  have h := implIp_SC (txt t) a (by omega) (by omega)
  have e : both (txt t) a = true := by unfold both; rw [q1, ha]; rfl
  have e2 : ipV (txt t) a = true := by unfold ipV; rw [e, q2, hp]; rfl
  rw [e, e2] at h
  exact h

theorem car_txt {a : List UInt8} (ha : isTree a = true) (hl : a.length ≤ 2 ^ 20) : SC cfg.P i_impl_CaretsOf [.s (.v .str (bs a))] (.tup [.v (.int .i64) ((treeOf a).c : Int), .v .bool true]) [] := by
  have h := parse_SC a (by omega)
  rw [ha] at h
  have := (treeOf_txt ha).2
  exact impl_CaretsOf_p1 _ _ _ _ h (carets_SC _ (by omega))

theorem tj3 {la lb : List Int} (h1 : Bytes la) (h2 : Bytes lb) (l1 : la.length ≤ 2 ^ 40) (l2 : lb.length ≤ 2 ^ 40) (z : Bool) : RTj 3 (laws_FnTreesJoined_C3a la lb z) := by
  obtain ⟨x, y, hx, hy, sJ⟩ := drawJT_SC h1 l1
  obtain ⟨k1, k2⟩ := tj14 h1 h2 l1 l2
  have a1 := implJT_SC x y (by omega) (by omega)
  have a2 := specJT_SC x y (by omega) (by omega)
  have a3 := implCo_SC x y (by omega) (by omega)
  have a4 := specCo_SC x y (by omega) (by omega)
  have parts : both x y = true → SC cfg.P i_impl_IsPartOf [.s (.v .str (coV x y)), .s (.v .str (bs x))] (.tup [.v .bool true, .v .bool true]) [] ∧ SC cfg.P i_impl_IsPartOf [.s (.v .str (coV x y)), .s (.v .str (bs y))] (.tup [.v .bool true, .v .bool true]) [] := fun e => by
    have e2 := e
    unfold both at e2
    rw [Bool.and_eq_true] at e2
    have cx := (treeOf_txt e2.1).2
    have hc := comT_c (treeOf x) (treeOf y)
    have hV : coV x y = bs (txt (comT (treeOf x) (treeOf y))) := by unfold coV; rw [if_pos e]
    rw [hV]
    exact ⟨ip_txt (by omega) e2.1 (by omega) (com_part_l _ _), ip_txt (by omega) e2.2 (by omega) (com_part_r _ _)⟩
  cases g : jtB x y with
  | false =>
    rw [g] at a1 a2
    refine laws_FnTreesJoined_C3a_i2 _ _ _ _ _ _ _ _ _ _ _ _ sJ a1 a2 a3 a4 rfl rfl (by simp) rfl ?_
    cases e : both x y with
    | false => exact laws_FnTreesJoined_C10a_i2 _ _ _ _ _ _ _ _ (laws_FnTreesJoined_C12b_i2 _ _ _ _ _ _ _ (k2 _ _ _ _ _))
    | true => exact laws_FnTreesJoined_C10a_i1 _ _ _ _ _ _ _ _ (parts e).1 (parts e).2 (laws_FnTreesJoined_C12a_i2 _ _ _ _ _ _ _ (k2 _ _ _ _ _))
  | true =>
    have g2 := g
    unfold jtB at g2
    rw [Bool.and_eq_true, decide_eq_true_eq] at g2
    obtain ⟨e, hj⟩ := g2
    have e2 := e
    unfold both at e2
    rw [Bool.and_eq_true] at e2
    obtain ⟨ex, cx⟩ := treeOf_txt e2.1
    obtain ⟨ey, cy⟩ := treeOf_txt e2.2
    rw [g] at a1 a2
    rw [e] at a3 a4
    have hV : jtV x y = bs (txt (joiT (treeOf x) (treeOf y))) := by unfold jtV; rw [if_pos g]
    have hW : coV x y = bs (txt (comT (treeOf x) (treeOf y))) := by unfold coV; rw [if_pos e]
    have hc := comT_c (treeOf x) (treeOf y)
    obtain ⟨q1, q2⟩ := treeOf_self hj
    obtain ⟨r1, r2⟩ := treeOf_self (t := comT (treeOf x) (treeOf y)) (by omega)
    have lj := txt_len (joiT (treeOf x) (treeOf y))
    have lc := txt_len (comT (treeOf x) (treeOf y))
    have p1 := ip_txt (t := treeOf x) (a := txt (joiT (treeOf x) (treeOf y))) cx q1 (by omega) (by rw [q2]; exact partB_l _ _)
    have p2 := ip_txt (t := treeOf y) (a := txt (joiT (treeOf x) (treeOf y))) cy q1 (by omega) (by rw [q2]; exact partB_r _ _)
    rw [← ex, ← hV] at p1
    rw [← ey, ← hV] at p2
    have a5 := implJT_SC y x (by omega) (by omega)
    have gy : jtB y x = true := by unfold jtB both; rw [e2.1, e2.2, joi_comm]; simpa using hj
    have hVy : jtV y x = jtV x y := by rw [hV]; unfold jtV; rw [if_pos gy, joi_comm]
    rw [gy, hVy] at a5
    have c1 := car_txt e2.1 (by omega)
    have c2 := car_txt e2.2 (by omega)
    have c3 := car_txt q1 (by omega)
    rw [q2, ← hV] at c3
    have c4 := car_txt r1 (by omega)
    rw [r2, ← hW] at c4
    have hs := joi_com_c (treeOf x) (treeOf y)
    refine laws_FnTreesJoined_C3a_i1 _ _ _ _ _ _ _ _ _ _ _ sJ a1 a2 a3 a4 rfl rfl rfl rfl ?_
    refine laws_FnTreesJoined_C10a_i1 _ _ _ _ _ _ _ _ (parts e).1 (parts e).2 ?_
    exact laws_FnTreesJoined_C12a_i1 _ _ _ _ _ _ _ _ _ _ _ _ p1 p2 a5 c1 c2 c3 c4 rfl (by congr 1; omega) (k1 _)

/-- The law of TreesJoined. -/
theorem law_Tj (a b : List Int) (_ha : a.length ≤ 2 ^ 63 - 1) (h1 : ∀ n ∈ a, (Lit.int .u8 n).wf = true) (_hb : b.length ≤ 2 ^ 63 - 1) (h2 : ∀ n ∈ b, (Lit.int .u8 n).wf = true) :
    SC cfg.P i_laws_FnTreesJoined [.s (.v (.sl (.int .u8)) a), .s (.v (.sl (.int .u8)) b)] (.s (.v .bool true)) [] := by
  by_cases g1 : a.length ≤ 1048576
  · have w : IntKind.wrap .i64 (1048576 - ((a.length : Nat) : Int)) = 1048576 - ((a.length : Nat) : Int) := by rw [w64] <;> omega
    by_cases g2 : a.length + b.length ≤ 1048576
    · have hbig : SC cfg.P i_laws_big [.s (.v (.sl (.int .u8)) a), .s (.v (.sl (.int .u8)) b)] (.s (.v .bool false)) [] := laws_big_p3 _ _ (by omega) (by rw [w]; omega)
      exact laws_FnTreesJoined_R1_of _ _ _ (laws_FnTreesJoined_C0a_i2 _ _ hbig (tj3 (fun x hx => byte_wf (h1 x hx)) (fun x hx => byte_wf (h2 x hx)) (by omega) (by omega) _))
    · exact laws_FnTreesJoined_R1_of _ _ _ (laws_FnTreesJoined_C0a_x1 _ _ (laws_big_p2 _ _ (by omega) (by rw [w]; omega)))
  · exact laws_FnTreesJoined_R1_of _ _ _ (laws_FnTreesJoined_C0a_x1 _ _ (laws_big_p1 _ _ (by omega)))

end Go.AI
end
