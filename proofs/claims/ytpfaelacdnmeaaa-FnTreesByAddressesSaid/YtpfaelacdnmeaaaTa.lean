/- Contracts: trees put in the place of leaves; mirrors; texts compared. -/
import Derived.Test.YtpfaelacdnmeaaaCR
import Derived.Test.YtpfaelacdnmeaaaCD
import Derived.Test.YtpfaelacdnmeaaaCFa
import Derived.Test.YtpfaelacdnmeaaaDc
import Derived.Test.YtpfaelacdnmeaaaGC
import Derived.Test.YtpfaelacdnmeaaaGH
import Derived.Test.YtpfaelacdnmeaaaGY
set_option autoImplicit false
set_option maxRecDepth 100000
set_option linter.unusedVariables false
namespace Go.AI
open Go.Proofs

theorem grownG_SC (x : Tr) (m : Nat) : ∀ (t : Tr) (n : Nat), n + t.c ≤ 2 ^ 30 → SC cfg.P i_impl_node_grown [.s (.v .tree t), .s (.v (.int .i64) (n : Int)), .fn i_impl_node_graft_k1 [] [.fadr (.int .i64) (m : Int), .fadr .tree x]] (.s (.v .tree (if n ≤ m ∧ m ≤ n + t.c then grf t (m - n) x else t))) []
  | .leaf, n, _ => by
    by_cases h : n = m
    · rw [if_pos ⟨by omega, by simp only [Tr.c]; omega⟩]
      exact impl_node_grown_p1 _ _ _ _ _ (impl_node_graft_k1_p1 _ _ _ (by omega))
    · rw [if_neg (by simp only [Tr.c]; omega)]
      exact impl_node_grown_p1 _ _ _ _ _ (impl_node_graft_k1_p2 _ _ _ (by omega))
  | .node a b, n, h => by
    simp only [Tr.c] at h
    have hl := leaves_SC a (by omega)
    have ea : IntKind.wrap .i64 ((n : Int) + ((a.c + 1 : Nat) : Int)) = ((n + (a.c + 1) : Nat) : Int) := by rw [w64] <;> omega
    have h1 := grownG_SC x m a n (by omega)
    have h2 := grownG_SC x m b (n + (a.c + 1)) (by omega)
    rw [← ea] at h2
    have h3 := impl_node_grown_p2 _ _ _ _ _ _ _ _ _ h1 hl h2
    have e : (if n ≤ m ∧ m ≤ n + (Tr.node a b).c then grf (.node a b) (m - n) x else .node a b) = .node (if n ≤ m ∧ m ≤ n + a.c then grf a (m - n) x else a) (if n + (a.c + 1) ≤ m ∧ m ≤ n + (a.c + 1) + b.c then grf b (m - (n + (a.c + 1))) x else b) := by
      have hc : (Tr.node a b).c = a.c + b.c + 1 := by simp only [Tr.c]; omega
      by_cases g1 : n ≤ m ∧ m ≤ n + a.c
      · have p1 : n ≤ m ∧ m ≤ n + (Tr.node a b).c := ⟨g1.1, by omega⟩
        have p2 : ¬ (n + (a.c + 1) ≤ m ∧ m ≤ n + (a.c + 1) + b.c) := by omega
        rw [if_pos p1, if_pos g1, if_neg p2, grf, if_pos (by omega)]
      · rw [if_neg g1]
        by_cases g2 : n + (a.c + 1) ≤ m ∧ m ≤ n + (a.c + 1) + b.c
        · have p1 : n ≤ m ∧ m ≤ n + (Tr.node a b).c := by omega
          rw [if_pos p1, if_pos g2, grf, if_neg (by omega), show m - n - (a.c + 1) = m - (n + (a.c + 1)) by omega]
        · have p1 : ¬ (n ≤ m ∧ m ≤ n + (Tr.node a b).c) := by omega
          rw [if_neg p1, if_neg g2]
    rw [e]
    exact h3

theorem graftN_SC (t : Tr) (m : Nat) (x : Tr) (h : t.c ≤ 2 ^ 20) (hm : m ≤ t.c) : SC cfg.P i_impl_node_graft [.s (.v .tree t), .s (.v (.int .i64) (m : Int)), .s (.v .tree x)] (.s (.v .tree (grf t m x))) [] := by
  have g := grownG_SC x m t 0 (by omega)
  rw [if_pos ⟨Nat.zero_le _, by omega⟩, Nat.sub_zero] at g
  exact impl_node_graft_p1 _ _ _ _ g

abbrev E1 : ByteArray := (⟨#[]⟩ : ByteArray)

def both (a b : List UInt8) : Bool := isTree a && isTree b

theorem told_SC (t : Tr) (h : t.c ≤ 2 ^ 20) : SC cfg.P i_impl_told [.s (.v .tree t)] (.tup [.v .str (if t.c ≤ 8 then bs (txt t) else E1), .v .bool (decide (t.c ≤ 8))]) [] := by
  by_cases g : t.c ≤ 8
  · rw [if_pos g, decide_eq_true g]
    exact impl_told_p2 _ _ _ (carets_SC t (by omega)) (by omega) (text_SC t (by omega))
  · rw [if_neg g, decide_eq_false g]
    exact impl_told_p1 _ _ (carets_SC t (by omega)) (by omega)

theorem isTree_txt (t : Tr) : isTree (txt t) = decide (t.c ≤ 8) := by
  by_cases h : t.c ≤ 8
  · rw [decide_eq_true h]; exact (isTree_iff _).2 ⟨t, rfl, h⟩
  · rw [decide_eq_false h]
    cases hb : isTree (txt t) with
    | false => rfl
    | true =>
      obtain ⟨u, e, hu⟩ := (isTree_iff _).1 hb
      have := (txt_inj t u [] [] (by rw [List.append_nil, List.append_nil]; exact e)).1
      subst this
      exact absurd hu h

theorem treeOf_self {t : Tr} (h : t.c ≤ 8) : isTree (txt t) = true ∧ treeOf (txt t) = t := by
  have h1 : isTree (txt t) = true := by rw [isTree_txt, decide_eq_true h]
  refine ⟨h1, ?_⟩
  have e := (treeOf_txt h1).1
  exact (txt_inj _ _ [] [] (by rw [List.append_nil, List.append_nil]; exact e.symm)).1

def grQ (a : List UInt8) (k : Int) (b : List UInt8) : Bool := both a b && decide (0 ≤ k ∧ k ≤ ((treeOf a).c : Int))
def grB (a : List UInt8) (k : Int) (b : List UInt8) : Bool := grQ a k b && decide ((treeOf a).c + (treeOf b).c ≤ 8)
def grV (a : List UInt8) (k : Int) (b : List UInt8) : ByteArray := if grB a k b = true then bs (txt (grf (treeOf a) k.toNat (treeOf b))) else E1

theorem implGr_SC (a : List UInt8) (k : Int) (b : List UInt8) (ha : a.length ≤ 2 ^ 40) (hb : b.length ≤ 2 ^ 40) :
    SC cfg.P i_impl_GraftAt [.s (.v .str (bs a)), .s (.v (.int .i64) k), .s (.v .str (bs b))] (.tup [.v .str (grV a k b), .v .bool (grB a k b)]) [] := by
  have h1 := parse_SC a ha
  have h2 := parse_SC b hb
  unfold grV grB grQ both
  cases t1 : isTree a with
  | false => rw [t1] at h1; exact impl_GraftAt_p4 _ _ _ _ _ _ h1 h2
  | true =>
    rw [t1] at h1
    cases t2 : isTree b with
    | false => rw [t2] at h2; exact impl_GraftAt_p3 _ _ _ _ _ h1 h2
    | true =>
      rw [t2] at h2
      have c1 := (treeOf_txt t1).2
      have c2 := (treeOf_txt t2).2
      have hl := leaves_SC (treeOf a) (by omega)
      by_cases g : 0 ≤ k ∧ k ≤ ((treeOf a).c : Int)
      · rw [decide_eq_true g]
        obtain ⟨m, rfl⟩ : ∃ m : Nat, k = (m : Int) := ⟨k.toNat, by omega⟩
        have hh : SC cfg.P i_impl_hasLeaf [.s (.v .tree (treeOf a)), .s (.v (.int .i64) (m : Int))] (.s (.v .bool true)) [] := impl_hasLeaf_p1 _ _ _ (by omega) hl (by omega)
        have hg := graftN_SC (treeOf a) m (treeOf b) (by omega) (by omega)
        have hc := grf_c (treeOf a) m (treeOf b) (by omega)
        have ht := told_SC (grf (treeOf a) m (treeOf b)) (by omega)
        rw [hc] at ht
        have e : (if (true && true && true && decide ((treeOf a).c + (treeOf b).c ≤ 8)) = true then bs (txt (grf (treeOf a) ((m : Int)).toNat (treeOf b))) else E1) = if (treeOf a).c + (treeOf b).c ≤ 8 then bs (txt (grf (treeOf a) m (treeOf b))) else E1 := by simp
        rw [e]
        exact impl_GraftAt_p1 _ _ _ _ _ _ _ _ h1 h2 hh hg ht
      · rw [decide_eq_false g]
        refine impl_GraftAt_p2 _ _ _ _ _ h1 h2 ?_
        by_cases g0 : k ≥ 0
        · exact impl_hasLeaf_p2 _ _ _ g0 hl (by omega)
        · exact impl_hasLeaf_p3 _ _ g0

def mir : Tr → Tr
  | .leaf => .leaf
  | .node l r => .node (mir r) (mir l)

theorem mir_c : ∀ t : Tr, (mir t).c = t.c
  | .leaf => rfl
  | .node l r => by simp only [mir, Tr.c, mir_c l, mir_c r]; omega

theorem mir_mir : ∀ t : Tr, mir (mir t) = t
  | .leaf => rfl
  | .node l r => by simp only [mir, mir_mir l, mir_mir r]

theorem mirror_SC : ∀ t : Tr, SC cfg.P i_impl_node_mirror [.s (.v .tree t)] (.s (.v .tree (mir t))) []
  | .leaf => impl_node_mirror_p1
  | .node l r => impl_node_mirror_p2 l r _ _ (mirror_SC r) (mirror_SC l)

theorem trMirror_SC : ∀ t : Tr, t.c ≤ 50 → SC cfg.P i_spec_trMirror [.s (.v .str (bs (txt t)))] (.s (.v .str (bs (txt (mir t))))) []
  | .leaf, _ => spec_trMirror_p1 _ trLeaf_leaf
  | .node l r, h => by
    have e : (Tr.node l r).c = (l.c + r.c) + 1 := by simp only [Tr.c]; omega
    have m1 := mir_c l
    have m2 := mir_c r
    exact spec_trMirror_p2 _ _ _ _ _ _ (trLeaf_node l r) (trSides_SC l r h) (trMirror_SC r (by omega)) (trMirror_SC l (by omega)) (trOf_SC (mir r) (mir l) (by omega) (by omega))

theorem fTexts_SC (L : List ByteArray) (hl : L.length ≤ 2 ^ 40) : SC cfg.P i_laws_fTexts [.s (.v (.sl .str) L), .s (.v (.sl .str) L)] (.s (.v .bool true)) [] := by
  have key : ∀ (m k : Nat), L.length - k = m → k ≤ L.length → LoopSC cfg.P 2 (lb P_laws_fTexts 0) (laws_fTexts_L0a L L (L.length : Int) (k : Int)) (.exit 0) (laws_fTexts_L0X2 L L (L.length : Int) (L.length : Int) false) := by
    intro m
    induction m with
    | zero =>
      intro k hm hk
      have e : k = L.length := by omega
      subst e
      exact laws_fTexts_L0a_x3 _ _ _ _ (by omega)
    | succ m ih =>
      intro k hm hk
      have k1 := ih (k + 1) (by omega) (by omega)
      rw [← wrap_succ (by omega)] at k1
      exact laws_fTexts_L0a_i2 _ _ _ _ (by omega) (by omega) (by omega) (by omega) rfl k1
  exact laws_fTexts_p3 _ _ _ _ _ _ _ rfl (key _ 0 rfl (by omega))

end Go.AI
