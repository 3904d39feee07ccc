/- Contracts: what the laws compare and mark with. -/
import Derived.Test.YtcnmifjicepkhaaDoorGL
import Derived.Test.YtcnmifjicepkhaaDoorAiG
set_option autoImplicit false
set_option maxRecDepth 100000
set_option linter.unusedVariables false
namespace Go.AI
open Go.Proofs

theorem eqStringS_SC (l : List ByteArray) (hl : l.length ≤ 2 ^ 40) : SC cfg.P i_laws_eqStringS [.s (.v (.sl .str) l), .s (.v (.sl .str) l)] (.s (.v .bool true)) [] := by
  have key : ∀ (m i : Nat), l.length - i = m → i ≤ l.length → LoopSC cfg.P 2 (lb P_laws_eqStringS 0) (laws_eqStringS_L0a l l (i : Int)) (.exit 0) (laws_eqStringS_L0X2 l l (l.length : Int) false) := by
    intro m
    induction m with
    | zero =>
      intro i hm hi
      have : i = l.length := by omega
      subst this
      exact laws_eqStringS_L0a_x3 _ _ _ (by omega)
    | succ m ih =>
      intro i hm hi
      have := ih (i + 1) (by omega) (by omega)
      have e : IntKind.wrap .i64 ((i : Int) + 1) = ((i + 1 : Nat) : Int) := by rw [w64] <;> omega
      rw [← e] at this
      exact laws_eqStringS_L0a_i2 _ _ _ (by omega) (by omega) (by omega) (by omega) rfl this
  exact laws_eqStringS_p3 _ _ _ _ _ _ rfl (key l.length 0 (by omega) (by omega))

/-- The digits of a number. -/
def mtL : Nat → Nat → ByteArray → ByteArray
  | 0, _, acc => acc
  | f + 1, x, acc => if 0 < x then mtL f (x / 10) (strOf [(IntKind.wrap .u8 (IntKind.wrap .i64 ((48 : Int) + (Int.tmod (x : Int) (10 : Int)))))] ++ acc) else acc

def mkt (k : Nat) : ByteArray := (⟨#[109]⟩ : ByteArray) ++ mtL k k (⟨#[]⟩ : ByteArray)

theorem strOf_one (n : Int) : (strOf [n]).size = 1 := rfl

theorem ba_size_append (a b : ByteArray) : (a ++ b).size = a.size + b.size := by
  obtain ⟨l, rfl⟩ := bs_ex a
  obtain ⟨m, rfl⟩ := bs_ex b
  rw [bs_append]
  simp [bs_size]

theorem mtL_size : ∀ (f x : Nat) (acc : ByteArray), (mtL f x acc).size ≤ f + acc.size
  | 0, _, acc => by simp [mtL]
  | f + 1, x, acc => by
    simp only [mtL]
    split
    · refine Nat.le_trans (mtL_size f _ _) ?_
      rw [ba_size_append, strOf_one]; omega
    · omega

theorem markText_L : ∀ (f x : Nat) (acc : ByteArray), x ≤ f → x ≤ 2 ^ 41 → f + acc.size ≤ 2 ^ 50 →
    LoopSC cfg.P 1 (lb P_laws_markText 0) (laws_markText_L0a (x : Int) acc) (.exit 0) (laws_markText_L0X1 (0 : Int) (mtL f x acc) false) := by
  intro f
  induction f with
  | zero =>
    intro x acc hx _ _
    have : x = 0 := by omega
    subst this
    exact laws_markText_L0a_x2 _ _ (by omega)
  | succ f ih =>
    intro x acc hx hx2 hs
    by_cases h : 0 < x
    · have e : IntKind.wrap .i64 (Int.tdiv (x : Int) 10) = ((x / 10 : Nat) : Int) := by
        have e1 : Int.tdiv (x : Int) 10 = ((x / 10 : Nat) : Int) := by rfl
        rw [e1, w64] <;> omega
      have hsz : (strOf [(IntKind.wrap .u8 (IntKind.wrap .i64 ((48 : Int) + (Int.tmod (x : Int) (10 : Int)))))] ++ acc).size = 1 + acc.size := by rw [ba_size_append, strOf_one]
      have := ih (x / 10) (strOf [(IntKind.wrap .u8 (IntKind.wrap .i64 ((48 : Int) + (Int.tmod (x : Int) (10 : Int)))))] ++ acc) (by omega) (by omega) (by rw [hsz]; omega)
      rw [← e] at this
      have e2 : mtL (f + 1) x acc = mtL f (x / 10) (strOf [(IntKind.wrap .u8 (IntKind.wrap .i64 ((48 : Int) + (Int.tmod (x : Int) (10 : Int)))))] ++ acc) := by simp only [mtL, h, if_true]
      rw [e2]
      exact laws_markText_L0a_i1 _ _ (by omega) (by decide) (by rw [strOf_one]; omega) this
    · have e2 : mtL (f + 1) x acc = acc := by simp only [mtL, h, if_false]
      have : x = 0 := by omega
      subst this
      rw [e2]
      exact laws_markText_L0a_x2 _ _ (by omega)

theorem markText_SC (k : Nat) (h1 : 1 ≤ k) (h2 : k ≤ 2 ^ 41) : SC cfg.P i_laws_markText [.s (.v (.int .i64) (k : Int))] (.s (.v .str (mkt k))) [] := by
  have hz : ((⟨#[]⟩ : ByteArray)).size = 0 := rfl
  have := mtL_size k k (⟨#[]⟩ : ByteArray)
  have h1s : ((⟨#[109]⟩ : ByteArray)).size = 1 := rfl
  exact laws_markText_p2 _ _ _ _ (by omega) (markText_L k k _ (Nat.le_refl _) h2 (by rw [hz]; omega)) (by rw [h1s]; omega)

/-- Marks from a number on. -/
def mks (k n : Nat) : List ByteArray := (List.range n).map fun i => mkt (k + i)

theorem mks_length (k n : Nat) : (mks k n).length = n := by simp [mks]

theorem markStringS_SC (l : List ByteArray) (hl : l.length ≤ 2 ^ 40) (k : Nat) (hk1 : 1 ≤ k) (hk : k ≤ 2 ^ 40) :
    SC cfg.P i_laws_markStringS [.s (.msl t_string .str l), .s (.v (.int .i64) (k : Int))] (.s (.v (.int .i64) ((k + l.length : Nat) : Int))) [.row t_string .str (mks k l.length)] := by
  have key : ∀ (m i : Nat) (cur : List ByteArray), l.length - i = m → i ≤ l.length → cur.length = l.length → (∀ j, j < i → cur.getD j ⟨#[]⟩ = mkt (k + j)) →
      LoopSC cfg.P 2 (lb P_laws_markStringS 0) (laws_markStringS_L0a ((k + i : Nat) : Int) (i : Int) cur) (.exit 0) (laws_markStringS_L0X1 ((k + l.length : Nat) : Int) (l.length : Int) false (mks k l.length)) := by
    intro m
    induction m with
    | zero =>
      intro i cur hm hi hc hj
      have : i = l.length := by omega
      subst this
      have e : cur = mks k l.length := by
        apply List.ext_getElem
        · rw [mks_length, hc]
        · intro j h1 h2
          have := hj j (by omega)
          rw [List.getD_eq_getElem?_getD, List.getElem?_eq_getElem h1] at this
          simp only [Option.getD] at this
          rw [this]
          simp [mks]
      rw [e]
      exact laws_markStringS_L0a_x2 _ _ _ (by rw [mks_length]; omega)
    | succ m ih =>
      intro i cur hm hi hc hj
      have := ih (i + 1) (cur.set i (mkt (k + i))) (by omega) (by omega) (by simpa using hc) (fun j hji => by
        rw [List.getD_eq_getElem?_getD, List.getElem?_set]
        by_cases e : i = j
        · subst e
          simp [hc, show i < l.length by omega]
        · rw [if_neg e, ← List.getD_eq_getElem?_getD]
          exact hj j (by omega))
      have e1 : IntKind.wrap .i64 ((i : Int) + 1) = ((i + 1 : Nat) : Int) := by rw [w64] <;> omega
      have e2 : IntKind.wrap .i64 (((k + i : Nat) : Int) + 1) = ((k + (i + 1) : Nat) : Int) := by rw [w64] <;> omega
      rw [← e1, ← e2] at this
      exact laws_markStringS_L0a_i1 _ _ _ _ (by rw [hc]; omega) (markText_SC (k + i) (by omega) (by omega)) (by omega) (by rw [hc]; omega) (by rw [hc]; omega) this
  have := key l.length 0 l (by omega) (by omega) rfl (fun j hj => by omega)
  exact laws_markStringS_p1 _ _ _ _ _ _ this

theorem heldStringS_SC (k n : Nat) (hn : n ≤ 2 ^ 40) (hk1 : 1 ≤ k) (hk : k ≤ 2 ^ 40) :
    SC cfg.P i_laws_heldStringS [.s (.v (.sl .str) (mks k n)), .s (.v (.int .i64) (k : Int))] (.s (.v (.int .i64) ((k + n : Nat) : Int))) [] := by
  have key : ∀ (m i : Nat), n - i = m → i ≤ n →
      LoopSC cfg.P 2 (lb P_laws_heldStringS 0) (laws_heldStringS_L0a (mks k n) ((k + i : Nat) : Int) (i : Int)) (.exit 0) (laws_heldStringS_L0X2 (mks k n) ((k + n : Nat) : Int) (n : Int) false) := by
    intro m
    induction m with
    | zero =>
      intro i hm hi
      have : i = n := by omega
      subst this
      exact laws_heldStringS_L0a_x3 _ _ _ (by rw [mks_length]; omega)
    | succ m ih =>
      intro i hm hi
      have := ih (i + 1) (by omega) (by omega)
      have e1 : IntKind.wrap .i64 ((i : Int) + 1) = ((i + 1 : Nat) : Int) := by rw [w64] <;> omega
      have e2 : IntKind.wrap .i64 (((k + i : Nat) : Int) + 1) = ((k + (i + 1) : Nat) : Int) := by rw [w64] <;> omega
      rw [← e1, ← e2] at this
      have hg : List.getD (mks k n) ((i : Int)).toNat ⟨#[]⟩ = mkt (k + i) := by
        simp [mks, List.getD_eq_getElem?_getD, show i < n by omega]
      exact laws_heldStringS_L0a_i2 _ _ _ _ (by rw [mks_length]; omega) (by omega) (by rw [mks_length]; omega) (markText_SC (k + i) (by omega) (by omega)) hg this
  exact laws_heldStringS_p2 _ _ _ _ _ _ (key n 0 (by omega) (by omega))

end Go.AI
