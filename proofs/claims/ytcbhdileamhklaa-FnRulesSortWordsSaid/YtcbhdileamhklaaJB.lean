/- A part of the road: what it proves stands in its last texts. -/
import Derived.Test.YtcbhdileamhklaaCPg
import Derived.Test.YtcbhdileamhklaaGZ
section
/- Contracts: forests. -/
set_option autoImplicit false
set_option maxRecDepth 100000
set_option linter.unusedVariables false
namespace Go.AI
open Go.Proofs

/-- How many carets. -/
def sumC (ts : List Tr) : Nat := (ts.map Tr.c).sum

/-- Without the leaves at the end. -/
def trim : List Tr → List Tr
  | [] => []
  | t :: ts => match trim ts with
    | [] => if t.isLeaf = true then [] else [t]
    | u :: us => t :: u :: us

theorem trim_snoc : ∀ (ts : List Tr) (t : Tr), trim (ts ++ [t]) = if t.isLeaf = true then trim ts else ts ++ [t]
  | [], t => rfl
  | x :: ts, t => by
    rw [List.cons_append, trim, trim_snoc ts t]
    by_cases h : t.isLeaf = true
    · rw [if_pos h, if_pos h, trim]
    · rw [if_neg h, if_neg h]
      cases ts <;> rfl

theorem trim_len : ∀ ts : List Tr, (trim ts).length ≤ ts.length
  | [] => Nat.le_refl _
  | t :: ts => by
    have := trim_len ts
    rw [trim]
    split
    · split <;> simp
    · rename_i u us e
      rw [e] at this
      simp only [List.length_cons] at this ⊢
      omega

theorem trim_prefix : ∀ ts : List Tr, ∃ r : List Tr, ts = trim ts ++ r ∧ ∀ t ∈ r, t.isLeaf = true
  | [] => ⟨[], rfl, fun t h => by cases h⟩
  | t :: ts => by
    obtain ⟨r, e, h⟩ := trim_prefix ts
    rw [trim]
    split
    · rename_i e2
      rw [e2, List.nil_append] at e
      subst e
      split
      · rename_i hl
        exact ⟨t :: ts, rfl, fun u hu => by rcases List.mem_cons.1 hu with rfl | hu; exact hl; exact h u hu⟩
      · exact ⟨ts, rfl, h⟩
    · rename_i u us e2
      rw [e2] at e
      exact ⟨r, by rw [e]; rfl, h⟩

theorem trim_sumC (ts : List Tr) : sumC (trim ts) = sumC ts := by
  obtain ⟨r, e, h⟩ := trim_prefix ts
  have h0 : sumC r = 0 := by
    unfold sumC
    induction r with
    | nil => rfl
    | cons t r ih =>
      rw [List.map_cons, List.sum_cons, leaf_c (h t (List.mem_cons_self ..))]
      have : ∀ (a b : List Tr), (∀ t ∈ a, t.isLeaf = true) → (a.map Tr.c).sum = 0 := by
        intro a b
        induction a with
        | nil => intro _; rfl
        | cons u a ih2 => intro hu; rw [List.map_cons, List.sum_cons, leaf_c (hu u (List.mem_cons_self ..)), ih2 (fun v hv => hu v (List.mem_cons_of_mem _ hv))]
      rw [this r r (fun v hv => h v (List.mem_cons_of_mem _ hv))]
  conv => rhs; rw [e]
  simp only [sumC, List.map_append, List.sum_append] at h0 ⊢
  omega

theorem trim_mem {ts : List Tr} {t : Tr} (h : t ∈ trim ts) : t ∈ ts := by
  obtain ⟨r, e, _⟩ := trim_prefix ts
  rw [e]
  exact List.mem_append_left _ h

/-- The trees of texts. -/
def treesOf (fs : List (List UInt8)) : List Tr := fs.map treeOf

/-- Is it a forest that may be? -/
def isFo (fs : List (List UInt8)) : Bool := decide (fs.length ≤ 8) && fs.all isTree && decide (sumC (treesOf fs) ≤ 8) && decide ((trim (treesOf fs)).length = fs.length)

theorem isFo_spec {fs : List (List UInt8)} (h : isFo fs = true) : fs.length ≤ 8 ∧ (∀ l ∈ fs, isTree l = true) ∧ sumC (treesOf fs) ≤ 8 ∧ trim (treesOf fs) = treesOf fs ∧ fs = (treesOf fs).map txt := by
  simp only [isFo, Bool.and_eq_true, decide_eq_true_eq, List.all_eq_true] at h
  obtain ⟨⟨⟨h1, h2⟩, h3⟩, h4⟩ := h
  refine ⟨h1, h2, h3, ?_, ?_⟩
  · obtain ⟨r, e, _⟩ := trim_prefix (treesOf fs)
    have hl := congrArg List.length e
    rw [List.length_append, h4] at hl
    have : (treesOf fs).length = fs.length := List.length_map ..
    have hr : r = [] := List.eq_nil_of_length_eq_zero (by omega)
    rw [hr, List.append_nil] at e
    exact e.symm
  · rw [treesOf, List.map_map]
    conv => lhs; rw [← List.map_id fs]
    exact List.map_congr_left fun l hl => (treeOf_txt (h2 l hl)).1

theorem treeOf_txt' (t : Tr) (h : t.c ≤ 8) : isTree (txt t) = true ∧ treeOf (txt t) = t := by
  have h1 : isTree (txt t) = true := (isTree_iff _).2 ⟨t, rfl, h⟩
  refine ⟨h1, ?_⟩
  have := (treeOf_txt h1).1
  exact (txt_inj t (treeOf (txt t)) [] [] (by rw [List.append_nil, List.append_nil]; exact this)).1.symm

theorem last_leaf (fs : List (List UInt8)) (l : List UInt8) (h : isTree l = true) : (treeOf l).isLeaf = true ↔ l = [46] := by
  obtain ⟨e, _⟩ := treeOf_txt h
  constructor
  · intro hl
    rw [e]
    generalize treeOf l = t at hl
    cases t with
    | leaf => rfl
    | node _ _ => simp [Tr.isLeaf] at hl
  · intro hl
    rw [hl] at e ⊢
    generalize treeOf [46] = t at e
    cases t with
    | leaf => rfl
    | node _ _ => simp [txt] at e

theorem trim_full (ts : List Tr) (t : Tr) : (trim (ts ++ [t])).length = ts.length + 1 ↔ t.isLeaf = false := by
  rw [trim_snoc]
  by_cases h : t.isLeaf = true
  · rw [if_pos h]
    have := trim_len ts
    constructor
    · intro e; omega
    · intro e; rw [h] at e; cases e
  · rw [if_neg h]
    simp at h
    simp [h]

end Go.AI
end

section
/- Contracts: forests told, read and written. -/
set_option autoImplicit false
set_option maxRecDepth 100000
set_option linter.unusedVariables false
namespace Go.AI
open Go.Proofs

theorem count_le (l : List UInt8) : l.count 40 ≤ l.length := List.count_le_length

theorem treesOf_c (fs : List (List UInt8)) (h : ∀ l ∈ fs, isTree l = true) : (fs.map fun l => l.count 40).sum = sumC (treesOf fs) := by
  rw [sumC, treesOf, List.map_map]
  congr 1
  apply List.map_congr_left
  intro l hl
  have e := (treeOf_txt (h l hl)).1
  conv => lhs; rw [e]
  exact txt_count _

theorem isFo_eq (fs : List (List UInt8)) (hall : fs.all isTree = true) : isFo fs = (decide (fs.length ≤ 8) && decide ((fs.map fun l => l.count 40).sum ≤ 8) && decide ((trim (treesOf fs)).length = fs.length)) := by
  rw [isFo, hall, treesOf_c fs (fun l hl => List.all_eq_true.1 hall l hl), Bool.and_true]

/-- The texts of a forest, if it is one that may be. -/
def foTexts (ts : List Tr) : List (List UInt8) := if (trim ts).length ≤ 8 ∧ sumC ts ≤ 8 then (trim ts).map txt else []

def foOk (ts : List Tr) : Bool := decide ((trim ts).length ≤ 8 ∧ sumC ts ≤ 8)

theorem c_le_sum : ∀ (ts : List Tr) (t : Tr), t ∈ ts → t.c ≤ sumC ts
  | x :: ts, t, h => by
    simp only [sumC, List.map_cons, List.sum_cons]
    rcases List.mem_cons.1 h with rfl | h
    · omega
    · have := c_le_sum ts t h
      simp only [sumC] at this
      omega

theorem isFo_trees (ts : List Tr) (hf : trim ts = ts) : isFo (ts.map txt) = decide (ts.length ≤ 8 ∧ sumC ts ≤ 8) := by
  by_cases h8 : ts.length ≤ 8
  · by_cases hs : sumC ts ≤ 8
    · have hall : ∀ t ∈ ts, t.c ≤ 8 := fun t ht => Nat.le_trans (c_le_sum ts t ht) hs
      have hT : treesOf (ts.map txt) = ts := by
        rw [treesOf, List.map_map]
        conv => rhs; rw [← List.map_id ts]
        exact List.map_congr_left fun t ht => (treeOf_txt' t (hall t ht)).2
      have hA : (ts.map txt).all isTree = true := by
        rw [List.all_eq_true]
        intro l hl
        obtain ⟨t, ht, rfl⟩ := List.mem_map.1 hl
        exact (treeOf_txt' t (hall t ht)).1
      rw [isFo, hA, hT, hf, List.length_map, decide_eq_true h8, decide_eq_true hs, decide_eq_true (show ts.length ≤ 8 ∧ sumC ts ≤ 8 from ⟨h8, hs⟩)]
      simp
    · rw [decide_eq_false (fun g => hs g.2)]
      cases hg : isFo (ts.map txt) with
      | false => rfl
      | true =>
        obtain ⟨_, g2, g3, _, _⟩ := isFo_spec hg
        have hall : ∀ t ∈ ts, t.c ≤ 8 := by
          intro t ht
          have := g2 (txt t) (List.mem_map.2 ⟨t, ht, rfl⟩)
          obtain ⟨u, e, hu⟩ := (isTree_iff _).1 this
          have e' := (txt_inj t u [] [] (by rw [List.append_nil, List.append_nil]; exact e)).1
          rw [e']; exact hu
        have hT : treesOf (ts.map txt) = ts := by
          rw [treesOf, List.map_map]
          conv => rhs; rw [← List.map_id ts]
          exact List.map_congr_left fun t ht => (treeOf_txt' t (hall t ht)).2
        rw [hT] at g3
        exact absurd g3 hs
  · rw [decide_eq_false (fun g => h8 g.1)]
    rw [isFo, List.length_map, decide_eq_false h8]
    simp

theorem trim_trim (ts : List Tr) : trim (trim ts) = trim ts := by
  induction ts with
  | nil => rfl
  | cons t ts ih =>
    rw [trim]
    split
    · split
      · rfl
      · rename_i h
        simp [trim, h]
    · rename_i u us e
      rw [e] at ih
      rw [trim, ih]

end Go.AI
end
