/- Plain: fractions of forests. -/
import Derived.Test.YtdfllkeekehplaaJE
import Derived.Test.YtdfllkeekehplaaFpm
set_option autoImplicit false
set_option maxRecDepth 100000
set_option linter.unusedVariables false
namespace Go.AI

/-- What hangs at the left sides of the right side of a tree. -/
def hangT : Tr → List Tr
  | .leaf => []
  | .node l r => l :: hangT r

theorem comb_hang : ∀ t : Tr, combT (hangT t) = t
  | .leaf => rfl
  | .node l r => by rw [hangT, combT, comb_hang r]

theorem foF_hang (t : Tr) : foF (trim (hangT t)) = fOf (t, combR t.c) := by
  rw [foF_trim, foF, comb_hang]

/-- The fraction of two forests. -/
def frP (F G : List Tr) : Tr × Tr := timesT (fpP F) ((fpP G).2, (fpP G).1)

theorem frP_eqc (F G : List Tr) : (frP F G).1.c = (frP F G).2.c := times_eqc _ _ (fp_eqc F) (fp_eqc G).symm

theorem frP_red (F G : List Tr) : bothL (frP F G) = [] := times_red _ _

/-- A fraction takes s to y where the second forest takes y to what the first one takes s to. -/
theorem frP_fOf (F G : List Tr) (s y : St2) (h : foF G y = foF F s) : fOf (frP F G) s = y := by
  unfold frP
  rw [fOf_times _ _ (fp_eqc F) (fp_eqc G).symm, fp_fOf, ← h, ← fp_fOf G]
  exact fOf_inv _ _ (fp_eqc G) y

theorem foF_frP (F G : List Tr) (s : St2) : foF G (fOf (frP F G) s) = foF F s := by
  unfold frP
  rw [fOf_times _ _ (fp_eqc F) (fp_eqc G).symm, fp_fOf, ← fp_fOf G]
  exact fOf_inv _ _ (fp_eqc G).symm _

theorem frP_uniq (F G : List Tr) (p : Tr × Tr) (hp : p.1.c = p.2.c) (hr : bothL p = []) (h : ∀ s, foF G (fOf p s) = foF F s) : frP F G = p :=
  red_unique _ _ (frP_eqc F G) hp (frP_red F G) hr fun s => frP_fOf F G s _ (h s)

theorem frP_hang (p : Tr × Tr) (hp : p.1.c = p.2.c) (hr : bothL p = []) : frP (trim (hangT p.1)) (trim (hangT p.2)) = p :=
  frP_uniq _ _ p hp hr fun s => by
    rw [foF_hang, foF_hang]
    have := fOf_comp p.1 p.2 (combR p.2.c) hp s
    rw [this, hp]

theorem frP_swp (F G : List Tr) : frP F G = ((frP G F).2, (frP G F).1) := by
  refine frP_uniq F G _ (frP_eqc G F).symm ?_ fun s => ?_
  · have := frP_red G F
    exact both_swp this
  · have h := foF_frP G F (fOf ((frP G F).2, (frP G F).1) s)
    rw [← h]
    have e : fOf (frP G F) (fOf ((frP G F).2, (frP G F).1) s) = s := fOf_inv (frP G F).2 (frP G F).1 (frP_eqc G F).symm s
    rw [e]

theorem frP_stack {F G T S U : List Tr} (h1 : Stk F T S) (h2 : Stk G T U) : frP S U = frP F G :=
  frP_uniq S U _ (frP_eqc F G) (frP_red F G) fun s => by rw [h2.foE, foF_frP, h1.foE]

theorem frP_one (F : List Tr) : frP F [] = fpP F :=
  frP_uniq F [] _ (fp_eqc F) (fp_red F) fun s => by
    rw [fp_fOf]
    rfl

end Go.AI
