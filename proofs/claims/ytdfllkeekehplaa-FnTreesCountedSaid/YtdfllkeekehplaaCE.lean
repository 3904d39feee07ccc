/- Contracts: products of pairs. -/
import Derived.Test.YtdfllkeekehplaaCSm
import Derived.Test.YtdfllkeekehplaaCRr
import Derived.Test.YtdfllkeekehplaaCDr
set_option autoImplicit false
set_option maxRecDepth 100000
set_option linter.unusedVariables false
namespace Go.AI
open Go.Proofs

/-! ### The reference's products -/

/-! ### Pairs that are told if they fit -/

theorem isTree_txt (t : Tr) : isTree (txt t) = decide (t.c ≤ 8) := by
  by_cases h : t.c ≤ 8
  · rw [decide_eq_true h]; exact (isTree_iff _).2 ⟨t, rfl, h⟩
  · rw [decide_eq_false h]
    cases hb : isTree (txt t) with
    | false => rfl
    | true =>
      obtain ⟨u, e, hu⟩ := (isTree_iff _).1 hb
      have := (txt_inj t u [] [] (by rw [List.append_nil, List.append_nil]; exact e)).1
      subst this
      exact absurd hu h

end Go.AI
