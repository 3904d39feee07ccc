/- A caret over two trees. -/
import Derived.Test.YtpfaelacdnmeaaaCT
set_option autoImplicit false
set_option maxRecDepth 100000
set_option linter.unusedVariables false
namespace Go.AI
open Go.Proofs

theorem trOf_SC (t u : Tr) (ht : t.c ≤ 2 ^ 30) (hu : u.c ≤ 2 ^ 30) : SC cfg.P i_spec_trOf [.s (.v .str (bs (txt t))), .s (.v .str (bs (txt u)))] (.s (.v .str (bs (txt (.node t u))))) [] := by
  have h1 := txt_len t
  have h2 := txt_len u
  have s0 : ((⟨#[40]⟩ : ByteArray)).size = 1 := rfl
  have s1 : ((⟨#[41]⟩ : ByteArray)).size = 1 := rfl
  have e1 : (⟨#[40]⟩ : ByteArray) ++ bs (txt t) = bs (40 :: txt t) := by show bs [40] ++ _ = _; rw [bs_append]; rfl
  have e2 : (⟨#[40]⟩ : ByteArray) ++ bs (txt t) ++ bs (txt u) = bs (40 :: txt t ++ txt u) := by rw [e1, bs_append]
  have e3 : (⟨#[40]⟩ : ByteArray) ++ bs (txt t) ++ bs (txt u) ++ (⟨#[41]⟩ : ByteArray) = bs (txt (.node t u)) := by
    rw [e2]; show _ ++ bs [41] = _; rw [bs_append]; simp [txt]
  have := spec_trOf_p1 (bs (txt t)) (bs (txt u)) (by rw [s0, bs_size]; omega) (by rw [e1, bs_size, bs_size]; simp; omega) (by rw [e2, bs_size, s1]; simp; omega)
  rw [e3] at this
  exact this

end Go.AI
