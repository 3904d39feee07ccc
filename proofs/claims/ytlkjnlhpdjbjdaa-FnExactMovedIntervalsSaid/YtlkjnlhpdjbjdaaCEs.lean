/- What a law of two pairs reads. -/
import Derived.Test.YtlkjnlhpdjbjdaaCD
set_option autoImplicit false
set_option maxRecDepth 100000
set_option linter.unusedVariables false
namespace Go.AI
open Go.Proofs

theorem szPair2_in (l m : List UInt8) (s : Int) (h0 : (l.length : Int) + m.length ≤ s) (h1 : s ≤ 1048576) : SC cfg.P i_laws_szPair [.s (.v (.pr .str .str) (bs l, bs m)), .s (.v (.int .i64) s)] (.s (.v (.int .i64) (s - (l.length : Int) - (m.length : Int)))) [] := by
  have e1 : IntKind.wrap .i64 (s - ((bs l).size : Int)) = s - (l.length : Int) := by rw [bs_size, w64] <;> omega
  have e2 : IntKind.wrap .i64 (s - (l.length : Int) - ((bs m).size : Int)) = s - (l.length : Int) - (m.length : Int) := by rw [bs_size, w64] <;> omega
  have := laws_szPair_p3 (bs l, bs m) s (by
    show ¬ (IntKind.wrap .i64 (s - ((bs l).size : Int)) < 0)
    rw [e1]; omega) (by
    show ¬ (IntKind.wrap .i64 (IntKind.wrap .i64 (s - ((bs l).size : Int)) - ((bs m).size : Int)) < 0)
    rw [e1, e2]; omega)
  simp only at this
  rw [e1, e2] at this
  exact this

theorem szPair2_out (l m : List UInt8) (s : Int) (hl : l.length ≤ 2 ^ 63 - 1) (hm : m.length ≤ 2 ^ 63 - 1) (h0 : 0 ≤ s) (h1 : s ≤ 1048576) (h : ¬ ((l.length : Int) + m.length ≤ s)) : SC cfg.P i_laws_szPair [.s (.v (.pr .str .str) (bs l, bs m)), .s (.v (.int .i64) s)] (.s (.v (.int .i64) (-1 : Int))) [] := by
  have e1 : IntKind.wrap .i64 (s - ((bs l).size : Int)) = s - (l.length : Int) := by rw [bs_size, w64] <;> omega
  by_cases h2 : (l.length : Int) ≤ s
  · have e2 : IntKind.wrap .i64 (s - (l.length : Int) - ((bs m).size : Int)) = s - (l.length : Int) - (m.length : Int) := by rw [bs_size, w64] <;> omega
    refine laws_szPair_p2 (bs l, bs m) _ ?_ ?_
    · show ¬ (IntKind.wrap .i64 (s - ((bs l).size : Int)) < 0)
      rw [e1]; omega
    · show IntKind.wrap .i64 (IntKind.wrap .i64 (s - ((bs l).size : Int)) - ((bs m).size : Int)) < 0
      rw [e1, e2]; omega
  · refine laws_szPair_p1 (bs l, bs m) _ ?_
    show IntKind.wrap .i64 (s - ((bs l).size : Int)) < 0
    rw [e1]; omega

/-- What a law of two pairs reads: both, or no more than it may. -/
theorem szPairs (x y : ByteArray × ByteArray) (h1 : x.1.size ≤ 2 ^ 63 - 1) (h2 : x.2.size ≤ 2 ^ 63 - 1) (h3 : y.1.size ≤ 2 ^ 63 - 1) (h4 : y.2.size ≤ 2 ^ 63 - 1) :
    (∃ c : Int, SC cfg.P i_laws_szPair [.s (.v (.pr .str .str) x), .s (.v (.int .i64) (1048576 : Int))] (.s (.v (.int .i64) c)) [] ∧ (c < 0 ∨ (¬ (c < 0) ∧
      ∃ d : Int, SC cfg.P i_laws_szPair [.s (.v (.pr .str .str) y), .s (.v (.int .i64) c)] (.s (.v (.int .i64) d)) [] ∧ (d < 0 ∨ (¬ (d < 0) ∧
        ∃ a b e f : List UInt8, x = (bs a, bs b) ∧ y = (bs e, bs f) ∧ a.length ≤ 2 ^ 40 ∧ b.length ≤ 2 ^ 40 ∧ e.length ≤ 2 ^ 40 ∧ f.length ≤ 2 ^ 40))))) := by
  obtain ⟨x1, x2⟩ := x
  obtain ⟨y1, y2⟩ := y
  obtain ⟨a, rfl⟩ := bs_ex x1
  obtain ⟨b, rfl⟩ := bs_ex x2
  obtain ⟨e, rfl⟩ := bs_ex y1
  obtain ⟨f, rfl⟩ := bs_ex y2
  simp only [bs_size] at h1 h2 h3 h4
  by_cases h : (a.length : Int) + b.length ≤ 1048576
  · refine ⟨1048576 - (a.length : Int) - (b.length : Int), szPair2_in a b 1048576 h (by omega), .inr ⟨by omega, ?_⟩⟩
    by_cases h' : (e.length : Int) + f.length ≤ 1048576 - (a.length : Int) - (b.length : Int)
    · exact ⟨1048576 - (a.length : Int) - (b.length : Int) - (e.length : Int) - (f.length : Int), szPair2_in e f _ h' (by omega), .inr ⟨by omega, a, b, e, f, rfl, rfl, by omega, by omega, by omega, by omega⟩⟩
    · exact ⟨-1, szPair2_out e f _ h3 h4 (by omega) (by omega) h', .inl (by omega)⟩
  · exact ⟨-1, szPair2_out a b 1048576 h1 h2 (by omega) (by omega) h, .inl (by omega)⟩

end Go.AI
