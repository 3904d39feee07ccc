/- The law of PairOfForest. -/
import Derived.Test.YtnnbjnmkkfakdaaCPh
import Derived.Test.YtnnbjnmkkfakdaaCPs
import Derived.Test.YtnnbjnmkkfakdaaCL
set_option autoImplicit false
set_option maxRecDepth 100000
set_option linter.unusedVariables false
namespace Go.AI
open Go.Proofs

def pofV (fs : List (List UInt8)) : ByteArray × ByteArray := if isFo fs = true then fitV (fpP (treesOf fs)) else (⟨#[]⟩, ⟨#[]⟩)
def pofB (fs : List (List UInt8)) : Bool := isFo fs && decide ((fpP (treesOf fs)).1.c ≤ 8)

theorem implPof_SC (fs : List (List UInt8)) (hs : ∀ l ∈ fs, l.length ≤ 2 ^ 40) (hfl : fs.length ≤ 2 ^ 40) :
    SC cfg.P i_impl_PairOfForest [.s (.v (.sl .str) (txs fs))] (.tup [.v (.pr .str .str) (pofV fs), .v .bool (pofB fs)]) [] := by
  obtain ⟨ts, h1, h2⟩ := forestOf_SC fs hs hfl
  unfold pofV pofB
  cases hb : isFo fs with
  | false => rw [hb] at h2; exact impl_PairOfForest_p2 _ _ h2
  | true =>
    rw [hb] at h2
    have e := h1 hb
    subst e
    obtain ⟨_, l1, l2, l3⟩ := fo_facts2 hb
    have hc := fp_c (treesOf fs)
    have hq := fp_eqc (treesOf fs)
    exact impl_PairOfForest_p1 _ _ _ _ _ h2 (fpair_SC _ (by omega) (by omega) l3) (fits_SC _ (by omega) (by omega))

theorem specPof_SC (fs : List (List UInt8)) (hs : ∀ l ∈ fs, l.length ≤ 2 ^ 40) (hfl : fs.length ≤ 2 ^ 40) :
    SC cfg.P i_spec_PairOfForest [.s (.v (.sl .str) (txs fs))] (.tup [.v (.pr .str .str) (pofV fs), .v .bool (pofB fs)]) [] := by
  have h1 := foGood_SC fs hs hfl
  unfold pofV pofB
  cases hb : isFo fs with
  | false => rw [hb] at h1; exact spec_PairOfForest_p2 _ h1
  | true =>
    rw [hb] at h1
    obtain ⟨e, l1, l2, l3⟩ := fo_facts2 hb
    have hc := fp_c (treesOf fs)
    have hp := foPair_SC (treesOf fs) (by omega) (by omega)
    rw [← e] at hp
    exact spec_PairOfForest_p1 _ _ _ _ h1 hp (prIf_SC _ (fp_eqc _) (by omega))

/-- The law of PairOfForest. -/
theorem law_Pof (x : List ByteArray) (hx : x.length ≤ 2 ^ 63 - 1) (hxs : ∀ a ∈ x, a.size ≤ 2 ^ 63 - 1) :
    SC cfg.P i_laws_FnExactPairOfForest [.s (.v (.sl .str) x)] (.s (.v .bool true)) [] := by
  obtain ⟨fs, rfl⟩ := txs_ex x
  have hsz : ∀ a ∈ fs, a.length ≤ 2 ^ 63 - 1 := fun a ha => hxs (bs a) (List.mem_map.2 ⟨a, ha, rfl⟩)
  have l1 : (txs fs).length = fs.length := List.length_map ..
  rcases szStringS_SC fs (by omega) hsz 1048576 (by omega) (by omega) with ⟨c, g1, g2, g3, g4, s1⟩ | s1
  · have hs : ∀ l ∈ fs, l.length ≤ 2 ^ 40 := fun l hl => by have := g4 l hl; omega
    have t1 := toStringS_SC (txs fs) (by omega)
    have e1 := eqStringS_SC (txs fs) (by omega)
    exact laws_FnExactPairOfForest_p2 _ _ _ _ _ _ _ _ _ s1 (by omega) t1 (specPof_SC fs hs (by omega)) t1 (implPof_SC fs hs (by omega)) (eqPair_SC _) (by simp) t1 e1
  · exact laws_FnExactPairOfForest_p1 _ _ s1 (by omega)

end Go.AI
