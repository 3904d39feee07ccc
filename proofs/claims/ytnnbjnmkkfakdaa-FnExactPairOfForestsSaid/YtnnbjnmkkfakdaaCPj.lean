/- The law of PairOfForests. -/
import Derived.Test.YtnnbjnmkkfakdaaGF
import Derived.Test.YtnnbjnmkkfakdaaCPh
import Derived.Test.YtnnbjnmkkfakdaaCPs
import Derived.Test.YtnnbjnmkkfakdaaCL
set_option autoImplicit false
set_option maxRecDepth 100000
set_option linter.unusedVariables false
namespace Go.AI
open Go.Proofs

def pffP (fs gs : List (List UInt8)) : Tr × Tr := timesT (fpP (treesOf fs)) ((fpP (treesOf gs)).2, (fpP (treesOf gs)).1)
def pffV (fs gs : List (List UInt8)) : ByteArray × ByteArray := if (isFo fs && isFo gs) = true then fitV (pffP fs gs) else (⟨#[]⟩, ⟨#[]⟩)
def pffB (fs gs : List (List UInt8)) : Bool := (isFo fs && isFo gs) && decide ((pffP fs gs).1.c ≤ 8)

theorem implPff_SC (fs gs : List (List UInt8)) (hs : ∀ l ∈ fs, l.length ≤ 2 ^ 40) (hfl : fs.length ≤ 2 ^ 40) (hs' : ∀ l ∈ gs, l.length ≤ 2 ^ 40) (hgl : gs.length ≤ 2 ^ 40) :
    SC cfg.P i_impl_PairOfForests [.s (.v (.sl .str) (txs fs)), .s (.v (.sl .str) (txs gs))] (.tup [.v (.pr .str .str) (pffV fs gs), .v .bool (pffB fs gs)]) [] := by
  obtain ⟨ts, us, h1, h2⟩ := twoForests_SC fs gs hs hfl hs' hgl
  unfold pffV pffB
  cases hb : (isFo fs && isFo gs) with
  | false => rw [hb] at h2; exact impl_PairOfForests_p2 _ _ _ _ h2
  | true =>
    rw [hb] at h2
    have hb' := Bool.and_eq_true_iff.1 hb
    obtain ⟨rfl, rfl⟩ := h1 hb'
    obtain ⟨_, l1, l2, l3⟩ := fo_facts2 hb'.1
    obtain ⟨_, m1, m2, m3⟩ := fo_facts2 hb'.2
    have hc := fp_c (treesOf fs)
    have hq := fp_eqc (treesOf fs)
    have hc' := fp_c (treesOf gs)
    have hq' := fp_eqc (treesOf gs)
    have hr := raw_c (fpP (treesOf fs)) ((fpP (treesOf gs)).2, (fpP (treesOf gs)).1) hq
    have hrq := times_eqc (fpP (treesOf fs)) ((fpP (treesOf gs)).2, (fpP (treesOf gs)).1) hq hq'.symm
    simp only at hr
    have ht := times_SC (fpP (treesOf fs)) ((fpP (treesOf gs)).2, (fpP (treesOf gs)).1) hq hq'.symm (by omega) (by simp only; omega)
    exact impl_PairOfForests_p1 _ _ _ _ _ _ _ _ _ _ h2 (fpair_SC _ (by omega) (by omega) l3) (fpair_SC _ (by omega) (by omega) m3) (impl_pair_inverse_p1 _) ht (fits_SC _ (by omega) (by omega))

theorem specPff_SC (fs gs : List (List UInt8)) (hs : ∀ l ∈ fs, l.length ≤ 2 ^ 40) (hfl : fs.length ≤ 2 ^ 40) (hs' : ∀ l ∈ gs, l.length ≤ 2 ^ 40) (hgl : gs.length ≤ 2 ^ 40) :
    SC cfg.P i_spec_PairOfForests [.s (.v (.sl .str) (txs fs)), .s (.v (.sl .str) (txs gs))] (.tup [.v (.pr .str .str) (pffV fs gs), .v .bool (pffB fs gs)]) [] := by
  have h1 := foGood_SC fs hs hfl
  have h2 := foGood_SC gs hs' hgl
  unfold pffV pffB
  cases hb : isFo fs with
  | false => rw [hb] at h1; exact spec_PairOfForests_p3 _ _ h1
  | true =>
    rw [hb] at h1
    cases hg : isFo gs with
    | false => rw [hg] at h2; exact spec_PairOfForests_p2 _ _ h1 h2
    | true =>
      rw [hg] at h2
      obtain ⟨e1, l1, l2, l3⟩ := fo_facts2 hb
      obtain ⟨e2, m1, m2, m3⟩ := fo_facts2 hg
      have hc := fp_c (treesOf fs)
      have hq := fp_eqc (treesOf fs)
      have hc' := fp_c (treesOf gs)
      have hq' := fp_eqc (treesOf gs)
      have hr := raw_c (fpP (treesOf fs)) ((fpP (treesOf gs)).2, (fpP (treesOf gs)).1) hq
      have hrq := times_eqc (fpP (treesOf fs)) ((fpP (treesOf gs)).2, (fpP (treesOf gs)).1) hq hq'.symm
      simp only at hr
      have p1 := foPair_SC (treesOf fs) (by omega) (by omega)
      have p2 := foPair_SC (treesOf gs) (by omega) (by omega)
      rw [← e1] at p1
      rw [← e2] at p2
      have ht := prTimes_SC (fpP (treesOf fs)) ((fpP (treesOf gs)).2, (fpP (treesOf gs)).1) hq hq'.symm (by simp only; omega)
      exact spec_PairOfForests_p1 _ _ _ _ _ _ _ _ h1 h2 p1 p2 (spec_prInverse_p1 _) ht (prIf_SC _ hrq (by omega))

/-- The law of PairOfForests. -/
theorem law_Pff (x y : List ByteArray) (hx : x.length ≤ 2 ^ 63 - 1) (hxs : ∀ a ∈ x, a.size ≤ 2 ^ 63 - 1) (hy : y.length ≤ 2 ^ 63 - 1) (hys : ∀ a ∈ y, a.size ≤ 2 ^ 63 - 1) :
    SC cfg.P i_laws_FnExactPairOfForests [.s (.v (.sl .str) x), .s (.v (.sl .str) y)] (.s (.v .bool true)) [] := by
  obtain ⟨fs, rfl⟩ := txs_ex x
  obtain ⟨gs, rfl⟩ := txs_ex y
  have hsz : ∀ (l : List (List UInt8)), (∀ a ∈ txs l, a.size ≤ 2 ^ 63 - 1) → ∀ a ∈ l, a.length ≤ 2 ^ 63 - 1 := fun l h a ha => h (bs a) (List.mem_map.2 ⟨a, ha, rfl⟩)
  have l1 : (txs fs).length = fs.length := List.length_map ..
  have l2 : (txs gs).length = gs.length := List.length_map ..
  rcases szStringS_SC fs (by omega) (hsz fs hxs) 1048576 (by omega) (by omega) with ⟨c, g1, g2, g3, g4, s1⟩ | s1
  · rcases szStringS_SC gs (by omega) (hsz gs hys) c g1 (by omega) with ⟨c', k1, k2, k3, k4, s2⟩ | s2
    · have hs : ∀ l ∈ fs, l.length ≤ 2 ^ 40 := fun l hl => by have := g4 l hl; omega
      have hs' : ∀ l ∈ gs, l.length ≤ 2 ^ 40 := fun l hl => by have := k4 l hl; omega
      have t1 := toStringS_SC (txs fs) (by omega)
      have t2 := toStringS_SC (txs gs) (by omega)
      have e1 := eqStringS_SC (txs fs) (by omega)
      have e2 := eqStringS_SC (txs gs) (by omega)
      exact laws_FnExactPairOfForests_p3 _ _ _ _ _ _ _ _ _ _ _ _ _ _ s1 (by omega) s2 (by omega) t1 t2 (specPff_SC fs gs hs (by omega) hs' (by omega)) t1 t2 (implPff_SC fs gs hs (by omega) hs' (by omega)) (eqPair_SC _) (by simp) t1 e1 t2 e2
    · exact laws_FnExactPairOfForests_p2 _ _ _ _ s1 (by omega) s2 (by omega)
  · exact laws_FnExactPairOfForests_p1 _ _ _ s1 (by omega)

end Go.AI
