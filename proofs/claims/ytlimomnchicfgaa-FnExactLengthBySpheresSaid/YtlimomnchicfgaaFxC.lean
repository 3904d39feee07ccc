/- A part of the road: what it proves stands in its last texts. -/
import Derived.Test.YtlimomnchicfgaaFxB
import Derived.Test.YtlimomnchicfgaaCSp
import Derived.Test.YtlimomnchicfgaaFxD
section
/- Contracts: the spheres, by the program and by the reference. -/
set_option autoImplicit false
set_option maxRecDepth 100000
set_option linter.unusedVariables false
namespace Go.AI
open Go.Proofs

theorem mgetb_mput (s t : ByteArray) (y : Bool) : ∀ l : List (ByteArray × Bool), mget (mput l s y) t = if t = s then some y else mget l t
  | [] => rfl
  | p :: l => by
    rw [mput]
    by_cases h : s = p.1
    · rw [if_pos h]
      simp only [mget]
      by_cases h1 : t = s
      · rw [if_pos h1, if_pos (h1.trans h)]
      · rw [if_neg h1, if_neg fun g => h1 (g.trans h.symm), if_neg fun g => h1 (g.trans h.symm)]
    · rw [if_neg h]
      simp only [mget]
      rw [mgetb_mput s t y l]
      by_cases h1 : t = p.1
      · rw [if_pos h1, if_neg fun g => h (g.symm.trans h1), if_pos h1]
      · rw [if_neg h1, if_neg h1]

/-! ### The program's -/

structure Seen (i : Nat) (G cur : List (Tr × Tr)) (mp : List (ByteArray × Bool)) : Prop where
  nd : cur.Nodup
  mem : ∀ p, p ∈ cur ↔ p ∈ G ∧ ¬ Bal i p
  seen : ∀ p, Gd p → ((mget mp (prT p)).getD false = true ↔ Bal i p ∨ p ∈ cur)
  len : cur.length ≤ G.length

theorem Seen.old {i : Nat} {G cur : List (Tr × Tr)} {mp : List (ByteArray × Bool)} (h : Seen i G cur mp) {x : Tr × Tr} (hx : Gd x) (hs : (mget mp (prT x)).getD false = true) : Seen i (G ++ [x]) cur mp := by
  refine ⟨h.nd, fun p => ?_, h.seen, by have := h.len; simp; omega⟩
  rw [h.mem p, List.mem_append, List.mem_singleton]
  constructor
  · rintro ⟨a, b⟩; exact ⟨.inl a, b⟩
  · rintro ⟨a | rfl, b⟩
    · exact ⟨a, b⟩
    · rcases (h.seen _ hx).1 hs with g | g
      · exact absurd g b
      · exact (h.mem _).1 g

theorem Seen.new {i : Nat} {G cur : List (Tr × Tr)} {mp : List (ByteArray × Bool)} (h : Seen i G cur mp) {x : Tr × Tr} (hx : Gd x) (hs : (mget mp (prT x)).getD false = false) : Seen i (G ++ [x]) (cur ++ [x]) (mput mp (prT x) true) := by
  have hn : ¬ (Bal i x ∨ x ∈ cur) := fun g => by
    have := (h.seen x hx).2 g
    rw [hs] at this
    cases this
  refine ⟨?_, fun p => ?_, fun p hp => ?_, by have := h.len; simp; omega⟩
  · rw [List.nodup_append]
    exact ⟨h.nd, by simp, fun a ha b hb => by rw [List.mem_singleton] at hb; subst hb; intro e; exact hn (.inr (e ▸ ha))⟩
  · rw [List.mem_append, List.mem_append, List.mem_singleton, h.mem p]
    constructor
    · rintro (⟨a, b⟩ | rfl)
      · exact ⟨.inl a, b⟩
      · exact ⟨.inr rfl, fun g => hn (.inl g)⟩
    · rintro ⟨a | a, b⟩
      · exact .inl ⟨a, b⟩
      · exact .inr a
  · rw [mgetb_mput, List.mem_append, List.mem_singleton]
    by_cases e : p = x
    · subst e
      rw [if_pos rfl]
      exact ⟨fun _ => .inr (.inr rfl), fun _ => rfl⟩
    · rw [if_neg fun g => e (prT_inj g), h.seen p hp]
      constructor
      · rintro (g | g)
        · exact .inl g
        · exact .inr (.inl g)
      · rintro (g | g | g)
        · exact .inl g
        · exact .inr g
        · exact absurd g e

theorem isp_L2 (L : List Int) (hl : L.length = 4) (hL : ∀ l ∈ L, l ∈ ltrs) (b : Nat) (most cap : Int) (Q : List (Tr × Tr)) (jl j : Int) (out : List (List (Tr × Tr))) (q : Tr × Tr) (hq : Gd q) (hc : q.1.c ≤ 10) :
    ∀ (m i : Nat) (G cur : List (Tr × Tr)) (mp : List (ByteArray × Bool)), 4 - i = m → i ≤ 4 → G.length ≤ 2 ^ 20 + i → Seen b G cur mp →
    ∃ cur' mp', Seen b (G ++ (L.drop i).map fun l => timesT q (letT l)) cur' mp' ∧
    LoopSC cfg.P 1 (lb P_impl_spheres 2) (impl_spheres_L2a most cap Q jl j L (i : Int) cur q mp out) (.exit 4) (impl_spheres_L2X1 most cap Q jl j L 4 false cur' q mp' out) := by
  intro m
  induction m with
  | zero =>
    intro i G cur mp hm hi hG hs
    have e : i = 4 := by omega
    subst e
    rw [List.drop_eq_nil_of_le (by omega), List.map_nil, List.append_nil]
    exact ⟨cur, mp, hs, impl_spheres_L2a_x3 _ _ _ _ _ _ _ _ _ _ _ (by omega)⟩
  | succ m ih =>
    intro i G cur mp hm hi hG hs
    have hlt : i < L.length := by omega
    have hd : L.drop i = L[i] :: L.drop (i + 1) := List.drop_eq_getElem_cons hlt
    have hg : List.getD L ((i : Int)).toNat (0 : Int) = L[i] := by rw [Int.toNat_natCast, List.getD_eq_getElem?_getD, List.getElem?_eq_getElem hlt]; rfl
    have hmem := hL _ (List.getElem_mem hlt)
    have hcs := ltr_cases hmem
    have hlc := let_c L[i]
    have he := hq.e
    have ht := times_SC q (letT L[i]) hq.e (by omega) (by omega) (by omega)
    have hq2 := gdB hq L[i]
    have he2 := hq2.e
    have hcr := raw_c q (letT L[i]) hq.e
    have htx := pairText_SC (timesT q (letT L[i])) (by omega) (by omega)
    have q1 : SC cfg.P i_impl_letter [.s (.v (.int .i64) (List.getD L ((i : Int)).toNat (0 : Int)))] (.s (.v (.pr .tree .tree) (letT L[i]))) [] := by
      rw [hg]; exact letter_SC L[i] (by omega) (by omega)
    rw [hd, List.map_cons]
    have ea : ∀ X : List (Tr × Tr), G ++ timesT q (letT L[i]) :: X = (G ++ [timesT q (letT L[i])]) ++ X := fun X => by rw [List.append_assoc]; rfl
    rw [ea]
    have hlen := hs.len
    cases hb : (mget mp (prT (timesT q (letT L[i])))).getD false with
    | true =>
      obtain ⟨cur', mp', k1, k2⟩ := ih (i + 1) _ cur mp (by omega) (by omega) (by simp; omega) (hs.old hq2 hb)
      rw [← wrap_succ (i := i) (by omega)] at k2
      exact ⟨cur', mp', k1, impl_spheres_L2a_i1 most cap Q jl j L (i : Int) cur q mp out (letT L[i]) (timesT q (letT L[i])) (prT (timesT q (letT L[i]))) (by omega) (by omega) (by omega) q1 ht htx hb k2⟩
    | false =>
      obtain ⟨cur', mp', k1, k2⟩ := ih (i + 1) _ _ _ (by omega) (by omega) (by simp; omega) (hs.new hq2 hb)
      rw [← wrap_succ (i := i) (by omega)] at k2
      exact ⟨cur', mp', k1, impl_spheres_L2a_i2 most cap Q jl j L (i : Int) cur q mp out (letT L[i]) (timesT q (letT L[i])) (prT (timesT q (letT L[i]))) (by omega) (by omega) (by omega) q1 ht htx hb (sizeOK_one (by omega)) k2⟩

theorem isp_L1 (b : Nat) (most cap : Int) (Q : List (Tr × Tr)) (hQ : ∀ q ∈ Q, Gd q ∧ q.1.c ≤ 10) (hl : Q.length ≤ 2 ^ 16) (out : List (List (Tr × Tr))) :
    ∀ (m j : Nat) (G cur : List (Tr × Tr)) (mp : List (ByteArray × Bool)), Q.length - j = m → j ≤ Q.length → G.length = 4 * j → Seen b G cur mp →
    ∃ cur' mp', Seen b (G ++ (Q.drop j).flatMap nbs) cur' mp' ∧
    LoopSC cfg.P 1 (lb P_impl_spheres 1) (impl_spheres_L1a most cap Q (Q.length : Int) (j : Int) cur mp out) (.exit 2) (impl_spheres_L1X1 most cap Q (Q.length : Int) (Q.length : Int) false cur' mp' out) := by
  intro m
  induction m with
  | zero =>
    intro j G cur mp hm hj hG hs
    have e : j = Q.length := by omega
    subst e
    rw [List.drop_length, List.flatMap_nil, List.append_nil]
    exact ⟨cur, mp, hs, impl_spheres_L1a_x2 _ _ _ _ _ _ _ _ (by omega)⟩
  | succ m ih =>
    intro j G cur mp hm hj hG hs
    have hlt : j < Q.length := by omega
    have hd : Q.drop j = Q[j] :: Q.drop (j + 1) := List.drop_eq_getElem_cons hlt
    have hg : List.getD Q ((j : Int)).toNat (Tr.leaf, Tr.leaf) = Q[j] := by rw [Int.toNat_natCast, List.getD_eq_getElem?_getD, List.getElem?_eq_getElem hlt]; rfl
    obtain ⟨hq, hc⟩ := hQ _ (List.getElem_mem hlt)
    obtain ⟨cur1, mp1, k1, k2⟩ := isp_L2 ltrs rfl (fun l hl => hl) b most cap Q (Q.length : Int) (j : Int) out Q[j] hq hc 4 0 G cur mp rfl (by omega) (by omega) hs
    rw [List.drop_zero] at k1
    obtain ⟨cur2, mp2, k3, k4⟩ := ih (j + 1) (G ++ nbs Q[j]) cur1 mp1 (by omega) (by omega) (by simp [nbs, ltrs]; omega) k1
    rw [hd, List.flatMap_cons, ← List.append_assoc]
    rw [← wrap_succ (i := j) (by omega)] at k4
    rw [← hg] at k2
    exact ⟨cur2, mp2, k3, impl_spheres_L1a_i1 _ _ _ _ _ _ _ _ _ _ _ _ _ _ _ _ _ _ _ _ _ (by omega) (by omega) (by omega) letters_SC k2 k4⟩

structure SphI (i : Nat) (out : List (List (Tr × Tr))) (mp : List (ByteArray × Bool)) : Prop where
  len : out.length = i + 1
  sph : ∀ k, k ≤ i → (out.getD k []).Nodup ∧ (∀ p, p ∈ out.getD k [] ↔ Sph k p) ∧ (out.getD k []).length ≤ 4 ^ k
  seen : ∀ p, Gd p → ((mget mp (prT p)).getD false = true ↔ Bal i p)

theorem getD_app {α : Type} (A : List α) (x d : α) : (A ++ [x]).getD A.length d = x := by
  rw [List.getD_eq_getElem?_getD, List.getElem?_append_right (Nat.le_refl _), Nat.sub_self]; rfl

theorem getD_app_lt {α : Type} (A : List α) (x d : α) {k : Nat} (h : k < A.length) : (A ++ [x]).getD k d = A.getD k d := by
  rw [List.getD_eq_getElem?_getD, List.getElem?_append_left h, List.getD_eq_getElem?_getD]

theorem pow_le5 {k : Nat} (h : k ≤ 5) : 4 ^ k ≤ 1024 := by
  have : (4 : Nat) ^ k ≤ 4 ^ 5 := Nat.pow_le_pow_right (by decide) h
  omega

theorem isp_L (most : Nat) (hmost : most ≤ 5) : ∀ (m i : Nat) (out : List (List (Tr × Tr))) (mp : List (ByteArray × Bool)), most - i = m → i ≤ most → SphI i out mp →
    ∃ out' mp', SphI most out' mp' ∧
    LoopSC cfg.P 1 (lb P_impl_spheres 0) (impl_spheres_L0a (most : Int) (i : Int) mp out) (.exit 0) (impl_spheres_L0X1 (most : Int) (most : Int) false mp' out') := by
  intro m
  induction m with
  | zero =>
    intro i out mp hm hi h
    have e : i = most := by omega
    subst e
    exact ⟨out, mp, h, impl_spheres_L0a_x2 _ _ _ _ (by omega)⟩
  | succ m ih =>
    intro i out mp hm hi h
    have hlen := h.len
    obtain ⟨g1, g2, g3⟩ := h.sph i (Nat.le_refl _)
    have hp := pow_le5 (k := i) (by omega)
    have ew : IntKind.wrap .i64 (((List.length out : Nat) : Int) - 1) = (i : Int) := by rw [w64] <;> omega
    have hs0 : Seen i [] [] mp := ⟨List.nodup_nil, fun p => by simp, fun p hp => by rw [h.seen p hp]; simp, Nat.le_refl _⟩
    obtain ⟨cur, mp1, k1, k2⟩ := isp_L1 i (most : Int) (i : Int) (out.getD i []) (fun q hq => ⟨((g2 q).1 hq).gd, by have := sph_c ((g2 q).1 hq); omega⟩) (by omega) out _ 0 [] [] mp rfl (by omega) rfl hs0
    rw [List.drop_zero, List.nil_append] at k1
    have hcl : cur.length ≤ 4 ^ (i + 1) := by
      have := k1.len
      rw [nbs_len] at this
      rw [Nat.pow_succ]
      omega
    have hmem : ∀ p, p ∈ cur ↔ Sph (i + 1) p := fun p => by rw [k1.mem p, mem_nb g2 p, sph_succ]
    have hnext : SphI (i + 1) (out ++ [cur]) mp1 := by
      refine ⟨by simp; omega, fun k hk => ?_, fun p hp => ?_⟩
      · by_cases e : k = i + 1
        · rw [e, ← hlen, getD_app, hlen]
          exact ⟨k1.nd, hmem, hcl⟩
        · rw [getD_app_lt _ _ _ (by omega)]
          exact h.sph k (by omega)
      · rw [k1.seen p hp, hmem p]
        show _ ↔ Bal (i + 1) p
        constructor
        · rintro (g | g)
          · exact .inl g
          · exact g.1
        · intro g
          by_cases g2 : Bal i p
          · exact .inl g2
          · exact .inr ⟨g, g2⟩
    obtain ⟨out', mp', k3, k4⟩ := ih (i + 1) (out ++ [cur]) mp1 (by omega) (by omega) hnext
    rw [← wrap_succ (i := i) (by omega)] at k4
    have hg : List.getD out (IntKind.wrap .i64 (((List.length out : Nat) : Int) - 1)).toNat ([] : List (Tr × Tr)) = out.getD i [] := by rw [ew, Int.toNat_natCast]
    rw [← hg] at k2
    exact ⟨out', mp', k3, impl_spheres_L0a_i1 _ _ _ _ _ _ _ _ _ _ _ _ _ (by omega) (by rw [ew]; omega) (by rw [ew]; omega) (by rw [ew, Int.toNat_natCast]; omega) k2 (by unfold sizeOK lim; simp; omega) k4⟩

theorem spheres_SC (most : Nat) (hmost : most ≤ 5) : ∃ out mp, SphI most out mp ∧ SC cfg.P i_impl_spheres [.s (.v (.int .i64) (most : Int))] (.s (.own t_Simpl_pair (.sl (.pr .tree .tree)) out)) [] := by
  have h0 : SphI 0 [[(Tr.leaf, Tr.leaf)]] (mput ([] : List (ByteArray × Bool)) (⟨#[46, 62, 46]⟩ : ByteArray) true) := by
    refine ⟨rfl, fun k hk => ?_, fun p hp => ?_⟩
    · have e : k = 0 := by omega
      subst e
      refine ⟨by simp, fun p => ?_, by simp⟩
      show p ∈ [(Tr.leaf, Tr.leaf)] ↔ _
      rw [List.mem_singleton]
      exact Iff.rfl
    · rw [mgetb_mput]
      have e : (⟨#[46, 62, 46]⟩ : ByteArray) = prT (Tr.leaf, Tr.leaf) := rfl
      rw [e]
      by_cases g : p = (Tr.leaf, Tr.leaf)
      · subst g
        rw [if_pos rfl]
        exact ⟨fun _ => rfl, fun _ => rfl⟩
      · rw [if_neg fun x => g (prT_inj x)]
        exact ⟨fun x => (by cases x), fun x => absurd x g⟩
  obtain ⟨out, mp, k1, k2⟩ := isp_L most hmost _ 0 _ _ rfl (by omega) h0
  exact ⟨out, mp, k1, impl_spheres_p1 _ _ _ _ _ _ k2⟩

end Go.AI
end

section
/- Contracts: the spheres by the reference. -/
set_option autoImplicit false
set_option maxRecDepth 100000
set_option linter.unusedVariables false
namespace Go.AI
open Go.Proofs

structure SphT (k : Nat) (T : List ByteArray) : Prop where
  s : Srt T
  m : ∀ t, t ∈ T ↔ ∃ p, Sph k p ∧ t = prT p
  l : T.length ≤ 4 ^ k

theorem SphT.mem {k : Nat} {T : List ByteArray} (h : SphT k T) (p : Tr × Tr) : prT p ∈ T ↔ Sph k p := by
  rw [h.m]
  constructor
  · rintro ⟨q, hq, e⟩
    rw [prT_inj e]; exact hq
  · intro hp; exact ⟨p, hp, rfl⟩

theorem pairs_of (k : Nat) : ∀ T : List ByteArray, (∀ t ∈ T, ∃ p, Sph k p ∧ t = prT p) → ∃ Q : List (Tr × Tr), T = Q.map prT ∧ ∀ q ∈ Q, Sph k q
  | [], _ => ⟨[], rfl, fun q h => by cases h⟩
  | t :: T, h => by
    obtain ⟨p, hp, e⟩ := h t (by simp)
    obtain ⟨Q, e2, hQ⟩ := pairs_of k T fun t ht => h t (by simp [ht])
    refine ⟨p :: Q, by rw [e, e2]; rfl, fun q hq => ?_⟩
    rcases List.mem_cons.1 hq with rfl | hq
    · exact hp
    · exact hQ q hq

theorem ssp_L2 (L : List Int) (hl : L.length = 4) (hL : ∀ l ∈ L, l ∈ ltrs) (most r : Int) (T : List ByteArray) (tl j : Int) (out : List (List ByteArray)) (q : Tr × Tr) (hq : Gd q) (hc : q.1.c ≤ 10) :
    ∀ (m i : Nat) (nx : List ByteArray), 4 - i = m → i ≤ 4 → nx.length ≤ 2 ^ 20 + i →
    LoopSC cfg.P 1 (lb P_spec_lnSpheres 2) (spec_lnSpheres_L2a most r T tl j L ((L.length : Nat) : Int) (i : Int) nx (pt q) out) (.exit 4) (spec_lnSpheres_L2X1 most r T tl j L ((L.length : Nat) : Int) 4 false (nx ++ ((L.drop i).map fun l => prT (timesT q (letT l)))) (pt q) out) := by
  intro m
  induction m with
  | zero =>
    intro i nx hm hi hn
    have e : i = 4 := by omega
    subst e
    rw [List.drop_eq_nil_of_le (by omega), List.map_nil, List.append_nil]
    exact spec_lnSpheres_L2a_x2 _ _ _ _ _ _ _ _ _ _ _ (by omega)
  | succ m ih =>
    intro i nx hm hi hn
    have hlt : i < L.length := by omega
    have hd : L.drop i = L[i] :: L.drop (i + 1) := List.drop_eq_getElem_cons hlt
    have hg : List.getD L ((i : Int)).toNat (0 : Int) = L[i] := by rw [Int.toNat_natCast, List.getD_eq_getElem?_getD, List.getElem?_eq_getElem hlt]; rfl
    have hmem := hL _ (List.getElem_mem hlt)
    have hcs := ltr_cases hmem
    have hlc := let_c L[i]
    have he := hq.e
    have ht := prTimes_SC q (letT L[i]) hq.e (by omega) (by omega)
    have hq2 := gdB hq L[i]
    have he2 := hq2.e
    have hcr := raw_c q (letT L[i]) hq.e
    have htx := prText_SC (timesT q (letT L[i])) (by omega) (by omega)
    have q1 : SC cfg.P i_spec_wdLetter [.s (.v (.int .i64) (List.getD L ((i : Int)).toNat (0 : Int)))] (.s (.v (.pr .str .str) (pt (letT L[i])))) [] := by
      rw [hg]; exact wdLetter_SC L[i] (by omega) (by omega)
    have k := ih (i + 1) (nx ++ [prT (timesT q (letT L[i]))]) (by omega) (by omega) (by simp; omega)
    rw [← wrap_succ (i := i) (by omega)] at k
    rw [hd, List.map_cons]
    have ea : ∀ X : List ByteArray, nx ++ prT (timesT q (letT L[i])) :: X = (nx ++ [prT (timesT q (letT L[i]))]) ++ X := fun X => by rw [List.append_assoc]; rfl
    rw [ea]
    exact spec_lnSpheres_L2a_i1 most r T tl j L ((L.length : Nat) : Int) (i : Int) nx (pt q) out (pt (letT L[i])) (pt (timesT q (letT L[i]))) (prT (timesT q (letT L[i]))) (by omega) (by omega) (by omega) q1 ht htx (sizeOK_one (by omega)) k

theorem ssp_L1 (most r : Int) (Q : List (Tr × Tr)) (hQ : ∀ q ∈ Q, Gd q ∧ q.1.c ≤ 8) (hl : Q.length ≤ 2 ^ 16) (out : List (List ByteArray)) :
    ∀ (m j : Nat) (nx : List ByteArray), Q.length - j = m → j ≤ Q.length → nx.length = 4 * j →
    LoopSC cfg.P 1 (lb P_spec_lnSpheres 1) (spec_lnSpheres_L1a most r (Q.map prT) (Q.length : Int) (j : Int) nx out) (.exit 2) (spec_lnSpheres_L1X1 most r (Q.map prT) (Q.length : Int) (Q.length : Int) false (nx ++ ((Q.drop j).flatMap nbs).map prT) out) := by
  intro m
  induction m with
  | zero =>
    intro j nx hm hj hn
    have e : j = Q.length := by omega
    subst e
    rw [List.drop_length, List.flatMap_nil, List.map_nil, List.append_nil]
    exact spec_lnSpheres_L1a_x2 _ _ _ _ _ _ _ (by omega)
  | succ m ih =>
    intro j nx hm hj hn
    have hlt : j < Q.length := by omega
    have hd : Q.drop j = Q[j] :: Q.drop (j + 1) := List.drop_eq_getElem_cons hlt
    have hg : List.getD (Q.map prT) ((j : Int)).toNat E0 = prT Q[j] := by
      rw [Int.toNat_natCast, List.getD_eq_getElem?_getD, List.getElem?_map, List.getElem?_eq_getElem hlt]; rfl
    obtain ⟨hq, hc⟩ := hQ _ (List.getElem_mem hlt)
    have k2 := ssp_L2 ltrs rfl (fun l hl => hl) most r (Q.map prT) (Q.length : Int) (j : Int) out Q[j] hq (by omega) 4 0 nx rfl (by omega) (by omega)
    rw [List.drop_zero] at k2
    have e1 : (ltrs.map fun l => prT (timesT Q[j] (letT l))) = (nbs Q[j]).map prT := by unfold nbs; rw [List.map_map]; rfl
    rw [e1] at k2
    have k4 := ih (j + 1) (nx ++ (nbs Q[j]).map prT) (by omega) (by omega) (by simp [nbs, ltrs]; omega)
    rw [← wrap_succ (i := j) (by omega)] at k4
    rw [hd, List.flatMap_cons, List.map_append, ← List.append_assoc]
    have hpp := prParse_SC Q[j] hq.e hc
    rw [← hg] at hpp
    exact spec_lnSpheres_L1a_i1 _ _ _ _ _ _ _ _ _ _ _ _ _ _ _ _ _ _ _ _ _ _ (by omega) (by omega) (by rw [List.length_map]; omega) hpp lnLetters_SC.view k2 k4

/-- What the filter keeps. -/
def keepB (r : Nat) (out : List (List ByteArray)) (s : ByteArray) : Bool := !decide (s ∈ out.getD (r - 1) []) && (decide (r < 2) || !decide (s ∈ out.getD (r - 2) []))

theorem ssp_L3 (most : Int) (r : Nat) (hr : 1 ≤ r) (hr5 : r ≤ 5) (out : List (List ByteArray)) (hlen : out.length = r) (hS : ∀ k, k < r → Srt (out.getD k []) ∧ (out.getD k []).length ≤ 2 ^ 30) (c : List ByteArray) (hc : c.length ≤ 2 ^ 20) :
    ∀ (m j : Nat) (cur : List ByteArray), c.length - j = m → j ≤ c.length → cur.length ≤ j →
    LoopSC cfg.P 1 (lb P_spec_lnSpheres 3) (spec_lnSpheres_L3a most (r : Int) (c.length : Int) (j : Int) cur out c) (.exit 6) (spec_lnSpheres_L3X1 most (r : Int) (c.length : Int) (c.length : Int) false (cur ++ (c.drop j).filter (keepB r out)) out c) := by
  intro m
  induction m with
  | zero =>
    intro j cur hm hj hn
    have e : j = c.length := by omega
    subst e
    rw [List.drop_length, List.filter_nil, List.append_nil]
    exact spec_lnSpheres_L3a_x5 _ _ _ _ _ _ _ (by omega)
  | succ m ih =>
    intro j cur hm hj hn
    have hlt : j < c.length := by omega
    have hd : c.drop j = c[j] :: c.drop (j + 1) := List.drop_eq_getElem_cons hlt
    have hg : List.getD c ((j : Int)).toNat E0 = c[j] := by rw [Int.toNat_natCast, gD_lt hlt]
    have w1 : IntKind.wrap .i64 ((r : Int) - 1) = ((r - 1 : Nat) : Int) := by rw [w64] <;> omega
    obtain ⟨s1, s2⟩ := hS (r - 1) (by omega)
    have h1 := lnHas_SC (out.getD (r - 1) []) c[j] s1 s2
    have i1 := ih (j + 1) cur (by omega) (by omega) (by omega)
    have i2 := ih (j + 1) (cur ++ [c[j]]) (by omega) (by omega) (by simp; omega)
    rw [← wrap_succ (i := j) (by omega)] at i1 i2
    have g1 : List.getD out (IntKind.wrap .i64 ((r : Int) - 1)).toNat ([] : List ByteArray) = out.getD (r - 1) [] := by rw [w1, Int.toNat_natCast]
    rw [← g1, ← hg] at h1
    rw [hd, List.filter_cons]
    by_cases e1 : c[j] ∈ out.getD (r - 1) []
    · have ek : keepB r out c[j] = false := by unfold keepB; rw [decide_eq_true e1]; rfl
      rw [ek, if_neg (by decide)]
      have e1' : List.getD c ((j : Int)).toNat E0 ∈ List.getD out (IntKind.wrap .i64 ((r : Int) - 1)).toNat ([] : List ByteArray) := by rw [hg, g1]; exact e1
      rw [decide_eq_true e1'] at h1
      exact spec_lnSpheres_L3a_i1 _ _ _ _ _ _ _ (by omega) (by omega) (by omega) (by omega) (by rw [w1]; omega) (by rw [w1]; omega) (by rw [w1, Int.toNat_natCast]; omega) h1 i1
    · have e1' : ¬ List.getD c ((j : Int)).toNat E0 ∈ List.getD out (IntKind.wrap .i64 ((r : Int) - 1)).toNat ([] : List ByteArray) := by rw [hg, g1]; exact e1
      rw [decide_eq_false e1'] at h1
      by_cases h2 : r < 2
      · have ek : keepB r out c[j] = true := by unfold keepB; rw [decide_eq_false e1, decide_eq_true h2]; rfl
        rw [ek, if_pos rfl]
        have ea : ∀ X : List ByteArray, cur ++ c[j] :: X = (cur ++ [c[j]]) ++ X := fun X => by rw [List.append_assoc]; rfl
        rw [ea]
        rw [← hg] at i2
        have st := fun {e : AEx} {st : St} => spec_lnSpheres_L3a_i2 most (r : Int) (c.length : Int) (j : Int) cur out c (by omega) (by omega) (by omega) (by omega) (by rw [w1]; omega) (by rw [w1]; omega) (by rw [w1, Int.toNat_natCast]; omega) h1 (by omega) (sizeOK_one (by omega)) (e := e) (st := st)
        rw [hg] at st i2
        exact st i2
      · have w2 : IntKind.wrap .i64 ((r : Int) - 2) = ((r - 2 : Nat) : Int) := by rw [w64] <;> omega
        obtain ⟨s3, s4⟩ := hS (r - 2) (by omega)
        have h3 := lnHas_SC (out.getD (r - 2) []) c[j] s3 s4
        have g2 : List.getD out (IntKind.wrap .i64 ((r : Int) - 2)).toNat ([] : List ByteArray) = out.getD (r - 2) [] := by rw [w2, Int.toNat_natCast]
        rw [← g2, ← hg] at h3
        by_cases e2 : c[j] ∈ out.getD (r - 2) []
        · have ek : keepB r out c[j] = false := by unfold keepB; rw [decide_eq_false e1, decide_eq_false h2, decide_eq_true e2]; rfl
          rw [ek, if_neg (by decide)]
          have e2' : List.getD c ((j : Int)).toNat E0 ∈ List.getD out (IntKind.wrap .i64 ((r : Int) - 2)).toNat ([] : List ByteArray) := by rw [hg, g2]; exact e2
          rw [decide_eq_true e2'] at h3
          exact spec_lnSpheres_L3a_i3 _ _ _ _ _ _ _ (by omega) (by omega) (by omega) (by omega) (by rw [w1]; omega) (by rw [w1]; omega) (by rw [w1, Int.toNat_natCast]; omega) h1 (by omega) (by rw [w2]; omega) (by rw [w2]; omega) (by rw [w2, Int.toNat_natCast]; omega) h3 i1
        · have ek : keepB r out c[j] = true := by unfold keepB; rw [decide_eq_false e1, decide_eq_false h2, decide_eq_false e2]; rfl
          rw [ek, if_pos rfl]
          have e2' : ¬ List.getD c ((j : Int)).toNat E0 ∈ List.getD out (IntKind.wrap .i64 ((r : Int) - 2)).toNat ([] : List ByteArray) := by rw [hg, g2]; exact e2
          rw [decide_eq_false e2'] at h3
          have ea : ∀ X : List ByteArray, cur ++ c[j] :: X = (cur ++ [c[j]]) ++ X := fun X => by rw [List.append_assoc]; rfl
          rw [ea]
          have st := fun {e : AEx} {st : St} => spec_lnSpheres_L3a_i4 most (r : Int) (c.length : Int) (j : Int) cur out c (by omega) (by omega) (by omega) (by omega) (by rw [w1]; omega) (by rw [w1]; omega) (by rw [w1, Int.toNat_natCast]; omega) h1 (by omega) (by rw [w2]; omega) (by rw [w2]; omega) (by rw [w2, Int.toNat_natCast]; omega) h3 (sizeOK_one (by omega)) (e := e) (st := st)
          rw [hg] at st
          exact st i2

structure SphS (r : Nat) (out : List (List ByteArray)) : Prop where
  len : out.length = r
  sph : ∀ k, k < r → SphT k (out.getD k [])

theorem ssp_L (most : Nat) (hmost : most ≤ 5) : ∀ (m r : Nat) (out : List (List ByteArray)), most + 1 - r = m → 1 ≤ r → r ≤ most + 1 → SphS r out →
    ∃ out', SphS (most + 1) out' ∧
    LoopSC cfg.P 1 (lb P_spec_lnSpheres 0) (spec_lnSpheres_L0a (most : Int) (r : Int) out) (.exit 0) (spec_lnSpheres_L0X1 (most : Int) ((most + 1 : Nat) : Int) false out') := by
  intro m
  induction m with
  | zero =>
    intro r out hm h1 hr h
    have e : r = most + 1 := by omega
    subst e
    exact ⟨out, h, spec_lnSpheres_L0a_x2 _ _ _ (by omega)⟩
  | succ m ih =>
    intro r out hm h1 hr h
    have hlen := h.len
    have hT := h.sph (r - 1) (by omega)
    have hp := pow_le5 (k := r - 1) (by omega)
    have hTl := hT.l
    obtain ⟨Q, eQ, hQ⟩ := pairs_of (r - 1) (out.getD (r - 1) []) fun t ht => (hT.m t).1 ht
    have lQ : Q.length = (out.getD (r - 1) []).length := by rw [eQ, List.length_map]
    have hQm : ∀ q, q ∈ Q ↔ Sph (r - 1) q := fun q => ⟨hQ q, fun hq => by
      have := (hT.mem q).2 hq
      rw [eQ, List.mem_map] at this
      obtain ⟨q', h', e⟩ := this
      rw [← prT_inj e]; exact h'⟩
    have w1 : IntKind.wrap .i64 ((r : Int) - 1) = ((r - 1 : Nat) : Int) := by rw [w64] <;> omega
    have k1 := ssp_L1 (most : Int) (r : Int) Q (fun q hq => ⟨(hQ q hq).gd, by have := sph_c (hQ q hq); omega⟩) (by omega) out _ 0 [] rfl (by omega) rfl
    rw [List.drop_zero, List.nil_append] at k1
    have hne : pwT (r - 1) ∈ Q := (hQm _).2 (sph_ex (by omega))
    have hQ0 : 0 < Q.length := List.length_pos_of_mem hne
    have nl : ((Q.flatMap nbs).map prT).length = 4 * Q.length := by rw [List.length_map, nbs_len]
    obtain ⟨c, hc, k2⟩ := lnSorted_SC ((Q.flatMap nbs).map prT) (by omega) (by omega)
    have hcl := hc.n
    have k3 := ssp_L3 (most : Int) r h1 (by omega) out hlen (fun k hk => ⟨(h.sph k hk).s, by have h2 := (h.sph k hk).l; have := pow_le5 (k := k) (by omega); omega⟩) c (by omega) _ 0 [] rfl (by omega) (by simp)
    rw [List.drop_zero, List.nil_append] at k3
    have hnew : SphT r (c.filter (keepB r out)) := by
      refine ⟨hc.s.filter _, fun t => ?_, ?_⟩
      · rw [List.mem_filter, hc.m t, List.mem_map]
        have hsucc : ∀ p, Sph r p ↔ p ∈ Q.flatMap nbs ∧ ¬ Bal (r - 1) p := fun p => by
          have e : r = (r - 1) + 1 := by omega
          conv => lhs; rw [e]
          rw [sph_succ, mem_nb hQm p]
        have hkeep : ∀ p, p ∈ Q.flatMap nbs → (keepB r out (prT p) = true ↔ ¬ Bal (r - 1) p) := fun p hp => by
          obtain ⟨q, l, hq, hl, rfl⟩ := (mem_nb hQm p).1 hp
          rw [near_bal hq hl]
          unfold keepB
          rw [Bool.and_eq_true, Bool.or_eq_true, Bool.not_eq_true', decide_eq_false_iff_not, decide_eq_true_eq, Bool.not_eq_true', decide_eq_false_iff_not, hT.mem]
          constructor
          · rintro ⟨a, b⟩ (g | ⟨j, ej, g⟩)
            · exact a g
            · rcases b with b | b
              · omega
              · have ej2 : r - 2 = j := by omega
                rw [ej2] at b
                exact b (((h.sph j (by omega)).mem _).2 g)
          · intro g
            refine ⟨fun a => g (.inl a), ?_⟩
            by_cases h2 : r < 2
            · exact .inl h2
            · exact .inr fun a => g (.inr ⟨r - 2, by omega, ((h.sph (r - 2) (by omega)).mem _).1 a⟩)
        constructor
        · rintro ⟨⟨p, hp, rfl⟩, hk⟩
          exact ⟨p, (hsucc p).2 ⟨hp, (hkeep p hp).1 hk⟩, rfl⟩
        · rintro ⟨p, hp, rfl⟩
          obtain ⟨a, b⟩ := (hsucc p).1 hp
          exact ⟨⟨p, a, rfl⟩, (hkeep p a).2 b⟩
      · have h2 : (c.filter (keepB r out)).length ≤ c.length := List.length_filter_le _ _
        have h3 : 4 ^ r = 4 ^ (r - 1) * 4 := by rw [← Nat.pow_succ]; congr 1; omega
        omega
    have hnext : SphS (r + 1) (out ++ [c.filter (keepB r out)]) := by
      refine ⟨by simp; omega, fun k hk => ?_⟩
      by_cases e : k = r
      · rw [e]
        have e2 : (out ++ [c.filter (keepB r out)]).getD r [] = c.filter (keepB r out) := by
          conv => lhs; rw [← hlen]
          rw [hlen]
          rw [show (out ++ [c.filter (keepB r out)]).getD r [] = (out ++ [c.filter (keepB r out)]).getD out.length [] by rw [hlen], getD_app]
        rw [e2]
        exact hnew
      · rw [getD_app_lt _ _ _ (by omega)]
        exact h.sph k (by omega)
    obtain ⟨out', k5, k6⟩ := ih (r + 1) _ (by omega) (by omega) (by omega) hnext
    rw [← wrap_succ (i := r) (by omega)] at k6
    have hg : List.getD out (IntKind.wrap .i64 ((r : Int) - 1)).toNat ([] : List ByteArray) = Q.map prT := by rw [w1, Int.toNat_natCast, eQ]
    have k1' : LoopSC cfg.P 1 (lb P_spec_lnSpheres 1) (spec_lnSpheres_L1a (most : Int) (r : Int) (List.getD out (IntKind.wrap .i64 ((r : Int) - 1)).toNat ([] : List ByteArray)) ((List.length (List.getD out (IntKind.wrap .i64 ((r : Int) - 1)).toNat ([] : List ByteArray)) : Nat) : Int) 0 ([] : List ByteArray) out) (.exit 2) (spec_lnSpheres_L1X1 (most : Int) (r : Int) (Q.map prT) (Q.length : Int) (Q.length : Int) false ((Q.flatMap nbs).map prT) out) := by
      rw [hg, List.length_map]; exact k1
    refine ⟨out', k5, ?_⟩
    have st := fun {e : AEx} {st : St} => spec_lnSpheres_L0a_i1 (most : Int) (r : Int) out _ _ _ _ _ _ _ _ _ _ _ _ _ _ _ _ _ (by omega) (by rw [w1]; omega) (by rw [w1]; omega) (by rw [w1, Int.toNat_natCast]; omega) k1' k2 k3 (by unfold sizeOK lim; simp; omega) (e := e) (st := st)
    exact st k6

theorem lnSpheres_SC (most : Nat) (hmost : most ≤ 5) : ∃ out, SphS (most + 1) out ∧ SC cfg.P i_spec_lnSpheres [.s (.v (.int .i64) (most : Int))] (.s (.own t_Sstring (.sl .str) out)) [] := by
  have hu : SC cfg.P i_spec_prUnit [] (.s (.v (.pr .str .str) (pt (Tr.leaf, Tr.leaf)))) [] := spec_prUnit_p1
  have ht := prText_SC (Tr.leaf, Tr.leaf) (by decide) (by decide)
  have h0 : SphS 1 [[prT (Tr.leaf, Tr.leaf)]] := by
    refine ⟨rfl, fun k hk => ?_⟩
    have e : k = 0 := by omega
    subst e
    refine ⟨List.pairwise_singleton _ _, fun t => ?_, by simp⟩
    show t ∈ [prT (Tr.leaf, Tr.leaf)] ↔ _
    rw [List.mem_singleton]
    constructor
    · intro e; exact ⟨_, rfl, e⟩
    · rintro ⟨p, hp, e⟩
      have hp : p = (Tr.leaf, Tr.leaf) := hp
      rw [e, hp]
  obtain ⟨out, k1, k2⟩ := ssp_L most hmost _ 1 _ rfl (by omega) (by omega) h0
  exact ⟨out, k1, spec_lnSpheres_p1 _ _ _ _ _ _ _ hu ht k2⟩

end Go.AI
end
