/- Trees by their addresses: the exact functions. -/
import Derived.Test.YtpfaelacdnmeaaaCtx
import Derived.Test.YtpfaelacdnmeaaaGE
import Derived.Test.YtpfaelacdnmeaaaGL
set_option autoImplicit false
set_option maxRecDepth 100000
set_option linter.unusedVariables false
namespace Go.AI
open Go.Proofs

theorem indexI_SC (l : List Int) (hl : l.length ≤ 2 ^ 40) (x : Int) : SC cfg.P i_slices_Contains [.s (.v (.sl (.int .i64)) l), .s (.v (.int .i64) x)] (.s (.v .bool (l.contains x))) [] := by
  have key : ∀ (m i : Nat), l.length - i = m → i ≤ l.length →
      ((l.drop i).contains x = true → ∃ j : Nat, LoopSC cfg.P 2 (lb P_slices_Index 0) (slices_Index_L0a l x ((List.length l : Nat) : Int) (i : Int)) .ret (slices_Index_L0X1 (j : Int))) ∧
      ((l.drop i).contains x = false → LoopSC cfg.P 2 (lb P_slices_Index 0) (slices_Index_L0a l x ((List.length l : Nat) : Int) (i : Int)) (.exit 0) (slices_Index_L0X2 l x ((List.length l : Nat) : Int) (l.length : Int) false)) := by
    have hle : List.length l = l.length := rfl
    intro m
    induction m with
    | zero =>
      intro i hm hi
      have e : i = l.length := by omega
      subst e
      refine ⟨fun h => ?_, fun _ => slices_Index_L0a_x3 _ _ _ _ (by rw [hle]; omega)⟩
      rw [List.drop_length] at h
      cases h
    | succ m ih =>
      intro i hm hi
      have hlt : i < l.length := by omega
      obtain ⟨h1, h2⟩ := ih (i + 1) (by omega) (by omega)
      have e1 : IntKind.wrap .i64 ((i : Int) + 1) = ((i + 1 : Nat) : Int) := by rw [w64] <;> omega
      have hg : List.getD l ((i : Int)).toNat (0 : Int) = l[i] := by
        rw [Int.toNat_natCast, List.getD_eq_getElem?_getD, List.getElem?_eq_getElem hlt]; rfl
      have hd : (l.drop i).contains x = (x == l[i] || (l.drop (i + 1)).contains x) := by
        rw [List.drop_eq_getElem_cons hlt, List.contains_cons]
      rw [hd]
      by_cases hx : x = l[i]
      · have hb : (x == l[i]) = true := by rw [beq_iff_eq]; exact hx
        rw [hb]
        exact ⟨fun _ => ⟨i, slices_Index_L0a_x1 _ _ _ _ (by rw [hle]; omega) (by omega) (by rw [hle]; omega) (by rw [hg, ← hx])⟩, fun h => by simp at h⟩
      · have hb : (x == l[i]) = false := by rw [beq_eq_false_iff_ne]; exact hx
        have hne : x ≠ List.getD l ((i : Int)).toNat (0 : Int) := by rw [hg]; first | exact hx | exact fun e => hx e.symm
        rw [hb, Bool.false_or]
        refine ⟨fun h => ?_, fun h => ?_⟩
        · obtain ⟨j, hj⟩ := h1 h
          rw [← e1] at hj
          exact ⟨j, slices_Index_L0a_i2 _ _ _ _ (by rw [hle]; omega) (by omega) (by rw [hle]; omega) hne hj⟩
        · have hj := h2 h
          rw [← e1] at hj
          exact slices_Index_L0a_i2 _ _ _ _ (by rw [hle]; omega) (by omega) (by rw [hle]; omega) hne hj
  obtain ⟨h1, h2⟩ := key l.length 0 (by omega) (by omega)
  rw [List.drop_zero] at h1 h2
  cases h : l.contains x with
  | true =>
    obtain ⟨j, hj⟩ := h1 h
    exact slices_Contains_p1 _ _ _ (slices_Index_p1 _ _ _ hj) (by omega)
  | false => exact slices_Contains_p2 _ _ _ (slices_Index_p2 _ _ _ _ _ _ _ (h2 h)) (by omega)

theorem hasI_SC (l : List Int) (hl : l.length ≤ 2 ^ 40) (x : Int) : SC cfg.P i_spec_l1Has [.s (.v (.sl (.int .i64)) l), .s (.v (.int .i64) x)] (.s (.v .bool (l.contains x))) [] := by
  have key : ∀ (m i : Nat), l.length - i = m → i ≤ l.length →
      ((l.drop i).contains x = true → LoopSC cfg.P 2 (lb P_spec_l1Has 0) (spec_l1Has_L0a x l ((List.length l : Nat) : Int) (i : Int)) .ret (spec_l1Has_L0X1 true)) ∧
      ((l.drop i).contains x = false → LoopSC cfg.P 2 (lb P_spec_l1Has 0) (spec_l1Has_L0a x l ((List.length l : Nat) : Int) (i : Int)) (.exit 0) (spec_l1Has_L0X2 x l ((List.length l : Nat) : Int) (l.length : Int) false)) := by
    have hle : List.length l = l.length := rfl
    intro m
    induction m with
    | zero =>
      intro i hm hi
      have e : i = l.length := by omega
      subst e
      refine ⟨fun h => ?_, fun _ => spec_l1Has_L0a_x3 _ _ _ _ (by rw [hle]; omega)⟩
      rw [List.drop_length] at h
      cases h
    | succ m ih =>
      intro i hm hi
      have hlt : i < l.length := by omega
      obtain ⟨h1, h2⟩ := ih (i + 1) (by omega) (by omega)
      have e1 : IntKind.wrap .i64 ((i : Int) + 1) = ((i + 1 : Nat) : Int) := by rw [w64] <;> omega
      have hg : List.getD l ((i : Int)).toNat (0 : Int) = l[i] := by
        rw [Int.toNat_natCast, List.getD_eq_getElem?_getD, List.getElem?_eq_getElem hlt]; rfl
      have hd : (l.drop i).contains x = (x == l[i] || (l.drop (i + 1)).contains x) := by
        rw [List.drop_eq_getElem_cons hlt, List.contains_cons]
      rw [hd]
      by_cases hx : x = l[i]
      · have hb : (x == l[i]) = true := by rw [beq_iff_eq]; exact hx
        rw [hb]
        exact ⟨fun _ => spec_l1Has_L0a_x1 _ _ _ _ (by rw [hle]; omega) (by omega) (by rw [hle]; omega) (by rw [hg, ← hx]), fun h => by simp at h⟩
      · have hb : (x == l[i]) = false := by rw [beq_eq_false_iff_ne]; exact hx
        have hne : List.getD l ((i : Int)).toNat (0 : Int) ≠ x := by rw [hg]; first | exact hx | exact fun e => hx e.symm
        rw [hb, Bool.false_or]
        refine ⟨fun h => ?_, fun h => ?_⟩
        · have hj := h1 h
          rw [← e1] at hj
          exact spec_l1Has_L0a_i2 _ _ _ _ (by rw [hle]; omega) (by omega) (by rw [hle]; omega) hne hj
        · have hj := h2 h
          rw [← e1] at hj
          exact spec_l1Has_L0a_i2 _ _ _ _ (by rw [hle]; omega) (by omega) (by rw [hle]; omega) hne hj
  obtain ⟨h1, h2⟩ := key l.length 0 (by omega) (by omega)
  rw [List.drop_zero] at h1 h2
  cases h : l.contains x with
  | true => exact spec_l1Has_p1 _ _ _ (h1 h)
  | false => exact spec_l1Has_p2 _ _ _ _ _ _ _ (h2 h)

theorem trAddresses_SC : ∀ (t : Tr) (p : List UInt8), t.c ≤ 50 → p.length + t.c ≤ 2 ^ 30 → SC cfg.P i_spec_trAddresses [.s (.v .str (bs (txt t))), .s (.v .str (bs p))] (.s (.own t_string .str (strs' (adL t p)))) []
  | .leaf, p, _, _ => spec_trAddresses_p1 _ _ trLeaf_leaf
  | .node l r, p, h, hp => by
    have hh := h
    simp only [Tr.c] at h hp
    have h1 := trAddresses_SC l (p ++ [48]) (by omega) (by simp; omega)
    have h2 := trAddresses_SC r (p ++ [49]) (by omega) (by simp; omega)
    rw [← bs48] at h1
    rw [← bs49] at h2
    have e : strs' (adL (.node l r) p) = strs' (adL l (p ++ [48])) ++ strs' (adL r (p ++ [49])) := by simp [adL]
    rw [e]
    have s0 : ((⟨#[48]⟩ : ByteArray)).size = 1 := rfl
    have s1 : ((⟨#[49]⟩ : ByteArray)).size = 1 := rfl
    exact spec_trAddresses_p2 _ _ _ _ _ _ (trLeaf_node l r) (trSides_SC l r hh) (by rw [bs_size, s0]; omega) h1 (by rw [bs_size, s1]; omega) h2 (zokS _ _ (by simp [adL_len]; omega))

/-! ### TreeWith -/

theorem spTW_SC (L : List (List UInt8)) (hL : L.length ≤ 2 ^ 20) : SC cfg.P i_spec_TreeWith [.s (.v (.sl .str) (strs' L))] (.tup [.v .str (twV L), .v .bool (twB L)]) [] := by
  have hlen : List.length (strs' L) = L.length := List.length_map ..
  unfold twV twB
  by_cases h9 : L.length ≤ 9
  · rw [if_pos h9, decide_eq_true h9, Bool.true_and]
    have hw := trWith_SC 9 L [] hL rfl
    have n9 : ¬ (((List.length (strs' L) : Nat) : Int) > (9 : Int)) := by omega
    unfold twT
    cases c : trW 9 L [] with
    | none =>
      rw [c] at hw
      exact spec_TreeWith_p2 _ _ _ n9 hw rfl
    | some q =>
      obtain ⟨t, n⟩ := q
      rw [c] at hw
      obtain ⟨a1, a2, a3⟩ := trW_some _ _ _ _ _ c
      simp only
      by_cases hn : n = L.length
      · rw [if_pos hn]
        exact spec_TreeWith_p4 _ _ _ n9 hw (by show (n : Int) ≠ 0; omega) (by show (n : Int) = _; omega)
      · rw [if_neg hn]
        exact spec_TreeWith_p3 _ _ _ n9 hw (by show (n : Int) ≠ 0; omega) (by show (n : Int) ≠ _; omega)
  · rw [if_neg h9, decide_eq_false h9, Bool.false_and]
    exact spec_TreeWith_p1 _ (by omega)

theorem long_L (L : List (List UInt8)) (hL : L.length ≤ 2 ^ 20) : ∀ (m i : Nat), L.length - i = m → i ≤ L.length →
    ((∀ a ∈ L.drop i, a.length ≤ 8) → LoopSC cfg.P 1 (lb P_impl_TreeWith 0) (impl_TreeWith_L0a (strs' L) (strs' L) ((List.length (strs' L) : Nat) : Int) (i : Int)) (.exit 0) (impl_TreeWith_L0X2 (strs' L) (strs' L) ((List.length (strs' L) : Nat) : Int) (L.length : Int) false)) ∧
    ((¬ ∀ a ∈ L.drop i, a.length ≤ 8) → LoopSC cfg.P 1 (lb P_impl_TreeWith 0) (impl_TreeWith_L0a (strs' L) (strs' L) ((List.length (strs' L) : Nat) : Int) (i : Int)) .ret (impl_TreeWith_L0X1 (⟨#[]⟩ : ByteArray) false)) := by
  have hle : List.length (strs' L) = L.length := List.length_map ..
  intro m
  induction m with
  | zero =>
    intro i hm hi
    have e : i = L.length := by omega
    subst e
    refine ⟨fun _ => impl_TreeWith_L0a_x3 _ _ _ _ (by omega), fun h => absurd (fun a ha => ?_) h⟩
    rw [List.drop_length] at ha
    cases ha
  | succ m ih =>
    intro i hm hi
    have hlt : i < L.length := by omega
    obtain ⟨h1, h2⟩ := ih (i + 1) (by omega) (by omega)
    rw [← wrap_succ (by omega)] at h1 h2
    have hg := strs_get L i hlt
    have hz : (((List.getD (strs' L) ((i : Int)).toNat (⟨#[]⟩ : ByteArray))).size : Int) = (L[i].length : Int) := by rw [hg, bs_size]
    rw [List.drop_eq_getElem_cons hlt]
    by_cases g : L[i].length ≤ 8
    · refine ⟨fun h => ?_, fun h => ?_⟩
      · exact impl_TreeWith_L0a_i2 _ _ _ _ (by omega) (by omega) (by omega) (by omega) (h1 fun a ha => h a (List.mem_cons_of_mem _ ha))
      · refine impl_TreeWith_L0a_i2 _ _ _ _ (by omega) (by omega) (by omega) (by omega) (h2 fun hh => h fun a ha => ?_)
        rcases List.mem_cons.1 ha with rfl | ha
        · exact g
        · exact hh a ha
    · refine ⟨fun h => absurd (h _ List.mem_cons_self) g, fun _ => ?_⟩
      exact impl_TreeWith_L0a_x1 _ _ _ _ (by omega) (by omega) (by omega) (by omega)

theorem imTW_SC (L : List (List UInt8)) (hL : L.length ≤ 2 ^ 20) : SC cfg.P i_impl_TreeWith [.s (.v (.sl .str) (strs' L))] (.tup [.v .str (twV L), .v .bool (twB L)]) [] := by
  have hlen : List.length (strs' L) = L.length := List.length_map ..
  unfold twV twB
  by_cases h9 : L.length ≤ 9
  · rw [if_pos h9, decide_eq_true h9, Bool.true_and]
    have n9 : ¬ (((List.length (strs' L) : Nat) : Int) > (9 : Int)) := by omega
    obtain ⟨k1, k2⟩ := long_L L hL L.length 0 rfl (by omega)
    rw [List.drop_zero] at k1 k2
    by_cases g : ∀ a ∈ L, a.length ≤ 8
    · have hw := treeWith_SC L (by omega) (fun a ha => by have := g a ha; omega)
      by_cases hb : strs' (adL (L.foldl putT .leaf) []) = strs' L
      · rw [decide_eq_true hb] at hw
        have e : L = adL (L.foldl putT .leaf) [] := (List.map_inj_right (fun x y h => bs_inj.1 h)).1 hb.symm
        have et := (twT_iff L h9 _).2 e
        rw [et]
        have hc := adL_len (L.foldl putT .leaf) []
        rw [← e] at hc
        exact impl_TreeWith_p3 _ _ _ _ _ _ _ _ n9 (k1 g) hw (text_SC _ (by omega))
      · rw [decide_eq_false hb] at hw
        have et : twT L = none := by
          cases c : twT L with
          | none => rfl
          | some t =>
            have e := (twT_iff L h9 t).1 c
            refine absurd ?_ hb
            have f := fold_put t
            rw [← e] at f
            rw [f, ← e]
        rw [et]
        exact impl_TreeWith_p4 _ _ _ _ _ _ _ n9 (k1 g) hw
    · have et : twT L = none := by
        cases c : twT L with
        | none => rfl
        | some t =>
          have e := (twT_iff L h9 t).1 c
          refine absurd (fun a ha => ?_) g
          have hl := adL_len t []
          rw [← e] at hl
          rw [e] at ha
          have := adL_bound t [] a ha
          simp at this
          omega
      rw [et]
      exact impl_TreeWith_p2 _ _ _ n9 (k2 g)
  · rw [if_neg h9, decide_eq_false h9, Bool.false_and]
    exact impl_TreeWith_p1 _ (by omega)

theorem twV_self {t : Tr} (h : t.c ≤ 8) : twV (adL t []) = bs (txt t) ∧ twB (adL t []) = true := by
  have hl := adL_len t []
  have e := (twT_iff (adL t []) (by omega) t).2 rfl
  unfold twV twB
  rw [e, if_pos (by omega), decide_eq_true (by omega)]
  exact ⟨rfl, rfl⟩

/-! ### The rest -/

def adO (a : List UInt8) : List ByteArray := if isTree a = true then strs' (adL (treeOf a) []) else []
def deO (a : List UInt8) : List Int := (adO a).map fun x => (x.size : Int)
def exO (a : List UInt8) : List Int := if isTree a = true then ints (exL (treeOf a) 0) else []
def caO (a : List UInt8) : Int := ((treeOf a).c : Int)
def miO (a : List UInt8) : ByteArray := if isTree a = true then bs (txt (mir (treeOf a))) else E1
def drB (a : List UInt8) (k : Int) : Bool := isTree a && (exO a).contains k
def drV (a : List UInt8) (k : Int) : ByteArray := if drB a k = true then bs (txt (wo (treeOf a) k.toNat)) else E1

theorem leaf_none {a : List UInt8} (h : isTree a = false) : treeOf a = .leaf := by unfold treeOf; rw [h]; rfl

theorem imAd_SC (a : List UInt8) (ha : a.length ≤ 2 ^ 40) : SC cfg.P i_impl_AddressesOf [.s (.v .str (bs a))] (.tup [.own t_string .str (adO a), .v .bool (isTree a)]) [] := by
  have hp := parse_SC a ha
  unfold adO
  cases h : isTree a with
  | true =>
    rw [h] at hp
    have hc := (treeOf_txt h).2
    exact impl_AddressesOf_p1 _ _ _ hp (addresses_SC (treeOf a) [] (by omega) (by simp; omega))
  | false =>
    rw [h] at hp
    exact impl_AddressesOf_p2 _ _ hp

theorem spAd_SC (a : List UInt8) (ha : a.length ≤ 2 ^ 40) : SC cfg.P i_spec_AddressesOf [.s (.v .str (bs a))] (.tup [.own t_string .str (adO a), .v .bool (isTree a)]) [] := by
  have hp := trIs_SC a ha
  unfold adO
  cases h : isTree a with
  | true =>
    rw [h] at hp
    obtain ⟨e, hc⟩ := treeOf_txt h
    have := trAddresses_SC (treeOf a) [] (by omega) (by simp; omega)
    rw [← e] at this
    exact spec_AddressesOf_p1 _ _ hp this
  | false =>
    rw [h] at hp
    exact spec_AddressesOf_p2 _ hp

theorem getD_size (L : List ByteArray) (i : Nat) (h : i < L.length) : (((List.getD L ((i : Int)).toNat (⟨#[]⟩ : ByteArray))).size : Int) = (L.map fun x => (x.size : Int))[i]'(by simpa using h) := by
  rw [Int.toNat_natCast, List.getD_eq_getElem?_getD, List.getElem?_eq_getElem h, List.getElem_map]
  rfl

theorem take_snoc {α : Type} (L : List α) (i : Nat) (h : i < L.length) : L.take i ++ [L[i]] = L.take (i + 1) := by rw [List.take_add_one, List.getElem?_eq_getElem h]; rfl

theorem imDe_L (b : Bool) (L : List ByteArray) (hL : L.length ≤ 2 ^ 20) : ∀ (m i : Nat), L.length - i = m → i ≤ L.length →
    LoopSC cfg.P 1 (lb P_impl_DepthsOf 0) (impl_DepthsOf_L0a b ((List.length L : Nat) : Int) (i : Int) ((L.map fun x => (x.size : Int)).take i) L) (.exit 0) (impl_DepthsOf_L0X1 b ((List.length L : Nat) : Int) (L.length : Int) false (L.map fun x => (x.size : Int)) L) := by
  intro m
  induction m with
  | zero =>
    intro i hm hi
    have e : i = L.length := by omega
    subst e
    rw [List.take_of_length_le (by simp)]
    exact impl_DepthsOf_L0a_x2 _ _ _ _ _ (by omega)
  | succ m ih =>
    intro i hm hi
    have hlt : i < L.length := by omega
    have k1 := ih (i + 1) (by omega) (by omega)
    rw [← wrap_succ (by omega), ← take_snoc _ i (by simpa using hlt), ← getD_size L i hlt] at k1
    exact impl_DepthsOf_L0a_i1 _ _ _ _ _ (by omega) (by omega) (by omega) (by omega) (zokI _ _ (by simp; omega)) k1

theorem spDe_L (L : List ByteArray) (hL : L.length ≤ 2 ^ 20) : ∀ (m i : Nat), L.length - i = m → i ≤ L.length →
    LoopSC cfg.P 1 (lb P_spec_DepthsOf 0) (spec_DepthsOf_L0a ((List.length L : Nat) : Int) (i : Int) ((L.map fun x => (x.size : Int)).take i) L) (.exit 0) (spec_DepthsOf_L0X1 ((List.length L : Nat) : Int) (L.length : Int) false (L.map fun x => (x.size : Int)) L) := by
  intro m
  induction m with
  | zero =>
    intro i hm hi
    have e : i = L.length := by omega
    subst e
    rw [List.take_of_length_le (by simp)]
    exact spec_DepthsOf_L0a_x2 _ _ _ _ (by omega)
  | succ m ih =>
    intro i hm hi
    have hlt : i < L.length := by omega
    have k1 := ih (i + 1) (by omega) (by omega)
    rw [← wrap_succ (by omega), ← take_snoc _ i (by simpa using hlt), ← getD_size L i hlt] at k1
    exact spec_DepthsOf_L0a_i1 _ _ _ _ (by omega) (by omega) (by omega) (by omega) (zokI _ _ (by simp; omega)) k1

theorem adO_len (a : List UInt8) : (adO a).length ≤ 9 := by
  unfold adO
  split
  · rename_i h
    have := (treeOf_txt h).2
    rw [List.length_map, adL_len]
    omega
  · simp

theorem imDe_SC (a : List UInt8) (ha : a.length ≤ 2 ^ 40) : SC cfg.P i_impl_DepthsOf [.s (.v .str (bs a))] (.tup [.own t_int (.int .i64) (deO a), .v .bool (isTree a)]) [] := by
  have hl := adO_len a
  exact impl_DepthsOf_p1 _ _ _ _ _ _ _ _ _ (imAd_SC a ha) (imDe_L (isTree a) (adO a) (by omega) _ 0 rfl (by omega))

theorem spDe_SC (a : List UInt8) (ha : a.length ≤ 2 ^ 40) : SC cfg.P i_spec_DepthsOf [.s (.v .str (bs a))] (.tup [.own t_int (.int .i64) (deO a), .v .bool (isTree a)]) [] := by
  have hp := trIs_SC a ha
  have hl := adO_len a
  cases h : isTree a with
  | true =>
    rw [h] at hp
    obtain ⟨e, hc⟩ := treeOf_txt h
    have := trAddresses_SC (treeOf a) [] (by omega) (by simp; omega)
    rw [← e] at this
    have ea : adO a = strs' (adL (treeOf a) []) := by unfold adO; rw [if_pos h]
    rw [← ea] at this
    exact spec_DepthsOf_p1 _ _ _ _ _ _ _ hp this (spDe_L (adO a) (by omega) _ 0 rfl (by omega))
  | false =>
    rw [h] at hp
    have ea : deO a = [] := by unfold deO adO; rw [if_neg (by rw [h]; simp)]; rfl
    rw [ea]
    exact spec_DepthsOf_p2 _ hp

theorem imEx_SC (a : List UInt8) (ha : a.length ≤ 2 ^ 40) : SC cfg.P i_impl_ExposedOf [.s (.v .str (bs a))] (.tup [.own t_int (.int .i64) (exO a), .v .bool (isTree a)]) [] := by
  have hp := parse_SC a ha
  unfold exO
  cases h : isTree a with
  | true =>
    rw [h] at hp
    have hc := (treeOf_txt h).2
    exact impl_ExposedOf_p1 _ _ _ hp (exposed_SC (treeOf a) 0 (by omega) (by omega))
  | false =>
    rw [h] at hp
    exact impl_ExposedOf_p2 _ _ hp

theorem trEx_of {a : List UInt8} (h : isTree a = true) : SC cfg.P i_spec_trExposed [.s (.v .str (bs a))] (.s (.own t_int (.int .i64) (exO a))) [] := by
  obtain ⟨e, hc⟩ := treeOf_txt h
  have := trExposed_SC (treeOf a) (by omega)
  rw [← e] at this
  unfold exO
  rw [if_pos h]
  exact this

theorem spEx_SC (a : List UInt8) (ha : a.length ≤ 2 ^ 40) : SC cfg.P i_spec_ExposedOf [.s (.v .str (bs a))] (.tup [.own t_int (.int .i64) (exO a), .v .bool (isTree a)]) [] := by
  have hp := trIs_SC a ha
  cases h : isTree a with
  | true =>
    rw [h] at hp
    exact spec_ExposedOf_p1 _ _ hp (trEx_of h)
  | false =>
    rw [h] at hp
    have ea : exO a = [] := by unfold exO; rw [if_neg (by rw [h]; simp)]
    rw [ea]
    exact spec_ExposedOf_p2 _ hp

theorem txt_carets (t : Tr) : (txt t).count 40 = t.c := by
  induction t with
  | leaf => rfl
  | node l r h1 h2 =>
    simp only [txt, List.count_append, List.count_cons, List.count_nil, h1, h2, Tr.c]
    simp
    try omega

theorem imCa_SC (a : List UInt8) (ha : a.length ≤ 2 ^ 40) : SC cfg.P i_impl_CaretsOf [.s (.v .str (bs a))] (.tup [.v (.int .i64) (caO a), .v .bool (isTree a)]) [] := by
  have hp := parse_SC a ha
  have hc : (treeOf a).c ≤ 8 := by
    cases h : isTree a with
    | true => exact (treeOf_txt h).2
    | false => rw [leaf_none h]; simp [Tr.c]
  exact impl_CaretsOf_p1 _ _ _ _ hp (carets_SC _ (by omega))

theorem spCa_SC (a : List UInt8) (ha : a.length ≤ 2 ^ 40) : SC cfg.P i_spec_CaretsOf [.s (.v .str (bs a))] (.tup [.v (.int .i64) (caO a), .v .bool (isTree a)]) [] := by
  have hp := trIs_SC a ha
  cases h : isTree a with
  | true =>
    rw [h] at hp
    obtain ⟨e, hc⟩ := treeOf_txt h
    have hk := trCarets_SC a ha
    rw [show a.count 40 = (treeOf a).c from (by rw [← txt_carets, ← e])] at hk
    exact spec_CaretsOf_p1 _ _ hp hk
  | false =>
    rw [h] at hp
    have ea : caO a = 0 := by unfold caO; rw [leaf_none h]; rfl
    rw [ea]
    exact spec_CaretsOf_p2 _ hp

theorem imMi_SC (a : List UInt8) (ha : a.length ≤ 2 ^ 40) : SC cfg.P i_impl_MirrorTree [.s (.v .str (bs a))] (.tup [.v .str (miO a), .v .bool (isTree a)]) [] := by
  have hp := parse_SC a ha
  unfold miO
  cases h : isTree a with
  | true =>
    rw [h] at hp
    have hc := (treeOf_txt h).2
    have hm := mir_c (treeOf a)
    exact impl_MirrorTree_p1 _ _ _ _ hp (mirror_SC _) (text_SC _ (by omega))
  | false =>
    rw [h] at hp
    exact impl_MirrorTree_p2 _ _ hp

theorem spMi_SC (a : List UInt8) (ha : a.length ≤ 2 ^ 40) : SC cfg.P i_spec_MirrorTree [.s (.v .str (bs a))] (.tup [.v .str (miO a), .v .bool (isTree a)]) [] := by
  have hp := trIs_SC a ha
  unfold miO
  cases h : isTree a with
  | true =>
    rw [h] at hp
    obtain ⟨e, hc⟩ := treeOf_txt h
    have hm := trMirror_SC (treeOf a) (by omega)
    rw [← e] at hm
    exact spec_MirrorTree_p1 _ _ hp hm
  | false =>
    rw [h] at hp
    exact spec_MirrorTree_p2 _ hp

theorem imIs_SC (a : List UInt8) (ha : a.length ≤ 2 ^ 40) : SC cfg.P i_impl_IsTree [.s (.v .str (bs a))] (.s (.v .bool (isTree a))) [] := impl_IsTree_p1 _ _ _ (parse_SC a ha)

theorem exO_mem {a : List UInt8} {k : Int} (h : drB a k = true) : ∃ n : Nat, k = n ∧ isTree a = true ∧ n ∈ exL (treeOf a) 0 := by
  unfold drB at h
  simp only [Bool.and_eq_true] at h
  obtain ⟨h1, h2⟩ := h
  unfold exO at h2
  rw [if_pos h1, List.contains_iff_mem] at h2
  obtain ⟨n, hn, e⟩ := List.mem_map.1 h2
  exact ⟨n, e.symm, h1, hn⟩

theorem exO_len (a : List UInt8) : (exO a).length ≤ 8 := by
  unfold exO
  split
  · rename_i h
    have h1 := (treeOf_txt h).2
    have h2 := exL_len (treeOf a) 0
    rw [List.length_map]
    omega
  · simp

theorem imDr_SC (a : List UInt8) (k : Int) (ha : a.length ≤ 2 ^ 40) : SC cfg.P i_impl_DropExposed [.s (.v .str (bs a)), .s (.v (.int .i64) k)] (.tup [.v .str (drV a k), .v .bool (drB a k)]) [] := by
  have hp := parse_SC a ha
  unfold drV
  cases h : isTree a with
  | true =>
    rw [h] at hp
    have hc := (treeOf_txt h).2
    have hx := exposed_SC (treeOf a) 0 (by omega) (by omega)
    have ea : ints (exL (treeOf a) 0) = exO a := by unfold exO; rw [if_pos h]
    rw [ea] at hx
    have hl := exO_len a
    have hi := indexI_SC (exO a) (by omega) k
    cases g : drB a k with
    | true =>
      obtain ⟨n, rfl, _, hn⟩ := exO_mem g
      have g' := g
      unfold drB at g'
      rw [h, Bool.true_and] at g'
      rw [g'] at hi
      have hw := wo_c (treeOf a) n hn
      exact impl_DropExposed_p1 _ _ _ _ _ _ hp hx hi (without_SC (treeOf a) n (by omega) hn) (text_SC _ (by omega))
    | false =>
      unfold drB at g
      rw [h, Bool.true_and] at g
      rw [g] at hi
      exact impl_DropExposed_p2 _ _ _ _ hp hx hi
  | false =>
    rw [h] at hp
    have g : drB a k = false := by unfold drB; rw [h, Bool.false_and]
    rw [g]
    exact impl_DropExposed_p3 _ _ _ hp

theorem spDr_SC (a : List UInt8) (k : Int) (ha : a.length ≤ 2 ^ 40) : SC cfg.P i_spec_DropExposed [.s (.v .str (bs a)), .s (.v (.int .i64) k)] (.tup [.v .str (drV a k), .v .bool (drB a k)]) [] := by
  have hp := trIs_SC a ha
  unfold drV
  cases h : isTree a with
  | true =>
    rw [h] at hp
    obtain ⟨e, hc⟩ := treeOf_txt h
    have hx := trEx_of h
    have hl := exO_len a
    have hi := hasI_SC (exO a) (by omega) k
    cases g : drB a k with
    | true =>
      obtain ⟨n, rfl, _, hn⟩ := exO_mem g
      have g' := g
      unfold drB at g'
      rw [h, Bool.true_and] at g'
      rw [g'] at hi
      have hd := trDrop_SC (treeOf a) n (by omega) hn
      rw [← e] at hd
      exact spec_DropExposed_p1 _ _ _ _ hp hx hi hd
    | false =>
      unfold drB at g
      rw [h, Bool.true_and] at g
      rw [g] at hi
      exact spec_DropExposed_p2 _ _ _ hp hx hi
  | false =>
    rw [h] at hp
    have g : drB a k = false := by unfold drB; rw [h, Bool.false_and]
    rw [g]
    exact spec_DropExposed_p3 _ _ hp

theorem fSame_SC (L : List Int) (hl : L.length ≤ 2 ^ 40) : SC cfg.P i_laws_fSame [.s (.v (.sl (.int .i64)) L), .s (.v (.sl (.int .i64)) L)] (.s (.v .bool true)) [] := by
  have key : ∀ (m k : Nat), L.length - k = m → k ≤ L.length → LoopSC cfg.P 2 (lb P_laws_fSame 0) (laws_fSame_L0a L L ((List.length L : Nat) : Int) (k : Int)) (.exit 0) (laws_fSame_L0X2 L L ((List.length L : Nat) : Int) (L.length : Int) false) := by
    intro m
    induction m with
    | zero =>
      intro k hm hk
      have e : k = L.length := by omega
      subst e
      exact laws_fSame_L0a_x3 _ _ _ _ (by omega)
    | succ m ih =>
      intro k hm hk
      have k1 := ih (k + 1) (by omega) (by omega)
      rw [← wrap_succ (by omega)] at k1
      exact laws_fSame_L0a_i2 _ _ _ _ (by omega) (by omega) (by omega) (by omega) rfl k1
  exact laws_fSame_p3 _ _ _ _ _ _ _ rfl (key _ 0 rfl (by omega))

/-! ### Draws -/

theorem drawAd_SC (a0 : List Int) (h0 : a0.length ≤ 2 ^ 20) (hb : ∀ x ∈ a0, 0 ≤ x ∧ x ≤ 255) : ∃ t : ByteArray, t.size ≤ 2 ^ 10 ∧ SC cfg.P i_spec_DrawAddressesOf [.s (.v (.sl (.int .u8)) a0)] (.s (.v .str t)) [] := by
  have hc : CurOk 0 (a0, ((0 : Int), (0 : Int))) := ⟨Int.le_refl _, Int.le_refl _, by show a0.length ≤ _; omega, hb⟩
  obtain ⟨t, c1, ht, _, h1⟩ := tree_SC hc (by omega) 7 (by omega)
  exact ⟨t, ht, spec_DrawAddressesOf_p1 _ _ (spec_DrawIsTree_p1 _ _ _ h1)⟩

end Go.AI
