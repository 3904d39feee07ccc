/- Contracts: addresses tested, prefixes cut; the law of ImageOfAddress. -/
import Derived.Test.YtcnmifjicepkhaaDoorShI
import Derived.Test.YtcnmifjicepkhaaDoorGI
import Derived.Test.YtcnmifjicepkhaaDoorCDq
import Derived.Test.YtcnmifjicepkhaaDoorCFa
import Derived.Test.YtcnmifjicepkhaaDoorCPg
import Derived.Test.YtcnmifjicepkhaaDoorAiSh2
import Derived.Test.YtcnmifjicepkhaaDoorFsp
set_option autoImplicit false
set_option maxRecDepth 100000
set_option linter.unusedVariables false
namespace Go.AI
open Go.Proofs

theorem strings_CutPrefix_SC (s p : List UInt8) : SC cfg.P i_strings_CutPrefix [.s (.v .str (bs s)), .s (.v .str (bs p))] (.tup [.v .str (bs (Lib.trimPrefix s p)), .v .bool (Lib.hasPrefix s p)]) [] := by
  refine ⟨⟨_, get_strings_CutPrefix, by kernel_rfl, by decide⟩, fun w B vs mv hB hd hA => ?_⟩
  obtain ⟨u, us, rfl, hu, u', us', rfl, hu', rfl, rfl⟩ := hA
  have e1 : u = .string (bs s) := RepV.str hu
  have e2 : u' = .string (bs p) := RepV.str hu'
  subst e1; subst e2
  refine (Tryd.strings_CutPrefix (bs s) (bs p) w).mono fun e w' ⟨he, hw⟩ => ?_
  subst hw
  exact ⟨_, [], he, Fr.same _ _, List.nodup_nil, by simp, ⟨[_, _], rfl, ⟨_, _, [], [], rfl, rfl, ⟨RepV.mk_str _, rfl⟩, ⟨_, _, [], [], rfl, rfl, ⟨RepV.mk_bool _, rfl⟩, rfl, rfl⟩⟩⟩, rfl⟩

theorem strings_Trim_SC (s : List UInt8) (hs : s.length ≤ 2 ^ 40) : SC cfg.P i_strings_Trim [.s (.v .str (bs s)), .s (.v .str (⟨#[48, 49]⟩ : ByteArray))] (.s (.v .str (bs (Lib.trimS s [48, 49])))) [] := by
  refine ⟨⟨_, get_strings_Trim, by kernel_rfl, by decide⟩, fun w B vs mv hB hd hA => ?_⟩
  obtain ⟨u, us, rfl, hu, u', us', rfl, hu', rfl, rfl⟩ := hA
  have e1 : u = .string (bs s) := RepV.str hu
  have e2 : u' = .string (⟨#[48, 49]⟩ : ByteArray) := RepV.str hu'
  subst e1; subst e2
  refine (Tryd.strings_Trim (bs s) (⟨#[48, 49]⟩ : ByteArray) w (by rw [bs_size]; omega) (by decide) (ascii_of_all (by decide))).mono fun e w' ⟨he, hw⟩ => ?_
  exact ⟨.string (bs (Lib.trimS s [48, 49])), [], he, Fr.ofBelow hw, List.nodup_nil, by simp, ⟨RepV.mk_str _, rfl⟩, rfl⟩

def isAd (l : List UInt8) : Bool := decide (l.length ≤ 10) && bits l

theorem isAddress_SC (l : List UInt8) (hl : l.length ≤ 2 ^ 40) : SC cfg.P i_impl_isAddress [.s (.v .str (bs l))] (.s (.v .bool (isAd l))) [] := by
  unfold isAd
  by_cases h : l.length ≤ 10
  · rw [decide_eq_true h, Bool.true_and]
    have ht := strings_Trim_SC l hl
    cases hb : bits l with
    | true =>
      rw [(trim_bits l).2 hb] at ht
      exact impl_isAddress_p1 _ _ (by rw [bs_size]; omega) ht rfl
    | false =>
      refine impl_isAddress_p2 _ _ (by rw [bs_size]; omega) ht fun e => ?_
      have e' : bs (Lib.trimS l [48, 49]) = bs [] := e
      rw [(trim_bits l).1 (bs_inj.1 e')] at hb
      cases hb
  · rw [decide_eq_false h, Bool.false_and]
    exact impl_isAddress_p3 _ (by rw [bs_size]; omega)

theorem mpBits_L (l : List UInt8) (hl : l.length ≤ 10) : ∀ m i : Nat, l.length - i = m → i ≤ l.length →
    (bits (l.drop i) = true → LoopSC cfg.P 1 (lb P_spec_mpBits 0) (spec_mpBits_L0a (bs l) (i : Int)) (.exit 0) (spec_mpBits_L0X2 (bs l) (l.length : Int) false)) ∧
    (bits (l.drop i) = false → LoopSC cfg.P 1 (lb P_spec_mpBits 0) (spec_mpBits_L0a (bs l) (i : Int)) .ret (spec_mpBits_L0X1 false)) := by
  intro m
  induction m with
  | zero =>
    intro i hm hi
    have e : i = l.length := by omega
    subst e
    rw [List.drop_length]
    refine ⟨fun _ => spec_mpBits_L0a_x4 _ _ (by rw [bs_size]; omega), fun h => ?_⟩
    simp [bits] at h
  | succ m ih =>
    intro i hm hi
    have hi1 : i < l.length := by omega
    have hd : l.drop i = l[i] :: l.drop (i + 1) := List.drop_eq_getElem_cons hi1
    have hg : bt (bs l) (i : Int) = (l[i].toNat : Int) := by rw [bs_bt, Int.toNat_natCast, List.getD_eq_getElem?_getD, List.getElem?_eq_getElem hi1]; rfl
    obtain ⟨n1, n2⟩ := ih (i + 1) (by omega) (by omega)
    rw [← wrap_succ (by omega)] at n1 n2
    have hs : (i : Int) < ((bs l).size : Int) := by rw [bs_size]; omega
    have hb : bits (l[i] :: l.drop (i + 1)) = ((l[i] == 48 || l[i] == 49) && bits (l.drop (i + 1))) := rfl
    rw [hd, hb]
    by_cases h8 : l[i] = 48
    · have e8 : bt (bs l) (i : Int) = 48 := by rw [hg, h8]; rfl
      have e : (l[i] == 48 || l[i] == 49) = true := by rw [h8]; rfl
      rw [e, Bool.true_and]
      exact ⟨fun h => spec_mpBits_L0a_i3 _ _ hs (by omega) e8 (n1 h), fun h => spec_mpBits_L0a_i3 _ _ hs (by omega) e8 (n2 h)⟩
    · have n8 : bt (bs l) (i : Int) ≠ 48 := by rw [hg]; intro e; exact h8 ((byte_eq l[i] 48).1 e)
      by_cases h9 : l[i] = 49
      · have e9 : bt (bs l) (i : Int) = 49 := by rw [hg, h9]; rfl
        have e : (l[i] == 48 || l[i] == 49) = true := by rw [h9]; rfl
        rw [e, Bool.true_and]
        exact ⟨fun h => spec_mpBits_L0a_i2 _ _ hs (by omega) n8 e9 (n1 h), fun h => spec_mpBits_L0a_i2 _ _ hs (by omega) n8 e9 (n2 h)⟩
      · have n9 : bt (bs l) (i : Int) ≠ 49 := by rw [hg]; intro e; exact h9 ((byte_eq l[i] 49).1 e)
        have e : (l[i] == 48 || l[i] == 49) = false := by simp [h8, h9]
        rw [e, Bool.false_and]
        exact ⟨fun h => (by cases h), fun _ => spec_mpBits_L0a_x1 _ _ hs (by omega) n8 n9⟩

theorem mpBits_SC (l : List UInt8) (hl : l.length ≤ 2 ^ 40) : SC cfg.P i_spec_mpBits [.s (.v .str (bs l))] (.s (.v .bool (isAd l))) [] := by
  unfold isAd
  by_cases h : l.length ≤ 10
  · rw [decide_eq_true h, Bool.true_and]
    obtain ⟨n1, n2⟩ := mpBits_L l h l.length 0 (by omega) (by omega)
    rw [List.drop_zero] at n1 n2
    cases hb : bits l with
    | true => exact spec_mpBits_p3 _ _ _ _ (by rw [bs_size]; omega) (n1 hb)
    | false => exact spec_mpBits_p2 _ _ (by rw [bs_size]; omega) (n2 hb)
  · rw [decide_eq_false h, Bool.false_and]
    exact spec_mpBits_p1 _ (by rw [bs_size]; omega)

/-- The image of an address, where it is found. -/
def imgO (ad : List UInt8) : List (List UInt8) → List (List UInt8) → Option (ByteArray × Bool)
  | f :: fs, t :: ts => if Lib.hasPrefix ad f = true then (if (t ++ ad.drop f.length).length > 10 then some ((⟨#[]⟩ : ByteArray), false) else some (bs (t ++ ad.drop f.length), true)) else imgO ad fs ts
  | _, _ => none

theorem has_take (ad f : List UInt8) : Lib.hasPrefix ad f = true ↔ f.length ≤ ad.length ∧ ad.take f.length = f := by
  unfold Lib.hasPrefix
  rw [List.isPrefixOf_iff_prefix, List.prefix_iff_eq_take]
  constructor
  · intro h
    refine ⟨?_, h.symm⟩
    have := congrArg List.length h
    rw [List.length_take] at this
    omega
  · exact fun h => h.2.symm

theorem implImg_L (ad : List UInt8) (fs ts : List (List UInt8)) (h2 : fs.length = ts.length) (hf : fs.length ≤ 2 ^ 30) (ha : ad.length ≤ 2 ^ 40) (ht : ∀ t ∈ ts, t.length ≤ 2 ^ 40) :
    ∀ m i : Nat, fs.length - i = m → i ≤ fs.length → match imgO ad (fs.drop i) (ts.drop i) with
      | some (v, b) => LoopSC cfg.P 2 (lb P_impl_ImageOfAddress 0) (impl_ImageOfAddress_L0a (bs ad) (strs' ts) (strs' fs) ((List.length (strs' fs) : Nat) : Int) (i : Int)) .ret (impl_ImageOfAddress_L0X1 v b)
      | none => LoopSC cfg.P 2 (lb P_impl_ImageOfAddress 0) (impl_ImageOfAddress_L0a (bs ad) (strs' ts) (strs' fs) ((List.length (strs' fs) : Nat) : Int) (i : Int)) (.exit 0) (impl_ImageOfAddress_L0X2 (bs ad) (strs' ts) (strs' fs) ((List.length (strs' fs) : Nat) : Int) (fs.length : Int) false) := by
  have lf : (strs' fs).length = fs.length := List.length_map ..
  have lt : (strs' ts).length = ts.length := List.length_map ..
  intro m
  induction m with
  | zero =>
    intro i hm hi
    have e : i = fs.length := by omega
    subst e
    rw [List.drop_length]
    exact impl_ImageOfAddress_L0a_x4 _ _ _ _ _ (by omega)
  | succ m ih =>
    intro i hm hi
    have hi1 : i < fs.length := by omega
    have hi2 : i < ts.length := by omega
    have d1 : fs.drop i = fs[i] :: fs.drop (i + 1) := List.drop_eq_getElem_cons hi1
    have d2 : ts.drop i = ts[i] :: ts.drop (i + 1) := List.drop_eq_getElem_cons hi2
    have n1 := ih (i + 1) (by omega) (by omega)
    rw [← wrap_succ (by omega)] at n1
    have g1 := strs_get fs i hi1
    have g2 := strs_get ts i hi2
    have hc := strings_CutPrefix_SC ad fs[i]
    rw [d1, d2, imgO]
    cases hp : Lib.hasPrefix ad fs[i] with
    | true =>
      rw [if_pos rfl]
      rw [hp] at hc
      have e : Lib.trimPrefix ad fs[i] = ad.drop fs[i].length := by unfold Lib.trimPrefix; rw [if_pos hp]
      rw [e, ← g1] at hc
      have hb := ht ts[i] (List.getElem_mem hi2)
      have hle := List.length_drop (i := fs[i].length) (l := ad)
      have hsz : (bs ts[i] ++ bs (ad.drop fs[i].length)) = bs (ts[i] ++ ad.drop fs[i].length) := bs_append _ _
      by_cases h : (ts[i] ++ ad.drop fs[i].length).length > 10
      · rw [if_pos h]
        exact impl_ImageOfAddress_L0a_x1 _ _ _ _ _ _ (by omega) (by omega) (by omega) hc (by omega) (by rw [g2, bs_size, bs_size]; omega) (by rw [g2, hsz, bs_size]; omega)
      · rw [if_neg h]
        have r := impl_ImageOfAddress_L0a_x2 (bs ad) (strs' ts) (strs' fs) ((List.length (strs' fs) : Nat) : Int) (i : Int) _ (by omega) (by omega) (by omega) hc (by omega) (by rw [g2, bs_size, bs_size]; omega) (by rw [g2, hsz, bs_size]; omega)
        rw [g2, hsz] at r
        exact r
    | false =>
      rw [if_neg (by simp)]
      rw [hp, ← g1] at hc
      cases ho : imgO ad (fs.drop (i + 1)) (ts.drop (i + 1)) with
      | none => rw [ho] at n1; exact impl_ImageOfAddress_L0a_i3 _ _ _ _ _ _ (by omega) (by omega) (by omega) hc n1
      | some x => obtain ⟨v, b⟩ := x; rw [ho] at n1; exact impl_ImageOfAddress_L0a_i3 _ _ _ _ _ _ (by omega) (by omega) (by omega) hc n1

theorem specImg_L (ad : List UInt8) (fs ts : List (List UInt8)) (h2 : fs.length = ts.length) (hf : fs.length ≤ 2 ^ 30) (ha : ad.length ≤ 2 ^ 40) (ht : ∀ t ∈ ts, t.length ≤ 2 ^ 40) :
    ∀ m i : Nat, fs.length - i = m → i ≤ fs.length → match imgO ad (fs.drop i) (ts.drop i) with
      | some (v, b) => LoopSC cfg.P 2 (lb P_spec_ImageOfAddress 0) (spec_ImageOfAddress_L0a (bs ad) (strs' ts) (strs' fs) ((List.length (strs' fs) : Nat) : Int) (i : Int)) .ret (spec_ImageOfAddress_L0X1 v b)
      | none => LoopSC cfg.P 2 (lb P_spec_ImageOfAddress 0) (spec_ImageOfAddress_L0a (bs ad) (strs' ts) (strs' fs) ((List.length (strs' fs) : Nat) : Int) (i : Int)) (.exit 0) (spec_ImageOfAddress_L0X2 (bs ad) (strs' ts) (strs' fs) ((List.length (strs' fs) : Nat) : Int) (fs.length : Int) false) := by
  have lf : (strs' fs).length = fs.length := List.length_map ..
  have lt : (strs' ts).length = ts.length := List.length_map ..
  intro m
  induction m with
  | zero =>
    intro i hm hi
    have e : i = fs.length := by omega
    subst e
    rw [List.drop_length]
    exact spec_ImageOfAddress_L0a_x5 _ _ _ _ _ (by omega)
  | succ m ih =>
    intro i hm hi
    have hi1 : i < fs.length := by omega
    have hi2 : i < ts.length := by omega
    have d1 : fs.drop i = fs[i] :: fs.drop (i + 1) := List.drop_eq_getElem_cons hi1
    have d2 : ts.drop i = ts[i] :: ts.drop (i + 1) := List.drop_eq_getElem_cons hi2
    have n1 := ih (i + 1) (by omega) (by omega)
    rw [← wrap_succ (by omega)] at n1
    have g1 := strs_get fs i hi1
    have g2 := strs_get ts i hi2
    have hx : ByteArray.extract (bs ad) ((0 : Int)).toNat (((bs fs[i]).size : Int)).toNat = bs (ad.take fs[i].length) := by
      rw [bs_extract, bs_size]; simp
    have hy : ByteArray.extract (bs ad) (((bs fs[i]).size : Int)).toNat (((bs ad).size : Int)).toNat = bs (ad.drop fs[i].length) := by
      rw [bs_extract, bs_size, bs_size, Int.toNat_natCast, Int.toNat_natCast, List.take_of_length_le (by rw [List.length_drop]; omega)]
    have ht' := has_take ad fs[i]
    rw [d1, d2, imgO]
    cases hp : Lib.hasPrefix ad fs[i] with
    | true =>
      rw [if_pos rfl]
      obtain ⟨p1, p2⟩ := ht'.1 hp
      have hb := ht ts[i] (List.getElem_mem hi2)
      have hle := List.length_drop (i := fs[i].length) (l := ad)
      have hsz : (bs ts[i] ++ bs (ad.drop fs[i].length)) = bs (ts[i] ++ ad.drop fs[i].length) := bs_append _ _
      have q1 : ((List.getD (strs' fs) ((i : Int)).toNat (⟨#[]⟩ : ByteArray)).size : Int) ≤ ((bs ad).size : Int) := by rw [g1, bs_size, bs_size]; omega
      have q2 : ByteArray.extract (bs ad) ((0 : Int)).toNat (((List.getD (strs' fs) ((i : Int)).toNat (⟨#[]⟩ : ByteArray)).size : Int)).toNat = List.getD (strs' fs) ((i : Int)).toNat (⟨#[]⟩ : ByteArray) := by rw [g1, hx, p2]
      by_cases h : (ts[i] ++ ad.drop fs[i].length).length > 10
      · rw [if_pos h]
        exact spec_ImageOfAddress_L0a_x1 _ _ _ _ _ (by omega) (by omega) (by omega) q1 (by omega) q2 (by omega) (by rw [g1, g2, hy, bs_size, bs_size]; omega) (by rw [g1, g2, hy, hsz, bs_size]; omega)
      · rw [if_neg h]
        have r := spec_ImageOfAddress_L0a_x2 (bs ad) (strs' ts) (strs' fs) ((List.length (strs' fs) : Nat) : Int) (i : Int) (by omega) (by omega) (by omega) q1 (by omega) q2 (by omega) (by rw [g1, g2, hy, bs_size, bs_size]; omega) (by rw [g1, g2, hy, hsz, bs_size]; omega)
        rw [g1, g2, hy, hsz] at r
        exact r
    | false =>
      rw [if_neg (by simp)]
      have step : ∀ {e : AEx} {st : St}, LoopSC cfg.P 2 (lb P_spec_ImageOfAddress 0) (spec_ImageOfAddress_L0a (bs ad) (strs' ts) (strs' fs) ((List.length (strs' fs) : Nat) : Int) (IntKind.wrap .i64 ((i : Int) + 1))) e st →
          LoopSC cfg.P 2 (lb P_spec_ImageOfAddress 0) (spec_ImageOfAddress_L0a (bs ad) (strs' ts) (strs' fs) ((List.length (strs' fs) : Nat) : Int) (i : Int)) e st := by
        intro e st hn
        by_cases hle : fs[i].length ≤ ad.length
        · refine spec_ImageOfAddress_L0a_i3 _ _ _ _ _ (by omega) (by omega) (by omega) (by rw [g1, bs_size, bs_size]; omega) (by omega) (fun e => ?_) hn
          rw [g1, hx, bs_inj] at e
          rw [ht'.2 ⟨hle, e⟩] at hp
          cases hp
        · exact spec_ImageOfAddress_L0a_i4 _ _ _ _ _ (by omega) (by omega) (by omega) (by rw [g1, bs_size, bs_size]; omega) hn
      cases ho : imgO ad (fs.drop (i + 1)) (ts.drop (i + 1)) with
      | none => rw [ho] at n1; exact step n1
      | some x => obtain ⟨v, b⟩ := x; rw [ho] at n1; exact step n1

def imgV (a b ad : List UInt8) : ByteArray × Bool := if isPair a b = true ∧ isAd ad = true then (imgO ad (adL (treeOf a) []) (adL (treeOf b) [])).getD ((⟨#[]⟩ : ByteArray), false) else ((⟨#[]⟩ : ByteArray), false)

theorem implImg_SC (a b ad : List UInt8) (ha : a.length ≤ 2 ^ 40) (hb : b.length ≤ 2 ^ 40) (had : ad.length ≤ 2 ^ 40) :
    SC cfg.P i_impl_ImageOfAddress [.s (.v (.pr .str .str) (bs a, bs b)), .s (.v .str (bs ad))] (.tup [.v .str (imgV a b ad).1, .v .bool (imgV a b ad).2]) [] := by
  have h1 := pairOf_SC a b ha hb
  have h2 := isAddress_SC ad had
  unfold imgV
  cases hp : isPair a b with
  | false => rw [hp] at h1; rw [if_neg (by simp)]; exact impl_ImageOfAddress_p4 _ _ _ h1
  | true =>
    rw [hp] at h1
    cases hq : isAd ad with
    | false => rw [hq] at h2; rw [if_neg (by simp)]; exact impl_ImageOfAddress_p3 _ _ _ h1 h2
    | true =>
      rw [hq] at h2
      rw [if_pos ⟨rfl, rfl⟩]
      obtain ⟨x1, x2, x3, x4, x5⟩ := isPair_trees hp
      have s3 := (addresses_SC (treeOf b) [] (by omega) (by simp; omega)).view
      have s4 := (addresses_SC (treeOf a) [] (by omega) (by simp; omega)).view
      have l1 := adL_len (treeOf a) []
      have l2 := adL_len (treeOf b) []
      have key := implImg_L ad (adL (treeOf a) []) (adL (treeOf b) []) (by omega) (by omega) had (fun t ht => by have := adL_bound _ _ _ ht; simp at this; omega) _ 0 rfl (by omega)
      rw [List.drop_zero, List.drop_zero] at key
      cases ho : imgO ad (adL (treeOf a) []) (adL (treeOf b) []) with
      | none => rw [ho] at key; exact impl_ImageOfAddress_p2 _ _ _ _ _ _ _ _ _ _ _ h1 h2 s3 s4 key
      | some x => obtain ⟨v, c⟩ := x; rw [ho] at key; exact impl_ImageOfAddress_p1 _ _ _ _ _ _ _ h1 h2 s3 s4 key

theorem specImg_SC (a b ad : List UInt8) (ha : a.length ≤ 2 ^ 40) (hb : b.length ≤ 2 ^ 40) (had : ad.length ≤ 2 ^ 40) :
    SC cfg.P i_spec_ImageOfAddress [.s (.v (.pr .str .str) (bs a, bs b)), .s (.v .str (bs ad))] (.tup [.v .str (imgV a b ad).1, .v .bool (imgV a b ad).2]) [] := by
  have h1 := prGood_SC a b ha hb
  have h2 := mpBits_SC ad had
  unfold imgV
  cases hp : isPair a b with
  | false => rw [hp] at h1; rw [if_neg (by simp)]; exact spec_ImageOfAddress_p4 _ _ h1
  | true =>
    rw [hp] at h1
    cases hq : isAd ad with
    | false => rw [hq] at h2; rw [if_neg (by simp)]; exact spec_ImageOfAddress_p3 _ _ h1 h2
    | true =>
      rw [hq] at h2
      rw [if_pos ⟨rfl, rfl⟩]
      obtain ⟨x1, x2, x3, x4, x5⟩ := isPair_trees hp
      have s3 := (trAddresses_SC (treeOf b) [] (by omega) (by simp; omega)).view
      have s4 := (trAddresses_SC (treeOf a) [] (by omega) (by simp; omega)).view
      rw [← x2] at s3
      rw [← x1] at s4
      have l1 := adL_len (treeOf a) []
      have l2 := adL_len (treeOf b) []
      have key := specImg_L ad (adL (treeOf a) []) (adL (treeOf b) []) (by omega) (by omega) had (fun t ht => by have := adL_bound _ _ _ ht; simp at this; omega) _ 0 rfl (by omega)
      rw [List.drop_zero, List.drop_zero] at key
      cases ho : imgO ad (adL (treeOf a) []) (adL (treeOf b) []) with
      | none => rw [ho] at key; exact spec_ImageOfAddress_p2 _ _ _ _ _ _ _ _ _ _ h1 h2 s3 s4 key
      | some x => obtain ⟨v, c⟩ := x; rw [ho] at key; exact spec_ImageOfAddress_p1 _ _ _ _ _ _ h1 h2 s3 s4 key

/-- The law of ImageOfAddress. -/
theorem law_Img (x y z : ByteArray) (hx : x.size ≤ 2 ^ 63 - 1) (hy : y.size ≤ 2 ^ 63 - 1) (hz : z.size ≤ 2 ^ 63 - 1) :
    SC cfg.P i_laws_FnExactImageOfAddress [.s (.v (.pr .str .str) (x, y)), .s (.v .str z)] (.s (.v .bool true)) [] := by
  obtain ⟨a, rfl⟩ := bs_ex x
  obtain ⟨b, rfl⟩ := bs_ex y
  obtain ⟨d, rfl⟩ := bs_ex z
  rw [bs_size] at hx hy hz
  by_cases h0 : d.length ≤ 1048576
  · by_cases h : a.length + b.length ≤ 1048576
    · exact laws_FnExactImageOfAddress_p3 _ _ _ _ _ _ _ _ _ (by rw [bs_size]; omega) (szPair_in a b h) (by omega) (laws_toPair_p1 _) (specImg_SC a b d (by omega) (by omega) (by omega)) (laws_toPair_p1 _) (implImg_SC a b d (by omega) (by omega) (by omega)) rfl (by simp)
    · exact laws_FnExactImageOfAddress_p2 _ _ _ (by rw [bs_size]; omega) (szPair_out a b hx hy h) (by omega)
  · exact laws_FnExactImageOfAddress_p1 _ _ (by rw [bs_size]; omega)

end Go.AI
