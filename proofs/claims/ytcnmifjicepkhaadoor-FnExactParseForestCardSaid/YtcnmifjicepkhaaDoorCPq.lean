/- Contracts: texts split at spaces; copies of rows; the law of ParseForest. -/
import Derived.Test.YtcnmifjicepkhaaDoorShP
import Derived.Test.YtcnmifjicepkhaaDoorGP
import Derived.Test.YtcnmifjicepkhaaDoorCQ
import Derived.Test.YtcnmifjicepkhaaDoorCSp
import Derived.Test.YtcnmifjicepkhaaDoorCL
import Derived.Test.YtcnmifjicepkhaaDoorAiSh2
set_option autoImplicit false
set_option maxRecDepth 100000
set_option linter.unusedVariables false
namespace Go.AI
open Go.Proofs

theorem rows_mk_strs {w : World} {B : Nat → Prop} : ∀ l : List ByteArray, RowsOf (RepK w B .str) l (l.map Value.string)
  | [] => rfl
  | x :: l => ⟨[.string x], l.map Value.string, rfl, rfl, rows_mk_strs l⟩

theorem bs_back (x : ByteArray) : bs x.data.toList = x := by obtain ⟨⟨l⟩⟩ := x; rfl

theorem splitB_spl (b : UInt8) (l : List UInt8) : Lib.splitB ⟨#[b]⟩ 0 (Lib.countB (bs l) ⟨#[b]⟩) (bs l) = txs (spl b [] l) := by
  have h := Lib.splitB_data (⟨#[b]⟩ : ByteArray) 0 (Lib.countB (bs l) ⟨#[b]⟩) (bs l)
  have e : Lib.splitK [b] 0 (Lib.count l [b]) l = spl b [] l := splitK_spl b l.length l (Nat.le_refl _)
  have h2 : (Lib.splitB ⟨#[b]⟩ 0 (Lib.countB (bs l) ⟨#[b]⟩) (bs l)).map (fun x : ByteArray => x.data.toList) = spl b [] l := h.trans e
  rw [txs, ← h2, List.map_map]
  have : (bs ∘ fun x : ByteArray => x.data.toList) = id := funext bs_back
  rw [this, List.map_id]

theorem spl_len (b : UInt8) : ∀ (l acc : List UInt8), (spl b acc l).length ≤ l.length + 1
  | [], acc => by simp [spl]
  | c :: r, acc => by
    rw [spl]
    split
    · have := spl_len b r []; simp; omega
    · have := spl_len b r (acc ++ [c]); simp; omega

theorem spl_mem (b : UInt8) : ∀ (l acc x : List UInt8), x ∈ spl b acc l → x.length ≤ acc.length + l.length
  | [], acc, x, h => by simp [spl] at h; subst h; simp
  | c :: r, acc, x, h => by
    rw [spl] at h
    split at h
    · rcases List.mem_cons.1 h with e | e
      · subst e; omega
      · have := spl_mem b r [] x e; simp at this; simp; omega
    · have := spl_mem b r (acc ++ [c]) x h; simp at this; simp; omega

theorem spl_ne (b : UInt8) : ∀ (l acc : List UInt8), spl b acc l ≠ []
  | [], acc => by simp [spl]
  | c :: r, acc => by
    rw [spl]
    split
    · simp
    · exact spl_ne b r _

theorem strings_Split_SC (l : List UInt8) (b : UInt8) (hl : l.length ≤ 2 ^ 30) : SC cfg.P i_strings_Split [.s (.v .str (bs l)), .s (.v .str (⟨#[b]⟩ : ByteArray))] (.s (.own t_string .str (txs (spl b [] l)))) [] := by
  refine ⟨⟨_, get_strings_Split, by kernel_rfl, by decide⟩, fun w B vs mv hB hd hA => ?_⟩
  obtain ⟨u, us, rfl, hu, u', us', rfl, hu', rfl, rfl⟩ := hA
  have e1 : u = .string (bs l) := RepV.str hu
  have e2 : u' = .string (⟨#[b]⟩ : ByteArray) := RepV.str hu'
  subst e1; subst e2
  have hlen := Lib.splitB_all (⟨#[b]⟩ : ByteArray) (Nat.le_refl 1) 0 _ (bs l) rfl
  rw [splitB_spl] at hlen
  have hsp := spl_len b l []
  have htl : (txs (spl b [] l)).length = (spl b [] l).length := List.length_map ..
  refine (Tryd.strings_Split (bs l) b w (by rw [bs_size]; omega)).mono fun e w' ⟨he, hw⟩ => ?_
  rw [splitB_spl] at hw
  rw [← hlen] at he
  subst hw
  refine ⟨_, [w.heap.size], he, ⟨rfl, rfl, rfl, ?_, fun k hk _ => ?_⟩, by simp, by simp, ⟨⟨(txs (spl b [] l)).map Value.string, ⟨?_, .inr ⟨w.heap.size, _, _, rfl, Nat.le_refl _, heap_alloc_new w _, Nat.le_refl _, ?_, ?_, ?_⟩⟩, rows_mk_strs _⟩, rfl⟩, rfl⟩
  · exact (World.grownBy_alloc w _ none).size
  · exact (World.grownBy_alloc w _ none).block k hk (by simp)
  · simp [Kd.n]
  · simp only [maxLen]; omega
  · simp [Kd.n]
  · rw [List.take_of_length_le (by simp [Kd.n])]

theorem slices_Clone_SC (l : List ByteArray) (hl : l ≠ []) (hn : l.length ≤ 2 ^ 30) : SC cfg.P i_slices_Clone [.s (.v (.sl .str) l)] (.s (.own t_string .str l)) [] := by
  refine ⟨⟨_, get_slices_Clone, by kernel_rfl, by decide⟩, fun w B vs mv hB hd hA => ?_⟩
  obtain ⟨u, us, rfl, hu, rfl, rfl⟩ := hA
  obtain ⟨bk, o, c, rfl, hc, hb, hcells⟩ := strs_cells hu hl
  refine (Tryd.slices_Clone bk o l.length c l w (Nat.le_refl _) (by omega) (fun j hj => ?_)).mono fun e w' ⟨v, he, ho, _, hw⟩ => ?_
  · rw [hcells j (l.getD j ByteArray.empty)]
    rw [List.getD_eq_getElem?_getD, List.getElem?_eq_getElem hj]; rfl
  · rw [List.take_length] at ho
    refine ⟨v, (blk v).toList, he, Fr.ofBelow hw, ?_, fun b hbm => ?_, ⟨⟨l.map Value.string, ?_, rows_mk_strs l⟩, rfl⟩, rfl⟩
    · cases blk v <;> simp
    · rcases ho.2 with ⟨rfl, _⟩ | ⟨g, cap, cur, rfl, hg, _⟩
      · simp [blk] at hbm
      · simp [blk] at hbm; omega
    · exact ho

/-- What a text of a forest is. -/
def pfV (l : List UInt8) : List (List UInt8) := if l = [45] then [] else if isFo (spl 32 [] l) = true then spl 32 [] l else []
def pfB (l : List UInt8) : Bool := if l = [45] then true else isFo (spl 32 [] l)

theorem implPf_SC (l : List UInt8) (hl : l.length ≤ 2 ^ 29) : SC cfg.P i_impl_ParseForest [.s (.v .str (bs l))] (.tup [.own t_string .str (txs (pfV l)), .v .bool (pfB l)]) [] := by
  unfold pfV pfB
  by_cases h : l = [45]
  · subst h
    rw [if_pos rfl, if_pos rfl]
    exact impl_ParseForest_p1 _ rfl
  · rw [if_neg h, if_neg h]
    have hne : bs l ≠ (⟨#[45]⟩ : ByteArray) := fun e => h (bs_inj.1 (show bs l = bs [45] from e))
    have h1 := strings_Split_SC l 32 (by omega)
    have hsp := spl_len 32 l []
    obtain ⟨ts, _, h2⟩ := forestOf_SC (spl 32 [] l) (fun x hx => by have := spl_mem 32 l [] x hx; simp at this; omega) (by omega)
    have h3 := impl_IsForest_p1 _ _ _ h2
    have hne2 : txs (spl 32 [] l) ≠ [] := by simpa using spl_ne 32 l []
    have h4 := slices_Clone_SC (txs (spl 32 [] l)) hne2 (by have : (txs (spl 32 [] l)).length = (spl 32 [] l).length := List.length_map ..
                                                            omega)
    cases hb : isFo (spl 32 [] l) with
    | true => rw [hb] at h3; rw [if_pos rfl]; exact impl_ParseForest_p2 _ _ _ hne h1 h3 h4
    | false => rw [hb] at h3; rw [if_neg (by simp)]; exact impl_ParseForest_p3 _ _ hne h1 h3

theorem specPf_L (fs : List (List UInt8)) (hf : fs.length ≤ 2 ^ 31) : ∀ m i : Nat, fs.length - i = m → i ≤ fs.length → i ≤ 8 →
    (fs.length ≤ 8 → LoopSC cfg.P 1 (lb P_spec_ParseForest 0) (spec_ParseForest_L0a ((List.length (txs fs) : Nat) : Int) (i : Int) (txs (fs.take i)) (txs fs)) (.exit 0) (spec_ParseForest_L0X2 ((List.length (txs fs) : Nat) : Int) (fs.length : Int) false (txs fs) (txs fs))) ∧
    (8 < fs.length → LoopSC cfg.P 1 (lb P_spec_ParseForest 0) (spec_ParseForest_L0a ((List.length (txs fs) : Nat) : Int) (i : Int) (txs (fs.take i)) (txs fs)) .ret (spec_ParseForest_L0X1 false ([] : List ByteArray))) := by
  have lf : (txs fs).length = fs.length := List.length_map ..
  intro m
  induction m with
  | zero =>
    intro i hm hi h8
    have e : i = fs.length := by omega
    subst e
    rw [List.take_length]
    exact ⟨fun _ => spec_ParseForest_L0a_x3 _ _ _ _ (by omega), fun h => by omega⟩
  | succ m ih =>
    intro i hm hi h8
    have hi1 : i < fs.length := by omega
    have lt : (txs (fs.take i)).length = i := by rw [txs, List.length_map, List.length_take]; omega
    by_cases he : i = 8
    · exact ⟨fun h => by omega, fun _ => spec_ParseForest_L0a_x1 _ _ _ _ (by omega) (by omega) (by omega) (by omega) (by rw [lt, he]; rfl)⟩
    · obtain ⟨n1, n2⟩ := ih (i + 1) (by omega) (by omega) (by omega)
      have hg : List.getD (txs fs) ((i : Int)).toNat (⟨#[]⟩ : ByteArray) = bs fs[i] := by
        rw [Int.toNat_natCast, txs_get fs i hi1, List.getD_eq_getElem?_getD, List.getElem?_eq_getElem hi1]; rfl
      have ht : txs (fs.take (i + 1)) = txs (fs.take i) ++ [List.getD (txs fs) ((i : Int)).toNat (⟨#[]⟩ : ByteArray)] := by
        rw [hg, ← List.take_append_getElem hi1, txs, txs, List.map_append]; rfl
      rw [← wrap_succ (by omega), ht] at n1 n2
      have st : ∀ {e : AEx} {st : St} (_ : LoopSC cfg.P 1 (lb P_spec_ParseForest 0) (spec_ParseForest_L0a ((List.length (txs fs) : Nat) : Int) (IntKind.wrap .i64 ((i : Int) + 1)) (txs (fs.take i) ++ [List.getD (txs fs) ((i : Int)).toNat (⟨#[]⟩ : ByteArray)]) (txs fs)) e st),
          LoopSC cfg.P 1 (lb P_spec_ParseForest 0) (spec_ParseForest_L0a ((List.length (txs fs) : Nat) : Int) (i : Int) (txs (fs.take i)) (txs fs)) e st := fun hn =>
        spec_ParseForest_L0a_i2 _ _ _ _ (by omega) (by omega) (by omega) (by omega) (by rw [lt]; omega) (sizeOK_one (by omega)) hn
      exact ⟨fun h => st (n1 h), fun h => st (n2 h)⟩

theorem specPf_SC (l : List UInt8) (hl : l.length ≤ 2 ^ 30) : SC cfg.P i_spec_ParseForest [.s (.v .str (bs l))] (.tup [.own t_string .str (txs (pfV l)), .v .bool (pfB l)]) [] := by
  unfold pfV pfB
  by_cases h : l = [45]
  · subst h
    rw [if_pos rfl, if_pos rfl]
    exact spec_ParseForest_p1 _ rfl
  · rw [if_neg h, if_neg h]
    have hne : bs l ≠ (⟨#[45]⟩ : ByteArray) := fun e => h (bs_inj.1 (show bs l = bs [45] from e))
    have h1 := l1Split_SC l 32 hl
    have hsp := spl_len 32 l []
    have h2 := foGood_SC (spl 32 [] l) (fun x hx => by have := spl_mem 32 l [] x hx; simp at this; omega) (by omega)
    obtain ⟨n1, n2⟩ := specPf_L (spl 32 [] l) (by omega) _ 0 rfl (by omega) (by omega)
    by_cases h8 : (spl 32 [] l).length ≤ 8
    · cases hb : isFo (spl 32 [] l) with
      | true => rw [hb] at h2; rw [if_pos rfl]; exact spec_ParseForest_p3 _ _ _ _ _ _ _ hne h1 (n1 h8) h2
      | false => rw [hb] at h2; rw [if_neg (by simp)]; exact spec_ParseForest_p4 _ _ _ _ _ _ _ hne h1 (n1 h8) h2
    · have hb : isFo (spl 32 [] l) = false := by
        cases hb : isFo (spl 32 [] l) with
        | false => rfl
        | true => exact absurd (isFo_spec hb).1 h8
      rw [hb, if_neg (by simp)]
      exact spec_ParseForest_p2 _ _ _ _ hne h1 (n2 (by omega))

/-- The law of ParseForest. -/
theorem law_Pf (x : ByteArray) (hx : x.size ≤ 2 ^ 63 - 1) : SC cfg.P i_laws_FnExactParseForest [.s (.v .str x)] (.s (.v .bool true)) [] := by
  obtain ⟨l, rfl⟩ := bs_ex x
  rw [bs_size] at hx
  by_cases h : l.length ≤ 1048576
  · have hlen : (txs (pfV l)).length ≤ 2 ^ 30 := by
      have hsp := spl_len 32 l []
      have e : (txs (pfV l)).length = (pfV l).length := List.length_map ..
      rw [e]
      unfold pfV
      split
      · simp
      · split
        · omega
        · simp
    have h1 := specPf_SC l (by omega)
    have h2 := implPf_SC l (by omega)
    have h3 := eqStringS_SC (txs (pfV l)) (by omega)
    have h4 := markStringS_SC (txs (pfV l)) (by omega) 1 (by omega) (by omega)
    have h5 := heldStringS_SC 1 (txs (pfV l)).length (by omega) (by omega) (by omega)
    exact laws_FnExactParseForest_p2 _ _ _ _ _ _ _ _ _ _ _ (by rw [bs_size]; omega) h1 h2 h3 (by simp) h4 h5 (by omega) rfl h2 h3 (by simp) h5 (by omega) rfl
  · exact laws_FnExactParseForest_p1 _ (by rw [bs_size]; omega)

end Go.AI
