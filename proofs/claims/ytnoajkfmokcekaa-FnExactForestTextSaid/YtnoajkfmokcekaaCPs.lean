/- Contracts: lists of texts that a law reads. -/
import Derived.Test.YtnoajkfmokcekaaCPg
import Derived.Test.YtnoajkfmokcekaaGO
set_option autoImplicit false
set_option maxRecDepth 100000
set_option linter.unusedVariables false
namespace Go.AI
open Go.Proofs

theorem szStringS_SC (fs : List (List UInt8)) (hf : fs.length ≤ 2 ^ 63 - 1) (hs : ∀ a ∈ fs, a.length ≤ 2 ^ 63 - 1) (s : Int) (h0 : 0 ≤ s) (h1 : s ≤ 2 ^ 20) :
    (∃ c : Int, 0 ≤ c ∧ c ≤ s ∧ (fs.length : Int) ≤ s ∧ (∀ a ∈ fs, (a.length : Int) ≤ s) ∧ SC cfg.P i_laws_szStringS [.s (.v (.sl .str) (txs fs)), .s (.v (.int .i64) s)] (.s (.v (.int .i64) c)) []) ∨
    SC cfg.P i_laws_szStringS [.s (.v (.sl .str) (txs fs)), .s (.v (.int .i64) s)] (.s (.v (.int .i64) (-1 : Int))) [] := by
  have hl : List.length (txs fs) = fs.length := List.length_map ..
  have ew : IntKind.wrap .i64 (s - ((List.length (txs fs) : Nat) : Int)) = s - (fs.length : Int) := by rw [hl, w64] <;> omega
  by_cases hlen : s - (fs.length : Int) < 0
  · exact .inr (laws_szStringS_p1 _ _ (by rw [ew]; exact hlen))
  · have key : ∀ (m i : Nat) (c : Int), fs.length - i = m → i ≤ fs.length → 0 ≤ c → c ≤ s →
        (∃ c', 0 ≤ c' ∧ c' ≤ s ∧ (∀ a ∈ fs.drop i, (a.length : Int) ≤ s) ∧ LoopSC cfg.P 2 (lb P_laws_szStringS 0) (laws_szStringS_L0a (txs fs) c (i : Int)) (.exit 0) (laws_szStringS_L0X2 (txs fs) c' (fs.length : Int) false)) ∨
        LoopSC cfg.P 2 (lb P_laws_szStringS 0) (laws_szStringS_L0a (txs fs) c (i : Int)) .ret (laws_szStringS_L0X1 (-1 : Int)) := by
      intro m
      induction m with
      | zero =>
        intro i c hm hi h0 hc
        have e : i = fs.length := by omega
        subst e
        refine .inl ⟨c, h0, hc, ?_, laws_szStringS_L0a_x3 _ _ _ (by omega)⟩
        rw [List.drop_length]
        intro a ha
        cases ha
      | succ m ih =>
        intro i c hm hi h0 hc
        have hi1 : i < fs.length := by omega
        have hg := txs_get fs i hi1 (⟨#[]⟩ : ByteArray)
        have hb := hs _ (gD_mem hi1 [])
        have hd : fs.drop i = fs.getD i [] :: fs.drop (i + 1) := by
          rw [List.drop_eq_getElem_cons hi1, List.getD_eq_getElem?_getD, List.getElem?_eq_getElem hi1]; rfl
        have ec : IntKind.wrap .i64 (c - (((List.getD (txs fs) ((i : Int)).toNat (⟨#[]⟩ : ByteArray))).size : Int)) = c - ((fs.getD i []).length : Int) := by
          rw [Int.toNat_natCast, hg, bs_size, w64] <;> omega
        by_cases h : c - ((fs.getD i []).length : Int) < 0
        · exact .inr (laws_szStringS_L0a_x1 _ _ _ (by omega) (by omega) (by omega) (by rw [ec]; exact h))
        · rcases ih (i + 1) (c - ((fs.getD i []).length : Int)) (by omega) (by omega) (by omega) (by omega) with ⟨c', g1, g2, g3, hn⟩ | hn
          · rw [← wrap_succ (by omega), ← ec] at hn
            refine .inl ⟨c', g1, g2, ?_, laws_szStringS_L0a_i2 _ _ _ (by omega) (by omega) (by omega) (by rw [ec]; exact h) hn⟩
            rw [hd]
            intro a ha
            rcases List.mem_cons.1 ha with rfl | ha
            · omega
            · exact g3 a ha
          · rw [← wrap_succ (by omega), ← ec] at hn
            exact .inr (laws_szStringS_L0a_i2 _ _ _ (by omega) (by omega) (by omega) (by rw [ec]; exact h) hn)
    rcases key fs.length 0 (s - (fs.length : Int)) (by omega) (by omega) (by omega) (by omega) with ⟨c', g1, g2, g3, hL⟩ | hL
    · rw [← ew] at hL
      exact .inl ⟨c', g1, g2, by omega, by simpa using g3, laws_szStringS_p3 _ _ _ _ _ _ (by rw [ew]; omega) hL⟩
    · rw [← ew] at hL
      exact .inr (laws_szStringS_p2 _ _ _ (by rw [ew]; omega) hL)

theorem toStringS_SC (l : List ByteArray) (hl : l.length ≤ 2 ^ 30) : SC cfg.P i_laws_toStringS [.s (.v (.sl .str) l)] (.s (.own t_string .str l)) [] := by
  have key := loop_up (P := cfg.P) (np := 1) (c := lb P_laws_toStringS 0) (fun i (m : List ByteArray) => laws_toStringS_L0a l (i : Int) m) (fun m => laws_toStringS_L0X1 l (l.length : Int) false m)
    (fun i m => m.set i (l.getD i (⟨#[]⟩ : ByteArray))) (fun _ m => m.length = l.length) l.length
    (fun i m hi hm => ⟨by rw [List.length_set]; exact hm, fun e st hn => by
      rw [← wrap_succ (by omega)] at hn
      exact laws_toStringS_L0a_i1 _ _ _ (by omega) (by omega) (by omega) (by omega) (by omega) hn⟩)
    (fun m hm => laws_toStringS_L0a_x2 _ _ _ (by omega)) l.length 0 (List.replicate l.length (⟨#[]⟩ : ByteArray)) (by omega) (by simp)
  have hL := key.1
  rw [itr_setR (fun i => l.getD i (⟨#[]⟩ : ByteArray)) l.length 0 _ (by simp), List.take_zero, List.nil_append, map_range' l (⟨#[]⟩ : ByteArray) (fun x => x), List.map_id'] at hL
  exact laws_toStringS_p1 _ _ _ _ _ (by omega) (by unfold lim; omega) rfl hL

end Go.AI
