/-
  What is reported is read as it is (chapter 34): the plain law.
-/
import Derived.Test.YtaddbljdheafaaaDoorRep10
namespace Go.Proofs.YtaddbljdheafaaaDoor
open Go.RowKit
set_option linter.unusedVariables false
set_option linter.unusedSimpArgs false
set_option maxRecDepth 20000

theorem text_chars (n : Int) (hn : I64 n) : ∀ c ∈ (textS n).data.toList, c.toNat = 45 ∨ (48 ≤ c.toNat ∧ c.toNat ≤ 57) := by
  have h0 := hn.1
  have h1 := hn.2
  have hd : ∀ m, m < 10 ^ 20 → ∀ c ∈ digs m, 48 ≤ c.toNat ∧ c.toNat ≤ 57 := fun m hm => (digs_can m hm).1.1
  intro c hc
  have h : c ∈ textZ n := by simpa [textS] using hc
  unfold textZ at h
  split at h
  · rcases List.mem_cons.1 h with h | h
    · exact .inl (by rw [h]; rfl)
    · exact .inr (hd _ (by omega) _ h)
  · exact .inr (hd _ (by omega) _ h)
theorem text_not (n : Int) (hn : I64 n) (x : UInt8) (hx : x = 32 ∨ x = 46) : x ∉ (textS n).data.toList := by
  intro h
  have := text_chars n hn x h
  rcases hx with rfl | rfl
  · have e : (32 : UInt8).toNat = 32 := rfl
    omega
  · have e : (46 : UInt8).toNat = 46 := rfl
    omega
theorem dgU_word (n : Nat) (h : n < 16) : (dgU n).toNat ≠ 32 := by
  have h2 : ∀ n : Fin 16, (dgU n.val).toNat ≠ 32 := by decide
  exact h2 ⟨n, h⟩
theorem hex_word (s : ByteArray) (h : 0 < s.size) : isWord (hexS s) := by
  refine ⟨by rw [hexS_size]; omega, fun j hj => ?_⟩
  rw [hexS_size] at hj
  unfold hexS
  rw [gd_list]
  obtain ⟨e1, e2⟩ := hexL_get s s.size (j / 2) (by omega)
  have hg := gd_lt s (j / 2)
  by_cases hm : j % 2 = 0
  · rw [show j = 2 * (j / 2) by omega, e1]
    exact dgU_word _ (by omega)
  · rw [show j = 2 * (j / 2) + 1 by omega, e2]
    exact dgU_word _ (by omega)
theorem sum_no (d : ByteArray) : (32 : UInt8) ∉ (sumS d).data.toList := ((word_iff _).1 (hex_word (le4 (crcOf d.data.toList)) (by rw [le4_size]; decide))).2
theorem sum_ok (d : ByteArray) : sumOk (sumS d) = true := by
  unfold sumOk
  rw [show unE (sumS d) = 0 from (unhex_hex _).2, sumS_size]
  rfl
theorem vt_data (a b : Int) : (vtextS a b).data.toList = (textS a).data.toList ++ 46 :: (textS b).data.toList := by
  unfold vtextS
  rw [ByteArray.data_append, ByteArray.data_append]
  simp
theorem vt_no (a b : Int) (ha : I64 a) (hb : I64 b) : (32 : UInt8) ∉ (vtextS a b).data.toList := by
  rw [vt_data]
  intro h
  rcases List.mem_append.1 h with h | h
  · exact text_not a ha 32 (.inl rfl) h
  · rcases List.mem_cons.1 h with h | h
    · cases h
    · exact text_not b hb 32 (.inl rfl) h
theorem idx_at {x : List UInt8} (t : List UInt8) (h : (46 : UInt8) ∉ x) : Lib.index (x ++ 46 :: t) [46] = x.length := by
  induction x with
  | nil => simp [Lib.index, List.isPrefixOf]
  | cons b l ih =>
    simp only [List.mem_cons, not_or] at h
    have hb : ¬ ([46].isPrefixOf (b :: (l ++ 46 :: t)) = true) := by simp [List.isPrefixOf, h.1]
    rw [List.cons_append, Lib.index, if_neg hb, ih h.2, if_neg (by simp)]
    simp
theorem cut_at46 (A B : List UInt8) (h : (46 : UInt8) ∉ A) : Lib.cut (A ++ 46 :: B) [46] = (A, B, true) := by
  unfold Lib.cut
  rw [idx_at _ h, if_pos (by omega)]
  have e1 : ((A.length : Int)).toNat = A.length := by omega
  rw [e1, List.take_left]
  have e2 : List.drop (A.length + [46].length) (A ++ 46 :: B) = B := by
    have e3 : A ++ 46 :: B = (A ++ [46]) ++ B := by simp
    rw [e3]
    exact List.drop_left' (by simp)
  exact Prod.ext rfl (Prod.ext e2 rfl)
theorem vt_cut (a b : Int) (ha : I64 a) : cF (vtextS a b) = true ∧ cA (vtextS a b) = textS a ∧ cB (vtextS a b) = textS b := by
  have hc : Lib.cut (vtextS a b).data.toList [46] = ((textS a).data.toList, (textS b).data.toList, true) := by
    rw [vt_data]
    exact cut_at46 _ _ (text_not a ha 46 (.inr rfl))
  refine ⟨by unfold cF; rw [hc], ?_, ?_⟩
  · unfold cA
    rw [hc]
  · unfold cB
    rw [hc]
theorem vt_ok (a b : Int) (ha : I64 a) (hb : I64 b) : vOk (vtextS a b) = rightB a b ∧ readV (cA (vtextS a b)) = a ∧ readV (cB (vtextS a b)) = b := by
  obtain ⟨h1, h2, h3⟩ := vt_cut a b ha
  obtain ⟨e1, e2⟩ := read_text a ha.1 ha.2
  obtain ⟨e3, e4⟩ := read_text b hb.1 hb.2
  refine ⟨?_, by rw [h2, e2], by rw [h3, e4]⟩
  unfold vOk
  rw [h1, h2, h3, e1, e2, e3, e4]
  simp
theorem clash_cuts (ex p q : Int) (e : ByteArray) (r s : Int) (f : ByteArray) (hx : I64 ex) (hp : I64 p) (hq : I64 q) (hr : I64 r) (hs : I64 s) : cuts (jn (clashL ex p q e r s f)) = clashL ex p q e r s f := by
  refine cuts_jn (by simp [clashL]) ?_
  intro x h
  simp only [clashL, List.mem_cons, List.not_mem_nil, or_false] at h
  rcases h with rfl | rfl | rfl | rfl | rfl | rfl | rfl | rfl
  · decide +kernel
  · exact text_not ex hx 32 (.inl rfl)
  · decide +kernel
  · exact vt_no p q hp hq
  · exact sum_no e
  · decide +kernel
  · exact vt_no r s hr hs
  · exact sum_no f
/-- what is read of what is reported -/
theorem rd_back (ex p q : Int) (e : ByteArray) (r s : Int) (f : ByteArray) (hx : I64 ex) (hp : I64 p) (hq : I64 q) (hr : I64 r) (hs : I64 s) :
    rdV (cuts (stS ex 1 0 0 ⟨#[]⟩ p q e r s f)) = if decide (0 ≤ ex) && rightB p q && rightB r s then .tuple #[.int .i64 ex, VV p q, VV r s, .int .i64 0] else badV := by
  have h0 : stS ex 1 0 0 ⟨#[]⟩ p q e r s f = jn (clashL ex p q e r s f) := if_pos rfl
  rw [h0, clash_cuts ex p q e r s f hx hp hq hr hs]
  obtain ⟨e1, e2⟩ := read_text ex hx.1 hx.2
  obtain ⟨g1, g2, g3⟩ := vt_ok p q hp hq
  obtain ⟨g4, g5, g6⟩ := vt_ok r s hr hs
  unfold rdV
  have hg : goodR (clashL ex p q e r s f) = (decide (0 ≤ ex) && rightB p q && rightB r s) := by
    unfold goodR clashL
    simp only [List.getD_cons_zero, List.getD_cons_succ, List.length_cons, List.length_nil]
    rw [ok_split, ok_split, sum_ok, sum_ok, g1, g4, e1, e2]
    simp
  have hv : goodV (clashL ex p q e r s f) = .tuple #[.int .i64 ex, VV p q, VV r s, .int .i64 0] := by
    unfold goodV clashL
    simp only [List.getD_cons_zero, List.getD_cons_succ]
    rw [e2, g2, g3, g5, g6]
  rw [hg, hv]
theorem rd_form (ws : List ByteArray) : ∃ n a b c d e, rdV ws = .tuple #[.int .i64 n, .agg #[.int .i64 a, .int .i64 b], .agg #[.int .i64 c, .int .i64 d], .int .i64 e] := by
  unfold rdV
  split
  · exact ⟨_, _, _, _, _, _, rfl⟩
  · exact ⟨_, _, _, _, _, _, rfl⟩
end Go.Proofs.YtaddbljdheafaaaDoor
