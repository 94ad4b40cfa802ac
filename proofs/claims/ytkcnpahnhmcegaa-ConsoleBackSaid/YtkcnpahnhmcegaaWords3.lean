/-
  The words of a line (chapter 1): count.Words' walk.
-/
import Derived.Test.YtkcnpahnhmcegaaWords2
namespace Go.Proofs.Ytkcnpahnhmcegaa
open Go.RowKit
open Go.Lib
set_option linter.unusedVariables false
set_option linter.unusedSimpArgs false
theorem Strs.iter {w : World} {B K : Nat} {v : Value} {l : List ByteArray} (h : Strs w B v l) (hK : K < B) (s : ByteArray) (pos : Nat) : Strs (w.iterAt K s pos) B v l := by
  refine ⟨h.1, h.2.imp id ?_⟩
  rintro ⟨g, cap, cur, h1, h2, h3, h4⟩
  exact ⟨g, cap, cur, h1, h2, by rw [iterAt_other w K g s pos (by omega)]; exact h3, h4⟩
theorem Strs.own_ne {w : World} {B K : Nat} {v : Value} {l : List ByteArray} (h : Strs w B v l) (hK : K < B) : some K ≠ v.ownBlock := by
  rcases h.2 with ⟨e, _⟩ | ⟨g, cap, cur, e, hg, _⟩
  · subst e; intro h; cases h
  · subst e; simp [Value.ownBlock]; omega
theorem Strs.mono {w : World} {B B' : Nat} {v : Value} {l : List ByteArray} (h : Strs w B v l) (hB : B' ≤ B) : Strs w B' v l := by
  refine ⟨h.1, h.2.imp id ?_⟩
  rintro ⟨g, cap, cur, h1, h2, h3⟩
  exact ⟨g, cap, cur, h1, Nat.le_trans hB h2, h3⟩
theorem iterPos_of {w : World} {K : Nat} {s : ByteArray} {p : Nat} (h : w.heap[K]? = some (.stringIter s p)) : w.iterPos K = p := by
  unfold World.iterPos; rw [h]
set_option maxHeartbeats 3200000 in
theorem words_any (s : ByteArray) (w : World) (hs : s.size ≤ 549755813888) : Calls Try.prog 24 #[.string s] w fun e w' => (∃ v, e = .returned v ∧ Strs w' w.heap.size v (wordsL s)) ∧ Below w.heap.size w w' := by
  go_enter Try.func24, Try.ntmps24
  go_wp2
  go_loopw [3, 4] (fun v f wr => ∃ pos p : Nat, ∃ l : List ByteArray, pos ≤ s.size ∧ Hid (wr.heap[w.heap.size]? = some (.stringIter s pos)) ∧ Hid (wst s pos = (p, l)) ∧ f = .int .i64 (if p < pos then (p : Int) else -1) ∧ Hid (Strs wr (w.heap.size + 1) v l) ∧ Hid (Below w.heap.size w wr)) (fun _ _ wr => s.size - wr.iterPos w.heap.size)
  case atStart =>
    refine ⟨0, 0, [], Nat.zero_le _, ?_, rfl, rfl, Strs.nil _ _, ?_⟩
    · exact World.iter_heap w s 0
    · exact (Below.refl _ _).alloc (Nat.le_refl _) _
  case round =>
    obtain ⟨pos, p, l, hpos, HI, HW, rfl, HS, HB⟩ := hrel
    have hi := HI.out
    by_cases hlt : pos < s.size
    · obtain ⟨r, d, hd, hr⟩ : ∃ r d, Utf8.decode s pos = (r, d) ∧ ((gd s pos = 32 ∧ r = 32 ∧ d = 1) ∨ (gd s pos ≠ 32 ∧ r ≠ 32 ∧ 1 ≤ d ∧ pos + d ≤ s.size ∧ wst s (pos + d) = wst s pos)) := by
        refine ⟨(Utf8.decode s pos).1, (Utf8.decode s pos).2, rfl, ?_⟩
        by_cases ha : gd s pos < 128
        · have e := decode_ascii s pos hlt (by rw [gd_eq hlt]; exact ha)
          rw [e, gd_eq hlt]
          by_cases hb : gd s pos = 32
          · exact .inl ⟨hb, hb, rfl⟩
          · refine .inr ⟨hb, hb, Nat.le_refl _, hlt, wst_skip s pos 1 (fun j hj => ?_)⟩
            obtain rfl : j = 0 := by omega
            exact hb
        · have e := decode_high s pos hlt (by rw [gd_eq hlt]; omega)
          have e2 := decode_skip s pos hlt (by omega)
          refine .inr ⟨by omega, by omega, e.2, ?_, wst_skip s pos _ (fun j hj => by have := (e2 j hj).2; omega)⟩
          have := (e2 ((Utf8.decode s pos).2 - 1) (by omega)).1
          omega
      have hnx := fun ty => run_next_any_at (P := Try.prog) wr w.heap.size s pos ty hi hlt
      rw [hd] at hnx
      have HI1 := Lib.hid (iterAt_heap wr w.heap.size s pos (pos + d) hi)
      have HB1 := Lib.hid (below_iterAt HB.out (Nat.le_refl _) s (pos + d))
      have HS1 := Lib.hid (HS.out.iter (Nat.lt_succ_self _) s (pos + d))
      have HP := Lib.hid (iterPos_of hi)
      have HP1 := Lib.hid (iterPos_of HI1.out)
      have hple : Hid (p ≤ pos) := by have := wst_le s pos; rw [HW.out] at this; exact this
      clear hi hd
      rcases hr with ⟨hg, rfl, rfl⟩ | ⟨hg, hr, hd1, hdle, hskip⟩
      · have hstep : wst s (pos + 1) = (pos + 1, if p < pos then l ++ [s.extract p pos] else l) := by
          show (if gd s pos = 32 then (pos + 1, if (wst s pos).1 < pos then (wst s pos).2 ++ [s.extract (wst s pos).1 pos] else (wst s pos).2) else wst s pos) = _
          rw [if_pos hg, HW.out]
        clear hg
        by_cases hp : p < pos
        · rw [if_pos hp] at hstep
          have HST := Lib.hid hstep
          have hll : Hid (l.length ≤ s.size) := by have := wst_len s pos; rw [HW.out] at this; show l.length ≤ s.size; have h2 : l.length ≤ pos := this; omega
          have hp0 : (0 : Int) ≤ (p : Int) := by omega
          have hpp : (p : Int) ≤ (pos : Int) := by omega
          have hps : (pos : Int) ≤ (s.size : Int) := by omega
          have HSZ := Lib.hid (show w.heap.size + 1 ≤ (wr.iterAt w.heap.size s (pos + 1)).heap.size by rw [iterAt_size]; have := (Array.getElem?_eq_some_iff.1 HI.out).1; omega)
          clear hstep
          have HF : Hid ((if p < pos then (p : Int) else -1) = (p : Int)) := if_pos hp
          rw [HF.out]
          go_wp2_with (at_builtin; refine app_str2 rfl (.tmp 20) (.tmp 25) rfl (wr.iterAt w.heap.size s (pos + 1)) w (w.heap.size + 1) w.heap.size u3 l (s.extract p pos) rfl rfl HS1.out (by have := hll.out; omega) HSZ.out (Nat.le_succ _) HB1.out ?_; intro v' w' hS3 hB3 hK3)
          have hI3 := (hK3 w.heap.size (by have := HSZ.out; omega) (HS1.out.own_ne (Nat.lt_succ_self _))).trans HI1.out
          exact ⟨⟨pos + 1, pos + 1, _, by omega, hI3, HST.out, by rw [if_neg (Nat.lt_irrefl _)], hS3, hB3⟩, by rw [HP.out, iterPos_of hI3]; omega⟩
        · rw [if_neg hp] at hstep
          have HST := Lib.hid hstep
          clear hstep
          have HF : Hid ((if p < pos then (p : Int) else -1) = -1) := if_neg hp
          rw [HF.out]
          clear hp
          go_wp2
          exact ⟨⟨pos + 1, pos + 1, l, by omega, HI1.out, HST.out, by rw [if_neg (Nat.lt_irrefl _)], HS1.out, HB1.out⟩, by rw [HP.out, HP1.out]; omega⟩
      · have hr32 : ¬ (r : Int) = 32 := by omega
        have hr33 : ((r : Int) != 32) = true := by rw [bne_iff_ne]; omega
        have HST := Lib.hid (hskip.trans HW.out)
        have HD := Lib.hid (And.intro hd1 hdle)
        clear hskip hr hg hd1 hdle
        by_cases hp : p < pos
        · have HF : Hid ((if p < pos then (p : Int) else -1) = (p : Int)) := if_pos hp
          have HF2 : Hid ((p : Int) = if p < pos + d then (p : Int) else -1) := (if_pos (by omega)).symm
          have hp0 : (0 : Int) ≤ (p : Int) := by omega
          rw [HF.out]
          go_wp2
          exact ⟨⟨pos + d, p, l, HD.out.2, HI1.out, HST.out, congrArg (Value.int IntKind.i64) HF2.out, HS1.out, HB1.out⟩, by rw [HP.out, HP1.out]; have := HD.out.1; omega⟩
        · have HF : Hid ((if p < pos then (p : Int) else -1) = -1) := if_neg hp
          have HF2 : Hid ((pos : Int) = if p < pos + d then (p : Int) else -1) := by
            show _ = _; have := HD.out.1; have := hple.out; rw [if_pos (by omega)]; omega
          rw [HF.out]
          clear hp
          go_wp2
          exact ⟨⟨pos + d, p, l, HD.out.2, HI1.out, HST.out, congrArg (Value.int IntKind.i64) HF2.out, HS1.out, HB1.out⟩, by rw [HP.out, HP1.out]; have := HD.out.1; omega⟩
    · have hnx := fun ty => run_next_end_at (P := Try.prog) wr w.heap.size s pos ty hi hlt
      have hpe : pos = s.size := by omega
      subst hpe
      have hle := wst_le s s.size
      have hll := wst_len s s.size
      rw [HW.out] at hle hll
      have HSZ := Lib.hid (show w.heap.size + 1 ≤ wr.heap.size by have := (Array.getElem?_eq_some_iff.1 hi).1; omega)
      by_cases hp : p < s.size
      · have HWL : Hid (wordsL s = l ++ [s.extract p s.size]) := by show _ = _; unfold wordsL; rw [HW.out]; exact if_pos hp
        have HF : Hid ((if p < s.size then (p : Int) else -1) = (p : Int)) := if_pos hp
        have HL := Lib.hid hll
        have hp0 : (0 : Int) ≤ (p : Int) := by omega
        have hpp : (p : Int) ≤ (s.size : Int) := by omega
        rw [HF.out]
        clear hi hle hll
        go_wp2_with (at_builtin; refine app_str2 rfl (.tmp 37) (.tmp 41) rfl wr w (w.heap.size + 1) w.heap.size u3 l (s.extract p s.size) rfl rfl HS.out (by have h : l.length ≤ s.size := HL.out; omega) HSZ.out (Nat.le_succ _) HB.out ?_; intro v' w' hS3 hB3 hK3)
        go_ret
        exact ⟨⟨_, rfl, by rw [HWL.out]; exact hS3.mono (Nat.le_succ _)⟩, hB3⟩
      · have HWL : Hid (wordsL s = l) := by show _ = _; unfold wordsL; rw [HW.out]; exact if_neg hp
        have HF : Hid ((if p < s.size then (p : Int) else -1) = -1) := if_neg hp
        rw [HF.out]
        clear hi hle hll hp
        go_wp2
        go_ret
        exact ⟨⟨_, rfl, by rw [HWL.out]; exact HS.out.mono (Nat.le_succ _)⟩, HB.out⟩
end Go.Proofs.Ytkcnpahnhmcegaa
