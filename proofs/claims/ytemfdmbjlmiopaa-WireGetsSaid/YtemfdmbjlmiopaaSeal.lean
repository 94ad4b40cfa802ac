/-
  Bytes of a kind, sealed (chapter 4): walks.
-/
import Derived.Test.YtemfdmbjlmiopaaSealPlain
import Derived.BigQuiet
import Derived.Deep.RegionHeld3
namespace Go.Proofs.Ytemfdmbjlmiopaa
open Go.RowKit
set_option linter.unusedVariables false
set_option linter.unusedSimpArgs false
theorem first_of {s : ByteArray} {k e0 : Int} {b r : ByteArray} (h : firK s = k ∧ firB s = b ∧ firR s = r ∧ firE s = e0) (e : Ending) (P : Prop) (h1 : e = .returned (.tuple #[.int .i64 k, .string b, .string r, .int .i64 e0])) (h2 : P) : e = .returned (.tuple #[.int .i64 (firK s), .string (firB s), .string (firR s), .int .i64 (firE s)]) ∧ P := by
  obtain ⟨rfl, rfl, rfl, rfl⟩ := h; exact ⟨h1, h2⟩
theorem ctailS (s : ByteArray) (w : World) (hs : s.size ≤ maxLen) : Calls Try.prog 62 #[.string s] w fun e w' => e = .returned (.string (tailS s)) ∧ Below w.heap.size w w' := ctail_any s w hs
theorem crtailS (s : ByteArray) (w : World) (hs : s.size ≤ maxLen) : Calls Try.prog 63 #[.string s] w fun e w' => e = .returned (.string (tailS s)) ∧ Below w.heap.size w w' := creftail_any s w hs
theorem below_then {a b c : World} (h : Below a.heap.size a b) (k : Below b.heap.size b c) : Below a.heap.size a c := bt h k
theorem rd0 (r : ByteArray) : rdErr r 0 0 = 0 := by unfold rdErr; rw [if_pos rfl, if_neg (by omega), if_neg (by omega)]
set_option maxHeartbeats 6400000 in
theorem first_any (s : ByteArray) (w : World) (hs : s.size ≤ 140737488351232) : Calls Try.prog 64 #[.string s] w fun e w' => e = .returned (.tuple #[.int .i64 (firK s), .string (firB s), .string (firR s), .int .i64 (firE s)]) ∧ Below w.heap.size w w' := by
  by_cases h7 : s.size < 7
  · have HF := Lib.hid (fir_bad (s := s) (x := 1) (by unfold firE; rw [if_pos h7]) (by decide))
    have h7' : (s.size : Int) < 7 := by omega
    go_enter Try.func64, Try.ntmps64
    go_wp2
    exact bodyPost_ret (v := .tuple #[.int .i64 0, .string ⟨#[]⟩, .string ⟨#[]⟩, .int .i64 1]) (by simp [results, Try.results64, go_sem]) rfl (first_of HF.out _ _ rfl (Below.refl _ _))
  have h7' : ¬ (s.size : Int) < 7 := by omega
  have hn16 := lenAt_nat s
  obtain ⟨n, hn⟩ : ∃ n, lenAt s = n := ⟨_, rfl⟩
  have hmx : s.size ≤ maxLen := by unfold maxLen; omega
  have HM := Lib.hid hmx
  have HX := fun a => show (s.extract a s.size).size ≤ maxLen by rw [ByteArray.size_extract]; unfold maxLen; omega
  have HX := Lib.hid HX
  obtain ⟨a1, a2, a3⟩ := sealnm1 s (by omega)
  obtain ⟨b1, b2, b3⟩ := nm2 s (by omega)
  rw [hn] at b1 hn16
  have HA := Lib.hid hn
  have H7 := Lib.hid h7
  clear hmx hn
  go_enter Try.func64, Try.ntmps64
  go_wp2_with fail
  refine (new_any _ _).mono ?_
  rintro e w1 ⟨rfl, rfl⟩
  have I0 := IsRd.new w s 0 93
  have hB0 : Below w.heap.size w (w.alloc (.cells #[.string s, .int .i64 0] 93)) := (Below.refl _ _).alloc (Nat.le_refl _) _
  have hsz : w.heap.size ≤ (w.alloc (.cells #[.string s, .int .i64 0] 93)).heap.size := hB0.size
  generalize w.alloc (.cells #[.string s, .int .i64 0] 93) = w1 at *
  go_wp2_with fail
  refine (num_any _ _ _ _ _ HM.out I0).mono ?_
  rintro e w2 ⟨rfl, I1, F1⟩
  rw [a1]
  rw [a2, a3] at I1
  go_wp2_with fail
  refine (num_any _ _ _ _ _ (HX.out 1) I1).mono ?_
  rintro e w3 ⟨rfl, I2, F2⟩
  rw [b1]
  rw [b2, b3] at I2
  have F2 := F1.trans F2
  have HI2 := Lib.hid I2
  have HF2 := Lib.hid F2
  have HB0 := Lib.hid hB0
  have HSZ := Lib.hid hsz
  clear I0 I1 I2 F1 F2 a1 a2 a3 b1 b2 b3 hB0 hsz
  have FIN : Hid (∀ W, Frm (· = w.heap.size) w1 W → Below w.heap.size w W) := fun W hF => hF.after HB0.out HSZ.out (fun k hk e => by omega)
  by_cases hbig : 600 < n
  · have HF := Lib.hid (fir_bad (s := s) (x := 11) (by unfold firE; rw [if_neg H7.out, HA.out, if_pos hbig]) (by decide))
    go_wp2
    exact bodyPost_ret (v := .tuple #[.int .i64 0, .string ⟨#[]⟩, .string ⟨#[]⟩, .int .i64 11]) (by simp [results, Try.results64, go_sem]) rfl (first_of HF.out _ _ rfl (FIN.out _ HF2.out))
  by_cases hlen : s.size < n + 7
  · have HF := Lib.hid (fir_bad (s := s) (x := 1) (by unfold firE; rw [if_neg H7.out, HA.out, if_neg hbig, if_pos hlen]) (by decide))
    have hC := rdC s n (by omega) (by omega)
    go_wp2_with fail
    refine (bytes_any _ _ _ _ _ (HX.out 3) HI2.out).mono ?_
    rintro e w4 ⟨rfl, I3, F3⟩
    have hr3 := Lib.hid (Nat.le_trans (rdRest_size (s.extract 3 s.size) 0 n) (HX.out 3))
    generalize rdRest (s.extract 3 s.size) 0 n = r3 at *
    generalize rdErr (s.extract 3 s.size) 0 n = e3 at *
    generalize rdOut (s.extract 3 s.size) 0 n = o3 at *
    go_wp2_with fail
    refine (bytes_any _ _ _ _ _ hr3.out I3).mono ?_
    rintro e w5 ⟨rfl, I4, F4⟩
    rw [hC] at I4
    generalize rdRest r3 e3 4 = r4 at *
    generalize rdOut r3 e3 4 = o4 at *
    have F4 := (HF2.out.trans F3).trans F4
    have he4 : rdEnd r4 1 = 1 := by unfold rdEnd; rw [if_neg (by omega)]
    go_wp2_with fail
    refine (end_any _ _ _ _ I4).mono ?_
    rintro e w6 ⟨rfl, rfl⟩
    rw [he4]
    go_wp2
    exact bodyPost_ret (v := .tuple #[.int .i64 0, .string ⟨#[]⟩, .string ⟨#[]⟩, .int .i64 1]) (by simp [results, Try.results64, go_sem]) rfl (first_of HF.out _ _ rfl (FIN.out _ F4))
  · obtain ⟨c1, c2, c3⟩ := rdA s n (by omega)
    obtain ⟨d1, d2, d3⟩ := rdB s n (by omega)
    have hend : rdEnd (s.extract (7 + n) s.size) 0 = 2 ∨ rdEnd (s.extract (7 + n) s.size) 0 = 0 := by unfold rdEnd; split; exact .inl rfl; exact .inr rfl
    have hT : Hid (sumB s = ((s.extract (3 + n) (7 + n)).toList == (tailS (s.extract 0 (3 + n))).toList)) := by show _ = _; unfold sumB; rw [HA.out]
    have hE0 : Hid (firE s = if sumB s = false then 5 else 0) := by show _ = _; unfold firE; rw [if_neg H7.out, HA.out, if_neg hbig, if_neg hlen]
    have hz1 : Hid ((s.extract 0 (3 + n)).size ≤ maxLen) := by show _ ≤ _; rw [ByteArray.size_extract]; unfold maxLen; omega
    have hGD : Hid (firE s = 0 → firK s = gd s 0 ∧ firB s = s.extract 3 (3 + n) ∧ firR s = s.extract (7 + n) s.size ∧ firE s = 0) := fun h => HA.out ▸ fir_good h
    go_wp2_with fail
    refine (bytes_any _ _ _ _ _ (HX.out 3) HI2.out).mono ?_
    rintro e w4 ⟨rfl, I3, F3⟩
    rw [c1]
    rw [c2, c3] at I3
    go_wp2_with fail
    refine (bytes_any _ _ _ _ _ (HX.out (3 + n)) I3).mono ?_
    rintro e w5 ⟨rfl, I4, F4⟩
    rw [d1]
    rw [d2, d3] at I4
    have F4 := Lib.hid ((HF2.out.trans F3).trans F4)
    have I4 := Lib.hid I4
    clear c1 c2 c3 d1 d2 d3 I3 F3
    have hi1 : (3 : Int) + (n : Int) ≤ (s.size : Int) := by omega
    have hix : (((3 : Int) + (n : Int)).toNat) = 3 + n := by omega
    have hi0 : (0 : Int) ≤ (3 : Int) + (n : Int) := by omega
    have hne : ∀ x, x = 2 ∨ x = 0 → ((x : Int) == 1) = false := by rintro x (rfl | rfl) <;> rfl
    have hne := hne _ hend
    have hez : Hid (rdEnd (s.extract (7 + n) s.size) 0 = rdEnd (s.extract (7 + n) s.size) 0) := rfl
    generalize hE : rdEnd (s.extract (7 + n) s.size) 0 = x at hne
    have hE := Lib.hid hE
    clear hend hez
    go_wp2_with fail
    refine (end_any _ _ _ _ I4.out).mono ?_
    rintro e w6 ⟨rfl, rfl⟩
    rw [hE.out]
    cases hsum : sumB s
    · have hsumF := Lib.hid hsum
      have hbne : ((s.extract (3 + n) (7 + n)).toList == (tailS (s.extract 0 (3 + n))).toList) = false := by rw [hT.out] at hsum; exact hsum
      have HF := Lib.hid (fir_bad (s := s) (x := 5) (by rw [hE0.out, if_pos hsum]) (by decide))
      clear hsum
      go_wp2_with (go_at_call 62; (with_reducible refine (ctailS _ _ hz1.out).mono ?_); rintro e w7 ⟨rfl, hb7⟩)
      exact bodyPost_ret (v := .tuple #[.int .i64 0, .string ⟨#[]⟩, .string ⟨#[]⟩, .int .i64 5]) (by simp [results, Try.results64, go_sem]) rfl (first_of HF.out _ _ rfl (FIN.out _ (F4.out.below hb7)))
    · have hbne : ((s.extract (3 + n) (7 + n)).toList == (tailS (s.extract 0 (3 + n))).toList) = true := by rw [hT.out] at hsum; exact hsum
      have HF := Lib.hid (hGD.out (by rw [hE0.out, hsum]; rfl))
      clear hsum
      go_wp2_with (go_at_call 62; (with_reducible refine (ctailS _ _ hz1.out).mono ?_); rintro e w7 ⟨rfl, hb7⟩)
      have I5 := I4.out.frm (S := fun _ => False) (Frm.ofBelow hb7) (fun h => h)
      have F5 := Lib.hid (F4.out.below hb7)
      have hra := rdAll (s.extract (7 + n) s.size)
      rw [ext_size _ _ _ (Nat.le_refl _)] at hra
      refine (left_any _ _ _ _ I5).mono ?_
      rintro e w8 ⟨rfl, rfl⟩
      go_wp2_with fail
      refine (bytes_any _ _ _ _ _ (HX.out (7 + n)) I5).mono ?_
      rintro e w9 ⟨rfl, I6, F6⟩
      rw [hra]
      have F6 := Lib.hid (F5.out.trans F6)
      clear I5 I6
      go_wp2
      exact bodyPost_ret (v := .tuple #[.int .i64 (gd s 0), .string (s.extract 3 (3 + n)), .string (s.extract (7 + n) s.size), .int .i64 0]) (by simp [results, Try.results64, go_sem]) rfl (first_of HF.out _ _ rfl (FIN.out _ F6.out))
set_option maxHeartbeats 6400000 in
theorem rfirst_any (s : ByteArray) (w : World) (hs : s.size ≤ 140737488351232) : Calls Try.prog 65 #[.string s] w fun e w' => e = .returned (.tuple #[.int .i64 (firK s), .string (firB s), .string (firR s), .int .i64 (firE s)]) ∧ Below w.heap.size w w' := by
  by_cases h7 : s.size < 7
  · have HF := Lib.hid (fir_bad (s := s) (x := 1) (by unfold firE; rw [if_pos h7]) (by decide))
    have h7' : (s.size : Int) < 7 := by omega
    go_enter Try.func65, Try.ntmps65
    go_wp2
    exact bodyPost_ret (v := .tuple #[.int .i64 0, .string ⟨#[]⟩, .string ⟨#[]⟩, .int .i64 1]) (by simp [results, Try.results65, go_sem]) rfl (first_of HF.out _ _ rfl (Below.refl _ _))
  have h7' : ¬ (s.size : Int) < 7 := by omega
  have hn16 := lenAt_nat s
  have hl0 : lenAt s = 256 * gd s 1 + gd s 2 := rfl
  obtain ⟨n, hn⟩ : ∃ n, lenAt s = n := ⟨_, rfl⟩
  rw [hn] at hn16 hl0
  have hmx : s.size ≤ maxLen := by unfold maxLen; omega
  have HM := Lib.hid hmx
  have HA := Lib.hid hn
  have H7 := Lib.hid h7
  have g0 := gd_eq (d := s) (k := 0) (by omega)
  have g1 := gd_eq (d := s) (k := 1) (by omega)
  have g2 := gd_eq (d := s) (k := 2) (by omega)
  have l1 : (1 : Int) < (s.size : Int) := by omega
  have l2 : (2 : Int) < (s.size : Int) := by omega
  have l0 : (0 : Int) < (s.size : Int) := by omega
  have b0 := gd_lt s 0
  have z0 : wrap64 (gd s 0 : Int) = (gd s 0 : Int) := IntWalk.wrap64_in _ ⟨by omega, by omega⟩
  have b1 := gd_lt s 1
  have b2 := gd_lt s 2
  have hsum : (256 : Int) * (gd s 1 : Int) + (gd s 2 : Int) = (n : Int) := by omega
  clear hmx hn hl0
  go_enter Try.func65, Try.ntmps65
  go_wp2
  go_quiet (fail)
  clear hsum
  by_cases hbig : 600 < n
  · have HF := Lib.hid (fir_bad (s := s) (x := 11) (by unfold firE; rw [if_neg H7.out, HA.out, if_pos hbig]) (by decide))
    go_wp2
    exact bodyPost_ret (v := .tuple #[.int .i64 0, .string ⟨#[]⟩, .string ⟨#[]⟩, .int .i64 11]) (by simp [results, Try.results65, go_sem]) rfl (first_of HF.out _ _ rfl (bdraws0 _ _))
  by_cases hlen : s.size < n + 7
  · have HF := Lib.hid (fir_bad (s := s) (x := 1) (by unfold firE; rw [if_neg H7.out, HA.out, if_neg hbig, if_pos hlen]) (by decide))
    have hl : (s.size : Int) - 7 < (n : Int) := by omega
    go_wp2
    exact bodyPost_ret (v := .tuple #[.int .i64 0, .string ⟨#[]⟩, .string ⟨#[]⟩, .int .i64 1]) (by simp [results, Try.results65, go_sem]) rfl (first_of HF.out _ _ rfl (bdraws0 _ _))
  · have hl : ¬ (s.size : Int) - 7 < (n : Int) := by omega
    have hT : Hid (sumB s = ((s.extract (3 + n) (7 + n)).toList == (tailS (s.extract 0 (3 + n))).toList)) := by show _ = _; unfold sumB; rw [HA.out]
    have hE0 : Hid (firE s = if sumB s = false then 5 else 0) := by show _ = _; unfold firE; rw [if_neg H7.out, HA.out, if_neg hbig, if_neg hlen]
    have hz1 : Hid ((s.extract 0 (3 + n)).size ≤ maxLen) := by show _ ≤ _; rw [ByteArray.size_extract]; unfold maxLen; omega
    have hGD : Hid (firE s = 0 → firK s = gd s 0 ∧ firB s = s.extract 3 (3 + n) ∧ firR s = s.extract (7 + n) s.size ∧ firE s = 0) := fun h => HA.out ▸ fir_good h
    have i1 : (3 : Int) + (n : Int) ≤ (s.size : Int) := by omega
    have i2 : (7 : Int) + (n : Int) ≤ (s.size : Int) := by omega
    have i3 : (3 : Int) + (n : Int) ≤ (7 : Int) + (n : Int) := by omega
    have i4 : (3 : Int) ≤ (3 : Int) + (n : Int) := by omega
    have x1 : (((3 : Int) + (n : Int)).toNat) = 3 + n := by omega
    have x2 : (((7 : Int) + (n : Int)).toNat) = 7 + n := by omega
    have i5 : (0 : Int) ≤ (3 : Int) + (n : Int) := by omega
    have i6 : (0 : Int) ≤ (7 : Int) + (n : Int) := by omega
    have y1 : IntKind.i64.wrap ((3 : Int) + (n : Int)) = 3 + (n : Int) := by rw [IntKind.wrap_i64]; omega
    have y2 : IntKind.i64.wrap ((7 : Int) + (n : Int)) = 7 + (n : Int) := by rw [IntKind.wrap_i64]; omega
    have HB := bdraws0 w
    cases hsum : sumB s
    · have hbne : ((s.extract (3 + n) (7 + n)).toList == (tailS (s.extract 0 (3 + n))).toList) = false := by rw [hT.out] at hsum; exact hsum
      have HF := Lib.hid (fir_bad (s := s) (x := 5) (by rw [hE0.out, if_pos hsum]) (by decide))
      clear hsum
      go_wp2
      generalize HW : w.drewN _ = wd
      have HB : Below w.heap.size w wd := HW ▸ HB _
      clear HW
      go_region_held3 (fun w' => Below w.heap.size w w') (first | assumption | exact Below.drew (by assumption)) (first | (go_at_call 63; (with_reducible refine (crtailS _ _ hz1.out).mono ?_); rintro e w5 ⟨rfl, hb5⟩; have hS5 : Below w.heap.size w w5 := below_then (by assumption) hb5))
      go_wp2
      exact bodyPost_ret (v := .tuple #[.int .i64 0, .string ⟨#[]⟩, .string ⟨#[]⟩, .int .i64 5]) (by simp [results, Try.results65, go_sem]) rfl (first_of HF.out _ _ rfl (by assumption))
    · have hbne : ((s.extract (3 + n) (7 + n)).toList == (tailS (s.extract 0 (3 + n))).toList) = true := by rw [hT.out] at hsum; exact hsum
      have HF := Lib.hid (hGD.out (by rw [hE0.out, hsum]; rfl))
      clear hsum
      go_wp2
      generalize HW : w.drewN _ = wd
      have HB : Below w.heap.size w wd := HW ▸ HB _
      clear HW
      go_region_held3 (fun w' => Below w.heap.size w w') (first | assumption | exact Below.drew (by assumption)) (first | (go_at_call 63; (with_reducible refine (crtailS _ _ hz1.out).mono ?_); rintro e w5 ⟨rfl, hb5⟩; have hS5 : Below w.heap.size w w5 := below_then (by assumption) hb5))
      go_wp2
      go_quiet (fail)
      go_wp2
      exact bodyPost_ret (v := .tuple #[.int .i64 (gd s 0), .string (s.extract 3 (3 + n)), .string (s.extract (7 + n) s.size), .int .i64 0]) (by simp [results, Try.results65, go_sem]) rfl (first_of HF.out _ _ rfl (bdraws (by assumption) _))
end Go.Proofs.Ytemfdmbjlmiopaa
