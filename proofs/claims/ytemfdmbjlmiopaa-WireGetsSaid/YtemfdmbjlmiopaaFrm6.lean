/-
  Frames as bytes (chapter 25): the reference's GetFrame.
-/
import Derived.Test.YtemfdmbjlmiopaaFrm5
namespace Go.Proofs.Ytemfdmbjlmiopaa
open Go.RowKit
set_option linter.unusedVariables false
set_option linter.unusedSimpArgs false
set_option maxHeartbeats 1600000 in
theorem rGetF_bad {s : ByteArray} (w : World) (hs : s.size ≤ 100000) (h : ¬ (sealE s = 0 ∧ getK s = 9 ∧ 29 ≤ (getB s).size)) : Calls Try.prog 18 #[.string s] w fun e' w' => e' = .returned (.tuple #[FV (fget s).n (fget s).fb (fget s).ft (fget s).tb (fget s).tt (fget s).s (fget s).a (fget s).b, .int .i64 (fgetE s)]) ∧ Below w.heap.size w w' := by
  obtain ⟨k, g1⟩ : ∃ x, getK s = x := ⟨_, rfl⟩
  obtain ⟨t, g2⟩ : ∃ x, getB s = x := ⟨_, rfl⟩
  obtain ⟨x, g3⟩ : ∃ x, sealE s = x := ⟨_, rfl⟩
  have C := Lib.hid (fun w => rget_any s w (Nat.le_trans hs (by decide)))
  obtain ⟨r1, r2, r3⟩ := fget_early g1 g2 g3
  rw [g1, g2, g3] at C h
  clear g1 g2 g3 hs
  by_cases hx : x = 0
  case neg =>
    have HGE := Lib.hid (r1 hx)
    have HGS := Lib.hid (fget_no HGE.out hx)
    have m1 : (x == 0) = false := beq_eq_false_iff_ne.2 hx
    have m2 : (x != 0) = true := bne_iff_ne.2 hx
    clear h hx r1 r2 r3
    generalize fget s = GS at *
    generalize fgetE s = GE at *
    have H2 := Lib.hid (FBox.new w ⟨0, 0, 0, 0, 0, 0, 0, ⟨#[]⟩⟩ 45)
    have HB : Below w.heap.size w (w.alloc (.cells #[.int .i64 0, .int .i64 0, .int .i64 0, .int .i64 0, .int .i64 0, .int .i64 0, .int .i64 0, .string ⟨#[]⟩] 45)) := (Below.refl _ _).alloc (Nat.le_refl _) _
    go_enter Try.func18, Try.ntmps18
    go_wp2_with fail
    generalize w.alloc (.cells #[.int .i64 0, .int .i64 0, .int .i64 0, .int .i64 0, .int .i64 0, .int .i64 0, .int .i64 0, .string ⟨#[]⟩] 45) = W0 at *
    refine (C.out _).mono ?_
    rintro e' W1 ⟨rfl, hA⟩
    replace H2 := Lib.hid (H2.out.below hA)
    replace HB := Lib.hid (bt HB hA)
    clear hA C
    obtain ⟨⟨d0, d1, d2, d3, d4, d5, d6, d7⟩, yf⟩ := id H2.out
    have y0 := yf 0 (by decide)
    have y1 := yf 1 (by decide)
    have y2 := yf 2 (by decide)
    have y3 := yf 3 (by decide)
    have y4 := yf 4 (by decide)
    have y5 := yf 5 (by decide)
    have y6 := yf 6 (by decide)
    have y7 := yf 7 (by decide)
    clear yf
    go_wp2
    refine bodyPost_ret (v := .tuple #[FV 0 0 0 0 0 0 0 ⟨#[]⟩, .int .i64 x]) (by simp [results, Try.results18, go_sem, d0, d1, d2, d3, d4, d5, d6, d7]) rfl ⟨by (rw [HGE.out, HGS.out]; rfl), ?_⟩
    repeat (first | with_reducible exact HB.out | with_reducible refine Below.setCell ?_ (by first | (simp; done) | (simp; omega)) _)
  subst hx
  by_cases hk : k = 9
  case neg =>
    have HGE := Lib.hid (r2 rfl hk)
    have HGS := Lib.hid (fget_no HGE.out (by decide))
    have m1 : (k == 9) = false := beq_eq_false_iff_ne.2 hk
    have m2 : (k != 9) = true := bne_iff_ne.2 hk
    clear h hk r1 r2 r3
    generalize fget s = GS at *
    generalize fgetE s = GE at *
    have H2 := Lib.hid (FBox.new w ⟨0, 0, 0, 0, 0, 0, 0, ⟨#[]⟩⟩ 45)
    have HB : Below w.heap.size w (w.alloc (.cells #[.int .i64 0, .int .i64 0, .int .i64 0, .int .i64 0, .int .i64 0, .int .i64 0, .int .i64 0, .string ⟨#[]⟩] 45)) := (Below.refl _ _).alloc (Nat.le_refl _) _
    go_enter Try.func18, Try.ntmps18
    go_wp2_with fail
    generalize w.alloc (.cells #[.int .i64 0, .int .i64 0, .int .i64 0, .int .i64 0, .int .i64 0, .int .i64 0, .int .i64 0, .string ⟨#[]⟩] 45) = W0 at *
    refine (C.out _).mono ?_
    rintro e' W1 ⟨rfl, hA⟩
    replace H2 := Lib.hid (H2.out.below hA)
    replace HB := Lib.hid (bt HB hA)
    clear hA C
    obtain ⟨⟨d0, d1, d2, d3, d4, d5, d6, d7⟩, yf⟩ := id H2.out
    have y0 := yf 0 (by decide)
    have y1 := yf 1 (by decide)
    have y2 := yf 2 (by decide)
    have y3 := yf 3 (by decide)
    have y4 := yf 4 (by decide)
    have y5 := yf 5 (by decide)
    have y6 := yf 6 (by decide)
    have y7 := yf 7 (by decide)
    clear yf
    go_wp2
    refine bodyPost_ret (v := .tuple #[FV 0 0 0 0 0 0 0 ⟨#[]⟩, .int .i64 7]) (by simp [results, Try.results18, go_sem, d0, d1, d2, d3, d4, d5, d6, d7]) rfl ⟨by (rw [HGE.out, HGS.out]; rfl), ?_⟩
    repeat (first | with_reducible exact HB.out | with_reducible refine Below.setCell ?_ (by first | (simp; done) | (simp; omega)) _)
  subst hk
  have ht : t.size < 29 := by
    rcases Nat.lt_or_ge t.size 29 with g | g
    · exact g
    · exact absurd ⟨rfl, rfl, g⟩ h
  have HGE := Lib.hid (r3 rfl rfl ht)
  have HGS := Lib.hid (fget_no HGE.out (by decide))
  have hti : (t.size : Int) < 29 := by omega
  clear h ht r1 r2 r3
  generalize fget s = GS at *
  generalize fgetE s = GE at *
  have H2 := Lib.hid (FBox.new w ⟨0, 0, 0, 0, 0, 0, 0, ⟨#[]⟩⟩ 45)
  have HB : Below w.heap.size w (w.alloc (.cells #[.int .i64 0, .int .i64 0, .int .i64 0, .int .i64 0, .int .i64 0, .int .i64 0, .int .i64 0, .string ⟨#[]⟩] 45)) := (Below.refl _ _).alloc (Nat.le_refl _) _
  go_enter Try.func18, Try.ntmps18
  go_wp2_with fail
  generalize w.alloc (.cells #[.int .i64 0, .int .i64 0, .int .i64 0, .int .i64 0, .int .i64 0, .int .i64 0, .int .i64 0, .string ⟨#[]⟩] 45) = W0 at *
  refine (C.out _).mono ?_
  rintro e' W1 ⟨rfl, hA⟩
  replace H2 := Lib.hid (H2.out.below hA)
  replace HB := Lib.hid (bt HB hA)
  clear hA C
  obtain ⟨⟨d0, d1, d2, d3, d4, d5, d6, d7⟩, yf⟩ := id H2.out
  have y0 := yf 0 (by decide)
  have y1 := yf 1 (by decide)
  have y2 := yf 2 (by decide)
  have y3 := yf 3 (by decide)
  have y4 := yf 4 (by decide)
  have y5 := yf 5 (by decide)
  have y6 := yf 6 (by decide)
  have y7 := yf 7 (by decide)
  clear yf
  go_wp2
  refine bodyPost_ret (v := .tuple #[FV 0 0 0 0 0 0 0 ⟨#[]⟩, .int .i64 1]) (by simp [results, Try.results18, go_sem, d0, d1, d2, d3, d4, d5, d6, d7]) rfl ⟨by (rw [HGE.out, HGS.out]; rfl), ?_⟩
  repeat (first | with_reducible exact HB.out | with_reducible refine Below.setCell ?_ (by first | (simp; done) | (simp; omega)) _)
set_option maxRecDepth 20000 in
set_option maxHeartbeats 6400000 in
theorem rGetF_good {s : ByteArray} (w : World) (hs : s.size ≤ 100000) (h : sealE s = 0 ∧ getK s = 9 ∧ 29 ≤ (getB s).size) : Calls Try.prog 18 #[.string s] w fun e' w' => e' = .returned (.tuple #[FV (fget s).n (fget s).fb (fget s).ft (fget s).tb (fget s).tt (fget s).s (fget s).a (fget s).b, .int .i64 (fgetE s)]) ∧ Below w.heap.size w w' := by
  obtain ⟨g3, g1, ht29⟩ := h
  have ht := getB_le s hs
  have C := Lib.hid (fun w => rget_any s w (Nat.le_trans hs (by decide)))
  obtain ⟨t, g2⟩ : ∃ x, getB s = x := ⟨_, rfl⟩
  rw [g1, g2, g3] at C
  rw [g2] at ht ht29
  have hX : fgetE s = fputE (fR t) := by unfold fgetE; rw [if_neg (by simp [g3]), if_neg (by simp [g1]), g2, if_neg (by omega)]
  have HGS : Hid ((fgetE s = 0 → fget s = fR t) ∧ (¬ fgetE s = 0 → fget s = Fr.nil)) := ⟨fun h => g2 ▸ if_pos h, fun h => if_neg h⟩
  obtain ⟨-, -, -, -, -, -, -, -, -, -, -, -, -, -, -, -, -, -, -, -, -, -, hz7⟩ := fz_all t (by omega)
  have hti : ¬ (t.size : Int) < 29 := by omega
  have huz : (t.extract 29 t.size).size ≤ 100000 := by rw [ByteArray.size_extract]; omega
  have C0 : Hid (∀ W g, (RA t) W g (t, 0) → Calls Try.prog 38 #[.pointer (some ⟨g, 0, none⟩), .int .i64 1] W fun e w' => e = .returned (.int .i64 (nO (t, 0) 1)) ∧ (RA t) w' g (fz1 t) ∧ Frm (fun x => x = g) W w') := fun W g h => num_r (z := (t, 0)) 1 h
  have C1 : Hid (∀ W g, (RA t) W g (fz1 t) → Calls Try.prog 38 #[.pointer (some ⟨g, 0, none⟩), .int .i64 4] W fun e w' => e = .returned (.int .i64 (nO (fz1 t) 4)) ∧ (RA t) w' g (fz2 t) ∧ Frm (fun x => x = g) W w') := fun W g h => num_r 4 h
  have C2 : Hid (∀ W g, (RA t) W g (fz2 t) → Calls Try.prog 38 #[.pointer (some ⟨g, 0, none⟩), .int .i64 4] W fun e w' => e = .returned (.int .i64 (nO (fz2 t) 4)) ∧ (RA t) w' g (fz3 t) ∧ Frm (fun x => x = g) W w') := fun W g h => num_r 4 h
  have C3 : Hid (∀ W g, (RA t) W g (fz3 t) → Calls Try.prog 38 #[.pointer (some ⟨g, 0, none⟩), .int .i64 4] W fun e w' => e = .returned (.int .i64 (nO (fz3 t) 4)) ∧ (RA t) w' g (fz4 t) ∧ Frm (fun x => x = g) W w') := fun W g h => num_r 4 h
  have C4 : Hid (∀ W g, (RA t) W g (fz4 t) → Calls Try.prog 38 #[.pointer (some ⟨g, 0, none⟩), .int .i64 4] W fun e w' => e = .returned (.int .i64 (nO (fz4 t) 4)) ∧ (RA t) w' g (fz5 t) ∧ Frm (fun x => x = g) W w') := fun W g h => num_r 4 h
  have C5 : Hid (∀ W g, (RA t) W g (fz5 t) → Calls Try.prog 38 #[.pointer (some ⟨g, 0, none⟩), .int .i64 6] W fun e w' => e = .returned (.int .i64 (nO (fz5 t) 6)) ∧ (RA t) w' g (fz6 t) ∧ Frm (fun x => x = g) W w') := fun W g h => num_r 6 h
  have C6 : Hid (∀ W g, (RA t) W g (fz6 t) → Calls Try.prog 38 #[.pointer (some ⟨g, 0, none⟩), .int .i64 6] W fun e w' => e = .returned (.int .i64 (nO (fz6 t) 6)) ∧ (RA t) w' g (t.extract 29 t.size, 0) ∧ Frm (fun x => x = g) W w') := fun W g h => hz7 ▸ num_r 6 h
  have CP := Lib.hid (fun w => rputf_any (n := nO (t, 0) 1) (fb := nO (fz1 t) 4) (ft := nO (fz2 t) 4) (tb := nO (fz3 t) 4) (tt := nO (fz4 t) 4) (s := nO (fz5 t) 6) (a := nO (fz6 t) 6) (b := t.extract 29 t.size) w huz)
  have hfR : fR t = ⟨nO (t, 0) 1, nO (fz1 t) 4, nO (fz2 t) 4, nO (fz3 t) 4, nO (fz4 t) 4, nO (fz5 t) 6, nO (fz6 t) 6, t.extract 29 t.size⟩ := rfl
  rw [hfR] at HGS hX
  clear hfR g1 g2 g3 hs ht29 hz7
  generalize nO (t, 0) 1 = x0 at *
  generalize nO (fz1 t) 4 = x1 at *
  generalize nO (fz2 t) 4 = x2 at *
  generalize nO (fz3 t) 4 = x3 at *
  generalize nO (fz4 t) 4 = x4 at *
  generalize nO (fz5 t) 6 = x5 at *
  generalize nO (fz6 t) 6 = x6 at *
  generalize fz1 t = z1 at *
  generalize fz2 t = z2 at *
  generalize fz3 t = z3 at *
  generalize fz4 t = z4 at *
  generalize fz5 t = z5 at *
  generalize fz6 t = z6 at *
  have h29i : (29 : Int) ≤ (t.size : Int) := by omega
  have hsl : t.extract 29 t.size = t.extract 29 t.size := rfl
  generalize hu : t.extract 29 t.size = u at *
  clear hsl
  obtain ⟨X, hXX⟩ : ∃ X, fputE ⟨x0, x1, x2, x3, x4, x5, x6, u⟩ = X := ⟨_, rfl⟩
  rw [hXX] at CP hX
  clear hXX
  have HGE := Lib.hid hX
  clear hX
  generalize fget s = GS at *
  generalize fgetE s = GE at *
  have H2 := Lib.hid (FBox.new w ⟨0, 0, 0, 0, 0, 0, 0, ⟨#[]⟩⟩ 45)
  have HB : Below w.heap.size w (w.alloc (.cells #[.int .i64 0, .int .i64 0, .int .i64 0, .int .i64 0, .int .i64 0, .int .i64 0, .int .i64 0, .string ⟨#[]⟩] 45)) := (Below.refl _ _).alloc (Nat.le_refl _) _
  go_enter Try.func18, Try.ntmps18
  go_wp2_with fail
  generalize w.alloc (.cells #[.int .i64 0, .int .i64 0, .int .i64 0, .int .i64 0, .int .i64 0, .int .i64 0, .int .i64 0, .string ⟨#[]⟩] 45) = W0 at *
  refine (C.out _).mono ?_
  rintro e' W1 ⟨rfl, hA⟩
  replace H2 := Lib.hid (H2.out.below hA)
  replace HB := Lib.hid (bt HB hA)
  clear hA C
  go_wp2_with fail
  have HR : RA t (W1.alloc (.cells #[.string t, .int .i64 0, .int .i64 0] 71)) W1.heap.size (t, 0) := ⟨ht, 0, Nat.zero_le _, IsRR.new W1 t 0 0 71, left_0 t⟩
  have hb := (Below.refl W1.heap.size W1).alloc (Nat.le_refl _) (.cells #[.string t, .int .i64 0, .int .i64 0] 71)
  have h2g : ¬ w.heap.size = W1.heap.size := Nat.ne_of_lt H2.out.lt
  have hgB : w.heap.size ≤ W1.heap.size := HB.out.size
  replace H2 := Lib.hid (H2.out.below hb)
  replace HB := Lib.hid (bt HB.out hb)
  clear hb
  generalize W1.alloc (.cells #[.string t, .int .i64 0, .int .i64 0] 71) = W2 at *
  generalize W1.heap.size = g at *
  refine (C0.out _ g HR).mono ?_
  rintro e' W3 ⟨rfl, hR, hA⟩
  replace HR := hR
  replace H2 := Lib.hid (H2.out.frm hA h2g)
  replace HB := Lib.hid (hA.after HB.out HB.out.size (fun k hk e => Nat.lt_irrefl k (Nat.lt_of_lt_of_le hk (e ▸ hgB))))
  clear hR hA
  have H5 := Lib.hid (FBox.new W3 ⟨x0, 0, 0, 0, 0, 0, 0, ⟨#[]⟩⟩ 45)
  have hKg : ¬ W3.heap.size = g := Nat.ne_of_gt HR.lt
  have hgK : ¬ g = W3.heap.size := fun e => hKg e.symm
  have h2K : ¬ w.heap.size = W3.heap.size := Nat.ne_of_lt H2.out.lt
  have h5B : w.heap.size ≤ W3.heap.size := HB.out.size
  have hA := (Below.refl W3.heap.size W3).alloc (Nat.le_refl _) (.cells #[.int .i64 x0, .int .i64 0, .int .i64 0, .int .i64 0, .int .i64 0, .int .i64 0, .int .i64 0, .string ⟨#[]⟩] 45)
  replace H2 := Lib.hid (H2.out.below hA)
  replace HR := HR.frm (S := fun _ => False) (Frm.ofBelow hA) (fun x => x)
  replace HB := Lib.hid (bt HB.out hA)
  clear hA
  go_wp2_with fail
  generalize W3.alloc (.cells #[.int .i64 x0, .int .i64 0, .int .i64 0, .int .i64 0, .int .i64 0, .int .i64 0, .int .i64 0, .string ⟨#[]⟩] 45) = W4 at *
  generalize W3.heap.size = K at *
  refine (C1.out _ g HR).mono ?_
  rintro e' U1 ⟨rfl, hR, hA⟩
  replace HR := hR
  replace H2 := Lib.hid (H2.out.frm hA h2g)
  replace H5 := Lib.hid (H5.out.frm hA hKg)
  replace HB := Lib.hid (hA.after HB.out HB.out.size (fun k hk e => Nat.lt_irrefl k (Nat.lt_of_lt_of_le hk (e ▸ hgB))))
  clear hR hA
  obtain ⟨⟨c0, c1, c2, c3, c4, c5, c6, c7⟩, vf⟩ := id H5.out
  have v0 := vf 0 (by decide)
  have v1 := vf 1 (by decide)
  have v2 := vf 2 (by decide)
  have v3 := vf 3 (by decide)
  have v4 := vf 4 (by decide)
  have v5 := vf 5 (by decide)
  have v6 := vf 6 (by decide)
  have v7 := vf 7 (by decide)
  clear vf
  go_wp2_with fail
  clear c0 c1 c2 c3 c4 c5 c6 c7 v0 v1 v2 v3 v4 v5 v6 v7
  have hA : Frm (fun x => x = K) U1 (U1.setCell ⟨K, 1, none⟩ (.int .i64 x1)) := frm_set (Frm.refl _ _) _ _
  replace H5 := Lib.hid (H5.out.s1 x1)
  replace H2 := Lib.hid (H2.out.frm hA h2K)
  replace HR := HR.frm hA hgK
  replace HB := Lib.hid (hA.after HB.out HB.out.size (fun k hk e => Nat.lt_irrefl k (Nat.lt_of_lt_of_le hk (e ▸ h5B))))
  clear hA
  generalize U1.setCell ⟨K, 1, none⟩ (.int .i64 x1) = V1 at *
  refine (C2.out _ g HR).mono ?_
  rintro e' U2 ⟨rfl, hR, hA⟩
  replace HR := hR
  replace H2 := Lib.hid (H2.out.frm hA h2g)
  replace H5 := Lib.hid (H5.out.frm hA hKg)
  replace HB := Lib.hid (hA.after HB.out HB.out.size (fun k hk e => Nat.lt_irrefl k (Nat.lt_of_lt_of_le hk (e ▸ hgB))))
  clear hR hA
  obtain ⟨⟨c0, c1, c2, c3, c4, c5, c6, c7⟩, vf⟩ := id H5.out
  have v0 := vf 0 (by decide)
  have v1 := vf 1 (by decide)
  have v2 := vf 2 (by decide)
  have v3 := vf 3 (by decide)
  have v4 := vf 4 (by decide)
  have v5 := vf 5 (by decide)
  have v6 := vf 6 (by decide)
  have v7 := vf 7 (by decide)
  clear vf
  go_wp2_with fail
  clear c0 c1 c2 c3 c4 c5 c6 c7 v0 v1 v2 v3 v4 v5 v6 v7
  have hA : Frm (fun x => x = K) U2 (U2.setCell ⟨K, 2, none⟩ (.int .i64 x2)) := frm_set (Frm.refl _ _) _ _
  replace H5 := Lib.hid (H5.out.s2 x2)
  replace H2 := Lib.hid (H2.out.frm hA h2K)
  replace HR := HR.frm hA hgK
  replace HB := Lib.hid (hA.after HB.out HB.out.size (fun k hk e => Nat.lt_irrefl k (Nat.lt_of_lt_of_le hk (e ▸ h5B))))
  clear hA
  generalize U2.setCell ⟨K, 2, none⟩ (.int .i64 x2) = V2 at *
  refine (C3.out _ g HR).mono ?_
  rintro e' U3 ⟨rfl, hR, hA⟩
  replace HR := hR
  replace H2 := Lib.hid (H2.out.frm hA h2g)
  replace H5 := Lib.hid (H5.out.frm hA hKg)
  replace HB := Lib.hid (hA.after HB.out HB.out.size (fun k hk e => Nat.lt_irrefl k (Nat.lt_of_lt_of_le hk (e ▸ hgB))))
  clear hR hA
  obtain ⟨⟨c0, c1, c2, c3, c4, c5, c6, c7⟩, vf⟩ := id H5.out
  have v0 := vf 0 (by decide)
  have v1 := vf 1 (by decide)
  have v2 := vf 2 (by decide)
  have v3 := vf 3 (by decide)
  have v4 := vf 4 (by decide)
  have v5 := vf 5 (by decide)
  have v6 := vf 6 (by decide)
  have v7 := vf 7 (by decide)
  clear vf
  go_wp2_with fail
  clear c0 c1 c2 c3 c4 c5 c6 c7 v0 v1 v2 v3 v4 v5 v6 v7
  have hA : Frm (fun x => x = K) U3 (U3.setCell ⟨K, 3, none⟩ (.int .i64 x3)) := frm_set (Frm.refl _ _) _ _
  replace H5 := Lib.hid (H5.out.s3 x3)
  replace H2 := Lib.hid (H2.out.frm hA h2K)
  replace HR := HR.frm hA hgK
  replace HB := Lib.hid (hA.after HB.out HB.out.size (fun k hk e => Nat.lt_irrefl k (Nat.lt_of_lt_of_le hk (e ▸ h5B))))
  clear hA
  generalize U3.setCell ⟨K, 3, none⟩ (.int .i64 x3) = V3 at *
  refine (C4.out _ g HR).mono ?_
  rintro e' U4 ⟨rfl, hR, hA⟩
  replace HR := hR
  replace H2 := Lib.hid (H2.out.frm hA h2g)
  replace H5 := Lib.hid (H5.out.frm hA hKg)
  replace HB := Lib.hid (hA.after HB.out HB.out.size (fun k hk e => Nat.lt_irrefl k (Nat.lt_of_lt_of_le hk (e ▸ hgB))))
  clear hR hA
  obtain ⟨⟨c0, c1, c2, c3, c4, c5, c6, c7⟩, vf⟩ := id H5.out
  have v0 := vf 0 (by decide)
  have v1 := vf 1 (by decide)
  have v2 := vf 2 (by decide)
  have v3 := vf 3 (by decide)
  have v4 := vf 4 (by decide)
  have v5 := vf 5 (by decide)
  have v6 := vf 6 (by decide)
  have v7 := vf 7 (by decide)
  clear vf
  go_wp2_with fail
  clear c0 c1 c2 c3 c4 c5 c6 c7 v0 v1 v2 v3 v4 v5 v6 v7
  have hA : Frm (fun x => x = K) U4 (U4.setCell ⟨K, 4, none⟩ (.int .i64 x4)) := frm_set (Frm.refl _ _) _ _
  replace H5 := Lib.hid (H5.out.s4 x4)
  replace H2 := Lib.hid (H2.out.frm hA h2K)
  replace HR := HR.frm hA hgK
  replace HB := Lib.hid (hA.after HB.out HB.out.size (fun k hk e => Nat.lt_irrefl k (Nat.lt_of_lt_of_le hk (e ▸ h5B))))
  clear hA
  generalize U4.setCell ⟨K, 4, none⟩ (.int .i64 x4) = V4 at *
  refine (C5.out _ g HR).mono ?_
  rintro e' U5 ⟨rfl, hR, hA⟩
  replace HR := hR
  replace H2 := Lib.hid (H2.out.frm hA h2g)
  replace H5 := Lib.hid (H5.out.frm hA hKg)
  replace HB := Lib.hid (hA.after HB.out HB.out.size (fun k hk e => Nat.lt_irrefl k (Nat.lt_of_lt_of_le hk (e ▸ hgB))))
  clear hR hA
  obtain ⟨⟨c0, c1, c2, c3, c4, c5, c6, c7⟩, vf⟩ := id H5.out
  have v0 := vf 0 (by decide)
  have v1 := vf 1 (by decide)
  have v2 := vf 2 (by decide)
  have v3 := vf 3 (by decide)
  have v4 := vf 4 (by decide)
  have v5 := vf 5 (by decide)
  have v6 := vf 6 (by decide)
  have v7 := vf 7 (by decide)
  clear vf
  go_wp2_with fail
  clear c0 c1 c2 c3 c4 c5 c6 c7 v0 v1 v2 v3 v4 v5 v6 v7
  have hA : Frm (fun x => x = K) U5 (U5.setCell ⟨K, 5, none⟩ (.int .i64 x5)) := frm_set (Frm.refl _ _) _ _
  replace H5 := Lib.hid (H5.out.s5 x5)
  replace H2 := Lib.hid (H2.out.frm hA h2K)
  replace HR := HR.frm hA hgK
  replace HB := Lib.hid (hA.after HB.out HB.out.size (fun k hk e => Nat.lt_irrefl k (Nat.lt_of_lt_of_le hk (e ▸ h5B))))
  clear hA
  generalize U5.setCell ⟨K, 5, none⟩ (.int .i64 x5) = V5 at *
  refine (C6.out _ g HR).mono ?_
  rintro e' U6 ⟨rfl, hR, hA⟩
  replace HR := hR
  replace H2 := Lib.hid (H2.out.frm hA h2g)
  replace H5 := Lib.hid (H5.out.frm hA hKg)
  replace HB := Lib.hid (hA.after HB.out HB.out.size (fun k hk e => Nat.lt_irrefl k (Nat.lt_of_lt_of_le hk (e ▸ hgB))))
  clear hR hA
  obtain ⟨⟨c0, c1, c2, c3, c4, c5, c6, c7⟩, vf⟩ := id H5.out
  have v0 := vf 0 (by decide)
  have v1 := vf 1 (by decide)
  have v2 := vf 2 (by decide)
  have v3 := vf 3 (by decide)
  have v4 := vf 4 (by decide)
  have v5 := vf 5 (by decide)
  have v6 := vf 6 (by decide)
  have v7 := vf 7 (by decide)
  clear vf
  go_wp2_with fail
  clear c0 c1 c2 c3 c4 c5 c6 c7 v0 v1 v2 v3 v4 v5 v6 v7
  clear HR
  have hA : Frm (fun x => x = K) U6 (U6.setCell ⟨K, 6, none⟩ (.int .i64 x6)) := frm_set (Frm.refl _ _) _ _
  have hA7 : Frm (fun x => x = K) U6 ((U6.setCell ⟨K, 6, none⟩ (.int .i64 x6)).setCell ⟨K, 7, none⟩ (.string u)) := frm_set hA _ _
  replace H5 := Lib.hid ((H5.out.s6 x6).s7 u)
  replace H2 := Lib.hid (H2.out.frm hA7 h2K)
  replace HB := Lib.hid (hA7.after HB.out HB.out.size (fun k hk e => Nat.lt_irrefl k (Nat.lt_of_lt_of_le hk (e ▸ h5B))))
  clear hA hA7
  generalize (U6.setCell ⟨K, 6, none⟩ (.int .i64 x6)).setCell ⟨K, 7, none⟩ (.string u) = V6 at *
  refine (CP.out _).mono ?_
  clear C0 C1 C2 C3 C4 C5 C6
  rintro e' W14 ⟨rfl, hA⟩
  replace H2 := Lib.hid (H2.out.below hA)
  replace H5 := Lib.hid (H5.out.below hA)
  replace HB := Lib.hid (bt HB.out hA)
  clear hA CP
  by_cases hX0 : X = 0
  case neg =>
    have m1 : (X == 0) = false := beq_eq_false_iff_ne.2 hX0
    have m2 : (X != 0) = true := bne_iff_ne.2 hX0
    obtain ⟨⟨d0, d1, d2, d3, d4, d5, d6, d7⟩, yf⟩ := id H2.out
    have y0 := yf 0 (by decide)
    have y1 := yf 1 (by decide)
    have y2 := yf 2 (by decide)
    have y3 := yf 3 (by decide)
    have y4 := yf 4 (by decide)
    have y5 := yf 5 (by decide)
    have y6 := yf 6 (by decide)
    have y7 := yf 7 (by decide)
    clear yf
    go_wp2
    refine bodyPost_ret (v := .tuple #[FV 0 0 0 0 0 0 0 ⟨#[]⟩, .int .i64 X]) (by simp [results, Try.results18, go_sem, d0, d1, d2, d3, d4, d5, d6, d7]) rfl ⟨by (have q2 := HGS.out.2 (by rw [HGE.out]; exact hX0); rw [HGE.out, q2]; rfl), ?_⟩
    repeat (first | with_reducible exact HB.out | with_reducible refine Below.setCell ?_ (by first | (simp; done) | (simp; omega)) _)
  subst hX0
  obtain ⟨⟨c0, c1, c2, c3, c4, c5, c6, c7⟩, vf⟩ := id H5.out
  have v0 := vf 0 (by decide)
  have v1 := vf 1 (by decide)
  have v2 := vf 2 (by decide)
  have v3 := vf 3 (by decide)
  have v4 := vf 4 (by decide)
  have v5 := vf 5 (by decide)
  have v6 := vf 6 (by decide)
  have v7 := vf 7 (by decide)
  clear vf
  obtain ⟨⟨d0, d1, d2, d3, d4, d5, d6, d7⟩, yf⟩ := id H2.out
  have y0 := yf 0 (by decide)
  have y1 := yf 1 (by decide)
  have y2 := yf 2 (by decide)
  have y3 := yf 3 (by decide)
  have y4 := yf 4 (by decide)
  have y5 := yf 5 (by decide)
  have y6 := yf 6 (by decide)
  have y7 := yf 7 (by decide)
  clear yf
  go_wp2
  refine bodyPost_ret (v := .tuple #[FV x0 x1 x2 x3 x4 x5 x6 u, .int .i64 0]) (by simp [results, Try.results18, go_sem, d0, d1, d2, d3, d4, d5, d6, d7]) rfl ⟨by (have q2 := HGS.out.1 HGE.out; rw [HGE.out, q2]), ?_⟩
  repeat (first | with_reducible exact HB.out | with_reducible refine Below.setCell ?_ (by first | (simp; done) | (simp; omega)) _)
theorem rgetf_any (s : ByteArray) (w : World) (hs : s.size ≤ 100000) : Calls Try.prog 18 #[.string s] w fun e' w' => e' = .returned (.tuple #[FV (fget s).n (fget s).fb (fget s).ft (fget s).tb (fget s).tt (fget s).s (fget s).a (fget s).b, .int .i64 (fgetE s)]) ∧ Below w.heap.size w w' := by
  by_cases h : sealE s = 0 ∧ getK s = 9 ∧ 29 ≤ (getB s).size
  · exact rGetF_good w hs h
  · exact rGetF_bad w hs h
end Go.Proofs.Ytemfdmbjlmiopaa
