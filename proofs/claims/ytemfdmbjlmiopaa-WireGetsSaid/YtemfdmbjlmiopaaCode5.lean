/-
  States as bytes (chapter 23): the walks of the reference's Get.
-/
import Derived.Test.YtemfdmbjlmiopaaCode4
namespace Go.Proofs.Ytemfdmbjlmiopaa
open Go.RowKit
set_option linter.unusedVariables false
set_option linter.unusedSimpArgs false
theorem left_0 (t : ByteArray) : t = left t 0 := by
  unfold left
  simp
set_option maxRecDepth 20000 in
set_option maxHeartbeats 3200000 in
theorem rsget_0 (t : ByteArray) (w : World) (ht : t.size ≤ 100000) (h0 : nO (t, 0) 1 = 0) : Calls Try.prog 40 #[.string t] w fun e' w' => e' = .returned (.tuple #[(getSt t).v, .int .i64 (getE t)]) ∧ Below w.heap.size w w' := by
  obtain ⟨z1, hz1⟩ : ∃ z, n1 (t, 0) 1 = z := ⟨_, rfl⟩
  obtain ⟨⟨va, vb, vd⟩, hv⟩ : ∃ v, rdVe z1 = v := ⟨_, rfl⟩
  obtain ⟨zz, hzz⟩ : ∃ z, rdVs z1 = z := ⟨_, rfl⟩
  obtain ⟨hGR, hGE⟩ := get_0 hz1 h0 hv hzz
  have CN : Hid (∀ W g, (RA t) W g (t, 0) → Calls Try.prog 38 #[.pointer (some ⟨g, 0, none⟩), .int .i64 1] W fun e w' => e = .returned (.int .i64 0) ∧ (RA t) w' g z1 ∧ Frm (fun x => x = g) W w') := fun W g h => by
    have := num_r (z := (t, 0)) 1 h; rw [h0, hz1] at this; exact this
  have CV : Hid (∀ W g, (RA t) W g z1 → Calls Try.prog 61 #[.pointer (some ⟨g, 0, none⟩)] W fun e w' => e = .returned (VE va vb vd) ∧ (RA t) w' g zz ∧ Frm (fun x => x = g) W w') := fun W g h => by
    have := ver_r h; rw [hv, hzz] at this; exact this
  clear hz1 hv hzz h0
  obtain ⟨X, hX⟩ : ∃ X, chkE ⟨0, va, vb, vd, ⟨0, 0, ⟨#[]⟩⟩, ⟨0, 0, ⟨#[]⟩⟩⟩ = X := ⟨_, rfl⟩
  have CX := Lib.hid (fun w => rchk_at hX w)
  rw [hX] at hGE
  obtain ⟨E, hE⟩ : ∃ E, rdEnd zz.1 zz.2 = E := ⟨_, rfl⟩
  have CE : Hid (∀ W g, (RA t) W g zz → Calls Try.prog 39 #[.pointer (some ⟨g, 0, none⟩)] W fun e w' => e = .returned (.int .i64 E) ∧ Below W.heap.size W w') := fun W g h => by
    have := end_r h; rw [hE] at this; exact this
  rw [hE] at hGE
  clear hE hX
  have HGS : Hid ((getE t = 0 → getSt t = ⟨0, va, vb, vd, ⟨0, 0, ⟨#[]⟩⟩, ⟨0, 0, ⟨#[]⟩⟩⟩) ∧ (¬ getE t = 0 → getSt t = St.zero)) := ⟨fun h => getS_ok h hGR, fun h => getS_no h⟩
  have HGE := Lib.hid hGE
  clear hGE hGR
  generalize getSt t = GS at *
  generalize getE t = GE at *
  have hz : (w.alloc (.cells #[.int .i64 0, .int .i64 0, .int .i64 0, .string ⟨#[]⟩, .int .i64 0, .int .i64 0, .string ⟨#[]⟩, .int .i64 0, .int .i64 0, .string ⟨#[]⟩] 27)).heap.size = w.heap.size + 1 := by simp
  have H2 : Box (w.alloc (.cells #[.int .i64 0, .int .i64 0, .int .i64 0, .string ⟨#[]⟩, .int .i64 0, .int .i64 0, .string ⟨#[]⟩, .int .i64 0, .int .i64 0, .string ⟨#[]⟩] 27)) w.heap.size ⟨0, 0, 0, ⟨#[]⟩, ⟨0, 0, ⟨#[]⟩⟩, ⟨0, 0, ⟨#[]⟩⟩⟩ := Box.new w ⟨0, 0, 0, ⟨#[]⟩, ⟨0, 0, ⟨#[]⟩⟩, ⟨0, 0, ⟨#[]⟩⟩⟩ 27
  have HB : Below w.heap.size w (w.alloc (.cells #[.int .i64 0, .int .i64 0, .int .i64 0, .string ⟨#[]⟩, .int .i64 0, .int .i64 0, .string ⟨#[]⟩, .int .i64 0, .int .i64 0, .string ⟨#[]⟩] 27)) := (Below.refl _ _).alloc (Nat.le_refl _) _
  go_enter Try.func40, Try.ntmps40
  go_wp2_with fail
  generalize w.alloc (.cells #[.int .i64 0, .int .i64 0, .int .i64 0, .string ⟨#[]⟩, .int .i64 0, .int .i64 0, .string ⟨#[]⟩, .int .i64 0, .int .i64 0, .string ⟨#[]⟩] 27) = W0 at *
  have HR : RA t (W0.alloc (.cells #[.string t, .int .i64 0, .int .i64 0] 71)) (w.heap.size + 1) (t, 0) := hz ▸ ⟨ht, 0, Nat.zero_le _, IsRR.new W0 t 0 0 71, left_0 t⟩
  have hA := (Below.refl W0.heap.size W0).alloc (Nat.le_refl _) (.cells #[.string t, .int .i64 0, .int .i64 0] 71)
  have h2g : ¬ w.heap.size = w.heap.size + 1 := by omega
  have hgB : w.heap.size ≤ w.heap.size + 1 := by omega
  replace H2 := Lib.hid (H2.below hA)
  replace HB := Lib.hid (bt HB hA)
  clear hA hz
  generalize W0.alloc (.cells #[.string t, .int .i64 0, .int .i64 0] 71) = W1 at *
  generalize w.heap.size + 1 = g at *
  refine (CN.out _ _ HR).mono ?_
  rintro e' W2 ⟨rfl, hR, hA⟩
  have h5g : ¬ W2.heap.size = g := Nat.ne_of_gt hR.lt
  have h52 : ¬ w.heap.size = W2.heap.size := Nat.ne_of_lt (Nat.lt_of_lt_of_le H2.out.lt hA.size)
  replace H2 := Lib.hid (H2.out.frm hA h2g)
  replace HB := Lib.hid (hA.after HB.out (Nat.le_trans (Nat.le_refl _) HB.out.size) (fun k hk e => Nat.lt_irrefl k (Nat.lt_of_lt_of_le hk (e ▸ hgB))))
  have h5B : w.heap.size ≤ W2.heap.size := HB.out.size
  clear hA HR
  have hA := (Below.refl W2.heap.size W2).alloc (Nat.le_refl _) (.cells #[.int .i64 0, .int .i64 0, .int .i64 0, .string ⟨#[]⟩, .int .i64 0, .int .i64 0, .string ⟨#[]⟩, .int .i64 0, .int .i64 0, .string ⟨#[]⟩] 27)
  have HR := hR
  clear hR
  have H5 : Box (W2.alloc (.cells #[.int .i64 0, .int .i64 0, .int .i64 0, .string ⟨#[]⟩, .int .i64 0, .int .i64 0, .string ⟨#[]⟩, .int .i64 0, .int .i64 0, .string ⟨#[]⟩] 27)) W2.heap.size ⟨0, 0, 0, ⟨#[]⟩, ⟨0, 0, ⟨#[]⟩⟩, ⟨0, 0, ⟨#[]⟩⟩⟩ := Box.new W2 ⟨0, 0, 0, ⟨#[]⟩, ⟨0, 0, ⟨#[]⟩⟩, ⟨0, 0, ⟨#[]⟩⟩⟩ 27
  replace H2 := Lib.hid (H2.out.below hA)
  replace HB := Lib.hid (bt HB.out hA)
  replace HR := HR.frm (S := fun _ => False) (Frm.ofBelow hA) (fun x => x)
  clear hA
  obtain ⟨⟨c0, c1, c2, c3, c4, c5, c6, c7, c8, c9⟩, x0, x1, x2, x3, x4, x5, x6, x7, x8, x9⟩ := id H5
  go_wp2_with fail
  clear c0 c1 c2 c3 c4 c5 c6 c7 c8 c9 x0 x1 x2 x3 x4 x5 x6 x7 x8 x9
  generalize W2.alloc (.cells #[.int .i64 0, .int .i64 0, .int .i64 0, .string ⟨#[]⟩, .int .i64 0, .int .i64 0, .string ⟨#[]⟩, .int .i64 0, .int .i64 0, .string ⟨#[]⟩] 27) = W3 at *
  replace H5 := Lib.hid H5
  generalize W2.heap.size = K at *
  have h25 : ¬ w.heap.size = K := h52
  have hg5 : ¬ g = K := fun e => h5g e.symm
  refine (CV.out W3 g HR).mono ?_
  rintro e' W4 ⟨rfl, hR, hA⟩
  replace H2 := Lib.hid (H2.out.frm hA h2g)
  replace H5 := Lib.hid (H5.out.frm hA h5g)
  replace HB := Lib.hid (hA.after HB.out HB.out.size (fun k hk e => Nat.lt_irrefl k (Nat.lt_of_lt_of_le hk (e ▸ hgB))))
  replace HR := hR
  clear hR hA
  have hA := (Below.refl W4.heap.size W4).alloc (Nat.le_refl _) (.cells #[.int .i64 va, .int .i64 vb, .string vd] 25)
  have e0 : (W4.alloc (.cells #[.int .i64 va, .int .i64 vb, .string vd] 25)).cell? ⟨W4.heap.size, 0, none⟩ = some (.int .i64 va) := by simp [go_sem]
  have e1 : (W4.alloc (.cells #[.int .i64 va, .int .i64 vb, .string vd] 25)).cell? ⟨W4.heap.size, 1, none⟩ = some (.int .i64 vb) := by simp [go_sem]
  have e2 : (W4.alloc (.cells #[.int .i64 va, .int .i64 vb, .string vd] 25)).cell? ⟨W4.heap.size, 2, none⟩ = some (.string vd) := by simp [go_sem]
  have h56 : ¬ K = W4.heap.size := Nat.ne_of_lt H5.out.lt
  have h65 : ¬ W4.heap.size = K := fun e => h56 e.symm
  replace H2 := Lib.hid (H2.out.below hA)
  replace H5 := Lib.hid (H5.out.below hA)
  replace HB := Lib.hid (bt HB.out hA)
  replace HR := HR.frm (S := fun _ => False) (Frm.ofBelow hA) (fun x => x)
  clear hA
  obtain ⟨⟨c0, c1, c2, c3, c4, c5, c6, c7, c8, c9⟩, x0, x1, x2, x3, x4, x5, x6, x7, x8, x9⟩ := id H5.out
  go_wp2_with fail
  generalize W4.alloc (.cells #[.int .i64 va, .int .i64 vb, .string vd] 25) = W5 at *
  generalize W4.heap.size = K6 at *
  clear c0 c1 c2 c3 c4 c5 c6 c7 c8 c9 x0 x1 x2 x3 x4 x5 x6 x7 x8 x9
  clear e0 e1 e2
  have hF : Frm (fun x => x = K) W5 (stD (stV W5 K va vb) K vd) := (stV_frm W5 K va vb).trans (stD_frm _ K vd)
  replace H5 := Lib.hid ((H5.out.stV va vb).stD vd)
  replace H2 := Lib.hid (H2.out.frm hF h25)
  replace HR := HR.frm hF hg5
  replace HB := Lib.hid (hF.after HB.out HB.out.size (fun k hk e => Nat.lt_irrefl k (Nat.lt_of_lt_of_le hk (e ▸ h5B))))
  clear hF
  refine (CE.out (stD (stV W5 K va vb) K vd) g HR).mono ?_
  rintro e' W6 ⟨rfl, hA⟩
  replace H2 := Lib.hid (H2.out.below hA)
  replace H5 := Lib.hid (H5.out.below hA)
  replace HB := Lib.hid (bt HB.out hA)
  clear hA HR CE
  by_cases hE0 : E = 0
  case neg =>
    have m1 : (E == 0) = false := beq_eq_false_iff_ne.2 hE0
    have m2 : (E != 0) = true := bne_iff_ne.2 hE0
    obtain ⟨⟨d0, d1, d2, d3, d4, d5, d6, d7, d8, d9⟩, y0, y1, y2, y3, y4, y5, y6, y7, y8, y9⟩ := id H2.out
    go_wp2
    refine bodyPost_ret (v := .tuple #[SS 0 0 0 ⟨#[]⟩ 0 0 ⟨#[]⟩ 0 0 ⟨#[]⟩, .int .i64 E]) (by simp [results, Try.results40, go_sem, d0, d1, d2, d3, d4, d5, d6, d7, d8, d9]) rfl ⟨by (have q1 : GE = E := (by have q := HGE.out; simpa [hE0] using q); have q2 := HGS.out.2 (by rw [q1]; exact hE0); rw [q1, q2]; rfl), ?_⟩
    repeat (first | with_reducible exact HB.out | with_reducible refine Below.setCell ?_ (by first | (simp; done) | (simp; omega)) _)
  subst hE0
  obtain ⟨⟨c0, c1, c2, c3, c4, c5, c6, c7, c8, c9⟩, x0, x1, x2, x3, x4, x5, x6, x7, x8, x9⟩ := id H5.out
  go_wp2_with fail
  refine (CX.out _).mono ?_
  rintro e' W7 ⟨rfl, hA⟩
  replace H2 := Lib.hid (H2.out.below hA)
  replace H5 := Lib.hid (H5.out.below hA)
  replace HB := Lib.hid (bt HB.out hA)
  clear hA CX
  clear c0 c1 c2 c3 c4 c5 c6 c7 c8 c9 x0 x1 x2 x3 x4 x5 x6 x7 x8 x9
  by_cases hX0 : X = 0
  case neg =>
    have m1 : (X == 0) = false := beq_eq_false_iff_ne.2 hX0
    have m2 : (X != 0) = true := bne_iff_ne.2 hX0
    obtain ⟨⟨d0, d1, d2, d3, d4, d5, d6, d7, d8, d9⟩, y0, y1, y2, y3, y4, y5, y6, y7, y8, y9⟩ := id H2.out
    go_wp2
    refine bodyPost_ret (v := .tuple #[SS 0 0 0 ⟨#[]⟩ 0 0 ⟨#[]⟩ 0 0 ⟨#[]⟩, .int .i64 X]) (by simp [results, Try.results40, go_sem, d0, d1, d2, d3, d4, d5, d6, d7, d8, d9]) rfl ⟨by (have q1 : GE = X := (by have q := HGE.out; simpa using q); have q2 := HGS.out.2 (by rw [q1]; exact hX0); rw [q1, q2]; rfl), ?_⟩
    repeat (first | with_reducible exact HB.out | with_reducible refine Below.setCell ?_ (by first | (simp; done) | (simp; omega)) _)
  subst hX0
  obtain ⟨⟨c0, c1, c2, c3, c4, c5, c6, c7, c8, c9⟩, x0, x1, x2, x3, x4, x5, x6, x7, x8, x9⟩ := id H5.out
  obtain ⟨⟨d0, d1, d2, d3, d4, d5, d6, d7, d8, d9⟩, y0, y1, y2, y3, y4, y5, y6, y7, y8, y9⟩ := id H2.out
  go_wp2
  refine bodyPost_ret (v := .tuple #[SS 0 va vb vd 0 0 ⟨#[]⟩ 0 0 ⟨#[]⟩, .int .i64 0]) (by simp [results, Try.results40, go_sem, d0, d1, d2, d3, d4, d5, d6, d7, d8, d9]) rfl ⟨by (have q1 : GE = 0 := (by have q := HGE.out; simpa using q); have q2 := HGS.out.1 q1; rw [q1, q2]), ?_⟩
  repeat (first | with_reducible exact HB.out | with_reducible refine Below.setCell ?_ (by first | (simp; done) | (simp; omega)) _)
set_option maxRecDepth 20000 in
set_option maxHeartbeats 3200000 in
theorem rsget_1 (t : ByteArray) (w : World) (ht : t.size ≤ 100000) (h0 : nO (t, 0) 1 = 1) : Calls Try.prog 40 #[.string t] w fun e' w' => e' = .returned (.tuple #[(getSt t).v, .int .i64 (getE t)]) ∧ Below w.heap.size w w' := by
  obtain ⟨z1, hz1⟩ : ∃ z, n1 (t, 0) 1 = z := ⟨_, rfl⟩
  obtain ⟨⟨va, vb, vd⟩, hv⟩ : ∃ v, rdVe z1 = v := ⟨_, rfl⟩
  obtain ⟨z2, hz2⟩ : ∃ z, rdVs z1 = z := ⟨_, rfl⟩
  obtain ⟨⟨ua, ub, ud⟩, hu⟩ : ∃ v, rdVe z2 = v := ⟨_, rfl⟩
  obtain ⟨zz, hzz⟩ : ∃ z, rdVs z2 = z := ⟨_, rfl⟩
  obtain ⟨hGR, hGE⟩ := get_1 hz1 h0 hv hz2 hu hzz
  have CN : Hid (∀ W g, (RA t) W g (t, 0) → Calls Try.prog 38 #[.pointer (some ⟨g, 0, none⟩), .int .i64 1] W fun e w' => e = .returned (.int .i64 1) ∧ (RA t) w' g z1 ∧ Frm (fun x => x = g) W w') := fun W g h => by
    have := num_r (z := (t, 0)) 1 h; rw [h0, hz1] at this; exact this
  have CV : Hid (∀ W g, (RA t) W g z1 → Calls Try.prog 61 #[.pointer (some ⟨g, 0, none⟩)] W fun e w' => e = .returned (VE va vb vd) ∧ (RA t) w' g z2 ∧ Frm (fun x => x = g) W w') := fun W g h => by
    have := ver_r h; rw [hv, hz2] at this; exact this
  have CU : Hid (∀ W g, (RA t) W g z2 → Calls Try.prog 61 #[.pointer (some ⟨g, 0, none⟩)] W fun e w' => e = .returned (VE ua ub ud) ∧ (RA t) w' g zz ∧ Frm (fun x => x = g) W w') := fun W g h => by
    have := ver_r h; rw [hu, hzz] at this; exact this
  clear hz1 hv hz2 hu hzz h0
  obtain ⟨X, hX⟩ : ∃ X, chkE ⟨1, va, ub, ⟨#[]⟩, ⟨va, vb, vd⟩, ⟨ua, ub, ud⟩⟩ = X := ⟨_, rfl⟩
  have CX := Lib.hid (fun w => rchk_at hX w)
  rw [hX] at hGE
  obtain ⟨E, hE⟩ : ∃ E, rdEnd zz.1 zz.2 = E := ⟨_, rfl⟩
  have CE : Hid (∀ W g, (RA t) W g zz → Calls Try.prog 39 #[.pointer (some ⟨g, 0, none⟩)] W fun e w' => e = .returned (.int .i64 E) ∧ Below W.heap.size W w') := fun W g h => by
    have := end_r h; rw [hE] at this; exact this
  rw [hE] at hGE
  clear hE hX
  have HGS : Hid ((getE t = 0 → getSt t = ⟨1, va, ub, ⟨#[]⟩, ⟨va, vb, vd⟩, ⟨ua, ub, ud⟩⟩) ∧ (¬ getE t = 0 → getSt t = St.zero)) := ⟨fun h => getS_ok h hGR, fun h => getS_no h⟩
  have HGE := Lib.hid hGE
  clear hGE hGR
  generalize getSt t = GS at *
  generalize getE t = GE at *
  have hz : (w.alloc (.cells #[.int .i64 0, .int .i64 0, .int .i64 0, .string ⟨#[]⟩, .int .i64 0, .int .i64 0, .string ⟨#[]⟩, .int .i64 0, .int .i64 0, .string ⟨#[]⟩] 27)).heap.size = w.heap.size + 1 := by simp
  have H2 : Box (w.alloc (.cells #[.int .i64 0, .int .i64 0, .int .i64 0, .string ⟨#[]⟩, .int .i64 0, .int .i64 0, .string ⟨#[]⟩, .int .i64 0, .int .i64 0, .string ⟨#[]⟩] 27)) w.heap.size ⟨0, 0, 0, ⟨#[]⟩, ⟨0, 0, ⟨#[]⟩⟩, ⟨0, 0, ⟨#[]⟩⟩⟩ := Box.new w ⟨0, 0, 0, ⟨#[]⟩, ⟨0, 0, ⟨#[]⟩⟩, ⟨0, 0, ⟨#[]⟩⟩⟩ 27
  have HB : Below w.heap.size w (w.alloc (.cells #[.int .i64 0, .int .i64 0, .int .i64 0, .string ⟨#[]⟩, .int .i64 0, .int .i64 0, .string ⟨#[]⟩, .int .i64 0, .int .i64 0, .string ⟨#[]⟩] 27)) := (Below.refl _ _).alloc (Nat.le_refl _) _
  go_enter Try.func40, Try.ntmps40
  go_wp2_with fail
  generalize w.alloc (.cells #[.int .i64 0, .int .i64 0, .int .i64 0, .string ⟨#[]⟩, .int .i64 0, .int .i64 0, .string ⟨#[]⟩, .int .i64 0, .int .i64 0, .string ⟨#[]⟩] 27) = W0 at *
  have HR : RA t (W0.alloc (.cells #[.string t, .int .i64 0, .int .i64 0] 71)) (w.heap.size + 1) (t, 0) := hz ▸ ⟨ht, 0, Nat.zero_le _, IsRR.new W0 t 0 0 71, left_0 t⟩
  have hA := (Below.refl W0.heap.size W0).alloc (Nat.le_refl _) (.cells #[.string t, .int .i64 0, .int .i64 0] 71)
  have h2g : ¬ w.heap.size = w.heap.size + 1 := by omega
  have hgB : w.heap.size ≤ w.heap.size + 1 := by omega
  replace H2 := Lib.hid (H2.below hA)
  replace HB := Lib.hid (bt HB hA)
  clear hA hz
  generalize W0.alloc (.cells #[.string t, .int .i64 0, .int .i64 0] 71) = W1 at *
  generalize w.heap.size + 1 = g at *
  refine (CN.out _ _ HR).mono ?_
  rintro e' W2 ⟨rfl, hR, hA⟩
  have h5g : ¬ W2.heap.size = g := Nat.ne_of_gt hR.lt
  have h52 : ¬ w.heap.size = W2.heap.size := Nat.ne_of_lt (Nat.lt_of_lt_of_le H2.out.lt hA.size)
  replace H2 := Lib.hid (H2.out.frm hA h2g)
  replace HB := Lib.hid (hA.after HB.out (Nat.le_trans (Nat.le_refl _) HB.out.size) (fun k hk e => Nat.lt_irrefl k (Nat.lt_of_lt_of_le hk (e ▸ hgB))))
  have h5B : w.heap.size ≤ W2.heap.size := HB.out.size
  clear hA HR
  have hA := (Below.refl W2.heap.size W2).alloc (Nat.le_refl _) (.cells #[.int .i64 1, .int .i64 0, .int .i64 0, .string ⟨#[]⟩, .int .i64 0, .int .i64 0, .string ⟨#[]⟩, .int .i64 0, .int .i64 0, .string ⟨#[]⟩] 27)
  have HR := hR
  clear hR
  have H5 : Box (W2.alloc (.cells #[.int .i64 1, .int .i64 0, .int .i64 0, .string ⟨#[]⟩, .int .i64 0, .int .i64 0, .string ⟨#[]⟩, .int .i64 0, .int .i64 0, .string ⟨#[]⟩] 27)) W2.heap.size ⟨1, 0, 0, ⟨#[]⟩, ⟨0, 0, ⟨#[]⟩⟩, ⟨0, 0, ⟨#[]⟩⟩⟩ := Box.new W2 ⟨1, 0, 0, ⟨#[]⟩, ⟨0, 0, ⟨#[]⟩⟩, ⟨0, 0, ⟨#[]⟩⟩⟩ 27
  replace H2 := Lib.hid (H2.out.below hA)
  replace HB := Lib.hid (bt HB.out hA)
  replace HR := HR.frm (S := fun _ => False) (Frm.ofBelow hA) (fun x => x)
  clear hA
  obtain ⟨⟨c0, c1, c2, c3, c4, c5, c6, c7, c8, c9⟩, x0, x1, x2, x3, x4, x5, x6, x7, x8, x9⟩ := id H5
  go_wp2_with fail
  clear c0 c1 c2 c3 c4 c5 c6 c7 c8 c9 x0 x1 x2 x3 x4 x5 x6 x7 x8 x9
  generalize W2.alloc (.cells #[.int .i64 1, .int .i64 0, .int .i64 0, .string ⟨#[]⟩, .int .i64 0, .int .i64 0, .string ⟨#[]⟩, .int .i64 0, .int .i64 0, .string ⟨#[]⟩] 27) = W3 at *
  replace H5 := Lib.hid H5
  generalize W2.heap.size = K at *
  have h25 : ¬ w.heap.size = K := h52
  have hg5 : ¬ g = K := fun e => h5g e.symm
  refine (CV.out W3 g HR).mono ?_
  rintro e' W4 ⟨rfl, hR, hA⟩
  replace H2 := Lib.hid (H2.out.frm hA h2g)
  replace H5 := Lib.hid (H5.out.frm hA h5g)
  replace HB := Lib.hid (hA.after HB.out HB.out.size (fun k hk e => Nat.lt_irrefl k (Nat.lt_of_lt_of_le hk (e ▸ hgB))))
  replace HR := hR
  clear hR hA
  obtain ⟨⟨c0, c1, c2, c3, c4, c5, c6, c7, c8, c9⟩, x0, x1, x2, x3, x4, x5, x6, x7, x8, x9⟩ := id H5.out
  go_wp2_with fail
  clear c0 c1 c2 c3 c4 c5 c6 c7 c8 c9 x0 x1 x2 x3 x4 x5 x6 x7 x8 x9
  have hF : Frm (fun x => x = K) W4 (stA W4 K va vb vd) := stA_frm W4 K va vb vd
  replace H5 := Lib.hid (H5.out.stA va vb vd)
  replace H2 := Lib.hid (H2.out.frm hF h25)
  replace HR := HR.frm hF hg5
  replace HB := Lib.hid (hF.after HB.out HB.out.size (fun k hk e => Nat.lt_irrefl k (Nat.lt_of_lt_of_le hk (e ▸ h5B))))
  clear hF
  refine (CU.out (stA W4 K va vb vd) g HR).mono ?_
  rintro e' W5 ⟨rfl, hR, hA⟩
  replace H2 := Lib.hid (H2.out.frm hA h2g)
  replace H5 := Lib.hid (H5.out.frm hA h5g)
  replace HB := Lib.hid (hA.after HB.out HB.out.size (fun k hk e => Nat.lt_irrefl k (Nat.lt_of_lt_of_le hk (e ▸ hgB))))
  replace HR := hR
  clear hR hA
  obtain ⟨⟨c0, c1, c2, c3, c4, c5, c6, c7, c8, c9⟩, x0, x1, x2, x3, x4, x5, x6, x7, x8, x9⟩ := id H5.out
  go_wp2_with fail
  clear c0 c1 c2 c3 c4 c5 c6 c7 c8 c9 x0 x1 x2 x3 x4 x5 x6 x7 x8 x9
  have hF : Frm (fun x => x = K) W5 (stV (stB W5 K ua ub ud) K va ub) := (stB_frm W5 K ua ub ud).trans (stV_frm _ K va ub)
  replace H5 := Lib.hid ((H5.out.stB ua ub ud).stV va ub)
  replace H2 := Lib.hid (H2.out.frm hF h25)
  replace HR := HR.frm hF hg5
  replace HB := Lib.hid (hF.after HB.out HB.out.size (fun k hk e => Nat.lt_irrefl k (Nat.lt_of_lt_of_le hk (e ▸ h5B))))
  clear hF
  refine (CE.out (stV (stB W5 K ua ub ud) K va ub) g HR).mono ?_
  rintro e' W6 ⟨rfl, hA⟩
  replace H2 := Lib.hid (H2.out.below hA)
  replace H5 := Lib.hid (H5.out.below hA)
  replace HB := Lib.hid (bt HB.out hA)
  clear hA HR CE
  by_cases hE0 : E = 0
  case neg =>
    have m1 : (E == 0) = false := beq_eq_false_iff_ne.2 hE0
    have m2 : (E != 0) = true := bne_iff_ne.2 hE0
    obtain ⟨⟨d0, d1, d2, d3, d4, d5, d6, d7, d8, d9⟩, y0, y1, y2, y3, y4, y5, y6, y7, y8, y9⟩ := id H2.out
    go_wp2
    refine bodyPost_ret (v := .tuple #[SS 0 0 0 ⟨#[]⟩ 0 0 ⟨#[]⟩ 0 0 ⟨#[]⟩, .int .i64 E]) (by simp [results, Try.results40, go_sem, d0, d1, d2, d3, d4, d5, d6, d7, d8, d9]) rfl ⟨by (have q1 : GE = E := (by have q := HGE.out; simpa [hE0] using q); have q2 := HGS.out.2 (by rw [q1]; exact hE0); rw [q1, q2]; rfl), ?_⟩
    repeat (first | with_reducible exact HB.out | with_reducible refine Below.setCell ?_ (by first | (simp; done) | (simp; omega)) _)
  subst hE0
  obtain ⟨⟨c0, c1, c2, c3, c4, c5, c6, c7, c8, c9⟩, x0, x1, x2, x3, x4, x5, x6, x7, x8, x9⟩ := id H5.out
  go_wp2_with fail
  refine (CX.out _).mono ?_
  rintro e' W7 ⟨rfl, hA⟩
  replace H2 := Lib.hid (H2.out.below hA)
  replace H5 := Lib.hid (H5.out.below hA)
  replace HB := Lib.hid (bt HB.out hA)
  clear hA CX
  clear c0 c1 c2 c3 c4 c5 c6 c7 c8 c9 x0 x1 x2 x3 x4 x5 x6 x7 x8 x9
  by_cases hX0 : X = 0
  case neg =>
    have m1 : (X == 0) = false := beq_eq_false_iff_ne.2 hX0
    have m2 : (X != 0) = true := bne_iff_ne.2 hX0
    obtain ⟨⟨d0, d1, d2, d3, d4, d5, d6, d7, d8, d9⟩, y0, y1, y2, y3, y4, y5, y6, y7, y8, y9⟩ := id H2.out
    go_wp2
    refine bodyPost_ret (v := .tuple #[SS 0 0 0 ⟨#[]⟩ 0 0 ⟨#[]⟩ 0 0 ⟨#[]⟩, .int .i64 X]) (by simp [results, Try.results40, go_sem, d0, d1, d2, d3, d4, d5, d6, d7, d8, d9]) rfl ⟨by (have q1 : GE = X := (by have q := HGE.out; simpa using q); have q2 := HGS.out.2 (by rw [q1]; exact hX0); rw [q1, q2]; rfl), ?_⟩
    repeat (first | with_reducible exact HB.out | with_reducible refine Below.setCell ?_ (by first | (simp; done) | (simp; omega)) _)
  subst hX0
  obtain ⟨⟨c0, c1, c2, c3, c4, c5, c6, c7, c8, c9⟩, x0, x1, x2, x3, x4, x5, x6, x7, x8, x9⟩ := id H5.out
  obtain ⟨⟨d0, d1, d2, d3, d4, d5, d6, d7, d8, d9⟩, y0, y1, y2, y3, y4, y5, y6, y7, y8, y9⟩ := id H2.out
  go_wp2
  refine bodyPost_ret (v := .tuple #[SS 1 va ub ⟨#[]⟩ va vb vd ua ub ud, .int .i64 0]) (by simp [results, Try.results40, go_sem, d0, d1, d2, d3, d4, d5, d6, d7, d8, d9]) rfl ⟨by (have q1 : GE = 0 := (by have q := HGE.out; simpa using q); have q2 := HGS.out.1 q1; rw [q1, q2]), ?_⟩
  repeat (first | with_reducible exact HB.out | with_reducible refine Below.setCell ?_ (by first | (simp; done) | (simp; omega)) _)
set_option maxRecDepth 20000 in
set_option maxHeartbeats 3200000 in
theorem rsget_x (t : ByteArray) (w : World) (ht : t.size ≤ 100000) (h0 : ¬ nO (t, 0) 1 = 0) (h1 : ¬ nO (t, 0) 1 = 1) : Calls Try.prog 40 #[.string t] w fun e' w' => e' = .returned (.tuple #[(getSt t).v, .int .i64 (getE t)]) ∧ Below w.heap.size w w' := by
  have HGE := Lib.hid (get_x h0 h1)
  have HGS := Lib.hid (getS_no (t := t) (by rw [get_x h0 h1]; decide))
  have CN : Hid (∀ W g, (RA t) W g (t, 0) → Calls Try.prog 38 #[.pointer (some ⟨g, 0, none⟩), .int .i64 1] W fun e w' => e = .returned (.int .i64 (nO (t, 0) 1)) ∧ (RA t) w' g (n1 (t, 0) 1) ∧ Frm (fun x => x = g) W w') := fun W g h => num_r (z := (t, 0)) 1 h
  have m1 : (nO (t, 0) 1 == 0) = false := beq_eq_false_iff_ne.2 h0
  have m2 : (nO (t, 0) 1 == 1) = false := beq_eq_false_iff_ne.2 h1
  clear h0 h1
  generalize nO (t, 0) 1 = kk at *
  generalize n1 (t, 0) 1 = z1 at *
  generalize getSt t = GS at *
  generalize getE t = GE at *
  have hz : (w.alloc (.cells #[.int .i64 0, .int .i64 0, .int .i64 0, .string ⟨#[]⟩, .int .i64 0, .int .i64 0, .string ⟨#[]⟩, .int .i64 0, .int .i64 0, .string ⟨#[]⟩] 27)).heap.size = w.heap.size + 1 := by simp
  have H2 : Box (w.alloc (.cells #[.int .i64 0, .int .i64 0, .int .i64 0, .string ⟨#[]⟩, .int .i64 0, .int .i64 0, .string ⟨#[]⟩, .int .i64 0, .int .i64 0, .string ⟨#[]⟩] 27)) w.heap.size ⟨0, 0, 0, ⟨#[]⟩, ⟨0, 0, ⟨#[]⟩⟩, ⟨0, 0, ⟨#[]⟩⟩⟩ := Box.new w ⟨0, 0, 0, ⟨#[]⟩, ⟨0, 0, ⟨#[]⟩⟩, ⟨0, 0, ⟨#[]⟩⟩⟩ 27
  have HB : Below w.heap.size w (w.alloc (.cells #[.int .i64 0, .int .i64 0, .int .i64 0, .string ⟨#[]⟩, .int .i64 0, .int .i64 0, .string ⟨#[]⟩, .int .i64 0, .int .i64 0, .string ⟨#[]⟩] 27)) := (Below.refl _ _).alloc (Nat.le_refl _) _
  go_enter Try.func40, Try.ntmps40
  go_wp2_with fail
  generalize w.alloc (.cells #[.int .i64 0, .int .i64 0, .int .i64 0, .string ⟨#[]⟩, .int .i64 0, .int .i64 0, .string ⟨#[]⟩, .int .i64 0, .int .i64 0, .string ⟨#[]⟩] 27) = W0 at *
  have HR : RA t (W0.alloc (.cells #[.string t, .int .i64 0, .int .i64 0] 71)) (w.heap.size + 1) (t, 0) := hz ▸ ⟨ht, 0, Nat.zero_le _, IsRR.new W0 t 0 0 71, left_0 t⟩
  have hA := (Below.refl W0.heap.size W0).alloc (Nat.le_refl _) (.cells #[.string t, .int .i64 0, .int .i64 0] 71)
  have h2g : ¬ w.heap.size = w.heap.size + 1 := by omega
  have hgB : w.heap.size ≤ w.heap.size + 1 := by omega
  replace H2 := Lib.hid (H2.below hA)
  replace HB := Lib.hid (bt HB hA)
  clear hA hz
  generalize W0.alloc (.cells #[.string t, .int .i64 0, .int .i64 0] 71) = W1 at *
  generalize w.heap.size + 1 = g at *
  refine (CN.out _ _ HR).mono ?_
  rintro e' W2 ⟨rfl, hR, hA⟩
  have h5g : ¬ W2.heap.size = g := Nat.ne_of_gt hR.lt
  have h52 : ¬ w.heap.size = W2.heap.size := Nat.ne_of_lt (Nat.lt_of_lt_of_le H2.out.lt hA.size)
  replace H2 := Lib.hid (H2.out.frm hA h2g)
  replace HB := Lib.hid (hA.after HB.out (Nat.le_trans (Nat.le_refl _) HB.out.size) (fun k hk e => Nat.lt_irrefl k (Nat.lt_of_lt_of_le hk (e ▸ hgB))))
  have h5B : w.heap.size ≤ W2.heap.size := HB.out.size
  clear hA HR
  have hA := (Below.refl W2.heap.size W2).alloc (Nat.le_refl _) (.cells #[.int .i64 kk, .int .i64 0, .int .i64 0, .string ⟨#[]⟩, .int .i64 0, .int .i64 0, .string ⟨#[]⟩, .int .i64 0, .int .i64 0, .string ⟨#[]⟩] 27)
  have HR := hR
  clear hR
  obtain ⟨⟨d0, d1, d2, d3, d4, d5, d6, d7, d8, d9⟩, y0, y1, y2, y3, y4, y5, y6, y7, y8, y9⟩ := id (H2.out.below hA)
  have H5 : Box (W2.alloc (.cells #[.int .i64 kk, .int .i64 0, .int .i64 0, .string ⟨#[]⟩, .int .i64 0, .int .i64 0, .string ⟨#[]⟩, .int .i64 0, .int .i64 0, .string ⟨#[]⟩] 27)) W2.heap.size ⟨kk, 0, 0, ⟨#[]⟩, ⟨0, 0, ⟨#[]⟩⟩, ⟨0, 0, ⟨#[]⟩⟩⟩ := Box.new W2 ⟨kk, 0, 0, ⟨#[]⟩, ⟨0, 0, ⟨#[]⟩⟩, ⟨0, 0, ⟨#[]⟩⟩⟩ 27
  replace H2 := Lib.hid (H2.out.below hA)
  replace HB := Lib.hid (bt HB.out hA)
  replace HR := HR.frm (S := fun _ => False) (Frm.ofBelow hA) (fun x => x)
  clear hA
  obtain ⟨⟨c0, c1, c2, c3, c4, c5, c6, c7, c8, c9⟩, x0, x1, x2, x3, x4, x5, x6, x7, x8, x9⟩ := id H5
  go_wp2_with fail
  refine bodyPost_ret (v := .tuple #[SS 0 0 0 ⟨#[]⟩ 0 0 ⟨#[]⟩ 0 0 ⟨#[]⟩, .int .i64 7]) (by simp [results, Try.results40, go_sem, d0, d1, d2, d3, d4, d5, d6, d7, d8, d9]) rfl ⟨by (rw [HGE.out, HGS.out]; rfl), ?_⟩
  repeat (first | with_reducible exact HB.out | with_reducible refine Below.setCell ?_ (by first | (simp; done) | (simp; omega)) _)
theorem rsget_any (t : ByteArray) (w : World) (ht : t.size ≤ 100000) : Calls Try.prog 40 #[.string t] w fun e' w' => e' = .returned (.tuple #[(getSt t).v, .int .i64 (getE t)]) ∧ Below w.heap.size w w' := by
  by_cases h0 : nO (t, 0) 1 = 0
  · exact rsget_0 t w ht h0
  · by_cases h1 : nO (t, 0) 1 = 1
    · exact rsget_1 t w ht h1
    · exact rsget_x t w ht h0 h1
end Go.Proofs.Ytemfdmbjlmiopaa
