/-
  States as bytes (chapter 23): the walks of Get.
-/
import Derived.Test.YtemfdmbjlmiopaaCode3
namespace Go.Proofs.Ytemfdmbjlmiopaa
open Go.RowKit
set_option linter.unusedVariables false
set_option linter.unusedSimpArgs false
set_option maxRecDepth 20000 in
set_option maxHeartbeats 3200000 in
theorem sget_0 (t : ByteArray) (w : World) (ht : t.size ≤ 100000) (h0 : nO (t, 0) 1 = 0) : Calls Try.prog 59 #[.string t] w fun e' w' => e' = .returned (.tuple #[(getSt t).v, .int .i64 (getE t)]) ∧ Below w.heap.size w w' := by
  obtain ⟨z1, hz1⟩ : ∃ z, n1 (t, 0) 1 = z := ⟨_, rfl⟩
  obtain ⟨⟨va, vb, vd⟩, hv⟩ : ∃ v, rdVe z1 = v := ⟨_, rfl⟩
  obtain ⟨zz, hzz⟩ : ∃ z, rdVs z1 = z := ⟨_, rfl⟩
  obtain ⟨hGR, hGE⟩ := get_0 hz1 h0 hv hzz
  have CN : Hid (∀ W g, PA W g (t, 0) → Calls Try.prog 36 #[.pointer (some ⟨g, 0, none⟩), .int .i64 1] W fun e w' => e = .returned (.int .i64 0) ∧ PA w' g z1 ∧ Frm (fun x => x = g) W w') := fun W g h => by
    have := num_p (z := (t, 0)) 1 h; rw [h0, hz1] at this; exact this
  have CV : Hid (∀ W g, PA W g z1 → Calls Try.prog 69 #[.pointer (some ⟨g, 0, none⟩)] W fun e w' => e = .returned (VE va vb vd) ∧ PA w' g zz ∧ Frm (fun x => x = g) W w') := fun W g h => by
    have := ver_p h; rw [hv, hzz] at this; exact this
  clear hz1 hv hzz h0
  obtain ⟨X, hX⟩ : ∃ X, chkE ⟨0, va, vb, vd, ⟨0, 0, ⟨#[]⟩⟩, ⟨0, 0, ⟨#[]⟩⟩⟩ = X := ⟨_, rfl⟩
  have CX := Lib.hid (fun w => chk_at hX w)
  rw [hX] at hGE
  obtain ⟨E, hE⟩ : ∃ E, rdEnd zz.1 zz.2 = E := ⟨_, rfl⟩
  have CE : Hid (∀ W g, PA W g zz → Calls Try.prog 58 #[.pointer (some ⟨g, 0, none⟩)] W fun e w' => e = .returned (.int .i64 E) ∧ Below W.heap.size W w') := fun W g h => by
    have := end_p h; rw [hE] at this; exact this
  rw [hE] at hGE
  clear hE hX
  have HGS : Hid ((getE t = 0 → getSt t = ⟨0, va, vb, vd, ⟨0, 0, ⟨#[]⟩⟩, ⟨0, 0, ⟨#[]⟩⟩⟩) ∧ (¬ getE t = 0 → getSt t = St.zero)) := ⟨fun h => getS_ok h hGR, fun h => getS_no h⟩
  have HGE := Lib.hid hGE
  clear hGE hGR
  generalize getSt t = GS at *
  generalize getE t = GE at *
  have H2 : Box (w.alloc (.cells #[.int .i64 0, .int .i64 0, .int .i64 0, .string ⟨#[]⟩, .int .i64 0, .int .i64 0, .string ⟨#[]⟩, .int .i64 0, .int .i64 0, .string ⟨#[]⟩] 27)) w.heap.size ⟨0, 0, 0, ⟨#[]⟩, ⟨0, 0, ⟨#[]⟩⟩, ⟨0, 0, ⟨#[]⟩⟩⟩ := Box.new w ⟨0, 0, 0, ⟨#[]⟩, ⟨0, 0, ⟨#[]⟩⟩, ⟨0, 0, ⟨#[]⟩⟩⟩ 27
  have HB : Below w.heap.size w (w.alloc (.cells #[.int .i64 0, .int .i64 0, .int .i64 0, .string ⟨#[]⟩, .int .i64 0, .int .i64 0, .string ⟨#[]⟩, .int .i64 0, .int .i64 0, .string ⟨#[]⟩] 27)) := (Below.refl _ _).alloc (Nat.le_refl _) _
  go_enter Try.func59, Try.ntmps59
  go_wp2_with fail
  generalize w.alloc (.cells #[.int .i64 0, .int .i64 0, .int .i64 0, .string ⟨#[]⟩, .int .i64 0, .int .i64 0, .string ⟨#[]⟩, .int .i64 0, .int .i64 0, .string ⟨#[]⟩] 27) = W0 at *
  refine (new_any t W0).mono ?_
  rintro e' W1 ⟨rfl, hA⟩
  have HR : PA W1 W0.heap.size (t, 0) := hA ▸ ⟨IsRd.new W0 t 0 93, ht⟩
  have hb : Below W0.heap.size W0 W1 := hA ▸ (Below.refl _ _).alloc (Nat.le_refl _) _
  have h2g : ¬ w.heap.size = W0.heap.size := Nat.ne_of_lt H2.lt
  have hgB : w.heap.size ≤ W0.heap.size := HB.size
  replace H2 := Lib.hid (H2.below hb)
  replace HB := Lib.hid (bt HB hb)
  clear hA hb
  generalize W0.heap.size = g at *
  go_wp2_with fail
  refine (CN.out _ _ HR).mono ?_
  rintro e' W2 ⟨rfl, hR, hA⟩
  have h5g : ¬ W2.heap.size = g := Nat.ne_of_gt hR.lt
  have h52 : ¬ w.heap.size = W2.heap.size := Nat.ne_of_lt (Nat.lt_of_lt_of_le H2.out.lt hA.size)
  replace H2 := Lib.hid (H2.out.frm hA h2g)
  replace HB := Lib.hid (hA.after HB.out (Nat.le_trans (Nat.le_refl _) HB.out.size) (fun k hk e => Nat.lt_irrefl k (Nat.lt_of_lt_of_le hk (e ▸ hgB))))
  have h5B : w.heap.size ≤ W2.heap.size := HB.out.size
  clear hA HR
  have hA := (Below.refl W2.heap.size W2).alloc (Nat.le_refl _) (.cells #[.int .i64 0, .int .i64 0, .int .i64 0, .string ⟨#[]⟩, .int .i64 0, .int .i64 0, .string ⟨#[]⟩, .int .i64 0, .int .i64 0, .string ⟨#[]⟩] 27)
  have HR := hR
  clear hR
  have H5 : Box (W2.alloc (.cells #[.int .i64 0, .int .i64 0, .int .i64 0, .string ⟨#[]⟩, .int .i64 0, .int .i64 0, .string ⟨#[]⟩, .int .i64 0, .int .i64 0, .string ⟨#[]⟩] 27)) W2.heap.size ⟨0, 0, 0, ⟨#[]⟩, ⟨0, 0, ⟨#[]⟩⟩, ⟨0, 0, ⟨#[]⟩⟩⟩ := Box.new W2 ⟨0, 0, 0, ⟨#[]⟩, ⟨0, 0, ⟨#[]⟩⟩, ⟨0, 0, ⟨#[]⟩⟩⟩ 27
  replace H2 := Lib.hid (H2.out.below hA)
  replace HB := Lib.hid (bt HB.out hA)
  replace HR := HR.frm (S := fun _ => False) (Frm.ofBelow hA) (fun x => x)
  clear hA
  obtain ⟨⟨c0, c1, c2, c3, c4, c5, c6, c7, c8, c9⟩, x0, x1, x2, x3, x4, x5, x6, x7, x8, x9⟩ := id H5
  go_wp2_with fail
  clear c0 c1 c2 c3 c4 c5 c6 c7 c8 c9 x0 x1 x2 x3 x4 x5 x6 x7 x8 x9
  generalize W2.alloc (.cells #[.int .i64 0, .int .i64 0, .int .i64 0, .string ⟨#[]⟩, .int .i64 0, .int .i64 0, .string ⟨#[]⟩, .int .i64 0, .int .i64 0, .string ⟨#[]⟩] 27) = W3 at *
  replace H5 := Lib.hid H5
  generalize W2.heap.size = K at *
  have h25 : ¬ w.heap.size = K := h52
  have hg5 : ¬ g = K := fun e => h5g e.symm
  refine (CV.out W3 g HR).mono ?_
  rintro e' W4 ⟨rfl, hR, hA⟩
  replace H2 := Lib.hid (H2.out.frm hA h2g)
  replace H5 := Lib.hid (H5.out.frm hA h5g)
  replace HB := Lib.hid (hA.after HB.out HB.out.size (fun k hk e => Nat.lt_irrefl k (Nat.lt_of_lt_of_le hk (e ▸ hgB))))
  replace HR := hR
  clear hR hA
  have hA := (Below.refl W4.heap.size W4).alloc (Nat.le_refl _) (.cells #[.int .i64 va, .int .i64 vb, .string vd] 25)
  have e0 : (W4.alloc (.cells #[.int .i64 va, .int .i64 vb, .string vd] 25)).cell? ⟨W4.heap.size, 0, none⟩ = some (.int .i64 va) := by simp [go_sem]
  have e1 : (W4.alloc (.cells #[.int .i64 va, .int .i64 vb, .string vd] 25)).cell? ⟨W4.heap.size, 1, none⟩ = some (.int .i64 vb) := by simp [go_sem]
  have e2 : (W4.alloc (.cells #[.int .i64 va, .int .i64 vb, .string vd] 25)).cell? ⟨W4.heap.size, 2, none⟩ = some (.string vd) := by simp [go_sem]
  have h56 : ¬ K = W4.heap.size := Nat.ne_of_lt H5.out.lt
  have h65 : ¬ W4.heap.size = K := fun e => h56 e.symm
  replace H2 := Lib.hid (H2.out.below hA)
  replace H5 := Lib.hid (H5.out.below hA)
  replace HB := Lib.hid (bt HB.out hA)
  replace HR := HR.frm (S := fun _ => False) (Frm.ofBelow hA) (fun x => x)
  clear hA
  obtain ⟨⟨c0, c1, c2, c3, c4, c5, c6, c7, c8, c9⟩, x0, x1, x2, x3, x4, x5, x6, x7, x8, x9⟩ := id H5.out
  go_wp2_with fail
  generalize W4.alloc (.cells #[.int .i64 va, .int .i64 vb, .string vd] 25) = W5 at *
  generalize W4.heap.size = K6 at *
  have HS : Hid ((fun w' => w'.cell? ⟨K6, 0, none⟩ = some (.int .i64 va) ∧ w'.cell? ⟨K6, 1, none⟩ = some (.int .i64 vb) ∧ w'.cell? ⟨K6, 2, none⟩ = some (.string vd)) W5.drew) := ⟨e0, e1, e2⟩
  refine wp_region_held_drew (S := (fun w' => w'.cell? ⟨K6, 0, none⟩ = some (.int .i64 va) ∧ w'.cell? ⟨K6, 1, none⟩ = some (.int .i64 vb) ∧ w'.cell? ⟨K6, 2, none⟩ = some (.string vd))) (by kernel_rfl) ?_ (fun hHeld => ?_)
  · first | exact HS.out
  first | (refine tw (i := 0) (v := ?_) ?_ hHeld ?_; rotate_left; focus (intro w hSw; (try dsimp only at hSw); go_simp; (try with_reducible rfl); done)) | refine tn (i := 0) hHeld ?_
  try simp only [Act.put, List.setIfInBounds_toArray, List.set_cons_zero, List.set_cons_succ]
  first | (refine tw (i := 1) (v := ?_) ?_ hHeld ?_; rotate_left; focus (intro w hSw; (try dsimp only at hSw); go_simp; (try with_reducible rfl); done)) | refine tn (i := 1) hHeld ?_
  try simp only [Act.put, List.setIfInBounds_toArray, List.set_cons_zero, List.set_cons_succ]
  first | (refine tw (i := 2) (v := ?_) ?_ hHeld ?_; rotate_left; focus (intro w hSw; (try dsimp only at hSw); go_simp; (try with_reducible rfl); done)) | refine tn (i := 2) hHeld ?_
  try simp only [Act.put, List.setIfInBounds_toArray, List.set_cons_zero, List.set_cons_succ]
  first | (refine tw (i := 3) (v := ?_) ?_ hHeld ?_; rotate_left; focus (intro w hSw; (try dsimp only at hSw); go_simp; (try with_reducible rfl); done)) | refine tn (i := 3) hHeld ?_
  try simp only [Act.put, List.setIfInBounds_toArray, List.set_cons_zero, List.set_cons_succ]
  first | (refine tw (i := 4) (v := ?_) ?_ hHeld ?_; rotate_left; focus (intro w hSw; (try dsimp only at hSw); go_simp; (try with_reducible rfl); done)) | refine tn (i := 4) hHeld ?_
  try simp only [Act.put, List.setIfInBounds_toArray, List.set_cons_zero, List.set_cons_succ]
  refine call_next (i := 5) (by kernel_rfl) (by rfl) ?_
  intro o ho K hK
  simp only [List.getElem?_toArray, List.getElem?_cons_succ, List.getElem?_cons_zero, Option.some.injEq] at ho
  subst ho
  first | (fail; refine hK.out _ _ ?_ (fun hHeld => ?_)) | (go_simp; first | (with_reducible refine hK.out _ _ ?_ (fun hHeld => ?_)) | (fail; refine hK.out _ _ ?_ (fun hHeld => ?_)))
  · first | (with_reducible exact True.intro) | ((try simp only [World.cell?_drew] at *); repeat' (first | (with_reducible assumption) | (with_reducible refine And.intro ?_ ?_) | (refine cell_set_ne ?_ (by first | (simp; done) | (simp; omega))) | (refine bkeep (bdraws0 _ _) ?_; with_reducible assumption)))
  clear hK K
  try simp only [Act.put, List.setIfInBounds_toArray, List.set_cons_zero, List.set_cons_succ]
  first | (refine tw (i := 6) (v := ?_) ?_ hHeld ?_; rotate_left; focus (intro w hSw; (try dsimp only at hSw); go_simp; (try with_reducible rfl); done)) | refine tn (i := 6) hHeld ?_
  try simp only [Act.put, List.setIfInBounds_toArray, List.set_cons_zero, List.set_cons_succ]
  refine call_next (i := 7) (by kernel_rfl) (by rfl) ?_
  intro o ho K hK
  simp only [List.getElem?_toArray, List.getElem?_cons_succ, List.getElem?_cons_zero, Option.some.injEq] at ho
  subst ho
  first | (fail; refine hK.out _ _ ?_ (fun hHeld => ?_)) | (go_simp; first | (with_reducible refine hK.out _ _ ?_ (fun hHeld => ?_)) | (fail; refine hK.out _ _ ?_ (fun hHeld => ?_)))
  · first | (with_reducible exact True.intro) | ((try simp only [World.cell?_drew] at *); repeat' (first | (with_reducible assumption) | (with_reducible refine And.intro ?_ ?_) | (refine cell_set_ne ?_ (by first | (simp; done) | (simp; omega))) | (refine bkeep (bdraws0 _ _) ?_; with_reducible assumption)))
  clear hK K
  try simp only [Act.put, List.setIfInBounds_toArray, List.set_cons_zero, List.set_cons_succ]
  refine wpAnyH_done (by kernel_rfl) ?_ _
  clear c0 c1 c2 c3 c4 c5 c6 c7 c8 c9 x0 x1 x2 x3 x4 x5 x6 x7 x8 x9
  clear e0 e1 e2
  have hF : Frm (fun x => x = K) W5 ((stD (stV W5 K va vb) K vd).drew) := ((stV_frm W5 K va vb).trans (stD_frm _ K vd)).drew
  replace H5 := Lib.hid (((H5.out.stV va vb).stD vd).drew)
  replace H2 := Lib.hid (H2.out.frm hF h25)
  replace HR := HR.frm hF hg5
  replace HB := Lib.hid (hF.after HB.out HB.out.size (fun k hk e => Nat.lt_irrefl k (Nat.lt_of_lt_of_le hk (e ▸ h5B))))
  clear hF
  go_wp2_with fail
  refine (CE.out ((stD (stV W5 K va vb) K vd).drew) g HR).mono ?_
  rintro e' W6 ⟨rfl, hA⟩
  replace H2 := Lib.hid (H2.out.below hA)
  replace H5 := Lib.hid (H5.out.below hA)
  replace HB := Lib.hid (bt HB.out hA)
  clear hA HR CE
  by_cases hE0 : E = 0
  case neg =>
    have m1 : (E == 0) = false := beq_eq_false_iff_ne.2 hE0
    have m2 : (E != 0) = true := bne_iff_ne.2 hE0
    obtain ⟨⟨d0, d1, d2, d3, d4, d5, d6, d7, d8, d9⟩, y0, y1, y2, y3, y4, y5, y6, y7, y8, y9⟩ := id H2.out
    go_wp2
    refine bodyPost_ret (v := .tuple #[SS 0 0 0 ⟨#[]⟩ 0 0 ⟨#[]⟩ 0 0 ⟨#[]⟩, .int .i64 E]) (by simp [results, Try.results59, go_sem, d0, d1, d2, d3, d4, d5, d6, d7, d8, d9]) rfl ⟨by (have q1 : GE = E := (by have q := HGE.out; simpa [hE0] using q); have q2 := HGS.out.2 (by rw [q1]; exact hE0); rw [q1, q2]; rfl), ?_⟩
    repeat (first | with_reducible exact HB.out | with_reducible refine Below.setCell ?_ (by first | (simp; done) | (simp; omega)) _)
  subst hE0
  obtain ⟨⟨c0, c1, c2, c3, c4, c5, c6, c7, c8, c9⟩, x0, x1, x2, x3, x4, x5, x6, x7, x8, x9⟩ := id H5.out
  go_wp2_with fail
  refine (CX.out _).mono ?_
  rintro e' W7 ⟨rfl, hA⟩
  replace H2 := Lib.hid (H2.out.below hA)
  replace H5 := Lib.hid (H5.out.below hA)
  replace HB := Lib.hid (bt HB.out hA)
  clear hA CX
  clear c0 c1 c2 c3 c4 c5 c6 c7 c8 c9 x0 x1 x2 x3 x4 x5 x6 x7 x8 x9
  by_cases hX0 : X = 0
  case neg =>
    have m1 : (X == 0) = false := beq_eq_false_iff_ne.2 hX0
    have m2 : (X != 0) = true := bne_iff_ne.2 hX0
    obtain ⟨⟨d0, d1, d2, d3, d4, d5, d6, d7, d8, d9⟩, y0, y1, y2, y3, y4, y5, y6, y7, y8, y9⟩ := id H2.out
    go_wp2
    refine bodyPost_ret (v := .tuple #[SS 0 0 0 ⟨#[]⟩ 0 0 ⟨#[]⟩ 0 0 ⟨#[]⟩, .int .i64 X]) (by simp [results, Try.results59, go_sem, d0, d1, d2, d3, d4, d5, d6, d7, d8, d9]) rfl ⟨by (have q1 : GE = X := (by have q := HGE.out; simpa using q); have q2 := HGS.out.2 (by rw [q1]; exact hX0); rw [q1, q2]; rfl), ?_⟩
    repeat (first | with_reducible exact HB.out | with_reducible refine Below.setCell ?_ (by first | (simp; done) | (simp; omega)) _)
  subst hX0
  obtain ⟨⟨c0, c1, c2, c3, c4, c5, c6, c7, c8, c9⟩, x0, x1, x2, x3, x4, x5, x6, x7, x8, x9⟩ := id H5.out
  obtain ⟨⟨d0, d1, d2, d3, d4, d5, d6, d7, d8, d9⟩, y0, y1, y2, y3, y4, y5, y6, y7, y8, y9⟩ := id H2.out
  go_wp2
  refine bodyPost_ret (v := .tuple #[SS 0 va vb vd 0 0 ⟨#[]⟩ 0 0 ⟨#[]⟩, .int .i64 0]) (by simp [results, Try.results59, go_sem, d0, d1, d2, d3, d4, d5, d6, d7, d8, d9]) rfl ⟨by (have q1 : GE = 0 := (by have q := HGE.out; simpa using q); have q2 := HGS.out.1 q1; rw [q1, q2]), ?_⟩
  repeat (first | with_reducible exact HB.out | with_reducible refine Below.setCell ?_ (by first | (simp; done) | (simp; omega)) _)
set_option maxRecDepth 20000 in
set_option maxHeartbeats 3200000 in
theorem sget_1 (t : ByteArray) (w : World) (ht : t.size ≤ 100000) (h0 : nO (t, 0) 1 = 1) : Calls Try.prog 59 #[.string t] w fun e' w' => e' = .returned (.tuple #[(getSt t).v, .int .i64 (getE t)]) ∧ Below w.heap.size w w' := by
  obtain ⟨z1, hz1⟩ : ∃ z, n1 (t, 0) 1 = z := ⟨_, rfl⟩
  obtain ⟨⟨va, vb, vd⟩, hv⟩ : ∃ v, rdVe z1 = v := ⟨_, rfl⟩
  obtain ⟨z2, hz2⟩ : ∃ z, rdVs z1 = z := ⟨_, rfl⟩
  obtain ⟨⟨ua, ub, ud⟩, hu⟩ : ∃ v, rdVe z2 = v := ⟨_, rfl⟩
  obtain ⟨zz, hzz⟩ : ∃ z, rdVs z2 = z := ⟨_, rfl⟩
  obtain ⟨hGR, hGE⟩ := get_1 hz1 h0 hv hz2 hu hzz
  have CN : Hid (∀ W g, PA W g (t, 0) → Calls Try.prog 36 #[.pointer (some ⟨g, 0, none⟩), .int .i64 1] W fun e w' => e = .returned (.int .i64 1) ∧ PA w' g z1 ∧ Frm (fun x => x = g) W w') := fun W g h => by
    have := num_p (z := (t, 0)) 1 h; rw [h0, hz1] at this; exact this
  have CV : Hid (∀ W g, PA W g z1 → Calls Try.prog 69 #[.pointer (some ⟨g, 0, none⟩)] W fun e w' => e = .returned (VE va vb vd) ∧ PA w' g z2 ∧ Frm (fun x => x = g) W w') := fun W g h => by
    have := ver_p h; rw [hv, hz2] at this; exact this
  have CU : Hid (∀ W g, PA W g z2 → Calls Try.prog 69 #[.pointer (some ⟨g, 0, none⟩)] W fun e w' => e = .returned (VE ua ub ud) ∧ PA w' g zz ∧ Frm (fun x => x = g) W w') := fun W g h => by
    have := ver_p h; rw [hu, hzz] at this; exact this
  clear hz1 hv hz2 hu hzz h0
  obtain ⟨X, hX⟩ : ∃ X, chkE ⟨1, va, ub, ⟨#[]⟩, ⟨va, vb, vd⟩, ⟨ua, ub, ud⟩⟩ = X := ⟨_, rfl⟩
  have CX := Lib.hid (fun w => chk_at hX w)
  rw [hX] at hGE
  obtain ⟨E, hE⟩ : ∃ E, rdEnd zz.1 zz.2 = E := ⟨_, rfl⟩
  have CE : Hid (∀ W g, PA W g zz → Calls Try.prog 58 #[.pointer (some ⟨g, 0, none⟩)] W fun e w' => e = .returned (.int .i64 E) ∧ Below W.heap.size W w') := fun W g h => by
    have := end_p h; rw [hE] at this; exact this
  rw [hE] at hGE
  clear hE hX
  have HGS : Hid ((getE t = 0 → getSt t = ⟨1, va, ub, ⟨#[]⟩, ⟨va, vb, vd⟩, ⟨ua, ub, ud⟩⟩) ∧ (¬ getE t = 0 → getSt t = St.zero)) := ⟨fun h => getS_ok h hGR, fun h => getS_no h⟩
  have HGE := Lib.hid hGE
  clear hGE hGR
  generalize getSt t = GS at *
  generalize getE t = GE at *
  have H2 : Box (w.alloc (.cells #[.int .i64 0, .int .i64 0, .int .i64 0, .string ⟨#[]⟩, .int .i64 0, .int .i64 0, .string ⟨#[]⟩, .int .i64 0, .int .i64 0, .string ⟨#[]⟩] 27)) w.heap.size ⟨0, 0, 0, ⟨#[]⟩, ⟨0, 0, ⟨#[]⟩⟩, ⟨0, 0, ⟨#[]⟩⟩⟩ := Box.new w ⟨0, 0, 0, ⟨#[]⟩, ⟨0, 0, ⟨#[]⟩⟩, ⟨0, 0, ⟨#[]⟩⟩⟩ 27
  have HB : Below w.heap.size w (w.alloc (.cells #[.int .i64 0, .int .i64 0, .int .i64 0, .string ⟨#[]⟩, .int .i64 0, .int .i64 0, .string ⟨#[]⟩, .int .i64 0, .int .i64 0, .string ⟨#[]⟩] 27)) := (Below.refl _ _).alloc (Nat.le_refl _) _
  go_enter Try.func59, Try.ntmps59
  go_wp2_with fail
  generalize w.alloc (.cells #[.int .i64 0, .int .i64 0, .int .i64 0, .string ⟨#[]⟩, .int .i64 0, .int .i64 0, .string ⟨#[]⟩, .int .i64 0, .int .i64 0, .string ⟨#[]⟩] 27) = W0 at *
  refine (new_any t W0).mono ?_
  rintro e' W1 ⟨rfl, hA⟩
  have HR : PA W1 W0.heap.size (t, 0) := hA ▸ ⟨IsRd.new W0 t 0 93, ht⟩
  have hb : Below W0.heap.size W0 W1 := hA ▸ (Below.refl _ _).alloc (Nat.le_refl _) _
  have h2g : ¬ w.heap.size = W0.heap.size := Nat.ne_of_lt H2.lt
  have hgB : w.heap.size ≤ W0.heap.size := HB.size
  replace H2 := Lib.hid (H2.below hb)
  replace HB := Lib.hid (bt HB hb)
  clear hA hb
  generalize W0.heap.size = g at *
  go_wp2_with fail
  refine (CN.out _ _ HR).mono ?_
  rintro e' W2 ⟨rfl, hR, hA⟩
  have h5g : ¬ W2.heap.size = g := Nat.ne_of_gt hR.lt
  have h52 : ¬ w.heap.size = W2.heap.size := Nat.ne_of_lt (Nat.lt_of_lt_of_le H2.out.lt hA.size)
  replace H2 := Lib.hid (H2.out.frm hA h2g)
  replace HB := Lib.hid (hA.after HB.out (Nat.le_trans (Nat.le_refl _) HB.out.size) (fun k hk e => Nat.lt_irrefl k (Nat.lt_of_lt_of_le hk (e ▸ hgB))))
  have h5B : w.heap.size ≤ W2.heap.size := HB.out.size
  clear hA HR
  have hA := (Below.refl W2.heap.size W2).alloc (Nat.le_refl _) (.cells #[.int .i64 1, .int .i64 0, .int .i64 0, .string ⟨#[]⟩, .int .i64 0, .int .i64 0, .string ⟨#[]⟩, .int .i64 0, .int .i64 0, .string ⟨#[]⟩] 27)
  have HR := hR
  clear hR
  have H5 : Box (W2.alloc (.cells #[.int .i64 1, .int .i64 0, .int .i64 0, .string ⟨#[]⟩, .int .i64 0, .int .i64 0, .string ⟨#[]⟩, .int .i64 0, .int .i64 0, .string ⟨#[]⟩] 27)) W2.heap.size ⟨1, 0, 0, ⟨#[]⟩, ⟨0, 0, ⟨#[]⟩⟩, ⟨0, 0, ⟨#[]⟩⟩⟩ := Box.new W2 ⟨1, 0, 0, ⟨#[]⟩, ⟨0, 0, ⟨#[]⟩⟩, ⟨0, 0, ⟨#[]⟩⟩⟩ 27
  replace H2 := Lib.hid (H2.out.below hA)
  replace HB := Lib.hid (bt HB.out hA)
  replace HR := HR.frm (S := fun _ => False) (Frm.ofBelow hA) (fun x => x)
  clear hA
  obtain ⟨⟨c0, c1, c2, c3, c4, c5, c6, c7, c8, c9⟩, x0, x1, x2, x3, x4, x5, x6, x7, x8, x9⟩ := id H5
  go_wp2_with fail
  clear c0 c1 c2 c3 c4 c5 c6 c7 c8 c9 x0 x1 x2 x3 x4 x5 x6 x7 x8 x9
  generalize W2.alloc (.cells #[.int .i64 1, .int .i64 0, .int .i64 0, .string ⟨#[]⟩, .int .i64 0, .int .i64 0, .string ⟨#[]⟩, .int .i64 0, .int .i64 0, .string ⟨#[]⟩] 27) = W3 at *
  replace H5 := Lib.hid H5
  generalize W2.heap.size = K at *
  have h25 : ¬ w.heap.size = K := h52
  have hg5 : ¬ g = K := fun e => h5g e.symm
  refine (CV.out W3 g HR).mono ?_
  rintro e' W4 ⟨rfl, hR, hA⟩
  replace H2 := Lib.hid (H2.out.frm hA h2g)
  replace H5 := Lib.hid (H5.out.frm hA h5g)
  replace HB := Lib.hid (hA.after HB.out HB.out.size (fun k hk e => Nat.lt_irrefl k (Nat.lt_of_lt_of_le hk (e ▸ hgB))))
  replace HR := hR
  clear hR hA
  go_wp2_with fail
  refine (CU.out W4 g HR).mono ?_
  rintro e' W5 ⟨rfl, hR, hA⟩
  replace H2 := Lib.hid (H2.out.frm hA h2g)
  replace H5 := Lib.hid (H5.out.frm hA h5g)
  replace HB := Lib.hid (hA.after HB.out HB.out.size (fun k hk e => Nat.lt_irrefl k (Nat.lt_of_lt_of_le hk (e ▸ hgB))))
  replace HR := hR
  clear hR hA
  obtain ⟨⟨c0, c1, c2, c3, c4, c5, c6, c7, c8, c9⟩, x0, x1, x2, x3, x4, x5, x6, x7, x8, x9⟩ := id H5.out
  go_wp2_with fail
  clear c0 c1 c2 c3 c4 c5 c6 c7 c8 c9 x0 x1 x2 x3 x4 x5 x6 x7 x8 x9
  have hF : Frm (fun x => x = K) W5 (stV (stB (stA W5 K va vb vd) K ua ub ud) K va ub) := ((stA_frm W5 K va vb vd).trans (stB_frm _ K ua ub ud)).trans (stV_frm _ K va ub)
  replace H5 := Lib.hid (((H5.out.stA va vb vd).stB ua ub ud).stV va ub)
  replace H2 := Lib.hid (H2.out.frm hF h25)
  replace HR := HR.frm hF hg5
  replace HB := Lib.hid (hF.after HB.out HB.out.size (fun k hk e => Nat.lt_irrefl k (Nat.lt_of_lt_of_le hk (e ▸ h5B))))
  clear hF
  refine (CE.out (stV (stB (stA W5 K va vb vd) K ua ub ud) K va ub) g HR).mono ?_
  rintro e' W6 ⟨rfl, hA⟩
  replace H2 := Lib.hid (H2.out.below hA)
  replace H5 := Lib.hid (H5.out.below hA)
  replace HB := Lib.hid (bt HB.out hA)
  clear hA HR CE
  by_cases hE0 : E = 0
  case neg =>
    have m1 : (E == 0) = false := beq_eq_false_iff_ne.2 hE0
    have m2 : (E != 0) = true := bne_iff_ne.2 hE0
    obtain ⟨⟨d0, d1, d2, d3, d4, d5, d6, d7, d8, d9⟩, y0, y1, y2, y3, y4, y5, y6, y7, y8, y9⟩ := id H2.out
    go_wp2
    refine bodyPost_ret (v := .tuple #[SS 0 0 0 ⟨#[]⟩ 0 0 ⟨#[]⟩ 0 0 ⟨#[]⟩, .int .i64 E]) (by simp [results, Try.results59, go_sem, d0, d1, d2, d3, d4, d5, d6, d7, d8, d9]) rfl ⟨by (have q1 : GE = E := (by have q := HGE.out; simpa [hE0] using q); have q2 := HGS.out.2 (by rw [q1]; exact hE0); rw [q1, q2]; rfl), ?_⟩
    repeat (first | with_reducible exact HB.out | with_reducible refine Below.setCell ?_ (by first | (simp; done) | (simp; omega)) _)
  subst hE0
  obtain ⟨⟨c0, c1, c2, c3, c4, c5, c6, c7, c8, c9⟩, x0, x1, x2, x3, x4, x5, x6, x7, x8, x9⟩ := id H5.out
  go_wp2_with fail
  refine (CX.out _).mono ?_
  rintro e' W7 ⟨rfl, hA⟩
  replace H2 := Lib.hid (H2.out.below hA)
  replace H5 := Lib.hid (H5.out.below hA)
  replace HB := Lib.hid (bt HB.out hA)
  clear hA CX
  clear c0 c1 c2 c3 c4 c5 c6 c7 c8 c9 x0 x1 x2 x3 x4 x5 x6 x7 x8 x9
  by_cases hX0 : X = 0
  case neg =>
    have m1 : (X == 0) = false := beq_eq_false_iff_ne.2 hX0
    have m2 : (X != 0) = true := bne_iff_ne.2 hX0
    obtain ⟨⟨d0, d1, d2, d3, d4, d5, d6, d7, d8, d9⟩, y0, y1, y2, y3, y4, y5, y6, y7, y8, y9⟩ := id H2.out
    go_wp2
    refine bodyPost_ret (v := .tuple #[SS 0 0 0 ⟨#[]⟩ 0 0 ⟨#[]⟩ 0 0 ⟨#[]⟩, .int .i64 X]) (by simp [results, Try.results59, go_sem, d0, d1, d2, d3, d4, d5, d6, d7, d8, d9]) rfl ⟨by (have q1 : GE = X := (by have q := HGE.out; simpa using q); have q2 := HGS.out.2 (by rw [q1]; exact hX0); rw [q1, q2]; rfl), ?_⟩
    repeat (first | with_reducible exact HB.out | with_reducible refine Below.setCell ?_ (by first | (simp; done) | (simp; omega)) _)
  subst hX0
  obtain ⟨⟨c0, c1, c2, c3, c4, c5, c6, c7, c8, c9⟩, x0, x1, x2, x3, x4, x5, x6, x7, x8, x9⟩ := id H5.out
  obtain ⟨⟨d0, d1, d2, d3, d4, d5, d6, d7, d8, d9⟩, y0, y1, y2, y3, y4, y5, y6, y7, y8, y9⟩ := id H2.out
  go_wp2
  refine bodyPost_ret (v := .tuple #[SS 1 va ub ⟨#[]⟩ va vb vd ua ub ud, .int .i64 0]) (by simp [results, Try.results59, go_sem, d0, d1, d2, d3, d4, d5, d6, d7, d8, d9]) rfl ⟨by (have q1 : GE = 0 := (by have q := HGE.out; simpa using q); have q2 := HGS.out.1 q1; rw [q1, q2]), ?_⟩
  repeat (first | with_reducible exact HB.out | with_reducible refine Below.setCell ?_ (by first | (simp; done) | (simp; omega)) _)
set_option maxRecDepth 20000 in
set_option maxHeartbeats 3200000 in
theorem sget_x (t : ByteArray) (w : World) (ht : t.size ≤ 100000) (h0 : ¬ nO (t, 0) 1 = 0) (h1 : ¬ nO (t, 0) 1 = 1) : Calls Try.prog 59 #[.string t] w fun e' w' => e' = .returned (.tuple #[(getSt t).v, .int .i64 (getE t)]) ∧ Below w.heap.size w w' := by
  have HGE := Lib.hid (get_x h0 h1)
  have HGS := Lib.hid (getS_no (t := t) (by rw [get_x h0 h1]; decide))
  have CN : Hid (∀ W g, PA W g (t, 0) → Calls Try.prog 36 #[.pointer (some ⟨g, 0, none⟩), .int .i64 1] W fun e w' => e = .returned (.int .i64 (nO (t, 0) 1)) ∧ PA w' g (n1 (t, 0) 1) ∧ Frm (fun x => x = g) W w') := fun W g h => num_p (z := (t, 0)) 1 h
  have m1 : (nO (t, 0) 1 == 0) = false := beq_eq_false_iff_ne.2 h0
  have m2 : (nO (t, 0) 1 == 1) = false := beq_eq_false_iff_ne.2 h1
  clear h0 h1
  generalize nO (t, 0) 1 = kk at *
  generalize n1 (t, 0) 1 = z1 at *
  generalize getSt t = GS at *
  generalize getE t = GE at *
  have H2 : Box (w.alloc (.cells #[.int .i64 0, .int .i64 0, .int .i64 0, .string ⟨#[]⟩, .int .i64 0, .int .i64 0, .string ⟨#[]⟩, .int .i64 0, .int .i64 0, .string ⟨#[]⟩] 27)) w.heap.size ⟨0, 0, 0, ⟨#[]⟩, ⟨0, 0, ⟨#[]⟩⟩, ⟨0, 0, ⟨#[]⟩⟩⟩ := Box.new w ⟨0, 0, 0, ⟨#[]⟩, ⟨0, 0, ⟨#[]⟩⟩, ⟨0, 0, ⟨#[]⟩⟩⟩ 27
  have HB : Below w.heap.size w (w.alloc (.cells #[.int .i64 0, .int .i64 0, .int .i64 0, .string ⟨#[]⟩, .int .i64 0, .int .i64 0, .string ⟨#[]⟩, .int .i64 0, .int .i64 0, .string ⟨#[]⟩] 27)) := (Below.refl _ _).alloc (Nat.le_refl _) _
  go_enter Try.func59, Try.ntmps59
  go_wp2_with fail
  generalize w.alloc (.cells #[.int .i64 0, .int .i64 0, .int .i64 0, .string ⟨#[]⟩, .int .i64 0, .int .i64 0, .string ⟨#[]⟩, .int .i64 0, .int .i64 0, .string ⟨#[]⟩] 27) = W0 at *
  refine (new_any t W0).mono ?_
  rintro e' W1 ⟨rfl, hA⟩
  have HR : PA W1 W0.heap.size (t, 0) := hA ▸ ⟨IsRd.new W0 t 0 93, ht⟩
  have hb : Below W0.heap.size W0 W1 := hA ▸ (Below.refl _ _).alloc (Nat.le_refl _) _
  have h2g : ¬ w.heap.size = W0.heap.size := Nat.ne_of_lt H2.lt
  have hgB : w.heap.size ≤ W0.heap.size := HB.size
  replace H2 := Lib.hid (H2.below hb)
  replace HB := Lib.hid (bt HB hb)
  clear hA hb
  generalize W0.heap.size = g at *
  go_wp2_with fail
  refine (CN.out _ _ HR).mono ?_
  rintro e' W2 ⟨rfl, hR, hA⟩
  have h5g : ¬ W2.heap.size = g := Nat.ne_of_gt hR.lt
  have h52 : ¬ w.heap.size = W2.heap.size := Nat.ne_of_lt (Nat.lt_of_lt_of_le H2.out.lt hA.size)
  replace H2 := Lib.hid (H2.out.frm hA h2g)
  replace HB := Lib.hid (hA.after HB.out (Nat.le_trans (Nat.le_refl _) HB.out.size) (fun k hk e => Nat.lt_irrefl k (Nat.lt_of_lt_of_le hk (e ▸ hgB))))
  have h5B : w.heap.size ≤ W2.heap.size := HB.out.size
  clear hA HR
  have hA := (Below.refl W2.heap.size W2).alloc (Nat.le_refl _) (.cells #[.int .i64 kk, .int .i64 0, .int .i64 0, .string ⟨#[]⟩, .int .i64 0, .int .i64 0, .string ⟨#[]⟩, .int .i64 0, .int .i64 0, .string ⟨#[]⟩] 27)
  have HR := hR
  clear hR
  obtain ⟨⟨d0, d1, d2, d3, d4, d5, d6, d7, d8, d9⟩, y0, y1, y2, y3, y4, y5, y6, y7, y8, y9⟩ := id (H2.out.below hA)
  have H5 : Box (W2.alloc (.cells #[.int .i64 kk, .int .i64 0, .int .i64 0, .string ⟨#[]⟩, .int .i64 0, .int .i64 0, .string ⟨#[]⟩, .int .i64 0, .int .i64 0, .string ⟨#[]⟩] 27)) W2.heap.size ⟨kk, 0, 0, ⟨#[]⟩, ⟨0, 0, ⟨#[]⟩⟩, ⟨0, 0, ⟨#[]⟩⟩⟩ := Box.new W2 ⟨kk, 0, 0, ⟨#[]⟩, ⟨0, 0, ⟨#[]⟩⟩, ⟨0, 0, ⟨#[]⟩⟩⟩ 27
  replace H2 := Lib.hid (H2.out.below hA)
  replace HB := Lib.hid (bt HB.out hA)
  replace HR := HR.frm (S := fun _ => False) (Frm.ofBelow hA) (fun x => x)
  clear hA
  obtain ⟨⟨c0, c1, c2, c3, c4, c5, c6, c7, c8, c9⟩, x0, x1, x2, x3, x4, x5, x6, x7, x8, x9⟩ := id H5
  go_wp2_with fail
  refine bodyPost_ret (v := .tuple #[SS 0 0 0 ⟨#[]⟩ 0 0 ⟨#[]⟩ 0 0 ⟨#[]⟩, .int .i64 7]) (by simp [results, Try.results59, go_sem, d0, d1, d2, d3, d4, d5, d6, d7, d8, d9]) rfl ⟨by (rw [HGE.out, HGS.out]; rfl), ?_⟩
  repeat (first | with_reducible exact HB.out | with_reducible refine Below.setCell ?_ (by first | (simp; done) | (simp; omega)) _)
theorem sget_any (t : ByteArray) (w : World) (ht : t.size ≤ 100000) : Calls Try.prog 59 #[.string t] w fun e' w' => e' = .returned (.tuple #[(getSt t).v, .int .i64 (getE t)]) ∧ Below w.heap.size w w' := by
  by_cases h0 : nO (t, 0) 1 = 0
  · exact sget_0 t w ht h0
  · by_cases h1 : nO (t, 0) 1 = 1
    · exact sget_1 t w ht h1
    · exact sget_x t w ht h0 h1
end Go.Proofs.Ytemfdmbjlmiopaa
