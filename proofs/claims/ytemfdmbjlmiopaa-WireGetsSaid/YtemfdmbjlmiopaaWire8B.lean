/-
  Messages as bytes (chapter 25): the reference's Get. (genwg.py prints it.)
-/
import Derived.Test.YtemfdmbjlmiopaaWire8
namespace Go.Proofs.Ytemfdmbjlmiopaa
open Go.RowKit
set_option linter.unusedVariables false
set_option linter.unusedSimpArgs false
set_option maxRecDepth 20000 in
set_option maxHeartbeats 6400000 in
theorem rwget_B (t : ByteArray) (w : World) (h0 : ¬ t.size = 0) (ht : t.size ≤ 100000) (hc : gK t = 2 ∨ gK t = 6) : Calls Try.prog 14 #[.string t] w fun e' w' => e' = .returned (.tuple #[MV (mget t).k (mget t).ex (mget t).va (mget t).vb (mget t).s (mget t).n, .int .i64 (mgetE t)]) ∧ Below w.heap.size w w' := by
  have hk : ¬ (gK t < 1 ∨ 8 < gK t) := by omega
  obtain ⟨t0, t1, t2, t3⟩ := tB hc
  have eR : mgetR t = ⟨gK t, nO (gz t) 1, 0, 0, ⟨0, 0, 0, ⟨#[]⟩, ⟨0, 0, ⟨#[]⟩⟩, ⟨0, 0, ⟨#[]⟩⟩⟩, 0⟩ := by unfold mgetR; rw [t1, t2, t3]; rfl
  have eF : mgetF t = rdEnd (n1 (gz t) 1).1 (n1 (gz t) 1).2 := by unfold mgetF; rw [t1, t2]; rfl
  have hGE : mgetE t = if mgetF t = 0 then mchk (mgetR t) else mgetF t := by unfold mgetE; rw [if_neg h0, if_neg hk]
  have HGS : Hid ((mgetE t = 0 → mget t = mgetR t) ∧ (¬ mgetE t = 0 → mget t = Mg.nil)) := ⟨fun h => if_pos h, fun h => if_neg h⟩
  have n1' : (t.toList == []) = false := by
    cases h : t.toList with
    | nil =>
      exfalso; apply h0
      have : t.data.toList = [] := (ByteArray.toList_eq t).symm.trans h
      have h2 := data_len t
      rw [this] at h2
      exact h2.symm
    | cons a l => rfl
  have n2' : t.toList.isEmpty = false := by
    cases h : t.toList with
    | nil => rw [h] at n1'; cases n1'
    | cons a l => rfl
  have n3' : ¬ t.toList = [] := fun h => by rw [h] at n1'; cases n1'
  clear h0
  have CN : Hid (∀ W g, RA t W g (t, 0) → Calls Try.prog 38 #[.pointer (some ⟨g, 0, none⟩), .int .i64 1] W fun e w' => e = .returned (.int .i64 (gK t)) ∧ RA t w' g (gz t) ∧ Frm (fun x => x = g) W w') := fun W g h => num_r (z := (t, 0)) 1 h
  have CO := Lib.hid (fun w => tells_ok (gK t) w hk)
  rw [t0, t1, t2, t3] at CO
  have dk1 : decide (gK t < 1) = false := decide_eq_false (by omega)
  have dk2 : decide (8 < gK t) = false := decide_eq_false (by omega)
  have C1 : Hid (∀ W g, RA t W g (gz t) → Calls Try.prog 38 #[.pointer (some ⟨g, 0, none⟩), .int .i64 1] W fun e w' => e = .returned (.int .i64 (nO (gz t) 1)) ∧ RA t w' g (n1 (gz t) 1) ∧ Frm (fun x => x = g) W w') := fun W g h => num_r 1 h
  obtain ⟨F, hF⟩ : ∃ F, rdEnd (n1 (gz t) 1).1 (n1 (gz t) 1).2 = F := ⟨_, rfl⟩
  have CE : Hid (∀ W g, RA t W g (n1 (gz t) 1) → Calls Try.prog 39 #[.pointer (some ⟨g, 0, none⟩)] W fun e w' => e = .returned (.int .i64 F) ∧ Below W.heap.size W w') := fun W g h => by have := end_r h; rw [hF] at this; exact this
  rw [hF] at eF
  clear hF
  rw [eF, eR] at hGE
  rw [eR] at HGS
  obtain ⟨X, hX⟩ : ∃ X, mchk ⟨gK t, nO (gz t) 1, 0, 0, ⟨0, 0, 0, ⟨#[]⟩, ⟨0, 0, ⟨#[]⟩⟩, ⟨0, 0, ⟨#[]⟩⟩⟩, 0⟩ = X := ⟨_, rfl⟩
  rw [hX] at hGE
  have CX := Lib.hid (fun w => rwchk_at hX w)
  clear hX eR eF t0 t1 t2 t3 hk hc
  have HGE := Lib.hid hGE
  clear hGE
  generalize mget t = GS at *
  generalize mgetE t = GE at *
  generalize nO (gz t) 1 = x1 at *
  generalize n1 (gz t) 1 = z2 at *
  generalize gK t = kk at *
  generalize gz t = z1 at *
  have hz : (w.alloc (.cells #[.int .i64 0, .int .i64 0, .int .i64 0, .int .i64 0, .int .i64 0, .int .i64 0, .int .i64 0, .string ⟨#[]⟩, .int .i64 0, .int .i64 0, .string ⟨#[]⟩, .int .i64 0, .int .i64 0, .string ⟨#[]⟩, .int .i64 0] 29)).heap.size = w.heap.size + 1 := by simp
  have H2 : MBox (w.alloc (.cells #[.int .i64 0, .int .i64 0, .int .i64 0, .int .i64 0, .int .i64 0, .int .i64 0, .int .i64 0, .string ⟨#[]⟩, .int .i64 0, .int .i64 0, .string ⟨#[]⟩, .int .i64 0, .int .i64 0, .string ⟨#[]⟩, .int .i64 0] 29)) w.heap.size ⟨0, 0, 0, 0, ⟨0, 0, 0, ⟨#[]⟩, ⟨0, 0, ⟨#[]⟩⟩, ⟨0, 0, ⟨#[]⟩⟩⟩, 0⟩ := MBox.new w 0 0 0 0 ⟨0, 0, 0, ⟨#[]⟩, ⟨0, 0, ⟨#[]⟩⟩, ⟨0, 0, ⟨#[]⟩⟩⟩ 0 29
  have HB : Below w.heap.size w (w.alloc (.cells #[.int .i64 0, .int .i64 0, .int .i64 0, .int .i64 0, .int .i64 0, .int .i64 0, .int .i64 0, .string ⟨#[]⟩, .int .i64 0, .int .i64 0, .string ⟨#[]⟩, .int .i64 0, .int .i64 0, .string ⟨#[]⟩, .int .i64 0] 29)) := (Below.refl _ _).alloc (Nat.le_refl _) _
  go_enter Try.func14, Try.ntmps14
  go_wp2_with fail
  generalize w.alloc (.cells #[.int .i64 0, .int .i64 0, .int .i64 0, .int .i64 0, .int .i64 0, .int .i64 0, .int .i64 0, .string ⟨#[]⟩, .int .i64 0, .int .i64 0, .string ⟨#[]⟩, .int .i64 0, .int .i64 0, .string ⟨#[]⟩, .int .i64 0] 29) = W0 at *
  have HR : RA t (W0.alloc (.cells #[.string t, .int .i64 0, .int .i64 0] 71)) (w.heap.size + 1) (t, 0) := hz ▸ ⟨ht, 0, Nat.zero_le _, IsRR.new W0 t 0 0 71, left_0 t⟩
  have hA := (Below.refl W0.heap.size W0).alloc (Nat.le_refl _) (.cells #[.string t, .int .i64 0, .int .i64 0] 71)
  have h2g : ¬ w.heap.size = w.heap.size + 1 := by omega
  have hgB : w.heap.size ≤ w.heap.size + 1 := by omega
  replace H2 := Lib.hid (H2.below hA)
  replace HB := Lib.hid (bt HB hA)
  clear hA hz
  generalize W0.alloc (.cells #[.string t, .int .i64 0, .int .i64 0] 71) = W1 at *
  generalize w.heap.size + 1 = g at *
  refine (CN.out _ _ HR).mono ?_
  rintro e' W2 ⟨rfl, hR, hA⟩
  have h5g : ¬ W2.heap.size = g := Nat.ne_of_gt hR.lt
  have h52 : ¬ w.heap.size = W2.heap.size := Nat.ne_of_lt (Nat.lt_of_lt_of_le H2.out.lt hA.size)
  replace H2 := Lib.hid (H2.out.frm hA h2g)
  replace HB := Lib.hid (hA.after HB.out (Nat.le_trans (Nat.le_refl _) HB.out.size) (fun k hk e => Nat.lt_irrefl k (Nat.lt_of_lt_of_le hk (e ▸ hgB))))
  have h5B : w.heap.size ≤ W2.heap.size := HB.out.size
  clear hA HR
  have hA := (Below.refl W2.heap.size W2).alloc (Nat.le_refl _) (.cells #[.int .i64 kk, .int .i64 0, .int .i64 0, .int .i64 0, .int .i64 0, .int .i64 0, .int .i64 0, .string ⟨#[]⟩, .int .i64 0, .int .i64 0, .string ⟨#[]⟩, .int .i64 0, .int .i64 0, .string ⟨#[]⟩, .int .i64 0] 29)
  have HR := hR
  clear hR
  have H5 : MBox (W2.alloc (.cells #[.int .i64 kk, .int .i64 0, .int .i64 0, .int .i64 0, .int .i64 0, .int .i64 0, .int .i64 0, .string ⟨#[]⟩, .int .i64 0, .int .i64 0, .string ⟨#[]⟩, .int .i64 0, .int .i64 0, .string ⟨#[]⟩, .int .i64 0] 29)) W2.heap.size ⟨kk, 0, 0, 0, ⟨0, 0, 0, ⟨#[]⟩, ⟨0, 0, ⟨#[]⟩⟩, ⟨0, 0, ⟨#[]⟩⟩⟩, 0⟩ := MBox.new W2 kk 0 0 0 ⟨0, 0, 0, ⟨#[]⟩, ⟨0, 0, ⟨#[]⟩⟩, ⟨0, 0, ⟨#[]⟩⟩⟩ 0 29
  replace H2 := Lib.hid (H2.out.below hA)
  replace HB := Lib.hid (bt HB.out hA)
  replace HR := HR.frm (S := fun _ => False) (Frm.ofBelow hA) (fun x => x)
  clear hA
  obtain ⟨c0, c1, c2, c3, c4, c5, c6, c7, c8, c9, c10, c11, c12, c13, c14⟩ := id H5.1
  go_wp2_with fail
  clear c0 c1 c2 c3 c4 c5 c6 c7 c8 c9 c10 c11 c12 c13 c14
  generalize W2.alloc (.cells #[.int .i64 kk, .int .i64 0, .int .i64 0, .int .i64 0, .int .i64 0, .int .i64 0, .int .i64 0, .string ⟨#[]⟩, .int .i64 0, .int .i64 0, .string ⟨#[]⟩, .int .i64 0, .int .i64 0, .string ⟨#[]⟩, .int .i64 0] 29) = W2' at *
  replace H5 := Lib.hid H5
  generalize W2.heap.size = K at *
  refine (CO.out _).mono ?_
  rintro e' W3 ⟨rfl, hA⟩
  replace H2 := Lib.hid (H2.out.below hA)
  replace H5 := Lib.hid (H5.out.below hA)
  replace HR := HR.frm (S := fun _ => False) (Frm.ofBelow hA) (fun x => x)
  replace HB := Lib.hid (bt HB.out hA)
  clear hA CO
  obtain ⟨e0, e1, e2, e3⟩ := held4b (w := W3) (a := true) (b := false) (c := false) (d := false) 58
  have hA := (Below.refl W3.heap.size W3).alloc (Nat.le_refl _) (.cells #[.bool true, .bool false, .bool false, .bool false] 58)
  replace H2 := Lib.hid (H2.out.below hA)
  replace HB := Lib.hid (bt HB.out hA)
  have hNg : ¬ W3.heap.size = g := fun e => Nat.lt_irrefl _ (Nat.lt_of_lt_of_eq HR.lt e)
  have hNK : ¬ W3.heap.size = K := fun e => Nat.lt_irrefl _ (Nat.lt_of_lt_of_eq H5.out.lt e)
  have hKg : ¬ K = g := h5g
  have hgK : ¬ g = K := fun e => h5g e.symm
  replace H5 := Lib.hid (H5.out.below hA)
  replace HR := HR.frm (S := fun _ => False) (Frm.ofBelow hA) (fun x => x)
  clear hA
  go_wp2_with fail
  generalize W3.alloc (.cells #[.bool true, .bool false, .bool false, .bool false] 58) = W4 at *
  generalize W3.heap.size = N at *
  refine (C1.out _ _ HR).mono ?_
  rintro e' W5 ⟨rfl, hR, hA⟩
  replace HR := hR
  replace H2 := Lib.hid (H2.out.frm hA h2g)
  replace H5 := Lib.hid (H5.out.frm hA hKg)
  replace HB := Lib.hid (hA.after HB.out HB.out.size (fun k hk e => Nat.lt_irrefl k (Nat.lt_of_lt_of_le hk (e ▸ hgB))))
  replace e0 := hA.cell (p := ⟨N, 0, none⟩) hNg e0
  replace e1 := hA.cell (p := ⟨N, 1, none⟩) hNg e1
  replace e2 := hA.cell (p := ⟨N, 2, none⟩) hNg e2
  replace e3 := hA.cell (p := ⟨N, 3, none⟩) hNg e3
  clear hR hA
  obtain ⟨⟨c0, c1, c2, c3, c4, c5, c6, c7, c8, c9, c10, c11, c12, c13, c14⟩, fr⟩ := id H5.out
  have f1 := fr 1 (by decide)
  have f2 := fr 2 (by decide)
  have f3 := fr 3 (by decide)
  have f14 := fr 14 (by decide)
  have f4 := fr 4 (by decide)
  have f5 := fr 5 (by decide)
  have f6 := fr 6 (by decide)
  have f7 := fr 7 (by decide)
  have f8 := fr 8 (by decide)
  have f9 := fr 9 (by decide)
  have f10 := fr 10 (by decide)
  have f11 := fr 11 (by decide)
  have f12 := fr 12 (by decide)
  have f13 := fr 13 (by decide)
  clear fr
  go_wp2_with fail
  clear c0 c1 c2 c3 c4 c5 c6 c7 c8 c9 c10 c11 c12 c13 c14 f1 f2 f3 f14 f4 f5 f6 f7 f8 f9 f10 f11 f12 f13
  have hA : Frm (fun x => x = K) W5 (mwE W5 K x1) := mwE_frm _ _ _
  replace H5 := Lib.hid (H5.out.e x1)
  replace H2 := Lib.hid (H2.out.frm hA h52)
  replace HR := HR.frm hA hgK
  replace HB := Lib.hid (hA.after HB.out HB.out.size (fun k hk e => Nat.lt_irrefl k (Nat.lt_of_lt_of_le hk (e ▸ h5B))))
  replace e0 := hA.cell (p := ⟨N, 0, none⟩) hNK e0
  replace e1 := hA.cell (p := ⟨N, 1, none⟩) hNK e1
  replace e2 := hA.cell (p := ⟨N, 2, none⟩) hNK e2
  replace e3 := hA.cell (p := ⟨N, 3, none⟩) hNK e3
  clear hA
  refine (CE.out (mwE W5 K x1) g HR).mono ?_
  rintro e' W9 ⟨rfl, hA⟩
  replace H2 := Lib.hid (H2.out.below hA)
  replace H5 := Lib.hid (H5.out.below hA)
  replace HB := Lib.hid (bt HB.out hA)
  replace e0 := bkeep hA e0
  replace e1 := bkeep hA e1
  replace e2 := bkeep hA e2
  replace e3 := bkeep hA e3
  clear hA HR CN CE
  clear C1
  by_cases hF0 : F = 0
  case neg =>
    have m1 : (F == 0) = false := beq_eq_false_iff_ne.2 hF0
    have m2 : (F != 0) = true := bne_iff_ne.2 hF0
    obtain ⟨⟨d0, d1, d2, d3, d4, d5, d6, d7, d8, d9, d10, d11, d12, d13, d14⟩, yf⟩ := id H2.out
    have y0 := yf 0 (by decide)
    have y1 := yf 1 (by decide)
    have y2 := yf 2 (by decide)
    have y3 := yf 3 (by decide)
    have y4 := yf 4 (by decide)
    have y5 := yf 5 (by decide)
    have y6 := yf 6 (by decide)
    have y7 := yf 7 (by decide)
    have y8 := yf 8 (by decide)
    have y9 := yf 9 (by decide)
    have y10 := yf 10 (by decide)
    have y11 := yf 11 (by decide)
    have y12 := yf 12 (by decide)
    have y13 := yf 13 (by decide)
    have y14 := yf 14 (by decide)
    clear yf
    go_wp2
    refine bodyPost_ret (v := .tuple #[.agg #[.int .i64 0, .int .i64 0, .int .i64 0, .int .i64 0, .int .i64 0, .int .i64 0, .int .i64 0, .string ⟨#[]⟩, .int .i64 0, .int .i64 0, .string ⟨#[]⟩, .int .i64 0, .int .i64 0, .string ⟨#[]⟩, .int .i64 0], .int .i64 F]) (by simp [results, Try.results14, go_sem, d0, d1, d2, d3, d4, d5, d6, d7, d8, d9, d10, d11, d12, d13, d14]) rfl ⟨by (have q1 : GE = F := (by have q := HGE.out; simpa [hF0] using q); have q2 := HGS.out.2 (by rw [q1]; exact hF0); rw [q1, q2]; rfl), ?_⟩
    first | with_reducible exact HB.out | with_reducible exact HB | skip
    repeat (first | with_reducible exact HB.out | with_reducible exact HB | with_reducible refine Below.setCell ?_ (by first | (simp; done) | (simp; omega)) _)
  subst hF0
  obtain ⟨c0, c1, c2, c3, c4, c5, c6, c7, c8, c9, c10, c11, c12, c13, c14⟩ := id H5.out.1
  go_wp2_with fail
  refine (CX.out _).mono ?_
  rintro e' W7 ⟨rfl, hA⟩
  replace H2 := Lib.hid (H2.out.below hA)
  replace H5 := Lib.hid (H5.out.below hA)
  replace HB := Lib.hid (bt HB.out hA)
  clear hA CX
  clear c0 c1 c2 c3 c4 c5 c6 c7 c8 c9 c10 c11 c12 c13 c14
  by_cases hX0 : X = 0
  case neg =>
    have m1 : (X == 0) = false := beq_eq_false_iff_ne.2 hX0
    have m2 : (X != 0) = true := bne_iff_ne.2 hX0
    obtain ⟨⟨d0, d1, d2, d3, d4, d5, d6, d7, d8, d9, d10, d11, d12, d13, d14⟩, yf⟩ := id H2.out
    have y0 := yf 0 (by decide)
    have y1 := yf 1 (by decide)
    have y2 := yf 2 (by decide)
    have y3 := yf 3 (by decide)
    have y4 := yf 4 (by decide)
    have y5 := yf 5 (by decide)
    have y6 := yf 6 (by decide)
    have y7 := yf 7 (by decide)
    have y8 := yf 8 (by decide)
    have y9 := yf 9 (by decide)
    have y10 := yf 10 (by decide)
    have y11 := yf 11 (by decide)
    have y12 := yf 12 (by decide)
    have y13 := yf 13 (by decide)
    have y14 := yf 14 (by decide)
    clear yf
    go_wp2
    refine bodyPost_ret (v := .tuple #[.agg #[.int .i64 0, .int .i64 0, .int .i64 0, .int .i64 0, .int .i64 0, .int .i64 0, .int .i64 0, .string ⟨#[]⟩, .int .i64 0, .int .i64 0, .string ⟨#[]⟩, .int .i64 0, .int .i64 0, .string ⟨#[]⟩, .int .i64 0], .int .i64 X]) (by simp [results, Try.results14, go_sem, d0, d1, d2, d3, d4, d5, d6, d7, d8, d9, d10, d11, d12, d13, d14]) rfl ⟨by (have q1 : GE = X := (by have q := HGE.out; simpa using q); have q2 := HGS.out.2 (by rw [q1]; exact hX0); rw [q1, q2]; rfl), ?_⟩
    first | with_reducible exact HB.out | with_reducible exact HB | skip
    repeat (first | with_reducible exact HB.out | with_reducible exact HB | with_reducible refine Below.setCell ?_ (by first | (simp; done) | (simp; omega)) _)
  subst hX0
  obtain ⟨c0, c1, c2, c3, c4, c5, c6, c7, c8, c9, c10, c11, c12, c13, c14⟩ := id H5.out.1
  obtain ⟨⟨d0, d1, d2, d3, d4, d5, d6, d7, d8, d9, d10, d11, d12, d13, d14⟩, yf⟩ := id H2.out
  have y0 := yf 0 (by decide)
  have y1 := yf 1 (by decide)
  have y2 := yf 2 (by decide)
  have y3 := yf 3 (by decide)
  have y4 := yf 4 (by decide)
  have y5 := yf 5 (by decide)
  have y6 := yf 6 (by decide)
  have y7 := yf 7 (by decide)
  have y8 := yf 8 (by decide)
  have y9 := yf 9 (by decide)
  have y10 := yf 10 (by decide)
  have y11 := yf 11 (by decide)
  have y12 := yf 12 (by decide)
  have y13 := yf 13 (by decide)
  have y14 := yf 14 (by decide)
  clear yf
  go_wp2
  refine bodyPost_ret (v := .tuple #[MV kk x1 0 0 ⟨0, 0, 0, ⟨#[]⟩, ⟨0, 0, ⟨#[]⟩⟩, ⟨0, 0, ⟨#[]⟩⟩⟩ 0, .int .i64 0]) (by simp [results, Try.results14, go_sem, d0, d1, d2, d3, d4, d5, d6, d7, d8, d9, d10, d11, d12, d13, d14]) rfl ⟨by (have q1 : GE = 0 := (by have q := HGE.out; simpa using q); have q2 := HGS.out.1 q1; rw [q1, q2]), ?_⟩
  first | with_reducible exact HB.out | with_reducible exact HB | skip
  repeat (first | with_reducible exact HB.out | with_reducible exact HB | with_reducible refine Below.setCell ?_ (by first | (simp; done) | (simp; omega)) _)
end Go.Proofs.Ytemfdmbjlmiopaa
