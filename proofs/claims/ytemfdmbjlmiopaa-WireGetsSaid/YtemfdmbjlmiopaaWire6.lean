/-
  Messages as bytes (chapter 25): what read reads.
-/
import Derived.Test.YtemfdmbjlmiopaaWire5
namespace Go.Proofs.Ytemfdmbjlmiopaa
open Go.RowKit
set_option linter.unusedVariables false
set_option linter.unusedSimpArgs false
set_option maxRecDepth 20000 in
set_option maxHeartbeats 3200000 in
theorem read_A {g K : Nat} {z : Rr} {k ex va vb n : Int} {s : St} {w : World} (hR : PA w g z) (hM : MBox w K ⟨k, ex, va, vb, s, n⟩) (hgk : g ≠ K) : Calls Try.prog 37 #[TV true true false false, .pointer (some ⟨g, 0, none⟩), .pointer (some ⟨K, 0, none⟩)] w fun e w' =>
    e = .returned (.int .i64 (rdEnd (n1 (n1 (n1 z 1) 7) 7).1 (n1 (n1 (n1 z 1) 7) 7).2)) ∧ MBox w' K ⟨k, nO z 1, nO (n1 z 1) 7, nO (n1 (n1 z 1) 7) 7, s, n⟩ ∧ Frm (fun x => x = g ∨ x = K) w w' := by
  have hgK : ¬ g = K := hgk
  have hKg : ¬ K = g := fun e => hgk e.symm
  have hgN := hR.lt
  have hKN := hM.lt
  obtain ⟨e0, e1, e2, e3⟩ := held4b (w := w) (a := true) (b := true) (c := false) (d := false) 52
  have hA := (Below.refl w.heap.size w).alloc (Nat.le_refl _) (.cells #[.bool true, .bool true, .bool false, .bool false] 52)
  have HR := hR.frm (S := fun _ => False) (Frm.ofBelow hA) (fun x => x)
  have HM := Lib.hid (hM.below hA)
  have HF : Frm (fun x => x = g ∨ x = K) w (w.alloc (.cells #[.bool true, .bool true, .bool false, .bool false] 52)) := Frm.ofBelow hA
  have hQ : ¬ (w.heap.size = g ∨ w.heap.size = K) := fun h => h.elim (fun h => by omega) (fun h => by omega)
  have hQg : ¬ w.heap.size = g := fun h => hQ (.inl h)
  have hQK : ¬ w.heap.size = K := fun h => hQ (.inr h)
  clear hA hR hM hgN hKN
  obtain ⟨c0, c1, c2, c3, c4, c5, c6, c7, c8, c9, c10, c11, c12, c13, c14⟩ := id HM.out.1
  have fr1 := HM.out.2
  go_enter Try.func37, Try.ntmps37
  go_wp2_with fail
  generalize hN : w.heap.size = N at *
  generalize w.alloc (.cells #[.bool true, .bool true, .bool false, .bool false] 52) = W1 at *
  clear c0 c1 c2 c3 c4 c5 c6 c7 c8 c9 c10 c11 c12 c13 c14
  clear fr1
  refine (num_p 1 HR).mono ?_
  rintro e' W2 ⟨rfl, hR, hA⟩
  replace HR := hR
  replace HM := Lib.hid (HM.out.frm hA hKg)
  replace HF := HF.trans (hA.mono fun _ _ h => .inl h)
  replace e0 := hA.cell (p := ⟨N, 0, none⟩) hQg e0
  replace e1 := hA.cell (p := ⟨N, 1, none⟩) hQg e1
  replace e2 := hA.cell (p := ⟨N, 2, none⟩) hQg e2
  replace e3 := hA.cell (p := ⟨N, 3, none⟩) hQg e3
  clear hR hA
  obtain ⟨⟨c0, c1, c2, c3, c4, c5, c6, c7, c8, c9, c10, c11, c12, c13, c14⟩, fr⟩ := id HM.out
  have f1 := fr 1 (by decide)
  have f2 := fr 2 (by decide)
  have f3 := fr 3 (by decide)
  have f14 := fr 14 (by decide)
  have f4 := fr 4 (by decide)
  have f5 := fr 5 (by decide)
  have f6 := fr 6 (by decide)
  have f7 := fr 7 (by decide)
  have f8 := fr 8 (by decide)
  have f9 := fr 9 (by decide)
  have f10 := fr 10 (by decide)
  have f11 := fr 11 (by decide)
  have f12 := fr 12 (by decide)
  have f13 := fr 13 (by decide)
  clear fr
  go_wp2_with fail
  clear c0 c1 c2 c3 c4 c5 c6 c7 c8 c9 c10 c11 c12 c13 c14 f1 f2 f3 f14 f4 f5 f6 f7 f8 f9 f10 f11 f12 f13
  have hA : Frm (fun x => x = K) W2 (mwE W2 K (nO z 1)) := mwE_frm _ _ _
  replace HM := Lib.hid (HM.out.e (nO z 1))
  replace HR := HR.frm hA hgK
  replace HF := HF.trans (hA.mono fun _ _ h => .inr h)
  replace e0 := hA.cell (p := ⟨N, 0, none⟩) hQK e0
  replace e1 := hA.cell (p := ⟨N, 1, none⟩) hQK e1
  replace e2 := hA.cell (p := ⟨N, 2, none⟩) hQK e2
  replace e3 := hA.cell (p := ⟨N, 3, none⟩) hQK e3
  clear hA
  refine (num_p (w := mwE W2 K (nO z 1)) 7 HR).mono ?_
  rintro e' W3 ⟨rfl, hR, hA⟩
  replace HR := hR
  replace HM := Lib.hid (HM.out.frm hA hKg)
  replace HF := HF.trans (hA.mono fun _ _ h => .inl h)
  replace e0 := hA.cell (p := ⟨N, 0, none⟩) hQg e0
  replace e1 := hA.cell (p := ⟨N, 1, none⟩) hQg e1
  replace e2 := hA.cell (p := ⟨N, 2, none⟩) hQg e2
  replace e3 := hA.cell (p := ⟨N, 3, none⟩) hQg e3
  clear hR hA
  go_wp2_with fail
  refine (num_p 7 HR).mono ?_
  rintro e' W4 ⟨rfl, hR, hA⟩
  replace HR := hR
  replace HM := Lib.hid (HM.out.frm hA hKg)
  replace HF := HF.trans (hA.mono fun _ _ h => .inl h)
  replace e0 := hA.cell (p := ⟨N, 0, none⟩) hQg e0
  replace e1 := hA.cell (p := ⟨N, 1, none⟩) hQg e1
  replace e2 := hA.cell (p := ⟨N, 2, none⟩) hQg e2
  replace e3 := hA.cell (p := ⟨N, 3, none⟩) hQg e3
  clear hR hA
  obtain ⟨⟨c0, c1, c2, c3, c4, c5, c6, c7, c8, c9, c10, c11, c12, c13, c14⟩, fr⟩ := id HM.out
  have f1 := fr 1 (by decide)
  have f2 := fr 2 (by decide)
  have f3 := fr 3 (by decide)
  have f14 := fr 14 (by decide)
  have f4 := fr 4 (by decide)
  have f5 := fr 5 (by decide)
  have f6 := fr 6 (by decide)
  have f7 := fr 7 (by decide)
  have f8 := fr 8 (by decide)
  have f9 := fr 9 (by decide)
  have f10 := fr 10 (by decide)
  have f11 := fr 11 (by decide)
  have f12 := fr 12 (by decide)
  have f13 := fr 13 (by decide)
  clear fr
  go_wp2_with fail
  clear c0 c1 c2 c3 c4 c5 c6 c7 c8 c9 c10 c11 c12 c13 c14 f1 f2 f3 f14 f4 f5 f6 f7 f8 f9 f10 f11 f12 f13
  have hA : Frm (fun x => x = K) W4 (mwV W4 K (nO (n1 z 1) 7) (nO (n1 (n1 z 1) 7) 7)) := mwV_frm _ _ _ _
  replace HM := Lib.hid (HM.out.v (nO (n1 z 1) 7) (nO (n1 (n1 z 1) 7) 7))
  replace HR := HR.frm hA hgK
  replace HF := HF.trans (hA.mono fun _ _ h => .inr h)
  replace e0 := hA.cell (p := ⟨N, 0, none⟩) hQK e0
  replace e1 := hA.cell (p := ⟨N, 1, none⟩) hQK e1
  replace e2 := hA.cell (p := ⟨N, 2, none⟩) hQK e2
  replace e3 := hA.cell (p := ⟨N, 3, none⟩) hQK e3
  clear hA
  refine (end_p (w := mwV W4 K (nO (n1 z 1) 7) (nO (n1 (n1 z 1) 7) 7)) HR).mono ?_
  rintro e' W5 ⟨rfl, hA⟩
  replace HM := Lib.hid (HM.out.below hA)
  replace HF := HF.below hA
  replace e2 := bkeep hA e2
  clear hA
  go_wp2
  go_ret
  exact ⟨rfl, HM.out, HF⟩
set_option maxRecDepth 20000 in
set_option maxHeartbeats 3200000 in
theorem read_B {g K : Nat} {z : Rr} {k ex va vb n : Int} {s : St} {w : World} (hR : PA w g z) (hM : MBox w K ⟨k, ex, va, vb, s, n⟩) (hgk : g ≠ K) : Calls Try.prog 37 #[TV true false false false, .pointer (some ⟨g, 0, none⟩), .pointer (some ⟨K, 0, none⟩)] w fun e w' =>
    e = .returned (.int .i64 (rdEnd (n1 z 1).1 (n1 z 1).2)) ∧ MBox w' K ⟨k, nO z 1, va, vb, s, n⟩ ∧ Frm (fun x => x = g ∨ x = K) w w' := by
  have hgK : ¬ g = K := hgk
  have hKg : ¬ K = g := fun e => hgk e.symm
  have hgN := hR.lt
  have hKN := hM.lt
  obtain ⟨e0, e1, e2, e3⟩ := held4b (w := w) (a := true) (b := false) (c := false) (d := false) 52
  have hA := (Below.refl w.heap.size w).alloc (Nat.le_refl _) (.cells #[.bool true, .bool false, .bool false, .bool false] 52)
  have HR := hR.frm (S := fun _ => False) (Frm.ofBelow hA) (fun x => x)
  have HM := Lib.hid (hM.below hA)
  have HF : Frm (fun x => x = g ∨ x = K) w (w.alloc (.cells #[.bool true, .bool false, .bool false, .bool false] 52)) := Frm.ofBelow hA
  have hQ : ¬ (w.heap.size = g ∨ w.heap.size = K) := fun h => h.elim (fun h => by omega) (fun h => by omega)
  have hQg : ¬ w.heap.size = g := fun h => hQ (.inl h)
  have hQK : ¬ w.heap.size = K := fun h => hQ (.inr h)
  clear hA hR hM hgN hKN
  obtain ⟨c0, c1, c2, c3, c4, c5, c6, c7, c8, c9, c10, c11, c12, c13, c14⟩ := id HM.out.1
  have fr1 := HM.out.2
  go_enter Try.func37, Try.ntmps37
  go_wp2_with fail
  generalize hN : w.heap.size = N at *
  generalize w.alloc (.cells #[.bool true, .bool false, .bool false, .bool false] 52) = W1 at *
  clear c0 c1 c2 c3 c4 c5 c6 c7 c8 c9 c10 c11 c12 c13 c14
  clear fr1
  refine (num_p 1 HR).mono ?_
  rintro e' W2 ⟨rfl, hR, hA⟩
  replace HR := hR
  replace HM := Lib.hid (HM.out.frm hA hKg)
  replace HF := HF.trans (hA.mono fun _ _ h => .inl h)
  replace e0 := hA.cell (p := ⟨N, 0, none⟩) hQg e0
  replace e1 := hA.cell (p := ⟨N, 1, none⟩) hQg e1
  replace e2 := hA.cell (p := ⟨N, 2, none⟩) hQg e2
  replace e3 := hA.cell (p := ⟨N, 3, none⟩) hQg e3
  clear hR hA
  obtain ⟨⟨c0, c1, c2, c3, c4, c5, c6, c7, c8, c9, c10, c11, c12, c13, c14⟩, fr⟩ := id HM.out
  have f1 := fr 1 (by decide)
  have f2 := fr 2 (by decide)
  have f3 := fr 3 (by decide)
  have f14 := fr 14 (by decide)
  have f4 := fr 4 (by decide)
  have f5 := fr 5 (by decide)
  have f6 := fr 6 (by decide)
  have f7 := fr 7 (by decide)
  have f8 := fr 8 (by decide)
  have f9 := fr 9 (by decide)
  have f10 := fr 10 (by decide)
  have f11 := fr 11 (by decide)
  have f12 := fr 12 (by decide)
  have f13 := fr 13 (by decide)
  clear fr
  go_wp2_with fail
  clear c0 c1 c2 c3 c4 c5 c6 c7 c8 c9 c10 c11 c12 c13 c14 f1 f2 f3 f14 f4 f5 f6 f7 f8 f9 f10 f11 f12 f13
  have hA : Frm (fun x => x = K) W2 (mwE W2 K (nO z 1)) := mwE_frm _ _ _
  replace HM := Lib.hid (HM.out.e (nO z 1))
  replace HR := HR.frm hA hgK
  replace HF := HF.trans (hA.mono fun _ _ h => .inr h)
  replace e0 := hA.cell (p := ⟨N, 0, none⟩) hQK e0
  replace e1 := hA.cell (p := ⟨N, 1, none⟩) hQK e1
  replace e2 := hA.cell (p := ⟨N, 2, none⟩) hQK e2
  replace e3 := hA.cell (p := ⟨N, 3, none⟩) hQK e3
  clear hA
  refine (end_p (w := mwE W2 K (nO z 1)) HR).mono ?_
  rintro e' W5 ⟨rfl, hA⟩
  replace HM := Lib.hid (HM.out.below hA)
  replace HF := HF.below hA
  replace e2 := bkeep hA e2
  clear hA
  go_wp2
  go_ret
  exact ⟨rfl, HM.out, HF⟩
set_option maxRecDepth 20000 in
set_option maxHeartbeats 3200000 in
theorem read_D {g K : Nat} {z : Rr} {k ex va vb n : Int} {s : St} {w : World} (hR : PA w g z) (hM : MBox w K ⟨k, ex, va, vb, s, n⟩) (hgk : g ≠ K) : Calls Try.prog 37 #[TV false false false true, .pointer (some ⟨g, 0, none⟩), .pointer (some ⟨K, 0, none⟩)] w fun e w' =>
    e = .returned (.int .i64 (rdEnd (n1 z 1).1 (n1 z 1).2)) ∧ MBox w' K ⟨k, ex, va, vb, s, nO z 1⟩ ∧ Frm (fun x => x = g ∨ x = K) w w' := by
  have hgK : ¬ g = K := hgk
  have hKg : ¬ K = g := fun e => hgk e.symm
  have hgN := hR.lt
  have hKN := hM.lt
  obtain ⟨e0, e1, e2, e3⟩ := held4b (w := w) (a := false) (b := false) (c := false) (d := true) 52
  have hA := (Below.refl w.heap.size w).alloc (Nat.le_refl _) (.cells #[.bool false, .bool false, .bool false, .bool true] 52)
  have HR := hR.frm (S := fun _ => False) (Frm.ofBelow hA) (fun x => x)
  have HM := Lib.hid (hM.below hA)
  have HF : Frm (fun x => x = g ∨ x = K) w (w.alloc (.cells #[.bool false, .bool false, .bool false, .bool true] 52)) := Frm.ofBelow hA
  have hQ : ¬ (w.heap.size = g ∨ w.heap.size = K) := fun h => h.elim (fun h => by omega) (fun h => by omega)
  have hQg : ¬ w.heap.size = g := fun h => hQ (.inl h)
  have hQK : ¬ w.heap.size = K := fun h => hQ (.inr h)
  clear hA hR hM hgN hKN
  obtain ⟨c0, c1, c2, c3, c4, c5, c6, c7, c8, c9, c10, c11, c12, c13, c14⟩ := id HM.out.1
  have fr1 := HM.out.2
  go_enter Try.func37, Try.ntmps37
  go_wp2_with fail
  generalize hN : w.heap.size = N at *
  generalize w.alloc (.cells #[.bool false, .bool false, .bool false, .bool true] 52) = W1 at *
  clear c0 c1 c2 c3 c4 c5 c6 c7 c8 c9 c10 c11 c12 c13 c14
  clear fr1
  refine (num_p 1 HR).mono ?_
  rintro e' W2 ⟨rfl, hR, hA⟩
  replace HR := hR
  replace HM := Lib.hid (HM.out.frm hA hKg)
  replace HF := HF.trans (hA.mono fun _ _ h => .inl h)
  replace e0 := hA.cell (p := ⟨N, 0, none⟩) hQg e0
  replace e1 := hA.cell (p := ⟨N, 1, none⟩) hQg e1
  replace e2 := hA.cell (p := ⟨N, 2, none⟩) hQg e2
  replace e3 := hA.cell (p := ⟨N, 3, none⟩) hQg e3
  clear hR hA
  obtain ⟨⟨c0, c1, c2, c3, c4, c5, c6, c7, c8, c9, c10, c11, c12, c13, c14⟩, fr⟩ := id HM.out
  have f1 := fr 1 (by decide)
  have f2 := fr 2 (by decide)
  have f3 := fr 3 (by decide)
  have f14 := fr 14 (by decide)
  have f4 := fr 4 (by decide)
  have f5 := fr 5 (by decide)
  have f6 := fr 6 (by decide)
  have f7 := fr 7 (by decide)
  have f8 := fr 8 (by decide)
  have f9 := fr 9 (by decide)
  have f10 := fr 10 (by decide)
  have f11 := fr 11 (by decide)
  have f12 := fr 12 (by decide)
  have f13 := fr 13 (by decide)
  clear fr
  go_wp2_with fail
  clear c0 c1 c2 c3 c4 c5 c6 c7 c8 c9 c10 c11 c12 c13 c14 f1 f2 f3 f14 f4 f5 f6 f7 f8 f9 f10 f11 f12 f13
  have hA : Frm (fun x => x = K) W2 (mwN W2 K (nO z 1)) := mwN_frm _ _ _
  replace HM := Lib.hid (HM.out.n (nO z 1))
  replace HR := HR.frm hA hgK
  replace HF := HF.trans (hA.mono fun _ _ h => .inr h)
  replace e0 := hA.cell (p := ⟨N, 0, none⟩) hQK e0
  replace e1 := hA.cell (p := ⟨N, 1, none⟩) hQK e1
  replace e2 := hA.cell (p := ⟨N, 2, none⟩) hQK e2
  replace e3 := hA.cell (p := ⟨N, 3, none⟩) hQK e3
  clear hA
  refine (end_p (w := mwN W2 K (nO z 1)) HR).mono ?_
  rintro e' W5 ⟨rfl, hA⟩
  replace HM := Lib.hid (HM.out.below hA)
  replace HF := HF.below hA
  replace e2 := bkeep hA e2
  clear hA
  go_wp2
  go_ret
  exact ⟨rfl, HM.out, HF⟩
set_option maxRecDepth 20000 in
set_option maxHeartbeats 3200000 in
theorem read_C1 {g K : Nat} {z : Rr} {k ex va vb n : Int} {s : St} {w : World} (hR : PA w g z) (hM : MBox w K ⟨k, ex, va, vb, s, n⟩) (hgk : g ≠ K) (he : rdEnd (n1 z 1).1 (n1 z 1).2 = 1) : Calls Try.prog 37 #[TV true false true false, .pointer (some ⟨g, 0, none⟩), .pointer (some ⟨K, 0, none⟩)] w fun e w' =>
    e = .returned (.int .i64 1) ∧ MBox w' K ⟨k, nO z 1, va, vb, s, n⟩ ∧ Frm (fun x => x = g ∨ x = K) w w' := by
  have hgK : ¬ g = K := hgk
  have hKg : ¬ K = g := fun e => hgk e.symm
  have hgN := hR.lt
  have hKN := hM.lt
  obtain ⟨e0, e1, e2, e3⟩ := held4b (w := w) (a := true) (b := false) (c := true) (d := false) 52
  have hA := (Below.refl w.heap.size w).alloc (Nat.le_refl _) (.cells #[.bool true, .bool false, .bool true, .bool false] 52)
  have HR := hR.frm (S := fun _ => False) (Frm.ofBelow hA) (fun x => x)
  have HM := Lib.hid (hM.below hA)
  have HF : Frm (fun x => x = g ∨ x = K) w (w.alloc (.cells #[.bool true, .bool false, .bool true, .bool false] 52)) := Frm.ofBelow hA
  have hQ : ¬ (w.heap.size = g ∨ w.heap.size = K) := fun h => h.elim (fun h => by omega) (fun h => by omega)
  have hQg : ¬ w.heap.size = g := fun h => hQ (.inl h)
  have hQK : ¬ w.heap.size = K := fun h => hQ (.inr h)
  clear hA hR hM hgN hKN
  obtain ⟨c0, c1, c2, c3, c4, c5, c6, c7, c8, c9, c10, c11, c12, c13, c14⟩ := id HM.out.1
  have fr1 := HM.out.2
  go_enter Try.func37, Try.ntmps37
  go_wp2_with fail
  generalize hN : w.heap.size = N at *
  generalize w.alloc (.cells #[.bool true, .bool false, .bool true, .bool false] 52) = W1 at *
  clear c0 c1 c2 c3 c4 c5 c6 c7 c8 c9 c10 c11 c12 c13 c14
  clear fr1
  refine (num_p 1 HR).mono ?_
  rintro e' W2 ⟨rfl, hR, hA⟩
  replace HR := hR
  replace HM := Lib.hid (HM.out.frm hA hKg)
  replace HF := HF.trans (hA.mono fun _ _ h => .inl h)
  replace e0 := hA.cell (p := ⟨N, 0, none⟩) hQg e0
  replace e1 := hA.cell (p := ⟨N, 1, none⟩) hQg e1
  replace e2 := hA.cell (p := ⟨N, 2, none⟩) hQg e2
  replace e3 := hA.cell (p := ⟨N, 3, none⟩) hQg e3
  clear hR hA
  obtain ⟨⟨c0, c1, c2, c3, c4, c5, c6, c7, c8, c9, c10, c11, c12, c13, c14⟩, fr⟩ := id HM.out
  have f1 := fr 1 (by decide)
  have f2 := fr 2 (by decide)
  have f3 := fr 3 (by decide)
  have f14 := fr 14 (by decide)
  have f4 := fr 4 (by decide)
  have f5 := fr 5 (by decide)
  have f6 := fr 6 (by decide)
  have f7 := fr 7 (by decide)
  have f8 := fr 8 (by decide)
  have f9 := fr 9 (by decide)
  have f10 := fr 10 (by decide)
  have f11 := fr 11 (by decide)
  have f12 := fr 12 (by decide)
  have f13 := fr 13 (by decide)
  clear fr
  go_wp2_with fail
  clear c0 c1 c2 c3 c4 c5 c6 c7 c8 c9 c10 c11 c12 c13 c14 f1 f2 f3 f14 f4 f5 f6 f7 f8 f9 f10 f11 f12 f13
  have hA : Frm (fun x => x = K) W2 (mwE W2 K (nO z 1)) := mwE_frm _ _ _
  replace HM := Lib.hid (HM.out.e (nO z 1))
  replace HR := HR.frm hA hgK
  replace HF := HF.trans (hA.mono fun _ _ h => .inr h)
  replace e0 := hA.cell (p := ⟨N, 0, none⟩) hQK e0
  replace e1 := hA.cell (p := ⟨N, 1, none⟩) hQK e1
  replace e2 := hA.cell (p := ⟨N, 2, none⟩) hQK e2
  replace e3 := hA.cell (p := ⟨N, 3, none⟩) hQK e3
  clear hA
  have CE := end_p (w := mwE W2 K (nO z 1)) HR
  rw [he] at CE
  refine CE.mono ?_
  clear CE he
  rintro e' W5 ⟨rfl, hA⟩
  replace HM := Lib.hid (HM.out.below hA)
  replace HF := HF.below hA
  replace e2 := bkeep hA e2
  clear hA
  go_wp2
  go_ret
  exact ⟨rfl, HM.out, HF⟩
set_option maxRecDepth 20000 in
set_option maxHeartbeats 3200000 in
theorem read_C2 {g K : Nat} {z : Rr} {k ex va vb n : Int} {s : St} {w : World} (hR : PA w g z) (hM : MBox w K ⟨k, ex, va, vb, s, n⟩) (hgk : g ≠ K) (he : ¬ rdEnd (n1 z 1).1 (n1 z 1).2 = 1) (ho : rdOut (n1 z 1).1 (n1 z 1).2 (n1 z 1).1.size = (n1 z 1).1) : Calls Try.prog 37 #[TV true false true false, .pointer (some ⟨g, 0, none⟩), .pointer (some ⟨K, 0, none⟩)] w fun e w' =>
    e = .returned (.int .i64 (getE (n1 z 1).1)) ∧ MBox w' K ⟨k, nO z 1, va, vb, getSt (n1 z 1).1, n⟩ ∧ Frm (fun x => x = g ∨ x = K) w w' := by
  have hgK : ¬ g = K := hgk
  have hKg : ¬ K = g := fun e => hgk e.symm
  have hgN := hR.lt
  have hKN := hM.lt
  obtain ⟨e0, e1, e2, e3⟩ := held4b (w := w) (a := true) (b := false) (c := true) (d := false) 52
  have hA := (Below.refl w.heap.size w).alloc (Nat.le_refl _) (.cells #[.bool true, .bool false, .bool true, .bool false] 52)
  have HR := hR.frm (S := fun _ => False) (Frm.ofBelow hA) (fun x => x)
  have HM := Lib.hid (hM.below hA)
  have HF : Frm (fun x => x = g ∨ x = K) w (w.alloc (.cells #[.bool true, .bool false, .bool true, .bool false] 52)) := Frm.ofBelow hA
  have hQ : ¬ (w.heap.size = g ∨ w.heap.size = K) := fun h => h.elim (fun h => by omega) (fun h => by omega)
  have hQg : ¬ w.heap.size = g := fun h => hQ (.inl h)
  have hQK : ¬ w.heap.size = K := fun h => hQ (.inr h)
  clear hA hR hM hgN hKN
  obtain ⟨c0, c1, c2, c3, c4, c5, c6, c7, c8, c9, c10, c11, c12, c13, c14⟩ := id HM.out.1
  have fr1 := HM.out.2
  go_enter Try.func37, Try.ntmps37
  go_wp2_with fail
  generalize hN : w.heap.size = N at *
  generalize w.alloc (.cells #[.bool true, .bool false, .bool true, .bool false] 52) = W1 at *
  clear c0 c1 c2 c3 c4 c5 c6 c7 c8 c9 c10 c11 c12 c13 c14
  clear fr1
  refine (num_p 1 HR).mono ?_
  rintro e' W2 ⟨rfl, hR, hA⟩
  replace HR := hR
  replace HM := Lib.hid (HM.out.frm hA hKg)
  replace HF := HF.trans (hA.mono fun _ _ h => .inl h)
  replace e0 := hA.cell (p := ⟨N, 0, none⟩) hQg e0
  replace e1 := hA.cell (p := ⟨N, 1, none⟩) hQg e1
  replace e2 := hA.cell (p := ⟨N, 2, none⟩) hQg e2
  replace e3 := hA.cell (p := ⟨N, 3, none⟩) hQg e3
  clear hR hA
  obtain ⟨⟨c0, c1, c2, c3, c4, c5, c6, c7, c8, c9, c10, c11, c12, c13, c14⟩, fr⟩ := id HM.out
  have f1 := fr 1 (by decide)
  have f2 := fr 2 (by decide)
  have f3 := fr 3 (by decide)
  have f14 := fr 14 (by decide)
  have f4 := fr 4 (by decide)
  have f5 := fr 5 (by decide)
  have f6 := fr 6 (by decide)
  have f7 := fr 7 (by decide)
  have f8 := fr 8 (by decide)
  have f9 := fr 9 (by decide)
  have f10 := fr 10 (by decide)
  have f11 := fr 11 (by decide)
  have f12 := fr 12 (by decide)
  have f13 := fr 13 (by decide)
  clear fr
  go_wp2_with fail
  clear c0 c1 c2 c3 c4 c5 c6 c7 c8 c9 c10 c11 c12 c13 c14 f1 f2 f3 f14 f4 f5 f6 f7 f8 f9 f10 f11 f12 f13
  have hA : Frm (fun x => x = K) W2 (mwE W2 K (nO z 1)) := mwE_frm _ _ _
  replace HM := Lib.hid (HM.out.e (nO z 1))
  replace HR := HR.frm hA hgK
  replace HF := HF.trans (hA.mono fun _ _ h => .inr h)
  replace e0 := hA.cell (p := ⟨N, 0, none⟩) hQK e0
  replace e1 := hA.cell (p := ⟨N, 1, none⟩) hQK e1
  replace e2 := hA.cell (p := ⟨N, 2, none⟩) hQK e2
  replace e3 := hA.cell (p := ⟨N, 3, none⟩) hQK e3
  clear hA
  obtain ⟨E, hE⟩ : ∃ E, rdEnd (n1 z 1).1 (n1 z 1).2 = E := ⟨_, rfl⟩
  have CE := end_p (w := mwE W2 K (nO z 1)) HR
  rw [hE] at CE he
  have ne1 : (E != 1) = true := bne_iff_ne.2 he
  clear he hE
  refine CE.mono ?_
  clear CE
  rintro e' W5 ⟨rfl, hA⟩
  replace HM := Lib.hid (HM.out.below hA)
  replace HF := HF.below hA
  replace HR := HR.frm (S := fun _ => False) (Frm.ofBelow hA) (fun x => x)
  replace e2 := bkeep hA e2
  clear hA
  go_wp2_with fail
  refine (left_p HR).mono ?_
  rintro e' W6 ⟨rfl, rfl⟩
  go_wp2_with fail
  have hZ := HR.2
  have CB := bytes_p (n1 z 1).1.size HR
  rw [ho] at CB
  refine CB.mono ?_
  clear CB
  rintro e' W7 ⟨rfl, hR, hA⟩
  replace HM := Lib.hid (HM.out.frm hA hKg)
  replace HF := HF.trans (hA.mono fun _ _ h => .inl h)
  clear hR hA HR
  go_wp2_with fail
  refine (sget_any (n1 z 1).1 W7 hZ).mono ?_
  rintro e' W8 ⟨rfl, hA⟩
  replace HM := Lib.hid (HM.out.below hA)
  replace HF := HF.below hA
  clear hA
  obtain ⟨⟨c0, c1, c2, c3, c4, c5, c6, c7, c8, c9, c10, c11, c12, c13, c14⟩, fr⟩ := id HM.out
  have f1 := fr 1 (by decide)
  have f2 := fr 2 (by decide)
  have f3 := fr 3 (by decide)
  have f14 := fr 14 (by decide)
  have f4 := fr 4 (by decide)
  have f5 := fr 5 (by decide)
  have f6 := fr 6 (by decide)
  have f7 := fr 7 (by decide)
  have f8 := fr 8 (by decide)
  have f9 := fr 9 (by decide)
  have f10 := fr 10 (by decide)
  have f11 := fr 11 (by decide)
  have f12 := fr 12 (by decide)
  have f13 := fr 13 (by decide)
  clear fr
  go_wp2
  go_ret
  exact ⟨rfl, HM.out.s (getSt (n1 z 1).1), HF.trans ((mwS_frm W8 K (getSt (n1 z 1).1)).mono fun _ _ h => .inr h)⟩
end Go.Proofs.Ytemfdmbjlmiopaa
