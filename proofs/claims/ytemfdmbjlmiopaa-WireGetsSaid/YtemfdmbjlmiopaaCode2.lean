/-
  States as bytes (chapter 23): readers, and the version that is read.
-/
import Derived.Test.YtemfdmbjlmiopaaCode
namespace Go.Proofs.Ytemfdmbjlmiopaa
open Go.RowKit
set_option linter.unusedVariables false
set_option linter.unusedSimpArgs false
def PA (W : World) (g : Nat) (z : Rr) : Prop := IsRd W g z.1 z.2 ∧ z.1.size ≤ 100000
def RA (s : ByteArray) (W : World) (g : Nat) (z : Rr) : Prop := s.size ≤ 100000 ∧ ∃ a : Nat, a ≤ s.size ∧ IsRR W g s a z.2 ∧ z.1 = left s a
theorem PA.frm {S : Nat → Prop} {w w' : World} {g : Nat} {z : Rr} (h : PA w g z) (hf : Frm S w w') (hg : ¬ S g) : PA w' g z := ⟨h.1.frm hf hg, h.2⟩
theorem RA.frm {S : Nat → Prop} {s : ByteArray} {w w' : World} {g : Nat} {z : Rr} (h : RA s w g z) (hf : Frm S w w') (hg : ¬ S g) : RA s w' g z := by
  obtain ⟨h1, a, h2, h3, h4⟩ := h
  exact ⟨h1, a, h2, h3.frm hf hg, h4⟩
theorem PA.lt {w : World} {g : Nat} {z : Rr} (h : PA w g z) : g < w.heap.size := World.block_lt_of_cell? w _ h.1.c0
theorem RA.lt {s : ByteArray} {w : World} {g : Nat} {z : Rr} (h : RA s w g z) : g < w.heap.size := by
  obtain ⟨h1, a, h2, h3, h4⟩ := h
  exact World.block_lt_of_cell? w _ h3.c0
theorem rest_le (x : ByteArray) (err n : Int) : (rdRest x err n).size ≤ x.size := by
  unfold rdRest
  split
  · rw [ByteArray.size_extract]; omega
  · exact Nat.le_refl _
theorem nrest_le (x : ByteArray) (err n : Int) : (nmRest x err n).size ≤ x.size := by
  unfold nmRest
  split
  · exact rest_le x err n
  · exact Nat.le_refl _
theorem num_p {g : Nat} {z : Rr} (n : Int) {w : World} (h : PA w g z) : Calls Try.prog 36 #[.pointer (some ⟨g, 0, none⟩), .int .i64 n] w fun e w' => e = .returned (.int .i64 (nO z n)) ∧ PA w' g (n1 z n) ∧ Frm (· = g) w w' :=
  (num_any g n z.1 z.2 w (Nat.le_trans h.2 (by decide)) h.1).mono fun e w' ⟨h1, h2, h3⟩ => ⟨h1, ⟨h2, Nat.le_trans (nrest_le z.1 z.2 n) h.2⟩, h3⟩
theorem bytes_p {g : Nat} {z : Rr} (n : Int) {w : World} (h : PA w g z) : Calls Try.prog 46 #[.pointer (some ⟨g, 0, none⟩), .int .i64 n] w fun e w' => e = .returned (.string (rdOut z.1 z.2 n)) ∧ PA w' g (b1 z n) ∧ Frm (· = g) w w' :=
  (bytes_any g n z.1 z.2 w (Nat.le_trans h.2 (by decide)) h.1).mono fun e w' ⟨h1, h2, h3⟩ => ⟨h1, ⟨h2, Nat.le_trans (rest_le z.1 z.2 n) h.2⟩, h3⟩
theorem end_p {g : Nat} {z : Rr} {w : World} (h : PA w g z) : Calls Try.prog 58 #[.pointer (some ⟨g, 0, none⟩)] w fun e w' => e = .returned (.int .i64 (rdEnd z.1 z.2)) ∧ Below w.heap.size w w' :=
  (end_any g z.1 z.2 w h.1).mono fun e w' ⟨h1, h2⟩ => ⟨h1, h2 ▸ Below.refl _ _⟩
theorem num_r {s : ByteArray} {g : Nat} {z : Rr} (n : Int) {w : World} (h : RA s w g z) : Calls Try.prog 38 #[.pointer (some ⟨g, 0, none⟩), .int .i64 n] w fun e w' => e = .returned (.int .i64 (nO z n)) ∧ RA s w' g (n1 z n) ∧ Frm (· = g) w w' := by
  obtain ⟨h1, a, h2, h3, h4⟩ := h
  obtain ⟨z1, z2⟩ := z
  simp only at h4
  subst h4
  exact (rnum_any g n s a z2 w (by omega) h2 h3).mono fun e w' ⟨k1, k2, k3⟩ => ⟨k1, ⟨h1, _, (nrest s a z2 n h2).2, k2, (nrest s a z2 n h2).1⟩, k3⟩
theorem bytes_r {s : ByteArray} {g : Nat} {z : Rr} (n : Int) {w : World} (h : RA s w g z) : Calls Try.prog 60 #[.pointer (some ⟨g, 0, none⟩), .int .i64 n] w fun e w' => e = .returned (.string (rdOut z.1 z.2 n)) ∧ RA s w' g (b1 z n) ∧ Frm (· = g) w w' := by
  obtain ⟨h1, a, h2, h3, h4⟩ := h
  obtain ⟨z1, z2⟩ := z
  simp only at h4
  subst h4
  exact (rbytes_any g n s a z2 w (by omega) h2 h3).mono fun e w' ⟨k1, k2, k3⟩ => ⟨k1, ⟨h1, _, (left_rest s a z2 n h2).2, k2, (left_rest s a z2 n h2).1⟩, k3⟩
theorem end_r {s : ByteArray} {g : Nat} {z : Rr} {w : World} (h : RA s w g z) : Calls Try.prog 39 #[.pointer (some ⟨g, 0, none⟩)] w fun e w' => e = .returned (.int .i64 (rdEnd z.1 z.2)) ∧ Below w.heap.size w w' := by
  obtain ⟨h1, a, h2, h3, h4⟩ := h
  obtain ⟨z1, z2⟩ := z
  simp only at h4
  subst h4
  exact (rend_any g s a z2 w (by omega) h2 h3).mono fun e w' ⟨k1, m, k2⟩ => ⟨k1, k2 ▸ ((Frm.refl (fun _ => False) w).drewN m).toBelow (Nat.le_refl _) (fun _ _ x => x)⟩
theorem new3 (w : World) (T : TypeId) : let W := w.alloc (.cells #[.int .i64 0, .int .i64 0, .string ⟨#[]⟩] T)
    (W.cell? ⟨w.heap.size, 0, none⟩ = some (.int .i64 0) ∧ W.cell? ⟨w.heap.size, 1, none⟩ = some (.int .i64 0) ∧ W.cell? ⟨w.heap.size, 2, none⟩ = some (.string ⟨#[]⟩)) ∧ W.frozen? ⟨w.heap.size, 0, none⟩ = false ∧ W.frozen? ⟨w.heap.size, 1, none⟩ = false ∧ W.frozen? ⟨w.heap.size, 2, none⟩ = false := by
  simp [go_sem]
theorem frm3 (W : World) (K : Nat) (a b c : Value) : Frm (fun x => x = K) W (((W.setCell ⟨K, 0, none⟩ a).setCell ⟨K, 1, none⟩ b).setCell ⟨K, 2, none⟩ c) :=
  Frm.setCell (S := fun x => x = K) (Frm.setCell (S := fun x => x = K) (Frm.setCell (S := fun x => x = K) (Frm.refl _ _) (.inl rfl) a) (.inl rfl) b) (.inl rfl) c
theorem frm3' {S : Nat → Prop} {w W : World} (h : Frm S w W) (K : Nat) (hK : w.heap.size ≤ K) (a b c : Value) : Frm S w (((W.setCell ⟨K, 0, none⟩ a).setCell ⟨K, 1, none⟩ b).setCell ⟨K, 2, none⟩ c) :=
  ((h.setCell (.inr hK) a).setCell (.inr hK) b).setCell (.inr hK) c
set_option maxHeartbeats 1600000 in
theorem ver_p {g : Nat} {z : Rr} {w : World} (h : PA w g z) : Calls Try.prog 69 #[.pointer (some ⟨g, 0, none⟩)] w fun e w' => e = .returned (VE (rdVe z).p (rdVe z).q (rdVe z).d) ∧ PA w' g (rdVs z) ∧ Frm (· = g) w w' := by
  have hlt := h.lt
  have hne : ¬ w.heap.size = g := by omega
  have hne2 : ¬ g = w.heap.size := by omega
  obtain ⟨⟨c0, c1, c2⟩, v0, v1, v2⟩ := new3 w 25
  have HF := (Frm.refl (· = g) w).alloc (.cells #[.int .i64 0, .int .i64 0, .string ⟨#[]⟩] 25)
  have HR := h.frm (S := fun _ => False) (Frm.ofBelow ((Below.refl _ _).alloc (Nat.le_refl _) (.cells #[.int .i64 0, .int .i64 0, .string ⟨#[]⟩] 25))) (fun x => x)
  clear h hlt
  go_enter Try.func69, Try.ntmps69
  go_wp2_with fail
  generalize w.alloc (.cells #[.int .i64 0, .int .i64 0, .string ⟨#[]⟩] 25) = W1 at *
  refine (num_p 7 HR).mono ?_
  rintro e' W2 ⟨rfl, hR, hA⟩
  replace HR := hR
  replace HF := HF.trans hA
  have hlt := World.block_lt_of_cell? _ _ c0
  replace v0 := (hA.frozen (p := ⟨w.heap.size, 0, none⟩) hne hlt).trans v0
  replace v1 := (hA.frozen (p := ⟨w.heap.size, 1, none⟩) hne hlt).trans v1
  replace v2 := (hA.frozen (p := ⟨w.heap.size, 2, none⟩) hne hlt).trans v2
  replace c0 := hA.cell (p := ⟨w.heap.size, 0, none⟩) hne c0
  replace c1 := hA.cell (p := ⟨w.heap.size, 1, none⟩) hne c1
  replace c2 := hA.cell (p := ⟨w.heap.size, 2, none⟩) hne c2
  clear hR hA hlt
  go_wp2_with fail
  refine (num_p 7 HR).mono ?_
  rintro e' W3 ⟨rfl, hR, hA⟩
  replace HR := hR
  replace HF := HF.trans hA
  have hlt := World.block_lt_of_cell? _ _ c0
  replace v0 := (hA.frozen (p := ⟨w.heap.size, 0, none⟩) hne hlt).trans v0
  replace v1 := (hA.frozen (p := ⟨w.heap.size, 1, none⟩) hne hlt).trans v1
  replace v2 := (hA.frozen (p := ⟨w.heap.size, 2, none⟩) hne hlt).trans v2
  replace c0 := hA.cell (p := ⟨w.heap.size, 0, none⟩) hne c0
  replace c1 := hA.cell (p := ⟨w.heap.size, 1, none⟩) hne c1
  replace c2 := hA.cell (p := ⟨w.heap.size, 2, none⟩) hne c2
  clear hR hA hlt
  go_wp2_with fail
  refine (bytes_p 128 HR).mono ?_
  rintro e' W4 ⟨rfl, hR, hA⟩
  replace HR := hR
  replace HF := HF.trans hA
  have hlt := World.block_lt_of_cell? _ _ c0
  replace v0 := (hA.frozen (p := ⟨w.heap.size, 0, none⟩) hne hlt).trans v0
  replace v1 := (hA.frozen (p := ⟨w.heap.size, 1, none⟩) hne hlt).trans v1
  replace v2 := (hA.frozen (p := ⟨w.heap.size, 2, none⟩) hne hlt).trans v2
  replace c0 := hA.cell (p := ⟨w.heap.size, 0, none⟩) hne c0
  replace c1 := hA.cell (p := ⟨w.heap.size, 1, none⟩) hne c1
  replace c2 := hA.cell (p := ⟨w.heap.size, 2, none⟩) hne c2
  clear hR hA hlt
  go_wp2
  refine bodyPost_ret (v := VE (nO z 7) (nO (n1 z 7) 7) (rdOut (n1 (n1 z 7) 7).1 (n1 (n1 z 7) 7).2 128)) (by simp [results, Try.results69, go_sem, c0, c1, c2]) rfl ⟨rfl, HR.frm (frm3 _ _ _ _ _) hne2, frm3' HF _ (Nat.le_refl _) _ _ _⟩
set_option maxHeartbeats 1600000 in
theorem ver_r {s : ByteArray} {g : Nat} {z : Rr} {w : World} (h : RA s w g z) : Calls Try.prog 61 #[.pointer (some ⟨g, 0, none⟩)] w fun e w' => e = .returned (VE (rdVe z).p (rdVe z).q (rdVe z).d) ∧ RA s w' g (rdVs z) ∧ Frm (· = g) w w' := by
  have hlt := h.lt
  have hne : ¬ w.heap.size = g := by omega
  have hne2 : ¬ g = w.heap.size := by omega
  obtain ⟨⟨c0, c1, c2⟩, v0, v1, v2⟩ := new3 w 25
  have HF := (Frm.refl (· = g) w).alloc (.cells #[.int .i64 0, .int .i64 0, .string ⟨#[]⟩] 25)
  have HR := h.frm (S := fun _ => False) (Frm.ofBelow ((Below.refl _ _).alloc (Nat.le_refl _) (.cells #[.int .i64 0, .int .i64 0, .string ⟨#[]⟩] 25))) (fun x => x)
  clear h hlt
  go_enter Try.func61, Try.ntmps61
  go_wp2_with fail
  generalize w.alloc (.cells #[.int .i64 0, .int .i64 0, .string ⟨#[]⟩] 25) = W1 at *
  refine (num_r 7 HR).mono ?_
  rintro e' W2 ⟨rfl, hR, hA⟩
  replace HR := hR
  replace HF := HF.trans hA
  have hlt := World.block_lt_of_cell? _ _ c0
  replace v0 := (hA.frozen (p := ⟨w.heap.size, 0, none⟩) hne hlt).trans v0
  replace v1 := (hA.frozen (p := ⟨w.heap.size, 1, none⟩) hne hlt).trans v1
  replace v2 := (hA.frozen (p := ⟨w.heap.size, 2, none⟩) hne hlt).trans v2
  replace c0 := hA.cell (p := ⟨w.heap.size, 0, none⟩) hne c0
  replace c1 := hA.cell (p := ⟨w.heap.size, 1, none⟩) hne c1
  replace c2 := hA.cell (p := ⟨w.heap.size, 2, none⟩) hne c2
  clear hR hA hlt
  go_wp2_with fail
  refine (num_r 7 HR).mono ?_
  rintro e' W3 ⟨rfl, hR, hA⟩
  replace HR := hR
  replace HF := HF.trans hA
  have hlt := World.block_lt_of_cell? _ _ c0
  replace v0 := (hA.frozen (p := ⟨w.heap.size, 0, none⟩) hne hlt).trans v0
  replace v1 := (hA.frozen (p := ⟨w.heap.size, 1, none⟩) hne hlt).trans v1
  replace v2 := (hA.frozen (p := ⟨w.heap.size, 2, none⟩) hne hlt).trans v2
  replace c0 := hA.cell (p := ⟨w.heap.size, 0, none⟩) hne c0
  replace c1 := hA.cell (p := ⟨w.heap.size, 1, none⟩) hne c1
  replace c2 := hA.cell (p := ⟨w.heap.size, 2, none⟩) hne c2
  clear hR hA hlt
  go_wp2_with fail
  refine (bytes_r 128 HR).mono ?_
  rintro e' W4 ⟨rfl, hR, hA⟩
  replace HR := hR
  replace HF := HF.trans hA
  have hlt := World.block_lt_of_cell? _ _ c0
  replace v0 := (hA.frozen (p := ⟨w.heap.size, 0, none⟩) hne hlt).trans v0
  replace v1 := (hA.frozen (p := ⟨w.heap.size, 1, none⟩) hne hlt).trans v1
  replace v2 := (hA.frozen (p := ⟨w.heap.size, 2, none⟩) hne hlt).trans v2
  replace c0 := hA.cell (p := ⟨w.heap.size, 0, none⟩) hne c0
  replace c1 := hA.cell (p := ⟨w.heap.size, 1, none⟩) hne c1
  replace c2 := hA.cell (p := ⟨w.heap.size, 2, none⟩) hne c2
  clear hR hA hlt
  go_wp2
  refine bodyPost_ret (v := VE (nO z 7) (nO (n1 z 7) 7) (rdOut (n1 (n1 z 7) 7).1 (n1 (n1 z 7) 7).2 128)) (by simp [results, Try.results61, go_sem, c0, c1, c2]) rfl ⟨rfl, HR.frm (frm3 _ _ _ _ _) hne2, frm3' HF _ (Nat.le_refl _) _ _ _⟩
end Go.Proofs.Ytemfdmbjlmiopaa
