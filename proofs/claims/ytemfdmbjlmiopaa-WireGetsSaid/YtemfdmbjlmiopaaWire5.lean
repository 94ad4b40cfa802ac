/-
  Messages as bytes (chapter 25): a message's box that is written; what read reads.
-/
import Derived.Test.YtemfdmbjlmiopaaWire4
namespace Go.Proofs.Ytemfdmbjlmiopaa
open Go.RowKit
set_option linter.unusedVariables false
set_option linter.unusedSimpArgs false
def MBox (W : World) (g : Nat) (m : Mg) : Prop := MC W g m ∧ ∀ o, o ≤ 14 → W.frozen? ⟨g, o, none⟩ = false
theorem MBox.frm {S : Nat → Prop} {w w' : World} {g : Nat} {m : Mg} (h : MBox w g m) (hf : Frm S w w') (hg : ¬ S g) : MBox w' g m := by
  obtain ⟨⟨c0, c1, c2, c3, c4, c5, c6, c7, c8, c9, c10, c11, c12, c13, c14⟩, hfr⟩ := h
  have hlt : g < w.heap.size := World.block_lt_of_cell? w _ c0
  exact ⟨⟨hf.cell hg c0, hf.cell hg c1, hf.cell hg c2, hf.cell hg c3, hf.cell hg c4, hf.cell hg c5, hf.cell hg c6, hf.cell hg c7, hf.cell hg c8, hf.cell hg c9, hf.cell hg c10, hf.cell hg c11, hf.cell hg c12, hf.cell hg c13, hf.cell hg c14⟩,
    fun o ho => (hf.frozen (p := ⟨g, o, none⟩) hg hlt).trans (hfr o ho)⟩
theorem MBox.below {w w' : World} {g : Nat} {m : Mg} (h : MBox w g m) (hb : Below w.heap.size w w') : MBox w' g m := h.frm (S := fun _ => False) (Frm.ofBelow hb) (fun x => x)
theorem MBox.lt {w : World} {g : Nat} {m : Mg} (h : MBox w g m) : g < w.heap.size := h.1.lt
theorem MBox.new (W : World) (k ex va vb : Int) (s : St) (n : Int) (T : TypeId) : MBox (W.alloc (.cells #[.int .i64 k, .int .i64 ex, .int .i64 va, .int .i64 vb, .int .i64 s.k, .int .i64 s.a, .int .i64 s.b, .string s.d, .int .i64 s.x.p, .int .i64 s.x.q, .string s.x.d, .int .i64 s.y.p, .int .i64 s.y.q, .string s.y.d, .int .i64 n] T)) W.heap.size ⟨k, ex, va, vb, s, n⟩ :=
  ⟨MC.new W k ex va vb s n T, fun o ho => by simp [go_sem]⟩
def mwE (W : World) (K : Nat) (x : Int) : World := W.setCell ⟨K, 1, none⟩ (.int .i64 x)
def mwV (W : World) (K : Nat) (a b : Int) : World := (W.setCell ⟨K, 2, none⟩ (.int .i64 a)).setCell ⟨K, 3, none⟩ (.int .i64 b)
def mwN (W : World) (K : Nat) (x : Int) : World := W.setCell ⟨K, 14, none⟩ (.int .i64 x)
def mwS (W : World) (K : Nat) (x : St) : World := ((((((((((W.setCell ⟨K, 4, none⟩ (.int .i64 x.k)).setCell ⟨K, 5, none⟩ (.int .i64 x.a)).setCell ⟨K, 6, none⟩ (.int .i64 x.b)).setCell ⟨K, 7, none⟩ (.string x.d)).setCell ⟨K, 8, none⟩ (.int .i64 x.x.p)).setCell ⟨K, 9, none⟩ (.int .i64 x.x.q)).setCell ⟨K, 10, none⟩ (.string x.x.d)).setCell ⟨K, 11, none⟩ (.int .i64 x.y.p)).setCell ⟨K, 12, none⟩ (.int .i64 x.y.q)).setCell ⟨K, 13, none⟩ (.string x.y.d))
theorem frm_set {K : Nat} {a w : World} (h : Frm (fun x => x = K) a w) (o : Nat) (u : Value) : Frm (fun x => x = K) a (w.setCell ⟨K, o, none⟩ u) := Frm.setCell (S := fun x => x = K) h (.inl rfl) u
theorem mwE_frm (W : World) (K : Nat) (x : Int) : Frm (fun x => x = K) W (mwE W K x) := frm_set (Frm.refl _ _) _ _
theorem mwV_frm (W : World) (K : Nat) (a b : Int) : Frm (fun x => x = K) W (mwV W K a b) := frm_set (frm_set (Frm.refl _ _) _ _) _ _
theorem mwN_frm (W : World) (K : Nat) (x : Int) : Frm (fun x => x = K) W (mwN W K x) := frm_set (Frm.refl _ _) _ _
theorem mwS_frm (W : World) (K : Nat) (x : St) : Frm (fun x => x = K) W (mwS W K x) := frm_set (frm_set (frm_set (frm_set (frm_set (frm_set (frm_set (frm_set (frm_set (frm_set (Frm.refl _ _) _ _) _ _) _ _) _ _) _ _) _ _) _ _) _ _) _ _) _ _
set_option maxHeartbeats 1600000 in
theorem MBox.e {W : World} {K : Nat} {k ex va vb n : Int} {s : St} (h : MBox W K ⟨k, ex, va, vb, s, n⟩) (x : Int) : MBox (mwE W K x) K ⟨k, x, va, vb, s, n⟩ := by
  obtain ⟨⟨c0, c1, c2, c3, c4, c5, c6, c7, c8, c9, c10, c11, c12, c13, c14⟩, hf⟩ := h
  refine ⟨⟨?_, ?_, ?_, ?_, ?_, ?_, ?_, ?_, ?_, ?_, ?_, ?_, ?_, ?_, ?_⟩, fun o ho => ?_⟩
  rotate_right
  · have := hf o ho
    simpa [go_sem, mwE] using this
  all_goals simp [go_sem, mwE, c0, c1, c2, c3, c4, c5, c6, c7, c8, c9, c10, c11, c12, c13, c14]
set_option maxHeartbeats 1600000 in
theorem MBox.v {W : World} {K : Nat} {k ex va vb n : Int} {s : St} (h : MBox W K ⟨k, ex, va, vb, s, n⟩) (a b : Int) : MBox (mwV W K a b) K ⟨k, ex, a, b, s, n⟩ := by
  obtain ⟨⟨c0, c1, c2, c3, c4, c5, c6, c7, c8, c9, c10, c11, c12, c13, c14⟩, hf⟩ := h
  refine ⟨⟨?_, ?_, ?_, ?_, ?_, ?_, ?_, ?_, ?_, ?_, ?_, ?_, ?_, ?_, ?_⟩, fun o ho => ?_⟩
  rotate_right
  · have := hf o ho
    simpa [go_sem, mwV] using this
  all_goals simp [go_sem, mwV, c0, c1, c2, c3, c4, c5, c6, c7, c8, c9, c10, c11, c12, c13, c14]
set_option maxHeartbeats 1600000 in
theorem MBox.n {W : World} {K : Nat} {k ex va vb n : Int} {s : St} (h : MBox W K ⟨k, ex, va, vb, s, n⟩) (x : Int) : MBox (mwN W K x) K ⟨k, ex, va, vb, s, x⟩ := by
  obtain ⟨⟨c0, c1, c2, c3, c4, c5, c6, c7, c8, c9, c10, c11, c12, c13, c14⟩, hf⟩ := h
  refine ⟨⟨?_, ?_, ?_, ?_, ?_, ?_, ?_, ?_, ?_, ?_, ?_, ?_, ?_, ?_, ?_⟩, fun o ho => ?_⟩
  rotate_right
  · have := hf o ho
    simpa [go_sem, mwN] using this
  all_goals simp [go_sem, mwN, c0, c1, c2, c3, c4, c5, c6, c7, c8, c9, c10, c11, c12, c13, c14]
set_option maxHeartbeats 1600000 in
theorem MBox.s {W : World} {K : Nat} {k ex va vb n : Int} {s : St} (h : MBox W K ⟨k, ex, va, vb, s, n⟩) (x : St) : MBox (mwS W K x) K ⟨k, ex, va, vb, x, n⟩ := by
  obtain ⟨⟨c0, c1, c2, c3, c4, c5, c6, c7, c8, c9, c10, c11, c12, c13, c14⟩, hf⟩ := h
  refine ⟨⟨?_, ?_, ?_, ?_, ?_, ?_, ?_, ?_, ?_, ?_, ?_, ?_, ?_, ?_, ?_⟩, fun o ho => ?_⟩
  rotate_right
  · have := hf o ho
    simpa [go_sem, mwS] using this
  all_goals simp [go_sem, mwS, c0, c1, c2, c3, c4, c5, c6, c7, c8, c9, c10, c11, c12, c13, c14]
theorem held4f {w : World} {a b c d : Bool} (T : TypeId) : let W := w.alloc (.cells #[.bool a, .bool b, .bool c, .bool d] T)
    W.cell? ⟨w.heap.size, 0, none⟩ = some (.bool a) ∧ W.cell? ⟨w.heap.size, 1, none⟩ = some (.bool b) ∧ W.cell? ⟨w.heap.size, 2, none⟩ = some (.bool c) ∧ W.cell? ⟨w.heap.size, 3, none⟩ = some (.bool d) := held4b T
theorem left_p {g : Nat} {z : Rr} {w : World} (h : PA w g z) : Calls Try.prog 47 #[.pointer (some ⟨g, 0, none⟩)] w fun e w' => e = .returned (.int .i64 z.1.size) ∧ w = w' := left_any g z.1 z.2 w h.1
/-- a reader that stood well fails with 1 or not at all -/
theorem fail01 (z : Rr) (n : Int) (hn : 1 ≤ n ∧ n ≤ 7) (hz : z.2 = 0 ∨ z.2 = 1) : (n1 z n).2 = 0 ∨ (n1 z n).2 = 1 := by
  unfold n1 nmErr
  simp only
  rw [if_pos (show widthB n = true from decide_eq_true hn)]
  unfold rdErr
  split
  · split
    · omega
    · split
      · exact .inr rfl
      · exact .inl rfl
  · exact hz
theorem end01 {z : Rr} (hz : z.2 = 0 ∨ z.2 = 1) (h : ¬ rdEnd z.1 z.2 = 1) : z.2 = 0 ∧ rdOut z.1 z.2 z.1.size = z.1 := by
  have h0 : z.2 = 0 := by
    rcases hz with h1 | h1
    · exact h1
    · exfalso; apply h; unfold rdEnd; rw [if_neg (by omega)]; exact h1
  refine ⟨h0, ?_⟩
  have he : rdErr z.1 z.2 z.1.size = 0 := by unfold rdErr; rw [if_pos h0, if_neg (by omega), if_neg (by omega)]
  unfold rdOut
  rw [if_pos he]
  apply ba_data
  rw [ext_list]
  simp
  exact List.take_of_length_le (by rw [data_len]; exact Nat.le_refl _)
theorem out_le (z : Rr) (n : Int) : (rdOut z.1 z.2 n).size ≤ z.1.size := by
  unfold rdOut
  split
  · rw [ByteArray.size_extract]; omega
  · exact Nat.zero_le _
end Go.Proofs.Ytemfdmbjlmiopaa
