/-
  States as bytes (chapter 23): what Get reads.
-/
import Derived.Test.YtemfdmbjlmiopaaCode2
import Derived.Test.YtemfdmbjlmiopaaStateCel2
namespace Go.Proofs.Ytemfdmbjlmiopaa
open Go.RowKit
set_option linter.unusedVariables false
set_option linter.unusedSimpArgs false
theorem Box.frm {S : Nat → Prop} {w w' : World} {g : Nat} {x : St} (h : Box w g x) (hf : Frm S w w') (hg : ¬ S g) : Box w' g x := by
  obtain ⟨⟨c0, c1, c2, c3, c4, c5, c6, c7, c8, c9⟩, v0, v1, v2, v3, v4, v5, v6, v7, v8, v9⟩ := h
  have hlt : g < w.heap.size := World.block_lt_of_cell? w _ c0
  have K : ∀ (o : Nat), w'.frozen? ⟨g, o, none⟩ = w.frozen? ⟨g, o, none⟩ := fun o => hf.frozen (p := ⟨g, o, none⟩) hg hlt
  exact ⟨⟨hf.cell hg c0, hf.cell hg c1, hf.cell hg c2, hf.cell hg c3, hf.cell hg c4, hf.cell hg c5, hf.cell hg c6, hf.cell hg c7, hf.cell hg c8, hf.cell hg c9⟩, (K 0).trans v0, (K 1).trans v1, (K 2).trans v2, (K 3).trans v3, (K 4).trans v4, (K 5).trans v5, (K 6).trans v6, (K 7).trans v7, (K 8).trans v8, (K 9).trans v9⟩
theorem Box.lt {w : World} {g : Nat} {x : St} (h : Box w g x) : g < w.heap.size := h.1.lt
def stV (W : World) (K : Nat) (a b : Int) : World := (W.setCell ⟨K, 1, none⟩ (.int .i64 a)).setCell ⟨K, 2, none⟩ (.int .i64 b)
def stD (W : World) (K : Nat) (d : ByteArray) : World := W.setCell ⟨K, 3, none⟩ (.string d)
def stA (W : World) (K : Nat) (p q : Int) (e : ByteArray) : World := ((W.setCell ⟨K, 4, none⟩ (.int .i64 p)).setCell ⟨K, 5, none⟩ (.int .i64 q)).setCell ⟨K, 6, none⟩ (.string e)
def stB (W : World) (K : Nat) (p q : Int) (e : ByteArray) : World := ((W.setCell ⟨K, 7, none⟩ (.int .i64 p)).setCell ⟨K, 8, none⟩ (.int .i64 q)).setCell ⟨K, 9, none⟩ (.string e)
theorem stV_frm (W : World) (K : Nat) (a b : Int) : Frm (fun x => x = K) W (stV W K a b) :=
  Frm.setCell (S := fun x => x = K) (Frm.setCell (S := fun x => x = K) (Frm.refl _ _) (.inl rfl) _) (.inl rfl) _
theorem stD_frm (W : World) (K : Nat) (d : ByteArray) : Frm (fun x => x = K) W (stD W K d) := Frm.setCell (S := fun x => x = K) (Frm.refl _ _) (.inl rfl) _
theorem stA_frm (W : World) (K : Nat) (a b : Int) (d : ByteArray) : Frm (fun x => x = K) W (stA W K a b d) :=
  Frm.setCell (S := fun x => x = K) (Frm.setCell (S := fun x => x = K) (Frm.setCell (S := fun x => x = K) (Frm.refl _ _) (.inl rfl) _) (.inl rfl) _) (.inl rfl) _
theorem stB_frm (W : World) (K : Nat) (a b : Int) (d : ByteArray) : Frm (fun x => x = K) W (stB W K a b d) :=
  Frm.setCell (S := fun x => x = K) (Frm.setCell (S := fun x => x = K) (Frm.setCell (S := fun x => x = K) (Frm.refl _ _) (.inl rfl) _) (.inl rfl) _) (.inl rfl) _
set_option maxHeartbeats 1600000 in
theorem Box.stV {W : World} {K : Nat} {k a b : Int} {d : ByteArray} {x y : Ve} (h : Box W K ⟨k, a, b, d, x, y⟩) (a' b' : Int) : Box (stV W K a' b') K ⟨k, a', b', d, x, y⟩ := by
  obtain ⟨⟨c0, c1, c2, c3, c4, c5, c6, c7, c8, c9⟩, v0, v1, v2, v3, v4, v5, v6, v7, v8, v9⟩ := h
  refine ⟨⟨?_, ?_, ?_, ?_, ?_, ?_, ?_, ?_, ?_, ?_⟩, ?_, ?_, ?_, ?_, ?_, ?_, ?_, ?_, ?_, ?_⟩ <;> simp [go_sem, Go.Proofs.Ytemfdmbjlmiopaa.stV, c0, c1, c2, c3, c4, c5, c6, c7, c8, c9, v0, v1, v2, v3, v4, v5, v6, v7, v8, v9]
set_option maxHeartbeats 1600000 in
theorem Box.stD {W : World} {K : Nat} {k a b : Int} {d : ByteArray} {x y : Ve} (h : Box W K ⟨k, a, b, d, x, y⟩) (d' : ByteArray) : Box (stD W K d') K ⟨k, a, b, d', x, y⟩ := by
  obtain ⟨⟨c0, c1, c2, c3, c4, c5, c6, c7, c8, c9⟩, v0, v1, v2, v3, v4, v5, v6, v7, v8, v9⟩ := h
  refine ⟨⟨?_, ?_, ?_, ?_, ?_, ?_, ?_, ?_, ?_, ?_⟩, ?_, ?_, ?_, ?_, ?_, ?_, ?_, ?_, ?_, ?_⟩ <;> simp [go_sem, Go.Proofs.Ytemfdmbjlmiopaa.stD, c0, c1, c2, c3, c4, c5, c6, c7, c8, c9, v0, v1, v2, v3, v4, v5, v6, v7, v8, v9]
set_option maxHeartbeats 1600000 in
theorem Box.stA {W : World} {K : Nat} {k a b : Int} {d : ByteArray} {x y : Ve} (h : Box W K ⟨k, a, b, d, x, y⟩) (p q : Int) (e : ByteArray) : Box (stA W K p q e) K ⟨k, a, b, d, ⟨p, q, e⟩, y⟩ := by
  obtain ⟨⟨c0, c1, c2, c3, c4, c5, c6, c7, c8, c9⟩, v0, v1, v2, v3, v4, v5, v6, v7, v8, v9⟩ := h
  refine ⟨⟨?_, ?_, ?_, ?_, ?_, ?_, ?_, ?_, ?_, ?_⟩, ?_, ?_, ?_, ?_, ?_, ?_, ?_, ?_, ?_, ?_⟩ <;> simp [go_sem, Go.Proofs.Ytemfdmbjlmiopaa.stA, c0, c1, c2, c3, c4, c5, c6, c7, c8, c9, v0, v1, v2, v3, v4, v5, v6, v7, v8, v9]
set_option maxHeartbeats 1600000 in
theorem Box.stB {W : World} {K : Nat} {k a b : Int} {d : ByteArray} {x y : Ve} (h : Box W K ⟨k, a, b, d, x, y⟩) (p q : Int) (e : ByteArray) : Box (stB W K p q e) K ⟨k, a, b, d, x, ⟨p, q, e⟩⟩ := by
  obtain ⟨⟨c0, c1, c2, c3, c4, c5, c6, c7, c8, c9⟩, v0, v1, v2, v3, v4, v5, v6, v7, v8, v9⟩ := h
  refine ⟨⟨?_, ?_, ?_, ?_, ?_, ?_, ?_, ?_, ?_, ?_⟩, ?_, ?_, ?_, ?_, ?_, ?_, ?_, ?_, ?_, ?_⟩ <;> simp [go_sem, Go.Proofs.Ytemfdmbjlmiopaa.stB, c0, c1, c2, c3, c4, c5, c6, c7, c8, c9, v0, v1, v2, v3, v4, v5, v6, v7, v8, v9]
/-- what Get tells, by the kind that stands ahead -/
theorem get_0 {t : ByteArray} {z1 zz : Rr} {va vb : Int} {vd : ByteArray} (h1 : n1 (t, 0) 1 = z1) (h0 : nO (t, 0) 1 = 0) (hv : rdVe z1 = ⟨va, vb, vd⟩) (hz : rdVs z1 = zz) :
    getR t = ⟨0, va, vb, vd, ⟨0, 0, ⟨#[]⟩⟩, ⟨0, 0, ⟨#[]⟩⟩⟩ ∧ getE t = if rdEnd zz.1 zz.2 = 0 then chkE ⟨0, va, vb, vd, ⟨0, 0, ⟨#[]⟩⟩, ⟨0, 0, ⟨#[]⟩⟩⟩ else rdEnd zz.1 zz.2 := by
  have hR : getR t = ⟨0, va, vb, vd, ⟨0, 0, ⟨#[]⟩⟩, ⟨0, 0, ⟨#[]⟩⟩⟩ := by unfold getR; rw [if_pos h0, h1, hv]
  have hZ : getZ t = zz := by unfold getZ; rw [if_pos h0, h1, hz]
  refine ⟨hR, ?_⟩
  unfold getE
  rw [if_pos (.inl h0), hZ, hR]
theorem get_1 {t : ByteArray} {z1 z2 zz : Rr} {va vb ua ub : Int} {vd ud : ByteArray} (h1 : n1 (t, 0) 1 = z1) (h0 : nO (t, 0) 1 = 1) (hv : rdVe z1 = ⟨va, vb, vd⟩) (hz : rdVs z1 = z2) (hu : rdVe z2 = ⟨ua, ub, ud⟩) (hz2 : rdVs z2 = zz) :
    getR t = ⟨1, va, ub, ⟨#[]⟩, ⟨va, vb, vd⟩, ⟨ua, ub, ud⟩⟩ ∧ getE t = if rdEnd zz.1 zz.2 = 0 then chkE ⟨1, va, ub, ⟨#[]⟩, ⟨va, vb, vd⟩, ⟨ua, ub, ud⟩⟩ else rdEnd zz.1 zz.2 := by
  have hn : ¬ nO (t, 0) 1 = 0 := by rw [h0]; decide
  have hR : getR t = ⟨1, va, ub, ⟨#[]⟩, ⟨va, vb, vd⟩, ⟨ua, ub, ud⟩⟩ := by unfold getR; rw [if_neg hn, h1, hz, hv, hu, h0]
  have hZ : getZ t = zz := by unfold getZ; rw [if_neg hn, h1, hz, hz2]
  refine ⟨hR, ?_⟩
  unfold getE
  rw [if_pos (.inr h0), hZ, hR]
theorem get_x {t : ByteArray} (h0 : ¬ nO (t, 0) 1 = 0) (h1 : ¬ nO (t, 0) 1 = 1) : getE t = 7 := if_neg (fun h => h.elim h0 h1)
theorem getS_ok {t : ByteArray} {x : St} (h : getE t = 0) (hR : getR t = x) : getSt t = x := (if_pos h).trans hR
theorem getS_no {t : ByteArray} (h : ¬ getE t = 0) : getSt t = St.zero := if_neg h
end Go.Proofs.Ytemfdmbjlmiopaa
