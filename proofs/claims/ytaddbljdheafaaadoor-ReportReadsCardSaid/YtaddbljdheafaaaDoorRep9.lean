/-
  What words tell of a conflict (chapter 34): the reference's reading of a version.
-/
import Derived.Test.YtaddbljdheafaaaDoorRepStates2
import Derived.Test.YtaddbljdheafaaaDoorCountHex5
import Derived.Test.YtaddbljdheafaaaDoorCountRead4
namespace Go.Proofs.YtaddbljdheafaaaDoor
open Go.RowKit
set_option linter.unusedVariables false
set_option linter.unusedSimpArgs false
set_option maxRecDepth 20000

def sumOk (s : ByteArray) : Bool := decide (unE s = 0) && decide (s.size = 8)
theorem rsum1_any (s : ByteArray) (w : World) (hs : s.size ≤ 100000) : Calls Tryd.prog 28 #[.string s] w fun e w' => e = .returned (.bool (sumOk s)) ∧ Below w.heap.size w w' := by
  have hU := fun W => runhex_any s W (by omega)
  have h0 : sumOk s = (decide (unE s = 0) && decide (s.size = 8)) := rfl
  have hE : ∀ W b, b = sumOk s → Below w.heap.size w W → (fun (e : Ending) (w' : World) => e = .returned (.bool (sumOk s)) ∧ Below w.heap.size w w') (.returned (.bool b)) W := by
    rintro W b rfl h
    exact ⟨rfl, h⟩
  generalize (fun (e : Ending) (w' : World) => e = .returned (.bool (sumOk s)) ∧ Below w.heap.size w w') = Pst at *
  generalize sumOk s = ok at *
  generalize unE s = eU at *
  replace hE := Lib.hid hE
  replace hU := Lib.hid hU
  by_cases k1 : eU = 0
  · subst k1
    by_cases k2 : s.size = 8
    · have hz : ((s.size : Int) == 8) = true := by simp; omega
      have hz2 : ((8 : Int) == 8) = true := rfl
      replace h0 : ok = true := h0.trans (by simp [k2])
      subst h0
      go_enter Tryd.func28, Tryd.ntmps28
      go_wp2_with (go_at_call 46; (with_reducible refine (hU.out _).mono ?_); rintro e1 w1 ⟨rfl, hA⟩; replace hA := Lib.hid hA)
      exact hE.out _ _ rfl hA.out
    · have hz : ((s.size : Int) == 8) = false := by rw [beq_eq_false_iff_ne]; omega
      replace h0 : ok = false := h0.trans (by simp [k2])
      subst h0
      clear k2
      go_enter Tryd.func28, Tryd.ntmps28
      go_wp2_with (go_at_call 46; (with_reducible refine (hU.out _).mono ?_); rintro e1 w1 ⟨rfl, hA⟩; replace hA := Lib.hid hA)
      exact hE.out _ _ rfl hA.out
  · have hz : (eU == 0) = false := by simpa using k1
    replace h0 : ok = false := h0.trans (by simp [k1])
    subst h0
    clear k1
    go_enter Tryd.func28, Tryd.ntmps28
    go_wp2_with (go_at_call 46; (with_reducible refine (hU.out _).mono ?_); rintro e1 w1 ⟨rfl, hA⟩; replace hA := Lib.hid hA)
    exact hE.out _ _ rfl hA.out
def vOk (s : ByteArray) : Bool := cF s && decide (readE (cA s) = 0) && decide (readE (cB s) = 0) && rightB (readV (cA s)) (readV (cB s))
theorem ok_split (s u : ByteArray) : okV s u = (vOk s && sumOk u) := by
  unfold okV vOk sumOk
  cases cF s <;> cases decide (readE (cA s) = 0) <;> cases decide (readE (cB s) = 0) <;> cases decide (unE u = 0) <;> cases decide (u.size = 8) <;> cases rightB (readV (cA s)) (readV (cB s)) <;> rfl
/-! the point in a text -/
theorem idx_point {l : List UInt8} {i : Nat} (h1 : ∀ j, j < i → l[j]? ≠ some 46) (h2 : l[i]? = some 46) : Lib.index l [46] = i := by
  induction l generalizing i with
  | nil => simp at h2
  | cons b l ih =>
    cases i with
    | zero =>
      simp at h2
      subst h2
      simp [Lib.index, List.isPrefixOf]
    | succ i =>
      have hb : b ≠ 46 := fun e => h1 0 (by omega) (by simp [e])
      have hp : ¬ ([46].isPrefixOf (b :: l) = true) := by simp [List.isPrefixOf, Ne.symm hb]
      have := ih (i := i) (fun j hj => by simpa using h1 (j + 1) (by omega)) (by simpa using h2)
      rw [Lib.index, if_neg hp, this, if_neg (by simp)]
      simp
theorem idx_none {l : List UInt8} (h : ∀ j : Nat, l[j]? ≠ some 46) : Lib.index l [46] = -1 := by
  induction l with
  | nil => rfl
  | cons b l ih =>
    have hb : b ≠ 46 := fun e => h 0 (by simp [e])
    have hp : ¬ ([46].isPrefixOf (b :: l) = true) := by simp [List.isPrefixOf, Ne.symm hb]
    rw [Lib.index, if_neg hp, ih (fun j => by simpa using h (j + 1))]; rfl
theorem gd_at (s : ByteArray) (i : Nat) : gd s i = 46 ↔ s.data.toList[i]? = some 46 := by
  unfold gd
  rw [Array.getD_eq_getD_getElem?, Array.getElem?_toList]
  cases h : s.data[i]? with
  | none => simp
  | some c =>
    simp only [Option.getD_some, Option.some.injEq]
    constructor
    · intro e; exact UInt8.toNat_inj.1 e
    · rintro rfl; rfl
theorem cut_point {s : ByteArray} {i : Nat} (hi : i < s.size) (h1 : ∀ j, j < i → gd s j ≠ 46) (h2 : gd s i = 46) : cF s = true ∧ cA s = s.extract 0 i ∧ cB s = s.extract (i + 1) s.size := by
  have hx : Lib.index s.data.toList [46] = i := idx_point (fun j hj e => h1 j hj ((gd_at s j).2 e)) ((gd_at s i).1 h2)
  have hc : Lib.cut s.data.toList [46] = (s.data.toList.take i, s.data.toList.drop (i + 1), true) := by
    unfold Lib.cut
    rw [hx, if_pos (by omega)]
    rfl
  refine ⟨by unfold cF; rw [hc], ?_, ?_⟩
  · apply ba_data
    unfold cA
    rw [hc, la, ext_list]; simp
  · apply ba_data
    unfold cB
    rw [hc, la, ext_list]
    exact (List.take_of_length_le (by rw [List.length_drop, data_len]; omega)).symm
theorem cut_none {s : ByteArray} (h : ∀ j, j < s.size → gd s j ≠ 46) : cF s = false := by
  have hx : Lib.index s.data.toList [46] = -1 := idx_none fun j e => by
    have hj := (List.getElem?_eq_some_iff.1 e).1
    rw [data_len] at hj
    exact h j hj ((gd_at s j).2 e)
  unfold cF Lib.cut
  rw [hx, if_neg (by omega)]
def rvV (s : ByteArray) : Value := if cF s then VV (readV (cA s)) (readV (cB s)) else VV 0 0
def PtR (w : World) (s : ByteArray) (i : Value) (wr : World) : Prop := ∃ k : Nat, k ≤ s.size ∧ i = .int .i64 k ∧ Hid (∀ j, j < k → gd s j ≠ 46) ∧ Hid (V2 wr w.heap.size 0 0) ∧ Hid (Below w.heap.size w wr)
def VR (s : ByteArray) (w : World) (e : Ending) (w' : World) : Prop := e = .returned (.tuple #[rvV s, .bool (vOk s)]) ∧ Below w.heap.size w w'
set_option maxHeartbeats 3200000 in
theorem rvec_any (s : ByteArray) (w : World) (hs : s.size ≤ 100000) : Calls Tryd.prog 30 #[.string s] w (VR s w) := by
  have hE : ∀ W v b, v = rvV s → b = vOk s → Below w.heap.size w W → VR s w (.returned (.tuple #[v, .bool b])) W := by
    rintro W v b rfl rfl h
    exact ⟨rfl, h⟩
  have hv : rvV s = if cF s then VV (readV (cA s)) (readV (cB s)) else VV 0 0 := rfl
  have hk : vOk s = (cF s && decide (readE (cA s) = 0) && decide (readE (cB s) = 0) && rightB (readV (cA s)) (readV (cB s))) := rfl
  generalize VR s w = Pst at *
  generalize rvV s = rv at *
  generalize vOk s = ok at *
  replace hE := Lib.hid hE
  have hN0 := Lib.hid (V2.new w 0 0)
  have hb0 := Lib.hid (alb w (.cells #[.int .i64 0, .int .i64 0] 23))
  go_enter Tryd.func30, Tryd.ntmps30
  go_wp2
  go_loopw [4] (fun i wr => PtR w s i wr) (fun i _ => s.size - (intOf i).toNat)
  case atStart => exact ⟨0, Nat.zero_le _, rfl, (fun j h => absurd h (Nat.not_lt_zero _)), hN0, hb0⟩
  case round =>
    obtain ⟨k, hkk, rfl, hno, hZ, hB⟩ := hrel
    by_cases hlt : k < s.size
    · have hd2 : decide ((k : Int) < (s.size : Int)) = true := decide_eq_true (by omega)
      have hd3 : decide (k < s.size) = true := decide_eq_true hlt
      have i1 : (0 : Int) ≤ (k : Int) := by omega
      have i2 : (k : Int) < (s.size : Int) := by omega
      have hgk := gd_eq hlt
      by_cases hp : gd s k = 46
      · have e1 : ((gd s k : Int) != 46) = false := by rw [hp]; rfl
        have e2 : ((gd s k : Int) == 46) = true := by rw [hp]; rfl
        obtain ⟨hf, hA, hBB⟩ := cut_point hlt hno.out hp
        rw [hf] at hv hk
        replace hv : rv = VV (readV (cA s)) (readV (cB s)) := hv
        replace hk : ok = (decide (readE (cA s) = 0) && decide (readE (cB s) = 0) && rightB (readV (cA s)) (readV (cB s))) := hk.trans (by simp)
        have hRa := fun W => rread_any (cA s) W (by have := cA_size s; omega)
        have hRb := fun W => rread_any (cB s) W (by have := cB_size s; omega)
        have hRi := Lib.hid (fun W => rright_any (readV (cA s)) (readV (cB s)) W)
        have hRa : ∀ W, Calls Tryd.prog 29 #[.string (s.extract 0 k)] W fun e w' => e = .returned (.tuple #[.int .i64 (readV (cA s)), .int .i64 (readE (cA s))]) ∧ W = w' := by rw [← hA]; exact hRa
        have hRb : ∀ W, Calls Tryd.prog 29 #[.string (s.extract (k + 1) s.size)] W fun e w' => e = .returned (.tuple #[.int .i64 (readV (cB s)), .int .i64 (readE (cB s))]) ∧ W = w' := by rw [← hBB]; exact hRb
        clear hA hBB hf hp
        generalize readV (cA s) = nA at *
        generalize readV (cB s) = nB at *
        generalize readE (cA s) = eA at *
        generalize readE (cB s) = eB at *
        replace hRa := Lib.hid hRa
        replace hRb := Lib.hid hRb
        replace hv := Lib.hid hv
        have iw : IntKind.i64.wrap ((k : Int) + 1) = (k : Int) + 1 := by rw [IntWalk.i64_in _ (by omega)]
        have i3 : (0 : Int) ≤ (k : Int) + 1 := by omega
        have i4 : (k : Int) + 1 ≤ (s.size : Int) := by omega
        have i5 : (k : Int) ≤ (s.size : Int) := by omega
        have hR6 := hZ.out.below (alb wr (.cells #[.int .i64 nA, .int .i64 nB] 23))
        have hb6 := bt hB.out (alb wr (.cells #[.int .i64 nA, .int .i64 nB] 23))
        have hX6 := V2.new wr nA nB
        have hlt6 := Lib.hid hZ.out.lt
        replace hR6 := Lib.hid hR6
        replace hb6 := Lib.hid hb6
        replace hX6 := Lib.hid hX6
        by_cases k1 : eA = 0
        · subst k1
          by_cases k2 : eB = 0
          · subst k2
            replace hk : ok = rightB nA nB := hk.trans (by simp)
            subst hk
            generalize rightB nA nB = ok at *
            go_wp2_with (first | (go_at_call 29; (with_reducible refine (hRa.out _).mono ?_); rintro e2 w2 ⟨rfl, rfl⟩) | (go_at_call 29; (with_reducible refine (hRb.out _).mono ?_); rintro e3 w3 ⟨rfl, rfl⟩))
            generalize wr.alloc (.cells #[.int .i64 nA, .int .i64 nB] 23) = W6 at *
            have q0 := hR6.out.c0
            have q1 := hR6.out.c1
            have f0 := hR6.out.free 0
            have f1 := hR6.out.free 1
            have hR2 := Lib.hid (hR6.out.below (bdrw _))
            have hX2 := Lib.hid (hX6.out.below (bdrw _))
            have hb2 := Lib.hid (bt hb6.out (bdrw _))
            have hM0 := And.intro hX2.out.c0 hX2.out.c1
            have hM3 := Lib.hid (And.intro (hX2.out.other (Nat.ne_of_gt hlt6.out) nA nB).c0 (hX2.out.other (Nat.ne_of_gt hlt6.out) nA nB).c1)
            refine wp_region_drewS (S := (fun w' : World => w'.cell? ⟨wr.heap.size, 0, none⟩ = some (.int .i64 nA) ∧ w'.cell? ⟨wr.heap.size, 1, none⟩ = some (.int .i64 nB))) 12 (by kernel_rfl) (by kernel_rfl) ?_ (fun hLst hHeld => ?_)
            · first | exact hM0 | exact hM3.out | exact hM5 | exact hM6.out
            first | (refine tws (i := 0) (v := ?_) hLst ?_ hHeld ?_; rotate_left; focus (intro w hSw; (try dsimp only at hSw); go_simp; (try with_reducible rfl); done)) | refine tns (i := 0) hLst hHeld ?_
            try simp only [Act.put, List.setIfInBounds_toArray, List.set_cons_zero, List.set_cons_succ]
            first | (refine tws (i := 1) (v := ?_) hLst ?_ hHeld ?_; rotate_left; focus (intro w hSw; (try dsimp only at hSw); go_simp; (try with_reducible rfl); done)) | refine tns (i := 1) hLst hHeld ?_
            try simp only [Act.put, List.setIfInBounds_toArray, List.set_cons_zero, List.set_cons_succ]
            first | (refine tws (i := 2) (v := ?_) hLst ?_ hHeld ?_; rotate_left; focus (intro w hSw; (try dsimp only at hSw); go_simp; (try with_reducible rfl); done)) | refine tns (i := 2) hLst hHeld ?_
            try simp only [Act.put, List.setIfInBounds_toArray, List.set_cons_zero, List.set_cons_succ]
            first | (refine tws (i := 3) (v := ?_) hLst ?_ hHeld ?_; rotate_left; focus (intro w hSw; (try dsimp only at hSw); go_simp; (try with_reducible rfl); done)) | refine tns (i := 3) hLst hHeld ?_
            try simp only [Act.put, List.setIfInBounds_toArray, List.set_cons_zero, List.set_cons_succ]
            first | (refine tws (i := 4) (v := ?_) hLst ?_ hHeld ?_; rotate_left; focus (intro w hSw; (try dsimp only at hSw); go_simp; (try with_reducible rfl); done)) | refine tns (i := 4) hLst hHeld ?_
            try simp only [Act.put, List.setIfInBounds_toArray, List.set_cons_zero, List.set_cons_succ]
            first | (refine tws (i := 5) (v := ?_) hLst ?_ hHeld ?_; rotate_left; focus (intro w hSw; (try dsimp only at hSw); go_simp; (try with_reducible rfl); done)) | refine tns (i := 5) hLst hHeld ?_
            try simp only [Act.put, List.setIfInBounds_toArray, List.set_cons_zero, List.set_cons_succ]
            first | (refine tws (i := 6) (v := ?_) hLst ?_ hHeld ?_; rotate_left; focus (intro w hSw; (try dsimp only at hSw); go_simp; (try with_reducible rfl); done)) | refine tns (i := 6) hLst hHeld ?_
            try simp only [Act.put, List.setIfInBounds_toArray, List.set_cons_zero, List.set_cons_succ]
            first | (refine tws (i := 7) (v := ?_) hLst ?_ hHeld ?_; rotate_left; focus (intro w hSw; (try dsimp only at hSw); go_simp; (try with_reducible rfl); done)) | refine tns (i := 7) hLst hHeld ?_
            try simp only [Act.put, List.setIfInBounds_toArray, List.set_cons_zero, List.set_cons_succ]
            first | (refine tws (i := 8) (v := ?_) hLst ?_ hHeld ?_; rotate_left; focus (intro w hSw; (try dsimp only at hSw); go_simp; (try with_reducible rfl); done)) | refine tns (i := 8) hLst hHeld ?_
            try simp only [Act.put, List.setIfInBounds_toArray, List.set_cons_zero, List.set_cons_succ]
            refine call_nexts (i := 9) (by kernel_rfl) (by rfl) ?_
            intro o ho K hK
            simp only [List.getElem?_toArray, List.getElem?_cons_succ, List.getElem?_cons_zero, Option.some.injEq] at ho
            subst ho
            first | (fail; refine hK.out _ _ ?_ (fun hHeld => ?_)) | (go_simp; first | (with_reducible refine hK.out _ _ ?_ (fun hHeld => ?_)) | ((go_at_call 11; (with_reducible refine (hRi.out _).mono ?_); rintro e5 w5 ⟨rfl, hA⟩; have hR5 := hR2.out.below hA; have hX5 := hX2.out.below hA; have hM5 := And.intro hX5.c0 hX5.c1; have p0 := hR5.c0; have p1 := hR5.c1; have g0 := hR5.free 0; have g1 := hR5.free 1; have hb5 := bt hb2.out hA; have hM6 := Lib.hid (And.intro (hX5.other (Nat.ne_of_gt hlt6.out) nA nB).c0 (hX5.other (Nat.ne_of_gt hlt6.out) nA nB).c1); replace hR5 := Lib.hid hR5; replace hb5 := Lib.hid hb5; clear hA); refine hK.out _ _ ?_ (fun hHeld => ?_)))
            · first | exact hM0 | exact hM3.out | exact hM5 | exact hM6.out
            clear hK K
            try simp only [Act.put, List.setIfInBounds_toArray, List.set_cons_zero, List.set_cons_succ]
            first | (refine tws (i := 10) (v := ?_) hLst ?_ hHeld ?_; rotate_left; focus (intro w hSw; (try dsimp only at hSw); go_simp; (try with_reducible rfl); done)) | refine tns (i := 10) hLst hHeld ?_
            try simp only [Act.put, List.setIfInBounds_toArray, List.set_cons_zero, List.set_cons_succ]
            refine call_nexts (i := 11) (by kernel_rfl) (by rfl) ?_
            intro o ho K hK
            simp only [List.getElem?_toArray, List.getElem?_cons_succ, List.getElem?_cons_zero, Option.some.injEq] at ho
            subst ho
            first | (fail; refine hK.out _ _ ?_ (fun hHeld => ?_)) | (go_simp; first | (with_reducible refine hK.out _ _ ?_ (fun hHeld => ?_)) | ((go_at_call 11; (with_reducible refine (hRi.out _).mono ?_); rintro e5 w5 ⟨rfl, hA⟩; have hR5 := hR2.out.below hA; have hX5 := hX2.out.below hA; have hM5 := And.intro hX5.c0 hX5.c1; have p0 := hR5.c0; have p1 := hR5.c1; have g0 := hR5.free 0; have g1 := hR5.free 1; have hb5 := bt hb2.out hA; have hM6 := Lib.hid (And.intro (hX5.other (Nat.ne_of_gt hlt6.out) nA nB).c0 (hX5.other (Nat.ne_of_gt hlt6.out) nA nB).c1); replace hR5 := Lib.hid hR5; replace hb5 := Lib.hid hb5; clear hA); refine hK.out _ _ ?_ (fun hHeld => ?_)))
            · first | exact hM0 | exact hM3.out | exact hM5 | exact hM6.out
            clear hK K
            try simp only [Act.put, List.setIfInBounds_toArray, List.set_cons_zero, List.set_cons_succ]
            refine call_last (by kernel_rfl) (by kernel_rfl) (by rfl) ?_
            intro o ho K hK
            simp only [List.getElem?_toArray, List.getElem?_cons_succ, List.getElem?_cons_zero, Option.some.injEq] at ho
            subst ho
            first | (fail; refine hK.out _ _ ?_) | (go_simp; first | (with_reducible refine hK.out _ _ ?_) | ((go_at_call 11; (with_reducible refine (hRi.out _).mono ?_); rintro e5 w5 ⟨rfl, hA⟩; have hR5 := hR2.out.below hA; have hX5 := hX2.out.below hA; have hM5 := And.intro hX5.c0 hX5.c1; have p0 := hR5.c0; have p1 := hR5.c1; have g0 := hR5.free 0; have g1 := hR5.free 1; have hb5 := bt hb2.out hA; have hM6 := Lib.hid (And.intro (hX5.other (Nat.ne_of_gt hlt6.out) nA nB).c0 (hX5.other (Nat.ne_of_gt hlt6.out) nA nB).c1); replace hR5 := Lib.hid hR5; replace hb5 := Lib.hid hb5; clear hA); refine hK.out _ _ ?_))
            clear hK K
            try simp only [Act.put, List.setIfInBounds_toArray, List.set_cons_zero, List.set_cons_succ]
            have hRF := hR5.out.put nA nB
            have hbF := (hb5.out.setCell (p := ⟨w.heap.size, 0, none⟩) (Nat.le_refl _) (.int .i64 nA)).setCell (p := ⟨w.heap.size, 1, none⟩) (Nat.le_refl _) (.int .i64 nB)
            have r0 := hRF.c0
            have r1 := hRF.c1
            clear hRF
            replace hbF := Lib.hid hbF
            clear hM3 hR2 hb2 q0 q1 f0 f1 hM0 hR5 hM6 p0 p1 hM5 g0 g1 hb5
            generalize ((w5.setCell ⟨w.heap.size, 0, none⟩ (.int .i64 nA)).setCell ⟨w.heap.size, 1, none⟩ (.int .i64 nB)) = WF at *
            go_wp2
            refine bodyPost_ret (v := .tuple #[.agg #[.int .i64 nA, .int .i64 nB], .bool ok]) (by simp [results, Tryd.results30, go_sem, r0, r1]) rfl ?_
            exact hE.out _ _ _ hv.out.symm rfl hbF.out
          · have n1 : (eB == 0) = false := by simpa using k2
            replace hk : ok = false := hk.trans (by simp [k2])
            subst hk
            clear k2 hRi
            go_wp2_with (first | (go_at_call 29; (with_reducible refine (hRa.out _).mono ?_); rintro e2 w2 ⟨rfl, rfl⟩) | (go_at_call 29; (with_reducible refine (hRb.out _).mono ?_); rintro e3 w3 ⟨rfl, rfl⟩))
            generalize wr.alloc (.cells #[.int .i64 nA, .int .i64 nB] 23) = W6 at *
            have q0 := hR6.out.c0
            have q1 := hR6.out.c1
            have f0 := hR6.out.free 0
            have f1 := hR6.out.free 1
            have hR2 := Lib.hid (hR6.out.below (bdrw _))
            have hX2 := Lib.hid (hX6.out.below (bdrw _))
            have hb2 := Lib.hid (bt hb6.out (bdrw _))
            have hM0 := And.intro hX2.out.c0 hX2.out.c1
            have hM3 := Lib.hid (And.intro (hX2.out.other (Nat.ne_of_gt hlt6.out) nA nB).c0 (hX2.out.other (Nat.ne_of_gt hlt6.out) nA nB).c1)
            refine wp_region_drewS (S := (fun w' : World => w'.cell? ⟨wr.heap.size, 0, none⟩ = some (.int .i64 nA) ∧ w'.cell? ⟨wr.heap.size, 1, none⟩ = some (.int .i64 nB))) 12 (by kernel_rfl) (by kernel_rfl) ?_ (fun hLst hHeld => ?_)
            · first | exact hM0 | exact hM3.out | exact hM5 | exact hM6.out
            first | (refine tws (i := 0) (v := ?_) hLst ?_ hHeld ?_; rotate_left; focus (intro w hSw; (try dsimp only at hSw); go_simp; (try with_reducible rfl); done)) | refine tns (i := 0) hLst hHeld ?_
            try simp only [Act.put, List.setIfInBounds_toArray, List.set_cons_zero, List.set_cons_succ]
            first | (refine tws (i := 1) (v := ?_) hLst ?_ hHeld ?_; rotate_left; focus (intro w hSw; (try dsimp only at hSw); go_simp; (try with_reducible rfl); done)) | refine tns (i := 1) hLst hHeld ?_
            try simp only [Act.put, List.setIfInBounds_toArray, List.set_cons_zero, List.set_cons_succ]
            first | (refine tws (i := 2) (v := ?_) hLst ?_ hHeld ?_; rotate_left; focus (intro w hSw; (try dsimp only at hSw); go_simp; (try with_reducible rfl); done)) | refine tns (i := 2) hLst hHeld ?_
            try simp only [Act.put, List.setIfInBounds_toArray, List.set_cons_zero, List.set_cons_succ]
            first | (refine tws (i := 3) (v := ?_) hLst ?_ hHeld ?_; rotate_left; focus (intro w hSw; (try dsimp only at hSw); go_simp; (try with_reducible rfl); done)) | refine tns (i := 3) hLst hHeld ?_
            try simp only [Act.put, List.setIfInBounds_toArray, List.set_cons_zero, List.set_cons_succ]
            first | (refine tws (i := 4) (v := ?_) hLst ?_ hHeld ?_; rotate_left; focus (intro w hSw; (try dsimp only at hSw); go_simp; (try with_reducible rfl); done)) | refine tns (i := 4) hLst hHeld ?_
            try simp only [Act.put, List.setIfInBounds_toArray, List.set_cons_zero, List.set_cons_succ]
            first | (refine tws (i := 5) (v := ?_) hLst ?_ hHeld ?_; rotate_left; focus (intro w hSw; (try dsimp only at hSw); go_simp; (try with_reducible rfl); done)) | refine tns (i := 5) hLst hHeld ?_
            try simp only [Act.put, List.setIfInBounds_toArray, List.set_cons_zero, List.set_cons_succ]
            first | (refine tws (i := 6) (v := ?_) hLst ?_ hHeld ?_; rotate_left; focus (intro w hSw; (try dsimp only at hSw); go_simp; (try with_reducible rfl); done)) | refine tns (i := 6) hLst hHeld ?_
            try simp only [Act.put, List.setIfInBounds_toArray, List.set_cons_zero, List.set_cons_succ]
            first | (refine tws (i := 7) (v := ?_) hLst ?_ hHeld ?_; rotate_left; focus (intro w hSw; (try dsimp only at hSw); go_simp; (try with_reducible rfl); done)) | refine tns (i := 7) hLst hHeld ?_
            try simp only [Act.put, List.setIfInBounds_toArray, List.set_cons_zero, List.set_cons_succ]
            first | (refine tws (i := 8) (v := ?_) hLst ?_ hHeld ?_; rotate_left; focus (intro w hSw; (try dsimp only at hSw); go_simp; (try with_reducible rfl); done)) | refine tns (i := 8) hLst hHeld ?_
            try simp only [Act.put, List.setIfInBounds_toArray, List.set_cons_zero, List.set_cons_succ]
            refine call_nexts (i := 9) (by kernel_rfl) (by rfl) ?_
            intro o ho K hK
            simp only [List.getElem?_toArray, List.getElem?_cons_succ, List.getElem?_cons_zero, Option.some.injEq] at ho
            subst ho
            first | (fail; refine hK.out _ _ ?_ (fun hHeld => ?_)) | (go_simp; first | (with_reducible refine hK.out _ _ ?_ (fun hHeld => ?_)) | (fail; refine hK.out _ _ ?_ (fun hHeld => ?_)))
            · first | exact hM0 | exact hM3.out | exact hM5 | exact hM6.out
            clear hK K
            try simp only [Act.put, List.setIfInBounds_toArray, List.set_cons_zero, List.set_cons_succ]
            first | (refine tws (i := 10) (v := ?_) hLst ?_ hHeld ?_; rotate_left; focus (intro w hSw; (try dsimp only at hSw); go_simp; (try with_reducible rfl); done)) | refine tns (i := 10) hLst hHeld ?_
            try simp only [Act.put, List.setIfInBounds_toArray, List.set_cons_zero, List.set_cons_succ]
            refine call_nexts (i := 11) (by kernel_rfl) (by rfl) ?_
            intro o ho K hK
            simp only [List.getElem?_toArray, List.getElem?_cons_succ, List.getElem?_cons_zero, Option.some.injEq] at ho
            subst ho
            first | (fail; refine hK.out _ _ ?_ (fun hHeld => ?_)) | (go_simp; first | (with_reducible refine hK.out _ _ ?_ (fun hHeld => ?_)) | (fail; refine hK.out _ _ ?_ (fun hHeld => ?_)))
            · first | exact hM0 | exact hM3.out | exact hM5 | exact hM6.out
            clear hK K
            try simp only [Act.put, List.setIfInBounds_toArray, List.set_cons_zero, List.set_cons_succ]
            refine call_last (by kernel_rfl) (by kernel_rfl) (by rfl) ?_
            intro o ho K hK
            simp only [List.getElem?_toArray, List.getElem?_cons_succ, List.getElem?_cons_zero, Option.some.injEq] at ho
            subst ho
            first | (fail; refine hK.out _ _ ?_) | (go_simp; first | (with_reducible refine hK.out _ _ ?_) | (fail; refine hK.out _ _ ?_))
            clear hK K
            try simp only [Act.put, List.setIfInBounds_toArray, List.set_cons_zero, List.set_cons_succ]
            have hRF := V2.below (hR6.out.put nA nB) (bdrw _)
            have hbF := bt ((hb6.out.setCell (p := ⟨w.heap.size, 0, none⟩) (Nat.le_refl _) (.int .i64 nA)).setCell (p := ⟨w.heap.size, 1, none⟩) (Nat.le_refl _) (.int .i64 nB)) (bdrw _)
            have r0 := hRF.c0
            have r1 := hRF.c1
            clear hRF
            replace hbF := Lib.hid hbF
            clear hM3 hR2 hb2 q0 q1 f0 f1 hM0
            generalize ((W6.setCell ⟨w.heap.size, 0, none⟩ (.int .i64 nA)).setCell ⟨w.heap.size, 1, none⟩ (.int .i64 nB)).drew = WF at *
            go_wp2
            refine bodyPost_ret (v := .tuple #[.agg #[.int .i64 nA, .int .i64 nB], .bool false]) (by simp [results, Tryd.results30, go_sem, r0, r1]) rfl ?_
            exact hE.out _ _ _ hv.out.symm rfl hbF.out
        · have n1 : (eA == 0) = false := by simpa using k1
          replace hk : ok = false := hk.trans (by simp [k1])
          subst hk
          clear k1 hRi
          go_wp2_with (first | (go_at_call 29; (with_reducible refine (hRa.out _).mono ?_); rintro e2 w2 ⟨rfl, rfl⟩) | (go_at_call 29; (with_reducible refine (hRb.out _).mono ?_); rintro e3 w3 ⟨rfl, rfl⟩))
          generalize wr.alloc (.cells #[.int .i64 nA, .int .i64 nB] 23) = W6 at *
          have q0 := hR6.out.c0
          have q1 := hR6.out.c1
          have f0 := hR6.out.free 0
          have f1 := hR6.out.free 1
          have hR2 := Lib.hid (hR6.out.below (bdrw _))
          have hX2 := Lib.hid (hX6.out.below (bdrw _))
          have hb2 := Lib.hid (bt hb6.out (bdrw _))
          have hM0 := And.intro hX2.out.c0 hX2.out.c1
          have hM3 := Lib.hid (And.intro (hX2.out.other (Nat.ne_of_gt hlt6.out) nA nB).c0 (hX2.out.other (Nat.ne_of_gt hlt6.out) nA nB).c1)
          refine wp_region_drewS (S := (fun w' : World => w'.cell? ⟨wr.heap.size, 0, none⟩ = some (.int .i64 nA) ∧ w'.cell? ⟨wr.heap.size, 1, none⟩ = some (.int .i64 nB))) 12 (by kernel_rfl) (by kernel_rfl) ?_ (fun hLst hHeld => ?_)
          · first | exact hM0 | exact hM3.out | exact hM5 | exact hM6.out
          first | (refine tws (i := 0) (v := ?_) hLst ?_ hHeld ?_; rotate_left; focus (intro w hSw; (try dsimp only at hSw); go_simp; (try with_reducible rfl); done)) | refine tns (i := 0) hLst hHeld ?_
          try simp only [Act.put, List.setIfInBounds_toArray, List.set_cons_zero, List.set_cons_succ]
          first | (refine tws (i := 1) (v := ?_) hLst ?_ hHeld ?_; rotate_left; focus (intro w hSw; (try dsimp only at hSw); go_simp; (try with_reducible rfl); done)) | refine tns (i := 1) hLst hHeld ?_
          try simp only [Act.put, List.setIfInBounds_toArray, List.set_cons_zero, List.set_cons_succ]
          first | (refine tws (i := 2) (v := ?_) hLst ?_ hHeld ?_; rotate_left; focus (intro w hSw; (try dsimp only at hSw); go_simp; (try with_reducible rfl); done)) | refine tns (i := 2) hLst hHeld ?_
          try simp only [Act.put, List.setIfInBounds_toArray, List.set_cons_zero, List.set_cons_succ]
          first | (refine tws (i := 3) (v := ?_) hLst ?_ hHeld ?_; rotate_left; focus (intro w hSw; (try dsimp only at hSw); go_simp; (try with_reducible rfl); done)) | refine tns (i := 3) hLst hHeld ?_
          try simp only [Act.put, List.setIfInBounds_toArray, List.set_cons_zero, List.set_cons_succ]
          first | (refine tws (i := 4) (v := ?_) hLst ?_ hHeld ?_; rotate_left; focus (intro w hSw; (try dsimp only at hSw); go_simp; (try with_reducible rfl); done)) | refine tns (i := 4) hLst hHeld ?_
          try simp only [Act.put, List.setIfInBounds_toArray, List.set_cons_zero, List.set_cons_succ]
          first | (refine tws (i := 5) (v := ?_) hLst ?_ hHeld ?_; rotate_left; focus (intro w hSw; (try dsimp only at hSw); go_simp; (try with_reducible rfl); done)) | refine tns (i := 5) hLst hHeld ?_
          try simp only [Act.put, List.setIfInBounds_toArray, List.set_cons_zero, List.set_cons_succ]
          first | (refine tws (i := 6) (v := ?_) hLst ?_ hHeld ?_; rotate_left; focus (intro w hSw; (try dsimp only at hSw); go_simp; (try with_reducible rfl); done)) | refine tns (i := 6) hLst hHeld ?_
          try simp only [Act.put, List.setIfInBounds_toArray, List.set_cons_zero, List.set_cons_succ]
          first | (refine tws (i := 7) (v := ?_) hLst ?_ hHeld ?_; rotate_left; focus (intro w hSw; (try dsimp only at hSw); go_simp; (try with_reducible rfl); done)) | refine tns (i := 7) hLst hHeld ?_
          try simp only [Act.put, List.setIfInBounds_toArray, List.set_cons_zero, List.set_cons_succ]
          first | (refine tws (i := 8) (v := ?_) hLst ?_ hHeld ?_; rotate_left; focus (intro w hSw; (try dsimp only at hSw); go_simp; (try with_reducible rfl); done)) | refine tns (i := 8) hLst hHeld ?_
          try simp only [Act.put, List.setIfInBounds_toArray, List.set_cons_zero, List.set_cons_succ]
          refine call_nexts (i := 9) (by kernel_rfl) (by rfl) ?_
          intro o ho K hK
          simp only [List.getElem?_toArray, List.getElem?_cons_succ, List.getElem?_cons_zero, Option.some.injEq] at ho
          subst ho
          first | (fail; refine hK.out _ _ ?_ (fun hHeld => ?_)) | (go_simp; first | (with_reducible refine hK.out _ _ ?_ (fun hHeld => ?_)) | (fail; refine hK.out _ _ ?_ (fun hHeld => ?_)))
          · first | exact hM0 | exact hM3.out | exact hM5 | exact hM6.out
          clear hK K
          try simp only [Act.put, List.setIfInBounds_toArray, List.set_cons_zero, List.set_cons_succ]
          first | (refine tws (i := 10) (v := ?_) hLst ?_ hHeld ?_; rotate_left; focus (intro w hSw; (try dsimp only at hSw); go_simp; (try with_reducible rfl); done)) | refine tns (i := 10) hLst hHeld ?_
          try simp only [Act.put, List.setIfInBounds_toArray, List.set_cons_zero, List.set_cons_succ]
          refine call_nexts (i := 11) (by kernel_rfl) (by rfl) ?_
          intro o ho K hK
          simp only [List.getElem?_toArray, List.getElem?_cons_succ, List.getElem?_cons_zero, Option.some.injEq] at ho
          subst ho
          first | (fail; refine hK.out _ _ ?_ (fun hHeld => ?_)) | (go_simp; first | (with_reducible refine hK.out _ _ ?_ (fun hHeld => ?_)) | (fail; refine hK.out _ _ ?_ (fun hHeld => ?_)))
          · first | exact hM0 | exact hM3.out | exact hM5 | exact hM6.out
          clear hK K
          try simp only [Act.put, List.setIfInBounds_toArray, List.set_cons_zero, List.set_cons_succ]
          refine call_last (by kernel_rfl) (by kernel_rfl) (by rfl) ?_
          intro o ho K hK
          simp only [List.getElem?_toArray, List.getElem?_cons_succ, List.getElem?_cons_zero, Option.some.injEq] at ho
          subst ho
          first | (fail; refine hK.out _ _ ?_) | (go_simp; first | (with_reducible refine hK.out _ _ ?_) | (fail; refine hK.out _ _ ?_))
          clear hK K
          try simp only [Act.put, List.setIfInBounds_toArray, List.set_cons_zero, List.set_cons_succ]
          have hRF := V2.below (hR6.out.put nA nB) (bdrw _)
          have hbF := bt ((hb6.out.setCell (p := ⟨w.heap.size, 0, none⟩) (Nat.le_refl _) (.int .i64 nA)).setCell (p := ⟨w.heap.size, 1, none⟩) (Nat.le_refl _) (.int .i64 nB)) (bdrw _)
          have r0 := hRF.c0
          have r1 := hRF.c1
          clear hRF
          replace hbF := Lib.hid hbF
          clear hM3 hR2 hb2 q0 q1 f0 f1 hM0
          generalize ((W6.setCell ⟨w.heap.size, 0, none⟩ (.int .i64 nA)).setCell ⟨w.heap.size, 1, none⟩ (.int .i64 nB)).drew = WF at *
          go_wp2
          refine bodyPost_ret (v := .tuple #[.agg #[.int .i64 nA, .int .i64 nB], .bool false]) (by simp [results, Tryd.results30, go_sem, r0, r1]) rfl ?_
          exact hE.out _ _ _ hv.out.symm rfl hbF.out
      · have e1 : ((gd s k : Int) != 46) = true := by simp [bne]; omega
        have e2 : ((gd s k : Int) == 46) = false := by rw [beq_eq_false_iff_ne]; omega
        have hno2 : Hid (∀ j, j < k + 1 → gd s j ≠ 46) := by
          intro j hj
          by_cases hjk : j = k
          · subst hjk; exact hp
          · exact hno.out j (by omega)
        clear hp hv hk
        go_wp2
        exact ⟨⟨k + 1, by omega, by go_num, hno2, hZ, hB⟩, by simp [intOf]; omega⟩
    · have hd2 : decide ((k : Int) < (s.size : Int)) = false := decide_eq_false (by omega)
      have hd3 : decide (k < s.size) = false := decide_eq_false hlt
      have hf := cut_none fun j hj => hno.out j (by omega)
      rw [hf] at hv hk
      replace hv : rv = VV 0 0 := hv
      replace hk : ok = false := hk.trans (by simp)
      replace hv := Lib.hid hv
      replace hk := Lib.hid hk
      have q0 := hZ.out.c0
      have q1 := hZ.out.c1
      have f0 := hZ.out.free 0
      have f1 := hZ.out.free 1
      have hRF := hZ.out.put 0 0
      have hbF := (hB.out.setCell (p := ⟨w.heap.size, 0, none⟩) (Nat.le_refl _) (.int .i64 0)).setCell (p := ⟨w.heap.size, 1, none⟩) (Nat.le_refl _) (.int .i64 0)
      replace hRF := Lib.hid hRF
      replace hbF := Lib.hid hbF
      go_wp2
      clear q0 q1
      generalize ((wr.setCell ⟨w.heap.size, 0, none⟩ (.int .i64 0)).setCell ⟨w.heap.size, 1, none⟩ (.int .i64 0)) = WF at *
      have r0 := hRF.out.c0
      have r1 := hRF.out.c1
      refine bodyPost_ret (v := .tuple #[.agg #[.int .i64 0, .int .i64 0], .bool false]) (by simp [results, Tryd.results30, go_sem, r0, r1]) rfl ?_
      exact hE.out _ _ _ hv.out.symm hk.out.symm hbF.out
end Go.Proofs.YtaddbljdheafaaaDoor
