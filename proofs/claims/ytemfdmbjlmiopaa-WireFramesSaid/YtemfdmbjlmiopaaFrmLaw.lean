/-
  The statement WireFrames (chapter 25).
-/
import Derived.Test.YtemfdmbjlmiopaaFrmWork
namespace Go.Proofs.Ytemfdmbjlmiopaa
open Go.RowKit
set_option linter.unusedVariables false
set_option linter.unusedSimpArgs false
theorem feq_same (n fb ft tb tt s a : Int) (b : ByteArray) (W : World) : (binOp .eql 45 (FV n fb ft tb tt s a b) (FV n fb ft tb tt s a b)).run Try.prog W = .ok (.bool true) W := by
  simp [go_sem]
theorem fne_same (n fb ft tb tt s a : Int) (b : ByteArray) (W : World) : (binOp .neq 45 (FV n fb ft tb tt s a b) (FV n fb ft tb tt s a b)).run Try.prog W = .ok (.bool false) W := by
  simp [go_sem]
theorem fget_bsize (s : ByteArray) (hs : s.size ≤ 100000) : (fget s).b.size ≤ 100000 := by
  unfold fget
  split
  · have h1 := getB_le s hs
    show ((getB s).extract 29 (getB s).size).size ≤ 100000
    rw [ByteArray.size_extract]
    omega
  · exact Nat.zero_le _
def F3 (w : World) (g : Nat) (f : Fr) (K : Nat) (x : Fr) (L : Nat) (y : Fr) : Prop := FC w g f ∧ FC w K x ∧ FC w L y
theorem F3.below {W W' : World} {g K L : Nat} {f x y : Fr} (h : F3 W g f K x L y) (hb : Below W.heap.size W W') : F3 W' g f K x L y := ⟨h.1.below hb, h.2.1.below hb, h.2.2.below hb⟩
set_option maxRecDepth 100000 in
set_option maxHeartbeats 12800000 in
theorem walk_WireFrames (n fb ft tb tt s a : Int) (b : ByteArray) (hn : (Lit.int .i64 n).wf = true) (hfb : (Lit.int .i64 fb).wf = true) (hft : (Lit.int .i64 ft).wf = true) (htb : (Lit.int .i64 tb).wf = true) (htt : (Lit.int .i64 tt).wf = true) (hs : (Lit.int .i64 s).wf = true) (ha : (Lit.int .i64 a).wf = true) (hb : b.size ≤ maxLen) (t : ByteArray) (ht : t.size ≤ 140737488351232) {w : World} :
    Calls Try.prog 6 #[FV n fb ft tb tt s a b, .string t] w fun e' w' => e' = .returned (.bool true) ∧ Below w.heap.size w w' := by
  clear hn hfb hft htb htt hs ha hb ht
  cases hb1 : decide (2000 < (b.size : Int))
  case true =>
    have HC := Lib.hid (FC.new w ⟨n, fb, ft, tb, tt, s, a, b⟩ 45)
    have HB : Below w.heap.size w (w.alloc (.cells #[.int .i64 n, .int .i64 fb, .int .i64 ft, .int .i64 tb, .int .i64 tt, .int .i64 s, .int .i64 a, .string b] 45)) := (Below.refl _ _).alloc (Nat.le_refl _) _
    obtain ⟨c0, c1, c2, c3, c4, c5, c6, c7⟩ := id HC.out
    go_enter Try.func6, Try.ntmps6
    go_wp2_with fail
    generalize w.alloc (.cells #[.int .i64 n, .int .i64 fb, .int .i64 ft, .int .i64 tb, .int .i64 tt, .int .i64 s, .int .i64 a, .string b] 45) = W2 at *
    clear c0 c1 c2 c3 c4 c5 c6 c7
    refine (works_any _).mono ?_
    rintro e' W3 ⟨rfl, hA⟩
    replace HC := Lib.hid (HC.out.below hA)
    replace HB := bt HB hA
    clear hA
    obtain ⟨c0, c1, c2, c3, c4, c5, c6, c7⟩ := id HC.out
    go_wp2
    go_ret
    exact ⟨rfl, HB⟩
  cases ht1 : decide (3000 < (t.size : Int))
  case true =>
    have HC := Lib.hid (FC.new w ⟨n, fb, ft, tb, tt, s, a, b⟩ 45)
    have HB : Below w.heap.size w (w.alloc (.cells #[.int .i64 n, .int .i64 fb, .int .i64 ft, .int .i64 tb, .int .i64 tt, .int .i64 s, .int .i64 a, .string b] 45)) := (Below.refl _ _).alloc (Nat.le_refl _) _
    obtain ⟨c0, c1, c2, c3, c4, c5, c6, c7⟩ := id HC.out
    go_enter Try.func6, Try.ntmps6
    go_wp2_with fail
    generalize w.alloc (.cells #[.int .i64 n, .int .i64 fb, .int .i64 ft, .int .i64 tb, .int .i64 tt, .int .i64 s, .int .i64 a, .string b] 45) = W2 at *
    clear c0 c1 c2 c3 c4 c5 c6 c7
    refine (works_any _).mono ?_
    rintro e' W3 ⟨rfl, hA⟩
    replace HC := Lib.hid (HC.out.below hA)
    replace HB := bt HB hA
    clear hA
    obtain ⟨c0, c1, c2, c3, c4, c5, c6, c7⟩ := id HC.out
    go_wp2
    go_ret
    exact ⟨rfl, HB⟩
  have hbs : ¬ 2000 < (b.size : Int) := of_decide_eq_false hb1
  have hts : ¬ 3000 < (t.size : Int) := of_decide_eq_false ht1
  have HPG := fput_get ⟨n, fb, ft, tb, tt, s, a, b⟩
  have HGP := fget_put t
  have hXb := fget_bsize t (by omega)
  have CP := fun w => wputf_any (n := n) (fb := fb) (ft := ft) (tb := tb) (tt := tt) (s := s) (a := a) (b := b) w (by omega)
  have CRP := fun w => rputf_any (n := n) (fb := fb) (ft := ft) (tb := tb) (tt := tt) (s := s) (a := a) (b := b) w (by omega)
  have CG := fun w => getf_any t w (by omega)
  have CRG := fun w => rgetf_any t w (by omega)
  have hAz := fputS_size ⟨n, fb, ft, tb, tt, s, a, b⟩
  obtain ⟨A, hA⟩ : ∃ z, fputS ⟨n, fb, ft, tb, tt, s, a, b⟩ = z := ⟨_, rfl⟩
  obtain ⟨EA, hEA⟩ : ∃ z, fputE ⟨n, fb, ft, tb, tt, s, a, b⟩ = z := ⟨_, rfl⟩
  rw [hA] at hAz
  rw [hA, hEA] at HPG
  simp only [hA, hEA] at CP CRP
  clear hA hEA
  have CGA := fun w => getf_any A w (by omega)
  obtain ⟨X, hX⟩ : ∃ z, fget t = z := ⟨_, rfl⟩
  obtain ⟨G, hG⟩ : ∃ z, fgetE t = z := ⟨_, rfl⟩
  rw [hX] at hXb
  rw [hX, hG] at HGP
  simp only [hX, hG] at CG CRG
  clear hX hG
  obtain ⟨xn, xfb, xft, xtb, xtt, xs, xa, xb⟩ := X
  have CPX := fun w => wputf_any (n := xn) (fb := xfb) (ft := xft) (tb := xtb) (tt := xtt) (s := xs) (a := xa) (b := xb) w hXb
  obtain ⟨U, hU⟩ : ∃ z, fputS ⟨xn, xfb, xft, xtb, xtt, xs, xa, xb⟩ = z := ⟨_, rfl⟩
  obtain ⟨J, hJ⟩ : ∃ z, fputE ⟨xn, xfb, xft, xtb, xtt, xs, xa, xb⟩ = z := ⟨_, rfl⟩
  rw [hU, hJ] at HGP
  simp only [hU, hJ] at CPX
  clear hU hJ
  obtain ⟨Z, hZ⟩ : ∃ z, fget A = z := ⟨_, rfl⟩
  obtain ⟨I, hI⟩ : ∃ z, fgetE A = z := ⟨_, rfl⟩
  rw [hZ, hI] at HPG
  simp only [hZ, hI] at CGA
  clear hZ hI
  obtain ⟨zn, zfb, zft, ztb, ztt, zs, za, zb⟩ := Z
  have CN := fun w => newer_any fb ft tb tt w
  have CRN := fun w => rnewer_any fb ft tb tt w
  generalize newB fb ft tb tt = NB at *
  replace CP := Lib.hid CP
  replace CRP := Lib.hid CRP
  replace CG := Lib.hid CG
  replace CRG := Lib.hid CRG
  replace CGA := Lib.hid CGA
  replace CPX := Lib.hid CPX
  replace HPG := Lib.hid HPG
  replace HGP := Lib.hid HGP
  replace CN := Lib.hid CN
  replace CRN := Lib.hid CRN
  clear hbs hts hAz hXb
  have HC := Lib.hid (FC.new w ⟨n, fb, ft, tb, tt, s, a, b⟩ 45)
  have HB : Below w.heap.size w (w.alloc (.cells #[.int .i64 n, .int .i64 fb, .int .i64 ft, .int .i64 tb, .int .i64 tt, .int .i64 s, .int .i64 a, .string b] 45)) := (Below.refl _ _).alloc (Nat.le_refl _) _
  obtain ⟨c0, c1, c2, c3, c4, c5, c6, c7⟩ := id HC.out
  go_enter Try.func6, Try.ntmps6
  go_wp2_with fail
  generalize w.alloc (.cells #[.int .i64 n, .int .i64 fb, .int .i64 ft, .int .i64 tb, .int .i64 tt, .int .i64 s, .int .i64 a, .string b] 45) = W2 at *
  clear c0 c1 c2 c3 c4 c5 c6 c7
  refine (works_any _).mono ?_
  rintro e' W3 ⟨rfl, hA⟩
  replace HC := Lib.hid (HC.out.below hA)
  replace HB := bt HB hA
  clear hA
  obtain ⟨c0, c1, c2, c3, c4, c5, c6, c7⟩ := id HC.out
  go_wp2_with fail
  clear c0 c1 c2 c3 c4 c5 c6 c7
  refine (CP.out _).mono ?_
  rintro e' W5 ⟨rfl, hA⟩
  replace HC := Lib.hid (HC.out.below hA)
  replace HB := bt HB hA
  clear hA
  obtain ⟨c0, c1, c2, c3, c4, c5, c6, c7⟩ := id HC.out
  go_wp2_with fail
  clear c0 c1 c2 c3 c4 c5 c6 c7
  refine (CRP.out _).mono ?_
  rintro e' W6 ⟨rfl, hA⟩
  replace HC := Lib.hid (HC.out.below hA)
  replace HB := bt HB hA
  clear hA
  go_wp2_with fail
  obtain ⟨c0, c1, c2, c3, c4, c5, c6, c7⟩ := id HC.out
  clear c0 c1 c2 c3 c4 c5 c6 c7
  refine (CG.out _).mono ?_
  rintro e' W7 ⟨rfl, hA⟩
  replace HC := Lib.hid (HC.out.below hA)
  replace HB := bt HB hA
  clear hA
  have HX := Lib.hid (FC.new W7 ⟨xn, xfb, xft, xtb, xtt, xs, xa, xb⟩ 45)
  have hA := (Below.refl W7.heap.size W7).alloc (Nat.le_refl _) (.cells #[.int .i64 xn, .int .i64 xfb, .int .i64 xft, .int .i64 xtb, .int .i64 xtt, .int .i64 xs, .int .i64 xa, .string xb] 45)
  replace HC := Lib.hid (HC.out.below hA)
  replace HB := bt HB hA
  clear hA
  go_wp2_with fail
  generalize W7.alloc (.cells #[.int .i64 xn, .int .i64 xfb, .int .i64 xft, .int .i64 xtb, .int .i64 xtt, .int .i64 xs, .int .i64 xa, .string xb] 45) = W8 at *
  generalize W7.heap.size = KX at *
  obtain ⟨c0, c1, c2, c3, c4, c5, c6, c7⟩ := id HC.out
  clear c0 c1 c2 c3 c4 c5 c6 c7
  refine (CRG.out _).mono ?_
  rintro e' W9 ⟨rfl, hA⟩
  replace HC := Lib.hid (HC.out.below hA)
  replace HX := Lib.hid (HX.out.below hA)
  replace HB := bt HB hA
  clear hA
  have HY := Lib.hid (FC.new W9 ⟨xn, xfb, xft, xtb, xtt, xs, xa, xb⟩ 45)
  have hA := (Below.refl W9.heap.size W9).alloc (Nat.le_refl _) (.cells #[.int .i64 xn, .int .i64 xfb, .int .i64 xft, .int .i64 xtb, .int .i64 xtt, .int .i64 xs, .int .i64 xa, .string xb] 45)
  replace HC := Lib.hid (HC.out.below hA)
  replace HB := bt HB hA
  replace HX := Lib.hid (HX.out.below hA)
  clear hA
  go_wp2_with fail
  generalize W9.alloc (.cells #[.int .i64 xn, .int .i64 xfb, .int .i64 xft, .int .i64 xtb, .int .i64 xtt, .int .i64 xs, .int .i64 xa, .string xb] 45) = W10 at *
  generalize W9.heap.size = KY at *
  refine (CGA.out _).mono ?_
  rintro e' W11 ⟨rfl, hA⟩
  replace HC := Lib.hid (HC.out.below hA)
  replace HX := Lib.hid (HX.out.below hA)
  replace HY := Lib.hid (HY.out.below hA)
  replace HB := bt HB hA
  clear hA
  have HZ := Lib.hid (FC.new W11 ⟨zn, zfb, zft, ztb, ztt, zs, za, zb⟩ 45)
  have hA := (Below.refl W11.heap.size W11).alloc (Nat.le_refl _) (.cells #[.int .i64 zn, .int .i64 zfb, .int .i64 zft, .int .i64 ztb, .int .i64 ztt, .int .i64 zs, .int .i64 za, .string zb] 45)
  replace HC := Lib.hid (HC.out.below hA)
  replace HB := bt HB hA
  replace HX := Lib.hid (HX.out.below hA)
  replace HY := Lib.hid (HY.out.below hA)
  clear hA
  obtain ⟨c0, c1, c2, c3, c4, c5, c6, c7⟩ := id HX.out
  go_wp2_with fail
  clear c0 c1 c2 c3 c4 c5 c6 c7
  generalize W11.alloc (.cells #[.int .i64 zn, .int .i64 zfb, .int .i64 zft, .int .i64 ztb, .int .i64 ztt, .int .i64 zs, .int .i64 za, .string zb] 45) = W12 at *
  generalize W11.heap.size = KZ at *
  refine (CPX.out _).mono ?_
  rintro e' W13 ⟨rfl, hA⟩
  replace HC := Lib.hid (HC.out.below hA)
  replace HX := Lib.hid (HX.out.below hA)
  replace HY := Lib.hid (HY.out.below hA)
  replace HZ := Lib.hid (HZ.out.below hA)
  replace HB := bt HB hA
  clear hA CP CRP CG CRG CGA CPX
  go_wp2_with fail
  have nex := fun W => fne_same xn xfb xft xtb xtt xs xa xb W
  have bbA := bse A
  have bnA : (A.toList != A.toList) = false := by simp
  have bnE : (EA != EA) = false := by simp
  have bnG : (G != G) = false := by simp
  have bnN : (NB != NB) = false := by simp
  replace HB := Lib.hid HB.drew
  have HS : Hid ((fun w' : World => F3 w' w.heap.size ⟨n, fb, ft, tb, tt, s, a, b⟩ KX ⟨xn, xfb, xft, xtb, xtt, xs, xa, xb⟩ KY ⟨xn, xfb, xft, xtb, xtt, xs, xa, xb⟩) W13.drew) := ⟨HC.out, HX.out, HY.out⟩
  replace HZ : Hid (FC W13.drew KZ ⟨zn, zfb, zft, ztb, ztt, zs, za, zb⟩) := HZ.out
  clear HC HX HY
  refine wp_region_held_drew (S := (fun w' : World => F3 w' w.heap.size ⟨n, fb, ft, tb, tt, s, a, b⟩ KX ⟨xn, xfb, xft, xtb, xtt, xs, xa, xb⟩ KY ⟨xn, xfb, xft, xtb, xtt, xs, xa, xb⟩)) (by kernel_rfl) ?_ (fun hHeld => ?_)
  · first | with_reducible exact HS.out
  first | (refine tw (i := 0) (v := ?_) ?_ hHeld ?_; rotate_left; focus (intro w hSw; (try dsimp only at hSw); (try simp only [F3, FC] at hSw); go_simp; (try with_reducible rfl); done)) | refine tn (i := 0) hHeld ?_
  try simp only [Act.put, List.setIfInBounds_toArray, List.set_cons_zero, List.set_cons_succ]
  first | (refine tw (i := 1) (v := ?_) ?_ hHeld ?_; rotate_left; focus (intro w hSw; (try dsimp only at hSw); (try simp only [F3, FC] at hSw); go_simp; (try with_reducible rfl); done)) | refine tn (i := 1) hHeld ?_
  try simp only [Act.put, List.setIfInBounds_toArray, List.set_cons_zero, List.set_cons_succ]
  first | (refine tw (i := 2) (v := ?_) ?_ hHeld ?_; rotate_left; focus (intro w hSw; (try dsimp only at hSw); (try simp only [F3, FC] at hSw); go_simp; (try with_reducible rfl); done)) | refine tn (i := 2) hHeld ?_
  try simp only [Act.put, List.setIfInBounds_toArray, List.set_cons_zero, List.set_cons_succ]
  first | (refine tw (i := 3) (v := ?_) ?_ hHeld ?_; rotate_left; focus (intro w hSw; (try dsimp only at hSw); (try simp only [F3, FC] at hSw); go_simp; (try with_reducible rfl); done)) | refine tn (i := 3) hHeld ?_
  try simp only [Act.put, List.setIfInBounds_toArray, List.set_cons_zero, List.set_cons_succ]
  first | (refine tw (i := 4) (v := ?_) ?_ hHeld ?_; rotate_left; focus (intro w hSw; (try dsimp only at hSw); (try simp only [F3, FC] at hSw); go_simp; (try with_reducible rfl); done)) | refine tn (i := 4) hHeld ?_
  try simp only [Act.put, List.setIfInBounds_toArray, List.set_cons_zero, List.set_cons_succ]
  first | (refine tw (i := 5) (v := ?_) ?_ hHeld ?_; rotate_left; focus (intro w hSw; (try dsimp only at hSw); (try simp only [F3, FC] at hSw); go_simp; (try with_reducible rfl); done)) | refine tn (i := 5) hHeld ?_
  try simp only [Act.put, List.setIfInBounds_toArray, List.set_cons_zero, List.set_cons_succ]
  first | (refine tw (i := 6) (v := ?_) ?_ hHeld ?_; rotate_left; focus (intro w hSw; (try dsimp only at hSw); (try simp only [F3, FC] at hSw); go_simp; (try with_reducible rfl); done)) | refine tn (i := 6) hHeld ?_
  try simp only [Act.put, List.setIfInBounds_toArray, List.set_cons_zero, List.set_cons_succ]
  first | (refine tw (i := 7) (v := ?_) ?_ hHeld ?_; rotate_left; focus (intro w hSw; (try dsimp only at hSw); (try simp only [F3, FC] at hSw); go_simp; (try with_reducible rfl); done)) | refine tn (i := 7) hHeld ?_
  try simp only [Act.put, List.setIfInBounds_toArray, List.set_cons_zero, List.set_cons_succ]
  first | (refine tw (i := 8) (v := ?_) ?_ hHeld ?_; rotate_left; focus (intro w hSw; (try dsimp only at hSw); (try simp only [F3, FC] at hSw); go_simp; (try with_reducible rfl); done)) | refine tn (i := 8) hHeld ?_
  try simp only [Act.put, List.setIfInBounds_toArray, List.set_cons_zero, List.set_cons_succ]
  first | (refine tw (i := 9) (v := ?_) ?_ hHeld ?_; rotate_left; focus (intro w hSw; (try dsimp only at hSw); (try simp only [F3, FC] at hSw); go_simp; (try with_reducible rfl); done)) | refine tn (i := 9) hHeld ?_
  try simp only [Act.put, List.setIfInBounds_toArray, List.set_cons_zero, List.set_cons_succ]
  first | (refine tw (i := 10) (v := ?_) ?_ hHeld ?_; rotate_left; focus (intro w hSw; (try dsimp only at hSw); (try simp only [F3, FC] at hSw); go_simp; (try with_reducible rfl); done)) | refine tn (i := 10) hHeld ?_
  try simp only [Act.put, List.setIfInBounds_toArray, List.set_cons_zero, List.set_cons_succ]
  first | (refine tw (i := 11) (v := ?_) ?_ hHeld ?_; rotate_left; focus (intro w hSw; (try dsimp only at hSw); (try simp only [F3, FC] at hSw); go_simp; (try with_reducible rfl); done)) | refine tn (i := 11) hHeld ?_
  try simp only [Act.put, List.setIfInBounds_toArray, List.set_cons_zero, List.set_cons_succ]
  first | (refine tw (i := 12) (v := ?_) ?_ hHeld ?_; rotate_left; focus (intro w hSw; (try dsimp only at hSw); (try simp only [F3, FC] at hSw); go_simp; (try with_reducible rfl); done)) | refine tn (i := 12) hHeld ?_
  try simp only [Act.put, List.setIfInBounds_toArray, List.set_cons_zero, List.set_cons_succ]
  first | (refine tw (i := 13) (v := ?_) ?_ hHeld ?_; rotate_left; focus (intro w hSw; (try dsimp only at hSw); (try simp only [F3, FC] at hSw); go_simp; (try with_reducible rfl); done)) | refine tn (i := 13) hHeld ?_
  try simp only [Act.put, List.setIfInBounds_toArray, List.set_cons_zero, List.set_cons_succ]
  first | (refine tw (i := 14) (v := ?_) ?_ hHeld ?_; rotate_left; focus (intro w hSw; (try dsimp only at hSw); (try simp only [F3, FC] at hSw); go_simp; (try with_reducible rfl); done)) | refine tn (i := 14) hHeld ?_
  try simp only [Act.put, List.setIfInBounds_toArray, List.set_cons_zero, List.set_cons_succ]
  first | (refine tw (i := 15) (v := ?_) ?_ hHeld ?_; rotate_left; focus (intro w hSw; (try dsimp only at hSw); (try simp only [F3, FC] at hSw); go_simp; (try with_reducible rfl); done)) | refine tn (i := 15) hHeld ?_
  try simp only [Act.put, List.setIfInBounds_toArray, List.set_cons_zero, List.set_cons_succ]
  first | (refine tw (i := 16) (v := ?_) ?_ hHeld ?_; rotate_left; focus (intro w hSw; (try dsimp only at hSw); (try simp only [F3, FC] at hSw); go_simp; (try with_reducible rfl); done)) | refine tn (i := 16) hHeld ?_
  try simp only [Act.put, List.setIfInBounds_toArray, List.set_cons_zero, List.set_cons_succ]
  first | (refine tw (i := 17) (v := ?_) ?_ hHeld ?_; rotate_left; focus (intro w hSw; (try dsimp only at hSw); (try simp only [F3, FC] at hSw); go_simp; (try with_reducible rfl); done)) | refine tn (i := 17) hHeld ?_
  try simp only [Act.put, List.setIfInBounds_toArray, List.set_cons_zero, List.set_cons_succ]
  first | (refine tw (i := 18) (v := ?_) ?_ hHeld ?_; rotate_left; focus (intro w hSw; (try dsimp only at hSw); (try simp only [F3, FC] at hSw); go_simp; (try with_reducible rfl); done)) | refine tn (i := 18) hHeld ?_
  try simp only [Act.put, List.setIfInBounds_toArray, List.set_cons_zero, List.set_cons_succ]
  first | (refine tw (i := 19) (v := ?_) ?_ hHeld ?_; rotate_left; focus (intro w hSw; (try dsimp only at hSw); (try simp only [F3, FC] at hSw); go_simp; (try with_reducible rfl); done)) | refine tn (i := 19) hHeld ?_
  try simp only [Act.put, List.setIfInBounds_toArray, List.set_cons_zero, List.set_cons_succ]
  first | (refine tw (i := 20) (v := ?_) ?_ hHeld ?_; rotate_left; focus (intro w hSw; (try dsimp only at hSw); (try simp only [F3, FC] at hSw); go_simp; (try with_reducible rfl); done)) | refine tn (i := 20) hHeld ?_
  try simp only [Act.put, List.setIfInBounds_toArray, List.set_cons_zero, List.set_cons_succ]
  first | (refine tw (i := 21) (v := ?_) ?_ hHeld ?_; rotate_left; focus (intro w hSw; (try dsimp only at hSw); (try simp only [F3, FC] at hSw); go_simp; (try with_reducible rfl); done)) | refine tn (i := 21) hHeld ?_
  try simp only [Act.put, List.setIfInBounds_toArray, List.set_cons_zero, List.set_cons_succ]
  first | (refine tw (i := 22) (v := ?_) ?_ hHeld ?_; rotate_left; focus (intro w hSw; (try dsimp only at hSw); (try simp only [F3, FC] at hSw); go_simp; (try with_reducible rfl); done)) | refine tn (i := 22) hHeld ?_
  try simp only [Act.put, List.setIfInBounds_toArray, List.set_cons_zero, List.set_cons_succ]
  first | (refine tw (i := 24) (v := ?_) ?_ hHeld ?_; rotate_left; focus (intro w hSw; (try dsimp only at hSw); (try simp only [F3, FC] at hSw); go_simp; (try with_reducible rfl); done)) | refine tn (i := 24) hHeld ?_
  try simp only [Act.put, List.setIfInBounds_toArray, List.set_cons_zero, List.set_cons_succ]
  first | (refine tw (i := 25) (v := ?_) ?_ hHeld ?_; rotate_left; focus (intro w hSw; (try dsimp only at hSw); (try simp only [F3, FC] at hSw); go_simp; (try with_reducible rfl); done)) | refine tn (i := 25) hHeld ?_
  try simp only [Act.put, List.setIfInBounds_toArray, List.set_cons_zero, List.set_cons_succ]
  first | (refine tw (i := 26) (v := ?_) ?_ hHeld ?_; rotate_left; focus (intro w hSw; (try dsimp only at hSw); (try simp only [F3, FC] at hSw); go_simp; (try with_reducible rfl); done)) | refine tn (i := 26) hHeld ?_
  try simp only [Act.put, List.setIfInBounds_toArray, List.set_cons_zero, List.set_cons_succ]
  first | (refine tw (i := 27) (v := ?_) ?_ hHeld ?_; rotate_left; focus (intro w hSw; (try dsimp only at hSw); (try simp only [F3, FC] at hSw); go_simp; (try with_reducible rfl); done)) | refine tn (i := 27) hHeld ?_
  try simp only [Act.put, List.setIfInBounds_toArray, List.set_cons_zero, List.set_cons_succ]
  refine call_next (i := 23) (by kernel_rfl) (by rfl) ?_
  intro o ho K hK
  simp only [List.getElem?_toArray, List.getElem?_cons_succ, List.getElem?_cons_zero, Option.some.injEq] at ho
  subst ho
  first | (fail; refine hK.out _ _ ?_ (fun hHeld => ?_)) | (go_simp; first | (with_reducible refine hK.out _ _ ?_ (fun hHeld => ?_)) | ((first | (go_at_call 19; (with_reducible refine (CN.out _).mono ?_); rintro e' W9 ⟨rfl, hA⟩; replace HS : Hid ((fun w' : World => F3 w' w.heap.size ⟨n, fb, ft, tb, tt, s, a, b⟩ KX ⟨xn, xfb, xft, xtb, xtt, xs, xa, xb⟩ KY ⟨xn, xfb, xft, xtb, xtt, xs, xa, xb⟩) W9) := HS.out.below hA; replace HZ := Lib.hid (HZ.out.below hA); replace HB := Lib.hid (bt HB.out hA); clear hA) | (go_at_call 20; (with_reducible refine (CRN.out _).mono ?_); rintro e' W9 ⟨rfl, hA⟩; replace HS : Hid ((fun w' : World => F3 w' w.heap.size ⟨n, fb, ft, tb, tt, s, a, b⟩ KX ⟨xn, xfb, xft, xtb, xtt, xs, xa, xb⟩ KY ⟨xn, xfb, xft, xtb, xtt, xs, xa, xb⟩) W9) := HS.out.below hA; replace HZ := Lib.hid (HZ.out.below hA); replace HB := Lib.hid (bt HB.out hA); clear hA)); refine hK.out _ _ ?_ (fun hHeld => ?_)))
  · first | with_reducible exact HS.out
  clear hK K
  try simp only [Act.put, List.setIfInBounds_toArray, List.set_cons_zero, List.set_cons_succ]
  refine call_next (i := 28) (by kernel_rfl) (by rfl) ?_
  intro o ho K hK
  simp only [List.getElem?_toArray, List.getElem?_cons_succ, List.getElem?_cons_zero, Option.some.injEq] at ho
  subst ho
  first | (fail; refine hK.out _ _ ?_ (fun hHeld => ?_)) | (go_simp; first | (with_reducible refine hK.out _ _ ?_ (fun hHeld => ?_)) | ((first | (go_at_call 19; (with_reducible refine (CN.out _).mono ?_); rintro e' W9 ⟨rfl, hA⟩; replace HS : Hid ((fun w' : World => F3 w' w.heap.size ⟨n, fb, ft, tb, tt, s, a, b⟩ KX ⟨xn, xfb, xft, xtb, xtt, xs, xa, xb⟩ KY ⟨xn, xfb, xft, xtb, xtt, xs, xa, xb⟩) W9) := HS.out.below hA; replace HZ := Lib.hid (HZ.out.below hA); replace HB := Lib.hid (bt HB.out hA); clear hA) | (go_at_call 20; (with_reducible refine (CRN.out _).mono ?_); rintro e' W9 ⟨rfl, hA⟩; replace HS : Hid ((fun w' : World => F3 w' w.heap.size ⟨n, fb, ft, tb, tt, s, a, b⟩ KX ⟨xn, xfb, xft, xtb, xtt, xs, xa, xb⟩ KY ⟨xn, xfb, xft, xtb, xtt, xs, xa, xb⟩) W9) := HS.out.below hA; replace HZ := Lib.hid (HZ.out.below hA); replace HB := Lib.hid (bt HB.out hA); clear hA)); refine hK.out _ _ ?_ (fun hHeld => ?_)))
  · first | with_reducible exact HS.out
  clear hK K
  try simp only [Act.put, List.setIfInBounds_toArray, List.set_cons_zero, List.set_cons_succ]
  first | (refine tw (i := 29) (v := ?_) ?_ hHeld ?_; rotate_left; focus (intro w hSw; (try dsimp only at hSw); (try simp only [F3, FC] at hSw); go_simp; (try with_reducible rfl); done)) | refine tn (i := 29) hHeld ?_
  try simp only [Act.put, List.setIfInBounds_toArray, List.set_cons_zero, List.set_cons_succ]
  first | (refine tw (i := 30) (v := ?_) ?_ hHeld ?_; rotate_left; focus (intro w hSw; (try dsimp only at hSw); (try simp only [F3, FC] at hSw); go_simp; (try with_reducible rfl); done)) | refine tn (i := 30) hHeld ?_
  try simp only [Act.put, List.setIfInBounds_toArray, List.set_cons_zero, List.set_cons_succ]
  refine wpAnyH_done (by kernel_rfl) ?_ _
  have eqx := fun W => feq_same n fb ft tb tt s a b W
  have eqt := bse t
  by_cases hEA : EA = 0
  · obtain ⟨i1, i2⟩ := HPG.out hEA
    cases i2
    subst i1
    subst hEA
    by_cases hG : G = 0
    · obtain ⟨j1, j2⟩ := HGP.out hG
      subst j1
      subst j2
      subst hG
      obtain ⟨HC, HX, HY⟩ := HS.out
      obtain ⟨c0, c1, c2, c3, c4, c5, c6, c7⟩ := id HC
      obtain ⟨u0, u1, u2, u3, u4, u5, u6, u7⟩ := HX
      obtain ⟨z0, z1, z2, z3, z4, z5, z6, z7⟩ := HZ.out
      have HB := HB.out
      go_wp2
      go_ret
      exact ⟨rfl, HB⟩
    · have hG1 : (G != 0) = true := bne_iff_ne.2 hG
      clear HGP hG
      obtain ⟨HC, HX, HY⟩ := HS.out
      obtain ⟨c0, c1, c2, c3, c4, c5, c6, c7⟩ := id HC
      obtain ⟨u0, u1, u2, u3, u4, u5, u6, u7⟩ := HX
      obtain ⟨z0, z1, z2, z3, z4, z5, z6, z7⟩ := HZ.out
      have HB := HB.out
      go_wp2
      go_ret
      exact ⟨rfl, HB⟩
  · have hE1 : (EA != 0) = true := bne_iff_ne.2 hEA
    clear HPG hEA
    by_cases hG : G = 0
    · obtain ⟨j1, j2⟩ := HGP.out hG
      subst j1
      subst j2
      subst hG
      obtain ⟨HC, HX, HY⟩ := HS.out
      obtain ⟨c0, c1, c2, c3, c4, c5, c6, c7⟩ := id HC
      obtain ⟨u0, u1, u2, u3, u4, u5, u6, u7⟩ := HX
      obtain ⟨z0, z1, z2, z3, z4, z5, z6, z7⟩ := HZ.out
      have HB := HB.out
      go_wp2
      go_ret
      exact ⟨rfl, HB⟩
    · have hG1 : (G != 0) = true := bne_iff_ne.2 hG
      clear HGP hG
      obtain ⟨HC, HX, HY⟩ := HS.out
      obtain ⟨c0, c1, c2, c3, c4, c5, c6, c7⟩ := id HC
      obtain ⟨u0, u1, u2, u3, u4, u5, u6, u7⟩ := HX
      obtain ⟨z0, z1, z2, z3, z4, z5, z6, z7⟩ := HZ.out
      have HB := HB.out
      go_wp2
      go_ret
      exact ⟨rfl, HB⟩
end Go.Proofs.Ytemfdmbjlmiopaa
