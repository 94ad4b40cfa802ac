/-
  The statement StateCodes (chapter 23).
-/
import Derived.Test.YtingeahkndingaaCode5
import Derived.Test.YtingeahkndingaaStateFact
namespace Go.Proofs.Ytingeahkndingaa
open Go.RowKit
set_option linter.unusedVariables false
set_option linter.unusedSimpArgs false
theorem cseq_same (k a b : Int) (d : ByteArray) (p q : Int) (e : ByteArray) (r s : Int) (f : ByteArray) (W : World) : (binOp .eql 27 (SS k a b d p q e r s f) (SS k a b d p q e r s f)).run Try.prog W = .ok (.bool true) W := by
  simp [go_sem]
/-! ### how great what is read can be -/
theorem rdOut_le (x : ByteArray) (err n : Int) : (rdOut x err n).size ≤ n.toNat := by
  unfold rdOut
  split
  · rw [ByteArray.size_extract]; omega
  · exact Nat.zero_le _
theorem nO_lt (z : Rr) : nO z 7 ≤ 9223372036854775807 := by
  unfold nO nmOut
  split
  · have h1 := nat256_lt (rdOut z.1 z.2 7).data.toList
    have h2 : (rdOut z.1 z.2 7).data.toList.length ≤ 7 := by rw [data_len]; exact rdOut_le z.1 z.2 7
    have h3 : 256 ^ (rdOut z.1 z.2 7).data.toList.length ≤ 256 ^ 7 := Nat.pow_le_pow_right (by decide) h2
    have h4 : (256 : Nat) ^ 7 = 72057594037927936 := by decide
    omega
  · decide
def VB (v : Ve) : Prop := v.p ≤ 9223372036854775807 ∧ v.q ≤ 9223372036854775807 ∧ v.d.size ≤ 100000
theorem rdVe_b (z : Rr) : VB (rdVe z) := ⟨nO_lt _, nO_lt _, Nat.le_trans (rdOut_le _ _ 128) (by decide)⟩
theorem get_b (t : ByteArray) : VB ⟨(getSt t).a, (getSt t).b, (getSt t).d⟩ ∧ VB (getSt t).x ∧ VB (getSt t).y := by
  have h0 : VB ⟨0, 0, ⟨#[]⟩⟩ := ⟨by decide, by decide, by decide⟩
  unfold getSt
  split
  · unfold getR
    split
    · exact ⟨rdVe_b _, h0, h0⟩
    · exact ⟨⟨(rdVe_b _).1, (rdVe_b _).2.1, Nat.zero_le 100000⟩, rdVe_b _, rdVe_b _⟩
  · exact ⟨h0, h0, h0⟩
theorem putSt_size (s : St) (h1 : s.d.size ≤ 1000) (h2 : s.x.d.size ≤ 1000) (h3 : s.y.d.size ≤ 1000) : (putSt s).size ≤ 100000 := by
  have hz0 : (⟨#[]⟩ : ByteArray).size = 0 := rfl
  have hz := putS_size' ⟨#[]⟩ s.k 1
  unfold putSt
  split
  · omega
  · split
    · have := vtS_size (putS ⟨#[]⟩ s.k 1) ⟨s.a, s.b, s.d⟩
      simp only at this
      omega
    · have h4 := vtS_size (putS ⟨#[]⟩ s.k 1) s.x
      have h5 := vtS_size (vtS (putS ⟨#[]⟩ s.k 1) s.x) s.y
      omega
set_option maxRecDepth 100000 in
set_option maxHeartbeats 12800000 in
theorem walk_StateCodes (k : Int) (a : Int) (b : Int) (d : ByteArray) (p : Int) (q : Int) (e : ByteArray) (r : Int) (s : Int) (f : ByteArray) (hk : (Lit.int .i64 k).wf = true) (ha : (Lit.int .i64 a).wf = true) (hb : (Lit.int .i64 b).wf = true) (hd : d.size ≤ maxLen) (hp : (Lit.int .i64 p).wf = true) (hq : (Lit.int .i64 q).wf = true) (he : e.size ≤ maxLen) (hr : (Lit.int .i64 r).wf = true) (hs : (Lit.int .i64 s).wf = true) (hf : f.size ≤ maxLen) (t : ByteArray) (ht : t.size ≤ 140737488351232) {w : World} :
    Calls Try.prog 6 #[SS k a b d p q e r s f, .string t] w fun e' w' => e' = .returned (.bool true) ∧ Below w.heap.size w w' := by
  cases hbig : (decide (1000 < (d.size : Int)) || (decide (1000 < (e.size : Int)) || decide (1000 < (f.size : Int))))
  case true =>
    have HC : Cel (w.alloc (.cells #[.int .i64 k, .int .i64 a, .int .i64 b, .string d, .int .i64 p, .int .i64 q, .string e, .int .i64 r, .int .i64 s, .string f] 27)) w.heap.size ⟨k, a, b, d, ⟨p, q, e⟩, ⟨r, s, f⟩⟩ := Cel.new w ⟨k, a, b, d, ⟨p, q, e⟩, ⟨r, s, f⟩⟩ 27
    have HB : Below w.heap.size w (w.alloc (.cells #[.int .i64 k, .int .i64 a, .int .i64 b, .string d, .int .i64 p, .int .i64 q, .string e, .int .i64 r, .int .i64 s, .string f] 27)) := (Below.refl _ _).alloc (Nat.le_refl _) _
    go_enter Try.func6, Try.ntmps6
    go_wp2_with fail
    generalize (w.alloc (.cells #[.int .i64 k, .int .i64 a, .int .i64 b, .string d, .int .i64 p, .int .i64 q, .string e, .int .i64 r, .int .i64 s, .string f] 27)) = W2 at *
    refine (works_any _).mono ?_
    rintro e' W3 ⟨rfl, hA⟩
    replace HC := HC.below hA
    replace HB := bt HB hA
    clear hA
    obtain ⟨c0, c1, c2, c3, c4, c5, c6, c7, c8, c9⟩ := id HC
    go_wp2_with fail
    refine (big_any _ _ _ _ _ _ _ _ _ _ _).mono ?_
    rintro e' W4 ⟨rfl, hA⟩
    replace HC := HC.below hA
    replace HB := bt HB hA
    clear hA
    clear c0 c1 c2 c3 c4 c5 c6 c7 c8 c9
    rw [hbig]
    go_wp2
    go_ret
    exact ⟨rfl, HB⟩
  cases ht1 : (decide (3000 < (t.size : Int)))
  case true =>
    have HC : Cel (w.alloc (.cells #[.int .i64 k, .int .i64 a, .int .i64 b, .string d, .int .i64 p, .int .i64 q, .string e, .int .i64 r, .int .i64 s, .string f] 27)) w.heap.size ⟨k, a, b, d, ⟨p, q, e⟩, ⟨r, s, f⟩⟩ := Cel.new w ⟨k, a, b, d, ⟨p, q, e⟩, ⟨r, s, f⟩⟩ 27
    have HB : Below w.heap.size w (w.alloc (.cells #[.int .i64 k, .int .i64 a, .int .i64 b, .string d, .int .i64 p, .int .i64 q, .string e, .int .i64 r, .int .i64 s, .string f] 27)) := (Below.refl _ _).alloc (Nat.le_refl _) _
    go_enter Try.func6, Try.ntmps6
    go_wp2_with fail
    generalize (w.alloc (.cells #[.int .i64 k, .int .i64 a, .int .i64 b, .string d, .int .i64 p, .int .i64 q, .string e, .int .i64 r, .int .i64 s, .string f] 27)) = W2 at *
    refine (works_any _).mono ?_
    rintro e' W3 ⟨rfl, hA⟩
    replace HC := HC.below hA
    replace HB := bt HB hA
    clear hA
    obtain ⟨c0, c1, c2, c3, c4, c5, c6, c7, c8, c9⟩ := id HC
    go_wp2_with fail
    refine (big_any _ _ _ _ _ _ _ _ _ _ _).mono ?_
    rintro e' W4 ⟨rfl, hA⟩
    replace HC := HC.below hA
    replace HB := bt HB hA
    clear hA
    clear c0 c1 c2 c3 c4 c5 c6 c7 c8 c9
    rw [hbig]
    go_wp2
    go_ret
    exact ⟨rfl, HB⟩
  simp only [Bool.or_eq_false_iff, decide_eq_false_iff_not] at hbig
  obtain ⟨g1, g2, g3⟩ := hbig
  have hbig : (decide (1000 < (d.size : Int)) || (decide (1000 < (e.size : Int)) || decide (1000 < (f.size : Int)))) = false := by simp only [Bool.or_eq_false_iff, decide_eq_false_iff_not]; exact ⟨g1, g2, g3⟩
  have hts : ¬ 3000 < (t.size : Int) := of_decide_eq_false ht1
  have wa := (bounds_i64 ha).2
  have wb := (bounds_i64 hb).2
  have wp := (bounds_i64 hp).2
  have wq := (bounds_i64 hq).2
  have wr := (bounds_i64 hr).2
  have ws := (bounds_i64 hs).2
  have hAz := putSt_size ⟨k, a, b, d, ⟨p, q, e⟩, ⟨r, s, f⟩⟩ (by simp only; omega) (by simp only; omega) (by simp only; omega)
  have HPG := put_get ⟨k, a, b, d, ⟨p, q, e⟩, ⟨r, s, f⟩⟩
  have HGP := get_put t
  have hbd := get_b t
  have CP := fun w => sput_any k a b d p q e r s f w wa wb (by omega) wp wq (by omega) wr ws (by omega)
  have CRP := fun w => rsput_any k a b d p q e r s f w wa wb (by omega) wp wq (by omega) wr ws (by omega)
  have CG := fun w => sget_any t w (by omega)
  have CRG := fun w => rsget_any t w (by omega)
  obtain ⟨A, hA⟩ : ∃ z, putSt ⟨k, a, b, d, ⟨p, q, e⟩, ⟨r, s, f⟩⟩ = z := ⟨_, rfl⟩
  obtain ⟨EA, hEA⟩ : ∃ z, chkE ⟨k, a, b, d, ⟨p, q, e⟩, ⟨r, s, f⟩⟩ = z := ⟨_, rfl⟩
  rw [hA] at hAz
  rw [hA, hEA] at HPG
  simp only [hA, hEA] at CP CRP
  clear hA hEA
  have CGA := fun w => sget_any A w hAz
  obtain ⟨X, hX⟩ : ∃ z, getSt t = z := ⟨_, rfl⟩
  obtain ⟨G, hG⟩ : ∃ z, getE t = z := ⟨_, rfl⟩
  rw [hX] at hbd
  rw [hX, hG] at HGP
  simp only [hX, hG] at CG CRG
  clear hX hG
  obtain ⟨xk, xa, xb, xd, ⟨xp, xq, xe⟩, ⟨xr, xs, xf⟩⟩ := X
  have CPX := fun w => sput_any xk xa xb xd xp xq xe xr xs xf w hbd.1.1 hbd.1.2.1 hbd.1.2.2 hbd.2.1.1 hbd.2.1.2.1 hbd.2.1.2.2 hbd.2.2.1 hbd.2.2.2.1 hbd.2.2.2.2
  clear hbd
  obtain ⟨U, hU⟩ : ∃ z, putSt ⟨xk, xa, xb, xd, ⟨xp, xq, xe⟩, ⟨xr, xs, xf⟩⟩ = z := ⟨_, rfl⟩
  obtain ⟨J, hJ⟩ : ∃ z, chkE ⟨xk, xa, xb, xd, ⟨xp, xq, xe⟩, ⟨xr, xs, xf⟩⟩ = z := ⟨_, rfl⟩
  rw [hU, hJ] at HGP
  simp only [hU, hJ] at CPX
  clear hU hJ
  obtain ⟨Z, hZ⟩ : ∃ z, getSt A = z := ⟨_, rfl⟩
  obtain ⟨I, hI⟩ : ∃ z, getE A = z := ⟨_, rfl⟩
  rw [hZ, hI] at HPG
  simp only [hZ, hI] at CGA
  clear hZ hI
  obtain ⟨zk, za, zb, zd, ⟨zp, zq, ze⟩, ⟨zr, zs, zf⟩⟩ := Z
  replace CP := Lib.hid CP
  replace CRP := Lib.hid CRP
  replace CG := Lib.hid CG
  replace CRG := Lib.hid CRG
  replace CGA := Lib.hid CGA
  replace CPX := Lib.hid CPX
  replace HPG := Lib.hid HPG
  replace HGP := Lib.hid HGP
  clear g1 g2 g3 hts wa wb wp wq wr ws hAz
  have HC : Cel (w.alloc (.cells #[.int .i64 k, .int .i64 a, .int .i64 b, .string d, .int .i64 p, .int .i64 q, .string e, .int .i64 r, .int .i64 s, .string f] 27)) w.heap.size ⟨k, a, b, d, ⟨p, q, e⟩, ⟨r, s, f⟩⟩ := Cel.new w ⟨k, a, b, d, ⟨p, q, e⟩, ⟨r, s, f⟩⟩ 27
  have HB : Below w.heap.size w (w.alloc (.cells #[.int .i64 k, .int .i64 a, .int .i64 b, .string d, .int .i64 p, .int .i64 q, .string e, .int .i64 r, .int .i64 s, .string f] 27)) := (Below.refl _ _).alloc (Nat.le_refl _) _
  go_enter Try.func6, Try.ntmps6
  go_wp2_with fail
  generalize (w.alloc (.cells #[.int .i64 k, .int .i64 a, .int .i64 b, .string d, .int .i64 p, .int .i64 q, .string e, .int .i64 r, .int .i64 s, .string f] 27)) = W2 at *
  refine (works_any _).mono ?_
  rintro e' W3 ⟨rfl, hA⟩
  replace HC := HC.below hA
  replace HB := bt HB hA
  clear hA
  obtain ⟨c0, c1, c2, c3, c4, c5, c6, c7, c8, c9⟩ := id HC
  go_wp2_with fail
  refine (big_any _ _ _ _ _ _ _ _ _ _ _).mono ?_
  rintro e' W4 ⟨rfl, hA⟩
  replace HC := HC.below hA
  replace HB := bt HB hA
  clear hA
  clear c0 c1 c2 c3 c4 c5 c6 c7 c8 c9
  rw [hbig]
  obtain ⟨c0, c1, c2, c3, c4, c5, c6, c7, c8, c9⟩ := id HC
  go_wp2_with fail
  refine (CP.out _).mono ?_
  rintro e' W5 ⟨rfl, hA⟩
  replace HC := HC.below hA
  replace HB := bt HB hA
  clear hA
  clear c0 c1 c2 c3 c4 c5 c6 c7 c8 c9
  obtain ⟨c0, c1, c2, c3, c4, c5, c6, c7, c8, c9⟩ := id HC
  go_wp2_with fail
  refine (CRP.out _).mono ?_
  rintro e' W6 ⟨rfl, hA⟩
  replace HC := HC.below hA
  replace HB := bt HB hA
  clear hA
  clear c0 c1 c2 c3 c4 c5 c6 c7 c8 c9
  go_wp2_with fail
  refine (CG.out _).mono ?_
  rintro e' W7 ⟨rfl, hA⟩
  replace HC := HC.below hA
  replace HB := bt HB hA
  clear hA
  have HX : Cel (W7.alloc (.cells #[.int .i64 xk, .int .i64 xa, .int .i64 xb, .string xd, .int .i64 xp, .int .i64 xq, .string xe, .int .i64 xr, .int .i64 xs, .string xf] 27)) W7.heap.size ⟨xk, xa, xb, xd, ⟨xp, xq, xe⟩, ⟨xr, xs, xf⟩⟩ := Cel.new W7 ⟨xk, xa, xb, xd, ⟨xp, xq, xe⟩, ⟨xr, xs, xf⟩⟩ 27
  have hA := (Below.refl W7.heap.size W7).alloc (Nat.le_refl _) (.cells #[.int .i64 xk, .int .i64 xa, .int .i64 xb, .string xd, .int .i64 xp, .int .i64 xq, .string xe, .int .i64 xr, .int .i64 xs, .string xf] 27)
  replace HC := HC.below hA
  replace HB := bt HB hA
  clear hA
  go_wp2_with fail
  generalize (W7.alloc (.cells #[.int .i64 xk, .int .i64 xa, .int .i64 xb, .string xd, .int .i64 xp, .int .i64 xq, .string xe, .int .i64 xr, .int .i64 xs, .string xf] 27)) = W8 at *
  generalize W7.heap.size = KX at *
  refine (CRG.out _).mono ?_
  rintro e' W9 ⟨rfl, hA⟩
  replace HC := HC.below hA
  replace HB := bt HB hA
  replace HX := HX.below hA
  clear hA
  have HY : Cel (W9.alloc (.cells #[.int .i64 xk, .int .i64 xa, .int .i64 xb, .string xd, .int .i64 xp, .int .i64 xq, .string xe, .int .i64 xr, .int .i64 xs, .string xf] 27)) W9.heap.size ⟨xk, xa, xb, xd, ⟨xp, xq, xe⟩, ⟨xr, xs, xf⟩⟩ := Cel.new W9 ⟨xk, xa, xb, xd, ⟨xp, xq, xe⟩, ⟨xr, xs, xf⟩⟩ 27
  have hA := (Below.refl W9.heap.size W9).alloc (Nat.le_refl _) (.cells #[.int .i64 xk, .int .i64 xa, .int .i64 xb, .string xd, .int .i64 xp, .int .i64 xq, .string xe, .int .i64 xr, .int .i64 xs, .string xf] 27)
  replace HC := HC.below hA
  replace HX := HX.below hA
  replace HB := bt HB hA
  clear hA
  go_wp2_with fail
  generalize (W9.alloc (.cells #[.int .i64 xk, .int .i64 xa, .int .i64 xb, .string xd, .int .i64 xp, .int .i64 xq, .string xe, .int .i64 xr, .int .i64 xs, .string xf] 27)) = W10 at *
  generalize W9.heap.size = KY at *
  refine (CGA.out _).mono ?_
  rintro e' W11 ⟨rfl, hA⟩
  replace HC := HC.below hA
  replace HB := bt HB hA
  replace HX := HX.below hA
  replace HY := HY.below hA
  clear hA
  have HZ : Cel (W11.alloc (.cells #[.int .i64 zk, .int .i64 za, .int .i64 zb, .string zd, .int .i64 zp, .int .i64 zq, .string ze, .int .i64 zr, .int .i64 zs, .string zf] 27)) W11.heap.size ⟨zk, za, zb, zd, ⟨zp, zq, ze⟩, ⟨zr, zs, zf⟩⟩ := Cel.new W11 ⟨zk, za, zb, zd, ⟨zp, zq, ze⟩, ⟨zr, zs, zf⟩⟩ 27
  have hA := (Below.refl W11.heap.size W11).alloc (Nat.le_refl _) (.cells #[.int .i64 zk, .int .i64 za, .int .i64 zb, .string zd, .int .i64 zp, .int .i64 zq, .string ze, .int .i64 zr, .int .i64 zs, .string zf] 27)
  replace HC := HC.below hA
  replace HX := HX.below hA
  replace HY := HY.below hA
  replace HB := bt HB hA
  clear hA
  obtain ⟨c0, c1, c2, c3, c4, c5, c6, c7, c8, c9⟩ := id HX
  go_wp2_with fail
  clear c0 c1 c2 c3 c4 c5 c6 c7 c8 c9
  generalize (W11.alloc (.cells #[.int .i64 zk, .int .i64 za, .int .i64 zb, .string zd, .int .i64 zp, .int .i64 zq, .string ze, .int .i64 zr, .int .i64 zs, .string zf] 27)) = W12 at *
  generalize W11.heap.size = KZ at *
  refine (CPX.out _).mono ?_
  rintro e' W13 ⟨rfl, hA⟩
  replace HC := HC.below hA
  replace HB := bt HB hA
  replace HX := HX.below hA
  replace HY := HY.below hA
  replace HZ := HZ.below hA
  clear hA CP CRP CG CRG CGA CPX
  have eqx := fun W => cseq_same xk xa xb xd xp xq xe xr xs xf W
  have eqs := fun W => cseq_same k a b d p q e r s f W
  have eqA := bse A
  have eqt := bse t
  obtain ⟨c0, c1, c2, c3, c4, c5, c6, c7, c8, c9⟩ := id HC
  obtain ⟨x0, x1, x2, x3, x4, x5, x6, x7, x8, x9⟩ := id HX
  obtain ⟨y0, y1, y2, y3, y4, y5, y6, y7, y8, y9⟩ := id HY
  obtain ⟨z0, z1, z2, z3, z4, z5, z6, z7, z8, z9⟩ := id HZ
  by_cases hEA : EA = 0
  · obtain ⟨i1, i2⟩ := HPG.out hEA
    cases i2
    subst i1
    subst hEA
    by_cases hG : G = 0
    · obtain ⟨j1, j2⟩ := HGP.out hG
      subst j1
      subst j2
      subst hG
      go_wp2
      go_ret
      exact ⟨rfl, HB⟩
    · have hG1 : (G != 0) = true := bne_iff_ne.2 hG
      clear HGP hG
      go_wp2
      go_ret
      exact ⟨rfl, HB⟩
  · have hE1 : (EA != 0) = true := bne_iff_ne.2 hEA
    clear HPG hEA
    by_cases hG : G = 0
    · obtain ⟨j1, j2⟩ := HGP.out hG
      subst j1
      subst j2
      subst hG
      go_wp2
      go_ret
      exact ⟨rfl, HB⟩
    · have hG1 : (G != 0) = true := bne_iff_ne.2 hG
      clear HGP hG
      go_wp2
      go_ret
      exact ⟨rfl, HB⟩
end Go.Proofs.Ytingeahkndingaa
