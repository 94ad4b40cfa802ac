/-
  Messages as bytes (chapter 25): what Put writes. (genwp.py prints it.)
-/
import Derived.Test.YtemfdmbjlmiopaaWire3
namespace Go.Proofs.Ytemfdmbjlmiopaa
open Go.RowKit
set_option linter.unusedVariables false
set_option linter.unusedSimpArgs false
/-- what a message's numbers and bytes may be -/
structure MB (k ex va vb : Int) (s : St) (n : Int) : Prop where
  k : k ≤ 9223372036854775807
  ex : ex ≤ 9223372036854775807
  va : va ≤ 9223372036854775807
  vb : vb ≤ 9223372036854775807
  n : n ≤ 9223372036854775807
  sa : s.a ≤ 9223372036854775807
  sb : s.b ≤ 9223372036854775807
  sd : s.d.size ≤ 1000
  xp : s.x.p ≤ 9223372036854775807
  xq : s.x.q ≤ 9223372036854775807
  xd : s.x.d.size ≤ 1000
  yp : s.y.p ≤ 9223372036854775807
  yq : s.y.q ≤ 9223372036854775807
  yd : s.y.d.size ≤ 1000
theorem putSt_size (s : St) (h1 : s.d.size ≤ 1000) (h2 : s.x.d.size ≤ 1000) (h3 : s.y.d.size ≤ 1000) : (putSt s).size ≤ 100000 := by
  have hz0 : (⟨#[]⟩ : ByteArray).size = 0 := rfl
  have hz := putS_size' ⟨#[]⟩ s.k 1
  unfold putSt
  split
  · omega
  · split
    · have := vtS_size (putS ⟨#[]⟩ s.k 1) ⟨s.a, s.b, s.d⟩
      simp only at this
      omega
    · have h4 := vtS_size (putS ⟨#[]⟩ s.k 1) s.x
      have h5 := vtS_size (vtS (putS ⟨#[]⟩ s.k 1) s.x) s.y
      omega
theorem spt_at {s : St} {E : Int} (hE : chkE s = E) {k ex va vb n : Int} (b : MB k ex va vb s n) (w : World) : Calls Try.prog 24 #[s.v] w fun e' w' => e' = .returned (.tuple #[.string (putSt s), .int .i64 E]) ∧ Below w.heap.size w w' :=
  hE ▸ sput_any s.k s.a s.b s.d s.x.p s.x.q s.x.d s.y.p s.y.q s.y.d w b.sa b.sb (Nat.le_trans b.sd (by decide)) b.xp b.xq (Nat.le_trans b.xd (by decide)) b.yp b.yq (Nat.le_trans b.yd (by decide))
theorem rspt_at {s : St} {E : Int} (hE : chkE s = E) {k ex va vb n : Int} (b : MB k ex va vb s n) (w : World) : Calls Try.prog 28 #[s.v] w fun e' w' => e' = .returned (.tuple #[.string (putSt s), .int .i64 E]) ∧ Below w.heap.size w w' :=
  hE ▸ rsput_any s.k s.a s.b s.d s.x.p s.x.q s.x.d s.y.p s.y.q s.y.d w b.sa b.sb (Nat.le_trans b.sd (by decide)) b.xp b.xq (Nat.le_trans b.xd (by decide)) b.yp b.yq (Nat.le_trans b.yd (by decide))
theorem mput_no {m : Mg} (h : ¬ mchk m = 0) : mput m = ⟨#[]⟩ := if_pos h
theorem mput_is {m : Mg} (h : mchk m = 0) : mput m = if T1 m.k = true then vputS (putS (putS ⟨#[]⟩ m.k 1) m.ex 1) m.va m.vb
  else if T2 m.k = true then putS (putS ⟨#[]⟩ m.k 1) m.ex 1 ++ putSt m.s
  else if T3 m.k = true then putS (putS ⟨#[]⟩ m.k 1) m.n 1
  else putS (putS ⟨#[]⟩ m.k 1) m.ex 1 := if_neg (fun g => g h)
theorem chk_C0 {m : Mg} (h : m.k = 3) (hc : mchk m = 0) : chkE m.s = 0 := by
  obtain ⟨X, hm, hX, hcs, e⟩ := mput_C h hc
  exact hcs
set_option maxRecDepth 20000 in
set_option maxHeartbeats 3200000 in
theorem wput_no {k ex va vb : Int} {s : St} {n : Int} (h : ¬ mchk ⟨k, ex, va, vb, s, n⟩ = 0) (w : World) : Calls Try.prog 9 #[MV k ex va vb s n] w fun e' w' => e' = .returned (.tuple #[.string (mput ⟨k, ex, va, vb, s, n⟩), .int .i64 (mchk ⟨k, ex, va, vb, s, n⟩)]) ∧ Below w.heap.size w w' := by
  rw [mput_no h]
  obtain ⟨E, hE⟩ : ∃ E, mchk ⟨k, ex, va, vb, s, n⟩ = E := ⟨_, rfl⟩
  have CK := Lib.hid (fun w => wchk_at hE w)
  rw [hE] at h ⊢
  have hne : (E != 0) = true := bne_iff_ne.2 h
  clear hE h
  have HC := Lib.hid (MC.new w k ex va vb s n 29)
  have HB : Below w.heap.size w (w.alloc (.cells #[.int .i64 k, .int .i64 ex, .int .i64 va, .int .i64 vb, .int .i64 s.k, .int .i64 s.a, .int .i64 s.b, .string s.d, .int .i64 s.x.p, .int .i64 s.x.q, .string s.x.d, .int .i64 s.y.p, .int .i64 s.y.q, .string s.y.d, .int .i64 n] 29)) := (Below.refl _ _).alloc (Nat.le_refl _) _
  obtain ⟨c0, c1, c2, c3, c4, c5, c6, c7, c8, c9, c10, c11, c12, c13, c14⟩ := id HC.out
  go_enter Try.func9, Try.ntmps9
  go_wp2_with fail
  clear c0 c1 c2 c3 c4 c5 c6 c7 c8 c9 c10 c11 c12 c13 c14
  generalize w.alloc (.cells #[.int .i64 k, .int .i64 ex, .int .i64 va, .int .i64 vb, .int .i64 s.k, .int .i64 s.a, .int .i64 s.b, .string s.d, .int .i64 s.x.p, .int .i64 s.x.q, .string s.x.d, .int .i64 s.y.p, .int .i64 s.y.q, .string s.y.d, .int .i64 n] 29) = W1 at *
  refine (CK.out _).mono ?_
  rintro e' W2 ⟨rfl, hA⟩
  replace HC := Lib.hid (HC.out.below hA)
  replace HB := bt HB hA
  clear hA CK
  obtain ⟨c0, c1, c2, c3, c4, c5, c6, c7, c8, c9, c10, c11, c12, c13, c14⟩ := id HC.out
  go_wp2_with fail
  go_ret2
  exact ⟨rfl, HB⟩
set_option maxRecDepth 20000 in
set_option maxHeartbeats 6400000 in
theorem wput_A {k ex va vb : Int} {s : St} {n : Int} (hk : k = 1 ∨ k = 4 ∨ k = 5) (h : mchk ⟨k, ex, va, vb, s, n⟩ = 0) (b : MB k ex va vb s n) (w : World) : Calls Try.prog 9 #[MV k ex va vb s n] w fun e' w' => e' = .returned (.tuple #[.string (mput ⟨k, ex, va, vb, s, n⟩), .int .i64 (mchk ⟨k, ex, va, vb, s, n⟩)]) ∧ Below w.heap.size w w' := by
  have hP := mput_is h
  simp only at hP
  obtain ⟨t0, t1, t2, t3⟩ := tA hk
  have CK := Lib.hid (fun w => wchk_at h w)
  have CO := Lib.hid (fun w => of_ok k w (by omega))
  rw [t0, t1, t2, t3] at CO
  rw [t1, t2, t3] at hP
  simp only [Bool.false_eq_true, if_false, if_true] at hP
  rw [hP, h]
  have hz0 : (⟨#[]⟩ : ByteArray).size = 0 := rfl
  have hz1 := putS_size' ⟨#[]⟩ k 1
  have C1 := Lib.hid (fun w => put_any ⟨#[]⟩ k 1 w b.k (by omega))
  have hz2 := putS_size' (putS ⟨#[]⟩ k 1) ex 1
  have C2 := Lib.hid (fun w => put_any (putS ⟨#[]⟩ k 1) ex 1 w b.ex (by omega))
  have C3 := Lib.hid (fun w => vput_any (putS (putS ⟨#[]⟩ k 1) ex 1) va vb w b.va b.vb (by omega))
  clear hP h hk t0 t1 t2 t3 hz0 hz1 b hz2
  have HC := Lib.hid (MC.new w k ex va vb s n 29)
  have HB : Below w.heap.size w (w.alloc (.cells #[.int .i64 k, .int .i64 ex, .int .i64 va, .int .i64 vb, .int .i64 s.k, .int .i64 s.a, .int .i64 s.b, .string s.d, .int .i64 s.x.p, .int .i64 s.x.q, .string s.x.d, .int .i64 s.y.p, .int .i64 s.y.q, .string s.y.d, .int .i64 n] 29)) := (Below.refl _ _).alloc (Nat.le_refl _) _
  obtain ⟨c0, c1, c2, c3, c4, c5, c6, c7, c8, c9, c10, c11, c12, c13, c14⟩ := id HC.out
  go_enter Try.func9, Try.ntmps9
  go_wp2_with fail
  clear c0 c1 c2 c3 c4 c5 c6 c7 c8 c9 c10 c11 c12 c13 c14
  generalize w.alloc (.cells #[.int .i64 k, .int .i64 ex, .int .i64 va, .int .i64 vb, .int .i64 s.k, .int .i64 s.a, .int .i64 s.b, .string s.d, .int .i64 s.x.p, .int .i64 s.x.q, .string s.x.d, .int .i64 s.y.p, .int .i64 s.y.q, .string s.y.d, .int .i64 n] 29) = W1 at *
  refine (CK.out _).mono ?_
  rintro e' W2 ⟨rfl, hA⟩
  replace HC := Lib.hid (HC.out.below hA)
  replace HB := bt HB hA
  clear hA CK
  obtain ⟨c0, c1, c2, c3, c4, c5, c6, c7, c8, c9, c10, c11, c12, c13, c14⟩ := id HC.out
  go_wp2_with fail
  clear c0 c1 c2 c3 c4 c5 c6 c7 c8 c9 c10 c11 c12 c13 c14
  refine (CO.out _).mono ?_
  rintro e' W3 ⟨rfl, hA⟩
  replace HC := Lib.hid (HC.out.below hA)
  replace HB := bt HB hA
  clear hA CO
  obtain ⟨e0, e1, e2, e3⟩ := held4b (w := W3) (a := true) (b := true) (c := false) (d := false) 52
  have hA := (Below.refl W3.heap.size W3).alloc (Nat.le_refl _) (.cells #[.bool true, .bool true, .bool false, .bool false] 52)
  replace HC := Lib.hid (HC.out.below hA)
  replace HB := bt HB hA
  clear hA
  obtain ⟨c0, c1, c2, c3, c4, c5, c6, c7, c8, c9, c10, c11, c12, c13, c14⟩ := id HC.out
  clear HC
  go_wp2_with (first | (go_at_call 22; (with_reducible refine (C1.out _).mono ?_); clear C1; rintro e' w5 ⟨rfl, hA⟩; replace c0 := bkeep hA c0; replace c1 := bkeep hA c1; replace c2 := bkeep hA c2; replace c3 := bkeep hA c3; replace c4 := bkeep hA c4; replace c5 := bkeep hA c5; replace c6 := bkeep hA c6; replace c7 := bkeep hA c7; replace c8 := bkeep hA c8; replace c9 := bkeep hA c9; replace c10 := bkeep hA c10; replace c11 := bkeep hA c11; replace c12 := bkeep hA c12; replace c13 := bkeep hA c13; replace c14 := bkeep hA c14; replace e0 := bkeep hA e0; replace e1 := bkeep hA e1; replace e2 := bkeep hA e2; replace e3 := bkeep hA e3; replace HB := bt HB hA; clear hA) | (go_at_call 22; (with_reducible refine (C2.out _).mono ?_); clear C2; rintro e' w5 ⟨rfl, hA⟩; replace c0 := bkeep hA c0; replace c1 := bkeep hA c1; replace c2 := bkeep hA c2; replace c3 := bkeep hA c3; replace c4 := bkeep hA c4; replace c5 := bkeep hA c5; replace c6 := bkeep hA c6; replace c7 := bkeep hA c7; replace c8 := bkeep hA c8; replace c9 := bkeep hA c9; replace c10 := bkeep hA c10; replace c11 := bkeep hA c11; replace c12 := bkeep hA c12; replace c13 := bkeep hA c13; replace c14 := bkeep hA c14; replace e0 := bkeep hA e0; replace e1 := bkeep hA e1; replace e2 := bkeep hA e2; replace e3 := bkeep hA e3; replace HB := bt HB hA; clear hA) | (go_at_call 23; (with_reducible refine (C3.out _).mono ?_); clear C3; rintro e' w5 ⟨rfl, hA⟩; replace c0 := bkeep hA c0; replace c1 := bkeep hA c1; replace c2 := bkeep hA c2; replace c3 := bkeep hA c3; replace c4 := bkeep hA c4; replace c5 := bkeep hA c5; replace c6 := bkeep hA c6; replace c7 := bkeep hA c7; replace c8 := bkeep hA c8; replace c9 := bkeep hA c9; replace c10 := bkeep hA c10; replace c11 := bkeep hA c11; replace c12 := bkeep hA c12; replace c13 := bkeep hA c13; replace c14 := bkeep hA c14; replace e0 := bkeep hA e0; replace e1 := bkeep hA e1; replace e2 := bkeep hA e2; replace e3 := bkeep hA e3; replace HB := bt HB hA; clear hA))
  go_ret2
  exact ⟨rfl, HB⟩
set_option maxRecDepth 20000 in
set_option maxHeartbeats 6400000 in
theorem wput_B {k ex va vb : Int} {s : St} {n : Int} (hk : k = 2 ∨ k = 6) (h : mchk ⟨k, ex, va, vb, s, n⟩ = 0) (b : MB k ex va vb s n) (w : World) : Calls Try.prog 9 #[MV k ex va vb s n] w fun e' w' => e' = .returned (.tuple #[.string (mput ⟨k, ex, va, vb, s, n⟩), .int .i64 (mchk ⟨k, ex, va, vb, s, n⟩)]) ∧ Below w.heap.size w w' := by
  have hP := mput_is h
  simp only at hP
  obtain ⟨t0, t1, t2, t3⟩ := tB hk
  have CK := Lib.hid (fun w => wchk_at h w)
  have CO := Lib.hid (fun w => of_ok k w (by omega))
  rw [t0, t1, t2, t3] at CO
  rw [t1, t2, t3] at hP
  simp only [Bool.false_eq_true, if_false, if_true] at hP
  rw [hP, h]
  have hz0 : (⟨#[]⟩ : ByteArray).size = 0 := rfl
  have hz1 := putS_size' ⟨#[]⟩ k 1
  have C1 := Lib.hid (fun w => put_any ⟨#[]⟩ k 1 w b.k (by omega))
  have hz2 := putS_size' (putS ⟨#[]⟩ k 1) ex 1
  have C2 := Lib.hid (fun w => put_any (putS ⟨#[]⟩ k 1) ex 1 w b.ex (by omega))
  clear hP h hk t0 t1 t2 t3 hz0 hz1 b hz2
  have HC := Lib.hid (MC.new w k ex va vb s n 29)
  have HB : Below w.heap.size w (w.alloc (.cells #[.int .i64 k, .int .i64 ex, .int .i64 va, .int .i64 vb, .int .i64 s.k, .int .i64 s.a, .int .i64 s.b, .string s.d, .int .i64 s.x.p, .int .i64 s.x.q, .string s.x.d, .int .i64 s.y.p, .int .i64 s.y.q, .string s.y.d, .int .i64 n] 29)) := (Below.refl _ _).alloc (Nat.le_refl _) _
  obtain ⟨c0, c1, c2, c3, c4, c5, c6, c7, c8, c9, c10, c11, c12, c13, c14⟩ := id HC.out
  go_enter Try.func9, Try.ntmps9
  go_wp2_with fail
  clear c0 c1 c2 c3 c4 c5 c6 c7 c8 c9 c10 c11 c12 c13 c14
  generalize w.alloc (.cells #[.int .i64 k, .int .i64 ex, .int .i64 va, .int .i64 vb, .int .i64 s.k, .int .i64 s.a, .int .i64 s.b, .string s.d, .int .i64 s.x.p, .int .i64 s.x.q, .string s.x.d, .int .i64 s.y.p, .int .i64 s.y.q, .string s.y.d, .int .i64 n] 29) = W1 at *
  refine (CK.out _).mono ?_
  rintro e' W2 ⟨rfl, hA⟩
  replace HC := Lib.hid (HC.out.below hA)
  replace HB := bt HB hA
  clear hA CK
  obtain ⟨c0, c1, c2, c3, c4, c5, c6, c7, c8, c9, c10, c11, c12, c13, c14⟩ := id HC.out
  go_wp2_with fail
  clear c0 c1 c2 c3 c4 c5 c6 c7 c8 c9 c10 c11 c12 c13 c14
  refine (CO.out _).mono ?_
  rintro e' W3 ⟨rfl, hA⟩
  replace HC := Lib.hid (HC.out.below hA)
  replace HB := bt HB hA
  clear hA CO
  obtain ⟨e0, e1, e2, e3⟩ := held4b (w := W3) (a := true) (b := false) (c := false) (d := false) 52
  have hA := (Below.refl W3.heap.size W3).alloc (Nat.le_refl _) (.cells #[.bool true, .bool false, .bool false, .bool false] 52)
  replace HC := Lib.hid (HC.out.below hA)
  replace HB := bt HB hA
  clear hA
  obtain ⟨c0, c1, c2, c3, c4, c5, c6, c7, c8, c9, c10, c11, c12, c13, c14⟩ := id HC.out
  clear HC
  go_wp2_with (first | (go_at_call 22; (with_reducible refine (C1.out _).mono ?_); clear C1; rintro e' w5 ⟨rfl, hA⟩; replace c0 := bkeep hA c0; replace c1 := bkeep hA c1; replace c2 := bkeep hA c2; replace c3 := bkeep hA c3; replace c4 := bkeep hA c4; replace c5 := bkeep hA c5; replace c6 := bkeep hA c6; replace c7 := bkeep hA c7; replace c8 := bkeep hA c8; replace c9 := bkeep hA c9; replace c10 := bkeep hA c10; replace c11 := bkeep hA c11; replace c12 := bkeep hA c12; replace c13 := bkeep hA c13; replace c14 := bkeep hA c14; replace e0 := bkeep hA e0; replace e1 := bkeep hA e1; replace e2 := bkeep hA e2; replace e3 := bkeep hA e3; replace HB := bt HB hA; clear hA) | (go_at_call 22; (with_reducible refine (C2.out _).mono ?_); clear C2; rintro e' w5 ⟨rfl, hA⟩; replace c0 := bkeep hA c0; replace c1 := bkeep hA c1; replace c2 := bkeep hA c2; replace c3 := bkeep hA c3; replace c4 := bkeep hA c4; replace c5 := bkeep hA c5; replace c6 := bkeep hA c6; replace c7 := bkeep hA c7; replace c8 := bkeep hA c8; replace c9 := bkeep hA c9; replace c10 := bkeep hA c10; replace c11 := bkeep hA c11; replace c12 := bkeep hA c12; replace c13 := bkeep hA c13; replace c14 := bkeep hA c14; replace e0 := bkeep hA e0; replace e1 := bkeep hA e1; replace e2 := bkeep hA e2; replace e3 := bkeep hA e3; replace HB := bt HB hA; clear hA))
  go_ret2
  exact ⟨rfl, HB⟩
set_option maxRecDepth 20000 in
set_option maxHeartbeats 6400000 in
theorem wput_C {k ex va vb : Int} {s : St} {n : Int} (hk : k = 3) (h : mchk ⟨k, ex, va, vb, s, n⟩ = 0) (b : MB k ex va vb s n) (w : World) : Calls Try.prog 9 #[MV k ex va vb s n] w fun e' w' => e' = .returned (.tuple #[.string (mput ⟨k, ex, va, vb, s, n⟩), .int .i64 (mchk ⟨k, ex, va, vb, s, n⟩)]) ∧ Below w.heap.size w w' := by
  have hP := mput_is h
  simp only at hP
  obtain ⟨t0, t1, t2, t3⟩ := tC hk
  have hcs := chk_C0 (m := ⟨k, ex, va, vb, s, n⟩) hk h
  simp only at hcs
  have CK := Lib.hid (fun w => wchk_at h w)
  have CO := Lib.hid (fun w => of_ok k w (by omega))
  rw [t0, t1, t2, t3] at CO
  rw [t1, t2, t3] at hP
  simp only [Bool.false_eq_true, if_false, if_true] at hP
  rw [hP, h]
  have hz0 : (⟨#[]⟩ : ByteArray).size = 0 := rfl
  have hz1 := putS_size' ⟨#[]⟩ k 1
  have C1 := Lib.hid (fun w => put_any ⟨#[]⟩ k 1 w b.k (by omega))
  have hz2 := putS_size' (putS ⟨#[]⟩ k 1) ex 1
  have C2 := Lib.hid (fun w => put_any (putS ⟨#[]⟩ k 1) ex 1 w b.ex (by omega))
  have hz3 := putSt_size s b.sd b.xd b.yd
  have hz4 : ¬ 9223372036854775807 < (putS (putS ⟨#[]⟩ k 1) ex 1).size + (putSt s).size := by omega
  have C3 := Lib.hid (fun w => spt_at hcs b w)
  clear hP h hk t0 t1 t2 t3 hz0 hz1 b hz2 hz3 hcs
  have HC := Lib.hid (MC.new w k ex va vb s n 29)
  have HB : Below w.heap.size w (w.alloc (.cells #[.int .i64 k, .int .i64 ex, .int .i64 va, .int .i64 vb, .int .i64 s.k, .int .i64 s.a, .int .i64 s.b, .string s.d, .int .i64 s.x.p, .int .i64 s.x.q, .string s.x.d, .int .i64 s.y.p, .int .i64 s.y.q, .string s.y.d, .int .i64 n] 29)) := (Below.refl _ _).alloc (Nat.le_refl _) _
  obtain ⟨c0, c1, c2, c3, c4, c5, c6, c7, c8, c9, c10, c11, c12, c13, c14⟩ := id HC.out
  go_enter Try.func9, Try.ntmps9
  go_wp2_with fail
  clear c0 c1 c2 c3 c4 c5 c6 c7 c8 c9 c10 c11 c12 c13 c14
  generalize w.alloc (.cells #[.int .i64 k, .int .i64 ex, .int .i64 va, .int .i64 vb, .int .i64 s.k, .int .i64 s.a, .int .i64 s.b, .string s.d, .int .i64 s.x.p, .int .i64 s.x.q, .string s.x.d, .int .i64 s.y.p, .int .i64 s.y.q, .string s.y.d, .int .i64 n] 29) = W1 at *
  refine (CK.out _).mono ?_
  rintro e' W2 ⟨rfl, hA⟩
  replace HC := Lib.hid (HC.out.below hA)
  replace HB := bt HB hA
  clear hA CK
  obtain ⟨c0, c1, c2, c3, c4, c5, c6, c7, c8, c9, c10, c11, c12, c13, c14⟩ := id HC.out
  go_wp2_with fail
  clear c0 c1 c2 c3 c4 c5 c6 c7 c8 c9 c10 c11 c12 c13 c14
  refine (CO.out _).mono ?_
  rintro e' W3 ⟨rfl, hA⟩
  replace HC := Lib.hid (HC.out.below hA)
  replace HB := bt HB hA
  clear hA CO
  obtain ⟨e0, e1, e2, e3⟩ := held4b (w := W3) (a := true) (b := false) (c := true) (d := false) 52
  have hA := (Below.refl W3.heap.size W3).alloc (Nat.le_refl _) (.cells #[.bool true, .bool false, .bool true, .bool false] 52)
  replace HC := Lib.hid (HC.out.below hA)
  replace HB := bt HB hA
  clear hA
  obtain ⟨c0, c1, c2, c3, c4, c5, c6, c7, c8, c9, c10, c11, c12, c13, c14⟩ := id HC.out
  clear HC
  go_wp2_with (first | (go_at_call 22; (with_reducible refine (C1.out _).mono ?_); clear C1; rintro e' w5 ⟨rfl, hA⟩; replace c0 := bkeep hA c0; replace c1 := bkeep hA c1; replace c2 := bkeep hA c2; replace c3 := bkeep hA c3; replace c4 := bkeep hA c4; replace c5 := bkeep hA c5; replace c6 := bkeep hA c6; replace c7 := bkeep hA c7; replace c8 := bkeep hA c8; replace c9 := bkeep hA c9; replace c10 := bkeep hA c10; replace c11 := bkeep hA c11; replace c12 := bkeep hA c12; replace c13 := bkeep hA c13; replace c14 := bkeep hA c14; replace e0 := bkeep hA e0; replace e1 := bkeep hA e1; replace e2 := bkeep hA e2; replace e3 := bkeep hA e3; replace HB := bt HB hA; clear hA) | (go_at_call 22; (with_reducible refine (C2.out _).mono ?_); clear C2; rintro e' w5 ⟨rfl, hA⟩; replace c0 := bkeep hA c0; replace c1 := bkeep hA c1; replace c2 := bkeep hA c2; replace c3 := bkeep hA c3; replace c4 := bkeep hA c4; replace c5 := bkeep hA c5; replace c6 := bkeep hA c6; replace c7 := bkeep hA c7; replace c8 := bkeep hA c8; replace c9 := bkeep hA c9; replace c10 := bkeep hA c10; replace c11 := bkeep hA c11; replace c12 := bkeep hA c12; replace c13 := bkeep hA c13; replace c14 := bkeep hA c14; replace e0 := bkeep hA e0; replace e1 := bkeep hA e1; replace e2 := bkeep hA e2; replace e3 := bkeep hA e3; replace HB := bt HB hA; clear hA) | (go_at_call 24; (with_reducible refine (C3.out _).mono ?_); clear C3; rintro e' w5 ⟨rfl, hA⟩; replace c0 := bkeep hA c0; replace c1 := bkeep hA c1; replace c2 := bkeep hA c2; replace c3 := bkeep hA c3; replace c4 := bkeep hA c4; replace c5 := bkeep hA c5; replace c6 := bkeep hA c6; replace c7 := bkeep hA c7; replace c8 := bkeep hA c8; replace c9 := bkeep hA c9; replace c10 := bkeep hA c10; replace c11 := bkeep hA c11; replace c12 := bkeep hA c12; replace c13 := bkeep hA c13; replace c14 := bkeep hA c14; replace e0 := bkeep hA e0; replace e1 := bkeep hA e1; replace e2 := bkeep hA e2; replace e3 := bkeep hA e3; replace HB := bt HB hA; clear hA))
  go_ret2
  exact ⟨rfl, HB⟩
set_option maxRecDepth 20000 in
set_option maxHeartbeats 6400000 in
theorem wput_D {k ex va vb : Int} {s : St} {n : Int} (hk : k = 7 ∨ k = 8) (h : mchk ⟨k, ex, va, vb, s, n⟩ = 0) (b : MB k ex va vb s n) (w : World) : Calls Try.prog 9 #[MV k ex va vb s n] w fun e' w' => e' = .returned (.tuple #[.string (mput ⟨k, ex, va, vb, s, n⟩), .int .i64 (mchk ⟨k, ex, va, vb, s, n⟩)]) ∧ Below w.heap.size w w' := by
  have hP := mput_is h
  simp only at hP
  obtain ⟨t0, t1, t2, t3⟩ := tD hk
  have CK := Lib.hid (fun w => wchk_at h w)
  have CO := Lib.hid (fun w => of_ok k w (by omega))
  rw [t0, t1, t2, t3] at CO
  rw [t1, t2, t3] at hP
  simp only [Bool.false_eq_true, if_false, if_true] at hP
  rw [hP, h]
  have hz0 : (⟨#[]⟩ : ByteArray).size = 0 := rfl
  have hz1 := putS_size' ⟨#[]⟩ k 1
  have C1 := Lib.hid (fun w => put_any ⟨#[]⟩ k 1 w b.k (by omega))
  have C3 := Lib.hid (fun w => put_any (putS ⟨#[]⟩ k 1) n 1 w b.n (by omega))
  clear hP h hk t0 t1 t2 t3 hz0 hz1 b
  have HC := Lib.hid (MC.new w k ex va vb s n 29)
  have HB : Below w.heap.size w (w.alloc (.cells #[.int .i64 k, .int .i64 ex, .int .i64 va, .int .i64 vb, .int .i64 s.k, .int .i64 s.a, .int .i64 s.b, .string s.d, .int .i64 s.x.p, .int .i64 s.x.q, .string s.x.d, .int .i64 s.y.p, .int .i64 s.y.q, .string s.y.d, .int .i64 n] 29)) := (Below.refl _ _).alloc (Nat.le_refl _) _
  obtain ⟨c0, c1, c2, c3, c4, c5, c6, c7, c8, c9, c10, c11, c12, c13, c14⟩ := id HC.out
  go_enter Try.func9, Try.ntmps9
  go_wp2_with fail
  clear c0 c1 c2 c3 c4 c5 c6 c7 c8 c9 c10 c11 c12 c13 c14
  generalize w.alloc (.cells #[.int .i64 k, .int .i64 ex, .int .i64 va, .int .i64 vb, .int .i64 s.k, .int .i64 s.a, .int .i64 s.b, .string s.d, .int .i64 s.x.p, .int .i64 s.x.q, .string s.x.d, .int .i64 s.y.p, .int .i64 s.y.q, .string s.y.d, .int .i64 n] 29) = W1 at *
  refine (CK.out _).mono ?_
  rintro e' W2 ⟨rfl, hA⟩
  replace HC := Lib.hid (HC.out.below hA)
  replace HB := bt HB hA
  clear hA CK
  obtain ⟨c0, c1, c2, c3, c4, c5, c6, c7, c8, c9, c10, c11, c12, c13, c14⟩ := id HC.out
  go_wp2_with fail
  clear c0 c1 c2 c3 c4 c5 c6 c7 c8 c9 c10 c11 c12 c13 c14
  refine (CO.out _).mono ?_
  rintro e' W3 ⟨rfl, hA⟩
  replace HC := Lib.hid (HC.out.below hA)
  replace HB := bt HB hA
  clear hA CO
  obtain ⟨e0, e1, e2, e3⟩ := held4b (w := W3) (a := false) (b := false) (c := false) (d := true) 52
  have hA := (Below.refl W3.heap.size W3).alloc (Nat.le_refl _) (.cells #[.bool false, .bool false, .bool false, .bool true] 52)
  replace HC := Lib.hid (HC.out.below hA)
  replace HB := bt HB hA
  clear hA
  obtain ⟨c0, c1, c2, c3, c4, c5, c6, c7, c8, c9, c10, c11, c12, c13, c14⟩ := id HC.out
  clear HC
  go_wp2_with (first | (go_at_call 22; (with_reducible refine (C1.out _).mono ?_); clear C1; rintro e' w5 ⟨rfl, hA⟩; replace c0 := bkeep hA c0; replace c1 := bkeep hA c1; replace c2 := bkeep hA c2; replace c3 := bkeep hA c3; replace c4 := bkeep hA c4; replace c5 := bkeep hA c5; replace c6 := bkeep hA c6; replace c7 := bkeep hA c7; replace c8 := bkeep hA c8; replace c9 := bkeep hA c9; replace c10 := bkeep hA c10; replace c11 := bkeep hA c11; replace c12 := bkeep hA c12; replace c13 := bkeep hA c13; replace c14 := bkeep hA c14; replace e0 := bkeep hA e0; replace e1 := bkeep hA e1; replace e2 := bkeep hA e2; replace e3 := bkeep hA e3; replace HB := bt HB hA; clear hA) | (go_at_call 22; (with_reducible refine (C3.out _).mono ?_); clear C3; rintro e' w5 ⟨rfl, hA⟩; replace c0 := bkeep hA c0; replace c1 := bkeep hA c1; replace c2 := bkeep hA c2; replace c3 := bkeep hA c3; replace c4 := bkeep hA c4; replace c5 := bkeep hA c5; replace c6 := bkeep hA c6; replace c7 := bkeep hA c7; replace c8 := bkeep hA c8; replace c9 := bkeep hA c9; replace c10 := bkeep hA c10; replace c11 := bkeep hA c11; replace c12 := bkeep hA c12; replace c13 := bkeep hA c13; replace c14 := bkeep hA c14; replace e0 := bkeep hA e0; replace e1 := bkeep hA e1; replace e2 := bkeep hA e2; replace e3 := bkeep hA e3; replace HB := bt HB hA; clear hA))
  go_ret2
  exact ⟨rfl, HB⟩
theorem wput_any {k ex va vb : Int} {s : St} {n : Int} (b : MB k ex va vb s n) (w : World) : Calls Try.prog 9 #[MV k ex va vb s n] w fun e' w' => e' = .returned (.tuple #[.string (mput ⟨k, ex, va, vb, s, n⟩), .int .i64 (mchk ⟨k, ex, va, vb, s, n⟩)]) ∧ Below w.heap.size w w' := by
  by_cases h : mchk ⟨k, ex, va, vb, s, n⟩ = 0
  · rcases kinds k with g | g | g | g | g
    · rw [mchk_x (m := ⟨k, ex, va, vb, s, n⟩) g] at h; cases h
    · exact wput_A g h b w
    · exact wput_B g h b w
    · exact wput_C g h b w
    · exact wput_D g h b w
  · exact wput_no h w
set_option maxRecDepth 20000 in
set_option maxHeartbeats 3200000 in
theorem rwput_no {k ex va vb : Int} {s : St} {n : Int} (h : ¬ mchk ⟨k, ex, va, vb, s, n⟩ = 0) (w : World) : Calls Try.prog 10 #[MV k ex va vb s n] w fun e' w' => e' = .returned (.tuple #[.string (mput ⟨k, ex, va, vb, s, n⟩), .int .i64 (mchk ⟨k, ex, va, vb, s, n⟩)]) ∧ Below w.heap.size w w' := by
  rw [mput_no h]
  obtain ⟨E, hE⟩ : ∃ E, mchk ⟨k, ex, va, vb, s, n⟩ = E := ⟨_, rfl⟩
  have CK := Lib.hid (fun w => rwchk_at hE w)
  rw [hE] at h ⊢
  have hne : (E != 0) = true := bne_iff_ne.2 h
  clear hE h
  have HC := Lib.hid (MC.new w k ex va vb s n 29)
  have HB : Below w.heap.size w (w.alloc (.cells #[.int .i64 k, .int .i64 ex, .int .i64 va, .int .i64 vb, .int .i64 s.k, .int .i64 s.a, .int .i64 s.b, .string s.d, .int .i64 s.x.p, .int .i64 s.x.q, .string s.x.d, .int .i64 s.y.p, .int .i64 s.y.q, .string s.y.d, .int .i64 n] 29)) := (Below.refl _ _).alloc (Nat.le_refl _) _
  obtain ⟨c0, c1, c2, c3, c4, c5, c6, c7, c8, c9, c10, c11, c12, c13, c14⟩ := id HC.out
  go_enter Try.func10, Try.ntmps10
  go_wp2_with fail
  clear c0 c1 c2 c3 c4 c5 c6 c7 c8 c9 c10 c11 c12 c13 c14
  generalize w.alloc (.cells #[.int .i64 k, .int .i64 ex, .int .i64 va, .int .i64 vb, .int .i64 s.k, .int .i64 s.a, .int .i64 s.b, .string s.d, .int .i64 s.x.p, .int .i64 s.x.q, .string s.x.d, .int .i64 s.y.p, .int .i64 s.y.q, .string s.y.d, .int .i64 n] 29) = W1 at *
  refine (CK.out _).mono ?_
  rintro e' W2 ⟨rfl, hA⟩
  replace HC := Lib.hid (HC.out.below hA)
  replace HB := bt HB hA
  clear hA CK
  obtain ⟨c0, c1, c2, c3, c4, c5, c6, c7, c8, c9, c10, c11, c12, c13, c14⟩ := id HC.out
  go_wp2_with fail
  go_ret2
  exact ⟨rfl, HB⟩
set_option maxRecDepth 20000 in
set_option maxHeartbeats 6400000 in
theorem rwput_A {k ex va vb : Int} {s : St} {n : Int} (hk : k = 1 ∨ k = 4 ∨ k = 5) (h : mchk ⟨k, ex, va, vb, s, n⟩ = 0) (b : MB k ex va vb s n) (w : World) : Calls Try.prog 10 #[MV k ex va vb s n] w fun e' w' => e' = .returned (.tuple #[.string (mput ⟨k, ex, va, vb, s, n⟩), .int .i64 (mchk ⟨k, ex, va, vb, s, n⟩)]) ∧ Below w.heap.size w w' := by
  have hP := mput_is h
  simp only at hP
  obtain ⟨t0, t1, t2, t3⟩ := tA hk
  have CK := Lib.hid (fun w => rwchk_at h w)
  have CO := Lib.hid (fun w => tells_ok k w (by omega))
  rw [t0, t1, t2, t3] at CO
  rw [t1, t2, t3] at hP
  simp only [Bool.false_eq_true, if_false, if_true] at hP
  rw [hP, h]
  have hz0 : (⟨#[]⟩ : ByteArray).size = 0 := rfl
  have hz1 := putS_size' ⟨#[]⟩ k 1
  have C1 := Lib.hid (fun w => rput_any ⟨#[]⟩ k 1 w b.k (by omega))
  have hz2 := putS_size' (putS ⟨#[]⟩ k 1) ex 1
  have C2 := Lib.hid (fun w => rput_any (putS ⟨#[]⟩ k 1) ex 1 w b.ex (by omega))
  have C3 := Lib.hid (fun w => rvput_any (putS (putS ⟨#[]⟩ k 1) ex 1) va vb w b.va b.vb (by omega))
  clear hP h hk t0 t1 t2 t3 hz0 hz1 b hz2
  have HC := Lib.hid (MC.new w k ex va vb s n 29)
  have HB : Below w.heap.size w (w.alloc (.cells #[.int .i64 k, .int .i64 ex, .int .i64 va, .int .i64 vb, .int .i64 s.k, .int .i64 s.a, .int .i64 s.b, .string s.d, .int .i64 s.x.p, .int .i64 s.x.q, .string s.x.d, .int .i64 s.y.p, .int .i64 s.y.q, .string s.y.d, .int .i64 n] 29)) := (Below.refl _ _).alloc (Nat.le_refl _) _
  obtain ⟨c0, c1, c2, c3, c4, c5, c6, c7, c8, c9, c10, c11, c12, c13, c14⟩ := id HC.out
  go_enter Try.func10, Try.ntmps10
  go_wp2_with fail
  clear c0 c1 c2 c3 c4 c5 c6 c7 c8 c9 c10 c11 c12 c13 c14
  generalize w.alloc (.cells #[.int .i64 k, .int .i64 ex, .int .i64 va, .int .i64 vb, .int .i64 s.k, .int .i64 s.a, .int .i64 s.b, .string s.d, .int .i64 s.x.p, .int .i64 s.x.q, .string s.x.d, .int .i64 s.y.p, .int .i64 s.y.q, .string s.y.d, .int .i64 n] 29) = W1 at *
  refine (CK.out _).mono ?_
  rintro e' W2 ⟨rfl, hA⟩
  replace HC := Lib.hid (HC.out.below hA)
  replace HB := bt HB hA
  clear hA CK
  obtain ⟨c0, c1, c2, c3, c4, c5, c6, c7, c8, c9, c10, c11, c12, c13, c14⟩ := id HC.out
  go_wp2_with fail
  clear c0 c1 c2 c3 c4 c5 c6 c7 c8 c9 c10 c11 c12 c13 c14
  refine (CO.out _).mono ?_
  rintro e' W3 ⟨rfl, hA⟩
  replace HC := Lib.hid (HC.out.below hA)
  replace HB := bt HB hA
  clear hA CO
  obtain ⟨e0, e1, e2, e3⟩ := held4b (w := W3) (a := true) (b := true) (c := false) (d := false) 58
  have hA := (Below.refl W3.heap.size W3).alloc (Nat.le_refl _) (.cells #[.bool true, .bool true, .bool false, .bool false] 58)
  replace HC := Lib.hid (HC.out.below hA)
  replace HB := bt HB hA
  clear hA
  obtain ⟨c0, c1, c2, c3, c4, c5, c6, c7, c8, c9, c10, c11, c12, c13, c14⟩ := id HC.out
  clear HC
  go_wp2_with (first | (go_at_call 26; (with_reducible refine (C1.out _).mono ?_); clear C1; rintro e' w5 ⟨rfl, hA⟩; replace c0 := bkeep hA c0; replace c1 := bkeep hA c1; replace c2 := bkeep hA c2; replace c3 := bkeep hA c3; replace c4 := bkeep hA c4; replace c5 := bkeep hA c5; replace c6 := bkeep hA c6; replace c7 := bkeep hA c7; replace c8 := bkeep hA c8; replace c9 := bkeep hA c9; replace c10 := bkeep hA c10; replace c11 := bkeep hA c11; replace c12 := bkeep hA c12; replace c13 := bkeep hA c13; replace c14 := bkeep hA c14; replace e0 := bkeep hA e0; replace e1 := bkeep hA e1; replace e2 := bkeep hA e2; replace e3 := bkeep hA e3; replace HB := bt HB hA; clear hA) | (go_at_call 26; (with_reducible refine (C2.out _).mono ?_); clear C2; rintro e' w5 ⟨rfl, hA⟩; replace c0 := bkeep hA c0; replace c1 := bkeep hA c1; replace c2 := bkeep hA c2; replace c3 := bkeep hA c3; replace c4 := bkeep hA c4; replace c5 := bkeep hA c5; replace c6 := bkeep hA c6; replace c7 := bkeep hA c7; replace c8 := bkeep hA c8; replace c9 := bkeep hA c9; replace c10 := bkeep hA c10; replace c11 := bkeep hA c11; replace c12 := bkeep hA c12; replace c13 := bkeep hA c13; replace c14 := bkeep hA c14; replace e0 := bkeep hA e0; replace e1 := bkeep hA e1; replace e2 := bkeep hA e2; replace e3 := bkeep hA e3; replace HB := bt HB hA; clear hA) | (go_at_call 27; (with_reducible refine (C3.out _).mono ?_); clear C3; rintro e' w5 ⟨rfl, hA⟩; replace c0 := bkeep hA c0; replace c1 := bkeep hA c1; replace c2 := bkeep hA c2; replace c3 := bkeep hA c3; replace c4 := bkeep hA c4; replace c5 := bkeep hA c5; replace c6 := bkeep hA c6; replace c7 := bkeep hA c7; replace c8 := bkeep hA c8; replace c9 := bkeep hA c9; replace c10 := bkeep hA c10; replace c11 := bkeep hA c11; replace c12 := bkeep hA c12; replace c13 := bkeep hA c13; replace c14 := bkeep hA c14; replace e0 := bkeep hA e0; replace e1 := bkeep hA e1; replace e2 := bkeep hA e2; replace e3 := bkeep hA e3; replace HB := bt HB hA; clear hA))
  go_ret2
  exact ⟨rfl, HB⟩
set_option maxRecDepth 20000 in
set_option maxHeartbeats 6400000 in
theorem rwput_B {k ex va vb : Int} {s : St} {n : Int} (hk : k = 2 ∨ k = 6) (h : mchk ⟨k, ex, va, vb, s, n⟩ = 0) (b : MB k ex va vb s n) (w : World) : Calls Try.prog 10 #[MV k ex va vb s n] w fun e' w' => e' = .returned (.tuple #[.string (mput ⟨k, ex, va, vb, s, n⟩), .int .i64 (mchk ⟨k, ex, va, vb, s, n⟩)]) ∧ Below w.heap.size w w' := by
  have hP := mput_is h
  simp only at hP
  obtain ⟨t0, t1, t2, t3⟩ := tB hk
  have CK := Lib.hid (fun w => rwchk_at h w)
  have CO := Lib.hid (fun w => tells_ok k w (by omega))
  rw [t0, t1, t2, t3] at CO
  rw [t1, t2, t3] at hP
  simp only [Bool.false_eq_true, if_false, if_true] at hP
  rw [hP, h]
  have hz0 : (⟨#[]⟩ : ByteArray).size = 0 := rfl
  have hz1 := putS_size' ⟨#[]⟩ k 1
  have C1 := Lib.hid (fun w => rput_any ⟨#[]⟩ k 1 w b.k (by omega))
  have hz2 := putS_size' (putS ⟨#[]⟩ k 1) ex 1
  have C2 := Lib.hid (fun w => rput_any (putS ⟨#[]⟩ k 1) ex 1 w b.ex (by omega))
  clear hP h hk t0 t1 t2 t3 hz0 hz1 b hz2
  have HC := Lib.hid (MC.new w k ex va vb s n 29)
  have HB : Below w.heap.size w (w.alloc (.cells #[.int .i64 k, .int .i64 ex, .int .i64 va, .int .i64 vb, .int .i64 s.k, .int .i64 s.a, .int .i64 s.b, .string s.d, .int .i64 s.x.p, .int .i64 s.x.q, .string s.x.d, .int .i64 s.y.p, .int .i64 s.y.q, .string s.y.d, .int .i64 n] 29)) := (Below.refl _ _).alloc (Nat.le_refl _) _
  obtain ⟨c0, c1, c2, c3, c4, c5, c6, c7, c8, c9, c10, c11, c12, c13, c14⟩ := id HC.out
  go_enter Try.func10, Try.ntmps10
  go_wp2_with fail
  clear c0 c1 c2 c3 c4 c5 c6 c7 c8 c9 c10 c11 c12 c13 c14
  generalize w.alloc (.cells #[.int .i64 k, .int .i64 ex, .int .i64 va, .int .i64 vb, .int .i64 s.k, .int .i64 s.a, .int .i64 s.b, .string s.d, .int .i64 s.x.p, .int .i64 s.x.q, .string s.x.d, .int .i64 s.y.p, .int .i64 s.y.q, .string s.y.d, .int .i64 n] 29) = W1 at *
  refine (CK.out _).mono ?_
  rintro e' W2 ⟨rfl, hA⟩
  replace HC := Lib.hid (HC.out.below hA)
  replace HB := bt HB hA
  clear hA CK
  obtain ⟨c0, c1, c2, c3, c4, c5, c6, c7, c8, c9, c10, c11, c12, c13, c14⟩ := id HC.out
  go_wp2_with fail
  clear c0 c1 c2 c3 c4 c5 c6 c7 c8 c9 c10 c11 c12 c13 c14
  refine (CO.out _).mono ?_
  rintro e' W3 ⟨rfl, hA⟩
  replace HC := Lib.hid (HC.out.below hA)
  replace HB := bt HB hA
  clear hA CO
  obtain ⟨e0, e1, e2, e3⟩ := held4b (w := W3) (a := true) (b := false) (c := false) (d := false) 58
  have hA := (Below.refl W3.heap.size W3).alloc (Nat.le_refl _) (.cells #[.bool true, .bool false, .bool false, .bool false] 58)
  replace HC := Lib.hid (HC.out.below hA)
  replace HB := bt HB hA
  clear hA
  obtain ⟨c0, c1, c2, c3, c4, c5, c6, c7, c8, c9, c10, c11, c12, c13, c14⟩ := id HC.out
  clear HC
  go_wp2_with (first | (go_at_call 26; (with_reducible refine (C1.out _).mono ?_); clear C1; rintro e' w5 ⟨rfl, hA⟩; replace c0 := bkeep hA c0; replace c1 := bkeep hA c1; replace c2 := bkeep hA c2; replace c3 := bkeep hA c3; replace c4 := bkeep hA c4; replace c5 := bkeep hA c5; replace c6 := bkeep hA c6; replace c7 := bkeep hA c7; replace c8 := bkeep hA c8; replace c9 := bkeep hA c9; replace c10 := bkeep hA c10; replace c11 := bkeep hA c11; replace c12 := bkeep hA c12; replace c13 := bkeep hA c13; replace c14 := bkeep hA c14; replace e0 := bkeep hA e0; replace e1 := bkeep hA e1; replace e2 := bkeep hA e2; replace e3 := bkeep hA e3; replace HB := bt HB hA; clear hA) | (go_at_call 26; (with_reducible refine (C2.out _).mono ?_); clear C2; rintro e' w5 ⟨rfl, hA⟩; replace c0 := bkeep hA c0; replace c1 := bkeep hA c1; replace c2 := bkeep hA c2; replace c3 := bkeep hA c3; replace c4 := bkeep hA c4; replace c5 := bkeep hA c5; replace c6 := bkeep hA c6; replace c7 := bkeep hA c7; replace c8 := bkeep hA c8; replace c9 := bkeep hA c9; replace c10 := bkeep hA c10; replace c11 := bkeep hA c11; replace c12 := bkeep hA c12; replace c13 := bkeep hA c13; replace c14 := bkeep hA c14; replace e0 := bkeep hA e0; replace e1 := bkeep hA e1; replace e2 := bkeep hA e2; replace e3 := bkeep hA e3; replace HB := bt HB hA; clear hA))
  go_ret2
  exact ⟨rfl, HB⟩
set_option maxRecDepth 20000 in
set_option maxHeartbeats 6400000 in
theorem rwput_C {k ex va vb : Int} {s : St} {n : Int} (hk : k = 3) (h : mchk ⟨k, ex, va, vb, s, n⟩ = 0) (b : MB k ex va vb s n) (w : World) : Calls Try.prog 10 #[MV k ex va vb s n] w fun e' w' => e' = .returned (.tuple #[.string (mput ⟨k, ex, va, vb, s, n⟩), .int .i64 (mchk ⟨k, ex, va, vb, s, n⟩)]) ∧ Below w.heap.size w w' := by
  have hP := mput_is h
  simp only at hP
  obtain ⟨t0, t1, t2, t3⟩ := tC hk
  have hcs := chk_C0 (m := ⟨k, ex, va, vb, s, n⟩) hk h
  simp only at hcs
  have CK := Lib.hid (fun w => rwchk_at h w)
  have CO := Lib.hid (fun w => tells_ok k w (by omega))
  rw [t0, t1, t2, t3] at CO
  rw [t1, t2, t3] at hP
  simp only [Bool.false_eq_true, if_false, if_true] at hP
  rw [hP, h]
  have hz0 : (⟨#[]⟩ : ByteArray).size = 0 := rfl
  have hz1 := putS_size' ⟨#[]⟩ k 1
  have C1 := Lib.hid (fun w => rput_any ⟨#[]⟩ k 1 w b.k (by omega))
  have hz2 := putS_size' (putS ⟨#[]⟩ k 1) ex 1
  have C2 := Lib.hid (fun w => rput_any (putS ⟨#[]⟩ k 1) ex 1 w b.ex (by omega))
  have hz3 := putSt_size s b.sd b.xd b.yd
  have hz4 : ¬ 9223372036854775807 < (putS (putS ⟨#[]⟩ k 1) ex 1).size + (putSt s).size := by omega
  have C3 := Lib.hid (fun w => rspt_at hcs b w)
  clear hP h hk t0 t1 t2 t3 hz0 hz1 b hz2 hz3 hcs
  have HC := Lib.hid (MC.new w k ex va vb s n 29)
  have HB : Below w.heap.size w (w.alloc (.cells #[.int .i64 k, .int .i64 ex, .int .i64 va, .int .i64 vb, .int .i64 s.k, .int .i64 s.a, .int .i64 s.b, .string s.d, .int .i64 s.x.p, .int .i64 s.x.q, .string s.x.d, .int .i64 s.y.p, .int .i64 s.y.q, .string s.y.d, .int .i64 n] 29)) := (Below.refl _ _).alloc (Nat.le_refl _) _
  obtain ⟨c0, c1, c2, c3, c4, c5, c6, c7, c8, c9, c10, c11, c12, c13, c14⟩ := id HC.out
  go_enter Try.func10, Try.ntmps10
  go_wp2_with fail
  clear c0 c1 c2 c3 c4 c5 c6 c7 c8 c9 c10 c11 c12 c13 c14
  generalize w.alloc (.cells #[.int .i64 k, .int .i64 ex, .int .i64 va, .int .i64 vb, .int .i64 s.k, .int .i64 s.a, .int .i64 s.b, .string s.d, .int .i64 s.x.p, .int .i64 s.x.q, .string s.x.d, .int .i64 s.y.p, .int .i64 s.y.q, .string s.y.d, .int .i64 n] 29) = W1 at *
  refine (CK.out _).mono ?_
  rintro e' W2 ⟨rfl, hA⟩
  replace HC := Lib.hid (HC.out.below hA)
  replace HB := bt HB hA
  clear hA CK
  obtain ⟨c0, c1, c2, c3, c4, c5, c6, c7, c8, c9, c10, c11, c12, c13, c14⟩ := id HC.out
  go_wp2_with fail
  clear c0 c1 c2 c3 c4 c5 c6 c7 c8 c9 c10 c11 c12 c13 c14
  refine (CO.out _).mono ?_
  rintro e' W3 ⟨rfl, hA⟩
  replace HC := Lib.hid (HC.out.below hA)
  replace HB := bt HB hA
  clear hA CO
  obtain ⟨e0, e1, e2, e3⟩ := held4b (w := W3) (a := true) (b := false) (c := true) (d := false) 58
  have hA := (Below.refl W3.heap.size W3).alloc (Nat.le_refl _) (.cells #[.bool true, .bool false, .bool true, .bool false] 58)
  replace HC := Lib.hid (HC.out.below hA)
  replace HB := bt HB hA
  clear hA
  obtain ⟨c0, c1, c2, c3, c4, c5, c6, c7, c8, c9, c10, c11, c12, c13, c14⟩ := id HC.out
  clear HC
  go_wp2_with (first | (go_at_call 26; (with_reducible refine (C1.out _).mono ?_); clear C1; rintro e' w5 ⟨rfl, hA⟩; replace c0 := bkeep hA c0; replace c1 := bkeep hA c1; replace c2 := bkeep hA c2; replace c3 := bkeep hA c3; replace c4 := bkeep hA c4; replace c5 := bkeep hA c5; replace c6 := bkeep hA c6; replace c7 := bkeep hA c7; replace c8 := bkeep hA c8; replace c9 := bkeep hA c9; replace c10 := bkeep hA c10; replace c11 := bkeep hA c11; replace c12 := bkeep hA c12; replace c13 := bkeep hA c13; replace c14 := bkeep hA c14; replace e0 := bkeep hA e0; replace e1 := bkeep hA e1; replace e2 := bkeep hA e2; replace e3 := bkeep hA e3; replace HB := bt HB hA; clear hA) | (go_at_call 26; (with_reducible refine (C2.out _).mono ?_); clear C2; rintro e' w5 ⟨rfl, hA⟩; replace c0 := bkeep hA c0; replace c1 := bkeep hA c1; replace c2 := bkeep hA c2; replace c3 := bkeep hA c3; replace c4 := bkeep hA c4; replace c5 := bkeep hA c5; replace c6 := bkeep hA c6; replace c7 := bkeep hA c7; replace c8 := bkeep hA c8; replace c9 := bkeep hA c9; replace c10 := bkeep hA c10; replace c11 := bkeep hA c11; replace c12 := bkeep hA c12; replace c13 := bkeep hA c13; replace c14 := bkeep hA c14; replace e0 := bkeep hA e0; replace e1 := bkeep hA e1; replace e2 := bkeep hA e2; replace e3 := bkeep hA e3; replace HB := bt HB hA; clear hA) | (go_at_call 28; (with_reducible refine (C3.out _).mono ?_); clear C3; rintro e' w5 ⟨rfl, hA⟩; replace c0 := bkeep hA c0; replace c1 := bkeep hA c1; replace c2 := bkeep hA c2; replace c3 := bkeep hA c3; replace c4 := bkeep hA c4; replace c5 := bkeep hA c5; replace c6 := bkeep hA c6; replace c7 := bkeep hA c7; replace c8 := bkeep hA c8; replace c9 := bkeep hA c9; replace c10 := bkeep hA c10; replace c11 := bkeep hA c11; replace c12 := bkeep hA c12; replace c13 := bkeep hA c13; replace c14 := bkeep hA c14; replace e0 := bkeep hA e0; replace e1 := bkeep hA e1; replace e2 := bkeep hA e2; replace e3 := bkeep hA e3; replace HB := bt HB hA; clear hA))
  go_ret2
  exact ⟨rfl, HB⟩
set_option maxRecDepth 20000 in
set_option maxHeartbeats 6400000 in
theorem rwput_D {k ex va vb : Int} {s : St} {n : Int} (hk : k = 7 ∨ k = 8) (h : mchk ⟨k, ex, va, vb, s, n⟩ = 0) (b : MB k ex va vb s n) (w : World) : Calls Try.prog 10 #[MV k ex va vb s n] w fun e' w' => e' = .returned (.tuple #[.string (mput ⟨k, ex, va, vb, s, n⟩), .int .i64 (mchk ⟨k, ex, va, vb, s, n⟩)]) ∧ Below w.heap.size w w' := by
  have hP := mput_is h
  simp only at hP
  obtain ⟨t0, t1, t2, t3⟩ := tD hk
  have CK := Lib.hid (fun w => rwchk_at h w)
  have CO := Lib.hid (fun w => tells_ok k w (by omega))
  rw [t0, t1, t2, t3] at CO
  rw [t1, t2, t3] at hP
  simp only [Bool.false_eq_true, if_false, if_true] at hP
  rw [hP, h]
  have hz0 : (⟨#[]⟩ : ByteArray).size = 0 := rfl
  have hz1 := putS_size' ⟨#[]⟩ k 1
  have C1 := Lib.hid (fun w => rput_any ⟨#[]⟩ k 1 w b.k (by omega))
  have C3 := Lib.hid (fun w => rput_any (putS ⟨#[]⟩ k 1) n 1 w b.n (by omega))
  clear hP h hk t0 t1 t2 t3 hz0 hz1 b
  have HC := Lib.hid (MC.new w k ex va vb s n 29)
  have HB : Below w.heap.size w (w.alloc (.cells #[.int .i64 k, .int .i64 ex, .int .i64 va, .int .i64 vb, .int .i64 s.k, .int .i64 s.a, .int .i64 s.b, .string s.d, .int .i64 s.x.p, .int .i64 s.x.q, .string s.x.d, .int .i64 s.y.p, .int .i64 s.y.q, .string s.y.d, .int .i64 n] 29)) := (Below.refl _ _).alloc (Nat.le_refl _) _
  obtain ⟨c0, c1, c2, c3, c4, c5, c6, c7, c8, c9, c10, c11, c12, c13, c14⟩ := id HC.out
  go_enter Try.func10, Try.ntmps10
  go_wp2_with fail
  clear c0 c1 c2 c3 c4 c5 c6 c7 c8 c9 c10 c11 c12 c13 c14
  generalize w.alloc (.cells #[.int .i64 k, .int .i64 ex, .int .i64 va, .int .i64 vb, .int .i64 s.k, .int .i64 s.a, .int .i64 s.b, .string s.d, .int .i64 s.x.p, .int .i64 s.x.q, .string s.x.d, .int .i64 s.y.p, .int .i64 s.y.q, .string s.y.d, .int .i64 n] 29) = W1 at *
  refine (CK.out _).mono ?_
  rintro e' W2 ⟨rfl, hA⟩
  replace HC := Lib.hid (HC.out.below hA)
  replace HB := bt HB hA
  clear hA CK
  obtain ⟨c0, c1, c2, c3, c4, c5, c6, c7, c8, c9, c10, c11, c12, c13, c14⟩ := id HC.out
  go_wp2_with fail
  clear c0 c1 c2 c3 c4 c5 c6 c7 c8 c9 c10 c11 c12 c13 c14
  refine (CO.out _).mono ?_
  rintro e' W3 ⟨rfl, hA⟩
  replace HC := Lib.hid (HC.out.below hA)
  replace HB := bt HB hA
  clear hA CO
  obtain ⟨e0, e1, e2, e3⟩ := held4b (w := W3) (a := false) (b := false) (c := false) (d := true) 58
  have hA := (Below.refl W3.heap.size W3).alloc (Nat.le_refl _) (.cells #[.bool false, .bool false, .bool false, .bool true] 58)
  replace HC := Lib.hid (HC.out.below hA)
  replace HB := bt HB hA
  clear hA
  obtain ⟨c0, c1, c2, c3, c4, c5, c6, c7, c8, c9, c10, c11, c12, c13, c14⟩ := id HC.out
  clear HC
  go_wp2_with (first | (go_at_call 26; (with_reducible refine (C1.out _).mono ?_); clear C1; rintro e' w5 ⟨rfl, hA⟩; replace c0 := bkeep hA c0; replace c1 := bkeep hA c1; replace c2 := bkeep hA c2; replace c3 := bkeep hA c3; replace c4 := bkeep hA c4; replace c5 := bkeep hA c5; replace c6 := bkeep hA c6; replace c7 := bkeep hA c7; replace c8 := bkeep hA c8; replace c9 := bkeep hA c9; replace c10 := bkeep hA c10; replace c11 := bkeep hA c11; replace c12 := bkeep hA c12; replace c13 := bkeep hA c13; replace c14 := bkeep hA c14; replace e0 := bkeep hA e0; replace e1 := bkeep hA e1; replace e2 := bkeep hA e2; replace e3 := bkeep hA e3; replace HB := bt HB hA; clear hA) | (go_at_call 26; (with_reducible refine (C3.out _).mono ?_); clear C3; rintro e' w5 ⟨rfl, hA⟩; replace c0 := bkeep hA c0; replace c1 := bkeep hA c1; replace c2 := bkeep hA c2; replace c3 := bkeep hA c3; replace c4 := bkeep hA c4; replace c5 := bkeep hA c5; replace c6 := bkeep hA c6; replace c7 := bkeep hA c7; replace c8 := bkeep hA c8; replace c9 := bkeep hA c9; replace c10 := bkeep hA c10; replace c11 := bkeep hA c11; replace c12 := bkeep hA c12; replace c13 := bkeep hA c13; replace c14 := bkeep hA c14; replace e0 := bkeep hA e0; replace e1 := bkeep hA e1; replace e2 := bkeep hA e2; replace e3 := bkeep hA e3; replace HB := bt HB hA; clear hA))
  go_ret2
  exact ⟨rfl, HB⟩
theorem rwput_any {k ex va vb : Int} {s : St} {n : Int} (b : MB k ex va vb s n) (w : World) : Calls Try.prog 10 #[MV k ex va vb s n] w fun e' w' => e' = .returned (.tuple #[.string (mput ⟨k, ex, va, vb, s, n⟩), .int .i64 (mchk ⟨k, ex, va, vb, s, n⟩)]) ∧ Below w.heap.size w w' := by
  by_cases h : mchk ⟨k, ex, va, vb, s, n⟩ = 0
  · rcases kinds k with g | g | g | g | g
    · rw [mchk_x (m := ⟨k, ex, va, vb, s, n⟩) g] at h; cases h
    · exact rwput_A g h b w
    · exact rwput_B g h b w
    · exact rwput_C g h b w
    · exact rwput_D g h b w
  · exact rwput_no h w
end Go.Proofs.Ytemfdmbjlmiopaa
