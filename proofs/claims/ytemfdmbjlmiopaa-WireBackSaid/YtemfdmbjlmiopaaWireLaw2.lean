/-
  The statement WireBack (chapter 25).
-/
import Derived.Test.YtemfdmbjlmiopaaWireLaw
namespace Go.Proofs.Ytemfdmbjlmiopaa
open Go.RowKit
set_option linter.unusedVariables false
set_option linter.unusedSimpArgs false
theorem mput_size {k ex va vb : Int} {s : St} {n : Int} (b : MB k ex va vb s n) : (mput ⟨k, ex, va, vb, s, n⟩).size ≤ 200000 := by
  have hz0 : (⟨#[]⟩ : ByteArray).size = 0 := rfl
  have h1 := putS_size' ⟨#[]⟩ k 1
  have h2 := putS_size' (putS ⟨#[]⟩ k 1) ex 1
  have h3 := vputS_size (putS (putS ⟨#[]⟩ k 1) ex 1) va vb
  have h4 := putSt_size s b.sd b.xd b.yd
  have h5 := putS_size' (putS ⟨#[]⟩ k 1) n 1
  unfold mput
  simp only
  split
  · omega
  · split
    · omega
    · split
      · rw [ByteArray.size_append]; omega
      · split <;> omega
theorem meq_same (k ex va vb : Int) (s : St) (n : Int) (W : World) : (binOp .eql 29 (MV k ex va vb s n) (MV k ex va vb s n)).run Try.prog W = .ok (.bool true) W := by
  simp [go_sem]
set_option maxRecDepth 100000 in
set_option maxHeartbeats 12800000 in
theorem back_walk {k ex va vb : Int} {s : St} {n : Int} (hk : k ≤ 9223372036854775807) (hex : ex ≤ 9223372036854775807) (hva : va ≤ 9223372036854775807) (hvb : vb ≤ 9223372036854775807) (hn : n ≤ 9223372036854775807) (hsa : s.a ≤ 9223372036854775807) (hsb : s.b ≤ 9223372036854775807) (hxp : s.x.p ≤ 9223372036854775807) (hxq : s.x.q ≤ 9223372036854775807) (hyp : s.y.p ≤ 9223372036854775807) (hyq : s.y.q ≤ 9223372036854775807) (more : ByteArray) (c : Int) {w : World} :
    Calls Try.prog 5 #[MV k ex va vb s n, .string more, .int .i64 c] w fun e' w' => e' = .returned (.bool true) ∧ Below w.heap.size w w' := by
  cases hbig : (decide (1000 < (s.d.size : Int)) || (decide (1000 < (s.x.d.size : Int)) || decide (1000 < (s.y.d.size : Int))))
  case true =>
    have HC := Lib.hid (MC.new w k ex va vb s n 29)
    have HB : Below w.heap.size w (w.alloc (.cells #[.int .i64 k, .int .i64 ex, .int .i64 va, .int .i64 vb, .int .i64 s.k, .int .i64 s.a, .int .i64 s.b, .string s.d, .int .i64 s.x.p, .int .i64 s.x.q, .string s.x.d, .int .i64 s.y.p, .int .i64 s.y.q, .string s.y.d, .int .i64 n] 29)) := (Below.refl _ _).alloc (Nat.le_refl _) _
    obtain ⟨c0, c1, c2, c3, c4, c5, c6, c7, c8, c9, c10, c11, c12, c13, c14⟩ := id HC.out
    go_enter Try.func5, Try.ntmps5
    go_wp2_with fail
    generalize w.alloc (.cells #[.int .i64 k, .int .i64 ex, .int .i64 va, .int .i64 vb, .int .i64 s.k, .int .i64 s.a, .int .i64 s.b, .string s.d, .int .i64 s.x.p, .int .i64 s.x.q, .string s.x.d, .int .i64 s.y.p, .int .i64 s.y.q, .string s.y.d, .int .i64 n] 29) = W2 at *
    clear c0 c1 c2 c3 c4 c5 c6 c7 c8 c9 c10 c11 c12 c13 c14
    refine (works_any _).mono ?_
    rintro e' W3 ⟨rfl, hA⟩
    replace HC := Lib.hid (HC.out.below hA)
    replace HB := bt HB hA
    clear hA
    obtain ⟨c0, c1, c2, c3, c4, c5, c6, c7, c8, c9, c10, c11, c12, c13, c14⟩ := id HC.out
    go_wp2_with fail
    clear c0 c1 c2 c3 c4 c5 c6 c7 c8 c9 c10 c11 c12 c13 c14
    refine (big_any _ _ _ _ _ _ _ _ _ _ _).mono ?_
    rintro e' W4 ⟨rfl, hA⟩
    replace HC := Lib.hid (HC.out.below hA)
    replace HB := bt HB hA
    clear hA
    rw [hbig]
    obtain ⟨c0, c1, c2, c3, c4, c5, c6, c7, c8, c9, c10, c11, c12, c13, c14⟩ := id HC.out
    go_wp2
    go_ret
    exact ⟨rfl, HB⟩
  cases hm1 : decide (1000 < (more.size : Int))
  case true =>
    have HC := Lib.hid (MC.new w k ex va vb s n 29)
    have HB : Below w.heap.size w (w.alloc (.cells #[.int .i64 k, .int .i64 ex, .int .i64 va, .int .i64 vb, .int .i64 s.k, .int .i64 s.a, .int .i64 s.b, .string s.d, .int .i64 s.x.p, .int .i64 s.x.q, .string s.x.d, .int .i64 s.y.p, .int .i64 s.y.q, .string s.y.d, .int .i64 n] 29)) := (Below.refl _ _).alloc (Nat.le_refl _) _
    obtain ⟨c0, c1, c2, c3, c4, c5, c6, c7, c8, c9, c10, c11, c12, c13, c14⟩ := id HC.out
    go_enter Try.func5, Try.ntmps5
    go_wp2_with fail
    generalize w.alloc (.cells #[.int .i64 k, .int .i64 ex, .int .i64 va, .int .i64 vb, .int .i64 s.k, .int .i64 s.a, .int .i64 s.b, .string s.d, .int .i64 s.x.p, .int .i64 s.x.q, .string s.x.d, .int .i64 s.y.p, .int .i64 s.y.q, .string s.y.d, .int .i64 n] 29) = W2 at *
    clear c0 c1 c2 c3 c4 c5 c6 c7 c8 c9 c10 c11 c12 c13 c14
    refine (works_any _).mono ?_
    rintro e' W3 ⟨rfl, hA⟩
    replace HC := Lib.hid (HC.out.below hA)
    replace HB := bt HB hA
    clear hA
    obtain ⟨c0, c1, c2, c3, c4, c5, c6, c7, c8, c9, c10, c11, c12, c13, c14⟩ := id HC.out
    go_wp2_with fail
    clear c0 c1 c2 c3 c4 c5 c6 c7 c8 c9 c10 c11 c12 c13 c14
    refine (big_any _ _ _ _ _ _ _ _ _ _ _).mono ?_
    rintro e' W4 ⟨rfl, hA⟩
    replace HC := Lib.hid (HC.out.below hA)
    replace HB := bt HB hA
    clear hA
    rw [hbig]
    obtain ⟨c0, c1, c2, c3, c4, c5, c6, c7, c8, c9, c10, c11, c12, c13, c14⟩ := id HC.out
    go_wp2
    go_ret
    exact ⟨rfl, HB⟩
  have hb2 := hbig
  simp only [Bool.or_eq_false_iff, decide_eq_false_iff_not] at hb2
  obtain ⟨g1, g2, g3⟩ := hb2
  have hms : ¬ 1000 < (more.size : Int) := of_decide_eq_false hm1
  have mb : MB k ex va vb s n := ⟨hk, hex, hva, hvb, hn, hsa, hsb, by omega, hxp, hxq, by omega, hyp, hyq, by omega⟩
  have CP := fun w => wput_any mb w
  have hsz := mput_size mb
  have hno := mput_no (m := ⟨k, ex, va, vb, s, n⟩)
  have hpg := mput_get ⟨k, ex, va, vb, s, n⟩
  obtain ⟨E, hE⟩ : ∃ E, mchk ⟨k, ex, va, vb, s, n⟩ = E := ⟨_, rfl⟩
  rw [hE] at CP hno hpg
  generalize mput ⟨k, ex, va, vb, s, n⟩ = A at *
  replace CP := Lib.hid CP
  clear hE mb g1 g2 g3 hk hex hva hvb hn hsa hsb hxp hxq hyp hyq
  by_cases hE0 : E = 0
  case neg =>
    have hA := hno hE0
    subst hA
    have m1 : (E == 0) = false := beq_eq_false_iff_ne.2 hE0
    have m2 : (E != 0) = true := bne_iff_ne.2 hE0
    clear hno hpg hE0 hsz hms
    have HC := Lib.hid (MC.new w k ex va vb s n 29)
    have HB : Below w.heap.size w (w.alloc (.cells #[.int .i64 k, .int .i64 ex, .int .i64 va, .int .i64 vb, .int .i64 s.k, .int .i64 s.a, .int .i64 s.b, .string s.d, .int .i64 s.x.p, .int .i64 s.x.q, .string s.x.d, .int .i64 s.y.p, .int .i64 s.y.q, .string s.y.d, .int .i64 n] 29)) := (Below.refl _ _).alloc (Nat.le_refl _) _
    obtain ⟨c0, c1, c2, c3, c4, c5, c6, c7, c8, c9, c10, c11, c12, c13, c14⟩ := id HC.out
    go_enter Try.func5, Try.ntmps5
    go_wp2_with fail
    generalize w.alloc (.cells #[.int .i64 k, .int .i64 ex, .int .i64 va, .int .i64 vb, .int .i64 s.k, .int .i64 s.a, .int .i64 s.b, .string s.d, .int .i64 s.x.p, .int .i64 s.x.q, .string s.x.d, .int .i64 s.y.p, .int .i64 s.y.q, .string s.y.d, .int .i64 n] 29) = W2 at *
    clear c0 c1 c2 c3 c4 c5 c6 c7 c8 c9 c10 c11 c12 c13 c14
    refine (works_any _).mono ?_
    rintro e' W3 ⟨rfl, hA⟩
    replace HC := Lib.hid (HC.out.below hA)
    replace HB := bt HB hA
    clear hA
    obtain ⟨c0, c1, c2, c3, c4, c5, c6, c7, c8, c9, c10, c11, c12, c13, c14⟩ := id HC.out
    go_wp2_with fail
    clear c0 c1 c2 c3 c4 c5 c6 c7 c8 c9 c10 c11 c12 c13 c14
    refine (big_any _ _ _ _ _ _ _ _ _ _ _).mono ?_
    rintro e' W4 ⟨rfl, hA⟩
    replace HC := Lib.hid (HC.out.below hA)
    replace HB := bt HB hA
    clear hA
    rw [hbig]
    obtain ⟨c0, c1, c2, c3, c4, c5, c6, c7, c8, c9, c10, c11, c12, c13, c14⟩ := id HC.out
    go_wp2_with fail
    clear c0 c1 c2 c3 c4 c5 c6 c7 c8 c9 c10 c11 c12 c13 c14
    refine (CP.out _).mono ?_
    rintro e' W5 ⟨rfl, hA⟩
    replace HC := Lib.hid (HC.out.below hA)
    replace HB := bt HB hA
    clear hA
    go_wp2
    go_ret
    exact ⟨rfl, HB⟩
  subst hE0
  obtain ⟨p1, p2⟩ := hpg rfl
  obtain ⟨l1, l2⟩ := mget_len A p1
  have n1' : (A.toList == []) = false := by
    cases h : A.toList with
    | nil => exfalso; have h2 := data_len A; rw [← ByteArray.toList_eq, h] at h2; have h3 : 0 = A.size := h2; omega
    | cons a l => rfl
  have n2' : A.toList.isEmpty = false := by cases h : A.toList with
    | nil => rw [h] at n1'; cases n1'
    | cons a l => rfl
  have n3' : ¬ A.toList = [] := fun h => by rw [h] at n1'; cases n1'
  have l3 : A.size ≤ 300 := by rcases msz_v (gd A 0) (gd A 2) with g | g | g | g <;> omega
  clear l1
  obtain ⟨j, hj, hjA⟩ : ∃ j : Nat, wrap64 ((IntKind.u64.wrap c).tmod ↑A.size) = j ∧ j < A.size := by
    have h1 : 0 ≤ IntKind.u64.wrap c := by rw [IntKind.wrap_u64]; omega
    have h2 := Int.tmod_lt_of_pos (IntKind.u64.wrap c) (b := (A.size : Int)) (by omega)
    have h3 := Int.tmod_nonneg (A.size : Int) h1
    refine ⟨((IntKind.u64.wrap c).tmod ↑A.size).toNat, ?_, by omega⟩
    rw [IntWalk.wrap64_in _ ⟨by omega, by omega⟩]
    omega
  have CG := fun w => wget_any A w (by omega)
  rw [p1, p2] at CG
  have CGM := fun w => wget_any (A ++ more) w (by rw [ByteArray.size_append]; omega)
  have CGJ := fun w => wget_any (A.extract 0 j) w (by rw [ByteArray.size_extract]; omega)
  have hm0 := more_none A more p1
  have hj0 := less_none A j p1 hjA
  have hjI : (j : Int) ≤ (A.size : Int) := by omega
  have hjN : j ≤ A.size := by omega
  have hZ1 : ¬ A.size = 0 := by omega
  have hZ2 : ((A.size : Int) == 0) = false := beq_eq_false_iff_ne.2 (by omega)
  obtain ⟨Y, hY⟩ : ∃ z, mget (A ++ more) = z := ⟨_, rfl⟩
  obtain ⟨G, hG⟩ : ∃ z, mgetE (A ++ more) = z := ⟨_, rfl⟩
  obtain ⟨V, hV⟩ : ∃ z, mget (A.extract 0 j) = z := ⟨_, rfl⟩
  obtain ⟨H, hH⟩ : ∃ z, mgetE (A.extract 0 j) = z := ⟨_, rfl⟩
  simp only [hY, hG] at CGM
  simp only [hV, hH] at CGJ
  rw [hG] at hm0
  rw [hH] at hj0
  have hs9 : ¬ 9223372036854775807 < A.size + more.size := by omega
  have hG0 : more.size = 0 → G = 0 := fun hz => by rw [← hG, size0 hz, app_nil, p1]
  have hMC : (∃ q1 : (G == 0) = true, (more.toList == []) = true ∧ more.toList.isEmpty = true ∧ more.toList = []) ∨ (∃ q1 : (G == 0) = false, (more.toList == []) = false ∧ more.toList.isEmpty = false ∧ ¬ more.toList = []) := by
    cases h : more.toList with
    | nil =>
      have h2 := data_len more
      rw [← ByteArray.toList_eq, h] at h2
      exact .inl ⟨by rw [hG0 h2.symm]; rfl, rfl, rfl, rfl⟩
    | cons a l =>
      have h2 := data_len more
      rw [← ByteArray.toList_eq, h] at h2
      refine .inr ⟨beq_eq_false_iff_ne.2 fun h3 => ?_, rfl, rfl, by simp⟩
      have := hm0 h3
      rw [this] at h2
      simp at h2
  replace CG := Lib.hid CG
  replace CGM := Lib.hid CGM
  replace CGJ := Lib.hid CGJ
  have hH1 : (H != 0) = true := bne_iff_ne.2 hj0
  have hH2 : (H == 0) = false := beq_eq_false_iff_ne.2 hj0
  replace hMC := Lib.hid hMC
  clear hG hY hV hH hm0 hj0 p1 p2 hno hpg hsz l2 l3 hms hjA hG0
  have HC := Lib.hid (MC.new w k ex va vb s n 29)
  have HB : Below w.heap.size w (w.alloc (.cells #[.int .i64 k, .int .i64 ex, .int .i64 va, .int .i64 vb, .int .i64 s.k, .int .i64 s.a, .int .i64 s.b, .string s.d, .int .i64 s.x.p, .int .i64 s.x.q, .string s.x.d, .int .i64 s.y.p, .int .i64 s.y.q, .string s.y.d, .int .i64 n] 29)) := (Below.refl _ _).alloc (Nat.le_refl _) _
  obtain ⟨c0, c1, c2, c3, c4, c5, c6, c7, c8, c9, c10, c11, c12, c13, c14⟩ := id HC.out
  go_enter Try.func5, Try.ntmps5
  go_wp2_with fail
  generalize w.alloc (.cells #[.int .i64 k, .int .i64 ex, .int .i64 va, .int .i64 vb, .int .i64 s.k, .int .i64 s.a, .int .i64 s.b, .string s.d, .int .i64 s.x.p, .int .i64 s.x.q, .string s.x.d, .int .i64 s.y.p, .int .i64 s.y.q, .string s.y.d, .int .i64 n] 29) = W2 at *
  clear c0 c1 c2 c3 c4 c5 c6 c7 c8 c9 c10 c11 c12 c13 c14
  refine (works_any _).mono ?_
  rintro e' W3 ⟨rfl, hA⟩
  replace HC := Lib.hid (HC.out.below hA)
  replace HB := bt HB hA
  clear hA
  obtain ⟨c0, c1, c2, c3, c4, c5, c6, c7, c8, c9, c10, c11, c12, c13, c14⟩ := id HC.out
  go_wp2_with fail
  clear c0 c1 c2 c3 c4 c5 c6 c7 c8 c9 c10 c11 c12 c13 c14
  refine (big_any _ _ _ _ _ _ _ _ _ _ _).mono ?_
  rintro e' W4 ⟨rfl, hA⟩
  replace HC := Lib.hid (HC.out.below hA)
  replace HB := bt HB hA
  clear hA
  rw [hbig]
  obtain ⟨c0, c1, c2, c3, c4, c5, c6, c7, c8, c9, c10, c11, c12, c13, c14⟩ := id HC.out
  go_wp2_with fail
  clear c0 c1 c2 c3 c4 c5 c6 c7 c8 c9 c10 c11 c12 c13 c14
  refine (CP.out _).mono ?_
  rintro e' W5 ⟨rfl, hA⟩
  replace HC := Lib.hid (HC.out.below hA)
  replace HB := bt HB hA
  clear hA
  clear CP
  go_wp2_with fail
  refine (CG.out _).mono ?_
  rintro e' W6 ⟨rfl, hA⟩
  replace HC := Lib.hid (HC.out.below hA)
  replace HB := bt HB hA
  clear hA CG
  have HX := Lib.hid (MC.new W6 ((⟨k, ex, va, vb, s, n⟩ : Mg)).k ((⟨k, ex, va, vb, s, n⟩ : Mg)).ex ((⟨k, ex, va, vb, s, n⟩ : Mg)).va ((⟨k, ex, va, vb, s, n⟩ : Mg)).vb ((⟨k, ex, va, vb, s, n⟩ : Mg)).s ((⟨k, ex, va, vb, s, n⟩ : Mg)).n 29)
  have hA := (Below.refl W6.heap.size W6).alloc (Nat.le_refl _) (.cells #[.int .i64 ((⟨k, ex, va, vb, s, n⟩ : Mg)).k, .int .i64 ((⟨k, ex, va, vb, s, n⟩ : Mg)).ex, .int .i64 ((⟨k, ex, va, vb, s, n⟩ : Mg)).va, .int .i64 ((⟨k, ex, va, vb, s, n⟩ : Mg)).vb, .int .i64 ((⟨k, ex, va, vb, s, n⟩ : Mg)).s.k, .int .i64 ((⟨k, ex, va, vb, s, n⟩ : Mg)).s.a, .int .i64 ((⟨k, ex, va, vb, s, n⟩ : Mg)).s.b, .string ((⟨k, ex, va, vb, s, n⟩ : Mg)).s.d, .int .i64 ((⟨k, ex, va, vb, s, n⟩ : Mg)).s.x.p, .int .i64 ((⟨k, ex, va, vb, s, n⟩ : Mg)).s.x.q, .string ((⟨k, ex, va, vb, s, n⟩ : Mg)).s.x.d, .int .i64 ((⟨k, ex, va, vb, s, n⟩ : Mg)).s.y.p, .int .i64 ((⟨k, ex, va, vb, s, n⟩ : Mg)).s.y.q, .string ((⟨k, ex, va, vb, s, n⟩ : Mg)).s.y.d, .int .i64 ((⟨k, ex, va, vb, s, n⟩ : Mg)).n] 29)
  replace HC := Lib.hid (HC.out.below hA)
  replace HB := bt HB hA
  clear hA
  go_wp2_with fail
  generalize W6.alloc (.cells #[.int .i64 ((⟨k, ex, va, vb, s, n⟩ : Mg)).k, .int .i64 ((⟨k, ex, va, vb, s, n⟩ : Mg)).ex, .int .i64 ((⟨k, ex, va, vb, s, n⟩ : Mg)).va, .int .i64 ((⟨k, ex, va, vb, s, n⟩ : Mg)).vb, .int .i64 ((⟨k, ex, va, vb, s, n⟩ : Mg)).s.k, .int .i64 ((⟨k, ex, va, vb, s, n⟩ : Mg)).s.a, .int .i64 ((⟨k, ex, va, vb, s, n⟩ : Mg)).s.b, .string ((⟨k, ex, va, vb, s, n⟩ : Mg)).s.d, .int .i64 ((⟨k, ex, va, vb, s, n⟩ : Mg)).s.x.p, .int .i64 ((⟨k, ex, va, vb, s, n⟩ : Mg)).s.x.q, .string ((⟨k, ex, va, vb, s, n⟩ : Mg)).s.x.d, .int .i64 ((⟨k, ex, va, vb, s, n⟩ : Mg)).s.y.p, .int .i64 ((⟨k, ex, va, vb, s, n⟩ : Mg)).s.y.q, .string ((⟨k, ex, va, vb, s, n⟩ : Mg)).s.y.d, .int .i64 ((⟨k, ex, va, vb, s, n⟩ : Mg)).n] 29) = W7 at *
  generalize W6.heap.size = KX at *
  refine (CGM.out _).mono ?_
  rintro e' W8 ⟨rfl, hA⟩
  replace HC := Lib.hid (HC.out.below hA)
  replace HX := Lib.hid (HX.out.below hA)
  replace HB := bt HB hA
  clear hA CGM
  have HY := Lib.hid (MC.new W8 (Y).k (Y).ex (Y).va (Y).vb (Y).s (Y).n 29)
  have hA := (Below.refl W8.heap.size W8).alloc (Nat.le_refl _) (.cells #[.int .i64 (Y).k, .int .i64 (Y).ex, .int .i64 (Y).va, .int .i64 (Y).vb, .int .i64 (Y).s.k, .int .i64 (Y).s.a, .int .i64 (Y).s.b, .string (Y).s.d, .int .i64 (Y).s.x.p, .int .i64 (Y).s.x.q, .string (Y).s.x.d, .int .i64 (Y).s.y.p, .int .i64 (Y).s.y.q, .string (Y).s.y.d, .int .i64 (Y).n] 29)
  replace HC := Lib.hid (HC.out.below hA)
  replace HB := bt HB hA
  replace HX := Lib.hid (HX.out.below hA)
  clear hA
  go_wp2_with fail
  generalize W8.alloc (.cells #[.int .i64 (Y).k, .int .i64 (Y).ex, .int .i64 (Y).va, .int .i64 (Y).vb, .int .i64 (Y).s.k, .int .i64 (Y).s.a, .int .i64 (Y).s.b, .string (Y).s.d, .int .i64 (Y).s.x.p, .int .i64 (Y).s.x.q, .string (Y).s.x.d, .int .i64 (Y).s.y.p, .int .i64 (Y).s.y.q, .string (Y).s.y.d, .int .i64 (Y).n] 29) = W9 at *
  generalize W8.heap.size = KY at *
  refine (CGJ.out _).mono ?_
  rintro e' W10 ⟨rfl, hA⟩
  replace HC := Lib.hid (HC.out.below hA)
  replace HX := Lib.hid (HX.out.below hA)
  replace HB := bt HB hA
  clear hA CGJ HY
  have HV := Lib.hid (MC.new W10 (V).k (V).ex (V).va (V).vb (V).s (V).n 29)
  have hA := (Below.refl W10.heap.size W10).alloc (Nat.le_refl _) (.cells #[.int .i64 (V).k, .int .i64 (V).ex, .int .i64 (V).va, .int .i64 (V).vb, .int .i64 (V).s.k, .int .i64 (V).s.a, .int .i64 (V).s.b, .string (V).s.d, .int .i64 (V).s.x.p, .int .i64 (V).s.x.q, .string (V).s.x.d, .int .i64 (V).s.y.p, .int .i64 (V).s.y.q, .string (V).s.y.d, .int .i64 (V).n] 29)
  replace HC := Lib.hid (HC.out.below hA)
  replace HB := bt HB hA
  replace HX := Lib.hid (HX.out.below hA)
  clear hA HV
  have eqm := fun W => meq_same k ex va vb s n W
  obtain ⟨c0, c1, c2, c3, c4, c5, c6, c7, c8, c9, c10, c11, c12, c13, c14⟩ := id HC.out
  obtain ⟨x0, x1, x2, x3, x4, x5, x6, x7, x8, x9, x10, x11, x12, x13, x14⟩ := id HX.out
  rcases hMC.out with ⟨q1, q2, q3, q4⟩ | ⟨q1, q2, q3, q4⟩
  · clear hMC
    go_wp2
    go_ret
    exact ⟨rfl, HB⟩
  · clear hMC
    go_wp2
    go_ret
    exact ⟨rfl, HB⟩
theorem walk_WireBack (k ex va vb sk sa sb : Int) (sd : ByteArray) (xp xq : Int) (xd : ByteArray) (yp yq : Int) (yd : ByteArray) (n : Int) (hk : (Lit.int .i64 k).wf = true) (hex : (Lit.int .i64 ex).wf = true) (hva : (Lit.int .i64 va).wf = true) (hvb : (Lit.int .i64 vb).wf = true) (hsk : (Lit.int .i64 sk).wf = true) (hsa : (Lit.int .i64 sa).wf = true) (hsb : (Lit.int .i64 sb).wf = true) (hsd : sd.size ≤ maxLen) (hxp : (Lit.int .i64 xp).wf = true) (hxq : (Lit.int .i64 xq).wf = true) (hxd : xd.size ≤ maxLen) (hyp : (Lit.int .i64 yp).wf = true) (hyq : (Lit.int .i64 yq).wf = true) (hyd : yd.size ≤ maxLen) (hn : (Lit.int .i64 n).wf = true) (more : ByteArray) (hmore : more.size ≤ 140737488351232) (c : Int) (hc : (Lit.int .i64 c).wf = true) {w : World} :
    Calls Try.prog 5 #[.agg #[.int .i64 k, .int .i64 ex, .int .i64 va, .int .i64 vb, .int .i64 sk, .int .i64 sa, .int .i64 sb, .string sd, .int .i64 xp, .int .i64 xq, .string xd, .int .i64 yp, .int .i64 yq, .string yd, .int .i64 n], .string more, .int .i64 c] w fun e' w' => e' = .returned (.bool true) ∧ Below w.heap.size w w' :=
  back_walk (k := k) (ex := ex) (va := va) (vb := vb) (s := ⟨sk, sa, sb, sd, ⟨xp, xq, xd⟩, ⟨yp, yq, yd⟩⟩) (n := n) (bounds_i64 hk).2 (bounds_i64 hex).2 (bounds_i64 hva).2 (bounds_i64 hvb).2 (bounds_i64 hn).2 (bounds_i64 hsa).2 (bounds_i64 hsb).2 (bounds_i64 hxp).2 (bounds_i64 hxq).2 (bounds_i64 hyp).2 (bounds_i64 hyq).2 more c
end Go.Proofs.Ytemfdmbjlmiopaa
