/-
  The statement WirePuts (chapter 25).
-/
import Derived.Test.YtemfdmbjlmiopaaFrmWork
namespace Go.Proofs.Ytemfdmbjlmiopaa
open Go.RowKit
set_option linter.unusedVariables false
set_option linter.unusedSimpArgs false
set_option maxRecDepth 100000 in
set_option maxHeartbeats 12800000 in
theorem puts_walk {k ex va vb : Int} {s : St} {n : Int} (hk : k ≤ 9223372036854775807) (hex : ex ≤ 9223372036854775807) (hva : va ≤ 9223372036854775807) (hvb : vb ≤ 9223372036854775807) (hn : n ≤ 9223372036854775807) (hsa : s.a ≤ 9223372036854775807) (hsb : s.b ≤ 9223372036854775807) (hxp : s.x.p ≤ 9223372036854775807) (hxq : s.x.q ≤ 9223372036854775807) (hyp : s.y.p ≤ 9223372036854775807) (hyq : s.y.q ≤ 9223372036854775807) {w : World} :
    Calls Try.prog 3 #[MV k ex va vb s n] w fun e' w' => e' = .returned (.bool true) ∧ Below w.heap.size w w' := by
  cases hbig : (decide (1000 < (s.d.size : Int)) || (decide (1000 < (s.x.d.size : Int)) || decide (1000 < (s.y.d.size : Int))))
  case true =>
    have HC := Lib.hid (MC.new w k ex va vb s n 29)
    have HB : Below w.heap.size w (w.alloc (.cells #[.int .i64 k, .int .i64 ex, .int .i64 va, .int .i64 vb, .int .i64 s.k, .int .i64 s.a, .int .i64 s.b, .string s.d, .int .i64 s.x.p, .int .i64 s.x.q, .string s.x.d, .int .i64 s.y.p, .int .i64 s.y.q, .string s.y.d, .int .i64 n] 29)) := (Below.refl _ _).alloc (Nat.le_refl _) _
    obtain ⟨c0, c1, c2, c3, c4, c5, c6, c7, c8, c9, c10, c11, c12, c13, c14⟩ := id HC.out
    go_enter Try.func3, Try.ntmps3
    go_wp2_with fail
    generalize w.alloc (.cells #[.int .i64 k, .int .i64 ex, .int .i64 va, .int .i64 vb, .int .i64 s.k, .int .i64 s.a, .int .i64 s.b, .string s.d, .int .i64 s.x.p, .int .i64 s.x.q, .string s.x.d, .int .i64 s.y.p, .int .i64 s.y.q, .string s.y.d, .int .i64 n] 29) = W2 at *
    clear c0 c1 c2 c3 c4 c5 c6 c7 c8 c9 c10 c11 c12 c13 c14
    refine (works_any _).mono ?_
    rintro e' W3 ⟨rfl, hA⟩
    replace HC := Lib.hid (HC.out.below hA)
    replace HB := bt HB hA
    clear hA
    obtain ⟨c0, c1, c2, c3, c4, c5, c6, c7, c8, c9, c10, c11, c12, c13, c14⟩ := id HC.out
    go_wp2_with fail
    clear c0 c1 c2 c3 c4 c5 c6 c7 c8 c9 c10 c11 c12 c13 c14
    refine (big_any _ _ _ _ _ _ _ _ _ _ _).mono ?_
    rintro e' W4 ⟨rfl, hA⟩
    replace HC := Lib.hid (HC.out.below hA)
    replace HB := bt HB hA
    clear hA
    rw [hbig]
    obtain ⟨c0, c1, c2, c3, c4, c5, c6, c7, c8, c9, c10, c11, c12, c13, c14⟩ := id HC.out
    go_wp2
    go_ret
    exact ⟨rfl, HB⟩
  have hb2 := hbig
  simp only [Bool.or_eq_false_iff, decide_eq_false_iff_not] at hb2
  obtain ⟨g1, g2, g3⟩ := hb2
  have mb : MB k ex va vb s n := ⟨hk, hex, hva, hvb, hn, hsa, hsb, by omega, hxp, hxq, by omega, hyp, hyq, by omega⟩
  have CP := fun w => wput_any mb w
  have CRP := fun w => rwput_any mb w
  obtain ⟨E, hE⟩ : ∃ E, mchk ⟨k, ex, va, vb, s, n⟩ = E := ⟨_, rfl⟩
  have CK := Lib.hid (fun w => wchk_at hE w)
  have CRK := Lib.hid (fun w => rwchk_at hE w)
  rw [hE] at CP CRP
  generalize mput ⟨k, ex, va, vb, s, n⟩ = A at *
  replace CP := Lib.hid CP
  replace CRP := Lib.hid CRP
  clear hE mb g1 g2 g3 hk hex hva hvb hn hsa hsb hxp hxq hyp hyq
  have HC := Lib.hid (MC.new w k ex va vb s n 29)
  have HB : Below w.heap.size w (w.alloc (.cells #[.int .i64 k, .int .i64 ex, .int .i64 va, .int .i64 vb, .int .i64 s.k, .int .i64 s.a, .int .i64 s.b, .string s.d, .int .i64 s.x.p, .int .i64 s.x.q, .string s.x.d, .int .i64 s.y.p, .int .i64 s.y.q, .string s.y.d, .int .i64 n] 29)) := (Below.refl _ _).alloc (Nat.le_refl _) _
  obtain ⟨c0, c1, c2, c3, c4, c5, c6, c7, c8, c9, c10, c11, c12, c13, c14⟩ := id HC.out
  go_enter Try.func3, Try.ntmps3
  go_wp2_with fail
  generalize w.alloc (.cells #[.int .i64 k, .int .i64 ex, .int .i64 va, .int .i64 vb, .int .i64 s.k, .int .i64 s.a, .int .i64 s.b, .string s.d, .int .i64 s.x.p, .int .i64 s.x.q, .string s.x.d, .int .i64 s.y.p, .int .i64 s.y.q, .string s.y.d, .int .i64 n] 29) = W2 at *
  clear c0 c1 c2 c3 c4 c5 c6 c7 c8 c9 c10 c11 c12 c13 c14
  refine (works_any _).mono ?_
  rintro e' W3 ⟨rfl, hA⟩
  replace HC := Lib.hid (HC.out.below hA)
  replace HB := bt HB hA
  clear hA
  obtain ⟨c0, c1, c2, c3, c4, c5, c6, c7, c8, c9, c10, c11, c12, c13, c14⟩ := id HC.out
  go_wp2_with fail
  clear c0 c1 c2 c3 c4 c5 c6 c7 c8 c9 c10 c11 c12 c13 c14
  refine (big_any _ _ _ _ _ _ _ _ _ _ _).mono ?_
  rintro e' W4 ⟨rfl, hA⟩
  replace HC := Lib.hid (HC.out.below hA)
  replace HB := bt HB hA
  clear hA
  rw [hbig]
  obtain ⟨c0, c1, c2, c3, c4, c5, c6, c7, c8, c9, c10, c11, c12, c13, c14⟩ := id HC.out
  go_wp2_with fail
  clear c0 c1 c2 c3 c4 c5 c6 c7 c8 c9 c10 c11 c12 c13 c14
  refine (CP.out _).mono ?_
  rintro e' W5 ⟨rfl, hA⟩
  replace HC := Lib.hid (HC.out.below hA)
  replace HB := bt HB hA
  clear hA
  obtain ⟨c0, c1, c2, c3, c4, c5, c6, c7, c8, c9, c10, c11, c12, c13, c14⟩ := id HC.out
  go_wp2_with fail
  clear c0 c1 c2 c3 c4 c5 c6 c7 c8 c9 c10 c11 c12 c13 c14
  refine (CRP.out _).mono ?_
  rintro e' W6 ⟨rfl, hA⟩
  replace HC := Lib.hid (HC.out.below hA)
  replace HB := bt HB hA
  clear hA
  clear CP CRP
  go_wp2_with fail
  have eqA := bse A
  have eqE : (E == E) = true := by simp
  replace HB := Lib.hid HB.drew
  have HS : Hid ((fun w' : World => MC w' w.heap.size ⟨k, ex, va, vb, s, n⟩) W6.drew) := HC.out
  clear HC
  refine wp_region_held_drew (S := (fun w' : World => MC w' w.heap.size ⟨k, ex, va, vb, s, n⟩)) (by kernel_rfl) ?_ (fun hHeld => ?_)
  · first | with_reducible exact HS.out
  first | (refine tw (i := 0) (v := ?_) ?_ hHeld ?_; rotate_left; focus (intro w hSw; (try dsimp only at hSw); (try simp only [MC] at hSw); go_simp; (try with_reducible rfl); done)) | refine tn (i := 0) hHeld ?_
  try simp only [Act.put, List.setIfInBounds_toArray, List.set_cons_zero, List.set_cons_succ]
  first | (refine tw (i := 1) (v := ?_) ?_ hHeld ?_; rotate_left; focus (intro w hSw; (try dsimp only at hSw); (try simp only [MC] at hSw); go_simp; (try with_reducible rfl); done)) | refine tn (i := 1) hHeld ?_
  try simp only [Act.put, List.setIfInBounds_toArray, List.set_cons_zero, List.set_cons_succ]
  first | (refine tw (i := 2) (v := ?_) ?_ hHeld ?_; rotate_left; focus (intro w hSw; (try dsimp only at hSw); (try simp only [MC] at hSw); go_simp; (try with_reducible rfl); done)) | refine tn (i := 2) hHeld ?_
  try simp only [Act.put, List.setIfInBounds_toArray, List.set_cons_zero, List.set_cons_succ]
  first | (refine tw (i := 3) (v := ?_) ?_ hHeld ?_; rotate_left; focus (intro w hSw; (try dsimp only at hSw); (try simp only [MC] at hSw); go_simp; (try with_reducible rfl); done)) | refine tn (i := 3) hHeld ?_
  try simp only [Act.put, List.setIfInBounds_toArray, List.set_cons_zero, List.set_cons_succ]
  first | (refine tw (i := 4) (v := ?_) ?_ hHeld ?_; rotate_left; focus (intro w hSw; (try dsimp only at hSw); (try simp only [MC] at hSw); go_simp; (try with_reducible rfl); done)) | refine tn (i := 4) hHeld ?_
  try simp only [Act.put, List.setIfInBounds_toArray, List.set_cons_zero, List.set_cons_succ]
  first | (refine tw (i := 5) (v := ?_) ?_ hHeld ?_; rotate_left; focus (intro w hSw; (try dsimp only at hSw); (try simp only [MC] at hSw); go_simp; (try with_reducible rfl); done)) | refine tn (i := 5) hHeld ?_
  try simp only [Act.put, List.setIfInBounds_toArray, List.set_cons_zero, List.set_cons_succ]
  first | (refine tw (i := 6) (v := ?_) ?_ hHeld ?_; rotate_left; focus (intro w hSw; (try dsimp only at hSw); (try simp only [MC] at hSw); go_simp; (try with_reducible rfl); done)) | refine tn (i := 6) hHeld ?_
  try simp only [Act.put, List.setIfInBounds_toArray, List.set_cons_zero, List.set_cons_succ]
  first | (refine tw (i := 7) (v := ?_) ?_ hHeld ?_; rotate_left; focus (intro w hSw; (try dsimp only at hSw); (try simp only [MC] at hSw); go_simp; (try with_reducible rfl); done)) | refine tn (i := 7) hHeld ?_
  try simp only [Act.put, List.setIfInBounds_toArray, List.set_cons_zero, List.set_cons_succ]
  first | (refine tw (i := 8) (v := ?_) ?_ hHeld ?_; rotate_left; focus (intro w hSw; (try dsimp only at hSw); (try simp only [MC] at hSw); go_simp; (try with_reducible rfl); done)) | refine tn (i := 8) hHeld ?_
  try simp only [Act.put, List.setIfInBounds_toArray, List.set_cons_zero, List.set_cons_succ]
  first | (refine tw (i := 9) (v := ?_) ?_ hHeld ?_; rotate_left; focus (intro w hSw; (try dsimp only at hSw); (try simp only [MC] at hSw); go_simp; (try with_reducible rfl); done)) | refine tn (i := 9) hHeld ?_
  try simp only [Act.put, List.setIfInBounds_toArray, List.set_cons_zero, List.set_cons_succ]
  first | (refine tw (i := 11) (v := ?_) ?_ hHeld ?_; rotate_left; focus (intro w hSw; (try dsimp only at hSw); (try simp only [MC] at hSw); go_simp; (try with_reducible rfl); done)) | refine tn (i := 11) hHeld ?_
  try simp only [Act.put, List.setIfInBounds_toArray, List.set_cons_zero, List.set_cons_succ]
  refine call_next (i := 10) (by kernel_rfl) (by rfl) ?_
  intro o ho K hK
  simp only [List.getElem?_toArray, List.getElem?_cons_succ, List.getElem?_cons_zero, Option.some.injEq] at ho
  subst ho
  first | (fail; refine hK.out _ _ ?_ (fun hHeld => ?_)) | (go_simp; first | (with_reducible refine hK.out _ _ ?_ (fun hHeld => ?_)) | ((first | (go_at_call 11; (with_reducible refine (CK.out _).mono ?_); rintro e' W9 ⟨rfl, hA⟩; replace HS : Hid ((fun w' : World => MC w' w.heap.size ⟨k, ex, va, vb, s, n⟩) W9) := HS.out.below hA; replace HB := Lib.hid (bt HB.out hA); clear hA) | (go_at_call 12; (with_reducible refine (CRK.out _).mono ?_); rintro e' W9 ⟨rfl, hA⟩; replace HS : Hid ((fun w' : World => MC w' w.heap.size ⟨k, ex, va, vb, s, n⟩) W9) := HS.out.below hA; replace HB := Lib.hid (bt HB.out hA); clear hA)); refine hK.out _ _ ?_ (fun hHeld => ?_)))
  · first | with_reducible exact HS.out
  clear hK K
  try simp only [Act.put, List.setIfInBounds_toArray, List.set_cons_zero, List.set_cons_succ]
  refine call_next (i := 12) (by kernel_rfl) (by rfl) ?_
  intro o ho K hK
  simp only [List.getElem?_toArray, List.getElem?_cons_succ, List.getElem?_cons_zero, Option.some.injEq] at ho
  subst ho
  first | (fail; refine hK.out _ _ ?_ (fun hHeld => ?_)) | (go_simp; first | (with_reducible refine hK.out _ _ ?_ (fun hHeld => ?_)) | ((first | (go_at_call 11; (with_reducible refine (CK.out _).mono ?_); rintro e' W9 ⟨rfl, hA⟩; replace HS : Hid ((fun w' : World => MC w' w.heap.size ⟨k, ex, va, vb, s, n⟩) W9) := HS.out.below hA; replace HB := Lib.hid (bt HB.out hA); clear hA) | (go_at_call 12; (with_reducible refine (CRK.out _).mono ?_); rintro e' W9 ⟨rfl, hA⟩; replace HS : Hid ((fun w' : World => MC w' w.heap.size ⟨k, ex, va, vb, s, n⟩) W9) := HS.out.below hA; replace HB := Lib.hid (bt HB.out hA); clear hA)); refine hK.out _ _ ?_ (fun hHeld => ?_)))
  · first | with_reducible exact HS.out
  clear hK K
  try simp only [Act.put, List.setIfInBounds_toArray, List.set_cons_zero, List.set_cons_succ]
  first | (refine tw (i := 13) (v := ?_) ?_ hHeld ?_; rotate_left; focus (intro w hSw; (try dsimp only at hSw); (try simp only [MC] at hSw); go_simp; (try with_reducible rfl); done)) | refine tn (i := 13) hHeld ?_
  try simp only [Act.put, List.setIfInBounds_toArray, List.set_cons_zero, List.set_cons_succ]
  first | (refine tw (i := 14) (v := ?_) ?_ hHeld ?_; rotate_left; focus (intro w hSw; (try dsimp only at hSw); (try simp only [MC] at hSw); go_simp; (try with_reducible rfl); done)) | refine tn (i := 14) hHeld ?_
  try simp only [Act.put, List.setIfInBounds_toArray, List.set_cons_zero, List.set_cons_succ]
  first | (refine tw (i := 15) (v := ?_) ?_ hHeld ?_; rotate_left; focus (intro w hSw; (try dsimp only at hSw); (try simp only [MC] at hSw); go_simp; (try with_reducible rfl); done)) | refine tn (i := 15) hHeld ?_
  try simp only [Act.put, List.setIfInBounds_toArray, List.set_cons_zero, List.set_cons_succ]
  refine wpAnyH_done (by kernel_rfl) ?_ _
  go_wp2
  go_ret
  exact ⟨rfl, HB.out⟩
theorem walk_WirePuts (k ex va vb sk sa sb : Int) (sd : ByteArray) (xp xq : Int) (xd : ByteArray) (yp yq : Int) (yd : ByteArray) (n : Int) (hk : (Lit.int .i64 k).wf = true) (hex : (Lit.int .i64 ex).wf = true) (hva : (Lit.int .i64 va).wf = true) (hvb : (Lit.int .i64 vb).wf = true) (hsk : (Lit.int .i64 sk).wf = true) (hsa : (Lit.int .i64 sa).wf = true) (hsb : (Lit.int .i64 sb).wf = true) (hsd : sd.size ≤ maxLen) (hxp : (Lit.int .i64 xp).wf = true) (hxq : (Lit.int .i64 xq).wf = true) (hxd : xd.size ≤ maxLen) (hyp : (Lit.int .i64 yp).wf = true) (hyq : (Lit.int .i64 yq).wf = true) (hyd : yd.size ≤ maxLen) (hn : (Lit.int .i64 n).wf = true) {w : World} :
    Calls Try.prog 3 #[.agg #[.int .i64 k, .int .i64 ex, .int .i64 va, .int .i64 vb, .int .i64 sk, .int .i64 sa, .int .i64 sb, .string sd, .int .i64 xp, .int .i64 xq, .string xd, .int .i64 yp, .int .i64 yq, .string yd, .int .i64 n]] w fun e' w' => e' = .returned (.bool true) ∧ Below w.heap.size w w' :=
  puts_walk (k := k) (ex := ex) (va := va) (vb := vb) (s := ⟨sk, sa, sb, sd, ⟨xp, xq, xd⟩, ⟨yp, yq, yd⟩⟩) (n := n) (bounds_i64 hk).2 (bounds_i64 hex).2 (bounds_i64 hva).2 (bounds_i64 hvb).2 (bounds_i64 hn).2 (bounds_i64 hsa).2 (bounds_i64 hsb).2 (bounds_i64 hxp).2 (bounds_i64 hxq).2 (bounds_i64 hyp).2 (bounds_i64 hyq).2
end Go.Proofs.Ytemfdmbjlmiopaa
