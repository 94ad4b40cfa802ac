/-
  The statement StateJoins (chapter 23).
-/
import Derived.Test.YtingeahkndingaaStateWork
import Derived.Test.YtingeahkndingaaStateCel
import Derived.Test.YtingeahkndingaaStateJoin
import Derived.Test.YtingeahkndingaaDraw
import Derived.Deep.Cut
import Derived.Deep.CutRange
namespace Go.Proofs.Ytingeahkndingaa
open Go.RowKit
set_option linter.unusedVariables false
set_option linter.unusedSimpArgs false
abbrev SJ (B : Nat) (x y : St) (w : World) : Prop := Cel w B x ∧ Cel w (B + 1) y
theorem veq (a b c d : Int) (W : World) : (binOp .eql 23 (VV a b) (VV c d)).run Try.prog W = .ok (.bool (decide (a = c) && decide (b = d))) W := by
  by_cases h1 : a = c
  · by_cases h2 : b = d
    · simp [go_sem, h1, h2]
    · simp [go_sem, h1, h2]
  · simp [go_sem, h1]
theorem veq_at {a b c d : Int} {x : Bool} (h : (decide (a = c) && decide (b = d)) = x) (W : World) : (binOp .eql 23 (VV a b) (VV c d)).run Try.prog W = .ok (.bool x) W := h ▸ veq a b c d W
theorem vdec {a b c d : Int} (h : ¬ (a = c ∧ b = d)) : (decide (a = c) && decide (b = d)) = false := by
  rw [Bool.and_eq_false_iff, decide_eq_false_iff_not, decide_eq_false_iff_not]
  by_cases g : a = c
  · exact .inr (fun h' => h ⟨g, h'⟩)
  · exact .inl g
theorem seq_same (k a b : Int) (d : ByteArray) (p q : Int) (e : ByteArray) (r s : Int) (f : ByteArray) (W : World) : (binOp .eql 27 (SS k a b d p q e r s f) (SS k a b d p q e r s f)).run Try.prog W = .ok (.bool true) W := by
  simp [go_sem]
theorem seq_ne {k a b : Int} {d : ByteArray} {p q : Int} {e : ByteArray} {r s : Int} {f : ByteArray} {k2 a2 b2 : Int} {d2 : ByteArray} {p2 q2 : Int} {e2 : ByteArray} {r2 s2 : Int} {f2 : ByteArray} (h : ¬ (a = a2 ∧ b = b2)) (W : World) : (binOp .eql 27 (SS k2 a2 b2 d2 p2 q2 e2 r2 s2 f2) (SS k a b d p q e r s f)).run Try.prog W = .ok (.bool false) W := by
  by_cases hk : k2 = k
  · by_cases ha : a2 = a
    · have hb : ¬ b2 = b := fun hb => h ⟨ha.symm, hb.symm⟩
      simp [go_sem, hk, ha, hb]
    · simp [go_sem, hk, ha]
  · simp [go_sem, hk]
theorem vereq (p q : Int) (e : ByteArray) (W : World) : (binOp .eql 25 (VE p q e) (VE p q e)).run Try.prog W = .ok (.bool true) W := by
  simp [go_sem]
theorem rvj_at {a b c d x y : Int} (h1 : mx a c = x) (h2 : mx b d = y) (w : World) : Calls Try.prog 12 #[VV a b, VV c d] w fun e w' => e = .returned (VV x y) ∧ Below w.heap.size w w' := h1 ▸ h2 ▸ rjoin_any a b c d w
theorem rside_at {x : St} {n u v : Int} {t : ByteArray} (h : sideS x n = ⟨u, v, t⟩) (w : World) : Calls Try.prog 14 #[SS x.k x.a x.b x.d x.x.p x.x.q x.x.d x.y.p x.y.q x.y.d, .int .i64 n] w fun e' w' => e' = .returned (VE u v t) ∧ Below w.heap.size w w' := by
  have := rside_any x.k x.a x.b x.d x.x.p x.x.q x.x.d x.y.p x.y.q x.y.d n w
  rw [show (⟨x.k, x.a, x.b, x.d, ⟨x.x.p, x.x.q, x.x.d⟩, ⟨x.y.p, x.y.q, x.y.d⟩⟩ : St) = x from rfl, h] at this
  exact this
theorem rcmp_at {a b c d E : Int} (h : cmpZ a b c d = E) (w : World) : Calls Try.prog 13 #[VV a b, VV c d] w fun e w' => e = .returned (.int .i64 E) ∧ Below w.heap.size w w' := h ▸ rcompare_any a b c d w
set_option maxRecDepth 100000 in
set_option maxHeartbeats 12800000 in
theorem joins_test (k : Int) (a : Int) (b : Int) (d : ByteArray) (p : Int) (q : Int) (e : ByteArray) (r : Int) (s : Int) (f : ByteArray) (hk : (Lit.int .i64 k).wf = true) (ha : (Lit.int .i64 a).wf = true) (hb : (Lit.int .i64 b).wf = true) (hd : d.size ≤ maxLen) (hp : (Lit.int .i64 p).wf = true) (hq : (Lit.int .i64 q).wf = true) (he : e.size ≤ maxLen) (hr : (Lit.int .i64 r).wf = true) (hs : (Lit.int .i64 s).wf = true) (hf : f.size ≤ maxLen) (k2 : Int) (a2 : Int) (b2 : Int) (d2 : ByteArray) (p2 : Int) (q2 : Int) (e2 : ByteArray) (r2 : Int) (s2 : Int) (f2 : ByteArray) (hk2 : (Lit.int .i64 k2).wf = true) (ha2 : (Lit.int .i64 a2).wf = true) (hb2 : (Lit.int .i64 b2).wf = true) (hd2 : d2.size ≤ maxLen) (hp2 : (Lit.int .i64 p2).wf = true) (hq2 : (Lit.int .i64 q2).wf = true) (he2 : e2.size ≤ maxLen) (hr2 : (Lit.int .i64 r2).wf = true) (hs2 : (Lit.int .i64 s2).wf = true) (hf2 : f2.size ≤ maxLen) {w : World} (hbig : (decide (1000 < (d.size : Int)) || (decide (1000 < (e.size : Int)) || decide (1000 < (f.size : Int)))) = false) (hbig2 : (decide (1000 < (d2.size : Int)) || (decide (1000 < (e2.size : Int)) || decide (1000 < (f2.size : Int)))) = false) (hx : chkE ⟨k, a, b, d, ⟨p, q, e⟩, ⟨r, s, f⟩⟩ = 0) (hy : chkE ⟨k2, a2, b2, d2, ⟨p2, q2, e2⟩, ⟨r2, s2, f2⟩⟩ = 0) (z : St) (z2 : St) (J1 : joinS ⟨k, a, b, d, ⟨p, q, e⟩, ⟨r, s, f⟩⟩ ⟨k2, a2, b2, d2, ⟨p2, q2, e2⟩, ⟨r2, s2, f2⟩⟩ = z) (J2 : joinS ⟨k2, a2, b2, d2, ⟨p2, q2, e2⟩, ⟨r2, s2, f2⟩⟩ ⟨k, a, b, d, ⟨p, q, e⟩, ⟨r, s, f⟩⟩ = z2) :
    Calls Try.prog 3 #[SS k a b d p q e r s f, SS k2 a2 b2 d2 p2 q2 e2 r2 s2 f2] w fun e' w' => e' = .returned (.bool true) ∧ Below w.heap.size w w' := by
  have CX := Lib.hid (fun w => rchk_at hx w)
  have CY := Lib.hid (fun w => rchk_at hy w)
  have JX := Lib.hid (fun w => join_at J1 w)
  have JY := Lib.hid (fun w => join_at J2 w)
  have HW := Lib.hid (join_ways ⟨k, a, b, d, ⟨p, q, e⟩, ⟨r, s, f⟩⟩ ⟨k2, a2, b2, d2, ⟨p2, q2, e2⟩, ⟨r2, s2, f2⟩⟩ hx hy)
  have HX := Lib.hid hx
  have HY := Lib.hid hy
  have J1 := Lib.hid J1
  have J2 := Lib.hid J2
  clear hx hy
  obtain ⟨zk, za, zb, zd, ⟨zp, zq, ze⟩, ⟨zr, zs, zf⟩⟩ := z
  obtain ⟨yk, ya, yb, yd, ⟨yp, yq, ye⟩, ⟨yr, ys, yf⟩⟩ := z2
  have HC : Cel (w.alloc (.cells #[.int .i64 k, .int .i64 a, .int .i64 b, .string d, .int .i64 p, .int .i64 q, .string e, .int .i64 r, .int .i64 s, .string f] 27)) w.heap.size ⟨k, a, b, d, ⟨p, q, e⟩, ⟨r, s, f⟩⟩ := Cel.new w ⟨k, a, b, d, ⟨p, q, e⟩, ⟨r, s, f⟩⟩ 27
  have HB : Below w.heap.size w (w.alloc (.cells #[.int .i64 k, .int .i64 a, .int .i64 b, .string d, .int .i64 p, .int .i64 q, .string e, .int .i64 r, .int .i64 s, .string f] 27)) := (Below.refl _ _).alloc (Nat.le_refl _) _
  have hz1 : (w.alloc (.cells #[.int .i64 k, .int .i64 a, .int .i64 b, .string d, .int .i64 p, .int .i64 q, .string e, .int .i64 r, .int .i64 s, .string f] 27)).heap.size = w.heap.size + 1 := by simp
  go_enter Try.func3, Try.ntmps3
  go_wp2_with fail
  generalize w.alloc (.cells #[.int .i64 k, .int .i64 a, .int .i64 b, .string d, .int .i64 p, .int .i64 q, .string e, .int .i64 r, .int .i64 s, .string f] 27) = W1 at *
  have HD : Cel (W1.alloc (.cells #[.int .i64 k2, .int .i64 a2, .int .i64 b2, .string d2, .int .i64 p2, .int .i64 q2, .string e2, .int .i64 r2, .int .i64 s2, .string f2] 27)) W1.heap.size ⟨k2, a2, b2, d2, ⟨p2, q2, e2⟩, ⟨r2, s2, f2⟩⟩ := Cel.new W1 ⟨k2, a2, b2, d2, ⟨p2, q2, e2⟩, ⟨r2, s2, f2⟩⟩ 27
  rw [hz1] at HD
  have hA : Below W1.heap.size W1 (W1.alloc (.cells #[.int .i64 k2, .int .i64 a2, .int .i64 b2, .string d2, .int .i64 p2, .int .i64 q2, .string e2, .int .i64 r2, .int .i64 s2, .string f2] 27)) := (Below.refl _ _).alloc (Nat.le_refl _) _
  replace HC := HC.below hA
  replace HB := bt HB hA
  clear hA hz1
  generalize W1.alloc (.cells #[.int .i64 k2, .int .i64 a2, .int .i64 b2, .string d2, .int .i64 p2, .int .i64 q2, .string e2, .int .i64 r2, .int .i64 s2, .string f2] 27) = W2 at *
  refine (works_any _).mono ?_
  rintro e' W3 ⟨rfl, hA⟩
  replace HC := HC.below hA
  replace HD := HD.below hA
  replace HB := bt HB hA
  clear hA
  obtain ⟨c0, c1, c2, c3, c4, c5, c6, c7, c8, c9⟩ := id HC
  go_wp2_with fail
  refine (big_any _ _ _ _ _ _ _ _ _ _ _).mono ?_
  rintro e' W4 ⟨rfl, hA⟩
  replace HC := HC.below hA
  replace HD := HD.below hA
  replace HB := bt HB hA
  clear hA c0 c1 c2 c3 c4 c5 c6 c7 c8 c9
  rw [hbig]
  obtain ⟨u0, u1, u2, u3, u4, u5, u6, u7, u8, u9⟩ := id HD
  go_wp2_with fail
  refine (big_any _ _ _ _ _ _ _ _ _ _ _).mono ?_
  rintro e' W5 ⟨rfl, hA⟩
  replace HC := HC.below hA
  replace HD := HD.below hA
  replace HB := bt HB hA
  clear hA u0 u1 u2 u3 u4 u5 u6 u7 u8 u9
  rw [hbig2]
  obtain ⟨c0, c1, c2, c3, c4, c5, c6, c7, c8, c9⟩ := id HC
  go_wp2_with fail
  refine (CX.out _).mono ?_
  rintro e' W6 ⟨rfl, hA⟩
  replace HC := HC.below hA
  replace HD := HD.below hA
  replace HB := bt HB hA
  clear hA c0 c1 c2 c3 c4 c5 c6 c7 c8 c9
  obtain ⟨u0, u1, u2, u3, u4, u5, u6, u7, u8, u9⟩ := id HD
  go_wp2_with fail
  refine (CY.out _).mono ?_
  rintro e' W7 ⟨rfl, hA⟩
  replace HC := HC.below hA
  replace HD := HD.below hA
  replace HB := bt HB hA
  clear hA u0 u1 u2 u3 u4 u5 u6 u7 u8 u9
  go_wp2_with fail
  have HS : Hid (SJ w.heap.size ⟨k, a, b, d, ⟨p, q, e⟩, ⟨r, s, f⟩⟩ ⟨k2, a2, b2, d2, ⟨p2, q2, e2⟩, ⟨r2, s2, f2⟩⟩ W7.drew) := ⟨HC, HD⟩
  replace HB := Lib.hid HB.drew
  have hl1 := Lib.hid HC.lt
  clear HC HD
  go_cut [5, 6] from 25 to 30 (fun jp kp wx => ∃ jB kB : Nat, jp = .pointer (some ⟨jB, 0, none⟩) ∧ kp = .pointer (some ⟨kB, 0, none⟩) ∧ Hid (Cel wx w.heap.size ⟨k, a, b, d, ⟨p, q, e⟩, ⟨r, s, f⟩⟩ ∧ Cel wx (w.heap.size + 1) ⟨k2, a2, b2, d2, ⟨p2, q2, e2⟩, ⟨r2, s2, f2⟩⟩ ∧ Cel wx jB ⟨zk, za, zb, zd, ⟨zp, zq, ze⟩, ⟨zr, zs, zf⟩⟩ ∧ Cel wx kB ⟨yk, ya, yb, yd, ⟨yp, yq, ye⟩, ⟨yr, ys, yf⟩⟩) ∧ Hid (Below w.heap.size w wx))
  case first =>
    refine wp_region_held_drew (S := (SJ w.heap.size ⟨k, a, b, d, ⟨p, q, e⟩, ⟨r, s, f⟩⟩ ⟨k2, a2, b2, d2, ⟨p2, q2, e2⟩, ⟨r2, s2, f2⟩⟩)) (by kernel_rfl) ?_ (fun hHeld => ?_)
    · exact HS.out
    generalize W7.drew = Wd at *
    first | (refine take_w (i := 0) (d := (some 25)) (v := ?_) (by rfl) (by kernel_rfl) (by kernel_rfl) (by kernel_rfl) (fun _ _ _ h => h) (by rfl) ?_ (by first | with_reducible exact hHeld | assumption) ?_; rotate_left; (focus (intro o ho; simp only [List.getElem?_toArray, List.getElem?_cons_succ, List.getElem?_cons_zero, Option.some.injEq] at ho; subst ho; intro w hSw; (try simp only [SJ, Cel] at hSw); go_simp; (try with_reducible rfl); done)))
    try simp only [Act.put, List.setIfInBounds_toArray, List.set_cons_zero, List.set_cons_succ]
    first | (refine take_w (i := 1) (d := (some 26)) (v := ?_) (by rfl) (by kernel_rfl) (by kernel_rfl) (by kernel_rfl) (fun _ _ _ h => h) (by rfl) ?_ (by first | with_reducible exact hHeld | assumption) ?_; rotate_left; (focus (intro o ho; simp only [List.getElem?_toArray, List.getElem?_cons_succ, List.getElem?_cons_zero, Option.some.injEq] at ho; subst ho; intro w hSw; (try simp only [SJ, Cel] at hSw); go_simp; (try with_reducible rfl); done)))
    try simp only [Act.put, List.setIfInBounds_toArray, List.set_cons_zero, List.set_cons_succ]
    first | (refine take_w (i := 3) (d := (some 28)) (v := ?_) (by rfl) (by kernel_rfl) (by kernel_rfl) (by kernel_rfl) (fun _ _ _ h => h) (by rfl) ?_ (by first | with_reducible exact hHeld | assumption) ?_; rotate_left; (focus (intro o ho; simp only [List.getElem?_toArray, List.getElem?_cons_succ, List.getElem?_cons_zero, Option.some.injEq] at ho; subst ho; intro w hSw; (try simp only [SJ, Cel] at hSw); go_simp; (try with_reducible rfl); done)))
    try simp only [Act.put, List.setIfInBounds_toArray, List.set_cons_zero, List.set_cons_succ]
    first | (refine take_w (i := 4) (d := (some 29)) (v := ?_) (by rfl) (by kernel_rfl) (by kernel_rfl) (by kernel_rfl) (fun _ _ _ h => h) (by rfl) ?_ (by first | with_reducible exact hHeld | assumption) ?_; rotate_left; (focus (intro o ho; simp only [List.getElem?_toArray, List.getElem?_cons_succ, List.getElem?_cons_zero, Option.some.injEq] at ho; subst ho; intro w hSw; (try simp only [SJ, Cel] at hSw); go_simp; (try with_reducible rfl); done)))
    try simp only [Act.put, List.setIfInBounds_toArray, List.set_cons_zero, List.set_cons_succ]
    refine call_next3 (i := 2) (j := 6) (l := 7) (by kernel_rfl) (by rfl) (by rfl) (by rfl)  ?_ ?_ ?_
    · intro o ho K hK
      simp only [List.getElem?_toArray, List.getElem?_cons_succ, List.getElem?_cons_zero, Option.some.injEq] at ho
      subst ho
      go_simp
      (with_reducible refine (JX.out _).mono ?_)
      rintro e' Wn1 ⟨rfl, hA⟩
      replace HS : Hid (SJ w.heap.size ⟨k, a, b, d, ⟨p, q, e⟩, ⟨r, s, f⟩⟩ ⟨k2, a2, b2, d2, ⟨p2, q2, e2⟩, ⟨r2, s2, f2⟩⟩ Wn1) := ⟨HS.out.1.below hA, HS.out.2.below hA⟩
      replace HB := Lib.hid (bt HB.out hA)
      clear hA
      refine hK.out _ _ ?_ (fun hHeld => ?_)
      · exact HS.out
      clear hK K
      try simp only [Act.put, List.setIfInBounds_toArray, List.set_cons_zero, List.set_cons_succ]
      refine call_next3 (i := 5) (j := 6) (l := 7) (by kernel_rfl) (by rfl) (by rfl) (by rfl)  ?_ ?_ ?_
      · intro o ho K hK
        simp only [List.getElem?_toArray, List.getElem?_cons_succ, List.getElem?_cons_zero, Option.some.injEq] at ho
        subst ho
        go_simp
        (with_reducible refine (JY.out _).mono ?_)
        rintro e' Wn2 ⟨rfl, hA⟩
        replace HS : Hid (SJ w.heap.size ⟨k, a, b, d, ⟨p, q, e⟩, ⟨r, s, f⟩⟩ ⟨k2, a2, b2, d2, ⟨p2, q2, e2⟩, ⟨r2, s2, f2⟩⟩ Wn2) := ⟨HS.out.1.below hA, HS.out.2.below hA⟩
        replace HB := Lib.hid (bt HB.out hA)
        clear hA
        refine hK.out _ _ ?_ (fun hHeld => ?_)
        · exact HS.out
        clear hK K
        try simp only [Act.put, List.setIfInBounds_toArray, List.set_cons_zero, List.set_cons_succ]
        refine call_next2 (i := 6) (j := 7) (by kernel_rfl) (by rfl) (by rfl)  ?_ ?_
        · intro o ho K hK
          simp only [List.getElem?_toArray, List.getElem?_cons_succ, List.getElem?_cons_zero, Option.some.injEq] at ho
          subst ho
          go_simp
          have hA := (Below.refl Wn2.heap.size Wn2).alloc (Nat.le_refl _) (.cells #[.int .i64 0, .int .i64 0, .int .i64 0, .string ⟨#[]⟩, .int .i64 0, .int .i64 0, .string ⟨#[]⟩, .int .i64 0, .int .i64 0, .string ⟨#[]⟩] 27)
          have H6 := Lib.hid (Zer.new Wn2 27)
          have hs61 := Lib.hid (Nat.ne_of_lt HS.out.1.lt)
          have hs62 := Lib.hid (Nat.ne_of_lt HS.out.2.lt)
          have hg6 := Lib.hid (Nat.le_of_lt (Nat.lt_of_le_of_lt (Nat.le_refl _) HS.out.1.lt))
          replace HS : Hid (SJ w.heap.size ⟨k, a, b, d, ⟨p, q, e⟩, ⟨r, s, f⟩⟩ ⟨k2, a2, b2, d2, ⟨p2, q2, e2⟩, ⟨r2, s2, f2⟩⟩ (Wn2.alloc (.cells #[.int .i64 0, .int .i64 0, .int .i64 0, .string ⟨#[]⟩, .int .i64 0, .int .i64 0, .string ⟨#[]⟩, .int .i64 0, .int .i64 0, .string ⟨#[]⟩] 27))) := ⟨HS.out.1.below hA, HS.out.2.below hA⟩
          replace HB := Lib.hid (bt HB.out hA)
          clear hA
          refine hK.out _ _ ?_ (fun hHeld => ?_)
          · exact HS.out
          clear hK K
          generalize Wn2.alloc (.cells #[.int .i64 0, .int .i64 0, .int .i64 0, .string ⟨#[]⟩, .int .i64 0, .int .i64 0, .string ⟨#[]⟩, .int .i64 0, .int .i64 0, .string ⟨#[]⟩] 27) = Wn3 at *
          generalize hgg : Wn2.heap.size = g6 at *
          clear hgg
          try simp only [Act.put, List.setIfInBounds_toArray, List.set_cons_zero, List.set_cons_succ]
          refine call_next (i := 7) (by kernel_rfl) (by rfl)  ?_
          · intro o ho K hK
            simp only [List.getElem?_toArray, List.getElem?_cons_succ, List.getElem?_cons_zero, Option.some.injEq] at ho
            subst ho
            go_simp
            have hA := (Below.refl Wn3.heap.size Wn3).alloc (Nat.le_refl _) (.cells #[.int .i64 0, .int .i64 0, .int .i64 0, .string ⟨#[]⟩, .int .i64 0, .int .i64 0, .string ⟨#[]⟩, .int .i64 0, .int .i64 0, .string ⟨#[]⟩] 27)
            have H7 := Lib.hid (Zer.new Wn3 27)
            have hs71 := Lib.hid (Nat.ne_of_lt HS.out.1.lt)
            have hs72 := Lib.hid (Nat.ne_of_lt HS.out.2.lt)
            have hg7 := Lib.hid (Nat.le_of_lt (Nat.lt_of_le_of_lt (Nat.le_refl _) HS.out.1.lt))
            have h67 := Lib.hid (Nat.ne_of_lt H6.out.1.lt)
            replace HS : Hid (SJ w.heap.size ⟨k, a, b, d, ⟨p, q, e⟩, ⟨r, s, f⟩⟩ ⟨k2, a2, b2, d2, ⟨p2, q2, e2⟩, ⟨r2, s2, f2⟩⟩ (Wn3.alloc (.cells #[.int .i64 0, .int .i64 0, .int .i64 0, .string ⟨#[]⟩, .int .i64 0, .int .i64 0, .string ⟨#[]⟩, .int .i64 0, .int .i64 0, .string ⟨#[]⟩] 27))) := ⟨HS.out.1.below hA, HS.out.2.below hA⟩
            replace H6 := Lib.hid (H6.out.below hA)
            replace HB := Lib.hid (bt HB.out hA)
            clear hA
            refine hK.out _ _ ?_ (fun hHeld => ?_)
            · exact HS.out
            clear hK K
            generalize Wn3.alloc (.cells #[.int .i64 0, .int .i64 0, .int .i64 0, .string ⟨#[]⟩, .int .i64 0, .int .i64 0, .string ⟨#[]⟩, .int .i64 0, .int .i64 0, .string ⟨#[]⟩] 27) = Wn4 at *
            generalize hgg : Wn3.heap.size = g7 at *
            clear hgg
            try simp only [Act.put, List.setIfInBounds_toArray, List.set_cons_zero, List.set_cons_succ]
            refine call_next (i := 8) (by kernel_rfl) (by rfl) ?_
            intro o ho K hK
            simp only [List.getElem?_toArray, List.getElem?_cons_succ, List.getElem?_cons_zero, Option.some.injEq] at ho
            subst ho
            obtain ⟨⟨z0, z1, z2, z3, z4, z5, z6, z7, z8, z9⟩, v0, v1, v2, v3, v4, v5, v6, v7, v8, v9⟩ := H6.out
            go_simp
            refine hK.out _ (put10 Wn4 g6 ⟨zk, za, zb, zd, ⟨zp, zq, ze⟩, ⟨zr, zs, zf⟩⟩) ?_ (fun hHeld => ?_)
            · exact ⟨HS.out.1.put_ne hs61.out _, HS.out.2.put_ne hs62.out _⟩
            clear hK K z0 z1 z2 z3 z4 z5 z6 z7 z8 z9 v0 v1 v2 v3 v4 v5 v6 v7 v8 v9
            replace HS : Hid (SJ w.heap.size ⟨k, a, b, d, ⟨p, q, e⟩, ⟨r, s, f⟩⟩ ⟨k2, a2, b2, d2, ⟨p2, q2, e2⟩, ⟨r2, s2, f2⟩⟩ (put10 Wn4 g6 ⟨zk, za, zb, zd, ⟨zp, zq, ze⟩, ⟨zr, zs, zf⟩⟩)) := ⟨HS.out.1.put_ne hs61.out _, HS.out.2.put_ne hs62.out _⟩
            replace HB := Lib.hid (put10_below HB.out hg6.out ⟨zk, za, zb, zd, ⟨zp, zq, ze⟩, ⟨zr, zs, zf⟩⟩)
            have HJ := Lib.hid (H6.out.put ⟨zk, za, zb, zd, ⟨zp, zq, ze⟩, ⟨zr, zs, zf⟩⟩)
            replace H7 := Lib.hid (H7.out.put_ne h67.out.symm ⟨zk, za, zb, zd, ⟨zp, zq, ze⟩, ⟨zr, zs, zf⟩⟩)
            generalize put10 Wn4 g6 ⟨zk, za, zb, zd, ⟨zp, zq, ze⟩, ⟨zr, zs, zf⟩⟩ = Wp8 at *
            try simp only [Act.put, List.setIfInBounds_toArray, List.set_cons_zero, List.set_cons_succ]
            refine call_next (i := 9) (by kernel_rfl) (by rfl) ?_
            intro o ho K hK
            simp only [List.getElem?_toArray, List.getElem?_cons_succ, List.getElem?_cons_zero, Option.some.injEq] at ho
            subst ho
            obtain ⟨⟨z0, z1, z2, z3, z4, z5, z6, z7, z8, z9⟩, v0, v1, v2, v3, v4, v5, v6, v7, v8, v9⟩ := H7.out
            go_simp
            refine hK.out _ (put10 Wp8 g7 ⟨yk, ya, yb, yd, ⟨yp, yq, ye⟩, ⟨yr, ys, yf⟩⟩) ?_ (fun hHeld => ?_)
            · exact ⟨HS.out.1.put_ne hs71.out _, HS.out.2.put_ne hs72.out _⟩
            clear hK K z0 z1 z2 z3 z4 z5 z6 z7 z8 z9 v0 v1 v2 v3 v4 v5 v6 v7 v8 v9
            replace HS : Hid (SJ w.heap.size ⟨k, a, b, d, ⟨p, q, e⟩, ⟨r, s, f⟩⟩ ⟨k2, a2, b2, d2, ⟨p2, q2, e2⟩, ⟨r2, s2, f2⟩⟩ (put10 Wp8 g7 ⟨yk, ya, yb, yd, ⟨yp, yq, ye⟩, ⟨yr, ys, yf⟩⟩)) := ⟨HS.out.1.put_ne hs71.out _, HS.out.2.put_ne hs72.out _⟩
            replace HB := Lib.hid (put10_below HB.out hg7.out ⟨yk, ya, yb, yd, ⟨yp, yq, ye⟩, ⟨yr, ys, yf⟩⟩)
            replace HJ := Lib.hid (HJ.out.put_ne h67.out ⟨yk, ya, yb, yd, ⟨yp, yq, ye⟩, ⟨yr, ys, yf⟩⟩)
            have HK := Lib.hid (H7.out.put ⟨yk, ya, yb, yd, ⟨yp, yq, ye⟩, ⟨yr, ys, yf⟩⟩)
            generalize put10 Wp8 g7 ⟨yk, ya, yb, yd, ⟨yp, yq, ye⟩, ⟨yr, ys, yf⟩⟩ = Wp9 at *
            try simp only [Act.put, List.setIfInBounds_toArray, List.set_cons_zero, List.set_cons_succ]
            refine wpAnyH_done (by kernel_rfl) ?_ _
            go_wp2_with fail
            go_meet
            exact ⟨g6, g7, rfl, rfl, ⟨HS.out.1, HS.out.2, HJ.out, HK.out⟩, HB.out⟩
        · intro o ho K hK
          simp only [List.getElem?_toArray, List.getElem?_cons_succ, List.getElem?_cons_zero, Option.some.injEq] at ho
          subst ho
          go_simp
          have hA := (Below.refl Wn2.heap.size Wn2).alloc (Nat.le_refl _) (.cells #[.int .i64 0, .int .i64 0, .int .i64 0, .string ⟨#[]⟩, .int .i64 0, .int .i64 0, .string ⟨#[]⟩, .int .i64 0, .int .i64 0, .string ⟨#[]⟩] 27)
          have H7 := Lib.hid (Zer.new Wn2 27)
          have hs71 := Lib.hid (Nat.ne_of_lt HS.out.1.lt)
          have hs72 := Lib.hid (Nat.ne_of_lt HS.out.2.lt)
          have hg7 := Lib.hid (Nat.le_of_lt (Nat.lt_of_le_of_lt (Nat.le_refl _) HS.out.1.lt))
          replace HS : Hid (SJ w.heap.size ⟨k, a, b, d, ⟨p, q, e⟩, ⟨r, s, f⟩⟩ ⟨k2, a2, b2, d2, ⟨p2, q2, e2⟩, ⟨r2, s2, f2⟩⟩ (Wn2.alloc (.cells #[.int .i64 0, .int .i64 0, .int .i64 0, .string ⟨#[]⟩, .int .i64 0, .int .i64 0, .string ⟨#[]⟩, .int .i64 0, .int .i64 0, .string ⟨#[]⟩] 27))) := ⟨HS.out.1.below hA, HS.out.2.below hA⟩
          replace HB := Lib.hid (bt HB.out hA)
          clear hA
          refine hK.out _ _ ?_ (fun hHeld => ?_)
          · exact HS.out
          clear hK K
          generalize Wn2.alloc (.cells #[.int .i64 0, .int .i64 0, .int .i64 0, .string ⟨#[]⟩, .int .i64 0, .int .i64 0, .string ⟨#[]⟩, .int .i64 0, .int .i64 0, .string ⟨#[]⟩] 27) = Wn5 at *
          generalize hgg : Wn2.heap.size = g7 at *
          clear hgg
          try simp only [Act.put, List.setIfInBounds_toArray, List.set_cons_zero, List.set_cons_succ]
          refine call_next (i := 6) (by kernel_rfl) (by rfl)  ?_
          · intro o ho K hK
            simp only [List.getElem?_toArray, List.getElem?_cons_succ, List.getElem?_cons_zero, Option.some.injEq] at ho
            subst ho
            go_simp
            have hA := (Below.refl Wn5.heap.size Wn5).alloc (Nat.le_refl _) (.cells #[.int .i64 0, .int .i64 0, .int .i64 0, .string ⟨#[]⟩, .int .i64 0, .int .i64 0, .string ⟨#[]⟩, .int .i64 0, .int .i64 0, .string ⟨#[]⟩] 27)
            have H6 := Lib.hid (Zer.new Wn5 27)
            have hs61 := Lib.hid (Nat.ne_of_lt HS.out.1.lt)
            have hs62 := Lib.hid (Nat.ne_of_lt HS.out.2.lt)
            have hg6 := Lib.hid (Nat.le_of_lt (Nat.lt_of_le_of_lt (Nat.le_refl _) HS.out.1.lt))
            have h67 := Lib.hid ((Nat.ne_of_lt H7.out.1.lt).symm)
            replace HS : Hid (SJ w.heap.size ⟨k, a, b, d, ⟨p, q, e⟩, ⟨r, s, f⟩⟩ ⟨k2, a2, b2, d2, ⟨p2, q2, e2⟩, ⟨r2, s2, f2⟩⟩ (Wn5.alloc (.cells #[.int .i64 0, .int .i64 0, .int .i64 0, .string ⟨#[]⟩, .int .i64 0, .int .i64 0, .string ⟨#[]⟩, .int .i64 0, .int .i64 0, .string ⟨#[]⟩] 27))) := ⟨HS.out.1.below hA, HS.out.2.below hA⟩
            replace H7 := Lib.hid (H7.out.below hA)
            replace HB := Lib.hid (bt HB.out hA)
            clear hA
            refine hK.out _ _ ?_ (fun hHeld => ?_)
            · exact HS.out
            clear hK K
            generalize Wn5.alloc (.cells #[.int .i64 0, .int .i64 0, .int .i64 0, .string ⟨#[]⟩, .int .i64 0, .int .i64 0, .string ⟨#[]⟩, .int .i64 0, .int .i64 0, .string ⟨#[]⟩] 27) = Wn6 at *
            generalize hgg : Wn5.heap.size = g6 at *
            clear hgg
            try simp only [Act.put, List.setIfInBounds_toArray, List.set_cons_zero, List.set_cons_succ]
            refine call_next (i := 8) (by kernel_rfl) (by rfl) ?_
            intro o ho K hK
            simp only [List.getElem?_toArray, List.getElem?_cons_succ, List.getElem?_cons_zero, Option.some.injEq] at ho
            subst ho
            obtain ⟨⟨z0, z1, z2, z3, z4, z5, z6, z7, z8, z9⟩, v0, v1, v2, v3, v4, v5, v6, v7, v8, v9⟩ := H6.out
            go_simp
            refine hK.out _ (put10 Wn6 g6 ⟨zk, za, zb, zd, ⟨zp, zq, ze⟩, ⟨zr, zs, zf⟩⟩) ?_ (fun hHeld => ?_)
            · exact ⟨HS.out.1.put_ne hs61.out _, HS.out.2.put_ne hs62.out _⟩
            clear hK K z0 z1 z2 z3 z4 z5 z6 z7 z8 z9 v0 v1 v2 v3 v4 v5 v6 v7 v8 v9
            replace HS : Hid (SJ w.heap.size ⟨k, a, b, d, ⟨p, q, e⟩, ⟨r, s, f⟩⟩ ⟨k2, a2, b2, d2, ⟨p2, q2, e2⟩, ⟨r2, s2, f2⟩⟩ (put10 Wn6 g6 ⟨zk, za, zb, zd, ⟨zp, zq, ze⟩, ⟨zr, zs, zf⟩⟩)) := ⟨HS.out.1.put_ne hs61.out _, HS.out.2.put_ne hs62.out _⟩
            replace HB := Lib.hid (put10_below HB.out hg6.out ⟨zk, za, zb, zd, ⟨zp, zq, ze⟩, ⟨zr, zs, zf⟩⟩)
            have HJ := Lib.hid (H6.out.put ⟨zk, za, zb, zd, ⟨zp, zq, ze⟩, ⟨zr, zs, zf⟩⟩)
            replace H7 := Lib.hid (H7.out.put_ne h67.out.symm ⟨zk, za, zb, zd, ⟨zp, zq, ze⟩, ⟨zr, zs, zf⟩⟩)
            generalize put10 Wn6 g6 ⟨zk, za, zb, zd, ⟨zp, zq, ze⟩, ⟨zr, zs, zf⟩⟩ = Wp8 at *
            try simp only [Act.put, List.setIfInBounds_toArray, List.set_cons_zero, List.set_cons_succ]
            refine call_next (i := 9) (by kernel_rfl) (by rfl) ?_
            intro o ho K hK
            simp only [List.getElem?_toArray, List.getElem?_cons_succ, List.getElem?_cons_zero, Option.some.injEq] at ho
            subst ho
            obtain ⟨⟨z0, z1, z2, z3, z4, z5, z6, z7, z8, z9⟩, v0, v1, v2, v3, v4, v5, v6, v7, v8, v9⟩ := H7.out
            go_simp
            refine hK.out _ (put10 Wp8 g7 ⟨yk, ya, yb, yd, ⟨yp, yq, ye⟩, ⟨yr, ys, yf⟩⟩) ?_ (fun hHeld => ?_)
            · exact ⟨HS.out.1.put_ne hs71.out _, HS.out.2.put_ne hs72.out _⟩
            clear hK K z0 z1 z2 z3 z4 z5 z6 z7 z8 z9 v0 v1 v2 v3 v4 v5 v6 v7 v8 v9
            replace HS : Hid (SJ w.heap.size ⟨k, a, b, d, ⟨p, q, e⟩, ⟨r, s, f⟩⟩ ⟨k2, a2, b2, d2, ⟨p2, q2, e2⟩, ⟨r2, s2, f2⟩⟩ (put10 Wp8 g7 ⟨yk, ya, yb, yd, ⟨yp, yq, ye⟩, ⟨yr, ys, yf⟩⟩)) := ⟨HS.out.1.put_ne hs71.out _, HS.out.2.put_ne hs72.out _⟩
            replace HB := Lib.hid (put10_below HB.out hg7.out ⟨yk, ya, yb, yd, ⟨yp, yq, ye⟩, ⟨yr, ys, yf⟩⟩)
            replace HJ := Lib.hid (HJ.out.put_ne h67.out ⟨yk, ya, yb, yd, ⟨yp, yq, ye⟩, ⟨yr, ys, yf⟩⟩)
            have HK := Lib.hid (H7.out.put ⟨yk, ya, yb, yd, ⟨yp, yq, ye⟩, ⟨yr, ys, yf⟩⟩)
            generalize put10 Wp8 g7 ⟨yk, ya, yb, yd, ⟨yp, yq, ye⟩, ⟨yr, ys, yf⟩⟩ = Wp9 at *
            try simp only [Act.put, List.setIfInBounds_toArray, List.set_cons_zero, List.set_cons_succ]
            refine wpAnyH_done (by kernel_rfl) ?_ _
            go_wp2_with fail
            go_meet
            exact ⟨g6, g7, rfl, rfl, ⟨HS.out.1, HS.out.2, HJ.out, HK.out⟩, HB.out⟩
      · intro o ho K hK
        simp only [List.getElem?_toArray, List.getElem?_cons_succ, List.getElem?_cons_zero, Option.some.injEq] at ho
        subst ho
        go_simp
        have hA := (Below.refl Wn1.heap.size Wn1).alloc (Nat.le_refl _) (.cells #[.int .i64 0, .int .i64 0, .int .i64 0, .string ⟨#[]⟩, .int .i64 0, .int .i64 0, .string ⟨#[]⟩, .int .i64 0, .int .i64 0, .string ⟨#[]⟩] 27)
        have H6 := Lib.hid (Zer.new Wn1 27)
        have hs61 := Lib.hid (Nat.ne_of_lt HS.out.1.lt)
        have hs62 := Lib.hid (Nat.ne_of_lt HS.out.2.lt)
        have hg6 := Lib.hid (Nat.le_of_lt (Nat.lt_of_le_of_lt (Nat.le_refl _) HS.out.1.lt))
        replace HS : Hid (SJ w.heap.size ⟨k, a, b, d, ⟨p, q, e⟩, ⟨r, s, f⟩⟩ ⟨k2, a2, b2, d2, ⟨p2, q2, e2⟩, ⟨r2, s2, f2⟩⟩ (Wn1.alloc (.cells #[.int .i64 0, .int .i64 0, .int .i64 0, .string ⟨#[]⟩, .int .i64 0, .int .i64 0, .string ⟨#[]⟩, .int .i64 0, .int .i64 0, .string ⟨#[]⟩] 27))) := ⟨HS.out.1.below hA, HS.out.2.below hA⟩
        replace HB := Lib.hid (bt HB.out hA)
        clear hA
        refine hK.out _ _ ?_ (fun hHeld => ?_)
        · exact HS.out
        clear hK K
        generalize Wn1.alloc (.cells #[.int .i64 0, .int .i64 0, .int .i64 0, .string ⟨#[]⟩, .int .i64 0, .int .i64 0, .string ⟨#[]⟩, .int .i64 0, .int .i64 0, .string ⟨#[]⟩] 27) = Wn7 at *
        generalize hgg : Wn1.heap.size = g6 at *
        clear hgg
        try simp only [Act.put, List.setIfInBounds_toArray, List.set_cons_zero, List.set_cons_succ]
        refine call_next2 (i := 5) (j := 7) (by kernel_rfl) (by rfl) (by rfl)  ?_ ?_
        · intro o ho K hK
          simp only [List.getElem?_toArray, List.getElem?_cons_succ, List.getElem?_cons_zero, Option.some.injEq] at ho
          subst ho
          go_simp
          (with_reducible refine (JY.out _).mono ?_)
          rintro e' Wn8 ⟨rfl, hA⟩
          replace HS : Hid (SJ w.heap.size ⟨k, a, b, d, ⟨p, q, e⟩, ⟨r, s, f⟩⟩ ⟨k2, a2, b2, d2, ⟨p2, q2, e2⟩, ⟨r2, s2, f2⟩⟩ Wn8) := ⟨HS.out.1.below hA, HS.out.2.below hA⟩
          replace H6 := Lib.hid (H6.out.below hA)
          replace HB := Lib.hid (bt HB.out hA)
          clear hA
          refine hK.out _ _ ?_ (fun hHeld => ?_)
          · exact HS.out
          clear hK K
          try simp only [Act.put, List.setIfInBounds_toArray, List.set_cons_zero, List.set_cons_succ]
          refine call_next (i := 7) (by kernel_rfl) (by rfl)  ?_
          · intro o ho K hK
            simp only [List.getElem?_toArray, List.getElem?_cons_succ, List.getElem?_cons_zero, Option.some.injEq] at ho
            subst ho
            go_simp
            have hA := (Below.refl Wn8.heap.size Wn8).alloc (Nat.le_refl _) (.cells #[.int .i64 0, .int .i64 0, .int .i64 0, .string ⟨#[]⟩, .int .i64 0, .int .i64 0, .string ⟨#[]⟩, .int .i64 0, .int .i64 0, .string ⟨#[]⟩] 27)
            have H7 := Lib.hid (Zer.new Wn8 27)
            have hs71 := Lib.hid (Nat.ne_of_lt HS.out.1.lt)
            have hs72 := Lib.hid (Nat.ne_of_lt HS.out.2.lt)
            have hg7 := Lib.hid (Nat.le_of_lt (Nat.lt_of_le_of_lt (Nat.le_refl _) HS.out.1.lt))
            have h67 := Lib.hid (Nat.ne_of_lt H6.out.1.lt)
            replace HS : Hid (SJ w.heap.size ⟨k, a, b, d, ⟨p, q, e⟩, ⟨r, s, f⟩⟩ ⟨k2, a2, b2, d2, ⟨p2, q2, e2⟩, ⟨r2, s2, f2⟩⟩ (Wn8.alloc (.cells #[.int .i64 0, .int .i64 0, .int .i64 0, .string ⟨#[]⟩, .int .i64 0, .int .i64 0, .string ⟨#[]⟩, .int .i64 0, .int .i64 0, .string ⟨#[]⟩] 27))) := ⟨HS.out.1.below hA, HS.out.2.below hA⟩
            replace H6 := Lib.hid (H6.out.below hA)
            replace HB := Lib.hid (bt HB.out hA)
            clear hA
            refine hK.out _ _ ?_ (fun hHeld => ?_)
            · exact HS.out
            clear hK K
            generalize Wn8.alloc (.cells #[.int .i64 0, .int .i64 0, .int .i64 0, .string ⟨#[]⟩, .int .i64 0, .int .i64 0, .string ⟨#[]⟩, .int .i64 0, .int .i64 0, .string ⟨#[]⟩] 27) = Wn9 at *
            generalize hgg : Wn8.heap.size = g7 at *
            clear hgg
            try simp only [Act.put, List.setIfInBounds_toArray, List.set_cons_zero, List.set_cons_succ]
            refine call_next (i := 8) (by kernel_rfl) (by rfl) ?_
            intro o ho K hK
            simp only [List.getElem?_toArray, List.getElem?_cons_succ, List.getElem?_cons_zero, Option.some.injEq] at ho
            subst ho
            obtain ⟨⟨z0, z1, z2, z3, z4, z5, z6, z7, z8, z9⟩, v0, v1, v2, v3, v4, v5, v6, v7, v8, v9⟩ := H6.out
            go_simp
            refine hK.out _ (put10 Wn9 g6 ⟨zk, za, zb, zd, ⟨zp, zq, ze⟩, ⟨zr, zs, zf⟩⟩) ?_ (fun hHeld => ?_)
            · exact ⟨HS.out.1.put_ne hs61.out _, HS.out.2.put_ne hs62.out _⟩
            clear hK K z0 z1 z2 z3 z4 z5 z6 z7 z8 z9 v0 v1 v2 v3 v4 v5 v6 v7 v8 v9
            replace HS : Hid (SJ w.heap.size ⟨k, a, b, d, ⟨p, q, e⟩, ⟨r, s, f⟩⟩ ⟨k2, a2, b2, d2, ⟨p2, q2, e2⟩, ⟨r2, s2, f2⟩⟩ (put10 Wn9 g6 ⟨zk, za, zb, zd, ⟨zp, zq, ze⟩, ⟨zr, zs, zf⟩⟩)) := ⟨HS.out.1.put_ne hs61.out _, HS.out.2.put_ne hs62.out _⟩
            replace HB := Lib.hid (put10_below HB.out hg6.out ⟨zk, za, zb, zd, ⟨zp, zq, ze⟩, ⟨zr, zs, zf⟩⟩)
            have HJ := Lib.hid (H6.out.put ⟨zk, za, zb, zd, ⟨zp, zq, ze⟩, ⟨zr, zs, zf⟩⟩)
            replace H7 := Lib.hid (H7.out.put_ne h67.out.symm ⟨zk, za, zb, zd, ⟨zp, zq, ze⟩, ⟨zr, zs, zf⟩⟩)
            generalize put10 Wn9 g6 ⟨zk, za, zb, zd, ⟨zp, zq, ze⟩, ⟨zr, zs, zf⟩⟩ = Wp8 at *
            try simp only [Act.put, List.setIfInBounds_toArray, List.set_cons_zero, List.set_cons_succ]
            refine call_next (i := 9) (by kernel_rfl) (by rfl) ?_
            intro o ho K hK
            simp only [List.getElem?_toArray, List.getElem?_cons_succ, List.getElem?_cons_zero, Option.some.injEq] at ho
            subst ho
            obtain ⟨⟨z0, z1, z2, z3, z4, z5, z6, z7, z8, z9⟩, v0, v1, v2, v3, v4, v5, v6, v7, v8, v9⟩ := H7.out
            go_simp
            refine hK.out _ (put10 Wp8 g7 ⟨yk, ya, yb, yd, ⟨yp, yq, ye⟩, ⟨yr, ys, yf⟩⟩) ?_ (fun hHeld => ?_)
            · exact ⟨HS.out.1.put_ne hs71.out _, HS.out.2.put_ne hs72.out _⟩
            clear hK K z0 z1 z2 z3 z4 z5 z6 z7 z8 z9 v0 v1 v2 v3 v4 v5 v6 v7 v8 v9
            replace HS : Hid (SJ w.heap.size ⟨k, a, b, d, ⟨p, q, e⟩, ⟨r, s, f⟩⟩ ⟨k2, a2, b2, d2, ⟨p2, q2, e2⟩, ⟨r2, s2, f2⟩⟩ (put10 Wp8 g7 ⟨yk, ya, yb, yd, ⟨yp, yq, ye⟩, ⟨yr, ys, yf⟩⟩)) := ⟨HS.out.1.put_ne hs71.out _, HS.out.2.put_ne hs72.out _⟩
            replace HB := Lib.hid (put10_below HB.out hg7.out ⟨yk, ya, yb, yd, ⟨yp, yq, ye⟩, ⟨yr, ys, yf⟩⟩)
            replace HJ := Lib.hid (HJ.out.put_ne h67.out ⟨yk, ya, yb, yd, ⟨yp, yq, ye⟩, ⟨yr, ys, yf⟩⟩)
            have HK := Lib.hid (H7.out.put ⟨yk, ya, yb, yd, ⟨yp, yq, ye⟩, ⟨yr, ys, yf⟩⟩)
            generalize put10 Wp8 g7 ⟨yk, ya, yb, yd, ⟨yp, yq, ye⟩, ⟨yr, ys, yf⟩⟩ = Wp9 at *
            try simp only [Act.put, List.setIfInBounds_toArray, List.set_cons_zero, List.set_cons_succ]
            refine wpAnyH_done (by kernel_rfl) ?_ _
            go_wp2_with fail
            go_meet
            exact ⟨g6, g7, rfl, rfl, ⟨HS.out.1, HS.out.2, HJ.out, HK.out⟩, HB.out⟩
        · intro o ho K hK
          simp only [List.getElem?_toArray, List.getElem?_cons_succ, List.getElem?_cons_zero, Option.some.injEq] at ho
          subst ho
          go_simp
          have hA := (Below.refl Wn7.heap.size Wn7).alloc (Nat.le_refl _) (.cells #[.int .i64 0, .int .i64 0, .int .i64 0, .string ⟨#[]⟩, .int .i64 0, .int .i64 0, .string ⟨#[]⟩, .int .i64 0, .int .i64 0, .string ⟨#[]⟩] 27)
          have H7 := Lib.hid (Zer.new Wn7 27)
          have hs71 := Lib.hid (Nat.ne_of_lt HS.out.1.lt)
          have hs72 := Lib.hid (Nat.ne_of_lt HS.out.2.lt)
          have hg7 := Lib.hid (Nat.le_of_lt (Nat.lt_of_le_of_lt (Nat.le_refl _) HS.out.1.lt))
          have h67 := Lib.hid (Nat.ne_of_lt H6.out.1.lt)
          replace HS : Hid (SJ w.heap.size ⟨k, a, b, d, ⟨p, q, e⟩, ⟨r, s, f⟩⟩ ⟨k2, a2, b2, d2, ⟨p2, q2, e2⟩, ⟨r2, s2, f2⟩⟩ (Wn7.alloc (.cells #[.int .i64 0, .int .i64 0, .int .i64 0, .string ⟨#[]⟩, .int .i64 0, .int .i64 0, .string ⟨#[]⟩, .int .i64 0, .int .i64 0, .string ⟨#[]⟩] 27))) := ⟨HS.out.1.below hA, HS.out.2.below hA⟩
          replace H6 := Lib.hid (H6.out.below hA)
          replace HB := Lib.hid (bt HB.out hA)
          clear hA
          refine hK.out _ _ ?_ (fun hHeld => ?_)
          · exact HS.out
          clear hK K
          generalize Wn7.alloc (.cells #[.int .i64 0, .int .i64 0, .int .i64 0, .string ⟨#[]⟩, .int .i64 0, .int .i64 0, .string ⟨#[]⟩, .int .i64 0, .int .i64 0, .string ⟨#[]⟩] 27) = Wn10 at *
          generalize hgg : Wn7.heap.size = g7 at *
          clear hgg
          try simp only [Act.put, List.setIfInBounds_toArray, List.set_cons_zero, List.set_cons_succ]
          refine call_next (i := 5) (by kernel_rfl) (by rfl)  ?_
          · intro o ho K hK
            simp only [List.getElem?_toArray, List.getElem?_cons_succ, List.getElem?_cons_zero, Option.some.injEq] at ho
            subst ho
            go_simp
            (with_reducible refine (JY.out _).mono ?_)
            rintro e' Wn11 ⟨rfl, hA⟩
            replace HS : Hid (SJ w.heap.size ⟨k, a, b, d, ⟨p, q, e⟩, ⟨r, s, f⟩⟩ ⟨k2, a2, b2, d2, ⟨p2, q2, e2⟩, ⟨r2, s2, f2⟩⟩ Wn11) := ⟨HS.out.1.below hA, HS.out.2.below hA⟩
            replace H6 := Lib.hid (H6.out.below hA)
            replace H7 := Lib.hid (H7.out.below hA)
            replace HB := Lib.hid (bt HB.out hA)
            clear hA
            refine hK.out _ _ ?_ (fun hHeld => ?_)
            · exact HS.out
            clear hK K
            try simp only [Act.put, List.setIfInBounds_toArray, List.set_cons_zero, List.set_cons_succ]
            refine call_next (i := 8) (by kernel_rfl) (by rfl) ?_
            intro o ho K hK
            simp only [List.getElem?_toArray, List.getElem?_cons_succ, List.getElem?_cons_zero, Option.some.injEq] at ho
            subst ho
            obtain ⟨⟨z0, z1, z2, z3, z4, z5, z6, z7, z8, z9⟩, v0, v1, v2, v3, v4, v5, v6, v7, v8, v9⟩ := H6.out
            go_simp
            refine hK.out _ (put10 Wn11 g6 ⟨zk, za, zb, zd, ⟨zp, zq, ze⟩, ⟨zr, zs, zf⟩⟩) ?_ (fun hHeld => ?_)
            · exact ⟨HS.out.1.put_ne hs61.out _, HS.out.2.put_ne hs62.out _⟩
            clear hK K z0 z1 z2 z3 z4 z5 z6 z7 z8 z9 v0 v1 v2 v3 v4 v5 v6 v7 v8 v9
            replace HS : Hid (SJ w.heap.size ⟨k, a, b, d, ⟨p, q, e⟩, ⟨r, s, f⟩⟩ ⟨k2, a2, b2, d2, ⟨p2, q2, e2⟩, ⟨r2, s2, f2⟩⟩ (put10 Wn11 g6 ⟨zk, za, zb, zd, ⟨zp, zq, ze⟩, ⟨zr, zs, zf⟩⟩)) := ⟨HS.out.1.put_ne hs61.out _, HS.out.2.put_ne hs62.out _⟩
            replace HB := Lib.hid (put10_below HB.out hg6.out ⟨zk, za, zb, zd, ⟨zp, zq, ze⟩, ⟨zr, zs, zf⟩⟩)
            have HJ := Lib.hid (H6.out.put ⟨zk, za, zb, zd, ⟨zp, zq, ze⟩, ⟨zr, zs, zf⟩⟩)
            replace H7 := Lib.hid (H7.out.put_ne h67.out.symm ⟨zk, za, zb, zd, ⟨zp, zq, ze⟩, ⟨zr, zs, zf⟩⟩)
            generalize put10 Wn11 g6 ⟨zk, za, zb, zd, ⟨zp, zq, ze⟩, ⟨zr, zs, zf⟩⟩ = Wp8 at *
            try simp only [Act.put, List.setIfInBounds_toArray, List.set_cons_zero, List.set_cons_succ]
            refine call_next (i := 9) (by kernel_rfl) (by rfl) ?_
            intro o ho K hK
            simp only [List.getElem?_toArray, List.getElem?_cons_succ, List.getElem?_cons_zero, Option.some.injEq] at ho
            subst ho
            obtain ⟨⟨z0, z1, z2, z3, z4, z5, z6, z7, z8, z9⟩, v0, v1, v2, v3, v4, v5, v6, v7, v8, v9⟩ := H7.out
            go_simp
            refine hK.out _ (put10 Wp8 g7 ⟨yk, ya, yb, yd, ⟨yp, yq, ye⟩, ⟨yr, ys, yf⟩⟩) ?_ (fun hHeld => ?_)
            · exact ⟨HS.out.1.put_ne hs71.out _, HS.out.2.put_ne hs72.out _⟩
            clear hK K z0 z1 z2 z3 z4 z5 z6 z7 z8 z9 v0 v1 v2 v3 v4 v5 v6 v7 v8 v9
            replace HS : Hid (SJ w.heap.size ⟨k, a, b, d, ⟨p, q, e⟩, ⟨r, s, f⟩⟩ ⟨k2, a2, b2, d2, ⟨p2, q2, e2⟩, ⟨r2, s2, f2⟩⟩ (put10 Wp8 g7 ⟨yk, ya, yb, yd, ⟨yp, yq, ye⟩, ⟨yr, ys, yf⟩⟩)) := ⟨HS.out.1.put_ne hs71.out _, HS.out.2.put_ne hs72.out _⟩
            replace HB := Lib.hid (put10_below HB.out hg7.out ⟨yk, ya, yb, yd, ⟨yp, yq, ye⟩, ⟨yr, ys, yf⟩⟩)
            replace HJ := Lib.hid (HJ.out.put_ne h67.out ⟨yk, ya, yb, yd, ⟨yp, yq, ye⟩, ⟨yr, ys, yf⟩⟩)
            have HK := Lib.hid (H7.out.put ⟨yk, ya, yb, yd, ⟨yp, yq, ye⟩, ⟨yr, ys, yf⟩⟩)
            generalize put10 Wp8 g7 ⟨yk, ya, yb, yd, ⟨yp, yq, ye⟩, ⟨yr, ys, yf⟩⟩ = Wp9 at *
            try simp only [Act.put, List.setIfInBounds_toArray, List.set_cons_zero, List.set_cons_succ]
            refine wpAnyH_done (by kernel_rfl) ?_ _
            go_wp2_with fail
            go_meet
            exact ⟨g6, g7, rfl, rfl, ⟨HS.out.1, HS.out.2, HJ.out, HK.out⟩, HB.out⟩
      · intro o ho K hK
        simp only [List.getElem?_toArray, List.getElem?_cons_succ, List.getElem?_cons_zero, Option.some.injEq] at ho
        subst ho
        go_simp
        have hA := (Below.refl Wn1.heap.size Wn1).alloc (Nat.le_refl _) (.cells #[.int .i64 0, .int .i64 0, .int .i64 0, .string ⟨#[]⟩, .int .i64 0, .int .i64 0, .string ⟨#[]⟩, .int .i64 0, .int .i64 0, .string ⟨#[]⟩] 27)
        have H7 := Lib.hid (Zer.new Wn1 27)
        have hs71 := Lib.hid (Nat.ne_of_lt HS.out.1.lt)
        have hs72 := Lib.hid (Nat.ne_of_lt HS.out.2.lt)
        have hg7 := Lib.hid (Nat.le_of_lt (Nat.lt_of_le_of_lt (Nat.le_refl _) HS.out.1.lt))
        replace HS : Hid (SJ w.heap.size ⟨k, a, b, d, ⟨p, q, e⟩, ⟨r, s, f⟩⟩ ⟨k2, a2, b2, d2, ⟨p2, q2, e2⟩, ⟨r2, s2, f2⟩⟩ (Wn1.alloc (.cells #[.int .i64 0, .int .i64 0, .int .i64 0, .string ⟨#[]⟩, .int .i64 0, .int .i64 0, .string ⟨#[]⟩, .int .i64 0, .int .i64 0, .string ⟨#[]⟩] 27))) := ⟨HS.out.1.below hA, HS.out.2.below hA⟩
        replace HB := Lib.hid (bt HB.out hA)
        clear hA
        refine hK.out _ _ ?_ (fun hHeld => ?_)
        · exact HS.out
        clear hK K
        generalize Wn1.alloc (.cells #[.int .i64 0, .int .i64 0, .int .i64 0, .string ⟨#[]⟩, .int .i64 0, .int .i64 0, .string ⟨#[]⟩, .int .i64 0, .int .i64 0, .string ⟨#[]⟩] 27) = Wn12 at *
        generalize hgg : Wn1.heap.size = g7 at *
        clear hgg
        try simp only [Act.put, List.setIfInBounds_toArray, List.set_cons_zero, List.set_cons_succ]
        refine call_next2 (i := 5) (j := 6) (by kernel_rfl) (by rfl) (by rfl)  ?_ ?_
        · intro o ho K hK
          simp only [List.getElem?_toArray, List.getElem?_cons_succ, List.getElem?_cons_zero, Option.some.injEq] at ho
          subst ho
          go_simp
          (with_reducible refine (JY.out _).mono ?_)
          rintro e' Wn13 ⟨rfl, hA⟩
          replace HS : Hid (SJ w.heap.size ⟨k, a, b, d, ⟨p, q, e⟩, ⟨r, s, f⟩⟩ ⟨k2, a2, b2, d2, ⟨p2, q2, e2⟩, ⟨r2, s2, f2⟩⟩ Wn13) := ⟨HS.out.1.below hA, HS.out.2.below hA⟩
          replace H7 := Lib.hid (H7.out.below hA)
          replace HB := Lib.hid (bt HB.out hA)
          clear hA
          refine hK.out _ _ ?_ (fun hHeld => ?_)
          · exact HS.out
          clear hK K
          try simp only [Act.put, List.setIfInBounds_toArray, List.set_cons_zero, List.set_cons_succ]
          refine call_next (i := 6) (by kernel_rfl) (by rfl)  ?_
          · intro o ho K hK
            simp only [List.getElem?_toArray, List.getElem?_cons_succ, List.getElem?_cons_zero, Option.some.injEq] at ho
            subst ho
            go_simp
            have hA := (Below.refl Wn13.heap.size Wn13).alloc (Nat.le_refl _) (.cells #[.int .i64 0, .int .i64 0, .int .i64 0, .string ⟨#[]⟩, .int .i64 0, .int .i64 0, .string ⟨#[]⟩, .int .i64 0, .int .i64 0, .string ⟨#[]⟩] 27)
            have H6 := Lib.hid (Zer.new Wn13 27)
            have hs61 := Lib.hid (Nat.ne_of_lt HS.out.1.lt)
            have hs62 := Lib.hid (Nat.ne_of_lt HS.out.2.lt)
            have hg6 := Lib.hid (Nat.le_of_lt (Nat.lt_of_le_of_lt (Nat.le_refl _) HS.out.1.lt))
            have h67 := Lib.hid ((Nat.ne_of_lt H7.out.1.lt).symm)
            replace HS : Hid (SJ w.heap.size ⟨k, a, b, d, ⟨p, q, e⟩, ⟨r, s, f⟩⟩ ⟨k2, a2, b2, d2, ⟨p2, q2, e2⟩, ⟨r2, s2, f2⟩⟩ (Wn13.alloc (.cells #[.int .i64 0, .int .i64 0, .int .i64 0, .string ⟨#[]⟩, .int .i64 0, .int .i64 0, .string ⟨#[]⟩, .int .i64 0, .int .i64 0, .string ⟨#[]⟩] 27))) := ⟨HS.out.1.below hA, HS.out.2.below hA⟩
            replace H7 := Lib.hid (H7.out.below hA)
            replace HB := Lib.hid (bt HB.out hA)
            clear hA
            refine hK.out _ _ ?_ (fun hHeld => ?_)
            · exact HS.out
            clear hK K
            generalize Wn13.alloc (.cells #[.int .i64 0, .int .i64 0, .int .i64 0, .string ⟨#[]⟩, .int .i64 0, .int .i64 0, .string ⟨#[]⟩, .int .i64 0, .int .i64 0, .string ⟨#[]⟩] 27) = Wn14 at *
            generalize hgg : Wn13.heap.size = g6 at *
            clear hgg
            try simp only [Act.put, List.setIfInBounds_toArray, List.set_cons_zero, List.set_cons_succ]
            refine call_next (i := 8) (by kernel_rfl) (by rfl) ?_
            intro o ho K hK
            simp only [List.getElem?_toArray, List.getElem?_cons_succ, List.getElem?_cons_zero, Option.some.injEq] at ho
            subst ho
            obtain ⟨⟨z0, z1, z2, z3, z4, z5, z6, z7, z8, z9⟩, v0, v1, v2, v3, v4, v5, v6, v7, v8, v9⟩ := H6.out
            go_simp
            refine hK.out _ (put10 Wn14 g6 ⟨zk, za, zb, zd, ⟨zp, zq, ze⟩, ⟨zr, zs, zf⟩⟩) ?_ (fun hHeld => ?_)
            · exact ⟨HS.out.1.put_ne hs61.out _, HS.out.2.put_ne hs62.out _⟩
            clear hK K z0 z1 z2 z3 z4 z5 z6 z7 z8 z9 v0 v1 v2 v3 v4 v5 v6 v7 v8 v9
            replace HS : Hid (SJ w.heap.size ⟨k, a, b, d, ⟨p, q, e⟩, ⟨r, s, f⟩⟩ ⟨k2, a2, b2, d2, ⟨p2, q2, e2⟩, ⟨r2, s2, f2⟩⟩ (put10 Wn14 g6 ⟨zk, za, zb, zd, ⟨zp, zq, ze⟩, ⟨zr, zs, zf⟩⟩)) := ⟨HS.out.1.put_ne hs61.out _, HS.out.2.put_ne hs62.out _⟩
            replace HB := Lib.hid (put10_below HB.out hg6.out ⟨zk, za, zb, zd, ⟨zp, zq, ze⟩, ⟨zr, zs, zf⟩⟩)
            have HJ := Lib.hid (H6.out.put ⟨zk, za, zb, zd, ⟨zp, zq, ze⟩, ⟨zr, zs, zf⟩⟩)
            replace H7 := Lib.hid (H7.out.put_ne h67.out.symm ⟨zk, za, zb, zd, ⟨zp, zq, ze⟩, ⟨zr, zs, zf⟩⟩)
            generalize put10 Wn14 g6 ⟨zk, za, zb, zd, ⟨zp, zq, ze⟩, ⟨zr, zs, zf⟩⟩ = Wp8 at *
            try simp only [Act.put, List.setIfInBounds_toArray, List.set_cons_zero, List.set_cons_succ]
            refine call_next (i := 9) (by kernel_rfl) (by rfl) ?_
            intro o ho K hK
            simp only [List.getElem?_toArray, List.getElem?_cons_succ, List.getElem?_cons_zero, Option.some.injEq] at ho
            subst ho
            obtain ⟨⟨z0, z1, z2, z3, z4, z5, z6, z7, z8, z9⟩, v0, v1, v2, v3, v4, v5, v6, v7, v8, v9⟩ := H7.out
            go_simp
            refine hK.out _ (put10 Wp8 g7 ⟨yk, ya, yb, yd, ⟨yp, yq, ye⟩, ⟨yr, ys, yf⟩⟩) ?_ (fun hHeld => ?_)
            · exact ⟨HS.out.1.put_ne hs71.out _, HS.out.2.put_ne hs72.out _⟩
            clear hK K z0 z1 z2 z3 z4 z5 z6 z7 z8 z9 v0 v1 v2 v3 v4 v5 v6 v7 v8 v9
            replace HS : Hid (SJ w.heap.size ⟨k, a, b, d, ⟨p, q, e⟩, ⟨r, s, f⟩⟩ ⟨k2, a2, b2, d2, ⟨p2, q2, e2⟩, ⟨r2, s2, f2⟩⟩ (put10 Wp8 g7 ⟨yk, ya, yb, yd, ⟨yp, yq, ye⟩, ⟨yr, ys, yf⟩⟩)) := ⟨HS.out.1.put_ne hs71.out _, HS.out.2.put_ne hs72.out _⟩
            replace HB := Lib.hid (put10_below HB.out hg7.out ⟨yk, ya, yb, yd, ⟨yp, yq, ye⟩, ⟨yr, ys, yf⟩⟩)
            replace HJ := Lib.hid (HJ.out.put_ne h67.out ⟨yk, ya, yb, yd, ⟨yp, yq, ye⟩, ⟨yr, ys, yf⟩⟩)
            have HK := Lib.hid (H7.out.put ⟨yk, ya, yb, yd, ⟨yp, yq, ye⟩, ⟨yr, ys, yf⟩⟩)
            generalize put10 Wp8 g7 ⟨yk, ya, yb, yd, ⟨yp, yq, ye⟩, ⟨yr, ys, yf⟩⟩ = Wp9 at *
            try simp only [Act.put, List.setIfInBounds_toArray, List.set_cons_zero, List.set_cons_succ]
            refine wpAnyH_done (by kernel_rfl) ?_ _
            go_wp2_with fail
            go_meet
            exact ⟨g6, g7, rfl, rfl, ⟨HS.out.1, HS.out.2, HJ.out, HK.out⟩, HB.out⟩
        · intro o ho K hK
          simp only [List.getElem?_toArray, List.getElem?_cons_succ, List.getElem?_cons_zero, Option.some.injEq] at ho
          subst ho
          go_simp
          have hA := (Below.refl Wn12.heap.size Wn12).alloc (Nat.le_refl _) (.cells #[.int .i64 0, .int .i64 0, .int .i64 0, .string ⟨#[]⟩, .int .i64 0, .int .i64 0, .string ⟨#[]⟩, .int .i64 0, .int .i64 0, .string ⟨#[]⟩] 27)
          have H6 := Lib.hid (Zer.new Wn12 27)
          have hs61 := Lib.hid (Nat.ne_of_lt HS.out.1.lt)
          have hs62 := Lib.hid (Nat.ne_of_lt HS.out.2.lt)
          have hg6 := Lib.hid (Nat.le_of_lt (Nat.lt_of_le_of_lt (Nat.le_refl _) HS.out.1.lt))
          have h67 := Lib.hid ((Nat.ne_of_lt H7.out.1.lt).symm)
          replace HS : Hid (SJ w.heap.size ⟨k, a, b, d, ⟨p, q, e⟩, ⟨r, s, f⟩⟩ ⟨k2, a2, b2, d2, ⟨p2, q2, e2⟩, ⟨r2, s2, f2⟩⟩ (Wn12.alloc (.cells #[.int .i64 0, .int .i64 0, .int .i64 0, .string ⟨#[]⟩, .int .i64 0, .int .i64 0, .string ⟨#[]⟩, .int .i64 0, .int .i64 0, .string ⟨#[]⟩] 27))) := ⟨HS.out.1.below hA, HS.out.2.below hA⟩
          replace H7 := Lib.hid (H7.out.below hA)
          replace HB := Lib.hid (bt HB.out hA)
          clear hA
          refine hK.out _ _ ?_ (fun hHeld => ?_)
          · exact HS.out
          clear hK K
          generalize Wn12.alloc (.cells #[.int .i64 0, .int .i64 0, .int .i64 0, .string ⟨#[]⟩, .int .i64 0, .int .i64 0, .string ⟨#[]⟩, .int .i64 0, .int .i64 0, .string ⟨#[]⟩] 27) = Wn15 at *
          generalize hgg : Wn12.heap.size = g6 at *
          clear hgg
          try simp only [Act.put, List.setIfInBounds_toArray, List.set_cons_zero, List.set_cons_succ]
          refine call_next (i := 5) (by kernel_rfl) (by rfl)  ?_
          · intro o ho K hK
            simp only [List.getElem?_toArray, List.getElem?_cons_succ, List.getElem?_cons_zero, Option.some.injEq] at ho
            subst ho
            go_simp
            (with_reducible refine (JY.out _).mono ?_)
            rintro e' Wn16 ⟨rfl, hA⟩
            replace HS : Hid (SJ w.heap.size ⟨k, a, b, d, ⟨p, q, e⟩, ⟨r, s, f⟩⟩ ⟨k2, a2, b2, d2, ⟨p2, q2, e2⟩, ⟨r2, s2, f2⟩⟩ Wn16) := ⟨HS.out.1.below hA, HS.out.2.below hA⟩
            replace H6 := Lib.hid (H6.out.below hA)
            replace H7 := Lib.hid (H7.out.below hA)
            replace HB := Lib.hid (bt HB.out hA)
            clear hA
            refine hK.out _ _ ?_ (fun hHeld => ?_)
            · exact HS.out
            clear hK K
            try simp only [Act.put, List.setIfInBounds_toArray, List.set_cons_zero, List.set_cons_succ]
            refine call_next (i := 8) (by kernel_rfl) (by rfl) ?_
            intro o ho K hK
            simp only [List.getElem?_toArray, List.getElem?_cons_succ, List.getElem?_cons_zero, Option.some.injEq] at ho
            subst ho
            obtain ⟨⟨z0, z1, z2, z3, z4, z5, z6, z7, z8, z9⟩, v0, v1, v2, v3, v4, v5, v6, v7, v8, v9⟩ := H6.out
            go_simp
            refine hK.out _ (put10 Wn16 g6 ⟨zk, za, zb, zd, ⟨zp, zq, ze⟩, ⟨zr, zs, zf⟩⟩) ?_ (fun hHeld => ?_)
            · exact ⟨HS.out.1.put_ne hs61.out _, HS.out.2.put_ne hs62.out _⟩
            clear hK K z0 z1 z2 z3 z4 z5 z6 z7 z8 z9 v0 v1 v2 v3 v4 v5 v6 v7 v8 v9
            replace HS : Hid (SJ w.heap.size ⟨k, a, b, d, ⟨p, q, e⟩, ⟨r, s, f⟩⟩ ⟨k2, a2, b2, d2, ⟨p2, q2, e2⟩, ⟨r2, s2, f2⟩⟩ (put10 Wn16 g6 ⟨zk, za, zb, zd, ⟨zp, zq, ze⟩, ⟨zr, zs, zf⟩⟩)) := ⟨HS.out.1.put_ne hs61.out _, HS.out.2.put_ne hs62.out _⟩
            replace HB := Lib.hid (put10_below HB.out hg6.out ⟨zk, za, zb, zd, ⟨zp, zq, ze⟩, ⟨zr, zs, zf⟩⟩)
            have HJ := Lib.hid (H6.out.put ⟨zk, za, zb, zd, ⟨zp, zq, ze⟩, ⟨zr, zs, zf⟩⟩)
            replace H7 := Lib.hid (H7.out.put_ne h67.out.symm ⟨zk, za, zb, zd, ⟨zp, zq, ze⟩, ⟨zr, zs, zf⟩⟩)
            generalize put10 Wn16 g6 ⟨zk, za, zb, zd, ⟨zp, zq, ze⟩, ⟨zr, zs, zf⟩⟩ = Wp8 at *
            try simp only [Act.put, List.setIfInBounds_toArray, List.set_cons_zero, List.set_cons_succ]
            refine call_next (i := 9) (by kernel_rfl) (by rfl) ?_
            intro o ho K hK
            simp only [List.getElem?_toArray, List.getElem?_cons_succ, List.getElem?_cons_zero, Option.some.injEq] at ho
            subst ho
            obtain ⟨⟨z0, z1, z2, z3, z4, z5, z6, z7, z8, z9⟩, v0, v1, v2, v3, v4, v5, v6, v7, v8, v9⟩ := H7.out
            go_simp
            refine hK.out _ (put10 Wp8 g7 ⟨yk, ya, yb, yd, ⟨yp, yq, ye⟩, ⟨yr, ys, yf⟩⟩) ?_ (fun hHeld => ?_)
            · exact ⟨HS.out.1.put_ne hs71.out _, HS.out.2.put_ne hs72.out _⟩
            clear hK K z0 z1 z2 z3 z4 z5 z6 z7 z8 z9 v0 v1 v2 v3 v4 v5 v6 v7 v8 v9
            replace HS : Hid (SJ w.heap.size ⟨k, a, b, d, ⟨p, q, e⟩, ⟨r, s, f⟩⟩ ⟨k2, a2, b2, d2, ⟨p2, q2, e2⟩, ⟨r2, s2, f2⟩⟩ (put10 Wp8 g7 ⟨yk, ya, yb, yd, ⟨yp, yq, ye⟩, ⟨yr, ys, yf⟩⟩)) := ⟨HS.out.1.put_ne hs71.out _, HS.out.2.put_ne hs72.out _⟩
            replace HB := Lib.hid (put10_below HB.out hg7.out ⟨yk, ya, yb, yd, ⟨yp, yq, ye⟩, ⟨yr, ys, yf⟩⟩)
            replace HJ := Lib.hid (HJ.out.put_ne h67.out ⟨yk, ya, yb, yd, ⟨yp, yq, ye⟩, ⟨yr, ys, yf⟩⟩)
            have HK := Lib.hid (H7.out.put ⟨yk, ya, yb, yd, ⟨yp, yq, ye⟩, ⟨yr, ys, yf⟩⟩)
            generalize put10 Wp8 g7 ⟨yk, ya, yb, yd, ⟨yp, yq, ye⟩, ⟨yr, ys, yf⟩⟩ = Wp9 at *
            try simp only [Act.put, List.setIfInBounds_toArray, List.set_cons_zero, List.set_cons_succ]
            refine wpAnyH_done (by kernel_rfl) ?_ _
            go_wp2_with fail
            go_meet
            exact ⟨g6, g7, rfl, rfl, ⟨HS.out.1, HS.out.2, HJ.out, HK.out⟩, HB.out⟩
    · intro o ho K hK
      simp only [List.getElem?_toArray, List.getElem?_cons_succ, List.getElem?_cons_zero, Option.some.injEq] at ho
      subst ho
      go_simp
      have hA := (Below.refl Wd.heap.size Wd).alloc (Nat.le_refl _) (.cells #[.int .i64 0, .int .i64 0, .int .i64 0, .string ⟨#[]⟩, .int .i64 0, .int .i64 0, .string ⟨#[]⟩, .int .i64 0, .int .i64 0, .string ⟨#[]⟩] 27)
      have H6 := Lib.hid (Zer.new Wd 27)
      have hs61 := Lib.hid (Nat.ne_of_lt HS.out.1.lt)
      have hs62 := Lib.hid (Nat.ne_of_lt HS.out.2.lt)
      have hg6 := Lib.hid (Nat.le_of_lt (Nat.lt_of_le_of_lt (Nat.le_refl _) HS.out.1.lt))
      replace HS : Hid (SJ w.heap.size ⟨k, a, b, d, ⟨p, q, e⟩, ⟨r, s, f⟩⟩ ⟨k2, a2, b2, d2, ⟨p2, q2, e2⟩, ⟨r2, s2, f2⟩⟩ (Wd.alloc (.cells #[.int .i64 0, .int .i64 0, .int .i64 0, .string ⟨#[]⟩, .int .i64 0, .int .i64 0, .string ⟨#[]⟩, .int .i64 0, .int .i64 0, .string ⟨#[]⟩] 27))) := ⟨HS.out.1.below hA, HS.out.2.below hA⟩
      replace HB := Lib.hid (bt HB.out hA)
      clear hA
      refine hK.out _ _ ?_ (fun hHeld => ?_)
      · exact HS.out
      clear hK K
      generalize Wd.alloc (.cells #[.int .i64 0, .int .i64 0, .int .i64 0, .string ⟨#[]⟩, .int .i64 0, .int .i64 0, .string ⟨#[]⟩, .int .i64 0, .int .i64 0, .string ⟨#[]⟩] 27) = Wn17 at *
      generalize hgg : Wd.heap.size = g6 at *
      clear hgg
      try simp only [Act.put, List.setIfInBounds_toArray, List.set_cons_zero, List.set_cons_succ]
      refine call_next2 (i := 2) (j := 7) (by kernel_rfl) (by rfl) (by rfl)  ?_ ?_
      · intro o ho K hK
        simp only [List.getElem?_toArray, List.getElem?_cons_succ, List.getElem?_cons_zero, Option.some.injEq] at ho
        subst ho
        go_simp
        (with_reducible refine (JX.out _).mono ?_)
        rintro e' Wn18 ⟨rfl, hA⟩
        replace HS : Hid (SJ w.heap.size ⟨k, a, b, d, ⟨p, q, e⟩, ⟨r, s, f⟩⟩ ⟨k2, a2, b2, d2, ⟨p2, q2, e2⟩, ⟨r2, s2, f2⟩⟩ Wn18) := ⟨HS.out.1.below hA, HS.out.2.below hA⟩
        replace H6 := Lib.hid (H6.out.below hA)
        replace HB := Lib.hid (bt HB.out hA)
        clear hA
        refine hK.out _ _ ?_ (fun hHeld => ?_)
        · exact HS.out
        clear hK K
        try simp only [Act.put, List.setIfInBounds_toArray, List.set_cons_zero, List.set_cons_succ]
        refine call_next2 (i := 5) (j := 7) (by kernel_rfl) (by rfl) (by rfl)  ?_ ?_
        · intro o ho K hK
          simp only [List.getElem?_toArray, List.getElem?_cons_succ, List.getElem?_cons_zero, Option.some.injEq] at ho
          subst ho
          go_simp
          (with_reducible refine (JY.out _).mono ?_)
          rintro e' Wn19 ⟨rfl, hA⟩
          replace HS : Hid (SJ w.heap.size ⟨k, a, b, d, ⟨p, q, e⟩, ⟨r, s, f⟩⟩ ⟨k2, a2, b2, d2, ⟨p2, q2, e2⟩, ⟨r2, s2, f2⟩⟩ Wn19) := ⟨HS.out.1.below hA, HS.out.2.below hA⟩
          replace H6 := Lib.hid (H6.out.below hA)
          replace HB := Lib.hid (bt HB.out hA)
          clear hA
          refine hK.out _ _ ?_ (fun hHeld => ?_)
          · exact HS.out
          clear hK K
          try simp only [Act.put, List.setIfInBounds_toArray, List.set_cons_zero, List.set_cons_succ]
          refine call_next (i := 7) (by kernel_rfl) (by rfl)  ?_
          · intro o ho K hK
            simp only [List.getElem?_toArray, List.getElem?_cons_succ, List.getElem?_cons_zero, Option.some.injEq] at ho
            subst ho
            go_simp
            have hA := (Below.refl Wn19.heap.size Wn19).alloc (Nat.le_refl _) (.cells #[.int .i64 0, .int .i64 0, .int .i64 0, .string ⟨#[]⟩, .int .i64 0, .int .i64 0, .string ⟨#[]⟩, .int .i64 0, .int .i64 0, .string ⟨#[]⟩] 27)
            have H7 := Lib.hid (Zer.new Wn19 27)
            have hs71 := Lib.hid (Nat.ne_of_lt HS.out.1.lt)
            have hs72 := Lib.hid (Nat.ne_of_lt HS.out.2.lt)
            have hg7 := Lib.hid (Nat.le_of_lt (Nat.lt_of_le_of_lt (Nat.le_refl _) HS.out.1.lt))
            have h67 := Lib.hid (Nat.ne_of_lt H6.out.1.lt)
            replace HS : Hid (SJ w.heap.size ⟨k, a, b, d, ⟨p, q, e⟩, ⟨r, s, f⟩⟩ ⟨k2, a2, b2, d2, ⟨p2, q2, e2⟩, ⟨r2, s2, f2⟩⟩ (Wn19.alloc (.cells #[.int .i64 0, .int .i64 0, .int .i64 0, .string ⟨#[]⟩, .int .i64 0, .int .i64 0, .string ⟨#[]⟩, .int .i64 0, .int .i64 0, .string ⟨#[]⟩] 27))) := ⟨HS.out.1.below hA, HS.out.2.below hA⟩
            replace H6 := Lib.hid (H6.out.below hA)
            replace HB := Lib.hid (bt HB.out hA)
            clear hA
            refine hK.out _ _ ?_ (fun hHeld => ?_)
            · exact HS.out
            clear hK K
            generalize Wn19.alloc (.cells #[.int .i64 0, .int .i64 0, .int .i64 0, .string ⟨#[]⟩, .int .i64 0, .int .i64 0, .string ⟨#[]⟩, .int .i64 0, .int .i64 0, .string ⟨#[]⟩] 27) = Wn20 at *
            generalize hgg : Wn19.heap.size = g7 at *
            clear hgg
            try simp only [Act.put, List.setIfInBounds_toArray, List.set_cons_zero, List.set_cons_succ]
            refine call_next (i := 8) (by kernel_rfl) (by rfl) ?_
            intro o ho K hK
            simp only [List.getElem?_toArray, List.getElem?_cons_succ, List.getElem?_cons_zero, Option.some.injEq] at ho
            subst ho
            obtain ⟨⟨z0, z1, z2, z3, z4, z5, z6, z7, z8, z9⟩, v0, v1, v2, v3, v4, v5, v6, v7, v8, v9⟩ := H6.out
            go_simp
            refine hK.out _ (put10 Wn20 g6 ⟨zk, za, zb, zd, ⟨zp, zq, ze⟩, ⟨zr, zs, zf⟩⟩) ?_ (fun hHeld => ?_)
            · exact ⟨HS.out.1.put_ne hs61.out _, HS.out.2.put_ne hs62.out _⟩
            clear hK K z0 z1 z2 z3 z4 z5 z6 z7 z8 z9 v0 v1 v2 v3 v4 v5 v6 v7 v8 v9
            replace HS : Hid (SJ w.heap.size ⟨k, a, b, d, ⟨p, q, e⟩, ⟨r, s, f⟩⟩ ⟨k2, a2, b2, d2, ⟨p2, q2, e2⟩, ⟨r2, s2, f2⟩⟩ (put10 Wn20 g6 ⟨zk, za, zb, zd, ⟨zp, zq, ze⟩, ⟨zr, zs, zf⟩⟩)) := ⟨HS.out.1.put_ne hs61.out _, HS.out.2.put_ne hs62.out _⟩
            replace HB := Lib.hid (put10_below HB.out hg6.out ⟨zk, za, zb, zd, ⟨zp, zq, ze⟩, ⟨zr, zs, zf⟩⟩)
            have HJ := Lib.hid (H6.out.put ⟨zk, za, zb, zd, ⟨zp, zq, ze⟩, ⟨zr, zs, zf⟩⟩)
            replace H7 := Lib.hid (H7.out.put_ne h67.out.symm ⟨zk, za, zb, zd, ⟨zp, zq, ze⟩, ⟨zr, zs, zf⟩⟩)
            generalize put10 Wn20 g6 ⟨zk, za, zb, zd, ⟨zp, zq, ze⟩, ⟨zr, zs, zf⟩⟩ = Wp8 at *
            try simp only [Act.put, List.setIfInBounds_toArray, List.set_cons_zero, List.set_cons_succ]
            refine call_next (i := 9) (by kernel_rfl) (by rfl) ?_
            intro o ho K hK
            simp only [List.getElem?_toArray, List.getElem?_cons_succ, List.getElem?_cons_zero, Option.some.injEq] at ho
            subst ho
            obtain ⟨⟨z0, z1, z2, z3, z4, z5, z6, z7, z8, z9⟩, v0, v1, v2, v3, v4, v5, v6, v7, v8, v9⟩ := H7.out
            go_simp
            refine hK.out _ (put10 Wp8 g7 ⟨yk, ya, yb, yd, ⟨yp, yq, ye⟩, ⟨yr, ys, yf⟩⟩) ?_ (fun hHeld => ?_)
            · exact ⟨HS.out.1.put_ne hs71.out _, HS.out.2.put_ne hs72.out _⟩
            clear hK K z0 z1 z2 z3 z4 z5 z6 z7 z8 z9 v0 v1 v2 v3 v4 v5 v6 v7 v8 v9
            replace HS : Hid (SJ w.heap.size ⟨k, a, b, d, ⟨p, q, e⟩, ⟨r, s, f⟩⟩ ⟨k2, a2, b2, d2, ⟨p2, q2, e2⟩, ⟨r2, s2, f2⟩⟩ (put10 Wp8 g7 ⟨yk, ya, yb, yd, ⟨yp, yq, ye⟩, ⟨yr, ys, yf⟩⟩)) := ⟨HS.out.1.put_ne hs71.out _, HS.out.2.put_ne hs72.out _⟩
            replace HB := Lib.hid (put10_below HB.out hg7.out ⟨yk, ya, yb, yd, ⟨yp, yq, ye⟩, ⟨yr, ys, yf⟩⟩)
            replace HJ := Lib.hid (HJ.out.put_ne h67.out ⟨yk, ya, yb, yd, ⟨yp, yq, ye⟩, ⟨yr, ys, yf⟩⟩)
            have HK := Lib.hid (H7.out.put ⟨yk, ya, yb, yd, ⟨yp, yq, ye⟩, ⟨yr, ys, yf⟩⟩)
            generalize put10 Wp8 g7 ⟨yk, ya, yb, yd, ⟨yp, yq, ye⟩, ⟨yr, ys, yf⟩⟩ = Wp9 at *
            try simp only [Act.put, List.setIfInBounds_toArray, List.set_cons_zero, List.set_cons_succ]
            refine wpAnyH_done (by kernel_rfl) ?_ _
            go_wp2_with fail
            go_meet
            exact ⟨g6, g7, rfl, rfl, ⟨HS.out.1, HS.out.2, HJ.out, HK.out⟩, HB.out⟩
        · intro o ho K hK
          simp only [List.getElem?_toArray, List.getElem?_cons_succ, List.getElem?_cons_zero, Option.some.injEq] at ho
          subst ho
          go_simp
          have hA := (Below.refl Wn18.heap.size Wn18).alloc (Nat.le_refl _) (.cells #[.int .i64 0, .int .i64 0, .int .i64 0, .string ⟨#[]⟩, .int .i64 0, .int .i64 0, .string ⟨#[]⟩, .int .i64 0, .int .i64 0, .string ⟨#[]⟩] 27)
          have H7 := Lib.hid (Zer.new Wn18 27)
          have hs71 := Lib.hid (Nat.ne_of_lt HS.out.1.lt)
          have hs72 := Lib.hid (Nat.ne_of_lt HS.out.2.lt)
          have hg7 := Lib.hid (Nat.le_of_lt (Nat.lt_of_le_of_lt (Nat.le_refl _) HS.out.1.lt))
          have h67 := Lib.hid (Nat.ne_of_lt H6.out.1.lt)
          replace HS : Hid (SJ w.heap.size ⟨k, a, b, d, ⟨p, q, e⟩, ⟨r, s, f⟩⟩ ⟨k2, a2, b2, d2, ⟨p2, q2, e2⟩, ⟨r2, s2, f2⟩⟩ (Wn18.alloc (.cells #[.int .i64 0, .int .i64 0, .int .i64 0, .string ⟨#[]⟩, .int .i64 0, .int .i64 0, .string ⟨#[]⟩, .int .i64 0, .int .i64 0, .string ⟨#[]⟩] 27))) := ⟨HS.out.1.below hA, HS.out.2.below hA⟩
          replace H6 := Lib.hid (H6.out.below hA)
          replace HB := Lib.hid (bt HB.out hA)
          clear hA
          refine hK.out _ _ ?_ (fun hHeld => ?_)
          · exact HS.out
          clear hK K
          generalize Wn18.alloc (.cells #[.int .i64 0, .int .i64 0, .int .i64 0, .string ⟨#[]⟩, .int .i64 0, .int .i64 0, .string ⟨#[]⟩, .int .i64 0, .int .i64 0, .string ⟨#[]⟩] 27) = Wn21 at *
          generalize hgg : Wn18.heap.size = g7 at *
          clear hgg
          try simp only [Act.put, List.setIfInBounds_toArray, List.set_cons_zero, List.set_cons_succ]
          refine call_next (i := 5) (by kernel_rfl) (by rfl)  ?_
          · intro o ho K hK
            simp only [List.getElem?_toArray, List.getElem?_cons_succ, List.getElem?_cons_zero, Option.some.injEq] at ho
            subst ho
            go_simp
            (with_reducible refine (JY.out _).mono ?_)
            rintro e' Wn22 ⟨rfl, hA⟩
            replace HS : Hid (SJ w.heap.size ⟨k, a, b, d, ⟨p, q, e⟩, ⟨r, s, f⟩⟩ ⟨k2, a2, b2, d2, ⟨p2, q2, e2⟩, ⟨r2, s2, f2⟩⟩ Wn22) := ⟨HS.out.1.below hA, HS.out.2.below hA⟩
            replace H6 := Lib.hid (H6.out.below hA)
            replace H7 := Lib.hid (H7.out.below hA)
            replace HB := Lib.hid (bt HB.out hA)
            clear hA
            refine hK.out _ _ ?_ (fun hHeld => ?_)
            · exact HS.out
            clear hK K
            try simp only [Act.put, List.setIfInBounds_toArray, List.set_cons_zero, List.set_cons_succ]
            refine call_next (i := 8) (by kernel_rfl) (by rfl) ?_
            intro o ho K hK
            simp only [List.getElem?_toArray, List.getElem?_cons_succ, List.getElem?_cons_zero, Option.some.injEq] at ho
            subst ho
            obtain ⟨⟨z0, z1, z2, z3, z4, z5, z6, z7, z8, z9⟩, v0, v1, v2, v3, v4, v5, v6, v7, v8, v9⟩ := H6.out
            go_simp
            refine hK.out _ (put10 Wn22 g6 ⟨zk, za, zb, zd, ⟨zp, zq, ze⟩, ⟨zr, zs, zf⟩⟩) ?_ (fun hHeld => ?_)
            · exact ⟨HS.out.1.put_ne hs61.out _, HS.out.2.put_ne hs62.out _⟩
            clear hK K z0 z1 z2 z3 z4 z5 z6 z7 z8 z9 v0 v1 v2 v3 v4 v5 v6 v7 v8 v9
            replace HS : Hid (SJ w.heap.size ⟨k, a, b, d, ⟨p, q, e⟩, ⟨r, s, f⟩⟩ ⟨k2, a2, b2, d2, ⟨p2, q2, e2⟩, ⟨r2, s2, f2⟩⟩ (put10 Wn22 g6 ⟨zk, za, zb, zd, ⟨zp, zq, ze⟩, ⟨zr, zs, zf⟩⟩)) := ⟨HS.out.1.put_ne hs61.out _, HS.out.2.put_ne hs62.out _⟩
            replace HB := Lib.hid (put10_below HB.out hg6.out ⟨zk, za, zb, zd, ⟨zp, zq, ze⟩, ⟨zr, zs, zf⟩⟩)
            have HJ := Lib.hid (H6.out.put ⟨zk, za, zb, zd, ⟨zp, zq, ze⟩, ⟨zr, zs, zf⟩⟩)
            replace H7 := Lib.hid (H7.out.put_ne h67.out.symm ⟨zk, za, zb, zd, ⟨zp, zq, ze⟩, ⟨zr, zs, zf⟩⟩)
            generalize put10 Wn22 g6 ⟨zk, za, zb, zd, ⟨zp, zq, ze⟩, ⟨zr, zs, zf⟩⟩ = Wp8 at *
            try simp only [Act.put, List.setIfInBounds_toArray, List.set_cons_zero, List.set_cons_succ]
            refine call_next (i := 9) (by kernel_rfl) (by rfl) ?_
            intro o ho K hK
            simp only [List.getElem?_toArray, List.getElem?_cons_succ, List.getElem?_cons_zero, Option.some.injEq] at ho
            subst ho
            obtain ⟨⟨z0, z1, z2, z3, z4, z5, z6, z7, z8, z9⟩, v0, v1, v2, v3, v4, v5, v6, v7, v8, v9⟩ := H7.out
            go_simp
            refine hK.out _ (put10 Wp8 g7 ⟨yk, ya, yb, yd, ⟨yp, yq, ye⟩, ⟨yr, ys, yf⟩⟩) ?_ (fun hHeld => ?_)
            · exact ⟨HS.out.1.put_ne hs71.out _, HS.out.2.put_ne hs72.out _⟩
            clear hK K z0 z1 z2 z3 z4 z5 z6 z7 z8 z9 v0 v1 v2 v3 v4 v5 v6 v7 v8 v9
            replace HS : Hid (SJ w.heap.size ⟨k, a, b, d, ⟨p, q, e⟩, ⟨r, s, f⟩⟩ ⟨k2, a2, b2, d2, ⟨p2, q2, e2⟩, ⟨r2, s2, f2⟩⟩ (put10 Wp8 g7 ⟨yk, ya, yb, yd, ⟨yp, yq, ye⟩, ⟨yr, ys, yf⟩⟩)) := ⟨HS.out.1.put_ne hs71.out _, HS.out.2.put_ne hs72.out _⟩
            replace HB := Lib.hid (put10_below HB.out hg7.out ⟨yk, ya, yb, yd, ⟨yp, yq, ye⟩, ⟨yr, ys, yf⟩⟩)
            replace HJ := Lib.hid (HJ.out.put_ne h67.out ⟨yk, ya, yb, yd, ⟨yp, yq, ye⟩, ⟨yr, ys, yf⟩⟩)
            have HK := Lib.hid (H7.out.put ⟨yk, ya, yb, yd, ⟨yp, yq, ye⟩, ⟨yr, ys, yf⟩⟩)
            generalize put10 Wp8 g7 ⟨yk, ya, yb, yd, ⟨yp, yq, ye⟩, ⟨yr, ys, yf⟩⟩ = Wp9 at *
            try simp only [Act.put, List.setIfInBounds_toArray, List.set_cons_zero, List.set_cons_succ]
            refine wpAnyH_done (by kernel_rfl) ?_ _
            go_wp2_with fail
            go_meet
            exact ⟨g6, g7, rfl, rfl, ⟨HS.out.1, HS.out.2, HJ.out, HK.out⟩, HB.out⟩
      · intro o ho K hK
        simp only [List.getElem?_toArray, List.getElem?_cons_succ, List.getElem?_cons_zero, Option.some.injEq] at ho
        subst ho
        go_simp
        have hA := (Below.refl Wn17.heap.size Wn17).alloc (Nat.le_refl _) (.cells #[.int .i64 0, .int .i64 0, .int .i64 0, .string ⟨#[]⟩, .int .i64 0, .int .i64 0, .string ⟨#[]⟩, .int .i64 0, .int .i64 0, .string ⟨#[]⟩] 27)
        have H7 := Lib.hid (Zer.new Wn17 27)
        have hs71 := Lib.hid (Nat.ne_of_lt HS.out.1.lt)
        have hs72 := Lib.hid (Nat.ne_of_lt HS.out.2.lt)
        have hg7 := Lib.hid (Nat.le_of_lt (Nat.lt_of_le_of_lt (Nat.le_refl _) HS.out.1.lt))
        have h67 := Lib.hid (Nat.ne_of_lt H6.out.1.lt)
        replace HS : Hid (SJ w.heap.size ⟨k, a, b, d, ⟨p, q, e⟩, ⟨r, s, f⟩⟩ ⟨k2, a2, b2, d2, ⟨p2, q2, e2⟩, ⟨r2, s2, f2⟩⟩ (Wn17.alloc (.cells #[.int .i64 0, .int .i64 0, .int .i64 0, .string ⟨#[]⟩, .int .i64 0, .int .i64 0, .string ⟨#[]⟩, .int .i64 0, .int .i64 0, .string ⟨#[]⟩] 27))) := ⟨HS.out.1.below hA, HS.out.2.below hA⟩
        replace H6 := Lib.hid (H6.out.below hA)
        replace HB := Lib.hid (bt HB.out hA)
        clear hA
        refine hK.out _ _ ?_ (fun hHeld => ?_)
        · exact HS.out
        clear hK K
        generalize Wn17.alloc (.cells #[.int .i64 0, .int .i64 0, .int .i64 0, .string ⟨#[]⟩, .int .i64 0, .int .i64 0, .string ⟨#[]⟩, .int .i64 0, .int .i64 0, .string ⟨#[]⟩] 27) = Wn23 at *
        generalize hgg : Wn17.heap.size = g7 at *
        clear hgg
        try simp only [Act.put, List.setIfInBounds_toArray, List.set_cons_zero, List.set_cons_succ]
        refine call_next (i := 2) (by kernel_rfl) (by rfl)  ?_
        · intro o ho K hK
          simp only [List.getElem?_toArray, List.getElem?_cons_succ, List.getElem?_cons_zero, Option.some.injEq] at ho
          subst ho
          go_simp
          (with_reducible refine (JX.out _).mono ?_)
          rintro e' Wn24 ⟨rfl, hA⟩
          replace HS : Hid (SJ w.heap.size ⟨k, a, b, d, ⟨p, q, e⟩, ⟨r, s, f⟩⟩ ⟨k2, a2, b2, d2, ⟨p2, q2, e2⟩, ⟨r2, s2, f2⟩⟩ Wn24) := ⟨HS.out.1.below hA, HS.out.2.below hA⟩
          replace H6 := Lib.hid (H6.out.below hA)
          replace H7 := Lib.hid (H7.out.below hA)
          replace HB := Lib.hid (bt HB.out hA)
          clear hA
          refine hK.out _ _ ?_ (fun hHeld => ?_)
          · exact HS.out
          clear hK K
          try simp only [Act.put, List.setIfInBounds_toArray, List.set_cons_zero, List.set_cons_succ]
          refine call_next (i := 5) (by kernel_rfl) (by rfl)  ?_
          · intro o ho K hK
            simp only [List.getElem?_toArray, List.getElem?_cons_succ, List.getElem?_cons_zero, Option.some.injEq] at ho
            subst ho
            go_simp
            (with_reducible refine (JY.out _).mono ?_)
            rintro e' Wn25 ⟨rfl, hA⟩
            replace HS : Hid (SJ w.heap.size ⟨k, a, b, d, ⟨p, q, e⟩, ⟨r, s, f⟩⟩ ⟨k2, a2, b2, d2, ⟨p2, q2, e2⟩, ⟨r2, s2, f2⟩⟩ Wn25) := ⟨HS.out.1.below hA, HS.out.2.below hA⟩
            replace H6 := Lib.hid (H6.out.below hA)
            replace H7 := Lib.hid (H7.out.below hA)
            replace HB := Lib.hid (bt HB.out hA)
            clear hA
            refine hK.out _ _ ?_ (fun hHeld => ?_)
            · exact HS.out
            clear hK K
            try simp only [Act.put, List.setIfInBounds_toArray, List.set_cons_zero, List.set_cons_succ]
            refine call_next (i := 8) (by kernel_rfl) (by rfl) ?_
            intro o ho K hK
            simp only [List.getElem?_toArray, List.getElem?_cons_succ, List.getElem?_cons_zero, Option.some.injEq] at ho
            subst ho
            obtain ⟨⟨z0, z1, z2, z3, z4, z5, z6, z7, z8, z9⟩, v0, v1, v2, v3, v4, v5, v6, v7, v8, v9⟩ := H6.out
            go_simp
            refine hK.out _ (put10 Wn25 g6 ⟨zk, za, zb, zd, ⟨zp, zq, ze⟩, ⟨zr, zs, zf⟩⟩) ?_ (fun hHeld => ?_)
            · exact ⟨HS.out.1.put_ne hs61.out _, HS.out.2.put_ne hs62.out _⟩
            clear hK K z0 z1 z2 z3 z4 z5 z6 z7 z8 z9 v0 v1 v2 v3 v4 v5 v6 v7 v8 v9
            replace HS : Hid (SJ w.heap.size ⟨k, a, b, d, ⟨p, q, e⟩, ⟨r, s, f⟩⟩ ⟨k2, a2, b2, d2, ⟨p2, q2, e2⟩, ⟨r2, s2, f2⟩⟩ (put10 Wn25 g6 ⟨zk, za, zb, zd, ⟨zp, zq, ze⟩, ⟨zr, zs, zf⟩⟩)) := ⟨HS.out.1.put_ne hs61.out _, HS.out.2.put_ne hs62.out _⟩
            replace HB := Lib.hid (put10_below HB.out hg6.out ⟨zk, za, zb, zd, ⟨zp, zq, ze⟩, ⟨zr, zs, zf⟩⟩)
            have HJ := Lib.hid (H6.out.put ⟨zk, za, zb, zd, ⟨zp, zq, ze⟩, ⟨zr, zs, zf⟩⟩)
            replace H7 := Lib.hid (H7.out.put_ne h67.out.symm ⟨zk, za, zb, zd, ⟨zp, zq, ze⟩, ⟨zr, zs, zf⟩⟩)
            generalize put10 Wn25 g6 ⟨zk, za, zb, zd, ⟨zp, zq, ze⟩, ⟨zr, zs, zf⟩⟩ = Wp8 at *
            try simp only [Act.put, List.setIfInBounds_toArray, List.set_cons_zero, List.set_cons_succ]
            refine call_next (i := 9) (by kernel_rfl) (by rfl) ?_
            intro o ho K hK
            simp only [List.getElem?_toArray, List.getElem?_cons_succ, List.getElem?_cons_zero, Option.some.injEq] at ho
            subst ho
            obtain ⟨⟨z0, z1, z2, z3, z4, z5, z6, z7, z8, z9⟩, v0, v1, v2, v3, v4, v5, v6, v7, v8, v9⟩ := H7.out
            go_simp
            refine hK.out _ (put10 Wp8 g7 ⟨yk, ya, yb, yd, ⟨yp, yq, ye⟩, ⟨yr, ys, yf⟩⟩) ?_ (fun hHeld => ?_)
            · exact ⟨HS.out.1.put_ne hs71.out _, HS.out.2.put_ne hs72.out _⟩
            clear hK K z0 z1 z2 z3 z4 z5 z6 z7 z8 z9 v0 v1 v2 v3 v4 v5 v6 v7 v8 v9
            replace HS : Hid (SJ w.heap.size ⟨k, a, b, d, ⟨p, q, e⟩, ⟨r, s, f⟩⟩ ⟨k2, a2, b2, d2, ⟨p2, q2, e2⟩, ⟨r2, s2, f2⟩⟩ (put10 Wp8 g7 ⟨yk, ya, yb, yd, ⟨yp, yq, ye⟩, ⟨yr, ys, yf⟩⟩)) := ⟨HS.out.1.put_ne hs71.out _, HS.out.2.put_ne hs72.out _⟩
            replace HB := Lib.hid (put10_below HB.out hg7.out ⟨yk, ya, yb, yd, ⟨yp, yq, ye⟩, ⟨yr, ys, yf⟩⟩)
            replace HJ := Lib.hid (HJ.out.put_ne h67.out ⟨yk, ya, yb, yd, ⟨yp, yq, ye⟩, ⟨yr, ys, yf⟩⟩)
            have HK := Lib.hid (H7.out.put ⟨yk, ya, yb, yd, ⟨yp, yq, ye⟩, ⟨yr, ys, yf⟩⟩)
            generalize put10 Wp8 g7 ⟨yk, ya, yb, yd, ⟨yp, yq, ye⟩, ⟨yr, ys, yf⟩⟩ = Wp9 at *
            try simp only [Act.put, List.setIfInBounds_toArray, List.set_cons_zero, List.set_cons_succ]
            refine wpAnyH_done (by kernel_rfl) ?_ _
            go_wp2_with fail
            go_meet
            exact ⟨g6, g7, rfl, rfl, ⟨HS.out.1, HS.out.2, HJ.out, HK.out⟩, HB.out⟩
    · intro o ho K hK
      simp only [List.getElem?_toArray, List.getElem?_cons_succ, List.getElem?_cons_zero, Option.some.injEq] at ho
      subst ho
      go_simp
      have hA := (Below.refl Wd.heap.size Wd).alloc (Nat.le_refl _) (.cells #[.int .i64 0, .int .i64 0, .int .i64 0, .string ⟨#[]⟩, .int .i64 0, .int .i64 0, .string ⟨#[]⟩, .int .i64 0, .int .i64 0, .string ⟨#[]⟩] 27)
      have H7 := Lib.hid (Zer.new Wd 27)
      have hs71 := Lib.hid (Nat.ne_of_lt HS.out.1.lt)
      have hs72 := Lib.hid (Nat.ne_of_lt HS.out.2.lt)
      have hg7 := Lib.hid (Nat.le_of_lt (Nat.lt_of_le_of_lt (Nat.le_refl _) HS.out.1.lt))
      replace HS : Hid (SJ w.heap.size ⟨k, a, b, d, ⟨p, q, e⟩, ⟨r, s, f⟩⟩ ⟨k2, a2, b2, d2, ⟨p2, q2, e2⟩, ⟨r2, s2, f2⟩⟩ (Wd.alloc (.cells #[.int .i64 0, .int .i64 0, .int .i64 0, .string ⟨#[]⟩, .int .i64 0, .int .i64 0, .string ⟨#[]⟩, .int .i64 0, .int .i64 0, .string ⟨#[]⟩] 27))) := ⟨HS.out.1.below hA, HS.out.2.below hA⟩
      replace HB := Lib.hid (bt HB.out hA)
      clear hA
      refine hK.out _ _ ?_ (fun hHeld => ?_)
      · exact HS.out
      clear hK K
      generalize Wd.alloc (.cells #[.int .i64 0, .int .i64 0, .int .i64 0, .string ⟨#[]⟩, .int .i64 0, .int .i64 0, .string ⟨#[]⟩, .int .i64 0, .int .i64 0, .string ⟨#[]⟩] 27) = Wn26 at *
      generalize hgg : Wd.heap.size = g7 at *
      clear hgg
      try simp only [Act.put, List.setIfInBounds_toArray, List.set_cons_zero, List.set_cons_succ]
      refine call_next2 (i := 2) (j := 6) (by kernel_rfl) (by rfl) (by rfl)  ?_ ?_
      · intro o ho K hK
        simp only [List.getElem?_toArray, List.getElem?_cons_succ, List.getElem?_cons_zero, Option.some.injEq] at ho
        subst ho
        go_simp
        (with_reducible refine (JX.out _).mono ?_)
        rintro e' Wn27 ⟨rfl, hA⟩
        replace HS : Hid (SJ w.heap.size ⟨k, a, b, d, ⟨p, q, e⟩, ⟨r, s, f⟩⟩ ⟨k2, a2, b2, d2, ⟨p2, q2, e2⟩, ⟨r2, s2, f2⟩⟩ Wn27) := ⟨HS.out.1.below hA, HS.out.2.below hA⟩
        replace H7 := Lib.hid (H7.out.below hA)
        replace HB := Lib.hid (bt HB.out hA)
        clear hA
        refine hK.out _ _ ?_ (fun hHeld => ?_)
        · exact HS.out
        clear hK K
        try simp only [Act.put, List.setIfInBounds_toArray, List.set_cons_zero, List.set_cons_succ]
        refine call_next2 (i := 5) (j := 6) (by kernel_rfl) (by rfl) (by rfl)  ?_ ?_
        · intro o ho K hK
          simp only [List.getElem?_toArray, List.getElem?_cons_succ, List.getElem?_cons_zero, Option.some.injEq] at ho
          subst ho
          go_simp
          (with_reducible refine (JY.out _).mono ?_)
          rintro e' Wn28 ⟨rfl, hA⟩
          replace HS : Hid (SJ w.heap.size ⟨k, a, b, d, ⟨p, q, e⟩, ⟨r, s, f⟩⟩ ⟨k2, a2, b2, d2, ⟨p2, q2, e2⟩, ⟨r2, s2, f2⟩⟩ Wn28) := ⟨HS.out.1.below hA, HS.out.2.below hA⟩
          replace H7 := Lib.hid (H7.out.below hA)
          replace HB := Lib.hid (bt HB.out hA)
          clear hA
          refine hK.out _ _ ?_ (fun hHeld => ?_)
          · exact HS.out
          clear hK K
          try simp only [Act.put, List.setIfInBounds_toArray, List.set_cons_zero, List.set_cons_succ]
          refine call_next (i := 6) (by kernel_rfl) (by rfl)  ?_
          · intro o ho K hK
            simp only [List.getElem?_toArray, List.getElem?_cons_succ, List.getElem?_cons_zero, Option.some.injEq] at ho
            subst ho
            go_simp
            have hA := (Below.refl Wn28.heap.size Wn28).alloc (Nat.le_refl _) (.cells #[.int .i64 0, .int .i64 0, .int .i64 0, .string ⟨#[]⟩, .int .i64 0, .int .i64 0, .string ⟨#[]⟩, .int .i64 0, .int .i64 0, .string ⟨#[]⟩] 27)
            have H6 := Lib.hid (Zer.new Wn28 27)
            have hs61 := Lib.hid (Nat.ne_of_lt HS.out.1.lt)
            have hs62 := Lib.hid (Nat.ne_of_lt HS.out.2.lt)
            have hg6 := Lib.hid (Nat.le_of_lt (Nat.lt_of_le_of_lt (Nat.le_refl _) HS.out.1.lt))
            have h67 := Lib.hid ((Nat.ne_of_lt H7.out.1.lt).symm)
            replace HS : Hid (SJ w.heap.size ⟨k, a, b, d, ⟨p, q, e⟩, ⟨r, s, f⟩⟩ ⟨k2, a2, b2, d2, ⟨p2, q2, e2⟩, ⟨r2, s2, f2⟩⟩ (Wn28.alloc (.cells #[.int .i64 0, .int .i64 0, .int .i64 0, .string ⟨#[]⟩, .int .i64 0, .int .i64 0, .string ⟨#[]⟩, .int .i64 0, .int .i64 0, .string ⟨#[]⟩] 27))) := ⟨HS.out.1.below hA, HS.out.2.below hA⟩
            replace H7 := Lib.hid (H7.out.below hA)
            replace HB := Lib.hid (bt HB.out hA)
            clear hA
            refine hK.out _ _ ?_ (fun hHeld => ?_)
            · exact HS.out
            clear hK K
            generalize Wn28.alloc (.cells #[.int .i64 0, .int .i64 0, .int .i64 0, .string ⟨#[]⟩, .int .i64 0, .int .i64 0, .string ⟨#[]⟩, .int .i64 0, .int .i64 0, .string ⟨#[]⟩] 27) = Wn29 at *
            generalize hgg : Wn28.heap.size = g6 at *
            clear hgg
            try simp only [Act.put, List.setIfInBounds_toArray, List.set_cons_zero, List.set_cons_succ]
            refine call_next (i := 8) (by kernel_rfl) (by rfl) ?_
            intro o ho K hK
            simp only [List.getElem?_toArray, List.getElem?_cons_succ, List.getElem?_cons_zero, Option.some.injEq] at ho
            subst ho
            obtain ⟨⟨z0, z1, z2, z3, z4, z5, z6, z7, z8, z9⟩, v0, v1, v2, v3, v4, v5, v6, v7, v8, v9⟩ := H6.out
            go_simp
            refine hK.out _ (put10 Wn29 g6 ⟨zk, za, zb, zd, ⟨zp, zq, ze⟩, ⟨zr, zs, zf⟩⟩) ?_ (fun hHeld => ?_)
            · exact ⟨HS.out.1.put_ne hs61.out _, HS.out.2.put_ne hs62.out _⟩
            clear hK K z0 z1 z2 z3 z4 z5 z6 z7 z8 z9 v0 v1 v2 v3 v4 v5 v6 v7 v8 v9
            replace HS : Hid (SJ w.heap.size ⟨k, a, b, d, ⟨p, q, e⟩, ⟨r, s, f⟩⟩ ⟨k2, a2, b2, d2, ⟨p2, q2, e2⟩, ⟨r2, s2, f2⟩⟩ (put10 Wn29 g6 ⟨zk, za, zb, zd, ⟨zp, zq, ze⟩, ⟨zr, zs, zf⟩⟩)) := ⟨HS.out.1.put_ne hs61.out _, HS.out.2.put_ne hs62.out _⟩
            replace HB := Lib.hid (put10_below HB.out hg6.out ⟨zk, za, zb, zd, ⟨zp, zq, ze⟩, ⟨zr, zs, zf⟩⟩)
            have HJ := Lib.hid (H6.out.put ⟨zk, za, zb, zd, ⟨zp, zq, ze⟩, ⟨zr, zs, zf⟩⟩)
            replace H7 := Lib.hid (H7.out.put_ne h67.out.symm ⟨zk, za, zb, zd, ⟨zp, zq, ze⟩, ⟨zr, zs, zf⟩⟩)
            generalize put10 Wn29 g6 ⟨zk, za, zb, zd, ⟨zp, zq, ze⟩, ⟨zr, zs, zf⟩⟩ = Wp8 at *
            try simp only [Act.put, List.setIfInBounds_toArray, List.set_cons_zero, List.set_cons_succ]
            refine call_next (i := 9) (by kernel_rfl) (by rfl) ?_
            intro o ho K hK
            simp only [List.getElem?_toArray, List.getElem?_cons_succ, List.getElem?_cons_zero, Option.some.injEq] at ho
            subst ho
            obtain ⟨⟨z0, z1, z2, z3, z4, z5, z6, z7, z8, z9⟩, v0, v1, v2, v3, v4, v5, v6, v7, v8, v9⟩ := H7.out
            go_simp
            refine hK.out _ (put10 Wp8 g7 ⟨yk, ya, yb, yd, ⟨yp, yq, ye⟩, ⟨yr, ys, yf⟩⟩) ?_ (fun hHeld => ?_)
            · exact ⟨HS.out.1.put_ne hs71.out _, HS.out.2.put_ne hs72.out _⟩
            clear hK K z0 z1 z2 z3 z4 z5 z6 z7 z8 z9 v0 v1 v2 v3 v4 v5 v6 v7 v8 v9
            replace HS : Hid (SJ w.heap.size ⟨k, a, b, d, ⟨p, q, e⟩, ⟨r, s, f⟩⟩ ⟨k2, a2, b2, d2, ⟨p2, q2, e2⟩, ⟨r2, s2, f2⟩⟩ (put10 Wp8 g7 ⟨yk, ya, yb, yd, ⟨yp, yq, ye⟩, ⟨yr, ys, yf⟩⟩)) := ⟨HS.out.1.put_ne hs71.out _, HS.out.2.put_ne hs72.out _⟩
            replace HB := Lib.hid (put10_below HB.out hg7.out ⟨yk, ya, yb, yd, ⟨yp, yq, ye⟩, ⟨yr, ys, yf⟩⟩)
            replace HJ := Lib.hid (HJ.out.put_ne h67.out ⟨yk, ya, yb, yd, ⟨yp, yq, ye⟩, ⟨yr, ys, yf⟩⟩)
            have HK := Lib.hid (H7.out.put ⟨yk, ya, yb, yd, ⟨yp, yq, ye⟩, ⟨yr, ys, yf⟩⟩)
            generalize put10 Wp8 g7 ⟨yk, ya, yb, yd, ⟨yp, yq, ye⟩, ⟨yr, ys, yf⟩⟩ = Wp9 at *
            try simp only [Act.put, List.setIfInBounds_toArray, List.set_cons_zero, List.set_cons_succ]
            refine wpAnyH_done (by kernel_rfl) ?_ _
            go_wp2_with fail
            go_meet
            exact ⟨g6, g7, rfl, rfl, ⟨HS.out.1, HS.out.2, HJ.out, HK.out⟩, HB.out⟩
        · intro o ho K hK
          simp only [List.getElem?_toArray, List.getElem?_cons_succ, List.getElem?_cons_zero, Option.some.injEq] at ho
          subst ho
          go_simp
          have hA := (Below.refl Wn27.heap.size Wn27).alloc (Nat.le_refl _) (.cells #[.int .i64 0, .int .i64 0, .int .i64 0, .string ⟨#[]⟩, .int .i64 0, .int .i64 0, .string ⟨#[]⟩, .int .i64 0, .int .i64 0, .string ⟨#[]⟩] 27)
          have H6 := Lib.hid (Zer.new Wn27 27)
          have hs61 := Lib.hid (Nat.ne_of_lt HS.out.1.lt)
          have hs62 := Lib.hid (Nat.ne_of_lt HS.out.2.lt)
          have hg6 := Lib.hid (Nat.le_of_lt (Nat.lt_of_le_of_lt (Nat.le_refl _) HS.out.1.lt))
          have h67 := Lib.hid ((Nat.ne_of_lt H7.out.1.lt).symm)
          replace HS : Hid (SJ w.heap.size ⟨k, a, b, d, ⟨p, q, e⟩, ⟨r, s, f⟩⟩ ⟨k2, a2, b2, d2, ⟨p2, q2, e2⟩, ⟨r2, s2, f2⟩⟩ (Wn27.alloc (.cells #[.int .i64 0, .int .i64 0, .int .i64 0, .string ⟨#[]⟩, .int .i64 0, .int .i64 0, .string ⟨#[]⟩, .int .i64 0, .int .i64 0, .string ⟨#[]⟩] 27))) := ⟨HS.out.1.below hA, HS.out.2.below hA⟩
          replace H7 := Lib.hid (H7.out.below hA)
          replace HB := Lib.hid (bt HB.out hA)
          clear hA
          refine hK.out _ _ ?_ (fun hHeld => ?_)
          · exact HS.out
          clear hK K
          generalize Wn27.alloc (.cells #[.int .i64 0, .int .i64 0, .int .i64 0, .string ⟨#[]⟩, .int .i64 0, .int .i64 0, .string ⟨#[]⟩, .int .i64 0, .int .i64 0, .string ⟨#[]⟩] 27) = Wn30 at *
          generalize hgg : Wn27.heap.size = g6 at *
          clear hgg
          try simp only [Act.put, List.setIfInBounds_toArray, List.set_cons_zero, List.set_cons_succ]
          refine call_next (i := 5) (by kernel_rfl) (by rfl)  ?_
          · intro o ho K hK
            simp only [List.getElem?_toArray, List.getElem?_cons_succ, List.getElem?_cons_zero, Option.some.injEq] at ho
            subst ho
            go_simp
            (with_reducible refine (JY.out _).mono ?_)
            rintro e' Wn31 ⟨rfl, hA⟩
            replace HS : Hid (SJ w.heap.size ⟨k, a, b, d, ⟨p, q, e⟩, ⟨r, s, f⟩⟩ ⟨k2, a2, b2, d2, ⟨p2, q2, e2⟩, ⟨r2, s2, f2⟩⟩ Wn31) := ⟨HS.out.1.below hA, HS.out.2.below hA⟩
            replace H6 := Lib.hid (H6.out.below hA)
            replace H7 := Lib.hid (H7.out.below hA)
            replace HB := Lib.hid (bt HB.out hA)
            clear hA
            refine hK.out _ _ ?_ (fun hHeld => ?_)
            · exact HS.out
            clear hK K
            try simp only [Act.put, List.setIfInBounds_toArray, List.set_cons_zero, List.set_cons_succ]
            refine call_next (i := 8) (by kernel_rfl) (by rfl) ?_
            intro o ho K hK
            simp only [List.getElem?_toArray, List.getElem?_cons_succ, List.getElem?_cons_zero, Option.some.injEq] at ho
            subst ho
            obtain ⟨⟨z0, z1, z2, z3, z4, z5, z6, z7, z8, z9⟩, v0, v1, v2, v3, v4, v5, v6, v7, v8, v9⟩ := H6.out
            go_simp
            refine hK.out _ (put10 Wn31 g6 ⟨zk, za, zb, zd, ⟨zp, zq, ze⟩, ⟨zr, zs, zf⟩⟩) ?_ (fun hHeld => ?_)
            · exact ⟨HS.out.1.put_ne hs61.out _, HS.out.2.put_ne hs62.out _⟩
            clear hK K z0 z1 z2 z3 z4 z5 z6 z7 z8 z9 v0 v1 v2 v3 v4 v5 v6 v7 v8 v9
            replace HS : Hid (SJ w.heap.size ⟨k, a, b, d, ⟨p, q, e⟩, ⟨r, s, f⟩⟩ ⟨k2, a2, b2, d2, ⟨p2, q2, e2⟩, ⟨r2, s2, f2⟩⟩ (put10 Wn31 g6 ⟨zk, za, zb, zd, ⟨zp, zq, ze⟩, ⟨zr, zs, zf⟩⟩)) := ⟨HS.out.1.put_ne hs61.out _, HS.out.2.put_ne hs62.out _⟩
            replace HB := Lib.hid (put10_below HB.out hg6.out ⟨zk, za, zb, zd, ⟨zp, zq, ze⟩, ⟨zr, zs, zf⟩⟩)
            have HJ := Lib.hid (H6.out.put ⟨zk, za, zb, zd, ⟨zp, zq, ze⟩, ⟨zr, zs, zf⟩⟩)
            replace H7 := Lib.hid (H7.out.put_ne h67.out.symm ⟨zk, za, zb, zd, ⟨zp, zq, ze⟩, ⟨zr, zs, zf⟩⟩)
            generalize put10 Wn31 g6 ⟨zk, za, zb, zd, ⟨zp, zq, ze⟩, ⟨zr, zs, zf⟩⟩ = Wp8 at *
            try simp only [Act.put, List.setIfInBounds_toArray, List.set_cons_zero, List.set_cons_succ]
            refine call_next (i := 9) (by kernel_rfl) (by rfl) ?_
            intro o ho K hK
            simp only [List.getElem?_toArray, List.getElem?_cons_succ, List.getElem?_cons_zero, Option.some.injEq] at ho
            subst ho
            obtain ⟨⟨z0, z1, z2, z3, z4, z5, z6, z7, z8, z9⟩, v0, v1, v2, v3, v4, v5, v6, v7, v8, v9⟩ := H7.out
            go_simp
            refine hK.out _ (put10 Wp8 g7 ⟨yk, ya, yb, yd, ⟨yp, yq, ye⟩, ⟨yr, ys, yf⟩⟩) ?_ (fun hHeld => ?_)
            · exact ⟨HS.out.1.put_ne hs71.out _, HS.out.2.put_ne hs72.out _⟩
            clear hK K z0 z1 z2 z3 z4 z5 z6 z7 z8 z9 v0 v1 v2 v3 v4 v5 v6 v7 v8 v9
            replace HS : Hid (SJ w.heap.size ⟨k, a, b, d, ⟨p, q, e⟩, ⟨r, s, f⟩⟩ ⟨k2, a2, b2, d2, ⟨p2, q2, e2⟩, ⟨r2, s2, f2⟩⟩ (put10 Wp8 g7 ⟨yk, ya, yb, yd, ⟨yp, yq, ye⟩, ⟨yr, ys, yf⟩⟩)) := ⟨HS.out.1.put_ne hs71.out _, HS.out.2.put_ne hs72.out _⟩
            replace HB := Lib.hid (put10_below HB.out hg7.out ⟨yk, ya, yb, yd, ⟨yp, yq, ye⟩, ⟨yr, ys, yf⟩⟩)
            replace HJ := Lib.hid (HJ.out.put_ne h67.out ⟨yk, ya, yb, yd, ⟨yp, yq, ye⟩, ⟨yr, ys, yf⟩⟩)
            have HK := Lib.hid (H7.out.put ⟨yk, ya, yb, yd, ⟨yp, yq, ye⟩, ⟨yr, ys, yf⟩⟩)
            generalize put10 Wp8 g7 ⟨yk, ya, yb, yd, ⟨yp, yq, ye⟩, ⟨yr, ys, yf⟩⟩ = Wp9 at *
            try simp only [Act.put, List.setIfInBounds_toArray, List.set_cons_zero, List.set_cons_succ]
            refine wpAnyH_done (by kernel_rfl) ?_ _
            go_wp2_with fail
            go_meet
            exact ⟨g6, g7, rfl, rfl, ⟨HS.out.1, HS.out.2, HJ.out, HK.out⟩, HB.out⟩
      · intro o ho K hK
        simp only [List.getElem?_toArray, List.getElem?_cons_succ, List.getElem?_cons_zero, Option.some.injEq] at ho
        subst ho
        go_simp
        have hA := (Below.refl Wn26.heap.size Wn26).alloc (Nat.le_refl _) (.cells #[.int .i64 0, .int .i64 0, .int .i64 0, .string ⟨#[]⟩, .int .i64 0, .int .i64 0, .string ⟨#[]⟩, .int .i64 0, .int .i64 0, .string ⟨#[]⟩] 27)
        have H6 := Lib.hid (Zer.new Wn26 27)
        have hs61 := Lib.hid (Nat.ne_of_lt HS.out.1.lt)
        have hs62 := Lib.hid (Nat.ne_of_lt HS.out.2.lt)
        have hg6 := Lib.hid (Nat.le_of_lt (Nat.lt_of_le_of_lt (Nat.le_refl _) HS.out.1.lt))
        have h67 := Lib.hid ((Nat.ne_of_lt H7.out.1.lt).symm)
        replace HS : Hid (SJ w.heap.size ⟨k, a, b, d, ⟨p, q, e⟩, ⟨r, s, f⟩⟩ ⟨k2, a2, b2, d2, ⟨p2, q2, e2⟩, ⟨r2, s2, f2⟩⟩ (Wn26.alloc (.cells #[.int .i64 0, .int .i64 0, .int .i64 0, .string ⟨#[]⟩, .int .i64 0, .int .i64 0, .string ⟨#[]⟩, .int .i64 0, .int .i64 0, .string ⟨#[]⟩] 27))) := ⟨HS.out.1.below hA, HS.out.2.below hA⟩
        replace H7 := Lib.hid (H7.out.below hA)
        replace HB := Lib.hid (bt HB.out hA)
        clear hA
        refine hK.out _ _ ?_ (fun hHeld => ?_)
        · exact HS.out
        clear hK K
        generalize Wn26.alloc (.cells #[.int .i64 0, .int .i64 0, .int .i64 0, .string ⟨#[]⟩, .int .i64 0, .int .i64 0, .string ⟨#[]⟩, .int .i64 0, .int .i64 0, .string ⟨#[]⟩] 27) = Wn32 at *
        generalize hgg : Wn26.heap.size = g6 at *
        clear hgg
        try simp only [Act.put, List.setIfInBounds_toArray, List.set_cons_zero, List.set_cons_succ]
        refine call_next (i := 2) (by kernel_rfl) (by rfl)  ?_
        · intro o ho K hK
          simp only [List.getElem?_toArray, List.getElem?_cons_succ, List.getElem?_cons_zero, Option.some.injEq] at ho
          subst ho
          go_simp
          (with_reducible refine (JX.out _).mono ?_)
          rintro e' Wn33 ⟨rfl, hA⟩
          replace HS : Hid (SJ w.heap.size ⟨k, a, b, d, ⟨p, q, e⟩, ⟨r, s, f⟩⟩ ⟨k2, a2, b2, d2, ⟨p2, q2, e2⟩, ⟨r2, s2, f2⟩⟩ Wn33) := ⟨HS.out.1.below hA, HS.out.2.below hA⟩
          replace H6 := Lib.hid (H6.out.below hA)
          replace H7 := Lib.hid (H7.out.below hA)
          replace HB := Lib.hid (bt HB.out hA)
          clear hA
          refine hK.out _ _ ?_ (fun hHeld => ?_)
          · exact HS.out
          clear hK K
          try simp only [Act.put, List.setIfInBounds_toArray, List.set_cons_zero, List.set_cons_succ]
          refine call_next (i := 5) (by kernel_rfl) (by rfl)  ?_
          · intro o ho K hK
            simp only [List.getElem?_toArray, List.getElem?_cons_succ, List.getElem?_cons_zero, Option.some.injEq] at ho
            subst ho
            go_simp
            (with_reducible refine (JY.out _).mono ?_)
            rintro e' Wn34 ⟨rfl, hA⟩
            replace HS : Hid (SJ w.heap.size ⟨k, a, b, d, ⟨p, q, e⟩, ⟨r, s, f⟩⟩ ⟨k2, a2, b2, d2, ⟨p2, q2, e2⟩, ⟨r2, s2, f2⟩⟩ Wn34) := ⟨HS.out.1.below hA, HS.out.2.below hA⟩
            replace H6 := Lib.hid (H6.out.below hA)
            replace H7 := Lib.hid (H7.out.below hA)
            replace HB := Lib.hid (bt HB.out hA)
            clear hA
            refine hK.out _ _ ?_ (fun hHeld => ?_)
            · exact HS.out
            clear hK K
            try simp only [Act.put, List.setIfInBounds_toArray, List.set_cons_zero, List.set_cons_succ]
            refine call_next (i := 8) (by kernel_rfl) (by rfl) ?_
            intro o ho K hK
            simp only [List.getElem?_toArray, List.getElem?_cons_succ, List.getElem?_cons_zero, Option.some.injEq] at ho
            subst ho
            obtain ⟨⟨z0, z1, z2, z3, z4, z5, z6, z7, z8, z9⟩, v0, v1, v2, v3, v4, v5, v6, v7, v8, v9⟩ := H6.out
            go_simp
            refine hK.out _ (put10 Wn34 g6 ⟨zk, za, zb, zd, ⟨zp, zq, ze⟩, ⟨zr, zs, zf⟩⟩) ?_ (fun hHeld => ?_)
            · exact ⟨HS.out.1.put_ne hs61.out _, HS.out.2.put_ne hs62.out _⟩
            clear hK K z0 z1 z2 z3 z4 z5 z6 z7 z8 z9 v0 v1 v2 v3 v4 v5 v6 v7 v8 v9
            replace HS : Hid (SJ w.heap.size ⟨k, a, b, d, ⟨p, q, e⟩, ⟨r, s, f⟩⟩ ⟨k2, a2, b2, d2, ⟨p2, q2, e2⟩, ⟨r2, s2, f2⟩⟩ (put10 Wn34 g6 ⟨zk, za, zb, zd, ⟨zp, zq, ze⟩, ⟨zr, zs, zf⟩⟩)) := ⟨HS.out.1.put_ne hs61.out _, HS.out.2.put_ne hs62.out _⟩
            replace HB := Lib.hid (put10_below HB.out hg6.out ⟨zk, za, zb, zd, ⟨zp, zq, ze⟩, ⟨zr, zs, zf⟩⟩)
            have HJ := Lib.hid (H6.out.put ⟨zk, za, zb, zd, ⟨zp, zq, ze⟩, ⟨zr, zs, zf⟩⟩)
            replace H7 := Lib.hid (H7.out.put_ne h67.out.symm ⟨zk, za, zb, zd, ⟨zp, zq, ze⟩, ⟨zr, zs, zf⟩⟩)
            generalize put10 Wn34 g6 ⟨zk, za, zb, zd, ⟨zp, zq, ze⟩, ⟨zr, zs, zf⟩⟩ = Wp8 at *
            try simp only [Act.put, List.setIfInBounds_toArray, List.set_cons_zero, List.set_cons_succ]
            refine call_next (i := 9) (by kernel_rfl) (by rfl) ?_
            intro o ho K hK
            simp only [List.getElem?_toArray, List.getElem?_cons_succ, List.getElem?_cons_zero, Option.some.injEq] at ho
            subst ho
            obtain ⟨⟨z0, z1, z2, z3, z4, z5, z6, z7, z8, z9⟩, v0, v1, v2, v3, v4, v5, v6, v7, v8, v9⟩ := H7.out
            go_simp
            refine hK.out _ (put10 Wp8 g7 ⟨yk, ya, yb, yd, ⟨yp, yq, ye⟩, ⟨yr, ys, yf⟩⟩) ?_ (fun hHeld => ?_)
            · exact ⟨HS.out.1.put_ne hs71.out _, HS.out.2.put_ne hs72.out _⟩
            clear hK K z0 z1 z2 z3 z4 z5 z6 z7 z8 z9 v0 v1 v2 v3 v4 v5 v6 v7 v8 v9
            replace HS : Hid (SJ w.heap.size ⟨k, a, b, d, ⟨p, q, e⟩, ⟨r, s, f⟩⟩ ⟨k2, a2, b2, d2, ⟨p2, q2, e2⟩, ⟨r2, s2, f2⟩⟩ (put10 Wp8 g7 ⟨yk, ya, yb, yd, ⟨yp, yq, ye⟩, ⟨yr, ys, yf⟩⟩)) := ⟨HS.out.1.put_ne hs71.out _, HS.out.2.put_ne hs72.out _⟩
            replace HB := Lib.hid (put10_below HB.out hg7.out ⟨yk, ya, yb, yd, ⟨yp, yq, ye⟩, ⟨yr, ys, yf⟩⟩)
            replace HJ := Lib.hid (HJ.out.put_ne h67.out ⟨yk, ya, yb, yd, ⟨yp, yq, ye⟩, ⟨yr, ys, yf⟩⟩)
            have HK := Lib.hid (H7.out.put ⟨yk, ya, yb, yd, ⟨yp, yq, ye⟩, ⟨yr, ys, yf⟩⟩)
            generalize put10 Wp8 g7 ⟨yk, ya, yb, yd, ⟨yp, yq, ye⟩, ⟨yr, ys, yf⟩⟩ = Wp9 at *
            try simp only [Act.put, List.setIfInBounds_toArray, List.set_cons_zero, List.set_cons_succ]
            refine wpAnyH_done (by kernel_rfl) ?_ _
            go_wp2_with fail
            go_meet
            exact ⟨g6, g7, rfl, rfl, ⟨HS.out.1, HS.out.2, HJ.out, HK.out⟩, HB.out⟩
  case rest =>
    obtain ⟨jB, kB, rfl, rfl, HS, HB⟩ := hcut
    have hJ1 := J1.out
    have hJ2 := J2.out
    clear JX JY CX CY J1 J2
    rcases HW.out with ⟨h3, ha2, hb2, E1, E2, E3⟩ | ⟨h3, hv, E1, E2, E3, m1, m2⟩ | ⟨h3, hv, E1, E2, E3, m1, m2⟩ | ⟨h3, hv, j, E1, E2, E3, E4, E5, E6, m1, m2, hv2, hsd⟩
    · have hz := E1.symm.trans hJ1
      simp only [St.mk.injEq, Ve.mk.injEq] at hz
      obtain ⟨rfl, rfl, rfl, rfl, ⟨rfl, rfl, rfl⟩, rfl, rfl, rfl⟩ := hz
      have hz := E2.symm.trans hJ2
      simp only [St.mk.injEq, Ve.mk.injEq] at hz
      obtain ⟨rfl, rfl, rfl, rfl, ⟨rfl, rfl, rfl⟩, rfl, rfl, rfl⟩ := hz
      (try simp only at ha2 hb2 h3)
      subst ha2 hb2
      have Q1 := Lib.hid (fun w => chk_at HX.out w)
      have Q2 := Lib.hid (fun w => join_at E3 w)
      have Q3 := Lib.hid (fun w => join_at E3 w)
      have Q4 := Lib.hid (fun w => join_at E1 w)
      have Q5 := Lib.hid (fun w => rvj_at (mx_ge (Int.le_refl a)) (mx_ge (Int.le_refl b)) w)
      have Q6 := Lib.hid (fun w => rcmp_at h3 w)
      have v1 := fun W => vne_at (a := a) (b := b) (c := a) (d := b) (x := true) (by simp) W
      have v2 := fun W => veq_at (a := a) (b := b) (c := a) (d := b) (x := true) (by simp) W
      have eqn1 := fun W => sne_same k a b d p q e r s f W
      have eqn2 := fun W => seq_same k a b d p q e r s f W
      clear hJ1 hJ2 E1 E2 E3 h3 HW HX HY
      go_wp2_with fail
      have HS : Hid ((fun w' => Cel w' w.heap.size ⟨k, a, b, d, ⟨p, q, e⟩, ⟨r, s, f⟩⟩ ∧ Cel w' (w.heap.size + 1) ⟨k2, a, b, d2, ⟨p2, q2, e2⟩, ⟨r2, s2, f2⟩⟩ ∧ Cel w' jB ⟨k, a, b, d, ⟨p, q, e⟩, ⟨r, s, f⟩⟩ ∧ Cel w' kB ⟨k2, a, b, d2, ⟨p2, q2, e2⟩, ⟨r2, s2, f2⟩⟩) wc.drew) := ⟨HS.out.1.drew, HS.out.2.1.drew, HS.out.2.2.1.drew, HS.out.2.2.2.drew⟩
      replace HB := Lib.hid HB.out.drew
      refine wp_region_held_drew (S := (fun w' => Cel w' w.heap.size ⟨k, a, b, d, ⟨p, q, e⟩, ⟨r, s, f⟩⟩ ∧ Cel w' (w.heap.size + 1) ⟨k2, a, b, d2, ⟨p2, q2, e2⟩, ⟨r2, s2, f2⟩⟩ ∧ Cel w' jB ⟨k, a, b, d, ⟨p, q, e⟩, ⟨r, s, f⟩⟩ ∧ Cel w' kB ⟨k2, a, b, d2, ⟨p2, q2, e2⟩, ⟨r2, s2, f2⟩⟩)) (by kernel_rfl) ?_ (fun hHeld => ?_)
      · first | with_reducible exact HS.out | exact ⟨HS.out.1.drew, HS.out.2.1.drew, HS.out.2.2.1.drew, HS.out.2.2.2.drew⟩
      first | (refine tw (i := 0) (v := ?_) ?_ hHeld ?_; rotate_left; focus (intro w hSw; (try dsimp only at hSw); (try simp only [Cel] at hSw); go_simp; (try with_reducible rfl); done)) | refine tn (i := 0) hHeld ?_
      try simp only [Act.put, List.setIfInBounds_toArray, List.set_cons_zero, List.set_cons_succ]
      refine call_next (i := 1) (by kernel_rfl) (by rfl) ?_
      intro o ho K hK
      simp only [List.getElem?_toArray, List.getElem?_cons_succ, List.getElem?_cons_zero, Option.some.injEq] at ho
      subst ho
      first | (fail; refine hK.out _ _ ?_ (fun hHeld => ?_)) | (go_simp; first | (with_reducible refine hK.out _ _ ?_ (fun hHeld => ?_)) | ((first | (go_at_call 11; (with_reducible refine (Q1.out _).mono ?_); rintro e' W9 ⟨rfl, hA⟩; replace HS : Hid ((fun w' => Cel w' w.heap.size ⟨k, a, b, d, ⟨p, q, e⟩, ⟨r, s, f⟩⟩ ∧ Cel w' (w.heap.size + 1) ⟨k2, a, b, d2, ⟨p2, q2, e2⟩, ⟨r2, s2, f2⟩⟩ ∧ Cel w' jB ⟨k, a, b, d, ⟨p, q, e⟩, ⟨r, s, f⟩⟩ ∧ Cel w' kB ⟨k2, a, b, d2, ⟨p2, q2, e2⟩, ⟨r2, s2, f2⟩⟩) W9) := ⟨HS.out.1.below hA, HS.out.2.1.below hA, HS.out.2.2.1.below hA, HS.out.2.2.2.below hA⟩; replace HB := Lib.hid (bt HB.out hA); clear hA) | (go_at_call 10; (with_reducible refine (Q2.out _).mono ?_); rintro e' W9 ⟨rfl, hA⟩; replace HS : Hid ((fun w' => Cel w' w.heap.size ⟨k, a, b, d, ⟨p, q, e⟩, ⟨r, s, f⟩⟩ ∧ Cel w' (w.heap.size + 1) ⟨k2, a, b, d2, ⟨p2, q2, e2⟩, ⟨r2, s2, f2⟩⟩ ∧ Cel w' jB ⟨k, a, b, d, ⟨p, q, e⟩, ⟨r, s, f⟩⟩ ∧ Cel w' kB ⟨k2, a, b, d2, ⟨p2, q2, e2⟩, ⟨r2, s2, f2⟩⟩) W9) := ⟨HS.out.1.below hA, HS.out.2.1.below hA, HS.out.2.2.1.below hA, HS.out.2.2.2.below hA⟩; replace HB := Lib.hid (bt HB.out hA); clear hA) | (go_at_call 10; (with_reducible refine (Q3.out _).mono ?_); rintro e' W9 ⟨rfl, hA⟩; replace HS : Hid ((fun w' => Cel w' w.heap.size ⟨k, a, b, d, ⟨p, q, e⟩, ⟨r, s, f⟩⟩ ∧ Cel w' (w.heap.size + 1) ⟨k2, a, b, d2, ⟨p2, q2, e2⟩, ⟨r2, s2, f2⟩⟩ ∧ Cel w' jB ⟨k, a, b, d, ⟨p, q, e⟩, ⟨r, s, f⟩⟩ ∧ Cel w' kB ⟨k2, a, b, d2, ⟨p2, q2, e2⟩, ⟨r2, s2, f2⟩⟩) W9) := ⟨HS.out.1.below hA, HS.out.2.1.below hA, HS.out.2.2.1.below hA, HS.out.2.2.2.below hA⟩; replace HB := Lib.hid (bt HB.out hA); clear hA) | (go_at_call 10; (with_reducible refine (Q4.out _).mono ?_); rintro e' W9 ⟨rfl, hA⟩; replace HS : Hid ((fun w' => Cel w' w.heap.size ⟨k, a, b, d, ⟨p, q, e⟩, ⟨r, s, f⟩⟩ ∧ Cel w' (w.heap.size + 1) ⟨k2, a, b, d2, ⟨p2, q2, e2⟩, ⟨r2, s2, f2⟩⟩ ∧ Cel w' jB ⟨k, a, b, d, ⟨p, q, e⟩, ⟨r, s, f⟩⟩ ∧ Cel w' kB ⟨k2, a, b, d2, ⟨p2, q2, e2⟩, ⟨r2, s2, f2⟩⟩) W9) := ⟨HS.out.1.below hA, HS.out.2.1.below hA, HS.out.2.2.1.below hA, HS.out.2.2.2.below hA⟩; replace HB := Lib.hid (bt HB.out hA); clear hA) | (go_at_call 12; (with_reducible refine (Q5.out _).mono ?_); rintro e' W9 ⟨rfl, hA⟩; replace HS : Hid ((fun w' => Cel w' w.heap.size ⟨k, a, b, d, ⟨p, q, e⟩, ⟨r, s, f⟩⟩ ∧ Cel w' (w.heap.size + 1) ⟨k2, a, b, d2, ⟨p2, q2, e2⟩, ⟨r2, s2, f2⟩⟩ ∧ Cel w' jB ⟨k, a, b, d, ⟨p, q, e⟩, ⟨r, s, f⟩⟩ ∧ Cel w' kB ⟨k2, a, b, d2, ⟨p2, q2, e2⟩, ⟨r2, s2, f2⟩⟩) W9) := ⟨HS.out.1.below hA, HS.out.2.1.below hA, HS.out.2.2.1.below hA, HS.out.2.2.2.below hA⟩; replace HB := Lib.hid (bt HB.out hA); clear hA)); refine hK.out _ _ ?_ (fun hHeld => ?_)))
      · first | with_reducible exact HS.out | exact ⟨HS.out.1.drew, HS.out.2.1.drew, HS.out.2.2.1.drew, HS.out.2.2.2.drew⟩
      clear hK K
      try simp only [Act.put, List.setIfInBounds_toArray, List.set_cons_zero, List.set_cons_succ]
      first | (refine tw (i := 2) (v := ?_) ?_ hHeld ?_; rotate_left; focus (intro w hSw; (try dsimp only at hSw); (try simp only [Cel] at hSw); go_simp; (try with_reducible rfl); done)) | refine tn (i := 2) hHeld ?_
      try simp only [Act.put, List.setIfInBounds_toArray, List.set_cons_zero, List.set_cons_succ]
      first | (refine tw (i := 3) (v := ?_) ?_ hHeld ?_; rotate_left; focus (intro w hSw; (try dsimp only at hSw); (try simp only [Cel] at hSw); go_simp; (try with_reducible rfl); done)) | refine tn (i := 3) hHeld ?_
      try simp only [Act.put, List.setIfInBounds_toArray, List.set_cons_zero, List.set_cons_succ]
      first | (refine tw (i := 4) (v := ?_) ?_ hHeld ?_; rotate_left; focus (intro w hSw; (try dsimp only at hSw); (try simp only [Cel] at hSw); go_simp; (try with_reducible rfl); done)) | refine tn (i := 4) hHeld ?_
      try simp only [Act.put, List.setIfInBounds_toArray, List.set_cons_zero, List.set_cons_succ]
      first | (refine tw (i := 5) (v := ?_) ?_ hHeld ?_; rotate_left; focus (intro w hSw; (try dsimp only at hSw); (try simp only [Cel] at hSw); go_simp; (try with_reducible rfl); done)) | refine tn (i := 5) hHeld ?_
      try simp only [Act.put, List.setIfInBounds_toArray, List.set_cons_zero, List.set_cons_succ]
      first | (refine tw (i := 6) (v := ?_) ?_ hHeld ?_; rotate_left; focus (intro w hSw; (try dsimp only at hSw); (try simp only [Cel] at hSw); go_simp; (try with_reducible rfl); done)) | refine tn (i := 6) hHeld ?_
      try simp only [Act.put, List.setIfInBounds_toArray, List.set_cons_zero, List.set_cons_succ]
      first | (refine tw (i := 7) (v := ?_) ?_ hHeld ?_; rotate_left; focus (intro w hSw; (try dsimp only at hSw); (try simp only [Cel] at hSw); go_simp; (try with_reducible rfl); done)) | refine tn (i := 7) hHeld ?_
      try simp only [Act.put, List.setIfInBounds_toArray, List.set_cons_zero, List.set_cons_succ]
      first | (refine tw (i := 8) (v := ?_) ?_ hHeld ?_; rotate_left; focus (intro w hSw; (try dsimp only at hSw); (try simp only [Cel] at hSw); go_simp; (try with_reducible rfl); done)) | refine tn (i := 8) hHeld ?_
      try simp only [Act.put, List.setIfInBounds_toArray, List.set_cons_zero, List.set_cons_succ]
      first | (refine tw (i := 9) (v := ?_) ?_ hHeld ?_; rotate_left; focus (intro w hSw; (try dsimp only at hSw); (try simp only [Cel] at hSw); go_simp; (try with_reducible rfl); done)) | refine tn (i := 9) hHeld ?_
      try simp only [Act.put, List.setIfInBounds_toArray, List.set_cons_zero, List.set_cons_succ]
      first | (refine tw (i := 10) (v := ?_) ?_ hHeld ?_; rotate_left; focus (intro w hSw; (try dsimp only at hSw); (try simp only [Cel] at hSw); go_simp; (try with_reducible rfl); done)) | refine tn (i := 10) hHeld ?_
      try simp only [Act.put, List.setIfInBounds_toArray, List.set_cons_zero, List.set_cons_succ]
      first | (refine tw (i := 11) (v := ?_) ?_ hHeld ?_; rotate_left; focus (intro w hSw; (try dsimp only at hSw); (try simp only [Cel] at hSw); go_simp; (try with_reducible rfl); done)) | refine tn (i := 11) hHeld ?_
      try simp only [Act.put, List.setIfInBounds_toArray, List.set_cons_zero, List.set_cons_succ]
      first | (refine tw (i := 12) (v := ?_) ?_ hHeld ?_; rotate_left; focus (intro w hSw; (try dsimp only at hSw); (try simp only [Cel] at hSw); go_simp; (try with_reducible rfl); done)) | refine tn (i := 12) hHeld ?_
      try simp only [Act.put, List.setIfInBounds_toArray, List.set_cons_zero, List.set_cons_succ]
      first | (refine tw (i := 13) (v := ?_) ?_ hHeld ?_; rotate_left; focus (intro w hSw; (try dsimp only at hSw); (try simp only [Cel] at hSw); go_simp; (try with_reducible rfl); done)) | refine tn (i := 13) hHeld ?_
      try simp only [Act.put, List.setIfInBounds_toArray, List.set_cons_zero, List.set_cons_succ]
      first | (refine tw (i := 14) (v := ?_) ?_ hHeld ?_; rotate_left; focus (intro w hSw; (try dsimp only at hSw); (try simp only [Cel] at hSw); go_simp; (try with_reducible rfl); done)) | refine tn (i := 14) hHeld ?_
      try simp only [Act.put, List.setIfInBounds_toArray, List.set_cons_zero, List.set_cons_succ]
      first | (refine tw (i := 15) (v := ?_) ?_ hHeld ?_; rotate_left; focus (intro w hSw; (try dsimp only at hSw); (try simp only [Cel] at hSw); go_simp; (try with_reducible rfl); done)) | refine tn (i := 15) hHeld ?_
      try simp only [Act.put, List.setIfInBounds_toArray, List.set_cons_zero, List.set_cons_succ]
      first | (refine tw (i := 16) (v := ?_) ?_ hHeld ?_; rotate_left; focus (intro w hSw; (try dsimp only at hSw); (try simp only [Cel] at hSw); go_simp; (try with_reducible rfl); done)) | refine tn (i := 16) hHeld ?_
      try simp only [Act.put, List.setIfInBounds_toArray, List.set_cons_zero, List.set_cons_succ]
      first | (refine tw (i := 17) (v := ?_) ?_ hHeld ?_; rotate_left; focus (intro w hSw; (try dsimp only at hSw); (try simp only [Cel] at hSw); go_simp; (try with_reducible rfl); done)) | refine tn (i := 17) hHeld ?_
      try simp only [Act.put, List.setIfInBounds_toArray, List.set_cons_zero, List.set_cons_succ]
      first | (refine tw (i := 18) (v := ?_) ?_ hHeld ?_; rotate_left; focus (intro w hSw; (try dsimp only at hSw); (try simp only [Cel] at hSw); go_simp; (try with_reducible rfl); done)) | refine tn (i := 18) hHeld ?_
      try simp only [Act.put, List.setIfInBounds_toArray, List.set_cons_zero, List.set_cons_succ]
      first | (refine tw (i := 19) (v := ?_) ?_ hHeld ?_; rotate_left; focus (intro w hSw; (try dsimp only at hSw); (try simp only [Cel] at hSw); go_simp; (try with_reducible rfl); done)) | refine tn (i := 19) hHeld ?_
      try simp only [Act.put, List.setIfInBounds_toArray, List.set_cons_zero, List.set_cons_succ]
      first | (refine tw (i := 20) (v := ?_) ?_ hHeld ?_; rotate_left; focus (intro w hSw; (try dsimp only at hSw); (try simp only [Cel] at hSw); go_simp; (try with_reducible rfl); done)) | refine tn (i := 20) hHeld ?_
      try simp only [Act.put, List.setIfInBounds_toArray, List.set_cons_zero, List.set_cons_succ]
      first | (refine tw (i := 21) (v := ?_) ?_ hHeld ?_; rotate_left; focus (intro w hSw; (try dsimp only at hSw); (try simp only [Cel] at hSw); go_simp; (try with_reducible rfl); done)) | refine tn (i := 21) hHeld ?_
      try simp only [Act.put, List.setIfInBounds_toArray, List.set_cons_zero, List.set_cons_succ]
      first | (refine tw (i := 22) (v := ?_) ?_ hHeld ?_; rotate_left; focus (intro w hSw; (try dsimp only at hSw); (try simp only [Cel] at hSw); go_simp; (try with_reducible rfl); done)) | refine tn (i := 22) hHeld ?_
      try simp only [Act.put, List.setIfInBounds_toArray, List.set_cons_zero, List.set_cons_succ]
      first | (refine tw (i := 23) (v := ?_) ?_ hHeld ?_; rotate_left; focus (intro w hSw; (try dsimp only at hSw); (try simp only [Cel] at hSw); go_simp; (try with_reducible rfl); done)) | refine tn (i := 23) hHeld ?_
      try simp only [Act.put, List.setIfInBounds_toArray, List.set_cons_zero, List.set_cons_succ]
      first | (refine tw (i := 24) (v := ?_) ?_ hHeld ?_; rotate_left; focus (intro w hSw; (try dsimp only at hSw); (try simp only [Cel] at hSw); go_simp; (try with_reducible rfl); done)) | refine tn (i := 24) hHeld ?_
      try simp only [Act.put, List.setIfInBounds_toArray, List.set_cons_zero, List.set_cons_succ]
      first | (refine tw (i := 25) (v := ?_) ?_ hHeld ?_; rotate_left; focus (intro w hSw; (try dsimp only at hSw); (try simp only [Cel] at hSw); go_simp; (try with_reducible rfl); done)) | refine tn (i := 25) hHeld ?_
      try simp only [Act.put, List.setIfInBounds_toArray, List.set_cons_zero, List.set_cons_succ]
      first | (refine tw (i := 26) (v := ?_) ?_ hHeld ?_; rotate_left; focus (intro w hSw; (try dsimp only at hSw); (try simp only [Cel] at hSw); go_simp; (try with_reducible rfl); done)) | refine tn (i := 26) hHeld ?_
      try simp only [Act.put, List.setIfInBounds_toArray, List.set_cons_zero, List.set_cons_succ]
      first | (refine tw (i := 27) (v := ?_) ?_ hHeld ?_; rotate_left; focus (intro w hSw; (try dsimp only at hSw); (try simp only [Cel] at hSw); go_simp; (try with_reducible rfl); done)) | refine tn (i := 27) hHeld ?_
      try simp only [Act.put, List.setIfInBounds_toArray, List.set_cons_zero, List.set_cons_succ]
      first | (refine tw (i := 28) (v := ?_) ?_ hHeld ?_; rotate_left; focus (intro w hSw; (try dsimp only at hSw); (try simp only [Cel] at hSw); go_simp; (try with_reducible rfl); done)) | refine tn (i := 28) hHeld ?_
      try simp only [Act.put, List.setIfInBounds_toArray, List.set_cons_zero, List.set_cons_succ]
      first | (refine tw (i := 29) (v := ?_) ?_ hHeld ?_; rotate_left; focus (intro w hSw; (try dsimp only at hSw); (try simp only [Cel] at hSw); go_simp; (try with_reducible rfl); done)) | refine tn (i := 29) hHeld ?_
      try simp only [Act.put, List.setIfInBounds_toArray, List.set_cons_zero, List.set_cons_succ]
      first | (refine tw (i := 31) (v := ?_) ?_ hHeld ?_; rotate_left; focus (intro w hSw; (try dsimp only at hSw); (try simp only [Cel] at hSw); go_simp; (try with_reducible rfl); done)) | refine tn (i := 31) hHeld ?_
      try simp only [Act.put, List.setIfInBounds_toArray, List.set_cons_zero, List.set_cons_succ]
      refine call_next (i := 30) (by kernel_rfl) (by rfl) ?_
      intro o ho K hK
      simp only [List.getElem?_toArray, List.getElem?_cons_succ, List.getElem?_cons_zero, Option.some.injEq] at ho
      subst ho
      first | (fail; refine hK.out _ _ ?_ (fun hHeld => ?_)) | (go_simp; first | (with_reducible refine hK.out _ _ ?_ (fun hHeld => ?_)) | ((first | (go_at_call 11; (with_reducible refine (Q1.out _).mono ?_); rintro e' W9 ⟨rfl, hA⟩; replace HS : Hid ((fun w' => Cel w' w.heap.size ⟨k, a, b, d, ⟨p, q, e⟩, ⟨r, s, f⟩⟩ ∧ Cel w' (w.heap.size + 1) ⟨k2, a, b, d2, ⟨p2, q2, e2⟩, ⟨r2, s2, f2⟩⟩ ∧ Cel w' jB ⟨k, a, b, d, ⟨p, q, e⟩, ⟨r, s, f⟩⟩ ∧ Cel w' kB ⟨k2, a, b, d2, ⟨p2, q2, e2⟩, ⟨r2, s2, f2⟩⟩) W9) := ⟨HS.out.1.below hA, HS.out.2.1.below hA, HS.out.2.2.1.below hA, HS.out.2.2.2.below hA⟩; replace HB := Lib.hid (bt HB.out hA); clear hA) | (go_at_call 10; (with_reducible refine (Q2.out _).mono ?_); rintro e' W9 ⟨rfl, hA⟩; replace HS : Hid ((fun w' => Cel w' w.heap.size ⟨k, a, b, d, ⟨p, q, e⟩, ⟨r, s, f⟩⟩ ∧ Cel w' (w.heap.size + 1) ⟨k2, a, b, d2, ⟨p2, q2, e2⟩, ⟨r2, s2, f2⟩⟩ ∧ Cel w' jB ⟨k, a, b, d, ⟨p, q, e⟩, ⟨r, s, f⟩⟩ ∧ Cel w' kB ⟨k2, a, b, d2, ⟨p2, q2, e2⟩, ⟨r2, s2, f2⟩⟩) W9) := ⟨HS.out.1.below hA, HS.out.2.1.below hA, HS.out.2.2.1.below hA, HS.out.2.2.2.below hA⟩; replace HB := Lib.hid (bt HB.out hA); clear hA) | (go_at_call 10; (with_reducible refine (Q3.out _).mono ?_); rintro e' W9 ⟨rfl, hA⟩; replace HS : Hid ((fun w' => Cel w' w.heap.size ⟨k, a, b, d, ⟨p, q, e⟩, ⟨r, s, f⟩⟩ ∧ Cel w' (w.heap.size + 1) ⟨k2, a, b, d2, ⟨p2, q2, e2⟩, ⟨r2, s2, f2⟩⟩ ∧ Cel w' jB ⟨k, a, b, d, ⟨p, q, e⟩, ⟨r, s, f⟩⟩ ∧ Cel w' kB ⟨k2, a, b, d2, ⟨p2, q2, e2⟩, ⟨r2, s2, f2⟩⟩) W9) := ⟨HS.out.1.below hA, HS.out.2.1.below hA, HS.out.2.2.1.below hA, HS.out.2.2.2.below hA⟩; replace HB := Lib.hid (bt HB.out hA); clear hA) | (go_at_call 10; (with_reducible refine (Q4.out _).mono ?_); rintro e' W9 ⟨rfl, hA⟩; replace HS : Hid ((fun w' => Cel w' w.heap.size ⟨k, a, b, d, ⟨p, q, e⟩, ⟨r, s, f⟩⟩ ∧ Cel w' (w.heap.size + 1) ⟨k2, a, b, d2, ⟨p2, q2, e2⟩, ⟨r2, s2, f2⟩⟩ ∧ Cel w' jB ⟨k, a, b, d, ⟨p, q, e⟩, ⟨r, s, f⟩⟩ ∧ Cel w' kB ⟨k2, a, b, d2, ⟨p2, q2, e2⟩, ⟨r2, s2, f2⟩⟩) W9) := ⟨HS.out.1.below hA, HS.out.2.1.below hA, HS.out.2.2.1.below hA, HS.out.2.2.2.below hA⟩; replace HB := Lib.hid (bt HB.out hA); clear hA) | (go_at_call 12; (with_reducible refine (Q5.out _).mono ?_); rintro e' W9 ⟨rfl, hA⟩; replace HS : Hid ((fun w' => Cel w' w.heap.size ⟨k, a, b, d, ⟨p, q, e⟩, ⟨r, s, f⟩⟩ ∧ Cel w' (w.heap.size + 1) ⟨k2, a, b, d2, ⟨p2, q2, e2⟩, ⟨r2, s2, f2⟩⟩ ∧ Cel w' jB ⟨k, a, b, d, ⟨p, q, e⟩, ⟨r, s, f⟩⟩ ∧ Cel w' kB ⟨k2, a, b, d2, ⟨p2, q2, e2⟩, ⟨r2, s2, f2⟩⟩) W9) := ⟨HS.out.1.below hA, HS.out.2.1.below hA, HS.out.2.2.1.below hA, HS.out.2.2.2.below hA⟩; replace HB := Lib.hid (bt HB.out hA); clear hA)); refine hK.out _ _ ?_ (fun hHeld => ?_)))
      · first | with_reducible exact HS.out | exact ⟨HS.out.1.drew, HS.out.2.1.drew, HS.out.2.2.1.drew, HS.out.2.2.2.drew⟩
      clear hK K
      try simp only [Act.put, List.setIfInBounds_toArray, List.set_cons_zero, List.set_cons_succ]
      first | (refine tw (i := 32) (v := ?_) ?_ hHeld ?_; rotate_left; focus (intro w hSw; (try dsimp only at hSw); (try simp only [Cel] at hSw); go_simp; (try with_reducible rfl); done)) | refine tn (i := 32) hHeld ?_
      try simp only [Act.put, List.setIfInBounds_toArray, List.set_cons_zero, List.set_cons_succ]
      first | (refine tw (i := 33) (v := ?_) ?_ hHeld ?_; rotate_left; focus (intro w hSw; (try dsimp only at hSw); (try simp only [Cel] at hSw); go_simp; (try with_reducible rfl); done)) | refine tn (i := 33) hHeld ?_
      try simp only [Act.put, List.setIfInBounds_toArray, List.set_cons_zero, List.set_cons_succ]
      first | (refine tw (i := 34) (v := ?_) ?_ hHeld ?_; rotate_left; focus (intro w hSw; (try dsimp only at hSw); (try simp only [Cel] at hSw); go_simp; (try with_reducible rfl); done)) | refine tn (i := 34) hHeld ?_
      try simp only [Act.put, List.setIfInBounds_toArray, List.set_cons_zero, List.set_cons_succ]
      first | (refine tw (i := 35) (v := ?_) ?_ hHeld ?_; rotate_left; focus (intro w hSw; (try dsimp only at hSw); (try simp only [Cel] at hSw); go_simp; (try with_reducible rfl); done)) | refine tn (i := 35) hHeld ?_
      try simp only [Act.put, List.setIfInBounds_toArray, List.set_cons_zero, List.set_cons_succ]
      first | (refine tw (i := 36) (v := ?_) ?_ hHeld ?_; rotate_left; focus (intro w hSw; (try dsimp only at hSw); (try simp only [Cel] at hSw); go_simp; (try with_reducible rfl); done)) | refine tn (i := 36) hHeld ?_
      try simp only [Act.put, List.setIfInBounds_toArray, List.set_cons_zero, List.set_cons_succ]
      first | (refine tw (i := 38) (v := ?_) ?_ hHeld ?_; rotate_left; focus (intro w hSw; (try dsimp only at hSw); (try simp only [Cel] at hSw); go_simp; (try with_reducible rfl); done)) | refine tn (i := 38) hHeld ?_
      try simp only [Act.put, List.setIfInBounds_toArray, List.set_cons_zero, List.set_cons_succ]
      refine call_next (i := 37) (by kernel_rfl) (by rfl) ?_
      intro o ho K hK
      simp only [List.getElem?_toArray, List.getElem?_cons_succ, List.getElem?_cons_zero, Option.some.injEq] at ho
      subst ho
      first | (fail; refine hK.out _ _ ?_ (fun hHeld => ?_)) | (go_simp; first | (with_reducible refine hK.out _ _ ?_ (fun hHeld => ?_)) | ((first | (go_at_call 11; (with_reducible refine (Q1.out _).mono ?_); rintro e' W9 ⟨rfl, hA⟩; replace HS : Hid ((fun w' => Cel w' w.heap.size ⟨k, a, b, d, ⟨p, q, e⟩, ⟨r, s, f⟩⟩ ∧ Cel w' (w.heap.size + 1) ⟨k2, a, b, d2, ⟨p2, q2, e2⟩, ⟨r2, s2, f2⟩⟩ ∧ Cel w' jB ⟨k, a, b, d, ⟨p, q, e⟩, ⟨r, s, f⟩⟩ ∧ Cel w' kB ⟨k2, a, b, d2, ⟨p2, q2, e2⟩, ⟨r2, s2, f2⟩⟩) W9) := ⟨HS.out.1.below hA, HS.out.2.1.below hA, HS.out.2.2.1.below hA, HS.out.2.2.2.below hA⟩; replace HB := Lib.hid (bt HB.out hA); clear hA) | (go_at_call 10; (with_reducible refine (Q2.out _).mono ?_); rintro e' W9 ⟨rfl, hA⟩; replace HS : Hid ((fun w' => Cel w' w.heap.size ⟨k, a, b, d, ⟨p, q, e⟩, ⟨r, s, f⟩⟩ ∧ Cel w' (w.heap.size + 1) ⟨k2, a, b, d2, ⟨p2, q2, e2⟩, ⟨r2, s2, f2⟩⟩ ∧ Cel w' jB ⟨k, a, b, d, ⟨p, q, e⟩, ⟨r, s, f⟩⟩ ∧ Cel w' kB ⟨k2, a, b, d2, ⟨p2, q2, e2⟩, ⟨r2, s2, f2⟩⟩) W9) := ⟨HS.out.1.below hA, HS.out.2.1.below hA, HS.out.2.2.1.below hA, HS.out.2.2.2.below hA⟩; replace HB := Lib.hid (bt HB.out hA); clear hA) | (go_at_call 10; (with_reducible refine (Q3.out _).mono ?_); rintro e' W9 ⟨rfl, hA⟩; replace HS : Hid ((fun w' => Cel w' w.heap.size ⟨k, a, b, d, ⟨p, q, e⟩, ⟨r, s, f⟩⟩ ∧ Cel w' (w.heap.size + 1) ⟨k2, a, b, d2, ⟨p2, q2, e2⟩, ⟨r2, s2, f2⟩⟩ ∧ Cel w' jB ⟨k, a, b, d, ⟨p, q, e⟩, ⟨r, s, f⟩⟩ ∧ Cel w' kB ⟨k2, a, b, d2, ⟨p2, q2, e2⟩, ⟨r2, s2, f2⟩⟩) W9) := ⟨HS.out.1.below hA, HS.out.2.1.below hA, HS.out.2.2.1.below hA, HS.out.2.2.2.below hA⟩; replace HB := Lib.hid (bt HB.out hA); clear hA) | (go_at_call 10; (with_reducible refine (Q4.out _).mono ?_); rintro e' W9 ⟨rfl, hA⟩; replace HS : Hid ((fun w' => Cel w' w.heap.size ⟨k, a, b, d, ⟨p, q, e⟩, ⟨r, s, f⟩⟩ ∧ Cel w' (w.heap.size + 1) ⟨k2, a, b, d2, ⟨p2, q2, e2⟩, ⟨r2, s2, f2⟩⟩ ∧ Cel w' jB ⟨k, a, b, d, ⟨p, q, e⟩, ⟨r, s, f⟩⟩ ∧ Cel w' kB ⟨k2, a, b, d2, ⟨p2, q2, e2⟩, ⟨r2, s2, f2⟩⟩) W9) := ⟨HS.out.1.below hA, HS.out.2.1.below hA, HS.out.2.2.1.below hA, HS.out.2.2.2.below hA⟩; replace HB := Lib.hid (bt HB.out hA); clear hA) | (go_at_call 12; (with_reducible refine (Q5.out _).mono ?_); rintro e' W9 ⟨rfl, hA⟩; replace HS : Hid ((fun w' => Cel w' w.heap.size ⟨k, a, b, d, ⟨p, q, e⟩, ⟨r, s, f⟩⟩ ∧ Cel w' (w.heap.size + 1) ⟨k2, a, b, d2, ⟨p2, q2, e2⟩, ⟨r2, s2, f2⟩⟩ ∧ Cel w' jB ⟨k, a, b, d, ⟨p, q, e⟩, ⟨r, s, f⟩⟩ ∧ Cel w' kB ⟨k2, a, b, d2, ⟨p2, q2, e2⟩, ⟨r2, s2, f2⟩⟩) W9) := ⟨HS.out.1.below hA, HS.out.2.1.below hA, HS.out.2.2.1.below hA, HS.out.2.2.2.below hA⟩; replace HB := Lib.hid (bt HB.out hA); clear hA)); refine hK.out _ _ ?_ (fun hHeld => ?_)))
      · first | with_reducible exact HS.out | exact ⟨HS.out.1.drew, HS.out.2.1.drew, HS.out.2.2.1.drew, HS.out.2.2.2.drew⟩
      clear hK K
      try simp only [Act.put, List.setIfInBounds_toArray, List.set_cons_zero, List.set_cons_succ]
      first | (refine tw (i := 39) (v := ?_) ?_ hHeld ?_; rotate_left; focus (intro w hSw; (try dsimp only at hSw); (try simp only [Cel] at hSw); go_simp; (try with_reducible rfl); done)) | refine tn (i := 39) hHeld ?_
      try simp only [Act.put, List.setIfInBounds_toArray, List.set_cons_zero, List.set_cons_succ]
      first | (refine tw (i := 40) (v := ?_) ?_ hHeld ?_; rotate_left; focus (intro w hSw; (try dsimp only at hSw); (try simp only [Cel] at hSw); go_simp; (try with_reducible rfl); done)) | refine tn (i := 40) hHeld ?_
      try simp only [Act.put, List.setIfInBounds_toArray, List.set_cons_zero, List.set_cons_succ]
      first | (refine tw (i := 41) (v := ?_) ?_ hHeld ?_; rotate_left; focus (intro w hSw; (try dsimp only at hSw); (try simp only [Cel] at hSw); go_simp; (try with_reducible rfl); done)) | refine tn (i := 41) hHeld ?_
      try simp only [Act.put, List.setIfInBounds_toArray, List.set_cons_zero, List.set_cons_succ]
      first | (refine tw (i := 42) (v := ?_) ?_ hHeld ?_; rotate_left; focus (intro w hSw; (try dsimp only at hSw); (try simp only [Cel] at hSw); go_simp; (try with_reducible rfl); done)) | refine tn (i := 42) hHeld ?_
      try simp only [Act.put, List.setIfInBounds_toArray, List.set_cons_zero, List.set_cons_succ]
      first | (refine tw (i := 43) (v := ?_) ?_ hHeld ?_; rotate_left; focus (intro w hSw; (try dsimp only at hSw); (try simp only [Cel] at hSw); go_simp; (try with_reducible rfl); done)) | refine tn (i := 43) hHeld ?_
      try simp only [Act.put, List.setIfInBounds_toArray, List.set_cons_zero, List.set_cons_succ]
      first | (refine tw (i := 44) (v := ?_) ?_ hHeld ?_; rotate_left; focus (intro w hSw; (try dsimp only at hSw); (try simp only [Cel] at hSw); go_simp; (try with_reducible rfl); done)) | refine tn (i := 44) hHeld ?_
      try simp only [Act.put, List.setIfInBounds_toArray, List.set_cons_zero, List.set_cons_succ]
      first | (refine tw (i := 45) (v := ?_) ?_ hHeld ?_; rotate_left; focus (intro w hSw; (try dsimp only at hSw); (try simp only [Cel] at hSw); go_simp; (try with_reducible rfl); done)) | refine tn (i := 45) hHeld ?_
      try simp only [Act.put, List.setIfInBounds_toArray, List.set_cons_zero, List.set_cons_succ]
      first | (refine tw (i := 46) (v := ?_) ?_ hHeld ?_; rotate_left; focus (intro w hSw; (try dsimp only at hSw); (try simp only [Cel] at hSw); go_simp; (try with_reducible rfl); done)) | refine tn (i := 46) hHeld ?_
      try simp only [Act.put, List.setIfInBounds_toArray, List.set_cons_zero, List.set_cons_succ]
      first | (refine tw (i := 47) (v := ?_) ?_ hHeld ?_; rotate_left; focus (intro w hSw; (try dsimp only at hSw); (try simp only [Cel] at hSw); go_simp; (try with_reducible rfl); done)) | refine tn (i := 47) hHeld ?_
      try simp only [Act.put, List.setIfInBounds_toArray, List.set_cons_zero, List.set_cons_succ]
      first | (refine tw (i := 48) (v := ?_) ?_ hHeld ?_; rotate_left; focus (intro w hSw; (try dsimp only at hSw); (try simp only [Cel] at hSw); go_simp; (try with_reducible rfl); done)) | refine tn (i := 48) hHeld ?_
      try simp only [Act.put, List.setIfInBounds_toArray, List.set_cons_zero, List.set_cons_succ]
      first | (refine tw (i := 49) (v := ?_) ?_ hHeld ?_; rotate_left; focus (intro w hSw; (try dsimp only at hSw); (try simp only [Cel] at hSw); go_simp; (try with_reducible rfl); done)) | refine tn (i := 49) hHeld ?_
      try simp only [Act.put, List.setIfInBounds_toArray, List.set_cons_zero, List.set_cons_succ]
      first | (refine tw (i := 50) (v := ?_) ?_ hHeld ?_; rotate_left; focus (intro w hSw; (try dsimp only at hSw); (try simp only [Cel] at hSw); go_simp; (try with_reducible rfl); done)) | refine tn (i := 50) hHeld ?_
      try simp only [Act.put, List.setIfInBounds_toArray, List.set_cons_zero, List.set_cons_succ]
      first | (refine tw (i := 52) (v := ?_) ?_ hHeld ?_; rotate_left; focus (intro w hSw; (try dsimp only at hSw); (try simp only [Cel] at hSw); go_simp; (try with_reducible rfl); done)) | refine tn (i := 52) hHeld ?_
      try simp only [Act.put, List.setIfInBounds_toArray, List.set_cons_zero, List.set_cons_succ]
      refine call_next (i := 51) (by kernel_rfl) (by rfl) ?_
      intro o ho K hK
      simp only [List.getElem?_toArray, List.getElem?_cons_succ, List.getElem?_cons_zero, Option.some.injEq] at ho
      subst ho
      first | (fail; refine hK.out _ _ ?_ (fun hHeld => ?_)) | (go_simp; first | (with_reducible refine hK.out _ _ ?_ (fun hHeld => ?_)) | ((first | (go_at_call 11; (with_reducible refine (Q1.out _).mono ?_); rintro e' W9 ⟨rfl, hA⟩; replace HS : Hid ((fun w' => Cel w' w.heap.size ⟨k, a, b, d, ⟨p, q, e⟩, ⟨r, s, f⟩⟩ ∧ Cel w' (w.heap.size + 1) ⟨k2, a, b, d2, ⟨p2, q2, e2⟩, ⟨r2, s2, f2⟩⟩ ∧ Cel w' jB ⟨k, a, b, d, ⟨p, q, e⟩, ⟨r, s, f⟩⟩ ∧ Cel w' kB ⟨k2, a, b, d2, ⟨p2, q2, e2⟩, ⟨r2, s2, f2⟩⟩) W9) := ⟨HS.out.1.below hA, HS.out.2.1.below hA, HS.out.2.2.1.below hA, HS.out.2.2.2.below hA⟩; replace HB := Lib.hid (bt HB.out hA); clear hA) | (go_at_call 10; (with_reducible refine (Q2.out _).mono ?_); rintro e' W9 ⟨rfl, hA⟩; replace HS : Hid ((fun w' => Cel w' w.heap.size ⟨k, a, b, d, ⟨p, q, e⟩, ⟨r, s, f⟩⟩ ∧ Cel w' (w.heap.size + 1) ⟨k2, a, b, d2, ⟨p2, q2, e2⟩, ⟨r2, s2, f2⟩⟩ ∧ Cel w' jB ⟨k, a, b, d, ⟨p, q, e⟩, ⟨r, s, f⟩⟩ ∧ Cel w' kB ⟨k2, a, b, d2, ⟨p2, q2, e2⟩, ⟨r2, s2, f2⟩⟩) W9) := ⟨HS.out.1.below hA, HS.out.2.1.below hA, HS.out.2.2.1.below hA, HS.out.2.2.2.below hA⟩; replace HB := Lib.hid (bt HB.out hA); clear hA) | (go_at_call 10; (with_reducible refine (Q3.out _).mono ?_); rintro e' W9 ⟨rfl, hA⟩; replace HS : Hid ((fun w' => Cel w' w.heap.size ⟨k, a, b, d, ⟨p, q, e⟩, ⟨r, s, f⟩⟩ ∧ Cel w' (w.heap.size + 1) ⟨k2, a, b, d2, ⟨p2, q2, e2⟩, ⟨r2, s2, f2⟩⟩ ∧ Cel w' jB ⟨k, a, b, d, ⟨p, q, e⟩, ⟨r, s, f⟩⟩ ∧ Cel w' kB ⟨k2, a, b, d2, ⟨p2, q2, e2⟩, ⟨r2, s2, f2⟩⟩) W9) := ⟨HS.out.1.below hA, HS.out.2.1.below hA, HS.out.2.2.1.below hA, HS.out.2.2.2.below hA⟩; replace HB := Lib.hid (bt HB.out hA); clear hA) | (go_at_call 10; (with_reducible refine (Q4.out _).mono ?_); rintro e' W9 ⟨rfl, hA⟩; replace HS : Hid ((fun w' => Cel w' w.heap.size ⟨k, a, b, d, ⟨p, q, e⟩, ⟨r, s, f⟩⟩ ∧ Cel w' (w.heap.size + 1) ⟨k2, a, b, d2, ⟨p2, q2, e2⟩, ⟨r2, s2, f2⟩⟩ ∧ Cel w' jB ⟨k, a, b, d, ⟨p, q, e⟩, ⟨r, s, f⟩⟩ ∧ Cel w' kB ⟨k2, a, b, d2, ⟨p2, q2, e2⟩, ⟨r2, s2, f2⟩⟩) W9) := ⟨HS.out.1.below hA, HS.out.2.1.below hA, HS.out.2.2.1.below hA, HS.out.2.2.2.below hA⟩; replace HB := Lib.hid (bt HB.out hA); clear hA) | (go_at_call 12; (with_reducible refine (Q5.out _).mono ?_); rintro e' W9 ⟨rfl, hA⟩; replace HS : Hid ((fun w' => Cel w' w.heap.size ⟨k, a, b, d, ⟨p, q, e⟩, ⟨r, s, f⟩⟩ ∧ Cel w' (w.heap.size + 1) ⟨k2, a, b, d2, ⟨p2, q2, e2⟩, ⟨r2, s2, f2⟩⟩ ∧ Cel w' jB ⟨k, a, b, d, ⟨p, q, e⟩, ⟨r, s, f⟩⟩ ∧ Cel w' kB ⟨k2, a, b, d2, ⟨p2, q2, e2⟩, ⟨r2, s2, f2⟩⟩) W9) := ⟨HS.out.1.below hA, HS.out.2.1.below hA, HS.out.2.2.1.below hA, HS.out.2.2.2.below hA⟩; replace HB := Lib.hid (bt HB.out hA); clear hA)); refine hK.out _ _ ?_ (fun hHeld => ?_)))
      · first | with_reducible exact HS.out | exact ⟨HS.out.1.drew, HS.out.2.1.drew, HS.out.2.2.1.drew, HS.out.2.2.2.drew⟩
      clear hK K
      try simp only [Act.put, List.setIfInBounds_toArray, List.set_cons_zero, List.set_cons_succ]
      first | (refine tw (i := 53) (v := ?_) ?_ hHeld ?_; rotate_left; focus (intro w hSw; (try dsimp only at hSw); (try simp only [Cel] at hSw); go_simp; (try with_reducible rfl); done)) | refine tn (i := 53) hHeld ?_
      try simp only [Act.put, List.setIfInBounds_toArray, List.set_cons_zero, List.set_cons_succ]
      first | (refine tw (i := 54) (v := ?_) ?_ hHeld ?_; rotate_left; focus (intro w hSw; (try dsimp only at hSw); (try simp only [Cel] at hSw); go_simp; (try with_reducible rfl); done)) | refine tn (i := 54) hHeld ?_
      try simp only [Act.put, List.setIfInBounds_toArray, List.set_cons_zero, List.set_cons_succ]
      first | (refine tw (i := 55) (v := ?_) ?_ hHeld ?_; rotate_left; focus (intro w hSw; (try dsimp only at hSw); (try simp only [Cel] at hSw); go_simp; (try with_reducible rfl); done)) | refine tn (i := 55) hHeld ?_
      try simp only [Act.put, List.setIfInBounds_toArray, List.set_cons_zero, List.set_cons_succ]
      first | (refine tw (i := 56) (v := ?_) ?_ hHeld ?_; rotate_left; focus (intro w hSw; (try dsimp only at hSw); (try simp only [Cel] at hSw); go_simp; (try with_reducible rfl); done)) | refine tn (i := 56) hHeld ?_
      try simp only [Act.put, List.setIfInBounds_toArray, List.set_cons_zero, List.set_cons_succ]
      first | (refine tw (i := 57) (v := ?_) ?_ hHeld ?_; rotate_left; focus (intro w hSw; (try dsimp only at hSw); (try simp only [Cel] at hSw); go_simp; (try with_reducible rfl); done)) | refine tn (i := 57) hHeld ?_
      try simp only [Act.put, List.setIfInBounds_toArray, List.set_cons_zero, List.set_cons_succ]
      first | (refine tw (i := 58) (v := ?_) ?_ hHeld ?_; rotate_left; focus (intro w hSw; (try dsimp only at hSw); (try simp only [Cel] at hSw); go_simp; (try with_reducible rfl); done)) | refine tn (i := 58) hHeld ?_
      try simp only [Act.put, List.setIfInBounds_toArray, List.set_cons_zero, List.set_cons_succ]
      first | (refine tw (i := 59) (v := ?_) ?_ hHeld ?_; rotate_left; focus (intro w hSw; (try dsimp only at hSw); (try simp only [Cel] at hSw); go_simp; (try with_reducible rfl); done)) | refine tn (i := 59) hHeld ?_
      try simp only [Act.put, List.setIfInBounds_toArray, List.set_cons_zero, List.set_cons_succ]
      first | (refine tw (i := 60) (v := ?_) ?_ hHeld ?_; rotate_left; focus (intro w hSw; (try dsimp only at hSw); (try simp only [Cel] at hSw); go_simp; (try with_reducible rfl); done)) | refine tn (i := 60) hHeld ?_
      try simp only [Act.put, List.setIfInBounds_toArray, List.set_cons_zero, List.set_cons_succ]
      first | (refine tw (i := 61) (v := ?_) ?_ hHeld ?_; rotate_left; focus (intro w hSw; (try dsimp only at hSw); (try simp only [Cel] at hSw); go_simp; (try with_reducible rfl); done)) | refine tn (i := 61) hHeld ?_
      try simp only [Act.put, List.setIfInBounds_toArray, List.set_cons_zero, List.set_cons_succ]
      refine call_next (i := 62) (by kernel_rfl) (by rfl) ?_
      intro o ho K hK
      simp only [List.getElem?_toArray, List.getElem?_cons_succ, List.getElem?_cons_zero, Option.some.injEq] at ho
      subst ho
      first | (fail; refine hK.out _ _ ?_ (fun hHeld => ?_)) | (go_simp; first | (with_reducible refine hK.out _ _ ?_ (fun hHeld => ?_)) | ((first | (go_at_call 11; (with_reducible refine (Q1.out _).mono ?_); rintro e' W9 ⟨rfl, hA⟩; replace HS : Hid ((fun w' => Cel w' w.heap.size ⟨k, a, b, d, ⟨p, q, e⟩, ⟨r, s, f⟩⟩ ∧ Cel w' (w.heap.size + 1) ⟨k2, a, b, d2, ⟨p2, q2, e2⟩, ⟨r2, s2, f2⟩⟩ ∧ Cel w' jB ⟨k, a, b, d, ⟨p, q, e⟩, ⟨r, s, f⟩⟩ ∧ Cel w' kB ⟨k2, a, b, d2, ⟨p2, q2, e2⟩, ⟨r2, s2, f2⟩⟩) W9) := ⟨HS.out.1.below hA, HS.out.2.1.below hA, HS.out.2.2.1.below hA, HS.out.2.2.2.below hA⟩; replace HB := Lib.hid (bt HB.out hA); clear hA) | (go_at_call 10; (with_reducible refine (Q2.out _).mono ?_); rintro e' W9 ⟨rfl, hA⟩; replace HS : Hid ((fun w' => Cel w' w.heap.size ⟨k, a, b, d, ⟨p, q, e⟩, ⟨r, s, f⟩⟩ ∧ Cel w' (w.heap.size + 1) ⟨k2, a, b, d2, ⟨p2, q2, e2⟩, ⟨r2, s2, f2⟩⟩ ∧ Cel w' jB ⟨k, a, b, d, ⟨p, q, e⟩, ⟨r, s, f⟩⟩ ∧ Cel w' kB ⟨k2, a, b, d2, ⟨p2, q2, e2⟩, ⟨r2, s2, f2⟩⟩) W9) := ⟨HS.out.1.below hA, HS.out.2.1.below hA, HS.out.2.2.1.below hA, HS.out.2.2.2.below hA⟩; replace HB := Lib.hid (bt HB.out hA); clear hA) | (go_at_call 10; (with_reducible refine (Q3.out _).mono ?_); rintro e' W9 ⟨rfl, hA⟩; replace HS : Hid ((fun w' => Cel w' w.heap.size ⟨k, a, b, d, ⟨p, q, e⟩, ⟨r, s, f⟩⟩ ∧ Cel w' (w.heap.size + 1) ⟨k2, a, b, d2, ⟨p2, q2, e2⟩, ⟨r2, s2, f2⟩⟩ ∧ Cel w' jB ⟨k, a, b, d, ⟨p, q, e⟩, ⟨r, s, f⟩⟩ ∧ Cel w' kB ⟨k2, a, b, d2, ⟨p2, q2, e2⟩, ⟨r2, s2, f2⟩⟩) W9) := ⟨HS.out.1.below hA, HS.out.2.1.below hA, HS.out.2.2.1.below hA, HS.out.2.2.2.below hA⟩; replace HB := Lib.hid (bt HB.out hA); clear hA) | (go_at_call 10; (with_reducible refine (Q4.out _).mono ?_); rintro e' W9 ⟨rfl, hA⟩; replace HS : Hid ((fun w' => Cel w' w.heap.size ⟨k, a, b, d, ⟨p, q, e⟩, ⟨r, s, f⟩⟩ ∧ Cel w' (w.heap.size + 1) ⟨k2, a, b, d2, ⟨p2, q2, e2⟩, ⟨r2, s2, f2⟩⟩ ∧ Cel w' jB ⟨k, a, b, d, ⟨p, q, e⟩, ⟨r, s, f⟩⟩ ∧ Cel w' kB ⟨k2, a, b, d2, ⟨p2, q2, e2⟩, ⟨r2, s2, f2⟩⟩) W9) := ⟨HS.out.1.below hA, HS.out.2.1.below hA, HS.out.2.2.1.below hA, HS.out.2.2.2.below hA⟩; replace HB := Lib.hid (bt HB.out hA); clear hA) | (go_at_call 12; (with_reducible refine (Q5.out _).mono ?_); rintro e' W9 ⟨rfl, hA⟩; replace HS : Hid ((fun w' => Cel w' w.heap.size ⟨k, a, b, d, ⟨p, q, e⟩, ⟨r, s, f⟩⟩ ∧ Cel w' (w.heap.size + 1) ⟨k2, a, b, d2, ⟨p2, q2, e2⟩, ⟨r2, s2, f2⟩⟩ ∧ Cel w' jB ⟨k, a, b, d, ⟨p, q, e⟩, ⟨r, s, f⟩⟩ ∧ Cel w' kB ⟨k2, a, b, d2, ⟨p2, q2, e2⟩, ⟨r2, s2, f2⟩⟩) W9) := ⟨HS.out.1.below hA, HS.out.2.1.below hA, HS.out.2.2.1.below hA, HS.out.2.2.2.below hA⟩; replace HB := Lib.hid (bt HB.out hA); clear hA)); refine hK.out _ _ ?_ (fun hHeld => ?_)))
      · first | with_reducible exact HS.out | exact ⟨HS.out.1.drew, HS.out.2.1.drew, HS.out.2.2.1.drew, HS.out.2.2.2.drew⟩
      clear hK K
      try simp only [Act.put, List.setIfInBounds_toArray, List.set_cons_zero, List.set_cons_succ]
      first | (refine tw (i := 63) (v := ?_) ?_ hHeld ?_; rotate_left; focus (intro w hSw; (try dsimp only at hSw); (try simp only [Cel] at hSw); go_simp; (try with_reducible rfl); done)) | refine tn (i := 63) hHeld ?_
      try simp only [Act.put, List.setIfInBounds_toArray, List.set_cons_zero, List.set_cons_succ]
      first | (refine tw (i := 64) (v := ?_) ?_ hHeld ?_; rotate_left; focus (intro w hSw; (try dsimp only at hSw); (try simp only [Cel] at hSw); go_simp; (try with_reducible rfl); done)) | refine tn (i := 64) hHeld ?_
      try simp only [Act.put, List.setIfInBounds_toArray, List.set_cons_zero, List.set_cons_succ]
      refine wpAnyH_done (by kernel_rfl) ?_ _
      obtain ⟨c0, c1, c2, c3, c4, c5, c6, c7, c8, c9⟩ := id HS.out.1
      obtain ⟨u0, u1, u2, u3, u4, u5, u6, u7, u8, u9⟩ := id HS.out.2.1
      go_wp2_with fail
      refine (Q6.out _).mono ?_
      rintro e' W10 ⟨rfl, hA⟩
      replace HS : Hid ((fun w' => Cel w' w.heap.size ⟨k, a, b, d, ⟨p, q, e⟩, ⟨r, s, f⟩⟩ ∧ Cel w' (w.heap.size + 1) ⟨k2, a, b, d2, ⟨p2, q2, e2⟩, ⟨r2, s2, f2⟩⟩ ∧ Cel w' jB ⟨k, a, b, d, ⟨p, q, e⟩, ⟨r, s, f⟩⟩ ∧ Cel w' kB ⟨k2, a, b, d2, ⟨p2, q2, e2⟩, ⟨r2, s2, f2⟩⟩) W10) := ⟨HS.out.1.below hA, HS.out.2.1.below hA, HS.out.2.2.1.below hA, HS.out.2.2.2.below hA⟩
      replace HB := Lib.hid (bt HB.out hA)
      clear hA
      clear c0 c1 c2 c3 c4 c5 c6 c7 c8 c9 u0 u1 u2 u3 u4 u5 u6 u7 u8 u9
      obtain ⟨c0, c1, c2, c3, c4, c5, c6, c7, c8, c9⟩ := id HS.out.1
      obtain ⟨u0, u1, u2, u3, u4, u5, u6, u7, u8, u9⟩ := id HS.out.2.1
      obtain ⟨A0, A1, A2, A3, A4, A5, A6, A7, A8, A9⟩ := id HS.out.2.2.1
      go_wp2
      go_ret
      exact ⟨rfl, HB.out⟩
    · have hz := E1.symm.trans hJ1
      simp only [St.mk.injEq, Ve.mk.injEq] at hz
      obtain ⟨rfl, rfl, rfl, rfl, ⟨rfl, rfl, rfl⟩, rfl, rfl, rfl⟩ := hz
      have hz := E2.symm.trans hJ2
      simp only [St.mk.injEq, Ve.mk.injEq] at hz
      obtain ⟨rfl, rfl, rfl, rfl, ⟨rfl, rfl, rfl⟩, rfl, rfl, rfl⟩ := hz
      (try simp only at hv h3 m1 m2)
      have Q1 := Lib.hid (fun w => chk_at HX.out w)
      have Q2 := Lib.hid (fun w => join_at E3 w)
      have Q3 := Lib.hid (fun w => join_at E3 w)
      have Q4 := Lib.hid (fun w => join_at E1 w)
      have Q5 := Lib.hid (fun w => rvj_at m1 m2 w)
      have Q6 := Lib.hid (fun w => rcmp_at h3 w)
      have v1 := fun W => vne_at (a := a) (b := b) (c := a2) (d := b2) (x := false) (vdec hv) W
      have v2 := fun W => veq_at (a := a) (b := b) (c := a2) (d := b2) (x := false) (vdec hv) W
      have v3 := fun W => vne_at (a := a) (b := b) (c := a) (d := b) (x := true) (by simp) W
      have eqn1 := fun W => sne_same k a b d p q e r s f W
      have eqn2 := fun W => seq_same k a b d p q e r s f W
      clear hJ1 hJ2 E1 E2 E3 h3 m1 m2 hv HW HX HY
      go_wp2_with fail
      have HS : Hid ((fun w' => Cel w' w.heap.size ⟨k, a, b, d, ⟨p, q, e⟩, ⟨r, s, f⟩⟩ ∧ Cel w' (w.heap.size + 1) ⟨k2, a2, b2, d2, ⟨p2, q2, e2⟩, ⟨r2, s2, f2⟩⟩ ∧ Cel w' jB ⟨k, a, b, d, ⟨p, q, e⟩, ⟨r, s, f⟩⟩ ∧ Cel w' kB ⟨k, a, b, d, ⟨p, q, e⟩, ⟨r, s, f⟩⟩) wc.drew) := ⟨HS.out.1.drew, HS.out.2.1.drew, HS.out.2.2.1.drew, HS.out.2.2.2.drew⟩
      replace HB := Lib.hid HB.out.drew
      refine wp_region_held_drew (S := (fun w' => Cel w' w.heap.size ⟨k, a, b, d, ⟨p, q, e⟩, ⟨r, s, f⟩⟩ ∧ Cel w' (w.heap.size + 1) ⟨k2, a2, b2, d2, ⟨p2, q2, e2⟩, ⟨r2, s2, f2⟩⟩ ∧ Cel w' jB ⟨k, a, b, d, ⟨p, q, e⟩, ⟨r, s, f⟩⟩ ∧ Cel w' kB ⟨k, a, b, d, ⟨p, q, e⟩, ⟨r, s, f⟩⟩)) (by kernel_rfl) ?_ (fun hHeld => ?_)
      · first | with_reducible exact HS.out | exact ⟨HS.out.1.drew, HS.out.2.1.drew, HS.out.2.2.1.drew, HS.out.2.2.2.drew⟩
      first | (refine tw (i := 0) (v := ?_) ?_ hHeld ?_; rotate_left; focus (intro w hSw; (try dsimp only at hSw); (try simp only [Cel] at hSw); go_simp; (try with_reducible rfl); done)) | refine tn (i := 0) hHeld ?_
      try simp only [Act.put, List.setIfInBounds_toArray, List.set_cons_zero, List.set_cons_succ]
      refine call_next (i := 1) (by kernel_rfl) (by rfl) ?_
      intro o ho K hK
      simp only [List.getElem?_toArray, List.getElem?_cons_succ, List.getElem?_cons_zero, Option.some.injEq] at ho
      subst ho
      first | (fail; refine hK.out _ _ ?_ (fun hHeld => ?_)) | (go_simp; first | (with_reducible refine hK.out _ _ ?_ (fun hHeld => ?_)) | ((first | (go_at_call 11; (with_reducible refine (Q1.out _).mono ?_); rintro e' W9 ⟨rfl, hA⟩; replace HS : Hid ((fun w' => Cel w' w.heap.size ⟨k, a, b, d, ⟨p, q, e⟩, ⟨r, s, f⟩⟩ ∧ Cel w' (w.heap.size + 1) ⟨k2, a2, b2, d2, ⟨p2, q2, e2⟩, ⟨r2, s2, f2⟩⟩ ∧ Cel w' jB ⟨k, a, b, d, ⟨p, q, e⟩, ⟨r, s, f⟩⟩ ∧ Cel w' kB ⟨k, a, b, d, ⟨p, q, e⟩, ⟨r, s, f⟩⟩) W9) := ⟨HS.out.1.below hA, HS.out.2.1.below hA, HS.out.2.2.1.below hA, HS.out.2.2.2.below hA⟩; replace HB := Lib.hid (bt HB.out hA); clear hA) | (go_at_call 10; (with_reducible refine (Q2.out _).mono ?_); rintro e' W9 ⟨rfl, hA⟩; replace HS : Hid ((fun w' => Cel w' w.heap.size ⟨k, a, b, d, ⟨p, q, e⟩, ⟨r, s, f⟩⟩ ∧ Cel w' (w.heap.size + 1) ⟨k2, a2, b2, d2, ⟨p2, q2, e2⟩, ⟨r2, s2, f2⟩⟩ ∧ Cel w' jB ⟨k, a, b, d, ⟨p, q, e⟩, ⟨r, s, f⟩⟩ ∧ Cel w' kB ⟨k, a, b, d, ⟨p, q, e⟩, ⟨r, s, f⟩⟩) W9) := ⟨HS.out.1.below hA, HS.out.2.1.below hA, HS.out.2.2.1.below hA, HS.out.2.2.2.below hA⟩; replace HB := Lib.hid (bt HB.out hA); clear hA) | (go_at_call 10; (with_reducible refine (Q3.out _).mono ?_); rintro e' W9 ⟨rfl, hA⟩; replace HS : Hid ((fun w' => Cel w' w.heap.size ⟨k, a, b, d, ⟨p, q, e⟩, ⟨r, s, f⟩⟩ ∧ Cel w' (w.heap.size + 1) ⟨k2, a2, b2, d2, ⟨p2, q2, e2⟩, ⟨r2, s2, f2⟩⟩ ∧ Cel w' jB ⟨k, a, b, d, ⟨p, q, e⟩, ⟨r, s, f⟩⟩ ∧ Cel w' kB ⟨k, a, b, d, ⟨p, q, e⟩, ⟨r, s, f⟩⟩) W9) := ⟨HS.out.1.below hA, HS.out.2.1.below hA, HS.out.2.2.1.below hA, HS.out.2.2.2.below hA⟩; replace HB := Lib.hid (bt HB.out hA); clear hA) | (go_at_call 10; (with_reducible refine (Q4.out _).mono ?_); rintro e' W9 ⟨rfl, hA⟩; replace HS : Hid ((fun w' => Cel w' w.heap.size ⟨k, a, b, d, ⟨p, q, e⟩, ⟨r, s, f⟩⟩ ∧ Cel w' (w.heap.size + 1) ⟨k2, a2, b2, d2, ⟨p2, q2, e2⟩, ⟨r2, s2, f2⟩⟩ ∧ Cel w' jB ⟨k, a, b, d, ⟨p, q, e⟩, ⟨r, s, f⟩⟩ ∧ Cel w' kB ⟨k, a, b, d, ⟨p, q, e⟩, ⟨r, s, f⟩⟩) W9) := ⟨HS.out.1.below hA, HS.out.2.1.below hA, HS.out.2.2.1.below hA, HS.out.2.2.2.below hA⟩; replace HB := Lib.hid (bt HB.out hA); clear hA) | (go_at_call 12; (with_reducible refine (Q5.out _).mono ?_); rintro e' W9 ⟨rfl, hA⟩; replace HS : Hid ((fun w' => Cel w' w.heap.size ⟨k, a, b, d, ⟨p, q, e⟩, ⟨r, s, f⟩⟩ ∧ Cel w' (w.heap.size + 1) ⟨k2, a2, b2, d2, ⟨p2, q2, e2⟩, ⟨r2, s2, f2⟩⟩ ∧ Cel w' jB ⟨k, a, b, d, ⟨p, q, e⟩, ⟨r, s, f⟩⟩ ∧ Cel w' kB ⟨k, a, b, d, ⟨p, q, e⟩, ⟨r, s, f⟩⟩) W9) := ⟨HS.out.1.below hA, HS.out.2.1.below hA, HS.out.2.2.1.below hA, HS.out.2.2.2.below hA⟩; replace HB := Lib.hid (bt HB.out hA); clear hA)); refine hK.out _ _ ?_ (fun hHeld => ?_)))
      · first | with_reducible exact HS.out | exact ⟨HS.out.1.drew, HS.out.2.1.drew, HS.out.2.2.1.drew, HS.out.2.2.2.drew⟩
      clear hK K
      try simp only [Act.put, List.setIfInBounds_toArray, List.set_cons_zero, List.set_cons_succ]
      first | (refine tw (i := 2) (v := ?_) ?_ hHeld ?_; rotate_left; focus (intro w hSw; (try dsimp only at hSw); (try simp only [Cel] at hSw); go_simp; (try with_reducible rfl); done)) | refine tn (i := 2) hHeld ?_
      try simp only [Act.put, List.setIfInBounds_toArray, List.set_cons_zero, List.set_cons_succ]
      first | (refine tw (i := 3) (v := ?_) ?_ hHeld ?_; rotate_left; focus (intro w hSw; (try dsimp only at hSw); (try simp only [Cel] at hSw); go_simp; (try with_reducible rfl); done)) | refine tn (i := 3) hHeld ?_
      try simp only [Act.put, List.setIfInBounds_toArray, List.set_cons_zero, List.set_cons_succ]
      first | (refine tw (i := 4) (v := ?_) ?_ hHeld ?_; rotate_left; focus (intro w hSw; (try dsimp only at hSw); (try simp only [Cel] at hSw); go_simp; (try with_reducible rfl); done)) | refine tn (i := 4) hHeld ?_
      try simp only [Act.put, List.setIfInBounds_toArray, List.set_cons_zero, List.set_cons_succ]
      first | (refine tw (i := 5) (v := ?_) ?_ hHeld ?_; rotate_left; focus (intro w hSw; (try dsimp only at hSw); (try simp only [Cel] at hSw); go_simp; (try with_reducible rfl); done)) | refine tn (i := 5) hHeld ?_
      try simp only [Act.put, List.setIfInBounds_toArray, List.set_cons_zero, List.set_cons_succ]
      first | (refine tw (i := 6) (v := ?_) ?_ hHeld ?_; rotate_left; focus (intro w hSw; (try dsimp only at hSw); (try simp only [Cel] at hSw); go_simp; (try with_reducible rfl); done)) | refine tn (i := 6) hHeld ?_
      try simp only [Act.put, List.setIfInBounds_toArray, List.set_cons_zero, List.set_cons_succ]
      first | (refine tw (i := 7) (v := ?_) ?_ hHeld ?_; rotate_left; focus (intro w hSw; (try dsimp only at hSw); (try simp only [Cel] at hSw); go_simp; (try with_reducible rfl); done)) | refine tn (i := 7) hHeld ?_
      try simp only [Act.put, List.setIfInBounds_toArray, List.set_cons_zero, List.set_cons_succ]
      first | (refine tw (i := 8) (v := ?_) ?_ hHeld ?_; rotate_left; focus (intro w hSw; (try dsimp only at hSw); (try simp only [Cel] at hSw); go_simp; (try with_reducible rfl); done)) | refine tn (i := 8) hHeld ?_
      try simp only [Act.put, List.setIfInBounds_toArray, List.set_cons_zero, List.set_cons_succ]
      first | (refine tw (i := 9) (v := ?_) ?_ hHeld ?_; rotate_left; focus (intro w hSw; (try dsimp only at hSw); (try simp only [Cel] at hSw); go_simp; (try with_reducible rfl); done)) | refine tn (i := 9) hHeld ?_
      try simp only [Act.put, List.setIfInBounds_toArray, List.set_cons_zero, List.set_cons_succ]
      first | (refine tw (i := 10) (v := ?_) ?_ hHeld ?_; rotate_left; focus (intro w hSw; (try dsimp only at hSw); (try simp only [Cel] at hSw); go_simp; (try with_reducible rfl); done)) | refine tn (i := 10) hHeld ?_
      try simp only [Act.put, List.setIfInBounds_toArray, List.set_cons_zero, List.set_cons_succ]
      first | (refine tw (i := 11) (v := ?_) ?_ hHeld ?_; rotate_left; focus (intro w hSw; (try dsimp only at hSw); (try simp only [Cel] at hSw); go_simp; (try with_reducible rfl); done)) | refine tn (i := 11) hHeld ?_
      try simp only [Act.put, List.setIfInBounds_toArray, List.set_cons_zero, List.set_cons_succ]
      first | (refine tw (i := 12) (v := ?_) ?_ hHeld ?_; rotate_left; focus (intro w hSw; (try dsimp only at hSw); (try simp only [Cel] at hSw); go_simp; (try with_reducible rfl); done)) | refine tn (i := 12) hHeld ?_
      try simp only [Act.put, List.setIfInBounds_toArray, List.set_cons_zero, List.set_cons_succ]
      first | (refine tw (i := 13) (v := ?_) ?_ hHeld ?_; rotate_left; focus (intro w hSw; (try dsimp only at hSw); (try simp only [Cel] at hSw); go_simp; (try with_reducible rfl); done)) | refine tn (i := 13) hHeld ?_
      try simp only [Act.put, List.setIfInBounds_toArray, List.set_cons_zero, List.set_cons_succ]
      first | (refine tw (i := 14) (v := ?_) ?_ hHeld ?_; rotate_left; focus (intro w hSw; (try dsimp only at hSw); (try simp only [Cel] at hSw); go_simp; (try with_reducible rfl); done)) | refine tn (i := 14) hHeld ?_
      try simp only [Act.put, List.setIfInBounds_toArray, List.set_cons_zero, List.set_cons_succ]
      first | (refine tw (i := 15) (v := ?_) ?_ hHeld ?_; rotate_left; focus (intro w hSw; (try dsimp only at hSw); (try simp only [Cel] at hSw); go_simp; (try with_reducible rfl); done)) | refine tn (i := 15) hHeld ?_
      try simp only [Act.put, List.setIfInBounds_toArray, List.set_cons_zero, List.set_cons_succ]
      first | (refine tw (i := 16) (v := ?_) ?_ hHeld ?_; rotate_left; focus (intro w hSw; (try dsimp only at hSw); (try simp only [Cel] at hSw); go_simp; (try with_reducible rfl); done)) | refine tn (i := 16) hHeld ?_
      try simp only [Act.put, List.setIfInBounds_toArray, List.set_cons_zero, List.set_cons_succ]
      first | (refine tw (i := 17) (v := ?_) ?_ hHeld ?_; rotate_left; focus (intro w hSw; (try dsimp only at hSw); (try simp only [Cel] at hSw); go_simp; (try with_reducible rfl); done)) | refine tn (i := 17) hHeld ?_
      try simp only [Act.put, List.setIfInBounds_toArray, List.set_cons_zero, List.set_cons_succ]
      first | (refine tw (i := 18) (v := ?_) ?_ hHeld ?_; rotate_left; focus (intro w hSw; (try dsimp only at hSw); (try simp only [Cel] at hSw); go_simp; (try with_reducible rfl); done)) | refine tn (i := 18) hHeld ?_
      try simp only [Act.put, List.setIfInBounds_toArray, List.set_cons_zero, List.set_cons_succ]
      first | (refine tw (i := 19) (v := ?_) ?_ hHeld ?_; rotate_left; focus (intro w hSw; (try dsimp only at hSw); (try simp only [Cel] at hSw); go_simp; (try with_reducible rfl); done)) | refine tn (i := 19) hHeld ?_
      try simp only [Act.put, List.setIfInBounds_toArray, List.set_cons_zero, List.set_cons_succ]
      first | (refine tw (i := 20) (v := ?_) ?_ hHeld ?_; rotate_left; focus (intro w hSw; (try dsimp only at hSw); (try simp only [Cel] at hSw); go_simp; (try with_reducible rfl); done)) | refine tn (i := 20) hHeld ?_
      try simp only [Act.put, List.setIfInBounds_toArray, List.set_cons_zero, List.set_cons_succ]
      first | (refine tw (i := 21) (v := ?_) ?_ hHeld ?_; rotate_left; focus (intro w hSw; (try dsimp only at hSw); (try simp only [Cel] at hSw); go_simp; (try with_reducible rfl); done)) | refine tn (i := 21) hHeld ?_
      try simp only [Act.put, List.setIfInBounds_toArray, List.set_cons_zero, List.set_cons_succ]
      first | (refine tw (i := 22) (v := ?_) ?_ hHeld ?_; rotate_left; focus (intro w hSw; (try dsimp only at hSw); (try simp only [Cel] at hSw); go_simp; (try with_reducible rfl); done)) | refine tn (i := 22) hHeld ?_
      try simp only [Act.put, List.setIfInBounds_toArray, List.set_cons_zero, List.set_cons_succ]
      first | (refine tw (i := 23) (v := ?_) ?_ hHeld ?_; rotate_left; focus (intro w hSw; (try dsimp only at hSw); (try simp only [Cel] at hSw); go_simp; (try with_reducible rfl); done)) | refine tn (i := 23) hHeld ?_
      try simp only [Act.put, List.setIfInBounds_toArray, List.set_cons_zero, List.set_cons_succ]
      first | (refine tw (i := 24) (v := ?_) ?_ hHeld ?_; rotate_left; focus (intro w hSw; (try dsimp only at hSw); (try simp only [Cel] at hSw); go_simp; (try with_reducible rfl); done)) | refine tn (i := 24) hHeld ?_
      try simp only [Act.put, List.setIfInBounds_toArray, List.set_cons_zero, List.set_cons_succ]
      first | (refine tw (i := 25) (v := ?_) ?_ hHeld ?_; rotate_left; focus (intro w hSw; (try dsimp only at hSw); (try simp only [Cel] at hSw); go_simp; (try with_reducible rfl); done)) | refine tn (i := 25) hHeld ?_
      try simp only [Act.put, List.setIfInBounds_toArray, List.set_cons_zero, List.set_cons_succ]
      first | (refine tw (i := 26) (v := ?_) ?_ hHeld ?_; rotate_left; focus (intro w hSw; (try dsimp only at hSw); (try simp only [Cel] at hSw); go_simp; (try with_reducible rfl); done)) | refine tn (i := 26) hHeld ?_
      try simp only [Act.put, List.setIfInBounds_toArray, List.set_cons_zero, List.set_cons_succ]
      first | (refine tw (i := 27) (v := ?_) ?_ hHeld ?_; rotate_left; focus (intro w hSw; (try dsimp only at hSw); (try simp only [Cel] at hSw); go_simp; (try with_reducible rfl); done)) | refine tn (i := 27) hHeld ?_
      try simp only [Act.put, List.setIfInBounds_toArray, List.set_cons_zero, List.set_cons_succ]
      first | (refine tw (i := 28) (v := ?_) ?_ hHeld ?_; rotate_left; focus (intro w hSw; (try dsimp only at hSw); (try simp only [Cel] at hSw); go_simp; (try with_reducible rfl); done)) | refine tn (i := 28) hHeld ?_
      try simp only [Act.put, List.setIfInBounds_toArray, List.set_cons_zero, List.set_cons_succ]
      first | (refine tw (i := 29) (v := ?_) ?_ hHeld ?_; rotate_left; focus (intro w hSw; (try dsimp only at hSw); (try simp only [Cel] at hSw); go_simp; (try with_reducible rfl); done)) | refine tn (i := 29) hHeld ?_
      try simp only [Act.put, List.setIfInBounds_toArray, List.set_cons_zero, List.set_cons_succ]
      first | (refine tw (i := 31) (v := ?_) ?_ hHeld ?_; rotate_left; focus (intro w hSw; (try dsimp only at hSw); (try simp only [Cel] at hSw); go_simp; (try with_reducible rfl); done)) | refine tn (i := 31) hHeld ?_
      try simp only [Act.put, List.setIfInBounds_toArray, List.set_cons_zero, List.set_cons_succ]
      refine call_next (i := 30) (by kernel_rfl) (by rfl) ?_
      intro o ho K hK
      simp only [List.getElem?_toArray, List.getElem?_cons_succ, List.getElem?_cons_zero, Option.some.injEq] at ho
      subst ho
      first | (fail; refine hK.out _ _ ?_ (fun hHeld => ?_)) | (go_simp; first | (with_reducible refine hK.out _ _ ?_ (fun hHeld => ?_)) | ((first | (go_at_call 11; (with_reducible refine (Q1.out _).mono ?_); rintro e' W9 ⟨rfl, hA⟩; replace HS : Hid ((fun w' => Cel w' w.heap.size ⟨k, a, b, d, ⟨p, q, e⟩, ⟨r, s, f⟩⟩ ∧ Cel w' (w.heap.size + 1) ⟨k2, a2, b2, d2, ⟨p2, q2, e2⟩, ⟨r2, s2, f2⟩⟩ ∧ Cel w' jB ⟨k, a, b, d, ⟨p, q, e⟩, ⟨r, s, f⟩⟩ ∧ Cel w' kB ⟨k, a, b, d, ⟨p, q, e⟩, ⟨r, s, f⟩⟩) W9) := ⟨HS.out.1.below hA, HS.out.2.1.below hA, HS.out.2.2.1.below hA, HS.out.2.2.2.below hA⟩; replace HB := Lib.hid (bt HB.out hA); clear hA) | (go_at_call 10; (with_reducible refine (Q2.out _).mono ?_); rintro e' W9 ⟨rfl, hA⟩; replace HS : Hid ((fun w' => Cel w' w.heap.size ⟨k, a, b, d, ⟨p, q, e⟩, ⟨r, s, f⟩⟩ ∧ Cel w' (w.heap.size + 1) ⟨k2, a2, b2, d2, ⟨p2, q2, e2⟩, ⟨r2, s2, f2⟩⟩ ∧ Cel w' jB ⟨k, a, b, d, ⟨p, q, e⟩, ⟨r, s, f⟩⟩ ∧ Cel w' kB ⟨k, a, b, d, ⟨p, q, e⟩, ⟨r, s, f⟩⟩) W9) := ⟨HS.out.1.below hA, HS.out.2.1.below hA, HS.out.2.2.1.below hA, HS.out.2.2.2.below hA⟩; replace HB := Lib.hid (bt HB.out hA); clear hA) | (go_at_call 10; (with_reducible refine (Q3.out _).mono ?_); rintro e' W9 ⟨rfl, hA⟩; replace HS : Hid ((fun w' => Cel w' w.heap.size ⟨k, a, b, d, ⟨p, q, e⟩, ⟨r, s, f⟩⟩ ∧ Cel w' (w.heap.size + 1) ⟨k2, a2, b2, d2, ⟨p2, q2, e2⟩, ⟨r2, s2, f2⟩⟩ ∧ Cel w' jB ⟨k, a, b, d, ⟨p, q, e⟩, ⟨r, s, f⟩⟩ ∧ Cel w' kB ⟨k, a, b, d, ⟨p, q, e⟩, ⟨r, s, f⟩⟩) W9) := ⟨HS.out.1.below hA, HS.out.2.1.below hA, HS.out.2.2.1.below hA, HS.out.2.2.2.below hA⟩; replace HB := Lib.hid (bt HB.out hA); clear hA) | (go_at_call 10; (with_reducible refine (Q4.out _).mono ?_); rintro e' W9 ⟨rfl, hA⟩; replace HS : Hid ((fun w' => Cel w' w.heap.size ⟨k, a, b, d, ⟨p, q, e⟩, ⟨r, s, f⟩⟩ ∧ Cel w' (w.heap.size + 1) ⟨k2, a2, b2, d2, ⟨p2, q2, e2⟩, ⟨r2, s2, f2⟩⟩ ∧ Cel w' jB ⟨k, a, b, d, ⟨p, q, e⟩, ⟨r, s, f⟩⟩ ∧ Cel w' kB ⟨k, a, b, d, ⟨p, q, e⟩, ⟨r, s, f⟩⟩) W9) := ⟨HS.out.1.below hA, HS.out.2.1.below hA, HS.out.2.2.1.below hA, HS.out.2.2.2.below hA⟩; replace HB := Lib.hid (bt HB.out hA); clear hA) | (go_at_call 12; (with_reducible refine (Q5.out _).mono ?_); rintro e' W9 ⟨rfl, hA⟩; replace HS : Hid ((fun w' => Cel w' w.heap.size ⟨k, a, b, d, ⟨p, q, e⟩, ⟨r, s, f⟩⟩ ∧ Cel w' (w.heap.size + 1) ⟨k2, a2, b2, d2, ⟨p2, q2, e2⟩, ⟨r2, s2, f2⟩⟩ ∧ Cel w' jB ⟨k, a, b, d, ⟨p, q, e⟩, ⟨r, s, f⟩⟩ ∧ Cel w' kB ⟨k, a, b, d, ⟨p, q, e⟩, ⟨r, s, f⟩⟩) W9) := ⟨HS.out.1.below hA, HS.out.2.1.below hA, HS.out.2.2.1.below hA, HS.out.2.2.2.below hA⟩; replace HB := Lib.hid (bt HB.out hA); clear hA)); refine hK.out _ _ ?_ (fun hHeld => ?_)))
      · first | with_reducible exact HS.out | exact ⟨HS.out.1.drew, HS.out.2.1.drew, HS.out.2.2.1.drew, HS.out.2.2.2.drew⟩
      clear hK K
      try simp only [Act.put, List.setIfInBounds_toArray, List.set_cons_zero, List.set_cons_succ]
      first | (refine tw (i := 32) (v := ?_) ?_ hHeld ?_; rotate_left; focus (intro w hSw; (try dsimp only at hSw); (try simp only [Cel] at hSw); go_simp; (try with_reducible rfl); done)) | refine tn (i := 32) hHeld ?_
      try simp only [Act.put, List.setIfInBounds_toArray, List.set_cons_zero, List.set_cons_succ]
      first | (refine tw (i := 33) (v := ?_) ?_ hHeld ?_; rotate_left; focus (intro w hSw; (try dsimp only at hSw); (try simp only [Cel] at hSw); go_simp; (try with_reducible rfl); done)) | refine tn (i := 33) hHeld ?_
      try simp only [Act.put, List.setIfInBounds_toArray, List.set_cons_zero, List.set_cons_succ]
      first | (refine tw (i := 34) (v := ?_) ?_ hHeld ?_; rotate_left; focus (intro w hSw; (try dsimp only at hSw); (try simp only [Cel] at hSw); go_simp; (try with_reducible rfl); done)) | refine tn (i := 34) hHeld ?_
      try simp only [Act.put, List.setIfInBounds_toArray, List.set_cons_zero, List.set_cons_succ]
      first | (refine tw (i := 35) (v := ?_) ?_ hHeld ?_; rotate_left; focus (intro w hSw; (try dsimp only at hSw); (try simp only [Cel] at hSw); go_simp; (try with_reducible rfl); done)) | refine tn (i := 35) hHeld ?_
      try simp only [Act.put, List.setIfInBounds_toArray, List.set_cons_zero, List.set_cons_succ]
      first | (refine tw (i := 36) (v := ?_) ?_ hHeld ?_; rotate_left; focus (intro w hSw; (try dsimp only at hSw); (try simp only [Cel] at hSw); go_simp; (try with_reducible rfl); done)) | refine tn (i := 36) hHeld ?_
      try simp only [Act.put, List.setIfInBounds_toArray, List.set_cons_zero, List.set_cons_succ]
      first | (refine tw (i := 38) (v := ?_) ?_ hHeld ?_; rotate_left; focus (intro w hSw; (try dsimp only at hSw); (try simp only [Cel] at hSw); go_simp; (try with_reducible rfl); done)) | refine tn (i := 38) hHeld ?_
      try simp only [Act.put, List.setIfInBounds_toArray, List.set_cons_zero, List.set_cons_succ]
      refine call_next (i := 37) (by kernel_rfl) (by rfl) ?_
      intro o ho K hK
      simp only [List.getElem?_toArray, List.getElem?_cons_succ, List.getElem?_cons_zero, Option.some.injEq] at ho
      subst ho
      first | (fail; refine hK.out _ _ ?_ (fun hHeld => ?_)) | (go_simp; first | (with_reducible refine hK.out _ _ ?_ (fun hHeld => ?_)) | ((first | (go_at_call 11; (with_reducible refine (Q1.out _).mono ?_); rintro e' W9 ⟨rfl, hA⟩; replace HS : Hid ((fun w' => Cel w' w.heap.size ⟨k, a, b, d, ⟨p, q, e⟩, ⟨r, s, f⟩⟩ ∧ Cel w' (w.heap.size + 1) ⟨k2, a2, b2, d2, ⟨p2, q2, e2⟩, ⟨r2, s2, f2⟩⟩ ∧ Cel w' jB ⟨k, a, b, d, ⟨p, q, e⟩, ⟨r, s, f⟩⟩ ∧ Cel w' kB ⟨k, a, b, d, ⟨p, q, e⟩, ⟨r, s, f⟩⟩) W9) := ⟨HS.out.1.below hA, HS.out.2.1.below hA, HS.out.2.2.1.below hA, HS.out.2.2.2.below hA⟩; replace HB := Lib.hid (bt HB.out hA); clear hA) | (go_at_call 10; (with_reducible refine (Q2.out _).mono ?_); rintro e' W9 ⟨rfl, hA⟩; replace HS : Hid ((fun w' => Cel w' w.heap.size ⟨k, a, b, d, ⟨p, q, e⟩, ⟨r, s, f⟩⟩ ∧ Cel w' (w.heap.size + 1) ⟨k2, a2, b2, d2, ⟨p2, q2, e2⟩, ⟨r2, s2, f2⟩⟩ ∧ Cel w' jB ⟨k, a, b, d, ⟨p, q, e⟩, ⟨r, s, f⟩⟩ ∧ Cel w' kB ⟨k, a, b, d, ⟨p, q, e⟩, ⟨r, s, f⟩⟩) W9) := ⟨HS.out.1.below hA, HS.out.2.1.below hA, HS.out.2.2.1.below hA, HS.out.2.2.2.below hA⟩; replace HB := Lib.hid (bt HB.out hA); clear hA) | (go_at_call 10; (with_reducible refine (Q3.out _).mono ?_); rintro e' W9 ⟨rfl, hA⟩; replace HS : Hid ((fun w' => Cel w' w.heap.size ⟨k, a, b, d, ⟨p, q, e⟩, ⟨r, s, f⟩⟩ ∧ Cel w' (w.heap.size + 1) ⟨k2, a2, b2, d2, ⟨p2, q2, e2⟩, ⟨r2, s2, f2⟩⟩ ∧ Cel w' jB ⟨k, a, b, d, ⟨p, q, e⟩, ⟨r, s, f⟩⟩ ∧ Cel w' kB ⟨k, a, b, d, ⟨p, q, e⟩, ⟨r, s, f⟩⟩) W9) := ⟨HS.out.1.below hA, HS.out.2.1.below hA, HS.out.2.2.1.below hA, HS.out.2.2.2.below hA⟩; replace HB := Lib.hid (bt HB.out hA); clear hA) | (go_at_call 10; (with_reducible refine (Q4.out _).mono ?_); rintro e' W9 ⟨rfl, hA⟩; replace HS : Hid ((fun w' => Cel w' w.heap.size ⟨k, a, b, d, ⟨p, q, e⟩, ⟨r, s, f⟩⟩ ∧ Cel w' (w.heap.size + 1) ⟨k2, a2, b2, d2, ⟨p2, q2, e2⟩, ⟨r2, s2, f2⟩⟩ ∧ Cel w' jB ⟨k, a, b, d, ⟨p, q, e⟩, ⟨r, s, f⟩⟩ ∧ Cel w' kB ⟨k, a, b, d, ⟨p, q, e⟩, ⟨r, s, f⟩⟩) W9) := ⟨HS.out.1.below hA, HS.out.2.1.below hA, HS.out.2.2.1.below hA, HS.out.2.2.2.below hA⟩; replace HB := Lib.hid (bt HB.out hA); clear hA) | (go_at_call 12; (with_reducible refine (Q5.out _).mono ?_); rintro e' W9 ⟨rfl, hA⟩; replace HS : Hid ((fun w' => Cel w' w.heap.size ⟨k, a, b, d, ⟨p, q, e⟩, ⟨r, s, f⟩⟩ ∧ Cel w' (w.heap.size + 1) ⟨k2, a2, b2, d2, ⟨p2, q2, e2⟩, ⟨r2, s2, f2⟩⟩ ∧ Cel w' jB ⟨k, a, b, d, ⟨p, q, e⟩, ⟨r, s, f⟩⟩ ∧ Cel w' kB ⟨k, a, b, d, ⟨p, q, e⟩, ⟨r, s, f⟩⟩) W9) := ⟨HS.out.1.below hA, HS.out.2.1.below hA, HS.out.2.2.1.below hA, HS.out.2.2.2.below hA⟩; replace HB := Lib.hid (bt HB.out hA); clear hA)); refine hK.out _ _ ?_ (fun hHeld => ?_)))
      · first | with_reducible exact HS.out | exact ⟨HS.out.1.drew, HS.out.2.1.drew, HS.out.2.2.1.drew, HS.out.2.2.2.drew⟩
      clear hK K
      try simp only [Act.put, List.setIfInBounds_toArray, List.set_cons_zero, List.set_cons_succ]
      first | (refine tw (i := 39) (v := ?_) ?_ hHeld ?_; rotate_left; focus (intro w hSw; (try dsimp only at hSw); (try simp only [Cel] at hSw); go_simp; (try with_reducible rfl); done)) | refine tn (i := 39) hHeld ?_
      try simp only [Act.put, List.setIfInBounds_toArray, List.set_cons_zero, List.set_cons_succ]
      first | (refine tw (i := 40) (v := ?_) ?_ hHeld ?_; rotate_left; focus (intro w hSw; (try dsimp only at hSw); (try simp only [Cel] at hSw); go_simp; (try with_reducible rfl); done)) | refine tn (i := 40) hHeld ?_
      try simp only [Act.put, List.setIfInBounds_toArray, List.set_cons_zero, List.set_cons_succ]
      first | (refine tw (i := 41) (v := ?_) ?_ hHeld ?_; rotate_left; focus (intro w hSw; (try dsimp only at hSw); (try simp only [Cel] at hSw); go_simp; (try with_reducible rfl); done)) | refine tn (i := 41) hHeld ?_
      try simp only [Act.put, List.setIfInBounds_toArray, List.set_cons_zero, List.set_cons_succ]
      first | (refine tw (i := 42) (v := ?_) ?_ hHeld ?_; rotate_left; focus (intro w hSw; (try dsimp only at hSw); (try simp only [Cel] at hSw); go_simp; (try with_reducible rfl); done)) | refine tn (i := 42) hHeld ?_
      try simp only [Act.put, List.setIfInBounds_toArray, List.set_cons_zero, List.set_cons_succ]
      first | (refine tw (i := 43) (v := ?_) ?_ hHeld ?_; rotate_left; focus (intro w hSw; (try dsimp only at hSw); (try simp only [Cel] at hSw); go_simp; (try with_reducible rfl); done)) | refine tn (i := 43) hHeld ?_
      try simp only [Act.put, List.setIfInBounds_toArray, List.set_cons_zero, List.set_cons_succ]
      first | (refine tw (i := 44) (v := ?_) ?_ hHeld ?_; rotate_left; focus (intro w hSw; (try dsimp only at hSw); (try simp only [Cel] at hSw); go_simp; (try with_reducible rfl); done)) | refine tn (i := 44) hHeld ?_
      try simp only [Act.put, List.setIfInBounds_toArray, List.set_cons_zero, List.set_cons_succ]
      first | (refine tw (i := 45) (v := ?_) ?_ hHeld ?_; rotate_left; focus (intro w hSw; (try dsimp only at hSw); (try simp only [Cel] at hSw); go_simp; (try with_reducible rfl); done)) | refine tn (i := 45) hHeld ?_
      try simp only [Act.put, List.setIfInBounds_toArray, List.set_cons_zero, List.set_cons_succ]
      first | (refine tw (i := 46) (v := ?_) ?_ hHeld ?_; rotate_left; focus (intro w hSw; (try dsimp only at hSw); (try simp only [Cel] at hSw); go_simp; (try with_reducible rfl); done)) | refine tn (i := 46) hHeld ?_
      try simp only [Act.put, List.setIfInBounds_toArray, List.set_cons_zero, List.set_cons_succ]
      first | (refine tw (i := 47) (v := ?_) ?_ hHeld ?_; rotate_left; focus (intro w hSw; (try dsimp only at hSw); (try simp only [Cel] at hSw); go_simp; (try with_reducible rfl); done)) | refine tn (i := 47) hHeld ?_
      try simp only [Act.put, List.setIfInBounds_toArray, List.set_cons_zero, List.set_cons_succ]
      first | (refine tw (i := 48) (v := ?_) ?_ hHeld ?_; rotate_left; focus (intro w hSw; (try dsimp only at hSw); (try simp only [Cel] at hSw); go_simp; (try with_reducible rfl); done)) | refine tn (i := 48) hHeld ?_
      try simp only [Act.put, List.setIfInBounds_toArray, List.set_cons_zero, List.set_cons_succ]
      first | (refine tw (i := 49) (v := ?_) ?_ hHeld ?_; rotate_left; focus (intro w hSw; (try dsimp only at hSw); (try simp only [Cel] at hSw); go_simp; (try with_reducible rfl); done)) | refine tn (i := 49) hHeld ?_
      try simp only [Act.put, List.setIfInBounds_toArray, List.set_cons_zero, List.set_cons_succ]
      first | (refine tw (i := 50) (v := ?_) ?_ hHeld ?_; rotate_left; focus (intro w hSw; (try dsimp only at hSw); (try simp only [Cel] at hSw); go_simp; (try with_reducible rfl); done)) | refine tn (i := 50) hHeld ?_
      try simp only [Act.put, List.setIfInBounds_toArray, List.set_cons_zero, List.set_cons_succ]
      first | (refine tw (i := 52) (v := ?_) ?_ hHeld ?_; rotate_left; focus (intro w hSw; (try dsimp only at hSw); (try simp only [Cel] at hSw); go_simp; (try with_reducible rfl); done)) | refine tn (i := 52) hHeld ?_
      try simp only [Act.put, List.setIfInBounds_toArray, List.set_cons_zero, List.set_cons_succ]
      refine call_next (i := 51) (by kernel_rfl) (by rfl) ?_
      intro o ho K hK
      simp only [List.getElem?_toArray, List.getElem?_cons_succ, List.getElem?_cons_zero, Option.some.injEq] at ho
      subst ho
      first | (fail; refine hK.out _ _ ?_ (fun hHeld => ?_)) | (go_simp; first | (with_reducible refine hK.out _ _ ?_ (fun hHeld => ?_)) | ((first | (go_at_call 11; (with_reducible refine (Q1.out _).mono ?_); rintro e' W9 ⟨rfl, hA⟩; replace HS : Hid ((fun w' => Cel w' w.heap.size ⟨k, a, b, d, ⟨p, q, e⟩, ⟨r, s, f⟩⟩ ∧ Cel w' (w.heap.size + 1) ⟨k2, a2, b2, d2, ⟨p2, q2, e2⟩, ⟨r2, s2, f2⟩⟩ ∧ Cel w' jB ⟨k, a, b, d, ⟨p, q, e⟩, ⟨r, s, f⟩⟩ ∧ Cel w' kB ⟨k, a, b, d, ⟨p, q, e⟩, ⟨r, s, f⟩⟩) W9) := ⟨HS.out.1.below hA, HS.out.2.1.below hA, HS.out.2.2.1.below hA, HS.out.2.2.2.below hA⟩; replace HB := Lib.hid (bt HB.out hA); clear hA) | (go_at_call 10; (with_reducible refine (Q2.out _).mono ?_); rintro e' W9 ⟨rfl, hA⟩; replace HS : Hid ((fun w' => Cel w' w.heap.size ⟨k, a, b, d, ⟨p, q, e⟩, ⟨r, s, f⟩⟩ ∧ Cel w' (w.heap.size + 1) ⟨k2, a2, b2, d2, ⟨p2, q2, e2⟩, ⟨r2, s2, f2⟩⟩ ∧ Cel w' jB ⟨k, a, b, d, ⟨p, q, e⟩, ⟨r, s, f⟩⟩ ∧ Cel w' kB ⟨k, a, b, d, ⟨p, q, e⟩, ⟨r, s, f⟩⟩) W9) := ⟨HS.out.1.below hA, HS.out.2.1.below hA, HS.out.2.2.1.below hA, HS.out.2.2.2.below hA⟩; replace HB := Lib.hid (bt HB.out hA); clear hA) | (go_at_call 10; (with_reducible refine (Q3.out _).mono ?_); rintro e' W9 ⟨rfl, hA⟩; replace HS : Hid ((fun w' => Cel w' w.heap.size ⟨k, a, b, d, ⟨p, q, e⟩, ⟨r, s, f⟩⟩ ∧ Cel w' (w.heap.size + 1) ⟨k2, a2, b2, d2, ⟨p2, q2, e2⟩, ⟨r2, s2, f2⟩⟩ ∧ Cel w' jB ⟨k, a, b, d, ⟨p, q, e⟩, ⟨r, s, f⟩⟩ ∧ Cel w' kB ⟨k, a, b, d, ⟨p, q, e⟩, ⟨r, s, f⟩⟩) W9) := ⟨HS.out.1.below hA, HS.out.2.1.below hA, HS.out.2.2.1.below hA, HS.out.2.2.2.below hA⟩; replace HB := Lib.hid (bt HB.out hA); clear hA) | (go_at_call 10; (with_reducible refine (Q4.out _).mono ?_); rintro e' W9 ⟨rfl, hA⟩; replace HS : Hid ((fun w' => Cel w' w.heap.size ⟨k, a, b, d, ⟨p, q, e⟩, ⟨r, s, f⟩⟩ ∧ Cel w' (w.heap.size + 1) ⟨k2, a2, b2, d2, ⟨p2, q2, e2⟩, ⟨r2, s2, f2⟩⟩ ∧ Cel w' jB ⟨k, a, b, d, ⟨p, q, e⟩, ⟨r, s, f⟩⟩ ∧ Cel w' kB ⟨k, a, b, d, ⟨p, q, e⟩, ⟨r, s, f⟩⟩) W9) := ⟨HS.out.1.below hA, HS.out.2.1.below hA, HS.out.2.2.1.below hA, HS.out.2.2.2.below hA⟩; replace HB := Lib.hid (bt HB.out hA); clear hA) | (go_at_call 12; (with_reducible refine (Q5.out _).mono ?_); rintro e' W9 ⟨rfl, hA⟩; replace HS : Hid ((fun w' => Cel w' w.heap.size ⟨k, a, b, d, ⟨p, q, e⟩, ⟨r, s, f⟩⟩ ∧ Cel w' (w.heap.size + 1) ⟨k2, a2, b2, d2, ⟨p2, q2, e2⟩, ⟨r2, s2, f2⟩⟩ ∧ Cel w' jB ⟨k, a, b, d, ⟨p, q, e⟩, ⟨r, s, f⟩⟩ ∧ Cel w' kB ⟨k, a, b, d, ⟨p, q, e⟩, ⟨r, s, f⟩⟩) W9) := ⟨HS.out.1.below hA, HS.out.2.1.below hA, HS.out.2.2.1.below hA, HS.out.2.2.2.below hA⟩; replace HB := Lib.hid (bt HB.out hA); clear hA)); refine hK.out _ _ ?_ (fun hHeld => ?_)))
      · first | with_reducible exact HS.out | exact ⟨HS.out.1.drew, HS.out.2.1.drew, HS.out.2.2.1.drew, HS.out.2.2.2.drew⟩
      clear hK K
      try simp only [Act.put, List.setIfInBounds_toArray, List.set_cons_zero, List.set_cons_succ]
      first | (refine tw (i := 53) (v := ?_) ?_ hHeld ?_; rotate_left; focus (intro w hSw; (try dsimp only at hSw); (try simp only [Cel] at hSw); go_simp; (try with_reducible rfl); done)) | refine tn (i := 53) hHeld ?_
      try simp only [Act.put, List.setIfInBounds_toArray, List.set_cons_zero, List.set_cons_succ]
      first | (refine tw (i := 54) (v := ?_) ?_ hHeld ?_; rotate_left; focus (intro w hSw; (try dsimp only at hSw); (try simp only [Cel] at hSw); go_simp; (try with_reducible rfl); done)) | refine tn (i := 54) hHeld ?_
      try simp only [Act.put, List.setIfInBounds_toArray, List.set_cons_zero, List.set_cons_succ]
      first | (refine tw (i := 55) (v := ?_) ?_ hHeld ?_; rotate_left; focus (intro w hSw; (try dsimp only at hSw); (try simp only [Cel] at hSw); go_simp; (try with_reducible rfl); done)) | refine tn (i := 55) hHeld ?_
      try simp only [Act.put, List.setIfInBounds_toArray, List.set_cons_zero, List.set_cons_succ]
      first | (refine tw (i := 56) (v := ?_) ?_ hHeld ?_; rotate_left; focus (intro w hSw; (try dsimp only at hSw); (try simp only [Cel] at hSw); go_simp; (try with_reducible rfl); done)) | refine tn (i := 56) hHeld ?_
      try simp only [Act.put, List.setIfInBounds_toArray, List.set_cons_zero, List.set_cons_succ]
      first | (refine tw (i := 57) (v := ?_) ?_ hHeld ?_; rotate_left; focus (intro w hSw; (try dsimp only at hSw); (try simp only [Cel] at hSw); go_simp; (try with_reducible rfl); done)) | refine tn (i := 57) hHeld ?_
      try simp only [Act.put, List.setIfInBounds_toArray, List.set_cons_zero, List.set_cons_succ]
      first | (refine tw (i := 58) (v := ?_) ?_ hHeld ?_; rotate_left; focus (intro w hSw; (try dsimp only at hSw); (try simp only [Cel] at hSw); go_simp; (try with_reducible rfl); done)) | refine tn (i := 58) hHeld ?_
      try simp only [Act.put, List.setIfInBounds_toArray, List.set_cons_zero, List.set_cons_succ]
      first | (refine tw (i := 59) (v := ?_) ?_ hHeld ?_; rotate_left; focus (intro w hSw; (try dsimp only at hSw); (try simp only [Cel] at hSw); go_simp; (try with_reducible rfl); done)) | refine tn (i := 59) hHeld ?_
      try simp only [Act.put, List.setIfInBounds_toArray, List.set_cons_zero, List.set_cons_succ]
      first | (refine tw (i := 60) (v := ?_) ?_ hHeld ?_; rotate_left; focus (intro w hSw; (try dsimp only at hSw); (try simp only [Cel] at hSw); go_simp; (try with_reducible rfl); done)) | refine tn (i := 60) hHeld ?_
      try simp only [Act.put, List.setIfInBounds_toArray, List.set_cons_zero, List.set_cons_succ]
      first | (refine tw (i := 61) (v := ?_) ?_ hHeld ?_; rotate_left; focus (intro w hSw; (try dsimp only at hSw); (try simp only [Cel] at hSw); go_simp; (try with_reducible rfl); done)) | refine tn (i := 61) hHeld ?_
      try simp only [Act.put, List.setIfInBounds_toArray, List.set_cons_zero, List.set_cons_succ]
      refine call_next (i := 62) (by kernel_rfl) (by rfl) ?_
      intro o ho K hK
      simp only [List.getElem?_toArray, List.getElem?_cons_succ, List.getElem?_cons_zero, Option.some.injEq] at ho
      subst ho
      first | (fail; refine hK.out _ _ ?_ (fun hHeld => ?_)) | (go_simp; first | (with_reducible refine hK.out _ _ ?_ (fun hHeld => ?_)) | ((first | (go_at_call 11; (with_reducible refine (Q1.out _).mono ?_); rintro e' W9 ⟨rfl, hA⟩; replace HS : Hid ((fun w' => Cel w' w.heap.size ⟨k, a, b, d, ⟨p, q, e⟩, ⟨r, s, f⟩⟩ ∧ Cel w' (w.heap.size + 1) ⟨k2, a2, b2, d2, ⟨p2, q2, e2⟩, ⟨r2, s2, f2⟩⟩ ∧ Cel w' jB ⟨k, a, b, d, ⟨p, q, e⟩, ⟨r, s, f⟩⟩ ∧ Cel w' kB ⟨k, a, b, d, ⟨p, q, e⟩, ⟨r, s, f⟩⟩) W9) := ⟨HS.out.1.below hA, HS.out.2.1.below hA, HS.out.2.2.1.below hA, HS.out.2.2.2.below hA⟩; replace HB := Lib.hid (bt HB.out hA); clear hA) | (go_at_call 10; (with_reducible refine (Q2.out _).mono ?_); rintro e' W9 ⟨rfl, hA⟩; replace HS : Hid ((fun w' => Cel w' w.heap.size ⟨k, a, b, d, ⟨p, q, e⟩, ⟨r, s, f⟩⟩ ∧ Cel w' (w.heap.size + 1) ⟨k2, a2, b2, d2, ⟨p2, q2, e2⟩, ⟨r2, s2, f2⟩⟩ ∧ Cel w' jB ⟨k, a, b, d, ⟨p, q, e⟩, ⟨r, s, f⟩⟩ ∧ Cel w' kB ⟨k, a, b, d, ⟨p, q, e⟩, ⟨r, s, f⟩⟩) W9) := ⟨HS.out.1.below hA, HS.out.2.1.below hA, HS.out.2.2.1.below hA, HS.out.2.2.2.below hA⟩; replace HB := Lib.hid (bt HB.out hA); clear hA) | (go_at_call 10; (with_reducible refine (Q3.out _).mono ?_); rintro e' W9 ⟨rfl, hA⟩; replace HS : Hid ((fun w' => Cel w' w.heap.size ⟨k, a, b, d, ⟨p, q, e⟩, ⟨r, s, f⟩⟩ ∧ Cel w' (w.heap.size + 1) ⟨k2, a2, b2, d2, ⟨p2, q2, e2⟩, ⟨r2, s2, f2⟩⟩ ∧ Cel w' jB ⟨k, a, b, d, ⟨p, q, e⟩, ⟨r, s, f⟩⟩ ∧ Cel w' kB ⟨k, a, b, d, ⟨p, q, e⟩, ⟨r, s, f⟩⟩) W9) := ⟨HS.out.1.below hA, HS.out.2.1.below hA, HS.out.2.2.1.below hA, HS.out.2.2.2.below hA⟩; replace HB := Lib.hid (bt HB.out hA); clear hA) | (go_at_call 10; (with_reducible refine (Q4.out _).mono ?_); rintro e' W9 ⟨rfl, hA⟩; replace HS : Hid ((fun w' => Cel w' w.heap.size ⟨k, a, b, d, ⟨p, q, e⟩, ⟨r, s, f⟩⟩ ∧ Cel w' (w.heap.size + 1) ⟨k2, a2, b2, d2, ⟨p2, q2, e2⟩, ⟨r2, s2, f2⟩⟩ ∧ Cel w' jB ⟨k, a, b, d, ⟨p, q, e⟩, ⟨r, s, f⟩⟩ ∧ Cel w' kB ⟨k, a, b, d, ⟨p, q, e⟩, ⟨r, s, f⟩⟩) W9) := ⟨HS.out.1.below hA, HS.out.2.1.below hA, HS.out.2.2.1.below hA, HS.out.2.2.2.below hA⟩; replace HB := Lib.hid (bt HB.out hA); clear hA) | (go_at_call 12; (with_reducible refine (Q5.out _).mono ?_); rintro e' W9 ⟨rfl, hA⟩; replace HS : Hid ((fun w' => Cel w' w.heap.size ⟨k, a, b, d, ⟨p, q, e⟩, ⟨r, s, f⟩⟩ ∧ Cel w' (w.heap.size + 1) ⟨k2, a2, b2, d2, ⟨p2, q2, e2⟩, ⟨r2, s2, f2⟩⟩ ∧ Cel w' jB ⟨k, a, b, d, ⟨p, q, e⟩, ⟨r, s, f⟩⟩ ∧ Cel w' kB ⟨k, a, b, d, ⟨p, q, e⟩, ⟨r, s, f⟩⟩) W9) := ⟨HS.out.1.below hA, HS.out.2.1.below hA, HS.out.2.2.1.below hA, HS.out.2.2.2.below hA⟩; replace HB := Lib.hid (bt HB.out hA); clear hA)); refine hK.out _ _ ?_ (fun hHeld => ?_)))
      · first | with_reducible exact HS.out | exact ⟨HS.out.1.drew, HS.out.2.1.drew, HS.out.2.2.1.drew, HS.out.2.2.2.drew⟩
      clear hK K
      try simp only [Act.put, List.setIfInBounds_toArray, List.set_cons_zero, List.set_cons_succ]
      first | (refine tw (i := 63) (v := ?_) ?_ hHeld ?_; rotate_left; focus (intro w hSw; (try dsimp only at hSw); (try simp only [Cel] at hSw); go_simp; (try with_reducible rfl); done)) | refine tn (i := 63) hHeld ?_
      try simp only [Act.put, List.setIfInBounds_toArray, List.set_cons_zero, List.set_cons_succ]
      first | (refine tw (i := 64) (v := ?_) ?_ hHeld ?_; rotate_left; focus (intro w hSw; (try dsimp only at hSw); (try simp only [Cel] at hSw); go_simp; (try with_reducible rfl); done)) | refine tn (i := 64) hHeld ?_
      try simp only [Act.put, List.setIfInBounds_toArray, List.set_cons_zero, List.set_cons_succ]
      refine wpAnyH_done (by kernel_rfl) ?_ _
      obtain ⟨c0, c1, c2, c3, c4, c5, c6, c7, c8, c9⟩ := id HS.out.1
      obtain ⟨u0, u1, u2, u3, u4, u5, u6, u7, u8, u9⟩ := id HS.out.2.1
      go_wp2_with fail
      refine (Q6.out _).mono ?_
      rintro e' W10 ⟨rfl, hA⟩
      replace HS : Hid ((fun w' => Cel w' w.heap.size ⟨k, a, b, d, ⟨p, q, e⟩, ⟨r, s, f⟩⟩ ∧ Cel w' (w.heap.size + 1) ⟨k2, a2, b2, d2, ⟨p2, q2, e2⟩, ⟨r2, s2, f2⟩⟩ ∧ Cel w' jB ⟨k, a, b, d, ⟨p, q, e⟩, ⟨r, s, f⟩⟩ ∧ Cel w' kB ⟨k, a, b, d, ⟨p, q, e⟩, ⟨r, s, f⟩⟩) W10) := ⟨HS.out.1.below hA, HS.out.2.1.below hA, HS.out.2.2.1.below hA, HS.out.2.2.2.below hA⟩
      replace HB := Lib.hid (bt HB.out hA)
      clear hA
      clear c0 c1 c2 c3 c4 c5 c6 c7 c8 c9 u0 u1 u2 u3 u4 u5 u6 u7 u8 u9
      obtain ⟨c0, c1, c2, c3, c4, c5, c6, c7, c8, c9⟩ := id HS.out.1
      obtain ⟨u0, u1, u2, u3, u4, u5, u6, u7, u8, u9⟩ := id HS.out.2.1
      obtain ⟨A0, A1, A2, A3, A4, A5, A6, A7, A8, A9⟩ := id HS.out.2.2.1
      go_wp2
      go_ret
      exact ⟨rfl, HB.out⟩
    · have hz := E1.symm.trans hJ1
      simp only [St.mk.injEq, Ve.mk.injEq] at hz
      obtain ⟨rfl, rfl, rfl, rfl, ⟨rfl, rfl, rfl⟩, rfl, rfl, rfl⟩ := hz
      have hz := E2.symm.trans hJ2
      simp only [St.mk.injEq, Ve.mk.injEq] at hz
      obtain ⟨rfl, rfl, rfl, rfl, ⟨rfl, rfl, rfl⟩, rfl, rfl, rfl⟩ := hz
      (try simp only at hv h3 m1 m2)
      have Q1 := Lib.hid (fun w => chk_at HY.out w)
      have Q2 := Lib.hid (fun w => join_at E2 w)
      have Q3 := Lib.hid (fun w => join_at E1 w)
      have Q4 := Lib.hid (fun w => join_at E3 w)
      have Q5 := Lib.hid (fun w => rvj_at m1 m2 w)
      have Q6 := Lib.hid (fun w => rcmp_at h3 w)
      have v1 := fun W => vne_at (a := a) (b := b) (c := a2) (d := b2) (x := false) (vdec hv) W
      have v2 := fun W => veq_at (a := a) (b := b) (c := a2) (d := b2) (x := false) (vdec hv) W
      have v3 := fun W => vne_at (a := a2) (b := b2) (c := a2) (d := b2) (x := true) (by simp) W
      have eqn1 := fun W => sne_same k2 a2 b2 d2 p2 q2 e2 r2 s2 f2 W
      have eqn2 := fun W => seq_same k2 a2 b2 d2 p2 q2 e2 r2 s2 f2 W
      have eqn3 := fun W => seq_ne (k := k) (d := d) (p := p) (q := q) (e := e) (r := r) (s := s) (f := f) (k2 := k2) (d2 := d2) (p2 := p2) (q2 := q2) (e2 := e2) (r2 := r2) (s2 := s2) (f2 := f2) hv W
      clear hJ1 hJ2 E1 E2 E3 h3 m1 m2 hv HW HX HY
      go_wp2_with fail
      have HS : Hid ((fun w' => Cel w' w.heap.size ⟨k, a, b, d, ⟨p, q, e⟩, ⟨r, s, f⟩⟩ ∧ Cel w' (w.heap.size + 1) ⟨k2, a2, b2, d2, ⟨p2, q2, e2⟩, ⟨r2, s2, f2⟩⟩ ∧ Cel w' jB ⟨k2, a2, b2, d2, ⟨p2, q2, e2⟩, ⟨r2, s2, f2⟩⟩ ∧ Cel w' kB ⟨k2, a2, b2, d2, ⟨p2, q2, e2⟩, ⟨r2, s2, f2⟩⟩) wc.drew) := ⟨HS.out.1.drew, HS.out.2.1.drew, HS.out.2.2.1.drew, HS.out.2.2.2.drew⟩
      replace HB := Lib.hid HB.out.drew
      refine wp_region_held_drew (S := (fun w' => Cel w' w.heap.size ⟨k, a, b, d, ⟨p, q, e⟩, ⟨r, s, f⟩⟩ ∧ Cel w' (w.heap.size + 1) ⟨k2, a2, b2, d2, ⟨p2, q2, e2⟩, ⟨r2, s2, f2⟩⟩ ∧ Cel w' jB ⟨k2, a2, b2, d2, ⟨p2, q2, e2⟩, ⟨r2, s2, f2⟩⟩ ∧ Cel w' kB ⟨k2, a2, b2, d2, ⟨p2, q2, e2⟩, ⟨r2, s2, f2⟩⟩)) (by kernel_rfl) ?_ (fun hHeld => ?_)
      · first | with_reducible exact HS.out | exact ⟨HS.out.1.drew, HS.out.2.1.drew, HS.out.2.2.1.drew, HS.out.2.2.2.drew⟩
      first | (refine tw (i := 0) (v := ?_) ?_ hHeld ?_; rotate_left; focus (intro w hSw; (try dsimp only at hSw); (try simp only [Cel] at hSw); go_simp; (try with_reducible rfl); done)) | refine tn (i := 0) hHeld ?_
      try simp only [Act.put, List.setIfInBounds_toArray, List.set_cons_zero, List.set_cons_succ]
      refine call_next (i := 1) (by kernel_rfl) (by rfl) ?_
      intro o ho K hK
      simp only [List.getElem?_toArray, List.getElem?_cons_succ, List.getElem?_cons_zero, Option.some.injEq] at ho
      subst ho
      first | (fail; refine hK.out _ _ ?_ (fun hHeld => ?_)) | (go_simp; first | (with_reducible refine hK.out _ _ ?_ (fun hHeld => ?_)) | ((first | (go_at_call 11; (with_reducible refine (Q1.out _).mono ?_); rintro e' W9 ⟨rfl, hA⟩; replace HS : Hid ((fun w' => Cel w' w.heap.size ⟨k, a, b, d, ⟨p, q, e⟩, ⟨r, s, f⟩⟩ ∧ Cel w' (w.heap.size + 1) ⟨k2, a2, b2, d2, ⟨p2, q2, e2⟩, ⟨r2, s2, f2⟩⟩ ∧ Cel w' jB ⟨k2, a2, b2, d2, ⟨p2, q2, e2⟩, ⟨r2, s2, f2⟩⟩ ∧ Cel w' kB ⟨k2, a2, b2, d2, ⟨p2, q2, e2⟩, ⟨r2, s2, f2⟩⟩) W9) := ⟨HS.out.1.below hA, HS.out.2.1.below hA, HS.out.2.2.1.below hA, HS.out.2.2.2.below hA⟩; replace HB := Lib.hid (bt HB.out hA); clear hA) | (go_at_call 10; (with_reducible refine (Q2.out _).mono ?_); rintro e' W9 ⟨rfl, hA⟩; replace HS : Hid ((fun w' => Cel w' w.heap.size ⟨k, a, b, d, ⟨p, q, e⟩, ⟨r, s, f⟩⟩ ∧ Cel w' (w.heap.size + 1) ⟨k2, a2, b2, d2, ⟨p2, q2, e2⟩, ⟨r2, s2, f2⟩⟩ ∧ Cel w' jB ⟨k2, a2, b2, d2, ⟨p2, q2, e2⟩, ⟨r2, s2, f2⟩⟩ ∧ Cel w' kB ⟨k2, a2, b2, d2, ⟨p2, q2, e2⟩, ⟨r2, s2, f2⟩⟩) W9) := ⟨HS.out.1.below hA, HS.out.2.1.below hA, HS.out.2.2.1.below hA, HS.out.2.2.2.below hA⟩; replace HB := Lib.hid (bt HB.out hA); clear hA) | (go_at_call 10; (with_reducible refine (Q3.out _).mono ?_); rintro e' W9 ⟨rfl, hA⟩; replace HS : Hid ((fun w' => Cel w' w.heap.size ⟨k, a, b, d, ⟨p, q, e⟩, ⟨r, s, f⟩⟩ ∧ Cel w' (w.heap.size + 1) ⟨k2, a2, b2, d2, ⟨p2, q2, e2⟩, ⟨r2, s2, f2⟩⟩ ∧ Cel w' jB ⟨k2, a2, b2, d2, ⟨p2, q2, e2⟩, ⟨r2, s2, f2⟩⟩ ∧ Cel w' kB ⟨k2, a2, b2, d2, ⟨p2, q2, e2⟩, ⟨r2, s2, f2⟩⟩) W9) := ⟨HS.out.1.below hA, HS.out.2.1.below hA, HS.out.2.2.1.below hA, HS.out.2.2.2.below hA⟩; replace HB := Lib.hid (bt HB.out hA); clear hA) | (go_at_call 10; (with_reducible refine (Q4.out _).mono ?_); rintro e' W9 ⟨rfl, hA⟩; replace HS : Hid ((fun w' => Cel w' w.heap.size ⟨k, a, b, d, ⟨p, q, e⟩, ⟨r, s, f⟩⟩ ∧ Cel w' (w.heap.size + 1) ⟨k2, a2, b2, d2, ⟨p2, q2, e2⟩, ⟨r2, s2, f2⟩⟩ ∧ Cel w' jB ⟨k2, a2, b2, d2, ⟨p2, q2, e2⟩, ⟨r2, s2, f2⟩⟩ ∧ Cel w' kB ⟨k2, a2, b2, d2, ⟨p2, q2, e2⟩, ⟨r2, s2, f2⟩⟩) W9) := ⟨HS.out.1.below hA, HS.out.2.1.below hA, HS.out.2.2.1.below hA, HS.out.2.2.2.below hA⟩; replace HB := Lib.hid (bt HB.out hA); clear hA) | (go_at_call 12; (with_reducible refine (Q5.out _).mono ?_); rintro e' W9 ⟨rfl, hA⟩; replace HS : Hid ((fun w' => Cel w' w.heap.size ⟨k, a, b, d, ⟨p, q, e⟩, ⟨r, s, f⟩⟩ ∧ Cel w' (w.heap.size + 1) ⟨k2, a2, b2, d2, ⟨p2, q2, e2⟩, ⟨r2, s2, f2⟩⟩ ∧ Cel w' jB ⟨k2, a2, b2, d2, ⟨p2, q2, e2⟩, ⟨r2, s2, f2⟩⟩ ∧ Cel w' kB ⟨k2, a2, b2, d2, ⟨p2, q2, e2⟩, ⟨r2, s2, f2⟩⟩) W9) := ⟨HS.out.1.below hA, HS.out.2.1.below hA, HS.out.2.2.1.below hA, HS.out.2.2.2.below hA⟩; replace HB := Lib.hid (bt HB.out hA); clear hA)); refine hK.out _ _ ?_ (fun hHeld => ?_)))
      · first | with_reducible exact HS.out | exact ⟨HS.out.1.drew, HS.out.2.1.drew, HS.out.2.2.1.drew, HS.out.2.2.2.drew⟩
      clear hK K
      try simp only [Act.put, List.setIfInBounds_toArray, List.set_cons_zero, List.set_cons_succ]
      first | (refine tw (i := 2) (v := ?_) ?_ hHeld ?_; rotate_left; focus (intro w hSw; (try dsimp only at hSw); (try simp only [Cel] at hSw); go_simp; (try with_reducible rfl); done)) | refine tn (i := 2) hHeld ?_
      try simp only [Act.put, List.setIfInBounds_toArray, List.set_cons_zero, List.set_cons_succ]
      first | (refine tw (i := 3) (v := ?_) ?_ hHeld ?_; rotate_left; focus (intro w hSw; (try dsimp only at hSw); (try simp only [Cel] at hSw); go_simp; (try with_reducible rfl); done)) | refine tn (i := 3) hHeld ?_
      try simp only [Act.put, List.setIfInBounds_toArray, List.set_cons_zero, List.set_cons_succ]
      first | (refine tw (i := 4) (v := ?_) ?_ hHeld ?_; rotate_left; focus (intro w hSw; (try dsimp only at hSw); (try simp only [Cel] at hSw); go_simp; (try with_reducible rfl); done)) | refine tn (i := 4) hHeld ?_
      try simp only [Act.put, List.setIfInBounds_toArray, List.set_cons_zero, List.set_cons_succ]
      first | (refine tw (i := 5) (v := ?_) ?_ hHeld ?_; rotate_left; focus (intro w hSw; (try dsimp only at hSw); (try simp only [Cel] at hSw); go_simp; (try with_reducible rfl); done)) | refine tn (i := 5) hHeld ?_
      try simp only [Act.put, List.setIfInBounds_toArray, List.set_cons_zero, List.set_cons_succ]
      first | (refine tw (i := 6) (v := ?_) ?_ hHeld ?_; rotate_left; focus (intro w hSw; (try dsimp only at hSw); (try simp only [Cel] at hSw); go_simp; (try with_reducible rfl); done)) | refine tn (i := 6) hHeld ?_
      try simp only [Act.put, List.setIfInBounds_toArray, List.set_cons_zero, List.set_cons_succ]
      first | (refine tw (i := 7) (v := ?_) ?_ hHeld ?_; rotate_left; focus (intro w hSw; (try dsimp only at hSw); (try simp only [Cel] at hSw); go_simp; (try with_reducible rfl); done)) | refine tn (i := 7) hHeld ?_
      try simp only [Act.put, List.setIfInBounds_toArray, List.set_cons_zero, List.set_cons_succ]
      first | (refine tw (i := 8) (v := ?_) ?_ hHeld ?_; rotate_left; focus (intro w hSw; (try dsimp only at hSw); (try simp only [Cel] at hSw); go_simp; (try with_reducible rfl); done)) | refine tn (i := 8) hHeld ?_
      try simp only [Act.put, List.setIfInBounds_toArray, List.set_cons_zero, List.set_cons_succ]
      first | (refine tw (i := 9) (v := ?_) ?_ hHeld ?_; rotate_left; focus (intro w hSw; (try dsimp only at hSw); (try simp only [Cel] at hSw); go_simp; (try with_reducible rfl); done)) | refine tn (i := 9) hHeld ?_
      try simp only [Act.put, List.setIfInBounds_toArray, List.set_cons_zero, List.set_cons_succ]
      first | (refine tw (i := 10) (v := ?_) ?_ hHeld ?_; rotate_left; focus (intro w hSw; (try dsimp only at hSw); (try simp only [Cel] at hSw); go_simp; (try with_reducible rfl); done)) | refine tn (i := 10) hHeld ?_
      try simp only [Act.put, List.setIfInBounds_toArray, List.set_cons_zero, List.set_cons_succ]
      first | (refine tw (i := 11) (v := ?_) ?_ hHeld ?_; rotate_left; focus (intro w hSw; (try dsimp only at hSw); (try simp only [Cel] at hSw); go_simp; (try with_reducible rfl); done)) | refine tn (i := 11) hHeld ?_
      try simp only [Act.put, List.setIfInBounds_toArray, List.set_cons_zero, List.set_cons_succ]
      first | (refine tw (i := 12) (v := ?_) ?_ hHeld ?_; rotate_left; focus (intro w hSw; (try dsimp only at hSw); (try simp only [Cel] at hSw); go_simp; (try with_reducible rfl); done)) | refine tn (i := 12) hHeld ?_
      try simp only [Act.put, List.setIfInBounds_toArray, List.set_cons_zero, List.set_cons_succ]
      first | (refine tw (i := 13) (v := ?_) ?_ hHeld ?_; rotate_left; focus (intro w hSw; (try dsimp only at hSw); (try simp only [Cel] at hSw); go_simp; (try with_reducible rfl); done)) | refine tn (i := 13) hHeld ?_
      try simp only [Act.put, List.setIfInBounds_toArray, List.set_cons_zero, List.set_cons_succ]
      first | (refine tw (i := 14) (v := ?_) ?_ hHeld ?_; rotate_left; focus (intro w hSw; (try dsimp only at hSw); (try simp only [Cel] at hSw); go_simp; (try with_reducible rfl); done)) | refine tn (i := 14) hHeld ?_
      try simp only [Act.put, List.setIfInBounds_toArray, List.set_cons_zero, List.set_cons_succ]
      first | (refine tw (i := 15) (v := ?_) ?_ hHeld ?_; rotate_left; focus (intro w hSw; (try dsimp only at hSw); (try simp only [Cel] at hSw); go_simp; (try with_reducible rfl); done)) | refine tn (i := 15) hHeld ?_
      try simp only [Act.put, List.setIfInBounds_toArray, List.set_cons_zero, List.set_cons_succ]
      first | (refine tw (i := 16) (v := ?_) ?_ hHeld ?_; rotate_left; focus (intro w hSw; (try dsimp only at hSw); (try simp only [Cel] at hSw); go_simp; (try with_reducible rfl); done)) | refine tn (i := 16) hHeld ?_
      try simp only [Act.put, List.setIfInBounds_toArray, List.set_cons_zero, List.set_cons_succ]
      first | (refine tw (i := 17) (v := ?_) ?_ hHeld ?_; rotate_left; focus (intro w hSw; (try dsimp only at hSw); (try simp only [Cel] at hSw); go_simp; (try with_reducible rfl); done)) | refine tn (i := 17) hHeld ?_
      try simp only [Act.put, List.setIfInBounds_toArray, List.set_cons_zero, List.set_cons_succ]
      first | (refine tw (i := 18) (v := ?_) ?_ hHeld ?_; rotate_left; focus (intro w hSw; (try dsimp only at hSw); (try simp only [Cel] at hSw); go_simp; (try with_reducible rfl); done)) | refine tn (i := 18) hHeld ?_
      try simp only [Act.put, List.setIfInBounds_toArray, List.set_cons_zero, List.set_cons_succ]
      first | (refine tw (i := 19) (v := ?_) ?_ hHeld ?_; rotate_left; focus (intro w hSw; (try dsimp only at hSw); (try simp only [Cel] at hSw); go_simp; (try with_reducible rfl); done)) | refine tn (i := 19) hHeld ?_
      try simp only [Act.put, List.setIfInBounds_toArray, List.set_cons_zero, List.set_cons_succ]
      first | (refine tw (i := 20) (v := ?_) ?_ hHeld ?_; rotate_left; focus (intro w hSw; (try dsimp only at hSw); (try simp only [Cel] at hSw); go_simp; (try with_reducible rfl); done)) | refine tn (i := 20) hHeld ?_
      try simp only [Act.put, List.setIfInBounds_toArray, List.set_cons_zero, List.set_cons_succ]
      first | (refine tw (i := 21) (v := ?_) ?_ hHeld ?_; rotate_left; focus (intro w hSw; (try dsimp only at hSw); (try simp only [Cel] at hSw); go_simp; (try with_reducible rfl); done)) | refine tn (i := 21) hHeld ?_
      try simp only [Act.put, List.setIfInBounds_toArray, List.set_cons_zero, List.set_cons_succ]
      first | (refine tw (i := 22) (v := ?_) ?_ hHeld ?_; rotate_left; focus (intro w hSw; (try dsimp only at hSw); (try simp only [Cel] at hSw); go_simp; (try with_reducible rfl); done)) | refine tn (i := 22) hHeld ?_
      try simp only [Act.put, List.setIfInBounds_toArray, List.set_cons_zero, List.set_cons_succ]
      first | (refine tw (i := 23) (v := ?_) ?_ hHeld ?_; rotate_left; focus (intro w hSw; (try dsimp only at hSw); (try simp only [Cel] at hSw); go_simp; (try with_reducible rfl); done)) | refine tn (i := 23) hHeld ?_
      try simp only [Act.put, List.setIfInBounds_toArray, List.set_cons_zero, List.set_cons_succ]
      first | (refine tw (i := 24) (v := ?_) ?_ hHeld ?_; rotate_left; focus (intro w hSw; (try dsimp only at hSw); (try simp only [Cel] at hSw); go_simp; (try with_reducible rfl); done)) | refine tn (i := 24) hHeld ?_
      try simp only [Act.put, List.setIfInBounds_toArray, List.set_cons_zero, List.set_cons_succ]
      first | (refine tw (i := 25) (v := ?_) ?_ hHeld ?_; rotate_left; focus (intro w hSw; (try dsimp only at hSw); (try simp only [Cel] at hSw); go_simp; (try with_reducible rfl); done)) | refine tn (i := 25) hHeld ?_
      try simp only [Act.put, List.setIfInBounds_toArray, List.set_cons_zero, List.set_cons_succ]
      first | (refine tw (i := 26) (v := ?_) ?_ hHeld ?_; rotate_left; focus (intro w hSw; (try dsimp only at hSw); (try simp only [Cel] at hSw); go_simp; (try with_reducible rfl); done)) | refine tn (i := 26) hHeld ?_
      try simp only [Act.put, List.setIfInBounds_toArray, List.set_cons_zero, List.set_cons_succ]
      first | (refine tw (i := 27) (v := ?_) ?_ hHeld ?_; rotate_left; focus (intro w hSw; (try dsimp only at hSw); (try simp only [Cel] at hSw); go_simp; (try with_reducible rfl); done)) | refine tn (i := 27) hHeld ?_
      try simp only [Act.put, List.setIfInBounds_toArray, List.set_cons_zero, List.set_cons_succ]
      first | (refine tw (i := 28) (v := ?_) ?_ hHeld ?_; rotate_left; focus (intro w hSw; (try dsimp only at hSw); (try simp only [Cel] at hSw); go_simp; (try with_reducible rfl); done)) | refine tn (i := 28) hHeld ?_
      try simp only [Act.put, List.setIfInBounds_toArray, List.set_cons_zero, List.set_cons_succ]
      first | (refine tw (i := 29) (v := ?_) ?_ hHeld ?_; rotate_left; focus (intro w hSw; (try dsimp only at hSw); (try simp only [Cel] at hSw); go_simp; (try with_reducible rfl); done)) | refine tn (i := 29) hHeld ?_
      try simp only [Act.put, List.setIfInBounds_toArray, List.set_cons_zero, List.set_cons_succ]
      first | (refine tw (i := 31) (v := ?_) ?_ hHeld ?_; rotate_left; focus (intro w hSw; (try dsimp only at hSw); (try simp only [Cel] at hSw); go_simp; (try with_reducible rfl); done)) | refine tn (i := 31) hHeld ?_
      try simp only [Act.put, List.setIfInBounds_toArray, List.set_cons_zero, List.set_cons_succ]
      refine call_next (i := 30) (by kernel_rfl) (by rfl) ?_
      intro o ho K hK
      simp only [List.getElem?_toArray, List.getElem?_cons_succ, List.getElem?_cons_zero, Option.some.injEq] at ho
      subst ho
      first | (fail; refine hK.out _ _ ?_ (fun hHeld => ?_)) | (go_simp; first | (with_reducible refine hK.out _ _ ?_ (fun hHeld => ?_)) | ((first | (go_at_call 11; (with_reducible refine (Q1.out _).mono ?_); rintro e' W9 ⟨rfl, hA⟩; replace HS : Hid ((fun w' => Cel w' w.heap.size ⟨k, a, b, d, ⟨p, q, e⟩, ⟨r, s, f⟩⟩ ∧ Cel w' (w.heap.size + 1) ⟨k2, a2, b2, d2, ⟨p2, q2, e2⟩, ⟨r2, s2, f2⟩⟩ ∧ Cel w' jB ⟨k2, a2, b2, d2, ⟨p2, q2, e2⟩, ⟨r2, s2, f2⟩⟩ ∧ Cel w' kB ⟨k2, a2, b2, d2, ⟨p2, q2, e2⟩, ⟨r2, s2, f2⟩⟩) W9) := ⟨HS.out.1.below hA, HS.out.2.1.below hA, HS.out.2.2.1.below hA, HS.out.2.2.2.below hA⟩; replace HB := Lib.hid (bt HB.out hA); clear hA) | (go_at_call 10; (with_reducible refine (Q2.out _).mono ?_); rintro e' W9 ⟨rfl, hA⟩; replace HS : Hid ((fun w' => Cel w' w.heap.size ⟨k, a, b, d, ⟨p, q, e⟩, ⟨r, s, f⟩⟩ ∧ Cel w' (w.heap.size + 1) ⟨k2, a2, b2, d2, ⟨p2, q2, e2⟩, ⟨r2, s2, f2⟩⟩ ∧ Cel w' jB ⟨k2, a2, b2, d2, ⟨p2, q2, e2⟩, ⟨r2, s2, f2⟩⟩ ∧ Cel w' kB ⟨k2, a2, b2, d2, ⟨p2, q2, e2⟩, ⟨r2, s2, f2⟩⟩) W9) := ⟨HS.out.1.below hA, HS.out.2.1.below hA, HS.out.2.2.1.below hA, HS.out.2.2.2.below hA⟩; replace HB := Lib.hid (bt HB.out hA); clear hA) | (go_at_call 10; (with_reducible refine (Q3.out _).mono ?_); rintro e' W9 ⟨rfl, hA⟩; replace HS : Hid ((fun w' => Cel w' w.heap.size ⟨k, a, b, d, ⟨p, q, e⟩, ⟨r, s, f⟩⟩ ∧ Cel w' (w.heap.size + 1) ⟨k2, a2, b2, d2, ⟨p2, q2, e2⟩, ⟨r2, s2, f2⟩⟩ ∧ Cel w' jB ⟨k2, a2, b2, d2, ⟨p2, q2, e2⟩, ⟨r2, s2, f2⟩⟩ ∧ Cel w' kB ⟨k2, a2, b2, d2, ⟨p2, q2, e2⟩, ⟨r2, s2, f2⟩⟩) W9) := ⟨HS.out.1.below hA, HS.out.2.1.below hA, HS.out.2.2.1.below hA, HS.out.2.2.2.below hA⟩; replace HB := Lib.hid (bt HB.out hA); clear hA) | (go_at_call 10; (with_reducible refine (Q4.out _).mono ?_); rintro e' W9 ⟨rfl, hA⟩; replace HS : Hid ((fun w' => Cel w' w.heap.size ⟨k, a, b, d, ⟨p, q, e⟩, ⟨r, s, f⟩⟩ ∧ Cel w' (w.heap.size + 1) ⟨k2, a2, b2, d2, ⟨p2, q2, e2⟩, ⟨r2, s2, f2⟩⟩ ∧ Cel w' jB ⟨k2, a2, b2, d2, ⟨p2, q2, e2⟩, ⟨r2, s2, f2⟩⟩ ∧ Cel w' kB ⟨k2, a2, b2, d2, ⟨p2, q2, e2⟩, ⟨r2, s2, f2⟩⟩) W9) := ⟨HS.out.1.below hA, HS.out.2.1.below hA, HS.out.2.2.1.below hA, HS.out.2.2.2.below hA⟩; replace HB := Lib.hid (bt HB.out hA); clear hA) | (go_at_call 12; (with_reducible refine (Q5.out _).mono ?_); rintro e' W9 ⟨rfl, hA⟩; replace HS : Hid ((fun w' => Cel w' w.heap.size ⟨k, a, b, d, ⟨p, q, e⟩, ⟨r, s, f⟩⟩ ∧ Cel w' (w.heap.size + 1) ⟨k2, a2, b2, d2, ⟨p2, q2, e2⟩, ⟨r2, s2, f2⟩⟩ ∧ Cel w' jB ⟨k2, a2, b2, d2, ⟨p2, q2, e2⟩, ⟨r2, s2, f2⟩⟩ ∧ Cel w' kB ⟨k2, a2, b2, d2, ⟨p2, q2, e2⟩, ⟨r2, s2, f2⟩⟩) W9) := ⟨HS.out.1.below hA, HS.out.2.1.below hA, HS.out.2.2.1.below hA, HS.out.2.2.2.below hA⟩; replace HB := Lib.hid (bt HB.out hA); clear hA)); refine hK.out _ _ ?_ (fun hHeld => ?_)))
      · first | with_reducible exact HS.out | exact ⟨HS.out.1.drew, HS.out.2.1.drew, HS.out.2.2.1.drew, HS.out.2.2.2.drew⟩
      clear hK K
      try simp only [Act.put, List.setIfInBounds_toArray, List.set_cons_zero, List.set_cons_succ]
      first | (refine tw (i := 32) (v := ?_) ?_ hHeld ?_; rotate_left; focus (intro w hSw; (try dsimp only at hSw); (try simp only [Cel] at hSw); go_simp; (try with_reducible rfl); done)) | refine tn (i := 32) hHeld ?_
      try simp only [Act.put, List.setIfInBounds_toArray, List.set_cons_zero, List.set_cons_succ]
      first | (refine tw (i := 33) (v := ?_) ?_ hHeld ?_; rotate_left; focus (intro w hSw; (try dsimp only at hSw); (try simp only [Cel] at hSw); go_simp; (try with_reducible rfl); done)) | refine tn (i := 33) hHeld ?_
      try simp only [Act.put, List.setIfInBounds_toArray, List.set_cons_zero, List.set_cons_succ]
      first | (refine tw (i := 34) (v := ?_) ?_ hHeld ?_; rotate_left; focus (intro w hSw; (try dsimp only at hSw); (try simp only [Cel] at hSw); go_simp; (try with_reducible rfl); done)) | refine tn (i := 34) hHeld ?_
      try simp only [Act.put, List.setIfInBounds_toArray, List.set_cons_zero, List.set_cons_succ]
      first | (refine tw (i := 35) (v := ?_) ?_ hHeld ?_; rotate_left; focus (intro w hSw; (try dsimp only at hSw); (try simp only [Cel] at hSw); go_simp; (try with_reducible rfl); done)) | refine tn (i := 35) hHeld ?_
      try simp only [Act.put, List.setIfInBounds_toArray, List.set_cons_zero, List.set_cons_succ]
      first | (refine tw (i := 36) (v := ?_) ?_ hHeld ?_; rotate_left; focus (intro w hSw; (try dsimp only at hSw); (try simp only [Cel] at hSw); go_simp; (try with_reducible rfl); done)) | refine tn (i := 36) hHeld ?_
      try simp only [Act.put, List.setIfInBounds_toArray, List.set_cons_zero, List.set_cons_succ]
      first | (refine tw (i := 38) (v := ?_) ?_ hHeld ?_; rotate_left; focus (intro w hSw; (try dsimp only at hSw); (try simp only [Cel] at hSw); go_simp; (try with_reducible rfl); done)) | refine tn (i := 38) hHeld ?_
      try simp only [Act.put, List.setIfInBounds_toArray, List.set_cons_zero, List.set_cons_succ]
      refine call_next (i := 37) (by kernel_rfl) (by rfl) ?_
      intro o ho K hK
      simp only [List.getElem?_toArray, List.getElem?_cons_succ, List.getElem?_cons_zero, Option.some.injEq] at ho
      subst ho
      first | (fail; refine hK.out _ _ ?_ (fun hHeld => ?_)) | (go_simp; first | (with_reducible refine hK.out _ _ ?_ (fun hHeld => ?_)) | ((first | (go_at_call 11; (with_reducible refine (Q1.out _).mono ?_); rintro e' W9 ⟨rfl, hA⟩; replace HS : Hid ((fun w' => Cel w' w.heap.size ⟨k, a, b, d, ⟨p, q, e⟩, ⟨r, s, f⟩⟩ ∧ Cel w' (w.heap.size + 1) ⟨k2, a2, b2, d2, ⟨p2, q2, e2⟩, ⟨r2, s2, f2⟩⟩ ∧ Cel w' jB ⟨k2, a2, b2, d2, ⟨p2, q2, e2⟩, ⟨r2, s2, f2⟩⟩ ∧ Cel w' kB ⟨k2, a2, b2, d2, ⟨p2, q2, e2⟩, ⟨r2, s2, f2⟩⟩) W9) := ⟨HS.out.1.below hA, HS.out.2.1.below hA, HS.out.2.2.1.below hA, HS.out.2.2.2.below hA⟩; replace HB := Lib.hid (bt HB.out hA); clear hA) | (go_at_call 10; (with_reducible refine (Q2.out _).mono ?_); rintro e' W9 ⟨rfl, hA⟩; replace HS : Hid ((fun w' => Cel w' w.heap.size ⟨k, a, b, d, ⟨p, q, e⟩, ⟨r, s, f⟩⟩ ∧ Cel w' (w.heap.size + 1) ⟨k2, a2, b2, d2, ⟨p2, q2, e2⟩, ⟨r2, s2, f2⟩⟩ ∧ Cel w' jB ⟨k2, a2, b2, d2, ⟨p2, q2, e2⟩, ⟨r2, s2, f2⟩⟩ ∧ Cel w' kB ⟨k2, a2, b2, d2, ⟨p2, q2, e2⟩, ⟨r2, s2, f2⟩⟩) W9) := ⟨HS.out.1.below hA, HS.out.2.1.below hA, HS.out.2.2.1.below hA, HS.out.2.2.2.below hA⟩; replace HB := Lib.hid (bt HB.out hA); clear hA) | (go_at_call 10; (with_reducible refine (Q3.out _).mono ?_); rintro e' W9 ⟨rfl, hA⟩; replace HS : Hid ((fun w' => Cel w' w.heap.size ⟨k, a, b, d, ⟨p, q, e⟩, ⟨r, s, f⟩⟩ ∧ Cel w' (w.heap.size + 1) ⟨k2, a2, b2, d2, ⟨p2, q2, e2⟩, ⟨r2, s2, f2⟩⟩ ∧ Cel w' jB ⟨k2, a2, b2, d2, ⟨p2, q2, e2⟩, ⟨r2, s2, f2⟩⟩ ∧ Cel w' kB ⟨k2, a2, b2, d2, ⟨p2, q2, e2⟩, ⟨r2, s2, f2⟩⟩) W9) := ⟨HS.out.1.below hA, HS.out.2.1.below hA, HS.out.2.2.1.below hA, HS.out.2.2.2.below hA⟩; replace HB := Lib.hid (bt HB.out hA); clear hA) | (go_at_call 10; (with_reducible refine (Q4.out _).mono ?_); rintro e' W9 ⟨rfl, hA⟩; replace HS : Hid ((fun w' => Cel w' w.heap.size ⟨k, a, b, d, ⟨p, q, e⟩, ⟨r, s, f⟩⟩ ∧ Cel w' (w.heap.size + 1) ⟨k2, a2, b2, d2, ⟨p2, q2, e2⟩, ⟨r2, s2, f2⟩⟩ ∧ Cel w' jB ⟨k2, a2, b2, d2, ⟨p2, q2, e2⟩, ⟨r2, s2, f2⟩⟩ ∧ Cel w' kB ⟨k2, a2, b2, d2, ⟨p2, q2, e2⟩, ⟨r2, s2, f2⟩⟩) W9) := ⟨HS.out.1.below hA, HS.out.2.1.below hA, HS.out.2.2.1.below hA, HS.out.2.2.2.below hA⟩; replace HB := Lib.hid (bt HB.out hA); clear hA) | (go_at_call 12; (with_reducible refine (Q5.out _).mono ?_); rintro e' W9 ⟨rfl, hA⟩; replace HS : Hid ((fun w' => Cel w' w.heap.size ⟨k, a, b, d, ⟨p, q, e⟩, ⟨r, s, f⟩⟩ ∧ Cel w' (w.heap.size + 1) ⟨k2, a2, b2, d2, ⟨p2, q2, e2⟩, ⟨r2, s2, f2⟩⟩ ∧ Cel w' jB ⟨k2, a2, b2, d2, ⟨p2, q2, e2⟩, ⟨r2, s2, f2⟩⟩ ∧ Cel w' kB ⟨k2, a2, b2, d2, ⟨p2, q2, e2⟩, ⟨r2, s2, f2⟩⟩) W9) := ⟨HS.out.1.below hA, HS.out.2.1.below hA, HS.out.2.2.1.below hA, HS.out.2.2.2.below hA⟩; replace HB := Lib.hid (bt HB.out hA); clear hA)); refine hK.out _ _ ?_ (fun hHeld => ?_)))
      · first | with_reducible exact HS.out | exact ⟨HS.out.1.drew, HS.out.2.1.drew, HS.out.2.2.1.drew, HS.out.2.2.2.drew⟩
      clear hK K
      try simp only [Act.put, List.setIfInBounds_toArray, List.set_cons_zero, List.set_cons_succ]
      first | (refine tw (i := 39) (v := ?_) ?_ hHeld ?_; rotate_left; focus (intro w hSw; (try dsimp only at hSw); (try simp only [Cel] at hSw); go_simp; (try with_reducible rfl); done)) | refine tn (i := 39) hHeld ?_
      try simp only [Act.put, List.setIfInBounds_toArray, List.set_cons_zero, List.set_cons_succ]
      first | (refine tw (i := 40) (v := ?_) ?_ hHeld ?_; rotate_left; focus (intro w hSw; (try dsimp only at hSw); (try simp only [Cel] at hSw); go_simp; (try with_reducible rfl); done)) | refine tn (i := 40) hHeld ?_
      try simp only [Act.put, List.setIfInBounds_toArray, List.set_cons_zero, List.set_cons_succ]
      first | (refine tw (i := 41) (v := ?_) ?_ hHeld ?_; rotate_left; focus (intro w hSw; (try dsimp only at hSw); (try simp only [Cel] at hSw); go_simp; (try with_reducible rfl); done)) | refine tn (i := 41) hHeld ?_
      try simp only [Act.put, List.setIfInBounds_toArray, List.set_cons_zero, List.set_cons_succ]
      first | (refine tw (i := 42) (v := ?_) ?_ hHeld ?_; rotate_left; focus (intro w hSw; (try dsimp only at hSw); (try simp only [Cel] at hSw); go_simp; (try with_reducible rfl); done)) | refine tn (i := 42) hHeld ?_
      try simp only [Act.put, List.setIfInBounds_toArray, List.set_cons_zero, List.set_cons_succ]
      first | (refine tw (i := 43) (v := ?_) ?_ hHeld ?_; rotate_left; focus (intro w hSw; (try dsimp only at hSw); (try simp only [Cel] at hSw); go_simp; (try with_reducible rfl); done)) | refine tn (i := 43) hHeld ?_
      try simp only [Act.put, List.setIfInBounds_toArray, List.set_cons_zero, List.set_cons_succ]
      first | (refine tw (i := 44) (v := ?_) ?_ hHeld ?_; rotate_left; focus (intro w hSw; (try dsimp only at hSw); (try simp only [Cel] at hSw); go_simp; (try with_reducible rfl); done)) | refine tn (i := 44) hHeld ?_
      try simp only [Act.put, List.setIfInBounds_toArray, List.set_cons_zero, List.set_cons_succ]
      first | (refine tw (i := 45) (v := ?_) ?_ hHeld ?_; rotate_left; focus (intro w hSw; (try dsimp only at hSw); (try simp only [Cel] at hSw); go_simp; (try with_reducible rfl); done)) | refine tn (i := 45) hHeld ?_
      try simp only [Act.put, List.setIfInBounds_toArray, List.set_cons_zero, List.set_cons_succ]
      first | (refine tw (i := 46) (v := ?_) ?_ hHeld ?_; rotate_left; focus (intro w hSw; (try dsimp only at hSw); (try simp only [Cel] at hSw); go_simp; (try with_reducible rfl); done)) | refine tn (i := 46) hHeld ?_
      try simp only [Act.put, List.setIfInBounds_toArray, List.set_cons_zero, List.set_cons_succ]
      first | (refine tw (i := 47) (v := ?_) ?_ hHeld ?_; rotate_left; focus (intro w hSw; (try dsimp only at hSw); (try simp only [Cel] at hSw); go_simp; (try with_reducible rfl); done)) | refine tn (i := 47) hHeld ?_
      try simp only [Act.put, List.setIfInBounds_toArray, List.set_cons_zero, List.set_cons_succ]
      first | (refine tw (i := 48) (v := ?_) ?_ hHeld ?_; rotate_left; focus (intro w hSw; (try dsimp only at hSw); (try simp only [Cel] at hSw); go_simp; (try with_reducible rfl); done)) | refine tn (i := 48) hHeld ?_
      try simp only [Act.put, List.setIfInBounds_toArray, List.set_cons_zero, List.set_cons_succ]
      first | (refine tw (i := 49) (v := ?_) ?_ hHeld ?_; rotate_left; focus (intro w hSw; (try dsimp only at hSw); (try simp only [Cel] at hSw); go_simp; (try with_reducible rfl); done)) | refine tn (i := 49) hHeld ?_
      try simp only [Act.put, List.setIfInBounds_toArray, List.set_cons_zero, List.set_cons_succ]
      first | (refine tw (i := 50) (v := ?_) ?_ hHeld ?_; rotate_left; focus (intro w hSw; (try dsimp only at hSw); (try simp only [Cel] at hSw); go_simp; (try with_reducible rfl); done)) | refine tn (i := 50) hHeld ?_
      try simp only [Act.put, List.setIfInBounds_toArray, List.set_cons_zero, List.set_cons_succ]
      first | (refine tw (i := 52) (v := ?_) ?_ hHeld ?_; rotate_left; focus (intro w hSw; (try dsimp only at hSw); (try simp only [Cel] at hSw); go_simp; (try with_reducible rfl); done)) | refine tn (i := 52) hHeld ?_
      try simp only [Act.put, List.setIfInBounds_toArray, List.set_cons_zero, List.set_cons_succ]
      refine call_next (i := 51) (by kernel_rfl) (by rfl) ?_
      intro o ho K hK
      simp only [List.getElem?_toArray, List.getElem?_cons_succ, List.getElem?_cons_zero, Option.some.injEq] at ho
      subst ho
      first | (fail; refine hK.out _ _ ?_ (fun hHeld => ?_)) | (go_simp; first | (with_reducible refine hK.out _ _ ?_ (fun hHeld => ?_)) | ((first | (go_at_call 11; (with_reducible refine (Q1.out _).mono ?_); rintro e' W9 ⟨rfl, hA⟩; replace HS : Hid ((fun w' => Cel w' w.heap.size ⟨k, a, b, d, ⟨p, q, e⟩, ⟨r, s, f⟩⟩ ∧ Cel w' (w.heap.size + 1) ⟨k2, a2, b2, d2, ⟨p2, q2, e2⟩, ⟨r2, s2, f2⟩⟩ ∧ Cel w' jB ⟨k2, a2, b2, d2, ⟨p2, q2, e2⟩, ⟨r2, s2, f2⟩⟩ ∧ Cel w' kB ⟨k2, a2, b2, d2, ⟨p2, q2, e2⟩, ⟨r2, s2, f2⟩⟩) W9) := ⟨HS.out.1.below hA, HS.out.2.1.below hA, HS.out.2.2.1.below hA, HS.out.2.2.2.below hA⟩; replace HB := Lib.hid (bt HB.out hA); clear hA) | (go_at_call 10; (with_reducible refine (Q2.out _).mono ?_); rintro e' W9 ⟨rfl, hA⟩; replace HS : Hid ((fun w' => Cel w' w.heap.size ⟨k, a, b, d, ⟨p, q, e⟩, ⟨r, s, f⟩⟩ ∧ Cel w' (w.heap.size + 1) ⟨k2, a2, b2, d2, ⟨p2, q2, e2⟩, ⟨r2, s2, f2⟩⟩ ∧ Cel w' jB ⟨k2, a2, b2, d2, ⟨p2, q2, e2⟩, ⟨r2, s2, f2⟩⟩ ∧ Cel w' kB ⟨k2, a2, b2, d2, ⟨p2, q2, e2⟩, ⟨r2, s2, f2⟩⟩) W9) := ⟨HS.out.1.below hA, HS.out.2.1.below hA, HS.out.2.2.1.below hA, HS.out.2.2.2.below hA⟩; replace HB := Lib.hid (bt HB.out hA); clear hA) | (go_at_call 10; (with_reducible refine (Q3.out _).mono ?_); rintro e' W9 ⟨rfl, hA⟩; replace HS : Hid ((fun w' => Cel w' w.heap.size ⟨k, a, b, d, ⟨p, q, e⟩, ⟨r, s, f⟩⟩ ∧ Cel w' (w.heap.size + 1) ⟨k2, a2, b2, d2, ⟨p2, q2, e2⟩, ⟨r2, s2, f2⟩⟩ ∧ Cel w' jB ⟨k2, a2, b2, d2, ⟨p2, q2, e2⟩, ⟨r2, s2, f2⟩⟩ ∧ Cel w' kB ⟨k2, a2, b2, d2, ⟨p2, q2, e2⟩, ⟨r2, s2, f2⟩⟩) W9) := ⟨HS.out.1.below hA, HS.out.2.1.below hA, HS.out.2.2.1.below hA, HS.out.2.2.2.below hA⟩; replace HB := Lib.hid (bt HB.out hA); clear hA) | (go_at_call 10; (with_reducible refine (Q4.out _).mono ?_); rintro e' W9 ⟨rfl, hA⟩; replace HS : Hid ((fun w' => Cel w' w.heap.size ⟨k, a, b, d, ⟨p, q, e⟩, ⟨r, s, f⟩⟩ ∧ Cel w' (w.heap.size + 1) ⟨k2, a2, b2, d2, ⟨p2, q2, e2⟩, ⟨r2, s2, f2⟩⟩ ∧ Cel w' jB ⟨k2, a2, b2, d2, ⟨p2, q2, e2⟩, ⟨r2, s2, f2⟩⟩ ∧ Cel w' kB ⟨k2, a2, b2, d2, ⟨p2, q2, e2⟩, ⟨r2, s2, f2⟩⟩) W9) := ⟨HS.out.1.below hA, HS.out.2.1.below hA, HS.out.2.2.1.below hA, HS.out.2.2.2.below hA⟩; replace HB := Lib.hid (bt HB.out hA); clear hA) | (go_at_call 12; (with_reducible refine (Q5.out _).mono ?_); rintro e' W9 ⟨rfl, hA⟩; replace HS : Hid ((fun w' => Cel w' w.heap.size ⟨k, a, b, d, ⟨p, q, e⟩, ⟨r, s, f⟩⟩ ∧ Cel w' (w.heap.size + 1) ⟨k2, a2, b2, d2, ⟨p2, q2, e2⟩, ⟨r2, s2, f2⟩⟩ ∧ Cel w' jB ⟨k2, a2, b2, d2, ⟨p2, q2, e2⟩, ⟨r2, s2, f2⟩⟩ ∧ Cel w' kB ⟨k2, a2, b2, d2, ⟨p2, q2, e2⟩, ⟨r2, s2, f2⟩⟩) W9) := ⟨HS.out.1.below hA, HS.out.2.1.below hA, HS.out.2.2.1.below hA, HS.out.2.2.2.below hA⟩; replace HB := Lib.hid (bt HB.out hA); clear hA)); refine hK.out _ _ ?_ (fun hHeld => ?_)))
      · first | with_reducible exact HS.out | exact ⟨HS.out.1.drew, HS.out.2.1.drew, HS.out.2.2.1.drew, HS.out.2.2.2.drew⟩
      clear hK K
      try simp only [Act.put, List.setIfInBounds_toArray, List.set_cons_zero, List.set_cons_succ]
      first | (refine tw (i := 53) (v := ?_) ?_ hHeld ?_; rotate_left; focus (intro w hSw; (try dsimp only at hSw); (try simp only [Cel] at hSw); go_simp; (try with_reducible rfl); done)) | refine tn (i := 53) hHeld ?_
      try simp only [Act.put, List.setIfInBounds_toArray, List.set_cons_zero, List.set_cons_succ]
      first | (refine tw (i := 54) (v := ?_) ?_ hHeld ?_; rotate_left; focus (intro w hSw; (try dsimp only at hSw); (try simp only [Cel] at hSw); go_simp; (try with_reducible rfl); done)) | refine tn (i := 54) hHeld ?_
      try simp only [Act.put, List.setIfInBounds_toArray, List.set_cons_zero, List.set_cons_succ]
      first | (refine tw (i := 55) (v := ?_) ?_ hHeld ?_; rotate_left; focus (intro w hSw; (try dsimp only at hSw); (try simp only [Cel] at hSw); go_simp; (try with_reducible rfl); done)) | refine tn (i := 55) hHeld ?_
      try simp only [Act.put, List.setIfInBounds_toArray, List.set_cons_zero, List.set_cons_succ]
      first | (refine tw (i := 56) (v := ?_) ?_ hHeld ?_; rotate_left; focus (intro w hSw; (try dsimp only at hSw); (try simp only [Cel] at hSw); go_simp; (try with_reducible rfl); done)) | refine tn (i := 56) hHeld ?_
      try simp only [Act.put, List.setIfInBounds_toArray, List.set_cons_zero, List.set_cons_succ]
      first | (refine tw (i := 57) (v := ?_) ?_ hHeld ?_; rotate_left; focus (intro w hSw; (try dsimp only at hSw); (try simp only [Cel] at hSw); go_simp; (try with_reducible rfl); done)) | refine tn (i := 57) hHeld ?_
      try simp only [Act.put, List.setIfInBounds_toArray, List.set_cons_zero, List.set_cons_succ]
      first | (refine tw (i := 58) (v := ?_) ?_ hHeld ?_; rotate_left; focus (intro w hSw; (try dsimp only at hSw); (try simp only [Cel] at hSw); go_simp; (try with_reducible rfl); done)) | refine tn (i := 58) hHeld ?_
      try simp only [Act.put, List.setIfInBounds_toArray, List.set_cons_zero, List.set_cons_succ]
      first | (refine tw (i := 59) (v := ?_) ?_ hHeld ?_; rotate_left; focus (intro w hSw; (try dsimp only at hSw); (try simp only [Cel] at hSw); go_simp; (try with_reducible rfl); done)) | refine tn (i := 59) hHeld ?_
      try simp only [Act.put, List.setIfInBounds_toArray, List.set_cons_zero, List.set_cons_succ]
      first | (refine tw (i := 60) (v := ?_) ?_ hHeld ?_; rotate_left; focus (intro w hSw; (try dsimp only at hSw); (try simp only [Cel] at hSw); go_simp; (try with_reducible rfl); done)) | refine tn (i := 60) hHeld ?_
      try simp only [Act.put, List.setIfInBounds_toArray, List.set_cons_zero, List.set_cons_succ]
      first | (refine tw (i := 61) (v := ?_) ?_ hHeld ?_; rotate_left; focus (intro w hSw; (try dsimp only at hSw); (try simp only [Cel] at hSw); go_simp; (try with_reducible rfl); done)) | refine tn (i := 61) hHeld ?_
      try simp only [Act.put, List.setIfInBounds_toArray, List.set_cons_zero, List.set_cons_succ]
      refine call_next (i := 62) (by kernel_rfl) (by rfl) ?_
      intro o ho K hK
      simp only [List.getElem?_toArray, List.getElem?_cons_succ, List.getElem?_cons_zero, Option.some.injEq] at ho
      subst ho
      first | (fail; refine hK.out _ _ ?_ (fun hHeld => ?_)) | (go_simp; first | (with_reducible refine hK.out _ _ ?_ (fun hHeld => ?_)) | ((first | (go_at_call 11; (with_reducible refine (Q1.out _).mono ?_); rintro e' W9 ⟨rfl, hA⟩; replace HS : Hid ((fun w' => Cel w' w.heap.size ⟨k, a, b, d, ⟨p, q, e⟩, ⟨r, s, f⟩⟩ ∧ Cel w' (w.heap.size + 1) ⟨k2, a2, b2, d2, ⟨p2, q2, e2⟩, ⟨r2, s2, f2⟩⟩ ∧ Cel w' jB ⟨k2, a2, b2, d2, ⟨p2, q2, e2⟩, ⟨r2, s2, f2⟩⟩ ∧ Cel w' kB ⟨k2, a2, b2, d2, ⟨p2, q2, e2⟩, ⟨r2, s2, f2⟩⟩) W9) := ⟨HS.out.1.below hA, HS.out.2.1.below hA, HS.out.2.2.1.below hA, HS.out.2.2.2.below hA⟩; replace HB := Lib.hid (bt HB.out hA); clear hA) | (go_at_call 10; (with_reducible refine (Q2.out _).mono ?_); rintro e' W9 ⟨rfl, hA⟩; replace HS : Hid ((fun w' => Cel w' w.heap.size ⟨k, a, b, d, ⟨p, q, e⟩, ⟨r, s, f⟩⟩ ∧ Cel w' (w.heap.size + 1) ⟨k2, a2, b2, d2, ⟨p2, q2, e2⟩, ⟨r2, s2, f2⟩⟩ ∧ Cel w' jB ⟨k2, a2, b2, d2, ⟨p2, q2, e2⟩, ⟨r2, s2, f2⟩⟩ ∧ Cel w' kB ⟨k2, a2, b2, d2, ⟨p2, q2, e2⟩, ⟨r2, s2, f2⟩⟩) W9) := ⟨HS.out.1.below hA, HS.out.2.1.below hA, HS.out.2.2.1.below hA, HS.out.2.2.2.below hA⟩; replace HB := Lib.hid (bt HB.out hA); clear hA) | (go_at_call 10; (with_reducible refine (Q3.out _).mono ?_); rintro e' W9 ⟨rfl, hA⟩; replace HS : Hid ((fun w' => Cel w' w.heap.size ⟨k, a, b, d, ⟨p, q, e⟩, ⟨r, s, f⟩⟩ ∧ Cel w' (w.heap.size + 1) ⟨k2, a2, b2, d2, ⟨p2, q2, e2⟩, ⟨r2, s2, f2⟩⟩ ∧ Cel w' jB ⟨k2, a2, b2, d2, ⟨p2, q2, e2⟩, ⟨r2, s2, f2⟩⟩ ∧ Cel w' kB ⟨k2, a2, b2, d2, ⟨p2, q2, e2⟩, ⟨r2, s2, f2⟩⟩) W9) := ⟨HS.out.1.below hA, HS.out.2.1.below hA, HS.out.2.2.1.below hA, HS.out.2.2.2.below hA⟩; replace HB := Lib.hid (bt HB.out hA); clear hA) | (go_at_call 10; (with_reducible refine (Q4.out _).mono ?_); rintro e' W9 ⟨rfl, hA⟩; replace HS : Hid ((fun w' => Cel w' w.heap.size ⟨k, a, b, d, ⟨p, q, e⟩, ⟨r, s, f⟩⟩ ∧ Cel w' (w.heap.size + 1) ⟨k2, a2, b2, d2, ⟨p2, q2, e2⟩, ⟨r2, s2, f2⟩⟩ ∧ Cel w' jB ⟨k2, a2, b2, d2, ⟨p2, q2, e2⟩, ⟨r2, s2, f2⟩⟩ ∧ Cel w' kB ⟨k2, a2, b2, d2, ⟨p2, q2, e2⟩, ⟨r2, s2, f2⟩⟩) W9) := ⟨HS.out.1.below hA, HS.out.2.1.below hA, HS.out.2.2.1.below hA, HS.out.2.2.2.below hA⟩; replace HB := Lib.hid (bt HB.out hA); clear hA) | (go_at_call 12; (with_reducible refine (Q5.out _).mono ?_); rintro e' W9 ⟨rfl, hA⟩; replace HS : Hid ((fun w' => Cel w' w.heap.size ⟨k, a, b, d, ⟨p, q, e⟩, ⟨r, s, f⟩⟩ ∧ Cel w' (w.heap.size + 1) ⟨k2, a2, b2, d2, ⟨p2, q2, e2⟩, ⟨r2, s2, f2⟩⟩ ∧ Cel w' jB ⟨k2, a2, b2, d2, ⟨p2, q2, e2⟩, ⟨r2, s2, f2⟩⟩ ∧ Cel w' kB ⟨k2, a2, b2, d2, ⟨p2, q2, e2⟩, ⟨r2, s2, f2⟩⟩) W9) := ⟨HS.out.1.below hA, HS.out.2.1.below hA, HS.out.2.2.1.below hA, HS.out.2.2.2.below hA⟩; replace HB := Lib.hid (bt HB.out hA); clear hA)); refine hK.out _ _ ?_ (fun hHeld => ?_)))
      · first | with_reducible exact HS.out | exact ⟨HS.out.1.drew, HS.out.2.1.drew, HS.out.2.2.1.drew, HS.out.2.2.2.drew⟩
      clear hK K
      try simp only [Act.put, List.setIfInBounds_toArray, List.set_cons_zero, List.set_cons_succ]
      first | (refine tw (i := 63) (v := ?_) ?_ hHeld ?_; rotate_left; focus (intro w hSw; (try dsimp only at hSw); (try simp only [Cel] at hSw); go_simp; (try with_reducible rfl); done)) | refine tn (i := 63) hHeld ?_
      try simp only [Act.put, List.setIfInBounds_toArray, List.set_cons_zero, List.set_cons_succ]
      first | (refine tw (i := 64) (v := ?_) ?_ hHeld ?_; rotate_left; focus (intro w hSw; (try dsimp only at hSw); (try simp only [Cel] at hSw); go_simp; (try with_reducible rfl); done)) | refine tn (i := 64) hHeld ?_
      try simp only [Act.put, List.setIfInBounds_toArray, List.set_cons_zero, List.set_cons_succ]
      refine wpAnyH_done (by kernel_rfl) ?_ _
      obtain ⟨c0, c1, c2, c3, c4, c5, c6, c7, c8, c9⟩ := id HS.out.1
      obtain ⟨u0, u1, u2, u3, u4, u5, u6, u7, u8, u9⟩ := id HS.out.2.1
      go_wp2_with fail
      refine (Q6.out _).mono ?_
      rintro e' W10 ⟨rfl, hA⟩
      replace HS : Hid ((fun w' => Cel w' w.heap.size ⟨k, a, b, d, ⟨p, q, e⟩, ⟨r, s, f⟩⟩ ∧ Cel w' (w.heap.size + 1) ⟨k2, a2, b2, d2, ⟨p2, q2, e2⟩, ⟨r2, s2, f2⟩⟩ ∧ Cel w' jB ⟨k2, a2, b2, d2, ⟨p2, q2, e2⟩, ⟨r2, s2, f2⟩⟩ ∧ Cel w' kB ⟨k2, a2, b2, d2, ⟨p2, q2, e2⟩, ⟨r2, s2, f2⟩⟩) W10) := ⟨HS.out.1.below hA, HS.out.2.1.below hA, HS.out.2.2.1.below hA, HS.out.2.2.2.below hA⟩
      replace HB := Lib.hid (bt HB.out hA)
      clear hA
      clear c0 c1 c2 c3 c4 c5 c6 c7 c8 c9 u0 u1 u2 u3 u4 u5 u6 u7 u8 u9
      obtain ⟨c0, c1, c2, c3, c4, c5, c6, c7, c8, c9⟩ := id HS.out.1
      obtain ⟨u0, u1, u2, u3, u4, u5, u6, u7, u8, u9⟩ := id HS.out.2.1
      obtain ⟨A0, A1, A2, A3, A4, A5, A6, A7, A8, A9⟩ := id HS.out.2.2.1
      go_wp2
      go_ret
      exact ⟨rfl, HB.out⟩
    · have hz := E1.symm.trans hJ1
      subst hz
      have hz := E2.symm.trans hJ2
      simp only [St.mk.injEq, Ve.mk.injEq] at hz
      obtain ⟨rfl, rfl, rfl, rfl, ⟨rfl, rfl, rfl⟩, rfl, rfl, rfl⟩ := hz
      (try simp only at hv h3 m1 m2 hv2 hsd)
      have Q1 := Lib.hid (fun w => chk_at E6 w)
      have Q2 := Lib.hid (fun w => join_at E3 w)
      have Q3 := Lib.hid (fun w => join_at E4 w)
      have Q4 := Lib.hid (fun w => join_at E5 w)
      have Q5 := Lib.hid (fun w => rvj_at m1.symm m2.symm w)
      have Q6 := Lib.hid (fun w => rcmp_at h3 w)
      have v1 := fun W => vne_at (a := a) (b := b) (c := a2) (d := b2) (x := false) (vdec hv) W
      have v2 := fun W => veq_at (a := a) (b := b) (c := a2) (d := b2) (x := false) (vdec hv) W
      have v3 := fun W => vne_at (a := za) (b := zb) (c := za) (d := zb) (x := true) (by simp) W
      have eqn1 := fun W => sne_same zk za zb zd zp zq ze zr zs zf W
      have eqn2 := fun W => vereq zp zq ze W
      have eqn3 := fun W => vereq zr zs zf W
      have hsd := Lib.hid hsd
      clear hJ1 hJ2 E1 E2 E3 E4 E5 E6 h3 m1 m2 hv hv2 HW HX HY
      go_wp2_with fail
      have HS : Hid ((fun w' => Cel w' w.heap.size ⟨k, a, b, d, ⟨p, q, e⟩, ⟨r, s, f⟩⟩ ∧ Cel w' (w.heap.size + 1) ⟨k2, a2, b2, d2, ⟨p2, q2, e2⟩, ⟨r2, s2, f2⟩⟩ ∧ Cel w' jB ⟨zk, za, zb, zd, ⟨zp, zq, ze⟩, ⟨zr, zs, zf⟩⟩ ∧ Cel w' kB ⟨zk, za, zb, zd, ⟨zp, zq, ze⟩, ⟨zr, zs, zf⟩⟩) wc.drew) := ⟨HS.out.1.drew, HS.out.2.1.drew, HS.out.2.2.1.drew, HS.out.2.2.2.drew⟩
      replace HB := Lib.hid HB.out.drew
      refine wp_region_held_drew (S := (fun w' => Cel w' w.heap.size ⟨k, a, b, d, ⟨p, q, e⟩, ⟨r, s, f⟩⟩ ∧ Cel w' (w.heap.size + 1) ⟨k2, a2, b2, d2, ⟨p2, q2, e2⟩, ⟨r2, s2, f2⟩⟩ ∧ Cel w' jB ⟨zk, za, zb, zd, ⟨zp, zq, ze⟩, ⟨zr, zs, zf⟩⟩ ∧ Cel w' kB ⟨zk, za, zb, zd, ⟨zp, zq, ze⟩, ⟨zr, zs, zf⟩⟩)) (by kernel_rfl) ?_ (fun hHeld => ?_)
      · first | with_reducible exact HS.out | exact ⟨HS.out.1.drew, HS.out.2.1.drew, HS.out.2.2.1.drew, HS.out.2.2.2.drew⟩
      first | (refine tw (i := 0) (v := ?_) ?_ hHeld ?_; rotate_left; focus (intro w hSw; (try dsimp only at hSw); (try simp only [Cel] at hSw); go_simp; (try with_reducible rfl); done)) | refine tn (i := 0) hHeld ?_
      try simp only [Act.put, List.setIfInBounds_toArray, List.set_cons_zero, List.set_cons_succ]
      refine call_next (i := 1) (by kernel_rfl) (by rfl) ?_
      intro o ho K hK
      simp only [List.getElem?_toArray, List.getElem?_cons_succ, List.getElem?_cons_zero, Option.some.injEq] at ho
      subst ho
      first | (fail; refine hK.out _ _ ?_ (fun hHeld => ?_)) | (go_simp; first | (with_reducible refine hK.out _ _ ?_ (fun hHeld => ?_)) | ((first | (go_at_call 11; (with_reducible refine (Q1.out _).mono ?_); rintro e' W9 ⟨rfl, hA⟩; replace HS : Hid ((fun w' => Cel w' w.heap.size ⟨k, a, b, d, ⟨p, q, e⟩, ⟨r, s, f⟩⟩ ∧ Cel w' (w.heap.size + 1) ⟨k2, a2, b2, d2, ⟨p2, q2, e2⟩, ⟨r2, s2, f2⟩⟩ ∧ Cel w' jB ⟨zk, za, zb, zd, ⟨zp, zq, ze⟩, ⟨zr, zs, zf⟩⟩ ∧ Cel w' kB ⟨zk, za, zb, zd, ⟨zp, zq, ze⟩, ⟨zr, zs, zf⟩⟩) W9) := ⟨HS.out.1.below hA, HS.out.2.1.below hA, HS.out.2.2.1.below hA, HS.out.2.2.2.below hA⟩; replace HB := Lib.hid (bt HB.out hA); clear hA) | (go_at_call 10; (with_reducible refine (Q2.out _).mono ?_); rintro e' W9 ⟨rfl, hA⟩; replace HS : Hid ((fun w' => Cel w' w.heap.size ⟨k, a, b, d, ⟨p, q, e⟩, ⟨r, s, f⟩⟩ ∧ Cel w' (w.heap.size + 1) ⟨k2, a2, b2, d2, ⟨p2, q2, e2⟩, ⟨r2, s2, f2⟩⟩ ∧ Cel w' jB ⟨zk, za, zb, zd, ⟨zp, zq, ze⟩, ⟨zr, zs, zf⟩⟩ ∧ Cel w' kB ⟨zk, za, zb, zd, ⟨zp, zq, ze⟩, ⟨zr, zs, zf⟩⟩) W9) := ⟨HS.out.1.below hA, HS.out.2.1.below hA, HS.out.2.2.1.below hA, HS.out.2.2.2.below hA⟩; replace HB := Lib.hid (bt HB.out hA); clear hA) | (go_at_call 10; (with_reducible refine (Q3.out _).mono ?_); rintro e' W9 ⟨rfl, hA⟩; replace HS : Hid ((fun w' => Cel w' w.heap.size ⟨k, a, b, d, ⟨p, q, e⟩, ⟨r, s, f⟩⟩ ∧ Cel w' (w.heap.size + 1) ⟨k2, a2, b2, d2, ⟨p2, q2, e2⟩, ⟨r2, s2, f2⟩⟩ ∧ Cel w' jB ⟨zk, za, zb, zd, ⟨zp, zq, ze⟩, ⟨zr, zs, zf⟩⟩ ∧ Cel w' kB ⟨zk, za, zb, zd, ⟨zp, zq, ze⟩, ⟨zr, zs, zf⟩⟩) W9) := ⟨HS.out.1.below hA, HS.out.2.1.below hA, HS.out.2.2.1.below hA, HS.out.2.2.2.below hA⟩; replace HB := Lib.hid (bt HB.out hA); clear hA) | (go_at_call 10; (with_reducible refine (Q4.out _).mono ?_); rintro e' W9 ⟨rfl, hA⟩; replace HS : Hid ((fun w' => Cel w' w.heap.size ⟨k, a, b, d, ⟨p, q, e⟩, ⟨r, s, f⟩⟩ ∧ Cel w' (w.heap.size + 1) ⟨k2, a2, b2, d2, ⟨p2, q2, e2⟩, ⟨r2, s2, f2⟩⟩ ∧ Cel w' jB ⟨zk, za, zb, zd, ⟨zp, zq, ze⟩, ⟨zr, zs, zf⟩⟩ ∧ Cel w' kB ⟨zk, za, zb, zd, ⟨zp, zq, ze⟩, ⟨zr, zs, zf⟩⟩) W9) := ⟨HS.out.1.below hA, HS.out.2.1.below hA, HS.out.2.2.1.below hA, HS.out.2.2.2.below hA⟩; replace HB := Lib.hid (bt HB.out hA); clear hA) | (go_at_call 12; (with_reducible refine (Q5.out _).mono ?_); rintro e' W9 ⟨rfl, hA⟩; replace HS : Hid ((fun w' => Cel w' w.heap.size ⟨k, a, b, d, ⟨p, q, e⟩, ⟨r, s, f⟩⟩ ∧ Cel w' (w.heap.size + 1) ⟨k2, a2, b2, d2, ⟨p2, q2, e2⟩, ⟨r2, s2, f2⟩⟩ ∧ Cel w' jB ⟨zk, za, zb, zd, ⟨zp, zq, ze⟩, ⟨zr, zs, zf⟩⟩ ∧ Cel w' kB ⟨zk, za, zb, zd, ⟨zp, zq, ze⟩, ⟨zr, zs, zf⟩⟩) W9) := ⟨HS.out.1.below hA, HS.out.2.1.below hA, HS.out.2.2.1.below hA, HS.out.2.2.2.below hA⟩; replace HB := Lib.hid (bt HB.out hA); clear hA)); refine hK.out _ _ ?_ (fun hHeld => ?_)))
      · first | with_reducible exact HS.out | exact ⟨HS.out.1.drew, HS.out.2.1.drew, HS.out.2.2.1.drew, HS.out.2.2.2.drew⟩
      clear hK K
      try simp only [Act.put, List.setIfInBounds_toArray, List.set_cons_zero, List.set_cons_succ]
      first | (refine tw (i := 2) (v := ?_) ?_ hHeld ?_; rotate_left; focus (intro w hSw; (try dsimp only at hSw); (try simp only [Cel] at hSw); go_simp; (try with_reducible rfl); done)) | refine tn (i := 2) hHeld ?_
      try simp only [Act.put, List.setIfInBounds_toArray, List.set_cons_zero, List.set_cons_succ]
      first | (refine tw (i := 3) (v := ?_) ?_ hHeld ?_; rotate_left; focus (intro w hSw; (try dsimp only at hSw); (try simp only [Cel] at hSw); go_simp; (try with_reducible rfl); done)) | refine tn (i := 3) hHeld ?_
      try simp only [Act.put, List.setIfInBounds_toArray, List.set_cons_zero, List.set_cons_succ]
      first | (refine tw (i := 4) (v := ?_) ?_ hHeld ?_; rotate_left; focus (intro w hSw; (try dsimp only at hSw); (try simp only [Cel] at hSw); go_simp; (try with_reducible rfl); done)) | refine tn (i := 4) hHeld ?_
      try simp only [Act.put, List.setIfInBounds_toArray, List.set_cons_zero, List.set_cons_succ]
      first | (refine tw (i := 5) (v := ?_) ?_ hHeld ?_; rotate_left; focus (intro w hSw; (try dsimp only at hSw); (try simp only [Cel] at hSw); go_simp; (try with_reducible rfl); done)) | refine tn (i := 5) hHeld ?_
      try simp only [Act.put, List.setIfInBounds_toArray, List.set_cons_zero, List.set_cons_succ]
      first | (refine tw (i := 6) (v := ?_) ?_ hHeld ?_; rotate_left; focus (intro w hSw; (try dsimp only at hSw); (try simp only [Cel] at hSw); go_simp; (try with_reducible rfl); done)) | refine tn (i := 6) hHeld ?_
      try simp only [Act.put, List.setIfInBounds_toArray, List.set_cons_zero, List.set_cons_succ]
      first | (refine tw (i := 7) (v := ?_) ?_ hHeld ?_; rotate_left; focus (intro w hSw; (try dsimp only at hSw); (try simp only [Cel] at hSw); go_simp; (try with_reducible rfl); done)) | refine tn (i := 7) hHeld ?_
      try simp only [Act.put, List.setIfInBounds_toArray, List.set_cons_zero, List.set_cons_succ]
      first | (refine tw (i := 8) (v := ?_) ?_ hHeld ?_; rotate_left; focus (intro w hSw; (try dsimp only at hSw); (try simp only [Cel] at hSw); go_simp; (try with_reducible rfl); done)) | refine tn (i := 8) hHeld ?_
      try simp only [Act.put, List.setIfInBounds_toArray, List.set_cons_zero, List.set_cons_succ]
      first | (refine tw (i := 9) (v := ?_) ?_ hHeld ?_; rotate_left; focus (intro w hSw; (try dsimp only at hSw); (try simp only [Cel] at hSw); go_simp; (try with_reducible rfl); done)) | refine tn (i := 9) hHeld ?_
      try simp only [Act.put, List.setIfInBounds_toArray, List.set_cons_zero, List.set_cons_succ]
      first | (refine tw (i := 10) (v := ?_) ?_ hHeld ?_; rotate_left; focus (intro w hSw; (try dsimp only at hSw); (try simp only [Cel] at hSw); go_simp; (try with_reducible rfl); done)) | refine tn (i := 10) hHeld ?_
      try simp only [Act.put, List.setIfInBounds_toArray, List.set_cons_zero, List.set_cons_succ]
      first | (refine tw (i := 11) (v := ?_) ?_ hHeld ?_; rotate_left; focus (intro w hSw; (try dsimp only at hSw); (try simp only [Cel] at hSw); go_simp; (try with_reducible rfl); done)) | refine tn (i := 11) hHeld ?_
      try simp only [Act.put, List.setIfInBounds_toArray, List.set_cons_zero, List.set_cons_succ]
      first | (refine tw (i := 12) (v := ?_) ?_ hHeld ?_; rotate_left; focus (intro w hSw; (try dsimp only at hSw); (try simp only [Cel] at hSw); go_simp; (try with_reducible rfl); done)) | refine tn (i := 12) hHeld ?_
      try simp only [Act.put, List.setIfInBounds_toArray, List.set_cons_zero, List.set_cons_succ]
      first | (refine tw (i := 13) (v := ?_) ?_ hHeld ?_; rotate_left; focus (intro w hSw; (try dsimp only at hSw); (try simp only [Cel] at hSw); go_simp; (try with_reducible rfl); done)) | refine tn (i := 13) hHeld ?_
      try simp only [Act.put, List.setIfInBounds_toArray, List.set_cons_zero, List.set_cons_succ]
      first | (refine tw (i := 14) (v := ?_) ?_ hHeld ?_; rotate_left; focus (intro w hSw; (try dsimp only at hSw); (try simp only [Cel] at hSw); go_simp; (try with_reducible rfl); done)) | refine tn (i := 14) hHeld ?_
      try simp only [Act.put, List.setIfInBounds_toArray, List.set_cons_zero, List.set_cons_succ]
      first | (refine tw (i := 15) (v := ?_) ?_ hHeld ?_; rotate_left; focus (intro w hSw; (try dsimp only at hSw); (try simp only [Cel] at hSw); go_simp; (try with_reducible rfl); done)) | refine tn (i := 15) hHeld ?_
      try simp only [Act.put, List.setIfInBounds_toArray, List.set_cons_zero, List.set_cons_succ]
      first | (refine tw (i := 16) (v := ?_) ?_ hHeld ?_; rotate_left; focus (intro w hSw; (try dsimp only at hSw); (try simp only [Cel] at hSw); go_simp; (try with_reducible rfl); done)) | refine tn (i := 16) hHeld ?_
      try simp only [Act.put, List.setIfInBounds_toArray, List.set_cons_zero, List.set_cons_succ]
      first | (refine tw (i := 17) (v := ?_) ?_ hHeld ?_; rotate_left; focus (intro w hSw; (try dsimp only at hSw); (try simp only [Cel] at hSw); go_simp; (try with_reducible rfl); done)) | refine tn (i := 17) hHeld ?_
      try simp only [Act.put, List.setIfInBounds_toArray, List.set_cons_zero, List.set_cons_succ]
      first | (refine tw (i := 18) (v := ?_) ?_ hHeld ?_; rotate_left; focus (intro w hSw; (try dsimp only at hSw); (try simp only [Cel] at hSw); go_simp; (try with_reducible rfl); done)) | refine tn (i := 18) hHeld ?_
      try simp only [Act.put, List.setIfInBounds_toArray, List.set_cons_zero, List.set_cons_succ]
      first | (refine tw (i := 19) (v := ?_) ?_ hHeld ?_; rotate_left; focus (intro w hSw; (try dsimp only at hSw); (try simp only [Cel] at hSw); go_simp; (try with_reducible rfl); done)) | refine tn (i := 19) hHeld ?_
      try simp only [Act.put, List.setIfInBounds_toArray, List.set_cons_zero, List.set_cons_succ]
      first | (refine tw (i := 20) (v := ?_) ?_ hHeld ?_; rotate_left; focus (intro w hSw; (try dsimp only at hSw); (try simp only [Cel] at hSw); go_simp; (try with_reducible rfl); done)) | refine tn (i := 20) hHeld ?_
      try simp only [Act.put, List.setIfInBounds_toArray, List.set_cons_zero, List.set_cons_succ]
      first | (refine tw (i := 21) (v := ?_) ?_ hHeld ?_; rotate_left; focus (intro w hSw; (try dsimp only at hSw); (try simp only [Cel] at hSw); go_simp; (try with_reducible rfl); done)) | refine tn (i := 21) hHeld ?_
      try simp only [Act.put, List.setIfInBounds_toArray, List.set_cons_zero, List.set_cons_succ]
      first | (refine tw (i := 22) (v := ?_) ?_ hHeld ?_; rotate_left; focus (intro w hSw; (try dsimp only at hSw); (try simp only [Cel] at hSw); go_simp; (try with_reducible rfl); done)) | refine tn (i := 22) hHeld ?_
      try simp only [Act.put, List.setIfInBounds_toArray, List.set_cons_zero, List.set_cons_succ]
      first | (refine tw (i := 23) (v := ?_) ?_ hHeld ?_; rotate_left; focus (intro w hSw; (try dsimp only at hSw); (try simp only [Cel] at hSw); go_simp; (try with_reducible rfl); done)) | refine tn (i := 23) hHeld ?_
      try simp only [Act.put, List.setIfInBounds_toArray, List.set_cons_zero, List.set_cons_succ]
      first | (refine tw (i := 24) (v := ?_) ?_ hHeld ?_; rotate_left; focus (intro w hSw; (try dsimp only at hSw); (try simp only [Cel] at hSw); go_simp; (try with_reducible rfl); done)) | refine tn (i := 24) hHeld ?_
      try simp only [Act.put, List.setIfInBounds_toArray, List.set_cons_zero, List.set_cons_succ]
      first | (refine tw (i := 25) (v := ?_) ?_ hHeld ?_; rotate_left; focus (intro w hSw; (try dsimp only at hSw); (try simp only [Cel] at hSw); go_simp; (try with_reducible rfl); done)) | refine tn (i := 25) hHeld ?_
      try simp only [Act.put, List.setIfInBounds_toArray, List.set_cons_zero, List.set_cons_succ]
      first | (refine tw (i := 26) (v := ?_) ?_ hHeld ?_; rotate_left; focus (intro w hSw; (try dsimp only at hSw); (try simp only [Cel] at hSw); go_simp; (try with_reducible rfl); done)) | refine tn (i := 26) hHeld ?_
      try simp only [Act.put, List.setIfInBounds_toArray, List.set_cons_zero, List.set_cons_succ]
      first | (refine tw (i := 27) (v := ?_) ?_ hHeld ?_; rotate_left; focus (intro w hSw; (try dsimp only at hSw); (try simp only [Cel] at hSw); go_simp; (try with_reducible rfl); done)) | refine tn (i := 27) hHeld ?_
      try simp only [Act.put, List.setIfInBounds_toArray, List.set_cons_zero, List.set_cons_succ]
      first | (refine tw (i := 28) (v := ?_) ?_ hHeld ?_; rotate_left; focus (intro w hSw; (try dsimp only at hSw); (try simp only [Cel] at hSw); go_simp; (try with_reducible rfl); done)) | refine tn (i := 28) hHeld ?_
      try simp only [Act.put, List.setIfInBounds_toArray, List.set_cons_zero, List.set_cons_succ]
      first | (refine tw (i := 29) (v := ?_) ?_ hHeld ?_; rotate_left; focus (intro w hSw; (try dsimp only at hSw); (try simp only [Cel] at hSw); go_simp; (try with_reducible rfl); done)) | refine tn (i := 29) hHeld ?_
      try simp only [Act.put, List.setIfInBounds_toArray, List.set_cons_zero, List.set_cons_succ]
      first | (refine tw (i := 31) (v := ?_) ?_ hHeld ?_; rotate_left; focus (intro w hSw; (try dsimp only at hSw); (try simp only [Cel] at hSw); go_simp; (try with_reducible rfl); done)) | refine tn (i := 31) hHeld ?_
      try simp only [Act.put, List.setIfInBounds_toArray, List.set_cons_zero, List.set_cons_succ]
      refine call_next (i := 30) (by kernel_rfl) (by rfl) ?_
      intro o ho K hK
      simp only [List.getElem?_toArray, List.getElem?_cons_succ, List.getElem?_cons_zero, Option.some.injEq] at ho
      subst ho
      first | (fail; refine hK.out _ _ ?_ (fun hHeld => ?_)) | (go_simp; first | (with_reducible refine hK.out _ _ ?_ (fun hHeld => ?_)) | ((first | (go_at_call 11; (with_reducible refine (Q1.out _).mono ?_); rintro e' W9 ⟨rfl, hA⟩; replace HS : Hid ((fun w' => Cel w' w.heap.size ⟨k, a, b, d, ⟨p, q, e⟩, ⟨r, s, f⟩⟩ ∧ Cel w' (w.heap.size + 1) ⟨k2, a2, b2, d2, ⟨p2, q2, e2⟩, ⟨r2, s2, f2⟩⟩ ∧ Cel w' jB ⟨zk, za, zb, zd, ⟨zp, zq, ze⟩, ⟨zr, zs, zf⟩⟩ ∧ Cel w' kB ⟨zk, za, zb, zd, ⟨zp, zq, ze⟩, ⟨zr, zs, zf⟩⟩) W9) := ⟨HS.out.1.below hA, HS.out.2.1.below hA, HS.out.2.2.1.below hA, HS.out.2.2.2.below hA⟩; replace HB := Lib.hid (bt HB.out hA); clear hA) | (go_at_call 10; (with_reducible refine (Q2.out _).mono ?_); rintro e' W9 ⟨rfl, hA⟩; replace HS : Hid ((fun w' => Cel w' w.heap.size ⟨k, a, b, d, ⟨p, q, e⟩, ⟨r, s, f⟩⟩ ∧ Cel w' (w.heap.size + 1) ⟨k2, a2, b2, d2, ⟨p2, q2, e2⟩, ⟨r2, s2, f2⟩⟩ ∧ Cel w' jB ⟨zk, za, zb, zd, ⟨zp, zq, ze⟩, ⟨zr, zs, zf⟩⟩ ∧ Cel w' kB ⟨zk, za, zb, zd, ⟨zp, zq, ze⟩, ⟨zr, zs, zf⟩⟩) W9) := ⟨HS.out.1.below hA, HS.out.2.1.below hA, HS.out.2.2.1.below hA, HS.out.2.2.2.below hA⟩; replace HB := Lib.hid (bt HB.out hA); clear hA) | (go_at_call 10; (with_reducible refine (Q3.out _).mono ?_); rintro e' W9 ⟨rfl, hA⟩; replace HS : Hid ((fun w' => Cel w' w.heap.size ⟨k, a, b, d, ⟨p, q, e⟩, ⟨r, s, f⟩⟩ ∧ Cel w' (w.heap.size + 1) ⟨k2, a2, b2, d2, ⟨p2, q2, e2⟩, ⟨r2, s2, f2⟩⟩ ∧ Cel w' jB ⟨zk, za, zb, zd, ⟨zp, zq, ze⟩, ⟨zr, zs, zf⟩⟩ ∧ Cel w' kB ⟨zk, za, zb, zd, ⟨zp, zq, ze⟩, ⟨zr, zs, zf⟩⟩) W9) := ⟨HS.out.1.below hA, HS.out.2.1.below hA, HS.out.2.2.1.below hA, HS.out.2.2.2.below hA⟩; replace HB := Lib.hid (bt HB.out hA); clear hA) | (go_at_call 10; (with_reducible refine (Q4.out _).mono ?_); rintro e' W9 ⟨rfl, hA⟩; replace HS : Hid ((fun w' => Cel w' w.heap.size ⟨k, a, b, d, ⟨p, q, e⟩, ⟨r, s, f⟩⟩ ∧ Cel w' (w.heap.size + 1) ⟨k2, a2, b2, d2, ⟨p2, q2, e2⟩, ⟨r2, s2, f2⟩⟩ ∧ Cel w' jB ⟨zk, za, zb, zd, ⟨zp, zq, ze⟩, ⟨zr, zs, zf⟩⟩ ∧ Cel w' kB ⟨zk, za, zb, zd, ⟨zp, zq, ze⟩, ⟨zr, zs, zf⟩⟩) W9) := ⟨HS.out.1.below hA, HS.out.2.1.below hA, HS.out.2.2.1.below hA, HS.out.2.2.2.below hA⟩; replace HB := Lib.hid (bt HB.out hA); clear hA) | (go_at_call 12; (with_reducible refine (Q5.out _).mono ?_); rintro e' W9 ⟨rfl, hA⟩; replace HS : Hid ((fun w' => Cel w' w.heap.size ⟨k, a, b, d, ⟨p, q, e⟩, ⟨r, s, f⟩⟩ ∧ Cel w' (w.heap.size + 1) ⟨k2, a2, b2, d2, ⟨p2, q2, e2⟩, ⟨r2, s2, f2⟩⟩ ∧ Cel w' jB ⟨zk, za, zb, zd, ⟨zp, zq, ze⟩, ⟨zr, zs, zf⟩⟩ ∧ Cel w' kB ⟨zk, za, zb, zd, ⟨zp, zq, ze⟩, ⟨zr, zs, zf⟩⟩) W9) := ⟨HS.out.1.below hA, HS.out.2.1.below hA, HS.out.2.2.1.below hA, HS.out.2.2.2.below hA⟩; replace HB := Lib.hid (bt HB.out hA); clear hA)); refine hK.out _ _ ?_ (fun hHeld => ?_)))
      · first | with_reducible exact HS.out | exact ⟨HS.out.1.drew, HS.out.2.1.drew, HS.out.2.2.1.drew, HS.out.2.2.2.drew⟩
      clear hK K
      try simp only [Act.put, List.setIfInBounds_toArray, List.set_cons_zero, List.set_cons_succ]
      first | (refine tw (i := 32) (v := ?_) ?_ hHeld ?_; rotate_left; focus (intro w hSw; (try dsimp only at hSw); (try simp only [Cel] at hSw); go_simp; (try with_reducible rfl); done)) | refine tn (i := 32) hHeld ?_
      try simp only [Act.put, List.setIfInBounds_toArray, List.set_cons_zero, List.set_cons_succ]
      first | (refine tw (i := 33) (v := ?_) ?_ hHeld ?_; rotate_left; focus (intro w hSw; (try dsimp only at hSw); (try simp only [Cel] at hSw); go_simp; (try with_reducible rfl); done)) | refine tn (i := 33) hHeld ?_
      try simp only [Act.put, List.setIfInBounds_toArray, List.set_cons_zero, List.set_cons_succ]
      first | (refine tw (i := 34) (v := ?_) ?_ hHeld ?_; rotate_left; focus (intro w hSw; (try dsimp only at hSw); (try simp only [Cel] at hSw); go_simp; (try with_reducible rfl); done)) | refine tn (i := 34) hHeld ?_
      try simp only [Act.put, List.setIfInBounds_toArray, List.set_cons_zero, List.set_cons_succ]
      first | (refine tw (i := 35) (v := ?_) ?_ hHeld ?_; rotate_left; focus (intro w hSw; (try dsimp only at hSw); (try simp only [Cel] at hSw); go_simp; (try with_reducible rfl); done)) | refine tn (i := 35) hHeld ?_
      try simp only [Act.put, List.setIfInBounds_toArray, List.set_cons_zero, List.set_cons_succ]
      first | (refine tw (i := 36) (v := ?_) ?_ hHeld ?_; rotate_left; focus (intro w hSw; (try dsimp only at hSw); (try simp only [Cel] at hSw); go_simp; (try with_reducible rfl); done)) | refine tn (i := 36) hHeld ?_
      try simp only [Act.put, List.setIfInBounds_toArray, List.set_cons_zero, List.set_cons_succ]
      first | (refine tw (i := 38) (v := ?_) ?_ hHeld ?_; rotate_left; focus (intro w hSw; (try dsimp only at hSw); (try simp only [Cel] at hSw); go_simp; (try with_reducible rfl); done)) | refine tn (i := 38) hHeld ?_
      try simp only [Act.put, List.setIfInBounds_toArray, List.set_cons_zero, List.set_cons_succ]
      refine call_next (i := 37) (by kernel_rfl) (by rfl) ?_
      intro o ho K hK
      simp only [List.getElem?_toArray, List.getElem?_cons_succ, List.getElem?_cons_zero, Option.some.injEq] at ho
      subst ho
      first | (fail; refine hK.out _ _ ?_ (fun hHeld => ?_)) | (go_simp; first | (with_reducible refine hK.out _ _ ?_ (fun hHeld => ?_)) | ((first | (go_at_call 11; (with_reducible refine (Q1.out _).mono ?_); rintro e' W9 ⟨rfl, hA⟩; replace HS : Hid ((fun w' => Cel w' w.heap.size ⟨k, a, b, d, ⟨p, q, e⟩, ⟨r, s, f⟩⟩ ∧ Cel w' (w.heap.size + 1) ⟨k2, a2, b2, d2, ⟨p2, q2, e2⟩, ⟨r2, s2, f2⟩⟩ ∧ Cel w' jB ⟨zk, za, zb, zd, ⟨zp, zq, ze⟩, ⟨zr, zs, zf⟩⟩ ∧ Cel w' kB ⟨zk, za, zb, zd, ⟨zp, zq, ze⟩, ⟨zr, zs, zf⟩⟩) W9) := ⟨HS.out.1.below hA, HS.out.2.1.below hA, HS.out.2.2.1.below hA, HS.out.2.2.2.below hA⟩; replace HB := Lib.hid (bt HB.out hA); clear hA) | (go_at_call 10; (with_reducible refine (Q2.out _).mono ?_); rintro e' W9 ⟨rfl, hA⟩; replace HS : Hid ((fun w' => Cel w' w.heap.size ⟨k, a, b, d, ⟨p, q, e⟩, ⟨r, s, f⟩⟩ ∧ Cel w' (w.heap.size + 1) ⟨k2, a2, b2, d2, ⟨p2, q2, e2⟩, ⟨r2, s2, f2⟩⟩ ∧ Cel w' jB ⟨zk, za, zb, zd, ⟨zp, zq, ze⟩, ⟨zr, zs, zf⟩⟩ ∧ Cel w' kB ⟨zk, za, zb, zd, ⟨zp, zq, ze⟩, ⟨zr, zs, zf⟩⟩) W9) := ⟨HS.out.1.below hA, HS.out.2.1.below hA, HS.out.2.2.1.below hA, HS.out.2.2.2.below hA⟩; replace HB := Lib.hid (bt HB.out hA); clear hA) | (go_at_call 10; (with_reducible refine (Q3.out _).mono ?_); rintro e' W9 ⟨rfl, hA⟩; replace HS : Hid ((fun w' => Cel w' w.heap.size ⟨k, a, b, d, ⟨p, q, e⟩, ⟨r, s, f⟩⟩ ∧ Cel w' (w.heap.size + 1) ⟨k2, a2, b2, d2, ⟨p2, q2, e2⟩, ⟨r2, s2, f2⟩⟩ ∧ Cel w' jB ⟨zk, za, zb, zd, ⟨zp, zq, ze⟩, ⟨zr, zs, zf⟩⟩ ∧ Cel w' kB ⟨zk, za, zb, zd, ⟨zp, zq, ze⟩, ⟨zr, zs, zf⟩⟩) W9) := ⟨HS.out.1.below hA, HS.out.2.1.below hA, HS.out.2.2.1.below hA, HS.out.2.2.2.below hA⟩; replace HB := Lib.hid (bt HB.out hA); clear hA) | (go_at_call 10; (with_reducible refine (Q4.out _).mono ?_); rintro e' W9 ⟨rfl, hA⟩; replace HS : Hid ((fun w' => Cel w' w.heap.size ⟨k, a, b, d, ⟨p, q, e⟩, ⟨r, s, f⟩⟩ ∧ Cel w' (w.heap.size + 1) ⟨k2, a2, b2, d2, ⟨p2, q2, e2⟩, ⟨r2, s2, f2⟩⟩ ∧ Cel w' jB ⟨zk, za, zb, zd, ⟨zp, zq, ze⟩, ⟨zr, zs, zf⟩⟩ ∧ Cel w' kB ⟨zk, za, zb, zd, ⟨zp, zq, ze⟩, ⟨zr, zs, zf⟩⟩) W9) := ⟨HS.out.1.below hA, HS.out.2.1.below hA, HS.out.2.2.1.below hA, HS.out.2.2.2.below hA⟩; replace HB := Lib.hid (bt HB.out hA); clear hA) | (go_at_call 12; (with_reducible refine (Q5.out _).mono ?_); rintro e' W9 ⟨rfl, hA⟩; replace HS : Hid ((fun w' => Cel w' w.heap.size ⟨k, a, b, d, ⟨p, q, e⟩, ⟨r, s, f⟩⟩ ∧ Cel w' (w.heap.size + 1) ⟨k2, a2, b2, d2, ⟨p2, q2, e2⟩, ⟨r2, s2, f2⟩⟩ ∧ Cel w' jB ⟨zk, za, zb, zd, ⟨zp, zq, ze⟩, ⟨zr, zs, zf⟩⟩ ∧ Cel w' kB ⟨zk, za, zb, zd, ⟨zp, zq, ze⟩, ⟨zr, zs, zf⟩⟩) W9) := ⟨HS.out.1.below hA, HS.out.2.1.below hA, HS.out.2.2.1.below hA, HS.out.2.2.2.below hA⟩; replace HB := Lib.hid (bt HB.out hA); clear hA)); refine hK.out _ _ ?_ (fun hHeld => ?_)))
      · first | with_reducible exact HS.out | exact ⟨HS.out.1.drew, HS.out.2.1.drew, HS.out.2.2.1.drew, HS.out.2.2.2.drew⟩
      clear hK K
      try simp only [Act.put, List.setIfInBounds_toArray, List.set_cons_zero, List.set_cons_succ]
      first | (refine tw (i := 39) (v := ?_) ?_ hHeld ?_; rotate_left; focus (intro w hSw; (try dsimp only at hSw); (try simp only [Cel] at hSw); go_simp; (try with_reducible rfl); done)) | refine tn (i := 39) hHeld ?_
      try simp only [Act.put, List.setIfInBounds_toArray, List.set_cons_zero, List.set_cons_succ]
      first | (refine tw (i := 40) (v := ?_) ?_ hHeld ?_; rotate_left; focus (intro w hSw; (try dsimp only at hSw); (try simp only [Cel] at hSw); go_simp; (try with_reducible rfl); done)) | refine tn (i := 40) hHeld ?_
      try simp only [Act.put, List.setIfInBounds_toArray, List.set_cons_zero, List.set_cons_succ]
      first | (refine tw (i := 41) (v := ?_) ?_ hHeld ?_; rotate_left; focus (intro w hSw; (try dsimp only at hSw); (try simp only [Cel] at hSw); go_simp; (try with_reducible rfl); done)) | refine tn (i := 41) hHeld ?_
      try simp only [Act.put, List.setIfInBounds_toArray, List.set_cons_zero, List.set_cons_succ]
      first | (refine tw (i := 42) (v := ?_) ?_ hHeld ?_; rotate_left; focus (intro w hSw; (try dsimp only at hSw); (try simp only [Cel] at hSw); go_simp; (try with_reducible rfl); done)) | refine tn (i := 42) hHeld ?_
      try simp only [Act.put, List.setIfInBounds_toArray, List.set_cons_zero, List.set_cons_succ]
      first | (refine tw (i := 43) (v := ?_) ?_ hHeld ?_; rotate_left; focus (intro w hSw; (try dsimp only at hSw); (try simp only [Cel] at hSw); go_simp; (try with_reducible rfl); done)) | refine tn (i := 43) hHeld ?_
      try simp only [Act.put, List.setIfInBounds_toArray, List.set_cons_zero, List.set_cons_succ]
      first | (refine tw (i := 44) (v := ?_) ?_ hHeld ?_; rotate_left; focus (intro w hSw; (try dsimp only at hSw); (try simp only [Cel] at hSw); go_simp; (try with_reducible rfl); done)) | refine tn (i := 44) hHeld ?_
      try simp only [Act.put, List.setIfInBounds_toArray, List.set_cons_zero, List.set_cons_succ]
      first | (refine tw (i := 45) (v := ?_) ?_ hHeld ?_; rotate_left; focus (intro w hSw; (try dsimp only at hSw); (try simp only [Cel] at hSw); go_simp; (try with_reducible rfl); done)) | refine tn (i := 45) hHeld ?_
      try simp only [Act.put, List.setIfInBounds_toArray, List.set_cons_zero, List.set_cons_succ]
      first | (refine tw (i := 46) (v := ?_) ?_ hHeld ?_; rotate_left; focus (intro w hSw; (try dsimp only at hSw); (try simp only [Cel] at hSw); go_simp; (try with_reducible rfl); done)) | refine tn (i := 46) hHeld ?_
      try simp only [Act.put, List.setIfInBounds_toArray, List.set_cons_zero, List.set_cons_succ]
      first | (refine tw (i := 47) (v := ?_) ?_ hHeld ?_; rotate_left; focus (intro w hSw; (try dsimp only at hSw); (try simp only [Cel] at hSw); go_simp; (try with_reducible rfl); done)) | refine tn (i := 47) hHeld ?_
      try simp only [Act.put, List.setIfInBounds_toArray, List.set_cons_zero, List.set_cons_succ]
      first | (refine tw (i := 48) (v := ?_) ?_ hHeld ?_; rotate_left; focus (intro w hSw; (try dsimp only at hSw); (try simp only [Cel] at hSw); go_simp; (try with_reducible rfl); done)) | refine tn (i := 48) hHeld ?_
      try simp only [Act.put, List.setIfInBounds_toArray, List.set_cons_zero, List.set_cons_succ]
      first | (refine tw (i := 49) (v := ?_) ?_ hHeld ?_; rotate_left; focus (intro w hSw; (try dsimp only at hSw); (try simp only [Cel] at hSw); go_simp; (try with_reducible rfl); done)) | refine tn (i := 49) hHeld ?_
      try simp only [Act.put, List.setIfInBounds_toArray, List.set_cons_zero, List.set_cons_succ]
      first | (refine tw (i := 50) (v := ?_) ?_ hHeld ?_; rotate_left; focus (intro w hSw; (try dsimp only at hSw); (try simp only [Cel] at hSw); go_simp; (try with_reducible rfl); done)) | refine tn (i := 50) hHeld ?_
      try simp only [Act.put, List.setIfInBounds_toArray, List.set_cons_zero, List.set_cons_succ]
      first | (refine tw (i := 52) (v := ?_) ?_ hHeld ?_; rotate_left; focus (intro w hSw; (try dsimp only at hSw); (try simp only [Cel] at hSw); go_simp; (try with_reducible rfl); done)) | refine tn (i := 52) hHeld ?_
      try simp only [Act.put, List.setIfInBounds_toArray, List.set_cons_zero, List.set_cons_succ]
      refine call_next (i := 51) (by kernel_rfl) (by rfl) ?_
      intro o ho K hK
      simp only [List.getElem?_toArray, List.getElem?_cons_succ, List.getElem?_cons_zero, Option.some.injEq] at ho
      subst ho
      first | (fail; refine hK.out _ _ ?_ (fun hHeld => ?_)) | (go_simp; first | (with_reducible refine hK.out _ _ ?_ (fun hHeld => ?_)) | ((first | (go_at_call 11; (with_reducible refine (Q1.out _).mono ?_); rintro e' W9 ⟨rfl, hA⟩; replace HS : Hid ((fun w' => Cel w' w.heap.size ⟨k, a, b, d, ⟨p, q, e⟩, ⟨r, s, f⟩⟩ ∧ Cel w' (w.heap.size + 1) ⟨k2, a2, b2, d2, ⟨p2, q2, e2⟩, ⟨r2, s2, f2⟩⟩ ∧ Cel w' jB ⟨zk, za, zb, zd, ⟨zp, zq, ze⟩, ⟨zr, zs, zf⟩⟩ ∧ Cel w' kB ⟨zk, za, zb, zd, ⟨zp, zq, ze⟩, ⟨zr, zs, zf⟩⟩) W9) := ⟨HS.out.1.below hA, HS.out.2.1.below hA, HS.out.2.2.1.below hA, HS.out.2.2.2.below hA⟩; replace HB := Lib.hid (bt HB.out hA); clear hA) | (go_at_call 10; (with_reducible refine (Q2.out _).mono ?_); rintro e' W9 ⟨rfl, hA⟩; replace HS : Hid ((fun w' => Cel w' w.heap.size ⟨k, a, b, d, ⟨p, q, e⟩, ⟨r, s, f⟩⟩ ∧ Cel w' (w.heap.size + 1) ⟨k2, a2, b2, d2, ⟨p2, q2, e2⟩, ⟨r2, s2, f2⟩⟩ ∧ Cel w' jB ⟨zk, za, zb, zd, ⟨zp, zq, ze⟩, ⟨zr, zs, zf⟩⟩ ∧ Cel w' kB ⟨zk, za, zb, zd, ⟨zp, zq, ze⟩, ⟨zr, zs, zf⟩⟩) W9) := ⟨HS.out.1.below hA, HS.out.2.1.below hA, HS.out.2.2.1.below hA, HS.out.2.2.2.below hA⟩; replace HB := Lib.hid (bt HB.out hA); clear hA) | (go_at_call 10; (with_reducible refine (Q3.out _).mono ?_); rintro e' W9 ⟨rfl, hA⟩; replace HS : Hid ((fun w' => Cel w' w.heap.size ⟨k, a, b, d, ⟨p, q, e⟩, ⟨r, s, f⟩⟩ ∧ Cel w' (w.heap.size + 1) ⟨k2, a2, b2, d2, ⟨p2, q2, e2⟩, ⟨r2, s2, f2⟩⟩ ∧ Cel w' jB ⟨zk, za, zb, zd, ⟨zp, zq, ze⟩, ⟨zr, zs, zf⟩⟩ ∧ Cel w' kB ⟨zk, za, zb, zd, ⟨zp, zq, ze⟩, ⟨zr, zs, zf⟩⟩) W9) := ⟨HS.out.1.below hA, HS.out.2.1.below hA, HS.out.2.2.1.below hA, HS.out.2.2.2.below hA⟩; replace HB := Lib.hid (bt HB.out hA); clear hA) | (go_at_call 10; (with_reducible refine (Q4.out _).mono ?_); rintro e' W9 ⟨rfl, hA⟩; replace HS : Hid ((fun w' => Cel w' w.heap.size ⟨k, a, b, d, ⟨p, q, e⟩, ⟨r, s, f⟩⟩ ∧ Cel w' (w.heap.size + 1) ⟨k2, a2, b2, d2, ⟨p2, q2, e2⟩, ⟨r2, s2, f2⟩⟩ ∧ Cel w' jB ⟨zk, za, zb, zd, ⟨zp, zq, ze⟩, ⟨zr, zs, zf⟩⟩ ∧ Cel w' kB ⟨zk, za, zb, zd, ⟨zp, zq, ze⟩, ⟨zr, zs, zf⟩⟩) W9) := ⟨HS.out.1.below hA, HS.out.2.1.below hA, HS.out.2.2.1.below hA, HS.out.2.2.2.below hA⟩; replace HB := Lib.hid (bt HB.out hA); clear hA) | (go_at_call 12; (with_reducible refine (Q5.out _).mono ?_); rintro e' W9 ⟨rfl, hA⟩; replace HS : Hid ((fun w' => Cel w' w.heap.size ⟨k, a, b, d, ⟨p, q, e⟩, ⟨r, s, f⟩⟩ ∧ Cel w' (w.heap.size + 1) ⟨k2, a2, b2, d2, ⟨p2, q2, e2⟩, ⟨r2, s2, f2⟩⟩ ∧ Cel w' jB ⟨zk, za, zb, zd, ⟨zp, zq, ze⟩, ⟨zr, zs, zf⟩⟩ ∧ Cel w' kB ⟨zk, za, zb, zd, ⟨zp, zq, ze⟩, ⟨zr, zs, zf⟩⟩) W9) := ⟨HS.out.1.below hA, HS.out.2.1.below hA, HS.out.2.2.1.below hA, HS.out.2.2.2.below hA⟩; replace HB := Lib.hid (bt HB.out hA); clear hA)); refine hK.out _ _ ?_ (fun hHeld => ?_)))
      · first | with_reducible exact HS.out | exact ⟨HS.out.1.drew, HS.out.2.1.drew, HS.out.2.2.1.drew, HS.out.2.2.2.drew⟩
      clear hK K
      try simp only [Act.put, List.setIfInBounds_toArray, List.set_cons_zero, List.set_cons_succ]
      first | (refine tw (i := 53) (v := ?_) ?_ hHeld ?_; rotate_left; focus (intro w hSw; (try dsimp only at hSw); (try simp only [Cel] at hSw); go_simp; (try with_reducible rfl); done)) | refine tn (i := 53) hHeld ?_
      try simp only [Act.put, List.setIfInBounds_toArray, List.set_cons_zero, List.set_cons_succ]
      first | (refine tw (i := 54) (v := ?_) ?_ hHeld ?_; rotate_left; focus (intro w hSw; (try dsimp only at hSw); (try simp only [Cel] at hSw); go_simp; (try with_reducible rfl); done)) | refine tn (i := 54) hHeld ?_
      try simp only [Act.put, List.setIfInBounds_toArray, List.set_cons_zero, List.set_cons_succ]
      first | (refine tw (i := 55) (v := ?_) ?_ hHeld ?_; rotate_left; focus (intro w hSw; (try dsimp only at hSw); (try simp only [Cel] at hSw); go_simp; (try with_reducible rfl); done)) | refine tn (i := 55) hHeld ?_
      try simp only [Act.put, List.setIfInBounds_toArray, List.set_cons_zero, List.set_cons_succ]
      first | (refine tw (i := 56) (v := ?_) ?_ hHeld ?_; rotate_left; focus (intro w hSw; (try dsimp only at hSw); (try simp only [Cel] at hSw); go_simp; (try with_reducible rfl); done)) | refine tn (i := 56) hHeld ?_
      try simp only [Act.put, List.setIfInBounds_toArray, List.set_cons_zero, List.set_cons_succ]
      first | (refine tw (i := 57) (v := ?_) ?_ hHeld ?_; rotate_left; focus (intro w hSw; (try dsimp only at hSw); (try simp only [Cel] at hSw); go_simp; (try with_reducible rfl); done)) | refine tn (i := 57) hHeld ?_
      try simp only [Act.put, List.setIfInBounds_toArray, List.set_cons_zero, List.set_cons_succ]
      first | (refine tw (i := 58) (v := ?_) ?_ hHeld ?_; rotate_left; focus (intro w hSw; (try dsimp only at hSw); (try simp only [Cel] at hSw); go_simp; (try with_reducible rfl); done)) | refine tn (i := 58) hHeld ?_
      try simp only [Act.put, List.setIfInBounds_toArray, List.set_cons_zero, List.set_cons_succ]
      first | (refine tw (i := 59) (v := ?_) ?_ hHeld ?_; rotate_left; focus (intro w hSw; (try dsimp only at hSw); (try simp only [Cel] at hSw); go_simp; (try with_reducible rfl); done)) | refine tn (i := 59) hHeld ?_
      try simp only [Act.put, List.setIfInBounds_toArray, List.set_cons_zero, List.set_cons_succ]
      first | (refine tw (i := 60) (v := ?_) ?_ hHeld ?_; rotate_left; focus (intro w hSw; (try dsimp only at hSw); (try simp only [Cel] at hSw); go_simp; (try with_reducible rfl); done)) | refine tn (i := 60) hHeld ?_
      try simp only [Act.put, List.setIfInBounds_toArray, List.set_cons_zero, List.set_cons_succ]
      first | (refine tw (i := 61) (v := ?_) ?_ hHeld ?_; rotate_left; focus (intro w hSw; (try dsimp only at hSw); (try simp only [Cel] at hSw); go_simp; (try with_reducible rfl); done)) | refine tn (i := 61) hHeld ?_
      try simp only [Act.put, List.setIfInBounds_toArray, List.set_cons_zero, List.set_cons_succ]
      refine call_next (i := 62) (by kernel_rfl) (by rfl) ?_
      intro o ho K hK
      simp only [List.getElem?_toArray, List.getElem?_cons_succ, List.getElem?_cons_zero, Option.some.injEq] at ho
      subst ho
      first | (fail; refine hK.out _ _ ?_ (fun hHeld => ?_)) | (go_simp; first | (with_reducible refine hK.out _ _ ?_ (fun hHeld => ?_)) | ((first | (go_at_call 11; (with_reducible refine (Q1.out _).mono ?_); rintro e' W9 ⟨rfl, hA⟩; replace HS : Hid ((fun w' => Cel w' w.heap.size ⟨k, a, b, d, ⟨p, q, e⟩, ⟨r, s, f⟩⟩ ∧ Cel w' (w.heap.size + 1) ⟨k2, a2, b2, d2, ⟨p2, q2, e2⟩, ⟨r2, s2, f2⟩⟩ ∧ Cel w' jB ⟨zk, za, zb, zd, ⟨zp, zq, ze⟩, ⟨zr, zs, zf⟩⟩ ∧ Cel w' kB ⟨zk, za, zb, zd, ⟨zp, zq, ze⟩, ⟨zr, zs, zf⟩⟩) W9) := ⟨HS.out.1.below hA, HS.out.2.1.below hA, HS.out.2.2.1.below hA, HS.out.2.2.2.below hA⟩; replace HB := Lib.hid (bt HB.out hA); clear hA) | (go_at_call 10; (with_reducible refine (Q2.out _).mono ?_); rintro e' W9 ⟨rfl, hA⟩; replace HS : Hid ((fun w' => Cel w' w.heap.size ⟨k, a, b, d, ⟨p, q, e⟩, ⟨r, s, f⟩⟩ ∧ Cel w' (w.heap.size + 1) ⟨k2, a2, b2, d2, ⟨p2, q2, e2⟩, ⟨r2, s2, f2⟩⟩ ∧ Cel w' jB ⟨zk, za, zb, zd, ⟨zp, zq, ze⟩, ⟨zr, zs, zf⟩⟩ ∧ Cel w' kB ⟨zk, za, zb, zd, ⟨zp, zq, ze⟩, ⟨zr, zs, zf⟩⟩) W9) := ⟨HS.out.1.below hA, HS.out.2.1.below hA, HS.out.2.2.1.below hA, HS.out.2.2.2.below hA⟩; replace HB := Lib.hid (bt HB.out hA); clear hA) | (go_at_call 10; (with_reducible refine (Q3.out _).mono ?_); rintro e' W9 ⟨rfl, hA⟩; replace HS : Hid ((fun w' => Cel w' w.heap.size ⟨k, a, b, d, ⟨p, q, e⟩, ⟨r, s, f⟩⟩ ∧ Cel w' (w.heap.size + 1) ⟨k2, a2, b2, d2, ⟨p2, q2, e2⟩, ⟨r2, s2, f2⟩⟩ ∧ Cel w' jB ⟨zk, za, zb, zd, ⟨zp, zq, ze⟩, ⟨zr, zs, zf⟩⟩ ∧ Cel w' kB ⟨zk, za, zb, zd, ⟨zp, zq, ze⟩, ⟨zr, zs, zf⟩⟩) W9) := ⟨HS.out.1.below hA, HS.out.2.1.below hA, HS.out.2.2.1.below hA, HS.out.2.2.2.below hA⟩; replace HB := Lib.hid (bt HB.out hA); clear hA) | (go_at_call 10; (with_reducible refine (Q4.out _).mono ?_); rintro e' W9 ⟨rfl, hA⟩; replace HS : Hid ((fun w' => Cel w' w.heap.size ⟨k, a, b, d, ⟨p, q, e⟩, ⟨r, s, f⟩⟩ ∧ Cel w' (w.heap.size + 1) ⟨k2, a2, b2, d2, ⟨p2, q2, e2⟩, ⟨r2, s2, f2⟩⟩ ∧ Cel w' jB ⟨zk, za, zb, zd, ⟨zp, zq, ze⟩, ⟨zr, zs, zf⟩⟩ ∧ Cel w' kB ⟨zk, za, zb, zd, ⟨zp, zq, ze⟩, ⟨zr, zs, zf⟩⟩) W9) := ⟨HS.out.1.below hA, HS.out.2.1.below hA, HS.out.2.2.1.below hA, HS.out.2.2.2.below hA⟩; replace HB := Lib.hid (bt HB.out hA); clear hA) | (go_at_call 12; (with_reducible refine (Q5.out _).mono ?_); rintro e' W9 ⟨rfl, hA⟩; replace HS : Hid ((fun w' => Cel w' w.heap.size ⟨k, a, b, d, ⟨p, q, e⟩, ⟨r, s, f⟩⟩ ∧ Cel w' (w.heap.size + 1) ⟨k2, a2, b2, d2, ⟨p2, q2, e2⟩, ⟨r2, s2, f2⟩⟩ ∧ Cel w' jB ⟨zk, za, zb, zd, ⟨zp, zq, ze⟩, ⟨zr, zs, zf⟩⟩ ∧ Cel w' kB ⟨zk, za, zb, zd, ⟨zp, zq, ze⟩, ⟨zr, zs, zf⟩⟩) W9) := ⟨HS.out.1.below hA, HS.out.2.1.below hA, HS.out.2.2.1.below hA, HS.out.2.2.2.below hA⟩; replace HB := Lib.hid (bt HB.out hA); clear hA)); refine hK.out _ _ ?_ (fun hHeld => ?_)))
      · first | with_reducible exact HS.out | exact ⟨HS.out.1.drew, HS.out.2.1.drew, HS.out.2.2.1.drew, HS.out.2.2.2.drew⟩
      clear hK K
      try simp only [Act.put, List.setIfInBounds_toArray, List.set_cons_zero, List.set_cons_succ]
      first | (refine tw (i := 63) (v := ?_) ?_ hHeld ?_; rotate_left; focus (intro w hSw; (try dsimp only at hSw); (try simp only [Cel] at hSw); go_simp; (try with_reducible rfl); done)) | refine tn (i := 63) hHeld ?_
      try simp only [Act.put, List.setIfInBounds_toArray, List.set_cons_zero, List.set_cons_succ]
      first | (refine tw (i := 64) (v := ?_) ?_ hHeld ?_; rotate_left; focus (intro w hSw; (try dsimp only at hSw); (try simp only [Cel] at hSw); go_simp; (try with_reducible rfl); done)) | refine tn (i := 64) hHeld ?_
      try simp only [Act.put, List.setIfInBounds_toArray, List.set_cons_zero, List.set_cons_succ]
      refine wpAnyH_done (by kernel_rfl) ?_ _
      obtain ⟨c0, c1, c2, c3, c4, c5, c6, c7, c8, c9⟩ := id HS.out.1
      obtain ⟨u0, u1, u2, u3, u4, u5, u6, u7, u8, u9⟩ := id HS.out.2.1
      go_wp2_with fail
      refine (Q6.out _).mono ?_
      rintro e' W10 ⟨rfl, hA⟩
      replace HS : Hid ((fun w' => Cel w' w.heap.size ⟨k, a, b, d, ⟨p, q, e⟩, ⟨r, s, f⟩⟩ ∧ Cel w' (w.heap.size + 1) ⟨k2, a2, b2, d2, ⟨p2, q2, e2⟩, ⟨r2, s2, f2⟩⟩ ∧ Cel w' jB ⟨zk, za, zb, zd, ⟨zp, zq, ze⟩, ⟨zr, zs, zf⟩⟩ ∧ Cel w' kB ⟨zk, za, zb, zd, ⟨zp, zq, ze⟩, ⟨zr, zs, zf⟩⟩) W10) := ⟨HS.out.1.below hA, HS.out.2.1.below hA, HS.out.2.2.1.below hA, HS.out.2.2.2.below hA⟩
      replace HB := Lib.hid (bt HB.out hA)
      clear hA
      clear c0 c1 c2 c3 c4 c5 c6 c7 c8 c9 u0 u1 u2 u3 u4 u5 u6 u7 u8 u9
      obtain ⟨c0, c1, c2, c3, c4, c5, c6, c7, c8, c9⟩ := id HS.out.1
      obtain ⟨u0, u1, u2, u3, u4, u5, u6, u7, u8, u9⟩ := id HS.out.2.1
      obtain ⟨A0, A1, A2, A3, A4, A5, A6, A7, A8, A9⟩ := id HS.out.2.2.1
      rcases hsd.out with ⟨hl, hs1, hs2⟩ | ⟨hl, hs1, hs2⟩
      · have Q7 := Lib.hid (fun w => rside_at hs1.symm w)
        have Q8 := Lib.hid (fun w => rside_at hs2.symm w)
        clear hs1 hs2
        go_wp2_with fail
        clear c0 c1 c2 c3 c4 c5 c6 c7 c8 c9 u0 u1 u2 u3 u4 u5 u6 u7 u8 u9 A0 A1 A2 A3 A4 A5 A6 A7 A8 A9
        have HS : Hid ((fun w' => Cel w' w.heap.size ⟨k, a, b, d, ⟨p, q, e⟩, ⟨r, s, f⟩⟩ ∧ Cel w' (w.heap.size + 1) ⟨k2, a2, b2, d2, ⟨p2, q2, e2⟩, ⟨r2, s2, f2⟩⟩ ∧ Cel w' jB ⟨zk, za, zb, zd, ⟨zp, zq, ze⟩, ⟨zr, zs, zf⟩⟩ ∧ Cel w' kB ⟨zk, za, zb, zd, ⟨zp, zq, ze⟩, ⟨zr, zs, zf⟩⟩) W10.drew) := ⟨HS.out.1.drew, HS.out.2.1.drew, HS.out.2.2.1.drew, HS.out.2.2.2.drew⟩
        replace HB := Lib.hid HB.out.drew
        refine wp_region_held_drew (S := (fun w' => Cel w' w.heap.size ⟨k, a, b, d, ⟨p, q, e⟩, ⟨r, s, f⟩⟩ ∧ Cel w' (w.heap.size + 1) ⟨k2, a2, b2, d2, ⟨p2, q2, e2⟩, ⟨r2, s2, f2⟩⟩ ∧ Cel w' jB ⟨zk, za, zb, zd, ⟨zp, zq, ze⟩, ⟨zr, zs, zf⟩⟩ ∧ Cel w' kB ⟨zk, za, zb, zd, ⟨zp, zq, ze⟩, ⟨zr, zs, zf⟩⟩)) (by kernel_rfl) ?_ (fun hHeld => ?_)
        · first | with_reducible exact HS.out | exact ⟨HS.out.1.drew, HS.out.2.1.drew, HS.out.2.2.1.drew, HS.out.2.2.2.drew⟩
        first | (refine tw (i := 0) (v := ?_) ?_ hHeld ?_; rotate_left; focus (intro w hSw; (try dsimp only at hSw); (try simp only [Cel] at hSw); go_simp; (try with_reducible rfl); done)) | refine tn (i := 0) hHeld ?_
        try simp only [Act.put, List.setIfInBounds_toArray, List.set_cons_zero, List.set_cons_succ]
        first | (refine tw (i := 1) (v := ?_) ?_ hHeld ?_; rotate_left; focus (intro w hSw; (try dsimp only at hSw); (try simp only [Cel] at hSw); go_simp; (try with_reducible rfl); done)) | refine tn (i := 1) hHeld ?_
        try simp only [Act.put, List.setIfInBounds_toArray, List.set_cons_zero, List.set_cons_succ]
        first | (refine tw (i := 2) (v := ?_) ?_ hHeld ?_; rotate_left; focus (intro w hSw; (try dsimp only at hSw); (try simp only [Cel] at hSw); go_simp; (try with_reducible rfl); done)) | refine tn (i := 2) hHeld ?_
        try simp only [Act.put, List.setIfInBounds_toArray, List.set_cons_zero, List.set_cons_succ]
        refine call_next (i := 3) (by kernel_rfl) (by rfl) ?_
        intro o ho K hK
        simp only [List.getElem?_toArray, List.getElem?_cons_succ, List.getElem?_cons_zero, Option.some.injEq] at ho
        subst ho
        first | (fail; refine hK.out _ _ ?_ (fun hHeld => ?_)) | (go_simp; first | (with_reducible refine hK.out _ _ ?_ (fun hHeld => ?_)) | ((first | (go_at_call 14; (with_reducible refine (Q7.out _).mono ?_); rintro e' W9 ⟨rfl, hA⟩; replace HS : Hid ((fun w' => Cel w' w.heap.size ⟨k, a, b, d, ⟨p, q, e⟩, ⟨r, s, f⟩⟩ ∧ Cel w' (w.heap.size + 1) ⟨k2, a2, b2, d2, ⟨p2, q2, e2⟩, ⟨r2, s2, f2⟩⟩ ∧ Cel w' jB ⟨zk, za, zb, zd, ⟨zp, zq, ze⟩, ⟨zr, zs, zf⟩⟩ ∧ Cel w' kB ⟨zk, za, zb, zd, ⟨zp, zq, ze⟩, ⟨zr, zs, zf⟩⟩) W9) := ⟨HS.out.1.below hA, HS.out.2.1.below hA, HS.out.2.2.1.below hA, HS.out.2.2.2.below hA⟩; replace HB := Lib.hid (bt HB.out hA); clear hA) | (go_at_call 14; (with_reducible refine (Q8.out _).mono ?_); rintro e' W9 ⟨rfl, hA⟩; replace HS : Hid ((fun w' => Cel w' w.heap.size ⟨k, a, b, d, ⟨p, q, e⟩, ⟨r, s, f⟩⟩ ∧ Cel w' (w.heap.size + 1) ⟨k2, a2, b2, d2, ⟨p2, q2, e2⟩, ⟨r2, s2, f2⟩⟩ ∧ Cel w' jB ⟨zk, za, zb, zd, ⟨zp, zq, ze⟩, ⟨zr, zs, zf⟩⟩ ∧ Cel w' kB ⟨zk, za, zb, zd, ⟨zp, zq, ze⟩, ⟨zr, zs, zf⟩⟩) W9) := ⟨HS.out.1.below hA, HS.out.2.1.below hA, HS.out.2.2.1.below hA, HS.out.2.2.2.below hA⟩; replace HB := Lib.hid (bt HB.out hA); clear hA)); refine hK.out _ _ ?_ (fun hHeld => ?_)))
        · first | with_reducible exact HS.out | exact ⟨HS.out.1.drew, HS.out.2.1.drew, HS.out.2.2.1.drew, HS.out.2.2.2.drew⟩
        clear hK K
        try simp only [Act.put, List.setIfInBounds_toArray, List.set_cons_zero, List.set_cons_succ]
        first | (refine tw (i := 4) (v := ?_) ?_ hHeld ?_; rotate_left; focus (intro w hSw; (try dsimp only at hSw); (try simp only [Cel] at hSw); go_simp; (try with_reducible rfl); done)) | refine tn (i := 4) hHeld ?_
        try simp only [Act.put, List.setIfInBounds_toArray, List.set_cons_zero, List.set_cons_succ]
        first | (refine tw (i := 5) (v := ?_) ?_ hHeld ?_; rotate_left; focus (intro w hSw; (try dsimp only at hSw); (try simp only [Cel] at hSw); go_simp; (try with_reducible rfl); done)) | refine tn (i := 5) hHeld ?_
        try simp only [Act.put, List.setIfInBounds_toArray, List.set_cons_zero, List.set_cons_succ]
        first | (refine tw (i := 6) (v := ?_) ?_ hHeld ?_; rotate_left; focus (intro w hSw; (try dsimp only at hSw); (try simp only [Cel] at hSw); go_simp; (try with_reducible rfl); done)) | refine tn (i := 6) hHeld ?_
        try simp only [Act.put, List.setIfInBounds_toArray, List.set_cons_zero, List.set_cons_succ]
        first | (refine tw (i := 7) (v := ?_) ?_ hHeld ?_; rotate_left; focus (intro w hSw; (try dsimp only at hSw); (try simp only [Cel] at hSw); go_simp; (try with_reducible rfl); done)) | refine tn (i := 7) hHeld ?_
        try simp only [Act.put, List.setIfInBounds_toArray, List.set_cons_zero, List.set_cons_succ]
        first | (refine tw (i := 8) (v := ?_) ?_ hHeld ?_; rotate_left; focus (intro w hSw; (try dsimp only at hSw); (try simp only [Cel] at hSw); go_simp; (try with_reducible rfl); done)) | refine tn (i := 8) hHeld ?_
        try simp only [Act.put, List.setIfInBounds_toArray, List.set_cons_zero, List.set_cons_succ]
        refine call_next (i := 9) (by kernel_rfl) (by rfl) ?_
        intro o ho K hK
        simp only [List.getElem?_toArray, List.getElem?_cons_succ, List.getElem?_cons_zero, Option.some.injEq] at ho
        subst ho
        first | (fail; refine hK.out _ _ ?_ (fun hHeld => ?_)) | (go_simp; first | (with_reducible refine hK.out _ _ ?_ (fun hHeld => ?_)) | ((first | (go_at_call 14; (with_reducible refine (Q7.out _).mono ?_); rintro e' W9 ⟨rfl, hA⟩; replace HS : Hid ((fun w' => Cel w' w.heap.size ⟨k, a, b, d, ⟨p, q, e⟩, ⟨r, s, f⟩⟩ ∧ Cel w' (w.heap.size + 1) ⟨k2, a2, b2, d2, ⟨p2, q2, e2⟩, ⟨r2, s2, f2⟩⟩ ∧ Cel w' jB ⟨zk, za, zb, zd, ⟨zp, zq, ze⟩, ⟨zr, zs, zf⟩⟩ ∧ Cel w' kB ⟨zk, za, zb, zd, ⟨zp, zq, ze⟩, ⟨zr, zs, zf⟩⟩) W9) := ⟨HS.out.1.below hA, HS.out.2.1.below hA, HS.out.2.2.1.below hA, HS.out.2.2.2.below hA⟩; replace HB := Lib.hid (bt HB.out hA); clear hA) | (go_at_call 14; (with_reducible refine (Q8.out _).mono ?_); rintro e' W9 ⟨rfl, hA⟩; replace HS : Hid ((fun w' => Cel w' w.heap.size ⟨k, a, b, d, ⟨p, q, e⟩, ⟨r, s, f⟩⟩ ∧ Cel w' (w.heap.size + 1) ⟨k2, a2, b2, d2, ⟨p2, q2, e2⟩, ⟨r2, s2, f2⟩⟩ ∧ Cel w' jB ⟨zk, za, zb, zd, ⟨zp, zq, ze⟩, ⟨zr, zs, zf⟩⟩ ∧ Cel w' kB ⟨zk, za, zb, zd, ⟨zp, zq, ze⟩, ⟨zr, zs, zf⟩⟩) W9) := ⟨HS.out.1.below hA, HS.out.2.1.below hA, HS.out.2.2.1.below hA, HS.out.2.2.2.below hA⟩; replace HB := Lib.hid (bt HB.out hA); clear hA)); refine hK.out _ _ ?_ (fun hHeld => ?_)))
        · first | with_reducible exact HS.out | exact ⟨HS.out.1.drew, HS.out.2.1.drew, HS.out.2.2.1.drew, HS.out.2.2.2.drew⟩
        clear hK K
        try simp only [Act.put, List.setIfInBounds_toArray, List.set_cons_zero, List.set_cons_succ]
        first | (refine tw (i := 10) (v := ?_) ?_ hHeld ?_; rotate_left; focus (intro w hSw; (try dsimp only at hSw); (try simp only [Cel] at hSw); go_simp; (try with_reducible rfl); done)) | refine tn (i := 10) hHeld ?_
        try simp only [Act.put, List.setIfInBounds_toArray, List.set_cons_zero, List.set_cons_succ]
        first | (refine tw (i := 11) (v := ?_) ?_ hHeld ?_; rotate_left; focus (intro w hSw; (try dsimp only at hSw); (try simp only [Cel] at hSw); go_simp; (try with_reducible rfl); done)) | refine tn (i := 11) hHeld ?_
        try simp only [Act.put, List.setIfInBounds_toArray, List.set_cons_zero, List.set_cons_succ]
        first | (refine tw (i := 12) (v := ?_) ?_ hHeld ?_; rotate_left; focus (intro w hSw; (try dsimp only at hSw); (try simp only [Cel] at hSw); go_simp; (try with_reducible rfl); done)) | refine tn (i := 12) hHeld ?_
        try simp only [Act.put, List.setIfInBounds_toArray, List.set_cons_zero, List.set_cons_succ]
        refine wpAnyH_done (by kernel_rfl) ?_ _
        go_wp2
        go_ret
        exact ⟨rfl, HB.out⟩
      · have hl2 : ¬ a2 < a := by omega
        have Q7 := Lib.hid (fun w => rside_at hs1.symm w)
        have Q8 := Lib.hid (fun w => rside_at hs2.symm w)
        clear hs1 hs2
        go_wp2_with fail
        clear c0 c1 c2 c3 c4 c5 c6 c7 c8 c9 u0 u1 u2 u3 u4 u5 u6 u7 u8 u9 A0 A1 A2 A3 A4 A5 A6 A7 A8 A9
        have HS : Hid ((fun w' => Cel w' w.heap.size ⟨k, a, b, d, ⟨p, q, e⟩, ⟨r, s, f⟩⟩ ∧ Cel w' (w.heap.size + 1) ⟨k2, a2, b2, d2, ⟨p2, q2, e2⟩, ⟨r2, s2, f2⟩⟩ ∧ Cel w' jB ⟨zk, za, zb, zd, ⟨zp, zq, ze⟩, ⟨zr, zs, zf⟩⟩ ∧ Cel w' kB ⟨zk, za, zb, zd, ⟨zp, zq, ze⟩, ⟨zr, zs, zf⟩⟩) W10.drew) := ⟨HS.out.1.drew, HS.out.2.1.drew, HS.out.2.2.1.drew, HS.out.2.2.2.drew⟩
        replace HB := Lib.hid HB.out.drew
        refine wp_region_held_drew (S := (fun w' => Cel w' w.heap.size ⟨k, a, b, d, ⟨p, q, e⟩, ⟨r, s, f⟩⟩ ∧ Cel w' (w.heap.size + 1) ⟨k2, a2, b2, d2, ⟨p2, q2, e2⟩, ⟨r2, s2, f2⟩⟩ ∧ Cel w' jB ⟨zk, za, zb, zd, ⟨zp, zq, ze⟩, ⟨zr, zs, zf⟩⟩ ∧ Cel w' kB ⟨zk, za, zb, zd, ⟨zp, zq, ze⟩, ⟨zr, zs, zf⟩⟩)) (by kernel_rfl) ?_ (fun hHeld => ?_)
        · first | with_reducible exact HS.out | exact ⟨HS.out.1.drew, HS.out.2.1.drew, HS.out.2.2.1.drew, HS.out.2.2.2.drew⟩
        first | (refine tw (i := 0) (v := ?_) ?_ hHeld ?_; rotate_left; focus (intro w hSw; (try dsimp only at hSw); (try simp only [Cel] at hSw); go_simp; (try with_reducible rfl); done)) | refine tn (i := 0) hHeld ?_
        try simp only [Act.put, List.setIfInBounds_toArray, List.set_cons_zero, List.set_cons_succ]
        first | (refine tw (i := 1) (v := ?_) ?_ hHeld ?_; rotate_left; focus (intro w hSw; (try dsimp only at hSw); (try simp only [Cel] at hSw); go_simp; (try with_reducible rfl); done)) | refine tn (i := 1) hHeld ?_
        try simp only [Act.put, List.setIfInBounds_toArray, List.set_cons_zero, List.set_cons_succ]
        first | (refine tw (i := 2) (v := ?_) ?_ hHeld ?_; rotate_left; focus (intro w hSw; (try dsimp only at hSw); (try simp only [Cel] at hSw); go_simp; (try with_reducible rfl); done)) | refine tn (i := 2) hHeld ?_
        try simp only [Act.put, List.setIfInBounds_toArray, List.set_cons_zero, List.set_cons_succ]
        refine call_next (i := 3) (by kernel_rfl) (by rfl) ?_
        intro o ho K hK
        simp only [List.getElem?_toArray, List.getElem?_cons_succ, List.getElem?_cons_zero, Option.some.injEq] at ho
        subst ho
        first | (fail; refine hK.out _ _ ?_ (fun hHeld => ?_)) | (go_simp; first | (with_reducible refine hK.out _ _ ?_ (fun hHeld => ?_)) | ((first | (go_at_call 14; (with_reducible refine (Q7.out _).mono ?_); rintro e' W9 ⟨rfl, hA⟩; replace HS : Hid ((fun w' => Cel w' w.heap.size ⟨k, a, b, d, ⟨p, q, e⟩, ⟨r, s, f⟩⟩ ∧ Cel w' (w.heap.size + 1) ⟨k2, a2, b2, d2, ⟨p2, q2, e2⟩, ⟨r2, s2, f2⟩⟩ ∧ Cel w' jB ⟨zk, za, zb, zd, ⟨zp, zq, ze⟩, ⟨zr, zs, zf⟩⟩ ∧ Cel w' kB ⟨zk, za, zb, zd, ⟨zp, zq, ze⟩, ⟨zr, zs, zf⟩⟩) W9) := ⟨HS.out.1.below hA, HS.out.2.1.below hA, HS.out.2.2.1.below hA, HS.out.2.2.2.below hA⟩; replace HB := Lib.hid (bt HB.out hA); clear hA) | (go_at_call 14; (with_reducible refine (Q8.out _).mono ?_); rintro e' W9 ⟨rfl, hA⟩; replace HS : Hid ((fun w' => Cel w' w.heap.size ⟨k, a, b, d, ⟨p, q, e⟩, ⟨r, s, f⟩⟩ ∧ Cel w' (w.heap.size + 1) ⟨k2, a2, b2, d2, ⟨p2, q2, e2⟩, ⟨r2, s2, f2⟩⟩ ∧ Cel w' jB ⟨zk, za, zb, zd, ⟨zp, zq, ze⟩, ⟨zr, zs, zf⟩⟩ ∧ Cel w' kB ⟨zk, za, zb, zd, ⟨zp, zq, ze⟩, ⟨zr, zs, zf⟩⟩) W9) := ⟨HS.out.1.below hA, HS.out.2.1.below hA, HS.out.2.2.1.below hA, HS.out.2.2.2.below hA⟩; replace HB := Lib.hid (bt HB.out hA); clear hA)); refine hK.out _ _ ?_ (fun hHeld => ?_)))
        · first | with_reducible exact HS.out | exact ⟨HS.out.1.drew, HS.out.2.1.drew, HS.out.2.2.1.drew, HS.out.2.2.2.drew⟩
        clear hK K
        try simp only [Act.put, List.setIfInBounds_toArray, List.set_cons_zero, List.set_cons_succ]
        first | (refine tw (i := 4) (v := ?_) ?_ hHeld ?_; rotate_left; focus (intro w hSw; (try dsimp only at hSw); (try simp only [Cel] at hSw); go_simp; (try with_reducible rfl); done)) | refine tn (i := 4) hHeld ?_
        try simp only [Act.put, List.setIfInBounds_toArray, List.set_cons_zero, List.set_cons_succ]
        first | (refine tw (i := 5) (v := ?_) ?_ hHeld ?_; rotate_left; focus (intro w hSw; (try dsimp only at hSw); (try simp only [Cel] at hSw); go_simp; (try with_reducible rfl); done)) | refine tn (i := 5) hHeld ?_
        try simp only [Act.put, List.setIfInBounds_toArray, List.set_cons_zero, List.set_cons_succ]
        first | (refine tw (i := 6) (v := ?_) ?_ hHeld ?_; rotate_left; focus (intro w hSw; (try dsimp only at hSw); (try simp only [Cel] at hSw); go_simp; (try with_reducible rfl); done)) | refine tn (i := 6) hHeld ?_
        try simp only [Act.put, List.setIfInBounds_toArray, List.set_cons_zero, List.set_cons_succ]
        first | (refine tw (i := 7) (v := ?_) ?_ hHeld ?_; rotate_left; focus (intro w hSw; (try dsimp only at hSw); (try simp only [Cel] at hSw); go_simp; (try with_reducible rfl); done)) | refine tn (i := 7) hHeld ?_
        try simp only [Act.put, List.setIfInBounds_toArray, List.set_cons_zero, List.set_cons_succ]
        first | (refine tw (i := 8) (v := ?_) ?_ hHeld ?_; rotate_left; focus (intro w hSw; (try dsimp only at hSw); (try simp only [Cel] at hSw); go_simp; (try with_reducible rfl); done)) | refine tn (i := 8) hHeld ?_
        try simp only [Act.put, List.setIfInBounds_toArray, List.set_cons_zero, List.set_cons_succ]
        refine call_next (i := 9) (by kernel_rfl) (by rfl) ?_
        intro o ho K hK
        simp only [List.getElem?_toArray, List.getElem?_cons_succ, List.getElem?_cons_zero, Option.some.injEq] at ho
        subst ho
        first | (fail; refine hK.out _ _ ?_ (fun hHeld => ?_)) | (go_simp; first | (with_reducible refine hK.out _ _ ?_ (fun hHeld => ?_)) | ((first | (go_at_call 14; (with_reducible refine (Q7.out _).mono ?_); rintro e' W9 ⟨rfl, hA⟩; replace HS : Hid ((fun w' => Cel w' w.heap.size ⟨k, a, b, d, ⟨p, q, e⟩, ⟨r, s, f⟩⟩ ∧ Cel w' (w.heap.size + 1) ⟨k2, a2, b2, d2, ⟨p2, q2, e2⟩, ⟨r2, s2, f2⟩⟩ ∧ Cel w' jB ⟨zk, za, zb, zd, ⟨zp, zq, ze⟩, ⟨zr, zs, zf⟩⟩ ∧ Cel w' kB ⟨zk, za, zb, zd, ⟨zp, zq, ze⟩, ⟨zr, zs, zf⟩⟩) W9) := ⟨HS.out.1.below hA, HS.out.2.1.below hA, HS.out.2.2.1.below hA, HS.out.2.2.2.below hA⟩; replace HB := Lib.hid (bt HB.out hA); clear hA) | (go_at_call 14; (with_reducible refine (Q8.out _).mono ?_); rintro e' W9 ⟨rfl, hA⟩; replace HS : Hid ((fun w' => Cel w' w.heap.size ⟨k, a, b, d, ⟨p, q, e⟩, ⟨r, s, f⟩⟩ ∧ Cel w' (w.heap.size + 1) ⟨k2, a2, b2, d2, ⟨p2, q2, e2⟩, ⟨r2, s2, f2⟩⟩ ∧ Cel w' jB ⟨zk, za, zb, zd, ⟨zp, zq, ze⟩, ⟨zr, zs, zf⟩⟩ ∧ Cel w' kB ⟨zk, za, zb, zd, ⟨zp, zq, ze⟩, ⟨zr, zs, zf⟩⟩) W9) := ⟨HS.out.1.below hA, HS.out.2.1.below hA, HS.out.2.2.1.below hA, HS.out.2.2.2.below hA⟩; replace HB := Lib.hid (bt HB.out hA); clear hA)); refine hK.out _ _ ?_ (fun hHeld => ?_)))
        · first | with_reducible exact HS.out | exact ⟨HS.out.1.drew, HS.out.2.1.drew, HS.out.2.2.1.drew, HS.out.2.2.2.drew⟩
        clear hK K
        try simp only [Act.put, List.setIfInBounds_toArray, List.set_cons_zero, List.set_cons_succ]
        first | (refine tw (i := 10) (v := ?_) ?_ hHeld ?_; rotate_left; focus (intro w hSw; (try dsimp only at hSw); (try simp only [Cel] at hSw); go_simp; (try with_reducible rfl); done)) | refine tn (i := 10) hHeld ?_
        try simp only [Act.put, List.setIfInBounds_toArray, List.set_cons_zero, List.set_cons_succ]
        first | (refine tw (i := 11) (v := ?_) ?_ hHeld ?_; rotate_left; focus (intro w hSw; (try dsimp only at hSw); (try simp only [Cel] at hSw); go_simp; (try with_reducible rfl); done)) | refine tn (i := 11) hHeld ?_
        try simp only [Act.put, List.setIfInBounds_toArray, List.set_cons_zero, List.set_cons_succ]
        first | (refine tw (i := 12) (v := ?_) ?_ hHeld ?_; rotate_left; focus (intro w hSw; (try dsimp only at hSw); (try simp only [Cel] at hSw); go_simp; (try with_reducible rfl); done)) | refine tn (i := 12) hHeld ?_
        try simp only [Act.put, List.setIfInBounds_toArray, List.set_cons_zero, List.set_cons_succ]
        refine wpAnyH_done (by kernel_rfl) ?_ _
        go_wp2
        go_ret
        exact ⟨rfl, HB.out⟩
set_option maxHeartbeats 12800000 in
theorem walk_StateJoins (k : Int) (a : Int) (b : Int) (d : ByteArray) (p : Int) (q : Int) (e : ByteArray) (r : Int) (s : Int) (f : ByteArray) (hk : (Lit.int .i64 k).wf = true) (ha : (Lit.int .i64 a).wf = true) (hb : (Lit.int .i64 b).wf = true) (hd : d.size ≤ maxLen) (hp : (Lit.int .i64 p).wf = true) (hq : (Lit.int .i64 q).wf = true) (he : e.size ≤ maxLen) (hr : (Lit.int .i64 r).wf = true) (hs : (Lit.int .i64 s).wf = true) (hf : f.size ≤ maxLen) (k2 : Int) (a2 : Int) (b2 : Int) (d2 : ByteArray) (p2 : Int) (q2 : Int) (e2 : ByteArray) (r2 : Int) (s2 : Int) (f2 : ByteArray) (hk2 : (Lit.int .i64 k2).wf = true) (ha2 : (Lit.int .i64 a2).wf = true) (hb2 : (Lit.int .i64 b2).wf = true) (hd2 : d2.size ≤ maxLen) (hp2 : (Lit.int .i64 p2).wf = true) (hq2 : (Lit.int .i64 q2).wf = true) (he2 : e2.size ≤ maxLen) (hr2 : (Lit.int .i64 r2).wf = true) (hs2 : (Lit.int .i64 s2).wf = true) (hf2 : f2.size ≤ maxLen) {w : World} :
    Calls Try.prog 3 #[SS k a b d p q e r s f, SS k2 a2 b2 d2 p2 q2 e2 r2 s2 f2] w fun e' w' => e' = .returned (.bool true) ∧ Below w.heap.size w w' := by
  cases hbig : (decide (1000 < (d.size : Int)) || (decide (1000 < (e.size : Int)) || decide (1000 < (f.size : Int))))
  case true =>
    have HC : Cel (w.alloc (.cells #[.int .i64 k, .int .i64 a, .int .i64 b, .string d, .int .i64 p, .int .i64 q, .string e, .int .i64 r, .int .i64 s, .string f] 27)) w.heap.size ⟨k, a, b, d, ⟨p, q, e⟩, ⟨r, s, f⟩⟩ := Cel.new w ⟨k, a, b, d, ⟨p, q, e⟩, ⟨r, s, f⟩⟩ 27
    have HB : Below w.heap.size w (w.alloc (.cells #[.int .i64 k, .int .i64 a, .int .i64 b, .string d, .int .i64 p, .int .i64 q, .string e, .int .i64 r, .int .i64 s, .string f] 27)) := (Below.refl _ _).alloc (Nat.le_refl _) _
    have hz1 : (w.alloc (.cells #[.int .i64 k, .int .i64 a, .int .i64 b, .string d, .int .i64 p, .int .i64 q, .string e, .int .i64 r, .int .i64 s, .string f] 27)).heap.size = w.heap.size + 1 := by simp
    go_enter Try.func3, Try.ntmps3
    go_wp2_with fail
    generalize w.alloc (.cells #[.int .i64 k, .int .i64 a, .int .i64 b, .string d, .int .i64 p, .int .i64 q, .string e, .int .i64 r, .int .i64 s, .string f] 27) = W1 at *
    have HD : Cel (W1.alloc (.cells #[.int .i64 k2, .int .i64 a2, .int .i64 b2, .string d2, .int .i64 p2, .int .i64 q2, .string e2, .int .i64 r2, .int .i64 s2, .string f2] 27)) W1.heap.size ⟨k2, a2, b2, d2, ⟨p2, q2, e2⟩, ⟨r2, s2, f2⟩⟩ := Cel.new W1 ⟨k2, a2, b2, d2, ⟨p2, q2, e2⟩, ⟨r2, s2, f2⟩⟩ 27
    rw [hz1] at HD
    have hA : Below W1.heap.size W1 (W1.alloc (.cells #[.int .i64 k2, .int .i64 a2, .int .i64 b2, .string d2, .int .i64 p2, .int .i64 q2, .string e2, .int .i64 r2, .int .i64 s2, .string f2] 27)) := (Below.refl _ _).alloc (Nat.le_refl _) _
    replace HC := HC.below hA
    replace HB := bt HB hA
    clear hA hz1
    generalize W1.alloc (.cells #[.int .i64 k2, .int .i64 a2, .int .i64 b2, .string d2, .int .i64 p2, .int .i64 q2, .string e2, .int .i64 r2, .int .i64 s2, .string f2] 27) = W2 at *
    refine (works_any _).mono ?_
    rintro e' W3 ⟨rfl, hA⟩
    replace HC := HC.below hA
    replace HD := HD.below hA
    replace HB := bt HB hA
    clear hA
    obtain ⟨c0, c1, c2, c3, c4, c5, c6, c7, c8, c9⟩ := id HC
    go_wp2_with fail
    refine (big_any _ _ _ _ _ _ _ _ _ _ _).mono ?_
    rintro e' W4 ⟨rfl, hA⟩
    replace HC := HC.below hA
    replace HD := HD.below hA
    replace HB := bt HB hA
    clear hA c0 c1 c2 c3 c4 c5 c6 c7 c8 c9
    rw [hbig]
    go_wp2
    go_ret
    exact ⟨rfl, HB⟩
  cases hbig2 : (decide (1000 < (d2.size : Int)) || (decide (1000 < (e2.size : Int)) || decide (1000 < (f2.size : Int))))
  case true =>
    have HC : Cel (w.alloc (.cells #[.int .i64 k, .int .i64 a, .int .i64 b, .string d, .int .i64 p, .int .i64 q, .string e, .int .i64 r, .int .i64 s, .string f] 27)) w.heap.size ⟨k, a, b, d, ⟨p, q, e⟩, ⟨r, s, f⟩⟩ := Cel.new w ⟨k, a, b, d, ⟨p, q, e⟩, ⟨r, s, f⟩⟩ 27
    have HB : Below w.heap.size w (w.alloc (.cells #[.int .i64 k, .int .i64 a, .int .i64 b, .string d, .int .i64 p, .int .i64 q, .string e, .int .i64 r, .int .i64 s, .string f] 27)) := (Below.refl _ _).alloc (Nat.le_refl _) _
    have hz1 : (w.alloc (.cells #[.int .i64 k, .int .i64 a, .int .i64 b, .string d, .int .i64 p, .int .i64 q, .string e, .int .i64 r, .int .i64 s, .string f] 27)).heap.size = w.heap.size + 1 := by simp
    go_enter Try.func3, Try.ntmps3
    go_wp2_with fail
    generalize w.alloc (.cells #[.int .i64 k, .int .i64 a, .int .i64 b, .string d, .int .i64 p, .int .i64 q, .string e, .int .i64 r, .int .i64 s, .string f] 27) = W1 at *
    have HD : Cel (W1.alloc (.cells #[.int .i64 k2, .int .i64 a2, .int .i64 b2, .string d2, .int .i64 p2, .int .i64 q2, .string e2, .int .i64 r2, .int .i64 s2, .string f2] 27)) W1.heap.size ⟨k2, a2, b2, d2, ⟨p2, q2, e2⟩, ⟨r2, s2, f2⟩⟩ := Cel.new W1 ⟨k2, a2, b2, d2, ⟨p2, q2, e2⟩, ⟨r2, s2, f2⟩⟩ 27
    rw [hz1] at HD
    have hA : Below W1.heap.size W1 (W1.alloc (.cells #[.int .i64 k2, .int .i64 a2, .int .i64 b2, .string d2, .int .i64 p2, .int .i64 q2, .string e2, .int .i64 r2, .int .i64 s2, .string f2] 27)) := (Below.refl _ _).alloc (Nat.le_refl _) _
    replace HC := HC.below hA
    replace HB := bt HB hA
    clear hA hz1
    generalize W1.alloc (.cells #[.int .i64 k2, .int .i64 a2, .int .i64 b2, .string d2, .int .i64 p2, .int .i64 q2, .string e2, .int .i64 r2, .int .i64 s2, .string f2] 27) = W2 at *
    refine (works_any _).mono ?_
    rintro e' W3 ⟨rfl, hA⟩
    replace HC := HC.below hA
    replace HD := HD.below hA
    replace HB := bt HB hA
    clear hA
    obtain ⟨c0, c1, c2, c3, c4, c5, c6, c7, c8, c9⟩ := id HC
    go_wp2_with fail
    refine (big_any _ _ _ _ _ _ _ _ _ _ _).mono ?_
    rintro e' W4 ⟨rfl, hA⟩
    replace HC := HC.below hA
    replace HD := HD.below hA
    replace HB := bt HB hA
    clear hA c0 c1 c2 c3 c4 c5 c6 c7 c8 c9
    rw [hbig]
    obtain ⟨u0, u1, u2, u3, u4, u5, u6, u7, u8, u9⟩ := id HD
    go_wp2_with fail
    refine (big_any _ _ _ _ _ _ _ _ _ _ _).mono ?_
    rintro e' W5 ⟨rfl, hA⟩
    replace HC := HC.below hA
    replace HD := HD.below hA
    replace HB := bt HB hA
    clear hA u0 u1 u2 u3 u4 u5 u6 u7 u8 u9
    rw [hbig2]
    go_wp2
    go_ret
    exact ⟨rfl, HB⟩
  obtain ⟨X, hX⟩ : ∃ z, chkE ⟨k, a, b, d, ⟨p, q, e⟩, ⟨r, s, f⟩⟩ = z := ⟨_, rfl⟩
  by_cases hx0 : X = 0
  case neg =>
    have CX := Lib.hid (fun w => rchk_at hX w)
    have hne := bne_iff_ne.2 hx0
    clear hX hx0
    have HC : Cel (w.alloc (.cells #[.int .i64 k, .int .i64 a, .int .i64 b, .string d, .int .i64 p, .int .i64 q, .string e, .int .i64 r, .int .i64 s, .string f] 27)) w.heap.size ⟨k, a, b, d, ⟨p, q, e⟩, ⟨r, s, f⟩⟩ := Cel.new w ⟨k, a, b, d, ⟨p, q, e⟩, ⟨r, s, f⟩⟩ 27
    have HB : Below w.heap.size w (w.alloc (.cells #[.int .i64 k, .int .i64 a, .int .i64 b, .string d, .int .i64 p, .int .i64 q, .string e, .int .i64 r, .int .i64 s, .string f] 27)) := (Below.refl _ _).alloc (Nat.le_refl _) _
    have hz1 : (w.alloc (.cells #[.int .i64 k, .int .i64 a, .int .i64 b, .string d, .int .i64 p, .int .i64 q, .string e, .int .i64 r, .int .i64 s, .string f] 27)).heap.size = w.heap.size + 1 := by simp
    go_enter Try.func3, Try.ntmps3
    go_wp2_with fail
    generalize w.alloc (.cells #[.int .i64 k, .int .i64 a, .int .i64 b, .string d, .int .i64 p, .int .i64 q, .string e, .int .i64 r, .int .i64 s, .string f] 27) = W1 at *
    have HD : Cel (W1.alloc (.cells #[.int .i64 k2, .int .i64 a2, .int .i64 b2, .string d2, .int .i64 p2, .int .i64 q2, .string e2, .int .i64 r2, .int .i64 s2, .string f2] 27)) W1.heap.size ⟨k2, a2, b2, d2, ⟨p2, q2, e2⟩, ⟨r2, s2, f2⟩⟩ := Cel.new W1 ⟨k2, a2, b2, d2, ⟨p2, q2, e2⟩, ⟨r2, s2, f2⟩⟩ 27
    rw [hz1] at HD
    have hA : Below W1.heap.size W1 (W1.alloc (.cells #[.int .i64 k2, .int .i64 a2, .int .i64 b2, .string d2, .int .i64 p2, .int .i64 q2, .string e2, .int .i64 r2, .int .i64 s2, .string f2] 27)) := (Below.refl _ _).alloc (Nat.le_refl _) _
    replace HC := HC.below hA
    replace HB := bt HB hA
    clear hA hz1
    generalize W1.alloc (.cells #[.int .i64 k2, .int .i64 a2, .int .i64 b2, .string d2, .int .i64 p2, .int .i64 q2, .string e2, .int .i64 r2, .int .i64 s2, .string f2] 27) = W2 at *
    refine (works_any _).mono ?_
    rintro e' W3 ⟨rfl, hA⟩
    replace HC := HC.below hA
    replace HD := HD.below hA
    replace HB := bt HB hA
    clear hA
    obtain ⟨c0, c1, c2, c3, c4, c5, c6, c7, c8, c9⟩ := id HC
    go_wp2_with fail
    refine (big_any _ _ _ _ _ _ _ _ _ _ _).mono ?_
    rintro e' W4 ⟨rfl, hA⟩
    replace HC := HC.below hA
    replace HD := HD.below hA
    replace HB := bt HB hA
    clear hA c0 c1 c2 c3 c4 c5 c6 c7 c8 c9
    rw [hbig]
    obtain ⟨u0, u1, u2, u3, u4, u5, u6, u7, u8, u9⟩ := id HD
    go_wp2_with fail
    refine (big_any _ _ _ _ _ _ _ _ _ _ _).mono ?_
    rintro e' W5 ⟨rfl, hA⟩
    replace HC := HC.below hA
    replace HD := HD.below hA
    replace HB := bt HB hA
    clear hA u0 u1 u2 u3 u4 u5 u6 u7 u8 u9
    rw [hbig2]
    obtain ⟨c0, c1, c2, c3, c4, c5, c6, c7, c8, c9⟩ := id HC
    go_wp2_with fail
    refine (CX.out _).mono ?_
    rintro e' W6 ⟨rfl, hA⟩
    replace HC := HC.below hA
    replace HD := HD.below hA
    replace HB := bt HB hA
    clear hA c0 c1 c2 c3 c4 c5 c6 c7 c8 c9
    go_wp2
    go_ret
    exact ⟨rfl, HB⟩
  subst hx0
  obtain ⟨Y, hY⟩ : ∃ z, chkE ⟨k2, a2, b2, d2, ⟨p2, q2, e2⟩, ⟨r2, s2, f2⟩⟩ = z := ⟨_, rfl⟩
  by_cases hy0 : Y = 0
  case neg =>
    have CX := Lib.hid (fun w => rchk_at hX w)
    have CY := Lib.hid (fun w => rchk_at hY w)
    have hne := bne_iff_ne.2 hy0
    clear hX hY hy0
    have HC : Cel (w.alloc (.cells #[.int .i64 k, .int .i64 a, .int .i64 b, .string d, .int .i64 p, .int .i64 q, .string e, .int .i64 r, .int .i64 s, .string f] 27)) w.heap.size ⟨k, a, b, d, ⟨p, q, e⟩, ⟨r, s, f⟩⟩ := Cel.new w ⟨k, a, b, d, ⟨p, q, e⟩, ⟨r, s, f⟩⟩ 27
    have HB : Below w.heap.size w (w.alloc (.cells #[.int .i64 k, .int .i64 a, .int .i64 b, .string d, .int .i64 p, .int .i64 q, .string e, .int .i64 r, .int .i64 s, .string f] 27)) := (Below.refl _ _).alloc (Nat.le_refl _) _
    have hz1 : (w.alloc (.cells #[.int .i64 k, .int .i64 a, .int .i64 b, .string d, .int .i64 p, .int .i64 q, .string e, .int .i64 r, .int .i64 s, .string f] 27)).heap.size = w.heap.size + 1 := by simp
    go_enter Try.func3, Try.ntmps3
    go_wp2_with fail
    generalize w.alloc (.cells #[.int .i64 k, .int .i64 a, .int .i64 b, .string d, .int .i64 p, .int .i64 q, .string e, .int .i64 r, .int .i64 s, .string f] 27) = W1 at *
    have HD : Cel (W1.alloc (.cells #[.int .i64 k2, .int .i64 a2, .int .i64 b2, .string d2, .int .i64 p2, .int .i64 q2, .string e2, .int .i64 r2, .int .i64 s2, .string f2] 27)) W1.heap.size ⟨k2, a2, b2, d2, ⟨p2, q2, e2⟩, ⟨r2, s2, f2⟩⟩ := Cel.new W1 ⟨k2, a2, b2, d2, ⟨p2, q2, e2⟩, ⟨r2, s2, f2⟩⟩ 27
    rw [hz1] at HD
    have hA : Below W1.heap.size W1 (W1.alloc (.cells #[.int .i64 k2, .int .i64 a2, .int .i64 b2, .string d2, .int .i64 p2, .int .i64 q2, .string e2, .int .i64 r2, .int .i64 s2, .string f2] 27)) := (Below.refl _ _).alloc (Nat.le_refl _) _
    replace HC := HC.below hA
    replace HB := bt HB hA
    clear hA hz1
    generalize W1.alloc (.cells #[.int .i64 k2, .int .i64 a2, .int .i64 b2, .string d2, .int .i64 p2, .int .i64 q2, .string e2, .int .i64 r2, .int .i64 s2, .string f2] 27) = W2 at *
    refine (works_any _).mono ?_
    rintro e' W3 ⟨rfl, hA⟩
    replace HC := HC.below hA
    replace HD := HD.below hA
    replace HB := bt HB hA
    clear hA
    obtain ⟨c0, c1, c2, c3, c4, c5, c6, c7, c8, c9⟩ := id HC
    go_wp2_with fail
    refine (big_any _ _ _ _ _ _ _ _ _ _ _).mono ?_
    rintro e' W4 ⟨rfl, hA⟩
    replace HC := HC.below hA
    replace HD := HD.below hA
    replace HB := bt HB hA
    clear hA c0 c1 c2 c3 c4 c5 c6 c7 c8 c9
    rw [hbig]
    obtain ⟨u0, u1, u2, u3, u4, u5, u6, u7, u8, u9⟩ := id HD
    go_wp2_with fail
    refine (big_any _ _ _ _ _ _ _ _ _ _ _).mono ?_
    rintro e' W5 ⟨rfl, hA⟩
    replace HC := HC.below hA
    replace HD := HD.below hA
    replace HB := bt HB hA
    clear hA u0 u1 u2 u3 u4 u5 u6 u7 u8 u9
    rw [hbig2]
    obtain ⟨c0, c1, c2, c3, c4, c5, c6, c7, c8, c9⟩ := id HC
    go_wp2_with fail
    refine (CX.out _).mono ?_
    rintro e' W6 ⟨rfl, hA⟩
    replace HC := HC.below hA
    replace HD := HD.below hA
    replace HB := bt HB hA
    clear hA c0 c1 c2 c3 c4 c5 c6 c7 c8 c9
    obtain ⟨u0, u1, u2, u3, u4, u5, u6, u7, u8, u9⟩ := id HD
    go_wp2_with fail
    refine (CY.out _).mono ?_
    rintro e' W7 ⟨rfl, hA⟩
    replace HB := bt HB hA
    clear hA u0 u1 u2 u3 u4 u5 u6 u7 u8 u9 HC HD
    go_wp2
    go_ret
    exact ⟨rfl, HB⟩
  subst hy0
  exact joins_test k a b d p q e r s f hk ha hb hd hp hq he hr hs hf k2 a2 b2 d2 p2 q2 e2 r2 s2 f2 hk2 ha2 hb2 hd2 hp2 hq2 he2 hr2 hs2 hf2 hbig hbig2 hX hY _ _ rfl rfl
end Go.Proofs.Ytingeahkndingaa
