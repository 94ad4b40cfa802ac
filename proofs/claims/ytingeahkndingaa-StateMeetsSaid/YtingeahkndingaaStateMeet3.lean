/-
  The statement StateMeets (chapter 23). (genmm.py prints it.)
-/
import Derived.Test.YtingeahkndingaaStateMeet2
namespace Go.Proofs.Ytingeahkndingaa
open Go.RowKit
set_option linter.unusedVariables false
set_option linter.unusedSimpArgs false
theorem mseq_same (k a b : Int) (d : ByteArray) (p q : Int) (e : ByteArray) (r s : Int) (f : ByteArray) (W : World) : (binOp .eql 27 (SS k a b d p q e r s f) (SS k a b d p q e r s f)).run Try.prog W = .ok (.bool true) W := by
  simp [go_sem]
theorem mvereq (p q : Int) (e : ByteArray) (W : World) : (binOp .eql 25 (VE p q e) (VE p q e)).run Try.prog W = .ok (.bool true) W := by
  simp [go_sem]
set_option maxRecDepth 100000 in
set_option maxHeartbeats 12800000 in
theorem meets_ok (k : Int) (a : Int) (b : Int) (d : ByteArray) (p : Int) (q : Int) (e : ByteArray) (r : Int) (s : Int) (f : ByteArray) (hk : (Lit.int .i64 k).wf = true) (ha : (Lit.int .i64 a).wf = true) (hb : (Lit.int .i64 b).wf = true) (hd : d.size ≤ maxLen) (hp : (Lit.int .i64 p).wf = true) (hq : (Lit.int .i64 q).wf = true) (he : e.size ≤ maxLen) (hr : (Lit.int .i64 r).wf = true) (hs : (Lit.int .i64 s).wf = true) (hf : f.size ≤ maxLen) (a1 : Option Addr) (len1 cap1 : Nat) (l1 : List Opr) {w : World} (hl1 : IsList w a1 len1 4 oprE oprOk l1) (a2 : Option Addr) (len2 cap2 : Nat) (l2 : List Opr) (hl2 : IsList w a2 len2 4 oprE oprOk l2) (hbig : (decide (1000 < (d.size : Int)) || (decide (1000 < (e.size : Int)) || decide (1000 < (f.size : Int)))) = false) (ht1 : decide (20 < (len1 : Int)) = false) (ht2 : decide (20 < (len2 : Int)) = false) (hx : chkE ⟨k, a, b, d, ⟨p, q, e⟩, ⟨r, s, f⟩⟩ = 0) :
    Calls Try.prog 5 #[SS k a b d p q e r s f, .slice a1 len1 cap1, .slice a2 len2 cap2] w fun e' w' => e' = .returned (.bool true) ∧ Below w.heap.size w w' := by
  have CX := Lib.hid (fun w => rchk_at hx w)
  have HM := meets ⟨k, a, b, d, ⟨p, q, e⟩, ⟨r, s, f⟩⟩ l1 l2 hx
  obtain ⟨za, hza⟩ : ∃ z, chgs 0 ⟨k, a, b, d, ⟨p, q, e⟩, ⟨r, s, f⟩⟩ l1 = z := ⟨_, rfl⟩
  obtain ⟨zb, hzb⟩ : ∃ z, chgs 1 ⟨k, a, b, d, ⟨p, q, e⟩, ⟨r, s, f⟩⟩ l2 = z := ⟨_, rfl⟩
  have hna := chgs_le 0 l1 (⟨k, a, b, d, ⟨p, q, e⟩, ⟨r, s, f⟩⟩, 0)
  have hnb := chgs_le 1 l2 (⟨k, a, b, d, ⟨p, q, e⟩, ⟨r, s, f⟩⟩, 0)
  rw [show l1.foldl (chg 0) (⟨k, a, b, d, ⟨p, q, e⟩, ⟨r, s, f⟩⟩, 0) = za from hza] at hna
  rw [show l2.foldl (chg 1) (⟨k, a, b, d, ⟨p, q, e⟩, ⟨r, s, f⟩⟩, 0) = zb from hzb] at hnb
  simp only [hza, hzb] at HM
  have CA : Hid (∀ W, Below w.heap.size w W → Calls Try.prog 19 #[SS k a b d p q e r s f, .slice a1 len1 cap1, .int .i64 0] W fun e' w' => e' = .returned (.tuple #[SS za.1.k za.1.a za.1.b za.1.d za.1.x.p za.1.x.q za.1.x.d za.1.y.p za.1.y.q za.1.y.d, .int .i64 (za.2 : Nat)]) ∧ Below W.heap.size W w') := fun W hW => by
    have h := changed_any ⟨k, a, b, d, ⟨p, q, e⟩, ⟨r, s, f⟩⟩ a1 len1 cap1 l1 0 W (hl1.below (fun _ => rfl) hW)
    rw [hza] at h; exact h
  have CB : Hid (∀ W, Below w.heap.size w W → Calls Try.prog 19 #[SS k a b d p q e r s f, .slice a2 len2 cap2, .int .i64 1] W fun e' w' => e' = .returned (.tuple #[SS zb.1.k zb.1.a zb.1.b zb.1.d zb.1.x.p zb.1.x.q zb.1.x.d zb.1.y.p zb.1.y.q zb.1.y.d, .int .i64 (zb.2 : Nat)]) ∧ Below W.heap.size W w') := fun W hW => by
    have h := changed_any ⟨k, a, b, d, ⟨p, q, e⟩, ⟨r, s, f⟩⟩ a2 len2 cap2 l2 1 W (hl2.below (fun _ => rfl) hW)
    rw [hzb] at h; exact h
  clear hza hzb hx
  obtain ⟨⟨ak, aa, ab, ad, ⟨ap, aq, ae⟩, ⟨ar, as_, af⟩⟩, na⟩ := za
  obtain ⟨⟨bk, ba, bb, bd, ⟨bp, bq, be⟩, ⟨br, bs, bf⟩⟩, nb⟩ := zb
  have HC : Cel (w.alloc (.cells #[.int .i64 k, .int .i64 a, .int .i64 b, .string d, .int .i64 p, .int .i64 q, .string e, .int .i64 r, .int .i64 s, .string f] 27)) w.heap.size ⟨k, a, b, d, ⟨p, q, e⟩, ⟨r, s, f⟩⟩ := Cel.new w ⟨k, a, b, d, ⟨p, q, e⟩, ⟨r, s, f⟩⟩ 27
  have HB : Below w.heap.size w (w.alloc (.cells #[.int .i64 k, .int .i64 a, .int .i64 b, .string d, .int .i64 p, .int .i64 q, .string e, .int .i64 r, .int .i64 s, .string f] 27)) := (Below.refl _ _).alloc (Nat.le_refl _) _
  go_enter Try.func5, Try.ntmps5
  go_wp2_with fail
  generalize w.alloc (.cells #[.int .i64 k, .int .i64 a, .int .i64 b, .string d, .int .i64 p, .int .i64 q, .string e, .int .i64 r, .int .i64 s, .string f] 27) = W2 at *
  refine (works_any _).mono ?_
  rintro e' W3 ⟨rfl, hA⟩
  replace HC := HC.below hA
  replace HB := bt HB hA
  clear hA
  obtain ⟨c0, c1, c2, c3, c4, c5, c6, c7, c8, c9⟩ := id HC
  go_wp2_with fail
  refine (big_any _ _ _ _ _ _ _ _ _ _ _).mono ?_
  rintro e' W4 ⟨rfl, hA⟩
  replace HC := HC.below hA
  replace HB := bt HB hA
  clear hA c0 c1 c2 c3 c4 c5 c6 c7 c8 c9
  rw [hbig]
  obtain ⟨c0, c1, c2, c3, c4, c5, c6, c7, c8, c9⟩ := id HC
  go_wp2_with fail
  refine (CX.out _).mono ?_
  rintro e' W5 ⟨rfl, hA⟩
  replace HC := HC.below hA
  replace HB := bt HB hA
  clear hA c0 c1 c2 c3 c4 c5 c6 c7 c8 c9
  go_wp2_with fail
  have HS : Hid ((fun w' => Cel w' w.heap.size ⟨k, a, b, d, ⟨p, q, e⟩, ⟨r, s, f⟩⟩) W5.drew) := HC
  replace HB := Lib.hid HB.drew
  go_cut [7, 8] from 31 to 32 (fun tp up wx => ∃ g7 g8 : Nat, tp = .pointer (some ⟨g7, 0, none⟩) ∧ up = .pointer (some ⟨g8, 0, none⟩) ∧ Hid (Box wx g7 ⟨k, a, b, d, ⟨p, q, e⟩, ⟨r, s, f⟩⟩) ∧ Hid (Box wx g8 ⟨k, a, b, d, ⟨p, q, e⟩, ⟨r, s, f⟩⟩) ∧ Hid (g7 ≠ g8) ∧ Hid (w.heap.size ≤ g7 ∧ w.heap.size ≤ g8) ∧ Hid (Below w.heap.size w wx))
  case first =>
    refine wp_region_held_drew (S := (fun w' => Cel w' w.heap.size ⟨k, a, b, d, ⟨p, q, e⟩, ⟨r, s, f⟩⟩)) (by kernel_rfl) ?_ (fun hHeld => ?_)
    · exact HS.out
    generalize W5.drew = Wd at *
    first | (refine tw (i := 0) (v := ?_) ?_ hHeld ?_; rotate_left; focus (intro w hSw; (try dsimp only at hSw); (try simp only [Cel] at hSw); go_simp; (try with_reducible rfl); done)) | refine tn (i := 0) hHeld ?_
    try simp only [Act.put, List.setIfInBounds_toArray, List.set_cons_zero, List.set_cons_succ]
    first | (refine tw (i := 1) (v := ?_) ?_ hHeld ?_; rotate_left; focus (intro w hSw; (try dsimp only at hSw); (try simp only [Cel] at hSw); go_simp; (try with_reducible rfl); done)) | refine tn (i := 1) hHeld ?_
    try simp only [Act.put, List.setIfInBounds_toArray, List.set_cons_zero, List.set_cons_succ]
    refine call_next2 (i := 2) (j := 3) (by kernel_rfl) (by rfl) (by rfl) ?_ ?_
    · intro o ho K hK
      simp only [List.getElem?_toArray, List.getElem?_cons_succ, List.getElem?_cons_zero, Option.some.injEq] at ho
      subst ho
      go_simp
      have hA := (Below.refl Wd.heap.size Wd).alloc (Nat.le_refl _) (.cells #[.int .i64 0, .int .i64 0, .int .i64 0, .string ⟨#[]⟩, .int .i64 0, .int .i64 0, .string ⟨#[]⟩, .int .i64 0, .int .i64 0, .string ⟨#[]⟩] 27)
      have H7 := Lib.hid (Box.new Wd ⟨0, 0, 0, ⟨#[]⟩, ⟨0, 0, ⟨#[]⟩⟩, ⟨0, 0, ⟨#[]⟩⟩⟩ 27)
      have hs7 := Lib.hid (Nat.ne_of_lt HS.out.lt)
      have hB7 := Lib.hid HB.out.size
      replace HS : Hid ((fun w' => Cel w' w.heap.size ⟨k, a, b, d, ⟨p, q, e⟩, ⟨r, s, f⟩⟩) (Wd.alloc (.cells #[.int .i64 0, .int .i64 0, .int .i64 0, .string ⟨#[]⟩, .int .i64 0, .int .i64 0, .string ⟨#[]⟩, .int .i64 0, .int .i64 0, .string ⟨#[]⟩] 27))) := HS.out.below hA
      replace HB := Lib.hid (bt HB.out hA)
      clear hA
      refine hK.out _ _ ?_ (fun hHeld => ?_)
      · exact HS.out
      clear hK K
      generalize Wd.alloc (.cells #[.int .i64 0, .int .i64 0, .int .i64 0, .string ⟨#[]⟩, .int .i64 0, .int .i64 0, .string ⟨#[]⟩, .int .i64 0, .int .i64 0, .string ⟨#[]⟩] 27) = Wa at *
      generalize hgg : Wd.heap.size = g7 at *
      clear hgg
      try simp only [Act.put, List.setIfInBounds_toArray, List.set_cons_zero, List.set_cons_succ]
      refine call_next (i := 3) (by kernel_rfl) (by rfl) ?_
      intro o ho K hK
      simp only [List.getElem?_toArray, List.getElem?_cons_succ, List.getElem?_cons_zero, Option.some.injEq] at ho
      subst ho
      go_simp
      have hA := (Below.refl Wa.heap.size Wa).alloc (Nat.le_refl _) (.cells #[.int .i64 0, .int .i64 0, .int .i64 0, .string ⟨#[]⟩, .int .i64 0, .int .i64 0, .string ⟨#[]⟩, .int .i64 0, .int .i64 0, .string ⟨#[]⟩] 27)
      have H8 := Lib.hid (Box.new Wa ⟨0, 0, 0, ⟨#[]⟩, ⟨0, 0, ⟨#[]⟩⟩, ⟨0, 0, ⟨#[]⟩⟩⟩ 27)
      have hs8 := Lib.hid (Nat.ne_of_lt HS.out.lt)
      have hB8 := Lib.hid HB.out.size
      have hne := Lib.hid (Nat.ne_of_lt H7.out.1.lt)
      replace HS : Hid ((fun w' => Cel w' w.heap.size ⟨k, a, b, d, ⟨p, q, e⟩, ⟨r, s, f⟩⟩) (Wa.alloc (.cells #[.int .i64 0, .int .i64 0, .int .i64 0, .string ⟨#[]⟩, .int .i64 0, .int .i64 0, .string ⟨#[]⟩, .int .i64 0, .int .i64 0, .string ⟨#[]⟩] 27))) := HS.out.below hA
      replace H7 := Lib.hid (H7.out.below hA)
      replace HB := Lib.hid (bt HB.out hA)
      clear hA
      refine hK.out _ _ ?_ (fun hHeld => ?_)
      · exact HS.out
      clear hK K
      generalize Wa.alloc (.cells #[.int .i64 0, .int .i64 0, .int .i64 0, .string ⟨#[]⟩, .int .i64 0, .int .i64 0, .string ⟨#[]⟩, .int .i64 0, .int .i64 0, .string ⟨#[]⟩] 27) = Wb at *
      generalize hgg : Wa.heap.size = g8 at *
      clear hgg
      try simp only [Act.put, List.setIfInBounds_toArray, List.set_cons_zero, List.set_cons_succ]
      refine call_next (i := 4) (by kernel_rfl) (by rfl) ?_
      intro o ho K hK
      simp only [List.getElem?_toArray, List.getElem?_cons_succ, List.getElem?_cons_zero, Option.some.injEq] at ho
      subst ho
      obtain ⟨⟨z0, z1, z2, z3, z4, z5, z6, z7, z8, z9⟩, v0, v1, v2, v3, v4, v5, v6, v7, v8, v9⟩ := H7.out
      go_simp
      refine hK.out _ (put10 Wb g7 ⟨k, a, b, d, ⟨p, q, e⟩, ⟨r, s, f⟩⟩) ?_ (fun hHeld => ?_)
      · exact HS.out.put_ne hs7.out _
      clear hK K z0 z1 z2 z3 z4 z5 z6 z7 z8 z9 v0 v1 v2 v3 v4 v5 v6 v7 v8 v9
      replace HS : Hid ((fun w' => Cel w' w.heap.size ⟨k, a, b, d, ⟨p, q, e⟩, ⟨r, s, f⟩⟩) (put10 Wb g7 ⟨k, a, b, d, ⟨p, q, e⟩, ⟨r, s, f⟩⟩)) := HS.out.put_ne hs7.out _
      replace HB := Lib.hid (put10_below HB.out hB7.out ⟨k, a, b, d, ⟨p, q, e⟩, ⟨r, s, f⟩⟩)
      replace H7 := Lib.hid (H7.out.put ⟨k, a, b, d, ⟨p, q, e⟩, ⟨r, s, f⟩⟩)
      replace H8 := Lib.hid (H8.out.put_ne hne.out.symm ⟨k, a, b, d, ⟨p, q, e⟩, ⟨r, s, f⟩⟩)
      generalize put10 Wb g7 ⟨k, a, b, d, ⟨p, q, e⟩, ⟨r, s, f⟩⟩ = Wc at *
      try simp only [Act.put, List.setIfInBounds_toArray, List.set_cons_zero, List.set_cons_succ]
      refine call_next (i := 5) (by kernel_rfl) (by rfl) ?_
      intro o ho K hK
      simp only [List.getElem?_toArray, List.getElem?_cons_succ, List.getElem?_cons_zero, Option.some.injEq] at ho
      subst ho
      obtain ⟨⟨z0, z1, z2, z3, z4, z5, z6, z7, z8, z9⟩, v0, v1, v2, v3, v4, v5, v6, v7, v8, v9⟩ := H8.out
      go_simp
      refine hK.out _ (put10 Wc g8 ⟨k, a, b, d, ⟨p, q, e⟩, ⟨r, s, f⟩⟩) ?_ (fun hHeld => ?_)
      · exact HS.out.put_ne hs8.out _
      clear hK K z0 z1 z2 z3 z4 z5 z6 z7 z8 z9 v0 v1 v2 v3 v4 v5 v6 v7 v8 v9
      replace HS : Hid ((fun w' => Cel w' w.heap.size ⟨k, a, b, d, ⟨p, q, e⟩, ⟨r, s, f⟩⟩) (put10 Wc g8 ⟨k, a, b, d, ⟨p, q, e⟩, ⟨r, s, f⟩⟩)) := HS.out.put_ne hs8.out _
      replace HB := Lib.hid (put10_below HB.out hB8.out ⟨k, a, b, d, ⟨p, q, e⟩, ⟨r, s, f⟩⟩)
      replace H8 := Lib.hid (H8.out.put ⟨k, a, b, d, ⟨p, q, e⟩, ⟨r, s, f⟩⟩)
      replace H7 := Lib.hid (H7.out.put_ne hne.out ⟨k, a, b, d, ⟨p, q, e⟩, ⟨r, s, f⟩⟩)
      generalize put10 Wc g8 ⟨k, a, b, d, ⟨p, q, e⟩, ⟨r, s, f⟩⟩ = We at *
      try simp only [Act.put, List.setIfInBounds_toArray, List.set_cons_zero, List.set_cons_succ]
      refine wpAnyH_done (by kernel_rfl) ?_ _
      go_wp2_with fail
      go_meet
      exact ⟨g7, g8, rfl, rfl, H7.out, H8.out, hne.out, ⟨hB7.out, hB8.out⟩, HB.out⟩
    · intro o ho K hK
      simp only [List.getElem?_toArray, List.getElem?_cons_succ, List.getElem?_cons_zero, Option.some.injEq] at ho
      subst ho
      go_simp
      have hA := (Below.refl Wd.heap.size Wd).alloc (Nat.le_refl _) (.cells #[.int .i64 0, .int .i64 0, .int .i64 0, .string ⟨#[]⟩, .int .i64 0, .int .i64 0, .string ⟨#[]⟩, .int .i64 0, .int .i64 0, .string ⟨#[]⟩] 27)
      have H8 := Lib.hid (Box.new Wd ⟨0, 0, 0, ⟨#[]⟩, ⟨0, 0, ⟨#[]⟩⟩, ⟨0, 0, ⟨#[]⟩⟩⟩ 27)
      have hs8 := Lib.hid (Nat.ne_of_lt HS.out.lt)
      have hB8 := Lib.hid HB.out.size
      replace HS : Hid ((fun w' => Cel w' w.heap.size ⟨k, a, b, d, ⟨p, q, e⟩, ⟨r, s, f⟩⟩) (Wd.alloc (.cells #[.int .i64 0, .int .i64 0, .int .i64 0, .string ⟨#[]⟩, .int .i64 0, .int .i64 0, .string ⟨#[]⟩, .int .i64 0, .int .i64 0, .string ⟨#[]⟩] 27))) := HS.out.below hA
      replace HB := Lib.hid (bt HB.out hA)
      clear hA
      refine hK.out _ _ ?_ (fun hHeld => ?_)
      · exact HS.out
      clear hK K
      generalize Wd.alloc (.cells #[.int .i64 0, .int .i64 0, .int .i64 0, .string ⟨#[]⟩, .int .i64 0, .int .i64 0, .string ⟨#[]⟩, .int .i64 0, .int .i64 0, .string ⟨#[]⟩] 27) = Wa at *
      generalize hgg : Wd.heap.size = g8 at *
      clear hgg
      try simp only [Act.put, List.setIfInBounds_toArray, List.set_cons_zero, List.set_cons_succ]
      refine call_next (i := 2) (by kernel_rfl) (by rfl) ?_
      intro o ho K hK
      simp only [List.getElem?_toArray, List.getElem?_cons_succ, List.getElem?_cons_zero, Option.some.injEq] at ho
      subst ho
      go_simp
      have hA := (Below.refl Wa.heap.size Wa).alloc (Nat.le_refl _) (.cells #[.int .i64 0, .int .i64 0, .int .i64 0, .string ⟨#[]⟩, .int .i64 0, .int .i64 0, .string ⟨#[]⟩, .int .i64 0, .int .i64 0, .string ⟨#[]⟩] 27)
      have H7 := Lib.hid (Box.new Wa ⟨0, 0, 0, ⟨#[]⟩, ⟨0, 0, ⟨#[]⟩⟩, ⟨0, 0, ⟨#[]⟩⟩⟩ 27)
      have hs7 := Lib.hid (Nat.ne_of_lt HS.out.lt)
      have hB7 := Lib.hid HB.out.size
      have hne := Lib.hid (Nat.ne_of_lt H8.out.1.lt)
      replace HS : Hid ((fun w' => Cel w' w.heap.size ⟨k, a, b, d, ⟨p, q, e⟩, ⟨r, s, f⟩⟩) (Wa.alloc (.cells #[.int .i64 0, .int .i64 0, .int .i64 0, .string ⟨#[]⟩, .int .i64 0, .int .i64 0, .string ⟨#[]⟩, .int .i64 0, .int .i64 0, .string ⟨#[]⟩] 27))) := HS.out.below hA
      replace H8 := Lib.hid (H8.out.below hA)
      replace HB := Lib.hid (bt HB.out hA)
      clear hA
      refine hK.out _ _ ?_ (fun hHeld => ?_)
      · exact HS.out
      clear hK K
      generalize Wa.alloc (.cells #[.int .i64 0, .int .i64 0, .int .i64 0, .string ⟨#[]⟩, .int .i64 0, .int .i64 0, .string ⟨#[]⟩, .int .i64 0, .int .i64 0, .string ⟨#[]⟩] 27) = Wb at *
      generalize hgg : Wa.heap.size = g7 at *
      clear hgg
      try simp only [Act.put, List.setIfInBounds_toArray, List.set_cons_zero, List.set_cons_succ]
      refine call_next (i := 4) (by kernel_rfl) (by rfl) ?_
      intro o ho K hK
      simp only [List.getElem?_toArray, List.getElem?_cons_succ, List.getElem?_cons_zero, Option.some.injEq] at ho
      subst ho
      obtain ⟨⟨z0, z1, z2, z3, z4, z5, z6, z7, z8, z9⟩, v0, v1, v2, v3, v4, v5, v6, v7, v8, v9⟩ := H7.out
      go_simp
      refine hK.out _ (put10 Wb g7 ⟨k, a, b, d, ⟨p, q, e⟩, ⟨r, s, f⟩⟩) ?_ (fun hHeld => ?_)
      · exact HS.out.put_ne hs7.out _
      clear hK K z0 z1 z2 z3 z4 z5 z6 z7 z8 z9 v0 v1 v2 v3 v4 v5 v6 v7 v8 v9
      replace HS : Hid ((fun w' => Cel w' w.heap.size ⟨k, a, b, d, ⟨p, q, e⟩, ⟨r, s, f⟩⟩) (put10 Wb g7 ⟨k, a, b, d, ⟨p, q, e⟩, ⟨r, s, f⟩⟩)) := HS.out.put_ne hs7.out _
      replace HB := Lib.hid (put10_below HB.out hB7.out ⟨k, a, b, d, ⟨p, q, e⟩, ⟨r, s, f⟩⟩)
      replace H7 := Lib.hid (H7.out.put ⟨k, a, b, d, ⟨p, q, e⟩, ⟨r, s, f⟩⟩)
      replace H8 := Lib.hid (H8.out.put_ne hne.out ⟨k, a, b, d, ⟨p, q, e⟩, ⟨r, s, f⟩⟩)
      generalize put10 Wb g7 ⟨k, a, b, d, ⟨p, q, e⟩, ⟨r, s, f⟩⟩ = Wc at *
      try simp only [Act.put, List.setIfInBounds_toArray, List.set_cons_zero, List.set_cons_succ]
      refine call_next (i := 5) (by kernel_rfl) (by rfl) ?_
      intro o ho K hK
      simp only [List.getElem?_toArray, List.getElem?_cons_succ, List.getElem?_cons_zero, Option.some.injEq] at ho
      subst ho
      obtain ⟨⟨z0, z1, z2, z3, z4, z5, z6, z7, z8, z9⟩, v0, v1, v2, v3, v4, v5, v6, v7, v8, v9⟩ := H8.out
      go_simp
      refine hK.out _ (put10 Wc g8 ⟨k, a, b, d, ⟨p, q, e⟩, ⟨r, s, f⟩⟩) ?_ (fun hHeld => ?_)
      · exact HS.out.put_ne hs8.out _
      clear hK K z0 z1 z2 z3 z4 z5 z6 z7 z8 z9 v0 v1 v2 v3 v4 v5 v6 v7 v8 v9
      replace HS : Hid ((fun w' => Cel w' w.heap.size ⟨k, a, b, d, ⟨p, q, e⟩, ⟨r, s, f⟩⟩) (put10 Wc g8 ⟨k, a, b, d, ⟨p, q, e⟩, ⟨r, s, f⟩⟩)) := HS.out.put_ne hs8.out _
      replace HB := Lib.hid (put10_below HB.out hB8.out ⟨k, a, b, d, ⟨p, q, e⟩, ⟨r, s, f⟩⟩)
      replace H8 := Lib.hid (H8.out.put ⟨k, a, b, d, ⟨p, q, e⟩, ⟨r, s, f⟩⟩)
      replace H7 := Lib.hid (H7.out.put_ne hne.out.symm ⟨k, a, b, d, ⟨p, q, e⟩, ⟨r, s, f⟩⟩)
      generalize put10 Wc g8 ⟨k, a, b, d, ⟨p, q, e⟩, ⟨r, s, f⟩⟩ = We at *
      try simp only [Act.put, List.setIfInBounds_toArray, List.set_cons_zero, List.set_cons_succ]
      refine wpAnyH_done (by kernel_rfl) ?_ _
      go_wp2_with fail
      go_meet
      exact ⟨g7, g8, rfl, rfl, H7.out, H8.out, hne.out.symm, ⟨hB7.out, hB8.out⟩, HB.out⟩
  case rest =>
    obtain ⟨g7, g8, rfl, rfl, H7, H8, hne, hg, HB⟩ := hcut
    obtain ⟨J0, hJ⟩ : ∃ J, joinS ⟨ak, aa, ab, ad, ⟨ap, aq, ae⟩, ⟨ar, as_, af⟩⟩ ⟨bk, ba, bb, bd, ⟨bp, bq, be⟩, ⟨br, bs, bf⟩⟩ = J := ⟨_, rfl⟩
    have HM1 := HM.1
    have HM2 := HM.2.1
    have HM3 := HM.2.2.1
    have HM4 := HM.2.2.2
    try simp only at HM1
    try simp only at HM2
    try simp only at HM3
    try simp only at HM4
    rw [hJ] at HM1 HM2 HM3 HM4
    obtain ⟨jk, ja, jb, jd, ⟨jp, jq, je⟩, ⟨jr, js, jf⟩⟩ := J0
    have CJ := Lib.hid (fun w => join_at hJ w)
    have CJ2 := Lib.hid (fun w => join_at HM1 w)
    replace HM2 := Lib.hid HM2
    replace HM3 := Lib.hid HM3
    replace HM4 := Lib.hid HM4
    clear HM HM1 hJ
    have n1 : ¬ g7 = g8 := hne.out
    have n2 : ¬ g8 = g7 := fun e => hne.out e.symm
    obtain ⟨⟨c0, c1, c2, c3, c4, c5, c6, c7, c8, c9⟩, x0, x1, x2, x3, x4, x5, x6, x7, x8, x9⟩ := id H7.out
    go_wp2_with fail
    refine (CA.out _ HB.out).mono ?_
    rintro e' W6 ⟨rfl, hA⟩
    replace H7 := Lib.hid (H7.out.below hA)
    replace H8 := Lib.hid (H8.out.below hA)
    replace HB := Lib.hid (HB.out.trans (hA.mono HB.out.size))
    clear hA c0 c1 c2 c3 c4 c5 c6 c7 c8 c9 x0 x1 x2 x3 x4 x5 x6 x7 x8 x9
    obtain ⟨⟨c0, c1, c2, c3, c4, c5, c6, c7, c8, c9⟩, x0, x1, x2, x3, x4, x5, x6, x7, x8, x9⟩ := id H7.out
    obtain ⟨⟨d0, d1, d2, d3, d4, d5, d6, d7, d8, d9⟩, _⟩ := id H8.out
    have H7p := Lib.hid (H7.out.put ⟨ak, aa, ab, ad, ⟨ap, aq, ae⟩, ⟨ar, as_, af⟩⟩)
    have H8p := Lib.hid (H8.out.put_ne hne.out.symm ⟨ak, aa, ab, ad, ⟨ap, aq, ae⟩, ⟨ar, as_, af⟩⟩)
    have HBp := Lib.hid (put10_below HB.out hg.out.1 ⟨ak, aa, ab, ad, ⟨ap, aq, ae⟩, ⟨ar, as_, af⟩⟩)
    go_wp2_with fail
    refine (CB.out (put10 W6 g7 ⟨ak, aa, ab, ad, ⟨ap, aq, ae⟩, ⟨ar, as_, af⟩⟩) HBp.out).mono ?_
    clear c0 c1 c2 c3 c4 c5 c6 c7 c8 c9 x0 x1 x2 x3 x4 x5 x6 x7 x8 x9 d0 d1 d2 d3 d4 d5 d6 d7 d8 d9 H7 H8 HB
    rintro e' W7 ⟨rfl, hA⟩
    have H7 := Lib.hid (H7p.out.below hA)
    have H8 := Lib.hid (H8p.out.below hA)
    have HB := Lib.hid (HBp.out.trans (hA.mono HBp.out.size))
    clear hA H7p H8p HBp
    generalize put10 W6 g7 ⟨ak, aa, ab, ad, ⟨ap, aq, ae⟩, ⟨ar, as_, af⟩⟩ = W6p at *
    obtain ⟨⟨c0, c1, c2, c3, c4, c5, c6, c7, c8, c9⟩, _⟩ := id H7.out
    obtain ⟨⟨d0, d1, d2, d3, d4, d5, d6, d7, d8, d9⟩, x0, x1, x2, x3, x4, x5, x6, x7, x8, x9⟩ := id H8.out
    have H8p := Lib.hid (H8.out.put ⟨bk, ba, bb, bd, ⟨bp, bq, be⟩, ⟨br, bs, bf⟩⟩)
    have H7p := Lib.hid (H7.out.put_ne hne.out ⟨bk, ba, bb, bd, ⟨bp, bq, be⟩, ⟨br, bs, bf⟩⟩)
    have HBp := Lib.hid (put10_below HB.out hg.out.2 ⟨bk, ba, bb, bd, ⟨bp, bq, be⟩, ⟨br, bs, bf⟩⟩)
    go_wp2_with fail
    refine (CJ.out (put10 W7 g8 ⟨bk, ba, bb, bd, ⟨bp, bq, be⟩, ⟨br, bs, bf⟩⟩)).mono ?_
    clear c0 c1 c2 c3 c4 c5 c6 c7 c8 c9 x0 x1 x2 x3 x4 x5 x6 x7 x8 x9 d0 d1 d2 d3 d4 d5 d6 d7 d8 d9 H7 H8 HB
    rintro e' W8 ⟨rfl, hA⟩
    have H7 := Lib.hid (H7p.out.below hA)
    have H8 := Lib.hid (H8p.out.below hA)
    have HB := Lib.hid (HBp.out.trans (hA.mono HBp.out.size))
    clear hA H7p H8p HBp
    generalize put10 W7 g8 ⟨bk, ba, bb, bd, ⟨bp, bq, be⟩, ⟨br, bs, bf⟩⟩ = W7p at *
    have hW := (Below.refl W8.heap.size W8).alloc (Nat.le_refl _) (.cells #[.int .i64 jk, .int .i64 ja, .int .i64 jb, .string jd, .int .i64 jp, .int .i64 jq, .string je, .int .i64 jr, .int .i64 js, .string jf] 27)
    have H9 := Lib.hid (Cel.new W8 ⟨jk, ja, jb, jd, ⟨jp, jq, je⟩, ⟨jr, js, jf⟩⟩ 27)
    replace H7 := Lib.hid (H7.out.1.below hW)
    replace H8 := Lib.hid (H8.out.1.below hW)
    replace HB := Lib.hid (HB.out.trans (hW.mono HB.out.size))
    clear hW
    go_wp2_with fail
    generalize W8.alloc (.cells #[.int .i64 jk, .int .i64 ja, .int .i64 jb, .string jd, .int .i64 jp, .int .i64 jq, .string je, .int .i64 jr, .int .i64 js, .string jf] 27) = W9 at *
    generalize hgg : W8.heap.size = g9 at *
    clear hgg
    have HS : Hid ((fun w' => Cel w' g9 ⟨jk, ja, jb, jd, ⟨jp, jq, je⟩, ⟨jr, js, jf⟩⟩ ∧ Cel w' g7 ⟨ak, aa, ab, ad, ⟨ap, aq, ae⟩, ⟨ar, as_, af⟩⟩ ∧ Cel w' g8 ⟨bk, ba, bb, bd, ⟨bp, bq, be⟩, ⟨br, bs, bf⟩⟩) W9.drew) := ⟨H9.out.drew, H7.out.drew, H8.out.drew⟩
    replace HB := Lib.hid HB.out.drew
    clear H9 H7 H8
    have eqn1 := fun W => sne_same jk ja jb jd jp jq je jr js jf W
    refine wp_region_held_drew (S := (fun w' => Cel w' g9 ⟨jk, ja, jb, jd, ⟨jp, jq, je⟩, ⟨jr, js, jf⟩⟩ ∧ Cel w' g7 ⟨ak, aa, ab, ad, ⟨ap, aq, ae⟩, ⟨ar, as_, af⟩⟩ ∧ Cel w' g8 ⟨bk, ba, bb, bd, ⟨bp, bq, be⟩, ⟨br, bs, bf⟩⟩)) (by kernel_rfl) ?_ (fun hHeld => ?_)
    · first | with_reducible exact HS.out | exact ⟨HS.out.1.drew, HS.out.2.1.drew, HS.out.2.2.drew⟩
    first | (refine tw (i := 0) (v := ?_) ?_ hHeld ?_; rotate_left; focus (intro w hSw; (try dsimp only at hSw); (try simp only [Cel] at hSw); go_simp; (try with_reducible rfl); done)) | refine tn (i := 0) hHeld ?_
    try simp only [Act.put, List.setIfInBounds_toArray, List.set_cons_zero, List.set_cons_succ]
    first | (refine tw (i := 1) (v := ?_) ?_ hHeld ?_; rotate_left; focus (intro w hSw; (try dsimp only at hSw); (try simp only [Cel] at hSw); go_simp; (try with_reducible rfl); done)) | refine tn (i := 1) hHeld ?_
    try simp only [Act.put, List.setIfInBounds_toArray, List.set_cons_zero, List.set_cons_succ]
    first | (refine tw (i := 2) (v := ?_) ?_ hHeld ?_; rotate_left; focus (intro w hSw; (try dsimp only at hSw); (try simp only [Cel] at hSw); go_simp; (try with_reducible rfl); done)) | refine tn (i := 2) hHeld ?_
    try simp only [Act.put, List.setIfInBounds_toArray, List.set_cons_zero, List.set_cons_succ]
    refine call_next (i := 3) (by kernel_rfl) (by rfl) ?_
    intro o ho K hK
    simp only [List.getElem?_toArray, List.getElem?_cons_succ, List.getElem?_cons_zero, Option.some.injEq] at ho
    subst ho
    first | (fail; refine hK.out _ _ ?_ (fun hHeld => ?_)) | (go_simp; first | (with_reducible refine hK.out _ _ ?_ (fun hHeld => ?_)) | ((go_at_call 10; (with_reducible refine (CJ2.out _).mono ?_); rintro e' Wf ⟨rfl, hA⟩; replace HS : Hid ((fun w' => Cel w' g9 ⟨jk, ja, jb, jd, ⟨jp, jq, je⟩, ⟨jr, js, jf⟩⟩ ∧ Cel w' g7 ⟨ak, aa, ab, ad, ⟨ap, aq, ae⟩, ⟨ar, as_, af⟩⟩ ∧ Cel w' g8 ⟨bk, ba, bb, bd, ⟨bp, bq, be⟩, ⟨br, bs, bf⟩⟩) Wf) := ⟨HS.out.1.below hA, HS.out.2.1.below hA, HS.out.2.2.below hA⟩; replace HB := Lib.hid (bt HB.out hA); clear hA); refine hK.out _ _ ?_ (fun hHeld => ?_)))
    · first | with_reducible exact HS.out | exact ⟨HS.out.1.drew, HS.out.2.1.drew, HS.out.2.2.drew⟩
    clear hK K
    try simp only [Act.put, List.setIfInBounds_toArray, List.set_cons_zero, List.set_cons_succ]
    first | (refine tw (i := 4) (v := ?_) ?_ hHeld ?_; rotate_left; focus (intro w hSw; (try dsimp only at hSw); (try simp only [Cel] at hSw); go_simp; (try with_reducible rfl); done)) | refine tn (i := 4) hHeld ?_
    try simp only [Act.put, List.setIfInBounds_toArray, List.set_cons_zero, List.set_cons_succ]
    refine wpAnyH_done (by kernel_rfl) ?_ _
    clear eqn1
    by_cases e1 : na = 0
    · subst e1
      have e2 := HM2.out rfl
      cases e2
      clear HM2 HM3 HM4
      obtain ⟨c0, c1, c2, c3, c4, c5, c6, c7, c8, c9⟩ := id HS.out.1
      obtain ⟨v0, v1, v2, v3, v4, v5, v6, v7, v8, v9⟩ := id HS.out.2.2
      have eqn2 := fun W => mseq_same bk ba bb bd bp bq be br bs bf W
      go_wp2
      go_ret
      exact ⟨rfl, HB.out⟩
    have t1 : ((na : Int) == 0) = false := by rw [beq_eq_false_iff_ne]; omega
    have t1' : decide ((na : Int) = 0) = false := decide_eq_false (by omega)
    by_cases e2 : nb = 0
    · subst e2
      have e3 := HM3.out rfl
      cases e3
      clear HM2 HM3 HM4
      obtain ⟨c0, c1, c2, c3, c4, c5, c6, c7, c8, c9⟩ := id HS.out.1
      obtain ⟨v0, v1, v2, v3, v4, v5, v6, v7, v8, v9⟩ := id HS.out.2.1
      have eqn2 := fun W => mseq_same ak aa ab ad ap aq ae ar as_ af W
      go_wp2
      go_ret
      exact ⟨rfl, HB.out⟩
    have t2 : ((nb : Int) == 0) = false := by rw [beq_eq_false_iff_ne]; omega
    have t2' : decide ((nb : Int) = 0) = false := decide_eq_false (by omega)
    obtain ⟨e3, e4, e5⟩ := HM4.out e1 e2
    cases e4
    cases e5
    subst e3
    clear HM2 HM3 HM4 e1 e2
    obtain ⟨c0, c1, c2, c3, c4, c5, c6, c7, c8, c9⟩ := id HS.out.1
    obtain ⟨u0, u1, u2, u3, u4, u5, u6, u7, u8, u9⟩ := id HS.out.2.1
    obtain ⟨v0, v1, v2, v3, v4, v5, v6, v7, v8, v9⟩ := id HS.out.2.2
    have eqn2 := fun W => mvereq aa ab ad W
    have eqn3 := fun W => mvereq ba bb bd W
    go_wp2
    go_ret
    exact ⟨rfl, HB.out⟩
end Go.Proofs.Ytingeahkndingaa
