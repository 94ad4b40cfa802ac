/-
  States as bytes (chapter 23): what Put writes.
-/
import Derived.Test.YtemfdmbjlmiopaaCodePlain
import Derived.Test.YtemfdmbjlmiopaaStateCel
import Derived.Test.YtemfdmbjlmiopaaDraw
namespace Go.Proofs.Ytemfdmbjlmiopaa
open Go.RowKit
set_option linter.unusedVariables false
set_option linter.unusedSimpArgs false
theorem chk_at {k a b : Int} {d : ByteArray} {p q : Int} {e : ByteArray} {r s : Int} {f : ByteArray} {E : Int} (h : chkE ⟨k, a, b, d, ⟨p, q, e⟩, ⟨r, s, f⟩⟩ = E) (w : World) : Calls Try.prog 31 #[SS k a b d p q e r s f] w fun e' w' => e' = .returned (.int .i64 E) ∧ Below w.heap.size w w' := h ▸ check_any k a b d p q e r s f w
theorem rchk_at {k a b : Int} {d : ByteArray} {p q : Int} {e : ByteArray} {r s : Int} {f : ByteArray} {E : Int} (h : chkE ⟨k, a, b, d, ⟨p, q, e⟩, ⟨r, s, f⟩⟩ = E) (w : World) : Calls Try.prog 34 #[SS k a b d p q e r s f] w fun e' w' => e' = .returned (.int .i64 E) ∧ Below w.heap.size w w' := h ▸ rcheck_any k a b d p q e r s f w
theorem vputS_size (t : ByteArray) (p q : Int) : (vputS t p q).size ≤ t.size + 14 := by
  have h1 := putS_size' t p 7
  have h2 := putS_size' (putS t p 7) q 7
  unfold vputS
  omega
theorem vtS_size (t : ByteArray) (v : Ve) : (vtS t v).size ≤ t.size + 14 + v.d.size := by
  have h1 := vputS_size t v.p v.q
  unfold vtS
  rw [ByteArray.size_append]
  omega
set_option maxHeartbeats 1600000 in
theorem putv_any (t : ByteArray) (p q : Int) (e : ByteArray) (w : World) (ht : t.size ≤ 1000000) (hp : p ≤ 9223372036854775807) (hq : q ≤ 9223372036854775807) (he : e.size ≤ 1000000) : Calls Try.prog 50 #[.string t, VE p q e] w fun e' w' => e' = .returned (.string (vtS t ⟨p, q, e⟩)) ∧ Below w.heap.size w w' := by
  have C := Lib.hid (fun w => vput_any t p q w hp hq (by omega))
  have hz := vputS_size t p q
  have hz2 : ¬ 9223372036854775807 < (vputS t p q).size + e.size := by omega
  have e1 : vtS t ⟨p, q, e⟩ = vputS t p q ++ e := rfl
  rw [e1]
  clear e1 hz ht hp hq he
  have c0 : (w.alloc (.cells #[.int .i64 p, .int .i64 q, .string e] 25)).cell? ⟨w.heap.size, 0, none⟩ = some (.int .i64 p) := by simp [go_sem]
  have c1 : (w.alloc (.cells #[.int .i64 p, .int .i64 q, .string e] 25)).cell? ⟨w.heap.size, 1, none⟩ = some (.int .i64 q) := by simp [go_sem]
  have c2 : (w.alloc (.cells #[.int .i64 p, .int .i64 q, .string e] 25)).cell? ⟨w.heap.size, 2, none⟩ = some (.string e) := by simp [go_sem]
  have HB : Below w.heap.size w (w.alloc (.cells #[.int .i64 p, .int .i64 q, .string e] 25)) := (Below.refl _ _).alloc (Nat.le_refl _) _
  go_enter Try.func50, Try.ntmps50
  go_wp2_with fail
  generalize w.alloc (.cells #[.int .i64 p, .int .i64 q, .string e] 25) = W at *
  replace HB := HB.drew
  refine wp_region_held_drew (S := (fun w' => w'.cell? ⟨w.heap.size, 0, none⟩ = some (.int .i64 p) ∧ w'.cell? ⟨w.heap.size, 1, none⟩ = some (.int .i64 q) ∧ w'.cell? ⟨w.heap.size, 2, none⟩ = some (.string e))) (by kernel_rfl) ?_ (fun hHeld => ?_)
  · first | exact ⟨c0, c1, c2⟩
  first | (refine tw (i := 0) (v := ?_) ?_ hHeld ?_; rotate_left; focus (intro w hSw; (try dsimp only at hSw); go_simp; (try with_reducible rfl); done)) | refine tn (i := 0) hHeld ?_
  try simp only [Act.put, List.setIfInBounds_toArray, List.set_cons_zero, List.set_cons_succ]
  first | (refine tw (i := 1) (v := ?_) ?_ hHeld ?_; rotate_left; focus (intro w hSw; (try dsimp only at hSw); go_simp; (try with_reducible rfl); done)) | refine tn (i := 1) hHeld ?_
  try simp only [Act.put, List.setIfInBounds_toArray, List.set_cons_zero, List.set_cons_succ]
  first | (refine tw (i := 2) (v := ?_) ?_ hHeld ?_; rotate_left; focus (intro w hSw; (try dsimp only at hSw); go_simp; (try with_reducible rfl); done)) | refine tn (i := 2) hHeld ?_
  try simp only [Act.put, List.setIfInBounds_toArray, List.set_cons_zero, List.set_cons_succ]
  first | (refine tw (i := 4) (v := ?_) ?_ hHeld ?_; rotate_left; focus (intro w hSw; (try dsimp only at hSw); go_simp; (try with_reducible rfl); done)) | refine tn (i := 4) hHeld ?_
  try simp only [Act.put, List.setIfInBounds_toArray, List.set_cons_zero, List.set_cons_succ]
  first | (refine tw (i := 5) (v := ?_) ?_ hHeld ?_; rotate_left; focus (intro w hSw; (try dsimp only at hSw); go_simp; (try with_reducible rfl); done)) | refine tn (i := 5) hHeld ?_
  try simp only [Act.put, List.setIfInBounds_toArray, List.set_cons_zero, List.set_cons_succ]
  refine call_next (i := 3) (by kernel_rfl) (by rfl) ?_
  intro o ho K hK
  simp only [List.getElem?_toArray, List.getElem?_cons_succ, List.getElem?_cons_zero, Option.some.injEq] at ho
  subst ho
  first | (fail; refine hK.out _ _ ?_ (fun hHeld => ?_)) | (go_simp; first | (with_reducible refine hK.out _ _ ?_ (fun hHeld => ?_)) | ((go_at_call 23; (with_reducible refine (C.out _).mono ?_); rintro e5 w5 ⟨rfl, hA⟩; replace c0 := bkeep hA c0; replace c1 := bkeep hA c1; replace c2 := bkeep hA c2; replace HB := bt HB hA; clear hA); refine hK.out _ _ ?_ (fun hHeld => ?_)))
  · first | exact ⟨c0, c1, c2⟩
  clear hK K
  try simp only [Act.put, List.setIfInBounds_toArray, List.set_cons_zero, List.set_cons_succ]
  first | (refine tw (i := 6) (v := ?_) ?_ hHeld ?_; rotate_left; focus (intro w hSw; (try dsimp only at hSw); go_simp; (try with_reducible rfl); done)) | refine tn (i := 6) hHeld ?_
  try simp only [Act.put, List.setIfInBounds_toArray, List.set_cons_zero, List.set_cons_succ]
  first | (refine tw (i := 7) (v := ?_) ?_ hHeld ?_; rotate_left; focus (intro w hSw; (try dsimp only at hSw); go_simp; (try with_reducible rfl); done)) | refine tn (i := 7) hHeld ?_
  try simp only [Act.put, List.setIfInBounds_toArray, List.set_cons_zero, List.set_cons_succ]
  refine wpAnyH_done (by kernel_rfl) ?_ _
  go_wp2
  go_ret
  exact ⟨rfl, HB⟩
theorem side_at {x : St} {n : Int} {z : Ve} (h : sideS x n = z) (w : World) : Calls Try.prog 51 #[SS x.k x.a x.b x.d x.x.p x.x.q x.x.d x.y.p x.y.q x.y.d, .int .i64 n] w fun e' w' => e' = .returned (VE z.p z.q z.d) ∧ Below w.heap.size w w' := h ▸ stSide_any x.k x.a x.b x.d x.x.p x.x.q x.x.d x.y.p x.y.q x.y.d n w
set_option maxRecDepth 20000 in
set_option maxHeartbeats 3200000 in
theorem sput_any (k a b : Int) (d : ByteArray) (p q : Int) (e : ByteArray) (r s : Int) (f : ByteArray) (w : World) (ha : a ≤ 9223372036854775807) (hb : b ≤ 9223372036854775807) (hd : d.size ≤ 100000) (hp : p ≤ 9223372036854775807) (hq : q ≤ 9223372036854775807) (he : e.size ≤ 100000) (hr : r ≤ 9223372036854775807) (hs : s ≤ 9223372036854775807) (hf : f.size ≤ 100000) : Calls Try.prog 24 #[SS k a b d p q e r s f] w fun e' w' => e' = .returned (.tuple #[.string (putSt ⟨k, a, b, d, ⟨p, q, e⟩, ⟨r, s, f⟩⟩), .int .i64 (chkE ⟨k, a, b, d, ⟨p, q, e⟩, ⟨r, s, f⟩⟩)]) ∧ Below w.heap.size w w' := by
  obtain ⟨X, hX⟩ : ∃ z, chkE ⟨k, a, b, d, ⟨p, q, e⟩, ⟨r, s, f⟩⟩ = z := ⟨_, rfl⟩
  have hP : putSt ⟨k, a, b, d, ⟨p, q, e⟩, ⟨r, s, f⟩⟩ = if X ≠ 0 then ⟨#[]⟩ else if k = 0 then vtS (putS ⟨#[]⟩ k 1) ⟨a, b, d⟩ else vtS (vtS (putS ⟨#[]⟩ k 1) ⟨p, q, e⟩) ⟨r, s, f⟩ := by rw [← hX]; rfl
  rw [hX, hP]
  clear hP
  by_cases hx0 : X = 0
  case neg =>
    rw [if_pos hx0]
    have hne := bne_iff_ne.2 hx0
    clear hx0
    have HC : Cel (w.alloc (.cells #[.int .i64 k, .int .i64 a, .int .i64 b, .string d, .int .i64 p, .int .i64 q, .string e, .int .i64 r, .int .i64 s, .string f] 27)) w.heap.size ⟨k, a, b, d, ⟨p, q, e⟩, ⟨r, s, f⟩⟩ := Cel.new w ⟨k, a, b, d, ⟨p, q, e⟩, ⟨r, s, f⟩⟩ 27
    have HB : Below w.heap.size w (w.alloc (.cells #[.int .i64 k, .int .i64 a, .int .i64 b, .string d, .int .i64 p, .int .i64 q, .string e, .int .i64 r, .int .i64 s, .string f] 27)) := (Below.refl _ _).alloc (Nat.le_refl _) _
    obtain ⟨c0, c1, c2, c3, c4, c5, c6, c7, c8, c9⟩ := id HC
    have CX := Lib.hid (fun w => chk_at hX w)
    clear hX
    go_enter Try.func24, Try.ntmps24
    go_wp2_with fail
    generalize w.alloc (.cells #[.int .i64 k, .int .i64 a, .int .i64 b, .string d, .int .i64 p, .int .i64 q, .string e, .int .i64 r, .int .i64 s, .string f] 27) = W1 at *
    refine (CX.out _).mono ?_
    rintro e' W2 ⟨rfl, hA⟩
    replace HC := HC.below hA
    replace HB := bt HB hA
    clear hA c0 c1 c2 c3 c4 c5 c6 c7 c8 c9
    obtain ⟨c0, c1, c2, c3, c4, c5, c6, c7, c8, c9⟩ := id HC
    go_wp2
    go_ret2
    exact ⟨rfl, HB⟩
  subst hx0
  rw [if_neg (by simp)]
  have hz1 := putS_size' ⟨#[]⟩ k 1
  have hz0 : (⟨#[]⟩ : ByteArray).size = 0 := rfl
  by_cases hk : k = 0
  · subst hk
    rw [if_pos rfl]
    have CS := Lib.hid (fun w => side_at (show sideS ⟨0, a, b, d, ⟨p, q, e⟩, ⟨r, s, f⟩⟩ 0 = ⟨a, b, d⟩ from if_pos rfl) w)
    have CF := Lib.hid (fun w => put_any ⟨#[]⟩ 0 1 w (by decide) (by decide))
    have CP := Lib.hid (fun w => putv_any (putS ⟨#[]⟩ 0 1) a b d w (by omega) ha hb (by omega))
    clear hz0 hz1 ha hb hd hp hq he hr hs hf
    have HC : Cel (w.alloc (.cells #[.int .i64 0, .int .i64 a, .int .i64 b, .string d, .int .i64 p, .int .i64 q, .string e, .int .i64 r, .int .i64 s, .string f] 27)) w.heap.size ⟨0, a, b, d, ⟨p, q, e⟩, ⟨r, s, f⟩⟩ := Cel.new w ⟨0, a, b, d, ⟨p, q, e⟩, ⟨r, s, f⟩⟩ 27
    have HB : Below w.heap.size w (w.alloc (.cells #[.int .i64 0, .int .i64 a, .int .i64 b, .string d, .int .i64 p, .int .i64 q, .string e, .int .i64 r, .int .i64 s, .string f] 27)) := (Below.refl _ _).alloc (Nat.le_refl _) _
    obtain ⟨c0, c1, c2, c3, c4, c5, c6, c7, c8, c9⟩ := id HC
    have CX := Lib.hid (fun w => chk_at hX w)
    clear hX
    go_enter Try.func24, Try.ntmps24
    go_wp2_with fail
    generalize w.alloc (.cells #[.int .i64 0, .int .i64 a, .int .i64 b, .string d, .int .i64 p, .int .i64 q, .string e, .int .i64 r, .int .i64 s, .string f] 27) = W1 at *
    refine (CX.out _).mono ?_
    rintro e' W2 ⟨rfl, hA⟩
    replace HC := HC.below hA
    replace HB := bt HB hA
    clear hA c0 c1 c2 c3 c4 c5 c6 c7 c8 c9
    obtain ⟨c0, c1, c2, c3, c4, c5, c6, c7, c8, c9⟩ := id HC
    go_wp2_with fail
    refine (CF.out _).mono ?_
    rintro e' W3 ⟨rfl, hA⟩
    replace HC := HC.below hA
    replace HB := bt HB hA
    clear hA c0 c1 c2 c3 c4 c5 c6 c7 c8 c9
    obtain ⟨c0, c1, c2, c3, c4, c5, c6, c7, c8, c9⟩ := id HC
    go_wp2_with fail
    refine (CS.out _).mono ?_
    rintro e' W4 ⟨rfl, hA⟩
    replace HC := HC.below hA
    replace HB := bt HB hA
    clear hA c0 c1 c2 c3 c4 c5 c6 c7 c8 c9
    obtain ⟨c0, c1, c2, c3, c4, c5, c6, c7, c8, c9⟩ := id HC
    go_wp2_with fail
    refine (CP.out _).mono ?_
    rintro e' W5 ⟨rfl, hA⟩
    replace HC := HC.below hA
    replace HB := bt HB hA
    clear hA c0 c1 c2 c3 c4 c5 c6 c7 c8 c9
    obtain ⟨c0, c1, c2, c3, c4, c5, c6, c7, c8, c9⟩ := id HC
    go_wp2
    go_ret2
    exact ⟨rfl, HB⟩
  · rw [if_neg hk]
    have hk1 : k = 1 := by unfold chkE at hX; simp only at hX; rw [if_neg hk] at hX; split at hX; · assumption
                           · cases hX
    subst hk1
    have hz2 := vtS_size (putS ⟨#[]⟩ 1 1) ⟨p, q, e⟩
    have CF := Lib.hid (fun w => put_any ⟨#[]⟩ 1 1 w (by decide) (by decide))
    have CP := Lib.hid (fun w => putv_any (putS ⟨#[]⟩ 1 1) p q e w (by omega) hp hq (by omega))
    have CQ := Lib.hid (fun w => putv_any (vtS (putS ⟨#[]⟩ 1 1) ⟨p, q, e⟩) r s f w (by simp only at hz2; omega) hr hs (by omega))
    clear hz0 hz1 hz2 ha hb hd hp hq he hr hs hf hk
    have HC : Cel (w.alloc (.cells #[.int .i64 1, .int .i64 a, .int .i64 b, .string d, .int .i64 p, .int .i64 q, .string e, .int .i64 r, .int .i64 s, .string f] 27)) w.heap.size ⟨1, a, b, d, ⟨p, q, e⟩, ⟨r, s, f⟩⟩ := Cel.new w ⟨1, a, b, d, ⟨p, q, e⟩, ⟨r, s, f⟩⟩ 27
    have HB : Below w.heap.size w (w.alloc (.cells #[.int .i64 1, .int .i64 a, .int .i64 b, .string d, .int .i64 p, .int .i64 q, .string e, .int .i64 r, .int .i64 s, .string f] 27)) := (Below.refl _ _).alloc (Nat.le_refl _) _
    obtain ⟨c0, c1, c2, c3, c4, c5, c6, c7, c8, c9⟩ := id HC
    have CX := Lib.hid (fun w => chk_at hX w)
    clear hX
    go_enter Try.func24, Try.ntmps24
    go_wp2_with fail
    generalize w.alloc (.cells #[.int .i64 1, .int .i64 a, .int .i64 b, .string d, .int .i64 p, .int .i64 q, .string e, .int .i64 r, .int .i64 s, .string f] 27) = W1 at *
    refine (CX.out _).mono ?_
    rintro e' W2 ⟨rfl, hA⟩
    replace HC := HC.below hA
    replace HB := bt HB hA
    clear hA c0 c1 c2 c3 c4 c5 c6 c7 c8 c9
    obtain ⟨c0, c1, c2, c3, c4, c5, c6, c7, c8, c9⟩ := id HC
    go_wp2_with fail
    refine (CF.out _).mono ?_
    rintro e' W3 ⟨rfl, hA⟩
    replace HC := HC.below hA
    replace HB := bt HB hA
    clear hA c0 c1 c2 c3 c4 c5 c6 c7 c8 c9
    obtain ⟨c0, c1, c2, c3, c4, c5, c6, c7, c8, c9⟩ := id HC
    go_wp2_with fail
    have HS : Hid ((fun w' => Cel w' w.heap.size ⟨1, a, b, d, ⟨p, q, e⟩, ⟨r, s, f⟩⟩) W3.drew) := HC.drew
    replace HB := Lib.hid HB.drew
    clear c0 c1 c2 c3 c4 c5 c6 c7 c8 c9
    refine wp_region_held_drew (S := (fun w' => Cel w' w.heap.size ⟨1, a, b, d, ⟨p, q, e⟩, ⟨r, s, f⟩⟩)) (by kernel_rfl) ?_ (fun hHeld => ?_)
    · first | with_reducible exact HS.out
    first | (refine tw (i := 0) (v := ?_) ?_ hHeld ?_; rotate_left; focus (intro w hSw; (try dsimp only at hSw); (try simp only [Cel] at hSw); go_simp; (try with_reducible rfl); done)) | refine tn (i := 0) hHeld ?_
    try simp only [Act.put, List.setIfInBounds_toArray, List.set_cons_zero, List.set_cons_succ]
    first | (refine tw (i := 1) (v := ?_) ?_ hHeld ?_; rotate_left; focus (intro w hSw; (try dsimp only at hSw); (try simp only [Cel] at hSw); go_simp; (try with_reducible rfl); done)) | refine tn (i := 1) hHeld ?_
    try simp only [Act.put, List.setIfInBounds_toArray, List.set_cons_zero, List.set_cons_succ]
    first | (refine tw (i := 2) (v := ?_) ?_ hHeld ?_; rotate_left; focus (intro w hSw; (try dsimp only at hSw); (try simp only [Cel] at hSw); go_simp; (try with_reducible rfl); done)) | refine tn (i := 2) hHeld ?_
    try simp only [Act.put, List.setIfInBounds_toArray, List.set_cons_zero, List.set_cons_succ]
    first | (refine tw (i := 4) (v := ?_) ?_ hHeld ?_; rotate_left; focus (intro w hSw; (try dsimp only at hSw); (try simp only [Cel] at hSw); go_simp; (try with_reducible rfl); done)) | refine tn (i := 4) hHeld ?_
    try simp only [Act.put, List.setIfInBounds_toArray, List.set_cons_zero, List.set_cons_succ]
    first | (refine tw (i := 5) (v := ?_) ?_ hHeld ?_; rotate_left; focus (intro w hSw; (try dsimp only at hSw); (try simp only [Cel] at hSw); go_simp; (try with_reducible rfl); done)) | refine tn (i := 5) hHeld ?_
    try simp only [Act.put, List.setIfInBounds_toArray, List.set_cons_zero, List.set_cons_succ]
    refine call_next (i := 3) (by kernel_rfl) (by rfl) ?_
    intro o ho K hK
    simp only [List.getElem?_toArray, List.getElem?_cons_succ, List.getElem?_cons_zero, Option.some.injEq] at ho
    subst ho
    first | (fail; refine hK.out _ _ ?_ (fun hHeld => ?_)) | (go_simp; first | (with_reducible refine hK.out _ _ ?_ (fun hHeld => ?_)) | ((first | (go_at_call 50; (with_reducible refine (CP.out _).mono ?_); rintro e' W9 ⟨rfl, hA⟩; replace HS : Hid ((fun w' => Cel w' w.heap.size ⟨1, a, b, d, ⟨p, q, e⟩, ⟨r, s, f⟩⟩) W9) := HS.out.below hA; replace HB := Lib.hid (bt HB.out hA); clear hA) | (go_at_call 50; (with_reducible refine (CQ.out _).mono ?_); rintro e' W9 ⟨rfl, hA⟩; replace HS : Hid ((fun w' => Cel w' w.heap.size ⟨1, a, b, d, ⟨p, q, e⟩, ⟨r, s, f⟩⟩) W9) := HS.out.below hA; replace HB := Lib.hid (bt HB.out hA); clear hA)); refine hK.out _ _ ?_ (fun hHeld => ?_)))
    · first | with_reducible exact HS.out
    clear hK K
    try simp only [Act.put, List.setIfInBounds_toArray, List.set_cons_zero, List.set_cons_succ]
    refine call_next (i := 6) (by kernel_rfl) (by rfl) ?_
    intro o ho K hK
    simp only [List.getElem?_toArray, List.getElem?_cons_succ, List.getElem?_cons_zero, Option.some.injEq] at ho
    subst ho
    first | (fail; refine hK.out _ _ ?_ (fun hHeld => ?_)) | (go_simp; first | (with_reducible refine hK.out _ _ ?_ (fun hHeld => ?_)) | ((first | (go_at_call 50; (with_reducible refine (CP.out _).mono ?_); rintro e' W9 ⟨rfl, hA⟩; replace HS : Hid ((fun w' => Cel w' w.heap.size ⟨1, a, b, d, ⟨p, q, e⟩, ⟨r, s, f⟩⟩) W9) := HS.out.below hA; replace HB := Lib.hid (bt HB.out hA); clear hA) | (go_at_call 50; (with_reducible refine (CQ.out _).mono ?_); rintro e' W9 ⟨rfl, hA⟩; replace HS : Hid ((fun w' => Cel w' w.heap.size ⟨1, a, b, d, ⟨p, q, e⟩, ⟨r, s, f⟩⟩) W9) := HS.out.below hA; replace HB := Lib.hid (bt HB.out hA); clear hA)); refine hK.out _ _ ?_ (fun hHeld => ?_)))
    · first | with_reducible exact HS.out
    clear hK K
    try simp only [Act.put, List.setIfInBounds_toArray, List.set_cons_zero, List.set_cons_succ]
    first | (refine tw (i := 7) (v := ?_) ?_ hHeld ?_; rotate_left; focus (intro w hSw; (try dsimp only at hSw); (try simp only [Cel] at hSw); go_simp; (try with_reducible rfl); done)) | refine tn (i := 7) hHeld ?_
    try simp only [Act.put, List.setIfInBounds_toArray, List.set_cons_zero, List.set_cons_succ]
    first | (refine tw (i := 8) (v := ?_) ?_ hHeld ?_; rotate_left; focus (intro w hSw; (try dsimp only at hSw); (try simp only [Cel] at hSw); go_simp; (try with_reducible rfl); done)) | refine tn (i := 8) hHeld ?_
    try simp only [Act.put, List.setIfInBounds_toArray, List.set_cons_zero, List.set_cons_succ]
    refine wpAnyH_done (by kernel_rfl) ?_ _
    go_wp2
    go_ret2
    exact ⟨rfl, HB.out⟩
set_option maxRecDepth 20000 in
set_option maxHeartbeats 3200000 in
theorem rsput_any (k a b : Int) (d : ByteArray) (p q : Int) (e : ByteArray) (r s : Int) (f : ByteArray) (w : World) (ha : a ≤ 9223372036854775807) (hb : b ≤ 9223372036854775807) (hd : d.size ≤ 100000) (hp : p ≤ 9223372036854775807) (hq : q ≤ 9223372036854775807) (he : e.size ≤ 100000) (hr : r ≤ 9223372036854775807) (hs : s ≤ 9223372036854775807) (hf : f.size ≤ 100000) : Calls Try.prog 28 #[SS k a b d p q e r s f] w fun e' w' => e' = .returned (.tuple #[.string (putSt ⟨k, a, b, d, ⟨p, q, e⟩, ⟨r, s, f⟩⟩), .int .i64 (chkE ⟨k, a, b, d, ⟨p, q, e⟩, ⟨r, s, f⟩⟩)]) ∧ Below w.heap.size w w' := by
  obtain ⟨X, hX⟩ : ∃ z, chkE ⟨k, a, b, d, ⟨p, q, e⟩, ⟨r, s, f⟩⟩ = z := ⟨_, rfl⟩
  have hP : putSt ⟨k, a, b, d, ⟨p, q, e⟩, ⟨r, s, f⟩⟩ = if X ≠ 0 then ⟨#[]⟩ else if k = 0 then vputS (putS ⟨#[]⟩ k 1) a b ++ d else vputS (vputS (putS ⟨#[]⟩ k 1) p q ++ e) r s ++ f := by rw [← hX]; rfl
  rw [hX, hP]
  clear hP
  by_cases hx0 : X = 0
  case neg =>
    rw [if_pos hx0]
    have hne := bne_iff_ne.2 hx0
    clear hx0
    have HC : Cel (w.alloc (.cells #[.int .i64 k, .int .i64 a, .int .i64 b, .string d, .int .i64 p, .int .i64 q, .string e, .int .i64 r, .int .i64 s, .string f] 27)) w.heap.size ⟨k, a, b, d, ⟨p, q, e⟩, ⟨r, s, f⟩⟩ := Cel.new w ⟨k, a, b, d, ⟨p, q, e⟩, ⟨r, s, f⟩⟩ 27
    have HB : Below w.heap.size w (w.alloc (.cells #[.int .i64 k, .int .i64 a, .int .i64 b, .string d, .int .i64 p, .int .i64 q, .string e, .int .i64 r, .int .i64 s, .string f] 27)) := (Below.refl _ _).alloc (Nat.le_refl _) _
    obtain ⟨c0, c1, c2, c3, c4, c5, c6, c7, c8, c9⟩ := id HC
    have CX := Lib.hid (fun w => rchk_at hX w)
    clear hX
    go_enter Try.func28, Try.ntmps28
    go_wp2_with fail
    generalize w.alloc (.cells #[.int .i64 k, .int .i64 a, .int .i64 b, .string d, .int .i64 p, .int .i64 q, .string e, .int .i64 r, .int .i64 s, .string f] 27) = W1 at *
    refine (CX.out _).mono ?_
    rintro e' W2 ⟨rfl, hA⟩
    replace HC := HC.below hA
    replace HB := bt HB hA
    clear hA c0 c1 c2 c3 c4 c5 c6 c7 c8 c9
    obtain ⟨c0, c1, c2, c3, c4, c5, c6, c7, c8, c9⟩ := id HC
    go_wp2
    go_ret2
    exact ⟨rfl, HB⟩
  subst hx0
  rw [if_neg (by simp)]
  have hz1 := putS_size' ⟨#[]⟩ k 1
  have hz0 : (⟨#[]⟩ : ByteArray).size = 0 := rfl
  by_cases hk : k = 0
  · subst hk
    rw [if_pos rfl]
    have CF := Lib.hid (fun w => rput_any ⟨#[]⟩ 0 1 w (by decide) (by decide))
    have CP := Lib.hid (fun w => rvput_any (putS ⟨#[]⟩ 0 1) a b w ha hb (by omega))
    have hz3 := vputS_size (putS ⟨#[]⟩ 0 1) a b
    have hz4 : ¬ 9223372036854775807 < (vputS (putS ⟨#[]⟩ 0 1) a b).size + d.size := by omega
    clear hz0 hz1 hz3 ha hb hd hp hq he hr hs hf
    have HC : Cel (w.alloc (.cells #[.int .i64 0, .int .i64 a, .int .i64 b, .string d, .int .i64 p, .int .i64 q, .string e, .int .i64 r, .int .i64 s, .string f] 27)) w.heap.size ⟨0, a, b, d, ⟨p, q, e⟩, ⟨r, s, f⟩⟩ := Cel.new w ⟨0, a, b, d, ⟨p, q, e⟩, ⟨r, s, f⟩⟩ 27
    have HB : Below w.heap.size w (w.alloc (.cells #[.int .i64 0, .int .i64 a, .int .i64 b, .string d, .int .i64 p, .int .i64 q, .string e, .int .i64 r, .int .i64 s, .string f] 27)) := (Below.refl _ _).alloc (Nat.le_refl _) _
    obtain ⟨c0, c1, c2, c3, c4, c5, c6, c7, c8, c9⟩ := id HC
    have CX := Lib.hid (fun w => rchk_at hX w)
    clear hX
    go_enter Try.func28, Try.ntmps28
    go_wp2_with fail
    generalize w.alloc (.cells #[.int .i64 0, .int .i64 a, .int .i64 b, .string d, .int .i64 p, .int .i64 q, .string e, .int .i64 r, .int .i64 s, .string f] 27) = W1 at *
    refine (CX.out _).mono ?_
    rintro e' W2 ⟨rfl, hA⟩
    replace HC := HC.below hA
    replace HB := bt HB hA
    clear hA c0 c1 c2 c3 c4 c5 c6 c7 c8 c9
    obtain ⟨c0, c1, c2, c3, c4, c5, c6, c7, c8, c9⟩ := id HC
    go_wp2_with fail
    refine (CF.out _).mono ?_
    rintro e' W3 ⟨rfl, hA⟩
    replace HC := HC.below hA
    replace HB := bt HB hA
    clear hA c0 c1 c2 c3 c4 c5 c6 c7 c8 c9
    obtain ⟨c0, c1, c2, c3, c4, c5, c6, c7, c8, c9⟩ := id HC
    go_wp2_with fail
    have HS : Hid ((fun w' => Cel w' w.heap.size ⟨0, a, b, d, ⟨p, q, e⟩, ⟨r, s, f⟩⟩) W3.drew) := HC.drew
    replace HB := Lib.hid HB.drew
    clear c0 c1 c2 c3 c4 c5 c6 c7 c8 c9
    refine wp_region_held_drew (S := (fun w' => Cel w' w.heap.size ⟨0, a, b, d, ⟨p, q, e⟩, ⟨r, s, f⟩⟩)) (by kernel_rfl) ?_ (fun hHeld => ?_)
    · first | with_reducible exact HS.out
    first | (refine tw (i := 0) (v := ?_) ?_ hHeld ?_; rotate_left; focus (intro w hSw; (try dsimp only at hSw); (try simp only [Cel] at hSw); go_simp; (try with_reducible rfl); done)) | refine tn (i := 0) hHeld ?_
    try simp only [Act.put, List.setIfInBounds_toArray, List.set_cons_zero, List.set_cons_succ]
    first | (refine tw (i := 1) (v := ?_) ?_ hHeld ?_; rotate_left; focus (intro w hSw; (try dsimp only at hSw); (try simp only [Cel] at hSw); go_simp; (try with_reducible rfl); done)) | refine tn (i := 1) hHeld ?_
    try simp only [Act.put, List.setIfInBounds_toArray, List.set_cons_zero, List.set_cons_succ]
    first | (refine tw (i := 2) (v := ?_) ?_ hHeld ?_; rotate_left; focus (intro w hSw; (try dsimp only at hSw); (try simp only [Cel] at hSw); go_simp; (try with_reducible rfl); done)) | refine tn (i := 2) hHeld ?_
    try simp only [Act.put, List.setIfInBounds_toArray, List.set_cons_zero, List.set_cons_succ]
    first | (refine tw (i := 4) (v := ?_) ?_ hHeld ?_; rotate_left; focus (intro w hSw; (try dsimp only at hSw); (try simp only [Cel] at hSw); go_simp; (try with_reducible rfl); done)) | refine tn (i := 4) hHeld ?_
    try simp only [Act.put, List.setIfInBounds_toArray, List.set_cons_zero, List.set_cons_succ]
    first | (refine tw (i := 5) (v := ?_) ?_ hHeld ?_; rotate_left; focus (intro w hSw; (try dsimp only at hSw); (try simp only [Cel] at hSw); go_simp; (try with_reducible rfl); done)) | refine tn (i := 5) hHeld ?_
    try simp only [Act.put, List.setIfInBounds_toArray, List.set_cons_zero, List.set_cons_succ]
    refine call_next (i := 3) (by kernel_rfl) (by rfl) ?_
    intro o ho K hK
    simp only [List.getElem?_toArray, List.getElem?_cons_succ, List.getElem?_cons_zero, Option.some.injEq] at ho
    subst ho
    first | (fail; refine hK.out _ _ ?_ (fun hHeld => ?_)) | (go_simp; first | (with_reducible refine hK.out _ _ ?_ (fun hHeld => ?_)) | ((first | (go_at_call 27; (with_reducible refine (CP.out _).mono ?_); rintro e' W9 ⟨rfl, hA⟩; replace HS : Hid ((fun w' => Cel w' w.heap.size ⟨0, a, b, d, ⟨p, q, e⟩, ⟨r, s, f⟩⟩) W9) := HS.out.below hA; replace HB := Lib.hid (bt HB.out hA); clear hA)); refine hK.out _ _ ?_ (fun hHeld => ?_)))
    · first | with_reducible exact HS.out
    clear hK K
    try simp only [Act.put, List.setIfInBounds_toArray, List.set_cons_zero, List.set_cons_succ]
    first | (refine tw (i := 6) (v := ?_) ?_ hHeld ?_; rotate_left; focus (intro w hSw; (try dsimp only at hSw); (try simp only [Cel] at hSw); go_simp; (try with_reducible rfl); done)) | refine tn (i := 6) hHeld ?_
    try simp only [Act.put, List.setIfInBounds_toArray, List.set_cons_zero, List.set_cons_succ]
    first | (refine tw (i := 7) (v := ?_) ?_ hHeld ?_; rotate_left; focus (intro w hSw; (try dsimp only at hSw); (try simp only [Cel] at hSw); go_simp; (try with_reducible rfl); done)) | refine tn (i := 7) hHeld ?_
    try simp only [Act.put, List.setIfInBounds_toArray, List.set_cons_zero, List.set_cons_succ]
    first | (refine tw (i := 8) (v := ?_) ?_ hHeld ?_; rotate_left; focus (intro w hSw; (try dsimp only at hSw); (try simp only [Cel] at hSw); go_simp; (try with_reducible rfl); done)) | refine tn (i := 8) hHeld ?_
    try simp only [Act.put, List.setIfInBounds_toArray, List.set_cons_zero, List.set_cons_succ]
    refine wpAnyH_done (by kernel_rfl) ?_ _
    go_wp2
    go_ret2
    exact ⟨rfl, HB.out⟩
  · rw [if_neg hk]
    have hk1 : k = 1 := by unfold chkE at hX; simp only at hX; rw [if_neg hk] at hX; split at hX; · assumption
                           · cases hX
    subst hk1
    have hz2 := vputS_size (putS ⟨#[]⟩ 1 1) p q
    have hz3 : ¬ 9223372036854775807 < (vputS (putS ⟨#[]⟩ 1 1) p q).size + e.size := by omega
    have hz5 : (vputS (putS ⟨#[]⟩ 1 1) p q ++ e).size ≤ 140000 := by rw [ByteArray.size_append]; omega
    have hz6 := vputS_size (vputS (putS ⟨#[]⟩ 1 1) p q ++ e) r s
    have hz4 : ¬ 9223372036854775807 < (vputS (vputS (putS ⟨#[]⟩ 1 1) p q ++ e) r s).size + f.size := by omega
    have CF := Lib.hid (fun w => rput_any ⟨#[]⟩ 1 1 w (by decide) (by decide))
    have CP := Lib.hid (fun w => rvput_any (putS ⟨#[]⟩ 1 1) p q w hp hq (by omega))
    have CQ := Lib.hid (fun w => rvput_any (vputS (putS ⟨#[]⟩ 1 1) p q ++ e) r s w hr hs (by omega))
    clear hz0 hz1 hz2 hz5 hz6 ha hb hd hp hq he hr hs hf hk
    have HC : Cel (w.alloc (.cells #[.int .i64 1, .int .i64 a, .int .i64 b, .string d, .int .i64 p, .int .i64 q, .string e, .int .i64 r, .int .i64 s, .string f] 27)) w.heap.size ⟨1, a, b, d, ⟨p, q, e⟩, ⟨r, s, f⟩⟩ := Cel.new w ⟨1, a, b, d, ⟨p, q, e⟩, ⟨r, s, f⟩⟩ 27
    have HB : Below w.heap.size w (w.alloc (.cells #[.int .i64 1, .int .i64 a, .int .i64 b, .string d, .int .i64 p, .int .i64 q, .string e, .int .i64 r, .int .i64 s, .string f] 27)) := (Below.refl _ _).alloc (Nat.le_refl _) _
    obtain ⟨c0, c1, c2, c3, c4, c5, c6, c7, c8, c9⟩ := id HC
    have CX := Lib.hid (fun w => rchk_at hX w)
    clear hX
    go_enter Try.func28, Try.ntmps28
    go_wp2_with fail
    generalize w.alloc (.cells #[.int .i64 1, .int .i64 a, .int .i64 b, .string d, .int .i64 p, .int .i64 q, .string e, .int .i64 r, .int .i64 s, .string f] 27) = W1 at *
    refine (CX.out _).mono ?_
    rintro e' W2 ⟨rfl, hA⟩
    replace HC := HC.below hA
    replace HB := bt HB hA
    clear hA c0 c1 c2 c3 c4 c5 c6 c7 c8 c9
    obtain ⟨c0, c1, c2, c3, c4, c5, c6, c7, c8, c9⟩ := id HC
    go_wp2_with fail
    refine (CF.out _).mono ?_
    rintro e' W3 ⟨rfl, hA⟩
    replace HC := HC.below hA
    replace HB := bt HB hA
    clear hA c0 c1 c2 c3 c4 c5 c6 c7 c8 c9
    obtain ⟨c0, c1, c2, c3, c4, c5, c6, c7, c8, c9⟩ := id HC
    go_wp2_with fail
    have HS : Hid ((fun w' => Cel w' w.heap.size ⟨1, a, b, d, ⟨p, q, e⟩, ⟨r, s, f⟩⟩) W3.drew) := HC.drew
    replace HB := Lib.hid HB.drew
    clear c0 c1 c2 c3 c4 c5 c6 c7 c8 c9
    refine wp_region_held_drew (S := (fun w' => Cel w' w.heap.size ⟨1, a, b, d, ⟨p, q, e⟩, ⟨r, s, f⟩⟩)) (by kernel_rfl) ?_ (fun hHeld => ?_)
    · first | with_reducible exact HS.out
    first | (refine tw (i := 0) (v := ?_) ?_ hHeld ?_; rotate_left; focus (intro w hSw; (try dsimp only at hSw); (try simp only [Cel] at hSw); go_simp; (try with_reducible rfl); done)) | refine tn (i := 0) hHeld ?_
    try simp only [Act.put, List.setIfInBounds_toArray, List.set_cons_zero, List.set_cons_succ]
    first | (refine tw (i := 1) (v := ?_) ?_ hHeld ?_; rotate_left; focus (intro w hSw; (try dsimp only at hSw); (try simp only [Cel] at hSw); go_simp; (try with_reducible rfl); done)) | refine tn (i := 1) hHeld ?_
    try simp only [Act.put, List.setIfInBounds_toArray, List.set_cons_zero, List.set_cons_succ]
    first | (refine tw (i := 2) (v := ?_) ?_ hHeld ?_; rotate_left; focus (intro w hSw; (try dsimp only at hSw); (try simp only [Cel] at hSw); go_simp; (try with_reducible rfl); done)) | refine tn (i := 2) hHeld ?_
    try simp only [Act.put, List.setIfInBounds_toArray, List.set_cons_zero, List.set_cons_succ]
    first | (refine tw (i := 3) (v := ?_) ?_ hHeld ?_; rotate_left; focus (intro w hSw; (try dsimp only at hSw); (try simp only [Cel] at hSw); go_simp; (try with_reducible rfl); done)) | refine tn (i := 3) hHeld ?_
    try simp only [Act.put, List.setIfInBounds_toArray, List.set_cons_zero, List.set_cons_succ]
    first | (refine tw (i := 5) (v := ?_) ?_ hHeld ?_; rotate_left; focus (intro w hSw; (try dsimp only at hSw); (try simp only [Cel] at hSw); go_simp; (try with_reducible rfl); done)) | refine tn (i := 5) hHeld ?_
    try simp only [Act.put, List.setIfInBounds_toArray, List.set_cons_zero, List.set_cons_succ]
    first | (refine tw (i := 6) (v := ?_) ?_ hHeld ?_; rotate_left; focus (intro w hSw; (try dsimp only at hSw); (try simp only [Cel] at hSw); go_simp; (try with_reducible rfl); done)) | refine tn (i := 6) hHeld ?_
    try simp only [Act.put, List.setIfInBounds_toArray, List.set_cons_zero, List.set_cons_succ]
    first | (refine tw (i := 7) (v := ?_) ?_ hHeld ?_; rotate_left; focus (intro w hSw; (try dsimp only at hSw); (try simp only [Cel] at hSw); go_simp; (try with_reducible rfl); done)) | refine tn (i := 7) hHeld ?_
    try simp only [Act.put, List.setIfInBounds_toArray, List.set_cons_zero, List.set_cons_succ]
    first | (refine tw (i := 9) (v := ?_) ?_ hHeld ?_; rotate_left; focus (intro w hSw; (try dsimp only at hSw); (try simp only [Cel] at hSw); go_simp; (try with_reducible rfl); done)) | refine tn (i := 9) hHeld ?_
    try simp only [Act.put, List.setIfInBounds_toArray, List.set_cons_zero, List.set_cons_succ]
    first | (refine tw (i := 10) (v := ?_) ?_ hHeld ?_; rotate_left; focus (intro w hSw; (try dsimp only at hSw); (try simp only [Cel] at hSw); go_simp; (try with_reducible rfl); done)) | refine tn (i := 10) hHeld ?_
    try simp only [Act.put, List.setIfInBounds_toArray, List.set_cons_zero, List.set_cons_succ]
    first | (refine tw (i := 11) (v := ?_) ?_ hHeld ?_; rotate_left; focus (intro w hSw; (try dsimp only at hSw); (try simp only [Cel] at hSw); go_simp; (try with_reducible rfl); done)) | refine tn (i := 11) hHeld ?_
    try simp only [Act.put, List.setIfInBounds_toArray, List.set_cons_zero, List.set_cons_succ]
    first | (refine tw (i := 13) (v := ?_) ?_ hHeld ?_; rotate_left; focus (intro w hSw; (try dsimp only at hSw); (try simp only [Cel] at hSw); go_simp; (try with_reducible rfl); done)) | refine tn (i := 13) hHeld ?_
    try simp only [Act.put, List.setIfInBounds_toArray, List.set_cons_zero, List.set_cons_succ]
    first | (refine tw (i := 14) (v := ?_) ?_ hHeld ?_; rotate_left; focus (intro w hSw; (try dsimp only at hSw); (try simp only [Cel] at hSw); go_simp; (try with_reducible rfl); done)) | refine tn (i := 14) hHeld ?_
    try simp only [Act.put, List.setIfInBounds_toArray, List.set_cons_zero, List.set_cons_succ]
    first | (refine tw (i := 15) (v := ?_) ?_ hHeld ?_; rotate_left; focus (intro w hSw; (try dsimp only at hSw); (try simp only [Cel] at hSw); go_simp; (try with_reducible rfl); done)) | refine tn (i := 15) hHeld ?_
    try simp only [Act.put, List.setIfInBounds_toArray, List.set_cons_zero, List.set_cons_succ]
    refine call_next (i := 4) (by kernel_rfl) (by rfl) ?_
    intro o ho K hK
    simp only [List.getElem?_toArray, List.getElem?_cons_succ, List.getElem?_cons_zero, Option.some.injEq] at ho
    subst ho
    first | (fail; refine hK.out _ _ ?_ (fun hHeld => ?_)) | (go_simp; first | (with_reducible refine hK.out _ _ ?_ (fun hHeld => ?_)) | ((first | (go_at_call 27; (with_reducible refine (CP.out _).mono ?_); rintro e' W9 ⟨rfl, hA⟩; replace HS : Hid ((fun w' => Cel w' w.heap.size ⟨1, a, b, d, ⟨p, q, e⟩, ⟨r, s, f⟩⟩) W9) := HS.out.below hA; replace HB := Lib.hid (bt HB.out hA); clear hA) | (go_at_call 27; (with_reducible refine (CQ.out _).mono ?_); rintro e' W9 ⟨rfl, hA⟩; replace HS : Hid ((fun w' => Cel w' w.heap.size ⟨1, a, b, d, ⟨p, q, e⟩, ⟨r, s, f⟩⟩) W9) := HS.out.below hA; replace HB := Lib.hid (bt HB.out hA); clear hA)); refine hK.out _ _ ?_ (fun hHeld => ?_)))
    · first | with_reducible exact HS.out
    clear hK K
    try simp only [Act.put, List.setIfInBounds_toArray, List.set_cons_zero, List.set_cons_succ]
    first | (refine tw (i := 8) (v := ?_) ?_ hHeld ?_; rotate_left; focus (intro w hSw; (try dsimp only at hSw); (try simp only [Cel] at hSw); go_simp; (try with_reducible rfl); done)) | refine tn (i := 8) hHeld ?_
    try simp only [Act.put, List.setIfInBounds_toArray, List.set_cons_zero, List.set_cons_succ]
    refine call_next (i := 12) (by kernel_rfl) (by rfl) ?_
    intro o ho K hK
    simp only [List.getElem?_toArray, List.getElem?_cons_succ, List.getElem?_cons_zero, Option.some.injEq] at ho
    subst ho
    first | (fail; refine hK.out _ _ ?_ (fun hHeld => ?_)) | (go_simp; first | (with_reducible refine hK.out _ _ ?_ (fun hHeld => ?_)) | ((first | (go_at_call 27; (with_reducible refine (CP.out _).mono ?_); rintro e' W9 ⟨rfl, hA⟩; replace HS : Hid ((fun w' => Cel w' w.heap.size ⟨1, a, b, d, ⟨p, q, e⟩, ⟨r, s, f⟩⟩) W9) := HS.out.below hA; replace HB := Lib.hid (bt HB.out hA); clear hA) | (go_at_call 27; (with_reducible refine (CQ.out _).mono ?_); rintro e' W9 ⟨rfl, hA⟩; replace HS : Hid ((fun w' => Cel w' w.heap.size ⟨1, a, b, d, ⟨p, q, e⟩, ⟨r, s, f⟩⟩) W9) := HS.out.below hA; replace HB := Lib.hid (bt HB.out hA); clear hA)); refine hK.out _ _ ?_ (fun hHeld => ?_)))
    · first | with_reducible exact HS.out
    clear hK K
    try simp only [Act.put, List.setIfInBounds_toArray, List.set_cons_zero, List.set_cons_succ]
    first | (refine tw (i := 16) (v := ?_) ?_ hHeld ?_; rotate_left; focus (intro w hSw; (try dsimp only at hSw); (try simp only [Cel] at hSw); go_simp; (try with_reducible rfl); done)) | refine tn (i := 16) hHeld ?_
    try simp only [Act.put, List.setIfInBounds_toArray, List.set_cons_zero, List.set_cons_succ]
    first | (refine tw (i := 17) (v := ?_) ?_ hHeld ?_; rotate_left; focus (intro w hSw; (try dsimp only at hSw); (try simp only [Cel] at hSw); go_simp; (try with_reducible rfl); done)) | refine tn (i := 17) hHeld ?_
    try simp only [Act.put, List.setIfInBounds_toArray, List.set_cons_zero, List.set_cons_succ]
    first | (refine tw (i := 18) (v := ?_) ?_ hHeld ?_; rotate_left; focus (intro w hSw; (try dsimp only at hSw); (try simp only [Cel] at hSw); go_simp; (try with_reducible rfl); done)) | refine tn (i := 18) hHeld ?_
    try simp only [Act.put, List.setIfInBounds_toArray, List.set_cons_zero, List.set_cons_succ]
    refine wpAnyH_done (by kernel_rfl) ?_ _
    go_wp2
    go_ret2
    exact ⟨rfl, HB.out⟩
end Go.Proofs.Ytemfdmbjlmiopaa
