/-
  Rules in writing (chapter 42): both sides' Print.
-/
import Derived.Test.YtnflnaalpeeciaaDoorPolPlain2
import Derived.Test.YtnflnaalpeeciaaDoorPolRows
import Derived.Test.YtnflnaalpeeciaaDoorShelf
import Derived.Test.YtnflnaalpeeciaaDoorDraw
import Derived.Deep.Cut
namespace Go.Proofs.YtnflnaalpeeciaaDoor
open Go.RowKit
set_option linter.unusedVariables false
set_option linter.unusedSimpArgs false
set_option maxRecDepth 20000

theorem bdrw (w : World) : Below w.heap.size w w.drew := ⟨rfl, rfl, rfl, Nat.le_refl _, fun _ _ => rfl⟩
theorem join_rl (r : Rl) (W : World) : Calls Tryd.prog 32 #[.slice (some ⟨W.heap.size, 0, none⟩) 3 3, .string ⟨#[32]⟩] (W.alloc (.cells #[.string (nameR r.k), .string (textS r.a), .string (textS r.b)] 9)) fun e w' => e = .returned (.string (rlS r)) ∧ Below W.heap.size W w' := by
  have hsz := rlS_size r
  have hJ := Tryd.strings_Join W.heap.size 0 3 [nameR r.k, textS r.a, textS r.b] spB (W.alloc (.cells #[.string (nameR r.k), .string (textS r.a), .string (textS r.b)] 9))
    (by
      intro j x hj
      match j, hj with
      | 0, hj => simp at hj; subst hj; simp [go_sem]
      | 1, hj => simp at hj; subst hj; simp [go_sem]
      | 2, hj => simp at hj; subst hj; simp [go_sem]
      | j + 3, hj => simp at hj)
    (by simp) (by show 3 ≤ 140737488355328; decide) (by show 3 ≤ 3; decide)
    (by
      have := congrArg ByteArray.size (rlS_join r)
      have e : ∀ l : List UInt8, (⟨l.toArray⟩ : ByteArray).size = l.length := fun l => by simp [ByteArray.size]
      rw [e] at this
      rw [this]; omega)
  rw [rlS_join] at hJ
  refine hJ.mono ?_
  rintro e w' ⟨h1, h2⟩
  exact ⟨h1, bt (alb W _) h2⟩
def prnS (r : Rl) : ByteArray := if chkR r = 0 then rlS r else ⟨#[]⟩
def prnV (r : Rl) : Value := .tuple #[.string (prnS r), .int .i64 (chkR r)]
def HC3 (W : World) (K : Nat) (k a b : Int) : Prop := W.cell? ⟨K, 0, none⟩ = some (.int .i64 k) ∧ W.cell? ⟨K, 1, none⟩ = some (.int .i64 a) ∧ W.cell? ⟨K, 2, none⟩ = some (.int .i64 b)
theorem HC3.below {W W' : World} {K : Nat} {k a b : Int} (h : HC3 W K k a b) (hb : Below W.heap.size W W') : HC3 W' K k a b := ⟨bkeep hb h.1, bkeep hb h.2.1, bkeep hb h.2.2⟩
def rlOk (r : Rl) : Prop := (-9223372036854775808 ≤ r.a ∧ r.a ≤ 9223372036854775807) ∧ (-9223372036854775808 ≤ r.b ∧ r.b ≤ 9223372036854775807)
set_option maxHeartbeats 1600000 in
theorem print_any (r : Rl) (w : World) : Calls Tryd.prog 16 #[rlV r] w fun e w' => e = .returned (prnV r) ∧ Below w.heap.size w w' := by
  have hE0 : ∀ (t : ByteArray) (c : Int) W, t = prnS r → c = chkR r → Below w.heap.size w W → (fun (e1 : Ending) (w' : World) => e1 = .returned (prnV r) ∧ Below w.heap.size w w') (.returned (.tuple #[.string t, .int .i64 c])) W := by
    rintro t c W rfl rfl hb
    exact ⟨rfl, hb⟩
  generalize (fun (e1 : Ending) (w' : World) => e1 = .returned (prnV r) ∧ Below w.heap.size w w') = Pst at *
  have hE := Lib.hid hE0
  clear hE0
  have hC := fun W => check_any r W
  have hN := Lib.hid (fun W => name_any r.k W)
  have hJ := fun W => join_rl r W
  have hin : chkR r = 0 → rlOk r := rl_in
  have hprn : prnS r = if chkR r = 0 then rlS r else ⟨#[]⟩ := rfl
  obtain ⟨W0, hW0⟩ : ∃ W0, w.alloc (.cells #[.int .i64 r.k, .int .i64 r.a, .int .i64 r.b] 29) = W0 := ⟨_, rfl⟩
  have hc := Lib.hid (hW0 ▸ HRl.new w 29 r.k r.a r.b)
  have hb0 := Lib.hid (hW0 ▸ alb w _ : Below w.heap.size w W0)
  obtain ⟨c0, c1, c2⟩ := hc.out
  unfold rlV at hC ⊢
  generalize prnS r = tt at *
  by_cases hz : chkR r = 0
  · have hT := fun W => text_any r.a W (hin hz).1.1 (hin hz).1.2
    have hU := fun W => text_any r.b W (hin hz).2.1 (hin hz).2.2
    rw [if_pos hz] at hprn
    rw [hz] at hC
    generalize rlS r = J at *
    generalize nameR r.k = n1 at *
    generalize textS r.a = n2 at *
    generalize textS r.b = n3 at *
    replace hT := Lib.hid hT
    replace hU := Lib.hid hU
    replace hC := Lib.hid hC
    replace hJ := Lib.hid hJ
    replace hz := Lib.hid hz
    replace hprn := Lib.hid hprn
    go_enter Tryd.func16, Tryd.ntmps16
    go_wp2_with (go_at_call 20; (with_reducible refine (hC.out _).mono ?_); rintro e1 w2 ⟨rfl, hA⟩; have hr2 : Hid (HC3 w2.drew w.heap.size r.k r.a r.b) := (fun h : HRl _ _ _ _ _ => ⟨h.c0, h.c1, h.c2⟩) ((hc.out.below hA).below (bdrw w2)); have hb2 := Lib.hid (bt (bt hb0.out hA) (bdrw w2)); clear hA)
    clear c0 c1 c2
    refine wp_region_held_drew (S := (fun w' => HC3 w' w.heap.size r.k r.a r.b)) (by kernel_rfl) ?_ (fun hHeld => ?_)
    · first | with_reducible exact hr2.out | exact hr2.out.below (alb _ _)
    first | (refine tw (i := 0) (v := ?_) ?_ hHeld ?_; rotate_left; focus (intro w hSw; (try dsimp only at hSw); (try simp only [HC3] at hSw); go_simp; (try with_reducible rfl); done)) | refine tn (i := 0) hHeld ?_
    try simp only [Act.put, List.setIfInBounds_toArray, List.set_cons_zero, List.set_cons_succ]
    first | (refine tw (i := 1) (v := ?_) ?_ hHeld ?_; rotate_left; focus (intro w hSw; (try dsimp only at hSw); (try simp only [HC3] at hSw); go_simp; (try with_reducible rfl); done)) | refine tn (i := 1) hHeld ?_
    try simp only [Act.put, List.setIfInBounds_toArray, List.set_cons_zero, List.set_cons_succ]
    first | (refine tw (i := 3) (v := ?_) ?_ hHeld ?_; rotate_left; focus (intro w hSw; (try dsimp only at hSw); (try simp only [HC3] at hSw); go_simp; (try with_reducible rfl); done)) | refine tn (i := 3) hHeld ?_
    try simp only [Act.put, List.setIfInBounds_toArray, List.set_cons_zero, List.set_cons_succ]
    first | (refine tw (i := 4) (v := ?_) ?_ hHeld ?_; rotate_left; focus (intro w hSw; (try dsimp only at hSw); (try simp only [HC3] at hSw); go_simp; (try with_reducible rfl); done)) | refine tn (i := 4) hHeld ?_
    try simp only [Act.put, List.setIfInBounds_toArray, List.set_cons_zero, List.set_cons_succ]
    first | (refine tw (i := 6) (v := ?_) ?_ hHeld ?_; rotate_left; focus (intro w hSw; (try dsimp only at hSw); (try simp only [HC3] at hSw); go_simp; (try with_reducible rfl); done)) | refine tn (i := 6) hHeld ?_
    try simp only [Act.put, List.setIfInBounds_toArray, List.set_cons_zero, List.set_cons_succ]
    first | (refine tw (i := 7) (v := ?_) ?_ hHeld ?_; rotate_left; focus (intro w hSw; (try dsimp only at hSw); (try simp only [HC3] at hSw); go_simp; (try with_reducible rfl); done)) | refine tn (i := 7) hHeld ?_
    try simp only [Act.put, List.setIfInBounds_toArray, List.set_cons_zero, List.set_cons_succ]
    refine call_next (i := 2) (by kernel_rfl) (by rfl) ?_
    intro o ho K hK
    simp only [List.getElem?_toArray, List.getElem?_cons_succ, List.getElem?_cons_zero, Option.some.injEq] at ho
    subst ho
    first | (fail; refine hK.out _ _ ?_ (fun hHeld => ?_)) | (go_simp; first | (with_reducible refine hK.out _ _ ?_ (fun hHeld => ?_)) | ((first | (go_at_call 33; (with_reducible refine (hN.out _).mono ?_); rintro e5 w5 ⟨rfl, rfl⟩) | (go_at_call 34; (with_reducible refine (hT.out _).mono ?_); rintro e5 w5 ⟨rfl, hA⟩; replace hr2 := Lib.hid (hr2.out.below hA); replace hb2 := Lib.hid (bt hb2.out hA); clear hA) | (go_at_call 34; (with_reducible refine (hU.out _).mono ?_); rintro e5 w5 ⟨rfl, hA⟩; replace hr2 := Lib.hid (hr2.out.below hA); replace hb2 := Lib.hid (bt hb2.out hA); clear hA) | (go_at_call 32; (with_reducible refine (hJ.out _).mono ?_); rintro e5 w7 ⟨rfl, hA⟩; replace hr2 := Lib.hid (hr2.out.below hA); replace hb2 := Lib.hid (bt hb2.out hA); clear hA)); refine hK.out _ _ ?_ (fun hHeld => ?_)))
    · first | with_reducible exact hr2.out | exact hr2.out.below (alb _ _)
    clear hK K
    try simp only [Act.put, List.setIfInBounds_toArray, List.set_cons_zero, List.set_cons_succ]
    refine call_next (i := 5) (by kernel_rfl) (by rfl) ?_
    intro o ho K hK
    simp only [List.getElem?_toArray, List.getElem?_cons_succ, List.getElem?_cons_zero, Option.some.injEq] at ho
    subst ho
    first | (fail; refine hK.out _ _ ?_ (fun hHeld => ?_)) | (go_simp; first | (with_reducible refine hK.out _ _ ?_ (fun hHeld => ?_)) | ((first | (go_at_call 33; (with_reducible refine (hN.out _).mono ?_); rintro e5 w5 ⟨rfl, rfl⟩) | (go_at_call 34; (with_reducible refine (hT.out _).mono ?_); rintro e5 w5 ⟨rfl, hA⟩; replace hr2 := Lib.hid (hr2.out.below hA); replace hb2 := Lib.hid (bt hb2.out hA); clear hA) | (go_at_call 34; (with_reducible refine (hU.out _).mono ?_); rintro e5 w5 ⟨rfl, hA⟩; replace hr2 := Lib.hid (hr2.out.below hA); replace hb2 := Lib.hid (bt hb2.out hA); clear hA) | (go_at_call 32; (with_reducible refine (hJ.out _).mono ?_); rintro e5 w7 ⟨rfl, hA⟩; replace hr2 := Lib.hid (hr2.out.below hA); replace hb2 := Lib.hid (bt hb2.out hA); clear hA)); refine hK.out _ _ ?_ (fun hHeld => ?_)))
    · first | with_reducible exact hr2.out | exact hr2.out.below (alb _ _)
    clear hK K
    try simp only [Act.put, List.setIfInBounds_toArray, List.set_cons_zero, List.set_cons_succ]
    refine call_next (i := 8) (by kernel_rfl) (by rfl) ?_
    intro o ho K hK
    simp only [List.getElem?_toArray, List.getElem?_cons_succ, List.getElem?_cons_zero, Option.some.injEq] at ho
    subst ho
    first | (fail; refine hK.out _ _ ?_ (fun hHeld => ?_)) | (go_simp; first | (with_reducible refine hK.out _ _ ?_ (fun hHeld => ?_)) | ((first | (go_at_call 33; (with_reducible refine (hN.out _).mono ?_); rintro e5 w5 ⟨rfl, rfl⟩) | (go_at_call 34; (with_reducible refine (hT.out _).mono ?_); rintro e5 w5 ⟨rfl, hA⟩; replace hr2 := Lib.hid (hr2.out.below hA); replace hb2 := Lib.hid (bt hb2.out hA); clear hA) | (go_at_call 34; (with_reducible refine (hU.out _).mono ?_); rintro e5 w5 ⟨rfl, hA⟩; replace hr2 := Lib.hid (hr2.out.below hA); replace hb2 := Lib.hid (bt hb2.out hA); clear hA) | (go_at_call 32; (with_reducible refine (hJ.out _).mono ?_); rintro e5 w7 ⟨rfl, hA⟩; replace hr2 := Lib.hid (hr2.out.below hA); replace hb2 := Lib.hid (bt hb2.out hA); clear hA)); refine hK.out _ _ ?_ (fun hHeld => ?_)))
    · first | with_reducible exact hr2.out | exact hr2.out.below (alb _ _)
    clear hK K
    try simp only [Act.put, List.setIfInBounds_toArray, List.set_cons_zero, List.set_cons_succ]
    refine call_next (i := 9) (by kernel_rfl) (by rfl) ?_
    intro o ho K hK
    simp only [List.getElem?_toArray, List.getElem?_cons_succ, List.getElem?_cons_zero, Option.some.injEq] at ho
    subst ho
    first | (fail; refine hK.out _ _ ?_ (fun hHeld => ?_)) | (go_simp; first | (with_reducible refine hK.out _ _ ?_ (fun hHeld => ?_)) | ((first | (go_at_call 33; (with_reducible refine (hN.out _).mono ?_); rintro e5 w5 ⟨rfl, rfl⟩) | (go_at_call 34; (with_reducible refine (hT.out _).mono ?_); rintro e5 w5 ⟨rfl, hA⟩; replace hr2 := Lib.hid (hr2.out.below hA); replace hb2 := Lib.hid (bt hb2.out hA); clear hA) | (go_at_call 34; (with_reducible refine (hU.out _).mono ?_); rintro e5 w5 ⟨rfl, hA⟩; replace hr2 := Lib.hid (hr2.out.below hA); replace hb2 := Lib.hid (bt hb2.out hA); clear hA) | (go_at_call 32; (with_reducible refine (hJ.out _).mono ?_); rintro e5 w7 ⟨rfl, hA⟩; replace hr2 := Lib.hid (hr2.out.below hA); replace hb2 := Lib.hid (bt hb2.out hA); clear hA)); refine hK.out _ _ ?_ (fun hHeld => ?_)))
    · first | with_reducible exact hr2.out | exact hr2.out.below (alb _ _)
    clear hK K
    try simp only [Act.put, List.setIfInBounds_toArray, List.set_cons_zero, List.set_cons_succ]
    refine call_next (i := 10) (by kernel_rfl) (by rfl) ?_
    intro o ho K hK
    simp only [List.getElem?_toArray, List.getElem?_cons_succ, List.getElem?_cons_zero, Option.some.injEq] at ho
    subst ho
    first | (fail; refine hK.out _ _ ?_ (fun hHeld => ?_)) | (go_simp; first | (with_reducible refine hK.out _ _ ?_ (fun hHeld => ?_)) | ((first | (go_at_call 33; (with_reducible refine (hN.out _).mono ?_); rintro e5 w5 ⟨rfl, rfl⟩) | (go_at_call 34; (with_reducible refine (hT.out _).mono ?_); rintro e5 w5 ⟨rfl, hA⟩; replace hr2 := Lib.hid (hr2.out.below hA); replace hb2 := Lib.hid (bt hb2.out hA); clear hA) | (go_at_call 34; (with_reducible refine (hU.out _).mono ?_); rintro e5 w5 ⟨rfl, hA⟩; replace hr2 := Lib.hid (hr2.out.below hA); replace hb2 := Lib.hid (bt hb2.out hA); clear hA) | (go_at_call 32; (with_reducible refine (hJ.out _).mono ?_); rintro e5 w7 ⟨rfl, hA⟩; replace hr2 := Lib.hid (hr2.out.below hA); replace hb2 := Lib.hid (bt hb2.out hA); clear hA)); refine hK.out _ _ ?_ (fun hHeld => ?_)))
    · first | with_reducible exact hr2.out | exact hr2.out.below (alb _ _)
    clear hK K
    try simp only [Act.put, List.setIfInBounds_toArray, List.set_cons_zero, List.set_cons_succ]
    first | (refine tw (i := 11) (v := ?_) ?_ hHeld ?_; rotate_left; focus (intro w hSw; (try dsimp only at hSw); (try simp only [HC3] at hSw); go_simp; (try with_reducible rfl); done)) | refine tn (i := 11) hHeld ?_
    try simp only [Act.put, List.setIfInBounds_toArray, List.set_cons_zero, List.set_cons_succ]
    first | (refine tw (i := 12) (v := ?_) ?_ hHeld ?_; rotate_left; focus (intro w hSw; (try dsimp only at hSw); (try simp only [HC3] at hSw); go_simp; (try with_reducible rfl); done)) | refine tn (i := 12) hHeld ?_
    try simp only [Act.put, List.setIfInBounds_toArray, List.set_cons_zero, List.set_cons_succ]
    refine wpAnyH_done (by kernel_rfl) ?_ _
    go_wp2
    exact hE.out _ _ _ hprn.out.symm hz.out.symm hb2.out
  · rw [if_neg hz] at hprn
    have hnz : (chkR r != 0) = true := by simpa [bne] using hz
    have hnz1 : (chkR r == 0) = false := by simpa using hz
    generalize chkR r = z at *
    clear hin hN hJ
    replace hC := Lib.hid hC
    replace hprn := Lib.hid hprn
    clear hz
    go_enter Tryd.func16, Tryd.ntmps16
    go_wp2_with (go_at_call 20; (with_reducible refine (hC.out _).mono ?_); rintro e1 w2 ⟨rfl, hA⟩; have hb2 := Lib.hid (bt hb0.out hA); clear hA)
    exact hE.out _ _ _ hprn.out.symm rfl hb2.out
set_option maxHeartbeats 1600000 in
theorem rprint_any (r : Rl) (w : World) : Calls Tryd.prog 17 #[rlV r] w fun e w' => e = .returned (prnV r) ∧ Below w.heap.size w w' := by
  have hE0 : ∀ (t : ByteArray) (c : Int) W, t = prnS r → c = chkR r → Below w.heap.size w W → (fun (e1 : Ending) (w' : World) => e1 = .returned (prnV r) ∧ Below w.heap.size w w') (.returned (.tuple #[.string t, .int .i64 c])) W := by
    rintro t c W rfl rfl hb
    exact ⟨rfl, hb⟩
  generalize (fun (e1 : Ending) (w' : World) => e1 = .returned (prnV r) ∧ Below w.heap.size w w') = Pst at *
  have hE := Lib.hid hE0
  clear hE0
  have hC := fun W => rcheck_any r W
  have hN := fun W => rname_any r.k W
  have hin : chkR r = 0 → rlOk r := rl_in
  have happ := rlS_app r
  have hsz : (nameR r.k).size ≤ 7 := by
    unfold nameR
    repeat' split
    all_goals decide
  have hs2 := text_size r.a
  have hs3 := text_size r.b
  have hprn : prnS r = if chkR r = 0 then rlS r else ⟨#[]⟩ := rfl
  obtain ⟨W0, hW0⟩ : ∃ W0, w.alloc (.cells #[.int .i64 r.k, .int .i64 r.a, .int .i64 r.b] 29) = W0 := ⟨_, rfl⟩
  have hc := Lib.hid (hW0 ▸ HRl.new w 29 r.k r.a r.b)
  have hb0 := Lib.hid (hW0 ▸ alb w _ : Below w.heap.size w W0)
  obtain ⟨c0, c1, c2⟩ := hc.out
  unfold rlV at hC ⊢
  generalize prnS r = tt at *
  by_cases hz : chkR r = 0
  · have hT := fun W => rtext_any r.a W (hin hz).1.1 (hin hz).1.2
    have hU := fun W => rtext_any r.b W (hin hz).2.1 (hin hz).2.2
    rw [if_pos hz] at hprn
    rw [hz] at hC
    generalize rlS r = J at *
    generalize nameR r.k = n1 at *
    generalize textS r.a = n2 at *
    generalize textS r.b = n3 at *
    replace hT := Lib.hid hT
    replace hU := Lib.hid hU
    replace hC := Lib.hid hC
    replace hN := Lib.hid hN
    replace hz := Lib.hid hz
    have hprn : Hid ((((n1 ++ ⟨#[32]⟩) ++ n2) ++ ⟨#[32]⟩) ++ n3 = tt) := happ.trans hprn.symm
    have g1 : ¬ 9223372036854775807 < n1.size + 1 := by omega
    have g2 : ¬ 9223372036854775807 < n1.size + 1 + n2.size := by omega
    have g3 : ¬ 9223372036854775807 < n1.size + 1 + n2.size + 1 := by omega
    have g4 : ¬ 9223372036854775807 < n1.size + 1 + n2.size + 1 + n3.size := by omega
    clear happ
    go_enter Tryd.func17, Tryd.ntmps17
    go_wp2_with (go_at_call 21; (with_reducible refine (hC.out _).mono ?_); rintro e1 w2 ⟨rfl, hA⟩; have hr2 : Hid (HC3 w2.drew w.heap.size r.k r.a r.b) := (fun h : HRl _ _ _ _ _ => ⟨h.c0, h.c1, h.c2⟩) ((hc.out.below hA).below (bdrw w2)); have hb2 := Lib.hid (bt (bt hb0.out hA) (bdrw w2)); clear hA)
    clear c0 c1 c2
    refine wp_region_held_drew (S := (fun w' => HC3 w' w.heap.size r.k r.a r.b)) (by kernel_rfl) ?_ (fun hHeld => ?_)
    · first | with_reducible exact hr2.out
    first | (refine tw (i := 0) (v := ?_) ?_ hHeld ?_; rotate_left; focus (intro w hSw; (try dsimp only at hSw); (try simp only [HC3] at hSw); go_simp; (try with_reducible rfl); done)) | refine tn (i := 0) hHeld ?_
    try simp only [Act.put, List.setIfInBounds_toArray, List.set_cons_zero, List.set_cons_succ]
    first | (refine tw (i := 1) (v := ?_) ?_ hHeld ?_; rotate_left; focus (intro w hSw; (try dsimp only at hSw); (try simp only [HC3] at hSw); go_simp; (try with_reducible rfl); done)) | refine tn (i := 1) hHeld ?_
    try simp only [Act.put, List.setIfInBounds_toArray, List.set_cons_zero, List.set_cons_succ]
    first | (refine tw (i := 4) (v := ?_) ?_ hHeld ?_; rotate_left; focus (intro w hSw; (try dsimp only at hSw); (try simp only [HC3] at hSw); go_simp; (try with_reducible rfl); done)) | refine tn (i := 4) hHeld ?_
    try simp only [Act.put, List.setIfInBounds_toArray, List.set_cons_zero, List.set_cons_succ]
    first | (refine tw (i := 5) (v := ?_) ?_ hHeld ?_; rotate_left; focus (intro w hSw; (try dsimp only at hSw); (try simp only [HC3] at hSw); go_simp; (try with_reducible rfl); done)) | refine tn (i := 5) hHeld ?_
    try simp only [Act.put, List.setIfInBounds_toArray, List.set_cons_zero, List.set_cons_succ]
    first | (refine tw (i := 9) (v := ?_) ?_ hHeld ?_; rotate_left; focus (intro w hSw; (try dsimp only at hSw); (try simp only [HC3] at hSw); go_simp; (try with_reducible rfl); done)) | refine tn (i := 9) hHeld ?_
    try simp only [Act.put, List.setIfInBounds_toArray, List.set_cons_zero, List.set_cons_succ]
    first | (refine tw (i := 10) (v := ?_) ?_ hHeld ?_; rotate_left; focus (intro w hSw; (try dsimp only at hSw); (try simp only [HC3] at hSw); go_simp; (try with_reducible rfl); done)) | refine tn (i := 10) hHeld ?_
    try simp only [Act.put, List.setIfInBounds_toArray, List.set_cons_zero, List.set_cons_succ]
    refine call_next (i := 2) (by kernel_rfl) (by rfl) ?_
    intro o ho K hK
    simp only [List.getElem?_toArray, List.getElem?_cons_succ, List.getElem?_cons_zero, Option.some.injEq] at ho
    subst ho
    first | (fail; refine hK.out _ _ ?_ (fun hHeld => ?_)) | (go_simp; first | (with_reducible refine hK.out _ _ ?_ (fun hHeld => ?_)) | ((first | (go_at_call 35; (with_reducible refine (hN.out _).mono ?_); rintro e5 w5 ⟨rfl, hA⟩; replace hr2 := Lib.hid (hr2.out.below hA); replace hb2 := Lib.hid (bt hb2.out hA); clear hA) | (go_at_call 36; (with_reducible refine (hT.out _).mono ?_); rintro e5 w5 ⟨rfl, hA⟩; replace hr2 := Lib.hid (hr2.out.below hA); replace hb2 := Lib.hid (bt hb2.out hA); clear hA) | (go_at_call 36; (with_reducible refine (hU.out _).mono ?_); rintro e5 w5 ⟨rfl, hA⟩; replace hr2 := Lib.hid (hr2.out.below hA); replace hb2 := Lib.hid (bt hb2.out hA); clear hA)); refine hK.out _ _ ?_ (fun hHeld => ?_)))
    · first | with_reducible exact hr2.out
    clear hK K
    try simp only [Act.put, List.setIfInBounds_toArray, List.set_cons_zero, List.set_cons_succ]
    first | (refine tw (i := 3) (v := ?_) ?_ hHeld ?_; rotate_left; focus (intro w hSw; (try dsimp only at hSw); (try simp only [HC3] at hSw); go_simp; (try with_reducible rfl); done)) | refine tn (i := 3) hHeld ?_
    try simp only [Act.put, List.setIfInBounds_toArray, List.set_cons_zero, List.set_cons_succ]
    refine call_next (i := 6) (by kernel_rfl) (by rfl) ?_
    intro o ho K hK
    simp only [List.getElem?_toArray, List.getElem?_cons_succ, List.getElem?_cons_zero, Option.some.injEq] at ho
    subst ho
    first | (fail; refine hK.out _ _ ?_ (fun hHeld => ?_)) | (go_simp; first | (with_reducible refine hK.out _ _ ?_ (fun hHeld => ?_)) | ((first | (go_at_call 35; (with_reducible refine (hN.out _).mono ?_); rintro e5 w5 ⟨rfl, hA⟩; replace hr2 := Lib.hid (hr2.out.below hA); replace hb2 := Lib.hid (bt hb2.out hA); clear hA) | (go_at_call 36; (with_reducible refine (hT.out _).mono ?_); rintro e5 w5 ⟨rfl, hA⟩; replace hr2 := Lib.hid (hr2.out.below hA); replace hb2 := Lib.hid (bt hb2.out hA); clear hA) | (go_at_call 36; (with_reducible refine (hU.out _).mono ?_); rintro e5 w5 ⟨rfl, hA⟩; replace hr2 := Lib.hid (hr2.out.below hA); replace hb2 := Lib.hid (bt hb2.out hA); clear hA)); refine hK.out _ _ ?_ (fun hHeld => ?_)))
    · first | with_reducible exact hr2.out
    clear hK K
    try simp only [Act.put, List.setIfInBounds_toArray, List.set_cons_zero, List.set_cons_succ]
    first | (refine tw (i := 7) (v := ?_) ?_ hHeld ?_; rotate_left; focus (intro w hSw; (try dsimp only at hSw); (try simp only [HC3] at hSw); go_simp; (try with_reducible rfl); done)) | refine tn (i := 7) hHeld ?_
    try simp only [Act.put, List.setIfInBounds_toArray, List.set_cons_zero, List.set_cons_succ]
    first | (refine tw (i := 8) (v := ?_) ?_ hHeld ?_; rotate_left; focus (intro w hSw; (try dsimp only at hSw); (try simp only [HC3] at hSw); go_simp; (try with_reducible rfl); done)) | refine tn (i := 8) hHeld ?_
    try simp only [Act.put, List.setIfInBounds_toArray, List.set_cons_zero, List.set_cons_succ]
    refine call_next (i := 11) (by kernel_rfl) (by rfl) ?_
    intro o ho K hK
    simp only [List.getElem?_toArray, List.getElem?_cons_succ, List.getElem?_cons_zero, Option.some.injEq] at ho
    subst ho
    first | (fail; refine hK.out _ _ ?_ (fun hHeld => ?_)) | (go_simp; first | (with_reducible refine hK.out _ _ ?_ (fun hHeld => ?_)) | ((first | (go_at_call 35; (with_reducible refine (hN.out _).mono ?_); rintro e5 w5 ⟨rfl, hA⟩; replace hr2 := Lib.hid (hr2.out.below hA); replace hb2 := Lib.hid (bt hb2.out hA); clear hA) | (go_at_call 36; (with_reducible refine (hT.out _).mono ?_); rintro e5 w5 ⟨rfl, hA⟩; replace hr2 := Lib.hid (hr2.out.below hA); replace hb2 := Lib.hid (bt hb2.out hA); clear hA) | (go_at_call 36; (with_reducible refine (hU.out _).mono ?_); rintro e5 w5 ⟨rfl, hA⟩; replace hr2 := Lib.hid (hr2.out.below hA); replace hb2 := Lib.hid (bt hb2.out hA); clear hA)); refine hK.out _ _ ?_ (fun hHeld => ?_)))
    · first | with_reducible exact hr2.out
    clear hK K
    try simp only [Act.put, List.setIfInBounds_toArray, List.set_cons_zero, List.set_cons_succ]
    first | (refine tw (i := 12) (v := ?_) ?_ hHeld ?_; rotate_left; focus (intro w hSw; (try dsimp only at hSw); (try simp only [HC3] at hSw); go_simp; (try with_reducible rfl); done)) | refine tn (i := 12) hHeld ?_
    try simp only [Act.put, List.setIfInBounds_toArray, List.set_cons_zero, List.set_cons_succ]
    first | (refine tw (i := 13) (v := ?_) ?_ hHeld ?_; rotate_left; focus (intro w hSw; (try dsimp only at hSw); (try simp only [HC3] at hSw); go_simp; (try with_reducible rfl); done)) | refine tn (i := 13) hHeld ?_
    try simp only [Act.put, List.setIfInBounds_toArray, List.set_cons_zero, List.set_cons_succ]
    first | (refine tw (i := 14) (v := ?_) ?_ hHeld ?_; rotate_left; focus (intro w hSw; (try dsimp only at hSw); (try simp only [HC3] at hSw); go_simp; (try with_reducible rfl); done)) | refine tn (i := 14) hHeld ?_
    try simp only [Act.put, List.setIfInBounds_toArray, List.set_cons_zero, List.set_cons_succ]
    refine wpAnyH_done (by kernel_rfl) ?_ _
    go_wp2
    exact hE.out _ _ _ hprn.out hz.out.symm hb2.out
  · rw [if_neg hz] at hprn
    have hnz : (chkR r != 0) = true := by simpa [bne] using hz
    have hnz1 : (chkR r == 0) = false := by simpa using hz
    generalize chkR r = z at *
    clear hin hN happ hsz hs2 hs3
    replace hC := Lib.hid hC
    replace hprn := Lib.hid hprn
    clear hz
    go_enter Tryd.func17, Tryd.ntmps17
    go_wp2_with (go_at_call 21; (with_reducible refine (hC.out _).mono ?_); rintro e1 w2 ⟨rfl, hA⟩; have hb2 := Lib.hid (bt hb0.out hA); clear hA)
    exact hE.out _ _ _ hprn.out.symm rfl hb2.out
end Go.Proofs.YtnflnaalpeeciaaDoor
