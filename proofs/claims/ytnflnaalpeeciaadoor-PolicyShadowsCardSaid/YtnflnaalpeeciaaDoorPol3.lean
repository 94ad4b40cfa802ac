/-
  What rules say of a conflict (chapter 42): the first that says anything.
-/
import Derived.Test.YtnflnaalpeeciaaDoorPol2
import Derived.Test.YtnflnaalpeeciaaDoorDraw
namespace Go.Proofs.YtnflnaalpeeciaaDoor
open Go.RowKit
set_option linter.unusedVariables false
set_option linter.unusedSimpArgs false
set_option maxRecDepth 20000

def chV (c : Int × Bool) : Value := .tuple #[.int .i64 c.1, .bool c.2]
theorem choose_at {l : List Rl} {k : Nat} {x : Rl} (p : Pr) (h : l[k]? = some x) : choose (l.drop k) p = if covR x p.x ∧ saysR x.k p ≠ 0 then (if saysR x.k p = 3 then (0, false) else (saysR x.k p - 1, true)) else choose (l.drop (k + 1)) p := by
  obtain ⟨h1, h2⟩ := List.getElem?_eq_some_iff.1 h
  rw [List.drop_eq_getElem_cons h1, h2]; rfl
theorem bdrew (w : World) : Below w.heap.size w w.drew := ⟨rfl, rfl, rfl, Nat.le_refl _, fun _ _ => rfl⟩
def CS (W : World) (K3 K7 : Nat) (p : Pr) (k : Int) : Prop := W.cell? ⟨K7, 0, none⟩ = some (.int .i64 k) ∧ W.cell? ⟨K3, 0, none⟩ = some (.int .i64 p.x) ∧ W.cell? ⟨K3, 1, none⟩ = some (.int .i64 p.a1) ∧ W.cell? ⟨K3, 2, none⟩ = some (.int .i64 p.a2) ∧ W.cell? ⟨K3, 3, none⟩ = some (.string p.ad) ∧ W.cell? ⟨K3, 4, none⟩ = some (.int .i64 p.b1) ∧ W.cell? ⟨K3, 5, none⟩ = some (.int .i64 p.b2) ∧ W.cell? ⟨K3, 6, none⟩ = some (.string p.bd)
theorem CS.below {W W' : World} {K3 K7 : Nat} {p : Pr} {k : Int} (h : CS W K3 K7 p k) (hb : Below W.heap.size W W') : CS W' K3 K7 p k :=
  ⟨bkeep hb h.1, bkeep hb h.2.1, bkeep hb h.2.2.1, bkeep hb h.2.2.2.1, bkeep hb h.2.2.2.2.1, bkeep hb h.2.2.2.2.2.1, bkeep hb h.2.2.2.2.2.2.1, bkeep hb h.2.2.2.2.2.2.2⟩
theorem HPr.cs {W : World} {K3 K7 : Nat} {p : Pr} {k : Int} (h : HPr W K3 p) (h7 : W.cell? ⟨K7, 0, none⟩ = some (.int .i64 k)) : CS W K3 K7 p k := ⟨h7, h.c0, h.c1, h.c2, h.c3, h.c4, h.c5, h.c6⟩
def CS2 (W : World) (K3 g o : Nat) (p : Pr) (k a b : Int) : Prop := W.cell? ⟨g, o, none⟩ = some (.int .i64 k) ∧ W.cell? ⟨g, o + 1, none⟩ = some (.int .i64 a) ∧ W.cell? ⟨g, o + 2, none⟩ = some (.int .i64 b) ∧ W.cell? ⟨K3, 0, none⟩ = some (.int .i64 p.x) ∧ W.cell? ⟨K3, 1, none⟩ = some (.int .i64 p.a1) ∧ W.cell? ⟨K3, 2, none⟩ = some (.int .i64 p.a2) ∧ W.cell? ⟨K3, 3, none⟩ = some (.string p.ad) ∧ W.cell? ⟨K3, 4, none⟩ = some (.int .i64 p.b1) ∧ W.cell? ⟨K3, 5, none⟩ = some (.int .i64 p.b2) ∧ W.cell? ⟨K3, 6, none⟩ = some (.string p.bd)
theorem CS2.below {W W' : World} {K3 g o : Nat} {p : Pr} {k a b : Int} (h : CS2 W K3 g o p k a b) (hb : Below W.heap.size W W') : CS2 W' K3 g o p k a b :=
  ⟨bkeep hb h.1, bkeep hb h.2.1, bkeep hb h.2.2.1, bkeep hb h.2.2.2.1, bkeep hb h.2.2.2.2.1, bkeep hb h.2.2.2.2.2.1, bkeep hb h.2.2.2.2.2.2.1, bkeep hb h.2.2.2.2.2.2.2.1, bkeep hb h.2.2.2.2.2.2.2.2.1, bkeep hb h.2.2.2.2.2.2.2.2.2⟩
theorem CS2.hp {W : World} {K3 g o : Nat} {p : Pr} {k a b : Int} (h : CS2 W K3 g o p k a b) : HPr W K3 p := ⟨h.2.2.2.1, h.2.2.2.2.1, h.2.2.2.2.2.1, h.2.2.2.2.2.2.1, h.2.2.2.2.2.2.2.1, h.2.2.2.2.2.2.2.2.1, h.2.2.2.2.2.2.2.2.2⟩
/-- where the rules have said nothing yet -/
def CR (w : World) (K3 : Nat) (l : List Rl) (p : Pr) (i : Value) (wr : World) : Prop := ∃ k : Nat, k ≤ l.length ∧ i = .int .i64 k ∧ Hid (choose l p = choose (l.drop k) p) ∧ Hid (HPr wr K3 p) ∧ Hid (Below w.heap.size w wr)
set_option maxHeartbeats 3200000 in
theorem choose_any (l : List Rl) (v : Value) (p : Pr) (w : World) (hl : FR.X w v l) (hm : l.length ≤ 9223372036854775807) :
    Calls Tryd.prog 11 #[v, prV p] w fun e w' => e = .returned (chV (choose l p)) ∧ Below w.heap.size w w' := by
  obtain ⟨a, cap, rfl⟩ := hl.any
  have hE0 : ∀ (c : Int × Bool) W, c = choose l p → Below w.heap.size w W → (fun (e1 : Ending) (w' : World) => e1 = .returned (chV (choose l p)) ∧ Below w.heap.size w w') (.returned (.tuple #[.int .i64 c.1, .bool c.2])) W := by
    rintro v W rfl hb
    exact ⟨rfl, hb⟩
  generalize (fun (e1 : Ending) (w' : World) => e1 = .returned (chV (choose l p)) ∧ Below w.heap.size w w') = Pst at *
  have hE := Lib.hid hE0
  clear hE0
  replace hl := Lib.hid hl
  obtain ⟨W0, hW0⟩ : ∃ W0, w.alloc (.cells #[.int .i64 p.x, .int .i64 p.a1, .int .i64 p.a2, .string p.ad, .int .i64 p.b1, .int .i64 p.b2, .string p.bd] 41) = W0 := ⟨_, rfl⟩
  have hP0 := Lib.hid (hW0 ▸ HPr.new w 41 p)
  have hb0 := Lib.hid (hW0 ▸ alb w _ : Below w.heap.size w W0)
  unfold prV
  go_enter Tryd.func11, Tryd.ntmps11
  go_wp2
  go_loopw [10] (fun i wr => CR w w.heap.size l p i wr) (fun i _ => l.length - (intOf i).toNat)
  case atStart => exact ⟨0, Nat.zero_le _, rfl, by simp [Hid], hP0, hb0⟩
  case round =>
    obtain ⟨k, hk, rfl, hK, hP, hB⟩ := hrel
    by_cases hlt : k < l.length
    · have hd2 : decide ((k : Int) < (l.length : Int)) = true := decide_eq_true (by omega)
      obtain ⟨x, hx⟩ : ∃ x, l[k]? = some x := ⟨_, List.getElem?_eq_getElem hlt⟩
      obtain ⟨g, o, rfl, p0, p1, p2⟩ := FR.at hl.out k x hx
      have p0 := bkeep hB.out p0
      have p1 := bkeep hB.out p1
      have p2 := bkeep hB.out p2
      have i1 : (0 : Int) ≤ (k : Int) := by omega
      have i2 : (k : Int) < (l.length : Int) := by omega
      have hch := hK.out.trans (choose_at p hx)
      have hC := fun W => covers_any x p.x W
      have hsc := says_cases x.k p
      obtain ⟨xk, xa, xb⟩ := x
      unfold rlV at hC
      simp only at p0 p1 p2 hch hC hsc
      clear hx hK
      generalize covR ⟨xk, xa, xb⟩ p.x = cv at *
      replace hsc := Lib.hid hsc
      obtain ⟨W1, hW1⟩ : ∃ W1, wr.alloc (.cells #[.int .i64 xk, .int .i64 xa, .int .i64 xb] 29) = W1 := ⟨_, rfl⟩
      obtain ⟨r0, r1, r2⟩ := hW1 ▸ HRl.new wr 29 xk xa xb
      have hb1 : Below wr.heap.size wr W1 := hW1 ▸ alb wr _
      have hP1 := hP.out.below hb1
      have hr1 := Lib.hid (hP1.cs r0)
      have hb1 := Lib.hid (bt hB.out hb1)
      have x0 := hP1.c0
      clear hP1 hP
      cases cv with
      | false =>
        have hch : choose l p = choose (l.drop (k + 1)) p := by simpa using hch
        replace hch := Lib.hid hch
        replace hC := Lib.hid hC
        go_wp2_with (go_at_call 26; (with_reducible refine (hC.out _).mono ?_); rintro e4 w2 ⟨rfl, hA⟩; have hr2 := Lib.hid (hr1.out.below hA); have hb2 := Lib.hid (bt hb1.out hA); clear hA)
        exact ⟨⟨k + 1, by omega, by go_num, hch, ⟨hr2.out.2.1, hr2.out.2.2.1, hr2.out.2.2.2.1, hr2.out.2.2.2.2.1, hr2.out.2.2.2.2.2.1, hr2.out.2.2.2.2.2.2.1, hr2.out.2.2.2.2.2.2.2⟩, hb2⟩, by simp [intOf]; omega⟩
      | true =>
        simp only [true_and] at hch
        replace hch := Lib.hid hch
        replace hC := Lib.hid hC
        go_wp2_with (first | (go_at_call 26; (with_reducible refine (hC.out _).mono ?_); rintro e4 w2 ⟨rfl, hA⟩; have hr2 := Lib.hid (hr1.out.below hA); have hb2 := Lib.hid (bt hb1.out hA); clear hA) | fail)
        clear r0 r1 r2 x0 p0 p1 p2
        replace hr2 := Lib.hid (hr2.out.below (bdrew w2))
        replace hb2 := Lib.hid (bt hb2.out (bdrew w2))
        by_cases h3 : xk = 3
        · subst h3
          have hof := Lib.hid of_three
          have hfu := fun W => further_any p W
          unfold prV at hfu
          replace hfu := Lib.hid hfu
          refine wp_region_held_drew (S := (fun w' => CS w' w.heap.size wr.heap.size p 3)) (by kernel_rfl) ?_ (fun hHeld => ?_)
          · first | with_reducible exact hr2.out
          first | (refine tw (i := 0) (v := ?_) ?_ hHeld ?_; rotate_left; focus (intro w hSw; (try dsimp only at hSw); (try simp only [CS] at hSw); go_simp; (try with_reducible rfl); done)) | refine tn (i := 0) hHeld ?_
          try simp only [Act.put, List.setIfInBounds_toArray, List.set_cons_zero, List.set_cons_succ]
          first | (refine tw (i := 1) (v := ?_) ?_ hHeld ?_; rotate_left; focus (intro w hSw; (try dsimp only at hSw); (try simp only [CS] at hSw); go_simp; (try with_reducible rfl); done)) | refine tn (i := 1) hHeld ?_
          try simp only [Act.put, List.setIfInBounds_toArray, List.set_cons_zero, List.set_cons_succ]
          first | (refine tw (i := 3) (v := ?_) ?_ hHeld ?_; rotate_left; focus (intro w hSw; (try dsimp only at hSw); (try simp only [CS] at hSw); go_simp; (try with_reducible rfl); done)) | refine tn (i := 3) hHeld ?_
          try simp only [Act.put, List.setIfInBounds_toArray, List.set_cons_zero, List.set_cons_succ]
          refine call_next (i := 2) (by kernel_rfl) (by rfl) ?_
          intro o ho K hK
          simp only [List.getElem?_toArray, List.getElem?_cons_succ, List.getElem?_cons_zero, Option.some.injEq] at ho
          subst ho
          first | (fail; refine hK.out _ _ ?_ (fun hHeld => ?_)) | (go_simp; first | (with_reducible refine hK.out _ _ ?_ (fun hHeld => ?_)) | ((first | (go_at_call 27; (with_reducible refine (hof.out _).mono ?_); rintro e5 w5 ⟨rfl, rfl⟩; skip) | (go_at_call 42; (with_reducible refine (hfu.out _).mono ?_); rintro e6 w6 ⟨rfl, hA⟩; replace hr2 := Lib.hid (hr2.out.below hA); replace hb2 := Lib.hid (bt hb2.out hA); clear hA)); refine hK.out _ _ ?_ (fun hHeld => ?_)))
          · first | with_reducible exact hr2.out
          clear hK K
          try simp only [Act.put, List.setIfInBounds_toArray, List.set_cons_zero, List.set_cons_succ]
          refine call_next (i := 4) (by kernel_rfl) (by rfl) ?_
          intro o ho K hK
          simp only [List.getElem?_toArray, List.getElem?_cons_succ, List.getElem?_cons_zero, Option.some.injEq] at ho
          subst ho
          first | (fail; refine hK.out _ _ ?_ (fun hHeld => ?_)) | (go_simp; first | (with_reducible refine hK.out _ _ ?_ (fun hHeld => ?_)) | ((first | (go_at_call 27; (with_reducible refine (hof.out _).mono ?_); rintro e5 w5 ⟨rfl, rfl⟩; skip) | (go_at_call 42; (with_reducible refine (hfu.out _).mono ?_); rintro e6 w6 ⟨rfl, hA⟩; replace hr2 := Lib.hid (hr2.out.below hA); replace hb2 := Lib.hid (bt hb2.out hA); clear hA)); refine hK.out _ _ ?_ (fun hHeld => ?_)))
          · first | with_reducible exact hr2.out
          clear hK K
          try simp only [Act.put, List.setIfInBounds_toArray, List.set_cons_zero, List.set_cons_succ]
          refine wpAnyH_done (by kernel_rfl) ?_ _
          go_wp2
          all_goals
            first
            | (refine hE.out (_, _) _ ?_ hb2.out
               have hch := hch.out
               clear hE hC hl hb2 hr2 hB
               simp_all
               done)
            | (refine ⟨⟨k + 1, by omega, by go_num, ?_, ⟨hr2.out.2.1, hr2.out.2.2.1, hr2.out.2.2.2.1, hr2.out.2.2.2.2.1, hr2.out.2.2.2.2.2.1, hr2.out.2.2.2.2.2.2.1, hr2.out.2.2.2.2.2.2.2⟩, hb2⟩, by simp [intOf]; omega⟩
               have hch := hch.out
               have hsc := hsc.out
               clear hE hC hl hb2 hr2 hB
               show choose l p = _
               rcases hsc with hsc | hsc | hsc | hsc <;> simp_all)
        · by_cases h4 : xk = 4
          · subst h4
            have hof := Lib.hid of_four
            have hfu := fun W => eq1_any p W
            unfold prV at hfu
            replace hfu := Lib.hid hfu
            refine wp_region_held_drew (S := (fun w' => CS w' w.heap.size wr.heap.size p 4)) (by kernel_rfl) ?_ (fun hHeld => ?_)
            · first | with_reducible exact hr2.out
            first | (refine tw (i := 0) (v := ?_) ?_ hHeld ?_; rotate_left; focus (intro w hSw; (try dsimp only at hSw); (try simp only [CS] at hSw); go_simp; (try with_reducible rfl); done)) | refine tn (i := 0) hHeld ?_
            try simp only [Act.put, List.setIfInBounds_toArray, List.set_cons_zero, List.set_cons_succ]
            first | (refine tw (i := 1) (v := ?_) ?_ hHeld ?_; rotate_left; focus (intro w hSw; (try dsimp only at hSw); (try simp only [CS] at hSw); go_simp; (try with_reducible rfl); done)) | refine tn (i := 1) hHeld ?_
            try simp only [Act.put, List.setIfInBounds_toArray, List.set_cons_zero, List.set_cons_succ]
            first | (refine tw (i := 3) (v := ?_) ?_ hHeld ?_; rotate_left; focus (intro w hSw; (try dsimp only at hSw); (try simp only [CS] at hSw); go_simp; (try with_reducible rfl); done)) | refine tn (i := 3) hHeld ?_
            try simp only [Act.put, List.setIfInBounds_toArray, List.set_cons_zero, List.set_cons_succ]
            refine call_next (i := 2) (by kernel_rfl) (by rfl) ?_
            intro o ho K hK
            simp only [List.getElem?_toArray, List.getElem?_cons_succ, List.getElem?_cons_zero, Option.some.injEq] at ho
            subst ho
            first | (fail; refine hK.out _ _ ?_ (fun hHeld => ?_)) | (go_simp; first | (with_reducible refine hK.out _ _ ?_ (fun hHeld => ?_)) | ((first | (go_at_call 27; (with_reducible refine (hof.out _).mono ?_); rintro e5 w5 ⟨rfl, rfl⟩; skip) | (go_at_call 43; (with_reducible refine (hfu.out _).mono ?_); rintro e6 w6 ⟨rfl, hA⟩; replace hr2 := Lib.hid (hr2.out.below hA); replace hb2 := Lib.hid (bt hb2.out hA); clear hA)); refine hK.out _ _ ?_ (fun hHeld => ?_)))
            · first | with_reducible exact hr2.out
            clear hK K
            try simp only [Act.put, List.setIfInBounds_toArray, List.set_cons_zero, List.set_cons_succ]
            refine call_next (i := 4) (by kernel_rfl) (by rfl) ?_
            intro o ho K hK
            simp only [List.getElem?_toArray, List.getElem?_cons_succ, List.getElem?_cons_zero, Option.some.injEq] at ho
            subst ho
            first | (fail; refine hK.out _ _ ?_ (fun hHeld => ?_)) | (go_simp; first | (with_reducible refine hK.out _ _ ?_ (fun hHeld => ?_)) | ((first | (go_at_call 27; (with_reducible refine (hof.out _).mono ?_); rintro e5 w5 ⟨rfl, rfl⟩; skip) | (go_at_call 43; (with_reducible refine (hfu.out _).mono ?_); rintro e6 w6 ⟨rfl, hA⟩; replace hr2 := Lib.hid (hr2.out.below hA); replace hb2 := Lib.hid (bt hb2.out hA); clear hA)); refine hK.out _ _ ?_ (fun hHeld => ?_)))
            · first | with_reducible exact hr2.out
            clear hK K
            try simp only [Act.put, List.setIfInBounds_toArray, List.set_cons_zero, List.set_cons_succ]
            refine wpAnyH_done (by kernel_rfl) ?_ _
            go_wp2
            all_goals
              first
              | (refine hE.out (_, _) _ ?_ hb2.out
                 have hch := hch.out
                 clear hE hC hl hb2 hr2 hB
                 simp_all
                 done)
              | (refine ⟨⟨k + 1, by omega, by go_num, ?_, ⟨hr2.out.2.1, hr2.out.2.2.1, hr2.out.2.2.2.1, hr2.out.2.2.2.2.1, hr2.out.2.2.2.2.2.1, hr2.out.2.2.2.2.2.2.1, hr2.out.2.2.2.2.2.2.2⟩, hb2⟩, by simp [intOf]; omega⟩
                 have hch := hch.out
                 have hsc := hsc.out
                 clear hE hC hl hb2 hr2 hB
                 show choose l p = _
                 rcases hsc with hsc | hsc | hsc | hsc <;> simp_all)
          · have hof := of_always xk h3 h4
            unfold OfA at hof
            replace hof := Lib.hid hof
            have hfu := fun K v W h => alw1_any p K v W h
            unfold prV at hfu
            replace hfu := Lib.hid hfu
            clear h3 h4
            refine wp_region_held_drew (S := (fun w' => CS w' w.heap.size wr.heap.size p xk)) (by kernel_rfl) ?_ (fun hHeld => ?_)
            · first | with_reducible exact hr2.out
            first | (refine tw (i := 0) (v := ?_) ?_ hHeld ?_; rotate_left; focus (intro w hSw; (try dsimp only at hSw); (try simp only [CS] at hSw); go_simp; (try with_reducible rfl); done)) | refine tn (i := 0) hHeld ?_
            try simp only [Act.put, List.setIfInBounds_toArray, List.set_cons_zero, List.set_cons_succ]
            first | (refine tw (i := 1) (v := ?_) ?_ hHeld ?_; rotate_left; focus (intro w hSw; (try dsimp only at hSw); (try simp only [CS] at hSw); go_simp; (try with_reducible rfl); done)) | refine tn (i := 1) hHeld ?_
            try simp only [Act.put, List.setIfInBounds_toArray, List.set_cons_zero, List.set_cons_succ]
            first | (refine tw (i := 3) (v := ?_) ?_ hHeld ?_; rotate_left; focus (intro w hSw; (try dsimp only at hSw); (try simp only [CS] at hSw); go_simp; (try with_reducible rfl); done)) | refine tn (i := 3) hHeld ?_
            try simp only [Act.put, List.setIfInBounds_toArray, List.set_cons_zero, List.set_cons_succ]
            refine call_next (i := 2) (by kernel_rfl) (by rfl) ?_
            intro o ho K hK
            simp only [List.getElem?_toArray, List.getElem?_cons_succ, List.getElem?_cons_zero, Option.some.injEq] at ho
            subst ho
            first | (fail; refine hK.out _ _ ?_ (fun hHeld => ?_)) | (go_simp; first | (with_reducible refine hK.out _ _ ?_ (fun hHeld => ?_)) | ((first | (go_at_call 27; (with_reducible refine (hof.out _).mono ?_); rintro e5 w5 ⟨KV, sv, rfl, hcK, hsv, hA⟩; replace hr2 := Lib.hid (hr2.out.below hA); replace hb2 := Lib.hid (bt hb2.out hA); clear hA; replace hcK := Lib.hid hcK; replace hsv := Lib.hid (hsv p)) | (go_at_call 49; (with_reducible refine (hfu.out KV sv _ hcK.out).mono ?_); rintro e6 w6 ⟨rfl, hA⟩; replace hr2 := Lib.hid (hr2.out.below hA); replace hb2 := Lib.hid (bt hb2.out hA); clear hA)); refine hK.out _ _ ?_ (fun hHeld => ?_)))
            · first | with_reducible exact hr2.out
            clear hK K
            try simp only [Act.put, List.setIfInBounds_toArray, List.set_cons_zero, List.set_cons_succ]
            refine call_next (i := 4) (by kernel_rfl) (by rfl) ?_
            intro o ho K hK
            simp only [List.getElem?_toArray, List.getElem?_cons_succ, List.getElem?_cons_zero, Option.some.injEq] at ho
            subst ho
            first | (fail; refine hK.out _ _ ?_ (fun hHeld => ?_)) | (go_simp; first | (with_reducible refine hK.out _ _ ?_ (fun hHeld => ?_)) | ((first | (go_at_call 27; (with_reducible refine (hof.out _).mono ?_); rintro e5 w5 ⟨KV, sv, rfl, hcK, hsv, hA⟩; replace hr2 := Lib.hid (hr2.out.below hA); replace hb2 := Lib.hid (bt hb2.out hA); clear hA; replace hcK := Lib.hid hcK; replace hsv := Lib.hid (hsv p)) | (go_at_call 49; (with_reducible refine (hfu.out KV sv _ hcK.out).mono ?_); rintro e6 w6 ⟨rfl, hA⟩; replace hr2 := Lib.hid (hr2.out.below hA); replace hb2 := Lib.hid (bt hb2.out hA); clear hA)); refine hK.out _ _ ?_ (fun hHeld => ?_)))
            · first | with_reducible exact hr2.out
            clear hK K
            try simp only [Act.put, List.setIfInBounds_toArray, List.set_cons_zero, List.set_cons_succ]
            refine wpAnyH_done (by kernel_rfl) ?_ _
            have hsv := hsv.out
            subst hsv
            clear hcK
            go_wp2
            all_goals
              first
              | (refine hE.out (_, _) _ ?_ hb2.out
                 have hch := hch.out
                 clear hE hC hl hb2 hr2 hB
                 simp_all
                 done)
              | (refine ⟨⟨k + 1, by omega, by go_num, ?_, ⟨hr2.out.2.1, hr2.out.2.2.1, hr2.out.2.2.2.1, hr2.out.2.2.2.2.1, hr2.out.2.2.2.2.2.1, hr2.out.2.2.2.2.2.2.1, hr2.out.2.2.2.2.2.2.2⟩, hb2⟩, by simp [intOf]; omega⟩
                 have hch := hch.out
                 have hsc := hsc.out
                 clear hE hC hl hb2 hr2 hB
                 show choose l p = _
                 rcases hsc with hsc | hsc | hsc | hsc <;> simp_all)
    · have hd2 : decide ((k : Int) < (l.length : Int)) = false := decide_eq_false (by omega)
      have hch := hK.out.trans (by rw [List.drop_eq_nil_of_le (by omega)] : choose (l.drop k) p = choose [] p)
      go_wp2
      exact hE.out (0, false) _ hch.symm hB.out
set_option maxHeartbeats 3200000 in
theorem rchoose_any (l : List Rl) (v : Value) (p : Pr) (w : World) (hl : FR.X w v l) (hm : l.length ≤ 9223372036854775807) :
    Calls Tryd.prog 12 #[v, prV p] w fun e w' => e = .returned (chV (choose l p)) ∧ Below w.heap.size w w' := by
  obtain ⟨a, cap, rfl⟩ := hl.any
  have hE0 : ∀ (c : Int × Bool) W, c = choose l p → Below w.heap.size w W → (fun (e1 : Ending) (w' : World) => e1 = .returned (chV (choose l p)) ∧ Below w.heap.size w w') (.returned (.tuple #[.int .i64 c.1, .bool c.2])) W := by
    rintro v W rfl hb
    exact ⟨rfl, hb⟩
  generalize (fun (e1 : Ending) (w' : World) => e1 = .returned (chV (choose l p)) ∧ Below w.heap.size w w') = Pst at *
  have hE := Lib.hid hE0
  clear hE0
  replace hl := Lib.hid hl
  obtain ⟨W0, hW0⟩ : ∃ W0, w.alloc (.cells #[.int .i64 p.x, .int .i64 p.a1, .int .i64 p.a2, .string p.ad, .int .i64 p.b1, .int .i64 p.b2, .string p.bd] 41) = W0 := ⟨_, rfl⟩
  have hP0 := Lib.hid (hW0 ▸ HPr.new w 41 p)
  have hb0 := Lib.hid (hW0 ▸ alb w _ : Below w.heap.size w W0)
  unfold prV
  go_enter Tryd.func12, Tryd.ntmps12
  go_wp2
  go_loopw [6] (fun i wr => CR w w.heap.size l p i wr) (fun i _ => l.length - (intOf i).toNat)
  case atStart => exact ⟨0, Nat.zero_le _, rfl, by simp [Hid], hP0, hb0⟩
  case round =>
    obtain ⟨k, hk, rfl, hK, hP, hB⟩ := hrel
    by_cases hlt : k < l.length
    · have hd2 : decide ((k : Int) < (l.length : Int)) = true := decide_eq_true (by omega)
      obtain ⟨x, hx⟩ : ∃ x, l[k]? = some x := ⟨_, List.getElem?_eq_getElem hlt⟩
      obtain ⟨g, o, rfl, p0, p1, p2⟩ := FR.at hl.out k x hx
      have p0 := bkeep hB.out p0
      have p1 := bkeep hB.out p1
      have p2 := bkeep hB.out p2
      have i1 : (0 : Int) ≤ (k : Int) := by omega
      have i2 : (k : Int) < (l.length : Int) := by omega
      have hch := hK.out.trans (choose_at p hx)
      have hC := fun W => rcovers_any x p.x W
      have hS := fun W => rsays_any x p W
      have hsc := says_cases x.k p
      obtain ⟨xk, xa, xb⟩ := x
      unfold rlV at hC hS
      unfold prV at hS
      simp only at p0 p1 p2 hch hC hsc hS
      clear hx hK
      generalize covR ⟨xk, xa, xb⟩ p.x = cv at *
      replace hsc := Lib.hid hsc
      have hr2 : CS2 wr w.heap.size g (o + k * 3) p xk xa xb := ⟨p0, p1, p2, hP.out.c0, hP.out.c1, hP.out.c2, hP.out.c3, hP.out.c4, hP.out.c5, hP.out.c6⟩
      replace hr2 := Lib.hid (hr2.below (bdrew wr))
      have hb2 := Lib.hid (bt hB.out (bdrew wr))
      clear hP p0 p1 p2
      cases cv with
      | false =>
        have hch : choose l p = choose (l.drop (k + 1)) p := by simpa using hch
        replace hch := Lib.hid hch
        replace hC := Lib.hid hC
        clear hS
        go_wp2
        refine wp_region_held_drew (S := (fun w' => CS2 w' w.heap.size g (o + k * 3) p xk xa xb)) (by kernel_rfl) ?_ (fun hHeld => ?_)
        · first | with_reducible exact hr2.out
        first | (refine tw (i := 0) (v := ?_) ?_ hHeld ?_; rotate_left; focus (intro w hSw; (try dsimp only at hSw); (try simp only [CS2] at hSw); go_simp; (try with_reducible rfl); done)) | refine tn (i := 0) hHeld ?_
        try simp only [Act.put, List.setIfInBounds_toArray, List.set_cons_zero, List.set_cons_succ]
        first | (refine tw (i := 1) (v := ?_) ?_ hHeld ?_; rotate_left; focus (intro w hSw; (try dsimp only at hSw); (try simp only [CS2] at hSw); go_simp; (try with_reducible rfl); done)) | refine tn (i := 1) hHeld ?_
        try simp only [Act.put, List.setIfInBounds_toArray, List.set_cons_zero, List.set_cons_succ]
        first | (refine tw (i := 2) (v := ?_) ?_ hHeld ?_; rotate_left; focus (intro w hSw; (try dsimp only at hSw); (try simp only [CS2] at hSw); go_simp; (try with_reducible rfl); done)) | refine tn (i := 2) hHeld ?_
        try simp only [Act.put, List.setIfInBounds_toArray, List.set_cons_zero, List.set_cons_succ]
        first | (refine tw (i := 3) (v := ?_) ?_ hHeld ?_; rotate_left; focus (intro w hSw; (try dsimp only at hSw); (try simp only [CS2] at hSw); go_simp; (try with_reducible rfl); done)) | refine tn (i := 3) hHeld ?_
        try simp only [Act.put, List.setIfInBounds_toArray, List.set_cons_zero, List.set_cons_succ]
        first | (refine tw (i := 4) (v := ?_) ?_ hHeld ?_; rotate_left; focus (intro w hSw; (try dsimp only at hSw); (try simp only [CS2] at hSw); go_simp; (try with_reducible rfl); done)) | refine tn (i := 4) hHeld ?_
        try simp only [Act.put, List.setIfInBounds_toArray, List.set_cons_zero, List.set_cons_succ]
        first | (refine tw (i := 5) (v := ?_) ?_ hHeld ?_; rotate_left; focus (intro w hSw; (try dsimp only at hSw); (try simp only [CS2] at hSw); go_simp; (try with_reducible rfl); done)) | refine tn (i := 5) hHeld ?_
        try simp only [Act.put, List.setIfInBounds_toArray, List.set_cons_zero, List.set_cons_succ]
        refine call_next (i := 6) (by kernel_rfl) (by rfl) ?_
        intro o ho K hK
        simp only [List.getElem?_toArray, List.getElem?_cons_succ, List.getElem?_cons_zero, Option.some.injEq] at ho
        subst ho
        first | (fail; refine hK.out _ _ ?_ (fun hHeld => ?_)) | (go_simp; first | (with_reducible refine hK.out _ _ ?_ (fun hHeld => ?_)) | ((go_at_call 28; (with_reducible refine (hC.out _).mono ?_); rintro e6 w6 ⟨rfl, hA⟩; replace hr2 := Lib.hid (hr2.out.below hA); replace hb2 := Lib.hid (bt hb2.out hA); clear hA); refine hK.out _ _ ?_ (fun hHeld => ?_)))
        · first | with_reducible exact hr2.out
        clear hK K
        try simp only [Act.put, List.setIfInBounds_toArray, List.set_cons_zero, List.set_cons_succ]
        first | (refine tw (i := 7) (v := ?_) ?_ hHeld ?_; rotate_left; focus (intro w hSw; (try dsimp only at hSw); (try simp only [CS2] at hSw); go_simp; (try with_reducible rfl); done)) | refine tn (i := 7) hHeld ?_
        try simp only [Act.put, List.setIfInBounds_toArray, List.set_cons_zero, List.set_cons_succ]
        refine wpAnyH_done (by kernel_rfl) ?_ _
        go_wp2
        exact ⟨⟨k + 1, by omega, by go_num, hch, hr2.out.hp, hb2⟩, by simp [intOf]; omega⟩
      | true =>
        simp only [true_and] at hch
        replace hch := Lib.hid hch
        replace hC := Lib.hid hC
        replace hS := Lib.hid hS
        go_wp2
        refine wp_region_held_drew (S := (fun w' => CS2 w' w.heap.size g (o + k * 3) p xk xa xb)) (by kernel_rfl) ?_ (fun hHeld => ?_)
        · first | with_reducible exact hr2.out
        first | (refine tw (i := 0) (v := ?_) ?_ hHeld ?_; rotate_left; focus (intro w hSw; (try dsimp only at hSw); (try simp only [CS2] at hSw); go_simp; (try with_reducible rfl); done)) | refine tn (i := 0) hHeld ?_
        try simp only [Act.put, List.setIfInBounds_toArray, List.set_cons_zero, List.set_cons_succ]
        first | (refine tw (i := 1) (v := ?_) ?_ hHeld ?_; rotate_left; focus (intro w hSw; (try dsimp only at hSw); (try simp only [CS2] at hSw); go_simp; (try with_reducible rfl); done)) | refine tn (i := 1) hHeld ?_
        try simp only [Act.put, List.setIfInBounds_toArray, List.set_cons_zero, List.set_cons_succ]
        first | (refine tw (i := 2) (v := ?_) ?_ hHeld ?_; rotate_left; focus (intro w hSw; (try dsimp only at hSw); (try simp only [CS2] at hSw); go_simp; (try with_reducible rfl); done)) | refine tn (i := 2) hHeld ?_
        try simp only [Act.put, List.setIfInBounds_toArray, List.set_cons_zero, List.set_cons_succ]
        first | (refine tw (i := 3) (v := ?_) ?_ hHeld ?_; rotate_left; focus (intro w hSw; (try dsimp only at hSw); (try simp only [CS2] at hSw); go_simp; (try with_reducible rfl); done)) | refine tn (i := 3) hHeld ?_
        try simp only [Act.put, List.setIfInBounds_toArray, List.set_cons_zero, List.set_cons_succ]
        first | (refine tw (i := 4) (v := ?_) ?_ hHeld ?_; rotate_left; focus (intro w hSw; (try dsimp only at hSw); (try simp only [CS2] at hSw); go_simp; (try with_reducible rfl); done)) | refine tn (i := 4) hHeld ?_
        try simp only [Act.put, List.setIfInBounds_toArray, List.set_cons_zero, List.set_cons_succ]
        first | (refine tw (i := 5) (v := ?_) ?_ hHeld ?_; rotate_left; focus (intro w hSw; (try dsimp only at hSw); (try simp only [CS2] at hSw); go_simp; (try with_reducible rfl); done)) | refine tn (i := 5) hHeld ?_
        try simp only [Act.put, List.setIfInBounds_toArray, List.set_cons_zero, List.set_cons_succ]
        refine call_next (i := 6) (by kernel_rfl) (by rfl) ?_
        intro o ho K hK
        simp only [List.getElem?_toArray, List.getElem?_cons_succ, List.getElem?_cons_zero, Option.some.injEq] at ho
        subst ho
        first | (fail; refine hK.out _ _ ?_ (fun hHeld => ?_)) | (go_simp; first | (with_reducible refine hK.out _ _ ?_ (fun hHeld => ?_)) | ((go_at_call 28; (with_reducible refine (hC.out _).mono ?_); rintro e6 w6 ⟨rfl, hA⟩; replace hr2 := Lib.hid (hr2.out.below hA); replace hb2 := Lib.hid (bt hb2.out hA); clear hA); refine hK.out _ _ ?_ (fun hHeld => ?_)))
        · first | with_reducible exact hr2.out
        clear hK K
        try simp only [Act.put, List.setIfInBounds_toArray, List.set_cons_zero, List.set_cons_succ]
        first | (refine tw (i := 7) (v := ?_) ?_ hHeld ?_; rotate_left; focus (intro w hSw; (try dsimp only at hSw); (try simp only [CS2] at hSw); go_simp; (try with_reducible rfl); done)) | refine tn (i := 7) hHeld ?_
        try simp only [Act.put, List.setIfInBounds_toArray, List.set_cons_zero, List.set_cons_succ]
        refine wpAnyH_done (by kernel_rfl) ?_ _
        go_wp2
        replace hr2 := Lib.hid (hr2.out.below (bdrew w6))
        replace hb2 := Lib.hid (bt hb2.out (bdrew w6))
        refine wp_region_held_drew (S := (fun w' => CS2 w' w.heap.size g (o + k * 3) p xk xa xb)) (by kernel_rfl) ?_ (fun hHeld => ?_)
        · first | with_reducible exact hr2.out
        first | (refine tw (i := 0) (v := ?_) ?_ hHeld ?_; rotate_left; focus (intro w hSw; (try dsimp only at hSw); (try simp only [CS2] at hSw); go_simp; (try with_reducible rfl); done)) | refine tn (i := 0) hHeld ?_
        try simp only [Act.put, List.setIfInBounds_toArray, List.set_cons_zero, List.set_cons_succ]
        first | (refine tw (i := 1) (v := ?_) ?_ hHeld ?_; rotate_left; focus (intro w hSw; (try dsimp only at hSw); (try simp only [CS2] at hSw); go_simp; (try with_reducible rfl); done)) | refine tn (i := 1) hHeld ?_
        try simp only [Act.put, List.setIfInBounds_toArray, List.set_cons_zero, List.set_cons_succ]
        first | (refine tw (i := 2) (v := ?_) ?_ hHeld ?_; rotate_left; focus (intro w hSw; (try dsimp only at hSw); (try simp only [CS2] at hSw); go_simp; (try with_reducible rfl); done)) | refine tn (i := 2) hHeld ?_
        try simp only [Act.put, List.setIfInBounds_toArray, List.set_cons_zero, List.set_cons_succ]
        first | (refine tw (i := 3) (v := ?_) ?_ hHeld ?_; rotate_left; focus (intro w hSw; (try dsimp only at hSw); (try simp only [CS2] at hSw); go_simp; (try with_reducible rfl); done)) | refine tn (i := 3) hHeld ?_
        try simp only [Act.put, List.setIfInBounds_toArray, List.set_cons_zero, List.set_cons_succ]
        first | (refine tw (i := 4) (v := ?_) ?_ hHeld ?_; rotate_left; focus (intro w hSw; (try dsimp only at hSw); (try simp only [CS2] at hSw); go_simp; (try with_reducible rfl); done)) | refine tn (i := 4) hHeld ?_
        try simp only [Act.put, List.setIfInBounds_toArray, List.set_cons_zero, List.set_cons_succ]
        refine call_next (i := 5) (by kernel_rfl) (by rfl) ?_
        intro o ho K hK
        simp only [List.getElem?_toArray, List.getElem?_cons_succ, List.getElem?_cons_zero, Option.some.injEq] at ho
        subst ho
        first | (fail; refine hK.out _ _ ?_ (fun hHeld => ?_)) | (go_simp; first | (with_reducible refine hK.out _ _ ?_ (fun hHeld => ?_)) | ((go_at_call 29; (with_reducible refine (hS.out _).mono ?_); rintro e6 w6 ⟨rfl, hA⟩; replace hr2 := Lib.hid (hr2.out.below hA); replace hb2 := Lib.hid (bt hb2.out hA); clear hA); refine hK.out _ _ ?_ (fun hHeld => ?_)))
        · first | with_reducible exact hr2.out
        clear hK K
        try simp only [Act.put, List.setIfInBounds_toArray, List.set_cons_zero, List.set_cons_succ]
        first | (refine tw (i := 6) (v := ?_) ?_ hHeld ?_; rotate_left; focus (intro w hSw; (try dsimp only at hSw); (try simp only [CS2] at hSw); go_simp; (try with_reducible rfl); done)) | refine tn (i := 6) hHeld ?_
        try simp only [Act.put, List.setIfInBounds_toArray, List.set_cons_zero, List.set_cons_succ]
        refine wpAnyH_done (by kernel_rfl) ?_ _
        generalize saysR xk p = sv at *
        rcases hsc.out with h | h | h | h
        all_goals
          subst h
          have hch := hch.out
          simp only [rsV] at *
          clear hsc hC hS
          first
          | (have hch : choose l p = choose (l.drop (k + 1)) p := by simpa using hch
             go_wp2
             exact ⟨⟨k + 1, by omega, by go_num, hch, hr2.out.hp, hb2⟩, by simp [intOf]; omega⟩)
          | (have hch := Lib.hid hch.symm
             go_wp2
             refine hE.out (_, _) _ ?_ hb2.out
             have hch := hch.out
             simpa using hch)
    · have hd2 : decide ((k : Int) < (l.length : Int)) = false := decide_eq_false (by omega)
      have hch := hK.out.trans (by rw [List.drop_eq_nil_of_le (by omega)] : choose (l.drop k) p = choose [] p)
      go_wp2
      exact hE.out (0, false) _ hch.symm hB.out
end Go.Proofs.YtnflnaalpeeciaaDoor
