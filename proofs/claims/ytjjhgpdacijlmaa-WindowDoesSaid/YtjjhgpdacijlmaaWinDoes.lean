/-
  The statement WindowDoes (chapter 27).
-/
import Derived.Test.YtjjhgpdacijlmaaWinDoes0
import Derived.Test.YtjjhgpdacijlmaaUnder2
namespace Go.Proofs.Ytjjhgpdacijlmaa
open Go.RowKit
set_option linter.unusedVariables false
set_option linter.unusedSimpArgs false
theorem run_max (P : Program) (T : TypeId) (x y : Int) (W : World) : (Builtin.max_ #[T, T] T #[.int .i64 x, .int .i64 y]).run P W = .ok (.int .i64 (max x y)) W := by
  simp [Builtin.max_, Builtin.max2, go_sem]
  by_cases h : x < y <;> simp [h, go_sem] <;> omega
theorem run_min (P : Program) (T : TypeId) (x y : Int) (W : World) : (Builtin.min_ #[T, T] T #[.int .i64 x, .int .i64 y]).run P W = .ok (.int .i64 (min x y)) W := by
  simp [Builtin.min_, Builtin.min2, go_sem]
  by_cases h : y < x
  · rw [if_pos h]; omega
  · rw [if_neg h]; omega
def WE (n : Nat) (w4 : World) (i : Value) (wr : World) : Prop := ∃ j : Nat, j ≤ n ∧ i = .int .i64 j ∧ ∃ m, wr = w4.drewN m
structure WOp where
  k : Int
  n : Int
  s : ByteArray
def wopE (x : WOp) : List Value := [.int .i64 x.k, .int .i64 x.n, .string x.s]
def wopOk (x : WOp) : Prop := (Lit.int .i64 x.k).wf = true ∧ (Lit.int .i64 x.n).wf = true
instance : Inhabited WOp := ⟨⟨0, 0, ⟨#[]⟩⟩⟩
theorem wop_of (vs : List Value) (h : OKs [LK.int .i64, LK.int .i64, LK.str] vs) : ∃ x, vs = wopE x ∧ wopOk x := by
  obtain ⟨c0, r0, rfl, h0, h⟩ := OKs.cons h
  obtain ⟨c1, r1, rfl, h1, h⟩ := OKs.cons h
  obtain ⟨c2, r2, rfl, h2, h⟩ := OKs.cons h
  obtain rfl := OKs.nil h
  obtain ⟨a0, rfl, w0⟩ := h0
  obtain ⟨a1, rfl, w1⟩ := h1
  obtain ⟨a2, rfl, w2⟩ := h2
  exact ⟨⟨a0, a1, a2⟩, rfl, w0, w1⟩
def WD1 (r u g q B len : Nat) (w : World) (i : Value) (wr : World) : Prop := ∃ k : Nat, k ≤ len ∧ i = .int .i64 k ∧ ∃ S hd l, WD r u g q B w k S hd l wr
set_option maxRecDepth 100000 in
set_option maxHeartbeats 6400000 in
theorem walk_WindowDoes (a : Option Addr) (len cap : Nat) (l : List WOp) {w : World} (hl : IsList w a len 3 wopE wopOk l) (most : Int) (um : (Lit.int .i64 most).wf = true) :
    Calls Try.prog 3 #[.slice a len cap, .int .i64 most] w fun e w' => e = .returned (.bool true) ∧ Below w.heap.size w w' := by
  have hm := hl.most
  have hbd := bounds_i64 um
  by_cases hbig : 300 < len
  · go_enter Try.func3, Try.ntmps3
    go_wp2_with (go_at_call 5; (with_reducible refine (works_any _).mono ?_); rintro e w1 ⟨rfl, hb1⟩)
    go_ret
    exact ⟨rfl, hb1⟩
  have hlen := Lib.hid hl.size_eq
  go_enter Try.func3, Try.ntmps3
  go_wp2_with fail
  refine (works_any w).mono ?_
  rintro e w1 ⟨rfl, hb1⟩
  go_wp2_with fail
  refine (wnew_any w1).mono ?_
  rintro e w2 ⟨r, u, g, rfl, hX, ⟨hr, hu, hg⟩, hb2⟩
  go_wp2_with fail
  have hA := (Below.refl w2.heap.size w2).alloc (Nat.le_refl _) (.cells #[.slice none 0 0, .int .i64 0, .int .i64 0] 29)
  obtain ⟨hlr, hlu, hlg⟩ := hX.lt
  have hz1 := hb1.size
  have hz2 := hb2.size
  have hW : Ws r u g w2.heap.size (w2.heap.size + 1) w := ⟨by omega, by omega, by omega, by omega, by omega, by omega, by omega, by omega, by omega, by omega, by omega⟩
  have h0 : WD r u g w2.heap.size (w2.heap.size + 1) w 0 [] 0 0 (w2.alloc (.cells #[.slice none 0 0, .int .i64 0, .int .i64 0] 29)) :=
    ⟨hX.below hA, ⟨⟨.slice none 0 0, by simp [go_sem], TX.nil _ _⟩, by simp [go_sem], by simp [go_sem], by simp [go_sem], by simp [go_sem], by simp [go_sem], by omega⟩, bt (bt hb1 hb2) hA, by simp, Nat.le_refl _, Nat.le_refl _, Int.le_refl _, Int.le_refl _, by decide⟩
  generalize w2.alloc (.cells #[.slice none 0 0, .int .i64 0, .int .i64 0] 29) = w3 at *
  generalize w2.heap.size = q at *
  generalize q + 1 = B at *
  clear hA hX hb1 hb2 hr hu hg hlr hlu hlg hz1 hz2
  have hbig : len ≤ 300 := by omega
  go_loopw [8] (fun i wr => WD1 r u g q B len w i wr) (fun i _ => len - (intOf i).toNat)
  case atStart => exact ⟨0, Nat.zero_le _, rfl, [], 0, 0, h0⟩
  case round =>
    obtain ⟨k, hk, rfl, S, hd, l', h1⟩ := hrel
    by_cases hlt : k < len
    · obtain ⟨b, o, rfl, _⟩ := hl.at_ (by omega)
      have hk1 : k < l.length := by have := hlen.out; omega
      have hk1' : k + 1 ≤ 1000 := by omega
      have hEl : ∀ W, Below w.heap.size w W → W.cell? ⟨b, o + k * 3, none⟩ = some (.int .i64 l[k].k) ∧ W.cell? ⟨b, o + k * 3 + 1, none⟩ = some (.int .i64 l[k].n) ∧ W.cell? ⟨b, o + k * 3 + 2, none⟩ = some (.string l[k].s) := fun W hW =>
        ⟨(hl.get hW (Nat.le_refl _) k hk1 0 (by decide) _ rfl).1, (hl.get hW (Nat.le_refl _) k hk1 1 (by decide) _ rfl).1, (hl.get hW (Nat.le_refl _) k hk1 2 (by decide) _ rfl).1⟩
      have hnext : ∀ S' hd' l'' w', WD r u g q B w (k + 1) S' hd' l'' w' → WD1 r u g q B len w (.int .i64 ((k : Int) + 1)) w' := fun S' hd' l'' w' h => ⟨k + 1, by omega, by go_num, S', hd', l'', h⟩
      generalize l[k].k = kd at *
      generalize l[k].n = n at *
      generalize l[k].s = x at *
      obtain ⟨y0, y1, y2⟩ := hEl _ h1.be
      have hE1 : True := trivial
      have hEl := Lib.hid hEl
      have hnext := Lib.hid hnext
      rename_i l0
      generalize l' = l at *
      by_cases k0 : kd = 0
      · subst k0
        have hP := Lib.hid (h1.send1 hW x)
        have hP2 := Lib.hid (fun W a b c d => h1.send2 hW hk1' x (W := W) a b c d)
        have h1' := Lib.hid h1
        clear h1
        go_wp2_with fail
        refine hP.out.mono ?_
        rintro e w4 ⟨rfl, a1, a2, a3, a4⟩
        have hE2 := (hEl.out _ a3)
        have hP2 := Lib.hid (hP2.out w4 a1 a2 a3 a4)
        clear a1 a2 a3 a4 hE1 hP
        unfold sndV at *
        by_cases h8 : S.length < hd + 8
        · rw [if_pos h8] at hP2 ⊢
          go_wp2_with fail
          refine hP2.out.mono ?_
          rintro e w5 ⟨rfl, h5⟩
          obtain ⟨z0, z1, z2⟩ := hEl.out _ h5.be
          go_wp2_with fail
          refine (send_nil x w5).mono ?_
          rintro e w6 ⟨rfl, rfl⟩
          clear hP2 hE2
          have hsz9 := (h5).h8
          have hh9 := (h5).hs
          have hLa := Lib.hid (fun m => (last_any ((h5).drewN m).x).mono fun e w' z => (⟨z.1, z.2.symm⟩ : _ ∧ w' = (w5).drewN m))
          have hRo := fun m => room_any ((h5).drewN m).x
          rw [show (8 : Int) - (((sndL S hd x)).drop hd).length = 8 - ((((sndL S hd x)).length : Int) - (hd : Nat)) by rw [List.length_drop]; omega] at hRo
          have hRo := Lib.hid hRo
          have hw1 : IntKind.i64.wrap ((((sndL S hd x)).length : Int) - (hd : Nat)) = (((sndL S hd x)).length : Int) - (hd : Nat) := by rw [IntKind.wrap_i64]; have := (h5).k6; have := (h5).sk; omega
          have hw2 : IntKind.i64.wrap (8 - ((((sndL S hd x)).length : Int) - (hd : Nat))) = 8 - ((((sndL S hd x)).length : Int) - (hd : Nat)) := by rw [IntKind.wrap_i64]; have := (h5).k6; have := (h5).sk; omega
          obtain ⟨v9, g0, hT9⟩ := (h5).y.s
          obtain ⟨va9, vc9, rfl⟩ := hT9.len
          have g1 := (h5).y.c1
          have g2 := (h5).y.c2
          have hE9 := Lib.hid (h5)
          clear hT9 hsz9 hh9
          go_wp2_with fail
          go_quiet ((first | (go_at_call 13; with_reducible exact Calls.quiet_of_same (hLa.out _)) | (go_at_call 14; with_reducible exact Calls.quiet_of (hRo.out _))))
          go_wp2
          exact ⟨hnext.out _ _ _ _ (hE9.out.drewN _), by simp [intOf]; omega⟩
        · rw [if_neg h8] at hP2 ⊢
          go_wp2_with fail
          refine hP2.out.mono ?_
          rintro e w5 ⟨rfl, h5⟩
          obtain ⟨z0, z1, z2⟩ := hEl.out _ h5.be
          go_wp2_with fail
          refine (send_nil x w5).mono ?_
          rintro e w6 ⟨rfl, rfl⟩
          clear hP2 hE2
          have hsz9 := (h5).h8
          have hh9 := (h5).hs
          have hLa := Lib.hid (fun m => (last_any ((h5).drewN m).x).mono fun e w' z => (⟨z.1, z.2.symm⟩ : _ ∧ w' = (w5).drewN m))
          have hRo := fun m => room_any ((h5).drewN m).x
          rw [show (8 : Int) - (((sndL S hd x)).drop hd).length = 8 - ((((sndL S hd x)).length : Int) - (hd : Nat)) by rw [List.length_drop]; omega] at hRo
          have hRo := Lib.hid hRo
          have hw1 : IntKind.i64.wrap ((((sndL S hd x)).length : Int) - (hd : Nat)) = (((sndL S hd x)).length : Int) - (hd : Nat) := by rw [IntKind.wrap_i64]; have := (h5).k6; have := (h5).sk; omega
          have hw2 : IntKind.i64.wrap (8 - ((((sndL S hd x)).length : Int) - (hd : Nat))) = 8 - ((((sndL S hd x)).length : Int) - (hd : Nat)) := by rw [IntKind.wrap_i64]; have := (h5).k6; have := (h5).sk; omega
          obtain ⟨v9, g0, hT9⟩ := (h5).y.s
          obtain ⟨va9, vc9, rfl⟩ := hT9.len
          have g1 := (h5).y.c1
          have g2 := (h5).y.c2
          have hE9 := Lib.hid (h5)
          clear hT9 hsz9 hh9
          go_wp2_with fail
          go_quiet ((first | (go_at_call 13; with_reducible exact Calls.quiet_of_same (hLa.out _)) | (go_at_call 14; with_reducible exact Calls.quiet_of (hRo.out _))))
          go_wp2
          exact ⟨hnext.out _ _ _ _ (hE9.out.drewN _), by simp [intOf]; omega⟩
      · have d0 : (kd == 0) = false := by simpa using k0
        by_cases k1 : kd = 1
        · subst k1
          have hP := Lib.hid (h1.send1 hW x)
          have hP2 := Lib.hid (fun W a b c d => h1.send2 hW hk1' x (W := W) a b c d)
          have h1' := Lib.hid h1
          clear h1
          go_wp2_with fail
          refine hP.out.mono ?_
          rintro e w4 ⟨rfl, a1, a2, a3, a4⟩
          have hE2 := (hEl.out _ a3)
          have hP2 := Lib.hid (hP2.out w4 a1 a2 a3 a4)
          clear a1 a2 a3 a4 hE1 hP
          unfold sndV at *
          by_cases h8 : S.length < hd + 8
          · rw [if_pos h8] at hP2 ⊢
            go_wp2_with fail
            refine hP2.out.mono ?_
            rintro e w5 ⟨rfl, h5⟩
            obtain ⟨z0, z1, z2⟩ := hEl.out _ h5.be
            go_wp2_with fail
            refine (send_nil x w5).mono ?_
            rintro e w6 ⟨rfl, rfl⟩
            clear hP2 hE2
            have hsz9 := (h5).h8
            have hh9 := (h5).hs
            have hLa := Lib.hid (fun m => (last_any ((h5).drewN m).x).mono fun e w' z => (⟨z.1, z.2.symm⟩ : _ ∧ w' = (w5).drewN m))
            have hRo := fun m => room_any ((h5).drewN m).x
            rw [show (8 : Int) - (((sndL S hd x)).drop hd).length = 8 - ((((sndL S hd x)).length : Int) - (hd : Nat)) by rw [List.length_drop]; omega] at hRo
            have hRo := Lib.hid hRo
            have hw1 : IntKind.i64.wrap ((((sndL S hd x)).length : Int) - (hd : Nat)) = (((sndL S hd x)).length : Int) - (hd : Nat) := by rw [IntKind.wrap_i64]; have := (h5).k6; have := (h5).sk; omega
            have hw2 : IntKind.i64.wrap (8 - ((((sndL S hd x)).length : Int) - (hd : Nat))) = 8 - ((((sndL S hd x)).length : Int) - (hd : Nat)) := by rw [IntKind.wrap_i64]; have := (h5).k6; have := (h5).sk; omega
            obtain ⟨v9, g0, hT9⟩ := (h5).y.s
            obtain ⟨va9, vc9, rfl⟩ := hT9.len
            have g1 := (h5).y.c1
            have g2 := (h5).y.c2
            have hE9 := Lib.hid (h5)
            clear hT9 hsz9 hh9
            go_wp2_with fail
            go_quiet ((first | (go_at_call 13; with_reducible exact Calls.quiet_of_same (hLa.out _)) | (go_at_call 14; with_reducible exact Calls.quiet_of (hRo.out _))))
            go_wp2
            exact ⟨hnext.out _ _ _ _ (hE9.out.drewN _), by simp [intOf]; omega⟩
          · rw [if_neg h8] at hP2 ⊢
            go_wp2_with fail
            refine hP2.out.mono ?_
            rintro e w5 ⟨rfl, h5⟩
            obtain ⟨z0, z1, z2⟩ := hEl.out _ h5.be
            go_wp2_with fail
            refine (send_nil x w5).mono ?_
            rintro e w6 ⟨rfl, rfl⟩
            clear hP2 hE2
            have hsz9 := (h5).h8
            have hh9 := (h5).hs
            have hLa := Lib.hid (fun m => (last_any ((h5).drewN m).x).mono fun e w' z => (⟨z.1, z.2.symm⟩ : _ ∧ w' = (w5).drewN m))
            have hRo := fun m => room_any ((h5).drewN m).x
            rw [show (8 : Int) - (((sndL S hd x)).drop hd).length = 8 - ((((sndL S hd x)).length : Int) - (hd : Nat)) by rw [List.length_drop]; omega] at hRo
            have hRo := Lib.hid hRo
            have hw1 : IntKind.i64.wrap ((((sndL S hd x)).length : Int) - (hd : Nat)) = (((sndL S hd x)).length : Int) - (hd : Nat) := by rw [IntKind.wrap_i64]; have := (h5).k6; have := (h5).sk; omega
            have hw2 : IntKind.i64.wrap (8 - ((((sndL S hd x)).length : Int) - (hd : Nat))) = 8 - ((((sndL S hd x)).length : Int) - (hd : Nat)) := by rw [IntKind.wrap_i64]; have := (h5).k6; have := (h5).sk; omega
            obtain ⟨v9, g0, hT9⟩ := (h5).y.s
            obtain ⟨va9, vc9, rfl⟩ := hT9.len
            have g1 := (h5).y.c1
            have g2 := (h5).y.c2
            have hE9 := Lib.hid (h5)
            clear hT9 hsz9 hh9
            go_wp2_with fail
            go_quiet ((first | (go_at_call 13; with_reducible exact Calls.quiet_of_same (hLa.out _)) | (go_at_call 14; with_reducible exact Calls.quiet_of (hRo.out _))))
            go_wp2
            exact ⟨hnext.out _ _ _ _ (hE9.out.drewN _), by simp [intOf]; omega⟩
        · have d1 : (kd == 1) = false := by simpa using k1
          by_cases k2 : kd = 2
          · subst k2
            have hP := Lib.hid (h1.hear1 hW n)
            have hP2 := Lib.hid (fun W a b c d => h1.hear2 hW hk1' n (W := W) a b c d)
            clear h1
            go_wp2_with fail
            refine hP.out.mono ?_
            rintro e w4 ⟨rfl, a1, a2, a3, a4⟩
            have hE2 := (hEl.out _ a3)
            have hP2 := Lib.hid (hP2.out w4 a1 a2 a3 a4)
            clear a1 a2 a3 a4 hE1 hP
            unfold hdV at *
            generalize (if n < 0 ∨ (S.length : Int) < n then (0 : Int) else max (n - hd) 0) = v1 at *
            generalize (if n < 0 ∨ (S.length : Int) < n then (3 : Int) else 0) = v2 at *
            go_wp2_with fail
            refine hP2.out.mono ?_
            rintro e w5 ⟨rfl, h5⟩
            obtain ⟨z0, z1, z2⟩ := hEl.out _ h5.be
            go_wp2_with fail
            refine (heard_nil n w5).mono ?_
            rintro e w6 ⟨rfl, rfl⟩
            clear hP2 hE2
            have hsz9 := (h5).h8
            have hh9 := (h5).hs
            have hLa := Lib.hid (fun m => (last_any ((h5).drewN m).x).mono fun e w' z => (⟨z.1, z.2.symm⟩ : _ ∧ w' = (w5).drewN m))
            have hRo := fun m => room_any ((h5).drewN m).x
            rw [show (8 : Int) - ((S).drop (hdN S hd n)).length = 8 - (((S).length : Int) - ((hdN S hd n) : Nat)) by rw [List.length_drop]; omega] at hRo
            have hRo := Lib.hid hRo
            have hw1 : IntKind.i64.wrap (((S).length : Int) - ((hdN S hd n) : Nat)) = ((S).length : Int) - ((hdN S hd n) : Nat) := by rw [IntKind.wrap_i64]; have := (h5).k6; have := (h5).sk; omega
            have hw2 : IntKind.i64.wrap (8 - (((S).length : Int) - ((hdN S hd n) : Nat))) = 8 - (((S).length : Int) - ((hdN S hd n) : Nat)) := by rw [IntKind.wrap_i64]; have := (h5).k6; have := (h5).sk; omega
            obtain ⟨v9, g0, hT9⟩ := (h5).y.s
            obtain ⟨va9, vc9, rfl⟩ := hT9.len
            have g1 := (h5).y.c1
            have g2 := (h5).y.c2
            have hE9 := Lib.hid (h5)
            clear hT9 hsz9 hh9
            go_wp2_with fail
            go_quiet ((first | (go_at_call 13; with_reducible exact Calls.quiet_of_same (hLa.out _)) | (go_at_call 14; with_reducible exact Calls.quiet_of (hRo.out _))))
            go_wp2
            exact ⟨hnext.out _ _ _ _ (hE9.out.drewN _), by simp [intOf]; omega⟩
          · have d2 : (kd == 2) = false := by simpa using k2
            by_cases k3 : kd = 3
            · subst k3
              have h1d : WD r u g q B w k S hd l wr.drew := h1.drewN 1
              have M1 := (hEl.out _ h1d.be).2.1
              have hP := h1d.take1 hW n
              have hP2 := Lib.hid (fun W a b c d => h1.take2 hW hk1' n (W := W) a b c d)
              have hP3 := take_nil n
              by_cases hn : n = l + 1
              · rw [if_pos hn, decide_eq_true hn] at hP
                rw [if_pos hn, decide_eq_true hn] at hP2
                clear hn
                have hP := Lib.hid hP
                have hP2 := Lib.hid hP2.out
                have hP3 := Lib.hid hP3
                go_wp2_with fail
                refine wp_region_held_drew (S := (fun w' : World => w'.cell? ⟨b, o + k * 3 + 1, none⟩ = some (.int .i64 n))) (by kernel_rfl) ?_ (fun hHeld => ?_)
                · first | exact M1 | exact M4 | exact M5
                first | (refine tw (i := 0) (v := ?_) ?_ hHeld ?_; rotate_left; focus (intro w hSw; (try dsimp only at hSw); go_simp; (try with_reducible rfl); done)) | refine tn (i := 0) hHeld ?_
                try simp only [Act.put, List.setIfInBounds_toArray, List.set_cons_zero, List.set_cons_succ]
                first | (refine tw (i := 1) (v := ?_) ?_ hHeld ?_; rotate_left; focus (intro w hSw; (try dsimp only at hSw); go_simp; (try with_reducible rfl); done)) | refine tn (i := 1) hHeld ?_
                try simp only [Act.put, List.setIfInBounds_toArray, List.set_cons_zero, List.set_cons_succ]
                first | (refine tw (i := 2) (v := ?_) ?_ hHeld ?_; rotate_left; focus (intro w hSw; (try dsimp only at hSw); go_simp; (try with_reducible rfl); done)) | refine tn (i := 2) hHeld ?_
                try simp only [Act.put, List.setIfInBounds_toArray, List.set_cons_zero, List.set_cons_succ]
                first | (refine tw (i := 3) (v := ?_) ?_ hHeld ?_; rotate_left; focus (intro w hSw; (try dsimp only at hSw); go_simp; (try with_reducible rfl); done)) | refine tn (i := 3) hHeld ?_
                try simp only [Act.put, List.setIfInBounds_toArray, List.set_cons_zero, List.set_cons_succ]
                first | (refine tw (i := 4) (v := ?_) ?_ hHeld ?_; rotate_left; focus (intro w hSw; (try dsimp only at hSw); go_simp; (try with_reducible rfl); done)) | refine tn (i := 4) hHeld ?_
                try simp only [Act.put, List.setIfInBounds_toArray, List.set_cons_zero, List.set_cons_succ]
                first | (refine tw (i := 5) (v := ?_) ?_ hHeld ?_; rotate_left; focus (intro w hSw; (try dsimp only at hSw); go_simp; (try with_reducible rfl); done)) | refine tn (i := 5) hHeld ?_
                try simp only [Act.put, List.setIfInBounds_toArray, List.set_cons_zero, List.set_cons_succ]
                first | (refine tw (i := 7) (v := ?_) ?_ hHeld ?_; rotate_left; focus (intro w hSw; (try dsimp only at hSw); go_simp; (try with_reducible rfl); done)) | refine tn (i := 7) hHeld ?_
                try simp only [Act.put, List.setIfInBounds_toArray, List.set_cons_zero, List.set_cons_succ]
                first | (refine tw (i := 8) (v := ?_) ?_ hHeld ?_; rotate_left; focus (intro w hSw; (try dsimp only at hSw); go_simp; (try with_reducible rfl); done)) | refine tn (i := 8) hHeld ?_
                try simp only [Act.put, List.setIfInBounds_toArray, List.set_cons_zero, List.set_cons_succ]
                first | (refine tw (i := 9) (v := ?_) ?_ hHeld ?_; rotate_left; focus (intro w hSw; (try dsimp only at hSw); go_simp; (try with_reducible rfl); done)) | refine tn (i := 9) hHeld ?_
                try simp only [Act.put, List.setIfInBounds_toArray, List.set_cons_zero, List.set_cons_succ]
                first | (refine tw (i := 10) (v := ?_) ?_ hHeld ?_; rotate_left; focus (intro w hSw; (try dsimp only at hSw); go_simp; (try with_reducible rfl); done)) | refine tn (i := 10) hHeld ?_
                try simp only [Act.put, List.setIfInBounds_toArray, List.set_cons_zero, List.set_cons_succ]
                first | (refine tw (i := 11) (v := ?_) ?_ hHeld ?_; rotate_left; focus (intro w hSw; (try dsimp only at hSw); go_simp; (try with_reducible rfl); done)) | refine tn (i := 11) hHeld ?_
                try simp only [Act.put, List.setIfInBounds_toArray, List.set_cons_zero, List.set_cons_succ]
                first | (refine tw (i := 12) (v := ?_) ?_ hHeld ?_; rotate_left; focus (intro w hSw; (try dsimp only at hSw); go_simp; (try with_reducible rfl); done)) | refine tn (i := 12) hHeld ?_
                try simp only [Act.put, List.setIfInBounds_toArray, List.set_cons_zero, List.set_cons_succ]
                refine call_next (i := 6) (by kernel_rfl) (by rfl) ?_
                intro o ho K hK
                simp only [List.getElem?_toArray, List.getElem?_cons_succ, List.getElem?_cons_zero, Option.some.injEq] at ho
                subst ho
                first | (fail; refine hK.out _ _ ?_ (fun hHeld => ?_)) | (go_simp; first | (with_reducible refine hK.out _ _ ?_ (fun hHeld => ?_)) | ((first | (go_at_call 11; (with_reducible refine hP.out.mono ?_); rintro e w4 ⟨rfl, a1, a2, a3, a4⟩; have M4 := (hEl.out _ a3).2.1; have hQ2 := Lib.hid (hP2.out w4 a1 a2 a3 a4); clear a1 a2 a3 a4) | (go_at_call 12; (with_reducible refine hQ2.out.mono ?_); rintro e w5 ⟨rfl, h5⟩; have M5 := (hEl.out _ h5.be).2.1) | (go_at_call 11; (with_reducible refine (hP3.out _).mono ?_); rintro e w6 ⟨rfl, rfl⟩)); refine hK.out _ _ ?_ (fun hHeld => ?_)))
                · first | exact M1 | exact M4 | exact M5
                clear hK K
                try simp only [Act.put, List.setIfInBounds_toArray, List.set_cons_zero, List.set_cons_succ]
                refine call_next (i := 13) (by kernel_rfl) (by rfl) ?_
                intro o ho K hK
                simp only [List.getElem?_toArray, List.getElem?_cons_succ, List.getElem?_cons_zero, Option.some.injEq] at ho
                subst ho
                first | (fail; refine hK.out _ _ ?_ (fun hHeld => ?_)) | (go_simp; first | (with_reducible refine hK.out _ _ ?_ (fun hHeld => ?_)) | ((first | (go_at_call 11; (with_reducible refine hP.out.mono ?_); rintro e w4 ⟨rfl, a1, a2, a3, a4⟩; have M4 := (hEl.out _ a3).2.1; have hQ2 := Lib.hid (hP2.out w4 a1 a2 a3 a4); clear a1 a2 a3 a4) | (go_at_call 12; (with_reducible refine hQ2.out.mono ?_); rintro e w5 ⟨rfl, h5⟩; have M5 := (hEl.out _ h5.be).2.1) | (go_at_call 11; (with_reducible refine (hP3.out _).mono ?_); rintro e w6 ⟨rfl, rfl⟩)); refine hK.out _ _ ?_ (fun hHeld => ?_)))
                · first | exact M1 | exact M4 | exact M5
                clear hK K
                try simp only [Act.put, List.setIfInBounds_toArray, List.set_cons_zero, List.set_cons_succ]
                first | (refine tw (i := 14) (v := ?_) ?_ hHeld ?_; rotate_left; focus (intro w hSw; (try dsimp only at hSw); go_simp; (try with_reducible rfl); done)) | refine tn (i := 14) hHeld ?_
                try simp only [Act.put, List.setIfInBounds_toArray, List.set_cons_zero, List.set_cons_succ]
                first | (refine tw (i := 15) (v := ?_) ?_ hHeld ?_; rotate_left; focus (intro w hSw; (try dsimp only at hSw); go_simp; (try with_reducible rfl); done)) | refine tn (i := 15) hHeld ?_
                try simp only [Act.put, List.setIfInBounds_toArray, List.set_cons_zero, List.set_cons_succ]
                first | (refine tw (i := 16) (v := ?_) ?_ hHeld ?_; rotate_left; focus (intro w hSw; (try dsimp only at hSw); go_simp; (try with_reducible rfl); done)) | refine tn (i := 16) hHeld ?_
                try simp only [Act.put, List.setIfInBounds_toArray, List.set_cons_zero, List.set_cons_succ]
                first | (refine tw (i := 17) (v := ?_) ?_ hHeld ?_; rotate_left; focus (intro w hSw; (try dsimp only at hSw); go_simp; (try with_reducible rfl); done)) | refine tn (i := 17) hHeld ?_
                try simp only [Act.put, List.setIfInBounds_toArray, List.set_cons_zero, List.set_cons_succ]
                first | (refine tw (i := 18) (v := ?_) ?_ hHeld ?_; rotate_left; focus (intro w hSw; (try dsimp only at hSw); go_simp; (try with_reducible rfl); done)) | refine tn (i := 18) hHeld ?_
                try simp only [Act.put, List.setIfInBounds_toArray, List.set_cons_zero, List.set_cons_succ]
                first | (refine tw (i := 19) (v := ?_) ?_ hHeld ?_; rotate_left; focus (intro w hSw; (try dsimp only at hSw); go_simp; (try with_reducible rfl); done)) | refine tn (i := 19) hHeld ?_
                try simp only [Act.put, List.setIfInBounds_toArray, List.set_cons_zero, List.set_cons_succ]
                first | (refine tw (i := 20) (v := ?_) ?_ hHeld ?_; rotate_left; focus (intro w hSw; (try dsimp only at hSw); go_simp; (try with_reducible rfl); done)) | refine tn (i := 20) hHeld ?_
                try simp only [Act.put, List.setIfInBounds_toArray, List.set_cons_zero, List.set_cons_succ]
                first | (refine tw (i := 21) (v := ?_) ?_ hHeld ?_; rotate_left; focus (intro w hSw; (try dsimp only at hSw); go_simp; (try with_reducible rfl); done)) | refine tn (i := 21) hHeld ?_
                try simp only [Act.put, List.setIfInBounds_toArray, List.set_cons_zero, List.set_cons_succ]
                refine call_next (i := 22) (by kernel_rfl) (by rfl) ?_
                intro o ho K hK
                simp only [List.getElem?_toArray, List.getElem?_cons_succ, List.getElem?_cons_zero, Option.some.injEq] at ho
                subst ho
                first | (fail; refine hK.out _ _ ?_ (fun hHeld => ?_)) | (go_simp; first | (with_reducible refine hK.out _ _ ?_ (fun hHeld => ?_)) | ((first | (go_at_call 11; (with_reducible refine hP.out.mono ?_); rintro e w4 ⟨rfl, a1, a2, a3, a4⟩; have M4 := (hEl.out _ a3).2.1; have hQ2 := Lib.hid (hP2.out w4 a1 a2 a3 a4); clear a1 a2 a3 a4) | (go_at_call 12; (with_reducible refine hQ2.out.mono ?_); rintro e w5 ⟨rfl, h5⟩; have M5 := (hEl.out _ h5.be).2.1) | (go_at_call 11; (with_reducible refine (hP3.out _).mono ?_); rintro e w6 ⟨rfl, rfl⟩)); refine hK.out _ _ ?_ (fun hHeld => ?_)))
                · first | exact M1 | exact M4 | exact M5
                clear hK K
                try simp only [Act.put, List.setIfInBounds_toArray, List.set_cons_zero, List.set_cons_succ]
                first | (refine tw (i := 23) (v := ?_) ?_ hHeld ?_; rotate_left; focus (intro w hSw; (try dsimp only at hSw); go_simp; (try with_reducible rfl); done)) | refine tn (i := 23) hHeld ?_
                try simp only [Act.put, List.setIfInBounds_toArray, List.set_cons_zero, List.set_cons_succ]
                first | (refine tw (i := 24) (v := ?_) ?_ hHeld ?_; rotate_left; focus (intro w hSw; (try dsimp only at hSw); go_simp; (try with_reducible rfl); done)) | refine tn (i := 24) hHeld ?_
                try simp only [Act.put, List.setIfInBounds_toArray, List.set_cons_zero, List.set_cons_succ]
                first | (refine tw (i := 25) (v := ?_) ?_ hHeld ?_; rotate_left; focus (intro w hSw; (try dsimp only at hSw); go_simp; (try with_reducible rfl); done)) | refine tn (i := 25) hHeld ?_
                try simp only [Act.put, List.setIfInBounds_toArray, List.set_cons_zero, List.set_cons_succ]
                refine wpAnyH_done (by kernel_rfl) ?_ _
                clear M1 M4 M5 hP hP3 h1d h1
                have hsz9 := (h5).h8
                have hh9 := (h5).hs
                have hLa := Lib.hid (fun m => (last_any ((h5).drewN m).x).mono fun e w' z => (⟨z.1, z.2.symm⟩ : _ ∧ w' = (w5).drewN m))
                have hRo := fun m => room_any ((h5).drewN m).x
                rw [show (8 : Int) - ((S).drop hd).length = 8 - (((S).length : Int) - (hd : Nat)) by rw [List.length_drop]; omega] at hRo
                have hRo := Lib.hid hRo
                have hw1 : IntKind.i64.wrap (((S).length : Int) - (hd : Nat)) = ((S).length : Int) - (hd : Nat) := by rw [IntKind.wrap_i64]; have := (h5).k6; have := (h5).sk; omega
                have hw2 : IntKind.i64.wrap (8 - (((S).length : Int) - (hd : Nat))) = 8 - (((S).length : Int) - (hd : Nat)) := by rw [IntKind.wrap_i64]; have := (h5).k6; have := (h5).sk; omega
                obtain ⟨v9, g0, hT9⟩ := (h5).y.s
                obtain ⟨va9, vc9, rfl⟩ := hT9.len
                have g1 := (h5).y.c1
                have g2 := (h5).y.c2
                have hE9 := Lib.hid (h5)
                clear hT9 hsz9 hh9
                go_wp2_with fail
                go_quiet ((first | (go_at_call 13; with_reducible exact Calls.quiet_of_same (hLa.out _)) | (go_at_call 14; with_reducible exact Calls.quiet_of (hRo.out _))))
                go_wp2
                exact ⟨hnext.out _ _ _ _ (hE9.out.drewN _), by simp [intOf]; omega⟩
              · rw [if_neg hn, decide_eq_false hn] at hP
                rw [if_neg hn, decide_eq_false hn] at hP2
                clear hn
                have hP := Lib.hid hP
                have hP2 := Lib.hid hP2.out
                have hP3 := Lib.hid hP3
                go_wp2_with fail
                refine wp_region_held_drew (S := (fun w' : World => w'.cell? ⟨b, o + k * 3 + 1, none⟩ = some (.int .i64 n))) (by kernel_rfl) ?_ (fun hHeld => ?_)
                · first | exact M1 | exact M4 | exact M5
                first | (refine tw (i := 0) (v := ?_) ?_ hHeld ?_; rotate_left; focus (intro w hSw; (try dsimp only at hSw); go_simp; (try with_reducible rfl); done)) | refine tn (i := 0) hHeld ?_
                try simp only [Act.put, List.setIfInBounds_toArray, List.set_cons_zero, List.set_cons_succ]
                first | (refine tw (i := 1) (v := ?_) ?_ hHeld ?_; rotate_left; focus (intro w hSw; (try dsimp only at hSw); go_simp; (try with_reducible rfl); done)) | refine tn (i := 1) hHeld ?_
                try simp only [Act.put, List.setIfInBounds_toArray, List.set_cons_zero, List.set_cons_succ]
                first | (refine tw (i := 2) (v := ?_) ?_ hHeld ?_; rotate_left; focus (intro w hSw; (try dsimp only at hSw); go_simp; (try with_reducible rfl); done)) | refine tn (i := 2) hHeld ?_
                try simp only [Act.put, List.setIfInBounds_toArray, List.set_cons_zero, List.set_cons_succ]
                first | (refine tw (i := 3) (v := ?_) ?_ hHeld ?_; rotate_left; focus (intro w hSw; (try dsimp only at hSw); go_simp; (try with_reducible rfl); done)) | refine tn (i := 3) hHeld ?_
                try simp only [Act.put, List.setIfInBounds_toArray, List.set_cons_zero, List.set_cons_succ]
                first | (refine tw (i := 4) (v := ?_) ?_ hHeld ?_; rotate_left; focus (intro w hSw; (try dsimp only at hSw); go_simp; (try with_reducible rfl); done)) | refine tn (i := 4) hHeld ?_
                try simp only [Act.put, List.setIfInBounds_toArray, List.set_cons_zero, List.set_cons_succ]
                first | (refine tw (i := 5) (v := ?_) ?_ hHeld ?_; rotate_left; focus (intro w hSw; (try dsimp only at hSw); go_simp; (try with_reducible rfl); done)) | refine tn (i := 5) hHeld ?_
                try simp only [Act.put, List.setIfInBounds_toArray, List.set_cons_zero, List.set_cons_succ]
                first | (refine tw (i := 7) (v := ?_) ?_ hHeld ?_; rotate_left; focus (intro w hSw; (try dsimp only at hSw); go_simp; (try with_reducible rfl); done)) | refine tn (i := 7) hHeld ?_
                try simp only [Act.put, List.setIfInBounds_toArray, List.set_cons_zero, List.set_cons_succ]
                first | (refine tw (i := 8) (v := ?_) ?_ hHeld ?_; rotate_left; focus (intro w hSw; (try dsimp only at hSw); go_simp; (try with_reducible rfl); done)) | refine tn (i := 8) hHeld ?_
                try simp only [Act.put, List.setIfInBounds_toArray, List.set_cons_zero, List.set_cons_succ]
                first | (refine tw (i := 9) (v := ?_) ?_ hHeld ?_; rotate_left; focus (intro w hSw; (try dsimp only at hSw); go_simp; (try with_reducible rfl); done)) | refine tn (i := 9) hHeld ?_
                try simp only [Act.put, List.setIfInBounds_toArray, List.set_cons_zero, List.set_cons_succ]
                first | (refine tw (i := 10) (v := ?_) ?_ hHeld ?_; rotate_left; focus (intro w hSw; (try dsimp only at hSw); go_simp; (try with_reducible rfl); done)) | refine tn (i := 10) hHeld ?_
                try simp only [Act.put, List.setIfInBounds_toArray, List.set_cons_zero, List.set_cons_succ]
                first | (refine tw (i := 11) (v := ?_) ?_ hHeld ?_; rotate_left; focus (intro w hSw; (try dsimp only at hSw); go_simp; (try with_reducible rfl); done)) | refine tn (i := 11) hHeld ?_
                try simp only [Act.put, List.setIfInBounds_toArray, List.set_cons_zero, List.set_cons_succ]
                first | (refine tw (i := 12) (v := ?_) ?_ hHeld ?_; rotate_left; focus (intro w hSw; (try dsimp only at hSw); go_simp; (try with_reducible rfl); done)) | refine tn (i := 12) hHeld ?_
                try simp only [Act.put, List.setIfInBounds_toArray, List.set_cons_zero, List.set_cons_succ]
                refine call_next (i := 6) (by kernel_rfl) (by rfl) ?_
                intro o ho K hK
                simp only [List.getElem?_toArray, List.getElem?_cons_succ, List.getElem?_cons_zero, Option.some.injEq] at ho
                subst ho
                first | (fail; refine hK.out _ _ ?_ (fun hHeld => ?_)) | (go_simp; first | (with_reducible refine hK.out _ _ ?_ (fun hHeld => ?_)) | ((first | (go_at_call 11; (with_reducible refine hP.out.mono ?_); rintro e w4 ⟨rfl, a1, a2, a3, a4⟩; have M4 := (hEl.out _ a3).2.1; have hQ2 := Lib.hid (hP2.out w4 a1 a2 a3 a4); clear a1 a2 a3 a4) | (go_at_call 12; (with_reducible refine hQ2.out.mono ?_); rintro e w5 ⟨rfl, h5⟩; have M5 := (hEl.out _ h5.be).2.1) | (go_at_call 11; (with_reducible refine (hP3.out _).mono ?_); rintro e w6 ⟨rfl, rfl⟩)); refine hK.out _ _ ?_ (fun hHeld => ?_)))
                · first | exact M1 | exact M4 | exact M5
                clear hK K
                try simp only [Act.put, List.setIfInBounds_toArray, List.set_cons_zero, List.set_cons_succ]
                refine call_next (i := 13) (by kernel_rfl) (by rfl) ?_
                intro o ho K hK
                simp only [List.getElem?_toArray, List.getElem?_cons_succ, List.getElem?_cons_zero, Option.some.injEq] at ho
                subst ho
                first | (fail; refine hK.out _ _ ?_ (fun hHeld => ?_)) | (go_simp; first | (with_reducible refine hK.out _ _ ?_ (fun hHeld => ?_)) | ((first | (go_at_call 11; (with_reducible refine hP.out.mono ?_); rintro e w4 ⟨rfl, a1, a2, a3, a4⟩; have M4 := (hEl.out _ a3).2.1; have hQ2 := Lib.hid (hP2.out w4 a1 a2 a3 a4); clear a1 a2 a3 a4) | (go_at_call 12; (with_reducible refine hQ2.out.mono ?_); rintro e w5 ⟨rfl, h5⟩; have M5 := (hEl.out _ h5.be).2.1) | (go_at_call 11; (with_reducible refine (hP3.out _).mono ?_); rintro e w6 ⟨rfl, rfl⟩)); refine hK.out _ _ ?_ (fun hHeld => ?_)))
                · first | exact M1 | exact M4 | exact M5
                clear hK K
                try simp only [Act.put, List.setIfInBounds_toArray, List.set_cons_zero, List.set_cons_succ]
                first | (refine tw (i := 14) (v := ?_) ?_ hHeld ?_; rotate_left; focus (intro w hSw; (try dsimp only at hSw); go_simp; (try with_reducible rfl); done)) | refine tn (i := 14) hHeld ?_
                try simp only [Act.put, List.setIfInBounds_toArray, List.set_cons_zero, List.set_cons_succ]
                first | (refine tw (i := 15) (v := ?_) ?_ hHeld ?_; rotate_left; focus (intro w hSw; (try dsimp only at hSw); go_simp; (try with_reducible rfl); done)) | refine tn (i := 15) hHeld ?_
                try simp only [Act.put, List.setIfInBounds_toArray, List.set_cons_zero, List.set_cons_succ]
                first | (refine tw (i := 16) (v := ?_) ?_ hHeld ?_; rotate_left; focus (intro w hSw; (try dsimp only at hSw); go_simp; (try with_reducible rfl); done)) | refine tn (i := 16) hHeld ?_
                try simp only [Act.put, List.setIfInBounds_toArray, List.set_cons_zero, List.set_cons_succ]
                first | (refine tw (i := 17) (v := ?_) ?_ hHeld ?_; rotate_left; focus (intro w hSw; (try dsimp only at hSw); go_simp; (try with_reducible rfl); done)) | refine tn (i := 17) hHeld ?_
                try simp only [Act.put, List.setIfInBounds_toArray, List.set_cons_zero, List.set_cons_succ]
                first | (refine tw (i := 18) (v := ?_) ?_ hHeld ?_; rotate_left; focus (intro w hSw; (try dsimp only at hSw); go_simp; (try with_reducible rfl); done)) | refine tn (i := 18) hHeld ?_
                try simp only [Act.put, List.setIfInBounds_toArray, List.set_cons_zero, List.set_cons_succ]
                first | (refine tw (i := 19) (v := ?_) ?_ hHeld ?_; rotate_left; focus (intro w hSw; (try dsimp only at hSw); go_simp; (try with_reducible rfl); done)) | refine tn (i := 19) hHeld ?_
                try simp only [Act.put, List.setIfInBounds_toArray, List.set_cons_zero, List.set_cons_succ]
                first | (refine tw (i := 20) (v := ?_) ?_ hHeld ?_; rotate_left; focus (intro w hSw; (try dsimp only at hSw); go_simp; (try with_reducible rfl); done)) | refine tn (i := 20) hHeld ?_
                try simp only [Act.put, List.setIfInBounds_toArray, List.set_cons_zero, List.set_cons_succ]
                first | (refine tw (i := 21) (v := ?_) ?_ hHeld ?_; rotate_left; focus (intro w hSw; (try dsimp only at hSw); go_simp; (try with_reducible rfl); done)) | refine tn (i := 21) hHeld ?_
                try simp only [Act.put, List.setIfInBounds_toArray, List.set_cons_zero, List.set_cons_succ]
                refine call_next (i := 22) (by kernel_rfl) (by rfl) ?_
                intro o ho K hK
                simp only [List.getElem?_toArray, List.getElem?_cons_succ, List.getElem?_cons_zero, Option.some.injEq] at ho
                subst ho
                first | (fail; refine hK.out _ _ ?_ (fun hHeld => ?_)) | (go_simp; first | (with_reducible refine hK.out _ _ ?_ (fun hHeld => ?_)) | ((first | (go_at_call 11; (with_reducible refine hP.out.mono ?_); rintro e w4 ⟨rfl, a1, a2, a3, a4⟩; have M4 := (hEl.out _ a3).2.1; have hQ2 := Lib.hid (hP2.out w4 a1 a2 a3 a4); clear a1 a2 a3 a4) | (go_at_call 12; (with_reducible refine hQ2.out.mono ?_); rintro e w5 ⟨rfl, h5⟩; have M5 := (hEl.out _ h5.be).2.1) | (go_at_call 11; (with_reducible refine (hP3.out _).mono ?_); rintro e w6 ⟨rfl, rfl⟩)); refine hK.out _ _ ?_ (fun hHeld => ?_)))
                · first | exact M1 | exact M4 | exact M5
                clear hK K
                try simp only [Act.put, List.setIfInBounds_toArray, List.set_cons_zero, List.set_cons_succ]
                first | (refine tw (i := 23) (v := ?_) ?_ hHeld ?_; rotate_left; focus (intro w hSw; (try dsimp only at hSw); go_simp; (try with_reducible rfl); done)) | refine tn (i := 23) hHeld ?_
                try simp only [Act.put, List.setIfInBounds_toArray, List.set_cons_zero, List.set_cons_succ]
                first | (refine tw (i := 24) (v := ?_) ?_ hHeld ?_; rotate_left; focus (intro w hSw; (try dsimp only at hSw); go_simp; (try with_reducible rfl); done)) | refine tn (i := 24) hHeld ?_
                try simp only [Act.put, List.setIfInBounds_toArray, List.set_cons_zero, List.set_cons_succ]
                first | (refine tw (i := 25) (v := ?_) ?_ hHeld ?_; rotate_left; focus (intro w hSw; (try dsimp only at hSw); go_simp; (try with_reducible rfl); done)) | refine tn (i := 25) hHeld ?_
                try simp only [Act.put, List.setIfInBounds_toArray, List.set_cons_zero, List.set_cons_succ]
                refine wpAnyH_done (by kernel_rfl) ?_ _
                clear M1 M4 M5 hP hP3 h1d h1
                have hsz9 := (h5).h8
                have hh9 := (h5).hs
                have hLa := Lib.hid (fun m => (last_any ((h5).drewN m).x).mono fun e w' z => (⟨z.1, z.2.symm⟩ : _ ∧ w' = (w5).drewN m))
                have hRo := fun m => room_any ((h5).drewN m).x
                rw [show (8 : Int) - ((S).drop hd).length = 8 - (((S).length : Int) - (hd : Nat)) by rw [List.length_drop]; omega] at hRo
                have hRo := Lib.hid hRo
                have hw1 : IntKind.i64.wrap (((S).length : Int) - (hd : Nat)) = ((S).length : Int) - (hd : Nat) := by rw [IntKind.wrap_i64]; have := (h5).k6; have := (h5).sk; omega
                have hw2 : IntKind.i64.wrap (8 - (((S).length : Int) - (hd : Nat))) = 8 - (((S).length : Int) - (hd : Nat)) := by rw [IntKind.wrap_i64]; have := (h5).k6; have := (h5).sk; omega
                obtain ⟨v9, g0, hT9⟩ := (h5).y.s
                obtain ⟨va9, vc9, rfl⟩ := hT9.len
                have g1 := (h5).y.c1
                have g2 := (h5).y.c2
                have hE9 := Lib.hid (h5)
                clear hT9 hsz9 hh9
                go_wp2_with fail
                go_quiet ((first | (go_at_call 13; with_reducible exact Calls.quiet_of_same (hLa.out _)) | (go_at_call 14; with_reducible exact Calls.quiet_of (hRo.out _))))
                go_wp2
                exact ⟨hnext.out _ _ _ _ (hE9.out.drewN _), by simp [intOf]; omega⟩
            · have d3 : (kd == 3) = false := by simpa using k3
              have h5 := h1.next hk1'
              clear h1
              have hsz9 := (h5).h8
              have hh9 := (h5).hs
              have hLa := Lib.hid (fun m => (last_any ((h5).drewN m).x).mono fun e w' z => (⟨z.1, z.2.symm⟩ : _ ∧ w' = (wr).drewN m))
              have hRo := fun m => room_any ((h5).drewN m).x
              rw [show (8 : Int) - ((S).drop hd).length = 8 - (((S).length : Int) - (hd : Nat)) by rw [List.length_drop]; omega] at hRo
              have hRo := Lib.hid hRo
              have hw1 : IntKind.i64.wrap (((S).length : Int) - (hd : Nat)) = ((S).length : Int) - (hd : Nat) := by rw [IntKind.wrap_i64]; have := (h5).k6; have := (h5).sk; omega
              have hw2 : IntKind.i64.wrap (8 - (((S).length : Int) - (hd : Nat))) = 8 - (((S).length : Int) - (hd : Nat)) := by rw [IntKind.wrap_i64]; have := (h5).k6; have := (h5).sk; omega
              obtain ⟨v9, g0, hT9⟩ := (h5).y.s
              obtain ⟨va9, vc9, rfl⟩ := hT9.len
              have g1 := (h5).y.c1
              have g2 := (h5).y.c2
              have hE9 := Lib.hid (h5)
              clear hT9 hsz9 hh9
              go_wp2_with fail
              go_quiet ((first | (go_at_call 13; with_reducible exact Calls.quiet_of_same (hLa.out _)) | (go_at_call 14; with_reducible exact Calls.quiet_of (hRo.out _))))
              go_wp2
              exact ⟨hnext.out _ _ _ _ (hE9.out.drewN _), by simp [intOf]; omega⟩
    · have hdk : ¬ ((k : Int) < (len : Int)) := by omega
      have h68 := h1.h8
      have hhs := h1.hs
      have h66 := h1.k6
      have hsk := h1.sk
      have hU := Lib.hid (under_any (most := most) h1.x)
      have hGl : ((gotS ((hd : Int) + 1) (S.drop hd) most).length : Int) = min ((S.length : Int) - (hd : Nat)) (max most 1) := by
        rw [gotS_len, List.length_drop]; omega
      have hGg : ∀ i : Nat, i < (gotS ((hd : Int) + 1) (S.drop hd) most).length → (gotS ((hd : Int) + 1) (S.drop hd) most)[i]? = some ((hd : Int) + 1 + i, S.getD (hd + i) ⟨#[]⟩) := fun i hi => by
        rw [gotS_get _ _ _ _ ⟨by omega, by omega⟩ (by rw [List.length_drop]; omega) hi]
        rw [List.getD_eq_getElem?_getD, List.getElem?_drop, ← List.getD_eq_getElem?_getD]
      generalize gotS ((hd : Int) + 1) (S.drop hd) most = G at *
      go_wp2_with fail
      refine hU.out.mono ?_
      rintro e w4 ⟨⟨v, D, rfl, hD, hrow⟩, hb4⟩
      have h4 : WD r u g q B w k S hd l' w4 := ⟨h1.x.below hb4, h1.y.below hb4, bt h1.be hb4, Nat.le_trans h1.sz hb4.size, h1.hs, h1.sk, h1.l0, h1.lk, h1.k6⟩
      obtain ⟨vb, vc, rfl⟩ := hrow.any
      obtain ⟨v9, g0, hT9⟩ := h4.y.s
      obtain ⟨va9, vc9, rfl⟩ := hT9.len
      have g1 := h4.y.c1
      have hw1 : IntKind.i64.wrap ((S.length : Int) - (hd : Nat)) = (S.length : Int) - (hd : Nat) := by rw [IntKind.wrap_i64]; omega
      have hmx := fun W => run_max Try.prog 3 most 1 W
      have hmn := fun W => run_min Try.prog 3 ((S.length : Int) - (hd : Nat)) (max most 1) W
      have hne : ((G.length : Int) != min ((S.length : Int) - (hd : Nat)) (max most 1)) = false := by rw [hGl]; simp
      have M1 : w4.drew.cell? ⟨q, 0, none⟩ = some (.slice va9 S.length vc9) ∧ w4.drew.cell? ⟨q, 1, none⟩ = some (.int .i64 (hd : Nat)) := ⟨g0, g1⟩
      have hGl := Lib.hid hGl
      have hGg := Lib.hid hGg
      clear hU h1 hdk
      go_wp2_with fail
      refine wp_region_held_drew (S := (fun w' : World => w'.cell? ⟨q, 0, none⟩ = some (.slice va9 S.length vc9) ∧ w'.cell? ⟨q, 1, none⟩ = some (.int .i64 (hd : Nat)))) (by kernel_rfl) ?_ (fun hHeld => ?_)
      · first | exact M1
      first | (refine tw (i := 0) (v := ?_) ?_ hHeld ?_; rotate_left; focus (intro w hSw; (try dsimp only at hSw); go_simp; (try with_reducible rfl); done)) | refine tn (i := 0) hHeld ?_
      try simp only [Act.put, List.setIfInBounds_toArray, List.set_cons_zero, List.set_cons_succ]
      first | (refine tw (i := 1) (v := ?_) ?_ hHeld ?_; rotate_left; focus (intro w hSw; (try dsimp only at hSw); go_simp; (try with_reducible rfl); done)) | refine tn (i := 1) hHeld ?_
      try simp only [Act.put, List.setIfInBounds_toArray, List.set_cons_zero, List.set_cons_succ]
      first | (refine tw (i := 2) (v := ?_) ?_ hHeld ?_; rotate_left; focus (intro w hSw; (try dsimp only at hSw); go_simp; (try with_reducible rfl); done)) | refine tn (i := 2) hHeld ?_
      try simp only [Act.put, List.setIfInBounds_toArray, List.set_cons_zero, List.set_cons_succ]
      first | (refine tw (i := 3) (v := ?_) ?_ hHeld ?_; rotate_left; focus (intro w hSw; (try dsimp only at hSw); go_simp; (try with_reducible rfl); done)) | refine tn (i := 3) hHeld ?_
      try simp only [Act.put, List.setIfInBounds_toArray, List.set_cons_zero, List.set_cons_succ]
      first | (refine tw (i := 4) (v := ?_) ?_ hHeld ?_; rotate_left; focus (intro w hSw; (try dsimp only at hSw); go_simp; (try with_reducible rfl); done)) | refine tn (i := 4) hHeld ?_
      try simp only [Act.put, List.setIfInBounds_toArray, List.set_cons_zero, List.set_cons_succ]
      first | (refine tw (i := 5) (v := ?_) ?_ hHeld ?_; rotate_left; focus (intro w hSw; (try dsimp only at hSw); go_simp; (try with_reducible rfl); done)) | refine tn (i := 5) hHeld ?_
      try simp only [Act.put, List.setIfInBounds_toArray, List.set_cons_zero, List.set_cons_succ]
      first | (refine tw (i := 6) (v := ?_) ?_ hHeld ?_; rotate_left; focus (intro w hSw; (try dsimp only at hSw); go_simp; (try with_reducible rfl); done)) | refine tn (i := 6) hHeld ?_
      try simp only [Act.put, List.setIfInBounds_toArray, List.set_cons_zero, List.set_cons_succ]
      first | (refine tw (i := 7) (v := ?_) ?_ hHeld ?_; rotate_left; focus (intro w hSw; (try dsimp only at hSw); go_simp; (try with_reducible rfl); done)) | refine tn (i := 7) hHeld ?_
      try simp only [Act.put, List.setIfInBounds_toArray, List.set_cons_zero, List.set_cons_succ]
      first | (refine tw (i := 8) (v := ?_) ?_ hHeld ?_; rotate_left; focus (intro w hSw; (try dsimp only at hSw); go_simp; (try with_reducible rfl); done)) | refine tn (i := 8) hHeld ?_
      try simp only [Act.put, List.setIfInBounds_toArray, List.set_cons_zero, List.set_cons_succ]
      first | (refine tw (i := 9) (v := ?_) ?_ hHeld ?_; rotate_left; focus (intro w hSw; (try dsimp only at hSw); go_simp; (try with_reducible rfl); done)) | refine tn (i := 9) hHeld ?_
      try simp only [Act.put, List.setIfInBounds_toArray, List.set_cons_zero, List.set_cons_succ]
      first | (refine tw (i := 10) (v := ?_) ?_ hHeld ?_; rotate_left; focus (intro w hSw; (try dsimp only at hSw); go_simp; (try with_reducible rfl); done)) | refine tn (i := 10) hHeld ?_
      try simp only [Act.put, List.setIfInBounds_toArray, List.set_cons_zero, List.set_cons_succ]
      first | (refine tw (i := 11) (v := ?_) ?_ hHeld ?_; rotate_left; focus (intro w hSw; (try dsimp only at hSw); go_simp; (try with_reducible rfl); done)) | refine tn (i := 11) hHeld ?_
      try simp only [Act.put, List.setIfInBounds_toArray, List.set_cons_zero, List.set_cons_succ]
      first | (refine tw (i := 12) (v := ?_) ?_ hHeld ?_; rotate_left; focus (intro w hSw; (try dsimp only at hSw); go_simp; (try with_reducible rfl); done)) | refine tn (i := 12) hHeld ?_
      try simp only [Act.put, List.setIfInBounds_toArray, List.set_cons_zero, List.set_cons_succ]
      first | (refine tw (i := 13) (v := ?_) ?_ hHeld ?_; rotate_left; focus (intro w hSw; (try dsimp only at hSw); go_simp; (try with_reducible rfl); done)) | refine tn (i := 13) hHeld ?_
      try simp only [Act.put, List.setIfInBounds_toArray, List.set_cons_zero, List.set_cons_succ]
      first | (refine tw (i := 14) (v := ?_) ?_ hHeld ?_; rotate_left; focus (intro w hSw; (try dsimp only at hSw); go_simp; (try with_reducible rfl); done)) | refine tn (i := 14) hHeld ?_
      try simp only [Act.put, List.setIfInBounds_toArray, List.set_cons_zero, List.set_cons_succ]
      first | (refine tw (i := 15) (v := ?_) ?_ hHeld ?_; rotate_left; focus (intro w hSw; (try dsimp only at hSw); go_simp; (try with_reducible rfl); done)) | refine tn (i := 15) hHeld ?_
      try simp only [Act.put, List.setIfInBounds_toArray, List.set_cons_zero, List.set_cons_succ]
      refine wpAnyH_done (by kernel_rfl) ?_ _
      have hb9 := h4.be
      have hqx := h4.y.qB
      have hTx := Lib.hid hT9
      have hrx := Lib.hid hrow
      clear hrow hT9 M1 hmx hmn hne hw1
      go_wp2_with fail
      go_loopw [23] (fun i wr => WE G.length w4 i wr) (fun i _ => G.length - (intOf i).toNat)
      case atStart => exact ⟨0, Nat.zero_le _, rfl, 1, rfl⟩
      case round =>
        obtain ⟨j, hj, rfl, m, rfl⟩ := hrel
        by_cases hjl : j < G.length
        · have hGl1 := hGl.out
          have hGj := hGg.out j hjl
          obtain ⟨gR, cR, hvR, hDR, hcR, hgR⟩ := hrx.out.slice (by intro e; rw [e] at hjl; simp at hjl)
          simp only [Value.slice.injEq, true_and] at hvR
          obtain ⟨rfl, rfl⟩ := hvR
          obtain ⟨p1, p2⟩ := URow.at (hrx.out) j _ hGj
          have hz : hd + j < S.length := by omega
          rcases hTx.out with ⟨hT1, hT2⟩ | ⟨g9, o9, c9, hT1, hT2, hT3, hT4⟩
          · rw [hT2] at hz; simp at hz
          · simp only [Value.slice.injEq, true_and] at hT1
            obtain ⟨rfl, rfl⟩ := hT1
            have p3 := hT4 (hd + j) hz
            rw [List.getD_eq_getElem?_getD, List.getElem?_eq_getElem hz] at p2
            simp only [Option.getD_some] at p2
            generalize S[hd + j] = y at *
            obtain ⟨p, hp⟩ : ∃ p : Int, (hd : Int) + 1 + j = p := ⟨_, rfl⟩
            simp only [hp] at p1
            obtain ⟨z, hzz⟩ : ∃ z : Nat, hd + j = z := ⟨_, rfl⟩
            rw [hzz] at p3 hz
            have hw2 : IntKind.i64.wrap ((hd : Int) + (j : Int)) = (z : Int) := by rw [IntKind.wrap_i64]; omega
            have hw3 : IntKind.i64.wrap ((z : Int) + 1) = p := by rw [IntKind.wrap_i64]; omega
            have hzI : (z : Int) < (S.length : Int) := by omega
            have hjI : (j : Int) < (G.length : Int) := by omega
            have hnext : ∀ m', WE G.length w4 (.int .i64 ((j : Int) + 1)) (w4.drewN m') := fun m' => ⟨j + 1, by omega, by go_num, m', rfl⟩
            have hnext := Lib.hid hnext
            clear hGj hGl1 hp hzz hT2 hT3 hT4
            go_wp2_with fail
            go_quiet (fail)
            go_wp2
            exact ⟨hnext.out _, by simp [intOf]; omega⟩
        · have hjI : ¬ ((j : Int) < (G.length : Int)) := by omega
          have hB5 : Below w.heap.size w (w4.drewN m) := bt hb9 (bdraws0 w4 m)
          go_wp2_with fail
          refine (under_nil 5 _).mono ?_
          rintro e w5 ⟨rfl, hb5⟩
          have hB6 := bt hB5 hb5
          go_wp2_with fail
          refine (room_nil w5).mono ?_
          rintro e w6 ⟨rfl, rfl⟩
          go_wp2_with fail
          refine (last_nil w5).mono ?_
          rintro e w7 ⟨rfl, rfl⟩
          go_wp2
          go_ret
          exact ⟨rfl, hB6⟩
end Go.Proofs.Ytjjhgpdacijlmaa
