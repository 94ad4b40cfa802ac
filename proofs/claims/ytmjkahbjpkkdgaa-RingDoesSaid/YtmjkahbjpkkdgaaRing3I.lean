/-
  A ring of numbers: what is dropped.
-/
import Derived.Test.YtmjkahbjpkkdgaaRing2I
namespace Go.Proofs.Ytmjkahbjpkkdgaa
open Go.RowKit
set_option linter.unusedVariables false
set_option linter.unusedSimpArgs false

def DropRI (w : World) (r g fr n k : Nat) (C : List Int) (wr : World) : Prop := ∃ D, RGI wr r g fr n D ∧ D.length = C.length ∧ (LI D fr n).drop k = (LI C fr n).drop k ∧ Frm (fun k => k = r ∨ k = g) w wr
def DropPI (w : World) (r g fr n k : Nat) (C : List Int) (e : Ending) (w' : World) : Prop := e = .returned (.int .i64 k) ∧ (∃ D fr', RGI w' r g fr' (n - k) D ∧ D.length = C.length ∧ LI D fr' (n - k) = (LI C fr n).drop k) ∧ Frm (fun k => k = r ∨ k = g) w w'
theorem dropI_round {w wr : World} {r g fr n k m : Nat} {C D : List Int} (hR : RGI wr r g fr n D) (hDl : D.length = C.length) (hDd : (LI D fr n).drop k = (LI C fr n).drop k) (hDf : Frm (fun k => k = r ∨ k = g) w wr) (hm : m < k) (hk : k ≤ n) (W : World) (hW : Below wr.heap.size wr W) :
    DropRI w r g fr n k C (W.setCell ⟨g, (fr + m) % D.length, none⟩ (iv 0)) := by
  have hn := hR.hn
  refine ⟨D.set ((fr + m) % D.length) 0, (hR.below hW).put _ (Nat.mod_lt _ (by omega)) _, by rw [List.length_set]; exact hDl, (rgL_wipe _ _ _ _ _ _ _ hm hk hn).trans hDd, hDf.trans ((Frm.ofBelow hW).trans ((Frm.one _ g _ _).mono fun k _ => .inr))⟩
theorem dropI_end {w wr : World} {r g fr n k : Nat} {C D : List Int} (hR : RGI wr r g fr n D) (hDl : D.length = C.length) (hDd : (LI D fr n).drop k = (LI C fr n).drop k) (hDf : Frm (fun k => k = r ∨ k = g) w wr) (hk : k ≤ n) (h0 : 0 < n) (W : World) (hW : Below wr.heap.size wr W) :
    DropPI w r g fr n k C (.returned (.int .i64 k)) ((W.setCell ⟨r, 1, none⟩ (.int .i64 ((fr + k) % D.length : Nat))).setCell ⟨r, 2, none⟩ (.int .i64 ((n - k : Nat) : Int))) := by
  have hn := hR.hn
  refine ⟨rfl, ⟨D, (fr + k) % D.length, ((hR.below hW).setF _ (Nat.mod_lt _ (by omega))).setN _ (by omega), hDl, (rgL_drop _ _ _ _ _ hk (by omega)).trans hDd⟩, hDf.trans ((Frm.ofBelow hW).trans (((Frm.one _ r _ _).mono fun k _ => .inl).trans ((Frm.one _ r _ _).mono fun k _ => .inl)))⟩
theorem dropI_any (r g fr n : Nat) (C : List Int) (i : Int) (w : World) (h : RGI w r g fr n C) (hi : -9223372036854775808 ≤ i ∧ i ≤ 9223372036854775807) : Calls Try.prog 14 #[.pointer (some ⟨r, 0, none⟩), .int .i64 i] w (DropPI w r g fr n (min (max i 0) n).toNat C) := by
  have hc0 := h.c0
  have hc2 := h.c2
  have hC := h.hn
  have hCm := h.hm
  by_cases hn0 : n = 0
  · subst hn0
    have e0 : (min (max i 0) ((0 : Nat) : Int)).toNat = 0 := by omega
    rw [e0]
    have hP : DropPI w r g fr 0 0 C (.returned (.int .i64 0)) w := ⟨rfl, ⟨C, fr, h, rfl, rfl⟩, Frm.refl _ _⟩
    clear h hC hCm e0
    go_enter Try.func14, Try.ntmps14
    go_wp2
    go_ret
    exact hP
  · have hh := Lib.hid h
    have hn0 : 0 < n := by omega
    have hz : decide ((n : Int) = 0) = false := decide_eq_false (by omega)
    obtain ⟨k, hk⟩ : ∃ k : Nat, (min (max i 0) (n : Int)).toNat = k := ⟨_, rfl⟩
    have hkn : k ≤ n := by omega
    have hk' : min (max i 0) (n : Int) = (k : Int) := by omega
    rw [hk]
    clear h hk
    by_cases ha : i < 0
    · obtain rfl : k = 0 := by omega
      clear hk'
      go_enter Try.func14, Try.ntmps14
      go_wp2
      go_loopw [24] (fun j wr => ∃ m : Nat, m ≤ 0 ∧ j = .int .i64 m ∧ Hid (DropRI w r g fr n 0 C wr)) (fun j _ => 0 - (intOf j).toNat)
      case atStart => exact ⟨0, Nat.zero_le _, rfl, C, hh.out, rfl, rfl, Frm.refl _ _⟩
      case round =>
        obtain ⟨m, hmk, rfl, hD⟩ := hrel
        obtain ⟨D, hR, hDl, hDd, hDf⟩ := hD.out
        have hc0 := hR.c0
        have hc2 := hR.c2
        have hf1 := hR.f1
        have hf2 := hR.f2
        have hc1 := hR.c1
        have hne := hR.ne
        have hDm := hR.hm
        have hDn := hR.hn
        by_cases hlt : m < 0
        · skip
          exact absurd hlt (by omega)
        · have hme : m = 0 := by omega
          have hX := Lib.hid (fun W hW => dropI_end hR hDl hDd hDf hkn hn0 W hW)
          have hP := Lib.hid (placeI_any r g fr n D 0 wr hR (by omega) (by omega))
          have hmd : ¬ ((m : Int) < (0 : Int)) := by omega
          have e2 : IntKind.i64.wrap ((n : Int) - (0 : Int)) = ((n - 0 : Nat) : Int) := by rw [IntWalk.i64_in _ (by omega)]; omega
          clear hR hDd hDf hD hmk hlt hDl hme
          try simp only [Int.cast_ofNat_Int] at hP hX hmd e2
          go_wp2_with (go_at_call 26; (with_reducible refine hP.out.mono ?_); rintro e w4 ⟨rfl, m4, rfl⟩)
          go_ret
          first | exact hX.out _ (bdraws0 _ _) | (have h9 := hX.out (wr.drewN m4) (bdraws0 _ _); simp only [Nat.sub_self, Int.natCast_emod, Int.natCast_add, Int.cast_ofNat_Int] at h9; exact h9)
    · by_cases hb : i ≤ n
      · obtain rfl : i = k := by omega
        clear hk'
        go_enter Try.func14, Try.ntmps14
        go_wp2
        go_loopw [24] (fun j wr => ∃ m : Nat, m ≤ k ∧ j = .int .i64 m ∧ Hid (DropRI w r g fr n k C wr)) (fun j _ => k - (intOf j).toNat)
        case atStart => exact ⟨0, Nat.zero_le _, rfl, C, hh.out, rfl, rfl, Frm.refl _ _⟩
        case round =>
          obtain ⟨m, hmk, rfl, hD⟩ := hrel
          obtain ⟨D, hR, hDl, hDd, hDf⟩ := hD.out
          have hc0 := hR.c0
          have hc2 := hR.c2
          have hf1 := hR.f1
          have hf2 := hR.f2
          have hc1 := hR.c1
          have hne := hR.ne
          have hDm := hR.hm
          have hDn := hR.hn
          by_cases hlt : m < k
          · skip
            have hX := Lib.hid (fun W hW => dropI_round hR hDl hDd hDf hlt hkn W hW)
            have hzl : (fr + m) % D.length < D.length := Nat.mod_lt _ (by omega)
            have hP := Lib.hid (placeI_any r g fr n D m wr.drew (hR.below (Below.refl _ wr).drew) (by omega) (by omega))
            have hcell := hR.b _ hzl
            have hfree := hR.f _ hzl
            have hzl' := Lib.hid hzl
            have e2 : IntKind.i64.wrap ((m : Int) + 1) = ((m + 1 : Nat) : Int) := by rw [IntWalk.i64_in _ (by omega)]; omega
            have hlt' := Lib.hid hlt
            have hkn' := Lib.hid hkn
            have hmd : ((m : Int) < (k : Int)) := by omega
            clear hR hDd hDf hD hmk hDl
            generalize (fr + m) % D.length = z at *
            generalize D[z] = old at *
            go_wp2
            refine wp_region_held_drew (S := (fun w' : World => w'.cell? ⟨r, 0, none⟩ = some (.slice (some ⟨g, 0, none⟩) D.length D.length))) (by kernel_rfl) ?_ (fun hHeld => ?_)
            · first | exact bkeep (Below.refl _ wr).drew hc0 | exact bkeep (bdraws (Below.refl _ wr).drew _) hc0
            first | (refine tw (i := 0) (v := ?_) ?_ hHeld ?_; rotate_left; focus (intro w hSw; (try dsimp only at hSw); go_simp; (try with_reducible rfl); done)) | refine tn (i := 0) hHeld ?_
            try simp only [Act.put, List.setIfInBounds_toArray, List.set_cons_zero, List.set_cons_succ]
            first | (refine tw (i := 1) (v := ?_) ?_ hHeld ?_; rotate_left; focus (intro w hSw; (try dsimp only at hSw); go_simp; (try with_reducible rfl); done)) | refine tn (i := 1) hHeld ?_
            try simp only [Act.put, List.setIfInBounds_toArray, List.set_cons_zero, List.set_cons_succ]
            first | (refine tw (i := 2) (v := ?_) ?_ hHeld ?_; rotate_left; focus (intro w hSw; (try dsimp only at hSw); go_simp; (try with_reducible rfl); done)) | refine tn (i := 2) hHeld ?_
            try simp only [Act.put, List.setIfInBounds_toArray, List.set_cons_zero, List.set_cons_succ]
            first | (refine tw (i := 3) (v := ?_) ?_ hHeld ?_; rotate_left; focus (intro w hSw; (try dsimp only at hSw); go_simp; (try with_reducible rfl); done)) | refine tn (i := 3) hHeld ?_
            try simp only [Act.put, List.setIfInBounds_toArray, List.set_cons_zero, List.set_cons_succ]
            first | (refine tw (i := 4) (v := ?_) ?_ hHeld ?_; rotate_left; focus (intro w hSw; (try dsimp only at hSw); go_simp; (try with_reducible rfl); done)) | refine tn (i := 4) hHeld ?_
            try simp only [Act.put, List.setIfInBounds_toArray, List.set_cons_zero, List.set_cons_succ]
            first | (refine tw (i := 5) (v := ?_) ?_ hHeld ?_; rotate_left; focus (intro w hSw; (try dsimp only at hSw); go_simp; (try with_reducible rfl); done)) | refine tn (i := 5) hHeld ?_
            try simp only [Act.put, List.setIfInBounds_toArray, List.set_cons_zero, List.set_cons_succ]
            first | (refine tw (i := 7) (v := ?_) ?_ hHeld ?_; rotate_left; focus (intro w hSw; (try dsimp only at hSw); go_simp; (try with_reducible rfl); done)) | refine tn (i := 7) hHeld ?_
            try simp only [Act.put, List.setIfInBounds_toArray, List.set_cons_zero, List.set_cons_succ]
            refine call_next (i := 6) (by kernel_rfl) (by rfl) ?_
            intro o ho K hK
            simp only [List.getElem?_toArray, List.getElem?_cons_succ, List.getElem?_cons_zero, Option.some.injEq] at ho
            subst ho
            first | (fail; refine hK.out _ _ ?_ (fun hHeld => ?_)) | (go_simp; first | (with_reducible refine hK.out _ _ ?_ (fun hHeld => ?_)) | ((go_at_call 26; (with_reducible refine hP.out.mono ?_); rintro e w4 ⟨rfl, m4, rfl⟩); refine hK.out _ _ ?_ (fun hHeld => ?_)))
            · first | exact bkeep (Below.refl _ wr).drew hc0 | exact bkeep (bdraws (Below.refl _ wr).drew _) hc0
            clear hK K
            try simp only [Act.put, List.setIfInBounds_toArray, List.set_cons_zero, List.set_cons_succ]
            first | (refine tw (i := 8) (v := ?_) ?_ hHeld ?_; rotate_left; focus (intro w hSw; (try dsimp only at hSw); go_simp; (try with_reducible rfl); done)) | refine tn (i := 8) hHeld ?_
            try simp only [Act.put, List.setIfInBounds_toArray, List.set_cons_zero, List.set_cons_succ]
            refine call_next (i := 9) (by kernel_rfl) (by rfl) ?_
            intro o ho K hK
            simp only [List.getElem?_toArray, List.getElem?_cons_succ, List.getElem?_cons_zero, Option.some.injEq] at ho
            subst ho
            first | (fail; refine hK.out _ _ ?_ (fun hHeld => ?_)) | (go_simp; first | (with_reducible refine hK.out _ _ ?_ (fun hHeld => ?_)) | ((go_at_call 26; (with_reducible refine hP.out.mono ?_); rintro e w4 ⟨rfl, m4, rfl⟩); refine hK.out _ _ ?_ (fun hHeld => ?_)))
            · first | (with_reducible exact True.intro) | ((try simp only [World.cell?_drew] at *); repeat' (first | (with_reducible assumption) | (with_reducible refine And.intro ?_ ?_) | (refine cell_set_ne ?_ (by first | (simp; done) | (simp; omega))) | (refine bkeep (bdraws0 _ _) ?_; with_reducible assumption)))
            clear hK K
            try simp only [Act.put, List.setIfInBounds_toArray, List.set_cons_zero, List.set_cons_succ]
            refine wpAnyH_done (by kernel_rfl) ?_ _
            go_wp2
            exact ⟨⟨m + 1, by have := hlt'.out; omega, rfl, hX.out _ (by first | exact bdraws0 _ _ | exact bdraws (Below.refl _ _).drew _)⟩, by simp [intOf]; omega⟩
          · have hme : m = k := by omega
            have hX := Lib.hid (fun W hW => dropI_end hR hDl hDd hDf hkn hn0 W hW)
            have hP := Lib.hid (placeI_any r g fr n D k wr hR (by omega) (by omega))
            have hmd : ¬ ((m : Int) < (k : Int)) := by omega
            have e2 : IntKind.i64.wrap ((n : Int) - (k : Int)) = ((n - k : Nat) : Int) := by rw [IntWalk.i64_in _ (by omega)]; omega
            clear hR hDd hDf hD hmk hlt hDl hme
            try simp only [Int.cast_ofNat_Int] at hP hX hmd e2
            go_wp2_with (go_at_call 26; (with_reducible refine hP.out.mono ?_); rintro e w4 ⟨rfl, m4, rfl⟩)
            go_ret
            first | exact hX.out _ (bdraws0 _ _) | (have h9 := hX.out (wr.drewN m4) (bdraws0 _ _); simp only [Nat.sub_self, Int.natCast_emod, Int.natCast_add, Int.cast_ofNat_Int] at h9; exact h9)
      · have hkq : n = k := by omega
        subst hkq
        clear hk'
        go_enter Try.func14, Try.ntmps14
        go_wp2
        go_loopw [24] (fun j wr => ∃ m : Nat, m ≤ n ∧ j = .int .i64 m ∧ Hid (DropRI w r g fr n n C wr)) (fun j _ => n - (intOf j).toNat)
        case atStart => exact ⟨0, Nat.zero_le _, rfl, C, hh.out, rfl, rfl, Frm.refl _ _⟩
        case round =>
          obtain ⟨m, hmk, rfl, hD⟩ := hrel
          obtain ⟨D, hR, hDl, hDd, hDf⟩ := hD.out
          have hc0 := hR.c0
          have hc2 := hR.c2
          have hf1 := hR.f1
          have hf2 := hR.f2
          have hc1 := hR.c1
          have hne := hR.ne
          have hDm := hR.hm
          have hDn := hR.hn
          by_cases hlt : m < n
          · skip
            have hX := Lib.hid (fun W hW => dropI_round hR hDl hDd hDf hlt hkn W hW)
            have hzl : (fr + m) % D.length < D.length := Nat.mod_lt _ (by omega)
            have hP := Lib.hid (placeI_any r g fr n D m wr.drew (hR.below (Below.refl _ wr).drew) (by omega) (by omega))
            have hcell := hR.b _ hzl
            have hfree := hR.f _ hzl
            have hzl' := Lib.hid hzl
            have e2 : IntKind.i64.wrap ((m : Int) + 1) = ((m + 1 : Nat) : Int) := by rw [IntWalk.i64_in _ (by omega)]; omega
            have hlt' := Lib.hid hlt
            have hkn' := Lib.hid hkn
            have hmd : ((m : Int) < (n : Int)) := by omega
            clear hR hDd hDf hD hmk hDl
            generalize (fr + m) % D.length = z at *
            generalize D[z] = old at *
            go_wp2
            refine wp_region_held_drew (S := (fun w' : World => w'.cell? ⟨r, 0, none⟩ = some (.slice (some ⟨g, 0, none⟩) D.length D.length))) (by kernel_rfl) ?_ (fun hHeld => ?_)
            · first | exact bkeep (Below.refl _ wr).drew hc0 | exact bkeep (bdraws (Below.refl _ wr).drew _) hc0
            first | (refine tw (i := 0) (v := ?_) ?_ hHeld ?_; rotate_left; focus (intro w hSw; (try dsimp only at hSw); go_simp; (try with_reducible rfl); done)) | refine tn (i := 0) hHeld ?_
            try simp only [Act.put, List.setIfInBounds_toArray, List.set_cons_zero, List.set_cons_succ]
            first | (refine tw (i := 1) (v := ?_) ?_ hHeld ?_; rotate_left; focus (intro w hSw; (try dsimp only at hSw); go_simp; (try with_reducible rfl); done)) | refine tn (i := 1) hHeld ?_
            try simp only [Act.put, List.setIfInBounds_toArray, List.set_cons_zero, List.set_cons_succ]
            first | (refine tw (i := 2) (v := ?_) ?_ hHeld ?_; rotate_left; focus (intro w hSw; (try dsimp only at hSw); go_simp; (try with_reducible rfl); done)) | refine tn (i := 2) hHeld ?_
            try simp only [Act.put, List.setIfInBounds_toArray, List.set_cons_zero, List.set_cons_succ]
            first | (refine tw (i := 3) (v := ?_) ?_ hHeld ?_; rotate_left; focus (intro w hSw; (try dsimp only at hSw); go_simp; (try with_reducible rfl); done)) | refine tn (i := 3) hHeld ?_
            try simp only [Act.put, List.setIfInBounds_toArray, List.set_cons_zero, List.set_cons_succ]
            first | (refine tw (i := 4) (v := ?_) ?_ hHeld ?_; rotate_left; focus (intro w hSw; (try dsimp only at hSw); go_simp; (try with_reducible rfl); done)) | refine tn (i := 4) hHeld ?_
            try simp only [Act.put, List.setIfInBounds_toArray, List.set_cons_zero, List.set_cons_succ]
            first | (refine tw (i := 5) (v := ?_) ?_ hHeld ?_; rotate_left; focus (intro w hSw; (try dsimp only at hSw); go_simp; (try with_reducible rfl); done)) | refine tn (i := 5) hHeld ?_
            try simp only [Act.put, List.setIfInBounds_toArray, List.set_cons_zero, List.set_cons_succ]
            first | (refine tw (i := 7) (v := ?_) ?_ hHeld ?_; rotate_left; focus (intro w hSw; (try dsimp only at hSw); go_simp; (try with_reducible rfl); done)) | refine tn (i := 7) hHeld ?_
            try simp only [Act.put, List.setIfInBounds_toArray, List.set_cons_zero, List.set_cons_succ]
            refine call_next (i := 6) (by kernel_rfl) (by rfl) ?_
            intro o ho K hK
            simp only [List.getElem?_toArray, List.getElem?_cons_succ, List.getElem?_cons_zero, Option.some.injEq] at ho
            subst ho
            first | (fail; refine hK.out _ _ ?_ (fun hHeld => ?_)) | (go_simp; first | (with_reducible refine hK.out _ _ ?_ (fun hHeld => ?_)) | ((go_at_call 26; (with_reducible refine hP.out.mono ?_); rintro e w4 ⟨rfl, m4, rfl⟩); refine hK.out _ _ ?_ (fun hHeld => ?_)))
            · first | exact bkeep (Below.refl _ wr).drew hc0 | exact bkeep (bdraws (Below.refl _ wr).drew _) hc0
            clear hK K
            try simp only [Act.put, List.setIfInBounds_toArray, List.set_cons_zero, List.set_cons_succ]
            first | (refine tw (i := 8) (v := ?_) ?_ hHeld ?_; rotate_left; focus (intro w hSw; (try dsimp only at hSw); go_simp; (try with_reducible rfl); done)) | refine tn (i := 8) hHeld ?_
            try simp only [Act.put, List.setIfInBounds_toArray, List.set_cons_zero, List.set_cons_succ]
            refine call_next (i := 9) (by kernel_rfl) (by rfl) ?_
            intro o ho K hK
            simp only [List.getElem?_toArray, List.getElem?_cons_succ, List.getElem?_cons_zero, Option.some.injEq] at ho
            subst ho
            first | (fail; refine hK.out _ _ ?_ (fun hHeld => ?_)) | (go_simp; first | (with_reducible refine hK.out _ _ ?_ (fun hHeld => ?_)) | ((go_at_call 26; (with_reducible refine hP.out.mono ?_); rintro e w4 ⟨rfl, m4, rfl⟩); refine hK.out _ _ ?_ (fun hHeld => ?_)))
            · first | (with_reducible exact True.intro) | ((try simp only [World.cell?_drew] at *); repeat' (first | (with_reducible assumption) | (with_reducible refine And.intro ?_ ?_) | (refine cell_set_ne ?_ (by first | (simp; done) | (simp; omega))) | (refine bkeep (bdraws0 _ _) ?_; with_reducible assumption)))
            clear hK K
            try simp only [Act.put, List.setIfInBounds_toArray, List.set_cons_zero, List.set_cons_succ]
            refine wpAnyH_done (by kernel_rfl) ?_ _
            go_wp2
            exact ⟨⟨m + 1, by have := hlt'.out; omega, rfl, hX.out _ (by first | exact bdraws0 _ _ | exact bdraws (Below.refl _ _).drew _)⟩, by simp [intOf]; omega⟩
          · have hme : m = n := by omega
            have hX := Lib.hid (fun W hW => dropI_end hR hDl hDd hDf hkn hn0 W hW)
            have hP := Lib.hid (placeI_any r g fr n D n wr hR (by omega) (by omega))
            have hmd : ¬ ((m : Int) < (n : Int)) := by omega
            have e2 : IntKind.i64.wrap ((n : Int) - (n : Int)) = ((n - n : Nat) : Int) := by rw [IntWalk.i64_in _ (by omega)]; omega
            clear hR hDd hDf hD hmk hlt hDl hme
            try simp only [Int.cast_ofNat_Int] at hP hX hmd e2
            go_wp2_with (go_at_call 26; (with_reducible refine hP.out.mono ?_); rintro e w4 ⟨rfl, m4, rfl⟩)
            go_ret
            first | exact hX.out _ (bdraws0 _ _) | (have h9 := hX.out (wr.drewN m4) (bdraws0 _ _); simp only [Nat.sub_self, Int.natCast_emod, Int.natCast_add, Int.cast_ofNat_Int] at h9; exact h9)
theorem popI_any (r g fr n : Nat) (C : List Int) (w : World) (h : RGI w r g fr n C) : Calls Try.prog 11 #[.pointer (some ⟨r, 0, none⟩)] w fun e w' =>
    e = .returned (atVI (LI C fr n) 0) ∧ (∃ D fr', RGI w' r g fr' (n - 1) D ∧ D.length = C.length ∧ LI D fr' (n - 1) = (LI C fr n).tail) ∧ Frm (fun k => k = r ∨ k = g) w w' := by
  have hA := atI_any r g fr n C 0 w h
  have hl : (LI C fr n).length = n := rgL_len _ _ _ _
  by_cases hn : n = 0
  · have hv : atVI (LI C fr n) 0 = .tuple #[.int .i64 0, .bool false] := by
      unfold atVI
      rw [dif_neg (by omega)]
    rw [hv] at hA ⊢
    have hL : LI C fr n = [] := List.length_eq_zero_iff.1 (by omega)
    have hX : ∀ m, (∃ D fr', RGI (w.drewN m) r g fr' (n - 1) D ∧ D.length = C.length ∧ LI D fr' (n - 1) = (LI C fr n).tail) ∧ Frm (fun k => k = r ∨ k = g) w (w.drewN m) := fun m => ⟨⟨C, fr, by rw [show n - 1 = n by omega]; exact h.below (bdraws0 _ _), rfl, by rw [show n - 1 = n by omega, hL]; rfl⟩, (Frm.refl _ w).drewN m⟩
    have hA := Lib.hid hA
    have hX := Lib.hid hX
    clear hl hv hL h
    go_enter Try.func11, Try.ntmps11
    go_wp2_with (go_at_call 15; (with_reducible refine hA.out.mono ?_); rintro e w1 ⟨rfl, m, rfl⟩)
    go_ret2
    exact ⟨rfl, hX.out m⟩
  · have hv : atVI (LI C fr n) 0 = .tuple #[iv ((LI C fr n)[0]'(by omega)), .bool true] := by
      unfold atVI
      rw [dif_pos (by omega)]; rfl
    rw [hv] at hA ⊢
    have hD := fun m => dropI_any r g fr n C 1 (w.drewN m) (h.below (bdraws0 w m)) (by decide)
    have e1 : (min (max 1 0) (n : Int)).toNat = 1 := by omega
    have hX : ∀ m W, (∃ D fr', RGI W r g fr' (n - 1) D ∧ D.length = C.length ∧ LI D fr' (n - 1) = (LI C fr n).drop 1) ∧ Frm (fun k => k = r ∨ k = g) (w.drewN m) W → (∃ D fr', RGI W r g fr' (n - 1) D ∧ D.length = C.length ∧ LI D fr' (n - 1) = (LI C fr n).tail) ∧ Frm (fun k => k = r ∨ k = g) w W := fun m W h => by
      rw [List.drop_one] at h
      exact ⟨h.1, ((Frm.refl _ w).drewN m).trans h.2⟩
    rw [e1] at hD
    have hA := Lib.hid hA
    have hX := Lib.hid hX
    have hD := Lib.hid hD
    clear hv h e1
    generalize (LI C fr n)[0]'(by omega) = x at *
    clear hl
    go_enter Try.func11, Try.ntmps11
    go_wp2_with (first | (go_at_call 15; (with_reducible refine hA.out.mono ?_); rintro e w1 ⟨rfl, m, rfl⟩) | (go_at_call 14; (with_reducible refine (hD.out _).mono ?_); rintro e w2 ⟨rfl, h2⟩))
    go_ret2
    exact ⟨rfl, hX.out _ _ h2⟩
end Go.Proofs.Ytmjkahbjpkkdgaa
