/-
  A ring of texts: what is dropped.
-/
import Derived.Test.YtjjhgpdacijlmaaRing2S
namespace Go.Proofs.Ytjjhgpdacijlmaa
open Go.RowKit
set_option linter.unusedVariables false
set_option linter.unusedSimpArgs false

def DropRS (w : World) (r g fr n k : Nat) (C : List ByteArray) (wr : World) : Prop := ∃ D, RGS wr r g fr n D ∧ D.length = C.length ∧ (LS D fr n).drop k = (LS C fr n).drop k ∧ Frm (fun k => k = r ∨ k = g) w wr
def DropPS (w : World) (r g fr n k : Nat) (C : List ByteArray) (e : Ending) (w' : World) : Prop := e = .returned (.int .i64 k) ∧ (∃ D fr', RGS w' r g fr' (n - k) D ∧ D.length = C.length ∧ LS D fr' (n - k) = (LS C fr n).drop k) ∧ Frm (fun k => k = r ∨ k = g) w w'
theorem dropS_round {w wr : World} {r g fr n k m : Nat} {C D : List ByteArray} (hR : RGS wr r g fr n D) (hDl : D.length = C.length) (hDd : (LS D fr n).drop k = (LS C fr n).drop k) (hDf : Frm (fun k => k = r ∨ k = g) w wr) (hm : m < k) (hk : k ≤ n) (W : World) (hW : Below wr.heap.size wr W) :
    DropRS w r g fr n k C (W.setCell ⟨g, (fr + m) % D.length, none⟩ (Value.string (⟨#[]⟩ : ByteArray))) := by
  have hn := hR.hn
  refine ⟨D.set ((fr + m) % D.length) (⟨#[]⟩ : ByteArray), (hR.below hW).put _ (Nat.mod_lt _ (by omega)) _, by rw [List.length_set]; exact hDl, (rgL_wipe _ _ _ _ _ _ _ hm hk hn).trans hDd, hDf.trans ((Frm.ofBelow hW).trans ((Frm.one _ g _ _).mono fun k _ => .inr))⟩
theorem dropS_end {w wr : World} {r g fr n k : Nat} {C D : List ByteArray} (hR : RGS wr r g fr n D) (hDl : D.length = C.length) (hDd : (LS D fr n).drop k = (LS C fr n).drop k) (hDf : Frm (fun k => k = r ∨ k = g) w wr) (hk : k ≤ n) (h0 : 0 < n) (W : World) (hW : Below wr.heap.size wr W) :
    DropPS w r g fr n k C (.returned (.int .i64 k)) ((W.setCell ⟨r, 1, none⟩ (.int .i64 ((fr + k) % D.length : Nat))).setCell ⟨r, 2, none⟩ (.int .i64 ((n - k : Nat) : Int))) := by
  have hn := hR.hn
  refine ⟨rfl, ⟨D, (fr + k) % D.length, ((hR.below hW).setF _ (Nat.mod_lt _ (by omega))).setN _ (by omega), hDl, (rgL_drop _ _ _ _ _ hk (by omega)).trans hDd⟩, hDf.trans ((Frm.ofBelow hW).trans (((Frm.one _ r _ _).mono fun k _ => .inl).trans ((Frm.one _ r _ _).mono fun k _ => .inl)))⟩
theorem dropS_any (r g fr n : Nat) (C : List ByteArray) (i : Int) (w : World) (h : RGS w r g fr n C) (hi : -9223372036854775808 ≤ i ∧ i ≤ 9223372036854775807) : Calls Try.prog 20 #[.pointer (some ⟨r, 0, none⟩), .int .i64 i] w (DropPS w r g fr n (min (max i 0) n).toNat C) := by
  have hc0 := h.c0
  have hc2 := h.c2
  have hC := h.hn
  have hCm := h.hm
  by_cases hn0 : n = 0
  · subst hn0
    have e0 : (min (max i 0) ((0 : Nat) : Int)).toNat = 0 := by omega
    rw [e0]
    have hP : DropPS w r g fr 0 0 C (.returned (.int .i64 0)) w := ⟨rfl, ⟨C, fr, h, rfl, rfl⟩, Frm.refl _ _⟩
    clear h hC hCm e0
    go_enter Try.func20, Try.ntmps20
    go_wp2
    go_ret
    exact hP
  · have hh := Lib.hid h
    have hn0 : 0 < n := by omega
    have hz : decide ((n : Int) = 0) = false := decide_eq_false (by omega)
    obtain ⟨k, hk⟩ : ∃ k : Nat, (min (max i 0) (n : Int)).toNat = k := ⟨_, rfl⟩
    have hkn : k ≤ n := by omega
    have hk' : min (max i 0) (n : Int) = (k : Int) := by omega
    rw [hk]
    clear h hk
    by_cases ha : i < 0
    · obtain rfl : k = 0 := by omega
      clear hk'
      go_enter Try.func20, Try.ntmps20
      go_wp2
      go_loopw [24] (fun j wr => ∃ m : Nat, m ≤ 0 ∧ j = .int .i64 m ∧ Hid (DropRS w r g fr n 0 C wr)) (fun j _ => 0 - (intOf j).toNat)
      case atStart => exact ⟨0, Nat.zero_le _, rfl, C, hh.out, rfl, rfl, Frm.refl _ _⟩
      case round =>
        obtain ⟨m, hmk, rfl, hD⟩ := hrel
        obtain ⟨D, hR, hDl, hDd, hDf⟩ := hD.out
        have hc0 := hR.c0
        have hc2 := hR.c2
        have hf1 := hR.f1
        have hf2 := hR.f2
        have hc1 := hR.c1
        have hne := hR.ne
        have hDm := hR.hm
        have hDn := hR.hn
        by_cases hlt : m < 0
        · skip
          exact absurd hlt (by omega)
        · have hme : m = 0 := by omega
          have hX := Lib.hid (fun W hW => dropS_end hR hDl hDd hDf hkn hn0 W hW)
          have hP := Lib.hid (placeS_any r g fr n D 0 wr hR (by omega) (by omega))
          have hmd : ¬ ((m : Int) < (0 : Int)) := by omega
          have e2 : IntKind.i64.wrap ((n : Int) - (0 : Int)) = ((n - 0 : Nat) : Int) := by rw [IntWalk.i64_in _ (by omega)]; omega
          clear hR hDd hDf hD hmk hlt hDl hme
          try simp only [Int.cast_ofNat_Int] at hP hX hmd e2
          go_wp2_with (go_at_call 24; (with_reducible refine hP.out.mono ?_); rintro e w4 ⟨rfl, m4, rfl⟩)
          go_ret
          first | exact hX.out _ (bdraws0 _ _) | (have h9 := hX.out (wr.drewN m4) (bdraws0 _ _); simp only [Nat.sub_self, Int.natCast_emod, Int.natCast_add, Int.cast_ofNat_Int] at h9; exact h9)
    · by_cases hb : i ≤ n
      · obtain rfl : i = k := by omega
        clear hk'
        go_enter Try.func20, Try.ntmps20
        go_wp2
        go_loopw [24] (fun j wr => ∃ m : Nat, m ≤ k ∧ j = .int .i64 m ∧ Hid (DropRS w r g fr n k C wr)) (fun j _ => k - (intOf j).toNat)
        case atStart => exact ⟨0, Nat.zero_le _, rfl, C, hh.out, rfl, rfl, Frm.refl _ _⟩
        case round =>
          obtain ⟨m, hmk, rfl, hD⟩ := hrel
          obtain ⟨D, hR, hDl, hDd, hDf⟩ := hD.out
          have hc0 := hR.c0
          have hc2 := hR.c2
          have hf1 := hR.f1
          have hf2 := hR.f2
          have hc1 := hR.c1
          have hne := hR.ne
          have hDm := hR.hm
          have hDn := hR.hn
          by_cases hlt : m < k
          · skip
            have hX := Lib.hid (fun W hW => dropS_round hR hDl hDd hDf hlt hkn W hW)
            have hzl : (fr + m) % D.length < D.length := Nat.mod_lt _ (by omega)
            have hP := Lib.hid (placeS_any r g fr n D m wr.drew (hR.below (Below.refl _ wr).drew) (by omega) (by omega))
            have hcell := hR.b _ hzl
            have hfree := hR.f _ hzl
            have hzl' := Lib.hid hzl
            have e2 : IntKind.i64.wrap ((m : Int) + 1) = ((m + 1 : Nat) : Int) := by rw [IntWalk.i64_in _ (by omega)]; omega
            have hlt' := Lib.hid hlt
            have hkn' := Lib.hid hkn
            have hmd : ((m : Int) < (k : Int)) := by omega
            clear hR hDd hDf hD hmk hDl
            generalize (fr + m) % D.length = z at *
            generalize D[z] = old at *
            go_wp2
            refine wp_region_held_drew (S := (fun w' : World => w'.cell? ⟨r, 0, none⟩ = some (.slice (some ⟨g, 0, none⟩) D.length D.length))) (by kernel_rfl) ?_ (fun hHeld => ?_)
            · first | exact bkeep (Below.refl _ wr).drew hc0 | exact bkeep (bdraws (Below.refl _ wr).drew _) hc0
            first | (refine tw (i := 0) (v := ?_) ?_ hHeld ?_; rotate_left; focus (intro w hSw; (try dsimp only at hSw); go_simp; (try with_reducible rfl); done)) | refine tn (i := 0) hHeld ?_
            try simp only [Act.put, List.setIfInBounds_toArray, List.set_cons_zero, List.set_cons_succ]
            first | (refine tw (i := 1) (v := ?_) ?_ hHeld ?_; rotate_left; focus (intro w hSw; (try dsimp only at hSw); go_simp; (try with_reducible rfl); done)) | refine tn (i := 1) hHeld ?_
            try simp only [Act.put, List.setIfInBounds_toArray, List.set_cons_zero, List.set_cons_succ]
            first | (refine tw (i := 2) (v := ?_) ?_ hHeld ?_; rotate_left; focus (intro w hSw; (try dsimp only at hSw); go_simp; (try with_reducible rfl); done)) | refine tn (i := 2) hHeld ?_
            try simp only [Act.put, List.setIfInBounds_toArray, List.set_cons_zero, List.set_cons_succ]
            first | (refine tw (i := 3) (v := ?_) ?_ hHeld ?_; rotate_left; focus (intro w hSw; (try dsimp only at hSw); go_simp; (try with_reducible rfl); done)) | refine tn (i := 3) hHeld ?_
            try simp only [Act.put, List.setIfInBounds_toArray, List.set_cons_zero, List.set_cons_succ]
            first | (refine tw (i := 4) (v := ?_) ?_ hHeld ?_; rotate_left; focus (intro w hSw; (try dsimp only at hSw); go_simp; (try with_reducible rfl); done)) | refine tn (i := 4) hHeld ?_
            try simp only [Act.put, List.setIfInBounds_toArray, List.set_cons_zero, List.set_cons_succ]
            first | (refine tw (i := 5) (v := ?_) ?_ hHeld ?_; rotate_left; focus (intro w hSw; (try dsimp only at hSw); go_simp; (try with_reducible rfl); done)) | refine tn (i := 5) hHeld ?_
            try simp only [Act.put, List.setIfInBounds_toArray, List.set_cons_zero, List.set_cons_succ]
            first | (refine tw (i := 7) (v := ?_) ?_ hHeld ?_; rotate_left; focus (intro w hSw; (try dsimp only at hSw); go_simp; (try with_reducible rfl); done)) | refine tn (i := 7) hHeld ?_
            try simp only [Act.put, List.setIfInBounds_toArray, List.set_cons_zero, List.set_cons_succ]
            refine call_next (i := 6) (by kernel_rfl) (by rfl) ?_
            intro o ho K hK
            simp only [List.getElem?_toArray, List.getElem?_cons_succ, List.getElem?_cons_zero, Option.some.injEq] at ho
            subst ho
            first | (fail; refine hK.out _ _ ?_ (fun hHeld => ?_)) | (go_simp; first | (with_reducible refine hK.out _ _ ?_ (fun hHeld => ?_)) | ((go_at_call 24; (with_reducible refine hP.out.mono ?_); rintro e w4 ⟨rfl, m4, rfl⟩); refine hK.out _ _ ?_ (fun hHeld => ?_)))
            · first | exact bkeep (Below.refl _ wr).drew hc0 | exact bkeep (bdraws (Below.refl _ wr).drew _) hc0
            clear hK K
            try simp only [Act.put, List.setIfInBounds_toArray, List.set_cons_zero, List.set_cons_succ]
            first | (refine tw (i := 8) (v := ?_) ?_ hHeld ?_; rotate_left; focus (intro w hSw; (try dsimp only at hSw); go_simp; (try with_reducible rfl); done)) | refine tn (i := 8) hHeld ?_
            try simp only [Act.put, List.setIfInBounds_toArray, List.set_cons_zero, List.set_cons_succ]
            refine call_next (i := 9) (by kernel_rfl) (by rfl) ?_
            intro o ho K hK
            simp only [List.getElem?_toArray, List.getElem?_cons_succ, List.getElem?_cons_zero, Option.some.injEq] at ho
            subst ho
            first | (fail; refine hK.out _ _ ?_ (fun hHeld => ?_)) | (go_simp; first | (with_reducible refine hK.out _ _ ?_ (fun hHeld => ?_)) | ((go_at_call 24; (with_reducible refine hP.out.mono ?_); rintro e w4 ⟨rfl, m4, rfl⟩); refine hK.out _ _ ?_ (fun hHeld => ?_)))
            · first | (with_reducible exact True.intro) | ((try simp only [World.cell?_drew] at *); repeat' (first | (with_reducible assumption) | (with_reducible refine And.intro ?_ ?_) | (refine cell_set_ne ?_ (by first | (simp; done) | (simp; omega))) | (refine bkeep (bdraws0 _ _) ?_; with_reducible assumption)))
            clear hK K
            try simp only [Act.put, List.setIfInBounds_toArray, List.set_cons_zero, List.set_cons_succ]
            refine wpAnyH_done (by kernel_rfl) ?_ _
            go_wp2
            exact ⟨⟨m + 1, by have := hlt'.out; omega, rfl, hX.out _ (by first | exact bdraws0 _ _ | exact bdraws (Below.refl _ _).drew _)⟩, by simp [intOf]; omega⟩
          · have hme : m = k := by omega
            have hX := Lib.hid (fun W hW => dropS_end hR hDl hDd hDf hkn hn0 W hW)
            have hP := Lib.hid (placeS_any r g fr n D k wr hR (by omega) (by omega))
            have hmd : ¬ ((m : Int) < (k : Int)) := by omega
            have e2 : IntKind.i64.wrap ((n : Int) - (k : Int)) = ((n - k : Nat) : Int) := by rw [IntWalk.i64_in _ (by omega)]; omega
            clear hR hDd hDf hD hmk hlt hDl hme
            try simp only [Int.cast_ofNat_Int] at hP hX hmd e2
            go_wp2_with (go_at_call 24; (with_reducible refine hP.out.mono ?_); rintro e w4 ⟨rfl, m4, rfl⟩)
            go_ret
            first | exact hX.out _ (bdraws0 _ _) | (have h9 := hX.out (wr.drewN m4) (bdraws0 _ _); simp only [Nat.sub_self, Int.natCast_emod, Int.natCast_add, Int.cast_ofNat_Int] at h9; exact h9)
      · have hkq : n = k := by omega
        subst hkq
        clear hk'
        go_enter Try.func20, Try.ntmps20
        go_wp2
        go_loopw [24] (fun j wr => ∃ m : Nat, m ≤ n ∧ j = .int .i64 m ∧ Hid (DropRS w r g fr n n C wr)) (fun j _ => n - (intOf j).toNat)
        case atStart => exact ⟨0, Nat.zero_le _, rfl, C, hh.out, rfl, rfl, Frm.refl _ _⟩
        case round =>
          obtain ⟨m, hmk, rfl, hD⟩ := hrel
          obtain ⟨D, hR, hDl, hDd, hDf⟩ := hD.out
          have hc0 := hR.c0
          have hc2 := hR.c2
          have hf1 := hR.f1
          have hf2 := hR.f2
          have hc1 := hR.c1
          have hne := hR.ne
          have hDm := hR.hm
          have hDn := hR.hn
          by_cases hlt : m < n
          · skip
            have hX := Lib.hid (fun W hW => dropS_round hR hDl hDd hDf hlt hkn W hW)
            have hzl : (fr + m) % D.length < D.length := Nat.mod_lt _ (by omega)
            have hP := Lib.hid (placeS_any r g fr n D m wr.drew (hR.below (Below.refl _ wr).drew) (by omega) (by omega))
            have hcell := hR.b _ hzl
            have hfree := hR.f _ hzl
            have hzl' := Lib.hid hzl
            have e2 : IntKind.i64.wrap ((m : Int) + 1) = ((m + 1 : Nat) : Int) := by rw [IntWalk.i64_in _ (by omega)]; omega
            have hlt' := Lib.hid hlt
            have hkn' := Lib.hid hkn
            have hmd : ((m : Int) < (n : Int)) := by omega
            clear hR hDd hDf hD hmk hDl
            generalize (fr + m) % D.length = z at *
            generalize D[z] = old at *
            go_wp2
            refine wp_region_held_drew (S := (fun w' : World => w'.cell? ⟨r, 0, none⟩ = some (.slice (some ⟨g, 0, none⟩) D.length D.length))) (by kernel_rfl) ?_ (fun hHeld => ?_)
            · first | exact bkeep (Below.refl _ wr).drew hc0 | exact bkeep (bdraws (Below.refl _ wr).drew _) hc0
            first | (refine tw (i := 0) (v := ?_) ?_ hHeld ?_; rotate_left; focus (intro w hSw; (try dsimp only at hSw); go_simp; (try with_reducible rfl); done)) | refine tn (i := 0) hHeld ?_
            try simp only [Act.put, List.setIfInBounds_toArray, List.set_cons_zero, List.set_cons_succ]
            first | (refine tw (i := 1) (v := ?_) ?_ hHeld ?_; rotate_left; focus (intro w hSw; (try dsimp only at hSw); go_simp; (try with_reducible rfl); done)) | refine tn (i := 1) hHeld ?_
            try simp only [Act.put, List.setIfInBounds_toArray, List.set_cons_zero, List.set_cons_succ]
            first | (refine tw (i := 2) (v := ?_) ?_ hHeld ?_; rotate_left; focus (intro w hSw; (try dsimp only at hSw); go_simp; (try with_reducible rfl); done)) | refine tn (i := 2) hHeld ?_
            try simp only [Act.put, List.setIfInBounds_toArray, List.set_cons_zero, List.set_cons_succ]
            first | (refine tw (i := 3) (v := ?_) ?_ hHeld ?_; rotate_left; focus (intro w hSw; (try dsimp only at hSw); go_simp; (try with_reducible rfl); done)) | refine tn (i := 3) hHeld ?_
            try simp only [Act.put, List.setIfInBounds_toArray, List.set_cons_zero, List.set_cons_succ]
            first | (refine tw (i := 4) (v := ?_) ?_ hHeld ?_; rotate_left; focus (intro w hSw; (try dsimp only at hSw); go_simp; (try with_reducible rfl); done)) | refine tn (i := 4) hHeld ?_
            try simp only [Act.put, List.setIfInBounds_toArray, List.set_cons_zero, List.set_cons_succ]
            first | (refine tw (i := 5) (v := ?_) ?_ hHeld ?_; rotate_left; focus (intro w hSw; (try dsimp only at hSw); go_simp; (try with_reducible rfl); done)) | refine tn (i := 5) hHeld ?_
            try simp only [Act.put, List.setIfInBounds_toArray, List.set_cons_zero, List.set_cons_succ]
            first | (refine tw (i := 7) (v := ?_) ?_ hHeld ?_; rotate_left; focus (intro w hSw; (try dsimp only at hSw); go_simp; (try with_reducible rfl); done)) | refine tn (i := 7) hHeld ?_
            try simp only [Act.put, List.setIfInBounds_toArray, List.set_cons_zero, List.set_cons_succ]
            refine call_next (i := 6) (by kernel_rfl) (by rfl) ?_
            intro o ho K hK
            simp only [List.getElem?_toArray, List.getElem?_cons_succ, List.getElem?_cons_zero, Option.some.injEq] at ho
            subst ho
            first | (fail; refine hK.out _ _ ?_ (fun hHeld => ?_)) | (go_simp; first | (with_reducible refine hK.out _ _ ?_ (fun hHeld => ?_)) | ((go_at_call 24; (with_reducible refine hP.out.mono ?_); rintro e w4 ⟨rfl, m4, rfl⟩); refine hK.out _ _ ?_ (fun hHeld => ?_)))
            · first | exact bkeep (Below.refl _ wr).drew hc0 | exact bkeep (bdraws (Below.refl _ wr).drew _) hc0
            clear hK K
            try simp only [Act.put, List.setIfInBounds_toArray, List.set_cons_zero, List.set_cons_succ]
            first | (refine tw (i := 8) (v := ?_) ?_ hHeld ?_; rotate_left; focus (intro w hSw; (try dsimp only at hSw); go_simp; (try with_reducible rfl); done)) | refine tn (i := 8) hHeld ?_
            try simp only [Act.put, List.setIfInBounds_toArray, List.set_cons_zero, List.set_cons_succ]
            refine call_next (i := 9) (by kernel_rfl) (by rfl) ?_
            intro o ho K hK
            simp only [List.getElem?_toArray, List.getElem?_cons_succ, List.getElem?_cons_zero, Option.some.injEq] at ho
            subst ho
            first | (fail; refine hK.out _ _ ?_ (fun hHeld => ?_)) | (go_simp; first | (with_reducible refine hK.out _ _ ?_ (fun hHeld => ?_)) | ((go_at_call 24; (with_reducible refine hP.out.mono ?_); rintro e w4 ⟨rfl, m4, rfl⟩); refine hK.out _ _ ?_ (fun hHeld => ?_)))
            · first | (with_reducible exact True.intro) | ((try simp only [World.cell?_drew] at *); repeat' (first | (with_reducible assumption) | (with_reducible refine And.intro ?_ ?_) | (refine cell_set_ne ?_ (by first | (simp; done) | (simp; omega))) | (refine bkeep (bdraws0 _ _) ?_; with_reducible assumption)))
            clear hK K
            try simp only [Act.put, List.setIfInBounds_toArray, List.set_cons_zero, List.set_cons_succ]
            refine wpAnyH_done (by kernel_rfl) ?_ _
            go_wp2
            exact ⟨⟨m + 1, by have := hlt'.out; omega, rfl, hX.out _ (by first | exact bdraws0 _ _ | exact bdraws (Below.refl _ _).drew _)⟩, by simp [intOf]; omega⟩
          · have hme : m = n := by omega
            have hX := Lib.hid (fun W hW => dropS_end hR hDl hDd hDf hkn hn0 W hW)
            have hP := Lib.hid (placeS_any r g fr n D n wr hR (by omega) (by omega))
            have hmd : ¬ ((m : Int) < (n : Int)) := by omega
            have e2 : IntKind.i64.wrap ((n : Int) - (n : Int)) = ((n - n : Nat) : Int) := by rw [IntWalk.i64_in _ (by omega)]; omega
            clear hR hDd hDf hD hmk hlt hDl hme
            try simp only [Int.cast_ofNat_Int] at hP hX hmd e2
            go_wp2_with (go_at_call 24; (with_reducible refine hP.out.mono ?_); rintro e w4 ⟨rfl, m4, rfl⟩)
            go_ret
            first | exact hX.out _ (bdraws0 _ _) | (have h9 := hX.out (wr.drewN m4) (bdraws0 _ _); simp only [Nat.sub_self, Int.natCast_emod, Int.natCast_add, Int.cast_ofNat_Int] at h9; exact h9)
end Go.Proofs.Ytjjhgpdacijlmaa
