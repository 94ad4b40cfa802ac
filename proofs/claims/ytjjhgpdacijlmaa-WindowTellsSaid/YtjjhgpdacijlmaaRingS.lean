/-
  A ring of texts: its functions walked.
-/
import Derived.Test.YtjjhgpdacijlmaaRows
import Derived.Test.YtjjhgpdacijlmaaRing
import Derived.Test.YtjjhgpdacijlmaaDraw
import Derived.WalkKit
import Derived.BigQuiet
import Derived.IntWalk
namespace Go.Proofs.Ytjjhgpdacijlmaa
open Go.RowKit
set_option linter.unusedVariables false
set_option linter.unusedSimpArgs false

abbrev RGS := RG (α := ByteArray) Value.string
abbrev LS (C : List ByteArray) (fr n : Nat) : List ByteArray := rgL (⟨#[]⟩ : ByteArray) C fr n
def zCS (most : Int) : List ByteArray := List.replicate (nR most) (⟨#[]⟩ : ByteArray)
def NewSP (w : World) (most : Int) (e : Ending) (w' : World) : Prop := ∃ r g, e = .returned (.pointer (some ⟨r, 0, none⟩)) ∧ RGS w' r g 0 0 (zCS most) ∧ w.heap.size ≤ r ∧ w.heap.size ≤ g ∧ Below w.heap.size w w'
theorem newS_post (w : World) (most : Int) (n : Nat) (hn : n = nR most) :
    NewSP w most (.returned (.pointer (some ⟨w.heap.size + 1, 0, none⟩))) ((w.alloc (.cells (madeCells #[.string ⟨#[]⟩] n) 9)).alloc (.cells #[.slice (some ⟨w.heap.size, 0, none⟩) n n, .int .i64 0, .int .i64 0] 59)) := by
  have hl : (zCS most).length = n := by simp [zCS, hn]
  have hA : Below (w.alloc (.cells (madeCells #[.string ⟨#[]⟩] n) 9)).heap.size (w.alloc (.cells (madeCells #[.string ⟨#[]⟩] n) 9)) ((w.alloc (.cells (madeCells #[.string ⟨#[]⟩] n) 9)).alloc (.cells #[.slice (some ⟨w.heap.size, 0, none⟩) n n, .int .i64 0, .int .i64 0] 59)) := (Below.refl _ _).alloc (Nat.le_refl _) _
  refine ⟨w.heap.size + 1, w.heap.size, rfl, ⟨by rw [hl]; simp [go_sem], by simp [go_sem], by simp [go_sem], by simp [go_sem], by simp [go_sem], ?_, ?_, by omega, Nat.zero_le _, by rw [hl, hn]; unfold nR; omega, Nat.zero_le _, fun h => h, by simp; omega⟩, by omega, by omega, ((Below.refl _ w).alloc (Nat.le_refl _) _).alloc (by simp) _⟩
  · intro j hj
    have e : (zCS most)[j] = (⟨#[]⟩ : ByteArray) := by simp [zCS]
    rw [e]
    exact bkeep hA (made_cell w 9 (.string ⟨#[]⟩) n j (by omega))
  · intro j hj
    exact bfree hA (made_cell w 9 (.string ⟨#[]⟩) n j (by omega)) (made_free _ _ _ _ _)
theorem newS_any (most : Int) (w : World) (hm : -9223372036854775808 ≤ most ∧ most ≤ 9223372036854775807) : Calls Try.prog 17 #[.int .i64 most] w (NewSP w most) := by
  have mk := fun (n : Nat) (k : Int) (hk : k = n) (h : n ≤ 1000) => mk_full (P := Try.prog) 27 9 (.string ⟨#[]⟩) 16 Try.underlying27 (by kernel_rfl) rfl n k hk (by omega) (by omega)
  by_cases h1 : 1000 < most
  · have hp := newS_post w most 1000 (by unfold nR; omega)
    have hmk := mk 1000 1000 rfl (by omega)
    clear mk
    go_enter Try.func17, Try.ntmps17
    go_wp2
    go_ret
    exact hp
  · by_cases h2 : most < 0
    · have hp := newS_post w most 0 (by unfold nR; omega)
      have hmk := mk 0 0 rfl (by omega)
      clear mk
      go_enter Try.func17, Try.ntmps17
      go_wp2
      go_ret
      exact hp
    · obtain ⟨n, rfl⟩ : ∃ n : Nat, most = n := ⟨most.toNat, by omega⟩
      have hp := newS_post w n n (by unfold nR; omega)
      have hmk := mk n n rfl (by omega)
      clear mk
      go_enter Try.func17, Try.ntmps17
      go_wp2
      go_ret
      exact hp
theorem placeS_any (r g fr n : Nat) (C : List ByteArray) (i : Nat) (w : World) (h : RGS w r g fr n C) (hc : 0 < C.length) (hi : i ≤ 1000) : Calls Try.prog 24 #[.pointer (some ⟨r, 0, none⟩), .int .i64 i] w fun e w' => e = .returned (.int .i64 ((fr + i) % C.length : Nat)) ∧ ∃ n, w' = w.drewN n := by
  have hc0 := h.c0
  have hc1 := h.c1
  have hm := h.hm
  have hf := h.hf
  obtain ⟨m, hmm⟩ : ∃ m, C.length = m := ⟨_, rfl⟩
  rw [hmm] at hc0 hc hm hf ⊢
  have e1 : IntKind.i64.wrap ((fr : Int) + (i : Int)) = ((fr + i : Nat) : Int) := by rw [IntWalk.i64_in _ (by omega)]; omega
  have e2 : (((fr + i : Nat) : Int)).tmod (m : Int) = (((fr + i) % m : Nat) : Int) := by
    rw [Int.tmod_eq_emod_of_nonneg (by omega)]; exact (Int.natCast_emod _ _).symm
  have e3 : ((fr + i) % m : Nat) < m := Nat.mod_lt _ hc
  have e3' := Lib.hid e3
  generalize (fr + i) % m = z at *
  generalize ((fr + i : Nat) : Int) = y at *
  have e4 : IntKind.i64.wrap (z : Int) = (z : Int) := IntWalk.i64_in _ (by omega)
  go_enter Try.func24, Try.ntmps24
  go_wp2
  go_quiet (fail)
  go_wp2
  go_ret
  exact ⟨rfl, _, rfl⟩
/-- what Push answers -/
theorem pushS_ok (r g fr n : Nat) (C : List ByteArray) (x : ByteArray) (w : World) (h : RGS w r g fr n C) (hn : n < C.length) : Calls Try.prog 19 #[.pointer (some ⟨r, 0, none⟩), .string x] w fun e w' =>
    e = .returned (.int .i64 0) ∧ RGS w' r g fr (n + 1) (C.set ((fr + n) % C.length) x) ∧ Frm (fun k => k = r ∨ k = g) w w' := by
  have hc0 := h.c0
  have hc2 := h.c2
  have hm := h.hm
  have hf2 := h.f2
  have hlt : (fr + n) % C.length < C.length := Nat.mod_lt _ (by omega)
  have hP := Lib.hid (fun w (h : RGS w r g fr n C) => placeS_any r g fr n C n w h (by omega) (by omega))
  have hcell := h.b _ hlt
  have hfree := h.f _ hlt
  have hne := h.ne
  have hd : decide (n = C.length) = false := decide_eq_false (by omega)
  have HX : ∀ a, RGS (((w.drewN a).setCell ⟨g, (fr + n) % C.length, none⟩ (Value.string x)).setCell ⟨r, 2, none⟩ (.int .i64 ((n + 1 : Nat) : Int))) r g fr (n + 1) (C.set ((fr + n) % C.length) x) ∧ Frm (fun k => k = r ∨ k = g) w (((w.drewN a).setCell ⟨g, (fr + n) % C.length, none⟩ (Value.string x)).setCell ⟨r, 2, none⟩ (.int .i64 ((n + 1 : Nat) : Int))) := by
    intro a
    have h1 := (h.below (bdraws0 w a)).put _ hlt x
    refine ⟨h1.setN (n + 1) (by rw [List.length_set]; omega), ?_⟩
    exact ((Frm.refl _ w).drewN a).trans (((Frm.one _ g _ _).mono fun k _ => .inr).trans ((Frm.one _ r 2 _).mono fun k _ => .inl))
  have HX := Lib.hid HX
  have hh := Lib.hid h
  generalize (fr + n) % C.length = z at *
  generalize C[z] = old at *
  have hlen := Lib.hid hlt
  go_enter Try.func19, Try.ntmps19
  go_wp2
  go_quiet (fail)
  go_wp2
  refine wp_region_held_drew (S := (fun w' : World => w'.cell? ⟨r, 0, none⟩ = some (.slice (some ⟨g, 0, none⟩) C.length C.length) ∧ w'.cell? ⟨r, 2, none⟩ = some (.int .i64 n))) (by kernel_rfl) ?_ (fun hHeld => ?_)
  · first | exact ⟨bkeep (bdraws0 w _) hc0, bkeep (bdraws0 w _) hc2⟩ | exact ⟨bkeep (bdraws (bdraws0 w _) _) hc0, bkeep (bdraws (bdraws0 w _) _) hc2⟩
  first | (refine tw (i := 0) (v := ?_) ?_ hHeld ?_; rotate_left; focus (intro w hSw; (try dsimp only at hSw); go_simp; (try with_reducible rfl); done)) | refine tn (i := 0) hHeld ?_
  try simp only [Act.put, List.setIfInBounds_toArray, List.set_cons_zero, List.set_cons_succ]
  first | (refine tw (i := 1) (v := ?_) ?_ hHeld ?_; rotate_left; focus (intro w hSw; (try dsimp only at hSw); go_simp; (try with_reducible rfl); done)) | refine tn (i := 1) hHeld ?_
  try simp only [Act.put, List.setIfInBounds_toArray, List.set_cons_zero, List.set_cons_succ]
  first | (refine tw (i := 2) (v := ?_) ?_ hHeld ?_; rotate_left; focus (intro w hSw; (try dsimp only at hSw); go_simp; (try with_reducible rfl); done)) | refine tn (i := 2) hHeld ?_
  try simp only [Act.put, List.setIfInBounds_toArray, List.set_cons_zero, List.set_cons_succ]
  first | (refine tw (i := 3) (v := ?_) ?_ hHeld ?_; rotate_left; focus (intro w hSw; (try dsimp only at hSw); go_simp; (try with_reducible rfl); done)) | refine tn (i := 3) hHeld ?_
  try simp only [Act.put, List.setIfInBounds_toArray, List.set_cons_zero, List.set_cons_succ]
  first | (refine tw (i := 4) (v := ?_) ?_ hHeld ?_; rotate_left; focus (intro w hSw; (try dsimp only at hSw); go_simp; (try with_reducible rfl); done)) | refine tn (i := 4) hHeld ?_
  try simp only [Act.put, List.setIfInBounds_toArray, List.set_cons_zero, List.set_cons_succ]
  first | (refine tw (i := 5) (v := ?_) ?_ hHeld ?_; rotate_left; focus (intro w hSw; (try dsimp only at hSw); go_simp; (try with_reducible rfl); done)) | refine tn (i := 5) hHeld ?_
  try simp only [Act.put, List.setIfInBounds_toArray, List.set_cons_zero, List.set_cons_succ]
  first | (refine tw (i := 6) (v := ?_) ?_ hHeld ?_; rotate_left; focus (intro w hSw; (try dsimp only at hSw); go_simp; (try with_reducible rfl); done)) | refine tn (i := 6) hHeld ?_
  try simp only [Act.put, List.setIfInBounds_toArray, List.set_cons_zero, List.set_cons_succ]
  first | (refine tw (i := 7) (v := ?_) ?_ hHeld ?_; rotate_left; focus (intro w hSw; (try dsimp only at hSw); go_simp; (try with_reducible rfl); done)) | refine tn (i := 7) hHeld ?_
  try simp only [Act.put, List.setIfInBounds_toArray, List.set_cons_zero, List.set_cons_succ]
  first | (refine tw (i := 8) (v := ?_) ?_ hHeld ?_; rotate_left; focus (intro w hSw; (try dsimp only at hSw); go_simp; (try with_reducible rfl); done)) | refine tn (i := 8) hHeld ?_
  try simp only [Act.put, List.setIfInBounds_toArray, List.set_cons_zero, List.set_cons_succ]
  first | (refine tw (i := 10) (v := ?_) ?_ hHeld ?_; rotate_left; focus (intro w hSw; (try dsimp only at hSw); go_simp; (try with_reducible rfl); done)) | refine tn (i := 10) hHeld ?_
  try simp only [Act.put, List.setIfInBounds_toArray, List.set_cons_zero, List.set_cons_succ]
  refine call_next (i := 9) (by kernel_rfl) (by rfl) ?_
  intro o ho K hK
  simp only [List.getElem?_toArray, List.getElem?_cons_succ, List.getElem?_cons_zero, Option.some.injEq] at ho
  subst ho
  first | (fail; refine hK.out _ _ ?_ (fun hHeld => ?_)) | (go_simp; first | (with_reducible refine hK.out _ _ ?_ (fun hHeld => ?_)) | ((go_at_call 24; (with_reducible refine (hP.out _ (hh.out.below (bdraws0 w _))).mono ?_); rintro e w4 ⟨rfl, m, rfl⟩); refine hK.out _ _ ?_ (fun hHeld => ?_)))
  · first | exact ⟨bkeep (bdraws0 w _) hc0, bkeep (bdraws0 w _) hc2⟩ | exact ⟨bkeep (bdraws (bdraws0 w _) _) hc0, bkeep (bdraws (bdraws0 w _) _) hc2⟩
  clear hK K
  try simp only [Act.put, List.setIfInBounds_toArray, List.set_cons_zero, List.set_cons_succ]
  first | (refine tw (i := 11) (v := ?_) ?_ hHeld ?_; rotate_left; focus (intro w hSw; (try dsimp only at hSw); go_simp; (try with_reducible rfl); done)) | refine tn (i := 11) hHeld ?_
  try simp only [Act.put, List.setIfInBounds_toArray, List.set_cons_zero, List.set_cons_succ]
  refine call_next (i := 12) (by kernel_rfl) (by rfl) ?_
  intro o ho K hK
  simp only [List.getElem?_toArray, List.getElem?_cons_succ, List.getElem?_cons_zero, Option.some.injEq] at ho
  subst ho
  first | (fail; refine hK.out _ _ ?_ (fun hHeld => ?_)) | (go_simp; first | (with_reducible refine hK.out _ _ ?_ (fun hHeld => ?_)) | ((go_at_call 24; (with_reducible refine (hP.out _ (hh.out.below (bdraws0 w _))).mono ?_); rintro e w4 ⟨rfl, m, rfl⟩); refine hK.out _ _ ?_ (fun hHeld => ?_)))
  · first | (with_reducible exact True.intro) | ((try simp only [World.cell?_drew] at *); repeat' (first | (with_reducible assumption) | (with_reducible refine And.intro ?_ ?_) | (refine cell_set_ne ?_ (by first | (simp; done) | (simp; omega))) | (refine bkeep (bdraws0 _ _) ?_; with_reducible assumption)))
  clear hK K
  try simp only [Act.put, List.setIfInBounds_toArray, List.set_cons_zero, List.set_cons_succ]
  refine wpAnyH_done (by kernel_rfl) ?_ _
  have e1 : IntKind.i64.wrap ((n : Int) + 1) = ((n + 1 : Nat) : Int) := by rw [IntWalk.i64_in _ (by omega)]; omega
  go_wp2
  go_ret
  exact ⟨rfl, HX.out _⟩
end Go.Proofs.Ytjjhgpdacijlmaa
