/-
  The statement OwedOnce, walked.
-/
import Derived.Test.YtdaobfhkdbaklaaOwedOnce
import Derived.BigRegion
import Derived.BigQuiet
namespace Go.Proofs.Ytdaobfhkdbaklaa
open Go.RowKit
set_option linter.unusedVariables false
set_option linter.unusedSimpArgs false

theorem lenC_pos {W : World} {o h s gM many : Nat} {bs cs : List Nat} (H : OW W o h s gM many bs cs) (hz : ∀ j, j < many → bit bs j = false) : lenC cs = 0 := by
  unfold lenC
  apply List.sum_eq_zero_iff_forall_eq_nat.2
  intro x hx
  obtain ⟨y, hy, rfl⟩ := List.mem_map.1 hx
  obtain ⟨j, hj, rfl⟩ := List.getElem_of_mem hy
  have h1 := H.rel j hj
  rw [hz j (by have := H.len; omega)] at h1
  have h2 : cs[j] = 0 := by simpa using h1.symm
  rw [h2]; decide
theorem opay_pos {W : World} {o h s gM many : Nat} {bs cs : List Nat} (H : OW W o h s gM many bs cs) (f : Int) (hf : -9223372036854775808 ≤ f ∧ f ≤ 9223372036854775807) (hp : lenC cs ≠ 0) : ∃ p : Nat, ∃ hpl : p < cs.length, cs[p] ≠ 0 ∧ Calls Try.prog 8 #[.pointer (some ⟨o, 0, none⟩), .int .i64 f] W (OPayP W o h s gM many cs p) := by
  cases hn : (nextM bs many f).2 with
  | false => exact absurd (lenC_pos H (nextM_false bs many f hn).2) hp
  | true =>
    obtain ⟨p, h1, h2, h3⟩ := nextM_true bs many f hn
    have hpl : p < cs.length := by rw [H.len]; exact h2
    refine ⟨p, hpl, by have := H.rel p hpl; rw [h3] at this; simpa using this.symm, (opay_any o h s gM many bs cs f W H hf).mono ?_⟩
    rintro e w' (⟨h4, _⟩ | ⟨p', h4, h5⟩)
    · rw [hn] at h4; cases h4
    · rw [h1] at h4
      have : p = p' := by simp at h4; omega
      subst this
      exact h5
theorem opay_zero {W : World} {o h s gM many : Nat} {bs cs : List Nat} (H : OW W o h s gM many bs cs) (f : Int) (hf : -9223372036854775808 ≤ f ∧ f ≤ 9223372036854775807) (hp : lenC cs = 0) : Calls Try.prog 8 #[.pointer (some ⟨o, 0, none⟩), .int .i64 f] W (OPayN W o h s gM many bs cs) := by
  refine (opay_any o h s gM many bs cs f W H hf).mono ?_
  rintro e w' (⟨_, h1⟩ | ⟨p, h1, _⟩)
  · exact h1
  · obtain ⟨p', _, h2, h3⟩ := nextM_true bs many f (by rw [h1])
    have hpl : p' < cs.length := by rw [H.len]; exact h2
    have h4 := H.rel p' hpl
    rw [h3, lenC_zero cs H.lt hp _ (List.getElem_mem hpl)] at h4
    simp at h4
set_option maxRecDepth 100000 in
set_option maxHeartbeats 3200000 in
theorem walk_OwedOnce (many : Int) (um : (Lit.int .i64 many).wf = true) (a : Option Addr) (len cap : Nat) (l : List OOp) {w : World} (hl : IsList w a len 3 oopE oopOk l) (a2 : Option Addr) (len2 cap2 : Nat) (lf : List Int) (hlf : IsList w a2 len2 1 (intE .i64) (intOk .i64) lf) :
    Calls Try.prog 3 #[.int .i64 many, .slice a len cap, .slice a2 len2 cap2] w fun e w' => e = .returned (.bool true) ∧ Below w.heap.size w w' := by
  have hm := hl.most
  have hm2 := hlf.most
  have hbd := bounds_i64 um
  by_cases hbig : 200 < len
  · go_enter Try.func3, Try.ntmps3
    go_wp2_with (go_at_call 5; (with_reducible refine (oworks_any _).mono ?_); rintro e w1 ⟨rfl, hb1⟩)
    go_ret
    exact ⟨rfl, hb1⟩
  by_cases hbig2 : 200 < len2
  · go_enter Try.func3, Try.ntmps3
    go_wp2_with (go_at_call 5; (with_reducible refine (oworks_any _).mono ?_); rintro e w1 ⟨rfl, hb1⟩)
    go_ret
    exact ⟨rfl, hb1⟩
  have hlen := Lib.hid hl.size_eq
  have hlen2 := Lib.hid hlf.size_eq
  have hN := Lib.hid (fun w => onew_any many w hbd)
  have hzv : ∀ w, (zeroValue 28).run Try.prog w = .ok (Value.agg (Array.replicate 168 (.bool false))) w := fun _ => by kernel_rfl
  go_enter Try.func3, Try.ntmps3
  go_wp2_with (first | (go_at_call 5; (with_reducible refine (oworks_any _).mono ?_); rintro e w1 ⟨rfl, hb1⟩) | (go_at_call 6; (with_reducible refine (hN.out _).mono ?_); rintro e w2 ⟨o, h, s, gM, bs0, rfl, hO, ho, hh, hs, hg, hb2, hhw⟩))
  have h0 : OT w o h s gM w2.heap.size (nS (min many 24)) (List.replicate (nS (min many 24)) 0) (w2.alloc (.cells (Array.replicate 168 (.bool false)) 28)) := by
    have hA : Below w2.heap.size w2 (w2.alloc (.cells (Array.replicate 168 (.bool false)) 28)) := (Below.refl _ _).alloc (Nat.le_refl _) _
    have hb := bt hb1 hb2
    have h3 := World.block_lt_of_cell? w2 _ hO.c0
    have h4 := hO.m.lt
    have h5 := hO.m.hg
    have h6 := World.block_lt_of_cell? w2 _ hO.c1
    have hhl : h ≠ w2.heap.size := by omega
    exact ⟨⟨bs0, hO.below hA⟩, fun j hj => by
      have : ((List.replicate (nS (min many 24)) 0).getD (j / 7) 0).testBit (j % 7) = false := by
        rw [List.getD_eq_getElem?_getD, List.getElem?_replicate]
        split <;> simp
      rw [this]
      simp [go_sem, hj], fun j hj => by simp [go_sem], ⟨by simp at h3; omega, fun e => hhl e.symm, by omega, by omega⟩, ⟨by have := hb1.size; omega, by have := hb1.size; omega, by have := hb1.size; omega, by have := hb1.size; omega, hb.size⟩, bt hb hA⟩
  have hz0 : lenC (List.replicate (nS (min many 24)) 0) = 0 := by
    unfold lenC
    rw [List.map_replicate, show Lib.onesCount 0 = 0 from by decide]
    simp
  generalize List.replicate (nS (min many 24)) 0 = cs0 at *
  generalize nS (min many 24) = m at *
  clear hO hb1 hb2 ho hh hs hg hhw hN
  generalize (w2.alloc (.cells (Array.replicate 168 (.bool false)) 28)) = w3 at *
  generalize w2.heap.size = T at *
  have hbig : len ≤ 200 := by omega
  have hbig2 : len2 ≤ 200 := by omega
  go_loopw [9, 10] (fun n i wr => ∃ k : Nat, k ≤ len ∧ i = .int .i64 k ∧ ∃ cs, n = .int .i64 (lenC cs) ∧ lenC cs ≤ k ∧ Hid (OT w o h s gM T m cs wr)) (fun _ i _ => len - (intOf i).toNat)
  case atStart => exact ⟨0, Nat.zero_le _, rfl, cs0, by rw [hz0]; rfl, by omega, h0⟩
  case round =>
    obtain ⟨k, hk, rfl, cs, rfl, hck, hT⟩ := hrel
    by_cases hlt : k < len
    · obtain ⟨b, o', rfl, _⟩ := hl.at_ (by omega)
      have hk1 : k < l.length := by have := hlen.out; omega
      have hEl : ∀ W, Below w.heap.size w W → W.cell? ⟨b, o' + k * 3 + 1, none⟩ = some (.int .i64 l[k].e) ∧ W.cell? ⟨b, o' + k * 3 + 2, none⟩ = some (.int .i64 l[k].f) := fun W hW =>
        ⟨(hl.get hW (Nat.le_refl _) k hk1 1 (by decide) _ rfl).1, (hl.get hW (Nat.le_refl _) k hk1 2 (by decide) _ rfl).1⟩
      generalize l[k].e = x at *
      generalize l[k].f = y at *
      have h1d := hT.out.below (Below.refl _ wr).drew
      obtain ⟨bs, hw⟩ := h1d.ow
      have hP := oadd_any o h s gM m bs cs x y wr.drew hw
      have M1 := hEl _ h1d.be
      have hEl := Lib.hid hEl
      have h1d' := Lib.hid h1d
      cases hab : addB m cs x y with
      | false =>
        have hac : addC m cs x y = cs := by unfold addC; rw [hab]; rfl
        rw [hab, hac] at hP
        have hP := Lib.hid hP
        have hfin : ∀ w4, OT w o h s gM T m cs w4 → ∃ k' : Nat, k' ≤ len ∧ (.int .i64 ((k : Int) + 1) : Value) = .int .i64 k' ∧ ∃ cs', (.int .i64 (lenC cs) : Value) = .int .i64 (lenC cs') ∧ lenC cs' ≤ k' ∧ Hid (OT w o h s gM T m cs' w4) := fun w4 h4 => ⟨k + 1, by omega, by go_num, cs, rfl, by omega, h4⟩
        have hfin := Lib.hid hfin
        clear h1d hw hac hab hT
        go_wp2_with fail
        refine wp_region_held_drew (S := (fun w' : World => w'.cell? ⟨b, o' + k * 3 + 1, none⟩ = some (.int .i64 x) ∧ w'.cell? ⟨b, o' + k * 3 + 2, none⟩ = some (.int .i64 y))) (by kernel_rfl) ?_ (fun hHeld => ?_)
        · first | exact M1 | exact M4
        first | (refine tw (i := 0) (v := ?_) ?_ hHeld ?_; rotate_left; focus (intro w hSw; (try dsimp only at hSw); go_simp; (try with_reducible rfl); done)) | refine tn (i := 0) hHeld ?_
        try simp only [Act.put, List.setIfInBounds_toArray, List.set_cons_zero, List.set_cons_succ]
        first | (refine tw (i := 1) (v := ?_) ?_ hHeld ?_; rotate_left; focus (intro w hSw; (try dsimp only at hSw); go_simp; (try with_reducible rfl); done)) | refine tn (i := 1) hHeld ?_
        try simp only [Act.put, List.setIfInBounds_toArray, List.set_cons_zero, List.set_cons_succ]
        first | (refine tw (i := 2) (v := ?_) ?_ hHeld ?_; rotate_left; focus (intro w hSw; (try dsimp only at hSw); go_simp; (try with_reducible rfl); done)) | refine tn (i := 2) hHeld ?_
        try simp only [Act.put, List.setIfInBounds_toArray, List.set_cons_zero, List.set_cons_succ]
        first | (refine tw (i := 3) (v := ?_) ?_ hHeld ?_; rotate_left; focus (intro w hSw; (try dsimp only at hSw); go_simp; (try with_reducible rfl); done)) | refine tn (i := 3) hHeld ?_
        try simp only [Act.put, List.setIfInBounds_toArray, List.set_cons_zero, List.set_cons_succ]
        first | (refine tw (i := 4) (v := ?_) ?_ hHeld ?_; rotate_left; focus (intro w hSw; (try dsimp only at hSw); go_simp; (try with_reducible rfl); done)) | refine tn (i := 4) hHeld ?_
        try simp only [Act.put, List.setIfInBounds_toArray, List.set_cons_zero, List.set_cons_succ]
        first | (refine tw (i := 5) (v := ?_) ?_ hHeld ?_; rotate_left; focus (intro w hSw; (try dsimp only at hSw); go_simp; (try with_reducible rfl); done)) | refine tn (i := 5) hHeld ?_
        try simp only [Act.put, List.setIfInBounds_toArray, List.set_cons_zero, List.set_cons_succ]
        first | (refine tw (i := 6) (v := ?_) ?_ hHeld ?_; rotate_left; focus (intro w hSw; (try dsimp only at hSw); go_simp; (try with_reducible rfl); done)) | refine tn (i := 6) hHeld ?_
        try simp only [Act.put, List.setIfInBounds_toArray, List.set_cons_zero, List.set_cons_succ]
        first | (refine tw (i := 7) (v := ?_) ?_ hHeld ?_; rotate_left; focus (intro w hSw; (try dsimp only at hSw); go_simp; (try with_reducible rfl); done)) | refine tn (i := 7) hHeld ?_
        try simp only [Act.put, List.setIfInBounds_toArray, List.set_cons_zero, List.set_cons_succ]
        first | (refine tw (i := 8) (v := ?_) ?_ hHeld ?_; rotate_left; focus (intro w hSw; (try dsimp only at hSw); go_simp; (try with_reducible rfl); done)) | refine tn (i := 8) hHeld ?_
        try simp only [Act.put, List.setIfInBounds_toArray, List.set_cons_zero, List.set_cons_succ]
        first | (refine tw (i := 9) (v := ?_) ?_ hHeld ?_; rotate_left; focus (intro w hSw; (try dsimp only at hSw); go_simp; (try with_reducible rfl); done)) | refine tn (i := 9) hHeld ?_
        try simp only [Act.put, List.setIfInBounds_toArray, List.set_cons_zero, List.set_cons_succ]
        first | (refine tw (i := 10) (v := ?_) ?_ hHeld ?_; rotate_left; focus (intro w hSw; (try dsimp only at hSw); go_simp; (try with_reducible rfl); done)) | refine tn (i := 10) hHeld ?_
        try simp only [Act.put, List.setIfInBounds_toArray, List.set_cons_zero, List.set_cons_succ]
        refine call_next (i := 11) (by kernel_rfl) (by rfl) ?_
        intro o ho K hK
        simp only [List.getElem?_toArray, List.getElem?_cons_succ, List.getElem?_cons_zero, Option.some.injEq] at ho
        subst ho
        first | (fail; refine hK.out _ _ ?_ (fun hHeld => ?_)) | (go_simp; first | (with_reducible refine hK.out _ _ ?_ (fun hHeld => ?_)) | ((go_at_call 7; (with_reducible refine hP.out.mono ?_); rintro e w4 ⟨rfl, hx4, hf4⟩; have hT4 := h1d'.out.keep hx4 hf4; have M4 := hEl.out _ hT4.be); refine hK.out _ _ ?_ (fun hHeld => ?_)))
        · first | exact M1 | exact M4
        clear hK K
        try simp only [Act.put, List.setIfInBounds_toArray, List.set_cons_zero, List.set_cons_succ]
        refine wpAnyH_done (by kernel_rfl) ?_ _
        clear M1 M4
        go_wp2
        exact ⟨hfin.out _ hT4, by simp [intOf]; omega⟩
      | true =>
        obtain ⟨p, q, rfl, rfl, hp, hq1, hq6, hl1, hc1⟩ := add_law hw x y hab
        rw [hab] at hP
        generalize addC m cs p q = cs2 at *
        have hm24 := hw.h24
        have hP := Lib.hid hP
        have hj : p * 7 + q < 168 := by omega
        have hnT : ¬ (T = h ∨ T = gM ∨ (World.drew wr).heap.size ≤ T) := by have := h1d.ne; have := h1d.tlt; omega
        have hold := fun w4 (hf : Frm (fun k => k = h ∨ k = gM ∨ (World.drew wr).heap.size ≤ k) wr.drew w4) => (⟨hf.cell (p := ⟨T, p * 7 + q, none⟩) hnT (h1d.th _ hj), (hf.frozen (p := ⟨T, p * 7 + q, none⟩) hnT h1d.tlt).trans (h1d.tf _ hj), belowO h1d.be hf (fun k hk => by have := h1d.be.size; have := h1d.ge; omega)⟩ : _ ∧ _ ∧ _)
        have hstep := fun w4 (hw4 : ∃ bs, OW w4 o h s gM m bs cs2) hf W2 hb => h1d.step hw4 hf p q true (by omega) (by omega) hc1 W2 hb
        have hfin : ∀ w4, OT w o h s gM T m cs2 w4 → ∃ k' : Nat, k' ≤ len ∧ (.int .i64 ((k : Int) + 1) : Value) = .int .i64 k' ∧ ∃ cs', (.int .i64 ((lenC cs : Int) + 1) : Value) = .int .i64 (lenC cs') ∧ lenC cs' ≤ k' ∧ Hid (OT w o h s gM T m cs' w4) := fun w4 h4 => ⟨k + 1, by omega, by go_num, cs2, by rw [hl1]; rfl, by omega, h4⟩
        have hfin := Lib.hid hfin
        have hold := Lib.hid hold
        have hstep := Lib.hid hstep
        have d1 : decide ((p : Int) < 0) = false := decide_eq_false (by omega)
        have d2 : decide ((24 : Int) ≤ (p : Int)) = false := decide_eq_false (by omega)
        have d3 : decide ((q : Int) < 1) = false := decide_eq_false (by omega)
        have d4 : decide ((6 : Int) < (q : Int)) = false := decide_eq_false (by omega)
        have hck2 : lenC cs ≤ 200 := by omega
        clear h1d hw hab hT hc1 hl1
        generalize lenC cs = n0 at *
        have e1 : IntKind.i64.wrap ((n0 : Int) + 1) = (n0 : Int) + 1 := IntWalk.i64_in _ (by omega)
        go_wp2_with fail
        refine wp_region_held_drew (S := (fun w' : World => w'.cell? ⟨b, o' + k * 3 + 1, none⟩ = some (.int .i64 p) ∧ w'.cell? ⟨b, o' + k * 3 + 2, none⟩ = some (.int .i64 q))) (by kernel_rfl) ?_ (fun hHeld => ?_)
        · first | exact M1 | exact M4
        first | (refine tw (i := 0) (v := ?_) ?_ hHeld ?_; rotate_left; focus (intro w hSw; (try dsimp only at hSw); go_simp; (try with_reducible rfl); done)) | refine tn (i := 0) hHeld ?_
        try simp only [Act.put, List.setIfInBounds_toArray, List.set_cons_zero, List.set_cons_succ]
        first | (refine tw (i := 1) (v := ?_) ?_ hHeld ?_; rotate_left; focus (intro w hSw; (try dsimp only at hSw); go_simp; (try with_reducible rfl); done)) | refine tn (i := 1) hHeld ?_
        try simp only [Act.put, List.setIfInBounds_toArray, List.set_cons_zero, List.set_cons_succ]
        first | (refine tw (i := 2) (v := ?_) ?_ hHeld ?_; rotate_left; focus (intro w hSw; (try dsimp only at hSw); go_simp; (try with_reducible rfl); done)) | refine tn (i := 2) hHeld ?_
        try simp only [Act.put, List.setIfInBounds_toArray, List.set_cons_zero, List.set_cons_succ]
        first | (refine tw (i := 3) (v := ?_) ?_ hHeld ?_; rotate_left; focus (intro w hSw; (try dsimp only at hSw); go_simp; (try with_reducible rfl); done)) | refine tn (i := 3) hHeld ?_
        try simp only [Act.put, List.setIfInBounds_toArray, List.set_cons_zero, List.set_cons_succ]
        first | (refine tw (i := 4) (v := ?_) ?_ hHeld ?_; rotate_left; focus (intro w hSw; (try dsimp only at hSw); go_simp; (try with_reducible rfl); done)) | refine tn (i := 4) hHeld ?_
        try simp only [Act.put, List.setIfInBounds_toArray, List.set_cons_zero, List.set_cons_succ]
        first | (refine tw (i := 5) (v := ?_) ?_ hHeld ?_; rotate_left; focus (intro w hSw; (try dsimp only at hSw); go_simp; (try with_reducible rfl); done)) | refine tn (i := 5) hHeld ?_
        try simp only [Act.put, List.setIfInBounds_toArray, List.set_cons_zero, List.set_cons_succ]
        first | (refine tw (i := 6) (v := ?_) ?_ hHeld ?_; rotate_left; focus (intro w hSw; (try dsimp only at hSw); go_simp; (try with_reducible rfl); done)) | refine tn (i := 6) hHeld ?_
        try simp only [Act.put, List.setIfInBounds_toArray, List.set_cons_zero, List.set_cons_succ]
        first | (refine tw (i := 7) (v := ?_) ?_ hHeld ?_; rotate_left; focus (intro w hSw; (try dsimp only at hSw); go_simp; (try with_reducible rfl); done)) | refine tn (i := 7) hHeld ?_
        try simp only [Act.put, List.setIfInBounds_toArray, List.set_cons_zero, List.set_cons_succ]
        first | (refine tw (i := 8) (v := ?_) ?_ hHeld ?_; rotate_left; focus (intro w hSw; (try dsimp only at hSw); go_simp; (try with_reducible rfl); done)) | refine tn (i := 8) hHeld ?_
        try simp only [Act.put, List.setIfInBounds_toArray, List.set_cons_zero, List.set_cons_succ]
        first | (refine tw (i := 9) (v := ?_) ?_ hHeld ?_; rotate_left; focus (intro w hSw; (try dsimp only at hSw); go_simp; (try with_reducible rfl); done)) | refine tn (i := 9) hHeld ?_
        try simp only [Act.put, List.setIfInBounds_toArray, List.set_cons_zero, List.set_cons_succ]
        first | (refine tw (i := 10) (v := ?_) ?_ hHeld ?_; rotate_left; focus (intro w hSw; (try dsimp only at hSw); go_simp; (try with_reducible rfl); done)) | refine tn (i := 10) hHeld ?_
        try simp only [Act.put, List.setIfInBounds_toArray, List.set_cons_zero, List.set_cons_succ]
        refine call_next (i := 11) (by kernel_rfl) (by rfl) ?_
        intro o ho K hK
        simp only [List.getElem?_toArray, List.getElem?_cons_succ, List.getElem?_cons_zero, Option.some.injEq] at ho
        subst ho
        first | (fail; refine hK.out _ _ ?_ (fun hHeld => ?_)) | (go_simp; first | (with_reducible refine hK.out _ _ ?_ (fun hHeld => ?_)) | ((go_at_call 7; (with_reducible refine hP.out.mono ?_); rintro e w4 ⟨rfl, hx4, hf4⟩; obtain ⟨q1, q2, q3⟩ := hold.out _ hf4; have M4 := hEl.out _ q3); refine hK.out _ _ ?_ (fun hHeld => ?_)))
        · first | exact M1 | exact M4
        clear hK K
        try simp only [Act.put, List.setIfInBounds_toArray, List.set_cons_zero, List.set_cons_succ]
        refine wpAnyH_done (by kernel_rfl) ?_ _
        clear M1
        obtain ⟨m1, m2⟩ := M4
        go_wp2
        go_region
        go_wp2
        exact ⟨hfin.out _ (hstep.out _ hx4 hf4 w4.drew (Below.refl _ _).drew), by simp [intOf]; omega⟩
    · have hd : ¬ ((k : Int) < (len : Int)) := by omega
      obtain ⟨n, hn⟩ : ∃ n, lenC cs = n := ⟨_, rfl⟩
      rw [hn] at hck
      have hn200 : n ≤ 200 := by omega
      have hT0 := hT.out
      have hT1 : ∃ cs', lenC cs' + 0 = n ∧ Hid (OT w o h s gM T m cs' wr) := ⟨cs, hn, hT⟩
      try rw [hn]
      clear hT hT0 hn h0 hz0 hck
      go_wp2
      go_loopw [11] (fun i wr => ∃ j : Nat, j ≤ n ∧ i = .int .i64 j ∧ ∃ cs', lenC cs' + j = n ∧ Hid (OT w o h s gM T m cs' wr)) (fun i _ => n - (intOf i).toNat)
      case atStart => exact ⟨0, Nat.zero_le _, rfl, hT1⟩
      case round =>
        obtain ⟨j, hj, rfl, cs', hcj, hT⟩ := hrel
        obtain ⟨bs, hw⟩ := hT.out.ow
        by_cases hjn : j < n
        · have hjd : ((j : Int) < (n : Int)) := by omega
          by_cases hjf : j < len2
          · obtain ⟨b2, o2, rfl, _⟩ := hlf.at_ (by omega)
            have hj1 : j < lf.length := by have := hlen2.out; omega
            have g0 := (hlf.get hT.out.be (Nat.le_refl _) j hj1 0 (by decide) _ rfl).1
            have hbf := bounds_i64 (hlf.ok_at j hj1)
            rw [Nat.mul_one] at g0
            generalize lf[j] = f at *
            have g0 : wr.cell? ⟨b2, o2 + j, none⟩ = some (.int .i64 f) := g0
            have hjf2 : ((j : Int) < (len2 : Int)) := by omega
            obtain ⟨p, hpl, hne, hP⟩ := opay_pos hw f hbf (by omega)
            obtain ⟨k1, k2, k3, k4, k5⟩ := pay_law hw p hpl hne
            have hpm : p < 24 := by have := hw.len; have := hw.h24; omega
            have hj168 : p * 7 + tzK (cs'.getD p 0) < 168 := by omega
            have hnT : ¬ (T = h ∨ T = gM ∨ wr.heap.size ≤ T) := by have := hT.out.ne; have := hT.out.tlt; omega
            have hT' := hT.out
            have htt := hT'.th _ hj168
            rw [show (p * 7 + tzK (cs'.getD p 0)) / 7 = p by omega, show (p * 7 + tzK (cs'.getD p 0)) % 7 = tzK (cs'.getD p 0) by omega, k3] at htt
            have hold := fun w4 (hf : Frm (fun k => k = h ∨ k = gM ∨ wr.heap.size ≤ k) wr w4) => (⟨hf.cell (p := ⟨T, p * 7 + tzK (cs'.getD p 0), none⟩) hnT htt, (hf.frozen (p := ⟨T, p * 7 + tzK (cs'.getD p 0), none⟩) hnT hT'.tlt).trans (hT'.tf _ hj168)⟩ : _ ∧ _)
            have hfin : ∀ w4, (∃ bs, OW w4 o h s gM m bs (cs'.set p (offC (cs'.getD p 0)))) → Frm (fun k => k = h ∨ k = gM ∨ wr.heap.size ≤ k) wr w4 → ∃ j' : Nat, j' ≤ n ∧ (.int .i64 ((j : Int) + 1) : Value) = .int .i64 j' ∧ ∃ cs2, lenC cs2 + j' = n ∧ Hid (OT w o h s gM T m cs2 (w4.setCell ⟨T, p * 7 + tzK (cs'.getD p 0), none⟩ (.bool false))) := fun w4 hw4 hf => ⟨j + 1, by omega, by go_num, _, by omega, hT'.step hw4 hf p _ false hpm (by omega) k5 w4 (Below.refl _ _)⟩
            have hfin := Lib.hid hfin
            have hold := Lib.hid hold
            have hP := Lib.hid hP
            clear hT' hT htt hw k3 k4 k5 hne
            have hpl' := Lib.hid hpl
            clear hpl
            unfold OPayP at hP
            generalize tzK (cs'.getD p 0) = kz at *
            have d1 : decide ((p : Int) < 0) = false := decide_eq_false (by omega)
            have d2 : decide ((24 : Int) ≤ (p : Int)) = false := decide_eq_false (by omega)
            have d3 : decide ((kz : Int) < 1) = false := decide_eq_false (by omega)
            have d4 : decide ((6 : Int) < (kz : Int)) = false := decide_eq_false (by omega)
            go_wp2_with (go_at_call 8; (with_reducible refine hP.out.mono ?_); rintro e w4 ⟨rfl, hx4, hf4⟩; obtain ⟨q1, q2⟩ := hold.out _ hf4)
            exact ⟨hfin.out _ hx4 hf4, by simp [intOf]; omega⟩
          · have hjf2 : ¬ ((j : Int) < (len2 : Int)) := by omega
            obtain ⟨p, hpl, hne, hP⟩ := opay_pos hw 0 (by decide) (by omega)
            obtain ⟨k1, k2, k3, k4, k5⟩ := pay_law hw p hpl hne
            have hpm : p < 24 := by have := hw.len; have := hw.h24; omega
            have hj168 : p * 7 + tzK (cs'.getD p 0) < 168 := by omega
            have hnT : ¬ (T = h ∨ T = gM ∨ wr.heap.size ≤ T) := by have := hT.out.ne; have := hT.out.tlt; omega
            have hT' := hT.out
            have htt := hT'.th _ hj168
            rw [show (p * 7 + tzK (cs'.getD p 0)) / 7 = p by omega, show (p * 7 + tzK (cs'.getD p 0)) % 7 = tzK (cs'.getD p 0) by omega, k3] at htt
            have hold := fun w4 (hf : Frm (fun k => k = h ∨ k = gM ∨ wr.heap.size ≤ k) wr w4) => (⟨hf.cell (p := ⟨T, p * 7 + tzK (cs'.getD p 0), none⟩) hnT htt, (hf.frozen (p := ⟨T, p * 7 + tzK (cs'.getD p 0), none⟩) hnT hT'.tlt).trans (hT'.tf _ hj168)⟩ : _ ∧ _)
            have hfin : ∀ w4, (∃ bs, OW w4 o h s gM m bs (cs'.set p (offC (cs'.getD p 0)))) → Frm (fun k => k = h ∨ k = gM ∨ wr.heap.size ≤ k) wr w4 → ∃ j' : Nat, j' ≤ n ∧ (.int .i64 ((j : Int) + 1) : Value) = .int .i64 j' ∧ ∃ cs2, lenC cs2 + j' = n ∧ Hid (OT w o h s gM T m cs2 (w4.setCell ⟨T, p * 7 + tzK (cs'.getD p 0), none⟩ (.bool false))) := fun w4 hw4 hf => ⟨j + 1, by omega, by go_num, _, by omega, hT'.step hw4 hf p _ false hpm (by omega) k5 w4 (Below.refl _ _)⟩
            have hfin := Lib.hid hfin
            have hold := Lib.hid hold
            have hP := Lib.hid hP
            clear hT' hT htt hw k3 k4 k5 hne
            have hpl' := Lib.hid hpl
            clear hpl
            unfold OPayP at hP
            generalize tzK (cs'.getD p 0) = kz at *
            have d1 : decide ((p : Int) < 0) = false := decide_eq_false (by omega)
            have d2 : decide ((24 : Int) ≤ (p : Int)) = false := decide_eq_false (by omega)
            have d3 : decide ((kz : Int) < 1) = false := decide_eq_false (by omega)
            have d4 : decide ((6 : Int) < (kz : Int)) = false := decide_eq_false (by omega)
            go_wp2_with (go_at_call 8; (with_reducible refine hP.out.mono ?_); rintro e w4 ⟨rfl, hx4, hf4⟩; obtain ⟨q1, q2⟩ := hold.out _ hf4)
            exact ⟨hfin.out _ hx4 hf4, by simp [intOf]; omega⟩
        · have hjd : ¬ ((j : Int) < (n : Int)) := by omega
          have hz : lenC cs' = 0 := by omega
          have hP := Lib.hid (opay_zero hw 0 (by decide) hz)
          have hbe := hT.out.be
          have hL : ∀ w4, OW w4 o h s gM m bs cs' → Calls Try.prog 9 #[.pointer (some ⟨o, 0, none⟩)] w4 fun e w' => e = .returned (.int .i64 0) ∧ w4 = w' := fun w4 h4 => by
            have := olen_any o h s gM m bs cs' w4 h4
            rw [hz] at this
            exact this
          have hL := Lib.hid hL
          clear hw hT
          go_wp2_with (first | (go_at_call 8; (with_reducible refine hP.out.mono ?_); rintro e w4 ⟨rfl, hw4, hb4⟩) | (go_at_call 9; (with_reducible refine (hL.out _ hw4).mono ?_); rintro e w5 ⟨rfl, rfl⟩))
          go_ret
          exact ⟨rfl, bt hbe hb4⟩
end Go.Proofs.Ytdaobfhkdbaklaa
