/-
  The statement MarksDoes.
-/
import Derived.Test.YtlgbimpbdofloaaMarksDoes1
import Derived.Test.YtlgbimpbdofloaaDraw
namespace Go.Proofs.Ytlgbimpbdofloaa
open Go.RowKit
set_option linter.unusedVariables false
set_option linter.unusedSimpArgs false

structure MOp where
  k : Int
  n : Int
def mopE (x : MOp) : List Value := [.int .i64 x.k, .int .i64 x.n]
def mopOk (x : MOp) : Prop := (Lit.int .i64 x.k).wf = true ∧ (Lit.int .i64 x.n).wf = true
instance : Inhabited MOp := ⟨⟨0, 0⟩⟩
theorem mop_of (vs : List Value) (h : OKs [LK.int .i64, LK.int .i64] vs) : ∃ x, vs = mopE x ∧ mopOk x := by
  obtain ⟨c0, r0, rfl, h0, h⟩ := OKs.cons h
  obtain ⟨c1, r1, rfl, h1, h⟩ := OKs.cons h
  obtain rfl := OKs.nil h
  obtain ⟨a0, rfl, w0⟩ := h0
  obtain ⟨a1, rfl, w1⟩ := h1
  exact ⟨⟨a0, a1⟩, rfl, w0, w1⟩
def MD1 (s gM q many len : Nat) (w : World) (i : Value) (wr : World) : Prop := ∃ k : Nat, k ≤ len ∧ i = .int .i64 k ∧ ∃ bs, MSx s gM q many w bs wr
theorem MSx.mst {s gM q many : Nat} {w w1 : World} {bs : List Nat} (h : MSx s gM q many w bs w1) : ∃ gb cap bl, MST s gM q gb cap many w bs bl w1 := h
set_option maxRecDepth 100000 in
set_option maxHeartbeats 3200000 in
theorem walk_MarksDoes (most : Int) (um : (Lit.int .i64 most).wf = true) (a : Option Addr) (len cap : Nat) (l : List MOp) {w : World} (hl : IsList w a len 2 mopE mopOk l) :
    Calls Try.prog 5 #[.int .i64 most, .slice a len cap] w fun e w' => e = .returned (.bool true) ∧ Below w.heap.size w w' := by
  have hm := hl.most
  have hbd := bounds_i64 um
  by_cases hbig : 100 < len
  · go_enter Try.func5, Try.ntmps5
    go_wp2_with (go_at_call 7; (with_reducible refine (works_any _).mono ?_); rintro e w1 ⟨rfl, hb1⟩)
    go_ret
    exact ⟨rfl, hb1⟩
  have hlen := Lib.hid hl.size_eq
  have hN := Lib.hid (fun w => new_any most w hbd)
  have hNr := Lib.hid (fun w => rnew_any most w hbd)
  go_enter Try.func5, Try.ntmps5
  go_wp2_with (first | (go_at_call 7; (with_reducible refine (works_any _).mono ?_); rintro e w1 ⟨rfl, hb1⟩) | (go_at_call 8; (with_reducible refine (hN.out _).mono ?_); rintro e w2 ⟨s, gM, rfl, hM2, hs, hg, hb2⟩) | (go_at_call 17; (with_reducible refine (hNr.out _).mono ?_); rintro e w3 ⟨q, gb, rfl, hR3, hq, hgb, hb3⟩))
  have hz1 := hb1.size
  have hlt := hM2.lt
  have hgt := hM2.hg
  have h0 : MSx s gM q (nS most) w (zeros most) w3 := by
    refine ⟨gb, nS most, nones most, hM2.below hb3, hR3, by simp [nones], fun j hj => ?_, bt (bt hb1 hb2) hb3, by omega⟩
    rw [zeros_bit]
    simp [nones]
  generalize zeros most = bs0 at *
  have hnS : nS most ≤ 1000 := by unfold nS; omega
  clear hM2 hR3 hb1 hb2 hb3 hs hg hq hgb hz1 hlt hgt hN hNr
  generalize nS most = many at *
  have hbig : len ≤ 100 := by omega
  go_loopw [7] (fun i wr => MD1 s gM q many len w i wr) (fun i _ => len - (intOf i).toNat)
  case atStart => exact ⟨0, Nat.zero_le _, rfl, bs0, h0⟩
  case round =>
    obtain ⟨k, hk, rfl, bs, h1⟩ := hrel
    by_cases hlt : k < len
    · obtain ⟨b, o, rfl, _⟩ := hl.at_ (by omega)
      have hk1 : k < l.length := by have := hlen.out; omega
      have hEl : ∀ W, Below w.heap.size w W → W.cell? ⟨b, o + k * 2, none⟩ = some (.int .i64 l[k].k) ∧ W.cell? ⟨b, o + k * 2 + 1, none⟩ = some (.int .i64 l[k].n) := fun W hW =>
        ⟨(hl.get hW (Nat.le_refl _) k hk1 0 (by decide) _ rfl).1, (hl.get hW (Nat.le_refl _) k hk1 1 (by decide) _ rfl).1⟩
      have hxb : -9223372036854775808 ≤ l[k].n ∧ l[k].n ≤ 9223372036854775807 := bounds_i64 (hl.ok_at k hk1).2
      have hnext : ∀ bs' w', MSx s gM q many w bs' w' → MD1 s gM q many len w (.int .i64 ((k : Int) + 1)) w' := fun bs' w' h => ⟨k + 1, by omega, by go_num, bs', h⟩
      generalize l[k].k = kd at *
      generalize l[k].n = x at *
      obtain ⟨gb1, cap1, bl1, hm1⟩ := h1.mst
      have hE1 := hEl _ hm1.be
      have hEl := Lib.hid hEl
      have hxb := Lib.hid hxb
      have hnext := Lib.hid hnext
      by_cases k0 : kd = 0
      · subst k0
        have h1d := hm1.below (Below.refl _ wr).drew
        have hP := add_any s gM many bs x wr.drew h1d.m
        have hQ := fun w' (h : RM w' q gb1 cap1 bl1) => rput_any q gb1 cap1 bl1 x true w' h
        rw [hm1.putB] at hQ
        have hP := Lib.hid hP
        have hQ := Lib.hid hQ
        have M1 := (hEl.out _ h1d.be).2
        have h1d' := Lib.hid h1d
        generalize turnB many bs x true = tb at hP hQ
        go_wp2_with fail
        refine wp_region_held_drew (S := (fun w' : World => w'.cell? ⟨b, o + k * 2 + 1, none⟩ = some (.int .i64 x))) (by kernel_rfl) ?_ (fun hHeld => ?_)
        · first | exact M1 | exact M4 | exact M5
        first | (refine tw (i := 0) (v := ?_) ?_ hHeld ?_; rotate_left; focus (intro w hSw; (try dsimp only at hSw); go_simp; (try with_reducible rfl); done)) | refine tn (i := 0) hHeld ?_
        try simp only [Act.put, List.setIfInBounds_toArray, List.set_cons_zero, List.set_cons_succ]
        first | (refine tw (i := 1) (v := ?_) ?_ hHeld ?_; rotate_left; focus (intro w hSw; (try dsimp only at hSw); go_simp; (try with_reducible rfl); done)) | refine tn (i := 1) hHeld ?_
        try simp only [Act.put, List.setIfInBounds_toArray, List.set_cons_zero, List.set_cons_succ]
        first | (refine tw (i := 2) (v := ?_) ?_ hHeld ?_; rotate_left; focus (intro w hSw; (try dsimp only at hSw); go_simp; (try with_reducible rfl); done)) | refine tn (i := 2) hHeld ?_
        try simp only [Act.put, List.setIfInBounds_toArray, List.set_cons_zero, List.set_cons_succ]
        first | (refine tw (i := 3) (v := ?_) ?_ hHeld ?_; rotate_left; focus (intro w hSw; (try dsimp only at hSw); go_simp; (try with_reducible rfl); done)) | refine tn (i := 3) hHeld ?_
        try simp only [Act.put, List.setIfInBounds_toArray, List.set_cons_zero, List.set_cons_succ]
        first | (refine tw (i := 4) (v := ?_) ?_ hHeld ?_; rotate_left; focus (intro w hSw; (try dsimp only at hSw); go_simp; (try with_reducible rfl); done)) | refine tn (i := 4) hHeld ?_
        try simp only [Act.put, List.setIfInBounds_toArray, List.set_cons_zero, List.set_cons_succ]
        first | (refine tw (i := 5) (v := ?_) ?_ hHeld ?_; rotate_left; focus (intro w hSw; (try dsimp only at hSw); go_simp; (try with_reducible rfl); done)) | refine tn (i := 5) hHeld ?_
        try simp only [Act.put, List.setIfInBounds_toArray, List.set_cons_zero, List.set_cons_succ]
        first | (refine tw (i := 7) (v := ?_) ?_ hHeld ?_; rotate_left; focus (intro w hSw; (try dsimp only at hSw); go_simp; (try with_reducible rfl); done)) | refine tn (i := 7) hHeld ?_
        try simp only [Act.put, List.setIfInBounds_toArray, List.set_cons_zero, List.set_cons_succ]
        first | (refine tw (i := 8) (v := ?_) ?_ hHeld ?_; rotate_left; focus (intro w hSw; (try dsimp only at hSw); go_simp; (try with_reducible rfl); done)) | refine tn (i := 8) hHeld ?_
        try simp only [Act.put, List.setIfInBounds_toArray, List.set_cons_zero, List.set_cons_succ]
        first | (refine tw (i := 9) (v := ?_) ?_ hHeld ?_; rotate_left; focus (intro w hSw; (try dsimp only at hSw); go_simp; (try with_reducible rfl); done)) | refine tn (i := 9) hHeld ?_
        try simp only [Act.put, List.setIfInBounds_toArray, List.set_cons_zero, List.set_cons_succ]
        first | (refine tw (i := 10) (v := ?_) ?_ hHeld ?_; rotate_left; focus (intro w hSw; (try dsimp only at hSw); go_simp; (try with_reducible rfl); done)) | refine tn (i := 10) hHeld ?_
        try simp only [Act.put, List.setIfInBounds_toArray, List.set_cons_zero, List.set_cons_succ]
        first | (refine tw (i := 11) (v := ?_) ?_ hHeld ?_; rotate_left; focus (intro w hSw; (try dsimp only at hSw); go_simp; (try with_reducible rfl); done)) | refine tn (i := 11) hHeld ?_
        try simp only [Act.put, List.setIfInBounds_toArray, List.set_cons_zero, List.set_cons_succ]
        first | (refine tw (i := 12) (v := ?_) ?_ hHeld ?_; rotate_left; focus (intro w hSw; (try dsimp only at hSw); go_simp; (try with_reducible rfl); done)) | refine tn (i := 12) hHeld ?_
        try simp only [Act.put, List.setIfInBounds_toArray, List.set_cons_zero, List.set_cons_succ]
        refine call_next (i := 6) (by kernel_rfl) (by rfl) ?_
        intro o ho K hK
        simp only [List.getElem?_toArray, List.getElem?_cons_succ, List.getElem?_cons_zero, Option.some.injEq] at ho
        subst ho
        first | (fail; refine hK.out _ _ ?_ (fun hHeld => ?_)) | (go_simp; first | (with_reducible refine hK.out _ _ ?_ (fun hHeld => ?_)) | ((first | (go_at_call 9; (with_reducible refine hP.out.mono ?_); rintro e w4 ⟨rfl, hx4, hf4⟩; have hT4 := h1d'.out.a hx4 hf4; have M4 := (hEl.out _ hT4.2.2.1).2) | (go_at_call 18; (with_reducible refine (hQ.out _ hT4.2.1).mono ?_); rintro e w5 ⟨rfl, hx5, hf5⟩; have h5 := h1d'.out.b hT4 hx5 hf5; have M5 := (hEl.out _ h5.choose_spec.choose_spec.choose_spec.be).2)); refine hK.out _ _ ?_ (fun hHeld => ?_)))
        · first | exact M1 | exact M4 | exact M5
        clear hK K
        try simp only [Act.put, List.setIfInBounds_toArray, List.set_cons_zero, List.set_cons_succ]
        refine call_next (i := 13) (by kernel_rfl) (by rfl) ?_
        intro o ho K hK
        simp only [List.getElem?_toArray, List.getElem?_cons_succ, List.getElem?_cons_zero, Option.some.injEq] at ho
        subst ho
        first | (fail; refine hK.out _ _ ?_ (fun hHeld => ?_)) | (go_simp; first | (with_reducible refine hK.out _ _ ?_ (fun hHeld => ?_)) | ((first | (go_at_call 9; (with_reducible refine hP.out.mono ?_); rintro e w4 ⟨rfl, hx4, hf4⟩; have hT4 := h1d'.out.a hx4 hf4; have M4 := (hEl.out _ hT4.2.2.1).2) | (go_at_call 18; (with_reducible refine (hQ.out _ hT4.2.1).mono ?_); rintro e w5 ⟨rfl, hx5, hf5⟩; have h5 := h1d'.out.b hT4 hx5 hf5; have M5 := (hEl.out _ h5.choose_spec.choose_spec.choose_spec.be).2)); refine hK.out _ _ ?_ (fun hHeld => ?_)))
        · first | exact M1 | exact M4 | exact M5
        clear hK K
        try simp only [Act.put, List.setIfInBounds_toArray, List.set_cons_zero, List.set_cons_succ]
        first | (refine tw (i := 14) (v := ?_) ?_ hHeld ?_; rotate_left; focus (intro w hSw; (try dsimp only at hSw); go_simp; (try with_reducible rfl); done)) | refine tn (i := 14) hHeld ?_
        try simp only [Act.put, List.setIfInBounds_toArray, List.set_cons_zero, List.set_cons_succ]
        refine wpAnyH_done (by kernel_rfl) ?_ _
        clear M1 M4 hT4 h1d h1d' h1 hm1 hE1
        obtain ⟨gb5, cap5, bl5, h5⟩ := h5
        have hE5 := hEl.out _ h5.be
        have hN5 := next_any s gM many (turnL many bs x true) x w5 h5.m hxb.out
        obtain ⟨⟨y1, ok1⟩, hn1⟩ : ∃ r, nextM (turnL many bs x true) many x = r := ⟨_, rfl⟩
        obtain ⟨⟨y2, ok2⟩, hn2⟩ : ∃ r, freeOf (bit (turnL many bs x true)) many = r := ⟨_, rfl⟩
        have hn1' := hn1
        rw [nextM_first] at hn1'
        rw [hn1] at hN5
        have hsl := sel_len (turnL many bs x true) many
        have hm5 := h5.m.hm
        have hN5 := Lib.hid hN5
        have hRN := fun w' (h : MST s gM q gb5 cap5 many w (turnL many bs x true) bl5 w') => rnext_any q gb5 cap5 bl5 (Go.Proofs.Ytlgbimpbdofloaa.sel (turnL many bs x true) many) x w' h.r h.sel (by omega)
        rw [hn1'] at hRN
        have hRN := Lib.hid hRN
        have hF5 := fun w' (h : MST s gM q gb5 cap5 many w (turnL many bs x true) bl5 w') => free_any s gM many (turnL many bs x true) w' h.m
        rw [hn2] at hF5
        have hF5 := Lib.hid hF5
        have hRF := fun w' (h : MST s gM q gb5 cap5 many w (turnL many bs x true) bl5 w') => rfree_any q gb5 cap5 many bl5 (bit (turnL many bs x true)) w' h.r h.len h.eq
        rw [hn2] at hRF
        have hRF := Lib.hid hRF
        clear hn1 hn1' hn2 hsl hm5
        try go_wp2_with fail
        go_at_call 20
        with_reducible refine hN5.out.mono ?_
        rintro e w6 ⟨rfl, hb6⟩
        have h6 := h5.below hb6
        have hE6 := hEl.out _ h6.be
        go_wp2_with fail
        go_at_call 21
        with_reducible refine (hRN.out _ h6).mono ?_
        rintro e w7 ⟨rfl, hb7⟩
        have h7 := h6.below hb7
        go_wp2_with fail
        go_at_call 22
        with_reducible refine (hF5.out _ h7).mono ?_
        rintro e w8 ⟨rfl, hb8⟩
        have h8 := h7.below hb8
        go_wp2_with fail
        go_at_call 23
        with_reducible refine (hRF.out _ h8).mono ?_
        rintro e w9 ⟨rfl, hw9⟩
        subst w9
        have hE8 := hEl.out _ h8.be
        have hh1 := fun m => has_any s gM many (turnL many bs x true) x (w8.drewN m) (h8.m.drewN m)
        have hh2 := fun m => rhas_any q gb5 cap5 bl5 x (w8.drewN m) (h8.r.below (bdraws0 w8 m))
        rw [h8.has] at hh2
        generalize hasB many (turnL many bs x true) x = hv at hh1 hh2
        have hh1 := Lib.hid hh1
        have hh2 := Lib.hid hh2
        have hfin := Lib.hid (hnext.out (turnL many bs x true))
        have h8' := Lib.hid h8
        clear hE5 hE6 h5 h6 h7 h8 hb6 hb7 hb8
        go_wp2_with fail
        go_quiet ((first | (go_at_call 24; with_reducible exact Calls.quiet_of (hh1.out _)) | (go_at_call 25; with_reducible exact Calls.quiet_of_same (hh2.out _))))
        go_wp2
        exact ⟨hfin.out _ ⟨_, _, _, h8'.out.below (bdraws0 w8 _)⟩, by simp [intOf]; omega⟩
      · by_cases k1 : kd = 1
        · subst k1
          have h1d := hm1.below (Below.refl _ wr).drew
          have hP := remove_any s gM many bs x wr.drew h1d.m
          have hQ := fun w' (h : RM w' q gb1 cap1 bl1) => rput_any q gb1 cap1 bl1 x false w' h
          rw [hm1.putB] at hQ
          have hP := Lib.hid hP
          have hQ := Lib.hid hQ
          have M1 := (hEl.out _ h1d.be).2
          have h1d' := Lib.hid h1d
          generalize turnB many bs x false = tb at hP hQ
          go_wp2_with fail
          refine wp_region_held_drew (S := (fun w' : World => w'.cell? ⟨b, o + k * 2 + 1, none⟩ = some (.int .i64 x))) (by kernel_rfl) ?_ (fun hHeld => ?_)
          · first | exact M1 | exact M4 | exact M5
          first | (refine tw (i := 0) (v := ?_) ?_ hHeld ?_; rotate_left; focus (intro w hSw; (try dsimp only at hSw); go_simp; (try with_reducible rfl); done)) | refine tn (i := 0) hHeld ?_
          try simp only [Act.put, List.setIfInBounds_toArray, List.set_cons_zero, List.set_cons_succ]
          first | (refine tw (i := 1) (v := ?_) ?_ hHeld ?_; rotate_left; focus (intro w hSw; (try dsimp only at hSw); go_simp; (try with_reducible rfl); done)) | refine tn (i := 1) hHeld ?_
          try simp only [Act.put, List.setIfInBounds_toArray, List.set_cons_zero, List.set_cons_succ]
          first | (refine tw (i := 2) (v := ?_) ?_ hHeld ?_; rotate_left; focus (intro w hSw; (try dsimp only at hSw); go_simp; (try with_reducible rfl); done)) | refine tn (i := 2) hHeld ?_
          try simp only [Act.put, List.setIfInBounds_toArray, List.set_cons_zero, List.set_cons_succ]
          first | (refine tw (i := 3) (v := ?_) ?_ hHeld ?_; rotate_left; focus (intro w hSw; (try dsimp only at hSw); go_simp; (try with_reducible rfl); done)) | refine tn (i := 3) hHeld ?_
          try simp only [Act.put, List.setIfInBounds_toArray, List.set_cons_zero, List.set_cons_succ]
          first | (refine tw (i := 4) (v := ?_) ?_ hHeld ?_; rotate_left; focus (intro w hSw; (try dsimp only at hSw); go_simp; (try with_reducible rfl); done)) | refine tn (i := 4) hHeld ?_
          try simp only [Act.put, List.setIfInBounds_toArray, List.set_cons_zero, List.set_cons_succ]
          first | (refine tw (i := 5) (v := ?_) ?_ hHeld ?_; rotate_left; focus (intro w hSw; (try dsimp only at hSw); go_simp; (try with_reducible rfl); done)) | refine tn (i := 5) hHeld ?_
          try simp only [Act.put, List.setIfInBounds_toArray, List.set_cons_zero, List.set_cons_succ]
          first | (refine tw (i := 7) (v := ?_) ?_ hHeld ?_; rotate_left; focus (intro w hSw; (try dsimp only at hSw); go_simp; (try with_reducible rfl); done)) | refine tn (i := 7) hHeld ?_
          try simp only [Act.put, List.setIfInBounds_toArray, List.set_cons_zero, List.set_cons_succ]
          first | (refine tw (i := 8) (v := ?_) ?_ hHeld ?_; rotate_left; focus (intro w hSw; (try dsimp only at hSw); go_simp; (try with_reducible rfl); done)) | refine tn (i := 8) hHeld ?_
          try simp only [Act.put, List.setIfInBounds_toArray, List.set_cons_zero, List.set_cons_succ]
          first | (refine tw (i := 9) (v := ?_) ?_ hHeld ?_; rotate_left; focus (intro w hSw; (try dsimp only at hSw); go_simp; (try with_reducible rfl); done)) | refine tn (i := 9) hHeld ?_
          try simp only [Act.put, List.setIfInBounds_toArray, List.set_cons_zero, List.set_cons_succ]
          first | (refine tw (i := 10) (v := ?_) ?_ hHeld ?_; rotate_left; focus (intro w hSw; (try dsimp only at hSw); go_simp; (try with_reducible rfl); done)) | refine tn (i := 10) hHeld ?_
          try simp only [Act.put, List.setIfInBounds_toArray, List.set_cons_zero, List.set_cons_succ]
          first | (refine tw (i := 11) (v := ?_) ?_ hHeld ?_; rotate_left; focus (intro w hSw; (try dsimp only at hSw); go_simp; (try with_reducible rfl); done)) | refine tn (i := 11) hHeld ?_
          try simp only [Act.put, List.setIfInBounds_toArray, List.set_cons_zero, List.set_cons_succ]
          first | (refine tw (i := 12) (v := ?_) ?_ hHeld ?_; rotate_left; focus (intro w hSw; (try dsimp only at hSw); go_simp; (try with_reducible rfl); done)) | refine tn (i := 12) hHeld ?_
          try simp only [Act.put, List.setIfInBounds_toArray, List.set_cons_zero, List.set_cons_succ]
          refine call_next (i := 6) (by kernel_rfl) (by rfl) ?_
          intro o ho K hK
          simp only [List.getElem?_toArray, List.getElem?_cons_succ, List.getElem?_cons_zero, Option.some.injEq] at ho
          subst ho
          first | (fail; refine hK.out _ _ ?_ (fun hHeld => ?_)) | (go_simp; first | (with_reducible refine hK.out _ _ ?_ (fun hHeld => ?_)) | ((first | (go_at_call 19; (with_reducible refine hP.out.mono ?_); rintro e w4 ⟨rfl, hx4, hf4⟩; have hT4 := h1d'.out.a hx4 hf4; have M4 := (hEl.out _ hT4.2.2.1).2) | (go_at_call 18; (with_reducible refine (hQ.out _ hT4.2.1).mono ?_); rintro e w5 ⟨rfl, hx5, hf5⟩; have h5 := h1d'.out.b hT4 hx5 hf5; have M5 := (hEl.out _ h5.choose_spec.choose_spec.choose_spec.be).2)); refine hK.out _ _ ?_ (fun hHeld => ?_)))
          · first | exact M1 | exact M4 | exact M5
          clear hK K
          try simp only [Act.put, List.setIfInBounds_toArray, List.set_cons_zero, List.set_cons_succ]
          refine call_next (i := 13) (by kernel_rfl) (by rfl) ?_
          intro o ho K hK
          simp only [List.getElem?_toArray, List.getElem?_cons_succ, List.getElem?_cons_zero, Option.some.injEq] at ho
          subst ho
          first | (fail; refine hK.out _ _ ?_ (fun hHeld => ?_)) | (go_simp; first | (with_reducible refine hK.out _ _ ?_ (fun hHeld => ?_)) | ((first | (go_at_call 19; (with_reducible refine hP.out.mono ?_); rintro e w4 ⟨rfl, hx4, hf4⟩; have hT4 := h1d'.out.a hx4 hf4; have M4 := (hEl.out _ hT4.2.2.1).2) | (go_at_call 18; (with_reducible refine (hQ.out _ hT4.2.1).mono ?_); rintro e w5 ⟨rfl, hx5, hf5⟩; have h5 := h1d'.out.b hT4 hx5 hf5; have M5 := (hEl.out _ h5.choose_spec.choose_spec.choose_spec.be).2)); refine hK.out _ _ ?_ (fun hHeld => ?_)))
          · first | exact M1 | exact M4 | exact M5
          clear hK K
          try simp only [Act.put, List.setIfInBounds_toArray, List.set_cons_zero, List.set_cons_succ]
          first | (refine tw (i := 14) (v := ?_) ?_ hHeld ?_; rotate_left; focus (intro w hSw; (try dsimp only at hSw); go_simp; (try with_reducible rfl); done)) | refine tn (i := 14) hHeld ?_
          try simp only [Act.put, List.setIfInBounds_toArray, List.set_cons_zero, List.set_cons_succ]
          refine wpAnyH_done (by kernel_rfl) ?_ _
          clear M1 M4 hT4 h1d h1d' h1 hm1 hE1
          obtain ⟨gb5, cap5, bl5, h5⟩ := h5
          have hE5 := hEl.out _ h5.be
          have hN5 := next_any s gM many (turnL many bs x false) x w5 h5.m hxb.out
          obtain ⟨⟨y1, ok1⟩, hn1⟩ : ∃ r, nextM (turnL many bs x false) many x = r := ⟨_, rfl⟩
          obtain ⟨⟨y2, ok2⟩, hn2⟩ : ∃ r, freeOf (bit (turnL many bs x false)) many = r := ⟨_, rfl⟩
          have hn1' := hn1
          rw [nextM_first] at hn1'
          rw [hn1] at hN5
          have hsl := sel_len (turnL many bs x false) many
          have hm5 := h5.m.hm
          have hN5 := Lib.hid hN5
          have hRN := fun w' (h : MST s gM q gb5 cap5 many w (turnL many bs x false) bl5 w') => rnext_any q gb5 cap5 bl5 (Go.Proofs.Ytlgbimpbdofloaa.sel (turnL many bs x false) many) x w' h.r h.sel (by omega)
          rw [hn1'] at hRN
          have hRN := Lib.hid hRN
          have hF5 := fun w' (h : MST s gM q gb5 cap5 many w (turnL many bs x false) bl5 w') => free_any s gM many (turnL many bs x false) w' h.m
          rw [hn2] at hF5
          have hF5 := Lib.hid hF5
          have hRF := fun w' (h : MST s gM q gb5 cap5 many w (turnL many bs x false) bl5 w') => rfree_any q gb5 cap5 many bl5 (bit (turnL many bs x false)) w' h.r h.len h.eq
          rw [hn2] at hRF
          have hRF := Lib.hid hRF
          clear hn1 hn1' hn2 hsl hm5
          try go_wp2_with fail
          go_at_call 20
          with_reducible refine hN5.out.mono ?_
          rintro e w6 ⟨rfl, hb6⟩
          have h6 := h5.below hb6
          have hE6 := hEl.out _ h6.be
          go_wp2_with fail
          go_at_call 21
          with_reducible refine (hRN.out _ h6).mono ?_
          rintro e w7 ⟨rfl, hb7⟩
          have h7 := h6.below hb7
          go_wp2_with fail
          go_at_call 22
          with_reducible refine (hF5.out _ h7).mono ?_
          rintro e w8 ⟨rfl, hb8⟩
          have h8 := h7.below hb8
          go_wp2_with fail
          go_at_call 23
          with_reducible refine (hRF.out _ h8).mono ?_
          rintro e w9 ⟨rfl, hw9⟩
          subst w9
          have hE8 := hEl.out _ h8.be
          have hh1 := fun m => has_any s gM many (turnL many bs x false) x (w8.drewN m) (h8.m.drewN m)
          have hh2 := fun m => rhas_any q gb5 cap5 bl5 x (w8.drewN m) (h8.r.below (bdraws0 w8 m))
          rw [h8.has] at hh2
          generalize hasB many (turnL many bs x false) x = hv at hh1 hh2
          have hh1 := Lib.hid hh1
          have hh2 := Lib.hid hh2
          have hfin := Lib.hid (hnext.out (turnL many bs x false))
          have h8' := Lib.hid h8
          clear hE5 hE6 h5 h6 h7 h8 hb6 hb7 hb8
          go_wp2_with fail
          go_quiet ((first | (go_at_call 24; with_reducible exact Calls.quiet_of (hh1.out _)) | (go_at_call 25; with_reducible exact Calls.quiet_of_same (hh2.out _))))
          go_wp2
          exact ⟨hfin.out _ ⟨_, _, _, h8'.out.below (bdraws0 w8 _)⟩, by simp [intOf]; omega⟩
        · have d0 : (kd == 0) = false := by simpa using k0
          have d1 : (kd == 1) = false := by simpa using k1
          clear hm1
          obtain ⟨gb5, cap5, bl5, h5⟩ := h1
          have hE5 := hEl.out _ h5.be
          have hN5 := next_any s gM many bs x wr h5.m hxb.out
          obtain ⟨⟨y1, ok1⟩, hn1⟩ : ∃ r, nextM bs many x = r := ⟨_, rfl⟩
          obtain ⟨⟨y2, ok2⟩, hn2⟩ : ∃ r, freeOf (bit bs) many = r := ⟨_, rfl⟩
          have hn1' := hn1
          rw [nextM_first] at hn1'
          rw [hn1] at hN5
          have hsl := sel_len bs many
          have hm5 := h5.m.hm
          have hN5 := Lib.hid hN5
          have hRN := fun w' (h : MST s gM q gb5 cap5 many w bs bl5 w') => rnext_any q gb5 cap5 bl5 (Go.Proofs.Ytlgbimpbdofloaa.sel bs many) x w' h.r h.sel (by omega)
          rw [hn1'] at hRN
          have hRN := Lib.hid hRN
          have hF5 := fun w' (h : MST s gM q gb5 cap5 many w bs bl5 w') => free_any s gM many bs w' h.m
          rw [hn2] at hF5
          have hF5 := Lib.hid hF5
          have hRF := fun w' (h : MST s gM q gb5 cap5 many w bs bl5 w') => rfree_any q gb5 cap5 many bl5 (bit bs) w' h.r h.len h.eq
          rw [hn2] at hRF
          have hRF := Lib.hid hRF
          clear hn1 hn1' hn2 hsl hm5
          try go_wp2_with fail
          go_at_call 20
          with_reducible refine hN5.out.mono ?_
          rintro e w6 ⟨rfl, hb6⟩
          have h6 := h5.below hb6
          have hE6 := hEl.out _ h6.be
          go_wp2_with fail
          go_at_call 21
          with_reducible refine (hRN.out _ h6).mono ?_
          rintro e w7 ⟨rfl, hb7⟩
          have h7 := h6.below hb7
          go_wp2_with fail
          go_at_call 22
          with_reducible refine (hF5.out _ h7).mono ?_
          rintro e w8 ⟨rfl, hb8⟩
          have h8 := h7.below hb8
          go_wp2_with fail
          go_at_call 23
          with_reducible refine (hRF.out _ h8).mono ?_
          rintro e w9 ⟨rfl, hw9⟩
          subst w9
          have hE8 := hEl.out _ h8.be
          have hh1 := fun m => has_any s gM many bs x (w8.drewN m) (h8.m.drewN m)
          have hh2 := fun m => rhas_any q gb5 cap5 bl5 x (w8.drewN m) (h8.r.below (bdraws0 w8 m))
          rw [h8.has] at hh2
          generalize hasB many bs x = hv at hh1 hh2
          have hh1 := Lib.hid hh1
          have hh2 := Lib.hid hh2
          have hfin := Lib.hid (hnext.out bs)
          have h8' := Lib.hid h8
          clear hE5 hE6 h5 h6 h7 h8 hb6 hb7 hb8
          go_wp2_with fail
          go_quiet ((first | (go_at_call 24; with_reducible exact Calls.quiet_of (hh1.out _)) | (go_at_call 25; with_reducible exact Calls.quiet_of_same (hh2.out _))))
          go_wp2
          exact ⟨hfin.out _ ⟨_, _, _, h8'.out.below (bdraws0 w8 _)⟩, by simp [intOf]; omega⟩
    · obtain ⟨gb, cp, bl, hm1⟩ := h1.mst
      have hd : ¬ ((k : Int) < (len : Int)) := by omega
      have hA := rall_any q gb cp bl wr hm1.r
      rw [hm1.sel] at hA
      have hA := Lib.hid hA
      have hsl := sel_len bs many
      have hmb := hm1.m.hm
      have hL5 : (Go.Proofs.Ytlgbimpbdofloaa.sel bs many).length ≤ 5000 := by omega
      have hgl : gath 2000 (Go.Proofs.Ytlgbimpbdofloaa.sel bs many) = Go.Proofs.Ytlgbimpbdofloaa.sel bs many := gath_all (.inr (by omega))
      have hal := fun w' (h : MST s gM q gb cp many w bs bl w') => all_any s gM many bs 2000 w' h.m
      rw [hgl] at hal
      have hal := Lib.hid hal
      have hal2 := fun w' (h : MST s gM q gb cp many w bs bl w') => all_any s gM many bs 2 w' h.m
      rw [show gath 2 (Go.Proofs.Ytlgbimpbdofloaa.sel bs many) = (Go.Proofs.Ytlgbimpbdofloaa.sel bs many).take 2 from rfl] at hal2
      have hal2 := Lib.hid hal2
      have hln := fun w' (h : MST s gM q gb cp many w bs bl w') => len_any s gM many bs w' h.m
      rw [len_sel hm1.m] at hln
      have hmn := Lib.hid (fun w' (h : MST s gM q gb cp many w bs bl w') => many_any s gM many bs w' h.m)
      have hby := Lib.hid (fun w' (h : MST s gM q gb cp many w bs bl w') => bytes_any s gM many bs w' h.m)
      have hrb := Lib.hid (fun w' (h : MST s gM q gb cp many w bs bl w') => rbytes_any q gb cp many bl (bit bs) bs w' h.r h.len h.eq h.m.hn h.m.hb (fun j _ => by
        by_cases e : j < many
        · rw [decide_eq_true e, Bool.true_and]
        · rw [decide_eq_false e, Bool.false_and, h.m.hz j (by omega)]))
      have hMq := Lib.hid (fun w' (h : MST s gM q gb cp many w bs bl w') => (h.len ▸ h.r.c0 : w'.cell? ⟨q, 0, none⟩ = some (.slice (some ⟨gb, 0, none⟩) many cp)))
      have hm1' := Lib.hid hm1
      clear hgl hsl h1
      go_wp2_with (go_at_call 15; (with_reducible refine hA.out.mono ?_); rintro e w1 ⟨⟨v, rfl, hv⟩, hb1⟩)
      have hT1 := (hm1'.out.below hb1).below (Below.refl _ w1).drew
      have hB1 : Below w1.heap.size w1 w1.drew := (Below.refl _ w1).drew
      have M1 := hMq.out _ hT1
      have hvl := hv.lx
      obtain ⟨n, hn⟩ : ∃ n, (Go.Proofs.Ytlgbimpbdofloaa.sel bs many).length = n := ⟨_, rfl⟩
      have hL52 : ((Go.Proofs.Ytlgbimpbdofloaa.sel bs many).take 2).length ≤ 5000 := by rw [List.length_take]; omega
      rw [hn] at hln
      have hln := Lib.hid hln
      by_cases h2 : n < 2
      · obtain ⟨a6, c6, hva⟩ := hvl.len
        rw [hn] at hva
        subst hva
        have hvx := Lib.hid hvl
        have hg2 : ((n : Int) < 2) := by omega
        clear hm1 hv hvl hb1 hA hm1' hmb
        refine wp_region_held_drew (S := (fun w' : World => w'.cell? ⟨q, 0, none⟩ = some (.slice (some ⟨gb, 0, none⟩) many cp))) (by kernel_rfl) ?_ (fun hHeld => ?_)
        · first | exact M1 | exact M2 | exact M3 | exact M4
        first | (refine tw (i := 0) (v := ?_) ?_ hHeld ?_; rotate_left; focus (intro w hSw; (try dsimp only at hSw); go_simp; (try with_reducible rfl); done)) | refine tn (i := 0) hHeld ?_
        try simp only [Act.put, List.setIfInBounds_toArray, List.set_cons_zero, List.set_cons_succ]
        first | (refine tw (i := 2) (v := ?_) ?_ hHeld ?_; rotate_left; focus (intro w hSw; (try dsimp only at hSw); go_simp; (try with_reducible rfl); done)) | refine tn (i := 2) hHeld ?_
        try simp only [Act.put, List.setIfInBounds_toArray, List.set_cons_zero, List.set_cons_succ]
        refine call_next (i := 1) (by kernel_rfl) (by rfl) ?_
        intro o ho K hK
        simp only [List.getElem?_toArray, List.getElem?_cons_succ, List.getElem?_cons_zero, Option.some.injEq] at ho
        subst ho
        first | (fail; refine hK.out _ _ ?_ (fun hHeld => ?_)) | (go_simp; first | (with_reducible refine hK.out _ _ ?_ (fun hHeld => ?_)) | ((first | (go_at_call 13; (with_reducible refine (hal.out _ hT1).mono ?_); rintro e w2 ⟨⟨v2, rfl, hl2⟩, hb2⟩; have hT2 := hT1.below hb2; have M2 := hMq.out _ hT2; have hB2 := bt hB1 hb2) | (go_at_call 12; (with_reducible refine (same_same v2 _ _ _ (Go.Proofs.Ytlgbimpbdofloaa.sel bs many) w2 hl2.lx (hvx.out.below hB2) hL5).mono ?_); rintro e w3 ⟨rfl, hb3⟩; have hT3 := hT2.below hb3; have M3 := hMq.out _ hT3; have hB3 := bt hB2 hb3) | (go_at_call 26; (with_reducible refine (hln.out _ hT3).mono ?_); rintro e wx ⟨rfl, rfl⟩) | (go_at_call 16; (with_reducible refine (hmn.out _ hT3).mono ?_); rintro e wx ⟨rfl, rfl⟩) | (go_at_call 11; (with_reducible refine (hby.out _ hT3).mono ?_); rintro e wx ⟨rfl, rfl⟩) | (go_at_call 27; (with_reducible refine (hrb.out _ hT3).mono ?_); rintro e w4 ⟨rfl, hb4⟩; have hT4 := hT3.below hb4; have M4 := hMq.out _ hT4; have hB4 := bt hB3 hb4)); refine hK.out _ _ ?_ (fun hHeld => ?_)))
        · first | exact M1 | exact M2 | exact M3 | exact M4
        clear hK K
        try simp only [Act.put, List.setIfInBounds_toArray, List.set_cons_zero, List.set_cons_succ]
        refine call_next (i := 3) (by kernel_rfl) (by rfl) ?_
        intro o ho K hK
        simp only [List.getElem?_toArray, List.getElem?_cons_succ, List.getElem?_cons_zero, Option.some.injEq] at ho
        subst ho
        first | (fail; refine hK.out _ _ ?_ (fun hHeld => ?_)) | (go_simp; first | (with_reducible refine hK.out _ _ ?_ (fun hHeld => ?_)) | ((first | (go_at_call 13; (with_reducible refine (hal.out _ hT1).mono ?_); rintro e w2 ⟨⟨v2, rfl, hl2⟩, hb2⟩; have hT2 := hT1.below hb2; have M2 := hMq.out _ hT2; have hB2 := bt hB1 hb2) | (go_at_call 12; (with_reducible refine (same_same v2 _ _ _ (Go.Proofs.Ytlgbimpbdofloaa.sel bs many) w2 hl2.lx (hvx.out.below hB2) hL5).mono ?_); rintro e w3 ⟨rfl, hb3⟩; have hT3 := hT2.below hb3; have M3 := hMq.out _ hT3; have hB3 := bt hB2 hb3) | (go_at_call 26; (with_reducible refine (hln.out _ hT3).mono ?_); rintro e wx ⟨rfl, rfl⟩) | (go_at_call 16; (with_reducible refine (hmn.out _ hT3).mono ?_); rintro e wx ⟨rfl, rfl⟩) | (go_at_call 11; (with_reducible refine (hby.out _ hT3).mono ?_); rintro e wx ⟨rfl, rfl⟩) | (go_at_call 27; (with_reducible refine (hrb.out _ hT3).mono ?_); rintro e w4 ⟨rfl, hb4⟩; have hT4 := hT3.below hb4; have M4 := hMq.out _ hT4; have hB4 := bt hB3 hb4)); refine hK.out _ _ ?_ (fun hHeld => ?_)))
        · first | exact M1 | exact M2 | exact M3 | exact M4
        clear hK K
        try simp only [Act.put, List.setIfInBounds_toArray, List.set_cons_zero, List.set_cons_succ]
        first | (refine tw (i := 4) (v := ?_) ?_ hHeld ?_; rotate_left; focus (intro w hSw; (try dsimp only at hSw); go_simp; (try with_reducible rfl); done)) | refine tn (i := 4) hHeld ?_
        try simp only [Act.put, List.setIfInBounds_toArray, List.set_cons_zero, List.set_cons_succ]
        first | (refine tw (i := 5) (v := ?_) ?_ hHeld ?_; rotate_left; focus (intro w hSw; (try dsimp only at hSw); go_simp; (try with_reducible rfl); done)) | refine tn (i := 5) hHeld ?_
        try simp only [Act.put, List.setIfInBounds_toArray, List.set_cons_zero, List.set_cons_succ]
        first | (refine tw (i := 7) (v := ?_) ?_ hHeld ?_; rotate_left; focus (intro w hSw; (try dsimp only at hSw); go_simp; (try with_reducible rfl); done)) | refine tn (i := 7) hHeld ?_
        try simp only [Act.put, List.setIfInBounds_toArray, List.set_cons_zero, List.set_cons_succ]
        first | (refine tw (i := 8) (v := ?_) ?_ hHeld ?_; rotate_left; focus (intro w hSw; (try dsimp only at hSw); go_simp; (try with_reducible rfl); done)) | refine tn (i := 8) hHeld ?_
        try simp only [Act.put, List.setIfInBounds_toArray, List.set_cons_zero, List.set_cons_succ]
        refine call_next (i := 6) (by kernel_rfl) (by rfl) ?_
        intro o ho K hK
        simp only [List.getElem?_toArray, List.getElem?_cons_succ, List.getElem?_cons_zero, Option.some.injEq] at ho
        subst ho
        first | (fail; refine hK.out _ _ ?_ (fun hHeld => ?_)) | (go_simp; first | (with_reducible refine hK.out _ _ ?_ (fun hHeld => ?_)) | ((first | (go_at_call 13; (with_reducible refine (hal.out _ hT1).mono ?_); rintro e w2 ⟨⟨v2, rfl, hl2⟩, hb2⟩; have hT2 := hT1.below hb2; have M2 := hMq.out _ hT2; have hB2 := bt hB1 hb2) | (go_at_call 12; (with_reducible refine (same_same v2 _ _ _ (Go.Proofs.Ytlgbimpbdofloaa.sel bs many) w2 hl2.lx (hvx.out.below hB2) hL5).mono ?_); rintro e w3 ⟨rfl, hb3⟩; have hT3 := hT2.below hb3; have M3 := hMq.out _ hT3; have hB3 := bt hB2 hb3) | (go_at_call 26; (with_reducible refine (hln.out _ hT3).mono ?_); rintro e wx ⟨rfl, rfl⟩) | (go_at_call 16; (with_reducible refine (hmn.out _ hT3).mono ?_); rintro e wx ⟨rfl, rfl⟩) | (go_at_call 11; (with_reducible refine (hby.out _ hT3).mono ?_); rintro e wx ⟨rfl, rfl⟩) | (go_at_call 27; (with_reducible refine (hrb.out _ hT3).mono ?_); rintro e w4 ⟨rfl, hb4⟩; have hT4 := hT3.below hb4; have M4 := hMq.out _ hT4; have hB4 := bt hB3 hb4)); refine hK.out _ _ ?_ (fun hHeld => ?_)))
        · first | exact M1 | exact M2 | exact M3 | exact M4
        clear hK K
        try simp only [Act.put, List.setIfInBounds_toArray, List.set_cons_zero, List.set_cons_succ]
        first | (refine tw (i := 9) (v := ?_) ?_ hHeld ?_; rotate_left; focus (intro w hSw; (try dsimp only at hSw); go_simp; (try with_reducible rfl); done)) | refine tn (i := 9) hHeld ?_
        try simp only [Act.put, List.setIfInBounds_toArray, List.set_cons_zero, List.set_cons_succ]
        first | (refine tw (i := 10) (v := ?_) ?_ hHeld ?_; rotate_left; focus (intro w hSw; (try dsimp only at hSw); go_simp; (try with_reducible rfl); done)) | refine tn (i := 10) hHeld ?_
        try simp only [Act.put, List.setIfInBounds_toArray, List.set_cons_zero, List.set_cons_succ]
        first | (refine tw (i := 11) (v := ?_) ?_ hHeld ?_; rotate_left; focus (intro w hSw; (try dsimp only at hSw); go_simp; (try with_reducible rfl); done)) | refine tn (i := 11) hHeld ?_
        try simp only [Act.put, List.setIfInBounds_toArray, List.set_cons_zero, List.set_cons_succ]
        first | (refine tw (i := 12) (v := ?_) ?_ hHeld ?_; rotate_left; focus (intro w hSw; (try dsimp only at hSw); go_simp; (try with_reducible rfl); done)) | refine tn (i := 12) hHeld ?_
        try simp only [Act.put, List.setIfInBounds_toArray, List.set_cons_zero, List.set_cons_succ]
        first | (refine tw (i := 14) (v := ?_) ?_ hHeld ?_; rotate_left; focus (intro w hSw; (try dsimp only at hSw); go_simp; (try with_reducible rfl); done)) | refine tn (i := 14) hHeld ?_
        try simp only [Act.put, List.setIfInBounds_toArray, List.set_cons_zero, List.set_cons_succ]
        first | (refine tw (i := 15) (v := ?_) ?_ hHeld ?_; rotate_left; focus (intro w hSw; (try dsimp only at hSw); go_simp; (try with_reducible rfl); done)) | refine tn (i := 15) hHeld ?_
        try simp only [Act.put, List.setIfInBounds_toArray, List.set_cons_zero, List.set_cons_succ]
        first | (refine tw (i := 16) (v := ?_) ?_ hHeld ?_; rotate_left; focus (intro w hSw; (try dsimp only at hSw); go_simp; (try with_reducible rfl); done)) | refine tn (i := 16) hHeld ?_
        try simp only [Act.put, List.setIfInBounds_toArray, List.set_cons_zero, List.set_cons_succ]
        first | (refine tw (i := 17) (v := ?_) ?_ hHeld ?_; rotate_left; focus (intro w hSw; (try dsimp only at hSw); go_simp; (try with_reducible rfl); done)) | refine tn (i := 17) hHeld ?_
        try simp only [Act.put, List.setIfInBounds_toArray, List.set_cons_zero, List.set_cons_succ]
        first | (refine tw (i := 18) (v := ?_) ?_ hHeld ?_; rotate_left; focus (intro w hSw; (try dsimp only at hSw); go_simp; (try with_reducible rfl); done)) | refine tn (i := 18) hHeld ?_
        try simp only [Act.put, List.setIfInBounds_toArray, List.set_cons_zero, List.set_cons_succ]
        refine call_next (i := 13) (by kernel_rfl) (by rfl) ?_
        intro o ho K hK
        simp only [List.getElem?_toArray, List.getElem?_cons_succ, List.getElem?_cons_zero, Option.some.injEq] at ho
        subst ho
        first | (fail; refine hK.out _ _ ?_ (fun hHeld => ?_)) | (go_simp; first | (with_reducible refine hK.out _ _ ?_ (fun hHeld => ?_)) | ((first | (go_at_call 13; (with_reducible refine (hal.out _ hT1).mono ?_); rintro e w2 ⟨⟨v2, rfl, hl2⟩, hb2⟩; have hT2 := hT1.below hb2; have M2 := hMq.out _ hT2; have hB2 := bt hB1 hb2) | (go_at_call 12; (with_reducible refine (same_same v2 _ _ _ (Go.Proofs.Ytlgbimpbdofloaa.sel bs many) w2 hl2.lx (hvx.out.below hB2) hL5).mono ?_); rintro e w3 ⟨rfl, hb3⟩; have hT3 := hT2.below hb3; have M3 := hMq.out _ hT3; have hB3 := bt hB2 hb3) | (go_at_call 26; (with_reducible refine (hln.out _ hT3).mono ?_); rintro e wx ⟨rfl, rfl⟩) | (go_at_call 16; (with_reducible refine (hmn.out _ hT3).mono ?_); rintro e wx ⟨rfl, rfl⟩) | (go_at_call 11; (with_reducible refine (hby.out _ hT3).mono ?_); rintro e wx ⟨rfl, rfl⟩) | (go_at_call 27; (with_reducible refine (hrb.out _ hT3).mono ?_); rintro e w4 ⟨rfl, hb4⟩; have hT4 := hT3.below hb4; have M4 := hMq.out _ hT4; have hB4 := bt hB3 hb4)); refine hK.out _ _ ?_ (fun hHeld => ?_)))
        · first | exact M1 | exact M2 | exact M3 | exact M4
        clear hK K
        try simp only [Act.put, List.setIfInBounds_toArray, List.set_cons_zero, List.set_cons_succ]
        first | (refine tw (i := 19) (v := ?_) ?_ hHeld ?_; rotate_left; focus (intro w hSw; (try dsimp only at hSw); go_simp; (try with_reducible rfl); done)) | refine tn (i := 19) hHeld ?_
        try simp only [Act.put, List.setIfInBounds_toArray, List.set_cons_zero, List.set_cons_succ]
        first | (refine tw (i := 20) (v := ?_) ?_ hHeld ?_; rotate_left; focus (intro w hSw; (try dsimp only at hSw); go_simp; (try with_reducible rfl); done)) | refine tn (i := 20) hHeld ?_
        try simp only [Act.put, List.setIfInBounds_toArray, List.set_cons_zero, List.set_cons_succ]
        first | (refine tw (i := 21) (v := ?_) ?_ hHeld ?_; rotate_left; focus (intro w hSw; (try dsimp only at hSw); go_simp; (try with_reducible rfl); done)) | refine tn (i := 21) hHeld ?_
        try simp only [Act.put, List.setIfInBounds_toArray, List.set_cons_zero, List.set_cons_succ]
        first | (refine tw (i := 22) (v := ?_) ?_ hHeld ?_; rotate_left; focus (intro w hSw; (try dsimp only at hSw); go_simp; (try with_reducible rfl); done)) | refine tn (i := 22) hHeld ?_
        try simp only [Act.put, List.setIfInBounds_toArray, List.set_cons_zero, List.set_cons_succ]
        first | (refine tw (i := 24) (v := ?_) ?_ hHeld ?_; rotate_left; focus (intro w hSw; (try dsimp only at hSw); go_simp; (try with_reducible rfl); done)) | refine tn (i := 24) hHeld ?_
        try simp only [Act.put, List.setIfInBounds_toArray, List.set_cons_zero, List.set_cons_succ]
        refine call_next (i := 23) (by kernel_rfl) (by rfl) ?_
        intro o ho K hK
        simp only [List.getElem?_toArray, List.getElem?_cons_succ, List.getElem?_cons_zero, Option.some.injEq] at ho
        subst ho
        first | (fail; refine hK.out _ _ ?_ (fun hHeld => ?_)) | (go_simp; first | (with_reducible refine hK.out _ _ ?_ (fun hHeld => ?_)) | ((first | (go_at_call 13; (with_reducible refine (hal.out _ hT1).mono ?_); rintro e w2 ⟨⟨v2, rfl, hl2⟩, hb2⟩; have hT2 := hT1.below hb2; have M2 := hMq.out _ hT2; have hB2 := bt hB1 hb2) | (go_at_call 12; (with_reducible refine (same_same v2 _ _ _ (Go.Proofs.Ytlgbimpbdofloaa.sel bs many) w2 hl2.lx (hvx.out.below hB2) hL5).mono ?_); rintro e w3 ⟨rfl, hb3⟩; have hT3 := hT2.below hb3; have M3 := hMq.out _ hT3; have hB3 := bt hB2 hb3) | (go_at_call 26; (with_reducible refine (hln.out _ hT3).mono ?_); rintro e wx ⟨rfl, rfl⟩) | (go_at_call 16; (with_reducible refine (hmn.out _ hT3).mono ?_); rintro e wx ⟨rfl, rfl⟩) | (go_at_call 11; (with_reducible refine (hby.out _ hT3).mono ?_); rintro e wx ⟨rfl, rfl⟩) | (go_at_call 27; (with_reducible refine (hrb.out _ hT3).mono ?_); rintro e w4 ⟨rfl, hb4⟩; have hT4 := hT3.below hb4; have M4 := hMq.out _ hT4; have hB4 := bt hB3 hb4)); refine hK.out _ _ ?_ (fun hHeld => ?_)))
        · first | exact M1 | exact M2 | exact M3 | exact M4
        clear hK K
        try simp only [Act.put, List.setIfInBounds_toArray, List.set_cons_zero, List.set_cons_succ]
        refine call_next (i := 25) (by kernel_rfl) (by rfl) ?_
        intro o ho K hK
        simp only [List.getElem?_toArray, List.getElem?_cons_succ, List.getElem?_cons_zero, Option.some.injEq] at ho
        subst ho
        first | (fail; refine hK.out _ _ ?_ (fun hHeld => ?_)) | (go_simp; first | (with_reducible refine hK.out _ _ ?_ (fun hHeld => ?_)) | ((first | (go_at_call 13; (with_reducible refine (hal.out _ hT1).mono ?_); rintro e w2 ⟨⟨v2, rfl, hl2⟩, hb2⟩; have hT2 := hT1.below hb2; have M2 := hMq.out _ hT2; have hB2 := bt hB1 hb2) | (go_at_call 12; (with_reducible refine (same_same v2 _ _ _ (Go.Proofs.Ytlgbimpbdofloaa.sel bs many) w2 hl2.lx (hvx.out.below hB2) hL5).mono ?_); rintro e w3 ⟨rfl, hb3⟩; have hT3 := hT2.below hb3; have M3 := hMq.out _ hT3; have hB3 := bt hB2 hb3) | (go_at_call 26; (with_reducible refine (hln.out _ hT3).mono ?_); rintro e wx ⟨rfl, rfl⟩) | (go_at_call 16; (with_reducible refine (hmn.out _ hT3).mono ?_); rintro e wx ⟨rfl, rfl⟩) | (go_at_call 11; (with_reducible refine (hby.out _ hT3).mono ?_); rintro e wx ⟨rfl, rfl⟩) | (go_at_call 27; (with_reducible refine (hrb.out _ hT3).mono ?_); rintro e w4 ⟨rfl, hb4⟩; have hT4 := hT3.below hb4; have M4 := hMq.out _ hT4; have hB4 := bt hB3 hb4)); refine hK.out _ _ ?_ (fun hHeld => ?_)))
        · first | exact M1 | exact M2 | exact M3 | exact M4
        clear hK K
        try simp only [Act.put, List.setIfInBounds_toArray, List.set_cons_zero, List.set_cons_succ]
        first | (refine tw (i := 26) (v := ?_) ?_ hHeld ?_; rotate_left; focus (intro w hSw; (try dsimp only at hSw); go_simp; (try with_reducible rfl); done)) | refine tn (i := 26) hHeld ?_
        try simp only [Act.put, List.setIfInBounds_toArray, List.set_cons_zero, List.set_cons_succ]
        first | (refine tw (i := 27) (v := ?_) ?_ hHeld ?_; rotate_left; focus (intro w hSw; (try dsimp only at hSw); go_simp; (try with_reducible rfl); done)) | refine tn (i := 27) hHeld ?_
        try simp only [Act.put, List.setIfInBounds_toArray, List.set_cons_zero, List.set_cons_succ]
        first | (refine tw (i := 28) (v := ?_) ?_ hHeld ?_; rotate_left; focus (intro w hSw; (try dsimp only at hSw); go_simp; (try with_reducible rfl); done)) | refine tn (i := 28) hHeld ?_
        try simp only [Act.put, List.setIfInBounds_toArray, List.set_cons_zero, List.set_cons_succ]
        first | (refine tw (i := 29) (v := ?_) ?_ hHeld ?_; rotate_left; focus (intro w hSw; (try dsimp only at hSw); go_simp; (try with_reducible rfl); done)) | refine tn (i := 29) hHeld ?_
        try simp only [Act.put, List.setIfInBounds_toArray, List.set_cons_zero, List.set_cons_succ]
        first | (refine tw (i := 30) (v := ?_) ?_ hHeld ?_; rotate_left; focus (intro w hSw; (try dsimp only at hSw); go_simp; (try with_reducible rfl); done)) | refine tn (i := 30) hHeld ?_
        try simp only [Act.put, List.setIfInBounds_toArray, List.set_cons_zero, List.set_cons_succ]
        first | (refine tw (i := 31) (v := ?_) ?_ hHeld ?_; rotate_left; focus (intro w hSw; (try dsimp only at hSw); go_simp; (try with_reducible rfl); done)) | refine tn (i := 31) hHeld ?_
        try simp only [Act.put, List.setIfInBounds_toArray, List.set_cons_zero, List.set_cons_succ]
        first | (refine tw (i := 32) (v := ?_) ?_ hHeld ?_; rotate_left; focus (intro w hSw; (try dsimp only at hSw); go_simp; (try with_reducible rfl); done)) | refine tn (i := 32) hHeld ?_
        try simp only [Act.put, List.setIfInBounds_toArray, List.set_cons_zero, List.set_cons_succ]
        first | (refine tw (i := 33) (v := ?_) ?_ hHeld ?_; rotate_left; focus (intro w hSw; (try dsimp only at hSw); go_simp; (try with_reducible rfl); done)) | refine tn (i := 33) hHeld ?_
        try simp only [Act.put, List.setIfInBounds_toArray, List.set_cons_zero, List.set_cons_succ]
        first | (refine tw (i := 35) (v := ?_) ?_ hHeld ?_; rotate_left; focus (intro w hSw; (try dsimp only at hSw); go_simp; (try with_reducible rfl); done)) | refine tn (i := 35) hHeld ?_
        try simp only [Act.put, List.setIfInBounds_toArray, List.set_cons_zero, List.set_cons_succ]
        first | (refine tw (i := 36) (v := ?_) ?_ hHeld ?_; rotate_left; focus (intro w hSw; (try dsimp only at hSw); go_simp; (try with_reducible rfl); done)) | refine tn (i := 36) hHeld ?_
        try simp only [Act.put, List.setIfInBounds_toArray, List.set_cons_zero, List.set_cons_succ]
        refine call_next (i := 34) (by kernel_rfl) (by rfl) ?_
        intro o ho K hK
        simp only [List.getElem?_toArray, List.getElem?_cons_succ, List.getElem?_cons_zero, Option.some.injEq] at ho
        subst ho
        first | (fail; refine hK.out _ _ ?_ (fun hHeld => ?_)) | (go_simp; first | (with_reducible refine hK.out _ _ ?_ (fun hHeld => ?_)) | ((first | (go_at_call 13; (with_reducible refine (hal.out _ hT1).mono ?_); rintro e w2 ⟨⟨v2, rfl, hl2⟩, hb2⟩; have hT2 := hT1.below hb2; have M2 := hMq.out _ hT2; have hB2 := bt hB1 hb2) | (go_at_call 12; (with_reducible refine (same_same v2 _ _ _ (Go.Proofs.Ytlgbimpbdofloaa.sel bs many) w2 hl2.lx (hvx.out.below hB2) hL5).mono ?_); rintro e w3 ⟨rfl, hb3⟩; have hT3 := hT2.below hb3; have M3 := hMq.out _ hT3; have hB3 := bt hB2 hb3) | (go_at_call 26; (with_reducible refine (hln.out _ hT3).mono ?_); rintro e wx ⟨rfl, rfl⟩) | (go_at_call 16; (with_reducible refine (hmn.out _ hT3).mono ?_); rintro e wx ⟨rfl, rfl⟩) | (go_at_call 11; (with_reducible refine (hby.out _ hT3).mono ?_); rintro e wx ⟨rfl, rfl⟩) | (go_at_call 27; (with_reducible refine (hrb.out _ hT3).mono ?_); rintro e w4 ⟨rfl, hb4⟩; have hT4 := hT3.below hb4; have M4 := hMq.out _ hT4; have hB4 := bt hB3 hb4)); refine hK.out _ _ ?_ (fun hHeld => ?_)))
        · first | exact M1 | exact M2 | exact M3 | exact M4
        clear hK K
        try simp only [Act.put, List.setIfInBounds_toArray, List.set_cons_zero, List.set_cons_succ]
        refine call_next (i := 37) (by kernel_rfl) (by rfl) ?_
        intro o ho K hK
        simp only [List.getElem?_toArray, List.getElem?_cons_succ, List.getElem?_cons_zero, Option.some.injEq] at ho
        subst ho
        first | (fail; refine hK.out _ _ ?_ (fun hHeld => ?_)) | (go_simp; first | (with_reducible refine hK.out _ _ ?_ (fun hHeld => ?_)) | ((first | (go_at_call 13; (with_reducible refine (hal.out _ hT1).mono ?_); rintro e w2 ⟨⟨v2, rfl, hl2⟩, hb2⟩; have hT2 := hT1.below hb2; have M2 := hMq.out _ hT2; have hB2 := bt hB1 hb2) | (go_at_call 12; (with_reducible refine (same_same v2 _ _ _ (Go.Proofs.Ytlgbimpbdofloaa.sel bs many) w2 hl2.lx (hvx.out.below hB2) hL5).mono ?_); rintro e w3 ⟨rfl, hb3⟩; have hT3 := hT2.below hb3; have M3 := hMq.out _ hT3; have hB3 := bt hB2 hb3) | (go_at_call 26; (with_reducible refine (hln.out _ hT3).mono ?_); rintro e wx ⟨rfl, rfl⟩) | (go_at_call 16; (with_reducible refine (hmn.out _ hT3).mono ?_); rintro e wx ⟨rfl, rfl⟩) | (go_at_call 11; (with_reducible refine (hby.out _ hT3).mono ?_); rintro e wx ⟨rfl, rfl⟩) | (go_at_call 27; (with_reducible refine (hrb.out _ hT3).mono ?_); rintro e w4 ⟨rfl, hb4⟩; have hT4 := hT3.below hb4; have M4 := hMq.out _ hT4; have hB4 := bt hB3 hb4)); refine hK.out _ _ ?_ (fun hHeld => ?_)))
        · first | exact M1 | exact M2 | exact M3 | exact M4
        clear hK K
        try simp only [Act.put, List.setIfInBounds_toArray, List.set_cons_zero, List.set_cons_succ]
        first | (refine tw (i := 38) (v := ?_) ?_ hHeld ?_; rotate_left; focus (intro w hSw; (try dsimp only at hSw); go_simp; (try with_reducible rfl); done)) | refine tn (i := 38) hHeld ?_
        try simp only [Act.put, List.setIfInBounds_toArray, List.set_cons_zero, List.set_cons_succ]
        first | (refine tw (i := 39) (v := ?_) ?_ hHeld ?_; rotate_left; focus (intro w hSw; (try dsimp only at hSw); go_simp; (try with_reducible rfl); done)) | refine tn (i := 39) hHeld ?_
        try simp only [Act.put, List.setIfInBounds_toArray, List.set_cons_zero, List.set_cons_succ]
        first | (refine tw (i := 40) (v := ?_) ?_ hHeld ?_; rotate_left; focus (intro w hSw; (try dsimp only at hSw); go_simp; (try with_reducible rfl); done)) | refine tn (i := 40) hHeld ?_
        try simp only [Act.put, List.setIfInBounds_toArray, List.set_cons_zero, List.set_cons_succ]
        refine wpAnyH_done (by kernel_rfl) ?_ _
        go_wp2
        go_ret
        exact ⟨rfl, hT4.be⟩
      · rcases hvl with ⟨_, hl0⟩ | ⟨G, o, c6, hva, hcap, hG, hc⟩
        · rw [hl0] at hn; simp at hn; omega
        · have hvx0 : Lx iv w1 wr.heap.size v (Go.Proofs.Ytlgbimpbdofloaa.sel bs many) := Or.inr ⟨G, o, c6, hva, hcap, hG, hc⟩
          have hvx := Lib.hid hvx0
          clear hvx0
          have hlt2 : ((Go.Proofs.Ytlgbimpbdofloaa.sel bs many).take 2).length = 2 := by rw [List.length_take]; omega
          have hv2x : Lx iv w1 wr.heap.size (.slice (some ⟨G, o, none⟩) 2 c6) ((Go.Proofs.Ytlgbimpbdofloaa.sel bs many).take 2) := by
            refine .inr ⟨G, o, c6, by rw [hlt2], by omega, hG, fun j hj => ?_⟩
            rw [List.getElem_take]
            exact hc j (by rw [hlt2] at hj; omega)
          rw [hn] at hva hcap
          subst hva
          have hv2x := Lib.hid hv2x
          have hg2 : ¬ ((n : Int) < 2) := by omega
          have hc2 : 2 ≤ c6 := by omega
          have hc3 : ¬ ((c6 : Int) < 2) := by omega
          have hc4 : ¬ c6 = 0 := by omega
          have hc5 : (2 : Int) ≤ (c6 : Int) := by omega
          clear hm1 hv hb1 hA hm1' hmb hc hlt2
          refine wp_region_held_drew (S := (fun w' : World => w'.cell? ⟨q, 0, none⟩ = some (.slice (some ⟨gb, 0, none⟩) many cp))) (by kernel_rfl) ?_ (fun hHeld => ?_)
          · first | exact M1 | exact M2 | exact M3 | exact M4 | exact M5 | exact M6
          first | (refine tw (i := 0) (v := ?_) ?_ hHeld ?_; rotate_left; focus (intro w hSw; (try dsimp only at hSw); go_simp; (try with_reducible rfl); done)) | refine tn (i := 0) hHeld ?_
          try simp only [Act.put, List.setIfInBounds_toArray, List.set_cons_zero, List.set_cons_succ]
          first | (refine tw (i := 2) (v := ?_) ?_ hHeld ?_; rotate_left; focus (intro w hSw; (try dsimp only at hSw); go_simp; (try with_reducible rfl); done)) | refine tn (i := 2) hHeld ?_
          try simp only [Act.put, List.setIfInBounds_toArray, List.set_cons_zero, List.set_cons_succ]
          refine call_next (i := 1) (by kernel_rfl) (by rfl) ?_
          intro o ho K hK
          simp only [List.getElem?_toArray, List.getElem?_cons_succ, List.getElem?_cons_zero, Option.some.injEq] at ho
          subst ho
          first | (fail; refine hK.out _ _ ?_ (fun hHeld => ?_)) | (go_simp; first | (with_reducible refine hK.out _ _ ?_ (fun hHeld => ?_)) | ((first | (go_at_call 13; (with_reducible refine (hal.out _ hT1).mono ?_); rintro e w2 ⟨⟨v2, rfl, hl2⟩, hb2⟩; have hT2 := hT1.below hb2; have M2 := hMq.out _ hT2; have hB2 := bt hB1 hb2) | (go_at_call 12; (with_reducible refine (same_same v2 _ _ _ (Go.Proofs.Ytlgbimpbdofloaa.sel bs many) w2 hl2.lx (hvx.out.below hB2) hL5).mono ?_); rintro e w3 ⟨rfl, hb3⟩; have hT3 := hT2.below hb3; have M3 := hMq.out _ hT3; have hB3 := bt hB2 hb3) | (go_at_call 26; (with_reducible refine (hln.out _ hT3).mono ?_); rintro e wx ⟨rfl, rfl⟩) | (go_at_call 16; (with_reducible refine (hmn.out _ hT3).mono ?_); rintro e wx ⟨rfl, rfl⟩) | (go_at_call 11; (with_reducible refine (hby.out _ hT3).mono ?_); rintro e wx ⟨rfl, rfl⟩) | (go_at_call 27; (with_reducible refine (hrb.out _ hT3).mono ?_); rintro e w4 ⟨rfl, hb4⟩; have hT4 := hT3.below hb4; have M4 := hMq.out _ hT4; have hB4 := bt hB3 hb4) | (go_at_call 13; (with_reducible refine (hal2.out _ hT4).mono ?_); rintro e w5 ⟨⟨v5, rfl, hl5⟩, hb5⟩; have hT5 := hT4.below hb5; have M5 := hMq.out _ hT5; have hB5 := bt hB4 hb5) | (go_at_call 12; (with_reducible refine (same_same v5 _ _ _ ((Go.Proofs.Ytlgbimpbdofloaa.sel bs many).take 2) w5 hl5.lx (hv2x.out.below hB5) hL52).mono ?_); rintro e w6 ⟨rfl, hb6⟩; have hT6 := hT5.below hb6; have M6 := hMq.out _ hT6)); refine hK.out _ _ ?_ (fun hHeld => ?_)))
          · first | exact M1 | exact M2 | exact M3 | exact M4 | exact M5 | exact M6
          clear hK K
          try simp only [Act.put, List.setIfInBounds_toArray, List.set_cons_zero, List.set_cons_succ]
          refine call_next (i := 3) (by kernel_rfl) (by rfl) ?_
          intro o ho K hK
          simp only [List.getElem?_toArray, List.getElem?_cons_succ, List.getElem?_cons_zero, Option.some.injEq] at ho
          subst ho
          first | (fail; refine hK.out _ _ ?_ (fun hHeld => ?_)) | (go_simp; first | (with_reducible refine hK.out _ _ ?_ (fun hHeld => ?_)) | ((first | (go_at_call 13; (with_reducible refine (hal.out _ hT1).mono ?_); rintro e w2 ⟨⟨v2, rfl, hl2⟩, hb2⟩; have hT2 := hT1.below hb2; have M2 := hMq.out _ hT2; have hB2 := bt hB1 hb2) | (go_at_call 12; (with_reducible refine (same_same v2 _ _ _ (Go.Proofs.Ytlgbimpbdofloaa.sel bs many) w2 hl2.lx (hvx.out.below hB2) hL5).mono ?_); rintro e w3 ⟨rfl, hb3⟩; have hT3 := hT2.below hb3; have M3 := hMq.out _ hT3; have hB3 := bt hB2 hb3) | (go_at_call 26; (with_reducible refine (hln.out _ hT3).mono ?_); rintro e wx ⟨rfl, rfl⟩) | (go_at_call 16; (with_reducible refine (hmn.out _ hT3).mono ?_); rintro e wx ⟨rfl, rfl⟩) | (go_at_call 11; (with_reducible refine (hby.out _ hT3).mono ?_); rintro e wx ⟨rfl, rfl⟩) | (go_at_call 27; (with_reducible refine (hrb.out _ hT3).mono ?_); rintro e w4 ⟨rfl, hb4⟩; have hT4 := hT3.below hb4; have M4 := hMq.out _ hT4; have hB4 := bt hB3 hb4) | (go_at_call 13; (with_reducible refine (hal2.out _ hT4).mono ?_); rintro e w5 ⟨⟨v5, rfl, hl5⟩, hb5⟩; have hT5 := hT4.below hb5; have M5 := hMq.out _ hT5; have hB5 := bt hB4 hb5) | (go_at_call 12; (with_reducible refine (same_same v5 _ _ _ ((Go.Proofs.Ytlgbimpbdofloaa.sel bs many).take 2) w5 hl5.lx (hv2x.out.below hB5) hL52).mono ?_); rintro e w6 ⟨rfl, hb6⟩; have hT6 := hT5.below hb6; have M6 := hMq.out _ hT6)); refine hK.out _ _ ?_ (fun hHeld => ?_)))
          · first | exact M1 | exact M2 | exact M3 | exact M4 | exact M5 | exact M6
          clear hK K
          try simp only [Act.put, List.setIfInBounds_toArray, List.set_cons_zero, List.set_cons_succ]
          first | (refine tw (i := 4) (v := ?_) ?_ hHeld ?_; rotate_left; focus (intro w hSw; (try dsimp only at hSw); go_simp; (try with_reducible rfl); done)) | refine tn (i := 4) hHeld ?_
          try simp only [Act.put, List.setIfInBounds_toArray, List.set_cons_zero, List.set_cons_succ]
          first | (refine tw (i := 5) (v := ?_) ?_ hHeld ?_; rotate_left; focus (intro w hSw; (try dsimp only at hSw); go_simp; (try with_reducible rfl); done)) | refine tn (i := 5) hHeld ?_
          try simp only [Act.put, List.setIfInBounds_toArray, List.set_cons_zero, List.set_cons_succ]
          first | (refine tw (i := 7) (v := ?_) ?_ hHeld ?_; rotate_left; focus (intro w hSw; (try dsimp only at hSw); go_simp; (try with_reducible rfl); done)) | refine tn (i := 7) hHeld ?_
          try simp only [Act.put, List.setIfInBounds_toArray, List.set_cons_zero, List.set_cons_succ]
          first | (refine tw (i := 8) (v := ?_) ?_ hHeld ?_; rotate_left; focus (intro w hSw; (try dsimp only at hSw); go_simp; (try with_reducible rfl); done)) | refine tn (i := 8) hHeld ?_
          try simp only [Act.put, List.setIfInBounds_toArray, List.set_cons_zero, List.set_cons_succ]
          refine call_next (i := 6) (by kernel_rfl) (by rfl) ?_
          intro o ho K hK
          simp only [List.getElem?_toArray, List.getElem?_cons_succ, List.getElem?_cons_zero, Option.some.injEq] at ho
          subst ho
          first | (fail; refine hK.out _ _ ?_ (fun hHeld => ?_)) | (go_simp; first | (with_reducible refine hK.out _ _ ?_ (fun hHeld => ?_)) | ((first | (go_at_call 13; (with_reducible refine (hal.out _ hT1).mono ?_); rintro e w2 ⟨⟨v2, rfl, hl2⟩, hb2⟩; have hT2 := hT1.below hb2; have M2 := hMq.out _ hT2; have hB2 := bt hB1 hb2) | (go_at_call 12; (with_reducible refine (same_same v2 _ _ _ (Go.Proofs.Ytlgbimpbdofloaa.sel bs many) w2 hl2.lx (hvx.out.below hB2) hL5).mono ?_); rintro e w3 ⟨rfl, hb3⟩; have hT3 := hT2.below hb3; have M3 := hMq.out _ hT3; have hB3 := bt hB2 hb3) | (go_at_call 26; (with_reducible refine (hln.out _ hT3).mono ?_); rintro e wx ⟨rfl, rfl⟩) | (go_at_call 16; (with_reducible refine (hmn.out _ hT3).mono ?_); rintro e wx ⟨rfl, rfl⟩) | (go_at_call 11; (with_reducible refine (hby.out _ hT3).mono ?_); rintro e wx ⟨rfl, rfl⟩) | (go_at_call 27; (with_reducible refine (hrb.out _ hT3).mono ?_); rintro e w4 ⟨rfl, hb4⟩; have hT4 := hT3.below hb4; have M4 := hMq.out _ hT4; have hB4 := bt hB3 hb4) | (go_at_call 13; (with_reducible refine (hal2.out _ hT4).mono ?_); rintro e w5 ⟨⟨v5, rfl, hl5⟩, hb5⟩; have hT5 := hT4.below hb5; have M5 := hMq.out _ hT5; have hB5 := bt hB4 hb5) | (go_at_call 12; (with_reducible refine (same_same v5 _ _ _ ((Go.Proofs.Ytlgbimpbdofloaa.sel bs many).take 2) w5 hl5.lx (hv2x.out.below hB5) hL52).mono ?_); rintro e w6 ⟨rfl, hb6⟩; have hT6 := hT5.below hb6; have M6 := hMq.out _ hT6)); refine hK.out _ _ ?_ (fun hHeld => ?_)))
          · first | exact M1 | exact M2 | exact M3 | exact M4 | exact M5 | exact M6
          clear hK K
          try simp only [Act.put, List.setIfInBounds_toArray, List.set_cons_zero, List.set_cons_succ]
          first | (refine tw (i := 9) (v := ?_) ?_ hHeld ?_; rotate_left; focus (intro w hSw; (try dsimp only at hSw); go_simp; (try with_reducible rfl); done)) | refine tn (i := 9) hHeld ?_
          try simp only [Act.put, List.setIfInBounds_toArray, List.set_cons_zero, List.set_cons_succ]
          first | (refine tw (i := 10) (v := ?_) ?_ hHeld ?_; rotate_left; focus (intro w hSw; (try dsimp only at hSw); go_simp; (try with_reducible rfl); done)) | refine tn (i := 10) hHeld ?_
          try simp only [Act.put, List.setIfInBounds_toArray, List.set_cons_zero, List.set_cons_succ]
          first | (refine tw (i := 11) (v := ?_) ?_ hHeld ?_; rotate_left; focus (intro w hSw; (try dsimp only at hSw); go_simp; (try with_reducible rfl); done)) | refine tn (i := 11) hHeld ?_
          try simp only [Act.put, List.setIfInBounds_toArray, List.set_cons_zero, List.set_cons_succ]
          first | (refine tw (i := 12) (v := ?_) ?_ hHeld ?_; rotate_left; focus (intro w hSw; (try dsimp only at hSw); go_simp; (try with_reducible rfl); done)) | refine tn (i := 12) hHeld ?_
          try simp only [Act.put, List.setIfInBounds_toArray, List.set_cons_zero, List.set_cons_succ]
          first | (refine tw (i := 14) (v := ?_) ?_ hHeld ?_; rotate_left; focus (intro w hSw; (try dsimp only at hSw); go_simp; (try with_reducible rfl); done)) | refine tn (i := 14) hHeld ?_
          try simp only [Act.put, List.setIfInBounds_toArray, List.set_cons_zero, List.set_cons_succ]
          first | (refine tw (i := 15) (v := ?_) ?_ hHeld ?_; rotate_left; focus (intro w hSw; (try dsimp only at hSw); go_simp; (try with_reducible rfl); done)) | refine tn (i := 15) hHeld ?_
          try simp only [Act.put, List.setIfInBounds_toArray, List.set_cons_zero, List.set_cons_succ]
          first | (refine tw (i := 16) (v := ?_) ?_ hHeld ?_; rotate_left; focus (intro w hSw; (try dsimp only at hSw); go_simp; (try with_reducible rfl); done)) | refine tn (i := 16) hHeld ?_
          try simp only [Act.put, List.setIfInBounds_toArray, List.set_cons_zero, List.set_cons_succ]
          first | (refine tw (i := 17) (v := ?_) ?_ hHeld ?_; rotate_left; focus (intro w hSw; (try dsimp only at hSw); go_simp; (try with_reducible rfl); done)) | refine tn (i := 17) hHeld ?_
          try simp only [Act.put, List.setIfInBounds_toArray, List.set_cons_zero, List.set_cons_succ]
          first | (refine tw (i := 18) (v := ?_) ?_ hHeld ?_; rotate_left; focus (intro w hSw; (try dsimp only at hSw); go_simp; (try with_reducible rfl); done)) | refine tn (i := 18) hHeld ?_
          try simp only [Act.put, List.setIfInBounds_toArray, List.set_cons_zero, List.set_cons_succ]
          refine call_next (i := 13) (by kernel_rfl) (by rfl) ?_
          intro o ho K hK
          simp only [List.getElem?_toArray, List.getElem?_cons_succ, List.getElem?_cons_zero, Option.some.injEq] at ho
          subst ho
          first | (fail; refine hK.out _ _ ?_ (fun hHeld => ?_)) | (go_simp; first | (with_reducible refine hK.out _ _ ?_ (fun hHeld => ?_)) | ((first | (go_at_call 13; (with_reducible refine (hal.out _ hT1).mono ?_); rintro e w2 ⟨⟨v2, rfl, hl2⟩, hb2⟩; have hT2 := hT1.below hb2; have M2 := hMq.out _ hT2; have hB2 := bt hB1 hb2) | (go_at_call 12; (with_reducible refine (same_same v2 _ _ _ (Go.Proofs.Ytlgbimpbdofloaa.sel bs many) w2 hl2.lx (hvx.out.below hB2) hL5).mono ?_); rintro e w3 ⟨rfl, hb3⟩; have hT3 := hT2.below hb3; have M3 := hMq.out _ hT3; have hB3 := bt hB2 hb3) | (go_at_call 26; (with_reducible refine (hln.out _ hT3).mono ?_); rintro e wx ⟨rfl, rfl⟩) | (go_at_call 16; (with_reducible refine (hmn.out _ hT3).mono ?_); rintro e wx ⟨rfl, rfl⟩) | (go_at_call 11; (with_reducible refine (hby.out _ hT3).mono ?_); rintro e wx ⟨rfl, rfl⟩) | (go_at_call 27; (with_reducible refine (hrb.out _ hT3).mono ?_); rintro e w4 ⟨rfl, hb4⟩; have hT4 := hT3.below hb4; have M4 := hMq.out _ hT4; have hB4 := bt hB3 hb4) | (go_at_call 13; (with_reducible refine (hal2.out _ hT4).mono ?_); rintro e w5 ⟨⟨v5, rfl, hl5⟩, hb5⟩; have hT5 := hT4.below hb5; have M5 := hMq.out _ hT5; have hB5 := bt hB4 hb5) | (go_at_call 12; (with_reducible refine (same_same v5 _ _ _ ((Go.Proofs.Ytlgbimpbdofloaa.sel bs many).take 2) w5 hl5.lx (hv2x.out.below hB5) hL52).mono ?_); rintro e w6 ⟨rfl, hb6⟩; have hT6 := hT5.below hb6; have M6 := hMq.out _ hT6)); refine hK.out _ _ ?_ (fun hHeld => ?_)))
          · first | exact M1 | exact M2 | exact M3 | exact M4 | exact M5 | exact M6
          clear hK K
          try simp only [Act.put, List.setIfInBounds_toArray, List.set_cons_zero, List.set_cons_succ]
          first | (refine tw (i := 19) (v := ?_) ?_ hHeld ?_; rotate_left; focus (intro w hSw; (try dsimp only at hSw); go_simp; (try with_reducible rfl); done)) | refine tn (i := 19) hHeld ?_
          try simp only [Act.put, List.setIfInBounds_toArray, List.set_cons_zero, List.set_cons_succ]
          first | (refine tw (i := 20) (v := ?_) ?_ hHeld ?_; rotate_left; focus (intro w hSw; (try dsimp only at hSw); go_simp; (try with_reducible rfl); done)) | refine tn (i := 20) hHeld ?_
          try simp only [Act.put, List.setIfInBounds_toArray, List.set_cons_zero, List.set_cons_succ]
          first | (refine tw (i := 21) (v := ?_) ?_ hHeld ?_; rotate_left; focus (intro w hSw; (try dsimp only at hSw); go_simp; (try with_reducible rfl); done)) | refine tn (i := 21) hHeld ?_
          try simp only [Act.put, List.setIfInBounds_toArray, List.set_cons_zero, List.set_cons_succ]
          first | (refine tw (i := 22) (v := ?_) ?_ hHeld ?_; rotate_left; focus (intro w hSw; (try dsimp only at hSw); go_simp; (try with_reducible rfl); done)) | refine tn (i := 22) hHeld ?_
          try simp only [Act.put, List.setIfInBounds_toArray, List.set_cons_zero, List.set_cons_succ]
          first | (refine tw (i := 24) (v := ?_) ?_ hHeld ?_; rotate_left; focus (intro w hSw; (try dsimp only at hSw); go_simp; (try with_reducible rfl); done)) | refine tn (i := 24) hHeld ?_
          try simp only [Act.put, List.setIfInBounds_toArray, List.set_cons_zero, List.set_cons_succ]
          refine call_next (i := 23) (by kernel_rfl) (by rfl) ?_
          intro o ho K hK
          simp only [List.getElem?_toArray, List.getElem?_cons_succ, List.getElem?_cons_zero, Option.some.injEq] at ho
          subst ho
          first | (fail; refine hK.out _ _ ?_ (fun hHeld => ?_)) | (go_simp; first | (with_reducible refine hK.out _ _ ?_ (fun hHeld => ?_)) | ((first | (go_at_call 13; (with_reducible refine (hal.out _ hT1).mono ?_); rintro e w2 ⟨⟨v2, rfl, hl2⟩, hb2⟩; have hT2 := hT1.below hb2; have M2 := hMq.out _ hT2; have hB2 := bt hB1 hb2) | (go_at_call 12; (with_reducible refine (same_same v2 _ _ _ (Go.Proofs.Ytlgbimpbdofloaa.sel bs many) w2 hl2.lx (hvx.out.below hB2) hL5).mono ?_); rintro e w3 ⟨rfl, hb3⟩; have hT3 := hT2.below hb3; have M3 := hMq.out _ hT3; have hB3 := bt hB2 hb3) | (go_at_call 26; (with_reducible refine (hln.out _ hT3).mono ?_); rintro e wx ⟨rfl, rfl⟩) | (go_at_call 16; (with_reducible refine (hmn.out _ hT3).mono ?_); rintro e wx ⟨rfl, rfl⟩) | (go_at_call 11; (with_reducible refine (hby.out _ hT3).mono ?_); rintro e wx ⟨rfl, rfl⟩) | (go_at_call 27; (with_reducible refine (hrb.out _ hT3).mono ?_); rintro e w4 ⟨rfl, hb4⟩; have hT4 := hT3.below hb4; have M4 := hMq.out _ hT4; have hB4 := bt hB3 hb4) | (go_at_call 13; (with_reducible refine (hal2.out _ hT4).mono ?_); rintro e w5 ⟨⟨v5, rfl, hl5⟩, hb5⟩; have hT5 := hT4.below hb5; have M5 := hMq.out _ hT5; have hB5 := bt hB4 hb5) | (go_at_call 12; (with_reducible refine (same_same v5 _ _ _ ((Go.Proofs.Ytlgbimpbdofloaa.sel bs many).take 2) w5 hl5.lx (hv2x.out.below hB5) hL52).mono ?_); rintro e w6 ⟨rfl, hb6⟩; have hT6 := hT5.below hb6; have M6 := hMq.out _ hT6)); refine hK.out _ _ ?_ (fun hHeld => ?_)))
          · first | exact M1 | exact M2 | exact M3 | exact M4 | exact M5 | exact M6
          clear hK K
          try simp only [Act.put, List.setIfInBounds_toArray, List.set_cons_zero, List.set_cons_succ]
          refine call_next (i := 25) (by kernel_rfl) (by rfl) ?_
          intro o ho K hK
          simp only [List.getElem?_toArray, List.getElem?_cons_succ, List.getElem?_cons_zero, Option.some.injEq] at ho
          subst ho
          first | (fail; refine hK.out _ _ ?_ (fun hHeld => ?_)) | (go_simp; first | (with_reducible refine hK.out _ _ ?_ (fun hHeld => ?_)) | ((first | (go_at_call 13; (with_reducible refine (hal.out _ hT1).mono ?_); rintro e w2 ⟨⟨v2, rfl, hl2⟩, hb2⟩; have hT2 := hT1.below hb2; have M2 := hMq.out _ hT2; have hB2 := bt hB1 hb2) | (go_at_call 12; (with_reducible refine (same_same v2 _ _ _ (Go.Proofs.Ytlgbimpbdofloaa.sel bs many) w2 hl2.lx (hvx.out.below hB2) hL5).mono ?_); rintro e w3 ⟨rfl, hb3⟩; have hT3 := hT2.below hb3; have M3 := hMq.out _ hT3; have hB3 := bt hB2 hb3) | (go_at_call 26; (with_reducible refine (hln.out _ hT3).mono ?_); rintro e wx ⟨rfl, rfl⟩) | (go_at_call 16; (with_reducible refine (hmn.out _ hT3).mono ?_); rintro e wx ⟨rfl, rfl⟩) | (go_at_call 11; (with_reducible refine (hby.out _ hT3).mono ?_); rintro e wx ⟨rfl, rfl⟩) | (go_at_call 27; (with_reducible refine (hrb.out _ hT3).mono ?_); rintro e w4 ⟨rfl, hb4⟩; have hT4 := hT3.below hb4; have M4 := hMq.out _ hT4; have hB4 := bt hB3 hb4) | (go_at_call 13; (with_reducible refine (hal2.out _ hT4).mono ?_); rintro e w5 ⟨⟨v5, rfl, hl5⟩, hb5⟩; have hT5 := hT4.below hb5; have M5 := hMq.out _ hT5; have hB5 := bt hB4 hb5) | (go_at_call 12; (with_reducible refine (same_same v5 _ _ _ ((Go.Proofs.Ytlgbimpbdofloaa.sel bs many).take 2) w5 hl5.lx (hv2x.out.below hB5) hL52).mono ?_); rintro e w6 ⟨rfl, hb6⟩; have hT6 := hT5.below hb6; have M6 := hMq.out _ hT6)); refine hK.out _ _ ?_ (fun hHeld => ?_)))
          · first | exact M1 | exact M2 | exact M3 | exact M4 | exact M5 | exact M6
          clear hK K
          try simp only [Act.put, List.setIfInBounds_toArray, List.set_cons_zero, List.set_cons_succ]
          first | (refine tw (i := 26) (v := ?_) ?_ hHeld ?_; rotate_left; focus (intro w hSw; (try dsimp only at hSw); go_simp; (try with_reducible rfl); done)) | refine tn (i := 26) hHeld ?_
          try simp only [Act.put, List.setIfInBounds_toArray, List.set_cons_zero, List.set_cons_succ]
          first | (refine tw (i := 27) (v := ?_) ?_ hHeld ?_; rotate_left; focus (intro w hSw; (try dsimp only at hSw); go_simp; (try with_reducible rfl); done)) | refine tn (i := 27) hHeld ?_
          try simp only [Act.put, List.setIfInBounds_toArray, List.set_cons_zero, List.set_cons_succ]
          first | (refine tw (i := 28) (v := ?_) ?_ hHeld ?_; rotate_left; focus (intro w hSw; (try dsimp only at hSw); go_simp; (try with_reducible rfl); done)) | refine tn (i := 28) hHeld ?_
          try simp only [Act.put, List.setIfInBounds_toArray, List.set_cons_zero, List.set_cons_succ]
          first | (refine tw (i := 29) (v := ?_) ?_ hHeld ?_; rotate_left; focus (intro w hSw; (try dsimp only at hSw); go_simp; (try with_reducible rfl); done)) | refine tn (i := 29) hHeld ?_
          try simp only [Act.put, List.setIfInBounds_toArray, List.set_cons_zero, List.set_cons_succ]
          first | (refine tw (i := 30) (v := ?_) ?_ hHeld ?_; rotate_left; focus (intro w hSw; (try dsimp only at hSw); go_simp; (try with_reducible rfl); done)) | refine tn (i := 30) hHeld ?_
          try simp only [Act.put, List.setIfInBounds_toArray, List.set_cons_zero, List.set_cons_succ]
          first | (refine tw (i := 31) (v := ?_) ?_ hHeld ?_; rotate_left; focus (intro w hSw; (try dsimp only at hSw); go_simp; (try with_reducible rfl); done)) | refine tn (i := 31) hHeld ?_
          try simp only [Act.put, List.setIfInBounds_toArray, List.set_cons_zero, List.set_cons_succ]
          first | (refine tw (i := 32) (v := ?_) ?_ hHeld ?_; rotate_left; focus (intro w hSw; (try dsimp only at hSw); go_simp; (try with_reducible rfl); done)) | refine tn (i := 32) hHeld ?_
          try simp only [Act.put, List.setIfInBounds_toArray, List.set_cons_zero, List.set_cons_succ]
          first | (refine tw (i := 33) (v := ?_) ?_ hHeld ?_; rotate_left; focus (intro w hSw; (try dsimp only at hSw); go_simp; (try with_reducible rfl); done)) | refine tn (i := 33) hHeld ?_
          try simp only [Act.put, List.setIfInBounds_toArray, List.set_cons_zero, List.set_cons_succ]
          first | (refine tw (i := 35) (v := ?_) ?_ hHeld ?_; rotate_left; focus (intro w hSw; (try dsimp only at hSw); go_simp; (try with_reducible rfl); done)) | refine tn (i := 35) hHeld ?_
          try simp only [Act.put, List.setIfInBounds_toArray, List.set_cons_zero, List.set_cons_succ]
          first | (refine tw (i := 36) (v := ?_) ?_ hHeld ?_; rotate_left; focus (intro w hSw; (try dsimp only at hSw); go_simp; (try with_reducible rfl); done)) | refine tn (i := 36) hHeld ?_
          try simp only [Act.put, List.setIfInBounds_toArray, List.set_cons_zero, List.set_cons_succ]
          refine call_next (i := 34) (by kernel_rfl) (by rfl) ?_
          intro o ho K hK
          simp only [List.getElem?_toArray, List.getElem?_cons_succ, List.getElem?_cons_zero, Option.some.injEq] at ho
          subst ho
          first | (fail; refine hK.out _ _ ?_ (fun hHeld => ?_)) | (go_simp; first | (with_reducible refine hK.out _ _ ?_ (fun hHeld => ?_)) | ((first | (go_at_call 13; (with_reducible refine (hal.out _ hT1).mono ?_); rintro e w2 ⟨⟨v2, rfl, hl2⟩, hb2⟩; have hT2 := hT1.below hb2; have M2 := hMq.out _ hT2; have hB2 := bt hB1 hb2) | (go_at_call 12; (with_reducible refine (same_same v2 _ _ _ (Go.Proofs.Ytlgbimpbdofloaa.sel bs many) w2 hl2.lx (hvx.out.below hB2) hL5).mono ?_); rintro e w3 ⟨rfl, hb3⟩; have hT3 := hT2.below hb3; have M3 := hMq.out _ hT3; have hB3 := bt hB2 hb3) | (go_at_call 26; (with_reducible refine (hln.out _ hT3).mono ?_); rintro e wx ⟨rfl, rfl⟩) | (go_at_call 16; (with_reducible refine (hmn.out _ hT3).mono ?_); rintro e wx ⟨rfl, rfl⟩) | (go_at_call 11; (with_reducible refine (hby.out _ hT3).mono ?_); rintro e wx ⟨rfl, rfl⟩) | (go_at_call 27; (with_reducible refine (hrb.out _ hT3).mono ?_); rintro e w4 ⟨rfl, hb4⟩; have hT4 := hT3.below hb4; have M4 := hMq.out _ hT4; have hB4 := bt hB3 hb4) | (go_at_call 13; (with_reducible refine (hal2.out _ hT4).mono ?_); rintro e w5 ⟨⟨v5, rfl, hl5⟩, hb5⟩; have hT5 := hT4.below hb5; have M5 := hMq.out _ hT5; have hB5 := bt hB4 hb5) | (go_at_call 12; (with_reducible refine (same_same v5 _ _ _ ((Go.Proofs.Ytlgbimpbdofloaa.sel bs many).take 2) w5 hl5.lx (hv2x.out.below hB5) hL52).mono ?_); rintro e w6 ⟨rfl, hb6⟩; have hT6 := hT5.below hb6; have M6 := hMq.out _ hT6)); refine hK.out _ _ ?_ (fun hHeld => ?_)))
          · first | exact M1 | exact M2 | exact M3 | exact M4 | exact M5 | exact M6
          clear hK K
          try simp only [Act.put, List.setIfInBounds_toArray, List.set_cons_zero, List.set_cons_succ]
          refine call_next (i := 37) (by kernel_rfl) (by rfl) ?_
          intro o ho K hK
          simp only [List.getElem?_toArray, List.getElem?_cons_succ, List.getElem?_cons_zero, Option.some.injEq] at ho
          subst ho
          first | (fail; refine hK.out _ _ ?_ (fun hHeld => ?_)) | (go_simp; first | (with_reducible refine hK.out _ _ ?_ (fun hHeld => ?_)) | ((first | (go_at_call 13; (with_reducible refine (hal.out _ hT1).mono ?_); rintro e w2 ⟨⟨v2, rfl, hl2⟩, hb2⟩; have hT2 := hT1.below hb2; have M2 := hMq.out _ hT2; have hB2 := bt hB1 hb2) | (go_at_call 12; (with_reducible refine (same_same v2 _ _ _ (Go.Proofs.Ytlgbimpbdofloaa.sel bs many) w2 hl2.lx (hvx.out.below hB2) hL5).mono ?_); rintro e w3 ⟨rfl, hb3⟩; have hT3 := hT2.below hb3; have M3 := hMq.out _ hT3; have hB3 := bt hB2 hb3) | (go_at_call 26; (with_reducible refine (hln.out _ hT3).mono ?_); rintro e wx ⟨rfl, rfl⟩) | (go_at_call 16; (with_reducible refine (hmn.out _ hT3).mono ?_); rintro e wx ⟨rfl, rfl⟩) | (go_at_call 11; (with_reducible refine (hby.out _ hT3).mono ?_); rintro e wx ⟨rfl, rfl⟩) | (go_at_call 27; (with_reducible refine (hrb.out _ hT3).mono ?_); rintro e w4 ⟨rfl, hb4⟩; have hT4 := hT3.below hb4; have M4 := hMq.out _ hT4; have hB4 := bt hB3 hb4) | (go_at_call 13; (with_reducible refine (hal2.out _ hT4).mono ?_); rintro e w5 ⟨⟨v5, rfl, hl5⟩, hb5⟩; have hT5 := hT4.below hb5; have M5 := hMq.out _ hT5; have hB5 := bt hB4 hb5) | (go_at_call 12; (with_reducible refine (same_same v5 _ _ _ ((Go.Proofs.Ytlgbimpbdofloaa.sel bs many).take 2) w5 hl5.lx (hv2x.out.below hB5) hL52).mono ?_); rintro e w6 ⟨rfl, hb6⟩; have hT6 := hT5.below hb6; have M6 := hMq.out _ hT6)); refine hK.out _ _ ?_ (fun hHeld => ?_)))
          · first | exact M1 | exact M2 | exact M3 | exact M4 | exact M5 | exact M6
          clear hK K
          try simp only [Act.put, List.setIfInBounds_toArray, List.set_cons_zero, List.set_cons_succ]
          first | (refine tw (i := 38) (v := ?_) ?_ hHeld ?_; rotate_left; focus (intro w hSw; (try dsimp only at hSw); go_simp; (try with_reducible rfl); done)) | refine tn (i := 38) hHeld ?_
          try simp only [Act.put, List.setIfInBounds_toArray, List.set_cons_zero, List.set_cons_succ]
          first | (refine tw (i := 39) (v := ?_) ?_ hHeld ?_; rotate_left; focus (intro w hSw; (try dsimp only at hSw); go_simp; (try with_reducible rfl); done)) | refine tn (i := 39) hHeld ?_
          try simp only [Act.put, List.setIfInBounds_toArray, List.set_cons_zero, List.set_cons_succ]
          first | (refine tw (i := 40) (v := ?_) ?_ hHeld ?_; rotate_left; focus (intro w hSw; (try dsimp only at hSw); go_simp; (try with_reducible rfl); done)) | refine tn (i := 40) hHeld ?_
          try simp only [Act.put, List.setIfInBounds_toArray, List.set_cons_zero, List.set_cons_succ]
          refine wpAnyH_done (by kernel_rfl) ?_ _
          go_wp2
          go_ret
          exact ⟨rfl, hT6.be⟩
end Go.Proofs.Ytlgbimpbdofloaa
