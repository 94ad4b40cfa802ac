/-
  The statement RingDoes.
-/
import Derived.Test.YtmjkahbjpkkdgaaRingDoes0
namespace Go.Proofs.Ytmjkahbjpkkdgaa
open Go.RowKit
set_option linter.unusedVariables false
set_option linter.unusedSimpArgs false

structure ROp where
  k : Int
  n : Int
def ropE (x : ROp) : List Value := [.int .i64 x.k, .int .i64 x.n]
def ropOk (x : ROp) : Prop := (Lit.int .i64 x.k).wf = true ∧ (Lit.int .i64 x.n).wf = true
instance : Inhabited ROp := ⟨⟨0, 0⟩⟩
theorem rop_of (vs : List Value) (h : OKs [LK.int .i64, LK.int .i64] vs) : ∃ x, vs = ropE x ∧ ropOk x := by
  obtain ⟨c0, r0, rfl, h0, h⟩ := OKs.cons h
  obtain ⟨c1, r1, rfl, h1, h⟩ := OKs.cons h
  obtain rfl := OKs.nil h
  obtain ⟨a0, rfl, w0⟩ := h0
  obtain ⟨a1, rfl, w1⟩ := h1
  exact ⟨⟨a0, a1⟩, rfl, w0, w1⟩
/-- ring and reference hold the same list -/
structure RST (r g q c : Nat) (w : World) (L : List Int) (wr : World) : Prop where
  rg : RGx wr r g L c
  rf : RFx wr q (q + 2) L c
  c6 : wr.cell? ⟨q + 1, 0, none⟩ = some (.pointer (some ⟨q, 0, none⟩))
  hB : q + 2 ≤ wr.heap.size
  be : Below w.heap.size w wr
structure RLay (w : World) (r g q : Nat) : Prop where
  nr : w.heap.size ≤ r
  ng : w.heap.size ≤ g
  rq : r < q
  gq : g < q
theorem RST.below {r g q c : Nat} {w w1 w2 : World} {L : List Int} (h : RST r g q c w L w1) (hb : Below w1.heap.size w1 w2) : RST r g q c w L w2 :=
  ⟨h.rg.below hb, h.rf.below hb, bkeep hb h.c6, Nat.le_trans h.hB hb.size, h.be.trans (hb.mono h.be.size)⟩
theorem RST.a {r g q c : Nat} {w w1 w2 : World} {L L' : List Int} (y : RLay w r g q) (h : RST r g q c w L w1) (hg : RGx w2 r g L' c) (hf : Frm (fun k => k = r ∨ k = g) w1 w2) :
    RGx w2 r g L' c ∧ RFx w2 q (q + 2) L c ∧ w2.cell? ⟨q + 1, 0, none⟩ = some (.pointer (some ⟨q, 0, none⟩)) ∧ q + 2 ≤ w2.heap.size ∧ Below w.heap.size w w2 := by
  have := y.rq; have := y.gq; have := y.nr; have := y.ng
  exact ⟨hg, h.rf.frm hf (by omega) (by intro k hk; omega), hf.cell (p := ⟨q + 1, 0, none⟩) (by rintro (h | h) <;> simp at h <;> omega) h.c6, Nat.le_trans h.hB hf.size, belowF h.be hf (by rintro k (rfl | rfl) <;> omega)⟩
theorem RST.b {r g q c : Nat} {w w1 w2 : World} {L L' : List Int} (y : RLay w r g q) (h : RGx w1 r g L' c ∧ RFx w1 q (q + 2) L c ∧ w1.cell? ⟨q + 1, 0, none⟩ = some (.pointer (some ⟨q, 0, none⟩)) ∧ q + 2 ≤ w1.heap.size ∧ Below w.heap.size w w1) (hq : RFx w2 q (q + 2) L' c) (hf : Frm (· = q) w1 w2) :
    RST r g q c w L' w2 := by
  have := y.rq; have := y.gq; have := y.nr; have := y.ng
  exact ⟨h.1.frm hf (by omega) (by omega), hq, hf.cell (p := ⟨q + 1, 0, none⟩) (by intro h; simp at h) h.2.2.1, Nat.le_trans h.2.2.2.1 hf.size, belowF h.2.2.2.2 hf (by rintro k rfl; omega)⟩
def RD1 (r g q c len : Nat) (w : World) (i : Value) (wr : World) : Prop := ∃ k : Nat, k ≤ len ∧ i = .int .i64 k ∧ ∃ L, RST r g q c w L wr
theorem ownFrom_be {B : Nat} {w0 : World} (h : w0.heap.size ≤ B) : OwnFrom B (fun (_ : List Int) W => Below w0.heap.size w0 W) :=
  fun _ W W' row hs hg hr => hs.trans ((Below.refl _ W).grown hg hs.size (fun k e => Nat.le_trans h (hr k e).1))
def DJ (w0 : World) (c16 c17 : Nat) (pre : List Int) (W : World) : Prop := (W.cell? ⟨c16, 0, none⟩ = some (.int .i64 pre.length) ∧ W.frozen? ⟨c16, 0, none⟩ = false ∧ W.frozen? ⟨c17, 0, none⟩ = false ∧ ∃ b, W.cell? ⟨c17, 0, none⟩ = some (.bool b) ∧ (pre = uptoI pre.length → b = true)) ∧ Below w0.heap.size w0 W
theorem dj_own {B : Nat} {w0 : World} {c16 c17 : Nat} (h : w0.heap.size ≤ B) : OwnFrom B (DJ w0 c16 c17) :=
  OwnFrom.and (Own.from (fun s A B row hs hg hr => by
    obtain ⟨h1, h2, h3, b, h4, h5⟩ := hs
    exact ⟨cell_kept h1 hg hr, (frozen_kept h1 hg hr).trans h2, (frozen_kept h4 hg hr).trans h3, b, cell_kept h4 hg hr, h5⟩) _) (ownFrom_be h)
theorem does_tell (r g c q P c6 c16 c17 : Nat) (L : List Int) (w0 w : World) (hR : RGx w r g L c) (hA : RA w0 q L) (h6 : w0.cell? ⟨c6, 0, none⟩ = some (.pointer (some ⟨q, 0, none⟩))) (hb : Below w0.heap.size w0 w)
    (hP : w.cell? ⟨P, 0, none⟩ = some (.pointer (some ⟨r, 0, none⟩))) (hr : r < w0.heap.size) (hg : g < w0.heap.size) (g16 : w0.heap.size ≤ c16) (g17 : w0.heap.size ≤ c17) (hne : c16 ≠ c17) (p16 : P ≠ c16) (p17 : P ≠ c17)
    (hc16 : w.cell? ⟨c16, 0, none⟩ = some (.int .i64 0)) (f16 : w.frozen? ⟨c16, 0, none⟩ = false) (hc17 : w.cell? ⟨c17, 0, none⟩ = some (.bool true)) (f17 : w.frozen? ⟨c17, 0, none⟩ = false) :
    Calls Try.prog 27 #[.func (.func 19) #[] #[.pointer (some ⟨c6, 0, none⟩), .pointer (some ⟨c16, 0, none⟩), .pointer (some ⟨c17, 0, none⟩)], .pointer (some ⟨P, 0, none⟩)] w fun e w' => e = .returned (.tuple #[]) ∧
      w'.cell? ⟨c16, 0, none⟩ = some (.int .i64 L.length) ∧ w'.cell? ⟨c17, 0, none⟩ = some (.bool true) ∧ Below w0.heap.size w0 w' := by
  have hle := hR.le
  obtain ⟨C, fr, hR, hCl, hL⟩ := hR
  refine (all1I_tell c6 c16 c17 r g fr L.length P C (fun k => k = c16 ∨ k = c17) (DJ w0 c16 c17) (fun _ _ => False) w hR hP (by omega) (by omega) (by omega) (fun k h => by rcases h with rfl | rfl; exact World.block_lt_of_cell? w _ hc16; exact World.block_lt_of_cell? w _ hc17) (dj_own hb.size) (fun _ _ _ _ h _ _ => h) ?_ ⟨⟨hc16, f16, f17, true, hc17, fun _ => rfl⟩, hb⟩).mono ?_
  · intro pre x hx W hJ hl
    obtain ⟨⟨j1, j2, j3, b, j4, j5⟩, jb⟩ := hJ
    obtain ⟨v, hA1, hA2⟩ := hA
    have hAW : RA W q L := ⟨v, bkeep jb hA1, hA2.below jb⟩
    refine (does1_any x _ c6 c16 c17 q pre.length b L W (bkeep jb h6) j1 j4 j2 j3 hne hAW (by omega) (by omega)).mono ?_
    rintro e W' ⟨rfl, b', rfl, hb'⟩
    left
    have hle2 : (pre ++ [x]).length = pre.length + 1 := by simp
    refine ⟨rfl, ⟨⟨?_, ?_, ?_, b', ?_, ?_⟩, ?_⟩, (KeepsOthers.setCell _ _ _).trans (KeepsOthers.setCell _ _ _), ((Frm.one _ c17 0 _).mono fun k _ => .inr).trans ((Frm.one _ c16 0 _).mono fun k _ => .inl)⟩
    · rw [hle2]; exact cell_set_same (cell_set_ne j1 hne)
    · exact (World.frozen?_setCell _ _ _ _).trans ((World.frozen?_setCell _ _ _ _).trans j2)
    · exact (World.frozen?_setCell _ _ _ _).trans ((World.frozen?_setCell _ _ _ _).trans j3)
    · exact cell_set_ne (cell_set_same j4) (fun e => hne e.symm)
    · intro he
      rw [hle2, uptoI_succ] at he
      obtain ⟨e1, e2⟩ := List.append_inj' he rfl
      have e3 : x = (pre.length : Int) := by simpa using e2
      subst e3
      refine hb' (j5 e1) rfl ?_
      have hlL : pre.length < L.length := hl
      unfold atVI
      rw [dif_pos ⟨by omega, by omega⟩]
      have e4 : (LI C fr L.length)[((pre.length : Nat) : Int).toNat]'(by rw [rgL_len]; omega) = L[((pre.length : Nat) : Int).toNat]'(by omega) := by simp only [hL]
      rw [e4]
      rfl
    · exact (jb.setCell (p := ⟨c17, 0, none⟩) g17 _).setCell (p := ⟨c16, 0, none⟩) g16 _
  · rintro e w' ⟨rfl, hj, hfr⟩
    rcases hj with ⟨⟨h1, _, _, b, h4, h5⟩, h6⟩ | ⟨k, _, h⟩
    · have hl : (uptoI L.length).length = L.length := uptoI_len _
      rw [hl] at h1 h5
      have := h5 rfl
      subst this
      exact ⟨rfl, h1, h4, h6⟩
    · exact h.elim
set_option maxRecDepth 100000 in
set_option maxHeartbeats 3200000 in
theorem walk_RingDoes (most : Int) (um : (Lit.int .i64 most).wf = true) (a : Option Addr) (len cap : Nat) (l : List ROp) {w : World} (hl : IsList w a len 2 ropE ropOk l) :
    Calls Try.prog 3 #[.int .i64 most, .slice a len cap] w fun e w' => e = .returned (.bool true) ∧ Below w.heap.size w w' := by
  have hm := hl.most
  have hbd := bounds_i64 um
  by_cases hbig : 300 < len
  · go_enter Try.func3, Try.ntmps3
    go_wp2_with (go_at_call 6; (with_reducible refine (works_any _).mono ?_); rintro e w1 ⟨rfl, hb1⟩)
    go_ret
    exact ⟨rfl, hb1⟩
  have hlen := Lib.hid hl.size_eq
  obtain ⟨c, hcn⟩ : ∃ c, nR most = c := ⟨_, rfl⟩
  have hc1000 : c ≤ 1000 := by unfold nR at hcn; omega
  have hN := Lib.hid (fun w => newI_any most w hbd)
  have hNr := Lib.hid (fun w => rnew_any most w)
  go_enter Try.func3, Try.ntmps3
  go_wp2_with (first | (go_at_call 6; (with_reducible refine (works_any _).mono ?_); rintro e w1 ⟨rfl, hb1⟩) | (go_at_call 7; (with_reducible refine (hN.out _).mono ?_); rintro e w2 ⟨r, g, rfl, hR2, hr, hg, hb2⟩) | (go_at_call 8; (with_reducible refine (hNr.out _).mono ?_); rintro e w3 ⟨rfl, hR3, hb3, hz3⟩))
  have h0 : RST r g w2.heap.size c w [] (w3.alloc (.cells #[.pointer (some ⟨w2.heap.size, 0, none⟩)] 26)) := by
    have hA : Below w3.heap.size w3 (w3.alloc (.cells #[.pointer (some ⟨w2.heap.size, 0, none⟩)] 26)) := (Below.refl _ _).alloc (Nat.le_refl _) _
    have hl0 : (zCI most).length = c := by unfold zCI; rw [List.length_replicate]; exact hcn
    refine ⟨RGx.below (RGx.below ⟨_, 0, hR2, hl0, rfl⟩ hb3) hA, (hcn ▸ hR3 _ (by omega)).below hA, ?_, by simp; omega, bt (bt (bt hb1 hb2) hb3) hA⟩
    rw [← hz3]; simp [go_sem]
  have hy : RLay w r g w2.heap.size := ⟨by have := hb1.size; omega, by have := hb1.size; omega, hR2.lt, hR2.hg⟩
  clear hR2 hR3 hb1 hb2 hb3 hr hg
  try rw [hz3]
  generalize (w3.alloc (.cells #[.pointer (some ⟨w2.heap.size, 0, none⟩)] 26)) = w4 at *
  clear hz3
  generalize w2.heap.size = q at *
  have hy := Lib.hid hy
  have hbig : len ≤ 300 := by omega
  go_loopw [7] (fun i wr => RD1 r g q c len w i wr) (fun i _ => len - (intOf i).toNat)
  case atStart => exact ⟨0, Nat.zero_le _, rfl, [], h0⟩
  case round =>
    obtain ⟨k, hk, rfl, L, h1⟩ := hrel
    by_cases hlt : k < len
    · obtain ⟨b, o, rfl, _⟩ := hl.at_ (by omega)
      have hk1 : k < l.length := by have := hlen.out; omega
      have hEl : ∀ W, Below w.heap.size w W → W.cell? ⟨b, o + k * 2, none⟩ = some (.int .i64 l[k].k) ∧ W.cell? ⟨b, o + k * 2 + 1, none⟩ = some (.int .i64 l[k].n) := fun W hW =>
        ⟨(hl.get hW (Nat.le_refl _) k hk1 0 (by decide) _ rfl).1, (hl.get hW (Nat.le_refl _) k hk1 1 (by decide) _ rfl).1⟩
      have hxb : -9223372036854775808 ≤ l[k].n ∧ l[k].n ≤ 9223372036854775807 := bounds_i64 (hl.ok_at k hk1).2
      have hnext : ∀ L' w', RST r g q c w L' w' → RD1 r g q c len w (.int .i64 ((k : Int) + 1)) w' := fun L' w' h => ⟨k + 1, by omega, by go_num, L', h⟩
      generalize l[k].k = kd at *
      generalize l[k].n = x at *
      have hE1 := hEl _ h1.be
      have hEl := Lib.hid hEl
      have hxb := Lib.hid hxb
      have hnext := Lib.hid hnext
      have hk6 := h1.c6
      by_cases k0 : kd = 0
      · subst k0
        have h1d := h1.below (Below.refl _ wr).drew
        have hle := h1.rg.le
        have hP := Lib.hid (gpush r g c L x wr.drew h1d.rg)
        have hQ := Lib.hid (fun w' (h : RFx w' q (q + 2) L c) (hB : q + 2 ≤ w'.heap.size) => gpush2 q (q + 2) L c x w' h hB hle.1 hle.2)
        have M1 := And.intro (hEl.out _ h1d.be).2 h1d.c6
        clear hle
        go_wp2_with fail
        refine wp_region_held_drew (S := (fun w' : World => w'.cell? ⟨b, o + k * 2 + 1, none⟩ = some (.int .i64 x) ∧ w'.cell? ⟨q + 1, 0, none⟩ = some (.pointer (some ⟨q, 0, none⟩)))) (by kernel_rfl) ?_ (fun hHeld => ?_)
        · first | exact M1 | exact M4 | exact M5
        first | (refine tw (i := 0) (v := ?_) ?_ hHeld ?_; rotate_left; focus (intro w hSw; (try dsimp only at hSw); go_simp; (try with_reducible rfl); done)) | refine tn (i := 0) hHeld ?_
        try simp only [Act.put, List.setIfInBounds_toArray, List.set_cons_zero, List.set_cons_succ]
        first | (refine tw (i := 1) (v := ?_) ?_ hHeld ?_; rotate_left; focus (intro w hSw; (try dsimp only at hSw); go_simp; (try with_reducible rfl); done)) | refine tn (i := 1) hHeld ?_
        try simp only [Act.put, List.setIfInBounds_toArray, List.set_cons_zero, List.set_cons_succ]
        first | (refine tw (i := 2) (v := ?_) ?_ hHeld ?_; rotate_left; focus (intro w hSw; (try dsimp only at hSw); go_simp; (try with_reducible rfl); done)) | refine tn (i := 2) hHeld ?_
        try simp only [Act.put, List.setIfInBounds_toArray, List.set_cons_zero, List.set_cons_succ]
        first | (refine tw (i := 3) (v := ?_) ?_ hHeld ?_; rotate_left; focus (intro w hSw; (try dsimp only at hSw); go_simp; (try with_reducible rfl); done)) | refine tn (i := 3) hHeld ?_
        try simp only [Act.put, List.setIfInBounds_toArray, List.set_cons_zero, List.set_cons_succ]
        first | (refine tw (i := 4) (v := ?_) ?_ hHeld ?_; rotate_left; focus (intro w hSw; (try dsimp only at hSw); go_simp; (try with_reducible rfl); done)) | refine tn (i := 4) hHeld ?_
        try simp only [Act.put, List.setIfInBounds_toArray, List.set_cons_zero, List.set_cons_succ]
        first | (refine tw (i := 5) (v := ?_) ?_ hHeld ?_; rotate_left; focus (intro w hSw; (try dsimp only at hSw); go_simp; (try with_reducible rfl); done)) | refine tn (i := 5) hHeld ?_
        try simp only [Act.put, List.setIfInBounds_toArray, List.set_cons_zero, List.set_cons_succ]
        first | (refine tw (i := 7) (v := ?_) ?_ hHeld ?_; rotate_left; focus (intro w hSw; (try dsimp only at hSw); go_simp; (try with_reducible rfl); done)) | refine tn (i := 7) hHeld ?_
        try simp only [Act.put, List.setIfInBounds_toArray, List.set_cons_zero, List.set_cons_succ]
        first | (refine tw (i := 8) (v := ?_) ?_ hHeld ?_; rotate_left; focus (intro w hSw; (try dsimp only at hSw); go_simp; (try with_reducible rfl); done)) | refine tn (i := 8) hHeld ?_
        try simp only [Act.put, List.setIfInBounds_toArray, List.set_cons_zero, List.set_cons_succ]
        first | (refine tw (i := 9) (v := ?_) ?_ hHeld ?_; rotate_left; focus (intro w hSw; (try dsimp only at hSw); go_simp; (try with_reducible rfl); done)) | refine tn (i := 9) hHeld ?_
        try simp only [Act.put, List.setIfInBounds_toArray, List.set_cons_zero, List.set_cons_succ]
        first | (refine tw (i := 10) (v := ?_) ?_ hHeld ?_; rotate_left; focus (intro w hSw; (try dsimp only at hSw); go_simp; (try with_reducible rfl); done)) | refine tn (i := 10) hHeld ?_
        try simp only [Act.put, List.setIfInBounds_toArray, List.set_cons_zero, List.set_cons_succ]
        first | (refine tw (i := 11) (v := ?_) ?_ hHeld ?_; rotate_left; focus (intro w hSw; (try dsimp only at hSw); go_simp; (try with_reducible rfl); done)) | refine tn (i := 11) hHeld ?_
        try simp only [Act.put, List.setIfInBounds_toArray, List.set_cons_zero, List.set_cons_succ]
        first | (refine tw (i := 12) (v := ?_) ?_ hHeld ?_; rotate_left; focus (intro w hSw; (try dsimp only at hSw); go_simp; (try with_reducible rfl); done)) | refine tn (i := 12) hHeld ?_
        try simp only [Act.put, List.setIfInBounds_toArray, List.set_cons_zero, List.set_cons_succ]
        refine call_next (i := 6) (by kernel_rfl) (by rfl) ?_
        intro o ho K hK
        simp only [List.getElem?_toArray, List.getElem?_cons_succ, List.getElem?_cons_zero, Option.some.injEq] at ho
        subst ho
        first | (fail; refine hK.out _ _ ?_ (fun hHeld => ?_)) | (go_simp; first | (with_reducible refine hK.out _ _ ?_ (fun hHeld => ?_)) | ((first | (go_at_call 9; (with_reducible refine hP.out.mono ?_); rintro e w4 ⟨rfl, hx4, hf4⟩; have hT4 := h1d.a hy.out hx4 hf4; have M4 := And.intro (hEl.out _ hT4.2.2.2.2).2 hT4.2.2.1) | (go_at_call 10; (with_reducible refine (hQ.out _ hT4.2.1 hT4.2.2.2.1).mono ?_); rintro e w5 ⟨rfl, hx5, hf5⟩; have h5 := RST.b hy.out hT4 hx5 hf5; have M5 := And.intro (hEl.out _ h5.be).2 h5.c6)); refine hK.out _ _ ?_ (fun hHeld => ?_)))
        · first | exact M1 | exact M4 | exact M5
        clear hK K
        try simp only [Act.put, List.setIfInBounds_toArray, List.set_cons_zero, List.set_cons_succ]
        refine call_next (i := 13) (by kernel_rfl) (by rfl) ?_
        intro o ho K hK
        simp only [List.getElem?_toArray, List.getElem?_cons_succ, List.getElem?_cons_zero, Option.some.injEq] at ho
        subst ho
        first | (fail; refine hK.out _ _ ?_ (fun hHeld => ?_)) | (go_simp; first | (with_reducible refine hK.out _ _ ?_ (fun hHeld => ?_)) | ((first | (go_at_call 9; (with_reducible refine hP.out.mono ?_); rintro e w4 ⟨rfl, hx4, hf4⟩; have hT4 := h1d.a hy.out hx4 hf4; have M4 := And.intro (hEl.out _ hT4.2.2.2.2).2 hT4.2.2.1) | (go_at_call 10; (with_reducible refine (hQ.out _ hT4.2.1 hT4.2.2.2.1).mono ?_); rintro e w5 ⟨rfl, hx5, hf5⟩; have h5 := RST.b hy.out hT4 hx5 hf5; have M5 := And.intro (hEl.out _ h5.be).2 h5.c6)); refine hK.out _ _ ?_ (fun hHeld => ?_)))
        · first | exact M1 | exact M4 | exact M5
        clear hK K
        try simp only [Act.put, List.setIfInBounds_toArray, List.set_cons_zero, List.set_cons_succ]
        first | (refine tw (i := 14) (v := ?_) ?_ hHeld ?_; rotate_left; focus (intro w hSw; (try dsimp only at hSw); go_simp; (try with_reducible rfl); done)) | refine tn (i := 14) hHeld ?_
        try simp only [Act.put, List.setIfInBounds_toArray, List.set_cons_zero, List.set_cons_succ]
        refine wpAnyH_done (by kernel_rfl) ?_ _
        clear M1 M4 hT4 h1d h1 hE1 hk6
        have hE5 := hEl.out _ (h5).be
        obtain ⟨y1, ok1, hv1⟩ := atVI_tuple (pL L c x) x
        have hat := gat r g c _ x w5 (h5).rg
        rw [hv1] at hat
        have hat := Lib.hid hat
        try go_wp2_with fail
        go_at_call 15
        with_reducible refine hat.out.mono ?_
        rintro e w6 ⟨rfl, m6, hw6⟩
        have h6 := (h5).below (hw6 ▸ bdraws0 w5 m6)
        clear hw6
        have hE6 := hEl.out _ h6.be
        have hra := fun m => (rat_any q (q + 2) _ c x (w6.drewN m) (h6.rf.below (bdraws0 w6 m)) (Nat.le_trans h6.rg.le.1 h6.rg.le.2)).mono (fun e w' h => (⟨h.1, h.2.symm⟩ : _ ∧ w' = w6.drewN m))
        rw [hv1] at hra
        have hra := Lib.hid hra
        have hk6 := h6.c6
        go_wp2_with fail
        go_quiet ((go_at_call 12; with_reducible exact Calls.quiet_of_same (hra.out _)))
        go_wp2
        obtain ⟨w7, hw7⟩ : ∃ w7, w6.drewN nq = w7 := ⟨_, rfl⟩
        have h7 := h6.below (bdraws0 w6 nq)
        rw [hw7] at h7 ⊢
        clear hw7
        obtain ⟨v7, hF7⟩ := h7.rf
        obtain ⟨a7, p7, hva7⟩ := hF7.l.len
        have t0 := hF7.c0
        rw [hva7] at t0
        have t1 := hF7.c1
        have t6 := h7.c6
        have hlen7 := fun m => glen r g c _ (w7.drewN m) (h7.rg.below (bdraws0 w7 m))
        have hroom7 := fun m => groom r g c _ (w7.drewN m) (h7.rg.below (bdraws0 w7 m))
        have hle7 := h7.rg.le
        have h7' := Lib.hid h7
        clear h7 hF7 hva7 h6 hra hat hE5 hE6
        generalize ((pL L c x)).length = ln at t0 hlen7 hroom7 hle7
        have e2 : IntKind.i64.wrap ((c : Int) - (ln : Int)) = ((c - ln : Nat) : Int) := by rw [IntWalk.i64_in _ (by omega)]; omega
        generalize ((c - ln : Nat) : Int) = rm at hroom7 e2
        have hlen7 := Lib.hid hlen7
        have hroom7 := Lib.hid hroom7
        go_quiet ((first | (go_at_call 16; with_reducible exact Calls.quiet_of_same (hlen7.out _)) | (go_at_call 17; with_reducible exact Calls.quiet_of (hroom7.out _))))
        go_wp2
        exact ⟨hnext.out _ _ (h7'.out.below (bdraws0 w7 _)), by simp [intOf]; omega⟩
      · by_cases k1 : kd = 1
        · subst k1
          have hle := h1.rg.le
          obtain ⟨y0, ok0, hv0⟩ := atVI_tuple L 0
          have hP := gpop r g c L wr h1.rg
          have hA0 := fun w' (h : RFx w' q (q + 2) L c) => rat_any q (q + 2) L c 0 w' h (Nat.le_trans hle.1 hle.2)
          rw [hv0] at hP hA0
          have hQ : ∀ w', RFx w' q (q + 2) L c → Calls Try.prog 13 #[.pointer (some ⟨q, 0, none⟩), .int .i64 1] w' fun e w'' => e = .returned (.int .i64 (dK L 1)) ∧ RFx w'' q (q + 2) (L.drop (dK L 1)) c ∧ Frm (· = q) w' w'' := fun w' h => rdrop_any q (q + 2) L c 1 w' h (Nat.le_trans hle.1 hle.2)
          have hP := Lib.hid hP
          have hA0 := Lib.hid hA0
          have hQ := Lib.hid hQ
          clear hle
          go_wp2_with (first | (go_at_call 11; (with_reducible refine hP.out.mono ?_); rintro e w4 ⟨rfl, hx4, hf4⟩; have hT4 := h1.a hy.out hx4 hf4; have c64 := hT4.2.2.1) | (go_at_call 12; (with_reducible refine (hA0.out _ hT4.2.1).mono ?_); rintro e wx ⟨rfl, rfl⟩) | (go_at_call 13; (with_reducible refine (hQ.out _ hT4.2.1).mono ?_); rintro e w5 ⟨rfl, hx5, hf5⟩; have h5 := RST.b hy.out hT4 hx5 hf5; have c65 := h5.c6; have e65 := hEl.out _ h5.be))
          clear hT4 h1 hE1 hk6 c64
          have hE5 := hEl.out _ (h5).be
          obtain ⟨y1, ok1, hv1⟩ := atVI_tuple (L.drop (dK L 1)) x
          have hat := gat r g c _ x w5 (h5).rg
          rw [hv1] at hat
          have hat := Lib.hid hat
          try go_wp2_with fail
          go_at_call 15
          with_reducible refine hat.out.mono ?_
          rintro e w6 ⟨rfl, m6, hw6⟩
          have h6 := (h5).below (hw6 ▸ bdraws0 w5 m6)
          clear hw6
          have hE6 := hEl.out _ h6.be
          have hra := fun m => (rat_any q (q + 2) _ c x (w6.drewN m) (h6.rf.below (bdraws0 w6 m)) (Nat.le_trans h6.rg.le.1 h6.rg.le.2)).mono (fun e w' h => (⟨h.1, h.2.symm⟩ : _ ∧ w' = w6.drewN m))
          rw [hv1] at hra
          have hra := Lib.hid hra
          have hk6 := h6.c6
          go_wp2_with fail
          go_quiet ((go_at_call 12; with_reducible exact Calls.quiet_of_same (hra.out _)))
          go_wp2
          obtain ⟨w7, hw7⟩ : ∃ w7, w6.drewN nq = w7 := ⟨_, rfl⟩
          have h7 := h6.below (bdraws0 w6 nq)
          rw [hw7] at h7 ⊢
          clear hw7
          obtain ⟨v7, hF7⟩ := h7.rf
          obtain ⟨a7, p7, hva7⟩ := hF7.l.len
          have t0 := hF7.c0
          rw [hva7] at t0
          have t1 := hF7.c1
          have t6 := h7.c6
          have hlen7 := fun m => glen r g c _ (w7.drewN m) (h7.rg.below (bdraws0 w7 m))
          have hroom7 := fun m => groom r g c _ (w7.drewN m) (h7.rg.below (bdraws0 w7 m))
          have hle7 := h7.rg.le
          have h7' := Lib.hid h7
          clear h7 hF7 hva7 h6 hra hat hE5 hE6
          generalize ((L.drop (dK L 1))).length = ln at t0 hlen7 hroom7 hle7
          have e2 : IntKind.i64.wrap ((c : Int) - (ln : Int)) = ((c - ln : Nat) : Int) := by rw [IntWalk.i64_in _ (by omega)]; omega
          generalize ((c - ln : Nat) : Int) = rm at hroom7 e2
          have hlen7 := Lib.hid hlen7
          have hroom7 := Lib.hid hroom7
          go_quiet ((first | (go_at_call 16; with_reducible exact Calls.quiet_of_same (hlen7.out _)) | (go_at_call 17; with_reducible exact Calls.quiet_of (hroom7.out _))))
          go_wp2
          exact ⟨hnext.out _ _ (h7'.out.below (bdraws0 w7 _)), by simp [intOf]; omega⟩
        · by_cases k2 : kd = 2
          · subst k2
            have h1d := h1.below (Below.refl _ wr).drew
            have hle := h1.rg.le
            have hP := Lib.hid (gdrop r g c L x wr.drew h1d.rg hxb.out)
            have hQ : ∀ w', RFx w' q (q + 2) L c → Calls Try.prog 13 #[.pointer (some ⟨q, 0, none⟩), .int .i64 x] w' fun e w'' => e = .returned (.int .i64 (dK L x)) ∧ RFx w'' q (q + 2) (L.drop (dK L x)) c ∧ Frm (· = q) w' w'' := fun w' h => rdrop_any q (q + 2) L c x w' h (Nat.le_trans hle.1 hle.2)
            have hQ := Lib.hid hQ
            have M1 := And.intro (hEl.out _ h1d.be).2 h1d.c6
            clear hle
            go_wp2_with fail
            refine wp_region_held_drew (S := (fun w' : World => w'.cell? ⟨b, o + k * 2 + 1, none⟩ = some (.int .i64 x) ∧ w'.cell? ⟨q + 1, 0, none⟩ = some (.pointer (some ⟨q, 0, none⟩)))) (by kernel_rfl) ?_ (fun hHeld => ?_)
            · first | exact M1 | exact M4 | exact M5
            first | (refine tw (i := 0) (v := ?_) ?_ hHeld ?_; rotate_left; focus (intro w hSw; (try dsimp only at hSw); go_simp; (try with_reducible rfl); done)) | refine tn (i := 0) hHeld ?_
            try simp only [Act.put, List.setIfInBounds_toArray, List.set_cons_zero, List.set_cons_succ]
            first | (refine tw (i := 1) (v := ?_) ?_ hHeld ?_; rotate_left; focus (intro w hSw; (try dsimp only at hSw); go_simp; (try with_reducible rfl); done)) | refine tn (i := 1) hHeld ?_
            try simp only [Act.put, List.setIfInBounds_toArray, List.set_cons_zero, List.set_cons_succ]
            first | (refine tw (i := 2) (v := ?_) ?_ hHeld ?_; rotate_left; focus (intro w hSw; (try dsimp only at hSw); go_simp; (try with_reducible rfl); done)) | refine tn (i := 2) hHeld ?_
            try simp only [Act.put, List.setIfInBounds_toArray, List.set_cons_zero, List.set_cons_succ]
            first | (refine tw (i := 3) (v := ?_) ?_ hHeld ?_; rotate_left; focus (intro w hSw; (try dsimp only at hSw); go_simp; (try with_reducible rfl); done)) | refine tn (i := 3) hHeld ?_
            try simp only [Act.put, List.setIfInBounds_toArray, List.set_cons_zero, List.set_cons_succ]
            first | (refine tw (i := 4) (v := ?_) ?_ hHeld ?_; rotate_left; focus (intro w hSw; (try dsimp only at hSw); go_simp; (try with_reducible rfl); done)) | refine tn (i := 4) hHeld ?_
            try simp only [Act.put, List.setIfInBounds_toArray, List.set_cons_zero, List.set_cons_succ]
            first | (refine tw (i := 5) (v := ?_) ?_ hHeld ?_; rotate_left; focus (intro w hSw; (try dsimp only at hSw); go_simp; (try with_reducible rfl); done)) | refine tn (i := 5) hHeld ?_
            try simp only [Act.put, List.setIfInBounds_toArray, List.set_cons_zero, List.set_cons_succ]
            first | (refine tw (i := 7) (v := ?_) ?_ hHeld ?_; rotate_left; focus (intro w hSw; (try dsimp only at hSw); go_simp; (try with_reducible rfl); done)) | refine tn (i := 7) hHeld ?_
            try simp only [Act.put, List.setIfInBounds_toArray, List.set_cons_zero, List.set_cons_succ]
            first | (refine tw (i := 8) (v := ?_) ?_ hHeld ?_; rotate_left; focus (intro w hSw; (try dsimp only at hSw); go_simp; (try with_reducible rfl); done)) | refine tn (i := 8) hHeld ?_
            try simp only [Act.put, List.setIfInBounds_toArray, List.set_cons_zero, List.set_cons_succ]
            first | (refine tw (i := 9) (v := ?_) ?_ hHeld ?_; rotate_left; focus (intro w hSw; (try dsimp only at hSw); go_simp; (try with_reducible rfl); done)) | refine tn (i := 9) hHeld ?_
            try simp only [Act.put, List.setIfInBounds_toArray, List.set_cons_zero, List.set_cons_succ]
            first | (refine tw (i := 10) (v := ?_) ?_ hHeld ?_; rotate_left; focus (intro w hSw; (try dsimp only at hSw); go_simp; (try with_reducible rfl); done)) | refine tn (i := 10) hHeld ?_
            try simp only [Act.put, List.setIfInBounds_toArray, List.set_cons_zero, List.set_cons_succ]
            first | (refine tw (i := 11) (v := ?_) ?_ hHeld ?_; rotate_left; focus (intro w hSw; (try dsimp only at hSw); go_simp; (try with_reducible rfl); done)) | refine tn (i := 11) hHeld ?_
            try simp only [Act.put, List.setIfInBounds_toArray, List.set_cons_zero, List.set_cons_succ]
            first | (refine tw (i := 12) (v := ?_) ?_ hHeld ?_; rotate_left; focus (intro w hSw; (try dsimp only at hSw); go_simp; (try with_reducible rfl); done)) | refine tn (i := 12) hHeld ?_
            try simp only [Act.put, List.setIfInBounds_toArray, List.set_cons_zero, List.set_cons_succ]
            refine call_next (i := 6) (by kernel_rfl) (by rfl) ?_
            intro o ho K hK
            simp only [List.getElem?_toArray, List.getElem?_cons_succ, List.getElem?_cons_zero, Option.some.injEq] at ho
            subst ho
            first | (fail; refine hK.out _ _ ?_ (fun hHeld => ?_)) | (go_simp; first | (with_reducible refine hK.out _ _ ?_ (fun hHeld => ?_)) | ((first | (go_at_call 14; (with_reducible refine hP.out.mono ?_); rintro e w4 ⟨rfl, hx4, hf4⟩; have hT4 := h1d.a hy.out hx4 hf4; have M4 := And.intro (hEl.out _ hT4.2.2.2.2).2 hT4.2.2.1) | (go_at_call 13; (with_reducible refine (hQ.out _ hT4.2.1).mono ?_); rintro e w5 ⟨rfl, hx5, hf5⟩; have h5 := RST.b hy.out hT4 hx5 hf5; have M5 := And.intro (hEl.out _ h5.be).2 h5.c6)); refine hK.out _ _ ?_ (fun hHeld => ?_)))
            · first | exact M1 | exact M4 | exact M5
            clear hK K
            try simp only [Act.put, List.setIfInBounds_toArray, List.set_cons_zero, List.set_cons_succ]
            refine call_next (i := 13) (by kernel_rfl) (by rfl) ?_
            intro o ho K hK
            simp only [List.getElem?_toArray, List.getElem?_cons_succ, List.getElem?_cons_zero, Option.some.injEq] at ho
            subst ho
            first | (fail; refine hK.out _ _ ?_ (fun hHeld => ?_)) | (go_simp; first | (with_reducible refine hK.out _ _ ?_ (fun hHeld => ?_)) | ((first | (go_at_call 14; (with_reducible refine hP.out.mono ?_); rintro e w4 ⟨rfl, hx4, hf4⟩; have hT4 := h1d.a hy.out hx4 hf4; have M4 := And.intro (hEl.out _ hT4.2.2.2.2).2 hT4.2.2.1) | (go_at_call 13; (with_reducible refine (hQ.out _ hT4.2.1).mono ?_); rintro e w5 ⟨rfl, hx5, hf5⟩; have h5 := RST.b hy.out hT4 hx5 hf5; have M5 := And.intro (hEl.out _ h5.be).2 h5.c6)); refine hK.out _ _ ?_ (fun hHeld => ?_)))
            · first | exact M1 | exact M4 | exact M5
            clear hK K
            try simp only [Act.put, List.setIfInBounds_toArray, List.set_cons_zero, List.set_cons_succ]
            first | (refine tw (i := 14) (v := ?_) ?_ hHeld ?_; rotate_left; focus (intro w hSw; (try dsimp only at hSw); go_simp; (try with_reducible rfl); done)) | refine tn (i := 14) hHeld ?_
            try simp only [Act.put, List.setIfInBounds_toArray, List.set_cons_zero, List.set_cons_succ]
            refine wpAnyH_done (by kernel_rfl) ?_ _
            clear M1 M4 hT4 h1d h1 hE1 hk6
            have hE5 := hEl.out _ (h5).be
            obtain ⟨y1, ok1, hv1⟩ := atVI_tuple (L.drop (dK L x)) x
            have hat := gat r g c _ x w5 (h5).rg
            rw [hv1] at hat
            have hat := Lib.hid hat
            try go_wp2_with fail
            go_at_call 15
            with_reducible refine hat.out.mono ?_
            rintro e w6 ⟨rfl, m6, hw6⟩
            have h6 := (h5).below (hw6 ▸ bdraws0 w5 m6)
            clear hw6
            have hE6 := hEl.out _ h6.be
            have hra := fun m => (rat_any q (q + 2) _ c x (w6.drewN m) (h6.rf.below (bdraws0 w6 m)) (Nat.le_trans h6.rg.le.1 h6.rg.le.2)).mono (fun e w' h => (⟨h.1, h.2.symm⟩ : _ ∧ w' = w6.drewN m))
            rw [hv1] at hra
            have hra := Lib.hid hra
            have hk6 := h6.c6
            go_wp2_with fail
            go_quiet ((go_at_call 12; with_reducible exact Calls.quiet_of_same (hra.out _)))
            go_wp2
            obtain ⟨w7, hw7⟩ : ∃ w7, w6.drewN nq = w7 := ⟨_, rfl⟩
            have h7 := h6.below (bdraws0 w6 nq)
            rw [hw7] at h7 ⊢
            clear hw7
            obtain ⟨v7, hF7⟩ := h7.rf
            obtain ⟨a7, p7, hva7⟩ := hF7.l.len
            have t0 := hF7.c0
            rw [hva7] at t0
            have t1 := hF7.c1
            have t6 := h7.c6
            have hlen7 := fun m => glen r g c _ (w7.drewN m) (h7.rg.below (bdraws0 w7 m))
            have hroom7 := fun m => groom r g c _ (w7.drewN m) (h7.rg.below (bdraws0 w7 m))
            have hle7 := h7.rg.le
            have h7' := Lib.hid h7
            clear h7 hF7 hva7 h6 hra hat hE5 hE6
            generalize ((L.drop (dK L x))).length = ln at t0 hlen7 hroom7 hle7
            have e2 : IntKind.i64.wrap ((c : Int) - (ln : Int)) = ((c - ln : Nat) : Int) := by rw [IntWalk.i64_in _ (by omega)]; omega
            generalize ((c - ln : Nat) : Int) = rm at hroom7 e2
            have hlen7 := Lib.hid hlen7
            have hroom7 := Lib.hid hroom7
            go_quiet ((first | (go_at_call 16; with_reducible exact Calls.quiet_of_same (hlen7.out _)) | (go_at_call 17; with_reducible exact Calls.quiet_of (hroom7.out _))))
            go_wp2
            exact ⟨hnext.out _ _ (h7'.out.below (bdraws0 w7 _)), by simp [intOf]; omega⟩
          · have d0 : (kd == 0) = false := by simpa using k0
            have d1 : (kd == 1) = false := by simpa using k1
            have d2 : (kd == 2) = false := by simpa using k2
            have hE5 := hEl.out _ (h1).be
            obtain ⟨y1, ok1, hv1⟩ := atVI_tuple L x
            have hat := gat r g c _ x wr (h1).rg
            rw [hv1] at hat
            have hat := Lib.hid hat
            try go_wp2_with fail
            go_at_call 15
            with_reducible refine hat.out.mono ?_
            rintro e w6 ⟨rfl, m6, hw6⟩
            have h6 := (h1).below (hw6 ▸ bdraws0 wr m6)
            clear hw6
            have hE6 := hEl.out _ h6.be
            have hra := fun m => (rat_any q (q + 2) _ c x (w6.drewN m) (h6.rf.below (bdraws0 w6 m)) (Nat.le_trans h6.rg.le.1 h6.rg.le.2)).mono (fun e w' h => (⟨h.1, h.2.symm⟩ : _ ∧ w' = w6.drewN m))
            rw [hv1] at hra
            have hra := Lib.hid hra
            have hk6 := h6.c6
            go_wp2_with fail
            go_quiet ((go_at_call 12; with_reducible exact Calls.quiet_of_same (hra.out _)))
            go_wp2
            obtain ⟨w7, hw7⟩ : ∃ w7, w6.drewN nq = w7 := ⟨_, rfl⟩
            have h7 := h6.below (bdraws0 w6 nq)
            rw [hw7] at h7 ⊢
            clear hw7
            obtain ⟨v7, hF7⟩ := h7.rf
            obtain ⟨a7, p7, hva7⟩ := hF7.l.len
            have t0 := hF7.c0
            rw [hva7] at t0
            have t1 := hF7.c1
            have t6 := h7.c6
            have hlen7 := fun m => glen r g c _ (w7.drewN m) (h7.rg.below (bdraws0 w7 m))
            have hroom7 := fun m => groom r g c _ (w7.drewN m) (h7.rg.below (bdraws0 w7 m))
            have hle7 := h7.rg.le
            have h7' := Lib.hid h7
            clear h7 hF7 hva7 h6 hra hat hE5 hE6
            generalize (L).length = ln at t0 hlen7 hroom7 hle7
            have e2 : IntKind.i64.wrap ((c : Int) - (ln : Int)) = ((c - ln : Nat) : Int) := by rw [IntWalk.i64_in _ (by omega)]; omega
            generalize ((c - ln : Nat) : Int) = rm at hroom7 e2
            have hlen7 := Lib.hid hlen7
            have hroom7 := Lib.hid hroom7
            go_quiet ((first | (go_at_call 16; with_reducible exact Calls.quiet_of_same (hlen7.out _)) | (go_at_call 17; with_reducible exact Calls.quiet_of (hroom7.out _))))
            go_wp2
            exact ⟨hnext.out _ _ (h7'.out.below (bdraws0 w7 _)), by simp [intOf]; omega⟩
    · have hd : ¬ ((k : Int) < (len : Int)) := by omega
      have hc6 := h1.c6
      have hle := h1.rg.le
      have hA : Below wr.heap.size wr (((wr.alloc (.cells #[.int .i64 0] 3)).alloc (.cells #[.bool true] 4)).alloc (.cells #[.pointer (some ⟨r, 0, none⟩)] 24)) := (((Below.refl _ _).alloc (Nat.le_refl _) _).alloc (by simp) _).alloc (by simp; omega) _
      obtain ⟨C, fr, hRC, hCl, hLC⟩ := h1.rg
      have hrl := hRC.lt
      have hgl := hRC.hg
      have hT := does_tell r g c q (wr.heap.size + 2) (q + 1) wr.heap.size (wr.heap.size + 1) L wr _ (RGx.below ⟨C, fr, hRC, hCl, hLC⟩ hA) h1.rf.ra hc6 hA (by simp [go_sem]) hrl hgl (by omega) (by omega) (by omega) (by omega) (by omega) (by simp [go_sem]) (by simp [go_sem]) (by simp [go_sem]) (by simp [go_sem])
      have hX : ∀ w', Below wr.heap.size wr w' → (∃ a c', w'.cell? ⟨q, 0, none⟩ = some (.slice a L.length c')) ∧ w'.cell? ⟨q + 1, 0, none⟩ = some (.pointer (some ⟨q, 0, none⟩)) ∧ Below w.heap.size w w' := by
        intro w' hb
        obtain ⟨v, hv1, hv2⟩ := h1.rf.ra
        obtain ⟨a, c', rfl⟩ := hv2.len
        exact ⟨⟨a, c', bkeep hb hv1⟩, bkeep hb hc6, h1.be.trans (hb.mono h1.be.size)⟩
      have hT := Lib.hid hT
      have hX := Lib.hid hX
      clear hA hRC hCl hLC hrl hgl h1 hc6
      go_wp2_with (go_at_call 18; (with_reducible refine (allI_fn (some ⟨r, 0, none⟩) _).mono ?_); rintro e w5 ⟨rfl, rfl⟩)
      go_at_call 27
      with_reducible refine hT.out.mono ?_
      rintro e w6 ⟨rfl, hc16, hc17, hb6⟩
      obtain ⟨⟨a6, c6', hq6⟩, h66, hbf⟩ := hX.out _ hb6
      clear hT hX hb6
      generalize L.length = ln at *
      go_wp2
      go_quiet (fail)
      go_wp2
      go_ret
      exact ⟨rfl, bdraws hbf _⟩
end Go.Proofs.Ytmjkahbjpkkdgaa
