/-
  The statement OwedDoes.
-/
import Derived.Test.YtdaobfhkdbaklaaOwedRef5
import Derived.Test.YtdaobfhkdbaklaaOwedOnce2
namespace Go.Proofs.Ytdaobfhkdbaklaa
open Go.RowKit
set_option linter.unusedVariables false
set_option linter.unusedSimpArgs false

/-- program and reference owe the same; the step's copy stands in block K -/
structure ODT (o h s gM m : Nat) (w : World) (q g : Nat) (cs : List Nat) (W : World) : Prop where
  ow : ∃ bs, OW W o h s gM m bs cs
  rf : OR W q g m cs
  be : Below w.heap.size w W
  ge : w.heap.size ≤ o ∧ w.heap.size ≤ h ∧ w.heap.size ≤ s ∧ w.heap.size ≤ gM ∧ w.heap.size ≤ q ∧ w.heap.size ≤ g
  ne : o < q ∧ h < q ∧ s < q ∧ gM < q ∧ o < g ∧ h < g ∧ s < g ∧ gM < g
structure ODK (o h s gM m : Nat) (w : World) (q g : Nat) (cs : List Nat) (K : Nat) (x y : Int) (W : World) : Prop where
  t : ODT o h s gM m w q g cs W
  k1 : W.cell? ⟨K, 1, none⟩ = some (.int .i64 x)
  k2 : W.cell? ⟨K, 2, none⟩ = some (.int .i64 y)
  kn : K ≠ h ∧ K ≠ gM ∧ K ≠ g
/-- half a step: the program's own is changed -/
structure ODA (o h s gM m : Nat) (w : World) (q g : Nat) (cs cs' : List Nat) (K : Nat) (x y : Int) (W : World) : Prop where
  ow : ∃ bs, OW W o h s gM m bs cs'
  rf : OR W q g m cs
  be : Below w.heap.size w W
  ge : w.heap.size ≤ o ∧ w.heap.size ≤ h ∧ w.heap.size ≤ s ∧ w.heap.size ≤ gM ∧ w.heap.size ≤ q ∧ w.heap.size ≤ g
  ne : o < q ∧ h < q ∧ s < q ∧ gM < q ∧ o < g ∧ h < g ∧ s < g ∧ gM < g
  k1 : W.cell? ⟨K, 1, none⟩ = some (.int .i64 x)
  k2 : W.cell? ⟨K, 2, none⟩ = some (.int .i64 y)
  kn : K ≠ h ∧ K ≠ gM ∧ K ≠ g
theorem OR.q_lt {w : World} {q g m : Nat} {cs : List Nat} (h : OR w q g m cs) : q < w.heap.size := World.block_lt_of_cell? w _ h.c0
theorem ODT.below {o h s gM m : Nat} {w : World} {q g : Nat} {cs : List Nat} {W W' : World} (H : ODT o h s gM m w q g cs W) (hb : Below W.heap.size W W') : ODT o h s gM m w q g cs W' :=
  ⟨H.ow.imp fun bs h => h.below hb, H.rf.frm (S := fun _ => False) (.ofBelow hb) id id, H.be.trans (hb.mono H.be.size), H.ge, H.ne⟩
theorem ODK.below {o h s gM m : Nat} {w : World} {q g : Nat} {cs : List Nat} {K : Nat} {x y : Int} {W W' : World} (H : ODK o h s gM m w q g cs K x y W) (hb : Below W.heap.size W W') : ODK o h s gM m w q g cs K x y W' :=
  ⟨H.t.below hb, bkeep hb H.k1, bkeep hb H.k2, H.kn⟩
theorem ODK.a {o h s gM m : Nat} {w : World} {q g : Nat} {cs cs' : List Nat} {K : Nat} {x y : Int} {W W' : World} (H : ODK o h s gM m w q g cs K x y W) (hg : g < W.heap.size) (hw : ∃ bs, OW W' o h s gM m bs cs') (hf : Frm (fun k => k = h ∨ k = gM ∨ W.heap.size ≤ k) W W') : ODA o h s gM m w q g cs cs' K x y W' := by
  have hq := H.t.rf.q_lt
  have hk := World.block_lt_of_cell? W _ H.k1
  have hk : K < W.heap.size := hk
  obtain ⟨n1, n2, n3⟩ := H.kn
  obtain ⟨g1, g2, g3, g4, g5, g6⟩ := H.t.ge
  obtain ⟨m1, m2, m3, m4, m5, m6, m7, m8⟩ := H.t.ne
  have hK : ¬ (K = h ∨ K = gM ∨ W.heap.size ≤ K) := by omega
  exact ⟨hw, H.t.rf.frm hf (by omega) (by omega), belowO H.t.be hf (fun k hk => by have := H.t.be.size; omega), H.t.ge, H.t.ne, hf.cell (p := ⟨K, 1, none⟩) hK H.k1, hf.cell (p := ⟨K, 2, none⟩) hK H.k2, H.kn⟩
theorem ODA.b {o h s gM m : Nat} {w : World} {q g : Nat} {cs cs' : List Nat} {K : Nat} {x y : Int} {W W' : World} (H : ODA o h s gM m w q g cs cs' K x y W) (hr : OR W' q g m cs') (hf : Frm (· = g) W W') : ODK o h s gM m w q g cs' K x y W' := by
  obtain ⟨n1, n2, n3⟩ := H.kn
  obtain ⟨g1, g2, g3, g4, g5, g6⟩ := H.ge
  obtain ⟨m1, m2, m3, m4, m5, m6, m7, m8⟩ := H.ne
  exact ⟨⟨H.ow.imp fun bs h => h.frm hf (by omega) (by omega) (by omega) (by omega), hr, belowO H.be hf (fun k hk => by omega), H.ge, H.ne⟩, hf.cell (p := ⟨K, 1, none⟩) n3 H.k1, hf.cell (p := ⟨K, 2, none⟩) n3 H.k2, H.kn⟩
theorem ODA.new {o h s gM m : Nat} {w : World} {q g : Nat} {cs cs' : List Nat} {K : Nat} {x y : Int} {W W' : World} {q' g' : Nat} (H : ODA o h s gM m w q g cs cs' K x y W) (hr : OR W' q' g' m cs') (hb : Below W.heap.size W W') (h1 : W.heap.size ≤ q') (h2 : W.heap.size ≤ g') : ODK o h s gM m w q' g' cs' K x y W' := by
  have hk := World.block_lt_of_cell? W _ H.k1
  have hk : K < W.heap.size := hk
  obtain ⟨n1, n2, n3⟩ := H.kn
  obtain ⟨g1, g2, g3, g4, g5, g6⟩ := H.ge
  obtain ⟨m1, m2, m3, m4, m5, m6, m7, m8⟩ := H.ne
  have hq := H.rf.q_lt
  exact ⟨⟨H.ow.imp fun bs h => h.below hb, hr, H.be.trans (hb.mono H.be.size), ⟨g1, g2, g3, g4, by omega, by omega⟩, ⟨by omega, by omega, by omega, by omega, by omega, by omega, by omega, by omega⟩⟩, bkeep hb H.k1, bkeep hb H.k2, ⟨n1, n2, by omega⟩⟩
theorem nextC_cases {w : World} {o h s gM many : Nat} {bs cs : List Nat} (H : OW w o h s gM many bs cs) (f : Int) : nextC cs f = (0, false) ∨ ∃ p : Nat, nextC cs f = ((p : Int), true) := by
  rw [← H.next f]
  cases hn : (nextM bs many f).2 with
  | false => exact .inl (nextM_false bs many f hn).1
  | true => obtain ⟨p, h, _⟩ := nextM_true bs many f hn; exact .inr ⟨p, h⟩
def OD1 (o h s gM m len : Nat) (w : World) (qv i : Value) (wr : World) : Prop := ∃ k : Nat, k ≤ len ∧ i = .int .i64 k ∧ ∃ q g cs, qv = .pointer (some ⟨q, 0, none⟩) ∧ g < wr.heap.size ∧ Hid (ODT o h s gM m w q g cs wr)
/-- what the last test of a round calls -/
structure OEnd (o q m : Nat) (cs : List Nat) (x y : Int) (W : World) : Prop where
  l1 : ∀ n, Calls Try.prog 9 #[.pointer (some ⟨o, 0, none⟩)] (W.drewN n) fun e w' => e = .returned (.int .i64 (lenC cs)) ∧ w' = W.drewN n
  l2 : ∀ n, Calls Try.prog 16 #[.pointer (some ⟨q, 0, none⟩)] (W.drewN n) fun e w' => e = .returned (.int .i64 (lenC cs)) ∧ w' = W.drewN n
  h1 : ∀ n, Calls Try.prog 17 #[.pointer (some ⟨o, 0, none⟩), .int .i64 x, .int .i64 y] (W.drewN n) fun e w' => e = .returned (.bool (hasO m cs x y)) ∧ w' = W.drewN n
  h2 : ∀ n, Calls Try.prog 18 #[.pointer (some ⟨q, 0, none⟩), .int .i64 x, .int .i64 y] (W.drewN n) fun e w' => e = .returned (.bool (hasO m cs x y)) ∧ w' = W.drewN n
theorem OW.lt' {W : World} {o h s gM m : Nat} {cs : List Nat} (H : ∃ bs, OW W o h s gM m bs cs) : ∀ x ∈ cs, x < 128 ∧ x % 2 = 0 := by
  obtain ⟨bs, H⟩ := H
  exact H.lt
theorem ODK.fin {o h s gM m : Nat} {w : World} {q g : Nat} {cs : List Nat} {K : Nat} {x y : Int} {W : World} (H : ODK o h s gM m w q g cs K x y W) : OEnd o q m cs x y W := by
  have hb := fun n => H.below (bdraws0 W n)
  obtain ⟨bs, hw⟩ := H.t.ow
  refine ⟨fun n => (olen_any o h s gM m bs cs _ (hw.below (bdraws0 W n))).mono fun e w' h => ⟨h.1, h.2.symm⟩, fun n => rolen_any q g m cs _ (hb n).t.rf hw.lt, fun n => ohas_any o h s gM m bs cs x y _ (hw.below (bdraws0 W n)), fun n => rohas_any q g m cs x y _ (hb n).t.rf⟩
set_option maxRecDepth 100000 in
set_option maxHeartbeats 3200000 in
theorem walk_OwedDoes (many : Int) (um : (Lit.int .i64 many).wf = true) (a : Option Addr) (len cap : Nat) (l : List OOp) {w : World} (hl : IsList w a len 3 oopE oopOk l) :
    Calls Try.prog 4 #[.int .i64 many, .slice a len cap] w fun e w' => e = .returned (.bool true) ∧ Below w.heap.size w w' := by
  have hm := hl.most
  have hbd := bounds_i64 um
  by_cases hbig : 200 < len
  · go_enter Try.func4, Try.ntmps4
    go_wp2_with (go_at_call 5; (with_reducible refine (oworks_any _).mono ?_); rintro e w1 ⟨rfl, hb1⟩)
    go_ret
    exact ⟨rfl, hb1⟩
  have hlen := Lib.hid hl.size_eq
  have hN := Lib.hid (fun w => onew_any many w hbd)
  have hNr := Lib.hid (fun w => ronew_any many w)
  go_enter Try.func4, Try.ntmps4
  go_wp2_with (first | (go_at_call 5; (with_reducible refine (oworks_any _).mono ?_); rintro e w1 ⟨rfl, hb1⟩) | (go_at_call 6; (with_reducible refine (hN.out _).mono ?_); rintro e w2 ⟨o, h, s, gM, bs0, rfl, hO, ho, hh, hs, hg, hb2, hhw⟩) | (go_at_call 10; (with_reducible refine (hNr.out _).mono ?_); rintro e w3 ⟨q0, g0, rfl, hR3, hq3, hg3, hb3, hq4, hg4⟩))
  have h0 : ODT o h s gM (nS (min many 24)) w q0 g0 (List.replicate (nS (min many 24)) 0) w3 := by
    have z1 := hb1.size
    have z2 := World.block_lt_of_cell? w2 _ hO.c0
    have z2 : o < w2.heap.size := z2
    have z3 := hO.m.lt
    have z4 := hO.m.hg
    exact ⟨⟨bs0, hO.below hb3⟩, hR3, bt (bt hb1 hb2) hb3, ⟨by omega, by omega, by omega, by omega, by have := hb2.size; omega, by have := hb2.size; omega⟩, ⟨by omega, by omega, by omega, by omega, by omega, by omega, by omega, by omega⟩⟩
  have hNr' : Hid (∀ w, Calls Try.prog 10 #[.int .i64 many] w fun e w' => ∃ q g, e = .returned (.pointer (some ⟨q, 0, none⟩)) ∧ OR w' q g (nS (min many 24)) (List.replicate (nS (min many 24)) 0) ∧ w.heap.size ≤ q ∧ w.heap.size ≤ g ∧ Below w.heap.size w w' ∧ g < w'.heap.size) := fun w => (hNr.out w).mono fun e w' ⟨q, g, h1, h2, h3, h4, h5, h6, h7⟩ => ⟨q, g, h1, h2, h3, h4, h5, h7⟩
  have hgw : g0 < w3.heap.size := hg4
  clear hNr hN
  generalize hcz : List.replicate (nS (min many 24)) 0 = cz at *
  generalize nS (min many 24) = m at *
  clear hO hb1 hb2 ho hh hs hg hhw hR3 hq3 hg3 hb3 hq4 hg4
  have hcz := Lib.hid hcz
  have hbig : len ≤ 200 := by omega
  go_loopw [6, 8] (fun qv i wr => OD1 o h s gM m len w qv i wr) (fun _ i _ => len - (intOf i).toNat)
  case atStart => exact ⟨0, Nat.zero_le _, rfl, q0, g0, cz, rfl, hgw, h0⟩
  case round =>
    obtain ⟨k, hk, rfl, q, g, cs, rfl, hgw1, h1⟩ := hrel
    clear h0 hgw
    by_cases hlt : k < len
    · obtain ⟨b, o', rfl, _⟩ := hl.at_ (by omega)
      have hk1 : k < l.length := by have := hlen.out; omega
      have hEl := fun j hj v hv => (hl.get h1.out.be (Nat.le_refl _) k hk1 j hj v hv).1
      have e0 := hEl 0 (by decide) _ rfl
      have e1 := hEl 1 (by decide) _ rfl
      have e2 := hEl 2 (by decide) _ rfl
      rw [Nat.add_zero] at e0
      have hxb : -9223372036854775808 ≤ l[k].e ∧ l[k].e ≤ 9223372036854775807 := bounds_i64 (hl.ok_at k hk1).2.1
      have hxb := Lib.hid hxb
      generalize l[k].k = kd at *
      generalize l[k].e = x at *
      generalize l[k].f = y at *
      clear hEl
      have hnext : ∀ q g cs w', ODT o h s gM m w q g cs w' → g < w'.heap.size → OD1 o h s gM m len w (.pointer (some ⟨q, 0, none⟩)) (.int .i64 ((k : Int) + 1)) w' := fun q g cs w' h hg => ⟨k + 1, by omega, by go_num, q, g, cs, rfl, hg, h⟩
      have hnext := Lib.hid hnext
      obtain ⟨W, hW⟩ : ∃ W, wr.alloc (.cells #[.int .i64 kd, .int .i64 x, .int .i64 y] 31) = W := ⟨_, rfl⟩
      obtain ⟨K, hKw⟩ : ∃ K, wr.heap.size = K := ⟨_, rfl⟩
      have hA : Below wr.heap.size wr W := hW ▸ (Below.refl _ _).alloc (Nat.le_refl _) _
      have c0 : W.cell? ⟨K, 0, none⟩ = some (.int .i64 kd) := by rw [← hW, ← hKw]; simp [go_sem]
      have hK : ODK o h s gM m w q g cs K x y W := by
        obtain ⟨bs, hw⟩ := h1.out.ow
        have t1 := World.block_lt_of_cell? wr _ hw.c1
        have t2 := hw.m.hg
        have t3 := h1.out.rf.q_lt
        have hhK : h < wr.heap.size := by have := h1.out.ne; omega
        exact ⟨h1.out.below hA, by rw [← hW, ← hKw]; simp [go_sem], by rw [← hW, ← hKw]; simp [go_sem], by omega, by omega, by omega⟩
      have hgW : g < W.heap.size := Nat.lt_of_lt_of_le hgw1 hA.size
      clear hA h1
      by_cases k01 : kd = 0 ∨ kd = 1
      · have hd := (hK.below (Below.refl _ W).drew)
        obtain ⟨bs, hw⟩ := hd.t.ow
        have hP := Lib.hid (oadd_any o h s gM m bs cs x y W.drew hw)
        have hQ := Lib.hid (fun w' (h : OR w' q g m cs) => roadd_any q g m cs x y w' h)
        have M1 := And.intro hd.k1 hd.k2
        have hstep := Lib.hid (fun w' => hd.a hgW (W' := w') (cs' := addC m cs x y))
        clear hw
        generalize addC m cs x y = cs' at *
        generalize addB m cs x y = rb at *
        rcases k01 with rfl | rfl
        · skip
          go_wp2_with fail
          refine wp_region_held_drew (S := (fun w' : World => w'.cell? ⟨K, 1, none⟩ = some (.int .i64 x) ∧ w'.cell? ⟨K, 2, none⟩ = some (.int .i64 y))) (by kernel_rfl) ?_ (fun hHeld => ?_)
          · first | exact M1 | exact M4 | exact M5
          first | (refine tw (i := 0) (v := ?_) ?_ hHeld ?_; rotate_left; focus (intro w hSw; (try dsimp only at hSw); go_simp; (try with_reducible rfl); done)) | refine tn (i := 0) hHeld ?_
          try simp only [Act.put, List.setIfInBounds_toArray, List.set_cons_zero, List.set_cons_succ]
          first | (refine tw (i := 1) (v := ?_) ?_ hHeld ?_; rotate_left; focus (intro w hSw; (try dsimp only at hSw); go_simp; (try with_reducible rfl); done)) | refine tn (i := 1) hHeld ?_
          try simp only [Act.put, List.setIfInBounds_toArray, List.set_cons_zero, List.set_cons_succ]
          first | (refine tw (i := 2) (v := ?_) ?_ hHeld ?_; rotate_left; focus (intro w hSw; (try dsimp only at hSw); go_simp; (try with_reducible rfl); done)) | refine tn (i := 2) hHeld ?_
          try simp only [Act.put, List.setIfInBounds_toArray, List.set_cons_zero, List.set_cons_succ]
          first | (refine tw (i := 3) (v := ?_) ?_ hHeld ?_; rotate_left; focus (intro w hSw; (try dsimp only at hSw); go_simp; (try with_reducible rfl); done)) | refine tn (i := 3) hHeld ?_
          try simp only [Act.put, List.setIfInBounds_toArray, List.set_cons_zero, List.set_cons_succ]
          first | (refine tw (i := 4) (v := ?_) ?_ hHeld ?_; rotate_left; focus (intro w hSw; (try dsimp only at hSw); go_simp; (try with_reducible rfl); done)) | refine tn (i := 4) hHeld ?_
          try simp only [Act.put, List.setIfInBounds_toArray, List.set_cons_zero, List.set_cons_succ]
          first | (refine tw (i := 6) (v := ?_) ?_ hHeld ?_; rotate_left; focus (intro w hSw; (try dsimp only at hSw); go_simp; (try with_reducible rfl); done)) | refine tn (i := 6) hHeld ?_
          try simp only [Act.put, List.setIfInBounds_toArray, List.set_cons_zero, List.set_cons_succ]
          first | (refine tw (i := 7) (v := ?_) ?_ hHeld ?_; rotate_left; focus (intro w hSw; (try dsimp only at hSw); go_simp; (try with_reducible rfl); done)) | refine tn (i := 7) hHeld ?_
          try simp only [Act.put, List.setIfInBounds_toArray, List.set_cons_zero, List.set_cons_succ]
          first | (refine tw (i := 8) (v := ?_) ?_ hHeld ?_; rotate_left; focus (intro w hSw; (try dsimp only at hSw); go_simp; (try with_reducible rfl); done)) | refine tn (i := 8) hHeld ?_
          try simp only [Act.put, List.setIfInBounds_toArray, List.set_cons_zero, List.set_cons_succ]
          first | (refine tw (i := 9) (v := ?_) ?_ hHeld ?_; rotate_left; focus (intro w hSw; (try dsimp only at hSw); go_simp; (try with_reducible rfl); done)) | refine tn (i := 9) hHeld ?_
          try simp only [Act.put, List.setIfInBounds_toArray, List.set_cons_zero, List.set_cons_succ]
          first | (refine tw (i := 10) (v := ?_) ?_ hHeld ?_; rotate_left; focus (intro w hSw; (try dsimp only at hSw); go_simp; (try with_reducible rfl); done)) | refine tn (i := 10) hHeld ?_
          try simp only [Act.put, List.setIfInBounds_toArray, List.set_cons_zero, List.set_cons_succ]
          refine call_next (i := 5) (by kernel_rfl) (by rfl) ?_
          intro o ho K hK
          simp only [List.getElem?_toArray, List.getElem?_cons_succ, List.getElem?_cons_zero, Option.some.injEq] at ho
          subst ho
          first | (fail; refine hK.out _ _ ?_ (fun hHeld => ?_)) | (go_simp; first | (with_reducible refine hK.out _ _ ?_ (fun hHeld => ?_)) | ((first | (go_at_call 7; (with_reducible refine hP.out.mono ?_); rintro e w4 ⟨rfl, hx4, hf4⟩; have h4 := hstep.out _ hx4 hf4; have M4 := And.intro h4.k1 h4.k2; have hgw4 : g < w4.heap.size := Nat.lt_of_lt_of_le hgW hf4.size) | (go_at_call 11; (with_reducible refine (hQ.out _ h4.rf).mono ?_); rintro e w5 ⟨rfl, hx5, hf5⟩; have h5 := h4.b hx5 hf5; have M5 := And.intro h5.k1 h5.k2; have hgw5 : g < w5.heap.size := Nat.lt_of_lt_of_le hgw4 hf5.size) | (go_at_call 7; (with_reducible refine (oadd_none x y _).mono ?_); rintro e wx ⟨rfl, rfl⟩)); refine hK.out _ _ ?_ (fun hHeld => ?_)))
          · first | exact M1 | exact M4 | exact M5
          clear hK K
          try simp only [Act.put, List.setIfInBounds_toArray, List.set_cons_zero, List.set_cons_succ]
          refine call_next (i := 11) (by kernel_rfl) (by rfl) ?_
          intro o ho K hK
          simp only [List.getElem?_toArray, List.getElem?_cons_succ, List.getElem?_cons_zero, Option.some.injEq] at ho
          subst ho
          first | (fail; refine hK.out _ _ ?_ (fun hHeld => ?_)) | (go_simp; first | (with_reducible refine hK.out _ _ ?_ (fun hHeld => ?_)) | ((first | (go_at_call 7; (with_reducible refine hP.out.mono ?_); rintro e w4 ⟨rfl, hx4, hf4⟩; have h4 := hstep.out _ hx4 hf4; have M4 := And.intro h4.k1 h4.k2; have hgw4 : g < w4.heap.size := Nat.lt_of_lt_of_le hgW hf4.size) | (go_at_call 11; (with_reducible refine (hQ.out _ h4.rf).mono ?_); rintro e w5 ⟨rfl, hx5, hf5⟩; have h5 := h4.b hx5 hf5; have M5 := And.intro h5.k1 h5.k2; have hgw5 : g < w5.heap.size := Nat.lt_of_lt_of_le hgw4 hf5.size) | (go_at_call 7; (with_reducible refine (oadd_none x y _).mono ?_); rintro e wx ⟨rfl, rfl⟩)); refine hK.out _ _ ?_ (fun hHeld => ?_)))
          · first | exact M1 | exact M4 | exact M5
          clear hK K
          try simp only [Act.put, List.setIfInBounds_toArray, List.set_cons_zero, List.set_cons_succ]
          first | (refine tw (i := 12) (v := ?_) ?_ hHeld ?_; rotate_left; focus (intro w hSw; (try dsimp only at hSw); go_simp; (try with_reducible rfl); done)) | refine tn (i := 12) hHeld ?_
          try simp only [Act.put, List.setIfInBounds_toArray, List.set_cons_zero, List.set_cons_succ]
          first | (refine tw (i := 13) (v := ?_) ?_ hHeld ?_; rotate_left; focus (intro w hSw; (try dsimp only at hSw); go_simp; (try with_reducible rfl); done)) | refine tn (i := 13) hHeld ?_
          try simp only [Act.put, List.setIfInBounds_toArray, List.set_cons_zero, List.set_cons_succ]
          first | (refine tw (i := 14) (v := ?_) ?_ hHeld ?_; rotate_left; focus (intro w hSw; (try dsimp only at hSw); go_simp; (try with_reducible rfl); done)) | refine tn (i := 14) hHeld ?_
          try simp only [Act.put, List.setIfInBounds_toArray, List.set_cons_zero, List.set_cons_succ]
          first | (refine tw (i := 15) (v := ?_) ?_ hHeld ?_; rotate_left; focus (intro w hSw; (try dsimp only at hSw); go_simp; (try with_reducible rfl); done)) | refine tn (i := 15) hHeld ?_
          try simp only [Act.put, List.setIfInBounds_toArray, List.set_cons_zero, List.set_cons_succ]
          first | (refine tw (i := 16) (v := ?_) ?_ hHeld ?_; rotate_left; focus (intro w hSw; (try dsimp only at hSw); go_simp; (try with_reducible rfl); done)) | refine tn (i := 16) hHeld ?_
          try simp only [Act.put, List.setIfInBounds_toArray, List.set_cons_zero, List.set_cons_succ]
          first | (refine tw (i := 17) (v := ?_) ?_ hHeld ?_; rotate_left; focus (intro w hSw; (try dsimp only at hSw); go_simp; (try with_reducible rfl); done)) | refine tn (i := 17) hHeld ?_
          try simp only [Act.put, List.setIfInBounds_toArray, List.set_cons_zero, List.set_cons_succ]
          first | (refine tw (i := 18) (v := ?_) ?_ hHeld ?_; rotate_left; focus (intro w hSw; (try dsimp only at hSw); go_simp; (try with_reducible rfl); done)) | refine tn (i := 18) hHeld ?_
          try simp only [Act.put, List.setIfInBounds_toArray, List.set_cons_zero, List.set_cons_succ]
          refine call_next (i := 19) (by kernel_rfl) (by rfl) ?_
          intro o ho K hK
          simp only [List.getElem?_toArray, List.getElem?_cons_succ, List.getElem?_cons_zero, Option.some.injEq] at ho
          subst ho
          first | (fail; refine hK.out _ _ ?_ (fun hHeld => ?_)) | (go_simp; first | (with_reducible refine hK.out _ _ ?_ (fun hHeld => ?_)) | ((first | (go_at_call 7; (with_reducible refine hP.out.mono ?_); rintro e w4 ⟨rfl, hx4, hf4⟩; have h4 := hstep.out _ hx4 hf4; have M4 := And.intro h4.k1 h4.k2; have hgw4 : g < w4.heap.size := Nat.lt_of_lt_of_le hgW hf4.size) | (go_at_call 11; (with_reducible refine (hQ.out _ h4.rf).mono ?_); rintro e w5 ⟨rfl, hx5, hf5⟩; have h5 := h4.b hx5 hf5; have M5 := And.intro h5.k1 h5.k2; have hgw5 : g < w5.heap.size := Nat.lt_of_lt_of_le hgw4 hf5.size) | (go_at_call 7; (with_reducible refine (oadd_none x y _).mono ?_); rintro e wx ⟨rfl, rfl⟩)); refine hK.out _ _ ?_ (fun hHeld => ?_)))
          · first | exact M1 | exact M4 | exact M5
          clear hK K
          try simp only [Act.put, List.setIfInBounds_toArray, List.set_cons_zero, List.set_cons_succ]
          first | (refine tw (i := 20) (v := ?_) ?_ hHeld ?_; rotate_left; focus (intro w hSw; (try dsimp only at hSw); go_simp; (try with_reducible rfl); done)) | refine tn (i := 20) hHeld ?_
          try simp only [Act.put, List.setIfInBounds_toArray, List.set_cons_zero, List.set_cons_succ]
          first | (refine tw (i := 21) (v := ?_) ?_ hHeld ?_; rotate_left; focus (intro w hSw; (try dsimp only at hSw); go_simp; (try with_reducible rfl); done)) | refine tn (i := 21) hHeld ?_
          try simp only [Act.put, List.setIfInBounds_toArray, List.set_cons_zero, List.set_cons_succ]
          first | (refine tw (i := 22) (v := ?_) ?_ hHeld ?_; rotate_left; focus (intro w hSw; (try dsimp only at hSw); go_simp; (try with_reducible rfl); done)) | refine tn (i := 22) hHeld ?_
          try simp only [Act.put, List.setIfInBounds_toArray, List.set_cons_zero, List.set_cons_succ]
          refine wpAnyH_done (by kernel_rfl) ?_ _
          clear M1 M4 h4 hd
          have hE5 := Lib.hid (h5).fin
          have g1 := (h5).k1
          have g2 := (h5).k2
          have hh5 := Lib.hid h5
          clear h5
          try clear M1
          try clear M4
          try clear M5
          try clear h4
          generalize lenC _ = ln at *
          generalize hasO m _ x y = hv at *
          try go_wp2_with fail
          go_quiet ((first | (go_at_call 9; with_reducible exact Calls.quiet_of_same (hE5.out.l1 _)) | (go_at_call 16; with_reducible exact Calls.quiet_of_same (hE5.out.l2 _)) | (go_at_call 17; with_reducible exact Calls.quiet_of_same (hE5.out.h1 _)) | (go_at_call 18; with_reducible exact Calls.quiet_of_same (hE5.out.h2 _)) | (go_at_call 17; with_reducible exact Calls.quiet_of_same (ohas_none x y _)) | (go_at_call 9; with_reducible exact Calls.quiet_of_same (olen_none _))))
          go_wp2
          exact ⟨hnext.out _ _ _ _ (hh5.out.below (bdraws0 _ _)).t hgw5, by simp [intOf]; omega⟩
        · skip
          go_wp2_with fail
          refine wp_region_held_drew (S := (fun w' : World => w'.cell? ⟨K, 1, none⟩ = some (.int .i64 x) ∧ w'.cell? ⟨K, 2, none⟩ = some (.int .i64 y))) (by kernel_rfl) ?_ (fun hHeld => ?_)
          · first | exact M1 | exact M4 | exact M5
          first | (refine tw (i := 0) (v := ?_) ?_ hHeld ?_; rotate_left; focus (intro w hSw; (try dsimp only at hSw); go_simp; (try with_reducible rfl); done)) | refine tn (i := 0) hHeld ?_
          try simp only [Act.put, List.setIfInBounds_toArray, List.set_cons_zero, List.set_cons_succ]
          first | (refine tw (i := 1) (v := ?_) ?_ hHeld ?_; rotate_left; focus (intro w hSw; (try dsimp only at hSw); go_simp; (try with_reducible rfl); done)) | refine tn (i := 1) hHeld ?_
          try simp only [Act.put, List.setIfInBounds_toArray, List.set_cons_zero, List.set_cons_succ]
          first | (refine tw (i := 2) (v := ?_) ?_ hHeld ?_; rotate_left; focus (intro w hSw; (try dsimp only at hSw); go_simp; (try with_reducible rfl); done)) | refine tn (i := 2) hHeld ?_
          try simp only [Act.put, List.setIfInBounds_toArray, List.set_cons_zero, List.set_cons_succ]
          first | (refine tw (i := 3) (v := ?_) ?_ hHeld ?_; rotate_left; focus (intro w hSw; (try dsimp only at hSw); go_simp; (try with_reducible rfl); done)) | refine tn (i := 3) hHeld ?_
          try simp only [Act.put, List.setIfInBounds_toArray, List.set_cons_zero, List.set_cons_succ]
          first | (refine tw (i := 4) (v := ?_) ?_ hHeld ?_; rotate_left; focus (intro w hSw; (try dsimp only at hSw); go_simp; (try with_reducible rfl); done)) | refine tn (i := 4) hHeld ?_
          try simp only [Act.put, List.setIfInBounds_toArray, List.set_cons_zero, List.set_cons_succ]
          first | (refine tw (i := 6) (v := ?_) ?_ hHeld ?_; rotate_left; focus (intro w hSw; (try dsimp only at hSw); go_simp; (try with_reducible rfl); done)) | refine tn (i := 6) hHeld ?_
          try simp only [Act.put, List.setIfInBounds_toArray, List.set_cons_zero, List.set_cons_succ]
          first | (refine tw (i := 7) (v := ?_) ?_ hHeld ?_; rotate_left; focus (intro w hSw; (try dsimp only at hSw); go_simp; (try with_reducible rfl); done)) | refine tn (i := 7) hHeld ?_
          try simp only [Act.put, List.setIfInBounds_toArray, List.set_cons_zero, List.set_cons_succ]
          first | (refine tw (i := 8) (v := ?_) ?_ hHeld ?_; rotate_left; focus (intro w hSw; (try dsimp only at hSw); go_simp; (try with_reducible rfl); done)) | refine tn (i := 8) hHeld ?_
          try simp only [Act.put, List.setIfInBounds_toArray, List.set_cons_zero, List.set_cons_succ]
          first | (refine tw (i := 9) (v := ?_) ?_ hHeld ?_; rotate_left; focus (intro w hSw; (try dsimp only at hSw); go_simp; (try with_reducible rfl); done)) | refine tn (i := 9) hHeld ?_
          try simp only [Act.put, List.setIfInBounds_toArray, List.set_cons_zero, List.set_cons_succ]
          first | (refine tw (i := 10) (v := ?_) ?_ hHeld ?_; rotate_left; focus (intro w hSw; (try dsimp only at hSw); go_simp; (try with_reducible rfl); done)) | refine tn (i := 10) hHeld ?_
          try simp only [Act.put, List.setIfInBounds_toArray, List.set_cons_zero, List.set_cons_succ]
          refine call_next (i := 5) (by kernel_rfl) (by rfl) ?_
          intro o ho K hK
          simp only [List.getElem?_toArray, List.getElem?_cons_succ, List.getElem?_cons_zero, Option.some.injEq] at ho
          subst ho
          first | (fail; refine hK.out _ _ ?_ (fun hHeld => ?_)) | (go_simp; first | (with_reducible refine hK.out _ _ ?_ (fun hHeld => ?_)) | ((first | (go_at_call 7; (with_reducible refine hP.out.mono ?_); rintro e w4 ⟨rfl, hx4, hf4⟩; have h4 := hstep.out _ hx4 hf4; have M4 := And.intro h4.k1 h4.k2; have hgw4 : g < w4.heap.size := Nat.lt_of_lt_of_le hgW hf4.size) | (go_at_call 11; (with_reducible refine (hQ.out _ h4.rf).mono ?_); rintro e w5 ⟨rfl, hx5, hf5⟩; have h5 := h4.b hx5 hf5; have M5 := And.intro h5.k1 h5.k2; have hgw5 : g < w5.heap.size := Nat.lt_of_lt_of_le hgw4 hf5.size) | (go_at_call 7; (with_reducible refine (oadd_none x y _).mono ?_); rintro e wx ⟨rfl, rfl⟩)); refine hK.out _ _ ?_ (fun hHeld => ?_)))
          · first | exact M1 | exact M4 | exact M5
          clear hK K
          try simp only [Act.put, List.setIfInBounds_toArray, List.set_cons_zero, List.set_cons_succ]
          refine call_next (i := 11) (by kernel_rfl) (by rfl) ?_
          intro o ho K hK
          simp only [List.getElem?_toArray, List.getElem?_cons_succ, List.getElem?_cons_zero, Option.some.injEq] at ho
          subst ho
          first | (fail; refine hK.out _ _ ?_ (fun hHeld => ?_)) | (go_simp; first | (with_reducible refine hK.out _ _ ?_ (fun hHeld => ?_)) | ((first | (go_at_call 7; (with_reducible refine hP.out.mono ?_); rintro e w4 ⟨rfl, hx4, hf4⟩; have h4 := hstep.out _ hx4 hf4; have M4 := And.intro h4.k1 h4.k2; have hgw4 : g < w4.heap.size := Nat.lt_of_lt_of_le hgW hf4.size) | (go_at_call 11; (with_reducible refine (hQ.out _ h4.rf).mono ?_); rintro e w5 ⟨rfl, hx5, hf5⟩; have h5 := h4.b hx5 hf5; have M5 := And.intro h5.k1 h5.k2; have hgw5 : g < w5.heap.size := Nat.lt_of_lt_of_le hgw4 hf5.size) | (go_at_call 7; (with_reducible refine (oadd_none x y _).mono ?_); rintro e wx ⟨rfl, rfl⟩)); refine hK.out _ _ ?_ (fun hHeld => ?_)))
          · first | exact M1 | exact M4 | exact M5
          clear hK K
          try simp only [Act.put, List.setIfInBounds_toArray, List.set_cons_zero, List.set_cons_succ]
          first | (refine tw (i := 12) (v := ?_) ?_ hHeld ?_; rotate_left; focus (intro w hSw; (try dsimp only at hSw); go_simp; (try with_reducible rfl); done)) | refine tn (i := 12) hHeld ?_
          try simp only [Act.put, List.setIfInBounds_toArray, List.set_cons_zero, List.set_cons_succ]
          first | (refine tw (i := 13) (v := ?_) ?_ hHeld ?_; rotate_left; focus (intro w hSw; (try dsimp only at hSw); go_simp; (try with_reducible rfl); done)) | refine tn (i := 13) hHeld ?_
          try simp only [Act.put, List.setIfInBounds_toArray, List.set_cons_zero, List.set_cons_succ]
          first | (refine tw (i := 14) (v := ?_) ?_ hHeld ?_; rotate_left; focus (intro w hSw; (try dsimp only at hSw); go_simp; (try with_reducible rfl); done)) | refine tn (i := 14) hHeld ?_
          try simp only [Act.put, List.setIfInBounds_toArray, List.set_cons_zero, List.set_cons_succ]
          first | (refine tw (i := 15) (v := ?_) ?_ hHeld ?_; rotate_left; focus (intro w hSw; (try dsimp only at hSw); go_simp; (try with_reducible rfl); done)) | refine tn (i := 15) hHeld ?_
          try simp only [Act.put, List.setIfInBounds_toArray, List.set_cons_zero, List.set_cons_succ]
          first | (refine tw (i := 16) (v := ?_) ?_ hHeld ?_; rotate_left; focus (intro w hSw; (try dsimp only at hSw); go_simp; (try with_reducible rfl); done)) | refine tn (i := 16) hHeld ?_
          try simp only [Act.put, List.setIfInBounds_toArray, List.set_cons_zero, List.set_cons_succ]
          first | (refine tw (i := 17) (v := ?_) ?_ hHeld ?_; rotate_left; focus (intro w hSw; (try dsimp only at hSw); go_simp; (try with_reducible rfl); done)) | refine tn (i := 17) hHeld ?_
          try simp only [Act.put, List.setIfInBounds_toArray, List.set_cons_zero, List.set_cons_succ]
          first | (refine tw (i := 18) (v := ?_) ?_ hHeld ?_; rotate_left; focus (intro w hSw; (try dsimp only at hSw); go_simp; (try with_reducible rfl); done)) | refine tn (i := 18) hHeld ?_
          try simp only [Act.put, List.setIfInBounds_toArray, List.set_cons_zero, List.set_cons_succ]
          refine call_next (i := 19) (by kernel_rfl) (by rfl) ?_
          intro o ho K hK
          simp only [List.getElem?_toArray, List.getElem?_cons_succ, List.getElem?_cons_zero, Option.some.injEq] at ho
          subst ho
          first | (fail; refine hK.out _ _ ?_ (fun hHeld => ?_)) | (go_simp; first | (with_reducible refine hK.out _ _ ?_ (fun hHeld => ?_)) | ((first | (go_at_call 7; (with_reducible refine hP.out.mono ?_); rintro e w4 ⟨rfl, hx4, hf4⟩; have h4 := hstep.out _ hx4 hf4; have M4 := And.intro h4.k1 h4.k2; have hgw4 : g < w4.heap.size := Nat.lt_of_lt_of_le hgW hf4.size) | (go_at_call 11; (with_reducible refine (hQ.out _ h4.rf).mono ?_); rintro e w5 ⟨rfl, hx5, hf5⟩; have h5 := h4.b hx5 hf5; have M5 := And.intro h5.k1 h5.k2; have hgw5 : g < w5.heap.size := Nat.lt_of_lt_of_le hgw4 hf5.size) | (go_at_call 7; (with_reducible refine (oadd_none x y _).mono ?_); rintro e wx ⟨rfl, rfl⟩)); refine hK.out _ _ ?_ (fun hHeld => ?_)))
          · first | exact M1 | exact M4 | exact M5
          clear hK K
          try simp only [Act.put, List.setIfInBounds_toArray, List.set_cons_zero, List.set_cons_succ]
          first | (refine tw (i := 20) (v := ?_) ?_ hHeld ?_; rotate_left; focus (intro w hSw; (try dsimp only at hSw); go_simp; (try with_reducible rfl); done)) | refine tn (i := 20) hHeld ?_
          try simp only [Act.put, List.setIfInBounds_toArray, List.set_cons_zero, List.set_cons_succ]
          first | (refine tw (i := 21) (v := ?_) ?_ hHeld ?_; rotate_left; focus (intro w hSw; (try dsimp only at hSw); go_simp; (try with_reducible rfl); done)) | refine tn (i := 21) hHeld ?_
          try simp only [Act.put, List.setIfInBounds_toArray, List.set_cons_zero, List.set_cons_succ]
          first | (refine tw (i := 22) (v := ?_) ?_ hHeld ?_; rotate_left; focus (intro w hSw; (try dsimp only at hSw); go_simp; (try with_reducible rfl); done)) | refine tn (i := 22) hHeld ?_
          try simp only [Act.put, List.setIfInBounds_toArray, List.set_cons_zero, List.set_cons_succ]
          refine wpAnyH_done (by kernel_rfl) ?_ _
          clear M1 M4 h4 hd
          have hE5 := Lib.hid (h5).fin
          have g1 := (h5).k1
          have g2 := (h5).k2
          have hh5 := Lib.hid h5
          clear h5
          try clear M1
          try clear M4
          try clear M5
          try clear h4
          generalize lenC _ = ln at *
          generalize hasO m _ x y = hv at *
          try go_wp2_with fail
          go_quiet ((first | (go_at_call 9; with_reducible exact Calls.quiet_of_same (hE5.out.l1 _)) | (go_at_call 16; with_reducible exact Calls.quiet_of_same (hE5.out.l2 _)) | (go_at_call 17; with_reducible exact Calls.quiet_of_same (hE5.out.h1 _)) | (go_at_call 18; with_reducible exact Calls.quiet_of_same (hE5.out.h2 _)) | (go_at_call 17; with_reducible exact Calls.quiet_of_same (ohas_none x y _)) | (go_at_call 9; with_reducible exact Calls.quiet_of_same (olen_none _))))
          go_wp2
          exact ⟨hnext.out _ _ _ _ (hh5.out.below (bdraws0 _ _)).t hgw5, by simp [intOf]; omega⟩
      · have d0 : (kd == 0) = false := by simpa using (fun e => k01 (.inl e))
        have d1 : (kd == 1) = false := by simpa using (fun e => k01 (.inr e))
        clear k01
        have m1 := hK.k1
        have m2 := hK.k2
        by_cases k2 : kd = 2
        · subst k2
          obtain ⟨bs, hw⟩ := hK.t.ow
          have hQ := ropay_any q g m cs x
          have hlt' := hw.lt
          rcases nextC_cases hw x with hn | ⟨p, hn⟩
          · have hP := Lib.hid (opay_no hw hxb.out hn)
            have hQ : ∀ w', OR w' q g m cs → Calls Try.prog 12 #[.pointer (some ⟨q, 0, none⟩), .int .i64 x] w' fun e w'' => e = .returned (.tuple #[.int .i64 0, .int .i64 0, .bool false]) ∧ w'' = w' := fun w' h => (hQ w' h hlt').mono fun e w'' h => by
              rcases h with ⟨_, h1, h2⟩ | ⟨p, h1, _⟩
              · exact ⟨h1, h2⟩
              · rw [hn] at h1; simp at h1
            have hQ := Lib.hid hQ
            have hK' := Lib.hid hK
            clear hw hn hlt' hK
            go_wp2_with (first | (go_at_call 8; (with_reducible refine hP.out.mono ?_); rintro e w4 ⟨rfl, hx4, hb4⟩; have h4 := hK'.out.below hb4; have m3 := h4.k1; have m4 := h4.k2; have hgw5 : g < w4.heap.size := Nat.lt_of_lt_of_le hgW hb4.size) | (go_at_call 12; (with_reducible refine (hQ.out _ h4.t.rf).mono ?_); rintro e wx ⟨rfl, rfl⟩) | (go_at_call 8; (with_reducible refine (opay_none x _).mono ?_); rintro e wx ⟨rfl, rfl⟩))
            have hE5 := Lib.hid (h4).fin
            have g1 := (h4).k1
            have g2 := (h4).k2
            have hh5 := Lib.hid h4
            clear h4
            try clear M1
            try clear M4
            try clear M5
            try clear h4
            generalize lenC _ = ln at *
            generalize hasO m _ x y = hv at *
            try go_wp2_with fail
            go_quiet ((first | (go_at_call 9; with_reducible exact Calls.quiet_of_same (hE5.out.l1 _)) | (go_at_call 16; with_reducible exact Calls.quiet_of_same (hE5.out.l2 _)) | (go_at_call 17; with_reducible exact Calls.quiet_of_same (hE5.out.h1 _)) | (go_at_call 18; with_reducible exact Calls.quiet_of_same (hE5.out.h2 _)) | (go_at_call 17; with_reducible exact Calls.quiet_of_same (ohas_none x y _)) | (go_at_call 9; with_reducible exact Calls.quiet_of_same (olen_none _))))
            go_wp2
            exact ⟨hnext.out _ _ _ _ (hh5.out.below (bdraws0 _ _)).t hgw5, by simp [intOf]; omega⟩
          · obtain ⟨kz, hkz⟩ : ∃ kz, tzK (cs.getD p 0) = kz := ⟨_, rfl⟩
            obtain ⟨cs', hcs⟩ : ∃ cs', cs.set p (offC (cs.getD p 0)) = cs' := ⟨_, rfl⟩
            have hP := Lib.hid (opay_of hw hxb.out hn hkz hcs)
            have hQ : ∀ w', OR w' q g m cs → Calls Try.prog 12 #[.pointer (some ⟨q, 0, none⟩), .int .i64 x] w' fun e w'' => e = .returned (.tuple #[.int .i64 p, .int .i64 kz, .bool true]) ∧ OR w'' q g m cs' ∧ Frm (· = g) w' w'' := fun w' h => (hQ w' h hlt').mono fun e w'' h => by
              rcases h with ⟨h1, _⟩ | ⟨p', h1, _, _, h2, h3, h4⟩
              · rw [hn] at h1; simp at h1
              · rw [hn] at h1
                have : p = p' := by simp at h1; omega
                subst this
                rw [hkz] at h2
                rw [hcs] at h3
                exact ⟨h2, h3, h4⟩
            have hQ := Lib.hid hQ
            have hstep := Lib.hid (fun w' => hK.a hgW (W' := w') (cs' := cs'))
            clear hw hn hlt' hK hkz hcs
            go_wp2_with (first | (go_at_call 8; (with_reducible refine hP.out.mono ?_); rintro e w4 ⟨rfl, hx4, hf4⟩; have h4 := hstep.out _ hx4 hf4; have m3 := h4.k1; have m4 := h4.k2; have hgw4 : g < w4.heap.size := Nat.lt_of_lt_of_le hgW hf4.size) | (go_at_call 12; (with_reducible refine (hQ.out _ h4.rf).mono ?_); rintro e w5 ⟨rfl, hx5, hf5⟩; have h5 := h4.b hx5 hf5; have m5 := h5.k1; have m6 := h5.k2; have hgw5 : g < w5.heap.size := Nat.lt_of_lt_of_le hgw4 hf5.size) | (go_at_call 8; (with_reducible refine (opay_none x _).mono ?_); rintro e wx ⟨rfl, rfl⟩))
            clear h4
            have hE5 := Lib.hid (h5).fin
            have g1 := (h5).k1
            have g2 := (h5).k2
            have hh5 := Lib.hid h5
            clear h5
            try clear M1
            try clear M4
            try clear M5
            try clear h4
            generalize lenC _ = ln at *
            generalize hasO m _ x y = hv at *
            try go_wp2_with fail
            go_quiet ((first | (go_at_call 9; with_reducible exact Calls.quiet_of_same (hE5.out.l1 _)) | (go_at_call 16; with_reducible exact Calls.quiet_of_same (hE5.out.l2 _)) | (go_at_call 17; with_reducible exact Calls.quiet_of_same (hE5.out.h1 _)) | (go_at_call 18; with_reducible exact Calls.quiet_of_same (hE5.out.h2 _)) | (go_at_call 17; with_reducible exact Calls.quiet_of_same (ohas_none x y _)) | (go_at_call 9; with_reducible exact Calls.quiet_of_same (olen_none _))))
            go_wp2
            exact ⟨hnext.out _ _ _ _ (hh5.out.below (bdraws0 _ _)).t hgw5, by simp [intOf]; omega⟩
        · have d2 : (kd == 2) = false := by simpa using k2
          by_cases k3 : kd = 3
          · subst k3
            have hd := (hK.below (Below.refl _ W).drew)
            obtain ⟨bs, hw⟩ := hd.t.ow
            have hP := odrop_any o h s gM m bs cs x W.drew hw
            have hlt' := hw.lt
            have hQ := fun w' (h : OR w' q g m cs) => rodrop_any q g m cs x w' h hlt'
            have M1 := And.intro hd.k1 hd.k2
            have hstep := Lib.hid (fun w' => hd.a hgW (W' := w') (cs' := dropC m cs x))
            clear hw hlt' m1 m2 hK
            generalize dropC m cs x = cs' at *
            generalize dropN m cs x = rb at *
            have hP := Lib.hid hP
            have hQ := Lib.hid hQ
            go_wp2_with fail
            refine wp_region_held_drew (S := (fun w' : World => w'.cell? ⟨K, 1, none⟩ = some (.int .i64 x) ∧ w'.cell? ⟨K, 2, none⟩ = some (.int .i64 y))) (by kernel_rfl) ?_ (fun hHeld => ?_)
            · first | exact M1 | exact M4 | exact M5
            first | (refine tw (i := 0) (v := ?_) ?_ hHeld ?_; rotate_left; focus (intro w hSw; (try dsimp only at hSw); go_simp; (try with_reducible rfl); done)) | refine tn (i := 0) hHeld ?_
            try simp only [Act.put, List.setIfInBounds_toArray, List.set_cons_zero, List.set_cons_succ]
            first | (refine tw (i := 1) (v := ?_) ?_ hHeld ?_; rotate_left; focus (intro w hSw; (try dsimp only at hSw); go_simp; (try with_reducible rfl); done)) | refine tn (i := 1) hHeld ?_
            try simp only [Act.put, List.setIfInBounds_toArray, List.set_cons_zero, List.set_cons_succ]
            first | (refine tw (i := 2) (v := ?_) ?_ hHeld ?_; rotate_left; focus (intro w hSw; (try dsimp only at hSw); go_simp; (try with_reducible rfl); done)) | refine tn (i := 2) hHeld ?_
            try simp only [Act.put, List.setIfInBounds_toArray, List.set_cons_zero, List.set_cons_succ]
            first | (refine tw (i := 4) (v := ?_) ?_ hHeld ?_; rotate_left; focus (intro w hSw; (try dsimp only at hSw); go_simp; (try with_reducible rfl); done)) | refine tn (i := 4) hHeld ?_
            try simp only [Act.put, List.setIfInBounds_toArray, List.set_cons_zero, List.set_cons_succ]
            first | (refine tw (i := 5) (v := ?_) ?_ hHeld ?_; rotate_left; focus (intro w hSw; (try dsimp only at hSw); go_simp; (try with_reducible rfl); done)) | refine tn (i := 5) hHeld ?_
            try simp only [Act.put, List.setIfInBounds_toArray, List.set_cons_zero, List.set_cons_succ]
            first | (refine tw (i := 6) (v := ?_) ?_ hHeld ?_; rotate_left; focus (intro w hSw; (try dsimp only at hSw); go_simp; (try with_reducible rfl); done)) | refine tn (i := 6) hHeld ?_
            try simp only [Act.put, List.setIfInBounds_toArray, List.set_cons_zero, List.set_cons_succ]
            refine call_next (i := 3) (by kernel_rfl) (by rfl) ?_
            intro o ho K hK
            simp only [List.getElem?_toArray, List.getElem?_cons_succ, List.getElem?_cons_zero, Option.some.injEq] at ho
            subst ho
            first | (fail; refine hK.out _ _ ?_ (fun hHeld => ?_)) | (go_simp; first | (with_reducible refine hK.out _ _ ?_ (fun hHeld => ?_)) | ((first | (go_at_call 13; (with_reducible refine hP.out.mono ?_); rintro e w4 ⟨rfl, hx4, hf4⟩; have h4 := hstep.out _ hx4 hf4; have M4 := And.intro h4.k1 h4.k2; have hgw4 : g < w4.heap.size := Nat.lt_of_lt_of_le hgW hf4.size) | (go_at_call 14; (with_reducible refine (hQ.out _ h4.rf).mono ?_); rintro e w5 ⟨rfl, hx5, hf5⟩; have h5 := h4.b hx5 hf5; have M5 := And.intro h5.k1 h5.k2; have hgw5 : g < w5.heap.size := Nat.lt_of_lt_of_le hgw4 hf5.size) | (go_at_call 13; (with_reducible refine (odrop_none x _).mono ?_); rintro e wx ⟨rfl, rfl⟩)); refine hK.out _ _ ?_ (fun hHeld => ?_)))
            · first | exact M1 | exact M4 | exact M5
            clear hK K
            try simp only [Act.put, List.setIfInBounds_toArray, List.set_cons_zero, List.set_cons_succ]
            refine call_next (i := 7) (by kernel_rfl) (by rfl) ?_
            intro o ho K hK
            simp only [List.getElem?_toArray, List.getElem?_cons_succ, List.getElem?_cons_zero, Option.some.injEq] at ho
            subst ho
            first | (fail; refine hK.out _ _ ?_ (fun hHeld => ?_)) | (go_simp; first | (with_reducible refine hK.out _ _ ?_ (fun hHeld => ?_)) | ((first | (go_at_call 13; (with_reducible refine hP.out.mono ?_); rintro e w4 ⟨rfl, hx4, hf4⟩; have h4 := hstep.out _ hx4 hf4; have M4 := And.intro h4.k1 h4.k2; have hgw4 : g < w4.heap.size := Nat.lt_of_lt_of_le hgW hf4.size) | (go_at_call 14; (with_reducible refine (hQ.out _ h4.rf).mono ?_); rintro e w5 ⟨rfl, hx5, hf5⟩; have h5 := h4.b hx5 hf5; have M5 := And.intro h5.k1 h5.k2; have hgw5 : g < w5.heap.size := Nat.lt_of_lt_of_le hgw4 hf5.size) | (go_at_call 13; (with_reducible refine (odrop_none x _).mono ?_); rintro e wx ⟨rfl, rfl⟩)); refine hK.out _ _ ?_ (fun hHeld => ?_)))
            · first | exact M1 | exact M4 | exact M5
            clear hK K
            try simp only [Act.put, List.setIfInBounds_toArray, List.set_cons_zero, List.set_cons_succ]
            first | (refine tw (i := 8) (v := ?_) ?_ hHeld ?_; rotate_left; focus (intro w hSw; (try dsimp only at hSw); go_simp; (try with_reducible rfl); done)) | refine tn (i := 8) hHeld ?_
            try simp only [Act.put, List.setIfInBounds_toArray, List.set_cons_zero, List.set_cons_succ]
            first | (refine tw (i := 9) (v := ?_) ?_ hHeld ?_; rotate_left; focus (intro w hSw; (try dsimp only at hSw); go_simp; (try with_reducible rfl); done)) | refine tn (i := 9) hHeld ?_
            try simp only [Act.put, List.setIfInBounds_toArray, List.set_cons_zero, List.set_cons_succ]
            first | (refine tw (i := 10) (v := ?_) ?_ hHeld ?_; rotate_left; focus (intro w hSw; (try dsimp only at hSw); go_simp; (try with_reducible rfl); done)) | refine tn (i := 10) hHeld ?_
            try simp only [Act.put, List.setIfInBounds_toArray, List.set_cons_zero, List.set_cons_succ]
            first | (refine tw (i := 11) (v := ?_) ?_ hHeld ?_; rotate_left; focus (intro w hSw; (try dsimp only at hSw); go_simp; (try with_reducible rfl); done)) | refine tn (i := 11) hHeld ?_
            try simp only [Act.put, List.setIfInBounds_toArray, List.set_cons_zero, List.set_cons_succ]
            first | (refine tw (i := 12) (v := ?_) ?_ hHeld ?_; rotate_left; focus (intro w hSw; (try dsimp only at hSw); go_simp; (try with_reducible rfl); done)) | refine tn (i := 12) hHeld ?_
            try simp only [Act.put, List.setIfInBounds_toArray, List.set_cons_zero, List.set_cons_succ]
            refine call_next (i := 13) (by kernel_rfl) (by rfl) ?_
            intro o ho K hK
            simp only [List.getElem?_toArray, List.getElem?_cons_succ, List.getElem?_cons_zero, Option.some.injEq] at ho
            subst ho
            first | (fail; refine hK.out _ _ ?_ (fun hHeld => ?_)) | (go_simp; first | (with_reducible refine hK.out _ _ ?_ (fun hHeld => ?_)) | ((first | (go_at_call 13; (with_reducible refine hP.out.mono ?_); rintro e w4 ⟨rfl, hx4, hf4⟩; have h4 := hstep.out _ hx4 hf4; have M4 := And.intro h4.k1 h4.k2; have hgw4 : g < w4.heap.size := Nat.lt_of_lt_of_le hgW hf4.size) | (go_at_call 14; (with_reducible refine (hQ.out _ h4.rf).mono ?_); rintro e w5 ⟨rfl, hx5, hf5⟩; have h5 := h4.b hx5 hf5; have M5 := And.intro h5.k1 h5.k2; have hgw5 : g < w5.heap.size := Nat.lt_of_lt_of_le hgw4 hf5.size) | (go_at_call 13; (with_reducible refine (odrop_none x _).mono ?_); rintro e wx ⟨rfl, rfl⟩)); refine hK.out _ _ ?_ (fun hHeld => ?_)))
            · first | exact M1 | exact M4 | exact M5
            clear hK K
            try simp only [Act.put, List.setIfInBounds_toArray, List.set_cons_zero, List.set_cons_succ]
            first | (refine tw (i := 14) (v := ?_) ?_ hHeld ?_; rotate_left; focus (intro w hSw; (try dsimp only at hSw); go_simp; (try with_reducible rfl); done)) | refine tn (i := 14) hHeld ?_
            try simp only [Act.put, List.setIfInBounds_toArray, List.set_cons_zero, List.set_cons_succ]
            first | (refine tw (i := 15) (v := ?_) ?_ hHeld ?_; rotate_left; focus (intro w hSw; (try dsimp only at hSw); go_simp; (try with_reducible rfl); done)) | refine tn (i := 15) hHeld ?_
            try simp only [Act.put, List.setIfInBounds_toArray, List.set_cons_zero, List.set_cons_succ]
            first | (refine tw (i := 16) (v := ?_) ?_ hHeld ?_; rotate_left; focus (intro w hSw; (try dsimp only at hSw); go_simp; (try with_reducible rfl); done)) | refine tn (i := 16) hHeld ?_
            try simp only [Act.put, List.setIfInBounds_toArray, List.set_cons_zero, List.set_cons_succ]
            refine wpAnyH_done (by kernel_rfl) ?_ _
            clear M1 M4 h4 hd
            have hE5 := Lib.hid (h5).fin
            have g1 := (h5).k1
            have g2 := (h5).k2
            have hh5 := Lib.hid h5
            clear h5
            try clear M1
            try clear M4
            try clear M5
            try clear h4
            generalize lenC _ = ln at *
            generalize hasO m _ x y = hv at *
            try go_wp2_with fail
            go_quiet ((first | (go_at_call 9; with_reducible exact Calls.quiet_of_same (hE5.out.l1 _)) | (go_at_call 16; with_reducible exact Calls.quiet_of_same (hE5.out.l2 _)) | (go_at_call 17; with_reducible exact Calls.quiet_of_same (hE5.out.h1 _)) | (go_at_call 18; with_reducible exact Calls.quiet_of_same (hE5.out.h2 _)) | (go_at_call 17; with_reducible exact Calls.quiet_of_same (ohas_none x y _)) | (go_at_call 9; with_reducible exact Calls.quiet_of_same (olen_none _))))
            go_wp2
            exact ⟨hnext.out _ _ _ _ (hh5.out.below (bdraws0 _ _)).t hgw5, by simp [intOf]; omega⟩
          · have d3 : (kd == 3) = false := by simpa using k3
            by_cases k4 : kd = 4
            · subst k4
              obtain ⟨bs, hw⟩ := hK.t.ow
              have hP := oclear_any o h s gM m bs cs W hw
              rw [hcz.out] at hP
              have hP := Lib.hid hP
              have hstep := Lib.hid (fun w' => hK.a hgW (W' := w') (cs' := cz))
              clear hw hK m1 m2
              go_wp2_with (first | (go_at_call 15; (with_reducible refine hP.out.mono ?_); rintro e w4 ⟨rfl, hx4, hf4⟩; have h4 := hstep.out _ hx4 hf4) | (go_at_call 15; (with_reducible refine (oclear_none _).mono ?_); rintro e wx ⟨rfl, rfl⟩) | (go_at_call 10; (with_reducible refine (hNr'.out _).mono ?_); rintro e w5 ⟨q5, g5, rfl, hR5, hq5, hg5, hb5, hgw5⟩; have h5 := h4.new hR5 hb5 hq5 hg5))
              clear h4
              have hE5 := Lib.hid (h5).fin
              have g1 := (h5).k1
              have g2 := (h5).k2
              have hh5 := Lib.hid h5
              clear h5
              try clear M1
              try clear M4
              try clear M5
              try clear h4
              generalize lenC _ = ln at *
              generalize hasO m _ x y = hv at *
              try go_wp2_with fail
              go_quiet ((first | (go_at_call 9; with_reducible exact Calls.quiet_of_same (hE5.out.l1 _)) | (go_at_call 16; with_reducible exact Calls.quiet_of_same (hE5.out.l2 _)) | (go_at_call 17; with_reducible exact Calls.quiet_of_same (hE5.out.h1 _)) | (go_at_call 18; with_reducible exact Calls.quiet_of_same (hE5.out.h2 _)) | (go_at_call 17; with_reducible exact Calls.quiet_of_same (ohas_none x y _)) | (go_at_call 9; with_reducible exact Calls.quiet_of_same (olen_none _))))
              go_wp2
              exact ⟨hnext.out _ _ _ _ (hh5.out.below (bdraws0 _ _)).t hgw5, by simp [intOf]; omega⟩
            · have d4 : (kd == 4) = false := by simpa using k4
              have hE5 := Lib.hid (hK).fin
              have g1 := (hK).k1
              have g2 := (hK).k2
              have hh5 := Lib.hid hK
              clear hK
              try clear M1
              try clear M4
              try clear M5
              try clear h4
              generalize lenC _ = ln at *
              generalize hasO m _ x y = hv at *
              try go_wp2_with fail
              go_quiet ((first | (go_at_call 9; with_reducible exact Calls.quiet_of_same (hE5.out.l1 _)) | (go_at_call 16; with_reducible exact Calls.quiet_of_same (hE5.out.l2 _)) | (go_at_call 17; with_reducible exact Calls.quiet_of_same (hE5.out.h1 _)) | (go_at_call 18; with_reducible exact Calls.quiet_of_same (hE5.out.h2 _)) | (go_at_call 17; with_reducible exact Calls.quiet_of_same (ohas_none x y _)) | (go_at_call 9; with_reducible exact Calls.quiet_of_same (olen_none _))))
              go_wp2
              exact ⟨hnext.out _ _ _ _ (hh5.out.below (bdraws0 _ _)).t hgW, by simp [intOf]; omega⟩
    · have hd : ¬ ((k : Int) < (len : Int)) := by omega
      have hbe := h1.out.be
      go_wp2
      go_ret
      exact ⟨rfl, hbe⟩
end Go.Proofs.Ytdaobfhkdbaklaa
