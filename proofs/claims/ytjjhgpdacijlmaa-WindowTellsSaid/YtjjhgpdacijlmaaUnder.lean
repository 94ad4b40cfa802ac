/-
  A window's bodies under way, with their numbers, told to the law's closure.
-/
import Derived.Test.YtjjhgpdacijlmaaWinU
import Derived.Test.YtjjhgpdacijlmaaWin
import Derived.Test.YtjjhgpdacijlmaaDrawIn
namespace Go.Proofs.Ytjjhgpdacijlmaa
open Go.RowKit Go.Shelf
set_option linter.unusedVariables false
set_option linter.unusedSimpArgs false
attribute [local go_sem] Oper.semAt_some
def numS (f : Int) (x : U2) : U2 := (IntKind.i64.wrap (f + x.1), x.2)
/-- the invariant between two rounds -/
def UI (D c1 : Nat) (f most : Int) (W0 : World) (pre : List U2) (W : World) : Prop :=
  ((∃ v, Boxed W c1 38 v ∧ W.ownsRow D 41 2 v (pre.map (numS f)).length (flatU (pre.map (numS f))) ∧ True) ∧ Frm (fun k => k = c1 ∨ D ≤ k) W0 W) ∧ (pre.length = 0 ∨ (pre.length : Int) < most)
def UIx (D c1 : Nat) (f most : Int) (W0 : World) (pre : List U2) (W : World) : Prop :=
  ((∃ v, Boxed W c1 38 v ∧ W.ownsRow D 41 2 v (pre.map (numS f)).length (flatU (pre.map (numS f))) ∧ True) ∧ Frm (fun k => k = c1 ∨ D ≤ k) W0 W) ∧ (pre.length : Int) = max most 1
theorem UI_own (D c1 : Nat) (f most : Int) (W0 : World) : OwnFrom D (UI D c1 f most W0) :=
  OwnFrom.and (OwnFrom.and ((holdsRow_own D c1 38 41 2 (fun (pre : List U2) => (pre.map (numS f)).length) (fun pre => flatU (pre.map (numS f))) (fun _ _ => True)).from _) (ownFrom_frmS fun k hk => .inr hk)) (ownFrom_pure _ _)
theorem UIx_own (D c1 : Nat) (f most : Int) (W0 : World) : OwnFrom D (UIx D c1 f most W0) :=
  OwnFrom.and (OwnFrom.and ((holdsRow_own D c1 38 41 2 (fun (pre : List U2) => (pre.map (numS f)).length) (fun pre => flatU (pre.map (numS f))) (fun _ _ => True)).from _) (ownFrom_frmS fun k hk => .inr hk)) (ownFrom_pure _ _)
theorem under_fn (p : Option Addr) (w : World) : Calls Try.prog 22 #[.pointer p] w fun e w' => e = .returned (.func (.func 25) #[] #[.pointer (some ⟨w.heap.size, 0, none⟩)]) ∧ w' = w.alloc (.cells #[.pointer p] 24) := by
  go_enter Try.func22, Try.ntmps22
  go_wp2
  go_ret
  exact ⟨rfl, rfl⟩
/-- what is gathered -/
def gotS (f : Int) (L : List ByteArray) (most : Int) : List U2 := ((tellS L).take (max most 1).toNat).map (numS f)
theorem tellS_len (L : List ByteArray) : (tellS L).length = L.length := by unfold tellS; rw [List.length_map, uptoS_len]
set_option maxRecDepth 100000 in
set_option maxHeartbeats 3200000 in
theorem under1_tell {W : World} {c1 c2 B0 r u g : Nat} {L : List ByteArray} {f l most : Int} (hX : WX W r u g L f l) (hB0 : W.cell? ⟨B0, 0, none⟩ = some (.pointer (some ⟨r, 0, none⟩))) (hbx : Boxed W c1 38 (.slice none 0 0)) (hm : W.cell? ⟨c2, 0, none⟩ = some (.int .i64 most))
    (n1 : c1 ≠ r) (n2 : c1 ≠ u) (n3 : c1 ≠ g) (n4 : c1 ≠ B0) (n5 : c2 ≠ c1) :
    Calls Try.prog 25 #[.func (.func 23) #[] #[.pointer (some ⟨c1, 0, none⟩), .pointer (some ⟨c2, 0, none⟩)], .pointer (some ⟨B0, 0, none⟩)] W fun e w' => e = .returned (.tuple #[]) ∧
      (∃ v D, W.heap.size ≤ D ∧ Boxed w' c1 38 v ∧ URow w' D v (gotS f L most)) ∧ Frm (fun k => k = c1 ∨ W.heap.size ≤ k) W w' := by
  have hc1W := hbx.lt
  have hc2W := World.block_lt_of_cell? W _ hm
  have hB0W := World.block_lt_of_cell? W _ hB0
  obtain ⟨hrW, huW, hgW⟩ := hX.lt
  have hL8 := hX.len
  obtain ⟨fr, C, hR, hC, hL⟩ := hX.ring
  have x0 := hX.c0
  have x1 := hX.c1
  refine (callsIn_wide (n := 12)).1 ?_
  have h1 : 1 ≤ 12 := by decide
  refine callsIn_of_wp_marks Try.func25 rfl trivial ?_ rfl
  simp only [Try.ntmps25, List.size_toArray, List.length_cons, List.length_nil, Nat.reduceAdd, Nat.reduceSub, Array.replicate_succ, Array.replicate_zero, List.push_toArray, List.append_toArray, List.nil_append, List.cons_append]
  have hfr := Lib.hid (fun w => (callsIn_wide (n := 11)).2 (allS_fn (some ⟨u, 0, none⟩) w))
  have hA1 := (Below.refl _ W).alloc (Nat.le_refl _) (.cells #[.func (.func 23) #[] #[.pointer (some ⟨c1, 0, none⟩), .pointer (some ⟨c2, 0, none⟩)]] 57)
  have hB1 := bkeep hA1 hB0
  have hx0 := bkeep hA1 x0
  gi_wp2_with fail
  refine ⟨trivial, ?_⟩
  refine (hfr.out _).mono ?_
  rintro e w1 ⟨rfl, rfl⟩
  gi_wp2_with fail
  have hb0 : Below W.heap.size W ((W.alloc (.cells #[.func (.func 23) #[] #[.pointer (some ⟨c1, 0, none⟩), .pointer (some ⟨c2, 0, none⟩)]] 57)).alloc (.cells #[.pointer (some ⟨u, 0, none⟩)] 49)) := ((Below.refl _ W).alloc (Nat.le_refl _) _).alloc (by simp) _
  have hcN : ((W.alloc (.cells #[.func (.func 23) #[] #[.pointer (some ⟨c1, 0, none⟩), .pointer (some ⟨c2, 0, none⟩)]] 57)).alloc (.cells #[.pointer (some ⟨u, 0, none⟩)] 49)).cell? ⟨W.heap.size, 0, none⟩ = some (.func (.func 23) #[] #[.pointer (some ⟨c1, 0, none⟩), .pointer (some ⟨c2, 0, none⟩)]) := by simp [go_sem]
  have hcP : ((W.alloc (.cells #[.func (.func 23) #[] #[.pointer (some ⟨c1, 0, none⟩), .pointer (some ⟨c2, 0, none⟩)]] 57)).alloc (.cells #[.pointer (some ⟨u, 0, none⟩)] 49)).cell? ⟨W.heap.size + 1, 0, none⟩ = some (.pointer (some ⟨u, 0, none⟩)) := by simp [go_sem]
  have hz0 : ((W.alloc (.cells #[.func (.func 23) #[] #[.pointer (some ⟨c1, 0, none⟩), .pointer (some ⟨c2, 0, none⟩)]] 57)).alloc (.cells #[.pointer (some ⟨u, 0, none⟩)] 49)).heap.size = W.heap.size + 2 := by simp
  have hbx0 : Boxed ((W.alloc (.cells #[.func (.func 23) #[] #[.pointer (some ⟨c1, 0, none⟩), .pointer (some ⟨c2, 0, none⟩)]] 57)).alloc (.cells #[.pointer (some ⟨u, 0, none⟩)] 49)) c1 38 (.slice none 0 0) := (hbx.alloc _).alloc _
  clear hB1 hx0 hA1
  have hB00 := bkeep hb0 hB0
  have hx10 := bkeep hb0 x1
  have hm0 := bkeep hb0 hm
  have hR0 := hR.below hb0
  obtain ⟨N, hN⟩ : ∃ N, W.heap.size = N := ⟨_, rfl⟩
  generalize ((W.alloc (.cells #[.func (.func 23) #[] #[.pointer (some ⟨c1, 0, none⟩), .pointer (some ⟨c2, 0, none⟩)]] 57)).alloc (.cells #[.pointer (some ⟨u, 0, none⟩)] 49)) = W0 at *
  rw [hN] at hcN hcP hz0 hc1W hc2W hB0W hrW huW hgW hb0
  simp only [hN, World.size_alloc]
  have hseq : SeqO 0 Fence.wide 11 Try.prog 27 #[.pointer (some ⟨N + 1, 0, none⟩)] (fun x : U2 => #[Value.int .i64 x.1, Value.string x.2]) (KC (N + 2) c1 41) (fun ys => ys = tellS L) (fun pre => pre <+: tellS L) L.length W0 :=
    fun lp J Jx V hV hl1 hl2 hJ hJx hY h0 => by
      have := all1S_in 11 (by decide) lp (N + 2) c1 u g fr L.length (N + 1) C J Jx V hl2 (by omega) (by omega) hJ hJx hY (hR0.below hV) (bkeep hV hcP) (by omega) (by omega) (by omega) (fun e => n2 e.symm) (fun e => n3 e.symm) (by omega) h0
      rw [hL] at this
      exact this
  clear hfr hR0 hcP
  refine wpIn_range_o rfl h1 (gf := 27) (lb := #[.pointer (some ⟨N + 1, 0, none⟩)]) rfl trivial (enters_of Try.func27 (by kernel_rfl) rfl)
    (b := 0) (Nat.zero_le _) hseq (fun h k => h.trans k) (fun V lp o o' hl ho hc _ => KC.putObj o' ho hc) (Below.refl _ _) (fun _ => rfl)
    (UI (N + 2) c1 f most W0) (UIx (N + 2) c1 f most W0) (hz0 ▸ UI_own (N + 2) c1 f most W0) (hz0 ▸ UIx_own (N + 2) c1 f most W0) ⟨⟨⟨_, hbx0, ⟨rfl, .inl ⟨rfl, rfl⟩⟩, trivial⟩, Frm.refl _ _⟩, .inl rfl⟩
    (fun x => { tmps := #[.func (.func 23) #[] #[.pointer (some ⟨c1, 0, none⟩), .pointer (some ⟨c2, 0, none⟩)], .pointer (some ⟨B0, 0, none⟩), .pointer (some ⟨N, 0, none⟩), .int .i64 x.1, .string x.2, .pointer (some ⟨r, 0, none⟩), .bool false, .pointer (some ⟨r, 0, none⟩), .pointer (some ⟨r, 0, none⟩), .pointer (some ⟨r, 0, none⟩), .pointer (some ⟨u, 0, none⟩), .func (.func 27) #[] #[.pointer (some ⟨N + 1, 0, none⟩)], .int .i64 x.1, .string x.2, undef, undef, undef, undef, undef, undef, undef, undef, undef, undef], defers := [] }) ?assign ?body ?done ?stop
  case assign =>
    intro l x V K hK
    gi_wp2
    exact hK
  case body =>
    rintro l2 pre x V ⟨⟨⟨v, hbv, hrow, _⟩, hF⟩, hmo⟩ hlen
    have nS : ∀ k, k < N + 2 → k ≠ c1 → ¬ (k = c1 ∨ N + 2 ≤ k) := fun k a b => by omega
    have y1 := hF.cell (p := ⟨N, 0, none⟩) (nS N (by omega) (by omega)) hcN
    have y2 := hF.cell (p := ⟨B0, 0, none⟩) (nS _ (by show B0 < N + 2; omega) (fun e => n4 e.symm)) hB00
    have y3 := hF.cell (p := ⟨r, 1, none⟩) (nS _ (by show r < N + 2; omega) (fun e => n1 e.symm)) hx10
    have y4 := hF.cell (p := ⟨c2, 0, none⟩) (nS _ (by show c2 < N + 2; omega) n5) hm0
    have hVz : N + 2 ≤ V.heap.size := by have := hF.size; omega
    have hU := Lib.hid (und1_any (W := V.drew) (D := N + 2) (c1 := c1) (c2 := c2) (v := v) (l := pre.map (numS f)) (most := most) (i := IntKind.i64.wrap (f + x.1)) (s := x.2) hbv hrow (by omega) (by omega) n5 y4 hVz (by rw [List.length_map]; omega))
    have hfin : ∀ W9, (∃ v', Boxed W9 c1 38 v' ∧ URow W9 (N + 2) v' (pre.map (numS f) ++ [(IntKind.i64.wrap (f + x.1), x.2)])) ∧ KeepsOthers V.drew W9 ∧ KC (N + 2) c1 41 V.drew W9 ∧ Frm (fun k => k = c1 ∨ N + 2 ≤ k) V.drew W9 →
        KF 0 V W9 ∧ KC (N + 2) c1 41 V W9 ∧ ((∃ v, Boxed W9 c1 38 v ∧ W9.ownsRow (N + 2) 41 2 v ((pre ++ [x]).map (numS f)).length (flatU ((pre ++ [x]).map (numS f))) ∧ True) ∧ Frm (fun k => k = c1 ∨ N + 2 ≤ k) W0 W9) := by
      rintro W9 ⟨⟨v', a1, a2⟩, a3, a4, a5⟩
      have e1 : (pre ++ [x]).map (numS f) = pre.map (numS f) ++ [(IntKind.i64.wrap (f + x.1), x.2)] := by rw [List.map_append]; rfl
      refine ⟨(KF.of a3 : KF 0 V.drew W9), (KC.drewN V 1).trans a4, ⟨v', a1, by rw [e1]; exact a2, trivial⟩, (hF.trans (((Frm.refl _ V).drewN 1).trans a5))⟩
    have hfin := Lib.hid hfin
    have hpl : (pre ++ [x]).length = pre.length + 1 := by simp
    rw [List.length_map] at hU
    clear hseq hR hbv hrow
    have M1 : V.drew.cell? ⟨N, 0, none⟩ = some (.func (.func 23) #[] #[.pointer (some ⟨c1, 0, none⟩), .pointer (some ⟨c2, 0, none⟩)]) ∧ V.drew.cell? ⟨B0, 0, none⟩ = some (.pointer (some ⟨r, 0, none⟩)) ∧ V.drew.cell? ⟨r, 1, none⟩ = some (.int .i64 f) := ⟨y1, y2, y3⟩
    have hmk : ∀ W9, Frm (fun k => k = c1 ∨ N + 2 ≤ k) V.drew W9 → W9.cell? ⟨N, 0, none⟩ = some (.func (.func 23) #[] #[.pointer (some ⟨c1, 0, none⟩), .pointer (some ⟨c2, 0, none⟩)]) ∧ W9.cell? ⟨B0, 0, none⟩ = some (.pointer (some ⟨r, 0, none⟩)) ∧ W9.cell? ⟨r, 1, none⟩ = some (.int .i64 f) := fun W9 hf =>
      ⟨hf.cell (p := ⟨N, 0, none⟩) (nS N (by omega) (by omega)) M1.1, hf.cell (p := ⟨B0, 0, none⟩) (nS _ (by show B0 < N + 2; omega) (fun e => n4 e.symm)) M1.2.1, hf.cell (p := ⟨r, 1, none⟩) (nS _ (by show r < N + 2; omega) (fun e => n1 e.symm)) M1.2.2⟩
    have hmk := Lib.hid hmk
    clear nS y4
    cases hdl : decide ((pre.length : Int) + 1 < most)
    · rw [hdl] at hU
      have hq : ((pre ++ [x]).length : Int) = max most 1 := by have := of_decide_eq_false hdl; rw [hpl]; omega
      clear hdl hmo hpl
      gi_wp2_with fail
      refine region_round (S := (fun w' : World => w'.cell? ⟨N, 0, none⟩ = some (.func (.func 23) #[] #[.pointer (some ⟨c1, 0, none⟩), .pointer (some ⟨c2, 0, none⟩)]) ∧ w'.cell? ⟨B0, 0, none⟩ = some (.pointer (some ⟨r, 0, none⟩)) ∧ w'.cell? ⟨r, 1, none⟩ = some (.int .i64 f))) (by kernel_rfl) (by kernel_rfl) ?_ (fun hHeld => ?_)
      · first | exact M1 | exact M9
      first | (refine tw (i := 0) (v := ?_) ?_ hHeld ?_; rotate_left; focus (intro w hSw; (try dsimp only at hSw); go_simp; (try with_reducible rfl); done)) | refine tn (i := 0) hHeld ?_
      try simp only [Act.put, List.setIfInBounds_toArray, List.set_cons_zero, List.set_cons_succ]
      first | (refine tw (i := 1) (v := ?_) ?_ hHeld ?_; rotate_left; focus (intro w hSw; (try dsimp only at hSw); go_simp; (try with_reducible rfl); done)) | refine tn (i := 1) hHeld ?_
      try simp only [Act.put, List.setIfInBounds_toArray, List.set_cons_zero, List.set_cons_succ]
      first | (refine tw (i := 2) (v := ?_) ?_ hHeld ?_; rotate_left; focus (intro w hSw; (try dsimp only at hSw); go_simp; (try with_reducible rfl); done)) | refine tn (i := 2) hHeld ?_
      try simp only [Act.put, List.setIfInBounds_toArray, List.set_cons_zero, List.set_cons_succ]
      first | (refine tw (i := 3) (v := ?_) ?_ hHeld ?_; rotate_left; focus (intro w hSw; (try dsimp only at hSw); go_simp; (try with_reducible rfl); done)) | refine tn (i := 3) hHeld ?_
      try simp only [Act.put, List.setIfInBounds_toArray, List.set_cons_zero, List.set_cons_succ]
      first | (refine tw (i := 4) (v := ?_) ?_ hHeld ?_; rotate_left; focus (intro w hSw; (try dsimp only at hSw); go_simp; (try with_reducible rfl); done)) | refine tn (i := 4) hHeld ?_
      try simp only [Act.put, List.setIfInBounds_toArray, List.set_cons_zero, List.set_cons_succ]
      first | (refine tw (i := 5) (v := ?_) ?_ hHeld ?_; rotate_left; focus (intro w hSw; (try dsimp only at hSw); go_simp; (try with_reducible rfl); done)) | refine tn (i := 5) hHeld ?_
      try simp only [Act.put, List.setIfInBounds_toArray, List.set_cons_zero, List.set_cons_succ]
      first | (refine tw (i := 6) (v := ?_) ?_ hHeld ?_; rotate_left; focus (intro w hSw; (try dsimp only at hSw); go_simp; (try with_reducible rfl); done)) | refine tn (i := 6) hHeld ?_
      try simp only [Act.put, List.setIfInBounds_toArray, List.set_cons_zero, List.set_cons_succ]
      first | (refine tw (i := 7) (v := ?_) ?_ hHeld ?_; rotate_left; focus (intro w hSw; (try dsimp only at hSw); go_simp; (try with_reducible rfl); done)) | refine tn (i := 7) hHeld ?_
      try simp only [Act.put, List.setIfInBounds_toArray, List.set_cons_zero, List.set_cons_succ]
      refine call_next (i := 8) (by kernel_rfl) (by rfl) ?_
      intro o ho K hK
      simp only [List.getElem?_toArray, List.getElem?_cons_succ, List.getElem?_cons_zero, Option.some.injEq] at ho
      subst ho
      first | (fail; refine hK.out _ _ ?_ (fun hHeld => ?_)) | (go_simp; first | (with_reducible refine hK.out _ _ ?_ (fun hHeld => ?_)) | ((go_at_call 23; (with_reducible refine hU.out.mono ?_); rintro e9 W9 ⟨rfl, hk9⟩; have M9 := hmk.out W9 hk9.2.2.2; replace hfin := Lib.hid (hfin.out W9 hk9); clear hk9); refine hK.out _ _ ?_ (fun hHeld => ?_)))
      · first | exact M1 | exact M9
      clear hK K
      try simp only [Act.put, List.setIfInBounds_toArray, List.set_cons_zero, List.set_cons_succ]
      first | (refine tw (i := 9) (v := ?_) ?_ hHeld ?_; rotate_left; focus (intro w hSw; (try dsimp only at hSw); go_simp; (try with_reducible rfl); done)) | refine tn (i := 9) hHeld ?_
      try simp only [Act.put, List.setIfInBounds_toArray, List.set_cons_zero, List.set_cons_succ]
      refine wpAnyH_done (by kernel_rfl) ?_ _
      refine Held1.normal ?_
      gi_wp2_with fail
      exact ⟨hfin.out.1, hfin.out.2.2, hq⟩
    · rw [hdl] at hU
      have hq : ((pre ++ [x]).length : Int) < most := by have := of_decide_eq_true hdl; rw [hpl]; omega
      clear hdl hmo hpl
      gi_wp2_with fail
      refine region_round (S := (fun w' : World => w'.cell? ⟨N, 0, none⟩ = some (.func (.func 23) #[] #[.pointer (some ⟨c1, 0, none⟩), .pointer (some ⟨c2, 0, none⟩)]) ∧ w'.cell? ⟨B0, 0, none⟩ = some (.pointer (some ⟨r, 0, none⟩)) ∧ w'.cell? ⟨r, 1, none⟩ = some (.int .i64 f))) (by kernel_rfl) (by kernel_rfl) ?_ (fun hHeld => ?_)
      · first | exact M1 | exact M9
      first | (refine tw (i := 0) (v := ?_) ?_ hHeld ?_; rotate_left; focus (intro w hSw; (try dsimp only at hSw); go_simp; (try with_reducible rfl); done)) | refine tn (i := 0) hHeld ?_
      try simp only [Act.put, List.setIfInBounds_toArray, List.set_cons_zero, List.set_cons_succ]
      first | (refine tw (i := 1) (v := ?_) ?_ hHeld ?_; rotate_left; focus (intro w hSw; (try dsimp only at hSw); go_simp; (try with_reducible rfl); done)) | refine tn (i := 1) hHeld ?_
      try simp only [Act.put, List.setIfInBounds_toArray, List.set_cons_zero, List.set_cons_succ]
      first | (refine tw (i := 2) (v := ?_) ?_ hHeld ?_; rotate_left; focus (intro w hSw; (try dsimp only at hSw); go_simp; (try with_reducible rfl); done)) | refine tn (i := 2) hHeld ?_
      try simp only [Act.put, List.setIfInBounds_toArray, List.set_cons_zero, List.set_cons_succ]
      first | (refine tw (i := 3) (v := ?_) ?_ hHeld ?_; rotate_left; focus (intro w hSw; (try dsimp only at hSw); go_simp; (try with_reducible rfl); done)) | refine tn (i := 3) hHeld ?_
      try simp only [Act.put, List.setIfInBounds_toArray, List.set_cons_zero, List.set_cons_succ]
      first | (refine tw (i := 4) (v := ?_) ?_ hHeld ?_; rotate_left; focus (intro w hSw; (try dsimp only at hSw); go_simp; (try with_reducible rfl); done)) | refine tn (i := 4) hHeld ?_
      try simp only [Act.put, List.setIfInBounds_toArray, List.set_cons_zero, List.set_cons_succ]
      first | (refine tw (i := 5) (v := ?_) ?_ hHeld ?_; rotate_left; focus (intro w hSw; (try dsimp only at hSw); go_simp; (try with_reducible rfl); done)) | refine tn (i := 5) hHeld ?_
      try simp only [Act.put, List.setIfInBounds_toArray, List.set_cons_zero, List.set_cons_succ]
      first | (refine tw (i := 6) (v := ?_) ?_ hHeld ?_; rotate_left; focus (intro w hSw; (try dsimp only at hSw); go_simp; (try with_reducible rfl); done)) | refine tn (i := 6) hHeld ?_
      try simp only [Act.put, List.setIfInBounds_toArray, List.set_cons_zero, List.set_cons_succ]
      first | (refine tw (i := 7) (v := ?_) ?_ hHeld ?_; rotate_left; focus (intro w hSw; (try dsimp only at hSw); go_simp; (try with_reducible rfl); done)) | refine tn (i := 7) hHeld ?_
      try simp only [Act.put, List.setIfInBounds_toArray, List.set_cons_zero, List.set_cons_succ]
      refine call_next (i := 8) (by kernel_rfl) (by rfl) ?_
      intro o ho K hK
      simp only [List.getElem?_toArray, List.getElem?_cons_succ, List.getElem?_cons_zero, Option.some.injEq] at ho
      subst ho
      first | (fail; refine hK.out _ _ ?_ (fun hHeld => ?_)) | (go_simp; first | (with_reducible refine hK.out _ _ ?_ (fun hHeld => ?_)) | ((go_at_call 23; (with_reducible refine hU.out.mono ?_); rintro e9 W9 ⟨rfl, hk9⟩; have M9 := hmk.out W9 hk9.2.2.2; replace hfin := Lib.hid (hfin.out W9 hk9); clear hk9); refine hK.out _ _ ?_ (fun hHeld => ?_)))
      · first | exact M1 | exact M9
      clear hK K
      try simp only [Act.put, List.setIfInBounds_toArray, List.set_cons_zero, List.set_cons_succ]
      first | (refine tw (i := 9) (v := ?_) ?_ hHeld ?_; rotate_left; focus (intro w hSw; (try dsimp only at hSw); go_simp; (try with_reducible rfl); done)) | refine tn (i := 9) hHeld ?_
      try simp only [Act.put, List.setIfInBounds_toArray, List.set_cons_zero, List.set_cons_succ]
      refine wpAnyH_done (by kernel_rfl) ?_ _
      refine Held1.normal ?_
      gi_wp2_with fail
      exact ⟨hfin.out.1, hfin.out.2.1, hfin.out.2.2, .inr hq⟩
  case done =>
    rintro Dd ys V hD rfl ⟨⟨⟨v, hbv, hrow, _⟩, hF⟩, hmo⟩ hK
    have htk : (tellS L).take (max most 1).toNat = tellS L := List.take_of_length_le (by rw [tellS_len] at hmo ⊢; omega)
    have hDc : c1 ≠ Dd := by omega
    have hbP : Boxed (V.putObj Dd (.deferred none)) c1 38 v := (World.putObj_heap_other hDc).trans hbv
    have hrP := ownsRow_putObj hrow (.deferred none) hK rfl
    have hFP : Frm (fun k => k = c1 ∨ N ≤ k) W (V.putObj Dd (.deferred none)) := ((Frm.ofBelow (hN ▸ hb0 : Below W.heap.size W W0)).trans (hF.mono fun k _ h => h.imp id (fun h => by omega))).trans ((frm_grownS (grownBy_putObj' V Dd _)).mono fun k _ e => by cases e; exact .inr (by omega))
    have hg : gotS f L most = (tellS L).map (numS f) := by unfold gotS; congr 1
    gi_wp2
    refine ⟨by simp, .inl ⟨_, _, rfl, run_takeDeferred hK, ?_⟩⟩
    refine ⟨.tuple #[], ?_, rfl, ⟨v, N + 2, by omega, hbP, by rw [hg]; exact hrP⟩, hN ▸ hFP⟩
    simp [results, Try.f25, go_sem]
  case stop =>
    rintro Dd pre V hD hpre ⟨⟨⟨v, hbv, hrow, _⟩, hF⟩, hmo⟩ hK
    have htk : (tellS L).take (max most 1).toNat = pre := by
      have := List.prefix_iff_eq_take.1 hpre
      rw [show (max most 1).toNat = pre.length by omega]
      exact this.symm
    have hDc : c1 ≠ Dd := by omega
    have hbP : Boxed (V.putObj Dd (.deferred none)) c1 38 v := (World.putObj_heap_other hDc).trans hbv
    have hrP := ownsRow_putObj hrow (.deferred none) hK rfl
    have hFP : Frm (fun k => k = c1 ∨ N ≤ k) W (V.putObj Dd (.deferred none)) := ((Frm.ofBelow (hN ▸ hb0 : Below W.heap.size W W0)).trans (hF.mono fun k _ h => h.imp id (fun h => by omega))).trans ((frm_grownS (grownBy_putObj' V Dd _)).mono fun k _ e => by cases e; exact .inr (by omega))
    have hg : gotS f L most = pre.map (numS f) := by unfold gotS; congr 1
    gi_wp2
    refine ⟨by simp, .inl ⟨_, _, rfl, run_takeDeferred hK, ?_⟩⟩
    refine ⟨.tuple #[], ?_, rfl, ⟨v, N + 2, by omega, hbP, by rw [hg]; exact hrP⟩, hN ▸ hFP⟩
    simp [results, Try.f25, go_sem]
end Go.Proofs.Ytjjhgpdacijlmaa
