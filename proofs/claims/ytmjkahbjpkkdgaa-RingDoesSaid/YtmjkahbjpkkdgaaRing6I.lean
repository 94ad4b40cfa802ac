/-
  A ring of numbers: all that is in it, told to a teller.
-/
import Derived.Test.YtmjkahbjpkkdgaaRing4I
namespace Go.Proofs.Ytmjkahbjpkkdgaa
open Go.RowKit Go.Shelf
set_option linter.unusedVariables false
set_option linter.unusedSimpArgs false
attribute [local go_sem] Oper.semAt_some

theorem frm_grownI {A B : World} {row : Option Nat} (h : A.grownBy B row) : Frm (fun k => row = some k) A B := ⟨h.os, h.tape, h.output, h.size, fun k hk hx => h.block k hk fun e => hx e.symm⟩
theorem ownFrom_frmI {B : Nat} {S : Nat → Prop} {w : World} (hS : ∀ k, B ≤ k → S k) : OwnFrom B (fun (_ : List Int) W => Frm S w W) :=
  fun _ W W' row hs hg hr => hs.trans ((frm_grownI hg).mono fun k _ e => hS k (hr k e).1)
theorem uptoI_inj {a b : Nat} (h : uptoI a = uptoI b) : a = b := by have := congrArg List.length h; rwa [uptoI_len, uptoI_len] at this
theorem uptoI_prefix {pre : List Int} {n : Nat} (h : pre <+: uptoI n) : pre = uptoI pre.length ∧ pre.length ≤ n := by
  have hl := h.length_le
  rw [uptoI_len] at hl
  refine ⟨List.ext_getElem (by rw [uptoI_len]) fun i h1 h2 => ?_, hl⟩
  rw [h.getElem h1]
  simp [uptoI]
theorem kodI (W : World) (m : Nat) : KeepsOthers W (W.drewN m) := ⟨Nat.le_refl _, fun _ _ h _ => h⟩
set_option maxRecDepth 100000 in
set_option maxHeartbeats 3200000 in
theorem all1I_tell (c1 c2 c3 : Nat) (r g fr n P : Nat) (C : List Int) (Y : Nat → Prop) (J Jx : List Int → World → Prop) (w : World)
    (hR : RGI w r g fr n C) (hP : w.cell? ⟨P, 0, none⟩ = some (.pointer (some ⟨r, 0, none⟩))) (hr : ¬ Y r) (hg : ¬ Y g) (hPs : ¬ Y P) (hYl : ∀ k, Y k → k < w.heap.size) (hJ : OwnFrom w.heap.size J) (hJx : OwnFrom w.heap.size Jx)
    (hy : ∀ pre (x : Int) (h : 0 ≤ x ∧ x < n) W, J pre W → pre.length < n → Calls Try.prog 19 #[.int .i64 x, iv ((LI C fr n)[x.toNat]'(by rw [rgL_len]; omega)), .pointer (some ⟨c1, 0, none⟩), .pointer (some ⟨c2, 0, none⟩), .pointer (some ⟨c3, 0, none⟩)] W fun e W' =>
      (e = .returned (.bool true) ∧ J (pre ++ [x]) W' ∧ KeepsOthers W W' ∧ Frm Y W W') ∨ (e = .returned (.bool false) ∧ Jx (pre ++ [x]) W' ∧ KeepsOthers W W' ∧ Frm Y W W'))
    (h0 : J [] w) :
    Calls Try.prog 27 #[.func (.func 19) #[] #[.pointer (some ⟨c1, 0, none⟩), .pointer (some ⟨c2, 0, none⟩), .pointer (some ⟨c3, 0, none⟩)], .pointer (some ⟨P, 0, none⟩)] w fun e w' => e = .returned (.tuple #[]) ∧ (J (uptoI n) w' ∨ ∃ k, k ≤ n ∧ Jx (uptoI k) w') ∧ Frm (fun k => Y k ∨ w.heap.size ≤ k) w w' := by
  have hPw : P < w.heap.size := World.block_lt_of_cell? w _ hP
  have hrw := hR.lt
  have hgw := hR.hg
  refine (callsIn_wide (n := 8)).1 ?_
  have h1 : 1 ≤ 8 := by decide
  refine callsIn_of_wp_marks Try.func27 rfl trivial ?_ rfl
  simp only [Try.ntmps27, List.size_toArray, List.length_cons, List.length_nil, Nat.reduceAdd, Nat.reduceSub, Array.replicate_succ, Array.replicate_zero, List.push_toArray, List.append_toArray, List.nil_append, List.cons_append]
  have hfr := Lib.hid (fun w => (callsIn_wide (n := 7)).2 (placesI_fn (some ⟨r, 0, none⟩) w))
  have hP1 := bkeep ((Below.refl _ w).alloc (Nat.le_refl _) (.cells #[.func (.func 19) #[] #[.pointer (some ⟨c1, 0, none⟩), .pointer (some ⟨c2, 0, none⟩), .pointer (some ⟨c3, 0, none⟩)]] 42)) hP
  gi_wp2_with fail
  refine ⟨trivial, ?_⟩
  refine (hfr.out _).mono ?_
  rintro e w1 ⟨rfl, rfl⟩
  gi_wp2_with fail
  have hb0 : Below w.heap.size w ((w.alloc (.cells #[.func (.func 19) #[] #[.pointer (some ⟨c1, 0, none⟩), .pointer (some ⟨c2, 0, none⟩), .pointer (some ⟨c3, 0, none⟩)]] 42)).alloc (.cells #[.pointer (some ⟨r, 0, none⟩)] 24)) := ((Below.refl _ w).alloc (Nat.le_refl _) _).alloc (by simp) _
  have h00 : J [] ((w.alloc (.cells #[.func (.func 19) #[] #[.pointer (some ⟨c1, 0, none⟩), .pointer (some ⟨c2, 0, none⟩), .pointer (some ⟨c3, 0, none⟩)]] 42)).alloc (.cells #[.pointer (some ⟨r, 0, none⟩)] 24)) :=
    hJ [] _ _ none (hJ [] _ _ none h0 (World.grownBy_alloc _ _ none) (fun r e => by cases e)) (World.grownBy_alloc _ _ none) (fun r e => by cases e)
  have hcQ : ((w.alloc (.cells #[.func (.func 19) #[] #[.pointer (some ⟨c1, 0, none⟩), .pointer (some ⟨c2, 0, none⟩), .pointer (some ⟨c3, 0, none⟩)]] 42)).alloc (.cells #[.pointer (some ⟨r, 0, none⟩)] 24)).cell? ⟨w.heap.size, 0, none⟩ = some (.func (.func 19) #[] #[.pointer (some ⟨c1, 0, none⟩), .pointer (some ⟨c2, 0, none⟩), .pointer (some ⟨c3, 0, none⟩)]) := by simp [go_sem]
  have hcP : ((w.alloc (.cells #[.func (.func 19) #[] #[.pointer (some ⟨c1, 0, none⟩), .pointer (some ⟨c2, 0, none⟩), .pointer (some ⟨c3, 0, none⟩)]] 42)).alloc (.cells #[.pointer (some ⟨r, 0, none⟩)] 24)).cell? ⟨w.heap.size + 1, 0, none⟩ = some (.pointer (some ⟨r, 0, none⟩)) := by simp [go_sem]
  have hz0 : ((w.alloc (.cells #[.func (.func 19) #[] #[.pointer (some ⟨c1, 0, none⟩), .pointer (some ⟨c2, 0, none⟩), .pointer (some ⟨c3, 0, none⟩)]] 42)).alloc (.cells #[.pointer (some ⟨r, 0, none⟩)] 24)).heap.size = w.heap.size + 2 := by simp
  clear hP1
  have hR0 := hR.below hb0
  have hP0 := bkeep hb0 hP
  obtain ⟨N, hN⟩ : ∃ N, w.heap.size = N := ⟨_, rfl⟩
  generalize ((w.alloc (.cells #[.func (.func 19) #[] #[.pointer (some ⟨c1, 0, none⟩), .pointer (some ⟨c2, 0, none⟩), .pointer (some ⟨c3, 0, none⟩)]] 42)).alloc (.cells #[.pointer (some ⟨r, 0, none⟩)] 24)) = W0 at *
  rw [hN] at hcP hcQ hz0 hb0 hJ hJx hPw hrw hgw
  simp only [hN, World.size_alloc]
  rw [hN] at hYl
  obtain ⟨S, hS⟩ : ∃ S : Nat → Prop, S = fun k => Y k ∨ N + 2 ≤ k := ⟨_, rfl⟩
  have nY : ∀ k, ¬ Y k → k < N + 2 → ¬ S k := fun k h1 h2 => by subst hS; exact fun h => h.elim h1 (fun h => by omega)
  have nN : ¬ Y N := fun h => by have := hYl _ h; omega
  have nN1 : ¬ Y (N + 1) := fun h => by have := hYl _ h; omega
  have hEnd : ∀ W D, Frm S W0 W → N + 2 ≤ D → Frm (fun k => Y k ∨ w.heap.size ≤ k) w (W.putObj D (.deferred none)) := fun W D hF hD =>
    ((Frm.ofBelow (hN ▸ hb0 : Below w.heap.size w W0)).trans (hF.mono fun k _ h => by subst hS; exact h.imp id (fun h => by omega))).trans ((frm_grownI (grownBy_putObj' W D _)).mono fun k _ e => by cases e; exact .inr (by omega))
  have hst := placesI_stops 7 (by decide) r g fr n (N + 1) C S W0 hR0 hcP (nY _ hr (by omega)) (nY _ hg (by omega)) (nY _ nN1 (by omega))
  refine wpIn_rangeFunc_ownF rfl h1 (gf := 34) (lb := #[.pointer (some ⟨N + 1, 0, none⟩)]) rfl trivial (enters_of Try.func34 (by kernel_rfl) rfl)
    hst (fun h k => h.trans k) (frmK_bI fun k hk => by subst hS; exact .inr (by omega)) (Below.refl _ _) (fun _ => rfl)
    (fun pre W => J pre W ∧ Frm S W0 W)
    (fun c pre W => (c = .ret ∧ ((∀ x ∈ pre, 0 ≤ x ∧ x < (n : Int)) → Jx pre W)) ∧ Frm S W0 W)
    (OwnFrom.and (fun k W W' row hs hg hr => hJ k W W' row hs hg fun r e => ⟨by have := (hr r e).1; omega, (hr r e).2⟩) (ownFrom_frmI fun k hk => by subst hS; exact .inr (by omega)))
    (fun c => OwnFrom.and (fun pre W W' row hs hg hr => ⟨hs.1, fun hx => hJx pre W W' row (hs.2 hx) hg fun r e => ⟨by have := (hr r e).1; omega, (hr r e).2⟩⟩) (ownFrom_frmI fun k hk => by subst hS; exact .inr (by omega)))
    ⟨h00, Frm.refl _ _⟩
    (fun x => { tmps := #[.func (.func 19) #[] #[.pointer (some ⟨c1, 0, none⟩), .pointer (some ⟨c2, 0, none⟩), .pointer (some ⟨c3, 0, none⟩)], .pointer (some ⟨P, 0, none⟩), .pointer (some ⟨N, 0, none⟩), .int .i64 x, undef, undef, .pointer (some ⟨r, 0, none⟩), .func (.func 34) #[] #[.pointer (some ⟨N + 1, 0, none⟩)], .int .i64 x, undef, undef, undef, undef, undef, undef, undef, undef, undef, undef, undef, undef, undef, undef, undef], defers := [] }) ?assign ?body ?done ?stop
  case assign =>
    intro l x W K hK
    gi_wp2
    exact hK
  case body =>
    rintro l pre x W ⟨hJk, hF⟩ hlen
    have hRW := hR0.frm hF (nY _ hr (by omega)) (nY _ hg (by omega))
    have hcPW := hF.cell (p := ⟨P, 0, none⟩) (nY P hPs (by omega)) hP0
    have hcQW := hF.cell (p := ⟨N, 0, none⟩) (nY N nN (by omega)) hcQ
    have hAt := atI_any r g fr n C x W hRW
    by_cases hx : 0 ≤ x ∧ x < n
    · have hv : atVI (LI C fr n) x = .tuple #[iv ((LI C fr n)[x.toNat]'(by rw [rgL_len]; omega)), .bool true] := by
        unfold atVI
        rw [dif_pos (by rw [rgL_len]; exact hx)]
      rw [hv] at hAt
      have hAt := Lib.hid hAt
      have hyk := Lib.hid (fun m => hy pre x hx (W.drewN m) (hJ pre _ _ none hJk ⟨rfl, rfl, rfl, Nat.le_refl _, fun _ _ _ => rfl⟩ (fun r e => by cases e)) hlen)
      clear hv
      generalize (LI C fr n)[x.toNat]'(by rw [rgL_len]; omega) = y at *
      gi_wp2_with (refine ⟨trivial, ?_⟩; gi_at_call 15; refine (CallsIn.inRound l (callsIn_wide.2 hAt.out)).mono ?_; rintro e w1 ⟨rfl, m, rfl⟩)
      refine ⟨trivial, ?_⟩
      refine (CallsIn.inRound l (callsIn_wide.2 (hyk.out m))).mono ?_
      rintro e w2 (⟨rfl, hJ2, hK2, hF2⟩ | ⟨rfl, hJ2, hK2, hF2⟩)
      · have hfs : Frm S W w2 := ((Frm.refl _ W).drewN m).trans (hF2.mono fun k _ h => by subst hS; exact .inl h)
        gi_wp2_with fail
        exact ⟨(kodI W m).trans hK2, hfs, hJ2, hF.trans hfs⟩
      · have hfs : Frm S W w2 := ((Frm.refl _ W).drewN m).trans (hF2.mono fun k _ h => by subst hS; exact .inl h)
        gi_wp2_with fail
        exact ⟨(kodI W m).trans hK2, ⟨rfl, fun _ => hJ2⟩, hF.trans hfs⟩
    · have hv : atVI (LI C fr n) x = .tuple #[.int .i64 0, .bool false] := by
        unfold atVI
        rw [dif_neg (by rw [rgL_len]; exact hx)]
      rw [hv] at hAt
      have hAt := Lib.hid hAt
      gi_wp2_with (refine ⟨trivial, ?_⟩; gi_at_call 15; refine (CallsIn.inRound l (callsIn_wide.2 hAt.out)).mono ?_; rintro e w1 ⟨rfl, m, rfl⟩)
      refine ⟨fun _ h => (by cases h), ?_⟩
      gi_wp2_with fail
      exact ⟨kodI W m, ⟨rfl, fun h => absurd (h x (by simp)) hx⟩, hF.trans ((Frm.refl _ W).drewN m)⟩
  case done =>
    rintro D ys W hD rfl ⟨hJk, hF⟩ hK
    gi_wp2
    refine ⟨by simp, .inl ⟨_, _, rfl, run_takeDeferred hK, ?_⟩⟩
    refine ⟨.tuple #[], ?_, rfl, .inl (hJ _ _ _ _ hJk (grownBy_putObj' W D _) (fun r e => by cases e; exact ⟨by omega, _, hK, rfl⟩)), hEnd W D hF (by omega)⟩
    simp [results, Try.f27, go_sem]
  case stop =>
    rintro D c pre W hD hpre ⟨⟨rfl, hJk⟩, hF⟩ hK
    obtain ⟨he, hk⟩ := uptoI_prefix hpre
    have hJk := hJk (by rw [he]; exact fun x hx => by obtain ⟨i, hi, rfl⟩ := List.mem_map.1 hx; have := List.mem_range.1 hi; omega)
    gi_wp2
    refine ⟨by simp, .inl ⟨_, _, rfl, run_takeDeferred hK, ?_⟩⟩
    refine ⟨.tuple #[], ?_, rfl, .inr ⟨pre.length, hk, by rw [← he]; exact hJx _ _ _ _ hJk (grownBy_putObj' W D _) (fun r e => by cases e; exact ⟨by omega, _, hK, rfl⟩)⟩, hEnd W D hF (by omega)⟩
    simp [results, Try.f27, go_sem]
end Go.Proofs.Ytmjkahbjpkkdgaa
