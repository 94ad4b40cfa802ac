/-
  A ring of numbers that is none: nothing is told.
-/
import Derived.Test.YtmjkahbjpkkdgaaRing4I
namespace Go.Proofs.Ytmjkahbjpkkdgaa
open Go.RowKit Go.Shelf
set_option linter.unusedVariables false
set_option linter.unusedSimpArgs false
attribute [local go_sem] Oper.semAt_some

set_option maxRecDepth 100000 in
set_option maxHeartbeats 3200000 in
theorem all1I_nil (fn : Fn) (ts cs : Array Value) (P : Nat) (w : World) (hP : w.cell? ⟨P, 0, none⟩ = some (.pointer none)) : Calls Try.prog 27 #[.func fn ts cs, .pointer (some ⟨P, 0, none⟩)] w fun e w' => e = .returned (.tuple #[]) ∧ Below w.heap.size w w' := by
  refine (callsIn_wide (n := 8)).1 ?_
  have h1 : 1 ≤ 8 := by decide
  refine callsIn_of_wp_marks Try.func27 rfl trivial ?_ rfl
  simp only [Try.ntmps27, List.size_toArray, List.length_cons, List.length_nil, Nat.reduceAdd, Nat.reduceSub, Array.replicate_succ, Array.replicate_zero, List.push_toArray, List.append_toArray, List.nil_append, List.cons_append]
  have hfr := Lib.hid (fun w => (callsIn_wide (n := 7)).2 (placesI_fn none w))
  have hP1 := bkeep ((Below.refl _ w).alloc (Nat.le_refl _) (.cells #[.func fn ts cs] 42)) hP
  gi_wp2_with fail
  refine ⟨trivial, ?_⟩
  refine (hfr.out _).mono ?_
  rintro e w1 ⟨rfl, rfl⟩
  gi_wp2_with fail
  have hb0 : Below w.heap.size w ((w.alloc (.cells #[.func fn ts cs] 42)).alloc (.cells #[.pointer none] 24)) := ((Below.refl _ w).alloc (Nat.le_refl _) _).alloc (by simp) _
  have hcP : ((w.alloc (.cells #[.func fn ts cs] 42)).alloc (.cells #[.pointer none] 24)).cell? ⟨w.heap.size + 1, 0, none⟩ = some (.pointer none) := by simp [go_sem]
  have hz0 : ((w.alloc (.cells #[.func fn ts cs] 42)).alloc (.cells #[.pointer none] 24)).heap.size = w.heap.size + 2 := by simp
  clear hP1
  obtain ⟨N, hN⟩ : ∃ N, w.heap.size = N := ⟨_, rfl⟩
  generalize ((w.alloc (.cells #[.func fn ts cs] 42)).alloc (.cells #[.pointer none] 24)) = W0 at *
  rw [hN] at hcP hz0 hb0
  simp only [hN, World.size_alloc]
  have hst := placesI_stops0 7 (by decide) (N + 1) (fun k => N ≤ k) W0 hcP
  refine wpIn_rangeFunc_ownF rfl h1 (gf := 34) (lb := #[.pointer (some ⟨N + 1, 0, none⟩)]) rfl trivial (enters_of Try.func34 (by kernel_rfl) rfl)
    hst (fun h k => h.trans k) (frmK_bI fun k hk => by omega) (Below.refl _ _) (fun _ => rfl)
    (fun pre W => pre = [] ∧ Below N w W)
    (fun c pre W => False ∧ Below N w W)
    (OwnFrom.and (Own.from (fun s A B row hs hg hr => hs) _) (ownFrom_below (hN ▸ Nat.le_refl _) (by omega)))
    (fun c => OwnFrom.and (Own.from (fun s A B row hs hg hr => hs) _) (ownFrom_below (hN ▸ Nat.le_refl _) (by omega)))
    ⟨rfl, hb0⟩
    (fun x => { tmps := #[.func fn ts cs, .pointer (some ⟨P, 0, none⟩), .pointer (some ⟨N, 0, none⟩), .int .i64 x, undef, undef, .pointer none, .func (.func 34) #[] #[.pointer (some ⟨N + 1, 0, none⟩)], .int .i64 x, undef, undef, undef, undef, undef, undef, undef, undef, undef, undef, undef, undef, undef, undef, undef], defers := [] }) ?assign ?body ?done ?stop
  case assign =>
    intro l x W K hK
    gi_wp2
    exact hK
  case body =>
    rintro l pre x W _ hlen
    exact absurd hlen (by omega)
  case done =>
    rintro D ys W hD rfl ⟨_, hB⟩ hK
    gi_wp2
    refine ⟨by simp, .inl ⟨_, _, rfl, run_takeDeferred hK, ?_⟩⟩
    refine ⟨.tuple #[], ?_, rfl, hN ▸ hB.trans (belowK_b (w := w) (hN ▸ Nat.le_refl _) W D _ _ (by omega) hK rfl rfl)⟩
    simp [results, Try.f27, go_sem]
  case stop =>
    rintro D c pre W hD hpre ⟨h, _⟩ hK
    exact h.elim
end Go.Proofs.Ytmjkahbjpkkdgaa
