/-
  The next number of a set, round: the walk of Next.
-/
import Derived.Test.YtdaobfhkdbaklaaMarksNext
namespace Go.Proofs.Ytdaobfhkdbaklaa
open Go.RowKit Go.Shelf
set_option linter.unusedVariables false
set_option linter.unusedSimpArgs false
attribute [local go_sem] Oper.semAt_some

theorem from_any (p : Option Addr) (f : Int) (w : World) : Calls Try.prog 32 #[.pointer p, .int .i64 f] w fun e w' => e = .returned (.func (.func 37) #[] #[.pointer (some ⟨w.heap.size + 1, 0, none⟩), .pointer (some ⟨w.heap.size, 0, none⟩)]) ∧ w' = (w.alloc (.cells #[.pointer p] 40)).alloc (.cells #[.int .i64 f] 3) := by
  go_enter Try.func32, Try.ntmps32
  go_wp2
  go_ret
  exact ⟨rfl, rfl⟩
theorem alln_any (p : Option Addr) (w : World) : Calls Try.prog 33 #[.pointer p] w fun e w' => e = .returned (.func (.func 37) #[] #[.pointer (some ⟨w.heap.size + 1, 0, none⟩), .pointer (some ⟨w.heap.size, 0, none⟩)]) ∧ w' = (w.alloc (.cells #[.pointer p] 40)).alloc (.cells #[.int .i64 0] 3) := by
  have hfr := Lib.hid (from_any p 0)
  go_enter Try.func33, Try.ntmps33
  go_wp2_with (go_at_call 32; (with_reducible refine (hfr.out _).mono ?_); rintro e w1 ⟨rfl, rfl⟩)
  go_ret
  exact ⟨rfl, rfl⟩
theorem from_stops (n : Nat) (hn : 2 ≤ n) (s g many F P n₀ : Nat) (bs : List Nat) (f0 : Int) (w : World) (hM : MS w s g many bs) (hF : w.cell? ⟨F, 0, none⟩ = some (.int .i64 f0)) (hP : w.cell? ⟨P, 0, none⟩ = some (.pointer (some ⟨s, 0, none⟩))) (hsn : s < n₀) (hgn : g < n₀) (hPn : P < n₀) (hnW : n₀ ≤ w.heap.size) (hf : -9223372036854775808 ≤ f0 ∧ f0 ≤ 9223372036854775807) :
    SeqStopsK Fence.wide n Try.prog 37 #[.pointer (some ⟨F, 0, none⟩), .pointer (some ⟨P, 0, none⟩)] (fun x : Int => #[Value.int .i64 x]) (Below n₀) (fun ys => ys = selF bs (max f0 0).toNat many) (fun pre => pre <+: selF bs (max f0 0).toNat many) (selF bs (max f0 0).toNat many).length w :=
  fun l J Jx W hW hJ _ hY h0 =>
    from1_in n hn l s g many F P n₀ bs f0 J Jx W hJ hY (hM.below hW) (bkeep hW hF) (bkeep hW hP) hsn hgn hPn (Nat.le_trans hnW hW.size) h0 hf
theorem own_block {β : Type} {B D : Nat} {o : Obj} (hD : D < B) : OwnFrom B (fun (_ : β) V => V.heap[D]? = some o) :=
  fun _ W W' row hs hg hr => (hg.block D (Array.getElem?_eq_some_iff.1 hs).1 (fun e => by have := (hr D e.symm).1; omega)).trans hs
/-- which number comes next -/
def nextL (L : Int → List Int) (f : Int) : Int × Bool :=
  match L f with
  | x :: _ => (x, true)
  | [] => match L 0 with
    | x :: _ => (x, true)
    | [] => (0, false)
set_option maxRecDepth 100000 in
set_option maxHeartbeats 3200000 in
theorem next_gen (p : Option Addr) (L : Int → List Int) (f : Int) (w : World) (hf : -9223372036854775808 ≤ f ∧ f ≤ 9223372036854775807)
    (hS : ∀ (W : World) (F P : Nat) (f0 : Int), Below w.heap.size w W → W.cell? ⟨F, 0, none⟩ = some (.int .i64 f0) → W.cell? ⟨P, 0, none⟩ = some (.pointer p) → P < W.heap.size → -9223372036854775808 ≤ f0 ∧ f0 ≤ 9223372036854775807 →
      SeqStopsK Fence.wide 7 Try.prog 37 #[.pointer (some ⟨F, 0, none⟩), .pointer (some ⟨P, 0, none⟩)] (fun x : Int => #[Value.int .i64 x]) (Below W.heap.size) (fun ys => ys = L f0) (fun pre => pre <+: L f0) (L f0).length W) :
    Calls Try.prog 29 #[.pointer p, .int .i64 f] w fun e w' =>
    e = .returned (.tuple #[.int .i64 (nextL L f).1, .bool (nextL L f).2]) ∧ Below w.heap.size w w' := by
  refine (callsIn_wide (n := 8)).1 ?_
  have h1 : 1 ≤ 8 := by decide
  refine callsIn_of_wp_marks Try.func29 rfl trivial ?_ rfl
  simp only [Try.ntmps29, List.size_toArray, List.length_cons, List.length_nil, Nat.reduceAdd, Nat.reduceSub, Array.replicate_succ, Array.replicate_zero, List.push_toArray, List.append_toArray, List.nil_append, List.cons_append]
  have hfr := Lib.hid (fun w => (callsIn_wide (n := 7)).2 (from_any p f w))
  have hal := Lib.hid (fun w => (callsIn_wide (n := 7)).2 (alln_any p w))
  gi_wp2_with fail
  refine ⟨trivial, ?_⟩
  refine (hfr.out _).mono ?_
  rintro e w1 ⟨rfl, rfl⟩
  gi_wp2_with fail
  obtain ⟨N, hN⟩ : ∃ N, w.heap.size = N := ⟨_, rfl⟩
  have hb0 : Below w.heap.size w ((((w.alloc (.cells #[.int .i64 0] 3)).alloc (.cells #[.bool false] 4)).alloc (.cells #[.pointer p] 40)).alloc (.cells #[.int .i64 f] 3)) := ((((Below.refl _ w).alloc (Nat.le_refl _) _).alloc (by simp) _).alloc (by simp; omega) _).alloc (by simp; omega) _
  have hz0 : ((((w.alloc (.cells #[.int .i64 0] 3)).alloc (.cells #[.bool false] 4)).alloc (.cells #[.pointer p] 40)).alloc (.cells #[.int .i64 f] 3)).heap.size = w.heap.size + 4 := by simp
  have c4 : ((((w.alloc (.cells #[.int .i64 0] 3)).alloc (.cells #[.bool false] 4)).alloc (.cells #[.pointer p] 40)).alloc (.cells #[.int .i64 f] 3)).cell? ⟨w.heap.size, 0, none⟩ = some (.int .i64 0) := by simp [go_sem]
  have f4 : ((((w.alloc (.cells #[.int .i64 0] 3)).alloc (.cells #[.bool false] 4)).alloc (.cells #[.pointer p] 40)).alloc (.cells #[.int .i64 f] 3)).frozen? ⟨w.heap.size, 0, none⟩ = false := by simp [go_sem]
  have c5 : ((((w.alloc (.cells #[.int .i64 0] 3)).alloc (.cells #[.bool false] 4)).alloc (.cells #[.pointer p] 40)).alloc (.cells #[.int .i64 f] 3)).cell? ⟨w.heap.size + 1, 0, none⟩ = some (.bool false) := by simp [go_sem]
  have f5 : ((((w.alloc (.cells #[.int .i64 0] 3)).alloc (.cells #[.bool false] 4)).alloc (.cells #[.pointer p] 40)).alloc (.cells #[.int .i64 f] 3)).frozen? ⟨w.heap.size + 1, 0, none⟩ = false := by simp [go_sem]
  have cP : ((((w.alloc (.cells #[.int .i64 0] 3)).alloc (.cells #[.bool false] 4)).alloc (.cells #[.pointer p] 40)).alloc (.cells #[.int .i64 f] 3)).cell? ⟨w.heap.size + 1 + 1, 0, none⟩ = some (.pointer p) := by simp [go_sem]
  have cF : ((((w.alloc (.cells #[.int .i64 0] 3)).alloc (.cells #[.bool false] 4)).alloc (.cells #[.pointer p] 40)).alloc (.cells #[.int .i64 f] 3)).cell? ⟨w.heap.size + 1 + 1 + 1, 0, none⟩ = some (.int .i64 f) := by simp [go_sem]
  generalize ((((w.alloc (.cells #[.int .i64 0] 3)).alloc (.cells #[.bool false] 4)).alloc (.cells #[.pointer p] 40)).alloc (.cells #[.int .i64 f] 3)) = W0 at *
  rw [hN] at hz0 c4 f4 c5 f5 cP cF
  have hb0' : Below N w W0 := hN ▸ hb0
  simp only [hN]
  have hst := hS W0 (N + 1 + 1 + 1) (N + 1 + 1) f hb0 cF cP (by omega) hf
  refine wpIn_rangeFunc_ownF rfl h1 (gf := 37) (lb := #[.pointer (some ⟨N + 1 + 1 + 1, 0, none⟩), .pointer (some ⟨N + 1 + 1, 0, none⟩)]) rfl trivial (enters_of Try.func37 (by kernel_rfl) rfl)
    hst belowK_t (belowK_b (Nat.le_refl _)) (Below.refl _ _) (fun _ => rfl)
    (fun pre W => (pre = [] ∧ W.cell? ⟨N, 0, none⟩ = some (.int .i64 0) ∧ W.frozen? ⟨N, 0, none⟩ = false ∧ W.cell? ⟨N + 1, 0, none⟩ = some (.bool false) ∧ W.frozen? ⟨N + 1, 0, none⟩ = false) ∧ Below N w W)
    (fun c pre W => (c = .ret ∧ ∃ x, pre = [x] ∧ W.cell? ⟨N, 0, none⟩ = some (.int .i64 x) ∧ W.cell? ⟨N + 1, 0, none⟩ = some (.bool true)) ∧ Below N w W)
    (OwnFrom.and (Own.from (fun s A B row hs hg hr => ⟨hs.1, cell_kept hs.2.1 hg hr, (frozen_kept hs.2.1 hg hr).trans hs.2.2.1, cell_kept hs.2.2.2.1 hg hr, (frozen_kept hs.2.2.2.1 hg hr).trans hs.2.2.2.2⟩) _) (ownFrom_below (hN ▸ Nat.le_refl _) (by omega)))
    (fun c => OwnFrom.and (Own.from (fun s A B row hs hg hr => ⟨hs.1, hs.2.choose, hs.2.choose_spec.1, cell_kept hs.2.choose_spec.2.1 hg hr, cell_kept hs.2.choose_spec.2.2 hg hr⟩) _) (ownFrom_below (hN ▸ Nat.le_refl _) (by omega)))
    ⟨⟨rfl, c4, f4, c5, f5⟩, hb0'⟩
    (fun x => { tmps := #[.pointer p, .int .i64 f, undef, undef, .pointer (some ⟨N, 0, none⟩), .pointer (some ⟨N + 1, 0, none⟩), .int .i64 x, undef, .pointer p, .int .i64 f, .func (.func 37) #[] #[.pointer (some ⟨N + 1 + 1 + 1, 0, none⟩), .pointer (some ⟨N + 1 + 1, 0, none⟩)], .int .i64 x, undef, undef, undef, undef, undef], defers := [] }) ?assign ?body ?done ?stop
  case assign =>
    intro l x W K hK
    gi_wp2
    exact hK
  case body =>
    rintro l pre x W ⟨⟨rfl, h4, g4, h5, g5⟩, hB⟩ _
    gi_wp2
    refine ⟨(KeepsOthers.setCell _ _ _).trans (KeepsOthers.setCell _ _ _), ⟨rfl, x, rfl, ?_, ?_⟩, (hB.setCell (p := ⟨N, 0, none⟩) (Nat.le_refl _) _).setCell (p := ⟨N + 1, 0, none⟩) (by simp) _⟩
    · exact (Frm.one _ (N + 1) 0 _).cell (p := ⟨N, 0, none⟩) (by simp) (cell_same h4)
    · exact cell_same ((Frm.one _ N 0 _).cell (p := ⟨N + 1, 0, none⟩) (by simp) h5)
  case done =>
    rintro D ys W hD rfl ⟨⟨hy, h4, g4, h5, g5⟩, hB⟩ hK
    gi_wp2_with fail
    refine ⟨trivial, ?_⟩
    refine (hal.out _).mono ?_
    rintro e w1 ⟨rfl, rfl⟩
    gi_wp2_with fail
    have hyf := Lib.hid hy
    have hA : Below W.heap.size W ((W.alloc (.cells #[.pointer p] 40)).alloc (.cells #[.int .i64 0] 3)) := ((Below.refl _ W).alloc (Nat.le_refl _) _).alloc (by simp) _
    have cP2 : ((W.alloc (.cells #[.pointer p] 40)).alloc (.cells #[.int .i64 0] 3)).cell? ⟨W.heap.size, 0, none⟩ = some (.pointer p) := by simp [go_sem]
    have cF2 : ((W.alloc (.cells #[.pointer p] 40)).alloc (.cells #[.int .i64 0] 3)).cell? ⟨W.heap.size + 1, 0, none⟩ = some (.int .i64 0) := by simp [go_sem]
    have hz2 : ((W.alloc (.cells #[.pointer p] 40)).alloc (.cells #[.int .i64 0] 3)).heap.size = W.heap.size + 2 := by simp
    have hDl : D < W.heap.size := (Array.getElem?_eq_some_iff.1 hK).1
    have hK2 : ((W.alloc (.cells #[.pointer p] 40)).alloc (.cells #[.int .i64 0] 3)).heap[D]? = some (.deferred (some [])) := (hA.block D hDl).trans hK
    have h4b := bkeep hA h4
    have g4b := bfree hA h4 g4
    have h5b := bkeep hA h5
    have g5b := bfree hA h5 g5
    have hBW : N ≤ W.heap.size := by omega
    have hB2 : Below N w ((W.alloc (.cells #[.pointer p] 40)).alloc (.cells #[.int .i64 0] 3)) := hB.trans (hA.mono hBW)
    have hsz5 : N + 4 ≤ W.heap.size := by have := hD; omega
    clear hy h4 g4 h5 g5 hA hB hst c4 f4 c5 f5 cP cF
    generalize ((W.alloc (.cells #[.pointer p] 40)).alloc (.cells #[.int .i64 0] 3)) = V0 at *
    have hst := hS V0 (W.heap.size + 1) W.heap.size 0 (hN ▸ hB2) cF2 cP2 (by omega) (by decide)
    refine wpIn_rangeFunc_ownF rfl h1 (gf := 37) (lb := #[.pointer (some ⟨W.heap.size + 1, 0, none⟩), .pointer (some ⟨W.heap.size, 0, none⟩)]) rfl trivial (enters_of Try.func37 (by kernel_rfl) rfl)
      hst belowK_t (belowK_b (Nat.le_refl _)) (Below.refl _ _) (fun _ => rfl)
      (fun pre V => (pre = [] ∧ V.cell? ⟨N, 0, none⟩ = some (.int .i64 0) ∧ V.frozen? ⟨N, 0, none⟩ = false ∧ V.cell? ⟨N + 1, 0, none⟩ = some (.bool false) ∧ V.frozen? ⟨N + 1, 0, none⟩ = false) ∧ (Below N w V ∧ V.heap[D]? = some (.deferred (some []))))
      (fun c pre V => (c = .ret ∧ ∃ x, pre = [x] ∧ V.cell? ⟨N, 0, none⟩ = some (.int .i64 x) ∧ V.cell? ⟨N + 1, 0, none⟩ = some (.bool true)) ∧ (Below N w V ∧ V.heap[D]? = some (.deferred (some []))))
      (OwnFrom.and (Own.from (fun s A B row hs hg hr => ⟨hs.1, cell_kept hs.2.1 hg hr, (frozen_kept hs.2.1 hg hr).trans hs.2.2.1, cell_kept hs.2.2.2.1 hg hr, (frozen_kept hs.2.2.2.1 hg hr).trans hs.2.2.2.2⟩) _) (OwnFrom.and (ownFrom_below (hN ▸ Nat.le_refl _) (by omega)) (own_block (by omega))))
      (fun c => OwnFrom.and (Own.from (fun s A B row hs hg hr => ⟨hs.1, hs.2.choose, hs.2.choose_spec.1, cell_kept hs.2.choose_spec.2.1 hg hr, cell_kept hs.2.choose_spec.2.2 hg hr⟩) _) (OwnFrom.and (ownFrom_below (hN ▸ Nat.le_refl _) (by omega)) (own_block (by omega))))
      ⟨⟨rfl, h4b, g4b, h5b, g5b⟩, hB2, hK2⟩
      (fun x => { tmps := #[.pointer p, .int .i64 f, undef, undef, .pointer (some ⟨N, 0, none⟩), .pointer (some ⟨N + 1, 0, none⟩), undef, .int .i64 x, .pointer p, .int .i64 f, .func (.func 37) #[] #[.pointer (some ⟨N + 1 + 1 + 1, 0, none⟩), .pointer (some ⟨N + 1 + 1, 0, none⟩)], undef, undef, .pointer p, .func (.func 37) #[] #[.pointer (some ⟨W.heap.size + 1, 0, none⟩), .pointer (some ⟨W.heap.size, 0, none⟩)], .int .i64 x, undef], defers := [] }) ?assign2 ?body2 ?done2 ?stop2
    case assign2 =>
      intro l x W K hK
      gi_wp2
      exact hK
    case body2 =>
      rintro l pre x V ⟨⟨rfl, h4, g4, h5, g5⟩, hB, hKd⟩ _
      have hD1 : N ≠ D := by omega
      have hD2 : N + 1 ≠ D := by omega
      gi_wp2
      refine ⟨(KeepsOthers.setCell _ _ _).trans (KeepsOthers.setCell _ _ _), ⟨rfl, x, rfl, ?_, ?_⟩, (hB.setCell (p := ⟨N, 0, none⟩) (Nat.le_refl _) _).setCell (p := ⟨N + 1, 0, none⟩) (by simp) _, ?_⟩
      · exact (Frm.one _ (N + 1) 0 _).cell (p := ⟨N, 0, none⟩) (by simp) (cell_same h4)
      · exact cell_same ((Frm.one _ N 0 _).cell (p := ⟨N + 1, 0, none⟩) (by simp) h5)
      · exact (Below.heap_setCell _ ⟨N + 1, 0, none⟩ _ D (by simp; omega)).trans ((Below.heap_setCell _ ⟨N, 0, none⟩ _ D (by simp; omega)).trans hKd)
    case done2 =>
      rintro D2 ys V hD2 rfl ⟨⟨hy, h4, g4, h5, g5⟩, hB, hKd⟩ hKe
      have hDD : D2 ≠ D := by omega
      have hnx : nextL L f = (0, false) := by
        have hy2 : L 0 = [] := hy
        unfold nextL
        rw [hyf.out, hy2]
      have hnx := Lib.hid hnx
      clear hy
      have hD1 : N ≠ D := by omega
      have hD3 : N + 1 ≠ D := by omega
      gi_wp2
      have hE := (((KeepsOthers.setCell V ⟨N, 0, none⟩ (.int .i64 0)).trans (KeepsOthers.setCell _ ⟨N + 1, 0, none⟩ (.bool false)))).same D2 _ hKe rfl
      have hKD := (((KeepsOthers.setCell V ⟨N, 0, none⟩ (.int .i64 0)).trans (KeepsOthers.setCell _ ⟨N + 1, 0, none⟩ (.bool false)))).same D _ hKd rfl
      have m4 : ((V.setCell ⟨N, 0, none⟩ (.int .i64 0)).setCell ⟨N + 1, 0, none⟩ (.bool false)).cell? ⟨N, 0, none⟩ = some (.int .i64 0) := (Frm.one _ (N + 1) 0 _).cell (p := ⟨N, 0, none⟩) (by simp) (cell_same h4)
      have m5 : ((V.setCell ⟨N, 0, none⟩ (.int .i64 0)).setCell ⟨N + 1, 0, none⟩ (.bool false)).cell? ⟨N + 1, 0, none⟩ = some (.bool false) := cell_same ((Frm.one _ N 0 _).cell (p := ⟨N + 1, 0, none⟩) (by simp) h5)
      have hBs : Below N w ((V.setCell ⟨N, 0, none⟩ (.int .i64 0)).setCell ⟨N + 1, 0, none⟩ (.bool false)) := (hB.setCell (p := ⟨N, 0, none⟩) (Nat.le_refl _) _).setCell (p := ⟨N + 1, 0, none⟩) (by simp) _
      generalize (V.setCell ⟨N, 0, none⟩ (.int .i64 0)).setCell ⟨N + 1, 0, none⟩ (.bool false) = V1 at *
      have k4 := cell_kept m4 (grownBy_putObj' _ D2 (.deferred none)) (fun r e => by cases e; exact ⟨_, hE, rfl⟩)
      have k5 := cell_kept m5 (grownBy_putObj' _ D2 (.deferred none)) (fun r e => by cases e; exact ⟨_, hE, rfl⟩)
      have hKd2 : (V1.putObj D2 (.deferred none)).heap[D]? = some (.deferred (some [])) := (World.putObj_heap_other hDD.symm).trans hKD
      have j4 := cell_kept k4 (grownBy_putObj' _ D (.deferred none)) (fun r e => by cases e; exact ⟨_, hKd2, rfl⟩)
      have j5 := cell_kept k5 (grownBy_putObj' _ D (.deferred none)) (fun r e => by cases e; exact ⟨_, hKd2, rfl⟩)
      refine ⟨by simp, .inl ⟨_, _, rfl, run_takeDeferred hE, by simp, .inl ⟨_, _, rfl, run_takeDeferred hKd2, ?_⟩⟩⟩
      have hNle : N ≤ w.heap.size := by omega
      have hb1 := belowK_b (w := w) hNle V1 D2 _ (.deferred none) (by omega) hE rfl rfl
      have hb2 := belowK_b (w := w) hNle (V1.putObj D2 (.deferred none)) D _ (.deferred none) (by omega) hKd2 rfl rfl
      refine ⟨.tuple #[.int .i64 0, .bool false], ?_, by rw [hnx.out], hN ▸ (hBs.trans hb1).trans hb2⟩
      simp [results, Try.f29, go_sem, j4, j5]
    case stop2 =>
      rintro D2 c pre V hD2 hpre ⟨⟨rfl, x, rfl, h4, h5⟩, hB, hKd⟩ hKe
      have hDD : D2 ≠ D := by omega
      obtain ⟨r, hr⟩ := hpre
      have hnx : nextL L f = (x, true) := by
        have hy2 : L 0 = [x] ++ r := hr.symm
        unfold nextL
        rw [hyf.out, hy2]; rfl
      have hnx := Lib.hid hnx
      gi_wp2
      have k4 := cell_kept h4 (grownBy_putObj' _ D2 (.deferred none)) (fun r e => by cases e; exact ⟨_, hKe, rfl⟩)
      have k5 := cell_kept h5 (grownBy_putObj' _ D2 (.deferred none)) (fun r e => by cases e; exact ⟨_, hKe, rfl⟩)
      have hKd2 : (V.putObj D2 (.deferred none)).heap[D]? = some (.deferred (some [])) := (World.putObj_heap_other hDD.symm).trans hKd
      have j4 := cell_kept k4 (grownBy_putObj' _ D (.deferred none)) (fun r e => by cases e; exact ⟨_, hKd2, rfl⟩)
      have j5 := cell_kept k5 (grownBy_putObj' _ D (.deferred none)) (fun r e => by cases e; exact ⟨_, hKd2, rfl⟩)
      refine ⟨by simp, .inl ⟨_, _, rfl, run_takeDeferred hKe, by simp, .inl ⟨_, _, rfl, run_takeDeferred hKd2, ?_⟩⟩⟩
      have hNle : N ≤ w.heap.size := by omega
      have hb1 := belowK_b (w := w) hNle V D2 _ (.deferred none) (by omega) hKe rfl rfl
      have hb2 := belowK_b (w := w) hNle (V.putObj D2 (.deferred none)) D _ (.deferred none) (by omega) hKd2 rfl rfl
      refine ⟨.tuple #[.int .i64 x, .bool true], ?_, by rw [hnx.out], hN ▸ (hB.trans hb1).trans hb2⟩
      simp [results, Try.f29, go_sem, j4, j5]
  case stop =>
    rintro D c pre W hD hpre ⟨⟨rfl, x, rfl, h4, h5⟩, hB⟩ hK
    obtain ⟨r, hr⟩ := hpre
    have hnx : nextL L f = (x, true) := by
      unfold nextL
      rw [← hr]; rfl
    have hnx := Lib.hid hnx
    gi_wp2
    refine ⟨by simp, .inl ⟨_, _, rfl, run_takeDeferred hK, ?_⟩⟩
    have k4 := cell_kept h4 (grownBy_putObj' _ D (.deferred none)) (fun r e => by cases e; exact ⟨_, hK, rfl⟩)
    have k5 := cell_kept h5 (grownBy_putObj' _ D (.deferred none)) (fun r e => by cases e; exact ⟨_, hK, rfl⟩)
    refine ⟨.tuple #[.int .i64 x, .bool true], ?_, by rw [hnx.out], hN ▸ hB.trans (belowK_b (w := w) (hN ▸ Nat.le_refl _) W D _ _ (by omega) hK rfl rfl)⟩
    simp [results, Try.f29, go_sem, k4, k5]
def nextM (bs : List Nat) (many : Nat) (f : Int) : Int × Bool := nextL (fun f => selF bs (max f 0).toNat many) f
theorem next_any (s g many : Nat) (bs : List Nat) (f : Int) (w : World) (hM : MS w s g many bs) (hf : -9223372036854775808 ≤ f ∧ f ≤ 9223372036854775807) : Calls Try.prog 29 #[.pointer (some ⟨s, 0, none⟩), .int .i64 f] w fun e w' =>
    e = .returned (.tuple #[.int .i64 (nextM bs many f).1, .bool (nextM bs many f).2]) ∧ Below w.heap.size w w' :=
  next_gen (some ⟨s, 0, none⟩) (fun f => selF bs (max f 0).toNat many) f w hf fun W F P f0 hb hF hP hPW hf0 =>
    from_stops 7 (by decide) s g many F P W.heap.size bs f0 W (hM.below hb) hF hP (Nat.lt_of_lt_of_le hM.lt hb.size) (Nat.lt_of_lt_of_le hM.hg hb.size) hPW (Nat.le_refl _) hf0
theorem from_none_stops (F P : Nat) (f0 : Int) (w : World) (hF : w.cell? ⟨F, 0, none⟩ = some (.int .i64 f0)) (hP : w.cell? ⟨P, 0, none⟩ = some (.pointer none)) :
    SeqStopsK Fence.wide 7 Try.prog 37 #[.pointer (some ⟨F, 0, none⟩), .pointer (some ⟨P, 0, none⟩)] (fun x : Int => #[Value.int .i64 x]) (Below w.heap.size) (fun ys => ys = []) (fun pre => pre <+: []) ([] : List Int).length w := by
  intro l J Jx W hW hJ _ hY h0
  have hF := bkeep hW hF
  have hP := bkeep hW hP
  have hmay := Lib.hid (fun i w => (callsIn_wide (n := 6)).2 (may_none i w))
  refine callsIn_of_wp Try.func37 rfl trivial ?_ rfl
  simp only [Try.ntmps37, List.size_toArray, List.length_cons, List.length_nil, Nat.reduceAdd, Nat.reduceSub, Array.replicate_succ, Array.replicate_zero, List.push_toArray, List.append_toArray, List.nil_append, List.cons_append]
  gi_wp2
  all_goals
    refine wpIn_loop_rounds 1 ?_
    rw [roundsIn_succ]
    gi_wp2_with fail
    refine ⟨trivial, ?_⟩
    refine (hmay.out _ _).mono ?_
    rintro e w1 ⟨rfl, rfl⟩
    gi_wp2_with fail
    go_end0
    exact ⟨⟨_, rfl⟩, .inl ⟨[], rfl, h0⟩⟩
theorem next_none (f : Int) (w : World) (hf : -9223372036854775808 ≤ f ∧ f ≤ 9223372036854775807) : Calls Try.prog 29 #[.pointer none, .int .i64 f] w fun e w' =>
    e = .returned (.tuple #[.int .i64 0, .bool false]) ∧ Below w.heap.size w w' :=
  next_gen none (fun _ => []) f w hf fun W F P f0 hb hF hP hPW hf0 => from_none_stops F P f0 W hF hP
end Go.Proofs.Ytdaobfhkdbaklaa
