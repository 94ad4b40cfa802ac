/-
  The statement RingOrder.
-/
import Derived.Test.YtmjkahbjpkkdgaaRing6S
import Derived.Test.YtmjkahbjpkkdgaaRingNone
namespace Go.Proofs.Ytmjkahbjpkkdgaa
open Go.RowKit
set_option linter.unusedVariables false
set_option linter.unusedSimpArgs false

theorem ord1_any (i : Int) (x : ByteArray) (c1 c2 n : Nat) (most : Int) (w : World) (h1 : w.cell? ⟨c1, 0, none⟩ = some (.int .i64 n)) (hf : w.frozen? ⟨c1, 0, none⟩ = false) (h2 : w.cell? ⟨c2, 0, none⟩ = some (.int .i64 most)) (hne : c1 ≠ c2) (hn : n ≤ 1000) :
    Calls Try.prog 23 #[.int .i64 i, .string x, .pointer (some ⟨c1, 0, none⟩), .pointer (some ⟨c2, 0, none⟩)] w fun e w' => e = .returned (.bool (decide (((n + 1 : Nat) : Int) < most))) ∧ w' = w.setCell ⟨c1, 0, none⟩ (.int .i64 ((n + 1 : Nat) : Int)) := by
  have e1 : IntKind.i64.wrap ((n : Int) + 1) = ((n + 1 : Nat) : Int) := by rw [IntWalk.i64_in _ (by omega)]; omega
  have h1' := cell_set_same (v := .int .i64 ((n + 1 : Nat) : Int)) h1
  have h2' := cell_set_ne (p := ⟨c1, 0, none⟩) (v := .int .i64 ((n + 1 : Nat) : Int)) h2 (by simp; omega)
  generalize ((n + 1 : Nat) : Int) = y at *
  go_enter Try.func23, Try.ntmps23
  go_wp2
  go_ret
  exact ⟨rfl, rfl⟩
/-- what the teller has counted -/
def OJ (c1 c2 : Nat) (most : Int) (pre : List Int) (W : World) : Prop := (W.cell? ⟨c1, 0, none⟩ = some (.int .i64 pre.length) ∧ W.frozen? ⟨c1, 0, none⟩ = false ∧ W.cell? ⟨c2, 0, none⟩ = some (.int .i64 most)) ∧ (pre.length = 0 ∨ (pre.length : Int) < most)
def OX (c1 c2 : Nat) (most : Int) (pre : List Int) (W : World) : Prop := (W.cell? ⟨c1, 0, none⟩ = some (.int .i64 pre.length) ∧ W.frozen? ⟨c1, 0, none⟩ = false ∧ W.cell? ⟨c2, 0, none⟩ = some (.int .i64 most)) ∧ 1 ≤ pre.length ∧ ¬ (pre.length : Int) < most ∧ (pre.length = 1 ∨ ((pre.length : Int) - 1 < most))
theorem oj_own (B c1 c2 : Nat) (most : Int) : OwnFrom B (OJ c1 c2 most) :=
  Own.from (fun s A B row hs hg hr => ⟨⟨cell_kept hs.1.1 hg hr, (frozen_kept hs.1.1 hg hr).trans hs.1.2.1, cell_kept hs.1.2.2 hg hr⟩, hs.2⟩) _
theorem ox_own (B c1 c2 : Nat) (most : Int) : OwnFrom B (OX c1 c2 most) :=
  Own.from (fun s A B row hs hg hr => ⟨⟨cell_kept hs.1.1 hg hr, (frozen_kept hs.1.1 hg hr).trans hs.1.2.1, cell_kept hs.1.2.2 hg hr⟩, hs.2⟩) _
theorem order_tell (r g fr n P c1 c2 : Nat) (C : List ByteArray) (most : Int) (w : World) (hR : RGS w r g fr n C) (hP : w.cell? ⟨P, 0, none⟩ = some (.pointer (some ⟨r, 0, none⟩))) (h1 : r ≠ c1) (h2 : g ≠ c1) (h3 : P ≠ c1) (hne : c1 ≠ c2)
    (hc1 : w.cell? ⟨c1, 0, none⟩ = some (.int .i64 0)) (hf : w.frozen? ⟨c1, 0, none⟩ = false) (hc2 : w.cell? ⟨c2, 0, none⟩ = some (.int .i64 most)) :
    Calls Try.prog 30 #[.func (.func 23) #[] #[.pointer (some ⟨c1, 0, none⟩), .pointer (some ⟨c2, 0, none⟩)], .pointer (some ⟨P, 0, none⟩)] w fun e w' => e = .returned (.tuple #[]) ∧
      w'.cell? ⟨c1, 0, none⟩ = some (.int .i64 (min (max most 1) (n : Int))) ∧ w'.cell? ⟨c2, 0, none⟩ = some (.int .i64 most) ∧ Frm (fun k => k = c1 ∨ w.heap.size ≤ k) w w' := by
  have hn : n ≤ 1000 := Nat.le_trans hR.hn hR.hm
  refine (all1S_tell c1 c2 r g fr n P C (fun k => k = c1) (OJ c1 c2 most) (OX c1 c2 most) w hR hP h1 h2 h3 (fun k h => h ▸ World.block_lt_of_cell? w _ hc1) (oj_own _ _ _ _) (ox_own _ _ _ _) ?_ ⟨⟨hc1, hf, hc2⟩, .inl rfl⟩).mono ?_
  · intro pre x hx W hJ hl
    refine (ord1_any x _ c1 c2 pre.length most W hJ.1.1 hJ.1.2.1 hJ.1.2.2 hne (by omega)).mono ?_
    rintro e W' ⟨rfl, rfl⟩
    have hcells : (W.setCell ⟨c1, 0, none⟩ (.int .i64 ((pre.length + 1 : Nat) : Int))).cell? ⟨c1, 0, none⟩ = some (.int .i64 (pre ++ [x]).length) ∧ (W.setCell ⟨c1, 0, none⟩ (.int .i64 ((pre.length + 1 : Nat) : Int))).frozen? ⟨c1, 0, none⟩ = false ∧ (W.setCell ⟨c1, 0, none⟩ (.int .i64 ((pre.length + 1 : Nat) : Int))).cell? ⟨c2, 0, none⟩ = some (.int .i64 most) := by
      rw [List.length_append]
      exact ⟨cell_set_same hJ.1.1, (World.frozen?_setCell _ _ _ _).trans hJ.1.2.1, cell_set_ne hJ.1.2.2 (by simp; omega)⟩
    have hle : (pre ++ [x]).length = pre.length + 1 := by simp
    by_cases hlt : ((pre.length + 1 : Nat) : Int) < most
    · left
      rw [decide_eq_true hlt]
      exact ⟨rfl, ⟨hcells, .inr (by rw [hle]; exact hlt)⟩, KeepsOthers.setCell _ _ _, Frm.one W c1 0 _⟩
    · right
      rw [decide_eq_false hlt]
      refine ⟨rfl, ⟨hcells, by omega, by rw [hle]; exact hlt, ?_⟩, KeepsOthers.setCell _ _ _, Frm.one W c1 0 _⟩
      rw [hle]
      rcases hJ.2 with h | h
      · left; omega
      · right; omega
  · rintro e w' ⟨rfl, hj, hfr⟩
    refine ⟨rfl, ?_⟩
    rcases hj with hj | ⟨k, hk, hj⟩
    · have hl : (uptoS n).length = n := uptoS_len n
      have h2 := hj.2
      rw [hl] at h2
      refine ⟨?_, hj.1.2.2, hfr⟩
      rw [hj.1.1, hl]
      congr 2
      omega
    · have hl : (uptoS k).length = k := uptoS_len k
      obtain ⟨g1, g2, g3⟩ := hj.2
      rw [hl] at g1 g2 g3
      refine ⟨?_, hj.1.2.2, hfr⟩
      rw [hj.1.1, hl]
      congr 2
      omega
def RO1 (r g len N : Nat) (l : List ByteArray) (most : Int) (w : World) (i : Value) (wr : World) : Prop := ∃ k : Nat, k ≤ len ∧ i = .int .i64 k ∧ ∃ C, RGS wr r g 0 k C ∧ C.length = len ∧ LS C 0 k = l.take k ∧ wr.cell? ⟨N, 0, none⟩ = some (.int .i64 most) ∧ Below N w wr
def RO2 (r g len N : Nat) (l : List ByteArray) (w : World) (i : Value) (wr : World) : Prop := ∃ k : Nat, k ≤ len ∧ i = .int .i64 k ∧ ∃ C fr, RGS wr r g fr (len - k) C ∧ LS C fr (len - k) = l.drop k ∧ Below N w wr
set_option maxRecDepth 100000 in
set_option maxHeartbeats 3200000 in
theorem walk_RingOrder (a : Option Addr) (len cap : Nat) (l : List ByteArray) {w : World} (hl : IsList w a len 1 strE strOk l) (most : Int) (um : (Lit.int .i64 most).wf = true) :
    Calls Try.prog 4 #[.slice a len cap, .int .i64 most] w fun e w' => e = .returned (.bool true) ∧ Below w.heap.size w w' := by
  have hm := hl.most
  have hbd := bounds_i64 um
  have hA0 : Below w.heap.size w (w.alloc (.cells #[.int .i64 most] 3)) := (Below.refl _ w).alloc (Nat.le_refl _) _
  by_cases hbig : 300 < len
  · go_enter Try.func4, Try.ntmps4
    go_wp2_with (go_at_call 6; (with_reducible refine (works_any _).mono ?_); rintro e w1 ⟨rfl, hb1⟩)
    go_ret
    exact ⟨rfl, bt hA0 hb1⟩
  have hlen := Lib.hid hl.size_eq
  have hcM : (w.alloc (.cells #[.int .i64 most] 3)).cell? ⟨w.heap.size, 0, none⟩ = some (.int .i64 most) := by simp [go_sem]
  have hsz : (w.alloc (.cells #[.int .i64 most] 3)).heap.size = w.heap.size + 1 := by simp
  go_enter Try.func4, Try.ntmps4
  go_wp2_with (first | (go_at_call 6; (with_reducible refine (works_any _).mono ?_); rintro e w1 ⟨rfl, hb1⟩) | (go_at_call 20; (with_reducible refine (newS_any len _ (by omega)).mono ?_); rintro e w2 ⟨r, g, rfl, hR2, hr, hg, hb2⟩))
  have hz1 := hb1.size
  have hrN : w.heap.size + 1 ≤ r := by omega
  have hgN : w.heap.size + 1 ≤ g := by omega
  have hC0 : (zCS (len : Int)).length = len := by unfold zCS; rw [List.length_replicate]; unfold nR; omega
  have hcM2 := bkeep hb2 (bkeep hb1 hcM)
  have hb02 : Below w.heap.size w w2 := bt (bt hA0 hb1) hb2
  clear hb1 hb2 hcM hA0 hr hg hsz hz1
  have h0 : RO1 r g len w.heap.size l most w (.int .i64 0) w2 := ⟨0, Nat.zero_le _, rfl, _, hR2, hC0, rfl, hcM2, hb02⟩
  clear hcM2 hb02 hR2 hC0
  have hbig : len ≤ 300 := by omega
  have hrg : ∀ k, (k = r ∨ k = g) → w.heap.size ≤ k := fun k h => by rcases h with rfl | rfl <;> omega
  have hrg := Lib.hid hrg
  go_loopw [6] (fun i wr => RO1 r g len w.heap.size l most w i wr) (fun i _ => len - (intOf i).toNat)
  case atStart => exact h0
  case round =>
    obtain ⟨k, hk, rfl, C, hR, hCl, hL, hcM, hB⟩ := hrel
    by_cases hlt : k < len
    · obtain ⟨b, o, rfl, _⟩ := hl.at_ (by omega)
      have hk1 : k < l.length := by have := hlen.out; omega
      have g0 : wr.cell? ⟨b, o + k * 1, none⟩ = some (.string l[k]) := (hl.get (hB) (Nat.le_refl _) k hk1 0 (by decide) _ rfl).1
      rw [Nat.mul_one] at g0
      have hps := pushS_ok r g 0 k C l[k] wr hR (by omega)
      have hX : ∀ w', (RGS w' r g 0 (k + 1) (C.set ((0 + k) % C.length) l[k]) ∧ Frm (fun k => k = r ∨ k = g) wr w') → RO1 r g len w.heap.size l most w (.int .i64 ((k : Int) + 1)) w' := by
        intro w' ⟨h1, h2⟩
        refine ⟨k + 1, by omega, by go_num, _, h1, by rw [List.length_set]; exact hCl, ?_, h2.cell (p := ⟨w.heap.size, 0, none⟩) (fun h => by rcases h with h | h <;> simp at h <;> omega) hcM, belowF hB h2 (fun k h => hrg.out k h)⟩
        refine (rgL_push _ _ _ _ _ (by omega)).trans ?_
        rw [List.take_succ_eq_append_getElem hk1]
        exact congrArg (· ++ [l[k]]) hL
      have hX := Lib.hid hX
      have hps := Lib.hid hps
      clear hR hL hcM
      generalize l[k] = x at *
      have e1 : IntKind.i64.wrap ((k : Int) + 1) = ((k + 1 : Nat) : Int) := by rw [IntWalk.i64_in _ (by omega)]; omega
      go_wp2_with (go_at_call 21; (with_reducible refine hps.out.mono ?_); rintro e w4 ⟨rfl, hR4, hf4⟩)
      exact ⟨hX.out _ ⟨hR4, hf4⟩, by simp [intOf]; omega⟩
    · have hke : k = len := by omega
      subst hke
      have hLl : LS C 0 k = l := by rw [hL, List.take_of_length_le (by have := hlen.out; omega)]
      have hd : ¬ ((k : Int) < (k : Int)) := by omega
      go_wp2_with (go_at_call 22; (with_reducible refine (allS_fn (some ⟨r, 0, none⟩) _).mono ?_); rintro e w5 ⟨rfl, rfl⟩)
      have hA : Below wr.heap.size wr ((wr.alloc (.cells #[.int .i64 0] 3)).alloc (.cells #[.pointer (some ⟨r, 0, none⟩)] 45)) := ((Below.refl _ _).alloc (Nat.le_refl _) _).alloc (by simp) _
      have hrl := hR.lt
      have hgl := hR.hg
      have hNl : w.heap.size < wr.heap.size := World.block_lt_of_cell? wr _ hcM
      have hT := order_tell r g 0 k (wr.heap.size + 1) wr.heap.size w.heap.size C most _ (hR.below hA) (by simp [go_sem]) (by omega) (by omega) (by omega) (by omega) (by simp [go_sem]) (by simp [go_sem]) (bkeep hA hcM)
      have hX : ∀ w6, Frm (fun k => k = wr.heap.size ∨ ((wr.alloc (.cells #[.int .i64 0] 3)).alloc (.cells #[.pointer (some ⟨r, 0, none⟩)] 45)).heap.size ≤ k) ((wr.alloc (.cells #[.int .i64 0] 3)).alloc (.cells #[.pointer (some ⟨r, 0, none⟩)] 45)) w6 → RO2 r g k w.heap.size l w (.int .i64 0) w6 := by
        intro w6 hf6
        have hs2 : ((wr.alloc (.cells #[.int .i64 0] 3)).alloc (.cells #[.pointer (some ⟨r, 0, none⟩)] 45)).heap.size = wr.heap.size + 1 + 1 := by simp
        rw [hs2] at hf6
        refine ⟨0, Nat.zero_le _, rfl, C, 0, (hR.below hA).frm hf6 (by rintro (h | h) <;> omega) (by rintro (h | h) <;> omega), hLl, belowF (hB.trans (hA.mono (by omega))) hf6 (by rintro k (h | h) <;> omega)⟩
      have hT := Lib.hid hT
      have hX := Lib.hid hX
      clear hA hrl hgl hNl
      go_at_call 30
      with_reducible refine hT.out.mono ?_
      rintro e w6 ⟨rfl, hc6, hm6, hf6⟩
      have h0 := hX.out _ hf6
      clear hR hX hT hf6
      clear hL hcM hB hCl hLl
      go_wp2
      all_goals
        clear hc6 hm6
        go_loopw [8] (fun i wr => RO2 r g k w.heap.size l w i wr) (fun i _ => k - (intOf i).toNat)
        case atStart => exact h0
        case round =>
          obtain ⟨j, hj, rfl, D, fr, hR, hL2, hB⟩ := hrel
          have hpop := popS_any r g fr (k - j) D _ hR
          by_cases hlt : j < k
          · have hj1 : j < l.length := by have := hlen.out; omega
            have hv : atVS (LS D fr (k - j)) 0 = .tuple #[.string l[j], .bool true] := by
              have hz : 0 < (LS D fr (k - j)).length := by rw [rgL_len]; omega
              unfold atVS
              rw [dif_pos ⟨Int.le_refl _, by omega⟩]
              have : (LS D fr (k - j))[0]'hz = l[j] := by
                have h1 : (LS D fr (k - j))[0]? = (l.drop j)[0]? := by rw [hL2]
                rw [List.getElem?_eq_getElem hz, List.getElem?_drop, Nat.add_zero, List.getElem?_eq_getElem hj1] at h1
                exact Option.some.inj h1
              exact congrArg (fun x => Value.tuple #[.string x, .bool true]) this
            rw [hv] at hpop
            obtain ⟨b, o, hab, _⟩ := hl.at_ (by omega)
            subst hab
            have hg0 : ∀ W, Below w.heap.size w W → W.cell? ⟨b, o + j, none⟩ = some (.string l[j]) := fun W hW => by
              have := (hl.get hW (Nat.le_refl _) j hj1 0 (by decide) _ rfl).1
              rwa [Nat.mul_one] at this
            have hX : ∀ W, ((∃ D' fr', RGS W r g fr' (k - j - 1) D' ∧ D'.length = D.length ∧ LS D' fr' (k - j - 1) = (LS D fr (k - j)).tail) ∧ Below w.heap.size w W) → RO2 r g k w.heap.size l w (.int .i64 ((j : Int) + 1)) W := by
              rintro W ⟨⟨D', fr', h1, _, h2⟩, h3⟩
              refine ⟨j + 1, by omega, by go_num, D', fr', by rw [show k - (j + 1) = k - j - 1 by omega]; exact h1, ?_, h3⟩
              rw [show k - (j + 1) = k - j - 1 by omega, h2, hL2, List.tail_drop]
            have hX := Lib.hid hX
            have hpop := Lib.hid hpop
            have hg0 := Lib.hid hg0
            clear hR hL2 hv
            generalize l[j] = x at *
            have e1 : IntKind.i64.wrap ((j : Int) + 1) = ((j + 1 : Nat) : Int) := by rw [IntWalk.i64_in _ (by omega)]; omega
            go_wp2_with (go_at_call 24; (with_reducible refine hpop.out.mono ?_); rintro e w7 ⟨rfl, hR7, hf7⟩; have hB7 := belowF hB hf7 hrg.out; have g0 := hg0.out _ hB7)
            exact ⟨hX.out _ ⟨hR7, hB7⟩, by simp [intOf]; omega⟩
          · have hjk : j = k := by omega
            subst hjk
            have hv : atVS (LS D fr (j - j)) 0 = .tuple #[.string ⟨#[]⟩, .bool false] := by
              unfold atVS
              rw [dif_neg (by rw [rgL_len]; omega)]
            rw [hv] at hpop
            have hpop := Lib.hid hpop
            clear hR hL2 hv
            have hd2 : ¬ ((j : Int) < (j : Int)) := by omega
            go_wp2_with (go_at_call 24; (with_reducible refine hpop.out.mono ?_); rintro e w7 ⟨rfl, hR7, hf7⟩; have hB7 := belowF hB hf7 hrg.out)
            go_ret
            exact ⟨rfl, hB7⟩
end Go.Proofs.Ytmjkahbjpkkdgaa
