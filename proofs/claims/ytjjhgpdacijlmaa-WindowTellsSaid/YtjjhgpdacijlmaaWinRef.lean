/-
  A window of bodies (chapter 27): the reference's functions walked.
-/
import Derived.Test.YtjjhgpdacijlmaaTexts
import Derived.Test.YtjjhgpdacijlmaaDraw
namespace Go.Proofs.Ytjjhgpdacijlmaa
open Go.RowKit
set_option linter.unusedVariables false
set_option linter.unusedSimpArgs false
/-- block q is the reference's window: all that was sent, how much of it was heard, the last taken -/
structure RX (w : World) (q B : Nat) (S : List ByteArray) (h l : Int) : Prop where
  s : ∃ v, w.cell? ⟨q, 0, none⟩ = some v ∧ TX w B v S
  c1 : w.cell? ⟨q, 1, none⟩ = some (.int .i64 h)
  c2 : w.cell? ⟨q, 2, none⟩ = some (.int .i64 l)
  f0 : w.frozen? ⟨q, 0, none⟩ = false
  f1 : w.frozen? ⟨q, 1, none⟩ = false
  f2 : w.frozen? ⟨q, 2, none⟩ = false
  qB : q < B
theorem RX.lt {w : World} {q B : Nat} {S : List ByteArray} {h l : Int} (hX : RX w q B S h l) : q < w.heap.size := World.block_lt_of_cell? w _ hX.c1
theorem RX.frm {T : Nat → Prop} {w w' : World} {q B : Nat} {S : List ByteArray} {h l : Int} (hX : RX w q B S h l) (hf : Frm T w w') (h1 : ¬ T q) (h2 : ∀ k, B ≤ k → ¬ T k) : RX w' q B S h l := by
  obtain ⟨v, a, b⟩ := hX.s
  have hlt := hX.lt
  exact ⟨⟨v, hf.cell h1 a, b.frm hf h2⟩, hf.cell h1 hX.c1, hf.cell h1 hX.c2, (hf.frozen (p := ⟨q, 0, none⟩) h1 hlt).trans hX.f0, (hf.frozen (p := ⟨q, 1, none⟩) h1 hlt).trans hX.f1, (hf.frozen (p := ⟨q, 2, none⟩) h1 hlt).trans hX.f2, hX.qB⟩
theorem RX.below {w w' : World} {q B : Nat} {S : List ByteArray} {h l : Int} (hX : RX w q B S h l) (hb : Below w.heap.size w w') : RX w' q B S h l := hX.frm (T := fun _ => False) (.ofBelow hb) id fun _ _ => id
theorem RX.drewN {w : World} {q B : Nat} {S : List ByteArray} {h l : Int} (hX : RX w q B S h l) (m : Nat) : RX (w.drewN m) q B S h l := hX.below (bdraws0 _ _)
theorem RX.setH {w : World} {q B : Nat} {S : List ByteArray} {h l : Int} (hX : RX w q B S h l) (x : Int) : RX (w.setCell ⟨q, 1, none⟩ (.int .i64 x)) q B S x l := by
  obtain ⟨v, a, b⟩ := hX.s
  exact ⟨⟨v, cell_set_off a (by decide), b.frm (Frm.one w q 1 _) fun k hk e => by have := hX.qB; omega⟩, cell_set_same hX.c1, cell_set_off hX.c2 (by decide), (World.frozen?_setCell _ _ _ _).trans hX.f0, (World.frozen?_setCell _ _ _ _).trans hX.f1, (World.frozen?_setCell _ _ _ _).trans hX.f2, hX.qB⟩
theorem RX.setL {w : World} {q B : Nat} {S : List ByteArray} {h l : Int} (hX : RX w q B S h l) (x : Int) : RX (w.setCell ⟨q, 2, none⟩ (.int .i64 x)) q B S h x := by
  obtain ⟨v, a, b⟩ := hX.s
  exact ⟨⟨v, cell_set_off a (by decide), b.frm (Frm.one w q 2 _) fun k hk e => by have := hX.qB; omega⟩, cell_set_off hX.c1 (by decide), cell_set_same hX.c2, (World.frozen?_setCell _ _ _ _).trans hX.f0, (World.frozen?_setCell _ _ _ _).trans hX.f1, (World.frozen?_setCell _ _ _ _).trans hX.f2, hX.qB⟩
theorem rtake_any {w : World} {q B : Nat} {S : List ByteArray} {h l : Int} (hX : RX w q B S h l) (hl : 0 ≤ l ∧ l ≤ 1000000) (n : Int) : Calls Try.prog 12 #[.pointer (some ⟨q, 0, none⟩), .int .i64 n] w fun e w' =>
    e = .returned (.bool (decide (n = l + 1))) ∧ RX w' q B S h (if n = l + 1 then n else l) ∧ Frm (fun k => k = q) w w' := by
  have c2 := hX.c2
  have f2 := hX.f2
  by_cases hn : n = l + 1
  · subst hn
    rw [if_pos rfl, show decide (l + 1 = l + 1) = true from decide_eq_true rfl]
    have hY := Lib.hid (hX.setL (l + 1))
    have m1 : (l + 1 != l + 1) = false := by simp
    have m2 : (l + 1 == l + 1) = true := by simp
    clear hX
    go_enter Try.func12, Try.ntmps12
    go_wp2
    go_ret
    exact ⟨rfl, hY.out, Frm.one _ _ _ _⟩
  · rw [if_neg hn, show decide (n = l + 1) = false from decide_eq_false hn]
    have m1 : (n != l + 1) = true := bne_iff_ne.2 hn
    have m2 : (n == l + 1) = false := beq_eq_false_iff_ne.2 hn
    have hY := Lib.hid hX
    clear hX hn
    go_enter Try.func12, Try.ntmps12
    go_wp2
    go_ret
    exact ⟨rfl, hY.out, Frm.refl _ _⟩
def rhearE (S : List ByteArray) (n : Int) : Int := if n < 0 ∨ (S.length : Int) < n then 3 else 0
def rhearK (S : List ByteArray) (h n : Int) : Int := if n < 0 ∨ (S.length : Int) < n then 0 else max (n - h) 0
theorem rhear_any {w : World} {q B : Nat} {S : List ByteArray} {h l : Int} (hX : RX w q B S h l) (hh : 0 ≤ h ∧ h ≤ S.length) (hS : S.length ≤ 1000000) (n : Int) : Calls Try.prog 10 #[.pointer (some ⟨q, 0, none⟩), .int .i64 n] w fun e w' =>
    e = .returned (.tuple #[.int .i64 (rhearK S h n), .int .i64 (rhearE S n)]) ∧ RX w' q B S (h + rhearK S h n) l ∧ Frm (fun k => k = q) w w' := by
  obtain ⟨v, c0, hT⟩ := hX.s
  have c1 := hX.c1
  have f1 := hX.f1
  obtain ⟨va, vc, rfl⟩ := hT.len
  by_cases h1 : n < 0
  · have e1 : rhearE S n = 3 := if_pos (.inl h1)
    have e2 : rhearK S h n = 0 := if_pos (.inl h1)
    rw [e1, e2, show h + 0 = h by omega]
    have d1 : decide (n < 0) = true := decide_eq_true h1
    have hY := Lib.hid hX
    clear hX hT e1 e2 h1 hh hS
    go_enter Try.func10, Try.ntmps10
    go_wp2
    go_ret2
    exact ⟨rfl, hY.out, Frm.refl _ _⟩
  by_cases h2 : (S.length : Int) < n
  · have e1 : rhearE S n = 3 := if_pos (.inr h2)
    have e2 : rhearK S h n = 0 := if_pos (.inr h2)
    rw [e1, e2, show h + 0 = h by omega]
    have d1 : decide (n < 0) = false := decide_eq_false h1
    have d2 : decide ((S.length : Int) < n) = true := decide_eq_true h2
    have hY := Lib.hid hX
    clear hX hT e1 e2 h1 h2 hh hS
    go_enter Try.func10, Try.ntmps10
    go_wp2
    go_ret2
    exact ⟨rfl, hY.out, Frm.refl _ _⟩
  have e1 : rhearE S n = 0 := if_neg (by omega)
  have e2 : rhearK S h n = max (n - h) 0 := if_neg (by omega)
  have d1 : decide (n < 0) = false := decide_eq_false h1
  have d2 : decide ((S.length : Int) < n) = false := decide_eq_false h2
  rw [e1, e2]
  have w1 : wrap64 (n - h) = n - h := IntWalk.wrap64_in _ ⟨by omega, by omega⟩
  have w3 : wrap64 h = h := IntWalk.wrap64_in _ ⟨by omega, by omega⟩
  by_cases ha : n - h ≤ 0
  · rw [show max (n - h) 0 = 0 by omega, show h + 0 = h by omega]
    have hY := Lib.hid (hX.setH h)
    clear hX hT e1 e2 h1 h2 hh hS
    rcases (by omega : n - h < 0 ∨ n = h) with hb | rfl
    · have d3 : decide (n - h ≤ 0) = true := decide_eq_true ha
      have d4 : decide (0 ≤ n - h) = false := decide_eq_false (by omega)
      have d5 : ¬ (0 ≤ n - h) := by omega
      clear ha
      go_enter Try.func10, Try.ntmps10
      go_wp2
      go_ret2
      exact ⟨rfl, hY.out, Frm.one _ _ _ _⟩
    · have d6 : n - n = 0 := by omega
      clear ha
      go_enter Try.func10, Try.ntmps10
      go_wp2
      go_ret2
      exact ⟨rfl, hY.out, Frm.one _ _ _ _⟩
  · rw [show max (n - h) 0 = n - h by omega]
    have hY := Lib.hid (hX.setH (h + (n - h)))
    have w2 : wrap64 (h + (n - h)) = h + (n - h) := IntWalk.wrap64_in _ ⟨by omega, by omega⟩
    have d3 : decide (n - h ≤ 0) = false := decide_eq_false (by omega)
    have d4 : decide (0 ≤ n - h) = true := decide_eq_true (by omega)
    have d5 : 0 ≤ n - h := by omega
    clear hX hT e1 e2 h1 h2 hh hS ha
    go_enter Try.func10, Try.ntmps10
    go_wp2
    go_ret2
    exact ⟨rfl, hY.out, Frm.one _ _ _ _⟩
set_option maxHeartbeats 1600000 in
theorem rsend_any {w : World} {q B : Nat} {S : List ByteArray} {h l : Int} (hX : RX w q B S h l) (hh : 0 ≤ h ∧ h ≤ S.length) (hS : S.length ≤ 1000000) (hB : B ≤ w.heap.size) (x : ByteArray) : Calls Try.prog 8 #[.pointer (some ⟨q, 0, none⟩), .string x] w fun e w' =>
    e = .returned (.tuple (if (S.length : Int) - h < 8 then #[.int .i64 (S.length + 1), .int .i64 0] else #[.int .i64 0, .int .i64 6])) ∧ RX w' q B (if (S.length : Int) - h < 8 then S ++ [x] else S) h l ∧ Frm (fun k => k = q ∨ w.heap.size ≤ k) w w' := by
  obtain ⟨v, c0, hT⟩ := hX.s
  have c1 := hX.c1
  have f0 := hX.f0
  have hq := hX.lt
  obtain ⟨va, vc, rfl⟩ := hT.len
  have hw1 : IntKind.i64.wrap ((S.length : Int) - h) = (S.length : Int) - h := by rw [IntKind.wrap_i64]; omega
  by_cases h8 : (S.length : Int) - h < 8
  · rw [if_pos h8, if_pos h8]
    have d1 : decide (8 ≤ (S.length : Int) - h) = false := decide_eq_false (by omega)
    have hfin : ∀ (W : World) v2, Frm (fun k => w.heap.size ≤ k) w W → Strs W w.heap.size v2 (S ++ [x]) → (W.cell? ⟨q, 0, none⟩ = some (.slice va S.length vc) ∧ W.frozen? ⟨q, 0, none⟩ = false) ∧ RX (W.setCell ⟨q, 0, none⟩ v2) q B (S ++ [x]) h l ∧ Frm (fun k => k = q ∨ w.heap.size ≤ k) w (W.setCell ⟨q, 0, none⟩ v2) := fun W v2 hF hv => by
      have nq : ¬ (w.heap.size ≤ q) := by omega
      have g0 := hF.cell (p := ⟨q, 0, none⟩) nq c0
      have g1 := hF.cell (p := ⟨q, 1, none⟩) nq c1
      have g2 := hF.cell (p := ⟨q, 2, none⟩) nq hX.c2
      have k0 := (hF.frozen (p := ⟨q, 0, none⟩) nq hq).trans f0
      have k1 := (hF.frozen (p := ⟨q, 1, none⟩) nq hq).trans hX.f1
      have k2 := (hF.frozen (p := ⟨q, 2, none⟩) nq hq).trans hX.f2
      refine ⟨⟨g0, k0⟩, ⟨⟨v2, cell_set_same g0, ((hv.tx.mono hB).frm (Frm.one W q 0 v2) fun k hk e => by have := hX.qB; omega)⟩, cell_set_off g1 (by decide), cell_set_off g2 (by decide), (World.frozen?_setCell _ _ _ _).trans k0, (World.frozen?_setCell _ _ _ _).trans k1, (World.frozen?_setCell _ _ _ _).trans k2, hX.qB⟩, (hF.mono fun k _ => .inr).trans ((Frm.one W q 0 v2).mono fun k _ => .inl)⟩
    have hfin := Lib.hid hfin
    have hTw : ∀ W, Below w.heap.size w W → TX W 0 (.slice va S.length vc) S := fun W hb => (hT.below hb).mono (Nat.zero_le _)
    have hTw := Lib.hid hTw
    have hc0 : ∀ W, Frm (fun k => w.heap.size ≤ k) w W → W.cell? ⟨q, 0, none⟩ = some (.slice va S.length vc) := fun W hF => hF.cell (p := ⟨q, 0, none⟩) (by show ¬ w.heap.size ≤ q; omega) c0
    have hc0 := Lib.hid hc0
    have hlen : S.length + 1 ≤ 1099511627776 := by omega
    clear hX hT h8 hh
    go_enter Try.func8, Try.ntmps8
    go_wp2
    go_quiet (fail)
    generalize hW0 : w.drewN _ = W0
    have hb0 : Below w.heap.size w W0 := hW0 ▸ bdraws0 w _
    have hz0 : W0.heap.size = w.heap.size := hW0 ▸ rfl
    have hc00 := hc0.out W0 (.ofBelow hb0)
    have hA1 := (Below.refl W0.heap.size W0).alloc (Nat.le_refl _) (.cells #[] 9)
    have hc01 := bkeep hA1 hc00
    have hS1 := Strs.made W0 w.heap.size (by omega)
    have hT1 := hTw.out _ (bt hb0 hA1)
    have hF1 : Frm (fun k => w.heap.size ≤ k) w (W0.alloc (.cells #[] 9)) := .ofBelow (bt hb0 hA1)
    have hB1 : w.heap.size ≤ (W0.alloc (.cells #[] 9)).heap.size := by simp; omega
    have hl1 : ([] : List ByteArray).length + S.length ≤ 1099511627776 := by simp; omega
    clear hW0 c0
    rw [hz0] at hS1
    have hqz : ¬ q = w.heap.size := by omega
    have hqz2 : ¬ w.heap.size = q := by omega
    have hfin2 : ∀ v1 w1, Strs w1 w.heap.size v1 ([] ++ S) → Frm (fun k => w.heap.size ≤ k) (W0.alloc (.cells #[] 9)) w1 → Strs (w1.alloc (.cells #[.string x] 9)) w.heap.size v1 S ∧ TX (w1.alloc (.cells #[.string x] 9)) 0 (.slice (some ⟨w1.heap.size, 0, none⟩) 1 1) [x] ∧ Frm (fun k => w.heap.size ≤ k) w (w1.alloc (.cells #[.string x] 9)) ∧ w.heap.size ≤ (w1.alloc (.cells #[.string x] 9)).heap.size := fun v1 w1 a1 a2 => by
      have hF2 : Frm (fun k => w.heap.size ≤ k) w w1 := hF1.trans a2
      have hA2 := (Below.refl w1.heap.size w1).alloc (Nat.le_refl _) (.cells #[.string x] 9)
      have hsz := hF2.size
      exact ⟨Strs.frm (S := fun _ => False) a1 (.ofBelow hA2) (fun _ _ => id), (TX.one w1 x).mono (Nat.zero_le _), hF2.trans (.ofBelow hA2), by simp; omega⟩
    have hfin2 := Lib.hid hfin2
    have hl2 : S.length + [x].length ≤ 1099511627776 := by simp; omega
    go_wp2_with (first | (at_builtin; refine wpl_app_tx rfl (.tmp 18) (.tmp 22) (W0.alloc (.cells #[] 9)) w.heap.size _ _ [] S rfl rfl hS1 hT1 hl1 hB1 ?_; intro v1 w1 a1 a2; obtain ⟨s1, s2, s3, s4⟩ := hfin2.out v1 w1 a1 a2; clear a1 a2) | (at_builtin; refine wpl_app_tx rfl (.tmp 23) (.tmp 25) (w1.alloc (.cells #[.string x] 9)) w.heap.size _ _ S [x] rfl rfl s1 s2 hl2 s4 ?_; intro v2 w2 a1 a2; obtain ⟨⟨e1, e2⟩, e3⟩ := hfin.out w2 v2 (s3.trans a2) a1; obtain ⟨za, zc, rfl⟩ := a1.tx.len; replace e3 := Lib.hid e3; clear a1 a2))
    go_ret2
    refine ⟨by simp, ?_⟩
    have z := e3.out
    rw [show (S ++ [x]).length = S.length + 1 by simp] at z
    exact z
  · rw [if_neg h8, if_neg h8]
    have d1 : decide (8 ≤ (S.length : Int) - h) = true := decide_eq_true (by omega)
    have hY := Lib.hid hX
    clear hX hT h8 hh hS
    go_enter Try.func8, Try.ntmps8
    go_wp2
    go_quiet (fail)
    go_wp2
    go_ret2
    exact ⟨rfl, hY.out.drewN _, (Frm.refl _ w).drewN _⟩
end Go.Proofs.Ytjjhgpdacijlmaa
