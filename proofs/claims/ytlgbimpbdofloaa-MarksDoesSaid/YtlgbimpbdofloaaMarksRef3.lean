/-
  The reference's set: has, put, free.
-/
import Derived.Test.YtlgbimpbdofloaaMarksRef2
import Derived.Test.YtlgbimpbdofloaaBoolx
import Derived.WalkMore
namespace Go.Proofs.Ytlgbimpbdofloaa
open Go.RowKit
set_option linter.unusedVariables false
set_option linter.unusedSimpArgs false

def hasR (bl : List Bool) (i : Int) : Bool := decide (0 ≤ i) && decide (i < bl.length) && bl.getD i.toNat false
theorem rhas_any (q g cap : Nat) (bl : List Bool) (i : Int) (w : World) (h : RM w q g cap bl) : Calls Try.prog 25 #[.pointer (some ⟨q, 0, none⟩), .int .i64 i] w fun e w' => e = .returned (.bool (hasR bl i)) ∧ w' = w := by
  have hc0 := h.c0
  have hm := h.hm
  unfold hasR
  by_cases h1 : 0 ≤ i ∧ i < bl.length
  · obtain ⟨k, rfl⟩ : ∃ k : Nat, i = k := ⟨i.toNat, by omega⟩
    have hk : k < bl.length := by omega
    have hcell := h.b k hk
    simp only [Int.toNat_natCast]
    rw [decide_eq_true h1.1, decide_eq_true h1.2, getB_at hk, Bool.true_and, Bool.true_and]
    have hcp := h.hc
    clear h h1
    generalize bl[k] = y at *
    obtain ⟨m, hmm⟩ : ∃ m, bl.length = m := ⟨_, rfl⟩
    rw [hmm] at hc0 hk hm hcp
    clear hmm
    have g1 : decide ((0 : Int) ≤ (k : Int)) = true := decide_eq_true (by omega)
    have g2 : decide ((k : Int) < (m : Int)) = true := decide_eq_true (by omega)
    go_enter Try.func25, Try.ntmps25
    go_wp2
    go_ret
    exact ⟨rfl, rfl⟩
  · have e : (decide (0 ≤ i) && decide (i < (bl.length : Int))) = false := by
      by_cases h2 : 0 ≤ i
      · rw [decide_eq_false (show ¬ i < (bl.length : Int) by omega), Bool.and_false]
      · rw [decide_eq_false h2, Bool.false_and]
    rw [e, Bool.false_and]
    obtain ⟨m, hmm⟩ : ∃ m, bl.length = m := ⟨_, rfl⟩
    rw [hmm] at hc0 h1 hm
    clear e h
    by_cases h2 : 0 ≤ i
    · have g1 : decide ((0 : Int) ≤ i) = true := decide_eq_true h2
      have g2 : decide (i < (m : Int)) = false := decide_eq_false (by omega)
      clear h1 h2
      go_enter Try.func25, Try.ntmps25
      go_wp2
      go_ret
      exact ⟨rfl, rfl⟩
    · have g1 : decide ((0 : Int) ≤ i) = false := decide_eq_false h2
      clear h1 h2
      go_enter Try.func25, Try.ntmps25
      go_wp2
      go_ret
      exact ⟨rfl, rfl⟩
/-- the first that is free -/
def freeOf (p : Nat → Bool) (n : Nat) : Int × Bool := match (List.range n).find? (fun i => !p i) with
  | some i => (i, true)
  | none => (0, false)
theorem freeOf_at (p : Nat → Bool) (n k : Nat) (hk : k < n) (hp : p k = false) (hl : ∀ j, j < k → p j = true) : freeOf p n = ((k : Int), true) := by
  have : (List.range n).find? (fun i => !p i) = some k := by
    rw [List.find?_range_eq_some]
    exact ⟨by simp [hp], by simpa using hk, fun j hj => by simp [hl j hj]⟩
  unfold freeOf
  rw [this]
theorem freeOf_none (p : Nat → Bool) (n : Nat) (hl : ∀ j, j < n → p j = true) : freeOf p n = (0, false) := by
  have : (List.range n).find? (fun i => !p i) = none := by
    rw [List.find?_eq_none]
    intro j hj
    simp [hl j (List.mem_range.1 hj)]
  unfold freeOf
  rw [this]
theorem freeOf_congr (p p' : Nat → Bool) (n : Nat) (h : ∀ i, i < n → p i = p' i) : freeOf p n = freeOf p' n := by
  by_cases hx : ∃ k, k < n ∧ p k = false ∧ ∀ j, j < k → p j = true
  · obtain ⟨k, h1, h2, h3⟩ := hx
    rw [freeOf_at p n k h1 h2 h3, freeOf_at p' n k h1 (by rw [← h k h1]; exact h2) (fun j hj => by rw [← h j (by omega)]; exact h3 j hj)]
  · have hall : ∀ k, k ≤ n → ∀ j, j < k → p j = true := by
      intro k
      induction k with
      | zero => intro _ j hj; omega
      | succ k ih =>
        intro hk j hj
        have ih := ih (by omega)
        by_cases e : j < k
        · exact ih j e
        · obtain rfl : j = k := by omega
          cases hp : p j with
          | true => rfl
          | false => exact absurd ⟨j, by omega, hp, ih⟩ hx
    have hall := hall n (Nat.le_refl _)
    rw [freeOf_none p n hall, freeOf_none p' n (fun j hj => by rw [← h j hj]; exact hall j hj)]
def FrR (w : World) (p : Nat → Bool) (n : Nat) (i : Value) (wr : World) : Prop := ∃ k : Nat, k ≤ n ∧ i = .int .i64 k ∧ (∀ j, j < k → p j = true) ∧ wr = w
theorem rfree_any (q g cap n : Nat) (bl : List Bool) (p : Nat → Bool) (w : World) (h : RM w q g cap bl) (hn : bl.length = n) (hp : ∀ j (h : j < bl.length), bl[j] = p j) : Calls Try.prog 23 #[.pointer (some ⟨q, 0, none⟩)] w fun e w' => e = .returned (.tuple #[.int .i64 (freeOf p n).1, .bool (freeOf p n).2]) ∧ w' = w := by
  have hc0 := h.c0
  have hm := h.hm
  have hcp := h.hc
  rw [hn] at hc0 hm hcp
  have hn' := Lib.hid hn
  clear hn
  go_enter Try.func23, Try.ntmps23
  go_wp2
  go_loopw [4] (fun i wr => FrR w p n i wr) (fun i _ => n - (intOf i).toNat)
  case atStart => exact ⟨0, Nat.zero_le _, rfl, fun j hj => by omega, rfl⟩
  case round =>
    obtain ⟨k, hk, rfl, hl, rfl⟩ := hrel
    by_cases hlt : k < n
    · have hk1 : k < bl.length := by have := hn'.out; omega
      have hcell := h.b k hk1
      rw [hp k hk1] at hcell
      have hat := freeOf_at p n k hlt
      have hnext : p k = true → FrR wr p n (.int .i64 ((k : Int) + 1)) wr := fun e => ⟨k + 1, by omega, by go_num, fun j hj => by
        by_cases ej : j < k
        · exact hl j ej
        · obtain rfl : j = k := by omega
          exact e, rfl⟩
      have hfr : p k = false → freeOf p n = ((k : Int), true) := fun e => hat e hl
      clear hat hl h hp
      have hnext := Lib.hid hnext
      have hfr := Lib.hid hfr
      have hkn : ((k : Int) < (n : Int)) := by omega
      generalize p k = y at *
      cases y with
      | true =>
        have hnx := hnext.out rfl
        go_wp2
        exact ⟨hnx, by simp [intOf]; omega⟩
      | false =>
        have hfx := Lib.hid (hfr.out rfl)
        clear hfr hnext
        go_wp2
        go_ret2
        first | exact ⟨rfl, rfl⟩ | exact ⟨by rw [hfx.out]; rfl, rfl⟩
    · have hkn : ¬ ((k : Int) < (n : Int)) := by omega
      have hfx := Lib.hid (freeOf_none p n (fun j hj => hl j (by omega)))
      clear hl h hp
      go_wp2
      go_ret2
      first | exact ⟨rfl, rfl⟩ | exact ⟨by rw [hfx.out]; rfl, rfl⟩
def FrR2 (w : World) (p : Nat → Bool) (n : Nat) (i : Value) (wr : World) : Prop := ∃ k : Nat, k ≤ n ∧ i = .int .i64 k ∧ (∀ j, j < k → p j = true) ∧ ∃ m, wr = w.drewN m
theorem free_any (s g many : Nat) (bs : List Nat) (w : World) (h : MS w s g many bs) : Calls Try.prog 22 #[.pointer (some ⟨s, 0, none⟩)] w fun e w' => e = .returned (.tuple #[.int .i64 (freeOf (bit bs) many).1, .bool (freeOf (bit bs) many).2]) ∧ Below w.heap.size w w' := by
  have hmay := Lib.hid (fun (i : Nat) w h => may_any s g many bs i w h)
  go_enter Try.func22, Try.ntmps22
  go_wp2
  go_step3
  go_wp2
  go_step3
  go_wp2
  go_loopw [4] (fun i wr => FrR2 w (bit bs) many i wr) (fun i _ => many - (intOf i).toNat)
  case atStart => exact ⟨0, Nat.zero_le _, rfl, fun j hj => by omega, 0, rfl⟩
  case round =>
    obtain ⟨k, hk, rfl, hl, m, hwr⟩ := hrel
    have hM1 : MS wr s g many bs := hwr ▸ h.drewN m
    have hmay := may_any s g many bs k wr hM1
    have hmm := h.hm
    by_cases hlt : k < many
    · rw [decide_eq_true (show 0 ≤ (k : Int) by omega), decide_eq_true (show (k : Int) < many by omega), Bool.and_true] at hmay
      have hhas := has_in s g many bs k wr hM1 hlt
      have hat := freeOf_at (bit bs) many k hlt
      have hnext : bit bs k = true → ∀ n, FrR2 w (bit bs) many (.int .i64 ((k : Int) + 1)) (wr.drewN n) := fun e n => ⟨k + 1, by omega, by go_num, fun j hj => by
        by_cases ej : j < k
        · exact hl j ej
        · obtain rfl : j = k := by omega
          exact e, m + n, by rw [hwr, World.drewN_drewN]⟩
      have hfr : bit bs k = false → freeOf (bit bs) many = ((k : Int), true) := fun e => hat e hl
      have hmayN := fun n => may_any s g many bs k (wr.drewN n) (hM1.drewN n)
      rw [decide_eq_true (show 0 ≤ (k : Int) by omega), decide_eq_true (show (k : Int) < many by omega), Bool.and_true] at hmayN
      have hbw : Below w.heap.size w wr := hwr ▸ bdraws0 w m
      clear hat hl hM1 hwr
      have hnext1 := Lib.hid hnext
      have hfr1 := Lib.hid hfr
      have hmay1 := Lib.hid hmay
      have hhas1 := Lib.hid hhas
      have hmayN1 := Lib.hid hmayN
      clear hnext hfr hmay hhas hmayN
      have e1 : IntKind.i64.wrap ((k : Int) + 1) = ((k + 1 : Nat) : Int) := by rw [IntWalk.i64_in _ (by omega)]; omega
      cases hy : bit bs k with
      | true =>
        rw [hy] at hhas1
        have hnx := Lib.hid (hnext1.out hy)
        clear hy hfr1 hnext1
        go_wp2_with (first | (go_at_call 32; (with_reducible refine hmay1.out.mono ?_); rintro e w1 ⟨rfl, rfl⟩) | (go_at_call 24; (with_reducible refine hhas1.out.mono ?_); rintro e w2 ⟨rfl, n2, rfl⟩))
        exact ⟨hnx.out _, by simp [intOf]; omega⟩
      | false =>
        rw [hy] at hhas1
        have hfx := Lib.hid (hfr1.out hy)
        clear hy hfr1 hnext1
        go_wp2_with (first | (go_at_call 32; (with_reducible refine hmay1.out.mono ?_); rintro e w1 ⟨rfl, rfl⟩) | (go_at_call 24; (with_reducible refine hhas1.out.mono ?_); rintro e w2 ⟨rfl, n2, rfl⟩) | (go_at_call 32; (with_reducible refine (hmayN1.out _).mono ?_); rintro e w3 ⟨rfl, rfl⟩))
        rw [Exit.noGoto_ret]
        go_ret2
        first | exact ⟨rfl, bdraws hbw n2⟩ | exact ⟨by rw [hfx.out]; rfl, bdraws hbw n2⟩
    · rw [decide_eq_false (show ¬ (k : Int) < many by omega), Bool.and_false] at hmay
      have hfx := Lib.hid (freeOf_none (bit bs) many (fun j hj => hl j (by omega)))
      have hbw : Below w.heap.size w wr := hwr ▸ bdraws0 w m
      have hmay1 := Lib.hid hmay
      clear hl hM1 hwr hmay
      go_wp2_with (first | (go_at_call 32; (with_reducible refine hmay1.out.mono ?_); rintro e w1 ⟨rfl, rfl⟩))
      rw [Exit.noGoto_ret]
      go_ret2
      first | exact ⟨rfl, hbw⟩ | exact ⟨by rw [hfx.out]; rfl, hbw⟩
end Go.Proofs.Ytlgbimpbdofloaa
