/-
  A set of small numbers: made, turned, told as bytes.
-/
import Derived.Test.YtdaobfhkdbaklaaMarks
import Derived.Test.YtdaobfhkdbaklaaMake
import Derived.Laws.BytesArg
namespace Go.Proofs.Ytdaobfhkdbaklaa
open Go.RowKit
set_option linter.unusedVariables false
set_option linter.unusedSimpArgs false

theorem MS.below {w w' : World} {s g many : Nat} {bs : List Nat} (h : MS w s g many bs) (hb : Below w.heap.size w w') : MS w' s g many bs :=
  ⟨bkeep hb h.c0, bkeep hb h.c1, fun j hj => bkeep hb (h.b j hj), fun j hj => bfree hb (h.b j hj) (h.f j hj), h.ne, h.hn, h.hm, h.hb, h.hz, Nat.lt_of_lt_of_le h.hg hb.size⟩
theorem MS.frm {S : Nat → Prop} {w w' : World} {s g many : Nat} {bs : List Nat} (h : MS w s g many bs) (hf : Frm S w w') (h1 : ¬ S s) (h2 : ¬ S g) : MS w' s g many bs :=
  ⟨hf.cell h1 h.c0, hf.cell h1 h.c1, fun j hj => hf.cell (p := ⟨g, j, none⟩) h2 (h.b j hj), fun j hj => (hf.frozen (p := ⟨g, j, none⟩) h2 (World.block_lt_of_cell? w _ (h.b j hj))).trans (h.f j hj), h.ne, h.hn, h.hm, h.hb, h.hz, Nat.lt_of_lt_of_le h.hg hf.size⟩
theorem MS.drewN {w : World} {s g many : Nat} {bs : List Nat} (h : MS w s g many bs) (n : Nat) : MS (w.drewN n) s g many bs := ⟨h.c0, h.c1, h.b, h.f, h.ne, h.hn, h.hm, h.hb, h.hz, h.hg⟩
theorem MS.lt {w : World} {s g many : Nat} {bs : List Nat} (h : MS w s g many bs) : s < w.heap.size := World.block_lt_of_cell? w _ h.c0
def TurnP (w : World) (s g many : Nat) (bs bs' : List Nat) (b : Bool) (e : Ending) (w' : World) : Prop := e = .returned (.bool b) ∧ MS w' s g many bs' ∧ Frm (· = g) w w'
theorem turn_in (s g many : Nat) (bs : List Nat) (i : Nat) (is : Bool) (w : World) (h : MS w s g many bs) (hi : i < many) (hb : (bit bs i == is) = false) : Calls Try.prog 31 #[.pointer (some ⟨s, 0, none⟩), .int .i64 i, .bool is] w
    (TurnP w s g many bs (flipB bs i) true) := by
  have hm := h.hm
  have hn := h.hn
  have hc1 := h.c1
  have hj : i / 8 < bs.length := by omega
  have hcb := h.b (i / 8) hj
  have hff := h.f (i / 8) hj
  have hl : bs.length ≤ 1000 := by omega
  have hbb : bs[i / 8] < 256 := h.hb _ (List.getElem_mem hj)
  have hgd := getD_at hj
  obtain ⟨c, hc⟩ : ∃ c, bs[i / 8] = c := ⟨_, rfl⟩
  rw [hc] at hcb hbb hgd
  have hM := may_any s g many bs i w h
  rw [decide_eq_true (show 0 ≤ (i : Int) by omega), decide_eq_true (show (i : Int) < many by omega)] at hM
  have hH := has_in s g many bs i w h hi
  have hP := fun w => place_any i w (by omega)
  have hT := fun m => (h.drewN m).turned i hi c hgd
  have hq8 : i % 8 < 8 := Nat.mod_lt _ (by decide)
  have hx := bits_xor c (i % 8) hbb hq8
  have hT := Lib.hid hT
  have HFR := Lib.hid (fun m v => (Frm.drewN (Frm.refl (· = g) w) m).trans (Frm.one (w.drewN m) g (i / 8) v))
  obtain ⟨n, hnn⟩ : ∃ n, bs.length = n := ⟨_, rfl⟩
  rw [hnn] at hc1 hj hl
  generalize i / 8 = k at *
  generalize i % 8 = q at *
  have hgs := h.ne
  generalize bit bs i = bv at *
  have hM := Lib.hid hM
  have hH := Lib.hid hH
  have hP := Lib.hid hP
  have hx := Lib.hid hx
  clear hc hnn hn hgd
  go_enter Try.func31, Try.ntmps31
  go_wp2_with (first | (go_at_call 34; (with_reducible refine hM.out.mono ?_); rintro e w1 ⟨rfl, rfl⟩) | (go_at_call 35; (with_reducible refine hH.out.mono ?_); rintro e w1 ⟨rfl, n1, rfl⟩) | (go_at_call 36; (with_reducible refine (hP.out _).mono ?_); rintro e w2 ⟨rfl, n2, rfl⟩))
  go_ret
  exact ⟨rfl, hT.out _, HFR.out _ _⟩
theorem turn_eq (s g many : Nat) (bs : List Nat) (i : Nat) (is : Bool) (w : World) (h : MS w s g many bs) (hi : i < many) (hb : (bit bs i == is) = true) : Calls Try.prog 31 #[.pointer (some ⟨s, 0, none⟩), .int .i64 i, .bool is] w
    (TurnP w s g many bs bs false) := by
  have hM := may_any s g many bs i w h
  rw [decide_eq_true (show 0 ≤ (i : Int) by omega), decide_eq_true (show (i : Int) < many by omega)] at hM
  have hH := has_in s g many bs i w h hi
  have HD := Lib.hid (fun n => h.drewN n)
  generalize bit bs i = bv at *
  have hM := Lib.hid hM
  have hH := Lib.hid hH
  go_enter Try.func31, Try.ntmps31
  go_wp2_with (first | (go_at_call 34; (with_reducible refine hM.out.mono ?_); rintro e w1 ⟨rfl, rfl⟩) | (go_at_call 35; (with_reducible refine hH.out.mono ?_); rintro e w1 ⟨rfl, n1, rfl⟩))
  go_ret
  exact ⟨rfl, HD.out _, Frm.drewN (Frm.refl _ _) _⟩
theorem turn_out (s g many : Nat) (bs : List Nat) (i : Int) (is : Bool) (w : World) (h : MS w s g many bs) (hi : ¬ (0 ≤ i ∧ i < many)) : Calls Try.prog 31 #[.pointer (some ⟨s, 0, none⟩), .int .i64 i, .bool is] w
    (TurnP w s g many bs bs false) := by
  have hM := may_any s g many bs i w h
  rw [show (decide (0 ≤ i) && decide (i < many)) = false from by
    rcases Int.lt_or_le i 0 with h1 | h1
    · rw [decide_eq_false (by omega)]; rfl
    · rw [decide_eq_false (show ¬ i < many by omega)]; simp] at hM
  have hM := Lib.hid hM
  clear hi
  go_enter Try.func31, Try.ntmps31
  go_wp2_with (first | (go_at_call 34; (with_reducible refine hM.out.mono ?_); rintro e w1 ⟨rfl, rfl⟩))
  go_ret
  exact ⟨rfl, h, Frm.refl _ _⟩
theorem turn_any (s g many : Nat) (bs : List Nat) (i : Int) (is : Bool) (w : World) (h : MS w s g many bs) : Calls Try.prog 31 #[.pointer (some ⟨s, 0, none⟩), .int .i64 i, .bool is] w
    (TurnP w s g many bs (turnL many bs i is) (turnB many bs i is)) := by
  by_cases hi : 0 ≤ i ∧ i < many
  · obtain ⟨k, rfl⟩ : ∃ k : Nat, i = k := ⟨i.toNat, by omega⟩
    have e : turnB many bs (k : Int) is = (bit bs k != is) := by
      unfold turnB
      rw [decide_eq_true hi.1, decide_eq_true hi.2]; rfl
    unfold turnL
    rw [e]
    cases hb : (bit bs k == is) with
    | true =>
      rw [show (bit bs k != is) = false by rw [bne, hb]; rfl]
      exact turn_eq s g many bs k is w h (by omega) hb
    | false =>
      rw [show (bit bs k != is) = true by rw [bne, hb]; rfl]
      exact turn_in s g many bs k is w h (by omega) hb
  · have e : turnB many bs i is = false := by
      unfold turnB
      rcases Int.lt_or_le i 0 with h1 | h1
      · rw [decide_eq_false (by omega)]; rfl
      · rw [decide_eq_false (show ¬ i < many by omega)]; simp
    unfold turnL
    rw [e]
    exact turn_out s g many bs i is w h hi
theorem turn_none (i : Int) (is : Bool) (w : World) : Calls Try.prog 31 #[.pointer none, .int .i64 i, .bool is] w fun e w' => e = .returned (.bool false) ∧ w = w' := by
  go_enter Try.func31, Try.ntmps31
  go_wp2_with (go_at_call 34; (with_reducible refine (may_none _ _).mono ?_); rintro e w1 ⟨rfl, rfl⟩)
  go_ret
  exact ⟨rfl, rfl⟩
theorem add_any (s g many : Nat) (bs : List Nat) (i : Int) (w : World) (h : MS w s g many bs) : Calls Try.prog 28 #[.pointer (some ⟨s, 0, none⟩), .int .i64 i] w
    (TurnP w s g many bs (turnL many bs i true) (turnB many bs i true)) := by
  have hT := Lib.hid (turn_any s g many bs i true w h)
  go_enter Try.func28, Try.ntmps28
  go_wp2_with (go_at_call 31; (with_reducible refine hT.out.mono ?_); rintro e w1 ⟨rfl, h1, h2⟩)
  go_ret
  exact ⟨rfl, h1, h2⟩
theorem remove_any (s g many : Nat) (bs : List Nat) (i : Int) (w : World) (h : MS w s g many bs) : Calls Try.prog 30 #[.pointer (some ⟨s, 0, none⟩), .int .i64 i] w
    (TurnP w s g many bs (turnL many bs i false) (turnB many bs i false)) := by
  have hT := Lib.hid (turn_any s g many bs i false w h)
  go_enter Try.func30, Try.ntmps30
  go_wp2_with (go_at_call 31; (with_reducible refine hT.out.mono ?_); rintro e w1 ⟨rfl, h1, h2⟩)
  go_ret
  exact ⟨rfl, h1, h2⟩
theorem remove_none (i : Int) (w : World) : Calls Try.prog 30 #[.pointer none, .int .i64 i] w fun e w' => e = .returned (.bool false) ∧ w = w' := by
  go_enter Try.func30, Try.ntmps30
  go_wp2_with (go_at_call 31; (with_reducible refine (turn_none _ _ _).mono ?_); rintro e w1 ⟨rfl, rfl⟩)
  go_ret
  exact ⟨rfl, rfl⟩
theorem add_none (i : Int) (w : World) : Calls Try.prog 28 #[.pointer none, .int .i64 i] w fun e w' => e = .returned (.bool false) ∧ w = w' := by
  go_enter Try.func28, Try.ntmps28
  go_wp2_with (go_at_call 31; (with_reducible refine (turn_none _ _ _).mono ?_); rintro e w1 ⟨rfl, rfl⟩)
  go_ret
  exact ⟨rfl, rfl⟩
/-- the limit -/
def nS (many : Int) : Nat := (min (max many 0) 1000).toNat
def zeros (many : Int) : List Nat := List.replicate ((nS many + 7) / 8) 0
theorem zeros_bit (many : Int) (i : Nat) : bit (zeros many) i = false := by
  unfold bit zeros
  rw [List.getD_eq_getElem?_getD, List.getElem?_replicate]
  split <;> simp
def NewM (w : World) (many : Int) (e : Ending) (w' : World) : Prop := ∃ s g, e = .returned (.pointer (some ⟨s, 0, none⟩)) ∧ MS w' s g (nS many) (zeros many) ∧ w.heap.size ≤ s ∧ w.heap.size ≤ g ∧ Below w.heap.size w w'
theorem newm_post (w : World) (many : Int) (n : Nat) (hn : n = (nS many + 7) / 8) (m : Int) (hm : m = nS many) :
    NewM w many (.returned (.pointer (some ⟨w.heap.size + 1, 0, none⟩))) ((w.alloc (.cells (madeCells #[.int .u8 0] n) 5)).alloc (.cells #[.int .i64 m, .slice (some ⟨w.heap.size, 0, none⟩) n n] 57)) := by
  have hl : (zeros many).length = n := by simp [zeros, hn]
  have hA : Below (w.alloc (.cells (madeCells #[.int .u8 0] n) 5)).heap.size (w.alloc (.cells (madeCells #[.int .u8 0] n) 5)) ((w.alloc (.cells (madeCells #[.int .u8 0] n) 5)).alloc (.cells #[.int .i64 m, .slice (some ⟨w.heap.size, 0, none⟩) n n] 57)) := (Below.refl _ _).alloc (Nat.le_refl _) _
  refine ⟨w.heap.size + 1, w.heap.size, rfl, ⟨by simp [go_sem, hm], by rw [hl]; simp [go_sem], ?_, ?_, by omega, by rw [hl, hn], by unfold nS; omega, ?_, fun i _ => zeros_bit many i, by simp; omega⟩, by omega, by omega, ((Below.refl _ w).alloc (Nat.le_refl _) _).alloc (by simp) _⟩
  · intro j hj
    have e : (zeros many)[j] = 0 := by simp [zeros]
    rw [e]
    exact bkeep hA (made_cell w 5 (.int .u8 0) n j (by omega))
  · intro j hj
    exact bfree hA (made_cell w 5 (.int .u8 0) n j (by omega)) (made_free _ _ _ _ _)
  · intro x hx
    simp [zeros] at hx
    omega
theorem new_any (many : Int) (w : World) (hm : -9223372036854775808 ≤ many ∧ many ≤ 9223372036854775807) : Calls Try.prog 19 #[.int .i64 many] w (NewM w many) := by
  have mk := fun (n : Nat) (k : Int) (hk : k = n) (h : n ≤ 1000) => mk_full (P := Try.prog) 44 5 (.int .u8 0) 1 Try.underlying44 (by kernel_rfl) rfl n k hk (by omega) (by omega)
  by_cases h1 : 1000 < many
  · have hp := newm_post w many 125 (by unfold nS; omega) 1000 (by unfold nS; omega)
    have hmk := mk 125 125 rfl (by omega)
    clear mk
    go_enter Try.func19, Try.ntmps19
    go_wp2
    go_ret
    exact hp
  · by_cases h2 : many < 0
    · have hp := newm_post w many 0 (by unfold nS; omega) 0 (by unfold nS; omega)
      have hmk := mk 0 0 rfl (by omega)
      clear mk
      go_enter Try.func19, Try.ntmps19
      go_wp2
      go_ret
      exact hp
    · obtain ⟨n, rfl⟩ : ∃ n : Nat, many = n := ⟨many.toNat, by omega⟩
      have hp := newm_post w n ((n + 7) / 8) (by unfold nS; omega) n (by unfold nS; omega)
      have hmk := mk ((n + 7) / 8) (((n : Int) + 8 - 1) / 8) (by omega) (by omega)
      clear mk
      go_enter Try.func19, Try.ntmps19
      go_wp2
      go_ret
      exact hp
end Go.Proofs.Ytdaobfhkdbaklaa
