/-
  A set of small numbers: its functions walked.
-/
import Derived.Test.YtdaobfhkdbaklaaRows
import Derived.Test.YtdaobfhkdbaklaaMine
import Derived.WalkKit
import Derived.BigQuiet
import Derived.Laws.BitsAll
namespace Go.Proofs.Ytdaobfhkdbaklaa
open Go.RowKit
set_option linter.unusedVariables false
set_option linter.unusedSimpArgs false

/-- bit i of a row of bytes -/
def bit (bs : List Nat) (i : Nat) : Bool := (bs.getD (i / 8) 0).testBit (i % 8)
structure MS (w : World) (s g many : Nat) (bs : List Nat) : Prop where
  c0 : w.cell? ⟨s, 0, none⟩ = some (.int .i64 many)
  c1 : w.cell? ⟨s, 1, none⟩ = some (.slice (some ⟨g, 0, none⟩) bs.length bs.length)
  b : ∀ j (h : j < bs.length), w.cell? ⟨g, j, none⟩ = some (.int .u8 (bs[j] : Nat))
  f : ∀ j, j < bs.length → w.frozen? ⟨g, j, none⟩ = false
  ne : s ≠ g
  hn : bs.length = (many + 7) / 8
  hm : many ≤ 1000
  hb : ∀ x ∈ bs, x < 256
  hz : ∀ i, many ≤ i → bit bs i = false
  hg : g < w.heap.size
theorem getD_at {l : List Nat} {k : Nat} (h : k < l.length) : l.getD k 0 = l[k] := by rw [List.getD_eq_getElem?_getD, List.getElem?_eq_getElem h]; rfl
theorem bits_and (c q : Nat) (hc : c < 256) (hq : q < 8) : (bits .and .u8 (c : Int) (2 ^ q) != 0) = c.testBit q := by
  have h : ∀ c : Fin 256, ∀ q : Fin 8, (bits .and .u8 ((c.val : Nat) : Int) (2 ^ q.val) != 0) = c.val.testBit q.val := by decide +kernel
  exact h ⟨c, hc⟩ ⟨q, hq⟩
theorem bits_xor (c q : Nat) (hc : c < 256) (hq : q < 8) : bits .xor .u8 (c : Int) (2 ^ q) = ((c ^^^ 2 ^ q : Nat) : Int) := by
  have h : ∀ c : Fin 256, ∀ q : Fin 8, bits .xor .u8 ((c.val : Nat) : Int) (2 ^ q.val) = ((c.val ^^^ 2 ^ q.val : Nat) : Int) := by decide +kernel
  exact h ⟨c, hc⟩ ⟨q, hq⟩
theorem may_any (s g many : Nat) (bs : List Nat) (i : Int) (w : World) (h : MS w s g many bs) : Calls Try.prog 34 #[.pointer (some ⟨s, 0, none⟩), .int .i64 i] w fun e w' => e = .returned (.bool (decide (0 ≤ i) && decide (i < many))) ∧ w = w' := by
  have hc0 := h.c0
  by_cases h1 : 0 ≤ i
  · have hd : decide (0 ≤ i) = true := decide_eq_true h1
    rw [hd]
    go_enter Try.func34, Try.ntmps34
    go_wp2
    go_ret
    exact ⟨by simp, rfl⟩
  · have hd : decide (0 ≤ i) = false := decide_eq_false h1
    rw [hd]
    go_enter Try.func34, Try.ntmps34
    go_wp2
    go_ret
    exact ⟨by simp, rfl⟩
theorem may_none (i : Int) (w : World) : Calls Try.prog 34 #[.pointer none, .int .i64 i] w fun e w' => e = .returned (.bool false) ∧ w = w' := by
  go_enter Try.func34, Try.ntmps34
  go_wp2
  go_ret
  exact ⟨rfl, rfl⟩
theorem place_any (i : Nat) (w : World) (hi : i < 1000) : Calls Try.prog 36 #[.int .i64 i] w fun e w' => e = .returned (.tuple #[.int .i64 (i / 8 : Nat), .int .u8 (2 ^ (i % 8) : Nat)]) ∧ ∃ n, w' = w.drewN n := by
  go_enter Try.func36, Try.ntmps36
  go_wp2
  go_quiet (fail)
  go_wp2
  go_ret2
  refine ⟨?_, _, rfl⟩
  have h2 : (2 : Int) ^ (i % 8) % 256 = ((2 ^ (i % 8) : Nat) : Int) := by
    have h : ∀ q : Fin 8, (2 : Int) ^ q.val % 256 = ((2 ^ q.val : Nat) : Int) := by decide
    exact h ⟨i % 8, Nat.mod_lt _ (by decide)⟩
  show Ending.returned (.tuple #[.int .i64 ((i : Int) / 8), .int .u8 ((2 : Int) ^ (i % 8) % 256)]) = _
  rw [h2]
  rfl
def hasB (many : Nat) (bs : List Nat) (i : Int) : Bool := decide (0 ≤ i) && decide (i < many) && bit bs i.toNat
theorem has_in (s g many : Nat) (bs : List Nat) (i : Nat) (w : World) (h : MS w s g many bs) (hi : i < many) : Calls Try.prog 35 #[.pointer (some ⟨s, 0, none⟩), .int .i64 i] w fun e w' => e = .returned (.bool (bit bs i)) ∧ ∃ n, w' = w.drewN n := by
  have hm := h.hm
  have hn := h.hn
  have hc1 := h.c1
  have hj : i / 8 < bs.length := by omega
  have hb := h.b (i / 8) hj
  have hl : bs.length ≤ 1000 := by omega
  have hbb : bs[i / 8] < 256 := h.hb _ (List.getElem_mem hj)
  obtain ⟨c, hc⟩ : ∃ c, bs[i / 8] = c := ⟨_, rfl⟩
  rw [hc] at hb hbb
  obtain ⟨n, hnn⟩ : ∃ n, bs.length = n := ⟨_, rfl⟩
  rw [hnn] at hc1 hj hl
  obtain ⟨k, hk⟩ : ∃ k, i / 8 = k := ⟨_, rfl⟩
  obtain ⟨q, hq⟩ : ∃ q, i % 8 = q := ⟨_, rfl⟩
  have hq8 : q < 8 := by omega
  have HB : Hid (bit bs i = c.testBit q) := by
    show bit bs i = _
    unfold bit
    rw [hq, getD_at (by omega), hc]
  have hM := may_any s g many bs i w h
  rw [decide_eq_true (show 0 ≤ (i : Int) by omega), decide_eq_true (show (i : Int) < many by omega)] at hM
  have hP := place_any i w (by omega)
  rw [hk, hq] at hP
  rw [hk] at hb hj
  have hM := Lib.hid hM
  have hP := Lib.hid hP
  clear hc hnn hk hq hn
  go_enter Try.func35, Try.ntmps35
  go_wp2_with (first | (go_at_call 34; (with_reducible refine hM.out.mono ?_); rintro e w1 ⟨rfl, rfl⟩) | (go_at_call 36; (with_reducible refine hP.out.mono ?_); rintro e w2 ⟨rfl, n2, rfl⟩))
  go_ret
  exact ⟨congrArg (fun x => Ending.returned (.bool x)) ((bits_and _ _ hbb hq8).trans HB.out.symm), _, rfl⟩
theorem has_any (s g many : Nat) (bs : List Nat) (i : Int) (w : World) (h : MS w s g many bs) : Calls Try.prog 35 #[.pointer (some ⟨s, 0, none⟩), .int .i64 i] w fun e w' => e = .returned (.bool (hasB many bs i)) ∧ ∃ n, w' = w.drewN n := by
  by_cases hi : 0 ≤ i ∧ i < many
  · obtain ⟨k, rfl⟩ : ∃ k : Nat, i = k := ⟨i.toNat, by omega⟩
    have e : hasB many bs (k : Int) = bit bs k := by
      unfold hasB
      rw [decide_eq_true hi.1, decide_eq_true hi.2]; rfl
    rw [e]
    exact has_in s g many bs k w h (by omega)
  · have e : hasB many bs i = false := by
      unfold hasB
      rcases Int.lt_or_le i 0 with h1 | h1
      · rw [decide_eq_false (by omega)]; rfl
      · rw [decide_eq_false (show ¬ i < many by omega)]; simp
    have hM := may_any s g many bs i w h
    rw [show (decide (0 ≤ i) && decide (i < many)) = false from by
      rcases Int.lt_or_le i 0 with h1 | h1
      · rw [decide_eq_false (by omega)]; rfl
      · rw [decide_eq_false (show ¬ i < many by omega)]; simp] at hM
    rw [e]
    have hM := Lib.hid hM
    go_enter Try.func35, Try.ntmps35
    go_wp2_with (go_at_call 34; (with_reducible refine hM.out.mono ?_); rintro e w1 ⟨rfl, rfl⟩)
    go_ret
    exact ⟨rfl, 0, rfl⟩
theorem has_none (i : Int) (w : World) : Calls Try.prog 35 #[.pointer none, .int .i64 i] w fun e w' => e = .returned (.bool false) ∧ w = w' := by
  go_enter Try.func35, Try.ntmps35
  go_wp2_with (go_at_call 34; (with_reducible refine (may_none _ _).mono ?_); rintro e w1 ⟨rfl, rfl⟩)
  go_ret
  exact ⟨rfl, rfl⟩
/-- a number's bit turned -/
def flipB (bs : List Nat) (i : Nat) : List Nat := bs.set (i / 8) ((bs.getD (i / 8) 0) ^^^ 2 ^ (i % 8))
theorem flip_len (bs : List Nat) (i : Nat) : (flipB bs i).length = bs.length := by simp [flipB]
theorem flip_bit (bs : List Nat) (i j : Nat) (hi : i / 8 < bs.length) : bit (flipB bs i) j = (bit bs j != decide (j = i)) := by
  unfold bit flipB
  by_cases h : j / 8 = i / 8
  · rw [h, getD_at (by simpa using hi), List.getElem_set_self, Nat.testBit_xor, Nat.testBit_two_pow]
    congr 1
    rw [Bool.eq_iff_iff]; simp; omega
  · have e : (bs.set (i / 8) ((bs.getD (i / 8) 0) ^^^ 2 ^ (i % 8))).getD (j / 8) 0 = bs.getD (j / 8) 0 := by
      rw [List.getD_eq_getElem?_getD, List.getD_eq_getElem?_getD, List.getElem?_set_ne (fun e => h e.symm), List.getD_eq_getElem?_getD]
    rw [e, decide_eq_false (by rintro rfl; exact h rfl)]
    simp
theorem flip_lt (bs : List Nat) (i : Nat) (h : ∀ x ∈ bs, x < 256) : ∀ x ∈ flipB bs i, x < 256 := by
  intro x hx
  unfold flipB at hx
  rcases List.mem_or_eq_of_mem_set hx with hx | rfl
  · exact h x hx
  · refine Nat.xor_lt_two_pow (n := 8) ?_ ?_
    · by_cases hl : i / 8 < bs.length
      · rw [getD_at hl]; exact h _ (List.getElem_mem hl)
      · rw [List.getD_eq_getElem?_getD, List.getElem?_eq_none (by omega)]; decide
    · exact Nat.pow_lt_pow_right (by decide) (Nat.mod_lt _ (by decide))
def turnB (many : Nat) (bs : List Nat) (i : Int) (is : Bool) : Bool := decide (0 ≤ i) && decide (i < many) && (bit bs i.toNat != is)
def turnL (many : Nat) (bs : List Nat) (i : Int) (is : Bool) : List Nat := if turnB many bs i is then flipB bs i.toNat else bs
theorem cell_off {W : World} {g i j : Nat} {v u : Value} (h : W.cell? ⟨g, j, none⟩ = some u) (hne : i ≠ j) : (W.setCell ⟨g, i, none⟩ v).cell? ⟨g, j, none⟩ = some u := by
  simp [go_sem, h, hne]
theorem cell_same {W : World} {g j : Nat} {v u : Value} (h : W.cell? ⟨g, j, none⟩ = some u) : (W.setCell ⟨g, j, none⟩ v).cell? ⟨g, j, none⟩ = some v := by
  simp [go_sem, h]
theorem MS.turned {w : World} {s g many : Nat} {bs : List Nat} (h : MS w s g many bs) (i : Nat) (hi : i < many) (c : Nat) (hc : bs.getD (i / 8) 0 = c) : MS (w.setCell ⟨g, i / 8, none⟩ (.int .u8 ((c ^^^ 2 ^ (i % 8) : Nat) : Int))) s g many (flipB bs i) := by
  have hj : i / 8 < bs.length := by have := h.hn; omega
  have hf := Frm.one w g (i / 8) (.int .u8 ((c ^^^ 2 ^ (i % 8) : Nat) : Int))
  refine ⟨hf.cell (p := ⟨s, 0, none⟩) h.ne h.c0, by rw [flip_len]; exact hf.cell (p := ⟨s, 1, none⟩) h.ne h.c1, ?_, ?_, h.ne, by rw [flip_len]; exact h.hn, h.hm, flip_lt _ _ h.hb, ?_, Nat.lt_of_lt_of_le h.hg hf.size⟩
  · intro j hjl
    rw [flip_len] at hjl
    by_cases e : i / 8 = j
    · subst e
      have e1 : (flipB bs i)[i / 8]'(by rw [flip_len]; exact hjl) = c ^^^ 2 ^ (i % 8) := by
        unfold flipB
        rw [List.getElem_set_self, hc]
      rw [e1]
      exact cell_same (h.b _ hj)
    · have e1 : (flipB bs i)[j]'(by rw [flip_len]; exact hjl) = bs[j] := by
        unfold flipB
        rw [List.getElem_set_ne e]
      rw [e1]
      exact cell_off (h.b j hjl) e
  · intro j hjl
    rw [flip_len] at hjl
    rw [World.frozen?_setCell]; exact h.f j hjl
  · intro j hjm
    rw [flip_bit _ _ _ hj, h.hz j hjm, decide_eq_false (by omega)]; rfl
end Go.Proofs.Ytdaobfhkdbaklaa
