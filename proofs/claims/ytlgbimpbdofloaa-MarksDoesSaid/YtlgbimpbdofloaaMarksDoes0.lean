/-
  The reference's set: next, bytes; what both sides tell is the same.
-/
import Derived.Test.YtlgbimpbdofloaaMarksPut
namespace Go.Proofs.Ytlgbimpbdofloaa
open Go.RowKit
set_option linter.unusedVariables false
set_option linter.unusedSimpArgs false

def firstGe (l : List Int) (f : Int) : Int × Bool := match l.find? (fun x => decide (f ≤ x)) with
  | some x => (x, true)
  | none => match l with
    | x :: _ => (x, true)
    | [] => (0, false)
theorem firstGe_at (l : List Int) (f : Int) (k : Nat) (hk : k < l.length) (hp : f ≤ l[k]) (hl : ∀ j (h : j < l.length), j < k → ¬ f ≤ l[j]) : firstGe l f = (l[k], true) := by
  have : l.find? (fun x => decide (f ≤ x)) = some l[k] := by
    rw [List.find?_eq_some_iff_getElem]
    exact ⟨by simpa using hp, k, hk, rfl, fun j hj => by simpa using hl j (by omega) hj⟩
  unfold firstGe
  rw [this]
theorem firstGe_no (l : List Int) (f : Int) (hl : ∀ j (h : j < l.length), ¬ f ≤ l[j]) (h0 : 0 < l.length) : firstGe l f = (l[0], true) := by
  have : l.find? (fun x => decide (f ≤ x)) = none := by
    rw [List.find?_eq_none]
    intro x hx
    obtain ⟨j, hj, rfl⟩ := List.getElem_of_mem hx
    simpa using hl j hj
  unfold firstGe
  rw [this]
  cases l with
  | nil => simp at h0
  | cons a l => rfl
theorem selF_filter (bs : List Nat) (a k : Nat) : selF bs a k = (sel bs k).filter (fun x => decide ((a : Int) ≤ x)) := by
  unfold selF sel
  rw [List.filter_map, List.filter_filter]
  congr 1
  apply List.filter_congr
  intro x _
  simp
theorem sel_nonneg (bs : List Nat) (k : Nat) : ∀ x ∈ sel bs k, 0 ≤ x := by
  intro x hx
  unfold sel at hx
  obtain ⟨i, _, rfl⟩ := List.mem_map.1 hx
  omega
theorem nextM_first (bs : List Nat) (many : Nat) (f : Int) : nextM bs many f = firstGe (sel bs many) f := by
  have hL : ∀ f : Int, selF bs (max f 0).toNat many = (sel bs many).filter (fun x => decide (f ≤ x)) := by
    intro f
    rw [selF_filter]
    apply List.filter_congr
    intro x hx
    have := sel_nonneg bs many x hx
    simp only [decide_eq_decide]
    omega
  have hh := List.head?_filter (p := fun x => decide (f ≤ x)) (l := sel bs many)
  have h0 : (sel bs many).filter (fun x => decide (0 ≤ x)) = sel bs many := List.filter_eq_self.2 fun x hx => by simpa using sel_nonneg bs many x hx
  unfold nextM nextL firstGe
  simp only [hL, h0]
  cases hf : (sel bs many).filter (fun x => decide (f ≤ x)) with
  | nil =>
    rw [hf] at hh
    rw [← hh]
    cases sel bs many <;> rfl
  | cons x r =>
    rw [hf] at hh
    rw [← hh]
    rfl
def NxR (w : World) (l : List Int) (f : Int) (i : Value) (wr : World) : Prop := ∃ k : Nat, k ≤ l.length ∧ i = .int .i64 k ∧ (∀ j (h : j < l.length), j < k → ¬ f ≤ l[j]) ∧ wr = w
theorem rnext_any (q g cap : Nat) (bl : List Bool) (l : List Int) (f : Int) (w : World) (h : RM w q g cap bl) (hsel : selB bl bl.length = l) (hl5 : l.length ≤ 5000) : Calls Try.prog 21 #[.pointer (some ⟨q, 0, none⟩), .int .i64 f] w fun e w' => e = .returned (.tuple #[.int .i64 (firstGe l f).1, .bool (firstGe l f).2]) ∧ Below w.heap.size w w' := by
  have hA := rall_any q g cap bl w h
  rw [hsel] at hA
  have hA := Lib.hid hA
  go_enter Try.func21, Try.ntmps21
  go_wp2_with (go_at_call 15; (with_reducible refine hA.out.mono ?_); rintro e w1 ⟨⟨v, rfl, hv⟩, hb⟩; have hvx := hv.lx; obtain ⟨a, c, hva⟩ := hvx.len; subst hva)
  rcases hvx with ⟨hva, hln⟩ | ⟨G, o, c', hva, hcap, hG, hc⟩
  · subst hln
    obtain ⟨rfl, rfl⟩ : a = none ∧ c = 0 := by simpa using hva
    refine wp_loop_rounds 1 ?_
    rw [rounds_succ]
    go_wp2
    go_ret2
    exact ⟨rfl, hb⟩
  · obtain ⟨rfl, rfl⟩ : a = some ⟨G, o, none⟩ ∧ c = c' := by simpa using hva
    have hf1 := fun k hk => firstGe_at l f k hk
    have hf2 := firstGe_no l f
    obtain ⟨n, hn⟩ : ∃ n, l.length = n := ⟨_, rfl⟩
    have h0 : NxR w1 l f (.int .i64 0) w1 := ⟨0, Nat.zero_le _, rfl, fun j _ hj => by omega, rfl⟩
    rw [hn] at hl5 hcap
    have hn' := Lib.hid hn
    have hf1 := Lib.hid hf1
    have hf2 := Lib.hid hf2
    have hnn : (l.length : Int) = (n : Int) := by rw [hn]
    clear hv hva
    try rw [hn]
    clear hn hnn
    go_loopw [7] (fun i wr => NxR w1 l f i wr) (fun i _ => n - (intOf i).toNat)
    case atStart => exact h0
    case round =>
      obtain ⟨k, hk, rfl, hno, rfl⟩ := hrel
      by_cases hlt : k < n
      · have hk1 : k < l.length := by have := hn'.out; omega
        have hcell : wr.cell? ⟨G, o + k, none⟩ = some (.int .i64 l[k]) := hc k hk1
        have hX := hf1.out k hk1
        have hnext : ¬ f ≤ l[k] → NxR wr l f (.int .i64 ((k : Int) + 1)) wr := fun e => ⟨k + 1, by omega, by go_num, fun j hj hjk => by
          by_cases ej : j < k
          · exact hno j hj ej
          · obtain rfl : j = k := by omega
            exact e, rfl⟩
        have hfr : f ≤ l[k] → firstGe l f = (l[k], true) := fun e => hX e hno
        have hkn : ((k : Int) < (n : Int)) := by omega
        have hnext1 := Lib.hid hnext
        have hfr1 := Lib.hid hfr
        have hf3 := hf2
        clear hnext hfr hX hno hc h hf1 hf2 hA
        generalize l[k] = y at *
        by_cases hy : f ≤ y
        · have hfx := Lib.hid (hfr1.out hy)
          clear hfr1 hnext1
          go_wp2
          go_ret2
          first | exact ⟨rfl, hb⟩ | exact ⟨by rw [hfx.out]; rfl, hb⟩
        · have hnx := Lib.hid (hnext1.out hy)
          clear hfr1 hnext1
          go_wp2
          exact ⟨hnx.out, by simp [intOf]; omega⟩
      · have hkn : ¬ ((k : Int) < (n : Int)) := by omega
        by_cases hn0 : n = 0
        · have hln : l = [] := List.length_eq_zero_iff.1 (by have := hn'.out; omega)
          have hfx : firstGe l f = (0, false) := by rw [hln]; rfl
          have hfx := Lib.hid hfx
          clear hno hc h hf1 hf2 hA hln
          subst hn0
          go_wp2
          go_ret2
          first | exact ⟨rfl, hb⟩ | exact ⟨by rw [hfx.out]; rfl, hb⟩
        · have hk0 : 0 < l.length := by have := hn'.out; omega
          have hcell : wr.cell? ⟨G, o + 0, none⟩ = some (.int .i64 l[0]) := hc 0 hk0
          have hfx := hf2.out (fun j hj => hno j hj (by have := hn'.out; omega)) hk0
          rw [Nat.add_zero] at hcell
          have hfx1 := Lib.hid hfx
          have hnz : decide ((n : Int) = 0) = false := decide_eq_false (by omega)
          have hn1 : 0 < n := by omega
          clear hno hc h hf1 hf2 hA hfx
          generalize l[0] = y at *
          go_wp2
          go_ret2
          first | exact ⟨rfl, hb⟩ | exact ⟨by rw [hfx1.out]; rfl, hb⟩
theorem bits_or (c q : Nat) (hc : c < 256) (hq : q < 8) : bits .or .u8 (c : Int) (2 ^ q % 256) = ((c ||| 2 ^ q : Nat) : Int) := by
  have h : ∀ c : Fin 256, ∀ q : Fin 8, bits .or .u8 ((c.val : Nat) : Int) (2 ^ q.val % 256) = ((c.val ||| 2 ^ q.val : Nat) : Int) := by decide +kernel
  exact h ⟨c, hc⟩ ⟨q, hq⟩
theorem or_lt (c q : Nat) (hc : c < 256) (hq : q < 8) : c ||| 2 ^ q < 256 := by
  have h : ∀ c : Fin 256, ∀ q : Fin 8, c.val ||| 2 ^ q.val < 256 := by decide +kernel
  exact h ⟨c, hc⟩ ⟨q, hq⟩
theorem bit_or (bs : List Nat) (i j : Nat) (hi : i / 8 < bs.length) : bit (bs.set (i / 8) (bs.getD (i / 8) 0 ||| 2 ^ (i % 8))) j = (bit bs j || decide (j = i)) := by
  unfold bit
  by_cases hd : j / 8 = i / 8
  · rw [hd]
    have : (bs.set (i / 8) (bs.getD (i / 8) 0 ||| 2 ^ (i % 8))).getD (i / 8) 0 = bs.getD (i / 8) 0 ||| 2 ^ (i % 8) := by
      rw [List.getD_eq_getElem?_getD, List.getElem?_set_self hi]; rfl
    rw [this, Nat.testBit_or, Nat.testBit_two_pow]
    congr 1
    rw [decide_eq_decide]
    omega
  · have : (bs.set (i / 8) (bs.getD (i / 8) 0 ||| 2 ^ (i % 8))).getD (j / 8) 0 = bs.getD (j / 8) 0 := by
      rw [List.getD_eq_getElem?_getD, List.getElem?_set_ne (fun e => hd e.symm), ← List.getD_eq_getElem?_getD]
    rw [this, decide_eq_false (show ¬ j = i by rintro rfl; exact hd rfl), Bool.or_false]
theorem bytes_eq (cs bs : List Nat) (hl : cs.length = bs.length) (ha : ∀ x ∈ cs, x < 256) (hb : ∀ x ∈ bs, x < 256) (h : ∀ i, i < 8 * cs.length → bit cs i = bit bs i) : cs = bs := by
  apply List.ext_getElem hl
  intro j h1 h2
  apply Nat.eq_of_testBit_eq
  intro r
  by_cases hr : r < 8
  · have := h (8 * j + r) (by omega)
    unfold bit at this
    rw [show (8 * j + r) / 8 = j by omega, show (8 * j + r) % 8 = r by omega, getD_at h1, getD_at h2] at this
    exact this
  · have h256 : (256 : Nat) ≤ 2 ^ r := Nat.le_trans (by decide : 256 ≤ 2 ^ 8) (Nat.pow_le_pow_right (by decide) (by omega))
    rw [Nat.testBit_lt_two_pow (Nat.lt_of_lt_of_le (ha _ (List.getElem_mem h1)) h256), Nat.testBit_lt_two_pow (Nat.lt_of_lt_of_le (hb _ (List.getElem_mem h2)) h256)]
/-- bytes in a row -/
structure BB (w : World) (G : Nat) (cs : List Nat) : Prop where
  b : ∀ j (h : j < cs.length), w.cell? ⟨G, j, none⟩ = some (.int .u8 cs[j])
  f : ∀ j, j < cs.length → w.frozen? ⟨G, j, none⟩ = false
  lt : ∀ x ∈ cs, x < 256
theorem BB.set {w : World} {G : Nat} {cs : List Nat} (h : BB w G cs) (k c : Nat) (hk : k < cs.length) (hc : c < 256) : BB (w.setCell ⟨G, k, none⟩ (.int .u8 c)) G (cs.set k c) := by
  refine ⟨fun j hj => ?_, fun j hj => ?_, fun x hx => ?_⟩
  · rw [List.length_set] at hj
    by_cases e : k = j
    · subst e
      rw [List.getElem_set_self]
      exact cell_same (h.b k hj)
    · rw [List.getElem_set_ne e]
      exact cell_off (h.b j hj) e
  · rw [List.length_set] at hj
    exact (World.frozen?_setCell _ _ _ _).trans (h.f j hj)
  · rcases List.mem_or_eq_of_mem_set hx with h1 | rfl
    · exact h.lt x h1
    · exact hc
theorem BB.below {w w' : World} {G : Nat} {cs : List Nat} (h : BB w G cs) (hb : Below w.heap.size w w') : BB w' G cs := ⟨fun j hj => bkeep hb (h.b j hj), fun j hj => bfree hb (h.b j hj) (h.f j hj), h.lt⟩
def ByR (w : World) (G n : Nat) (p : Nat → Bool) (i : Value) (wr : World) : Prop := ∃ k : Nat, k ≤ n ∧ i = .int .i64 k ∧ (∃ cs, BB wr G cs ∧ cs.length = (n + 7) / 8 ∧ ∀ j, j < 8 * cs.length → bit cs j = (decide (j < k) && p j)) ∧ Below w.heap.size w wr
set_option maxHeartbeats 1600000 in
theorem rbytes_any (q g cap n : Nat) (bl : List Bool) (p : Nat → Bool) (bs : List Nat) (w : World) (h : RM w q g cap bl) (hn : bl.length = n) (hp : ∀ j (h : j < bl.length), bl[j] = p j) (hbl : bs.length = (n + 7) / 8) (hbs : ∀ x ∈ bs, x < 256) (hbit : ∀ j, j < 8 * bs.length → bit bs j = (decide (j < n) && p j)) :
    Calls Try.prog 27 #[.pointer (some ⟨q, 0, none⟩)] w fun e w' => e = .returned (.string (msS bs)) ∧ Below w.heap.size w w' := by
  have hc0 := h.c0
  have hm := h.hm
  have hcp := h.hc
  rw [hn] at hc0 hm hcp
  have hmk := mk_full (P := Try.prog) 52 5 (.int .u8 0) 1 Try.underlying52 (by kernel_rfl) rfl ((n + 7) / 8) (((n : Int) + 7) / 8) (by omega) (by omega) (by omega)
  have hn' := Lib.hid hn
  have e1 : IntKind.i64.wrap ((n : Int) + 7) = (n : Int) + 7 := IntWalk.i64_in _ (by omega)
  clear hn
  go_enter Try.func27, Try.ntmps27
  go_wp2
  have hA0 : Below w.heap.size w (w.alloc (.cells (madeCells #[.int .u8 0] ((n + 7) / 8)) 5)) := (Below.refl _ w).alloc (Nat.le_refl _) _
  have h0 : ByR w w.heap.size n p (.int .i64 0) (w.alloc (.cells (madeCells #[.int .u8 0] ((n + 7) / 8)) 5)) := by
    refine ⟨0, Nat.zero_le _, rfl, ⟨List.replicate ((n + 7) / 8) 0, ⟨fun j hj => ?_, fun j hj => ?_, fun x hx => ?_⟩, by simp, fun j hj => ?_⟩, hA0⟩
    · rw [List.getElem_replicate]
      exact made_cell w 5 (.int .u8 0) _ j (by simpa using hj)
    · exact made_free _ _ _ _ _
    · rw [(List.mem_replicate.1 hx).2]; decide
    · unfold bit
      rw [decide_eq_false (by omega), Bool.false_and, List.getD_eq_getElem?_getD, List.getElem?_replicate]
      split <;> simp
  clear hA0
  go_loopw [4] (fun i wr => ByR w w.heap.size n p i wr) (fun i _ => n - (intOf i).toNat)
  case atStart => exact h0
  case round =>
    obtain ⟨k, hk, rfl, ⟨cs, hB, hcl, hcb⟩, hbW⟩ := hrel
    have hR := h.below hbW
    have hr0 := hR.c0
    rw [hn'.out] at hr0
    by_cases hlt : k < n
    · have hk1 : k < bl.length := by have := hn'.out; omega
      have hcell := hR.b k hk1
      rw [hp k hk1] at hcell
      have hkn : ((k : Int) < (n : Int)) := by omega
      have hk8 : k / 8 < cs.length := by omega
      have hc8 : cs.getD (k / 8) 0 < 256 := by rw [getD_at hk8]; exact hB.lt _ (List.getElem_mem hk8)
      have hbc := hB.b _ hk8
      rw [← getD_at hk8] at hbc
      have hbf := hB.f _ hk8
      have hset := hB.set (k / 8) (cs.getD (k / 8) 0 ||| 2 ^ (k % 8)) hk8 (or_lt _ _ hc8 (Nat.mod_lt _ (by decide)))
      have hor := bits_or _ (k % 8) hc8 (Nat.mod_lt _ (by decide))
      have hyes : p k = true → ∀ a, ByR w w.heap.size n p (.int .i64 ((k : Int) + 1)) ((wr.drewN a).setCell ⟨w.heap.size, k / 8, none⟩ (.int .u8 ((cs.getD (k / 8) 0 ||| 2 ^ (k % 8) : Nat) : Int))) := fun hy a =>
        ⟨k + 1, by omega, by go_num, ⟨_, (hB.below (bdraws0 wr a)).set (k / 8) _ hk8 (or_lt _ _ hc8 (Nat.mod_lt _ (by decide))), by rw [List.length_set]; exact hcl, fun j hj => by
          rw [List.length_set] at hj
          rw [bit_or _ _ _ hk8, hcb j hj]
          by_cases e : j = k
          · subst e; simp [hy]
          · rw [show decide (j < k + 1) = decide (j < k) from decide_eq_decide.2 (by omega), decide_eq_false e, Bool.or_false]⟩, (bdraws hbW a).setCell (p := ⟨w.heap.size, k / 8, none⟩) (Nat.le_refl _) _⟩
      have hno : p k = false → ByR w w.heap.size n p (.int .i64 ((k : Int) + 1)) wr := fun hy => ⟨k + 1, by omega, by go_num, ⟨cs, hB, hcl, fun j hj => by
          rw [hcb j hj]
          by_cases e : j = k
          · subst e; simp [hy]
          · rw [show decide (j < k + 1) = decide (j < k) from decide_eq_decide.2 (by omega)]⟩, hbW⟩
      have e2 : IntKind.i64.wrap ((k : Int) / 8) = ((k / 8 : Nat) : Int) := by rw [IntWalk.i64_in _ (by omega)]; omega
      have hyes1 := Lib.hid hyes
      have hno1 := Lib.hid hno
      have hkk : k / 8 < (n + 7) / 8 := by omega
      clear hyes hno hB hcb hset hR hbit hp
      generalize p k = y at *
      cases y with
      | false =>
        have hnx := Lib.hid (hno1.out rfl)
        clear hno1 hyes1
        go_wp2
        exact ⟨hnx.out, by simp [intOf]; omega⟩
      | true =>
        have hnx := Lib.hid (hyes1.out rfl)
        clear hno1 hyes1
        generalize cs.getD (k / 8) 0 = c0 at *
        generalize ((c0 ||| 2 ^ (k % 8) : Nat) : Int) = cz at *
        have hk8' := Lib.hid hk8
        obtain ⟨m8, hm8⟩ : ∃ m8, k / 8 = m8 := ⟨_, rfl⟩
        rw [hm8] at hbc hbf hnx e2 hkk
        clear hk8
        go_wp2
        go_region
        go_wp2
        exact ⟨hnx.out _, by simp [intOf]; omega⟩
    · have hkn : ¬ ((k : Int) < (n : Int)) := by omega
      obtain rfl : cs = bs := bytes_eq cs bs (by omega) hB.lt hbs (fun j hj => by rw [hcb j hj, hbit j (by omega), show k = n by omega])
      have hcv : (convert 52 9 (.slice (some ⟨w.heap.size, 0, none⟩) ((n + 7) / 8) ((n + 7) / 8))).run Try.prog wr = .ok (.string (msS cs)) wr := by
        rw [← hcl]
        refine run_convert_bytes_arg wr 52 5 Try.underlying52 Try.underlying5 w.heap.size 0 cs.length cs.length (cs.map fun x => ((x : Nat) : Int)) (by simp) (fun i hi => ?_) 9 Try.underlying9
        have := hB.b i hi
        simp [hi] at this ⊢
        exact this
      clear hB hcb hcl hbs hbit hbl hR hp
      go_wp2
      go_ret
      exact ⟨rfl, hbW⟩
end Go.Proofs.Ytlgbimpbdofloaa
