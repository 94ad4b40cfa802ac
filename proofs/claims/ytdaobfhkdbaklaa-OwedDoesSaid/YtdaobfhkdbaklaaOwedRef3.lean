/-
  What is owed, the reference: made; counted.
-/
import Derived.Test.YtdaobfhkdbaklaaOwedRef2
namespace Go.Proofs.Ytdaobfhkdbaklaa
open Go.RowKit
set_option linter.unusedVariables false
set_option linter.unusedSimpArgs false

/-- of the first k kinds, how many hold -/
def cntB (b : Nat → Bool) : Nat → Nat
  | 0 => 0
  | k + 1 => cntB b k + (if b (k + 1) then 1 else 0)
theorem cntB_le (b : Nat → Bool) : ∀ k, cntB b k ≤ k
  | 0 => Nat.le_refl _
  | k + 1 => by have := cntB_le b k; show cntB b k + _ ≤ _; split <;> omega
/-- how many are owed of a place -/
def manyC (m : Nat) (cs : List Nat) (i : Int) : Nat := cntB (fun k => hasO m cs i k) 6
theorem ones_cnt (c : Nat) (hc : c < 128 ∧ c % 2 = 0) : cntB (fun k => c.testBit k) 6 = Lib.onesCount c := by
  have h : ∀ c : Fin 128, c.val % 2 = 0 → cntB (fun k => c.val.testBit k) 6 = Lib.onesCount c.val := by decide +kernel
  exact h ⟨c, hc.1⟩ hc.2
theorem cntB_congr (b b' : Nat → Bool) : ∀ n, (∀ k, 1 ≤ k → k ≤ n → b k = b' k) → cntB b n = cntB b' n
  | 0, _ => rfl
  | n + 1, h => by
    show cntB b n + _ = cntB b' n + _
    rw [cntB_congr b b' n (fun k h1 h2 => h k h1 (by omega)), h (n + 1) (by omega) (Nat.le_refl _)]
theorem cntB_none (b : Nat → Bool) : ∀ n, (∀ k, b k = false) → cntB b n = 0
  | 0, _ => rfl
  | n + 1, h => by
    show cntB b n + _ = 0
    rw [cntB_none b n h, h]; rfl
theorem manyC_eq (m : Nat) (cs : List Nat) (i : Int) (hl : ∀ x ∈ cs, x < 128 ∧ x % 2 = 0) (hlen : cs.length = m) : manyC m cs i = dropN m cs i := by
  unfold manyC dropN
  by_cases h : 0 ≤ i ∧ i < m
  · rw [if_pos h]
    obtain ⟨p, rfl⟩ : ∃ p : Nat, i = p := ⟨i.toNat, by omega⟩
    rw [Int.toNat_natCast]
    have hp : p < cs.length := by omega
    rw [getD_at hp, ← ones_cnt _ (hl _ (List.getElem_mem hp)), ← getD_at hp]
    apply cntB_congr
    intro k h1 h2
    unfold hasO inB
    rw [decide_eq_true ⟨h.1, h.2, by omega, by omega⟩, Bool.true_and, Int.toNat_natCast, Int.toNat_natCast]
  · rw [if_neg h]
    apply cntB_none
    intro k
    unfold hasO inB
    rw [decide_eq_false (fun e => h ⟨e.1, e.2.1⟩), Bool.false_and]
theorem romany_any (q g m : Nat) (cs : List Nat) (i : Int) (w : World) (h : OR w q g m cs) : Calls Try.prog 27 #[.pointer (some ⟨q, 0, none⟩), .int .i64 i] w fun e w' => e = .returned (.int .i64 (manyC m cs i)) ∧ w' = w := by
  have hH := fun k => rohas_any q g m cs i k w h
  have hfin : Hid (cntB (fun k => hasO m cs i k) 6 = manyC m cs i) := rfl
  generalize manyC m cs i = r at *
  clear h
  generalize hb : (fun k : Nat => hasO m cs i k) = b at *
  have hH : ∀ k : Nat, Calls Try.prog 18 #[.pointer (some ⟨q, 0, none⟩), .int .i64 i, .int .i64 k] w fun e w' => e = .returned (.bool (b k)) ∧ w' = w := fun k => by rw [← hb]; exact hH k
  clear hb
  have hle := fun k => cntB_le b k
  have hst : ∀ k, Hid (cntB b (k + 1) = cntB b k + (if b (k + 1) then 1 else 0)) := fun k => rfl
  have hH := Lib.hid hH
  go_enter Try.func27, Try.ntmps27
  go_wp2
  go_loop [5, 6] (fun n k => ∃ j : Nat, j ≤ 6 ∧ k = .int .i64 ((j : Int) + 1) ∧ n = .int .i64 (cntB b j : Nat)) (fun _ k => 7 - (intOf k).toNat)
  case atStart => exact ⟨0, Nat.zero_le _, rfl, rfl⟩
  case round =>
    obtain ⟨j, hj, rfl, rfl⟩ := hrel
    have hl := hle j
    have hs := hst j
    have hc := hH.out (j + 1)
    rw [show (((j + 1 : Nat)) : Int) = (j : Int) + 1 by omega] at hc
    have hc := Lib.hid hc
    clear hle hst hH
    by_cases hlt : j < 6
    · generalize cntB b j = a at *
      cases hv : b (j + 1) with
      | true =>
        rw [hv] at hs hc
        go_wp2_with (go_at_call 18; (with_reducible refine hc.out.mono ?_); rintro e w1 ⟨rfl, rfl⟩)
        go_round
        case rel => exact ⟨j + 1, by omega, by go_num, by rw [hs.out]; go_num⟩
        case measure => simp [intOf]; omega
      | false =>
        rw [hv] at hs hc
        go_wp2_with (go_at_call 18; (with_reducible refine hc.out.mono ?_); rintro e w1 ⟨rfl, rfl⟩)
        go_round
        case rel => exact ⟨j + 1, by omega, by go_num, by rw [hs.out]; go_num⟩
        case measure => simp [intOf]; omega
    · obtain rfl : j = 6 := by omega
      go_wp2
      go_ret
      exact ⟨by rw [← hfin.out]; rfl, rfl⟩
theorem rolen_any (q g m : Nat) (cs : List Nat) (w : World) (h : OR w q g m cs) (hlt : ∀ x ∈ cs, x < 128 ∧ x % 2 = 0) : Calls Try.prog 16 #[.pointer (some ⟨q, 0, none⟩)] w fun e w' => e = .returned (.int .i64 (lenC cs)) ∧ w' = w := by
  have hlen := h.len
  have hM : ∀ k (hk : k < cs.length), Calls Try.prog 27 #[.pointer (some ⟨q, 0, none⟩), .int .i64 (k : Nat)] w fun e w' => e = .returned (.int .i64 (Lib.onesCount cs[k])) ∧ w' = w := fun k hk => by
    have e : manyC m cs k = Lib.onesCount cs[k] := by
      rw [manyC_eq m cs k hlt hlen]
      unfold dropN
      rw [if_pos ⟨by omega, by omega⟩, Int.toNat_natCast, getD_at hk]
    rw [← e]
    exact romany_any q g m cs k w h
  have hc0 := h.c0
  have h24 := h.h24
  have hl256 : ∀ x ∈ cs, x < 256 := fun x hx => by have := (hlt x hx).1; omega
  have hn := Lib.hid hlen
  clear hlen h
  have hM := Lib.hid hM
  go_enter Try.func16, Try.ntmps16
  go_wp2
  go_loop [3, 4] (fun t i => ∃ k : Nat, k ≤ m ∧ i = .int .i64 k ∧ t = .int .i64 (lenC (cs.take k) : Nat)) (fun _ i => m - (intOf i).toNat)
  case atStart => exact ⟨0, Nat.zero_le _, rfl, rfl⟩
  case round =>
    obtain ⟨k, hk, rfl, rfl⟩ := hrel
    have hle := lenC_le cs k (by have := hn.out; omega) hl256
    by_cases hkn : k < m
    · have hk1 : k < cs.length := by have := hn.out; omega
      have hbk : cs[k] < 256 := hl256 _ (List.getElem_mem hk1)
      have hss := Lib.hid (lenC_snoc cs k hk1)
      have hc := Lib.hid (hM.out k hk1)
      have hon := onesC_le cs[k] hbk
      generalize lenC (cs.take k) = a at *
      generalize Lib.onesCount (cs[k]'hk1) = c at *
      clear hlt hl256 hM
      go_wp2_with (go_at_call 27; (with_reducible refine hc.out.mono ?_); rintro e w1 ⟨rfl, rfl⟩)
      go_round
      case rel => exact ⟨k + 1, by omega, by go_num, by rw [hss.out]; go_num⟩
      case measure => simp [intOf]; omega
    · obtain rfl : k = m := by omega
      have ht : Hid (cs.take k = cs) := List.take_of_length_le (by have := hn.out; omega)
      go_wp2
      go_ret
      exact ⟨by rw [ht.out]; rfl, rfl⟩
theorem mk_els {P : Program} (t e : TypeId) (z : Value) (bytes size : Nat) (x : Value) (ht : P.underlying t = some (.slice e)) (hinfo : (P.info? e).map (fun i => (i.zero, i.size, i.bytes)) = some (some z, size, bytes)) (hz1 : z.cells = Array.replicate size x)
    (n : Nat) (k : Int) (hk : k = n) (hbytes : bytes * n ≤ 281474976710656) (h63 : n ≤ 9223372036854775807) (w : World) :
    (Instr.makeSlice t (.int .i64 k) (.int .i64 k)).run P w = .ok (.slice (some ⟨w.heap.size, 0, none⟩) n n) (w.alloc (.cells (madeCells (Array.replicate size x) (n * size)) e)) := by
  subst hk
  obtain ⟨i, hi, hzz⟩ := Option.map_eq_some_iff.1 hinfo
  simp only [Prod.mk.injEq] at hzz
  obtain ⟨hz, hs, hb⟩ := hzz
  have hb' : (i.bytes : Int) * (n : Int) ≤ 281474976710656 := by
    have h : ((i.bytes * n : Nat) : Int) ≤ 281474976710656 := by rw [hb]; omega
    rwa [Int.natCast_mul] at h
  have h := run_make (P := P) w t e i z ht hi hz .i64 .i64 (n : Int) (n : Int) (by omega) (by omega) hb' (by omega)
  rw [hz1, hs] at h
  simpa using h
theorem els_cell (w : World) (e : TypeId) (x : Value) (size n j : Nat) (h0 : 0 < size) (hj : j < n) : (w.alloc (.cells (madeCells (Array.replicate size x) n) e)).cell? ⟨w.heap.size, j, none⟩ = some x := by
  have h1 := heap_alloc_new w (.cells (madeCells (Array.replicate size x) n) e)
  rw [cell_of_row _ w.heap.size j (madeCells (Array.replicate size x) n) e (0, 0) h1]
  have : j % size < size := Nat.mod_lt _ h0
  simp [madeCells, hj, this]
theorem els_free (w : World) (e : TypeId) (z : Array Value) (n j : Nat) : (w.alloc (.cells (madeCells z n) e)).frozen? ⟨w.heap.size, j, none⟩ = false :=
  frozen_of_row _ w.heap.size j (madeCells z n) e (heap_alloc_new w _)
def RNew (w : World) (many : Int) (e : Ending) (w' : World) : Prop := ∃ q g, e = .returned (.pointer (some ⟨q, 0, none⟩)) ∧ OR w' q g (nS (min many 24)) (List.replicate (nS (min many 24)) 0) ∧ w.heap.size ≤ q ∧ w.heap.size ≤ g ∧ Below w.heap.size w w' ∧ q < w'.heap.size ∧ g < w'.heap.size
theorem ronew_any (many : Int) (w : World) : Calls Try.prog 10 #[.int .i64 many] w (RNew w many) := by
  have h24 : nS (min many 24) ≤ 24 := by unfold nS; omega
  have hX : ∀ n, nS (min many 24) = n → RNew w many (.returned (.pointer (some ⟨w.heap.size + 1, 0, none⟩))) ((w.alloc (.cells (madeCells (Array.replicate 6 (.bool false)) (n * 6)) 55)).alloc (.cells #[.slice (some ⟨w.heap.size, 0, none⟩) n n] 54)) := by
    rintro n rfl
    unfold RNew
    generalize nS (min many 24) = n at *
    have hA1 : Below w.heap.size w (w.alloc (.cells (madeCells (Array.replicate 6 (.bool false)) (n * 6)) 55)) := (Below.refl _ _).alloc (Nat.le_refl _) _
    generalize hW : w.alloc (.cells (madeCells (Array.replicate 6 (.bool false)) (n * 6)) 55) = W at *
    have hz : W.heap.size = w.heap.size + 1 := by rw [← hW]; simp
    have hA2 : Below W.heap.size W (W.alloc (.cells #[.slice (some ⟨w.heap.size, 0, none⟩) n n] 54)) := (Below.refl _ _).alloc (Nat.le_refl _) _
    have hc : ∀ j, j < n * 6 → W.cell? ⟨w.heap.size, j, none⟩ = some (.bool false) := fun j hj => by rw [← hW]; exact els_cell w 55 _ 6 _ j (by omega) hj
    have hfz : ∀ j, W.frozen? ⟨w.heap.size, j, none⟩ = false := fun j => by rw [← hW]; exact els_free w 55 _ _ j
    refine ⟨w.heap.size + 1, w.heap.size, rfl, ⟨by rw [← hz]; simp [go_sem], fun x r hx hr => ?_, fun x r hx hr => bfree hA2 (hc _ (by omega)) (hfz _), by simp, h24, by omega⟩, by omega, by omega, hA1.trans (hA2.mono (by omega)), by simp; omega, by simp; omega⟩
    have := bkeep hA2 (hc (x * 6 + r) (by omega))
    rw [this]
    simp [hx]
  have hmk := mk_els (P := Try.prog) 52 55 (.agg (Array.replicate 6 (.bool false))) 6 6 (.bool false) Try.underlying52 (by kernel_rfl) (by kernel_rfl) (nS (min many 24)) (nS (min many 24) : Nat) (by omega) (by omega) (by omega)
  have hX := Lib.hid (hX _ rfl)
  generalize RNew w many = Pst at *
  have e1 : min (max many 0) 24 = (nS (min many 24) : Int) := by unfold nS; omega
  generalize nS (min many 24) = n at *
  go_enter Try.func10, Try.ntmps10
  go_wp2
  all_goals rfl
end Go.Proofs.Ytdaobfhkdbaklaa
