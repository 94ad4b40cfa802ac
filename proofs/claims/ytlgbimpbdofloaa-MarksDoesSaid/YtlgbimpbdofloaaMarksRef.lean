/-
  The reference's set: made, all its numbers.
-/
import Derived.Test.YtlgbimpbdofloaaMarksLaw
namespace Go.Proofs.Ytlgbimpbdofloaa
open Go.RowKit
set_option linter.unusedVariables false
set_option linter.unusedSimpArgs false

structure RM (w : World) (q g cap : Nat) (bl : List Bool) : Prop where
  c0 : w.cell? ⟨q, 0, none⟩ = some (.slice (some ⟨g, 0, none⟩) bl.length cap)
  f0 : w.frozen? ⟨q, 0, none⟩ = false
  b : ∀ j (h : j < bl.length), w.cell? ⟨g, j, none⟩ = some (.bool bl[j])
  f : ∀ j, j < bl.length → w.frozen? ⟨g, j, none⟩ = false
  ne : q ≠ g
  hm : bl.length ≤ 1000
  hc : bl.length ≤ cap
  hg : g < w.heap.size
theorem RM.frm {S : Nat → Prop} {w w' : World} {q g cap : Nat} {bl : List Bool} (h : RM w q g cap bl) (hf : Frm S w w') (h1 : ¬ S q) (h2 : ¬ S g) : RM w' q g cap bl :=
  ⟨hf.cell h1 h.c0, (hf.frozen h1 (World.block_lt_of_cell? w _ h.c0)).trans h.f0, fun j hj => hf.cell (p := ⟨g, j, none⟩) h2 (h.b j hj), fun j hj => (hf.frozen (p := ⟨g, j, none⟩) h2 (World.block_lt_of_cell? w _ (h.b j hj))).trans (h.f j hj), h.ne, h.hm, h.hc, Nat.lt_of_lt_of_le h.hg hf.size⟩
theorem RM.below {w w' : World} {q g cap : Nat} {bl : List Bool} (h : RM w q g cap bl) (hb : Below w.heap.size w w') : RM w' q g cap bl := h.frm (S := fun _ => False) (.ofBelow hb) id id
theorem RM.lt {w : World} {q g cap : Nat} {bl : List Bool} (h : RM w q g cap bl) : q < w.heap.size := World.block_lt_of_cell? w _ h.c0
def nones (many : Int) : List Bool := List.replicate (nS many) false
def RNewM (w : World) (many : Int) (e : Ending) (w' : World) : Prop := ∃ q g, e = .returned (.pointer (some ⟨q, 0, none⟩)) ∧ RM w' q g (nS many) (nones many) ∧ w.heap.size ≤ q ∧ w.heap.size ≤ g ∧ Below w.heap.size w w'
theorem rnewm_post (w : World) (many : Int) (n : Nat) (hn : n = nS many) :
    RNewM w many (.returned (.pointer (some ⟨w.heap.size + 1, 0, none⟩))) ((w.alloc (.cells (madeCells #[.bool false] n) 4)).alloc (.cells #[.slice (some ⟨w.heap.size, 0, none⟩) n n] 41)) := by
  have hl : (nones many).length = n := by simp [nones, hn]
  have hA : Below (w.alloc (.cells (madeCells #[.bool false] n) 4)).heap.size (w.alloc (.cells (madeCells #[.bool false] n) 4)) ((w.alloc (.cells (madeCells #[.bool false] n) 4)).alloc (.cells #[.slice (some ⟨w.heap.size, 0, none⟩) n n] 41)) := (Below.refl _ _).alloc (Nat.le_refl _) _
  refine ⟨w.heap.size + 1, w.heap.size, rfl, ⟨by rw [hl, ← hn]; simp [go_sem], by simp [go_sem], ?_, ?_, by omega, by rw [hl, hn]; unfold nS; omega, by rw [hl, hn]; exact Nat.le_refl _, by simp; omega⟩, by omega, by omega, ((Below.refl _ w).alloc (Nat.le_refl _) _).alloc (by simp) _⟩
  · intro j hj
    have e : (nones many)[j] = false := by simp [nones]
    rw [e]
    exact bkeep hA (made_cell w 4 (.bool false) n j (by omega))
  · intro j hj
    exact bfree hA (made_cell w 4 (.bool false) n j (by omega)) (made_free _ _ _ _ _)
theorem rnew_any (many : Int) (w : World) (hm : -9223372036854775808 ≤ many ∧ many ≤ 9223372036854775807) : Calls Try.prog 17 #[.int .i64 many] w (RNewM w many) := by
  have hnS : nS many ≤ 1000 := by unfold nS; omega
  have hmk := mk_full (P := Try.prog) 39 4 (.bool false) 1 Try.underlying39 (by kernel_rfl) rfl (nS many) (min (max many 0) 1000) (by unfold nS; omega) (by omega) (by omega)
  have hp := rnewm_post w many (nS many) rfl
  go_enter Try.func17, Try.ntmps17
  go_wp2
  go_ret
  exact hp
/-- the numbers below k that are marked -/
def selB (bl : List Bool) (k : Nat) : List Int := ((List.range k).filter fun i => bl.getD i false).map fun (i : Nat) => (i : Int)
theorem selB_succ (bl : List Bool) (k : Nat) : selB bl (k + 1) = if bl.getD k false then selB bl k ++ [(k : Int)] else selB bl k := by
  unfold selB
  rw [List.range_succ, List.filter_append, List.map_append]
  cases h : bl.getD k false <;> simp [List.filter_cons, -List.getD_eq_getElem?_getD, h]
theorem selB_len (bl : List Bool) (k : Nat) : (selB bl k).length ≤ k := by
  unfold selB
  rw [List.length_map]
  exact Nat.le_trans (List.length_filter_le _ _) (by simp)
theorem selB_sel (bl : List Bool) (bs : List Nat) (k : Nat) (h : ∀ i, i < k → bl.getD i false = bit bs i) : selB bl k = sel bs k := by
  induction k with
  | zero => rfl
  | succ k ih => rw [selB_succ, sel_succ, h k (by omega), ih fun i hi => h i (by omega)]
theorem getB_at {l : List Bool} {k : Nat} (h : k < l.length) : l.getD k false = l[k] := by rw [List.getD_eq_getElem?_getD, List.getElem?_eq_getElem h]; rfl
def AllR (N : Nat) (w : World) (bl : List Bool) (v i : Value) (wr : World) : Prop := ∃ k : Nat, k ≤ bl.length ∧ i = .int .i64 k ∧ Ints wr N v (selB bl k) ∧ Below N w wr
set_option maxHeartbeats 1600000 in
theorem rall_any (q g cap : Nat) (bl : List Bool) (w : World) (h : RM w q g cap bl) : Calls Try.prog 15 #[.pointer (some ⟨q, 0, none⟩)] w fun e w' => (∃ v, e = .returned v ∧ Ints w' w.heap.size v (selB bl bl.length)) ∧ Below w.heap.size w w' := by
  have hm := h.hm
  obtain ⟨n, hn⟩ : ∃ n, bl.length = n := ⟨_, rfl⟩
  obtain ⟨N, hN⟩ : ∃ N, w.heap.size = N := ⟨_, rfl⟩
  have h0 : AllR N w bl (.slice none 0 0) (.int .i64 0) w := ⟨0, Nat.zero_le _, rfl, Lst.nil _ _ _ _, hN ▸ Below.refl _ _⟩
  rw [hN]
  rw [hn] at hm
  have hn' := Lib.hid hn
  have hN' := Lib.hid hN
  clear hn hN
  go_enter Try.func15, Try.ntmps15
  go_wp2
  go_loopw [3, 4] (fun v i wr => AllR N w bl v i wr) (fun _ i _ => n - (intOf i).toNat)
  case atStart => exact h0
  case round =>
    obtain ⟨k, hk, rfl, hI, hbW⟩ := hrel
    have hR := h.below (hN'.out ▸ hbW)
    have hc0 := hR.c0
    rw [hn'.out] at hc0 hk
    have hNw : N ≤ wr.heap.size := by have := hbW.size; have := hN'.out; omega
    by_cases hlt : k < n
    · have hk1 : k < bl.length := by have := hn'.out; omega
      have hcell := hR.b k hk1
      have hgd := getB_at hk1
      have hss := selB_succ bl k
      have hsl := selB_len bl k
      rw [hgd] at hss
      generalize bl[k] = c at *
      have hlen : (selB bl k).length + 1 ≤ 1099511627776 := by omega
      cases c with
      | false =>
        have hss := Lib.hid hss
        clear hgd
        go_wp2_with fail
        exact ⟨⟨k + 1, by rw [hn'.out]; omega, by go_num, by rw [hss.out]; exact hI, hbW⟩, by simp [intOf]; omega⟩
      | true =>
        have hss := Lib.hid hss
        have hI' := Lib.hid hI
        clear hgd hI
        go_wp2_with (at_builtin; refine app1 (E := iv) rfl (.tmp 21) (.tmp 23) 22 rfl (.int .i64 0) 8 Try.underlying22 int_info rfl (by decide) wr N _ (selB bl k) k rfl rfl rfl hI'.out hlen hNw ?_; intro v' w1 hl1 hf1 hst1)
        refine ⟨⟨k + 1, by rw [hn'.out]; omega, by go_num, by rw [hss.out]; exact hl1, ?_⟩, by simp [intOf]; omega⟩
        have := hN'.out
        subst this
        exact below_frm hbW hf1 fun j hj => (World.ownsRow.lt hI'.out j hj.symm).1
    · obtain rfl : k = n := by omega
      go_wp2_with fail
      go_ret
      exact ⟨⟨_, rfl, by rw [hn'.out]; exact hI⟩, hbW⟩
end Go.Proofs.Ytlgbimpbdofloaa
