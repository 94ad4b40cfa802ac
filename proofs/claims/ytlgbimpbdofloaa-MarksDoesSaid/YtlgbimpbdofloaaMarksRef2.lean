/-
  The reference's set: read from bytes.
-/
import Derived.Test.YtlgbimpbdofloaaMarksRef
namespace Go.Proofs.Ytlgbimpbdofloaa
open Go.RowKit
set_option linter.unusedVariables false
set_option linter.unusedSimpArgs false

theorem RM.set {w : World} {q g cap : Nat} {bl : List Bool} (h : RM w q g cap bl) (k : Nat) (hk : k < bl.length) (c : Bool) : RM (w.setCell ⟨g, k, none⟩ (.bool c)) q g cap (bl.set k c) := by
  have hf := Frm.one w g k (.bool c)
  refine ⟨by rw [List.length_set]; exact hf.cell (p := ⟨q, 0, none⟩) h.ne h.c0, (World.frozen?_setCell _ _ _ _).trans h.f0, ?_, ?_, h.ne, by rw [List.length_set]; exact h.hm, by rw [List.length_set]; exact h.hc, Nat.lt_of_lt_of_le h.hg hf.size⟩
  · intro j hj
    rw [List.length_set] at hj
    by_cases e : k = j
    · subst e
      rw [List.getElem_set_self]
      exact cell_same (h.b k hj)
    · rw [List.getElem_set_ne e]
      exact cell_off (h.b j hj) e
  · intro j hj
    rw [List.length_set] at hj
    exact (World.frozen?_setCell _ _ _ _).trans (h.f j hj)
/-- what is marked when k bits are over -/
def bmap (n k : Nat) (bs : List Nat) : List Bool := (List.range n).map fun i => decide (i < k) && bit bs i
theorem bmap_len (n k : Nat) (bs : List Nat) : (bmap n k bs).length = n := by simp [bmap]
theorem bmap_zero (n : Nat) (bs : List Nat) : bmap n 0 bs = List.replicate n false := by
  apply List.ext_getElem
  · simp [bmap]
  · intro i h1 h2; simp [bmap]
theorem bmap_no (n k : Nat) (bs : List Nat) (h : bit bs k = false ∨ n ≤ k) : bmap n (k + 1) bs = bmap n k bs := by
  unfold bmap
  apply List.map_congr_left
  intro i hi
  have hi := List.mem_range.1 hi
  by_cases e : i = k
  · subst e
    rcases h with h | h
    · rw [h]; simp
    · omega
  · congr 1
    rw [Bool.eq_iff_iff]; simp; omega
theorem bmap_set (n k : Nat) (bs : List Nat) (hk : k < n) (h : bit bs k = true) : (bmap n k bs).set k true = bmap n (k + 1) bs := by
  apply List.ext_getElem
  · simp [bmap]
  · intro i h1 h2
    have hin : i < n := by simpa [bmap] using h2
    by_cases e : k = i
    · subst e
      rw [List.getElem_set_self]
      simp [bmap, h]
    · rw [List.getElem_set_ne e]
      simp only [bmap, List.getElem_map, List.getElem_range]
      congr 1
      rw [Bool.eq_iff_iff]; simp; omega
theorem bmap_get (n k : Nat) (bs : List Nat) (i : Nat) (hi : i < n) (hk : n ≤ k) : (bmap n k bs).getD i false = bit bs i := by
  rw [getB_at (by rw [bmap_len]; exact hi)]
  simp [bmap]
  intro; omega
def RRdP (w : World) (many : Int) (t : ByteArray) (e : Ending) (w' : World) : Prop :=
  (rdE many t ≠ 0 ∧ e = .returned (.tuple #[.pointer none, .int .i64 (rdE many t)]) ∧ Below w.heap.size w w') ∨
  (rdE many t = 0 ∧ ∃ q g cap k, e = .returned (.tuple #[.pointer (some ⟨q, 0, none⟩), .int .i64 0]) ∧ RM w' q g cap (bmap (nS many) k (sb t)) ∧ nS many ≤ k ∧ Below w.heap.size w w')
theorem sb_get (t : ByteArray) (k : Nat) (h : k < t.size) : (sb t).getD k 0 = t[k].toNat := by
  rw [getD_at (by rw [sb_len]; exact h)]
  simp [sb]
  rfl
theorem bits_and2 (c q : Nat) (hc : c < 256) (hq : q < 8) : (bits .and .u8 (c : Int) (2 ^ q % 256) == 0) = !(c.testBit q) := by
  have h : ∀ c : Fin 256, ∀ q : Fin 8, (bits .and .u8 ((c.val : Nat) : Int) (2 ^ q.val % 256) == 0) = !(c.val.testBit q.val) := by decide +kernel
  exact h ⟨c, hc⟩ ⟨q, hq⟩
def RdR (N : Nat) (w : World) (t : ByteArray) (q g n m : Nat) (i : Value) (wr : World) : Prop := ∃ k : Nat, k ≤ m ∧ i = .int .i64 k ∧ RM wr q g n (bmap n k (sb t)) ∧ (∀ j, j < k → n ≤ j → bit (sb t) j = false) ∧ Below N w wr
set_option maxHeartbeats 3200000 in
theorem rread_any (many : Int) (t : ByteArray) (w : World) (hm : -9223372036854775808 ≤ many ∧ many ≤ 9223372036854775807) (ht : t.size ≤ 140737488355328) : Calls Try.prog 14 #[.int .i64 many, .string t] w (RRdP w many t) := by
  have hN := Lib.hid (rnew_any many w hm)
  have hnS : nS many ≤ 1000 := by unfold nS; omega
  have hzl : (nones many).length = nS many := by simp [nones]
  clear hm
  obtain ⟨n, hn⟩ : ∃ n, nS many = n := ⟨_, rfl⟩
  have hq0 : ((n : Int) + 7) / 8 = (((n + 7) / 8 : Nat) : Int) := by omega
  by_cases h1 : t.size < (n + 7) / 8
  · have he : Hid (rdE many t = 1) := by show _ = _; unfold rdE; rw [hn, if_pos h1]
    have hd : decide ((t.size : Int) < ((n : Int) + 7) / 8) = true := decide_eq_true (by omega)
    have hzl := Lib.hid (hzl.trans hn)
    rw [hn] at hnS
    clear hn hq0
    go_enter Try.func14, Try.ntmps14
    go_wp2_with (go_at_call 17; (with_reducible refine hN.out.mono ?_); rintro e w1 ⟨q, g, rfl, hR, hq, hg, hb⟩; have hc0 := hR.c0; rw [hzl.out] at hc0)
    go_ret2
    exact .inl ⟨by rw [he.out]; decide, by rw [he.out]; rfl, hb⟩
  by_cases h2 : (n + 7) / 8 < t.size
  · have he : Hid (rdE many t = 2) := by show _ = _; unfold rdE; rw [hn, if_neg h1, if_pos h2]
    have hd : decide ((t.size : Int) < ((n : Int) + 7) / 8) = false := decide_eq_false (by omega)
    have hd2 : decide (((n : Int) + 7) / 8 < (t.size : Int)) = true := decide_eq_true (by omega)
    have hzl := Lib.hid (hzl.trans hn)
    rw [hn] at hnS
    clear hn hq0
    go_enter Try.func14, Try.ntmps14
    go_wp2_with (go_at_call 17; (with_reducible refine hN.out.mono ?_); rintro e w1 ⟨q, g, rfl, hR, hq, hg, hb⟩; have hc0 := hR.c0; rw [hzl.out] at hc0)
    go_ret2
    exact .inl ⟨by rw [he.out]; decide, by rw [he.out]; rfl, hb⟩
  have hsz : t.size = (n + 7) / 8 := by omega
  have hd : decide ((t.size : Int) < ((n : Int) + 7) / 8) = false := decide_eq_false (by omega)
  have hd2 : decide (((n : Int) + 7) / 8 < (t.size : Int)) = false := decide_eq_false (by omega)
  have he : Hid (rdE many t = if badB n (sb t) then 4 else 0) := by show _ = _; unfold rdE; rw [hn, if_neg h1, if_neg h2]
  have hbi := Lib.hid (bad_iff n (sb t) (by rw [sb_len]; exact hsz) (sb_lt t))
  have hzl := Lib.hid (hzl.trans hn)
  rw [hn] at hnS
  have hnz : Hid (nones many = bmap n 0 (sb t)) := by show _ = _; rw [bmap_zero, ← hn]; rfl
  have hn' := Lib.hid hn
  have hsz' := Lib.hid hsz
  clear hn hsz h1 h2 hq0
  go_enter Try.func14, Try.ntmps14
  go_wp2_with (go_at_call 17; (with_reducible refine hN.out.mono ?_); rintro e w1 ⟨q, g, rfl, hR, hq, hg, hb⟩; have hc0 := hR.c0; rw [hzl.out] at hc0)
  rw [hnz.out, hn'.out] at hR
  obtain ⟨N, hNw⟩ : ∃ N, w.heap.size = N := ⟨_, rfl⟩
  have h0 : RdR N w t q g n (8 * ((n + 7) / 8)) (.int .i64 0) w1 := ⟨0, Nat.zero_le _, rfl, hR, fun j hj => by omega, hNw ▸ hb⟩
  rw [hNw] at hg hq
  have hNw := Lib.hid hNw
  clear hR hb hc0
  go_loopw [8] (fun i wr => RdR N w t q g n (8 * ((n + 7) / 8)) i wr) (fun i _ => 8 * ((n + 7) / 8) - (intOf i).toNat)
  case atStart => exact h0
  case round =>
    obtain ⟨k, hk, rfl, hR, hno, hbW⟩ := hrel
    have hc0 := hR.c0
    rw [bmap_len] at hc0
    by_cases hlt : k < 8 * ((n + 7) / 8)
    · have hkt : k / 8 < t.size := by have := hsz'.out; omega
      have hbitk : bit (sb t) k = (t[k / 8].toNat).testBit (k % 8) := by unfold bit; rw [sb_get t _ hkt]
      have hc8 : t[k / 8].toNat < 256 := (t[k / 8]).toNat_lt
      have e1 : IntKind.i64.wrap ((k : Int) / 8) = ((k / 8 : Nat) : Int) := by rw [IntWalk.i64_in _ (by omega)]; omega
      obtain ⟨m, hm⟩ : ∃ m, k / 8 = m := ⟨_, rfl⟩
      simp only [hm] at e1 hbitk hc8 hkt
      have hm := Lib.hid hm
      have hd8 : decide ((k : Int) < 8 * (((n : Int) + 7) / 8)) = true := decide_eq_true (by omega)
      have hk9 : k < 9000 := by omega
      have hbb := bits_and2 t[m].toNat (k % 8) hc8 (Nat.mod_lt _ (by decide))
      rw [← hbitk] at hbb
      clear hbitk hc8
      cases hbt : bit (sb t) k with
      | false =>
        rw [hbt] at hbb
        have hbm := Lib.hid (bmap_no n k (sb t) (.inl hbt))
        have hno2 : Hid (∀ j, j < k + 1 → n ≤ j → bit (sb t) j = false) := by
          intro j hj hn
          by_cases e : j = k
          · rw [e]; exact hbt
          · exact hno j (by omega) hn
        clear hbt hno
        simp only [Bool.not_false] at hbb
        go_wp2_with fail
        go_quiet (fail)
        clear e1
        go_wp2_with fail
        exact ⟨⟨k + 1, by omega, by go_num, by rw [hbm.out]; exact hR.below (bdraws0 _ _), hno2.out, bdraws hbW _⟩, by simp [intOf]; omega⟩
      | true =>
        rw [hbt] at hbb
        simp only [Bool.not_true] at hbb
        by_cases hkn : n ≤ k
        · have h4 : Hid (rdE many t = 4) := by
            show _ = _
            rw [he.out]
            cases hb : badB n (sb t) with
            | true => rfl
            | false => rw [hbi.out.1 hb k hkn] at hbt; cases hbt
          clear hbt hno
          go_wp2_with fail
          go_quiet (fail)
          clear e1
          go_wp2_with fail
          go_ret2
          exact .inl ⟨by rw [h4.out]; decide, by rw [h4.out]; rfl, hNw.out ▸ bdraws hbW _⟩
        · have hkl : k < (bmap n k (sb t)).length := by rw [bmap_len]; omega
          have hcell := hR.b k hkl
          have hfree := hR.f k hkl
          have hbm := Lib.hid (bmap_set n k (sb t) (by omega) hbt)
          have hno2 : Hid (∀ j, j < k + 1 → n ≤ j → bit (sb t) j = false) := by
            intro j hj hn
            exact hno j (by omega) hn
          generalize (bmap n k (sb t))[k] = old at hcell
          have hkl := Lib.hid hkl
          clear hbt hno
          go_wp2_with fail
          go_quiet (fail)
          clear e1
          go_wp2_with fail
          refine ⟨⟨k + 1, by omega, by go_num, by rw [← hbm.out]; exact (hR.below (bdraws0 _ _)).set k hkl.out true, hno2.out, ?_⟩, by simp [intOf]; omega⟩
          exact (bdraws hbW _).setCell hg _
    · obtain rfl : k = 8 * ((n + 7) / 8) := by omega
      have h0 : Hid (rdE many t = 0) := by
        show _ = _
        rw [he.out, (hbi.out).2 (fun i hi => by
          by_cases h : i < 8 * ((n + 7) / 8)
          · exact hno i h hi
          · unfold bit
            rw [List.getD_eq_getElem?_getD, List.getElem?_eq_none (by rw [sb_len, hsz'.out]; omega)]; simp)]
        rfl
      have hd8 : decide (((8 * ((n + 7) / 8) : Nat) : Int) < 8 * (((n : Int) + 7) / 8)) = false := decide_eq_false (by omega)
      obtain ⟨k, hk2⟩ : ∃ k, 8 * ((n + 7) / 8) = k := ⟨_, rfl⟩
      rw [hk2] at hd8 hR ⊢
      have hnk : n ≤ k := by omega
      have hd9 : ¬ ((k : Int) < 8 * (((n : Int) + 7) / 8)) := of_decide_eq_false hd8
      clear hk2 hno hk hlt
      go_wp2_with fail
      go_ret2
      exact .inr ⟨h0.out, q, g, n, k, rfl, by rw [hn'.out]; exact hR, by rw [hn'.out]; exact hnk, hNw.out ▸ hbW⟩
end Go.Proofs.Ytlgbimpbdofloaa
