/-
  What an extent may have (chapter 36): the last bytes, what is written, what may be; a new history; one step.
-/
import Derived.Test.YtecfppglpallmaaModel2
import Derived.BigQuiet
namespace Go.Proofs.Ytecfppglpallmaa
open Go.RowKit
set_option linter.unusedVariables false
set_option linter.unusedSimpArgs false

theorem ba_beq (x y : ByteArray) : (x.toList == y.toList) = decide (x = y) := by
  by_cases h : x = y
  · subst h; simp
  · rw [decide_eq_false h]
    refine beq_eq_false_iff_ne.2 fun e => h ?_
    cases x; cases y
    rw [ByteArray.toList_eq, ByteArray.toList_eq] at e
    congr
    exact Array.toList_inj.1 e
set_option maxHeartbeats 800000 in
theorem last_in (B h R cap : Nat) (qs : List Pc) (i : Nat) (q : Pc) (l0 : List ByteArray) (x : ByteArray) (W : World) (H : HX W B h R cap qs) (hq : qs[i]? = some q) (hs : q.seen = true) (hl : q.l = l0 ++ [x]) (hm : qs.length ≤ 100000) (hll : l0.length ≤ 100000) :
    Calls Try.prog 10 #[.pointer (some ⟨h, 0, none⟩), .int .i64 i] W fun e w' => e = .returned (.tuple #[.string x, .bool true]) ∧ Below W.heap.size W w' := by
  have hi := (List.getElem?_eq_some_iff.1 hq).1
  have hof := of_in B h R cap qs i W H hi hm
  obtain ⟨e0, e1, _, _⟩ := H.cells hq
  obtain ⟨o, c, cur, hv, hh, _, _, _, hx⟩ := (H.txt i q hq).at_
  have hlen : q.l.length = l0.length + 1 := by rw [hl]; simp
  have hc := hx l0.length x (by rw [hl]; simp)
  have hcell : W.cell? ⟨q.g, o + l0.length, none⟩ = some (.string x) := (cell_of_row W q.g _ cur _ (0, 0) hh).trans hc
  rw [hv, hlen] at e0
  rw [hs] at e1
  obtain ⟨m, hmm⟩ : ∃ m, l0.length = m := ⟨_, rfl⟩
  rw [hmm] at e0 hcell hll
  have w1 : IntKind.i64.wrap ((m : Int) + 1 - 1) = (m : Int) := by rw [IntWalk.i64_in _ (by omega)]; omega
  have w1' : IntKind.i64.wrap (((m + 1 : Nat) : Int) - 1) = (m : Int) := by rw [IntWalk.i64_in _ (by omega)]; omega
  have k0 : (0 : Int) ≤ (m : Int) := by omega
  have k1 : (m : Int) < (m : Int) + 1 := by omega
  have k2 : (m : Int) < ((m + 1 : Nat) : Int) := by omega
  clear hv hh hx hc hl hlen hmm hs
  go_enter Try.func10, Try.ntmps10
  go_wp2_with (go_at_call 13; (with_reducible refine hof.mono ?_); rintro e w1 ⟨rfl, rfl⟩)
  go_quiet (fail)
  go_wp2
  go_ret2
  exact ⟨rfl, bdraws0 _ _⟩
theorem written_in (B h R cap : Nat) (qs : List Pc) (i : Nat) (q : Pc) (W : World) (H : HX W B h R cap qs) (hq : qs[i]? = some q) (hm : qs.length ≤ 100000) :
    Calls Try.prog 11 #[.pointer (some ⟨h, 0, none⟩), .int .i64 i] W fun e w' => e = .returned (.tuple #[.bool q.wr, .bool q.sure]) ∧ Below W.heap.size W w' := by
  have hi := (List.getElem?_eq_some_iff.1 hq).1
  have hof := of_in B h R cap qs i W H hi hm
  obtain ⟨_, _, e2, e3⟩ := H.cells hq
  go_enter Try.func11, Try.ntmps11
  go_wp2_with (go_at_call 13; (with_reducible refine hof.mono ?_); rintro e w1 ⟨rfl, rfl⟩)
  go_quiet (fail)
  go_wp2
  go_ret2
  exact ⟨rfl, bdraws0 _ _⟩
def idxS (d : ByteArray) : List ByteArray → Nat
  | [] => 0
  | x :: l => if d = x then 0 else idxS d l + 1
theorem idxS_le (d : ByteArray) : ∀ l, idxS d l ≤ l.length
  | [] => Nat.le_refl _
  | x :: l => by
    have := idxS_le d l
    unfold idxS; split
    · omega
    · simp; omega
theorem idxS_lt (d : ByteArray) : ∀ (l : List ByteArray) (j : Nat) (y : ByteArray), j < idxS d l → l[j]? = some y → d ≠ y
  | [], j, y, h, _ => absurd h (Nat.not_lt_zero _)
  | x :: l, j, y, h, hy => by
    unfold idxS at h
    split at h
    · omega
    · rename_i hx
      cases j with
      | zero => simp at hy; subst hy; exact hx
      | succ j => exact idxS_lt d l j y (by omega) (by simpa using hy)
theorem idxS_at (d : ByteArray) : ∀ (l : List ByteArray) (y : ByteArray), l[idxS d l]? = some y → d = y
  | [], y, h => by simp at h
  | x :: l, y, h => by
    unfold idxS at h
    split at h
    · rename_i hx; simp at h; subst h; exact hx
    · exact idxS_at d l y (by simpa using h)
def memB (d : ByteArray) (l : List ByteArray) : Bool := decide (idxS d l < l.length)
theorem memB_one (o d : ByteArray) : memB o [d] = decide (o = d) := by
  unfold memB idxS
  by_cases h : o = d
  · subst h; simp
  · rw [if_neg h]; simp [idxS, h]
set_option maxHeartbeats 1600000 in
theorem index_any (B : Nat) (q : Pc) (d : ByteArray) (W : World) (ht : TS W B q) (hl : q.l.length ≤ 100000) :
    Calls Try.prog 18 #[q.lv, .string d] W fun e w' => e = .returned (.int .i64 (if idxS d q.l < q.l.length then (idxS d q.l : Int) else -1)) ∧ Below W.heap.size W w' := by
  obtain ⟨o, c, cur, hv, hh, _, _, _, hx⟩ := ht.at_
  have hcl := Lib.hid (fun k x hk => (cell_of_row W q.g (o + k) cur 9 (0, 0) hh).trans (hx k x hk))
  have hle := idxS_le d q.l
  have hlt' := Lib.hid (idxS_lt d q.l)
  have hat := Lib.hid (idxS_at d q.l)
  obtain ⟨K, hK⟩ : ∃ K, idxS d q.l = K := ⟨_, rfl⟩
  rw [hK] at hle hlt' hat ⊢
  rw [hv]
  generalize q.l = l at *
  generalize q.g = g at *
  clear hK hv hh hx ht
  obtain ⟨R, hR⟩ : ∃ R : Int, (if K < l.length then (K : Int) else -1) = R := ⟨_, rfl⟩
  have hR1 := Lib.hid (fun h : K < l.length => hR.symm.trans (if_pos h))
  have hR2 := Lib.hid (fun h : ¬ K < l.length => hR.symm.trans (if_neg h))
  rw [hR]
  clear hR
  go_enter Try.func18, Try.ntmps18
  go_wp2
  go_loopw [8] (fun i wr => ∃ k : Nat, k ≤ K ∧ i = .int .i64 k ∧ Hid (Below W.heap.size W wr)) (fun i _ => l.length - (intOf i).toNat)
  case atStart => exact ⟨0, Nat.zero_le _, rfl, Below.refl _ _⟩
  case round =>
    obtain ⟨k, hk, rfl, hB⟩ := hrel
    by_cases hlt : k < l.length
    · have hd2 : decide ((k : Int) < (l.length : Int)) = true := decide_eq_true (by omega)
      obtain ⟨x, hx⟩ : ∃ y, l[k]? = some y := ⟨_, List.getElem?_eq_getElem hlt⟩
      have c1 := bkeep hB.out (hcl.out k x hx)
      have i1 : (0 : Int) ≤ (k : Int) := by omega
      have i2 : (k : Int) < (l.length : Int) := by omega
      have hb := ba_beq d x
      by_cases hkK : k < K
      · have hne := hlt'.out k x hkK hx
        rw [decide_eq_false hne] at hb
        clear hx hne
        go_wp2
        exact ⟨⟨k + 1, by omega, by go_num, hB⟩, by simp [intOf]; omega⟩
      · have hkk : k = K := by omega
        subst hkk
        have he := hat.out _ hx
        subst he
        have hRR := hR1.out hlt
        subst hRR
        clear hx hR2
        go_wp2
        go_ret
        exact ⟨rfl, hB.out⟩
    · have hd2 : decide ((k : Int) < (l.length : Int)) = false := decide_eq_false (by omega)
      have hRR := hR2.out (by omega)
      subst hRR
      go_wp2
      go_ret
      exact ⟨rfl, hB.out⟩
theorem contains_any (B : Nat) (q : Pc) (d : ByteArray) (W : World) (ht : TS W B q) (hl : q.l.length ≤ 100000) :
    Calls Try.prog 17 #[q.lv, .string d] W fun e w' => e = .returned (.bool (memB d q.l)) ∧ Below W.heap.size W w' := by
  have hx := index_any B q d W ht hl
  unfold memB
  by_cases h : idxS d q.l < q.l.length
  · rw [if_pos h] at hx
    rw [decide_eq_true h]
    have z : decide ((0 : Int) ≤ (idxS d q.l : Int)) = true := decide_eq_true (by omega)
    generalize idxS d q.l = K at *
    clear h
    go_enter Try.func17, Try.ntmps17
    go_wp2_with (go_at_call 18; (with_reducible refine hx.mono ?_); rintro e w1 ⟨rfl, hb⟩)
    go_ret
    exact ⟨rfl, hb⟩
  · rw [if_neg h] at hx
    rw [decide_eq_false h]
    clear h
    go_enter Try.func17, Try.ntmps17
    go_wp2_with (go_at_call 18; (with_reducible refine hx.mono ?_); rintro e w1 ⟨rfl, hb⟩)
    go_ret
    exact ⟨rfl, hb⟩
theorem may_in (B h R cap : Nat) (qs : List Pc) (i : Nat) (q : Pc) (d : ByteArray) (W : World) (H : HX W B h R cap qs) (hq : qs[i]? = some q) (hm : qs.length ≤ 100000) (hl : q.l.length ≤ 100000) :
    Calls Try.prog 12 #[.pointer (some ⟨h, 0, none⟩), .int .i64 i, .string d] W fun e w' => e = .returned (.bool (memB d q.l)) ∧ Below W.heap.size W w' := by
  have hi := (List.getElem?_eq_some_iff.1 hq).1
  have hof := of_in B h R cap qs i W H hi hm
  obtain ⟨e0, _, _, _⟩ := H.cells hq
  have hc := contains_any B q d W (H.txt i q hq) hl
  go_enter Try.func12, Try.ntmps12
  go_wp2_with (first | (go_at_call 13; (with_reducible refine hof.mono ?_); rintro e w1 ⟨rfl, rfl⟩) | (go_at_call 17; (with_reducible refine hc.mono ?_); rintro e w2 ⟨rfl, hb⟩))
  go_ret
  exact ⟨rfl, hb⟩
/-- a history of nothing -/
def HE (W : World) (h : Nat) : Prop := W.heap[h]? = some (.cells #[.slice none 0 0] 38 (0, 0))
theorem HE.c0 {W : World} {h : Nat} (H : HE W h) : W.cell? ⟨h, 0, none⟩ = some (.slice none 0 0) := by rw [cell_of_row W h 0 _ _ _ H]; rfl
theorem HE.below {W W' : World} {h : Nat} (H : HE W h) (hb : Below W.heap.size W W') : HE W' h := (hb.block h (Array.getElem?_eq_some_iff.1 H).1).trans H
theorem of_e (h : Nat) (e : Int) (W : World) (H : HE W h) : Calls Try.prog 13 #[.pointer (some ⟨h, 0, none⟩), .int .i64 e] W fun r w' => r = .returned (.pointer none) ∧ w' = W := by
  have c0 := H.c0
  by_cases h0 : e < 0
  · have h1 : decide (e < 0) = true := decide_eq_true h0
    go_enter Try.func13, Try.ntmps13
    go_wp2
    go_ret
    exact ⟨rfl, rfl⟩
  · have h1 : decide (e < 0) = false := decide_eq_false h0
    have h2 : decide ((0 : Int) ≤ e) = true := decide_eq_true (by omega)
    go_enter Try.func13, Try.ntmps13
    go_wp2
    go_ret
    exact ⟨rfl, rfl⟩
theorem wrote_e (h : Nat) (i : Int) (d : ByteArray) (W : World) (H : HE W h) : Calls Try.prog 7 #[.pointer (some ⟨h, 0, none⟩), .int .i64 i, .string d] W fun e w' => e = .returned (.bool false) ∧ w' = W := by
  have hof := of_e h i W H
  go_enter Try.func7, Try.ntmps7
  go_wp2_with (first | (go_at_call 13; (with_reducible refine hof.mono ?_); rintro e w1 ⟨rfl, rfl⟩))
  go_ret
  exact ⟨rfl, rfl⟩
theorem flushed_e (h : Nat) (W : World) (H : HE W h) : Calls Try.prog 8 #[.pointer (some ⟨h, 0, none⟩)] W fun e w' => e = .returned (.tuple #[]) ∧ Below W.heap.size W w' := by
  have c0 := H.c0
  have he : Calls Try.prog 14 #[.pointer (some ⟨h, 0, none⟩), .func (.func 15) #[] #[]] W fun e w' => e = .returned (.tuple #[]) ∧ Below W.heap.size W w' := by
    go_enter Try.func14, Try.ntmps14
    go_wp2
    go_loopw [12] (fun i wr => i = .int .i64 0 ∧ Hid (Below W.heap.size W wr)) (fun i _ => 0)
    case atStart => exact ⟨rfl, Below.refl _ _⟩
    case round =>
      obtain ⟨rfl, hB⟩ := hrel
      go_wp2
      go_end0
      exact ⟨rfl, hB.out⟩
  go_enter Try.func8, Try.ntmps8
  go_wp2_with (go_at_call 14; (with_reducible refine he.mono ?_); rintro e w3 ⟨rfl, hx⟩)
  go_end0
  exact ⟨rfl, hx⟩
theorem lost_e (h : Nat) (W : World) (H : HE W h) : Calls Try.prog 9 #[.pointer (some ⟨h, 0, none⟩)] W fun e w' => e = .returned (.tuple #[]) ∧ Below W.heap.size W w' := by
  have c0 := H.c0
  have he : Calls Try.prog 14 #[.pointer (some ⟨h, 0, none⟩), .func (.func 16) #[] #[]] W fun e w' => e = .returned (.tuple #[]) ∧ Below W.heap.size W w' := by
    go_enter Try.func14, Try.ntmps14
    go_wp2
    go_loopw [12] (fun i wr => i = .int .i64 0 ∧ Hid (Below W.heap.size W wr)) (fun i _ => 0)
    case atStart => exact ⟨rfl, Below.refl _ _⟩
    case round =>
      obtain ⟨rfl, hB⟩ := hrel
      go_wp2
      go_end0
      exact ⟨rfl, hB.out⟩
  go_enter Try.func9, Try.ntmps9
  go_wp2_with (go_at_call 14; (with_reducible refine he.mono ?_); rintro e w3 ⟨rfl, hx⟩)
  go_end0
  exact ⟨rfl, hx⟩
theorem step_e (h : Nat) (k e : Int) (d : ByteArray) (W : World) (H : HE W h) : Calls Try.prog 6 #[.pointer (some ⟨h, 0, none⟩), .agg #[.int .i64 k, .int .i64 e, .string d]] W fun r w' => r = .returned (.tuple #[]) ∧ Below W.heap.size W w' := by
  have hb := alb W (.cells #[.int .i64 k, .int .i64 e, .string d] 29)
  have H2 := H.below hb
  have c1 := wrote_e h e d _ H2
  have c2 := flushed_e h _ H2
  have c3 := lost_e h _ H2
  by_cases h0 : k = 0
  · subst h0
    go_enter Try.func6, Try.ntmps6
    go_wp2_with (go_at_call 7; (with_reducible refine c1.mono ?_); rintro e w1 ⟨rfl, rfl⟩)
    go_end0
    exact ⟨rfl, hb⟩
  · have z0 : (k == 0) = false := beq_eq_false_iff_ne.2 h0
    by_cases h1 : k = 1
    · subst h1
      go_enter Try.func6, Try.ntmps6
      go_wp2_with (go_at_call 7; (with_reducible refine c1.mono ?_); rintro e w1 ⟨rfl, rfl⟩)
      go_end0
      exact ⟨rfl, hb⟩
    · have z1 : (k == 1) = false := beq_eq_false_iff_ne.2 h1
      by_cases h2 : k = 2
      · subst h2
        go_enter Try.func6, Try.ntmps6
        go_wp2_with (go_at_call 8; (with_reducible refine c2.mono ?_); rintro e w1 ⟨rfl, hb2⟩)
        go_end0
        exact ⟨rfl, bt hb hb2⟩
      · have z2 : (k == 2) = false := beq_eq_false_iff_ne.2 h2
        by_cases h3 : k = 3
        · subst h3
          go_enter Try.func6, Try.ntmps6
          go_wp2_with (go_at_call 9; (with_reducible refine c3.mono ?_); rintro e w1 ⟨rfl, hb2⟩)
          go_end0
          exact ⟨rfl, bt hb hb2⟩
        · have z3 : (k == 3) = false := beq_eq_false_iff_ne.2 h3
          go_enter Try.func6, Try.ntmps6
          go_wp2
          go_end0
          exact ⟨rfl, hb⟩
end Go.Proofs.Ytecfppglpallmaa
