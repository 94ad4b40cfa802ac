/-
  Nothing from nowhere (chapter 26): the walk of NetCounts.
-/
import Derived.Test.YtfomeiikgdiefaaNet4
namespace Go.Proofs.Ytfomeiikgdiefaa
open Go.RowKit
set_option linter.unusedVariables false
set_option linter.unusedSimpArgs false

theorem clear_none (n : Int) (w : World) : Calls Try.prog 15 #[.pointer none, .int .i64 n] w fun e w' => e = .returned (.int .i64 0) ∧ Below w.heap.size w w' := by
  go_enter Try.func15, Try.ntmps15
  go_wp2
  go_ret
  exact ⟨rfl, alb w _⟩
theorem put_len {x : U2} {L : List U2} (h : L.length ≤ 200) : (putL x L).length ≤ 200 := by
  unfold putL
  split
  · rename_i e
    unfold putE at e
    rw [List.length_append]
    simp only [List.length_cons, List.length_nil]
    by_cases h1 : x.1 ≠ 0 ∧ x.1 ≠ 1
    · rw [if_pos h1] at e; exact absurd e (by decide)
    · rw [if_neg h1] at e
      by_cases h2 : 700 < x.2.size
      · rw [if_pos h2] at e; exact absurd e (by decide)
      · rw [if_neg h2] at e
        by_cases h3 : 200 ≤ L.length
        · rw [if_pos h3] at e; exact absurd e (by decide)
        · omega
  · exact h
theorem take_len {L : List U2} {n : Int} (h : L.length ≤ 200) : (takeL L n).length ≤ 200 := by
  unfold takeL
  rw [List.length_eraseIdx]
  split <;> omega
theorem take_less {L : List U2} {n : Int} (h : L ≠ []) (hm : L.length ≤ 200) : (takeL L n).length + 1 = L.length := by
  unfold takeL
  have hl : 0 < L.length := List.length_pos_iff.2 h
  obtain ⟨_, h2⟩ := plc_eq n L.length hl (by omega)
  rw [List.length_eraseIdx, if_pos h2]
  omega
def cnt (X : U2) (L : List U2) : Nat := L.countP fun y => decide (y = X)
theorem cnt_app {X x : U2} {L : List U2} : cnt X (L ++ [x]) = cnt X L + if x = X then 1 else 0 := by
  unfold cnt
  rw [List.countP_append, List.countP_cons, List.countP_nil]
  by_cases h : x = X <;> simp [h]
theorem cnt_put {X x : U2} {L : List U2} (h : putE x L.length = 0) : cnt X (putL x L) = cnt X L + if x = X then 1 else 0 := by
  unfold putL
  rw [if_pos h]; exact cnt_app
theorem cnt_take {X : U2} {L : List U2} {n : Int} (h : L ≠ []) (hm : L.length ≤ 200) : cnt X L = cnt X (takeL L n) + if lookV L n = X then 1 else 0 := by
  obtain ⟨h1, _⟩ := look_at h (by omega) n
  have hlt := (List.getElem?_eq_some_iff.1 h1).1
  have hx := (List.getElem?_eq_some_iff.1 h1).2
  have e : L = L.take (plc n L.length) ++ lookV L n :: L.drop (plc n L.length + 1) := by
    conv => lhs; rw [← List.take_append_drop (plc n L.length) L, List.drop_eq_getElem_cons hlt, hx]
  have h3 : cnt X L = cnt X (L.take (plc n L.length) ++ lookV L n :: L.drop (plc n L.length + 1)) := by rw [← e]
  rw [h3]
  unfold takeL cnt
  rw [erase_eq, List.countP_append, List.countP_append, List.countP_cons]
  by_cases h : lookV L n = X <;> simp [h]
  omega
theorem take_nil (n : Int) : takeL [] n = [] := rfl
theorem put_no {x : U2} {L : List U2} (h : putE x L.length ≠ 0) : putL x L = L := if_neg h
set_option maxRecDepth 20000 in
set_option maxHeartbeats 6400000 in
theorem walk_NetCounts (a : Option Addr) (len cap : Nat) (l : List NOp) {w : World} (hl : IsList w a len 4 nopE nopOk l) (X1 : Int) (X2 : ByteArray) (u1 : (Lit.int .i64 X1).wf = true) (u2 : X2.size ≤ maxLen) : Calls Try.prog 4 #[.slice a len cap, .agg #[.int .i64 X1, .string X2]] w fun e w' => e = .returned (.bool true) ∧ Below w.heap.size w w' := by
  have hse := hl.size_eq
  have hm := hl.most
  subst hse
  have hP := Lib.hid (op_of hl)
  clear u1 u2 hl
  have hgr := fun W h => great_any a cap l W h hm
  have hgr := Lib.hid hgr
  clear hm
  have hb0 := alb w (.cells #[.int .i64 X1, .string X2] 32)
  have hbx0 : (w.alloc (.cells #[.int .i64 X1, .string X2] 32)).cell? ⟨w.heap.size, 0, none⟩ = some (.int .i64 X1) := by simp [go_sem]
  have hbx1 : (w.alloc (.cells #[.int .i64 X1, .string X2] 32)).cell? ⟨w.heap.size, 1, none⟩ = some (.string X2) := by simp [go_sem]
  have hbx0 := Lib.hid hbx0
  have hbx1 := Lib.hid hbx1
  have hb0 := Lib.hid hb0
  cases hG : greatB l with
  | true =>
    rw [hG] at hgr
    go_enter Try.func4, Try.ntmps4
    go_wp2_with (first | (go_at_call 5; (with_reducible refine (works_any _).mono ?_); rintro e w1 ⟨rfl, hb1⟩) | (go_at_call 6; (with_reducible refine (hgr.out _ (hP.out.keep (bt hb0.out hb1))).mono ?_); rintro e w2 ⟨rfl, hb2⟩))
    go_ret
    exact ⟨rfl, bt (bt hb0.out hb1) hb2⟩
  | false =>
    rw [hG] at hgr
    have h400 : l.length ≤ 400 := by
      unfold greatB at hG
      by_cases h : 400 < l.length
      · rw [decide_eq_true h] at hG; simp at hG
      · omega
    clear hG
    by_cases hX : 1000 < X2.size
    · have hX1 : decide ((1000 : Int) < (X2.size : Int)) = true := decide_eq_true (by omega)
      have hX2 : decide (1000 < X2.size) = true := decide_eq_true hX
      go_enter Try.func4, Try.ntmps4
      go_wp2_with (first | (go_at_call 5; (with_reducible refine (works_any _).mono ?_); rintro e w1 ⟨rfl, hb1⟩) | (go_at_call 6; (with_reducible refine (hgr.out _ (hP.out.keep (bt hb0.out hb1))).mono ?_); rintro e w2 ⟨rfl, hb2⟩; have k0 := bkeep (bt hb1 hb2) hbx0.out; have k1 := bkeep (bt hb1 hb2) hbx1.out))
      go_ret
      exact ⟨rfl, bt (bt hb0.out hb1) hb2⟩
    · have hX1 : decide ((1000 : Int) < (X2.size : Int)) = false := decide_eq_false (by omega)
      have hX2 : decide (1000 < X2.size) = false := decide_eq_false hX
      go_enter Try.func4, Try.ntmps4
      go_wp2_with (first | (go_at_call 5; (with_reducible refine (works_any _).mono ?_); rintro e w1 ⟨rfl, hb1⟩) | (go_at_call 6; (with_reducible refine (hgr.out _ (hP.out.keep (bt hb0.out hb1))).mono ?_); rintro e w2 ⟨rfl, hb2⟩; have k0 := bkeep (bt hb1 hb2) hbx0.out; have k1 := bkeep (bt hb1 hb2) hbx1.out) | (go_at_call 7; (with_reducible refine (new_s _).mono ?_); rintro e w4 ⟨rfl, n4⟩))
      have hbw := Lib.hid (bt (bt hb0.out hb1) hb2)
      have hPw := Lib.hid (hP.out.keep hbw.out)
      replace k0 := Lib.hid k0
      replace k1 := Lib.hid k1
      clear hb1 hb2 hgr hX hX1 hX2 hP hb0 hbx0 hbx1
      clear hgr hb0 hbx0 hbx1
      replace n4 := Lib.hid n4
      go_loopw [6, 7, 8] (fun T C i wr => ∃ (k t c : Nat) (v : Value) (L : List U2), k ≤ l.length ∧ i = .int .i64 k ∧ T = .int .i64 t ∧ C = .int .i64 c ∧ Hid (t = c + cnt (X1, X2) L) ∧ Hid (t ≤ k) ∧ Hid (L.length ≤ 200) ∧ Hid (NS w2.heap.size w2.heap.size v L w2 wr)) (fun _ _ i _ => l.length - (intOf i).toNat)
      case atStart => exact ⟨0, 0, 0, _, [], Nat.zero_le _, rfl, rfl, rfl, rfl, Nat.zero_le _, Nat.zero_le _, n4⟩
      case round =>
        obtain ⟨k, t, c, v, L, hk, rfl, rfl, rfl, ht, hle, hlen, hS⟩ := hrel
        clear n4
        by_cases hlt : k < l.length
        · have hd2 : decide ((k : Int) < (l.length : Int)) = true := decide_eq_true (by omega)
          obtain ⟨⟨kd, nn, ⟨o1, o2⟩⟩, hy⟩ : ∃ y, l[k]? = some y := ⟨_, List.getElem?_eq_getElem hlt⟩
          obtain ⟨g, o, rfl, q1, q2, q3, q4⟩ := hPw.out k _ hy
          have q1 : w2.cell? ⟨g, o + k * 4, none⟩ = some (.int .i64 kd) := q1
          have q2 : w2.cell? ⟨g, o + k * 4 + 1, none⟩ = some (.int .i64 nn) := q2
          have q3 : w2.cell? ⟨g, o + k * 4 + 2, none⟩ = some (.int .i64 o1) := q3
          have q4 : w2.cell? ⟨g, o + k * 4 + 3, none⟩ = some (.string o2) := q4
          have u1 := bkeep hS.out.bel q1
          have u2 := bkeep hS.out.bel q2
          have htb : t ≤ 400 := by have := hle.out; omega
          have hcb : c ≤ 400 := by have := hle.out; have := ht.out; omega
          have i1 : (0 : Int) ≤ (k : Int) := by omega
          have i2 : (k : Int) < (l.length : Int) := by omega
          obtain ⟨⟨y1, y2⟩, hY⟩ : ∃ y, lookV L nn = y := ⟨_, rfl⟩
          obtain ⟨b, hb⟩ : ∃ b, lookB L = b := ⟨_, rfl⟩
          have hlk := look_s nn hS.out (Nat.le_trans hlen.out (by decide))
          rw [hY, hb] at hlk
          replace hlk := Lib.hid hlk
          have hYX : ∀ w, (binOp .eql 32 (.agg #[.int .i64 y1, .string y2]) (.agg #[.int .i64 X1, .string X2])).run Try.prog w = .ok (.bool (decide ((y1, y2) = (X1, X2)))) w := fun w => und_eql _ _ _ _ _
          clear hy hPw
          by_cases hkd : kd = 0
          · subst hkd
            cases b with
            | false =>
              by_cases hE : putE (o1, o2) L.length = 0
              · have hpt := fun W hW => put_s (B := w2.heap.size) (p := w2.heap.size) (v := v) (L := L) (w := w2) (W := W) (o1, o2) hW (Nat.le_trans hlen.out (by decide))
                rw [hE] at hpt
                replace hpt := Lib.hid hpt
                have hcn := cnt_put (X := (X1, X2)) hE
                have hl2 : Hid ((putL (o1, o2) L).length ≤ 200) := put_len hlen.out
                have hta := ht.out
                have hla := hle.out
                by_cases hoX : (o1, o2) = (X1, X2)
                · have r1 : ∀ w, (binOp .eql 32 (.agg #[.int .i64 o1, .string o2]) (.agg #[.int .i64 X1, .string X2])).run Try.prog w = .ok (.bool true) w := fun w => by rw [und_eql, decide_eq_true hoX]
                  rw [if_pos hoX] at hcn
                  have ht2 : Hid (t + 1 = c + cnt (X1, X2) (putL (o1, o2) L)) := by show _ = _; omega
                  have hle2 : Hid (t + 1 ≤ k + 1) := by show _ ≤ _; omega
                  clear hcn hoX hE hta hla
                  go_wp2_with (first | (go_at_call 17; (with_reducible refine hlk.out.mono ?_); rintro e w3 ⟨rfl, hb3⟩; have n0 := hS.out.below hb3; have n3 := n0.below (alb w3 (.cells #[.int .i64 y1, .string y2] 32)); have z0 : (w3.alloc (.cells #[.int .i64 y1, .string y2] 32)).cell? ⟨w3.heap.size, 0, none⟩ = some (.int .i64 y1) := (by simp [go_sem]); have z1 : (w3.alloc (.cells #[.int .i64 y1, .string y2] 32)).cell? ⟨w3.heap.size, 1, none⟩ = some (.string y2) := (by simp [go_sem]); have p1 := bkeep n3.bel q1; have p2 := bkeep n3.bel q2; have p3 := bkeep n3.bel q3; have p4 := bkeep n3.bel q4; have x0 := bkeep n3.bel k0.out; have x1' := bkeep n3.bel k1.out))
                  have M0 : (w3.alloc (.cells #[.int .i64 y1, .string y2] 32)).drew.cell? ⟨g, o + k * 4 + 2, none⟩ = some (.int .i64 o1) ∧ (w3.alloc (.cells #[.int .i64 y1, .string y2] 32)).drew.cell? ⟨g, o + k * 4 + 3, none⟩ = some (.string o2) ∧ (w3.alloc (.cells #[.int .i64 y1, .string y2] 32)).drew.cell? ⟨w.heap.size, 0, none⟩ = some (.int .i64 X1) ∧ (w3.alloc (.cells #[.int .i64 y1, .string y2] 32)).drew.cell? ⟨w.heap.size, 1, none⟩ = some (.string X2) := ⟨p3, p4, x0, x1'⟩
                  refine wp_region_held_drew (S := (fun w' : World => w'.cell? ⟨g, o + k * 4 + 2, none⟩ = some (.int .i64 o1) ∧ w'.cell? ⟨g, o + k * 4 + 3, none⟩ = some (.string o2) ∧ w'.cell? ⟨w.heap.size, 0, none⟩ = some (.int .i64 X1) ∧ w'.cell? ⟨w.heap.size, 1, none⟩ = some (.string X2))) (by kernel_rfl) ?_ (fun hHeld => ?_)
                  · first | exact M0 | exact M5
                  first | (refine tw (i := 0) (v := ?_) ?_ hHeld ?_; rotate_left; focus (intro w hSw; (try dsimp only at hSw); go_simp; (try with_reducible rfl); done)) | refine tn (i := 0) hHeld ?_
                  try simp only [Act.put, List.setIfInBounds_toArray, List.set_cons_zero, List.set_cons_succ]
                  first | (refine tw (i := 1) (v := ?_) ?_ hHeld ?_; rotate_left; focus (intro w hSw; (try dsimp only at hSw); go_simp; (try with_reducible rfl); done)) | refine tn (i := 1) hHeld ?_
                  try simp only [Act.put, List.setIfInBounds_toArray, List.set_cons_zero, List.set_cons_succ]
                  first | (refine tw (i := 2) (v := ?_) ?_ hHeld ?_; rotate_left; focus (intro w hSw; (try dsimp only at hSw); go_simp; (try with_reducible rfl); done)) | refine tn (i := 2) hHeld ?_
                  try simp only [Act.put, List.setIfInBounds_toArray, List.set_cons_zero, List.set_cons_succ]
                  first | (refine tw (i := 3) (v := ?_) ?_ hHeld ?_; rotate_left; focus (intro w hSw; (try dsimp only at hSw); go_simp; (try with_reducible rfl); done)) | refine tn (i := 3) hHeld ?_
                  try simp only [Act.put, List.setIfInBounds_toArray, List.set_cons_zero, List.set_cons_succ]
                  first | (refine tw (i := 4) (v := ?_) ?_ hHeld ?_; rotate_left; focus (intro w hSw; (try dsimp only at hSw); go_simp; (try with_reducible rfl); done)) | refine tn (i := 4) hHeld ?_
                  try simp only [Act.put, List.setIfInBounds_toArray, List.set_cons_zero, List.set_cons_succ]
                  first | (refine tw (i := 5) (v := ?_) ?_ hHeld ?_; rotate_left; focus (intro w hSw; (try dsimp only at hSw); go_simp; (try with_reducible rfl); done)) | refine tn (i := 5) hHeld ?_
                  try simp only [Act.put, List.setIfInBounds_toArray, List.set_cons_zero, List.set_cons_succ]
                  refine call_next (i := 6) (by kernel_rfl) (by rfl) ?_
                  intro o ho K hK
                  simp only [List.getElem?_toArray, List.getElem?_cons_succ, List.getElem?_cons_zero, Option.some.injEq] at ho
                  subst ho
                  first | (fail; refine hK.out _ _ ?_ (fun hHeld => ?_)) | (go_simp; first | (with_reducible refine hK.out _ _ ?_ (fun hHeld => ?_)) | ((go_at_call 8; (with_reducible refine (hpt.out _ (n3.below (Below.refl _ _).drew)).mono ?_); rintro e w5 ⟨rfl, v5, n5, f5⟩; have M5 := And.intro (bkeep n5.bel q3) (And.intro (bkeep n5.bel q4) (And.intro (bkeep n5.bel k0.out) (bkeep n5.bel k1.out)))); refine hK.out _ _ ?_ (fun hHeld => ?_)))
                  · first | exact M0 | exact M5
                  clear hK K
                  try simp only [Act.put, List.setIfInBounds_toArray, List.set_cons_zero, List.set_cons_succ]
                  first | (refine tw (i := 7) (v := ?_) ?_ hHeld ?_; rotate_left; focus (intro w hSw; (try dsimp only at hSw); go_simp; (try with_reducible rfl); done)) | refine tn (i := 7) hHeld ?_
                  try simp only [Act.put, List.setIfInBounds_toArray, List.set_cons_zero, List.set_cons_succ]
                  first | (refine tw (i := 8) (v := ?_) ?_ hHeld ?_; rotate_left; focus (intro w hSw; (try dsimp only at hSw); go_simp; (try with_reducible rfl); done)) | refine tn (i := 8) hHeld ?_
                  try simp only [Act.put, List.setIfInBounds_toArray, List.set_cons_zero, List.set_cons_succ]
                  first | (refine tw (i := 9) (v := ?_) ?_ hHeld ?_; rotate_left; focus (intro w hSw; (try dsimp only at hSw); go_simp; (try with_reducible rfl); done)) | refine tn (i := 9) hHeld ?_
                  try simp only [Act.put, List.setIfInBounds_toArray, List.set_cons_zero, List.set_cons_succ]
                  first | (refine tw (i := 10) (v := ?_) ?_ hHeld ?_; rotate_left; focus (intro w hSw; (try dsimp only at hSw); go_simp; (try with_reducible rfl); done)) | refine tn (i := 10) hHeld ?_
                  try simp only [Act.put, List.setIfInBounds_toArray, List.set_cons_zero, List.set_cons_succ]
                  first | (refine tw (i := 11) (v := ?_) ?_ hHeld ?_; rotate_left; focus (intro w hSw; (try dsimp only at hSw); go_simp; (try with_reducible rfl); done)) | refine tn (i := 11) hHeld ?_
                  try simp only [Act.put, List.setIfInBounds_toArray, List.set_cons_zero, List.set_cons_succ]
                  first | (refine tw (i := 12) (v := ?_) ?_ hHeld ?_; rotate_left; focus (intro w hSw; (try dsimp only at hSw); go_simp; (try with_reducible rfl); done)) | refine tn (i := 12) hHeld ?_
                  try simp only [Act.put, List.setIfInBounds_toArray, List.set_cons_zero, List.set_cons_succ]
                  first | (refine tw (i := 13) (v := ?_) ?_ hHeld ?_; rotate_left; focus (intro w hSw; (try dsimp only at hSw); go_simp; (try with_reducible rfl); done)) | refine tn (i := 13) hHeld ?_
                  try simp only [Act.put, List.setIfInBounds_toArray, List.set_cons_zero, List.set_cons_succ]
                  first | (refine tw (i := 14) (v := ?_) ?_ hHeld ?_; rotate_left; focus (intro w hSw; (try dsimp only at hSw); go_simp; (try with_reducible rfl); done)) | refine tn (i := 14) hHeld ?_
                  try simp only [Act.put, List.setIfInBounds_toArray, List.set_cons_zero, List.set_cons_succ]
                  first | (refine tw (i := 15) (v := ?_) ?_ hHeld ?_; rotate_left; focus (intro w hSw; (try dsimp only at hSw); go_simp; (try with_reducible rfl); done)) | refine tn (i := 15) hHeld ?_
                  try simp only [Act.put, List.setIfInBounds_toArray, List.set_cons_zero, List.set_cons_succ]
                  first | (refine tw (i := 16) (v := ?_) ?_ hHeld ?_; rotate_left; focus (intro w hSw; (try dsimp only at hSw); go_simp; (try with_reducible rfl); done)) | refine tn (i := 16) hHeld ?_
                  try simp only [Act.put, List.setIfInBounds_toArray, List.set_cons_zero, List.set_cons_succ]
                  refine wpAnyH_done (by kernel_rfl) ?_ _
                  go_wp2
                  exact ⟨⟨k + 1, t + 1, c, v5, _, by omega, by go_num, by go_num, by go_num, ht2, hle2, hl2, n5⟩, by simp [intOf]; omega⟩
                · have r1 : ∀ w, (binOp .eql 32 (.agg #[.int .i64 o1, .string o2]) (.agg #[.int .i64 X1, .string X2])).run Try.prog w = .ok (.bool false) w := fun w => by rw [und_eql, decide_eq_false hoX]
                  rw [if_neg hoX] at hcn
                  have ht2 : Hid (t = c + cnt (X1, X2) (putL (o1, o2) L)) := by show _ = _; omega
                  clear hcn hoX hE hta hla
                  go_wp2_with (first | (go_at_call 17; (with_reducible refine hlk.out.mono ?_); rintro e w3 ⟨rfl, hb3⟩; have n0 := hS.out.below hb3; have n3 := n0.below (alb w3 (.cells #[.int .i64 y1, .string y2] 32)); have z0 : (w3.alloc (.cells #[.int .i64 y1, .string y2] 32)).cell? ⟨w3.heap.size, 0, none⟩ = some (.int .i64 y1) := (by simp [go_sem]); have z1 : (w3.alloc (.cells #[.int .i64 y1, .string y2] 32)).cell? ⟨w3.heap.size, 1, none⟩ = some (.string y2) := (by simp [go_sem]); have p1 := bkeep n3.bel q1; have p2 := bkeep n3.bel q2; have p3 := bkeep n3.bel q3; have p4 := bkeep n3.bel q4; have x0 := bkeep n3.bel k0.out; have x1' := bkeep n3.bel k1.out))
                  have M0 : (w3.alloc (.cells #[.int .i64 y1, .string y2] 32)).drew.cell? ⟨g, o + k * 4 + 2, none⟩ = some (.int .i64 o1) ∧ (w3.alloc (.cells #[.int .i64 y1, .string y2] 32)).drew.cell? ⟨g, o + k * 4 + 3, none⟩ = some (.string o2) ∧ (w3.alloc (.cells #[.int .i64 y1, .string y2] 32)).drew.cell? ⟨w.heap.size, 0, none⟩ = some (.int .i64 X1) ∧ (w3.alloc (.cells #[.int .i64 y1, .string y2] 32)).drew.cell? ⟨w.heap.size, 1, none⟩ = some (.string X2) := ⟨p3, p4, x0, x1'⟩
                  refine wp_region_held_drew (S := (fun w' : World => w'.cell? ⟨g, o + k * 4 + 2, none⟩ = some (.int .i64 o1) ∧ w'.cell? ⟨g, o + k * 4 + 3, none⟩ = some (.string o2) ∧ w'.cell? ⟨w.heap.size, 0, none⟩ = some (.int .i64 X1) ∧ w'.cell? ⟨w.heap.size, 1, none⟩ = some (.string X2))) (by kernel_rfl) ?_ (fun hHeld => ?_)
                  · first | exact M0 | exact M5
                  first | (refine tw (i := 0) (v := ?_) ?_ hHeld ?_; rotate_left; focus (intro w hSw; (try dsimp only at hSw); go_simp; (try with_reducible rfl); done)) | refine tn (i := 0) hHeld ?_
                  try simp only [Act.put, List.setIfInBounds_toArray, List.set_cons_zero, List.set_cons_succ]
                  first | (refine tw (i := 1) (v := ?_) ?_ hHeld ?_; rotate_left; focus (intro w hSw; (try dsimp only at hSw); go_simp; (try with_reducible rfl); done)) | refine tn (i := 1) hHeld ?_
                  try simp only [Act.put, List.setIfInBounds_toArray, List.set_cons_zero, List.set_cons_succ]
                  first | (refine tw (i := 2) (v := ?_) ?_ hHeld ?_; rotate_left; focus (intro w hSw; (try dsimp only at hSw); go_simp; (try with_reducible rfl); done)) | refine tn (i := 2) hHeld ?_
                  try simp only [Act.put, List.setIfInBounds_toArray, List.set_cons_zero, List.set_cons_succ]
                  first | (refine tw (i := 3) (v := ?_) ?_ hHeld ?_; rotate_left; focus (intro w hSw; (try dsimp only at hSw); go_simp; (try with_reducible rfl); done)) | refine tn (i := 3) hHeld ?_
                  try simp only [Act.put, List.setIfInBounds_toArray, List.set_cons_zero, List.set_cons_succ]
                  first | (refine tw (i := 4) (v := ?_) ?_ hHeld ?_; rotate_left; focus (intro w hSw; (try dsimp only at hSw); go_simp; (try with_reducible rfl); done)) | refine tn (i := 4) hHeld ?_
                  try simp only [Act.put, List.setIfInBounds_toArray, List.set_cons_zero, List.set_cons_succ]
                  first | (refine tw (i := 5) (v := ?_) ?_ hHeld ?_; rotate_left; focus (intro w hSw; (try dsimp only at hSw); go_simp; (try with_reducible rfl); done)) | refine tn (i := 5) hHeld ?_
                  try simp only [Act.put, List.setIfInBounds_toArray, List.set_cons_zero, List.set_cons_succ]
                  refine call_next (i := 6) (by kernel_rfl) (by rfl) ?_
                  intro o ho K hK
                  simp only [List.getElem?_toArray, List.getElem?_cons_succ, List.getElem?_cons_zero, Option.some.injEq] at ho
                  subst ho
                  first | (fail; refine hK.out _ _ ?_ (fun hHeld => ?_)) | (go_simp; first | (with_reducible refine hK.out _ _ ?_ (fun hHeld => ?_)) | ((go_at_call 8; (with_reducible refine (hpt.out _ (n3.below (Below.refl _ _).drew)).mono ?_); rintro e w5 ⟨rfl, v5, n5, f5⟩; have M5 := And.intro (bkeep n5.bel q3) (And.intro (bkeep n5.bel q4) (And.intro (bkeep n5.bel k0.out) (bkeep n5.bel k1.out)))); refine hK.out _ _ ?_ (fun hHeld => ?_)))
                  · first | exact M0 | exact M5
                  clear hK K
                  try simp only [Act.put, List.setIfInBounds_toArray, List.set_cons_zero, List.set_cons_succ]
                  first | (refine tw (i := 7) (v := ?_) ?_ hHeld ?_; rotate_left; focus (intro w hSw; (try dsimp only at hSw); go_simp; (try with_reducible rfl); done)) | refine tn (i := 7) hHeld ?_
                  try simp only [Act.put, List.setIfInBounds_toArray, List.set_cons_zero, List.set_cons_succ]
                  first | (refine tw (i := 8) (v := ?_) ?_ hHeld ?_; rotate_left; focus (intro w hSw; (try dsimp only at hSw); go_simp; (try with_reducible rfl); done)) | refine tn (i := 8) hHeld ?_
                  try simp only [Act.put, List.setIfInBounds_toArray, List.set_cons_zero, List.set_cons_succ]
                  first | (refine tw (i := 9) (v := ?_) ?_ hHeld ?_; rotate_left; focus (intro w hSw; (try dsimp only at hSw); go_simp; (try with_reducible rfl); done)) | refine tn (i := 9) hHeld ?_
                  try simp only [Act.put, List.setIfInBounds_toArray, List.set_cons_zero, List.set_cons_succ]
                  first | (refine tw (i := 10) (v := ?_) ?_ hHeld ?_; rotate_left; focus (intro w hSw; (try dsimp only at hSw); go_simp; (try with_reducible rfl); done)) | refine tn (i := 10) hHeld ?_
                  try simp only [Act.put, List.setIfInBounds_toArray, List.set_cons_zero, List.set_cons_succ]
                  first | (refine tw (i := 11) (v := ?_) ?_ hHeld ?_; rotate_left; focus (intro w hSw; (try dsimp only at hSw); go_simp; (try with_reducible rfl); done)) | refine tn (i := 11) hHeld ?_
                  try simp only [Act.put, List.setIfInBounds_toArray, List.set_cons_zero, List.set_cons_succ]
                  first | (refine tw (i := 12) (v := ?_) ?_ hHeld ?_; rotate_left; focus (intro w hSw; (try dsimp only at hSw); go_simp; (try with_reducible rfl); done)) | refine tn (i := 12) hHeld ?_
                  try simp only [Act.put, List.setIfInBounds_toArray, List.set_cons_zero, List.set_cons_succ]
                  first | (refine tw (i := 13) (v := ?_) ?_ hHeld ?_; rotate_left; focus (intro w hSw; (try dsimp only at hSw); go_simp; (try with_reducible rfl); done)) | refine tn (i := 13) hHeld ?_
                  try simp only [Act.put, List.setIfInBounds_toArray, List.set_cons_zero, List.set_cons_succ]
                  first | (refine tw (i := 14) (v := ?_) ?_ hHeld ?_; rotate_left; focus (intro w hSw; (try dsimp only at hSw); go_simp; (try with_reducible rfl); done)) | refine tn (i := 14) hHeld ?_
                  try simp only [Act.put, List.setIfInBounds_toArray, List.set_cons_zero, List.set_cons_succ]
                  first | (refine tw (i := 15) (v := ?_) ?_ hHeld ?_; rotate_left; focus (intro w hSw; (try dsimp only at hSw); go_simp; (try with_reducible rfl); done)) | refine tn (i := 15) hHeld ?_
                  try simp only [Act.put, List.setIfInBounds_toArray, List.set_cons_zero, List.set_cons_succ]
                  first | (refine tw (i := 16) (v := ?_) ?_ hHeld ?_; rotate_left; focus (intro w hSw; (try dsimp only at hSw); go_simp; (try with_reducible rfl); done)) | refine tn (i := 16) hHeld ?_
                  try simp only [Act.put, List.setIfInBounds_toArray, List.set_cons_zero, List.set_cons_succ]
                  refine wpAnyH_done (by kernel_rfl) ?_ _
                  go_wp2
                  exact ⟨⟨k + 1, t, c, v5, _, by omega, by go_num, rfl, rfl, ht2, Nat.le_succ_of_le hle.out, hl2, n5⟩, by simp [intOf]; omega⟩
              · have hpt := fun W hW => put_s (B := w2.heap.size) (p := w2.heap.size) (v := v) (L := L) (w := w2) (W := W) (o1, o2) hW (Nat.le_trans hlen.out (by decide))
                rw [put_no hE] at hpt
                generalize putE (o1, o2) L.length = E at *
                have e1 : (E == 0) = false := beq_eq_false_iff_ne.2 hE
                replace hpt := Lib.hid hpt
                clear hE
                go_wp2_with (first | (go_at_call 17; (with_reducible refine hlk.out.mono ?_); rintro e w3 ⟨rfl, hb3⟩; have n0 := hS.out.below hb3; have n3 := n0.below (alb w3 (.cells #[.int .i64 y1, .string y2] 32)); have z0 : (w3.alloc (.cells #[.int .i64 y1, .string y2] 32)).cell? ⟨w3.heap.size, 0, none⟩ = some (.int .i64 y1) := (by simp [go_sem]); have z1 : (w3.alloc (.cells #[.int .i64 y1, .string y2] 32)).cell? ⟨w3.heap.size, 1, none⟩ = some (.string y2) := (by simp [go_sem]); have p1 := bkeep n3.bel q1; have p2 := bkeep n3.bel q2; have p3 := bkeep n3.bel q3; have p4 := bkeep n3.bel q4; have x0 := bkeep n3.bel k0.out; have x1' := bkeep n3.bel k1.out))
                have M0 : (w3.alloc (.cells #[.int .i64 y1, .string y2] 32)).drew.cell? ⟨g, o + k * 4 + 2, none⟩ = some (.int .i64 o1) ∧ (w3.alloc (.cells #[.int .i64 y1, .string y2] 32)).drew.cell? ⟨g, o + k * 4 + 3, none⟩ = some (.string o2) ∧ (w3.alloc (.cells #[.int .i64 y1, .string y2] 32)).drew.cell? ⟨w.heap.size, 0, none⟩ = some (.int .i64 X1) ∧ (w3.alloc (.cells #[.int .i64 y1, .string y2] 32)).drew.cell? ⟨w.heap.size, 1, none⟩ = some (.string X2) := ⟨p3, p4, x0, x1'⟩
                refine wp_region_held_drew (S := (fun w' : World => w'.cell? ⟨g, o + k * 4 + 2, none⟩ = some (.int .i64 o1) ∧ w'.cell? ⟨g, o + k * 4 + 3, none⟩ = some (.string o2) ∧ w'.cell? ⟨w.heap.size, 0, none⟩ = some (.int .i64 X1) ∧ w'.cell? ⟨w.heap.size, 1, none⟩ = some (.string X2))) (by kernel_rfl) ?_ (fun hHeld => ?_)
                · first | exact M0 | exact M5
                first | (refine tw (i := 0) (v := ?_) ?_ hHeld ?_; rotate_left; focus (intro w hSw; (try dsimp only at hSw); go_simp; (try with_reducible rfl); done)) | refine tn (i := 0) hHeld ?_
                try simp only [Act.put, List.setIfInBounds_toArray, List.set_cons_zero, List.set_cons_succ]
                first | (refine tw (i := 1) (v := ?_) ?_ hHeld ?_; rotate_left; focus (intro w hSw; (try dsimp only at hSw); go_simp; (try with_reducible rfl); done)) | refine tn (i := 1) hHeld ?_
                try simp only [Act.put, List.setIfInBounds_toArray, List.set_cons_zero, List.set_cons_succ]
                first | (refine tw (i := 2) (v := ?_) ?_ hHeld ?_; rotate_left; focus (intro w hSw; (try dsimp only at hSw); go_simp; (try with_reducible rfl); done)) | refine tn (i := 2) hHeld ?_
                try simp only [Act.put, List.setIfInBounds_toArray, List.set_cons_zero, List.set_cons_succ]
                first | (refine tw (i := 3) (v := ?_) ?_ hHeld ?_; rotate_left; focus (intro w hSw; (try dsimp only at hSw); go_simp; (try with_reducible rfl); done)) | refine tn (i := 3) hHeld ?_
                try simp only [Act.put, List.setIfInBounds_toArray, List.set_cons_zero, List.set_cons_succ]
                first | (refine tw (i := 4) (v := ?_) ?_ hHeld ?_; rotate_left; focus (intro w hSw; (try dsimp only at hSw); go_simp; (try with_reducible rfl); done)) | refine tn (i := 4) hHeld ?_
                try simp only [Act.put, List.setIfInBounds_toArray, List.set_cons_zero, List.set_cons_succ]
                first | (refine tw (i := 5) (v := ?_) ?_ hHeld ?_; rotate_left; focus (intro w hSw; (try dsimp only at hSw); go_simp; (try with_reducible rfl); done)) | refine tn (i := 5) hHeld ?_
                try simp only [Act.put, List.setIfInBounds_toArray, List.set_cons_zero, List.set_cons_succ]
                refine call_next (i := 6) (by kernel_rfl) (by rfl) ?_
                intro o ho K hK
                simp only [List.getElem?_toArray, List.getElem?_cons_succ, List.getElem?_cons_zero, Option.some.injEq] at ho
                subst ho
                first | (fail; refine hK.out _ _ ?_ (fun hHeld => ?_)) | (go_simp; first | (with_reducible refine hK.out _ _ ?_ (fun hHeld => ?_)) | ((go_at_call 8; (with_reducible refine (hpt.out _ (n3.below (Below.refl _ _).drew)).mono ?_); rintro e w5 ⟨rfl, v5, n5, f5⟩; have M5 := And.intro (bkeep n5.bel q3) (And.intro (bkeep n5.bel q4) (And.intro (bkeep n5.bel k0.out) (bkeep n5.bel k1.out)))); refine hK.out _ _ ?_ (fun hHeld => ?_)))
                · first | exact M0 | exact M5
                clear hK K
                try simp only [Act.put, List.setIfInBounds_toArray, List.set_cons_zero, List.set_cons_succ]
                first | (refine tw (i := 7) (v := ?_) ?_ hHeld ?_; rotate_left; focus (intro w hSw; (try dsimp only at hSw); go_simp; (try with_reducible rfl); done)) | refine tn (i := 7) hHeld ?_
                try simp only [Act.put, List.setIfInBounds_toArray, List.set_cons_zero, List.set_cons_succ]
                first | (refine tw (i := 8) (v := ?_) ?_ hHeld ?_; rotate_left; focus (intro w hSw; (try dsimp only at hSw); go_simp; (try with_reducible rfl); done)) | refine tn (i := 8) hHeld ?_
                try simp only [Act.put, List.setIfInBounds_toArray, List.set_cons_zero, List.set_cons_succ]
                first | (refine tw (i := 9) (v := ?_) ?_ hHeld ?_; rotate_left; focus (intro w hSw; (try dsimp only at hSw); go_simp; (try with_reducible rfl); done)) | refine tn (i := 9) hHeld ?_
                try simp only [Act.put, List.setIfInBounds_toArray, List.set_cons_zero, List.set_cons_succ]
                first | (refine tw (i := 10) (v := ?_) ?_ hHeld ?_; rotate_left; focus (intro w hSw; (try dsimp only at hSw); go_simp; (try with_reducible rfl); done)) | refine tn (i := 10) hHeld ?_
                try simp only [Act.put, List.setIfInBounds_toArray, List.set_cons_zero, List.set_cons_succ]
                first | (refine tw (i := 11) (v := ?_) ?_ hHeld ?_; rotate_left; focus (intro w hSw; (try dsimp only at hSw); go_simp; (try with_reducible rfl); done)) | refine tn (i := 11) hHeld ?_
                try simp only [Act.put, List.setIfInBounds_toArray, List.set_cons_zero, List.set_cons_succ]
                first | (refine tw (i := 12) (v := ?_) ?_ hHeld ?_; rotate_left; focus (intro w hSw; (try dsimp only at hSw); go_simp; (try with_reducible rfl); done)) | refine tn (i := 12) hHeld ?_
                try simp only [Act.put, List.setIfInBounds_toArray, List.set_cons_zero, List.set_cons_succ]
                first | (refine tw (i := 13) (v := ?_) ?_ hHeld ?_; rotate_left; focus (intro w hSw; (try dsimp only at hSw); go_simp; (try with_reducible rfl); done)) | refine tn (i := 13) hHeld ?_
                try simp only [Act.put, List.setIfInBounds_toArray, List.set_cons_zero, List.set_cons_succ]
                first | (refine tw (i := 14) (v := ?_) ?_ hHeld ?_; rotate_left; focus (intro w hSw; (try dsimp only at hSw); go_simp; (try with_reducible rfl); done)) | refine tn (i := 14) hHeld ?_
                try simp only [Act.put, List.setIfInBounds_toArray, List.set_cons_zero, List.set_cons_succ]
                first | (refine tw (i := 15) (v := ?_) ?_ hHeld ?_; rotate_left; focus (intro w hSw; (try dsimp only at hSw); go_simp; (try with_reducible rfl); done)) | refine tn (i := 15) hHeld ?_
                try simp only [Act.put, List.setIfInBounds_toArray, List.set_cons_zero, List.set_cons_succ]
                first | (refine tw (i := 16) (v := ?_) ?_ hHeld ?_; rotate_left; focus (intro w hSw; (try dsimp only at hSw); go_simp; (try with_reducible rfl); done)) | refine tn (i := 16) hHeld ?_
                try simp only [Act.put, List.setIfInBounds_toArray, List.set_cons_zero, List.set_cons_succ]
                refine wpAnyH_done (by kernel_rfl) ?_ _
                go_wp2
                exact ⟨⟨k + 1, t, c, v5, _, by omega, by go_num, rfl, rfl, ht, Nat.le_succ_of_le hle.out, hlen, n5⟩, by simp [intOf]; omega⟩
            | true =>
              cases hdY : decide ((y1, y2) = (X1, X2)) with
              | true =>
                rw [hdY] at hYX
                by_cases hE : putE (o1, o2) L.length = 0
                · have hpt := fun W hW => put_s (B := w2.heap.size) (p := w2.heap.size) (v := v) (L := L) (w := w2) (W := W) (o1, o2) hW (Nat.le_trans hlen.out (by decide))
                  rw [hE] at hpt
                  replace hpt := Lib.hid hpt
                  have hcn := cnt_put (X := (X1, X2)) hE
                  have hl2 : Hid ((putL (o1, o2) L).length ≤ 200) := put_len hlen.out
                  have hta := ht.out
                  have hla := hle.out
                  by_cases hoX : (o1, o2) = (X1, X2)
                  · have r1 : ∀ w, (binOp .eql 32 (.agg #[.int .i64 o1, .string o2]) (.agg #[.int .i64 X1, .string X2])).run Try.prog w = .ok (.bool true) w := fun w => by rw [und_eql, decide_eq_true hoX]
                    rw [if_pos hoX] at hcn
                    have ht2 : Hid (t + 1 = c + cnt (X1, X2) (putL (o1, o2) L)) := by show _ = _; omega
                    have hle2 : Hid (t + 1 ≤ k + 1) := by show _ ≤ _; omega
                    clear hcn hoX hE hta hla
                    go_wp2_with (first | (go_at_call 17; (with_reducible refine hlk.out.mono ?_); rintro e w3 ⟨rfl, hb3⟩; have n0 := hS.out.below hb3; have n3 := n0.below (alb w3 (.cells #[.int .i64 y1, .string y2] 32)); have z0 : (w3.alloc (.cells #[.int .i64 y1, .string y2] 32)).cell? ⟨w3.heap.size, 0, none⟩ = some (.int .i64 y1) := (by simp [go_sem]); have z1 : (w3.alloc (.cells #[.int .i64 y1, .string y2] 32)).cell? ⟨w3.heap.size, 1, none⟩ = some (.string y2) := (by simp [go_sem]); have p1 := bkeep n3.bel q1; have p2 := bkeep n3.bel q2; have p3 := bkeep n3.bel q3; have p4 := bkeep n3.bel q4; have x0 := bkeep n3.bel k0.out; have x1' := bkeep n3.bel k1.out))
                    have M0 : (w3.alloc (.cells #[.int .i64 y1, .string y2] 32)).drew.cell? ⟨g, o + k * 4 + 2, none⟩ = some (.int .i64 o1) ∧ (w3.alloc (.cells #[.int .i64 y1, .string y2] 32)).drew.cell? ⟨g, o + k * 4 + 3, none⟩ = some (.string o2) ∧ (w3.alloc (.cells #[.int .i64 y1, .string y2] 32)).drew.cell? ⟨w.heap.size, 0, none⟩ = some (.int .i64 X1) ∧ (w3.alloc (.cells #[.int .i64 y1, .string y2] 32)).drew.cell? ⟨w.heap.size, 1, none⟩ = some (.string X2) := ⟨p3, p4, x0, x1'⟩
                    refine wp_region_held_drew (S := (fun w' : World => w'.cell? ⟨g, o + k * 4 + 2, none⟩ = some (.int .i64 o1) ∧ w'.cell? ⟨g, o + k * 4 + 3, none⟩ = some (.string o2) ∧ w'.cell? ⟨w.heap.size, 0, none⟩ = some (.int .i64 X1) ∧ w'.cell? ⟨w.heap.size, 1, none⟩ = some (.string X2))) (by kernel_rfl) ?_ (fun hHeld => ?_)
                    · first | exact M0 | exact M5
                    first | (refine tw (i := 0) (v := ?_) ?_ hHeld ?_; rotate_left; focus (intro w hSw; (try dsimp only at hSw); go_simp; (try with_reducible rfl); done)) | refine tn (i := 0) hHeld ?_
                    try simp only [Act.put, List.setIfInBounds_toArray, List.set_cons_zero, List.set_cons_succ]
                    first | (refine tw (i := 1) (v := ?_) ?_ hHeld ?_; rotate_left; focus (intro w hSw; (try dsimp only at hSw); go_simp; (try with_reducible rfl); done)) | refine tn (i := 1) hHeld ?_
                    try simp only [Act.put, List.setIfInBounds_toArray, List.set_cons_zero, List.set_cons_succ]
                    first | (refine tw (i := 2) (v := ?_) ?_ hHeld ?_; rotate_left; focus (intro w hSw; (try dsimp only at hSw); go_simp; (try with_reducible rfl); done)) | refine tn (i := 2) hHeld ?_
                    try simp only [Act.put, List.setIfInBounds_toArray, List.set_cons_zero, List.set_cons_succ]
                    first | (refine tw (i := 3) (v := ?_) ?_ hHeld ?_; rotate_left; focus (intro w hSw; (try dsimp only at hSw); go_simp; (try with_reducible rfl); done)) | refine tn (i := 3) hHeld ?_
                    try simp only [Act.put, List.setIfInBounds_toArray, List.set_cons_zero, List.set_cons_succ]
                    first | (refine tw (i := 4) (v := ?_) ?_ hHeld ?_; rotate_left; focus (intro w hSw; (try dsimp only at hSw); go_simp; (try with_reducible rfl); done)) | refine tn (i := 4) hHeld ?_
                    try simp only [Act.put, List.setIfInBounds_toArray, List.set_cons_zero, List.set_cons_succ]
                    first | (refine tw (i := 5) (v := ?_) ?_ hHeld ?_; rotate_left; focus (intro w hSw; (try dsimp only at hSw); go_simp; (try with_reducible rfl); done)) | refine tn (i := 5) hHeld ?_
                    try simp only [Act.put, List.setIfInBounds_toArray, List.set_cons_zero, List.set_cons_succ]
                    refine call_next (i := 6) (by kernel_rfl) (by rfl) ?_
                    intro o ho K hK
                    simp only [List.getElem?_toArray, List.getElem?_cons_succ, List.getElem?_cons_zero, Option.some.injEq] at ho
                    subst ho
                    first | (fail; refine hK.out _ _ ?_ (fun hHeld => ?_)) | (go_simp; first | (with_reducible refine hK.out _ _ ?_ (fun hHeld => ?_)) | ((go_at_call 8; (with_reducible refine (hpt.out _ (n3.below (Below.refl _ _).drew)).mono ?_); rintro e w5 ⟨rfl, v5, n5, f5⟩; have M5 := And.intro (bkeep n5.bel q3) (And.intro (bkeep n5.bel q4) (And.intro (bkeep n5.bel k0.out) (bkeep n5.bel k1.out)))); refine hK.out _ _ ?_ (fun hHeld => ?_)))
                    · first | exact M0 | exact M5
                    clear hK K
                    try simp only [Act.put, List.setIfInBounds_toArray, List.set_cons_zero, List.set_cons_succ]
                    first | (refine tw (i := 7) (v := ?_) ?_ hHeld ?_; rotate_left; focus (intro w hSw; (try dsimp only at hSw); go_simp; (try with_reducible rfl); done)) | refine tn (i := 7) hHeld ?_
                    try simp only [Act.put, List.setIfInBounds_toArray, List.set_cons_zero, List.set_cons_succ]
                    first | (refine tw (i := 8) (v := ?_) ?_ hHeld ?_; rotate_left; focus (intro w hSw; (try dsimp only at hSw); go_simp; (try with_reducible rfl); done)) | refine tn (i := 8) hHeld ?_
                    try simp only [Act.put, List.setIfInBounds_toArray, List.set_cons_zero, List.set_cons_succ]
                    first | (refine tw (i := 9) (v := ?_) ?_ hHeld ?_; rotate_left; focus (intro w hSw; (try dsimp only at hSw); go_simp; (try with_reducible rfl); done)) | refine tn (i := 9) hHeld ?_
                    try simp only [Act.put, List.setIfInBounds_toArray, List.set_cons_zero, List.set_cons_succ]
                    first | (refine tw (i := 10) (v := ?_) ?_ hHeld ?_; rotate_left; focus (intro w hSw; (try dsimp only at hSw); go_simp; (try with_reducible rfl); done)) | refine tn (i := 10) hHeld ?_
                    try simp only [Act.put, List.setIfInBounds_toArray, List.set_cons_zero, List.set_cons_succ]
                    first | (refine tw (i := 11) (v := ?_) ?_ hHeld ?_; rotate_left; focus (intro w hSw; (try dsimp only at hSw); go_simp; (try with_reducible rfl); done)) | refine tn (i := 11) hHeld ?_
                    try simp only [Act.put, List.setIfInBounds_toArray, List.set_cons_zero, List.set_cons_succ]
                    first | (refine tw (i := 12) (v := ?_) ?_ hHeld ?_; rotate_left; focus (intro w hSw; (try dsimp only at hSw); go_simp; (try with_reducible rfl); done)) | refine tn (i := 12) hHeld ?_
                    try simp only [Act.put, List.setIfInBounds_toArray, List.set_cons_zero, List.set_cons_succ]
                    first | (refine tw (i := 13) (v := ?_) ?_ hHeld ?_; rotate_left; focus (intro w hSw; (try dsimp only at hSw); go_simp; (try with_reducible rfl); done)) | refine tn (i := 13) hHeld ?_
                    try simp only [Act.put, List.setIfInBounds_toArray, List.set_cons_zero, List.set_cons_succ]
                    first | (refine tw (i := 14) (v := ?_) ?_ hHeld ?_; rotate_left; focus (intro w hSw; (try dsimp only at hSw); go_simp; (try with_reducible rfl); done)) | refine tn (i := 14) hHeld ?_
                    try simp only [Act.put, List.setIfInBounds_toArray, List.set_cons_zero, List.set_cons_succ]
                    first | (refine tw (i := 15) (v := ?_) ?_ hHeld ?_; rotate_left; focus (intro w hSw; (try dsimp only at hSw); go_simp; (try with_reducible rfl); done)) | refine tn (i := 15) hHeld ?_
                    try simp only [Act.put, List.setIfInBounds_toArray, List.set_cons_zero, List.set_cons_succ]
                    first | (refine tw (i := 16) (v := ?_) ?_ hHeld ?_; rotate_left; focus (intro w hSw; (try dsimp only at hSw); go_simp; (try with_reducible rfl); done)) | refine tn (i := 16) hHeld ?_
                    try simp only [Act.put, List.setIfInBounds_toArray, List.set_cons_zero, List.set_cons_succ]
                    refine wpAnyH_done (by kernel_rfl) ?_ _
                    go_wp2
                    exact ⟨⟨k + 1, t + 1, c, v5, _, by omega, by go_num, by go_num, by go_num, ht2, hle2, hl2, n5⟩, by simp [intOf]; omega⟩
                  · have r1 : ∀ w, (binOp .eql 32 (.agg #[.int .i64 o1, .string o2]) (.agg #[.int .i64 X1, .string X2])).run Try.prog w = .ok (.bool false) w := fun w => by rw [und_eql, decide_eq_false hoX]
                    rw [if_neg hoX] at hcn
                    have ht2 : Hid (t = c + cnt (X1, X2) (putL (o1, o2) L)) := by show _ = _; omega
                    clear hcn hoX hE hta hla
                    go_wp2_with (first | (go_at_call 17; (with_reducible refine hlk.out.mono ?_); rintro e w3 ⟨rfl, hb3⟩; have n0 := hS.out.below hb3; have n3 := n0.below (alb w3 (.cells #[.int .i64 y1, .string y2] 32)); have z0 : (w3.alloc (.cells #[.int .i64 y1, .string y2] 32)).cell? ⟨w3.heap.size, 0, none⟩ = some (.int .i64 y1) := (by simp [go_sem]); have z1 : (w3.alloc (.cells #[.int .i64 y1, .string y2] 32)).cell? ⟨w3.heap.size, 1, none⟩ = some (.string y2) := (by simp [go_sem]); have p1 := bkeep n3.bel q1; have p2 := bkeep n3.bel q2; have p3 := bkeep n3.bel q3; have p4 := bkeep n3.bel q4; have x0 := bkeep n3.bel k0.out; have x1' := bkeep n3.bel k1.out))
                    have M0 : (w3.alloc (.cells #[.int .i64 y1, .string y2] 32)).drew.cell? ⟨g, o + k * 4 + 2, none⟩ = some (.int .i64 o1) ∧ (w3.alloc (.cells #[.int .i64 y1, .string y2] 32)).drew.cell? ⟨g, o + k * 4 + 3, none⟩ = some (.string o2) ∧ (w3.alloc (.cells #[.int .i64 y1, .string y2] 32)).drew.cell? ⟨w.heap.size, 0, none⟩ = some (.int .i64 X1) ∧ (w3.alloc (.cells #[.int .i64 y1, .string y2] 32)).drew.cell? ⟨w.heap.size, 1, none⟩ = some (.string X2) := ⟨p3, p4, x0, x1'⟩
                    refine wp_region_held_drew (S := (fun w' : World => w'.cell? ⟨g, o + k * 4 + 2, none⟩ = some (.int .i64 o1) ∧ w'.cell? ⟨g, o + k * 4 + 3, none⟩ = some (.string o2) ∧ w'.cell? ⟨w.heap.size, 0, none⟩ = some (.int .i64 X1) ∧ w'.cell? ⟨w.heap.size, 1, none⟩ = some (.string X2))) (by kernel_rfl) ?_ (fun hHeld => ?_)
                    · first | exact M0 | exact M5
                    first | (refine tw (i := 0) (v := ?_) ?_ hHeld ?_; rotate_left; focus (intro w hSw; (try dsimp only at hSw); go_simp; (try with_reducible rfl); done)) | refine tn (i := 0) hHeld ?_
                    try simp only [Act.put, List.setIfInBounds_toArray, List.set_cons_zero, List.set_cons_succ]
                    first | (refine tw (i := 1) (v := ?_) ?_ hHeld ?_; rotate_left; focus (intro w hSw; (try dsimp only at hSw); go_simp; (try with_reducible rfl); done)) | refine tn (i := 1) hHeld ?_
                    try simp only [Act.put, List.setIfInBounds_toArray, List.set_cons_zero, List.set_cons_succ]
                    first | (refine tw (i := 2) (v := ?_) ?_ hHeld ?_; rotate_left; focus (intro w hSw; (try dsimp only at hSw); go_simp; (try with_reducible rfl); done)) | refine tn (i := 2) hHeld ?_
                    try simp only [Act.put, List.setIfInBounds_toArray, List.set_cons_zero, List.set_cons_succ]
                    first | (refine tw (i := 3) (v := ?_) ?_ hHeld ?_; rotate_left; focus (intro w hSw; (try dsimp only at hSw); go_simp; (try with_reducible rfl); done)) | refine tn (i := 3) hHeld ?_
                    try simp only [Act.put, List.setIfInBounds_toArray, List.set_cons_zero, List.set_cons_succ]
                    first | (refine tw (i := 4) (v := ?_) ?_ hHeld ?_; rotate_left; focus (intro w hSw; (try dsimp only at hSw); go_simp; (try with_reducible rfl); done)) | refine tn (i := 4) hHeld ?_
                    try simp only [Act.put, List.setIfInBounds_toArray, List.set_cons_zero, List.set_cons_succ]
                    first | (refine tw (i := 5) (v := ?_) ?_ hHeld ?_; rotate_left; focus (intro w hSw; (try dsimp only at hSw); go_simp; (try with_reducible rfl); done)) | refine tn (i := 5) hHeld ?_
                    try simp only [Act.put, List.setIfInBounds_toArray, List.set_cons_zero, List.set_cons_succ]
                    refine call_next (i := 6) (by kernel_rfl) (by rfl) ?_
                    intro o ho K hK
                    simp only [List.getElem?_toArray, List.getElem?_cons_succ, List.getElem?_cons_zero, Option.some.injEq] at ho
                    subst ho
                    first | (fail; refine hK.out _ _ ?_ (fun hHeld => ?_)) | (go_simp; first | (with_reducible refine hK.out _ _ ?_ (fun hHeld => ?_)) | ((go_at_call 8; (with_reducible refine (hpt.out _ (n3.below (Below.refl _ _).drew)).mono ?_); rintro e w5 ⟨rfl, v5, n5, f5⟩; have M5 := And.intro (bkeep n5.bel q3) (And.intro (bkeep n5.bel q4) (And.intro (bkeep n5.bel k0.out) (bkeep n5.bel k1.out)))); refine hK.out _ _ ?_ (fun hHeld => ?_)))
                    · first | exact M0 | exact M5
                    clear hK K
                    try simp only [Act.put, List.setIfInBounds_toArray, List.set_cons_zero, List.set_cons_succ]
                    first | (refine tw (i := 7) (v := ?_) ?_ hHeld ?_; rotate_left; focus (intro w hSw; (try dsimp only at hSw); go_simp; (try with_reducible rfl); done)) | refine tn (i := 7) hHeld ?_
                    try simp only [Act.put, List.setIfInBounds_toArray, List.set_cons_zero, List.set_cons_succ]
                    first | (refine tw (i := 8) (v := ?_) ?_ hHeld ?_; rotate_left; focus (intro w hSw; (try dsimp only at hSw); go_simp; (try with_reducible rfl); done)) | refine tn (i := 8) hHeld ?_
                    try simp only [Act.put, List.setIfInBounds_toArray, List.set_cons_zero, List.set_cons_succ]
                    first | (refine tw (i := 9) (v := ?_) ?_ hHeld ?_; rotate_left; focus (intro w hSw; (try dsimp only at hSw); go_simp; (try with_reducible rfl); done)) | refine tn (i := 9) hHeld ?_
                    try simp only [Act.put, List.setIfInBounds_toArray, List.set_cons_zero, List.set_cons_succ]
                    first | (refine tw (i := 10) (v := ?_) ?_ hHeld ?_; rotate_left; focus (intro w hSw; (try dsimp only at hSw); go_simp; (try with_reducible rfl); done)) | refine tn (i := 10) hHeld ?_
                    try simp only [Act.put, List.setIfInBounds_toArray, List.set_cons_zero, List.set_cons_succ]
                    first | (refine tw (i := 11) (v := ?_) ?_ hHeld ?_; rotate_left; focus (intro w hSw; (try dsimp only at hSw); go_simp; (try with_reducible rfl); done)) | refine tn (i := 11) hHeld ?_
                    try simp only [Act.put, List.setIfInBounds_toArray, List.set_cons_zero, List.set_cons_succ]
                    first | (refine tw (i := 12) (v := ?_) ?_ hHeld ?_; rotate_left; focus (intro w hSw; (try dsimp only at hSw); go_simp; (try with_reducible rfl); done)) | refine tn (i := 12) hHeld ?_
                    try simp only [Act.put, List.setIfInBounds_toArray, List.set_cons_zero, List.set_cons_succ]
                    first | (refine tw (i := 13) (v := ?_) ?_ hHeld ?_; rotate_left; focus (intro w hSw; (try dsimp only at hSw); go_simp; (try with_reducible rfl); done)) | refine tn (i := 13) hHeld ?_
                    try simp only [Act.put, List.setIfInBounds_toArray, List.set_cons_zero, List.set_cons_succ]
                    first | (refine tw (i := 14) (v := ?_) ?_ hHeld ?_; rotate_left; focus (intro w hSw; (try dsimp only at hSw); go_simp; (try with_reducible rfl); done)) | refine tn (i := 14) hHeld ?_
                    try simp only [Act.put, List.setIfInBounds_toArray, List.set_cons_zero, List.set_cons_succ]
                    first | (refine tw (i := 15) (v := ?_) ?_ hHeld ?_; rotate_left; focus (intro w hSw; (try dsimp only at hSw); go_simp; (try with_reducible rfl); done)) | refine tn (i := 15) hHeld ?_
                    try simp only [Act.put, List.setIfInBounds_toArray, List.set_cons_zero, List.set_cons_succ]
                    first | (refine tw (i := 16) (v := ?_) ?_ hHeld ?_; rotate_left; focus (intro w hSw; (try dsimp only at hSw); go_simp; (try with_reducible rfl); done)) | refine tn (i := 16) hHeld ?_
                    try simp only [Act.put, List.setIfInBounds_toArray, List.set_cons_zero, List.set_cons_succ]
                    refine wpAnyH_done (by kernel_rfl) ?_ _
                    go_wp2
                    exact ⟨⟨k + 1, t, c, v5, _, by omega, by go_num, rfl, rfl, ht2, Nat.le_succ_of_le hle.out, hl2, n5⟩, by simp [intOf]; omega⟩
                · have hpt := fun W hW => put_s (B := w2.heap.size) (p := w2.heap.size) (v := v) (L := L) (w := w2) (W := W) (o1, o2) hW (Nat.le_trans hlen.out (by decide))
                  rw [put_no hE] at hpt
                  generalize putE (o1, o2) L.length = E at *
                  have e1 : (E == 0) = false := beq_eq_false_iff_ne.2 hE
                  replace hpt := Lib.hid hpt
                  clear hE
                  go_wp2_with (first | (go_at_call 17; (with_reducible refine hlk.out.mono ?_); rintro e w3 ⟨rfl, hb3⟩; have n0 := hS.out.below hb3; have n3 := n0.below (alb w3 (.cells #[.int .i64 y1, .string y2] 32)); have z0 : (w3.alloc (.cells #[.int .i64 y1, .string y2] 32)).cell? ⟨w3.heap.size, 0, none⟩ = some (.int .i64 y1) := (by simp [go_sem]); have z1 : (w3.alloc (.cells #[.int .i64 y1, .string y2] 32)).cell? ⟨w3.heap.size, 1, none⟩ = some (.string y2) := (by simp [go_sem]); have p1 := bkeep n3.bel q1; have p2 := bkeep n3.bel q2; have p3 := bkeep n3.bel q3; have p4 := bkeep n3.bel q4; have x0 := bkeep n3.bel k0.out; have x1' := bkeep n3.bel k1.out))
                  have M0 : (w3.alloc (.cells #[.int .i64 y1, .string y2] 32)).drew.cell? ⟨g, o + k * 4 + 2, none⟩ = some (.int .i64 o1) ∧ (w3.alloc (.cells #[.int .i64 y1, .string y2] 32)).drew.cell? ⟨g, o + k * 4 + 3, none⟩ = some (.string o2) ∧ (w3.alloc (.cells #[.int .i64 y1, .string y2] 32)).drew.cell? ⟨w.heap.size, 0, none⟩ = some (.int .i64 X1) ∧ (w3.alloc (.cells #[.int .i64 y1, .string y2] 32)).drew.cell? ⟨w.heap.size, 1, none⟩ = some (.string X2) := ⟨p3, p4, x0, x1'⟩
                  refine wp_region_held_drew (S := (fun w' : World => w'.cell? ⟨g, o + k * 4 + 2, none⟩ = some (.int .i64 o1) ∧ w'.cell? ⟨g, o + k * 4 + 3, none⟩ = some (.string o2) ∧ w'.cell? ⟨w.heap.size, 0, none⟩ = some (.int .i64 X1) ∧ w'.cell? ⟨w.heap.size, 1, none⟩ = some (.string X2))) (by kernel_rfl) ?_ (fun hHeld => ?_)
                  · first | exact M0 | exact M5
                  first | (refine tw (i := 0) (v := ?_) ?_ hHeld ?_; rotate_left; focus (intro w hSw; (try dsimp only at hSw); go_simp; (try with_reducible rfl); done)) | refine tn (i := 0) hHeld ?_
                  try simp only [Act.put, List.setIfInBounds_toArray, List.set_cons_zero, List.set_cons_succ]
                  first | (refine tw (i := 1) (v := ?_) ?_ hHeld ?_; rotate_left; focus (intro w hSw; (try dsimp only at hSw); go_simp; (try with_reducible rfl); done)) | refine tn (i := 1) hHeld ?_
                  try simp only [Act.put, List.setIfInBounds_toArray, List.set_cons_zero, List.set_cons_succ]
                  first | (refine tw (i := 2) (v := ?_) ?_ hHeld ?_; rotate_left; focus (intro w hSw; (try dsimp only at hSw); go_simp; (try with_reducible rfl); done)) | refine tn (i := 2) hHeld ?_
                  try simp only [Act.put, List.setIfInBounds_toArray, List.set_cons_zero, List.set_cons_succ]
                  first | (refine tw (i := 3) (v := ?_) ?_ hHeld ?_; rotate_left; focus (intro w hSw; (try dsimp only at hSw); go_simp; (try with_reducible rfl); done)) | refine tn (i := 3) hHeld ?_
                  try simp only [Act.put, List.setIfInBounds_toArray, List.set_cons_zero, List.set_cons_succ]
                  first | (refine tw (i := 4) (v := ?_) ?_ hHeld ?_; rotate_left; focus (intro w hSw; (try dsimp only at hSw); go_simp; (try with_reducible rfl); done)) | refine tn (i := 4) hHeld ?_
                  try simp only [Act.put, List.setIfInBounds_toArray, List.set_cons_zero, List.set_cons_succ]
                  first | (refine tw (i := 5) (v := ?_) ?_ hHeld ?_; rotate_left; focus (intro w hSw; (try dsimp only at hSw); go_simp; (try with_reducible rfl); done)) | refine tn (i := 5) hHeld ?_
                  try simp only [Act.put, List.setIfInBounds_toArray, List.set_cons_zero, List.set_cons_succ]
                  refine call_next (i := 6) (by kernel_rfl) (by rfl) ?_
                  intro o ho K hK
                  simp only [List.getElem?_toArray, List.getElem?_cons_succ, List.getElem?_cons_zero, Option.some.injEq] at ho
                  subst ho
                  first | (fail; refine hK.out _ _ ?_ (fun hHeld => ?_)) | (go_simp; first | (with_reducible refine hK.out _ _ ?_ (fun hHeld => ?_)) | ((go_at_call 8; (with_reducible refine (hpt.out _ (n3.below (Below.refl _ _).drew)).mono ?_); rintro e w5 ⟨rfl, v5, n5, f5⟩; have M5 := And.intro (bkeep n5.bel q3) (And.intro (bkeep n5.bel q4) (And.intro (bkeep n5.bel k0.out) (bkeep n5.bel k1.out)))); refine hK.out _ _ ?_ (fun hHeld => ?_)))
                  · first | exact M0 | exact M5
                  clear hK K
                  try simp only [Act.put, List.setIfInBounds_toArray, List.set_cons_zero, List.set_cons_succ]
                  first | (refine tw (i := 7) (v := ?_) ?_ hHeld ?_; rotate_left; focus (intro w hSw; (try dsimp only at hSw); go_simp; (try with_reducible rfl); done)) | refine tn (i := 7) hHeld ?_
                  try simp only [Act.put, List.setIfInBounds_toArray, List.set_cons_zero, List.set_cons_succ]
                  first | (refine tw (i := 8) (v := ?_) ?_ hHeld ?_; rotate_left; focus (intro w hSw; (try dsimp only at hSw); go_simp; (try with_reducible rfl); done)) | refine tn (i := 8) hHeld ?_
                  try simp only [Act.put, List.setIfInBounds_toArray, List.set_cons_zero, List.set_cons_succ]
                  first | (refine tw (i := 9) (v := ?_) ?_ hHeld ?_; rotate_left; focus (intro w hSw; (try dsimp only at hSw); go_simp; (try with_reducible rfl); done)) | refine tn (i := 9) hHeld ?_
                  try simp only [Act.put, List.setIfInBounds_toArray, List.set_cons_zero, List.set_cons_succ]
                  first | (refine tw (i := 10) (v := ?_) ?_ hHeld ?_; rotate_left; focus (intro w hSw; (try dsimp only at hSw); go_simp; (try with_reducible rfl); done)) | refine tn (i := 10) hHeld ?_
                  try simp only [Act.put, List.setIfInBounds_toArray, List.set_cons_zero, List.set_cons_succ]
                  first | (refine tw (i := 11) (v := ?_) ?_ hHeld ?_; rotate_left; focus (intro w hSw; (try dsimp only at hSw); go_simp; (try with_reducible rfl); done)) | refine tn (i := 11) hHeld ?_
                  try simp only [Act.put, List.setIfInBounds_toArray, List.set_cons_zero, List.set_cons_succ]
                  first | (refine tw (i := 12) (v := ?_) ?_ hHeld ?_; rotate_left; focus (intro w hSw; (try dsimp only at hSw); go_simp; (try with_reducible rfl); done)) | refine tn (i := 12) hHeld ?_
                  try simp only [Act.put, List.setIfInBounds_toArray, List.set_cons_zero, List.set_cons_succ]
                  first | (refine tw (i := 13) (v := ?_) ?_ hHeld ?_; rotate_left; focus (intro w hSw; (try dsimp only at hSw); go_simp; (try with_reducible rfl); done)) | refine tn (i := 13) hHeld ?_
                  try simp only [Act.put, List.setIfInBounds_toArray, List.set_cons_zero, List.set_cons_succ]
                  first | (refine tw (i := 14) (v := ?_) ?_ hHeld ?_; rotate_left; focus (intro w hSw; (try dsimp only at hSw); go_simp; (try with_reducible rfl); done)) | refine tn (i := 14) hHeld ?_
                  try simp only [Act.put, List.setIfInBounds_toArray, List.set_cons_zero, List.set_cons_succ]
                  first | (refine tw (i := 15) (v := ?_) ?_ hHeld ?_; rotate_left; focus (intro w hSw; (try dsimp only at hSw); go_simp; (try with_reducible rfl); done)) | refine tn (i := 15) hHeld ?_
                  try simp only [Act.put, List.setIfInBounds_toArray, List.set_cons_zero, List.set_cons_succ]
                  first | (refine tw (i := 16) (v := ?_) ?_ hHeld ?_; rotate_left; focus (intro w hSw; (try dsimp only at hSw); go_simp; (try with_reducible rfl); done)) | refine tn (i := 16) hHeld ?_
                  try simp only [Act.put, List.setIfInBounds_toArray, List.set_cons_zero, List.set_cons_succ]
                  refine wpAnyH_done (by kernel_rfl) ?_ _
                  go_wp2
                  exact ⟨⟨k + 1, t, c, v5, _, by omega, by go_num, rfl, rfl, ht, Nat.le_succ_of_le hle.out, hlen, n5⟩, by simp [intOf]; omega⟩
              | false =>
                rw [hdY] at hYX
                by_cases hE : putE (o1, o2) L.length = 0
                · have hpt := fun W hW => put_s (B := w2.heap.size) (p := w2.heap.size) (v := v) (L := L) (w := w2) (W := W) (o1, o2) hW (Nat.le_trans hlen.out (by decide))
                  rw [hE] at hpt
                  replace hpt := Lib.hid hpt
                  have hcn := cnt_put (X := (X1, X2)) hE
                  have hl2 : Hid ((putL (o1, o2) L).length ≤ 200) := put_len hlen.out
                  have hta := ht.out
                  have hla := hle.out
                  by_cases hoX : (o1, o2) = (X1, X2)
                  · have r1 : ∀ w, (binOp .eql 32 (.agg #[.int .i64 o1, .string o2]) (.agg #[.int .i64 X1, .string X2])).run Try.prog w = .ok (.bool true) w := fun w => by rw [und_eql, decide_eq_true hoX]
                    rw [if_pos hoX] at hcn
                    have ht2 : Hid (t + 1 = c + cnt (X1, X2) (putL (o1, o2) L)) := by show _ = _; omega
                    have hle2 : Hid (t + 1 ≤ k + 1) := by show _ ≤ _; omega
                    clear hcn hoX hE hta hla
                    go_wp2_with (first | (go_at_call 17; (with_reducible refine hlk.out.mono ?_); rintro e w3 ⟨rfl, hb3⟩; have n0 := hS.out.below hb3; have n3 := n0.below (alb w3 (.cells #[.int .i64 y1, .string y2] 32)); have z0 : (w3.alloc (.cells #[.int .i64 y1, .string y2] 32)).cell? ⟨w3.heap.size, 0, none⟩ = some (.int .i64 y1) := (by simp [go_sem]); have z1 : (w3.alloc (.cells #[.int .i64 y1, .string y2] 32)).cell? ⟨w3.heap.size, 1, none⟩ = some (.string y2) := (by simp [go_sem]); have p1 := bkeep n3.bel q1; have p2 := bkeep n3.bel q2; have p3 := bkeep n3.bel q3; have p4 := bkeep n3.bel q4; have x0 := bkeep n3.bel k0.out; have x1' := bkeep n3.bel k1.out))
                    have M0 : (w3.alloc (.cells #[.int .i64 y1, .string y2] 32)).drew.cell? ⟨g, o + k * 4 + 2, none⟩ = some (.int .i64 o1) ∧ (w3.alloc (.cells #[.int .i64 y1, .string y2] 32)).drew.cell? ⟨g, o + k * 4 + 3, none⟩ = some (.string o2) ∧ (w3.alloc (.cells #[.int .i64 y1, .string y2] 32)).drew.cell? ⟨w.heap.size, 0, none⟩ = some (.int .i64 X1) ∧ (w3.alloc (.cells #[.int .i64 y1, .string y2] 32)).drew.cell? ⟨w.heap.size, 1, none⟩ = some (.string X2) := ⟨p3, p4, x0, x1'⟩
                    refine wp_region_held_drew (S := (fun w' : World => w'.cell? ⟨g, o + k * 4 + 2, none⟩ = some (.int .i64 o1) ∧ w'.cell? ⟨g, o + k * 4 + 3, none⟩ = some (.string o2) ∧ w'.cell? ⟨w.heap.size, 0, none⟩ = some (.int .i64 X1) ∧ w'.cell? ⟨w.heap.size, 1, none⟩ = some (.string X2))) (by kernel_rfl) ?_ (fun hHeld => ?_)
                    · first | exact M0 | exact M5
                    first | (refine tw (i := 0) (v := ?_) ?_ hHeld ?_; rotate_left; focus (intro w hSw; (try dsimp only at hSw); go_simp; (try with_reducible rfl); done)) | refine tn (i := 0) hHeld ?_
                    try simp only [Act.put, List.setIfInBounds_toArray, List.set_cons_zero, List.set_cons_succ]
                    first | (refine tw (i := 1) (v := ?_) ?_ hHeld ?_; rotate_left; focus (intro w hSw; (try dsimp only at hSw); go_simp; (try with_reducible rfl); done)) | refine tn (i := 1) hHeld ?_
                    try simp only [Act.put, List.setIfInBounds_toArray, List.set_cons_zero, List.set_cons_succ]
                    first | (refine tw (i := 2) (v := ?_) ?_ hHeld ?_; rotate_left; focus (intro w hSw; (try dsimp only at hSw); go_simp; (try with_reducible rfl); done)) | refine tn (i := 2) hHeld ?_
                    try simp only [Act.put, List.setIfInBounds_toArray, List.set_cons_zero, List.set_cons_succ]
                    first | (refine tw (i := 3) (v := ?_) ?_ hHeld ?_; rotate_left; focus (intro w hSw; (try dsimp only at hSw); go_simp; (try with_reducible rfl); done)) | refine tn (i := 3) hHeld ?_
                    try simp only [Act.put, List.setIfInBounds_toArray, List.set_cons_zero, List.set_cons_succ]
                    first | (refine tw (i := 4) (v := ?_) ?_ hHeld ?_; rotate_left; focus (intro w hSw; (try dsimp only at hSw); go_simp; (try with_reducible rfl); done)) | refine tn (i := 4) hHeld ?_
                    try simp only [Act.put, List.setIfInBounds_toArray, List.set_cons_zero, List.set_cons_succ]
                    first | (refine tw (i := 5) (v := ?_) ?_ hHeld ?_; rotate_left; focus (intro w hSw; (try dsimp only at hSw); go_simp; (try with_reducible rfl); done)) | refine tn (i := 5) hHeld ?_
                    try simp only [Act.put, List.setIfInBounds_toArray, List.set_cons_zero, List.set_cons_succ]
                    refine call_next (i := 6) (by kernel_rfl) (by rfl) ?_
                    intro o ho K hK
                    simp only [List.getElem?_toArray, List.getElem?_cons_succ, List.getElem?_cons_zero, Option.some.injEq] at ho
                    subst ho
                    first | (fail; refine hK.out _ _ ?_ (fun hHeld => ?_)) | (go_simp; first | (with_reducible refine hK.out _ _ ?_ (fun hHeld => ?_)) | ((go_at_call 8; (with_reducible refine (hpt.out _ (n3.below (Below.refl _ _).drew)).mono ?_); rintro e w5 ⟨rfl, v5, n5, f5⟩; have M5 := And.intro (bkeep n5.bel q3) (And.intro (bkeep n5.bel q4) (And.intro (bkeep n5.bel k0.out) (bkeep n5.bel k1.out)))); refine hK.out _ _ ?_ (fun hHeld => ?_)))
                    · first | exact M0 | exact M5
                    clear hK K
                    try simp only [Act.put, List.setIfInBounds_toArray, List.set_cons_zero, List.set_cons_succ]
                    first | (refine tw (i := 7) (v := ?_) ?_ hHeld ?_; rotate_left; focus (intro w hSw; (try dsimp only at hSw); go_simp; (try with_reducible rfl); done)) | refine tn (i := 7) hHeld ?_
                    try simp only [Act.put, List.setIfInBounds_toArray, List.set_cons_zero, List.set_cons_succ]
                    first | (refine tw (i := 8) (v := ?_) ?_ hHeld ?_; rotate_left; focus (intro w hSw; (try dsimp only at hSw); go_simp; (try with_reducible rfl); done)) | refine tn (i := 8) hHeld ?_
                    try simp only [Act.put, List.setIfInBounds_toArray, List.set_cons_zero, List.set_cons_succ]
                    first | (refine tw (i := 9) (v := ?_) ?_ hHeld ?_; rotate_left; focus (intro w hSw; (try dsimp only at hSw); go_simp; (try with_reducible rfl); done)) | refine tn (i := 9) hHeld ?_
                    try simp only [Act.put, List.setIfInBounds_toArray, List.set_cons_zero, List.set_cons_succ]
                    first | (refine tw (i := 10) (v := ?_) ?_ hHeld ?_; rotate_left; focus (intro w hSw; (try dsimp only at hSw); go_simp; (try with_reducible rfl); done)) | refine tn (i := 10) hHeld ?_
                    try simp only [Act.put, List.setIfInBounds_toArray, List.set_cons_zero, List.set_cons_succ]
                    first | (refine tw (i := 11) (v := ?_) ?_ hHeld ?_; rotate_left; focus (intro w hSw; (try dsimp only at hSw); go_simp; (try with_reducible rfl); done)) | refine tn (i := 11) hHeld ?_
                    try simp only [Act.put, List.setIfInBounds_toArray, List.set_cons_zero, List.set_cons_succ]
                    first | (refine tw (i := 12) (v := ?_) ?_ hHeld ?_; rotate_left; focus (intro w hSw; (try dsimp only at hSw); go_simp; (try with_reducible rfl); done)) | refine tn (i := 12) hHeld ?_
                    try simp only [Act.put, List.setIfInBounds_toArray, List.set_cons_zero, List.set_cons_succ]
                    first | (refine tw (i := 13) (v := ?_) ?_ hHeld ?_; rotate_left; focus (intro w hSw; (try dsimp only at hSw); go_simp; (try with_reducible rfl); done)) | refine tn (i := 13) hHeld ?_
                    try simp only [Act.put, List.setIfInBounds_toArray, List.set_cons_zero, List.set_cons_succ]
                    first | (refine tw (i := 14) (v := ?_) ?_ hHeld ?_; rotate_left; focus (intro w hSw; (try dsimp only at hSw); go_simp; (try with_reducible rfl); done)) | refine tn (i := 14) hHeld ?_
                    try simp only [Act.put, List.setIfInBounds_toArray, List.set_cons_zero, List.set_cons_succ]
                    first | (refine tw (i := 15) (v := ?_) ?_ hHeld ?_; rotate_left; focus (intro w hSw; (try dsimp only at hSw); go_simp; (try with_reducible rfl); done)) | refine tn (i := 15) hHeld ?_
                    try simp only [Act.put, List.setIfInBounds_toArray, List.set_cons_zero, List.set_cons_succ]
                    first | (refine tw (i := 16) (v := ?_) ?_ hHeld ?_; rotate_left; focus (intro w hSw; (try dsimp only at hSw); go_simp; (try with_reducible rfl); done)) | refine tn (i := 16) hHeld ?_
                    try simp only [Act.put, List.setIfInBounds_toArray, List.set_cons_zero, List.set_cons_succ]
                    refine wpAnyH_done (by kernel_rfl) ?_ _
                    go_wp2
                    exact ⟨⟨k + 1, t + 1, c, v5, _, by omega, by go_num, by go_num, by go_num, ht2, hle2, hl2, n5⟩, by simp [intOf]; omega⟩
                  · have r1 : ∀ w, (binOp .eql 32 (.agg #[.int .i64 o1, .string o2]) (.agg #[.int .i64 X1, .string X2])).run Try.prog w = .ok (.bool false) w := fun w => by rw [und_eql, decide_eq_false hoX]
                    rw [if_neg hoX] at hcn
                    have ht2 : Hid (t = c + cnt (X1, X2) (putL (o1, o2) L)) := by show _ = _; omega
                    clear hcn hoX hE hta hla
                    go_wp2_with (first | (go_at_call 17; (with_reducible refine hlk.out.mono ?_); rintro e w3 ⟨rfl, hb3⟩; have n0 := hS.out.below hb3; have n3 := n0.below (alb w3 (.cells #[.int .i64 y1, .string y2] 32)); have z0 : (w3.alloc (.cells #[.int .i64 y1, .string y2] 32)).cell? ⟨w3.heap.size, 0, none⟩ = some (.int .i64 y1) := (by simp [go_sem]); have z1 : (w3.alloc (.cells #[.int .i64 y1, .string y2] 32)).cell? ⟨w3.heap.size, 1, none⟩ = some (.string y2) := (by simp [go_sem]); have p1 := bkeep n3.bel q1; have p2 := bkeep n3.bel q2; have p3 := bkeep n3.bel q3; have p4 := bkeep n3.bel q4; have x0 := bkeep n3.bel k0.out; have x1' := bkeep n3.bel k1.out))
                    have M0 : (w3.alloc (.cells #[.int .i64 y1, .string y2] 32)).drew.cell? ⟨g, o + k * 4 + 2, none⟩ = some (.int .i64 o1) ∧ (w3.alloc (.cells #[.int .i64 y1, .string y2] 32)).drew.cell? ⟨g, o + k * 4 + 3, none⟩ = some (.string o2) ∧ (w3.alloc (.cells #[.int .i64 y1, .string y2] 32)).drew.cell? ⟨w.heap.size, 0, none⟩ = some (.int .i64 X1) ∧ (w3.alloc (.cells #[.int .i64 y1, .string y2] 32)).drew.cell? ⟨w.heap.size, 1, none⟩ = some (.string X2) := ⟨p3, p4, x0, x1'⟩
                    refine wp_region_held_drew (S := (fun w' : World => w'.cell? ⟨g, o + k * 4 + 2, none⟩ = some (.int .i64 o1) ∧ w'.cell? ⟨g, o + k * 4 + 3, none⟩ = some (.string o2) ∧ w'.cell? ⟨w.heap.size, 0, none⟩ = some (.int .i64 X1) ∧ w'.cell? ⟨w.heap.size, 1, none⟩ = some (.string X2))) (by kernel_rfl) ?_ (fun hHeld => ?_)
                    · first | exact M0 | exact M5
                    first | (refine tw (i := 0) (v := ?_) ?_ hHeld ?_; rotate_left; focus (intro w hSw; (try dsimp only at hSw); go_simp; (try with_reducible rfl); done)) | refine tn (i := 0) hHeld ?_
                    try simp only [Act.put, List.setIfInBounds_toArray, List.set_cons_zero, List.set_cons_succ]
                    first | (refine tw (i := 1) (v := ?_) ?_ hHeld ?_; rotate_left; focus (intro w hSw; (try dsimp only at hSw); go_simp; (try with_reducible rfl); done)) | refine tn (i := 1) hHeld ?_
                    try simp only [Act.put, List.setIfInBounds_toArray, List.set_cons_zero, List.set_cons_succ]
                    first | (refine tw (i := 2) (v := ?_) ?_ hHeld ?_; rotate_left; focus (intro w hSw; (try dsimp only at hSw); go_simp; (try with_reducible rfl); done)) | refine tn (i := 2) hHeld ?_
                    try simp only [Act.put, List.setIfInBounds_toArray, List.set_cons_zero, List.set_cons_succ]
                    first | (refine tw (i := 3) (v := ?_) ?_ hHeld ?_; rotate_left; focus (intro w hSw; (try dsimp only at hSw); go_simp; (try with_reducible rfl); done)) | refine tn (i := 3) hHeld ?_
                    try simp only [Act.put, List.setIfInBounds_toArray, List.set_cons_zero, List.set_cons_succ]
                    first | (refine tw (i := 4) (v := ?_) ?_ hHeld ?_; rotate_left; focus (intro w hSw; (try dsimp only at hSw); go_simp; (try with_reducible rfl); done)) | refine tn (i := 4) hHeld ?_
                    try simp only [Act.put, List.setIfInBounds_toArray, List.set_cons_zero, List.set_cons_succ]
                    first | (refine tw (i := 5) (v := ?_) ?_ hHeld ?_; rotate_left; focus (intro w hSw; (try dsimp only at hSw); go_simp; (try with_reducible rfl); done)) | refine tn (i := 5) hHeld ?_
                    try simp only [Act.put, List.setIfInBounds_toArray, List.set_cons_zero, List.set_cons_succ]
                    refine call_next (i := 6) (by kernel_rfl) (by rfl) ?_
                    intro o ho K hK
                    simp only [List.getElem?_toArray, List.getElem?_cons_succ, List.getElem?_cons_zero, Option.some.injEq] at ho
                    subst ho
                    first | (fail; refine hK.out _ _ ?_ (fun hHeld => ?_)) | (go_simp; first | (with_reducible refine hK.out _ _ ?_ (fun hHeld => ?_)) | ((go_at_call 8; (with_reducible refine (hpt.out _ (n3.below (Below.refl _ _).drew)).mono ?_); rintro e w5 ⟨rfl, v5, n5, f5⟩; have M5 := And.intro (bkeep n5.bel q3) (And.intro (bkeep n5.bel q4) (And.intro (bkeep n5.bel k0.out) (bkeep n5.bel k1.out)))); refine hK.out _ _ ?_ (fun hHeld => ?_)))
                    · first | exact M0 | exact M5
                    clear hK K
                    try simp only [Act.put, List.setIfInBounds_toArray, List.set_cons_zero, List.set_cons_succ]
                    first | (refine tw (i := 7) (v := ?_) ?_ hHeld ?_; rotate_left; focus (intro w hSw; (try dsimp only at hSw); go_simp; (try with_reducible rfl); done)) | refine tn (i := 7) hHeld ?_
                    try simp only [Act.put, List.setIfInBounds_toArray, List.set_cons_zero, List.set_cons_succ]
                    first | (refine tw (i := 8) (v := ?_) ?_ hHeld ?_; rotate_left; focus (intro w hSw; (try dsimp only at hSw); go_simp; (try with_reducible rfl); done)) | refine tn (i := 8) hHeld ?_
                    try simp only [Act.put, List.setIfInBounds_toArray, List.set_cons_zero, List.set_cons_succ]
                    first | (refine tw (i := 9) (v := ?_) ?_ hHeld ?_; rotate_left; focus (intro w hSw; (try dsimp only at hSw); go_simp; (try with_reducible rfl); done)) | refine tn (i := 9) hHeld ?_
                    try simp only [Act.put, List.setIfInBounds_toArray, List.set_cons_zero, List.set_cons_succ]
                    first | (refine tw (i := 10) (v := ?_) ?_ hHeld ?_; rotate_left; focus (intro w hSw; (try dsimp only at hSw); go_simp; (try with_reducible rfl); done)) | refine tn (i := 10) hHeld ?_
                    try simp only [Act.put, List.setIfInBounds_toArray, List.set_cons_zero, List.set_cons_succ]
                    first | (refine tw (i := 11) (v := ?_) ?_ hHeld ?_; rotate_left; focus (intro w hSw; (try dsimp only at hSw); go_simp; (try with_reducible rfl); done)) | refine tn (i := 11) hHeld ?_
                    try simp only [Act.put, List.setIfInBounds_toArray, List.set_cons_zero, List.set_cons_succ]
                    first | (refine tw (i := 12) (v := ?_) ?_ hHeld ?_; rotate_left; focus (intro w hSw; (try dsimp only at hSw); go_simp; (try with_reducible rfl); done)) | refine tn (i := 12) hHeld ?_
                    try simp only [Act.put, List.setIfInBounds_toArray, List.set_cons_zero, List.set_cons_succ]
                    first | (refine tw (i := 13) (v := ?_) ?_ hHeld ?_; rotate_left; focus (intro w hSw; (try dsimp only at hSw); go_simp; (try with_reducible rfl); done)) | refine tn (i := 13) hHeld ?_
                    try simp only [Act.put, List.setIfInBounds_toArray, List.set_cons_zero, List.set_cons_succ]
                    first | (refine tw (i := 14) (v := ?_) ?_ hHeld ?_; rotate_left; focus (intro w hSw; (try dsimp only at hSw); go_simp; (try with_reducible rfl); done)) | refine tn (i := 14) hHeld ?_
                    try simp only [Act.put, List.setIfInBounds_toArray, List.set_cons_zero, List.set_cons_succ]
                    first | (refine tw (i := 15) (v := ?_) ?_ hHeld ?_; rotate_left; focus (intro w hSw; (try dsimp only at hSw); go_simp; (try with_reducible rfl); done)) | refine tn (i := 15) hHeld ?_
                    try simp only [Act.put, List.setIfInBounds_toArray, List.set_cons_zero, List.set_cons_succ]
                    first | (refine tw (i := 16) (v := ?_) ?_ hHeld ?_; rotate_left; focus (intro w hSw; (try dsimp only at hSw); go_simp; (try with_reducible rfl); done)) | refine tn (i := 16) hHeld ?_
                    try simp only [Act.put, List.setIfInBounds_toArray, List.set_cons_zero, List.set_cons_succ]
                    refine wpAnyH_done (by kernel_rfl) ?_ _
                    go_wp2
                    exact ⟨⟨k + 1, t, c, v5, _, by omega, by go_num, rfl, rfl, ht2, Nat.le_succ_of_le hle.out, hl2, n5⟩, by simp [intOf]; omega⟩
                · have hpt := fun W hW => put_s (B := w2.heap.size) (p := w2.heap.size) (v := v) (L := L) (w := w2) (W := W) (o1, o2) hW (Nat.le_trans hlen.out (by decide))
                  rw [put_no hE] at hpt
                  generalize putE (o1, o2) L.length = E at *
                  have e1 : (E == 0) = false := beq_eq_false_iff_ne.2 hE
                  replace hpt := Lib.hid hpt
                  clear hE
                  go_wp2_with (first | (go_at_call 17; (with_reducible refine hlk.out.mono ?_); rintro e w3 ⟨rfl, hb3⟩; have n0 := hS.out.below hb3; have n3 := n0.below (alb w3 (.cells #[.int .i64 y1, .string y2] 32)); have z0 : (w3.alloc (.cells #[.int .i64 y1, .string y2] 32)).cell? ⟨w3.heap.size, 0, none⟩ = some (.int .i64 y1) := (by simp [go_sem]); have z1 : (w3.alloc (.cells #[.int .i64 y1, .string y2] 32)).cell? ⟨w3.heap.size, 1, none⟩ = some (.string y2) := (by simp [go_sem]); have p1 := bkeep n3.bel q1; have p2 := bkeep n3.bel q2; have p3 := bkeep n3.bel q3; have p4 := bkeep n3.bel q4; have x0 := bkeep n3.bel k0.out; have x1' := bkeep n3.bel k1.out))
                  have M0 : (w3.alloc (.cells #[.int .i64 y1, .string y2] 32)).drew.cell? ⟨g, o + k * 4 + 2, none⟩ = some (.int .i64 o1) ∧ (w3.alloc (.cells #[.int .i64 y1, .string y2] 32)).drew.cell? ⟨g, o + k * 4 + 3, none⟩ = some (.string o2) ∧ (w3.alloc (.cells #[.int .i64 y1, .string y2] 32)).drew.cell? ⟨w.heap.size, 0, none⟩ = some (.int .i64 X1) ∧ (w3.alloc (.cells #[.int .i64 y1, .string y2] 32)).drew.cell? ⟨w.heap.size, 1, none⟩ = some (.string X2) := ⟨p3, p4, x0, x1'⟩
                  refine wp_region_held_drew (S := (fun w' : World => w'.cell? ⟨g, o + k * 4 + 2, none⟩ = some (.int .i64 o1) ∧ w'.cell? ⟨g, o + k * 4 + 3, none⟩ = some (.string o2) ∧ w'.cell? ⟨w.heap.size, 0, none⟩ = some (.int .i64 X1) ∧ w'.cell? ⟨w.heap.size, 1, none⟩ = some (.string X2))) (by kernel_rfl) ?_ (fun hHeld => ?_)
                  · first | exact M0 | exact M5
                  first | (refine tw (i := 0) (v := ?_) ?_ hHeld ?_; rotate_left; focus (intro w hSw; (try dsimp only at hSw); go_simp; (try with_reducible rfl); done)) | refine tn (i := 0) hHeld ?_
                  try simp only [Act.put, List.setIfInBounds_toArray, List.set_cons_zero, List.set_cons_succ]
                  first | (refine tw (i := 1) (v := ?_) ?_ hHeld ?_; rotate_left; focus (intro w hSw; (try dsimp only at hSw); go_simp; (try with_reducible rfl); done)) | refine tn (i := 1) hHeld ?_
                  try simp only [Act.put, List.setIfInBounds_toArray, List.set_cons_zero, List.set_cons_succ]
                  first | (refine tw (i := 2) (v := ?_) ?_ hHeld ?_; rotate_left; focus (intro w hSw; (try dsimp only at hSw); go_simp; (try with_reducible rfl); done)) | refine tn (i := 2) hHeld ?_
                  try simp only [Act.put, List.setIfInBounds_toArray, List.set_cons_zero, List.set_cons_succ]
                  first | (refine tw (i := 3) (v := ?_) ?_ hHeld ?_; rotate_left; focus (intro w hSw; (try dsimp only at hSw); go_simp; (try with_reducible rfl); done)) | refine tn (i := 3) hHeld ?_
                  try simp only [Act.put, List.setIfInBounds_toArray, List.set_cons_zero, List.set_cons_succ]
                  first | (refine tw (i := 4) (v := ?_) ?_ hHeld ?_; rotate_left; focus (intro w hSw; (try dsimp only at hSw); go_simp; (try with_reducible rfl); done)) | refine tn (i := 4) hHeld ?_
                  try simp only [Act.put, List.setIfInBounds_toArray, List.set_cons_zero, List.set_cons_succ]
                  first | (refine tw (i := 5) (v := ?_) ?_ hHeld ?_; rotate_left; focus (intro w hSw; (try dsimp only at hSw); go_simp; (try with_reducible rfl); done)) | refine tn (i := 5) hHeld ?_
                  try simp only [Act.put, List.setIfInBounds_toArray, List.set_cons_zero, List.set_cons_succ]
                  refine call_next (i := 6) (by kernel_rfl) (by rfl) ?_
                  intro o ho K hK
                  simp only [List.getElem?_toArray, List.getElem?_cons_succ, List.getElem?_cons_zero, Option.some.injEq] at ho
                  subst ho
                  first | (fail; refine hK.out _ _ ?_ (fun hHeld => ?_)) | (go_simp; first | (with_reducible refine hK.out _ _ ?_ (fun hHeld => ?_)) | ((go_at_call 8; (with_reducible refine (hpt.out _ (n3.below (Below.refl _ _).drew)).mono ?_); rintro e w5 ⟨rfl, v5, n5, f5⟩; have M5 := And.intro (bkeep n5.bel q3) (And.intro (bkeep n5.bel q4) (And.intro (bkeep n5.bel k0.out) (bkeep n5.bel k1.out)))); refine hK.out _ _ ?_ (fun hHeld => ?_)))
                  · first | exact M0 | exact M5
                  clear hK K
                  try simp only [Act.put, List.setIfInBounds_toArray, List.set_cons_zero, List.set_cons_succ]
                  first | (refine tw (i := 7) (v := ?_) ?_ hHeld ?_; rotate_left; focus (intro w hSw; (try dsimp only at hSw); go_simp; (try with_reducible rfl); done)) | refine tn (i := 7) hHeld ?_
                  try simp only [Act.put, List.setIfInBounds_toArray, List.set_cons_zero, List.set_cons_succ]
                  first | (refine tw (i := 8) (v := ?_) ?_ hHeld ?_; rotate_left; focus (intro w hSw; (try dsimp only at hSw); go_simp; (try with_reducible rfl); done)) | refine tn (i := 8) hHeld ?_
                  try simp only [Act.put, List.setIfInBounds_toArray, List.set_cons_zero, List.set_cons_succ]
                  first | (refine tw (i := 9) (v := ?_) ?_ hHeld ?_; rotate_left; focus (intro w hSw; (try dsimp only at hSw); go_simp; (try with_reducible rfl); done)) | refine tn (i := 9) hHeld ?_
                  try simp only [Act.put, List.setIfInBounds_toArray, List.set_cons_zero, List.set_cons_succ]
                  first | (refine tw (i := 10) (v := ?_) ?_ hHeld ?_; rotate_left; focus (intro w hSw; (try dsimp only at hSw); go_simp; (try with_reducible rfl); done)) | refine tn (i := 10) hHeld ?_
                  try simp only [Act.put, List.setIfInBounds_toArray, List.set_cons_zero, List.set_cons_succ]
                  first | (refine tw (i := 11) (v := ?_) ?_ hHeld ?_; rotate_left; focus (intro w hSw; (try dsimp only at hSw); go_simp; (try with_reducible rfl); done)) | refine tn (i := 11) hHeld ?_
                  try simp only [Act.put, List.setIfInBounds_toArray, List.set_cons_zero, List.set_cons_succ]
                  first | (refine tw (i := 12) (v := ?_) ?_ hHeld ?_; rotate_left; focus (intro w hSw; (try dsimp only at hSw); go_simp; (try with_reducible rfl); done)) | refine tn (i := 12) hHeld ?_
                  try simp only [Act.put, List.setIfInBounds_toArray, List.set_cons_zero, List.set_cons_succ]
                  first | (refine tw (i := 13) (v := ?_) ?_ hHeld ?_; rotate_left; focus (intro w hSw; (try dsimp only at hSw); go_simp; (try with_reducible rfl); done)) | refine tn (i := 13) hHeld ?_
                  try simp only [Act.put, List.setIfInBounds_toArray, List.set_cons_zero, List.set_cons_succ]
                  first | (refine tw (i := 14) (v := ?_) ?_ hHeld ?_; rotate_left; focus (intro w hSw; (try dsimp only at hSw); go_simp; (try with_reducible rfl); done)) | refine tn (i := 14) hHeld ?_
                  try simp only [Act.put, List.setIfInBounds_toArray, List.set_cons_zero, List.set_cons_succ]
                  first | (refine tw (i := 15) (v := ?_) ?_ hHeld ?_; rotate_left; focus (intro w hSw; (try dsimp only at hSw); go_simp; (try with_reducible rfl); done)) | refine tn (i := 15) hHeld ?_
                  try simp only [Act.put, List.setIfInBounds_toArray, List.set_cons_zero, List.set_cons_succ]
                  first | (refine tw (i := 16) (v := ?_) ?_ hHeld ?_; rotate_left; focus (intro w hSw; (try dsimp only at hSw); go_simp; (try with_reducible rfl); done)) | refine tn (i := 16) hHeld ?_
                  try simp only [Act.put, List.setIfInBounds_toArray, List.set_cons_zero, List.set_cons_succ]
                  refine wpAnyH_done (by kernel_rfl) ?_ _
                  go_wp2
                  exact ⟨⟨k + 1, t, c, v5, _, by omega, by go_num, rfl, rfl, ht, Nat.le_succ_of_le hle.out, hlen, n5⟩, by simp [intOf]; omega⟩
          · have e0 : (kd == 0) = false := beq_eq_false_iff_ne.2 hkd
            by_cases hk1 : kd = 1
            · subst hk1
              cases b with
              | false =>
                by_cases hE : putE (o1, o2) L.length = 0
                · have hpt := fun W hW => put_s (B := w2.heap.size) (p := w2.heap.size) (v := v) (L := L) (w := w2) (W := W) (o1, o2) hW (Nat.le_trans hlen.out (by decide))
                  rw [hE] at hpt
                  replace hpt := Lib.hid hpt
                  have hcn := cnt_put (X := (X1, X2)) hE
                  have hl2 : Hid ((putL (o1, o2) L).length ≤ 200) := put_len hlen.out
                  have hta := ht.out
                  have hla := hle.out
                  by_cases hoX : (o1, o2) = (X1, X2)
                  · have r1 : ∀ w, (binOp .eql 32 (.agg #[.int .i64 o1, .string o2]) (.agg #[.int .i64 X1, .string X2])).run Try.prog w = .ok (.bool true) w := fun w => by rw [und_eql, decide_eq_true hoX]
                    rw [if_pos hoX] at hcn
                    have ht2 : Hid (t + 1 = c + cnt (X1, X2) (putL (o1, o2) L)) := by show _ = _; omega
                    have hle2 : Hid (t + 1 ≤ k + 1) := by show _ ≤ _; omega
                    clear hcn hoX hE hta hla
                    go_wp2_with (first | (go_at_call 17; (with_reducible refine hlk.out.mono ?_); rintro e w3 ⟨rfl, hb3⟩; have n0 := hS.out.below hb3; have n3 := n0.below (alb w3 (.cells #[.int .i64 y1, .string y2] 32)); have z0 : (w3.alloc (.cells #[.int .i64 y1, .string y2] 32)).cell? ⟨w3.heap.size, 0, none⟩ = some (.int .i64 y1) := (by simp [go_sem]); have z1 : (w3.alloc (.cells #[.int .i64 y1, .string y2] 32)).cell? ⟨w3.heap.size, 1, none⟩ = some (.string y2) := (by simp [go_sem]); have p1 := bkeep n3.bel q1; have p2 := bkeep n3.bel q2; have p3 := bkeep n3.bel q3; have p4 := bkeep n3.bel q4; have x0 := bkeep n3.bel k0.out; have x1' := bkeep n3.bel k1.out))
                    have M0 : (w3.alloc (.cells #[.int .i64 y1, .string y2] 32)).drew.cell? ⟨g, o + k * 4 + 2, none⟩ = some (.int .i64 o1) ∧ (w3.alloc (.cells #[.int .i64 y1, .string y2] 32)).drew.cell? ⟨g, o + k * 4 + 3, none⟩ = some (.string o2) ∧ (w3.alloc (.cells #[.int .i64 y1, .string y2] 32)).drew.cell? ⟨w.heap.size, 0, none⟩ = some (.int .i64 X1) ∧ (w3.alloc (.cells #[.int .i64 y1, .string y2] 32)).drew.cell? ⟨w.heap.size, 1, none⟩ = some (.string X2) := ⟨p3, p4, x0, x1'⟩
                    refine wp_region_held_drew (S := (fun w' : World => w'.cell? ⟨g, o + k * 4 + 2, none⟩ = some (.int .i64 o1) ∧ w'.cell? ⟨g, o + k * 4 + 3, none⟩ = some (.string o2) ∧ w'.cell? ⟨w.heap.size, 0, none⟩ = some (.int .i64 X1) ∧ w'.cell? ⟨w.heap.size, 1, none⟩ = some (.string X2))) (by kernel_rfl) ?_ (fun hHeld => ?_)
                    · first | exact M0 | exact M5
                    first | (refine tw (i := 0) (v := ?_) ?_ hHeld ?_; rotate_left; focus (intro w hSw; (try dsimp only at hSw); go_simp; (try with_reducible rfl); done)) | refine tn (i := 0) hHeld ?_
                    try simp only [Act.put, List.setIfInBounds_toArray, List.set_cons_zero, List.set_cons_succ]
                    first | (refine tw (i := 1) (v := ?_) ?_ hHeld ?_; rotate_left; focus (intro w hSw; (try dsimp only at hSw); go_simp; (try with_reducible rfl); done)) | refine tn (i := 1) hHeld ?_
                    try simp only [Act.put, List.setIfInBounds_toArray, List.set_cons_zero, List.set_cons_succ]
                    first | (refine tw (i := 2) (v := ?_) ?_ hHeld ?_; rotate_left; focus (intro w hSw; (try dsimp only at hSw); go_simp; (try with_reducible rfl); done)) | refine tn (i := 2) hHeld ?_
                    try simp only [Act.put, List.setIfInBounds_toArray, List.set_cons_zero, List.set_cons_succ]
                    first | (refine tw (i := 3) (v := ?_) ?_ hHeld ?_; rotate_left; focus (intro w hSw; (try dsimp only at hSw); go_simp; (try with_reducible rfl); done)) | refine tn (i := 3) hHeld ?_
                    try simp only [Act.put, List.setIfInBounds_toArray, List.set_cons_zero, List.set_cons_succ]
                    first | (refine tw (i := 4) (v := ?_) ?_ hHeld ?_; rotate_left; focus (intro w hSw; (try dsimp only at hSw); go_simp; (try with_reducible rfl); done)) | refine tn (i := 4) hHeld ?_
                    try simp only [Act.put, List.setIfInBounds_toArray, List.set_cons_zero, List.set_cons_succ]
                    first | (refine tw (i := 5) (v := ?_) ?_ hHeld ?_; rotate_left; focus (intro w hSw; (try dsimp only at hSw); go_simp; (try with_reducible rfl); done)) | refine tn (i := 5) hHeld ?_
                    try simp only [Act.put, List.setIfInBounds_toArray, List.set_cons_zero, List.set_cons_succ]
                    refine call_next (i := 6) (by kernel_rfl) (by rfl) ?_
                    intro o ho K hK
                    simp only [List.getElem?_toArray, List.getElem?_cons_succ, List.getElem?_cons_zero, Option.some.injEq] at ho
                    subst ho
                    first | (fail; refine hK.out _ _ ?_ (fun hHeld => ?_)) | (go_simp; first | (with_reducible refine hK.out _ _ ?_ (fun hHeld => ?_)) | ((go_at_call 8; (with_reducible refine (hpt.out _ (n3.below (Below.refl _ _).drew)).mono ?_); rintro e w5 ⟨rfl, v5, n5, f5⟩; have M5 := And.intro (bkeep n5.bel q3) (And.intro (bkeep n5.bel q4) (And.intro (bkeep n5.bel k0.out) (bkeep n5.bel k1.out)))); refine hK.out _ _ ?_ (fun hHeld => ?_)))
                    · first | exact M0 | exact M5
                    clear hK K
                    try simp only [Act.put, List.setIfInBounds_toArray, List.set_cons_zero, List.set_cons_succ]
                    first | (refine tw (i := 7) (v := ?_) ?_ hHeld ?_; rotate_left; focus (intro w hSw; (try dsimp only at hSw); go_simp; (try with_reducible rfl); done)) | refine tn (i := 7) hHeld ?_
                    try simp only [Act.put, List.setIfInBounds_toArray, List.set_cons_zero, List.set_cons_succ]
                    first | (refine tw (i := 8) (v := ?_) ?_ hHeld ?_; rotate_left; focus (intro w hSw; (try dsimp only at hSw); go_simp; (try with_reducible rfl); done)) | refine tn (i := 8) hHeld ?_
                    try simp only [Act.put, List.setIfInBounds_toArray, List.set_cons_zero, List.set_cons_succ]
                    first | (refine tw (i := 9) (v := ?_) ?_ hHeld ?_; rotate_left; focus (intro w hSw; (try dsimp only at hSw); go_simp; (try with_reducible rfl); done)) | refine tn (i := 9) hHeld ?_
                    try simp only [Act.put, List.setIfInBounds_toArray, List.set_cons_zero, List.set_cons_succ]
                    first | (refine tw (i := 10) (v := ?_) ?_ hHeld ?_; rotate_left; focus (intro w hSw; (try dsimp only at hSw); go_simp; (try with_reducible rfl); done)) | refine tn (i := 10) hHeld ?_
                    try simp only [Act.put, List.setIfInBounds_toArray, List.set_cons_zero, List.set_cons_succ]
                    first | (refine tw (i := 11) (v := ?_) ?_ hHeld ?_; rotate_left; focus (intro w hSw; (try dsimp only at hSw); go_simp; (try with_reducible rfl); done)) | refine tn (i := 11) hHeld ?_
                    try simp only [Act.put, List.setIfInBounds_toArray, List.set_cons_zero, List.set_cons_succ]
                    first | (refine tw (i := 12) (v := ?_) ?_ hHeld ?_; rotate_left; focus (intro w hSw; (try dsimp only at hSw); go_simp; (try with_reducible rfl); done)) | refine tn (i := 12) hHeld ?_
                    try simp only [Act.put, List.setIfInBounds_toArray, List.set_cons_zero, List.set_cons_succ]
                    first | (refine tw (i := 13) (v := ?_) ?_ hHeld ?_; rotate_left; focus (intro w hSw; (try dsimp only at hSw); go_simp; (try with_reducible rfl); done)) | refine tn (i := 13) hHeld ?_
                    try simp only [Act.put, List.setIfInBounds_toArray, List.set_cons_zero, List.set_cons_succ]
                    first | (refine tw (i := 14) (v := ?_) ?_ hHeld ?_; rotate_left; focus (intro w hSw; (try dsimp only at hSw); go_simp; (try with_reducible rfl); done)) | refine tn (i := 14) hHeld ?_
                    try simp only [Act.put, List.setIfInBounds_toArray, List.set_cons_zero, List.set_cons_succ]
                    first | (refine tw (i := 15) (v := ?_) ?_ hHeld ?_; rotate_left; focus (intro w hSw; (try dsimp only at hSw); go_simp; (try with_reducible rfl); done)) | refine tn (i := 15) hHeld ?_
                    try simp only [Act.put, List.setIfInBounds_toArray, List.set_cons_zero, List.set_cons_succ]
                    first | (refine tw (i := 16) (v := ?_) ?_ hHeld ?_; rotate_left; focus (intro w hSw; (try dsimp only at hSw); go_simp; (try with_reducible rfl); done)) | refine tn (i := 16) hHeld ?_
                    try simp only [Act.put, List.setIfInBounds_toArray, List.set_cons_zero, List.set_cons_succ]
                    refine wpAnyH_done (by kernel_rfl) ?_ _
                    go_wp2
                    exact ⟨⟨k + 1, t + 1, c, v5, _, by omega, by go_num, by go_num, by go_num, ht2, hle2, hl2, n5⟩, by simp [intOf]; omega⟩
                  · have r1 : ∀ w, (binOp .eql 32 (.agg #[.int .i64 o1, .string o2]) (.agg #[.int .i64 X1, .string X2])).run Try.prog w = .ok (.bool false) w := fun w => by rw [und_eql, decide_eq_false hoX]
                    rw [if_neg hoX] at hcn
                    have ht2 : Hid (t = c + cnt (X1, X2) (putL (o1, o2) L)) := by show _ = _; omega
                    clear hcn hoX hE hta hla
                    go_wp2_with (first | (go_at_call 17; (with_reducible refine hlk.out.mono ?_); rintro e w3 ⟨rfl, hb3⟩; have n0 := hS.out.below hb3; have n3 := n0.below (alb w3 (.cells #[.int .i64 y1, .string y2] 32)); have z0 : (w3.alloc (.cells #[.int .i64 y1, .string y2] 32)).cell? ⟨w3.heap.size, 0, none⟩ = some (.int .i64 y1) := (by simp [go_sem]); have z1 : (w3.alloc (.cells #[.int .i64 y1, .string y2] 32)).cell? ⟨w3.heap.size, 1, none⟩ = some (.string y2) := (by simp [go_sem]); have p1 := bkeep n3.bel q1; have p2 := bkeep n3.bel q2; have p3 := bkeep n3.bel q3; have p4 := bkeep n3.bel q4; have x0 := bkeep n3.bel k0.out; have x1' := bkeep n3.bel k1.out))
                    have M0 : (w3.alloc (.cells #[.int .i64 y1, .string y2] 32)).drew.cell? ⟨g, o + k * 4 + 2, none⟩ = some (.int .i64 o1) ∧ (w3.alloc (.cells #[.int .i64 y1, .string y2] 32)).drew.cell? ⟨g, o + k * 4 + 3, none⟩ = some (.string o2) ∧ (w3.alloc (.cells #[.int .i64 y1, .string y2] 32)).drew.cell? ⟨w.heap.size, 0, none⟩ = some (.int .i64 X1) ∧ (w3.alloc (.cells #[.int .i64 y1, .string y2] 32)).drew.cell? ⟨w.heap.size, 1, none⟩ = some (.string X2) := ⟨p3, p4, x0, x1'⟩
                    refine wp_region_held_drew (S := (fun w' : World => w'.cell? ⟨g, o + k * 4 + 2, none⟩ = some (.int .i64 o1) ∧ w'.cell? ⟨g, o + k * 4 + 3, none⟩ = some (.string o2) ∧ w'.cell? ⟨w.heap.size, 0, none⟩ = some (.int .i64 X1) ∧ w'.cell? ⟨w.heap.size, 1, none⟩ = some (.string X2))) (by kernel_rfl) ?_ (fun hHeld => ?_)
                    · first | exact M0 | exact M5
                    first | (refine tw (i := 0) (v := ?_) ?_ hHeld ?_; rotate_left; focus (intro w hSw; (try dsimp only at hSw); go_simp; (try with_reducible rfl); done)) | refine tn (i := 0) hHeld ?_
                    try simp only [Act.put, List.setIfInBounds_toArray, List.set_cons_zero, List.set_cons_succ]
                    first | (refine tw (i := 1) (v := ?_) ?_ hHeld ?_; rotate_left; focus (intro w hSw; (try dsimp only at hSw); go_simp; (try with_reducible rfl); done)) | refine tn (i := 1) hHeld ?_
                    try simp only [Act.put, List.setIfInBounds_toArray, List.set_cons_zero, List.set_cons_succ]
                    first | (refine tw (i := 2) (v := ?_) ?_ hHeld ?_; rotate_left; focus (intro w hSw; (try dsimp only at hSw); go_simp; (try with_reducible rfl); done)) | refine tn (i := 2) hHeld ?_
                    try simp only [Act.put, List.setIfInBounds_toArray, List.set_cons_zero, List.set_cons_succ]
                    first | (refine tw (i := 3) (v := ?_) ?_ hHeld ?_; rotate_left; focus (intro w hSw; (try dsimp only at hSw); go_simp; (try with_reducible rfl); done)) | refine tn (i := 3) hHeld ?_
                    try simp only [Act.put, List.setIfInBounds_toArray, List.set_cons_zero, List.set_cons_succ]
                    first | (refine tw (i := 4) (v := ?_) ?_ hHeld ?_; rotate_left; focus (intro w hSw; (try dsimp only at hSw); go_simp; (try with_reducible rfl); done)) | refine tn (i := 4) hHeld ?_
                    try simp only [Act.put, List.setIfInBounds_toArray, List.set_cons_zero, List.set_cons_succ]
                    first | (refine tw (i := 5) (v := ?_) ?_ hHeld ?_; rotate_left; focus (intro w hSw; (try dsimp only at hSw); go_simp; (try with_reducible rfl); done)) | refine tn (i := 5) hHeld ?_
                    try simp only [Act.put, List.setIfInBounds_toArray, List.set_cons_zero, List.set_cons_succ]
                    refine call_next (i := 6) (by kernel_rfl) (by rfl) ?_
                    intro o ho K hK
                    simp only [List.getElem?_toArray, List.getElem?_cons_succ, List.getElem?_cons_zero, Option.some.injEq] at ho
                    subst ho
                    first | (fail; refine hK.out _ _ ?_ (fun hHeld => ?_)) | (go_simp; first | (with_reducible refine hK.out _ _ ?_ (fun hHeld => ?_)) | ((go_at_call 8; (with_reducible refine (hpt.out _ (n3.below (Below.refl _ _).drew)).mono ?_); rintro e w5 ⟨rfl, v5, n5, f5⟩; have M5 := And.intro (bkeep n5.bel q3) (And.intro (bkeep n5.bel q4) (And.intro (bkeep n5.bel k0.out) (bkeep n5.bel k1.out)))); refine hK.out _ _ ?_ (fun hHeld => ?_)))
                    · first | exact M0 | exact M5
                    clear hK K
                    try simp only [Act.put, List.setIfInBounds_toArray, List.set_cons_zero, List.set_cons_succ]
                    first | (refine tw (i := 7) (v := ?_) ?_ hHeld ?_; rotate_left; focus (intro w hSw; (try dsimp only at hSw); go_simp; (try with_reducible rfl); done)) | refine tn (i := 7) hHeld ?_
                    try simp only [Act.put, List.setIfInBounds_toArray, List.set_cons_zero, List.set_cons_succ]
                    first | (refine tw (i := 8) (v := ?_) ?_ hHeld ?_; rotate_left; focus (intro w hSw; (try dsimp only at hSw); go_simp; (try with_reducible rfl); done)) | refine tn (i := 8) hHeld ?_
                    try simp only [Act.put, List.setIfInBounds_toArray, List.set_cons_zero, List.set_cons_succ]
                    first | (refine tw (i := 9) (v := ?_) ?_ hHeld ?_; rotate_left; focus (intro w hSw; (try dsimp only at hSw); go_simp; (try with_reducible rfl); done)) | refine tn (i := 9) hHeld ?_
                    try simp only [Act.put, List.setIfInBounds_toArray, List.set_cons_zero, List.set_cons_succ]
                    first | (refine tw (i := 10) (v := ?_) ?_ hHeld ?_; rotate_left; focus (intro w hSw; (try dsimp only at hSw); go_simp; (try with_reducible rfl); done)) | refine tn (i := 10) hHeld ?_
                    try simp only [Act.put, List.setIfInBounds_toArray, List.set_cons_zero, List.set_cons_succ]
                    first | (refine tw (i := 11) (v := ?_) ?_ hHeld ?_; rotate_left; focus (intro w hSw; (try dsimp only at hSw); go_simp; (try with_reducible rfl); done)) | refine tn (i := 11) hHeld ?_
                    try simp only [Act.put, List.setIfInBounds_toArray, List.set_cons_zero, List.set_cons_succ]
                    first | (refine tw (i := 12) (v := ?_) ?_ hHeld ?_; rotate_left; focus (intro w hSw; (try dsimp only at hSw); go_simp; (try with_reducible rfl); done)) | refine tn (i := 12) hHeld ?_
                    try simp only [Act.put, List.setIfInBounds_toArray, List.set_cons_zero, List.set_cons_succ]
                    first | (refine tw (i := 13) (v := ?_) ?_ hHeld ?_; rotate_left; focus (intro w hSw; (try dsimp only at hSw); go_simp; (try with_reducible rfl); done)) | refine tn (i := 13) hHeld ?_
                    try simp only [Act.put, List.setIfInBounds_toArray, List.set_cons_zero, List.set_cons_succ]
                    first | (refine tw (i := 14) (v := ?_) ?_ hHeld ?_; rotate_left; focus (intro w hSw; (try dsimp only at hSw); go_simp; (try with_reducible rfl); done)) | refine tn (i := 14) hHeld ?_
                    try simp only [Act.put, List.setIfInBounds_toArray, List.set_cons_zero, List.set_cons_succ]
                    first | (refine tw (i := 15) (v := ?_) ?_ hHeld ?_; rotate_left; focus (intro w hSw; (try dsimp only at hSw); go_simp; (try with_reducible rfl); done)) | refine tn (i := 15) hHeld ?_
                    try simp only [Act.put, List.setIfInBounds_toArray, List.set_cons_zero, List.set_cons_succ]
                    first | (refine tw (i := 16) (v := ?_) ?_ hHeld ?_; rotate_left; focus (intro w hSw; (try dsimp only at hSw); go_simp; (try with_reducible rfl); done)) | refine tn (i := 16) hHeld ?_
                    try simp only [Act.put, List.setIfInBounds_toArray, List.set_cons_zero, List.set_cons_succ]
                    refine wpAnyH_done (by kernel_rfl) ?_ _
                    go_wp2
                    exact ⟨⟨k + 1, t, c, v5, _, by omega, by go_num, rfl, rfl, ht2, Nat.le_succ_of_le hle.out, hl2, n5⟩, by simp [intOf]; omega⟩
                · have hpt := fun W hW => put_s (B := w2.heap.size) (p := w2.heap.size) (v := v) (L := L) (w := w2) (W := W) (o1, o2) hW (Nat.le_trans hlen.out (by decide))
                  rw [put_no hE] at hpt
                  generalize putE (o1, o2) L.length = E at *
                  have e1 : (E == 0) = false := beq_eq_false_iff_ne.2 hE
                  replace hpt := Lib.hid hpt
                  clear hE
                  go_wp2_with (first | (go_at_call 17; (with_reducible refine hlk.out.mono ?_); rintro e w3 ⟨rfl, hb3⟩; have n0 := hS.out.below hb3; have n3 := n0.below (alb w3 (.cells #[.int .i64 y1, .string y2] 32)); have z0 : (w3.alloc (.cells #[.int .i64 y1, .string y2] 32)).cell? ⟨w3.heap.size, 0, none⟩ = some (.int .i64 y1) := (by simp [go_sem]); have z1 : (w3.alloc (.cells #[.int .i64 y1, .string y2] 32)).cell? ⟨w3.heap.size, 1, none⟩ = some (.string y2) := (by simp [go_sem]); have p1 := bkeep n3.bel q1; have p2 := bkeep n3.bel q2; have p3 := bkeep n3.bel q3; have p4 := bkeep n3.bel q4; have x0 := bkeep n3.bel k0.out; have x1' := bkeep n3.bel k1.out))
                  have M0 : (w3.alloc (.cells #[.int .i64 y1, .string y2] 32)).drew.cell? ⟨g, o + k * 4 + 2, none⟩ = some (.int .i64 o1) ∧ (w3.alloc (.cells #[.int .i64 y1, .string y2] 32)).drew.cell? ⟨g, o + k * 4 + 3, none⟩ = some (.string o2) ∧ (w3.alloc (.cells #[.int .i64 y1, .string y2] 32)).drew.cell? ⟨w.heap.size, 0, none⟩ = some (.int .i64 X1) ∧ (w3.alloc (.cells #[.int .i64 y1, .string y2] 32)).drew.cell? ⟨w.heap.size, 1, none⟩ = some (.string X2) := ⟨p3, p4, x0, x1'⟩
                  refine wp_region_held_drew (S := (fun w' : World => w'.cell? ⟨g, o + k * 4 + 2, none⟩ = some (.int .i64 o1) ∧ w'.cell? ⟨g, o + k * 4 + 3, none⟩ = some (.string o2) ∧ w'.cell? ⟨w.heap.size, 0, none⟩ = some (.int .i64 X1) ∧ w'.cell? ⟨w.heap.size, 1, none⟩ = some (.string X2))) (by kernel_rfl) ?_ (fun hHeld => ?_)
                  · first | exact M0 | exact M5
                  first | (refine tw (i := 0) (v := ?_) ?_ hHeld ?_; rotate_left; focus (intro w hSw; (try dsimp only at hSw); go_simp; (try with_reducible rfl); done)) | refine tn (i := 0) hHeld ?_
                  try simp only [Act.put, List.setIfInBounds_toArray, List.set_cons_zero, List.set_cons_succ]
                  first | (refine tw (i := 1) (v := ?_) ?_ hHeld ?_; rotate_left; focus (intro w hSw; (try dsimp only at hSw); go_simp; (try with_reducible rfl); done)) | refine tn (i := 1) hHeld ?_
                  try simp only [Act.put, List.setIfInBounds_toArray, List.set_cons_zero, List.set_cons_succ]
                  first | (refine tw (i := 2) (v := ?_) ?_ hHeld ?_; rotate_left; focus (intro w hSw; (try dsimp only at hSw); go_simp; (try with_reducible rfl); done)) | refine tn (i := 2) hHeld ?_
                  try simp only [Act.put, List.setIfInBounds_toArray, List.set_cons_zero, List.set_cons_succ]
                  first | (refine tw (i := 3) (v := ?_) ?_ hHeld ?_; rotate_left; focus (intro w hSw; (try dsimp only at hSw); go_simp; (try with_reducible rfl); done)) | refine tn (i := 3) hHeld ?_
                  try simp only [Act.put, List.setIfInBounds_toArray, List.set_cons_zero, List.set_cons_succ]
                  first | (refine tw (i := 4) (v := ?_) ?_ hHeld ?_; rotate_left; focus (intro w hSw; (try dsimp only at hSw); go_simp; (try with_reducible rfl); done)) | refine tn (i := 4) hHeld ?_
                  try simp only [Act.put, List.setIfInBounds_toArray, List.set_cons_zero, List.set_cons_succ]
                  first | (refine tw (i := 5) (v := ?_) ?_ hHeld ?_; rotate_left; focus (intro w hSw; (try dsimp only at hSw); go_simp; (try with_reducible rfl); done)) | refine tn (i := 5) hHeld ?_
                  try simp only [Act.put, List.setIfInBounds_toArray, List.set_cons_zero, List.set_cons_succ]
                  refine call_next (i := 6) (by kernel_rfl) (by rfl) ?_
                  intro o ho K hK
                  simp only [List.getElem?_toArray, List.getElem?_cons_succ, List.getElem?_cons_zero, Option.some.injEq] at ho
                  subst ho
                  first | (fail; refine hK.out _ _ ?_ (fun hHeld => ?_)) | (go_simp; first | (with_reducible refine hK.out _ _ ?_ (fun hHeld => ?_)) | ((go_at_call 8; (with_reducible refine (hpt.out _ (n3.below (Below.refl _ _).drew)).mono ?_); rintro e w5 ⟨rfl, v5, n5, f5⟩; have M5 := And.intro (bkeep n5.bel q3) (And.intro (bkeep n5.bel q4) (And.intro (bkeep n5.bel k0.out) (bkeep n5.bel k1.out)))); refine hK.out _ _ ?_ (fun hHeld => ?_)))
                  · first | exact M0 | exact M5
                  clear hK K
                  try simp only [Act.put, List.setIfInBounds_toArray, List.set_cons_zero, List.set_cons_succ]
                  first | (refine tw (i := 7) (v := ?_) ?_ hHeld ?_; rotate_left; focus (intro w hSw; (try dsimp only at hSw); go_simp; (try with_reducible rfl); done)) | refine tn (i := 7) hHeld ?_
                  try simp only [Act.put, List.setIfInBounds_toArray, List.set_cons_zero, List.set_cons_succ]
                  first | (refine tw (i := 8) (v := ?_) ?_ hHeld ?_; rotate_left; focus (intro w hSw; (try dsimp only at hSw); go_simp; (try with_reducible rfl); done)) | refine tn (i := 8) hHeld ?_
                  try simp only [Act.put, List.setIfInBounds_toArray, List.set_cons_zero, List.set_cons_succ]
                  first | (refine tw (i := 9) (v := ?_) ?_ hHeld ?_; rotate_left; focus (intro w hSw; (try dsimp only at hSw); go_simp; (try with_reducible rfl); done)) | refine tn (i := 9) hHeld ?_
                  try simp only [Act.put, List.setIfInBounds_toArray, List.set_cons_zero, List.set_cons_succ]
                  first | (refine tw (i := 10) (v := ?_) ?_ hHeld ?_; rotate_left; focus (intro w hSw; (try dsimp only at hSw); go_simp; (try with_reducible rfl); done)) | refine tn (i := 10) hHeld ?_
                  try simp only [Act.put, List.setIfInBounds_toArray, List.set_cons_zero, List.set_cons_succ]
                  first | (refine tw (i := 11) (v := ?_) ?_ hHeld ?_; rotate_left; focus (intro w hSw; (try dsimp only at hSw); go_simp; (try with_reducible rfl); done)) | refine tn (i := 11) hHeld ?_
                  try simp only [Act.put, List.setIfInBounds_toArray, List.set_cons_zero, List.set_cons_succ]
                  first | (refine tw (i := 12) (v := ?_) ?_ hHeld ?_; rotate_left; focus (intro w hSw; (try dsimp only at hSw); go_simp; (try with_reducible rfl); done)) | refine tn (i := 12) hHeld ?_
                  try simp only [Act.put, List.setIfInBounds_toArray, List.set_cons_zero, List.set_cons_succ]
                  first | (refine tw (i := 13) (v := ?_) ?_ hHeld ?_; rotate_left; focus (intro w hSw; (try dsimp only at hSw); go_simp; (try with_reducible rfl); done)) | refine tn (i := 13) hHeld ?_
                  try simp only [Act.put, List.setIfInBounds_toArray, List.set_cons_zero, List.set_cons_succ]
                  first | (refine tw (i := 14) (v := ?_) ?_ hHeld ?_; rotate_left; focus (intro w hSw; (try dsimp only at hSw); go_simp; (try with_reducible rfl); done)) | refine tn (i := 14) hHeld ?_
                  try simp only [Act.put, List.setIfInBounds_toArray, List.set_cons_zero, List.set_cons_succ]
                  first | (refine tw (i := 15) (v := ?_) ?_ hHeld ?_; rotate_left; focus (intro w hSw; (try dsimp only at hSw); go_simp; (try with_reducible rfl); done)) | refine tn (i := 15) hHeld ?_
                  try simp only [Act.put, List.setIfInBounds_toArray, List.set_cons_zero, List.set_cons_succ]
                  first | (refine tw (i := 16) (v := ?_) ?_ hHeld ?_; rotate_left; focus (intro w hSw; (try dsimp only at hSw); go_simp; (try with_reducible rfl); done)) | refine tn (i := 16) hHeld ?_
                  try simp only [Act.put, List.setIfInBounds_toArray, List.set_cons_zero, List.set_cons_succ]
                  refine wpAnyH_done (by kernel_rfl) ?_ _
                  go_wp2
                  exact ⟨⟨k + 1, t, c, v5, _, by omega, by go_num, rfl, rfl, ht, Nat.le_succ_of_le hle.out, hlen, n5⟩, by simp [intOf]; omega⟩
              | true =>
                cases hdY : decide ((y1, y2) = (X1, X2)) with
                | true =>
                  rw [hdY] at hYX
                  by_cases hE : putE (o1, o2) L.length = 0
                  · have hpt := fun W hW => put_s (B := w2.heap.size) (p := w2.heap.size) (v := v) (L := L) (w := w2) (W := W) (o1, o2) hW (Nat.le_trans hlen.out (by decide))
                    rw [hE] at hpt
                    replace hpt := Lib.hid hpt
                    have hcn := cnt_put (X := (X1, X2)) hE
                    have hl2 : Hid ((putL (o1, o2) L).length ≤ 200) := put_len hlen.out
                    have hta := ht.out
                    have hla := hle.out
                    by_cases hoX : (o1, o2) = (X1, X2)
                    · have r1 : ∀ w, (binOp .eql 32 (.agg #[.int .i64 o1, .string o2]) (.agg #[.int .i64 X1, .string X2])).run Try.prog w = .ok (.bool true) w := fun w => by rw [und_eql, decide_eq_true hoX]
                      rw [if_pos hoX] at hcn
                      have ht2 : Hid (t + 1 = c + cnt (X1, X2) (putL (o1, o2) L)) := by show _ = _; omega
                      have hle2 : Hid (t + 1 ≤ k + 1) := by show _ ≤ _; omega
                      clear hcn hoX hE hta hla
                      go_wp2_with (first | (go_at_call 17; (with_reducible refine hlk.out.mono ?_); rintro e w3 ⟨rfl, hb3⟩; have n0 := hS.out.below hb3; have n3 := n0.below (alb w3 (.cells #[.int .i64 y1, .string y2] 32)); have z0 : (w3.alloc (.cells #[.int .i64 y1, .string y2] 32)).cell? ⟨w3.heap.size, 0, none⟩ = some (.int .i64 y1) := (by simp [go_sem]); have z1 : (w3.alloc (.cells #[.int .i64 y1, .string y2] 32)).cell? ⟨w3.heap.size, 1, none⟩ = some (.string y2) := (by simp [go_sem]); have p1 := bkeep n3.bel q1; have p2 := bkeep n3.bel q2; have p3 := bkeep n3.bel q3; have p4 := bkeep n3.bel q4; have x0 := bkeep n3.bel k0.out; have x1' := bkeep n3.bel k1.out))
                      have M0 : (w3.alloc (.cells #[.int .i64 y1, .string y2] 32)).drew.cell? ⟨g, o + k * 4 + 2, none⟩ = some (.int .i64 o1) ∧ (w3.alloc (.cells #[.int .i64 y1, .string y2] 32)).drew.cell? ⟨g, o + k * 4 + 3, none⟩ = some (.string o2) ∧ (w3.alloc (.cells #[.int .i64 y1, .string y2] 32)).drew.cell? ⟨w.heap.size, 0, none⟩ = some (.int .i64 X1) ∧ (w3.alloc (.cells #[.int .i64 y1, .string y2] 32)).drew.cell? ⟨w.heap.size, 1, none⟩ = some (.string X2) := ⟨p3, p4, x0, x1'⟩
                      refine wp_region_held_drew (S := (fun w' : World => w'.cell? ⟨g, o + k * 4 + 2, none⟩ = some (.int .i64 o1) ∧ w'.cell? ⟨g, o + k * 4 + 3, none⟩ = some (.string o2) ∧ w'.cell? ⟨w.heap.size, 0, none⟩ = some (.int .i64 X1) ∧ w'.cell? ⟨w.heap.size, 1, none⟩ = some (.string X2))) (by kernel_rfl) ?_ (fun hHeld => ?_)
                      · first | exact M0 | exact M5
                      first | (refine tw (i := 0) (v := ?_) ?_ hHeld ?_; rotate_left; focus (intro w hSw; (try dsimp only at hSw); go_simp; (try with_reducible rfl); done)) | refine tn (i := 0) hHeld ?_
                      try simp only [Act.put, List.setIfInBounds_toArray, List.set_cons_zero, List.set_cons_succ]
                      first | (refine tw (i := 1) (v := ?_) ?_ hHeld ?_; rotate_left; focus (intro w hSw; (try dsimp only at hSw); go_simp; (try with_reducible rfl); done)) | refine tn (i := 1) hHeld ?_
                      try simp only [Act.put, List.setIfInBounds_toArray, List.set_cons_zero, List.set_cons_succ]
                      first | (refine tw (i := 2) (v := ?_) ?_ hHeld ?_; rotate_left; focus (intro w hSw; (try dsimp only at hSw); go_simp; (try with_reducible rfl); done)) | refine tn (i := 2) hHeld ?_
                      try simp only [Act.put, List.setIfInBounds_toArray, List.set_cons_zero, List.set_cons_succ]
                      first | (refine tw (i := 3) (v := ?_) ?_ hHeld ?_; rotate_left; focus (intro w hSw; (try dsimp only at hSw); go_simp; (try with_reducible rfl); done)) | refine tn (i := 3) hHeld ?_
                      try simp only [Act.put, List.setIfInBounds_toArray, List.set_cons_zero, List.set_cons_succ]
                      first | (refine tw (i := 4) (v := ?_) ?_ hHeld ?_; rotate_left; focus (intro w hSw; (try dsimp only at hSw); go_simp; (try with_reducible rfl); done)) | refine tn (i := 4) hHeld ?_
                      try simp only [Act.put, List.setIfInBounds_toArray, List.set_cons_zero, List.set_cons_succ]
                      first | (refine tw (i := 5) (v := ?_) ?_ hHeld ?_; rotate_left; focus (intro w hSw; (try dsimp only at hSw); go_simp; (try with_reducible rfl); done)) | refine tn (i := 5) hHeld ?_
                      try simp only [Act.put, List.setIfInBounds_toArray, List.set_cons_zero, List.set_cons_succ]
                      refine call_next (i := 6) (by kernel_rfl) (by rfl) ?_
                      intro o ho K hK
                      simp only [List.getElem?_toArray, List.getElem?_cons_succ, List.getElem?_cons_zero, Option.some.injEq] at ho
                      subst ho
                      first | (fail; refine hK.out _ _ ?_ (fun hHeld => ?_)) | (go_simp; first | (with_reducible refine hK.out _ _ ?_ (fun hHeld => ?_)) | ((go_at_call 8; (with_reducible refine (hpt.out _ (n3.below (Below.refl _ _).drew)).mono ?_); rintro e w5 ⟨rfl, v5, n5, f5⟩; have M5 := And.intro (bkeep n5.bel q3) (And.intro (bkeep n5.bel q4) (And.intro (bkeep n5.bel k0.out) (bkeep n5.bel k1.out)))); refine hK.out _ _ ?_ (fun hHeld => ?_)))
                      · first | exact M0 | exact M5
                      clear hK K
                      try simp only [Act.put, List.setIfInBounds_toArray, List.set_cons_zero, List.set_cons_succ]
                      first | (refine tw (i := 7) (v := ?_) ?_ hHeld ?_; rotate_left; focus (intro w hSw; (try dsimp only at hSw); go_simp; (try with_reducible rfl); done)) | refine tn (i := 7) hHeld ?_
                      try simp only [Act.put, List.setIfInBounds_toArray, List.set_cons_zero, List.set_cons_succ]
                      first | (refine tw (i := 8) (v := ?_) ?_ hHeld ?_; rotate_left; focus (intro w hSw; (try dsimp only at hSw); go_simp; (try with_reducible rfl); done)) | refine tn (i := 8) hHeld ?_
                      try simp only [Act.put, List.setIfInBounds_toArray, List.set_cons_zero, List.set_cons_succ]
                      first | (refine tw (i := 9) (v := ?_) ?_ hHeld ?_; rotate_left; focus (intro w hSw; (try dsimp only at hSw); go_simp; (try with_reducible rfl); done)) | refine tn (i := 9) hHeld ?_
                      try simp only [Act.put, List.setIfInBounds_toArray, List.set_cons_zero, List.set_cons_succ]
                      first | (refine tw (i := 10) (v := ?_) ?_ hHeld ?_; rotate_left; focus (intro w hSw; (try dsimp only at hSw); go_simp; (try with_reducible rfl); done)) | refine tn (i := 10) hHeld ?_
                      try simp only [Act.put, List.setIfInBounds_toArray, List.set_cons_zero, List.set_cons_succ]
                      first | (refine tw (i := 11) (v := ?_) ?_ hHeld ?_; rotate_left; focus (intro w hSw; (try dsimp only at hSw); go_simp; (try with_reducible rfl); done)) | refine tn (i := 11) hHeld ?_
                      try simp only [Act.put, List.setIfInBounds_toArray, List.set_cons_zero, List.set_cons_succ]
                      first | (refine tw (i := 12) (v := ?_) ?_ hHeld ?_; rotate_left; focus (intro w hSw; (try dsimp only at hSw); go_simp; (try with_reducible rfl); done)) | refine tn (i := 12) hHeld ?_
                      try simp only [Act.put, List.setIfInBounds_toArray, List.set_cons_zero, List.set_cons_succ]
                      first | (refine tw (i := 13) (v := ?_) ?_ hHeld ?_; rotate_left; focus (intro w hSw; (try dsimp only at hSw); go_simp; (try with_reducible rfl); done)) | refine tn (i := 13) hHeld ?_
                      try simp only [Act.put, List.setIfInBounds_toArray, List.set_cons_zero, List.set_cons_succ]
                      first | (refine tw (i := 14) (v := ?_) ?_ hHeld ?_; rotate_left; focus (intro w hSw; (try dsimp only at hSw); go_simp; (try with_reducible rfl); done)) | refine tn (i := 14) hHeld ?_
                      try simp only [Act.put, List.setIfInBounds_toArray, List.set_cons_zero, List.set_cons_succ]
                      first | (refine tw (i := 15) (v := ?_) ?_ hHeld ?_; rotate_left; focus (intro w hSw; (try dsimp only at hSw); go_simp; (try with_reducible rfl); done)) | refine tn (i := 15) hHeld ?_
                      try simp only [Act.put, List.setIfInBounds_toArray, List.set_cons_zero, List.set_cons_succ]
                      first | (refine tw (i := 16) (v := ?_) ?_ hHeld ?_; rotate_left; focus (intro w hSw; (try dsimp only at hSw); go_simp; (try with_reducible rfl); done)) | refine tn (i := 16) hHeld ?_
                      try simp only [Act.put, List.setIfInBounds_toArray, List.set_cons_zero, List.set_cons_succ]
                      refine wpAnyH_done (by kernel_rfl) ?_ _
                      go_wp2
                      exact ⟨⟨k + 1, t + 1, c, v5, _, by omega, by go_num, by go_num, by go_num, ht2, hle2, hl2, n5⟩, by simp [intOf]; omega⟩
                    · have r1 : ∀ w, (binOp .eql 32 (.agg #[.int .i64 o1, .string o2]) (.agg #[.int .i64 X1, .string X2])).run Try.prog w = .ok (.bool false) w := fun w => by rw [und_eql, decide_eq_false hoX]
                      rw [if_neg hoX] at hcn
                      have ht2 : Hid (t = c + cnt (X1, X2) (putL (o1, o2) L)) := by show _ = _; omega
                      clear hcn hoX hE hta hla
                      go_wp2_with (first | (go_at_call 17; (with_reducible refine hlk.out.mono ?_); rintro e w3 ⟨rfl, hb3⟩; have n0 := hS.out.below hb3; have n3 := n0.below (alb w3 (.cells #[.int .i64 y1, .string y2] 32)); have z0 : (w3.alloc (.cells #[.int .i64 y1, .string y2] 32)).cell? ⟨w3.heap.size, 0, none⟩ = some (.int .i64 y1) := (by simp [go_sem]); have z1 : (w3.alloc (.cells #[.int .i64 y1, .string y2] 32)).cell? ⟨w3.heap.size, 1, none⟩ = some (.string y2) := (by simp [go_sem]); have p1 := bkeep n3.bel q1; have p2 := bkeep n3.bel q2; have p3 := bkeep n3.bel q3; have p4 := bkeep n3.bel q4; have x0 := bkeep n3.bel k0.out; have x1' := bkeep n3.bel k1.out))
                      have M0 : (w3.alloc (.cells #[.int .i64 y1, .string y2] 32)).drew.cell? ⟨g, o + k * 4 + 2, none⟩ = some (.int .i64 o1) ∧ (w3.alloc (.cells #[.int .i64 y1, .string y2] 32)).drew.cell? ⟨g, o + k * 4 + 3, none⟩ = some (.string o2) ∧ (w3.alloc (.cells #[.int .i64 y1, .string y2] 32)).drew.cell? ⟨w.heap.size, 0, none⟩ = some (.int .i64 X1) ∧ (w3.alloc (.cells #[.int .i64 y1, .string y2] 32)).drew.cell? ⟨w.heap.size, 1, none⟩ = some (.string X2) := ⟨p3, p4, x0, x1'⟩
                      refine wp_region_held_drew (S := (fun w' : World => w'.cell? ⟨g, o + k * 4 + 2, none⟩ = some (.int .i64 o1) ∧ w'.cell? ⟨g, o + k * 4 + 3, none⟩ = some (.string o2) ∧ w'.cell? ⟨w.heap.size, 0, none⟩ = some (.int .i64 X1) ∧ w'.cell? ⟨w.heap.size, 1, none⟩ = some (.string X2))) (by kernel_rfl) ?_ (fun hHeld => ?_)
                      · first | exact M0 | exact M5
                      first | (refine tw (i := 0) (v := ?_) ?_ hHeld ?_; rotate_left; focus (intro w hSw; (try dsimp only at hSw); go_simp; (try with_reducible rfl); done)) | refine tn (i := 0) hHeld ?_
                      try simp only [Act.put, List.setIfInBounds_toArray, List.set_cons_zero, List.set_cons_succ]
                      first | (refine tw (i := 1) (v := ?_) ?_ hHeld ?_; rotate_left; focus (intro w hSw; (try dsimp only at hSw); go_simp; (try with_reducible rfl); done)) | refine tn (i := 1) hHeld ?_
                      try simp only [Act.put, List.setIfInBounds_toArray, List.set_cons_zero, List.set_cons_succ]
                      first | (refine tw (i := 2) (v := ?_) ?_ hHeld ?_; rotate_left; focus (intro w hSw; (try dsimp only at hSw); go_simp; (try with_reducible rfl); done)) | refine tn (i := 2) hHeld ?_
                      try simp only [Act.put, List.setIfInBounds_toArray, List.set_cons_zero, List.set_cons_succ]
                      first | (refine tw (i := 3) (v := ?_) ?_ hHeld ?_; rotate_left; focus (intro w hSw; (try dsimp only at hSw); go_simp; (try with_reducible rfl); done)) | refine tn (i := 3) hHeld ?_
                      try simp only [Act.put, List.setIfInBounds_toArray, List.set_cons_zero, List.set_cons_succ]
                      first | (refine tw (i := 4) (v := ?_) ?_ hHeld ?_; rotate_left; focus (intro w hSw; (try dsimp only at hSw); go_simp; (try with_reducible rfl); done)) | refine tn (i := 4) hHeld ?_
                      try simp only [Act.put, List.setIfInBounds_toArray, List.set_cons_zero, List.set_cons_succ]
                      first | (refine tw (i := 5) (v := ?_) ?_ hHeld ?_; rotate_left; focus (intro w hSw; (try dsimp only at hSw); go_simp; (try with_reducible rfl); done)) | refine tn (i := 5) hHeld ?_
                      try simp only [Act.put, List.setIfInBounds_toArray, List.set_cons_zero, List.set_cons_succ]
                      refine call_next (i := 6) (by kernel_rfl) (by rfl) ?_
                      intro o ho K hK
                      simp only [List.getElem?_toArray, List.getElem?_cons_succ, List.getElem?_cons_zero, Option.some.injEq] at ho
                      subst ho
                      first | (fail; refine hK.out _ _ ?_ (fun hHeld => ?_)) | (go_simp; first | (with_reducible refine hK.out _ _ ?_ (fun hHeld => ?_)) | ((go_at_call 8; (with_reducible refine (hpt.out _ (n3.below (Below.refl _ _).drew)).mono ?_); rintro e w5 ⟨rfl, v5, n5, f5⟩; have M5 := And.intro (bkeep n5.bel q3) (And.intro (bkeep n5.bel q4) (And.intro (bkeep n5.bel k0.out) (bkeep n5.bel k1.out)))); refine hK.out _ _ ?_ (fun hHeld => ?_)))
                      · first | exact M0 | exact M5
                      clear hK K
                      try simp only [Act.put, List.setIfInBounds_toArray, List.set_cons_zero, List.set_cons_succ]
                      first | (refine tw (i := 7) (v := ?_) ?_ hHeld ?_; rotate_left; focus (intro w hSw; (try dsimp only at hSw); go_simp; (try with_reducible rfl); done)) | refine tn (i := 7) hHeld ?_
                      try simp only [Act.put, List.setIfInBounds_toArray, List.set_cons_zero, List.set_cons_succ]
                      first | (refine tw (i := 8) (v := ?_) ?_ hHeld ?_; rotate_left; focus (intro w hSw; (try dsimp only at hSw); go_simp; (try with_reducible rfl); done)) | refine tn (i := 8) hHeld ?_
                      try simp only [Act.put, List.setIfInBounds_toArray, List.set_cons_zero, List.set_cons_succ]
                      first | (refine tw (i := 9) (v := ?_) ?_ hHeld ?_; rotate_left; focus (intro w hSw; (try dsimp only at hSw); go_simp; (try with_reducible rfl); done)) | refine tn (i := 9) hHeld ?_
                      try simp only [Act.put, List.setIfInBounds_toArray, List.set_cons_zero, List.set_cons_succ]
                      first | (refine tw (i := 10) (v := ?_) ?_ hHeld ?_; rotate_left; focus (intro w hSw; (try dsimp only at hSw); go_simp; (try with_reducible rfl); done)) | refine tn (i := 10) hHeld ?_
                      try simp only [Act.put, List.setIfInBounds_toArray, List.set_cons_zero, List.set_cons_succ]
                      first | (refine tw (i := 11) (v := ?_) ?_ hHeld ?_; rotate_left; focus (intro w hSw; (try dsimp only at hSw); go_simp; (try with_reducible rfl); done)) | refine tn (i := 11) hHeld ?_
                      try simp only [Act.put, List.setIfInBounds_toArray, List.set_cons_zero, List.set_cons_succ]
                      first | (refine tw (i := 12) (v := ?_) ?_ hHeld ?_; rotate_left; focus (intro w hSw; (try dsimp only at hSw); go_simp; (try with_reducible rfl); done)) | refine tn (i := 12) hHeld ?_
                      try simp only [Act.put, List.setIfInBounds_toArray, List.set_cons_zero, List.set_cons_succ]
                      first | (refine tw (i := 13) (v := ?_) ?_ hHeld ?_; rotate_left; focus (intro w hSw; (try dsimp only at hSw); go_simp; (try with_reducible rfl); done)) | refine tn (i := 13) hHeld ?_
                      try simp only [Act.put, List.setIfInBounds_toArray, List.set_cons_zero, List.set_cons_succ]
                      first | (refine tw (i := 14) (v := ?_) ?_ hHeld ?_; rotate_left; focus (intro w hSw; (try dsimp only at hSw); go_simp; (try with_reducible rfl); done)) | refine tn (i := 14) hHeld ?_
                      try simp only [Act.put, List.setIfInBounds_toArray, List.set_cons_zero, List.set_cons_succ]
                      first | (refine tw (i := 15) (v := ?_) ?_ hHeld ?_; rotate_left; focus (intro w hSw; (try dsimp only at hSw); go_simp; (try with_reducible rfl); done)) | refine tn (i := 15) hHeld ?_
                      try simp only [Act.put, List.setIfInBounds_toArray, List.set_cons_zero, List.set_cons_succ]
                      first | (refine tw (i := 16) (v := ?_) ?_ hHeld ?_; rotate_left; focus (intro w hSw; (try dsimp only at hSw); go_simp; (try with_reducible rfl); done)) | refine tn (i := 16) hHeld ?_
                      try simp only [Act.put, List.setIfInBounds_toArray, List.set_cons_zero, List.set_cons_succ]
                      refine wpAnyH_done (by kernel_rfl) ?_ _
                      go_wp2
                      exact ⟨⟨k + 1, t, c, v5, _, by omega, by go_num, rfl, rfl, ht2, Nat.le_succ_of_le hle.out, hl2, n5⟩, by simp [intOf]; omega⟩
                  · have hpt := fun W hW => put_s (B := w2.heap.size) (p := w2.heap.size) (v := v) (L := L) (w := w2) (W := W) (o1, o2) hW (Nat.le_trans hlen.out (by decide))
                    rw [put_no hE] at hpt
                    generalize putE (o1, o2) L.length = E at *
                    have e1 : (E == 0) = false := beq_eq_false_iff_ne.2 hE
                    replace hpt := Lib.hid hpt
                    clear hE
                    go_wp2_with (first | (go_at_call 17; (with_reducible refine hlk.out.mono ?_); rintro e w3 ⟨rfl, hb3⟩; have n0 := hS.out.below hb3; have n3 := n0.below (alb w3 (.cells #[.int .i64 y1, .string y2] 32)); have z0 : (w3.alloc (.cells #[.int .i64 y1, .string y2] 32)).cell? ⟨w3.heap.size, 0, none⟩ = some (.int .i64 y1) := (by simp [go_sem]); have z1 : (w3.alloc (.cells #[.int .i64 y1, .string y2] 32)).cell? ⟨w3.heap.size, 1, none⟩ = some (.string y2) := (by simp [go_sem]); have p1 := bkeep n3.bel q1; have p2 := bkeep n3.bel q2; have p3 := bkeep n3.bel q3; have p4 := bkeep n3.bel q4; have x0 := bkeep n3.bel k0.out; have x1' := bkeep n3.bel k1.out))
                    have M0 : (w3.alloc (.cells #[.int .i64 y1, .string y2] 32)).drew.cell? ⟨g, o + k * 4 + 2, none⟩ = some (.int .i64 o1) ∧ (w3.alloc (.cells #[.int .i64 y1, .string y2] 32)).drew.cell? ⟨g, o + k * 4 + 3, none⟩ = some (.string o2) ∧ (w3.alloc (.cells #[.int .i64 y1, .string y2] 32)).drew.cell? ⟨w.heap.size, 0, none⟩ = some (.int .i64 X1) ∧ (w3.alloc (.cells #[.int .i64 y1, .string y2] 32)).drew.cell? ⟨w.heap.size, 1, none⟩ = some (.string X2) := ⟨p3, p4, x0, x1'⟩
                    refine wp_region_held_drew (S := (fun w' : World => w'.cell? ⟨g, o + k * 4 + 2, none⟩ = some (.int .i64 o1) ∧ w'.cell? ⟨g, o + k * 4 + 3, none⟩ = some (.string o2) ∧ w'.cell? ⟨w.heap.size, 0, none⟩ = some (.int .i64 X1) ∧ w'.cell? ⟨w.heap.size, 1, none⟩ = some (.string X2))) (by kernel_rfl) ?_ (fun hHeld => ?_)
                    · first | exact M0 | exact M5
                    first | (refine tw (i := 0) (v := ?_) ?_ hHeld ?_; rotate_left; focus (intro w hSw; (try dsimp only at hSw); go_simp; (try with_reducible rfl); done)) | refine tn (i := 0) hHeld ?_
                    try simp only [Act.put, List.setIfInBounds_toArray, List.set_cons_zero, List.set_cons_succ]
                    first | (refine tw (i := 1) (v := ?_) ?_ hHeld ?_; rotate_left; focus (intro w hSw; (try dsimp only at hSw); go_simp; (try with_reducible rfl); done)) | refine tn (i := 1) hHeld ?_
                    try simp only [Act.put, List.setIfInBounds_toArray, List.set_cons_zero, List.set_cons_succ]
                    first | (refine tw (i := 2) (v := ?_) ?_ hHeld ?_; rotate_left; focus (intro w hSw; (try dsimp only at hSw); go_simp; (try with_reducible rfl); done)) | refine tn (i := 2) hHeld ?_
                    try simp only [Act.put, List.setIfInBounds_toArray, List.set_cons_zero, List.set_cons_succ]
                    first | (refine tw (i := 3) (v := ?_) ?_ hHeld ?_; rotate_left; focus (intro w hSw; (try dsimp only at hSw); go_simp; (try with_reducible rfl); done)) | refine tn (i := 3) hHeld ?_
                    try simp only [Act.put, List.setIfInBounds_toArray, List.set_cons_zero, List.set_cons_succ]
                    first | (refine tw (i := 4) (v := ?_) ?_ hHeld ?_; rotate_left; focus (intro w hSw; (try dsimp only at hSw); go_simp; (try with_reducible rfl); done)) | refine tn (i := 4) hHeld ?_
                    try simp only [Act.put, List.setIfInBounds_toArray, List.set_cons_zero, List.set_cons_succ]
                    first | (refine tw (i := 5) (v := ?_) ?_ hHeld ?_; rotate_left; focus (intro w hSw; (try dsimp only at hSw); go_simp; (try with_reducible rfl); done)) | refine tn (i := 5) hHeld ?_
                    try simp only [Act.put, List.setIfInBounds_toArray, List.set_cons_zero, List.set_cons_succ]
                    refine call_next (i := 6) (by kernel_rfl) (by rfl) ?_
                    intro o ho K hK
                    simp only [List.getElem?_toArray, List.getElem?_cons_succ, List.getElem?_cons_zero, Option.some.injEq] at ho
                    subst ho
                    first | (fail; refine hK.out _ _ ?_ (fun hHeld => ?_)) | (go_simp; first | (with_reducible refine hK.out _ _ ?_ (fun hHeld => ?_)) | ((go_at_call 8; (with_reducible refine (hpt.out _ (n3.below (Below.refl _ _).drew)).mono ?_); rintro e w5 ⟨rfl, v5, n5, f5⟩; have M5 := And.intro (bkeep n5.bel q3) (And.intro (bkeep n5.bel q4) (And.intro (bkeep n5.bel k0.out) (bkeep n5.bel k1.out)))); refine hK.out _ _ ?_ (fun hHeld => ?_)))
                    · first | exact M0 | exact M5
                    clear hK K
                    try simp only [Act.put, List.setIfInBounds_toArray, List.set_cons_zero, List.set_cons_succ]
                    first | (refine tw (i := 7) (v := ?_) ?_ hHeld ?_; rotate_left; focus (intro w hSw; (try dsimp only at hSw); go_simp; (try with_reducible rfl); done)) | refine tn (i := 7) hHeld ?_
                    try simp only [Act.put, List.setIfInBounds_toArray, List.set_cons_zero, List.set_cons_succ]
                    first | (refine tw (i := 8) (v := ?_) ?_ hHeld ?_; rotate_left; focus (intro w hSw; (try dsimp only at hSw); go_simp; (try with_reducible rfl); done)) | refine tn (i := 8) hHeld ?_
                    try simp only [Act.put, List.setIfInBounds_toArray, List.set_cons_zero, List.set_cons_succ]
                    first | (refine tw (i := 9) (v := ?_) ?_ hHeld ?_; rotate_left; focus (intro w hSw; (try dsimp only at hSw); go_simp; (try with_reducible rfl); done)) | refine tn (i := 9) hHeld ?_
                    try simp only [Act.put, List.setIfInBounds_toArray, List.set_cons_zero, List.set_cons_succ]
                    first | (refine tw (i := 10) (v := ?_) ?_ hHeld ?_; rotate_left; focus (intro w hSw; (try dsimp only at hSw); go_simp; (try with_reducible rfl); done)) | refine tn (i := 10) hHeld ?_
                    try simp only [Act.put, List.setIfInBounds_toArray, List.set_cons_zero, List.set_cons_succ]
                    first | (refine tw (i := 11) (v := ?_) ?_ hHeld ?_; rotate_left; focus (intro w hSw; (try dsimp only at hSw); go_simp; (try with_reducible rfl); done)) | refine tn (i := 11) hHeld ?_
                    try simp only [Act.put, List.setIfInBounds_toArray, List.set_cons_zero, List.set_cons_succ]
                    first | (refine tw (i := 12) (v := ?_) ?_ hHeld ?_; rotate_left; focus (intro w hSw; (try dsimp only at hSw); go_simp; (try with_reducible rfl); done)) | refine tn (i := 12) hHeld ?_
                    try simp only [Act.put, List.setIfInBounds_toArray, List.set_cons_zero, List.set_cons_succ]
                    first | (refine tw (i := 13) (v := ?_) ?_ hHeld ?_; rotate_left; focus (intro w hSw; (try dsimp only at hSw); go_simp; (try with_reducible rfl); done)) | refine tn (i := 13) hHeld ?_
                    try simp only [Act.put, List.setIfInBounds_toArray, List.set_cons_zero, List.set_cons_succ]
                    first | (refine tw (i := 14) (v := ?_) ?_ hHeld ?_; rotate_left; focus (intro w hSw; (try dsimp only at hSw); go_simp; (try with_reducible rfl); done)) | refine tn (i := 14) hHeld ?_
                    try simp only [Act.put, List.setIfInBounds_toArray, List.set_cons_zero, List.set_cons_succ]
                    first | (refine tw (i := 15) (v := ?_) ?_ hHeld ?_; rotate_left; focus (intro w hSw; (try dsimp only at hSw); go_simp; (try with_reducible rfl); done)) | refine tn (i := 15) hHeld ?_
                    try simp only [Act.put, List.setIfInBounds_toArray, List.set_cons_zero, List.set_cons_succ]
                    first | (refine tw (i := 16) (v := ?_) ?_ hHeld ?_; rotate_left; focus (intro w hSw; (try dsimp only at hSw); go_simp; (try with_reducible rfl); done)) | refine tn (i := 16) hHeld ?_
                    try simp only [Act.put, List.setIfInBounds_toArray, List.set_cons_zero, List.set_cons_succ]
                    refine wpAnyH_done (by kernel_rfl) ?_ _
                    go_wp2
                    exact ⟨⟨k + 1, t, c, v5, _, by omega, by go_num, rfl, rfl, ht, Nat.le_succ_of_le hle.out, hlen, n5⟩, by simp [intOf]; omega⟩
                | false =>
                  rw [hdY] at hYX
                  by_cases hE : putE (o1, o2) L.length = 0
                  · have hpt := fun W hW => put_s (B := w2.heap.size) (p := w2.heap.size) (v := v) (L := L) (w := w2) (W := W) (o1, o2) hW (Nat.le_trans hlen.out (by decide))
                    rw [hE] at hpt
                    replace hpt := Lib.hid hpt
                    have hcn := cnt_put (X := (X1, X2)) hE
                    have hl2 : Hid ((putL (o1, o2) L).length ≤ 200) := put_len hlen.out
                    have hta := ht.out
                    have hla := hle.out
                    by_cases hoX : (o1, o2) = (X1, X2)
                    · have r1 : ∀ w, (binOp .eql 32 (.agg #[.int .i64 o1, .string o2]) (.agg #[.int .i64 X1, .string X2])).run Try.prog w = .ok (.bool true) w := fun w => by rw [und_eql, decide_eq_true hoX]
                      rw [if_pos hoX] at hcn
                      have ht2 : Hid (t + 1 = c + cnt (X1, X2) (putL (o1, o2) L)) := by show _ = _; omega
                      have hle2 : Hid (t + 1 ≤ k + 1) := by show _ ≤ _; omega
                      clear hcn hoX hE hta hla
                      go_wp2_with (first | (go_at_call 17; (with_reducible refine hlk.out.mono ?_); rintro e w3 ⟨rfl, hb3⟩; have n0 := hS.out.below hb3; have n3 := n0.below (alb w3 (.cells #[.int .i64 y1, .string y2] 32)); have z0 : (w3.alloc (.cells #[.int .i64 y1, .string y2] 32)).cell? ⟨w3.heap.size, 0, none⟩ = some (.int .i64 y1) := (by simp [go_sem]); have z1 : (w3.alloc (.cells #[.int .i64 y1, .string y2] 32)).cell? ⟨w3.heap.size, 1, none⟩ = some (.string y2) := (by simp [go_sem]); have p1 := bkeep n3.bel q1; have p2 := bkeep n3.bel q2; have p3 := bkeep n3.bel q3; have p4 := bkeep n3.bel q4; have x0 := bkeep n3.bel k0.out; have x1' := bkeep n3.bel k1.out))
                      have M0 : (w3.alloc (.cells #[.int .i64 y1, .string y2] 32)).drew.cell? ⟨g, o + k * 4 + 2, none⟩ = some (.int .i64 o1) ∧ (w3.alloc (.cells #[.int .i64 y1, .string y2] 32)).drew.cell? ⟨g, o + k * 4 + 3, none⟩ = some (.string o2) ∧ (w3.alloc (.cells #[.int .i64 y1, .string y2] 32)).drew.cell? ⟨w.heap.size, 0, none⟩ = some (.int .i64 X1) ∧ (w3.alloc (.cells #[.int .i64 y1, .string y2] 32)).drew.cell? ⟨w.heap.size, 1, none⟩ = some (.string X2) := ⟨p3, p4, x0, x1'⟩
                      refine wp_region_held_drew (S := (fun w' : World => w'.cell? ⟨g, o + k * 4 + 2, none⟩ = some (.int .i64 o1) ∧ w'.cell? ⟨g, o + k * 4 + 3, none⟩ = some (.string o2) ∧ w'.cell? ⟨w.heap.size, 0, none⟩ = some (.int .i64 X1) ∧ w'.cell? ⟨w.heap.size, 1, none⟩ = some (.string X2))) (by kernel_rfl) ?_ (fun hHeld => ?_)
                      · first | exact M0 | exact M5
                      first | (refine tw (i := 0) (v := ?_) ?_ hHeld ?_; rotate_left; focus (intro w hSw; (try dsimp only at hSw); go_simp; (try with_reducible rfl); done)) | refine tn (i := 0) hHeld ?_
                      try simp only [Act.put, List.setIfInBounds_toArray, List.set_cons_zero, List.set_cons_succ]
                      first | (refine tw (i := 1) (v := ?_) ?_ hHeld ?_; rotate_left; focus (intro w hSw; (try dsimp only at hSw); go_simp; (try with_reducible rfl); done)) | refine tn (i := 1) hHeld ?_
                      try simp only [Act.put, List.setIfInBounds_toArray, List.set_cons_zero, List.set_cons_succ]
                      first | (refine tw (i := 2) (v := ?_) ?_ hHeld ?_; rotate_left; focus (intro w hSw; (try dsimp only at hSw); go_simp; (try with_reducible rfl); done)) | refine tn (i := 2) hHeld ?_
                      try simp only [Act.put, List.setIfInBounds_toArray, List.set_cons_zero, List.set_cons_succ]
                      first | (refine tw (i := 3) (v := ?_) ?_ hHeld ?_; rotate_left; focus (intro w hSw; (try dsimp only at hSw); go_simp; (try with_reducible rfl); done)) | refine tn (i := 3) hHeld ?_
                      try simp only [Act.put, List.setIfInBounds_toArray, List.set_cons_zero, List.set_cons_succ]
                      first | (refine tw (i := 4) (v := ?_) ?_ hHeld ?_; rotate_left; focus (intro w hSw; (try dsimp only at hSw); go_simp; (try with_reducible rfl); done)) | refine tn (i := 4) hHeld ?_
                      try simp only [Act.put, List.setIfInBounds_toArray, List.set_cons_zero, List.set_cons_succ]
                      first | (refine tw (i := 5) (v := ?_) ?_ hHeld ?_; rotate_left; focus (intro w hSw; (try dsimp only at hSw); go_simp; (try with_reducible rfl); done)) | refine tn (i := 5) hHeld ?_
                      try simp only [Act.put, List.setIfInBounds_toArray, List.set_cons_zero, List.set_cons_succ]
                      refine call_next (i := 6) (by kernel_rfl) (by rfl) ?_
                      intro o ho K hK
                      simp only [List.getElem?_toArray, List.getElem?_cons_succ, List.getElem?_cons_zero, Option.some.injEq] at ho
                      subst ho
                      first | (fail; refine hK.out _ _ ?_ (fun hHeld => ?_)) | (go_simp; first | (with_reducible refine hK.out _ _ ?_ (fun hHeld => ?_)) | ((go_at_call 8; (with_reducible refine (hpt.out _ (n3.below (Below.refl _ _).drew)).mono ?_); rintro e w5 ⟨rfl, v5, n5, f5⟩; have M5 := And.intro (bkeep n5.bel q3) (And.intro (bkeep n5.bel q4) (And.intro (bkeep n5.bel k0.out) (bkeep n5.bel k1.out)))); refine hK.out _ _ ?_ (fun hHeld => ?_)))
                      · first | exact M0 | exact M5
                      clear hK K
                      try simp only [Act.put, List.setIfInBounds_toArray, List.set_cons_zero, List.set_cons_succ]
                      first | (refine tw (i := 7) (v := ?_) ?_ hHeld ?_; rotate_left; focus (intro w hSw; (try dsimp only at hSw); go_simp; (try with_reducible rfl); done)) | refine tn (i := 7) hHeld ?_
                      try simp only [Act.put, List.setIfInBounds_toArray, List.set_cons_zero, List.set_cons_succ]
                      first | (refine tw (i := 8) (v := ?_) ?_ hHeld ?_; rotate_left; focus (intro w hSw; (try dsimp only at hSw); go_simp; (try with_reducible rfl); done)) | refine tn (i := 8) hHeld ?_
                      try simp only [Act.put, List.setIfInBounds_toArray, List.set_cons_zero, List.set_cons_succ]
                      first | (refine tw (i := 9) (v := ?_) ?_ hHeld ?_; rotate_left; focus (intro w hSw; (try dsimp only at hSw); go_simp; (try with_reducible rfl); done)) | refine tn (i := 9) hHeld ?_
                      try simp only [Act.put, List.setIfInBounds_toArray, List.set_cons_zero, List.set_cons_succ]
                      first | (refine tw (i := 10) (v := ?_) ?_ hHeld ?_; rotate_left; focus (intro w hSw; (try dsimp only at hSw); go_simp; (try with_reducible rfl); done)) | refine tn (i := 10) hHeld ?_
                      try simp only [Act.put, List.setIfInBounds_toArray, List.set_cons_zero, List.set_cons_succ]
                      first | (refine tw (i := 11) (v := ?_) ?_ hHeld ?_; rotate_left; focus (intro w hSw; (try dsimp only at hSw); go_simp; (try with_reducible rfl); done)) | refine tn (i := 11) hHeld ?_
                      try simp only [Act.put, List.setIfInBounds_toArray, List.set_cons_zero, List.set_cons_succ]
                      first | (refine tw (i := 12) (v := ?_) ?_ hHeld ?_; rotate_left; focus (intro w hSw; (try dsimp only at hSw); go_simp; (try with_reducible rfl); done)) | refine tn (i := 12) hHeld ?_
                      try simp only [Act.put, List.setIfInBounds_toArray, List.set_cons_zero, List.set_cons_succ]
                      first | (refine tw (i := 13) (v := ?_) ?_ hHeld ?_; rotate_left; focus (intro w hSw; (try dsimp only at hSw); go_simp; (try with_reducible rfl); done)) | refine tn (i := 13) hHeld ?_
                      try simp only [Act.put, List.setIfInBounds_toArray, List.set_cons_zero, List.set_cons_succ]
                      first | (refine tw (i := 14) (v := ?_) ?_ hHeld ?_; rotate_left; focus (intro w hSw; (try dsimp only at hSw); go_simp; (try with_reducible rfl); done)) | refine tn (i := 14) hHeld ?_
                      try simp only [Act.put, List.setIfInBounds_toArray, List.set_cons_zero, List.set_cons_succ]
                      first | (refine tw (i := 15) (v := ?_) ?_ hHeld ?_; rotate_left; focus (intro w hSw; (try dsimp only at hSw); go_simp; (try with_reducible rfl); done)) | refine tn (i := 15) hHeld ?_
                      try simp only [Act.put, List.setIfInBounds_toArray, List.set_cons_zero, List.set_cons_succ]
                      first | (refine tw (i := 16) (v := ?_) ?_ hHeld ?_; rotate_left; focus (intro w hSw; (try dsimp only at hSw); go_simp; (try with_reducible rfl); done)) | refine tn (i := 16) hHeld ?_
                      try simp only [Act.put, List.setIfInBounds_toArray, List.set_cons_zero, List.set_cons_succ]
                      refine wpAnyH_done (by kernel_rfl) ?_ _
                      go_wp2
                      exact ⟨⟨k + 1, t + 1, c, v5, _, by omega, by go_num, by go_num, by go_num, ht2, hle2, hl2, n5⟩, by simp [intOf]; omega⟩
                    · have r1 : ∀ w, (binOp .eql 32 (.agg #[.int .i64 o1, .string o2]) (.agg #[.int .i64 X1, .string X2])).run Try.prog w = .ok (.bool false) w := fun w => by rw [und_eql, decide_eq_false hoX]
                      rw [if_neg hoX] at hcn
                      have ht2 : Hid (t = c + cnt (X1, X2) (putL (o1, o2) L)) := by show _ = _; omega
                      clear hcn hoX hE hta hla
                      go_wp2_with (first | (go_at_call 17; (with_reducible refine hlk.out.mono ?_); rintro e w3 ⟨rfl, hb3⟩; have n0 := hS.out.below hb3; have n3 := n0.below (alb w3 (.cells #[.int .i64 y1, .string y2] 32)); have z0 : (w3.alloc (.cells #[.int .i64 y1, .string y2] 32)).cell? ⟨w3.heap.size, 0, none⟩ = some (.int .i64 y1) := (by simp [go_sem]); have z1 : (w3.alloc (.cells #[.int .i64 y1, .string y2] 32)).cell? ⟨w3.heap.size, 1, none⟩ = some (.string y2) := (by simp [go_sem]); have p1 := bkeep n3.bel q1; have p2 := bkeep n3.bel q2; have p3 := bkeep n3.bel q3; have p4 := bkeep n3.bel q4; have x0 := bkeep n3.bel k0.out; have x1' := bkeep n3.bel k1.out))
                      have M0 : (w3.alloc (.cells #[.int .i64 y1, .string y2] 32)).drew.cell? ⟨g, o + k * 4 + 2, none⟩ = some (.int .i64 o1) ∧ (w3.alloc (.cells #[.int .i64 y1, .string y2] 32)).drew.cell? ⟨g, o + k * 4 + 3, none⟩ = some (.string o2) ∧ (w3.alloc (.cells #[.int .i64 y1, .string y2] 32)).drew.cell? ⟨w.heap.size, 0, none⟩ = some (.int .i64 X1) ∧ (w3.alloc (.cells #[.int .i64 y1, .string y2] 32)).drew.cell? ⟨w.heap.size, 1, none⟩ = some (.string X2) := ⟨p3, p4, x0, x1'⟩
                      refine wp_region_held_drew (S := (fun w' : World => w'.cell? ⟨g, o + k * 4 + 2, none⟩ = some (.int .i64 o1) ∧ w'.cell? ⟨g, o + k * 4 + 3, none⟩ = some (.string o2) ∧ w'.cell? ⟨w.heap.size, 0, none⟩ = some (.int .i64 X1) ∧ w'.cell? ⟨w.heap.size, 1, none⟩ = some (.string X2))) (by kernel_rfl) ?_ (fun hHeld => ?_)
                      · first | exact M0 | exact M5
                      first | (refine tw (i := 0) (v := ?_) ?_ hHeld ?_; rotate_left; focus (intro w hSw; (try dsimp only at hSw); go_simp; (try with_reducible rfl); done)) | refine tn (i := 0) hHeld ?_
                      try simp only [Act.put, List.setIfInBounds_toArray, List.set_cons_zero, List.set_cons_succ]
                      first | (refine tw (i := 1) (v := ?_) ?_ hHeld ?_; rotate_left; focus (intro w hSw; (try dsimp only at hSw); go_simp; (try with_reducible rfl); done)) | refine tn (i := 1) hHeld ?_
                      try simp only [Act.put, List.setIfInBounds_toArray, List.set_cons_zero, List.set_cons_succ]
                      first | (refine tw (i := 2) (v := ?_) ?_ hHeld ?_; rotate_left; focus (intro w hSw; (try dsimp only at hSw); go_simp; (try with_reducible rfl); done)) | refine tn (i := 2) hHeld ?_
                      try simp only [Act.put, List.setIfInBounds_toArray, List.set_cons_zero, List.set_cons_succ]
                      first | (refine tw (i := 3) (v := ?_) ?_ hHeld ?_; rotate_left; focus (intro w hSw; (try dsimp only at hSw); go_simp; (try with_reducible rfl); done)) | refine tn (i := 3) hHeld ?_
                      try simp only [Act.put, List.setIfInBounds_toArray, List.set_cons_zero, List.set_cons_succ]
                      first | (refine tw (i := 4) (v := ?_) ?_ hHeld ?_; rotate_left; focus (intro w hSw; (try dsimp only at hSw); go_simp; (try with_reducible rfl); done)) | refine tn (i := 4) hHeld ?_
                      try simp only [Act.put, List.setIfInBounds_toArray, List.set_cons_zero, List.set_cons_succ]
                      first | (refine tw (i := 5) (v := ?_) ?_ hHeld ?_; rotate_left; focus (intro w hSw; (try dsimp only at hSw); go_simp; (try with_reducible rfl); done)) | refine tn (i := 5) hHeld ?_
                      try simp only [Act.put, List.setIfInBounds_toArray, List.set_cons_zero, List.set_cons_succ]
                      refine call_next (i := 6) (by kernel_rfl) (by rfl) ?_
                      intro o ho K hK
                      simp only [List.getElem?_toArray, List.getElem?_cons_succ, List.getElem?_cons_zero, Option.some.injEq] at ho
                      subst ho
                      first | (fail; refine hK.out _ _ ?_ (fun hHeld => ?_)) | (go_simp; first | (with_reducible refine hK.out _ _ ?_ (fun hHeld => ?_)) | ((go_at_call 8; (with_reducible refine (hpt.out _ (n3.below (Below.refl _ _).drew)).mono ?_); rintro e w5 ⟨rfl, v5, n5, f5⟩; have M5 := And.intro (bkeep n5.bel q3) (And.intro (bkeep n5.bel q4) (And.intro (bkeep n5.bel k0.out) (bkeep n5.bel k1.out)))); refine hK.out _ _ ?_ (fun hHeld => ?_)))
                      · first | exact M0 | exact M5
                      clear hK K
                      try simp only [Act.put, List.setIfInBounds_toArray, List.set_cons_zero, List.set_cons_succ]
                      first | (refine tw (i := 7) (v := ?_) ?_ hHeld ?_; rotate_left; focus (intro w hSw; (try dsimp only at hSw); go_simp; (try with_reducible rfl); done)) | refine tn (i := 7) hHeld ?_
                      try simp only [Act.put, List.setIfInBounds_toArray, List.set_cons_zero, List.set_cons_succ]
                      first | (refine tw (i := 8) (v := ?_) ?_ hHeld ?_; rotate_left; focus (intro w hSw; (try dsimp only at hSw); go_simp; (try with_reducible rfl); done)) | refine tn (i := 8) hHeld ?_
                      try simp only [Act.put, List.setIfInBounds_toArray, List.set_cons_zero, List.set_cons_succ]
                      first | (refine tw (i := 9) (v := ?_) ?_ hHeld ?_; rotate_left; focus (intro w hSw; (try dsimp only at hSw); go_simp; (try with_reducible rfl); done)) | refine tn (i := 9) hHeld ?_
                      try simp only [Act.put, List.setIfInBounds_toArray, List.set_cons_zero, List.set_cons_succ]
                      first | (refine tw (i := 10) (v := ?_) ?_ hHeld ?_; rotate_left; focus (intro w hSw; (try dsimp only at hSw); go_simp; (try with_reducible rfl); done)) | refine tn (i := 10) hHeld ?_
                      try simp only [Act.put, List.setIfInBounds_toArray, List.set_cons_zero, List.set_cons_succ]
                      first | (refine tw (i := 11) (v := ?_) ?_ hHeld ?_; rotate_left; focus (intro w hSw; (try dsimp only at hSw); go_simp; (try with_reducible rfl); done)) | refine tn (i := 11) hHeld ?_
                      try simp only [Act.put, List.setIfInBounds_toArray, List.set_cons_zero, List.set_cons_succ]
                      first | (refine tw (i := 12) (v := ?_) ?_ hHeld ?_; rotate_left; focus (intro w hSw; (try dsimp only at hSw); go_simp; (try with_reducible rfl); done)) | refine tn (i := 12) hHeld ?_
                      try simp only [Act.put, List.setIfInBounds_toArray, List.set_cons_zero, List.set_cons_succ]
                      first | (refine tw (i := 13) (v := ?_) ?_ hHeld ?_; rotate_left; focus (intro w hSw; (try dsimp only at hSw); go_simp; (try with_reducible rfl); done)) | refine tn (i := 13) hHeld ?_
                      try simp only [Act.put, List.setIfInBounds_toArray, List.set_cons_zero, List.set_cons_succ]
                      first | (refine tw (i := 14) (v := ?_) ?_ hHeld ?_; rotate_left; focus (intro w hSw; (try dsimp only at hSw); go_simp; (try with_reducible rfl); done)) | refine tn (i := 14) hHeld ?_
                      try simp only [Act.put, List.setIfInBounds_toArray, List.set_cons_zero, List.set_cons_succ]
                      first | (refine tw (i := 15) (v := ?_) ?_ hHeld ?_; rotate_left; focus (intro w hSw; (try dsimp only at hSw); go_simp; (try with_reducible rfl); done)) | refine tn (i := 15) hHeld ?_
                      try simp only [Act.put, List.setIfInBounds_toArray, List.set_cons_zero, List.set_cons_succ]
                      first | (refine tw (i := 16) (v := ?_) ?_ hHeld ?_; rotate_left; focus (intro w hSw; (try dsimp only at hSw); go_simp; (try with_reducible rfl); done)) | refine tn (i := 16) hHeld ?_
                      try simp only [Act.put, List.setIfInBounds_toArray, List.set_cons_zero, List.set_cons_succ]
                      refine wpAnyH_done (by kernel_rfl) ?_ _
                      go_wp2
                      exact ⟨⟨k + 1, t, c, v5, _, by omega, by go_num, rfl, rfl, ht2, Nat.le_succ_of_le hle.out, hl2, n5⟩, by simp [intOf]; omega⟩
                  · have hpt := fun W hW => put_s (B := w2.heap.size) (p := w2.heap.size) (v := v) (L := L) (w := w2) (W := W) (o1, o2) hW (Nat.le_trans hlen.out (by decide))
                    rw [put_no hE] at hpt
                    generalize putE (o1, o2) L.length = E at *
                    have e1 : (E == 0) = false := beq_eq_false_iff_ne.2 hE
                    replace hpt := Lib.hid hpt
                    clear hE
                    go_wp2_with (first | (go_at_call 17; (with_reducible refine hlk.out.mono ?_); rintro e w3 ⟨rfl, hb3⟩; have n0 := hS.out.below hb3; have n3 := n0.below (alb w3 (.cells #[.int .i64 y1, .string y2] 32)); have z0 : (w3.alloc (.cells #[.int .i64 y1, .string y2] 32)).cell? ⟨w3.heap.size, 0, none⟩ = some (.int .i64 y1) := (by simp [go_sem]); have z1 : (w3.alloc (.cells #[.int .i64 y1, .string y2] 32)).cell? ⟨w3.heap.size, 1, none⟩ = some (.string y2) := (by simp [go_sem]); have p1 := bkeep n3.bel q1; have p2 := bkeep n3.bel q2; have p3 := bkeep n3.bel q3; have p4 := bkeep n3.bel q4; have x0 := bkeep n3.bel k0.out; have x1' := bkeep n3.bel k1.out))
                    have M0 : (w3.alloc (.cells #[.int .i64 y1, .string y2] 32)).drew.cell? ⟨g, o + k * 4 + 2, none⟩ = some (.int .i64 o1) ∧ (w3.alloc (.cells #[.int .i64 y1, .string y2] 32)).drew.cell? ⟨g, o + k * 4 + 3, none⟩ = some (.string o2) ∧ (w3.alloc (.cells #[.int .i64 y1, .string y2] 32)).drew.cell? ⟨w.heap.size, 0, none⟩ = some (.int .i64 X1) ∧ (w3.alloc (.cells #[.int .i64 y1, .string y2] 32)).drew.cell? ⟨w.heap.size, 1, none⟩ = some (.string X2) := ⟨p3, p4, x0, x1'⟩
                    refine wp_region_held_drew (S := (fun w' : World => w'.cell? ⟨g, o + k * 4 + 2, none⟩ = some (.int .i64 o1) ∧ w'.cell? ⟨g, o + k * 4 + 3, none⟩ = some (.string o2) ∧ w'.cell? ⟨w.heap.size, 0, none⟩ = some (.int .i64 X1) ∧ w'.cell? ⟨w.heap.size, 1, none⟩ = some (.string X2))) (by kernel_rfl) ?_ (fun hHeld => ?_)
                    · first | exact M0 | exact M5
                    first | (refine tw (i := 0) (v := ?_) ?_ hHeld ?_; rotate_left; focus (intro w hSw; (try dsimp only at hSw); go_simp; (try with_reducible rfl); done)) | refine tn (i := 0) hHeld ?_
                    try simp only [Act.put, List.setIfInBounds_toArray, List.set_cons_zero, List.set_cons_succ]
                    first | (refine tw (i := 1) (v := ?_) ?_ hHeld ?_; rotate_left; focus (intro w hSw; (try dsimp only at hSw); go_simp; (try with_reducible rfl); done)) | refine tn (i := 1) hHeld ?_
                    try simp only [Act.put, List.setIfInBounds_toArray, List.set_cons_zero, List.set_cons_succ]
                    first | (refine tw (i := 2) (v := ?_) ?_ hHeld ?_; rotate_left; focus (intro w hSw; (try dsimp only at hSw); go_simp; (try with_reducible rfl); done)) | refine tn (i := 2) hHeld ?_
                    try simp only [Act.put, List.setIfInBounds_toArray, List.set_cons_zero, List.set_cons_succ]
                    first | (refine tw (i := 3) (v := ?_) ?_ hHeld ?_; rotate_left; focus (intro w hSw; (try dsimp only at hSw); go_simp; (try with_reducible rfl); done)) | refine tn (i := 3) hHeld ?_
                    try simp only [Act.put, List.setIfInBounds_toArray, List.set_cons_zero, List.set_cons_succ]
                    first | (refine tw (i := 4) (v := ?_) ?_ hHeld ?_; rotate_left; focus (intro w hSw; (try dsimp only at hSw); go_simp; (try with_reducible rfl); done)) | refine tn (i := 4) hHeld ?_
                    try simp only [Act.put, List.setIfInBounds_toArray, List.set_cons_zero, List.set_cons_succ]
                    first | (refine tw (i := 5) (v := ?_) ?_ hHeld ?_; rotate_left; focus (intro w hSw; (try dsimp only at hSw); go_simp; (try with_reducible rfl); done)) | refine tn (i := 5) hHeld ?_
                    try simp only [Act.put, List.setIfInBounds_toArray, List.set_cons_zero, List.set_cons_succ]
                    refine call_next (i := 6) (by kernel_rfl) (by rfl) ?_
                    intro o ho K hK
                    simp only [List.getElem?_toArray, List.getElem?_cons_succ, List.getElem?_cons_zero, Option.some.injEq] at ho
                    subst ho
                    first | (fail; refine hK.out _ _ ?_ (fun hHeld => ?_)) | (go_simp; first | (with_reducible refine hK.out _ _ ?_ (fun hHeld => ?_)) | ((go_at_call 8; (with_reducible refine (hpt.out _ (n3.below (Below.refl _ _).drew)).mono ?_); rintro e w5 ⟨rfl, v5, n5, f5⟩; have M5 := And.intro (bkeep n5.bel q3) (And.intro (bkeep n5.bel q4) (And.intro (bkeep n5.bel k0.out) (bkeep n5.bel k1.out)))); refine hK.out _ _ ?_ (fun hHeld => ?_)))
                    · first | exact M0 | exact M5
                    clear hK K
                    try simp only [Act.put, List.setIfInBounds_toArray, List.set_cons_zero, List.set_cons_succ]
                    first | (refine tw (i := 7) (v := ?_) ?_ hHeld ?_; rotate_left; focus (intro w hSw; (try dsimp only at hSw); go_simp; (try with_reducible rfl); done)) | refine tn (i := 7) hHeld ?_
                    try simp only [Act.put, List.setIfInBounds_toArray, List.set_cons_zero, List.set_cons_succ]
                    first | (refine tw (i := 8) (v := ?_) ?_ hHeld ?_; rotate_left; focus (intro w hSw; (try dsimp only at hSw); go_simp; (try with_reducible rfl); done)) | refine tn (i := 8) hHeld ?_
                    try simp only [Act.put, List.setIfInBounds_toArray, List.set_cons_zero, List.set_cons_succ]
                    first | (refine tw (i := 9) (v := ?_) ?_ hHeld ?_; rotate_left; focus (intro w hSw; (try dsimp only at hSw); go_simp; (try with_reducible rfl); done)) | refine tn (i := 9) hHeld ?_
                    try simp only [Act.put, List.setIfInBounds_toArray, List.set_cons_zero, List.set_cons_succ]
                    first | (refine tw (i := 10) (v := ?_) ?_ hHeld ?_; rotate_left; focus (intro w hSw; (try dsimp only at hSw); go_simp; (try with_reducible rfl); done)) | refine tn (i := 10) hHeld ?_
                    try simp only [Act.put, List.setIfInBounds_toArray, List.set_cons_zero, List.set_cons_succ]
                    first | (refine tw (i := 11) (v := ?_) ?_ hHeld ?_; rotate_left; focus (intro w hSw; (try dsimp only at hSw); go_simp; (try with_reducible rfl); done)) | refine tn (i := 11) hHeld ?_
                    try simp only [Act.put, List.setIfInBounds_toArray, List.set_cons_zero, List.set_cons_succ]
                    first | (refine tw (i := 12) (v := ?_) ?_ hHeld ?_; rotate_left; focus (intro w hSw; (try dsimp only at hSw); go_simp; (try with_reducible rfl); done)) | refine tn (i := 12) hHeld ?_
                    try simp only [Act.put, List.setIfInBounds_toArray, List.set_cons_zero, List.set_cons_succ]
                    first | (refine tw (i := 13) (v := ?_) ?_ hHeld ?_; rotate_left; focus (intro w hSw; (try dsimp only at hSw); go_simp; (try with_reducible rfl); done)) | refine tn (i := 13) hHeld ?_
                    try simp only [Act.put, List.setIfInBounds_toArray, List.set_cons_zero, List.set_cons_succ]
                    first | (refine tw (i := 14) (v := ?_) ?_ hHeld ?_; rotate_left; focus (intro w hSw; (try dsimp only at hSw); go_simp; (try with_reducible rfl); done)) | refine tn (i := 14) hHeld ?_
                    try simp only [Act.put, List.setIfInBounds_toArray, List.set_cons_zero, List.set_cons_succ]
                    first | (refine tw (i := 15) (v := ?_) ?_ hHeld ?_; rotate_left; focus (intro w hSw; (try dsimp only at hSw); go_simp; (try with_reducible rfl); done)) | refine tn (i := 15) hHeld ?_
                    try simp only [Act.put, List.setIfInBounds_toArray, List.set_cons_zero, List.set_cons_succ]
                    first | (refine tw (i := 16) (v := ?_) ?_ hHeld ?_; rotate_left; focus (intro w hSw; (try dsimp only at hSw); go_simp; (try with_reducible rfl); done)) | refine tn (i := 16) hHeld ?_
                    try simp only [Act.put, List.setIfInBounds_toArray, List.set_cons_zero, List.set_cons_succ]
                    refine wpAnyH_done (by kernel_rfl) ?_ _
                    go_wp2
                    exact ⟨⟨k + 1, t, c, v5, _, by omega, by go_num, rfl, rfl, ht, Nat.le_succ_of_le hle.out, hlen, n5⟩, by simp [intOf]; omega⟩
            · have e1 : (kd == 1) = false := beq_eq_false_iff_ne.2 hk1
              by_cases hk2 : kd = 2
              · subst hk2
                have htk := fun W hW => take_s (B := w2.heap.size) (p := w2.heap.size) (v := v) (L := L) (w := w2) (W := W) nn hW (Nat.le_trans hlen.out (by decide))
                rw [hY, hb] at htk
                replace htk := Lib.hid htk
                have hl2 : Hid ((takeL L nn).length ≤ 200) := take_len hlen.out
                have zz : ∀ w, (binOp .neq 32 (.agg #[.int .i64 y1, .string y2]) (.agg #[.int .i64 y1, .string y2])).run Try.prog w = .ok (.bool false) w := fun w => by rw [und_neq]; simp
                by_cases hL : L = []
                · have hbf : b = false := by rw [← hb, hL]; rfl
                  subst hbf
                  have ht2 : Hid (t = c + cnt (X1, X2) (takeL L nn)) := by have := ht.out; rw [hL] at this ⊢; exact this
                  clear hL
                  go_wp2_with (first | (go_at_call 17; (with_reducible refine hlk.out.mono ?_); rintro e w3 ⟨rfl, hb3⟩; have n0 := hS.out.below hb3; have n3 := n0.below (alb w3 (.cells #[.int .i64 y1, .string y2] 32)); have z0 : (w3.alloc (.cells #[.int .i64 y1, .string y2] 32)).cell? ⟨w3.heap.size, 0, none⟩ = some (.int .i64 y1) := (by simp [go_sem]); have z1 : (w3.alloc (.cells #[.int .i64 y1, .string y2] 32)).cell? ⟨w3.heap.size, 1, none⟩ = some (.string y2) := (by simp [go_sem]); have p1 := bkeep n3.bel q1; have p2 := bkeep n3.bel q2; have p3 := bkeep n3.bel q3; have p4 := bkeep n3.bel q4; have x0 := bkeep n3.bel k0.out; have x1' := bkeep n3.bel k1.out) | (go_at_call 10; (with_reducible refine (htk.out _ n3).mono ?_); rintro e w5 ⟨rfl, v5, n5, f5⟩; have kx := n0.kept f5; have n6 := n5.below (alb w5 (.cells #[.int .i64 y1, .string y2] 32)); have j0 : (w5.alloc (.cells #[.int .i64 y1, .string y2] 32)).cell? ⟨w5.heap.size, 0, none⟩ = some (.int .i64 y1) := (by simp [go_sem]); have j1 : (w5.alloc (.cells #[.int .i64 y1, .string y2] 32)).cell? ⟨w5.heap.size, 1, none⟩ = some (.string y2) := (by simp [go_sem]); have a0 := bkeep (alb w5 (.cells #[.int .i64 y1, .string y2] 32)) (cell_of_row w5 w3.heap.size 0 _ _ _ kx); have a1 := bkeep (alb w5 (.cells #[.int .i64 y1, .string y2] 32)) (cell_of_row w5 w3.heap.size 1 _ _ _ kx)))
                  exact ⟨⟨k + 1, t, c, v5, _, by omega, by go_num, rfl, rfl, ht2, Nat.le_succ_of_le hle.out, hl2, n6⟩, by simp [intOf]; omega⟩
                · have hbt : b = true := by rw [← hb]; exact decide_eq_true hL
                  subst hbt
                  have hcn := cnt_take (X := (X1, X2)) (n := nn) hL hlen.out
                  rw [hY] at hcn
                  have hta := ht.out
                  by_cases hyX : (y1, y2) = (X1, X2)
                  · rw [if_pos hyX] at hcn
                    rw [decide_eq_true hyX] at hYX
                    have ht2 : Hid (t = c + 1 + cnt (X1, X2) (takeL L nn)) := by show _ = _; omega
                    have hle2 : Hid (t ≤ k + 1) := by have := hle.out; show _ ≤ _; omega
                    clear hL hcn hta hyX
                    go_wp2_with (first | (go_at_call 17; (with_reducible refine hlk.out.mono ?_); rintro e w3 ⟨rfl, hb3⟩; have n0 := hS.out.below hb3; have n3 := n0.below (alb w3 (.cells #[.int .i64 y1, .string y2] 32)); have z0 : (w3.alloc (.cells #[.int .i64 y1, .string y2] 32)).cell? ⟨w3.heap.size, 0, none⟩ = some (.int .i64 y1) := (by simp [go_sem]); have z1 : (w3.alloc (.cells #[.int .i64 y1, .string y2] 32)).cell? ⟨w3.heap.size, 1, none⟩ = some (.string y2) := (by simp [go_sem]); have p1 := bkeep n3.bel q1; have p2 := bkeep n3.bel q2; have p3 := bkeep n3.bel q3; have p4 := bkeep n3.bel q4; have x0 := bkeep n3.bel k0.out; have x1' := bkeep n3.bel k1.out) | (go_at_call 10; (with_reducible refine (htk.out _ n3).mono ?_); rintro e w5 ⟨rfl, v5, n5, f5⟩; have kx := n0.kept f5; have n6 := n5.below (alb w5 (.cells #[.int .i64 y1, .string y2] 32)); have j0 : (w5.alloc (.cells #[.int .i64 y1, .string y2] 32)).cell? ⟨w5.heap.size, 0, none⟩ = some (.int .i64 y1) := (by simp [go_sem]); have j1 : (w5.alloc (.cells #[.int .i64 y1, .string y2] 32)).cell? ⟨w5.heap.size, 1, none⟩ = some (.string y2) := (by simp [go_sem]); have a0 := bkeep (alb w5 (.cells #[.int .i64 y1, .string y2] 32)) (cell_of_row w5 w3.heap.size 0 _ _ _ kx); have a1 := bkeep (alb w5 (.cells #[.int .i64 y1, .string y2] 32)) (cell_of_row w5 w3.heap.size 1 _ _ _ kx)))
                    exact ⟨⟨k + 1, t, c + 1, v5, _, by omega, by go_num, by go_num, by go_num, ht2, hle2, hl2, n6⟩, by simp [intOf]; omega⟩
                  · rw [if_neg hyX] at hcn
                    rw [decide_eq_false hyX] at hYX
                    have ht2 : Hid (t = c + cnt (X1, X2) (takeL L nn)) := by show _ = _; omega
                    clear hL hcn hta hyX
                    go_wp2_with (first | (go_at_call 17; (with_reducible refine hlk.out.mono ?_); rintro e w3 ⟨rfl, hb3⟩; have n0 := hS.out.below hb3; have n3 := n0.below (alb w3 (.cells #[.int .i64 y1, .string y2] 32)); have z0 : (w3.alloc (.cells #[.int .i64 y1, .string y2] 32)).cell? ⟨w3.heap.size, 0, none⟩ = some (.int .i64 y1) := (by simp [go_sem]); have z1 : (w3.alloc (.cells #[.int .i64 y1, .string y2] 32)).cell? ⟨w3.heap.size, 1, none⟩ = some (.string y2) := (by simp [go_sem]); have p1 := bkeep n3.bel q1; have p2 := bkeep n3.bel q2; have p3 := bkeep n3.bel q3; have p4 := bkeep n3.bel q4; have x0 := bkeep n3.bel k0.out; have x1' := bkeep n3.bel k1.out) | (go_at_call 10; (with_reducible refine (htk.out _ n3).mono ?_); rintro e w5 ⟨rfl, v5, n5, f5⟩; have kx := n0.kept f5; have n6 := n5.below (alb w5 (.cells #[.int .i64 y1, .string y2] 32)); have j0 : (w5.alloc (.cells #[.int .i64 y1, .string y2] 32)).cell? ⟨w5.heap.size, 0, none⟩ = some (.int .i64 y1) := (by simp [go_sem]); have j1 : (w5.alloc (.cells #[.int .i64 y1, .string y2] 32)).cell? ⟨w5.heap.size, 1, none⟩ = some (.string y2) := (by simp [go_sem]); have a0 := bkeep (alb w5 (.cells #[.int .i64 y1, .string y2] 32)) (cell_of_row w5 w3.heap.size 0 _ _ _ kx); have a1 := bkeep (alb w5 (.cells #[.int .i64 y1, .string y2] 32)) (cell_of_row w5 w3.heap.size 1 _ _ _ kx)))
                    exact ⟨⟨k + 1, t, c, v5, _, by omega, by go_num, rfl, rfl, ht2, Nat.le_succ_of_le hle.out, hl2, n6⟩, by simp [intOf]; omega⟩
              · have e2 : (kd == 2) = false := beq_eq_false_iff_ne.2 hk2
                by_cases hk3 : kd = 3
                · subst hk3
                  have hls := fun W hW => lose_s (B := w2.heap.size) (p := w2.heap.size) (v := v) (L := L) (w := w2) (W := W) nn hW (Nat.le_trans hlen.out (by decide))
                  rw [hb] at hls
                  replace hls := Lib.hid hls
                  have hl2 : Hid ((takeL L nn).length ≤ 200) := take_len hlen.out
                  by_cases hL : L = []
                  · have hbf : b = false := by rw [← hb, hL]; rfl
                    subst hbf
                    have ht2 : Hid (t = c + cnt (X1, X2) (takeL L nn)) := by have := ht.out; rw [hL] at this ⊢; exact this
                    clear hL
                    go_wp2_with (first | (go_at_call 17; (with_reducible refine hlk.out.mono ?_); rintro e w3 ⟨rfl, hb3⟩; have n0 := hS.out.below hb3; have n3 := n0.below (alb w3 (.cells #[.int .i64 y1, .string y2] 32)); have z0 : (w3.alloc (.cells #[.int .i64 y1, .string y2] 32)).cell? ⟨w3.heap.size, 0, none⟩ = some (.int .i64 y1) := (by simp [go_sem]); have z1 : (w3.alloc (.cells #[.int .i64 y1, .string y2] 32)).cell? ⟨w3.heap.size, 1, none⟩ = some (.string y2) := (by simp [go_sem]); have p1 := bkeep n3.bel q1; have p2 := bkeep n3.bel q2; have p3 := bkeep n3.bel q3; have p4 := bkeep n3.bel q4; have x0 := bkeep n3.bel k0.out; have x1' := bkeep n3.bel k1.out) | (go_at_call 12; (with_reducible refine (hls.out _ n3).mono ?_); rintro e w5 ⟨rfl, v5, n5, f5⟩))
                    exact ⟨⟨k + 1, t, c, v5, _, by omega, by go_num, rfl, rfl, ht2, Nat.le_succ_of_le hle.out, hl2, n5⟩, by simp [intOf]; omega⟩
                  · have hbt : b = true := by rw [← hb]; exact decide_eq_true hL
                    subst hbt
                    have hcn := cnt_take (X := (X1, X2)) (n := nn) hL hlen.out
                    rw [hY] at hcn
                    have hta := ht.out
                    by_cases hyX : (y1, y2) = (X1, X2)
                    · rw [if_pos hyX] at hcn
                      rw [decide_eq_true hyX] at hYX
                      have ht1 : 1 ≤ t := by omega
                      have ht2 : Hid (t - 1 = c + cnt (X1, X2) (takeL L nn)) := by show _ = _; omega
                      have hle2 : Hid (t - 1 ≤ k + 1) := by have := hle.out; show _ ≤ _; omega
                      clear hL hcn hta hyX
                      go_wp2_with (first | (go_at_call 17; (with_reducible refine hlk.out.mono ?_); rintro e w3 ⟨rfl, hb3⟩; have n0 := hS.out.below hb3; have n3 := n0.below (alb w3 (.cells #[.int .i64 y1, .string y2] 32)); have z0 : (w3.alloc (.cells #[.int .i64 y1, .string y2] 32)).cell? ⟨w3.heap.size, 0, none⟩ = some (.int .i64 y1) := (by simp [go_sem]); have z1 : (w3.alloc (.cells #[.int .i64 y1, .string y2] 32)).cell? ⟨w3.heap.size, 1, none⟩ = some (.string y2) := (by simp [go_sem]); have p1 := bkeep n3.bel q1; have p2 := bkeep n3.bel q2; have p3 := bkeep n3.bel q3; have p4 := bkeep n3.bel q4; have x0 := bkeep n3.bel k0.out; have x1' := bkeep n3.bel k1.out) | (go_at_call 12; (with_reducible refine (hls.out _ n3).mono ?_); rintro e w5 ⟨rfl, v5, n5, f5⟩))
                      exact ⟨⟨k + 1, t - 1, c, v5, _, by omega, by go_num, by go_num, by go_num, ht2, hle2, hl2, n5⟩, by simp [intOf]; omega⟩
                    · rw [if_neg hyX] at hcn
                      rw [decide_eq_false hyX] at hYX
                      have ht2 : Hid (t = c + cnt (X1, X2) (takeL L nn)) := by show _ = _; omega
                      clear hL hcn hta hyX
                      go_wp2_with (first | (go_at_call 17; (with_reducible refine hlk.out.mono ?_); rintro e w3 ⟨rfl, hb3⟩; have n0 := hS.out.below hb3; have n3 := n0.below (alb w3 (.cells #[.int .i64 y1, .string y2] 32)); have z0 : (w3.alloc (.cells #[.int .i64 y1, .string y2] 32)).cell? ⟨w3.heap.size, 0, none⟩ = some (.int .i64 y1) := (by simp [go_sem]); have z1 : (w3.alloc (.cells #[.int .i64 y1, .string y2] 32)).cell? ⟨w3.heap.size, 1, none⟩ = some (.string y2) := (by simp [go_sem]); have p1 := bkeep n3.bel q1; have p2 := bkeep n3.bel q2; have p3 := bkeep n3.bel q3; have p4 := bkeep n3.bel q4; have x0 := bkeep n3.bel k0.out; have x1' := bkeep n3.bel k1.out) | (go_at_call 12; (with_reducible refine (hls.out _ n3).mono ?_); rintro e w5 ⟨rfl, v5, n5, f5⟩))
                      exact ⟨⟨k + 1, t, c, v5, _, by omega, by go_num, rfl, rfl, ht2, Nat.le_succ_of_le hle.out, hl2, n5⟩, by simp [intOf]; omega⟩
                · have e3 : (kd == 3) = false := beq_eq_false_iff_ne.2 hk3
                  by_cases hk4 : kd = 4
                  · subst hk4
                    by_cases hD : dblB L nn = true
                    · have hdb := fun W hW => double_s (B := w2.heap.size) (p := w2.heap.size) (v := v) (L := L) (w := w2) (W := W) nn hW (Nat.le_trans hlen.out (by decide))
                      rw [hD] at hdb
                      replace hdb := Lib.hid hdb
                      have hD1 := hD
                      unfold dblB at hD1
                      rw [hb, hY] at hD1
                      simp only [Bool.and_eq_true, beq_iff_eq] at hD1
                      obtain ⟨rfl, hE⟩ := hD1
                      have hdl : dblL L nn = putL (y1, y2) L := by unfold dblL; rw [hb, hY, if_pos rfl]
                      rw [hdl] at hdb
                      have hl2 : Hid ((putL (y1, y2) L).length ≤ 200) := put_len hlen.out
                      have hcn := cnt_put (X := (X1, X2)) hE
                      have hta := ht.out
                      by_cases hyX : (y1, y2) = (X1, X2)
                      · rw [if_pos hyX] at hcn
                        rw [decide_eq_true hyX] at hYX
                        have ht2 : Hid (t + 1 = c + cnt (X1, X2) (putL (y1, y2) L)) := by show _ = _; omega
                        have hle2 : Hid (t + 1 ≤ k + 1) := by have := hle.out; show _ ≤ _; omega
                        clear hD hE hdl hcn hta hyX
                        go_wp2_with (first | (go_at_call 17; (with_reducible refine hlk.out.mono ?_); rintro e w3 ⟨rfl, hb3⟩; have n0 := hS.out.below hb3; have n3 := n0.below (alb w3 (.cells #[.int .i64 y1, .string y2] 32)); have z0 : (w3.alloc (.cells #[.int .i64 y1, .string y2] 32)).cell? ⟨w3.heap.size, 0, none⟩ = some (.int .i64 y1) := (by simp [go_sem]); have z1 : (w3.alloc (.cells #[.int .i64 y1, .string y2] 32)).cell? ⟨w3.heap.size, 1, none⟩ = some (.string y2) := (by simp [go_sem]); have p1 := bkeep n3.bel q1; have p2 := bkeep n3.bel q2; have p3 := bkeep n3.bel q3; have p4 := bkeep n3.bel q4; have x0 := bkeep n3.bel k0.out; have x1' := bkeep n3.bel k1.out) | (go_at_call 13; (with_reducible refine (hdb.out _ n3).mono ?_); rintro e w5 ⟨rfl, v5, n5, f5⟩))
                        exact ⟨⟨k + 1, t + 1, c, v5, _, by omega, by go_num, by go_num, by go_num, ht2, hle2, hl2, n5⟩, by simp [intOf]; omega⟩
                      · rw [if_neg hyX] at hcn
                        rw [decide_eq_false hyX] at hYX
                        have ht2 : Hid (t = c + cnt (X1, X2) (putL (y1, y2) L)) := by show _ = _; omega
                        clear hD hE hdl hcn hta hyX
                        go_wp2_with (first | (go_at_call 17; (with_reducible refine hlk.out.mono ?_); rintro e w3 ⟨rfl, hb3⟩; have n0 := hS.out.below hb3; have n3 := n0.below (alb w3 (.cells #[.int .i64 y1, .string y2] 32)); have z0 : (w3.alloc (.cells #[.int .i64 y1, .string y2] 32)).cell? ⟨w3.heap.size, 0, none⟩ = some (.int .i64 y1) := (by simp [go_sem]); have z1 : (w3.alloc (.cells #[.int .i64 y1, .string y2] 32)).cell? ⟨w3.heap.size, 1, none⟩ = some (.string y2) := (by simp [go_sem]); have p1 := bkeep n3.bel q1; have p2 := bkeep n3.bel q2; have p3 := bkeep n3.bel q3; have p4 := bkeep n3.bel q4; have x0 := bkeep n3.bel k0.out; have x1' := bkeep n3.bel k1.out) | (go_at_call 13; (with_reducible refine (hdb.out _ n3).mono ?_); rintro e w5 ⟨rfl, v5, n5, f5⟩))
                        exact ⟨⟨k + 1, t, c, v5, _, by omega, by go_num, rfl, rfl, ht2, Nat.le_succ_of_le hle.out, hl2, n5⟩, by simp [intOf]; omega⟩
                    · have hdb := fun W hW => double_s (B := w2.heap.size) (p := w2.heap.size) (v := v) (L := L) (w := w2) (W := W) nn hW (Nat.le_trans hlen.out (by decide))
                      have hdl : dblL L nn = L := by
                        unfold dblL
                        split
                        · rename_i h1
                          unfold dblB at hD
                          rw [h1, Bool.true_and] at hD
                          exact put_no (by simpa using hD)
                        · rfl
                      rw [hdl, Bool.eq_false_iff.2 hD] at hdb
                      replace hdb := Lib.hid hdb
                      clear hD hdl
                      cases b with
                      | false =>
                        go_wp2_with (first | (go_at_call 17; (with_reducible refine hlk.out.mono ?_); rintro e w3 ⟨rfl, hb3⟩; have n0 := hS.out.below hb3; have n3 := n0.below (alb w3 (.cells #[.int .i64 y1, .string y2] 32)); have z0 : (w3.alloc (.cells #[.int .i64 y1, .string y2] 32)).cell? ⟨w3.heap.size, 0, none⟩ = some (.int .i64 y1) := (by simp [go_sem]); have z1 : (w3.alloc (.cells #[.int .i64 y1, .string y2] 32)).cell? ⟨w3.heap.size, 1, none⟩ = some (.string y2) := (by simp [go_sem]); have p1 := bkeep n3.bel q1; have p2 := bkeep n3.bel q2; have p3 := bkeep n3.bel q3; have p4 := bkeep n3.bel q4; have x0 := bkeep n3.bel k0.out; have x1' := bkeep n3.bel k1.out) | (go_at_call 13; (with_reducible refine (hdb.out _ n3).mono ?_); rintro e w5 ⟨rfl, v5, n5, f5⟩))
                        exact ⟨⟨k + 1, t, c, v5, _, by omega, by go_num, rfl, rfl, ht, Nat.le_succ_of_le hle.out, hlen, n5⟩, by simp [intOf]; omega⟩
                      | true =>
                        cases hdY : decide ((y1, y2) = (X1, X2)) with
                        | true =>
                          rw [hdY] at hYX
                          go_wp2_with (first | (go_at_call 17; (with_reducible refine hlk.out.mono ?_); rintro e w3 ⟨rfl, hb3⟩; have n0 := hS.out.below hb3; have n3 := n0.below (alb w3 (.cells #[.int .i64 y1, .string y2] 32)); have z0 : (w3.alloc (.cells #[.int .i64 y1, .string y2] 32)).cell? ⟨w3.heap.size, 0, none⟩ = some (.int .i64 y1) := (by simp [go_sem]); have z1 : (w3.alloc (.cells #[.int .i64 y1, .string y2] 32)).cell? ⟨w3.heap.size, 1, none⟩ = some (.string y2) := (by simp [go_sem]); have p1 := bkeep n3.bel q1; have p2 := bkeep n3.bel q2; have p3 := bkeep n3.bel q3; have p4 := bkeep n3.bel q4; have x0 := bkeep n3.bel k0.out; have x1' := bkeep n3.bel k1.out) | (go_at_call 13; (with_reducible refine (hdb.out _ n3).mono ?_); rintro e w5 ⟨rfl, v5, n5, f5⟩))
                          exact ⟨⟨k + 1, t, c, v5, _, by omega, by go_num, rfl, rfl, ht, Nat.le_succ_of_le hle.out, hlen, n5⟩, by simp [intOf]; omega⟩
                        | false =>
                          rw [hdY] at hYX
                          go_wp2_with (first | (go_at_call 17; (with_reducible refine hlk.out.mono ?_); rintro e w3 ⟨rfl, hb3⟩; have n0 := hS.out.below hb3; have n3 := n0.below (alb w3 (.cells #[.int .i64 y1, .string y2] 32)); have z0 : (w3.alloc (.cells #[.int .i64 y1, .string y2] 32)).cell? ⟨w3.heap.size, 0, none⟩ = some (.int .i64 y1) := (by simp [go_sem]); have z1 : (w3.alloc (.cells #[.int .i64 y1, .string y2] 32)).cell? ⟨w3.heap.size, 1, none⟩ = some (.string y2) := (by simp [go_sem]); have p1 := bkeep n3.bel q1; have p2 := bkeep n3.bel q2; have p3 := bkeep n3.bel q3; have p4 := bkeep n3.bel q4; have x0 := bkeep n3.bel k0.out; have x1' := bkeep n3.bel k1.out) | (go_at_call 13; (with_reducible refine (hdb.out _ n3).mono ?_); rintro e w5 ⟨rfl, v5, n5, f5⟩))
                          exact ⟨⟨k + 1, t, c, v5, _, by omega, by go_num, rfl, rfl, ht, Nat.le_succ_of_le hle.out, hlen, n5⟩, by simp [intOf]; omega⟩
                  · have e4 : (kd == 4) = false := beq_eq_false_iff_ne.2 hk4
                    cases b with
                    | false =>
                      go_wp2_with (first | (go_at_call 17; (with_reducible refine hlk.out.mono ?_); rintro e w3 ⟨rfl, hb3⟩; have n0 := hS.out.below hb3; have n3 := n0.below (alb w3 (.cells #[.int .i64 y1, .string y2] 32)); have z0 : (w3.alloc (.cells #[.int .i64 y1, .string y2] 32)).cell? ⟨w3.heap.size, 0, none⟩ = some (.int .i64 y1) := (by simp [go_sem]); have z1 : (w3.alloc (.cells #[.int .i64 y1, .string y2] 32)).cell? ⟨w3.heap.size, 1, none⟩ = some (.string y2) := (by simp [go_sem]); have p1 := bkeep n3.bel q1; have p2 := bkeep n3.bel q2; have p3 := bkeep n3.bel q3; have p4 := bkeep n3.bel q4; have x0 := bkeep n3.bel k0.out; have x1' := bkeep n3.bel k1.out))
                      exact ⟨⟨k + 1, t, c, v, _, by omega, by go_num, rfl, rfl, ht, Nat.le_succ_of_le hle.out, hlen, n3⟩, by simp [intOf]; omega⟩
                    | true =>
                      cases hdY : decide ((y1, y2) = (X1, X2)) with
                      | true =>
                        rw [hdY] at hYX
                        go_wp2_with (first | (go_at_call 17; (with_reducible refine hlk.out.mono ?_); rintro e w3 ⟨rfl, hb3⟩; have n0 := hS.out.below hb3; have n3 := n0.below (alb w3 (.cells #[.int .i64 y1, .string y2] 32)); have z0 : (w3.alloc (.cells #[.int .i64 y1, .string y2] 32)).cell? ⟨w3.heap.size, 0, none⟩ = some (.int .i64 y1) := (by simp [go_sem]); have z1 : (w3.alloc (.cells #[.int .i64 y1, .string y2] 32)).cell? ⟨w3.heap.size, 1, none⟩ = some (.string y2) := (by simp [go_sem]); have p1 := bkeep n3.bel q1; have p2 := bkeep n3.bel q2; have p3 := bkeep n3.bel q3; have p4 := bkeep n3.bel q4; have x0 := bkeep n3.bel k0.out; have x1' := bkeep n3.bel k1.out))
                        exact ⟨⟨k + 1, t, c, v, _, by omega, by go_num, rfl, rfl, ht, Nat.le_succ_of_le hle.out, hlen, n3⟩, by simp [intOf]; omega⟩
                      | false =>
                        rw [hdY] at hYX
                        go_wp2_with (first | (go_at_call 17; (with_reducible refine hlk.out.mono ?_); rintro e w3 ⟨rfl, hb3⟩; have n0 := hS.out.below hb3; have n3 := n0.below (alb w3 (.cells #[.int .i64 y1, .string y2] 32)); have z0 : (w3.alloc (.cells #[.int .i64 y1, .string y2] 32)).cell? ⟨w3.heap.size, 0, none⟩ = some (.int .i64 y1) := (by simp [go_sem]); have z1 : (w3.alloc (.cells #[.int .i64 y1, .string y2] 32)).cell? ⟨w3.heap.size, 1, none⟩ = some (.string y2) := (by simp [go_sem]); have p1 := bkeep n3.bel q1; have p2 := bkeep n3.bel q2; have p3 := bkeep n3.bel q3; have p4 := bkeep n3.bel q4; have x0 := bkeep n3.bel k0.out; have x1' := bkeep n3.bel k1.out))
                        exact ⟨⟨k + 1, t, c, v, _, by omega, by go_num, rfl, rfl, ht, Nat.le_succ_of_le hle.out, hlen, n3⟩, by simp [intOf]; omega⟩
        · have hd2 : decide ((k : Int) < (l.length : Int)) = false := decide_eq_false (by omega)
          have htb : t ≤ 400 := by have := hle.out; omega
          go_wp2
          go_loopw [7, 14] (fun C i wr => ∃ (j c : Nat) (v : Value) (L : List U2), i = .int .i64 j ∧ C = .int .i64 c ∧ j + L.length ≤ 200 ∧ Hid (t = c + cnt (X1, X2) L) ∧ Hid (NS w2.heap.size w2.heap.size v L w2 wr)) (fun _ i _ => 300 - (intOf i).toNat)
          case atStart => exact ⟨0, c, v, L, rfl, rfl, by have := hlen.out; omega, ht, hS⟩
          case round =>
            obtain ⟨j, c2, v2, L2, rfl, rfl, hj, ht3, hS2⟩ := hrel
            have hln := Lib.hid (len_s hS2.out (by omega))
            have h300 : decide ((j : Int) < 300) = true := decide_eq_true (by omega)
            by_cases hL : L2 = []
            · subst hL
              have hct : c2 = t := by have := ht3.out; unfold cnt at this; simpa using this.symm
              subst hct
              clear ht3 ht hle hlen hS hj h400
              have b2 := Lib.hid hS2.out.bel
              go_wp2_with (first
                | (go_at_call 19; first | ((with_reducible refine hln.out.mono ?_); rintro e w5 ⟨rfl, rfl⟩) | ((with_reducible refine (nlen_none _).mono ?_); rintro e w9 ⟨rfl, rfl⟩))
                | (go_at_call 10; (with_reducible refine (take_none 0 _).mono ?_); rintro e w6 ⟨rfl, b6⟩)
                | (go_at_call 17; (with_reducible refine (look_none 0 _).mono ?_); rintro e w7 ⟨rfl, b7⟩; have b8 := Lib.hid (b2.out.trans ((bt (bt b6 (alb w6 (.cells #[.int .i64 0, .string ⟨#[]⟩] 32))) (bt b7 (alb w7 (.cells #[.int .i64 0, .string ⟨#[]⟩] 32)))).mono hS2.out.hB)); have x0 := bkeep b8.out k0.out; have x1' := bkeep b8.out k1.out)
                | (go_at_call 8; (with_reducible refine (nput_none (X1, X2) _).mono ?_); rintro e w8 ⟨rfl, b9⟩)
                | (go_at_call 12; (with_reducible refine (lose_none 0 _).mono ?_); rintro e w10 ⟨rfl, b10⟩)
                | (go_at_call 13; (with_reducible refine (double_none 0 _).mono ?_); rintro e w11 ⟨rfl, b11⟩)
                | (go_at_call 15; (with_reducible refine (clear_none 0 _).mono ?_); rintro e w12 ⟨rfl, b12⟩))
              go_ret
              exact ⟨rfl, bt (bt (bt (bt (bt hbw.out b8.out) b9) b10) b11) b12⟩
            · have hLp := List.length_pos_iff.2 hL
              have hlp : decide ((0 : Int) < (L2.length : Int)) = true := decide_eq_true (by omega)
              have hlp2 : decide (0 < L2.length) = true := decide_eq_true hLp
              obtain ⟨⟨y1, y2⟩, hY⟩ : ∃ y, lookV L2 0 = y := ⟨_, rfl⟩
              have hb : lookB L2 = true := decide_eq_true hL
              have htk := take_s 0 hS2.out (Nat.le_trans (by omega : L2.length ≤ 200) (by decide))
              rw [hY, hb] at htk
              replace htk := Lib.hid htk
              have hls := take_less (n := 0) hL (by omega)
              have hcn := cnt_take (X := (X1, X2)) (n := 0) hL (by omega)
              rw [hY] at hcn
              have hta := ht3.out
              have hYX : ∀ w, (binOp .eql 32 (.agg #[.int .i64 y1, .string y2]) (.agg #[.int .i64 X1, .string X2])).run Try.prog w = .ok (.bool (decide ((y1, y2) = (X1, X2)))) w := fun w => und_eql _ _ _ _ _
              have hcb : c2 ≤ 400 := by omega
              have hc0 : (L2.length == 0) = false := beq_eq_false_iff_ne.2 (by omega)
              by_cases hyX : (y1, y2) = (X1, X2)
              · rw [if_pos hyX] at hcn
                rw [decide_eq_true hyX] at hYX
                have ht2 : Hid (t = c2 + 1 + cnt (X1, X2) (takeL L2 0)) := by show _ = _; omega
                clear hL hcn hta hyX
                go_wp2_with (first | (go_at_call 19; (with_reducible refine hln.out.mono ?_); rintro e w5 ⟨rfl, rfl⟩) | (go_at_call 10; (with_reducible refine htk.out.mono ?_); rintro e w6 ⟨rfl, v6, n6, f6⟩; have n7 := n6.below (alb w6 (.cells #[.int .i64 y1, .string y2] 32)); have x0 := bkeep n7.bel k0.out; have x1' := bkeep n7.bel k1.out))
                exact ⟨⟨j + 1, c2 + 1, v6, takeL L2 0, by go_num, by go_num, by omega, ht2, n7⟩, by simp [intOf]; omega⟩
              · rw [if_neg hyX] at hcn
                rw [decide_eq_false hyX] at hYX
                have ht2 : Hid (t = c2 + cnt (X1, X2) (takeL L2 0)) := by show _ = _; omega
                clear hL hcn hta hyX
                go_wp2_with (first | (go_at_call 19; (with_reducible refine hln.out.mono ?_); rintro e w5 ⟨rfl, rfl⟩) | (go_at_call 10; (with_reducible refine htk.out.mono ?_); rintro e w6 ⟨rfl, v6, n6, f6⟩; have n7 := n6.below (alb w6 (.cells #[.int .i64 y1, .string y2] 32)); have x0 := bkeep n7.bel k0.out; have x1' := bkeep n7.bel k1.out))
                exact ⟨⟨j + 1, c2, v6, takeL L2 0, by go_num, rfl, by omega, ht2, n7⟩, by simp [intOf]; omega⟩
end Go.Proofs.Ytfomeiikgdiefaa
