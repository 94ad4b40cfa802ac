/-
  The rule that a line says (chapter 42): the reference's Parse.
-/
import Derived.Test.YtnflnaalpeeciaaDoorPol9
namespace Go.Proofs.YtnflnaalpeeciaaDoor
open Go.RowKit
set_option linter.unusedVariables false
set_option linter.unusedSimpArgs false
set_option maxRecDepth 20000

def N1 (s : ByteArray) (k : Int) : Prop := ∀ r, chkR r = 0 → r.k < k → rlS r ≠ s
def N2 (s : ByteArray) (k i : Int) : Prop := N1 s k ∧ ∀ r, chkR r = 0 → r.k = k → r.a < i → rlS r ≠ s
def N3 (s : ByteArray) (k i j : Int) : Prop := N2 s k i ∧ ∀ r, chkR r = 0 → r.k = k → r.a = i → r.b < j → rlS r ≠ s
theorem N1.start (s : ByteArray) : N1 s 1 := fun r h h2 => by have := (chkR_ok.1 h).1; omega
theorem N1.two {s : ByteArray} {k : Int} (h : N1 s k) : N2 s k 0 := ⟨h, fun r h1 _ h2 => by have := (chkR_ok.1 h1); omega⟩
theorem N2.three {s : ByteArray} {k i : Int} (h : N2 s k i) : N3 s k i i := ⟨h, fun r h1 _ h2 h3 => by have := (chkR_ok.1 h1); omega⟩
theorem N3.next {s : ByteArray} {k i j : Int} (h : N3 s k i j) (hn : rlS ⟨k, i, j⟩ ≠ s) : N3 s k i (j + 1) := ⟨h.1, fun r h1 h2 h3 h4 => by
  by_cases e : r.b = j
  · have : r = ⟨k, i, j⟩ := by cases r; simp only at h2 h3 e; rw [h2, h3, e]
    rw [this]; exact hn
  · exact h.2 r h1 h2 h3 (by omega)⟩
theorem N3.out {s : ByteArray} {k i : Int} (h : N3 s k i 24) : N2 s k (i + 1) := ⟨h.1.1, fun r h1 h2 h3 => by
  by_cases e : r.a = i
  · exact h.2 r h1 h2 e (by have := (chkR_ok.1 h1); omega)
  · exact h.1.2 r h1 h2 (by omega)⟩
theorem N2.out {s : ByteArray} {k : Int} (h : N2 s k 24) : N1 s (k + 1) := fun r h1 h2 => by
  by_cases e : r.k = k
  · exact h.2 r h1 e (by have := (chkR_ok.1 h1); omega)
  · exact h.1 r h1 (by omega)
theorem N1.end {s : ByteArray} (h : N1 s 6) : ∀ r, chkR r = 0 → rlS r ≠ s := fun r h1 => h r h1 (by have := (chkR_ok.1 h1).1; omega)
def QK (s : ByteArray) (w : World) (v : Value) (wr : World) : Prop := ∃ k : Nat, 1 ≤ k ∧ k ≤ 6 ∧ v = .int .i64 k ∧ Hid (N1 s k) ∧ Hid (HB wr w.heap.size 0) ∧ Hid (Below w.heap.size w wr)
def QI (s : ByteArray) (w : World) (k : Nat) (v : Value) (wr : World) : Prop := ∃ i : Nat, i ≤ 24 ∧ v = .int .i64 i ∧ Hid (N2 s k i) ∧ Hid (HB wr w.heap.size 0) ∧ Hid (Below w.heap.size w wr)
def QJ (s : ByteArray) (w : World) (k i : Nat) (v : Value) (wr : World) : Prop := ∃ j : Nat, i ≤ j ∧ j ≤ 24 ∧ v = .int .i64 j ∧ Hid (N3 s k i j) ∧ Hid (HB wr w.heap.size 0) ∧ Hid (Below w.heap.size w wr)
set_option maxHeartbeats 3200000 in
theorem rparse_any (s : ByteArray) (w : World) (hs : s.size ≤ 140737488355328) : Calls Tryd.prog 19 #[.string s] w (PPE s w) := by
  have hfin : ∀ (r : Rl) (er : Int) W, PR3 s r er → Below w.heap.size w W → PPE s w (.returned (.tuple #[.agg #[.int .i64 r.k, .int .i64 r.a, .int .i64 r.b], .int .i64 er])) W := fun r er W h1 h2 => ⟨r, er, h1, rfl, h2⟩
  generalize PPE s w = Pst at *
  replace hfin := Lib.hid hfin
  have hzz : ∀ w, (zeroValue 29).run Tryd.prog w = .ok (.agg #[.int .i64 0, .int .i64 0, .int .i64 0]) w := fun _ => by kernel_rfl
  by_cases hbig : 600 < s.size
  · have hp : PR3 s ⟨0, 0, 0⟩ 11 := .inl ⟨hbig, rfl, rfl⟩
    have hp := Lib.hid hp
    have hd : decide ((600 : Int) < (s.size : Int)) = true := decide_eq_true (by omega)
    have hd' : decide (600 < s.size) = true := decide_eq_true hbig
    go_enter Tryd.func19, Tryd.ntmps19
    go_wp2
    go_returns
    exact hfin.out ⟨0, 0, 0⟩ 11 _ hp.out (alb _ _)
  · obtain ⟨W1, hW1⟩ : ∃ W1, w.alloc (.cells #[.int .i64 0, .int .i64 0, .int .i64 0] 29) = W1 := ⟨_, rfl⟩
    have hR0 : Hid (HB W1 w.heap.size 0) := hW1 ▸ heap_alloc_new w _
    have hb1 := Lib.hid (hW1 ▸ alb w _ : Below w.heap.size w W1)
    have hd : decide ((600 : Int) < (s.size : Int)) = false := decide_eq_false (by omega)
    have hd' : decide (600 < s.size) = false := decide_eq_false hbig
    go_enter Tryd.func19, Tryd.ntmps19
    go_wp2
    go_loopw [4] (fun v wr => QK s w v wr) (fun v _ => 6 - (intOf v).toNat)
    case atStart => exact ⟨1, by omega, by omega, rfl, N1.start s, hR0, hb1⟩
    case round =>
      obtain ⟨k, hk1, hk6, rfl, hN, hR, hB⟩ := hrel
      by_cases hk5 : k ≤ 5
      · have hd5 : decide ((k : Int) ≤ 5) = true := decide_eq_true (by omega)
        have hd6 : decide (k ≤ 5) = true := decide_eq_true hk5
        go_wp2
        go_loopw [5] (fun v wr => QI s w k v wr) (fun v _ => 24 - (intOf v).toNat)
        case atStart => exact ⟨0, by omega, rfl, hN.out.two, hR, hB⟩
        case round =>
          obtain ⟨i, hi, rfl, hN, hR, hB⟩ := hrel
          by_cases hi4 : i < 24
          · have hd7 : decide ((i : Int) < 24) = true := decide_eq_true (by omega)
            have hd8 : decide (i < 24) = true := decide_eq_true hi4
            go_wp2
            go_loopw [6] (fun v wr => QJ s w k i v wr) (fun v _ => 24 - (intOf v).toNat)
            case atStart => exact ⟨i, by omega, by omega, rfl, hN.out.three, hR, hB⟩
            case round =>
              obtain ⟨j, hij, hj, rfl, hN, hR, hB⟩ := hrel
              by_cases hj4 : j < 24
              · have hd9 : decide ((j : Int) < 24) = true := decide_eq_true (by omega)
                have hd0 : decide (j < 24) = true := decide_eq_true hj4
                have hck : chkR ⟨k, i, j⟩ = 0 := chkR_ok.2 ⟨⟨by show (1 : Int) ≤ k; omega, by show (k : Int) ≤ 5; omega⟩, by show (0 : Int) ≤ i; omega, by show (i : Int) ≤ j; omega, by show (j : Int) ≤ 23; omega⟩
                have hP := fun W => rprint_any ⟨k, i, j⟩ W
                unfold rlV prnV prnS at hP
                rw [if_pos hck, hck] at hP
                simp only at hP
                obtain ⟨W2, hW2⟩ : ∃ W2, wr.alloc (.cells #[.int .i64 k, .int .i64 i, .int .i64 j] 29) = W2 := ⟨_, rfl⟩
                have hx2 : HB3 W2 wr.heap.size k i j := hW2 ▸ heap_alloc_new wr _
                have hb2 : Below wr.heap.size wr W2 := hW2 ▸ alb wr _
                have hR2 := Lib.hid (hR.out.below hb2)
                replace hb2 := Lib.hid (bt hB.out hb2)
                obtain ⟨x0, x1, x2⟩ := hx2.c
                replace hx2 := Lib.hid hx2
                have hPRj : Hid (rlS ⟨k, i, j⟩ = s → PR3 s ⟨k, i, j⟩ 0) := fun h => .inr (.inl ⟨by omega, hck, h, rfl⟩)
                have hN2 : Hid (rlS ⟨k, i, j⟩ ≠ s → N3 s k i ((j + 1 : Nat) : Int)) := fun h => by
                  have := hN.out.next h
                  rw [show ((j + 1 : Nat) : Int) = (j : Int) + 1 by omega]
                  exact this
                generalize rlS ⟨k, i, j⟩ = t at *
                by_cases he : t = s
                · replace hPRj := Lib.hid (hPRj.out he)
                  rw [he] at hP
                  replace hP := Lib.hid hP
                  clear he hN2
                  go_wp2_with (go_at_call 17; (with_reducible refine (hP.out _).mono ?_); rintro e4 w4 ⟨rfl, hA⟩; obtain ⟨y0, y1, y2⟩ := (hx2.out.below hA).c; obtain ⟨p0, p1, p2⟩ := (hR2.out.below hA).c; have g0 := (hR2.out.below hA).free 0; have g1 := (hR2.out.below hA).free 1; have g2 := (hR2.out.below hA).free 2; have hend := Lib.hid (fun a1 a2 a3 => (((bt hb2.out hA).setCell (p := ⟨w.heap.size, 0, none⟩) (Nat.le_refl _) a1).setCell (p := ⟨w.heap.size, 1, none⟩) (Nat.le_refl _) a2).setCell (p := ⟨w.heap.size, 2, none⟩) (Nat.le_refl _) a3); clear hA)
                  first | go_returns | (refine bodyPost_ret (v := .tuple #[.agg #[.int .i64 k, .int .i64 i, .int .i64 j], .int .i64 0]) (by simp [results, Tryd.results19, go_sem, p0, p1, p2]) rfl ?_)
                  exact hfin.out ⟨k, i, j⟩ 0 _ hPRj.out (hend.out _ _ _)
                · have he1 : (t.toList == s.toList) = false := by
                    rw [beq_eq_false_iff_ne]
                    intro h
                    rw [ByteArray.toList_eq, ByteArray.toList_eq] at h
                    exact he (dl_eq h)
                  replace hN2 := Lib.hid (hN2.out he)
                  replace hP := Lib.hid hP
                  clear he hPRj
                  go_wp2_with (go_at_call 17; (with_reducible refine (hP.out _).mono ?_); rintro e4 w4 ⟨rfl, hA⟩; have hR4 := Lib.hid (hR2.out.below hA); have hb4 := Lib.hid (bt hb2.out hA); clear hA)
                  exact ⟨⟨j + 1, by omega, by omega, by go_num, hN2.out, hR4, hb4⟩, by simp [intOf]; omega⟩
              · have hd9 : decide ((j : Int) < 24) = false := decide_eq_false (by omega)
                have hd0 : decide (j < 24) = false := decide_eq_false hj4
                have he : j = 24 := by omega
                subst he
                have hN2 : Hid (N2 s k ((i + 1 : Nat) : Int)) := by
                  have := hN.out.out
                  show N2 s k ((i + 1 : Nat) : Int)
                  rw [show ((i + 1 : Nat) : Int) = (i : Int) + 1 by omega]
                  exact this
                go_wp2
                exact ⟨⟨i + 1, by omega, by go_num, hN2, hR, hB⟩, by simp [intOf]; omega⟩
          · have hd7 : decide ((i : Int) < 24) = false := decide_eq_false (by omega)
            have hd8 : decide (i < 24) = false := decide_eq_false hi4
            have he : i = 24 := by omega
            subst he
            have hN2 : Hid (N1 s ((k + 1 : Nat) : Int)) := by
              have := hN.out.out
              show N1 s ((k + 1 : Nat) : Int)
              rw [show ((k + 1 : Nat) : Int) = (k : Int) + 1 by omega]
              exact this
            go_wp2
            exact ⟨⟨k + 1, by omega, by omega, by go_num, hN2, hR, hB⟩, by simp [intOf]; omega⟩
      · have hd5 : decide ((k : Int) ≤ 5) = false := decide_eq_false (by omega)
        have hd6 : decide (k ≤ 5) = false := decide_eq_false hk5
        have he : k = 6 := by omega
        subst he
        have hp : PR3 s ⟨0, 0, 0⟩ 4 := .inr (.inr ⟨by omega, N1.end hN.out, rfl, rfl⟩)
        replace hp := Lib.hid hp
        obtain ⟨p0, p1, p2⟩ := hR.out.c
        have g0 := hR.out.free 0
        have g1 := hR.out.free 1
        have g2 := hR.out.free 2
        have hend := Lib.hid (fun a1 a2 a3 => ((hB.out.setCell (p := ⟨w.heap.size, 0, none⟩) (Nat.le_refl _) a1).setCell (p := ⟨w.heap.size, 1, none⟩) (Nat.le_refl _) a2).setCell (p := ⟨w.heap.size, 2, none⟩) (Nat.le_refl _) a3)
        go_wp2
        first | go_returns | (refine bodyPost_ret (v := .tuple #[.agg #[.int .i64 0, .int .i64 0, .int .i64 0], .int .i64 4]) (by simp [results, Tryd.results19, go_sem, p0, p1, p2]) rfl ?_)
        exact hfin.out ⟨0, 0, 0⟩ 4 _ hp.out (hend.out _ _ _)
end Go.Proofs.YtnflnaalpeeciaaDoor
