/-
  The rule that a line says (chapter 42): the program's Parse.
-/
import Derived.Test.YtnflnaalpeeciaaDoorPol8
import Derived.Test.YtnflnaalpeeciaaDoorCountRead2
import Derived.Test.YtnflnaalpeeciaaDoorBytes
namespace Go.Proofs.YtnflnaalpeeciaaDoor
open Go.RowKit
set_option linter.unusedVariables false
set_option linter.unusedSimpArgs false
set_option maxRecDepth 20000

/-- where the library's own variable holds a number -/
def ML (w : World) : Prop := ∃ m : Int, w.cell? ⟨0, 0, none⟩ = some (.int .i64 m)
theorem ML.below {w w' : World} (h : ML w) (hb : Below w.heap.size w w') : ML w' := by
  obtain ⟨m, hm⟩ := h
  exact ⟨m, bkeep hb hm⟩
theorem split_other (s : ByteArray) (w : World) (hs : s.size ≤ 600) (hm : ML w) (h : Lib.countB s spB ≠ 2) : Calls Tryd.prog 37 #[.string s, .string ⟨#[32]⟩] w fun e w' => ∃ (a : Option Addr) (n c : Nat), e = .returned (.slice a n c) ∧ n ≠ 3 ∧ Below w.heap.size w w' := by
  obtain ⟨m, hm⟩ := hm
  refine (Tryd.strings_Split s spB m w (by omega) hm (by decide)).mono ?_
  rintro e w' ⟨h1, rfl⟩
  exact ⟨_, _, _, h1, by omega, alb w _⟩
theorem split_three (s : ByteArray) (a b c : List UInt8) (w : World) (hs : s.size ≤ 600) (hm : ML w) (h : s.data.toList = a ++ 32 :: (b ++ 32 :: c)) (ha : (32 : UInt8) ∉ a) (hb : (32 : UInt8) ∉ b) (hc : (32 : UInt8) ∉ c) :
    Calls Tryd.prog 37 #[.string s, .string ⟨#[32]⟩] w fun e w' => ∃ K : Nat, e = .returned (.slice (some ⟨K, 0, none⟩) 3 3) ∧ w'.cell? ⟨K, 0, none⟩ = some (.string ⟨a.toArray⟩) ∧ w'.cell? ⟨K, 1, none⟩ = some (.string ⟨b.toArray⟩) ∧ w'.cell? ⟨K, 2, none⟩ = some (.string ⟨c.toArray⟩) ∧ w.heap.size ≤ K ∧ Below w.heap.size w w' := by
  obtain ⟨m, hm⟩ := hm
  obtain ⟨h1, h2⟩ := splitB3 h ha hb hc
  have hS := Tryd.strings_Split s spB m w (by omega) hm (by decide)
  rw [h1, h2] at hS
  refine hS.mono ?_
  rintro e w' ⟨h3, rfl⟩
  exact ⟨_, h3, by simp [go_sem], by simp [go_sem], by simp [go_sem], Nat.le_refl _, alb w _⟩
def PPE (s : ByteArray) (w : World) (e : Ending) (w' : World) : Prop := ∃ r er, PR3 s r er ∧ e = .returned (.tuple #[rlV r, .int .i64 er]) ∧ Below w.heap.size w w'
/-- the kind so far -/
def kd (a : ByteArray) (q : Int) : Int := if kindOf a < q then kindOf a else 0
theorem kd_yes (a : ByteArray) (q : Int) (h1 : 1 ≤ q ∧ q ≤ 5) (h : nameR q = a) : kd a (q + 1) = q := by
  unfold kd
  rw [← h, kindOf_name h1, if_pos (by omega)]
theorem kd_no (a : ByteArray) (q : Int) (h1 : 1 ≤ q ∧ q ≤ 5) (h : nameR q ≠ a) : kd a (q + 1) = kd a q := by
  unfold kd
  have : kindOf a ≠ q := by
    intro e
    rcases kindOf_is a with h2 | ⟨_, _, h2⟩
    · omega
    · rw [e] at h2; exact h h2
  by_cases h3 : kindOf a < q
  · rw [if_pos h3, if_pos (by omega)]
  · rw [if_neg h3, if_neg (by omega)]
theorem kd_start (a : ByteArray) : kd a 1 = 0 := by
  unfold kd
  rcases kindOf_is a with h | ⟨h, _, _⟩
  · rw [if_pos (by omega), h]
  · rw [if_neg (by omega)]
theorem kd_end (a : ByteArray) : kd a 6 = kindOf a := by
  unfold kd
  rcases kindOf_is a with h | ⟨_, h, _⟩ <;> rw [if_pos (by omega)]
def HB (W : World) (K : Nat) (k : Int) : Prop := W.heap[K]? = some (.cells #[.int .i64 k, .int .i64 0, .int .i64 0] 29 (0, 0))
theorem HB.c {W : World} {K : Nat} {k : Int} (h : HB W K k) : W.cell? ⟨K, 0, none⟩ = some (.int .i64 k) ∧ W.cell? ⟨K, 1, none⟩ = some (.int .i64 0) ∧ W.cell? ⟨K, 2, none⟩ = some (.int .i64 0) :=
  ⟨cell_of_row W K 0 _ _ _ h, cell_of_row W K 1 _ _ _ h, cell_of_row W K 2 _ _ _ h⟩
theorem HB.free {W : World} {K : Nat} {k : Int} (h : HB W K k) (j : Nat) : W.frozen? ⟨K, j, none⟩ = false := frozen_of_row W K j _ _ h
theorem HB.put {W : World} {K : Nat} {k : Int} (h : HB W K k) (q : Int) : HB (W.setCell ⟨K, 0, none⟩ (.int .i64 q)) K q := by
  have := heap_setCell_same W K 0 _ _ (.int .i64 q) h
  exact this
theorem HB.below {W W' : World} {K : Nat} {k : Int} (h : HB W K k) (hb : Below W.heap.size W W') : HB W' K k := (hb.block K (Array.getElem?_eq_some_iff.1 h).1).trans h
theorem HB.frm {S : Nat → Prop} {W W' : World} {K : Nat} {k : Int} (h : HB W K k) (hf : Frm S W W') (hs : ¬ S K) : HB W' K k := (hf.block K (Array.getElem?_eq_some_iff.1 h).1 hs).trans h
def HB3 (W : World) (K : Nat) (k a b : Int) : Prop := W.heap[K]? = some (.cells #[.int .i64 k, .int .i64 a, .int .i64 b] 29 (0, 0))
theorem HB3.c {W : World} {K : Nat} {k a b : Int} (h : HB3 W K k a b) : W.cell? ⟨K, 0, none⟩ = some (.int .i64 k) ∧ W.cell? ⟨K, 1, none⟩ = some (.int .i64 a) ∧ W.cell? ⟨K, 2, none⟩ = some (.int .i64 b) :=
  ⟨cell_of_row W K 0 _ _ _ h, cell_of_row W K 1 _ _ _ h, cell_of_row W K 2 _ _ _ h⟩
theorem HB3.below {W W' : World} {K : Nat} {k a b : Int} (h : HB3 W K k a b) (hb : Below W.heap.size W W') : HB3 W' K k a b := (hb.block K (Array.getElem?_eq_some_iff.1 h).1).trans h
theorem HB.put1 {W : World} {K : Nat} {k : Int} (h : HB W K k) (v : Int) : HB3 (W.setCell ⟨K, 1, none⟩ (.int .i64 v)) K k v 0 := heap_setCell_same W K 1 _ _ (.int .i64 v) h
theorem HB3.put2 {W : World} {K : Nat} {k a b : Int} (h : HB3 W K k a b) (v : Int) : HB3 (W.setCell ⟨K, 2, none⟩ (.int .i64 v)) K k a v := heap_setCell_same W K 2 _ _ (.int .i64 v) h
theorem HB3.free {W : World} {K : Nat} {k a b : Int} (h : HB3 W K k a b) (j : Nat) : W.frozen? ⟨K, j, none⟩ = false := frozen_of_row W K j _ _ h
def PKR (w5 : World) (K : Nat) (a : ByteArray) (i : Value) (wr : World) : Prop := ∃ q : Nat, 1 ≤ q ∧ q ≤ 6 ∧ i = .int .i64 q ∧ Hid (HB wr K (kd a q)) ∧ Hid (Frm (fun k => k = K) w5 wr)
set_option maxHeartbeats 3200000 in
theorem parse_any (s : ByteArray) (w : World) (hm : ML w) (hs : s.size ≤ 140737488355328) : Calls Tryd.prog 18 #[.string s] w (PPE s w) := by
  have hfin : ∀ (r : Rl) (er : Int) W, PR3 s r er → Below w.heap.size w W → PPE s w (.returned (.tuple #[.agg #[.int .i64 r.k, .int .i64 r.a, .int .i64 r.b], .int .i64 er])) W := fun r er W h1 h2 => ⟨r, er, h1, rfl, h2⟩
  generalize PPE s w = Pst at *
  replace hfin := Lib.hid hfin
  have hzz : ∀ w, (zeroValue 29).run Tryd.prog w = .ok (.agg #[.int .i64 0, .int .i64 0, .int .i64 0]) w := fun _ => by kernel_rfl
  obtain ⟨W1, hW1⟩ : ∃ W1, w.alloc (.cells #[.int .i64 0, .int .i64 0, .int .i64 0] 29) = W1 := ⟨_, rfl⟩
  have hR0 : Hid (HB W1 w.heap.size 0) := hW1 ▸ heap_alloc_new w _
  have hb1 := Lib.hid (hW1 ▸ alb w _ : Below w.heap.size w W1)
  by_cases hbig : 600 < s.size
  · have hp : PR3 s ⟨0, 0, 0⟩ 11 := .inl ⟨hbig, rfl, rfl⟩
    have hp := Lib.hid hp
    have hd : decide ((600 : Int) < (s.size : Int)) = true := decide_eq_true (by omega)
    have hd' : decide (600 < s.size) = true := decide_eq_true hbig
    clear hm hW1 hR0 hb1
    go_enter Tryd.func18, Tryd.ntmps18
    go_wp2
    go_returns
    exact hfin.out ⟨0, 0, 0⟩ 11 _ hp.out (alb _ _)
  · have hd : decide ((600 : Int) < (s.size : Int)) = false := decide_eq_false (by omega)
    have hd' : decide (600 < s.size) = false := decide_eq_false hbig
    have hm1 := Lib.hid (hm.below hb1.out)
    have hf := Lib.hid (hR0.out.free)
    by_cases h2 : Lib.countB s spB = 2
    · rw [countB_eq] at h2
      obtain ⟨a, b, c, hsd, ha, hb, hc⟩ := split3 h2
      have hS := Lib.hid (split_three s a b c W1 (by omega) hm1.out hsd ha hb hc)
      obtain ⟨hP1, hP2⟩ := PR3_three (s := s) (by omega) hsd ha hb hc
      have hsb : Hid ((⟨b.toArray⟩ : ByteArray).size ≤ 140737488355328 ∧ (⟨c.toArray⟩ : ByteArray).size ≤ 140737488355328) := by
        have h3 := congrArg List.length hsd
        have e : ∀ x : ByteArray, x.data.toList.length = x.size := fun x => by simp
        rw [e] at h3
        simp at h3
        show (⟨b.toArray⟩ : ByteArray).size ≤ 140737488355328 ∧ (⟨c.toArray⟩ : ByteArray).size ≤ 140737488355328
        rw [← e, ← e]
        simp
        omega
      generalize (⟨a.toArray⟩ : ByteArray) = sa at *
      generalize (⟨b.toArray⟩ : ByteArray) = sb at *
      generalize (⟨c.toArray⟩ : ByteArray) = sc at *
      generalize hkk : kindOf sa = kk at *
      have hend0 := Lib.hid (kd_end sa)
      rw [hkk] at hend0
      have hst0 := Lib.hid (kd_start sa)
      replace hP1 := Lib.hid hP1
      replace hP2 := Lib.hid hP2
      have hRb := Lib.hid (fun W => read_any sb W)
      have hRc := Lib.hid (fun W => read_any sc W)
      replace hRb := Lib.hid (fun W => hRb.out W hsb.out.1)
      replace hRc := Lib.hid (fun W => hRc.out W hsb.out.2)
      clear hsd ha hb hc h2 hkk hsb hm
      go_enter Tryd.func18, Tryd.ntmps18
      go_wp2_with (go_at_call 37; (with_reducible refine hS.out.mono ?_); rintro e1 w2 ⟨K, rfl, t0, t1, t2, hKw, hA⟩; have hR2 := Lib.hid (hR0.out.below hA); have hb2 := Lib.hid (bt hb1.out hA); have hKlt := Lib.hid (World.block_lt_of_cell? _ _ t0); clear hA; obtain ⟨W5, hW5⟩ : ∃ W5, w2.alloc (.cells #[.int .i64 0, .int .i64 0, .int .i64 0] 29) = W5 := ⟨_, rfl⟩; have hA := hW5 ▸ alb w2 (.cells #[.int .i64 0, .int .i64 0, .int .i64 0] 29); have hR5 := Lib.hid (hR2.out.below hA); have hb5 := Lib.hid (bt hb2.out hA); have hN5 : Hid (HB W5 w2.heap.size 0) := hW5 ▸ heap_alloc_new w2 _; have s0 := bkeep hA t0; have s1 := bkeep hA t1; have s2 := bkeep hA t2; have hwlt : Hid (w.heap.size < w2.heap.size) := (Array.getElem?_eq_some_iff.1 hR2.out).1; clear hA t0 t1 t2)
      have hK0 := Lib.hid s0
      have hK1 := Lib.hid s1
      have hK2 := Lib.hid s2
      clear s0 s1 s2
      go_loopw [6] (fun i wr => PKR W5 w2.heap.size sa i wr) (fun i _ => 6 - (intOf i).toNat)
      case atStart => exact ⟨1, by omega, by omega, rfl, by (show HB _ _ _; rw [show ((1 : Nat) : Int) = 1 from rfl, hst0.out]; exact hN5.out), Frm.refl _ _⟩
      case round =>
        obtain ⟨q, hq1, hq6, rfl, hBq, hFq⟩ := hrel
        have s0 := hFq.out.cell (p := ⟨K, 0, none⟩) (fun e : K = w2.heap.size => absurd hKlt.out (by show ¬ K < w2.heap.size; omega)) hK0.out
        obtain ⟨d0, d1, d2⟩ := hBq.out.c
        by_cases hq5 : q ≤ 5
        · have hd5 : decide ((q : Int) ≤ 5) = true := decide_eq_true (by omega)
          have hd6 : decide (q ≤ 5) = true := decide_eq_true hq5
          have hN := Lib.hid (fun W => name_any (q : Int) W)
          have hr2 := Lib.hid (show (fun w' : World => w'.cell? ⟨K, 0, none⟩ = some (.string sa)) wr.drew from s0)
          by_cases he : nameR (q : Int) = sa
          · have hk2 : Hid (kd sa ((q : Int) + 1) = q) := kd_yes sa q (by omega) he
            have hput := Lib.hid (hBq.out.put (q : Int))
            have hfrm := Lib.hid (hFq.out.setCell (p := ⟨w2.heap.size, 0, none⟩) (.inl rfl) (.int .i64 q))
            have z0 := hBq.out.free 0
            rw [he] at hN
            clear he d1 d2
            go_wp2
            refine wp_region_held_drew (S := (fun w' : World => w'.cell? ⟨K, 0, none⟩ = some (.string sa))) (by kernel_rfl) ?_ (fun hHeld => ?_)
            · first | with_reducible exact hr2.out
            first | (refine tw (i := 0) (v := ?_) ?_ hHeld ?_; rotate_left; focus (intro w hSw; (try dsimp only at hSw); go_simp; (try with_reducible rfl); done)) | refine tn (i := 0) hHeld ?_
            try simp only [Act.put, List.setIfInBounds_toArray, List.set_cons_zero, List.set_cons_succ]
            first | (refine tw (i := 2) (v := ?_) ?_ hHeld ?_; rotate_left; focus (intro w hSw; (try dsimp only at hSw); go_simp; (try with_reducible rfl); done)) | refine tn (i := 2) hHeld ?_
            try simp only [Act.put, List.setIfInBounds_toArray, List.set_cons_zero, List.set_cons_succ]
            first | (refine tw (i := 3) (v := ?_) ?_ hHeld ?_; rotate_left; focus (intro w hSw; (try dsimp only at hSw); go_simp; (try with_reducible rfl); done)) | refine tn (i := 3) hHeld ?_
            try simp only [Act.put, List.setIfInBounds_toArray, List.set_cons_zero, List.set_cons_succ]
            first | (refine tw (i := 4) (v := ?_) ?_ hHeld ?_; rotate_left; focus (intro w hSw; (try dsimp only at hSw); go_simp; (try with_reducible rfl); done)) | refine tn (i := 4) hHeld ?_
            try simp only [Act.put, List.setIfInBounds_toArray, List.set_cons_zero, List.set_cons_succ]
            refine call_next (i := 1) (by kernel_rfl) (by rfl) ?_
            intro o ho K hK
            simp only [List.getElem?_toArray, List.getElem?_cons_succ, List.getElem?_cons_zero, Option.some.injEq] at ho
            subst ho
            first | (fail; refine hK.out _ _ ?_ (fun hHeld => ?_)) | (go_simp; first | (with_reducible refine hK.out _ _ ?_ (fun hHeld => ?_)) | ((go_at_call 33; (with_reducible refine (hN.out _).mono ?_); rintro e5 w6 ⟨rfl, rfl⟩); refine hK.out _ _ ?_ (fun hHeld => ?_)))
            · first | with_reducible exact hr2.out
            clear hK K
            try simp only [Act.put, List.setIfInBounds_toArray, List.set_cons_zero, List.set_cons_succ]
            first | (refine tw (i := 5) (v := ?_) ?_ hHeld ?_; rotate_left; focus (intro w hSw; (try dsimp only at hSw); go_simp; (try with_reducible rfl); done)) | refine tn (i := 5) hHeld ?_
            try simp only [Act.put, List.setIfInBounds_toArray, List.set_cons_zero, List.set_cons_succ]
            refine wpAnyH_done (by kernel_rfl) ?_ _
            go_wp2
            refine ⟨⟨q + 1, by omega, by omega, by go_num, ?_, ?_⟩, by simp [intOf]; omega⟩
            · show HB _ _ (kd sa ((q + 1 : Nat) : Int))
              rw [show ((q + 1 : Nat) : Int) = (q : Int) + 1 by omega, hk2.out]
              exact hput.out
            · exact hfrm.out.drew
          · have hk2 : Hid (kd sa ((q : Int) + 1) = kd sa q) := kd_no sa q (by omega) he
            have he1 : ((nameR (q : Int)).toList == sa.toList) = false := by
              rw [beq_eq_false_iff_ne]
              intro h
              rw [ByteArray.toList_eq, ByteArray.toList_eq] at h
              exact he (dl_eq h)
            generalize nameR (q : Int) = nm at *
            clear he d0 d1 d2
            go_wp2
            refine wp_region_held_drew (S := (fun w' : World => w'.cell? ⟨K, 0, none⟩ = some (.string sa))) (by kernel_rfl) ?_ (fun hHeld => ?_)
            · first | with_reducible exact hr2.out
            first | (refine tw (i := 0) (v := ?_) ?_ hHeld ?_; rotate_left; focus (intro w hSw; (try dsimp only at hSw); go_simp; (try with_reducible rfl); done)) | refine tn (i := 0) hHeld ?_
            try simp only [Act.put, List.setIfInBounds_toArray, List.set_cons_zero, List.set_cons_succ]
            first | (refine tw (i := 2) (v := ?_) ?_ hHeld ?_; rotate_left; focus (intro w hSw; (try dsimp only at hSw); go_simp; (try with_reducible rfl); done)) | refine tn (i := 2) hHeld ?_
            try simp only [Act.put, List.setIfInBounds_toArray, List.set_cons_zero, List.set_cons_succ]
            first | (refine tw (i := 3) (v := ?_) ?_ hHeld ?_; rotate_left; focus (intro w hSw; (try dsimp only at hSw); go_simp; (try with_reducible rfl); done)) | refine tn (i := 3) hHeld ?_
            try simp only [Act.put, List.setIfInBounds_toArray, List.set_cons_zero, List.set_cons_succ]
            first | (refine tw (i := 4) (v := ?_) ?_ hHeld ?_; rotate_left; focus (intro w hSw; (try dsimp only at hSw); go_simp; (try with_reducible rfl); done)) | refine tn (i := 4) hHeld ?_
            try simp only [Act.put, List.setIfInBounds_toArray, List.set_cons_zero, List.set_cons_succ]
            refine call_next (i := 1) (by kernel_rfl) (by rfl) ?_
            intro o ho K hK
            simp only [List.getElem?_toArray, List.getElem?_cons_succ, List.getElem?_cons_zero, Option.some.injEq] at ho
            subst ho
            first | (fail; refine hK.out _ _ ?_ (fun hHeld => ?_)) | (go_simp; first | (with_reducible refine hK.out _ _ ?_ (fun hHeld => ?_)) | ((go_at_call 33; (with_reducible refine (hN.out _).mono ?_); rintro e5 w6 ⟨rfl, rfl⟩); refine hK.out _ _ ?_ (fun hHeld => ?_)))
            · first | with_reducible exact hr2.out
            clear hK K
            try simp only [Act.put, List.setIfInBounds_toArray, List.set_cons_zero, List.set_cons_succ]
            first | (refine tw (i := 5) (v := ?_) ?_ hHeld ?_; rotate_left; focus (intro w hSw; (try dsimp only at hSw); go_simp; (try with_reducible rfl); done)) | refine tn (i := 5) hHeld ?_
            try simp only [Act.put, List.setIfInBounds_toArray, List.set_cons_zero, List.set_cons_succ]
            refine wpAnyH_done (by kernel_rfl) ?_ _
            go_wp2
            refine ⟨⟨q + 1, by omega, by omega, by go_num, ?_, hFq.out.drew⟩, by simp [intOf]; omega⟩
            show HB _ _ (kd sa ((q + 1 : Nat) : Int))
            rw [show ((q + 1 : Nat) : Int) = (q : Int) + 1 by omega, hk2.out]
            exact hBq.out
        · have hd5 : decide ((q : Int) ≤ 5) = false := decide_eq_false (by omega)
          have hd6 : decide (q ≤ 5) = false := decide_eq_false hq5
          have he : q = 6 := by omega
          subst he
          rw [show ((6 : Nat) : Int) = 6 from rfl, hend0.out] at hBq d0
          have hKne : K ≠ w2.heap.size := by have := hKlt.out; omega
          have s1 := hFq.out.cell (p := ⟨K, 1, none⟩) hKne hK1.out
          have s2 := hFq.out.cell (p := ⟨K, 2, none⟩) hKne hK2.out
          have hwne : w.heap.size ≠ w2.heap.size := by have := hwlt.out; omega
          have hRr := hR5.out.frm hFq.out hwne
          have hbr := hFq.out.after hb5.out hb5.out.size (fun k hk e => by have := hwlt.out; omega)
          generalize readV sb = v1 at *
          generalize readE sb = e1 at *
          generalize readV sc = v2 at *
          generalize readE sc = e2 at *
          have z1 := hBq.out.free 1
          have hA3 := hBq.out.put1 v1
          have hF1 := Frm.one wr w2.heap.size 1 (.int .i64 v1)
          obtain ⟨Wa, hWa⟩ : ∃ Wa, wr.setCell ⟨w2.heap.size, 1, none⟩ (.int .i64 v1) = Wa := ⟨_, rfl⟩
          rw [hWa] at hA3 hF1
          have t2 := hF1.cell (p := ⟨K, 2, none⟩) hKne s2
          obtain ⟨a0, a1, a2⟩ := hA3.c
          have z2 := hA3.free 2
          have hB3 := hA3.put2 v2
          have hF2 := Frm.one Wa w2.heap.size 2 (.int .i64 v2)
          obtain ⟨Wb, hWb⟩ : ∃ Wb, Wa.setCell ⟨w2.heap.size, 2, none⟩ (.int .i64 v2) = Wb := ⟨_, rfl⟩
          rw [hWb] at hB3 hF2
          obtain ⟨b0, b1, b2⟩ := hB3.c
          have hRes := (hRr.frm hF1 hwne).frm hF2 hwne
          have hbb := hF2.after (hF1.after hbr hbr.size (fun k hk e => by have := hwlt.out; omega)) (Nat.le_trans hbr.size hF1.size) (fun k hk e => by have := hwlt.out; omega)
          have hB3 := Lib.hid hB3
          have hRes := Lib.hid hRes
          have hbb := Lib.hid hbb
          clear hF1 hF2 hRr hbr hA3 s2
          obtain ⟨r0, r1, r2⟩ := hRes.out.c
          have f0 := hRes.out.free 0
          have f1 := hRes.out.free 1
          have f2 := hRes.out.free 2
          by_cases he1 : e1 = 0
          · by_cases he2 : e2 = 0
            · subst he1 he2
              have hC := fun W => check_any ⟨kk, v1, v2⟩ W
              unfold rlV at hC
              simp only at hC
              generalize hz : chkR ⟨kk, v1, v2⟩ = z at *
              by_cases hz0 : z = 0
              · subst hz0
                have hp := Lib.hid (hP1.out ⟨rfl, rfl, rfl⟩)
                replace hC := Lib.hid hC
                clear hz
                go_wp2_with (first | (go_at_call 38; first | ((with_reducible refine (hRb.out _).mono ?_); rintro e3 w3 ⟨rfl, rfl⟩) | ((with_reducible refine (hRc.out _).mono ?_); rintro e3 w3 ⟨rfl, rfl⟩)) | (go_at_call 20; (with_reducible refine (hC.out _).mono ?_); rintro e4 w8 ⟨rfl, hA⟩; obtain ⟨y0, y1, y2⟩ := (hB3.out.below hA).c; obtain ⟨p0, p1, p2⟩ := (hRes.out.below hA).c; have g0 := (hRes.out.below hA).free 0; have g1 := (hRes.out.below hA).free 1; have g2 := (hRes.out.below hA).free 2; have hend := Lib.hid (fun a1 a2 a3 => (((bt hbb.out hA).setCell (p := ⟨w.heap.size, 0, none⟩) (Nat.le_refl _) a1).setCell (p := ⟨w.heap.size, 1, none⟩) (Nat.le_refl _) a2).setCell (p := ⟨w.heap.size, 2, none⟩) (Nat.le_refl _) a3); clear hA))
                first | go_returns | (refine bodyPost_ret (v := .tuple #[.agg #[.int .i64 kk, .int .i64 v1, .int .i64 v2], .int .i64 0]) (by simp [results, Tryd.results18, go_sem, p0, p1, p2]) rfl ?_)
                exact hfin.out ⟨kk, v1, v2⟩ 0 _ hp.out (hend.out _ _ _)
              · have hp := Lib.hid (hP2.out (fun h => hz0 h.2.2))
                have n3 : (z != 0) = true := by simpa [bne] using hz0
                have n4 : (z == 0) = false := by simpa using hz0
                replace hC := Lib.hid hC
                clear hz hz0
                go_wp2_with (first | (go_at_call 38; first | ((with_reducible refine (hRb.out _).mono ?_); rintro e3 w3 ⟨rfl, rfl⟩) | ((with_reducible refine (hRc.out _).mono ?_); rintro e3 w3 ⟨rfl, rfl⟩)) | (go_at_call 20; (with_reducible refine (hC.out _).mono ?_); rintro e4 w8 ⟨rfl, hA⟩; obtain ⟨y0, y1, y2⟩ := (hB3.out.below hA).c; obtain ⟨p0, p1, p2⟩ := (hRes.out.below hA).c; have g0 := (hRes.out.below hA).free 0; have g1 := (hRes.out.below hA).free 1; have g2 := (hRes.out.below hA).free 2; have hend := Lib.hid (fun a1 a2 a3 => (((bt hbb.out hA).setCell (p := ⟨w.heap.size, 0, none⟩) (Nat.le_refl _) a1).setCell (p := ⟨w.heap.size, 1, none⟩) (Nat.le_refl _) a2).setCell (p := ⟨w.heap.size, 2, none⟩) (Nat.le_refl _) a3); clear hA))
                first | go_returns | (refine bodyPost_ret (v := .tuple #[.agg #[.int .i64 0, .int .i64 0, .int .i64 0], .int .i64 4]) (by simp [results, Tryd.results18, go_sem, p0, p1, p2]) rfl ?_)
                exact hfin.out ⟨0, 0, 0⟩ 4 _ hp.out (hend.out _ _ _)
            · subst he1
              have hp := Lib.hid (hP2.out (fun h => he2 h.2.1))
              have n3 : (e2 != 0) = true := by simpa [bne] using he2
              have n4 : (e2 == 0) = false := by simpa using he2
              have hend := Lib.hid (fun a1 a2 a3 => ((hbb.out.setCell (p := ⟨w.heap.size, 0, none⟩) (Nat.le_refl _) a1).setCell (p := ⟨w.heap.size, 1, none⟩) (Nat.le_refl _) a2).setCell (p := ⟨w.heap.size, 2, none⟩) (Nat.le_refl _) a3)
              clear he2
              go_wp2_with (first | (go_at_call 38; first | ((with_reducible refine (hRb.out _).mono ?_); rintro e3 w3 ⟨rfl, rfl⟩) | ((with_reducible refine (hRc.out _).mono ?_); rintro e3 w3 ⟨rfl, rfl⟩)))
              first | go_returns | (refine bodyPost_ret (v := .tuple #[.agg #[.int .i64 0, .int .i64 0, .int .i64 0], .int .i64 4]) (by simp [results, Tryd.results18, go_sem, r0, r1, r2]) rfl ?_)
              exact hfin.out ⟨0, 0, 0⟩ 4 _ hp.out (hend.out _ _ _)
          · have hp := Lib.hid (hP2.out (fun h => he1 h.1))
            have n3 : (e1 != 0) = true := by simpa [bne] using he1
            have n4 : (e1 == 0) = false := by simpa using he1
            have hend := Lib.hid (fun a1 a2 a3 => ((hbb.out.setCell (p := ⟨w.heap.size, 0, none⟩) (Nat.le_refl _) a1).setCell (p := ⟨w.heap.size, 1, none⟩) (Nat.le_refl _) a2).setCell (p := ⟨w.heap.size, 2, none⟩) (Nat.le_refl _) a3)
            clear he1
            go_wp2_with (first | (go_at_call 38; first | ((with_reducible refine (hRb.out _).mono ?_); rintro e3 w3 ⟨rfl, rfl⟩) | ((with_reducible refine (hRc.out _).mono ?_); rintro e3 w3 ⟨rfl, rfl⟩)))
            first | go_returns | (refine bodyPost_ret (v := .tuple #[.agg #[.int .i64 0, .int .i64 0, .int .i64 0], .int .i64 4]) (by simp [results, Tryd.results18, go_sem, r0, r1, r2]) rfl ?_)
            exact hfin.out ⟨0, 0, 0⟩ 4 _ hp.out (hend.out _ _ _)
    · have hS := Lib.hid (split_other s W1 (by omega) hm1.out h2)
      have hp := Lib.hid (PR3_other (by omega) h2)
      obtain ⟨r0, r1, r2⟩ := hR0.out.c
      have f0 := hR0.out.free 0
      have f1 := hR0.out.free 1
      have f2 := hR0.out.free 2
      go_enter Tryd.func18, Tryd.ntmps18
      go_wp2_with (go_at_call 37; (with_reducible refine hS.out.mono ?_); rintro e1 w2 ⟨sa, sn, sc, rfl, hn3, hA⟩; have q0 := bkeep hA r0; have q1 := bkeep hA r1; have q2 := bkeep hA r2; have g0 := bfree hA r0 f0; have g1 := bfree hA r1 f1; have g2 := bfree hA r2 f2; have hn4 : (((sn : Nat) : Int) != 3) = true := (by simp [bne]; omega); have hend := fun a1 a2 a3 => (((bt hb1.out hA).setCell (p := ⟨w.heap.size, 0, none⟩) (Nat.le_refl _) a1).setCell (p := ⟨w.heap.size, 1, none⟩) (Nat.le_refl _) a2).setCell (p := ⟨w.heap.size, 2, none⟩) (Nat.le_refl _) a3; replace hend := Lib.hid hend; clear hA)
      first | go_returns | (refine bodyPost_ret (v := .tuple #[.agg #[.int .i64 0, .int .i64 0, .int .i64 0], .int .i64 4]) (by simp [results, Tryd.results18, go_sem, q0, q1, q2]) rfl ?_)
      exact hfin.out ⟨0, 0, 0⟩ 4 _ hp.out (hend.out _ _ _)
end Go.Proofs.YtnflnaalpeeciaaDoor
