/-
  The statement StateChanges (chapter 23). (genstl.py prints the repeated rows.)
-/
import Derived.Test.YtingeahkndingaaStateWork
import Derived.Test.YtingeahkndingaaState7
namespace Go.Proofs.Ytingeahkndingaa
open Go.RowKit
set_option linter.unusedVariables false
set_option linter.unusedSimpArgs false
theorem held4o {w : World} {n m l : Int} {t : ByteArray} (T : TypeId) : let W := w.alloc (.cells #[.int .i64 n, .int .i64 m, .int .i64 l, .string t] T)
    W.cell? ⟨w.heap.size, 0, none⟩ = some (.int .i64 n) ∧ W.cell? ⟨w.heap.size, 1, none⟩ = some (.int .i64 m) ∧ W.cell? ⟨w.heap.size, 2, none⟩ = some (.int .i64 l) ∧ W.cell? ⟨w.heap.size, 3, none⟩ = some (.string t) := by
  intro W
  refine ⟨?_, ?_, ?_, ?_⟩ <;> simp [W, go_sem]
theorem wr_at {k a b : Int} {d : ByteArray} {p q : Int} {e : ByteArray} {r s : Int} {f : ByteArray} {z : St} {node boot E : Int} {t : ByteArray} (h : wrS ⟨k, a, b, d, ⟨p, q, e⟩, ⟨r, s, f⟩⟩ node boot t = z) (he : wrE ⟨k, a, b, d, ⟨p, q, e⟩, ⟨r, s, f⟩⟩ node boot t = E) (w : World) : Calls Try.prog 15 #[SS k a b d p q e r s f, .int .i64 node, .int .i64 boot, .string t] w fun e' w' => e' = .returned (.tuple #[SS z.k z.a z.b z.d z.x.p z.x.q z.x.d z.y.p z.y.q z.y.d, .int .i64 E]) ∧ Below w.heap.size w w' := h ▸ he ▸ write_any k a b d p q e r s f node boot t w
theorem rwr_at {k a b : Int} {d : ByteArray} {p q : Int} {e : ByteArray} {r s : Int} {f : ByteArray} {z : St} {node boot E : Int} {t : ByteArray} (h : wrS ⟨k, a, b, d, ⟨p, q, e⟩, ⟨r, s, f⟩⟩ node boot t = z) (he : wrE ⟨k, a, b, d, ⟨p, q, e⟩, ⟨r, s, f⟩⟩ node boot t = E) (w : World) (ha : a ≤ 9223372036854775807) (hb : b ≤ 9223372036854775807) (ht : boot ≤ 9223372036854775807) : Calls Try.prog 16 #[SS k a b d p q e r s f, .int .i64 node, .int .i64 boot, .string t] w fun e' w' => e' = .returned (.tuple #[SS z.k z.a z.b z.d z.x.p z.x.q z.x.d z.y.p z.y.q z.y.d, .int .i64 E]) ∧ Below w.heap.size w w' := h ▸ he ▸ rwrite_any k a b d p q e r s f node boot t w ha hb ht
theorem rres_at {k a b : Int} {d : ByteArray} {p q : Int} {e : ByteArray} {r s : Int} {f : ByteArray} {z : St} {node boot choice E : Int} {t : ByteArray} (h : resS ⟨k, a, b, d, ⟨p, q, e⟩, ⟨r, s, f⟩⟩ node boot choice t = z) (he : resE ⟨k, a, b, d, ⟨p, q, e⟩, ⟨r, s, f⟩⟩ node boot choice t = E) (w : World) (ha : a ≤ 9223372036854775807) (hb : b ≤ 9223372036854775807) (ht : boot ≤ 9223372036854775807) : Calls Try.prog 18 #[SS k a b d p q e r s f, .int .i64 node, .int .i64 boot, .int .i64 choice, .string t] w fun e' w' => e' = .returned (.tuple #[SS z.k z.a z.b z.d z.x.p z.x.q z.x.d z.y.p z.y.q z.y.d, .int .i64 E]) ∧ Below w.heap.size w w' := h ▸ he ▸ rresolve_any k a b d p q e r s f node boot choice t w ha hb ht
theorem rcmp_at {a b c d E : Int} (h : cmpZ a b c d = E) (w : World) : Calls Try.prog 13 #[VV a b, VV c d] w fun e w' => e = .returned (.int .i64 E) ∧ Below w.heap.size w w' := h ▸ rcompare_any a b c d w
set_option maxHeartbeats 40000000 in
theorem walk_StateChanges (k a b : Int) (d : ByteArray) (p q : Int) (e : ByteArray) (r s : Int) (f : ByteArray) (hk : (Lit.int .i64 k).wf = true) (ha : (Lit.int .i64 a).wf = true) (hb : (Lit.int .i64 b).wf = true) (hd : d.size ≤ maxLen) (hp : (Lit.int .i64 p).wf = true) (hq : (Lit.int .i64 q).wf = true) (he : e.size ≤ maxLen) (hr : (Lit.int .i64 r).wf = true) (hs : (Lit.int .i64 s).wf = true) (hf : f.size ≤ maxLen) (nd bt_ ch : Int) (tx : ByteArray) (hnd : (Lit.int .i64 nd).wf = true) (hbt : (Lit.int .i64 bt_).wf = true) (hch : (Lit.int .i64 ch).wf = true) (htx : tx.size ≤ maxLen) {w : World} :
    Calls Try.prog 4 #[SS k a b d p q e r s f, .agg #[.int .i64 nd, .int .i64 bt_, .int .i64 ch, .string tx]] w fun e' w' => e' = .returned (.bool true) ∧ Below w.heap.size w w' := by
  have HA := Lib.hid (And.intro (bounds_i64 ha).2 (And.intro (bounds_i64 hb).2 (bounds_i64 hbt).2))
  clear hk ha hb hd hp hq he hr hs hf hnd hbt hch htx
  cases hbig : (decide (1000 < (d.size : Int)) || (decide (1000 < (e.size : Int)) || decide (1000 < (f.size : Int))))
  case true =>
    obtain ⟨c0, c1, c2, c3, c4, c5, c6, c7, c8, c9⟩ := held10 (w := w) (k := k) (a := a) (b := b) (d := d) (p := p) (q := q) (e := e) (r := r) (s := s) (f := f) 27
    have HB : Below w.heap.size w (w.alloc (.cells #[.int .i64 k, .int .i64 a, .int .i64 b, .string d, .int .i64 p, .int .i64 q, .string e, .int .i64 r, .int .i64 s, .string f] 27)) := (Below.refl _ _).alloc (Nat.le_refl _) _
    have hz1 : (w.alloc (.cells #[.int .i64 k, .int .i64 a, .int .i64 b, .string d, .int .i64 p, .int .i64 q, .string e, .int .i64 r, .int .i64 s, .string f] 27)).heap.size = w.heap.size + 1 := by simp
    go_enter Try.func4, Try.ntmps4
    go_wp2_with fail
    generalize w.alloc (.cells #[.int .i64 k, .int .i64 a, .int .i64 b, .string d, .int .i64 p, .int .i64 q, .string e, .int .i64 r, .int .i64 s, .string f] 27) = W1 at *
    obtain ⟨o0, o1, o2, o3⟩ := held4o (w := W1) (n := nd) (m := bt_) (l := ch) (t := tx) 38
    rw [hz1] at o0 o1 o2 o3
    have hA : Below W1.heap.size W1 (W1.alloc (.cells #[.int .i64 nd, .int .i64 bt_, .int .i64 ch, .string tx] 38)) := (Below.refl _ _).alloc (Nat.le_refl _) _
    replace c0 := bkeep hA c0
    replace c1 := bkeep hA c1
    replace c2 := bkeep hA c2
    replace c3 := bkeep hA c3
    replace c4 := bkeep hA c4
    replace c5 := bkeep hA c5
    replace c6 := bkeep hA c6
    replace c7 := bkeep hA c7
    replace c8 := bkeep hA c8
    replace c9 := bkeep hA c9
    replace HB := bt HB hA
    clear hA hz1
    generalize W1.alloc (.cells #[.int .i64 nd, .int .i64 bt_, .int .i64 ch, .string tx] 38) = W2 at *
    refine (works_any _).mono ?_
    rintro e' W3 ⟨rfl, hA⟩
    replace c0 := bkeep hA c0
    replace c1 := bkeep hA c1
    replace c2 := bkeep hA c2
    replace c3 := bkeep hA c3
    replace c4 := bkeep hA c4
    replace c5 := bkeep hA c5
    replace c6 := bkeep hA c6
    replace c7 := bkeep hA c7
    replace c8 := bkeep hA c8
    replace c9 := bkeep hA c9
    replace o0 := bkeep hA o0
    replace o1 := bkeep hA o1
    replace o2 := bkeep hA o2
    replace o3 := bkeep hA o3
    replace HB := bt HB hA
    clear hA
    go_wp2_with fail
    refine (big_any _ _ _ _ _ _ _ _ _ _ _).mono ?_
    rintro e' W4 ⟨rfl, hA⟩
    replace c0 := bkeep hA c0
    replace c1 := bkeep hA c1
    replace c2 := bkeep hA c2
    replace c3 := bkeep hA c3
    replace c4 := bkeep hA c4
    replace c5 := bkeep hA c5
    replace c6 := bkeep hA c6
    replace c7 := bkeep hA c7
    replace c8 := bkeep hA c8
    replace c9 := bkeep hA c9
    replace o0 := bkeep hA o0
    replace o1 := bkeep hA o1
    replace o2 := bkeep hA o2
    replace o3 := bkeep hA o3
    replace HB := bt HB hA
    clear hA
    rw [hbig]
    go_wp2
    go_ret
    exact ⟨rfl, HB⟩
  cases hbt2 : decide (1000 < (tx.size : Int))
  case true =>
    obtain ⟨c0, c1, c2, c3, c4, c5, c6, c7, c8, c9⟩ := held10 (w := w) (k := k) (a := a) (b := b) (d := d) (p := p) (q := q) (e := e) (r := r) (s := s) (f := f) 27
    have HB : Below w.heap.size w (w.alloc (.cells #[.int .i64 k, .int .i64 a, .int .i64 b, .string d, .int .i64 p, .int .i64 q, .string e, .int .i64 r, .int .i64 s, .string f] 27)) := (Below.refl _ _).alloc (Nat.le_refl _) _
    have hz1 : (w.alloc (.cells #[.int .i64 k, .int .i64 a, .int .i64 b, .string d, .int .i64 p, .int .i64 q, .string e, .int .i64 r, .int .i64 s, .string f] 27)).heap.size = w.heap.size + 1 := by simp
    go_enter Try.func4, Try.ntmps4
    go_wp2_with fail
    generalize w.alloc (.cells #[.int .i64 k, .int .i64 a, .int .i64 b, .string d, .int .i64 p, .int .i64 q, .string e, .int .i64 r, .int .i64 s, .string f] 27) = W1 at *
    obtain ⟨o0, o1, o2, o3⟩ := held4o (w := W1) (n := nd) (m := bt_) (l := ch) (t := tx) 38
    rw [hz1] at o0 o1 o2 o3
    have hA : Below W1.heap.size W1 (W1.alloc (.cells #[.int .i64 nd, .int .i64 bt_, .int .i64 ch, .string tx] 38)) := (Below.refl _ _).alloc (Nat.le_refl _) _
    replace c0 := bkeep hA c0
    replace c1 := bkeep hA c1
    replace c2 := bkeep hA c2
    replace c3 := bkeep hA c3
    replace c4 := bkeep hA c4
    replace c5 := bkeep hA c5
    replace c6 := bkeep hA c6
    replace c7 := bkeep hA c7
    replace c8 := bkeep hA c8
    replace c9 := bkeep hA c9
    replace HB := bt HB hA
    clear hA hz1
    generalize W1.alloc (.cells #[.int .i64 nd, .int .i64 bt_, .int .i64 ch, .string tx] 38) = W2 at *
    refine (works_any _).mono ?_
    rintro e' W3 ⟨rfl, hA⟩
    replace c0 := bkeep hA c0
    replace c1 := bkeep hA c1
    replace c2 := bkeep hA c2
    replace c3 := bkeep hA c3
    replace c4 := bkeep hA c4
    replace c5 := bkeep hA c5
    replace c6 := bkeep hA c6
    replace c7 := bkeep hA c7
    replace c8 := bkeep hA c8
    replace c9 := bkeep hA c9
    replace o0 := bkeep hA o0
    replace o1 := bkeep hA o1
    replace o2 := bkeep hA o2
    replace o3 := bkeep hA o3
    replace HB := bt HB hA
    clear hA
    go_wp2_with fail
    refine (big_any _ _ _ _ _ _ _ _ _ _ _).mono ?_
    rintro e' W4 ⟨rfl, hA⟩
    replace c0 := bkeep hA c0
    replace c1 := bkeep hA c1
    replace c2 := bkeep hA c2
    replace c3 := bkeep hA c3
    replace c4 := bkeep hA c4
    replace c5 := bkeep hA c5
    replace c6 := bkeep hA c6
    replace c7 := bkeep hA c7
    replace c8 := bkeep hA c8
    replace c9 := bkeep hA c9
    replace o0 := bkeep hA o0
    replace o1 := bkeep hA o1
    replace o2 := bkeep hA o2
    replace o3 := bkeep hA o3
    replace HB := bt HB hA
    clear hA
    rw [hbig]
    go_wp2
    go_ret
    exact ⟨rfl, HB⟩
  obtain ⟨E1, hE1⟩ : ∃ z, wrE ⟨k, a, b, d, ⟨p, q, e⟩, ⟨r, s, f⟩⟩ nd bt_ tx = z := ⟨_, rfl⟩
  obtain ⟨E2, hE2⟩ : ∃ z, resE ⟨k, a, b, d, ⟨p, q, e⟩, ⟨r, s, f⟩⟩ nd bt_ ch tx = z := ⟨_, rfl⟩
  have L1 := wr_law ⟨k, a, b, d, ⟨p, q, e⟩, ⟨r, s, f⟩⟩ nd bt_ tx
  have L2 := res_law ⟨k, a, b, d, ⟨p, q, e⟩, ⟨r, s, f⟩⟩ nd bt_ ch tx
  obtain ⟨⟨wk, wa, wb, wd, ⟨wp, wq, we⟩, ⟨wr, ws, wf⟩⟩, hw⟩ : ∃ z, wrS ⟨k, a, b, d, ⟨p, q, e⟩, ⟨r, s, f⟩⟩ nd bt_ tx = z := ⟨_, rfl⟩
  obtain ⟨⟨xk, xa, xb, xd, ⟨xp, xq, xe⟩, ⟨xr, xs, xf⟩⟩, hx⟩ : ∃ z, resS ⟨k, a, b, d, ⟨p, q, e⟩, ⟨r, s, f⟩⟩ nd bt_ ch tx = z := ⟨_, rfl⟩
  have C1 := Lib.hid (fun w => wr_at hw hE1 w)
  have C2 := Lib.hid (fun w => rwr_at hw hE1 w HA.out.1 HA.out.2.1 HA.out.2.2)
  have C3 := Lib.hid (fun w => res_at hx hE2 w)
  have C4 := Lib.hid (fun w => rres_at hx hE2 w HA.out.1 HA.out.2.1 HA.out.2.2)
  rw [hw, hE1] at L1
  rw [hx, hE2] at L2
  have r1 := fun W => sne_same wk wa wb wd wp wq we wr ws wf W
  have r2 := fun W => sne_same xk xa xb xd xp xq xe xr xs xf W
  clear hw hx hE1 hE2
  by_cases h1 : E1 = 0
  · have l1 := L1 h1
    have Q1 := Lib.hid (fun w => rcmp_at l1.1 w)
    have Q3 := Lib.hid (fun w => chk_at l1.2 w)
    subst h1
    clear L1 l1
    by_cases h2 : E2 = 0
    · have l2 := L2 h2
      have Q2 := Lib.hid (fun w => rcmp_at l2.1 w)
      have Q4 := Lib.hid (fun w => chk_at l2.2 w)
      subst h2
      clear L2 l2
      obtain ⟨c0, c1, c2, c3, c4, c5, c6, c7, c8, c9⟩ := held10 (w := w) (k := k) (a := a) (b := b) (d := d) (p := p) (q := q) (e := e) (r := r) (s := s) (f := f) 27
      have HB : Below w.heap.size w (w.alloc (.cells #[.int .i64 k, .int .i64 a, .int .i64 b, .string d, .int .i64 p, .int .i64 q, .string e, .int .i64 r, .int .i64 s, .string f] 27)) := (Below.refl _ _).alloc (Nat.le_refl _) _
      have hz1 : (w.alloc (.cells #[.int .i64 k, .int .i64 a, .int .i64 b, .string d, .int .i64 p, .int .i64 q, .string e, .int .i64 r, .int .i64 s, .string f] 27)).heap.size = w.heap.size + 1 := by simp
      go_enter Try.func4, Try.ntmps4
      go_wp2_with fail
      generalize w.alloc (.cells #[.int .i64 k, .int .i64 a, .int .i64 b, .string d, .int .i64 p, .int .i64 q, .string e, .int .i64 r, .int .i64 s, .string f] 27) = W1 at *
      obtain ⟨o0, o1, o2, o3⟩ := held4o (w := W1) (n := nd) (m := bt_) (l := ch) (t := tx) 38
      rw [hz1] at o0 o1 o2 o3
      have hA : Below W1.heap.size W1 (W1.alloc (.cells #[.int .i64 nd, .int .i64 bt_, .int .i64 ch, .string tx] 38)) := (Below.refl _ _).alloc (Nat.le_refl _) _
      replace c0 := bkeep hA c0
      replace c1 := bkeep hA c1
      replace c2 := bkeep hA c2
      replace c3 := bkeep hA c3
      replace c4 := bkeep hA c4
      replace c5 := bkeep hA c5
      replace c6 := bkeep hA c6
      replace c7 := bkeep hA c7
      replace c8 := bkeep hA c8
      replace c9 := bkeep hA c9
      replace HB := bt HB hA
      clear hA hz1
      generalize W1.alloc (.cells #[.int .i64 nd, .int .i64 bt_, .int .i64 ch, .string tx] 38) = W2 at *
      refine (works_any _).mono ?_
      rintro e' W3 ⟨rfl, hA⟩
      replace c0 := bkeep hA c0
      replace c1 := bkeep hA c1
      replace c2 := bkeep hA c2
      replace c3 := bkeep hA c3
      replace c4 := bkeep hA c4
      replace c5 := bkeep hA c5
      replace c6 := bkeep hA c6
      replace c7 := bkeep hA c7
      replace c8 := bkeep hA c8
      replace c9 := bkeep hA c9
      replace o0 := bkeep hA o0
      replace o1 := bkeep hA o1
      replace o2 := bkeep hA o2
      replace o3 := bkeep hA o3
      replace HB := bt HB hA
      clear hA
      go_wp2_with fail
      refine (big_any _ _ _ _ _ _ _ _ _ _ _).mono ?_
      rintro e' W4 ⟨rfl, hA⟩
      replace c0 := bkeep hA c0
      replace c1 := bkeep hA c1
      replace c2 := bkeep hA c2
      replace c3 := bkeep hA c3
      replace c4 := bkeep hA c4
      replace c5 := bkeep hA c5
      replace c6 := bkeep hA c6
      replace c7 := bkeep hA c7
      replace c8 := bkeep hA c8
      replace c9 := bkeep hA c9
      replace o0 := bkeep hA o0
      replace o1 := bkeep hA o1
      replace o2 := bkeep hA o2
      replace o3 := bkeep hA o3
      replace HB := bt HB hA
      clear hA
      rw [hbig]
      go_wp2_with fail
      refine (C1.out _).mono ?_
      rintro e' W5 ⟨rfl, hA⟩
      replace c0 := bkeep hA c0
      replace c1 := bkeep hA c1
      replace c2 := bkeep hA c2
      replace c3 := bkeep hA c3
      replace c4 := bkeep hA c4
      replace c5 := bkeep hA c5
      replace c6 := bkeep hA c6
      replace c7 := bkeep hA c7
      replace c8 := bkeep hA c8
      replace c9 := bkeep hA c9
      replace o0 := bkeep hA o0
      replace o1 := bkeep hA o1
      replace o2 := bkeep hA o2
      replace o3 := bkeep hA o3
      replace HB := bt HB hA
      clear hA
      obtain ⟨A0, A1, A2, A3, A4, A5, A6, A7, A8, A9⟩ := held10 (w := W5) (k := wk) (a := wa) (b := wb) (d := wd) (p := wp) (q := wq) (e := we) (r := wr) (s := ws) (f := wf) 27
      have hA := (Below.refl W5.heap.size W5).alloc (Nat.le_refl _) (.cells #[.int .i64 wk, .int .i64 wa, .int .i64 wb, .string wd, .int .i64 wp, .int .i64 wq, .string we, .int .i64 wr, .int .i64 ws, .string wf] 27)
      replace c0 := bkeep hA c0
      replace c1 := bkeep hA c1
      replace c2 := bkeep hA c2
      replace c3 := bkeep hA c3
      replace c4 := bkeep hA c4
      replace c5 := bkeep hA c5
      replace c6 := bkeep hA c6
      replace c7 := bkeep hA c7
      replace c8 := bkeep hA c8
      replace c9 := bkeep hA c9
      replace o0 := bkeep hA o0
      replace o1 := bkeep hA o1
      replace o2 := bkeep hA o2
      replace o3 := bkeep hA o3
      replace HB := bt HB hA
      clear hA
      go_wp2_with fail
      generalize W5.alloc (.cells #[.int .i64 wk, .int .i64 wa, .int .i64 wb, .string wd, .int .i64 wp, .int .i64 wq, .string we, .int .i64 wr, .int .i64 ws, .string wf] 27) = W5' at *
      refine (C2.out _).mono ?_
      rintro e' W6 ⟨rfl, hA⟩
      replace c0 := bkeep hA c0
      replace c1 := bkeep hA c1
      replace c2 := bkeep hA c2
      replace c3 := bkeep hA c3
      replace c4 := bkeep hA c4
      replace c5 := bkeep hA c5
      replace c6 := bkeep hA c6
      replace c7 := bkeep hA c7
      replace c8 := bkeep hA c8
      replace c9 := bkeep hA c9
      replace o0 := bkeep hA o0
      replace o1 := bkeep hA o1
      replace o2 := bkeep hA o2
      replace o3 := bkeep hA o3
      replace A0 := bkeep hA A0
      replace A1 := bkeep hA A1
      replace A2 := bkeep hA A2
      replace A3 := bkeep hA A3
      replace A4 := bkeep hA A4
      replace A5 := bkeep hA A5
      replace A6 := bkeep hA A6
      replace A7 := bkeep hA A7
      replace A8 := bkeep hA A8
      replace A9 := bkeep hA A9
      replace HB := bt HB hA
      clear hA
      obtain ⟨B0, B1, B2, B3, B4, B5, B6, B7, B8, B9⟩ := held10 (w := W6) (k := wk) (a := wa) (b := wb) (d := wd) (p := wp) (q := wq) (e := we) (r := wr) (s := ws) (f := wf) 27
      have hA := (Below.refl W6.heap.size W6).alloc (Nat.le_refl _) (.cells #[.int .i64 wk, .int .i64 wa, .int .i64 wb, .string wd, .int .i64 wp, .int .i64 wq, .string we, .int .i64 wr, .int .i64 ws, .string wf] 27)
      replace c0 := bkeep hA c0
      replace c1 := bkeep hA c1
      replace c2 := bkeep hA c2
      replace c3 := bkeep hA c3
      replace c4 := bkeep hA c4
      replace c5 := bkeep hA c5
      replace c6 := bkeep hA c6
      replace c7 := bkeep hA c7
      replace c8 := bkeep hA c8
      replace c9 := bkeep hA c9
      replace o0 := bkeep hA o0
      replace o1 := bkeep hA o1
      replace o2 := bkeep hA o2
      replace o3 := bkeep hA o3
      replace A0 := bkeep hA A0
      replace A1 := bkeep hA A1
      replace A2 := bkeep hA A2
      replace A3 := bkeep hA A3
      replace A4 := bkeep hA A4
      replace A5 := bkeep hA A5
      replace A6 := bkeep hA A6
      replace A7 := bkeep hA A7
      replace A8 := bkeep hA A8
      replace A9 := bkeep hA A9
      replace HB := bt HB hA
      clear hA
      go_wp2_with fail
      generalize W6.alloc (.cells #[.int .i64 wk, .int .i64 wa, .int .i64 wb, .string wd, .int .i64 wp, .int .i64 wq, .string we, .int .i64 wr, .int .i64 ws, .string wf] 27) = W6' at *
      refine (C3.out _).mono ?_
      rintro e' W7 ⟨rfl, hA⟩
      replace c0 := bkeep hA c0
      replace c1 := bkeep hA c1
      replace c2 := bkeep hA c2
      replace c3 := bkeep hA c3
      replace c4 := bkeep hA c4
      replace c5 := bkeep hA c5
      replace c6 := bkeep hA c6
      replace c7 := bkeep hA c7
      replace c8 := bkeep hA c8
      replace c9 := bkeep hA c9
      replace o0 := bkeep hA o0
      replace o1 := bkeep hA o1
      replace o2 := bkeep hA o2
      replace o3 := bkeep hA o3
      replace A0 := bkeep hA A0
      replace A1 := bkeep hA A1
      replace A2 := bkeep hA A2
      replace A3 := bkeep hA A3
      replace A4 := bkeep hA A4
      replace A5 := bkeep hA A5
      replace A6 := bkeep hA A6
      replace A7 := bkeep hA A7
      replace A8 := bkeep hA A8
      replace A9 := bkeep hA A9
      replace B0 := bkeep hA B0
      replace B1 := bkeep hA B1
      replace B2 := bkeep hA B2
      replace B3 := bkeep hA B3
      replace B4 := bkeep hA B4
      replace B5 := bkeep hA B5
      replace B6 := bkeep hA B6
      replace B7 := bkeep hA B7
      replace B8 := bkeep hA B8
      replace B9 := bkeep hA B9
      replace HB := bt HB hA
      clear hA
      obtain ⟨G0, G1, G2, G3, G4, G5, G6, G7, G8, G9⟩ := held10 (w := W7) (k := xk) (a := xa) (b := xb) (d := xd) (p := xp) (q := xq) (e := xe) (r := xr) (s := xs) (f := xf) 27
      have hA := (Below.refl W7.heap.size W7).alloc (Nat.le_refl _) (.cells #[.int .i64 xk, .int .i64 xa, .int .i64 xb, .string xd, .int .i64 xp, .int .i64 xq, .string xe, .int .i64 xr, .int .i64 xs, .string xf] 27)
      replace c0 := bkeep hA c0
      replace c1 := bkeep hA c1
      replace c2 := bkeep hA c2
      replace c3 := bkeep hA c3
      replace c4 := bkeep hA c4
      replace c5 := bkeep hA c5
      replace c6 := bkeep hA c6
      replace c7 := bkeep hA c7
      replace c8 := bkeep hA c8
      replace c9 := bkeep hA c9
      replace o0 := bkeep hA o0
      replace o1 := bkeep hA o1
      replace o2 := bkeep hA o2
      replace o3 := bkeep hA o3
      replace A0 := bkeep hA A0
      replace A1 := bkeep hA A1
      replace A2 := bkeep hA A2
      replace A3 := bkeep hA A3
      replace A4 := bkeep hA A4
      replace A5 := bkeep hA A5
      replace A6 := bkeep hA A6
      replace A7 := bkeep hA A7
      replace A8 := bkeep hA A8
      replace A9 := bkeep hA A9
      replace B0 := bkeep hA B0
      replace B1 := bkeep hA B1
      replace B2 := bkeep hA B2
      replace B3 := bkeep hA B3
      replace B4 := bkeep hA B4
      replace B5 := bkeep hA B5
      replace B6 := bkeep hA B6
      replace B7 := bkeep hA B7
      replace B8 := bkeep hA B8
      replace B9 := bkeep hA B9
      replace HB := bt HB hA
      clear hA
      go_wp2_with fail
      generalize W7.alloc (.cells #[.int .i64 xk, .int .i64 xa, .int .i64 xb, .string xd, .int .i64 xp, .int .i64 xq, .string xe, .int .i64 xr, .int .i64 xs, .string xf] 27) = W7' at *
      refine (C4.out _).mono ?_
      rintro e' W8 ⟨rfl, hA⟩
      replace c0 := bkeep hA c0
      replace c1 := bkeep hA c1
      replace c2 := bkeep hA c2
      replace c3 := bkeep hA c3
      replace c4 := bkeep hA c4
      replace c5 := bkeep hA c5
      replace c6 := bkeep hA c6
      replace c7 := bkeep hA c7
      replace c8 := bkeep hA c8
      replace c9 := bkeep hA c9
      replace o0 := bkeep hA o0
      replace o1 := bkeep hA o1
      replace o2 := bkeep hA o2
      replace o3 := bkeep hA o3
      replace A0 := bkeep hA A0
      replace A1 := bkeep hA A1
      replace A2 := bkeep hA A2
      replace A3 := bkeep hA A3
      replace A4 := bkeep hA A4
      replace A5 := bkeep hA A5
      replace A6 := bkeep hA A6
      replace A7 := bkeep hA A7
      replace A8 := bkeep hA A8
      replace A9 := bkeep hA A9
      replace B0 := bkeep hA B0
      replace B1 := bkeep hA B1
      replace B2 := bkeep hA B2
      replace B3 := bkeep hA B3
      replace B4 := bkeep hA B4
      replace B5 := bkeep hA B5
      replace B6 := bkeep hA B6
      replace B7 := bkeep hA B7
      replace B8 := bkeep hA B8
      replace B9 := bkeep hA B9
      replace G0 := bkeep hA G0
      replace G1 := bkeep hA G1
      replace G2 := bkeep hA G2
      replace G3 := bkeep hA G3
      replace G4 := bkeep hA G4
      replace G5 := bkeep hA G5
      replace G6 := bkeep hA G6
      replace G7 := bkeep hA G7
      replace G8 := bkeep hA G8
      replace G9 := bkeep hA G9
      replace HB := bt HB hA
      clear hA
      obtain ⟨D0, D1, D2, D3, D4, D5, D6, D7, D8, D9⟩ := held10 (w := W8) (k := xk) (a := xa) (b := xb) (d := xd) (p := xp) (q := xq) (e := xe) (r := xr) (s := xs) (f := xf) 27
      have hA := (Below.refl W8.heap.size W8).alloc (Nat.le_refl _) (.cells #[.int .i64 xk, .int .i64 xa, .int .i64 xb, .string xd, .int .i64 xp, .int .i64 xq, .string xe, .int .i64 xr, .int .i64 xs, .string xf] 27)
      replace c0 := bkeep hA c0
      replace c1 := bkeep hA c1
      replace c2 := bkeep hA c2
      replace c3 := bkeep hA c3
      replace c4 := bkeep hA c4
      replace c5 := bkeep hA c5
      replace c6 := bkeep hA c6
      replace c7 := bkeep hA c7
      replace c8 := bkeep hA c8
      replace c9 := bkeep hA c9
      replace o0 := bkeep hA o0
      replace o1 := bkeep hA o1
      replace o2 := bkeep hA o2
      replace o3 := bkeep hA o3
      replace A0 := bkeep hA A0
      replace A1 := bkeep hA A1
      replace A2 := bkeep hA A2
      replace A3 := bkeep hA A3
      replace A4 := bkeep hA A4
      replace A5 := bkeep hA A5
      replace A6 := bkeep hA A6
      replace A7 := bkeep hA A7
      replace A8 := bkeep hA A8
      replace A9 := bkeep hA A9
      replace B0 := bkeep hA B0
      replace B1 := bkeep hA B1
      replace B2 := bkeep hA B2
      replace B3 := bkeep hA B3
      replace B4 := bkeep hA B4
      replace B5 := bkeep hA B5
      replace B6 := bkeep hA B6
      replace B7 := bkeep hA B7
      replace B8 := bkeep hA B8
      replace B9 := bkeep hA B9
      replace G0 := bkeep hA G0
      replace G1 := bkeep hA G1
      replace G2 := bkeep hA G2
      replace G3 := bkeep hA G3
      replace G4 := bkeep hA G4
      replace G5 := bkeep hA G5
      replace G6 := bkeep hA G6
      replace G7 := bkeep hA G7
      replace G8 := bkeep hA G8
      replace G9 := bkeep hA G9
      replace HB := bt HB hA
      clear hA
      go_wp2_with (first | (go_at_call 13; (with_reducible refine (Q1.out _).mono ?_); rintro e' W9 ⟨rfl, hA⟩; replace c0 := bkeep hA c0; replace c1 := bkeep hA c1; replace c2 := bkeep hA c2; replace c3 := bkeep hA c3; replace c4 := bkeep hA c4; replace c5 := bkeep hA c5; replace c6 := bkeep hA c6; replace c7 := bkeep hA c7; replace c8 := bkeep hA c8; replace c9 := bkeep hA c9; replace o0 := bkeep hA o0; replace o1 := bkeep hA o1; replace o2 := bkeep hA o2; replace o3 := bkeep hA o3; replace A0 := bkeep hA A0; replace A1 := bkeep hA A1; replace A2 := bkeep hA A2; replace A3 := bkeep hA A3; replace A4 := bkeep hA A4; replace A5 := bkeep hA A5; replace A6 := bkeep hA A6; replace A7 := bkeep hA A7; replace A8 := bkeep hA A8; replace A9 := bkeep hA A9; replace B0 := bkeep hA B0; replace B1 := bkeep hA B1; replace B2 := bkeep hA B2; replace B3 := bkeep hA B3; replace B4 := bkeep hA B4; replace B5 := bkeep hA B5; replace B6 := bkeep hA B6; replace B7 := bkeep hA B7; replace B8 := bkeep hA B8; replace B9 := bkeep hA B9; replace G0 := bkeep hA G0; replace G1 := bkeep hA G1; replace G2 := bkeep hA G2; replace G3 := bkeep hA G3; replace G4 := bkeep hA G4; replace G5 := bkeep hA G5; replace G6 := bkeep hA G6; replace G7 := bkeep hA G7; replace G8 := bkeep hA G8; replace G9 := bkeep hA G9; replace D0 := bkeep hA D0; replace D1 := bkeep hA D1; replace D2 := bkeep hA D2; replace D3 := bkeep hA D3; replace D4 := bkeep hA D4; replace D5 := bkeep hA D5; replace D6 := bkeep hA D6; replace D7 := bkeep hA D7; replace D8 := bkeep hA D8; replace D9 := bkeep hA D9; replace HB := bt HB hA; clear hA) | (go_at_call 11; (with_reducible refine (Q3.out _).mono ?_); rintro e' W9 ⟨rfl, hA⟩; replace c0 := bkeep hA c0; replace c1 := bkeep hA c1; replace c2 := bkeep hA c2; replace c3 := bkeep hA c3; replace c4 := bkeep hA c4; replace c5 := bkeep hA c5; replace c6 := bkeep hA c6; replace c7 := bkeep hA c7; replace c8 := bkeep hA c8; replace c9 := bkeep hA c9; replace o0 := bkeep hA o0; replace o1 := bkeep hA o1; replace o2 := bkeep hA o2; replace o3 := bkeep hA o3; replace A0 := bkeep hA A0; replace A1 := bkeep hA A1; replace A2 := bkeep hA A2; replace A3 := bkeep hA A3; replace A4 := bkeep hA A4; replace A5 := bkeep hA A5; replace A6 := bkeep hA A6; replace A7 := bkeep hA A7; replace A8 := bkeep hA A8; replace A9 := bkeep hA A9; replace B0 := bkeep hA B0; replace B1 := bkeep hA B1; replace B2 := bkeep hA B2; replace B3 := bkeep hA B3; replace B4 := bkeep hA B4; replace B5 := bkeep hA B5; replace B6 := bkeep hA B6; replace B7 := bkeep hA B7; replace B8 := bkeep hA B8; replace B9 := bkeep hA B9; replace G0 := bkeep hA G0; replace G1 := bkeep hA G1; replace G2 := bkeep hA G2; replace G3 := bkeep hA G3; replace G4 := bkeep hA G4; replace G5 := bkeep hA G5; replace G6 := bkeep hA G6; replace G7 := bkeep hA G7; replace G8 := bkeep hA G8; replace G9 := bkeep hA G9; replace D0 := bkeep hA D0; replace D1 := bkeep hA D1; replace D2 := bkeep hA D2; replace D3 := bkeep hA D3; replace D4 := bkeep hA D4; replace D5 := bkeep hA D5; replace D6 := bkeep hA D6; replace D7 := bkeep hA D7; replace D8 := bkeep hA D8; replace D9 := bkeep hA D9; replace HB := bt HB hA; clear hA) | (go_at_call 13; (with_reducible refine (Q2.out _).mono ?_); rintro e' W9 ⟨rfl, hA⟩; replace c0 := bkeep hA c0; replace c1 := bkeep hA c1; replace c2 := bkeep hA c2; replace c3 := bkeep hA c3; replace c4 := bkeep hA c4; replace c5 := bkeep hA c5; replace c6 := bkeep hA c6; replace c7 := bkeep hA c7; replace c8 := bkeep hA c8; replace c9 := bkeep hA c9; replace o0 := bkeep hA o0; replace o1 := bkeep hA o1; replace o2 := bkeep hA o2; replace o3 := bkeep hA o3; replace A0 := bkeep hA A0; replace A1 := bkeep hA A1; replace A2 := bkeep hA A2; replace A3 := bkeep hA A3; replace A4 := bkeep hA A4; replace A5 := bkeep hA A5; replace A6 := bkeep hA A6; replace A7 := bkeep hA A7; replace A8 := bkeep hA A8; replace A9 := bkeep hA A9; replace B0 := bkeep hA B0; replace B1 := bkeep hA B1; replace B2 := bkeep hA B2; replace B3 := bkeep hA B3; replace B4 := bkeep hA B4; replace B5 := bkeep hA B5; replace B6 := bkeep hA B6; replace B7 := bkeep hA B7; replace B8 := bkeep hA B8; replace B9 := bkeep hA B9; replace G0 := bkeep hA G0; replace G1 := bkeep hA G1; replace G2 := bkeep hA G2; replace G3 := bkeep hA G3; replace G4 := bkeep hA G4; replace G5 := bkeep hA G5; replace G6 := bkeep hA G6; replace G7 := bkeep hA G7; replace G8 := bkeep hA G8; replace G9 := bkeep hA G9; replace D0 := bkeep hA D0; replace D1 := bkeep hA D1; replace D2 := bkeep hA D2; replace D3 := bkeep hA D3; replace D4 := bkeep hA D4; replace D5 := bkeep hA D5; replace D6 := bkeep hA D6; replace D7 := bkeep hA D7; replace D8 := bkeep hA D8; replace D9 := bkeep hA D9; replace HB := bt HB hA; clear hA) | (go_at_call 11; (with_reducible refine (Q4.out _).mono ?_); rintro e' W9 ⟨rfl, hA⟩; replace c0 := bkeep hA c0; replace c1 := bkeep hA c1; replace c2 := bkeep hA c2; replace c3 := bkeep hA c3; replace c4 := bkeep hA c4; replace c5 := bkeep hA c5; replace c6 := bkeep hA c6; replace c7 := bkeep hA c7; replace c8 := bkeep hA c8; replace c9 := bkeep hA c9; replace o0 := bkeep hA o0; replace o1 := bkeep hA o1; replace o2 := bkeep hA o2; replace o3 := bkeep hA o3; replace A0 := bkeep hA A0; replace A1 := bkeep hA A1; replace A2 := bkeep hA A2; replace A3 := bkeep hA A3; replace A4 := bkeep hA A4; replace A5 := bkeep hA A5; replace A6 := bkeep hA A6; replace A7 := bkeep hA A7; replace A8 := bkeep hA A8; replace A9 := bkeep hA A9; replace B0 := bkeep hA B0; replace B1 := bkeep hA B1; replace B2 := bkeep hA B2; replace B3 := bkeep hA B3; replace B4 := bkeep hA B4; replace B5 := bkeep hA B5; replace B6 := bkeep hA B6; replace B7 := bkeep hA B7; replace B8 := bkeep hA B8; replace B9 := bkeep hA B9; replace G0 := bkeep hA G0; replace G1 := bkeep hA G1; replace G2 := bkeep hA G2; replace G3 := bkeep hA G3; replace G4 := bkeep hA G4; replace G5 := bkeep hA G5; replace G6 := bkeep hA G6; replace G7 := bkeep hA G7; replace G8 := bkeep hA G8; replace G9 := bkeep hA G9; replace D0 := bkeep hA D0; replace D1 := bkeep hA D1; replace D2 := bkeep hA D2; replace D3 := bkeep hA D3; replace D4 := bkeep hA D4; replace D5 := bkeep hA D5; replace D6 := bkeep hA D6; replace D7 := bkeep hA D7; replace D8 := bkeep hA D8; replace D9 := bkeep hA D9; replace HB := bt HB hA; clear hA))
      go_ret
      exact ⟨rfl, HB⟩
    · have n2 : (E2 != 0) = true := bne_iff_ne.2 h2
      have n2' : (E2 == 0) = false := beq_eq_false_iff_ne.2 h2
      clear L2 h2
      obtain ⟨c0, c1, c2, c3, c4, c5, c6, c7, c8, c9⟩ := held10 (w := w) (k := k) (a := a) (b := b) (d := d) (p := p) (q := q) (e := e) (r := r) (s := s) (f := f) 27
      have HB : Below w.heap.size w (w.alloc (.cells #[.int .i64 k, .int .i64 a, .int .i64 b, .string d, .int .i64 p, .int .i64 q, .string e, .int .i64 r, .int .i64 s, .string f] 27)) := (Below.refl _ _).alloc (Nat.le_refl _) _
      have hz1 : (w.alloc (.cells #[.int .i64 k, .int .i64 a, .int .i64 b, .string d, .int .i64 p, .int .i64 q, .string e, .int .i64 r, .int .i64 s, .string f] 27)).heap.size = w.heap.size + 1 := by simp
      go_enter Try.func4, Try.ntmps4
      go_wp2_with fail
      generalize w.alloc (.cells #[.int .i64 k, .int .i64 a, .int .i64 b, .string d, .int .i64 p, .int .i64 q, .string e, .int .i64 r, .int .i64 s, .string f] 27) = W1 at *
      obtain ⟨o0, o1, o2, o3⟩ := held4o (w := W1) (n := nd) (m := bt_) (l := ch) (t := tx) 38
      rw [hz1] at o0 o1 o2 o3
      have hA : Below W1.heap.size W1 (W1.alloc (.cells #[.int .i64 nd, .int .i64 bt_, .int .i64 ch, .string tx] 38)) := (Below.refl _ _).alloc (Nat.le_refl _) _
      replace c0 := bkeep hA c0
      replace c1 := bkeep hA c1
      replace c2 := bkeep hA c2
      replace c3 := bkeep hA c3
      replace c4 := bkeep hA c4
      replace c5 := bkeep hA c5
      replace c6 := bkeep hA c6
      replace c7 := bkeep hA c7
      replace c8 := bkeep hA c8
      replace c9 := bkeep hA c9
      replace HB := bt HB hA
      clear hA hz1
      generalize W1.alloc (.cells #[.int .i64 nd, .int .i64 bt_, .int .i64 ch, .string tx] 38) = W2 at *
      refine (works_any _).mono ?_
      rintro e' W3 ⟨rfl, hA⟩
      replace c0 := bkeep hA c0
      replace c1 := bkeep hA c1
      replace c2 := bkeep hA c2
      replace c3 := bkeep hA c3
      replace c4 := bkeep hA c4
      replace c5 := bkeep hA c5
      replace c6 := bkeep hA c6
      replace c7 := bkeep hA c7
      replace c8 := bkeep hA c8
      replace c9 := bkeep hA c9
      replace o0 := bkeep hA o0
      replace o1 := bkeep hA o1
      replace o2 := bkeep hA o2
      replace o3 := bkeep hA o3
      replace HB := bt HB hA
      clear hA
      go_wp2_with fail
      refine (big_any _ _ _ _ _ _ _ _ _ _ _).mono ?_
      rintro e' W4 ⟨rfl, hA⟩
      replace c0 := bkeep hA c0
      replace c1 := bkeep hA c1
      replace c2 := bkeep hA c2
      replace c3 := bkeep hA c3
      replace c4 := bkeep hA c4
      replace c5 := bkeep hA c5
      replace c6 := bkeep hA c6
      replace c7 := bkeep hA c7
      replace c8 := bkeep hA c8
      replace c9 := bkeep hA c9
      replace o0 := bkeep hA o0
      replace o1 := bkeep hA o1
      replace o2 := bkeep hA o2
      replace o3 := bkeep hA o3
      replace HB := bt HB hA
      clear hA
      rw [hbig]
      go_wp2_with fail
      refine (C1.out _).mono ?_
      rintro e' W5 ⟨rfl, hA⟩
      replace c0 := bkeep hA c0
      replace c1 := bkeep hA c1
      replace c2 := bkeep hA c2
      replace c3 := bkeep hA c3
      replace c4 := bkeep hA c4
      replace c5 := bkeep hA c5
      replace c6 := bkeep hA c6
      replace c7 := bkeep hA c7
      replace c8 := bkeep hA c8
      replace c9 := bkeep hA c9
      replace o0 := bkeep hA o0
      replace o1 := bkeep hA o1
      replace o2 := bkeep hA o2
      replace o3 := bkeep hA o3
      replace HB := bt HB hA
      clear hA
      obtain ⟨A0, A1, A2, A3, A4, A5, A6, A7, A8, A9⟩ := held10 (w := W5) (k := wk) (a := wa) (b := wb) (d := wd) (p := wp) (q := wq) (e := we) (r := wr) (s := ws) (f := wf) 27
      have hA := (Below.refl W5.heap.size W5).alloc (Nat.le_refl _) (.cells #[.int .i64 wk, .int .i64 wa, .int .i64 wb, .string wd, .int .i64 wp, .int .i64 wq, .string we, .int .i64 wr, .int .i64 ws, .string wf] 27)
      replace c0 := bkeep hA c0
      replace c1 := bkeep hA c1
      replace c2 := bkeep hA c2
      replace c3 := bkeep hA c3
      replace c4 := bkeep hA c4
      replace c5 := bkeep hA c5
      replace c6 := bkeep hA c6
      replace c7 := bkeep hA c7
      replace c8 := bkeep hA c8
      replace c9 := bkeep hA c9
      replace o0 := bkeep hA o0
      replace o1 := bkeep hA o1
      replace o2 := bkeep hA o2
      replace o3 := bkeep hA o3
      replace HB := bt HB hA
      clear hA
      go_wp2_with fail
      generalize W5.alloc (.cells #[.int .i64 wk, .int .i64 wa, .int .i64 wb, .string wd, .int .i64 wp, .int .i64 wq, .string we, .int .i64 wr, .int .i64 ws, .string wf] 27) = W5' at *
      refine (C2.out _).mono ?_
      rintro e' W6 ⟨rfl, hA⟩
      replace c0 := bkeep hA c0
      replace c1 := bkeep hA c1
      replace c2 := bkeep hA c2
      replace c3 := bkeep hA c3
      replace c4 := bkeep hA c4
      replace c5 := bkeep hA c5
      replace c6 := bkeep hA c6
      replace c7 := bkeep hA c7
      replace c8 := bkeep hA c8
      replace c9 := bkeep hA c9
      replace o0 := bkeep hA o0
      replace o1 := bkeep hA o1
      replace o2 := bkeep hA o2
      replace o3 := bkeep hA o3
      replace A0 := bkeep hA A0
      replace A1 := bkeep hA A1
      replace A2 := bkeep hA A2
      replace A3 := bkeep hA A3
      replace A4 := bkeep hA A4
      replace A5 := bkeep hA A5
      replace A6 := bkeep hA A6
      replace A7 := bkeep hA A7
      replace A8 := bkeep hA A8
      replace A9 := bkeep hA A9
      replace HB := bt HB hA
      clear hA
      obtain ⟨B0, B1, B2, B3, B4, B5, B6, B7, B8, B9⟩ := held10 (w := W6) (k := wk) (a := wa) (b := wb) (d := wd) (p := wp) (q := wq) (e := we) (r := wr) (s := ws) (f := wf) 27
      have hA := (Below.refl W6.heap.size W6).alloc (Nat.le_refl _) (.cells #[.int .i64 wk, .int .i64 wa, .int .i64 wb, .string wd, .int .i64 wp, .int .i64 wq, .string we, .int .i64 wr, .int .i64 ws, .string wf] 27)
      replace c0 := bkeep hA c0
      replace c1 := bkeep hA c1
      replace c2 := bkeep hA c2
      replace c3 := bkeep hA c3
      replace c4 := bkeep hA c4
      replace c5 := bkeep hA c5
      replace c6 := bkeep hA c6
      replace c7 := bkeep hA c7
      replace c8 := bkeep hA c8
      replace c9 := bkeep hA c9
      replace o0 := bkeep hA o0
      replace o1 := bkeep hA o1
      replace o2 := bkeep hA o2
      replace o3 := bkeep hA o3
      replace A0 := bkeep hA A0
      replace A1 := bkeep hA A1
      replace A2 := bkeep hA A2
      replace A3 := bkeep hA A3
      replace A4 := bkeep hA A4
      replace A5 := bkeep hA A5
      replace A6 := bkeep hA A6
      replace A7 := bkeep hA A7
      replace A8 := bkeep hA A8
      replace A9 := bkeep hA A9
      replace HB := bt HB hA
      clear hA
      go_wp2_with fail
      generalize W6.alloc (.cells #[.int .i64 wk, .int .i64 wa, .int .i64 wb, .string wd, .int .i64 wp, .int .i64 wq, .string we, .int .i64 wr, .int .i64 ws, .string wf] 27) = W6' at *
      refine (C3.out _).mono ?_
      rintro e' W7 ⟨rfl, hA⟩
      replace c0 := bkeep hA c0
      replace c1 := bkeep hA c1
      replace c2 := bkeep hA c2
      replace c3 := bkeep hA c3
      replace c4 := bkeep hA c4
      replace c5 := bkeep hA c5
      replace c6 := bkeep hA c6
      replace c7 := bkeep hA c7
      replace c8 := bkeep hA c8
      replace c9 := bkeep hA c9
      replace o0 := bkeep hA o0
      replace o1 := bkeep hA o1
      replace o2 := bkeep hA o2
      replace o3 := bkeep hA o3
      replace A0 := bkeep hA A0
      replace A1 := bkeep hA A1
      replace A2 := bkeep hA A2
      replace A3 := bkeep hA A3
      replace A4 := bkeep hA A4
      replace A5 := bkeep hA A5
      replace A6 := bkeep hA A6
      replace A7 := bkeep hA A7
      replace A8 := bkeep hA A8
      replace A9 := bkeep hA A9
      replace B0 := bkeep hA B0
      replace B1 := bkeep hA B1
      replace B2 := bkeep hA B2
      replace B3 := bkeep hA B3
      replace B4 := bkeep hA B4
      replace B5 := bkeep hA B5
      replace B6 := bkeep hA B6
      replace B7 := bkeep hA B7
      replace B8 := bkeep hA B8
      replace B9 := bkeep hA B9
      replace HB := bt HB hA
      clear hA
      obtain ⟨G0, G1, G2, G3, G4, G5, G6, G7, G8, G9⟩ := held10 (w := W7) (k := xk) (a := xa) (b := xb) (d := xd) (p := xp) (q := xq) (e := xe) (r := xr) (s := xs) (f := xf) 27
      have hA := (Below.refl W7.heap.size W7).alloc (Nat.le_refl _) (.cells #[.int .i64 xk, .int .i64 xa, .int .i64 xb, .string xd, .int .i64 xp, .int .i64 xq, .string xe, .int .i64 xr, .int .i64 xs, .string xf] 27)
      replace c0 := bkeep hA c0
      replace c1 := bkeep hA c1
      replace c2 := bkeep hA c2
      replace c3 := bkeep hA c3
      replace c4 := bkeep hA c4
      replace c5 := bkeep hA c5
      replace c6 := bkeep hA c6
      replace c7 := bkeep hA c7
      replace c8 := bkeep hA c8
      replace c9 := bkeep hA c9
      replace o0 := bkeep hA o0
      replace o1 := bkeep hA o1
      replace o2 := bkeep hA o2
      replace o3 := bkeep hA o3
      replace A0 := bkeep hA A0
      replace A1 := bkeep hA A1
      replace A2 := bkeep hA A2
      replace A3 := bkeep hA A3
      replace A4 := bkeep hA A4
      replace A5 := bkeep hA A5
      replace A6 := bkeep hA A6
      replace A7 := bkeep hA A7
      replace A8 := bkeep hA A8
      replace A9 := bkeep hA A9
      replace B0 := bkeep hA B0
      replace B1 := bkeep hA B1
      replace B2 := bkeep hA B2
      replace B3 := bkeep hA B3
      replace B4 := bkeep hA B4
      replace B5 := bkeep hA B5
      replace B6 := bkeep hA B6
      replace B7 := bkeep hA B7
      replace B8 := bkeep hA B8
      replace B9 := bkeep hA B9
      replace HB := bt HB hA
      clear hA
      go_wp2_with fail
      generalize W7.alloc (.cells #[.int .i64 xk, .int .i64 xa, .int .i64 xb, .string xd, .int .i64 xp, .int .i64 xq, .string xe, .int .i64 xr, .int .i64 xs, .string xf] 27) = W7' at *
      refine (C4.out _).mono ?_
      rintro e' W8 ⟨rfl, hA⟩
      replace c0 := bkeep hA c0
      replace c1 := bkeep hA c1
      replace c2 := bkeep hA c2
      replace c3 := bkeep hA c3
      replace c4 := bkeep hA c4
      replace c5 := bkeep hA c5
      replace c6 := bkeep hA c6
      replace c7 := bkeep hA c7
      replace c8 := bkeep hA c8
      replace c9 := bkeep hA c9
      replace o0 := bkeep hA o0
      replace o1 := bkeep hA o1
      replace o2 := bkeep hA o2
      replace o3 := bkeep hA o3
      replace A0 := bkeep hA A0
      replace A1 := bkeep hA A1
      replace A2 := bkeep hA A2
      replace A3 := bkeep hA A3
      replace A4 := bkeep hA A4
      replace A5 := bkeep hA A5
      replace A6 := bkeep hA A6
      replace A7 := bkeep hA A7
      replace A8 := bkeep hA A8
      replace A9 := bkeep hA A9
      replace B0 := bkeep hA B0
      replace B1 := bkeep hA B1
      replace B2 := bkeep hA B2
      replace B3 := bkeep hA B3
      replace B4 := bkeep hA B4
      replace B5 := bkeep hA B5
      replace B6 := bkeep hA B6
      replace B7 := bkeep hA B7
      replace B8 := bkeep hA B8
      replace B9 := bkeep hA B9
      replace G0 := bkeep hA G0
      replace G1 := bkeep hA G1
      replace G2 := bkeep hA G2
      replace G3 := bkeep hA G3
      replace G4 := bkeep hA G4
      replace G5 := bkeep hA G5
      replace G6 := bkeep hA G6
      replace G7 := bkeep hA G7
      replace G8 := bkeep hA G8
      replace G9 := bkeep hA G9
      replace HB := bt HB hA
      clear hA
      obtain ⟨D0, D1, D2, D3, D4, D5, D6, D7, D8, D9⟩ := held10 (w := W8) (k := xk) (a := xa) (b := xb) (d := xd) (p := xp) (q := xq) (e := xe) (r := xr) (s := xs) (f := xf) 27
      have hA := (Below.refl W8.heap.size W8).alloc (Nat.le_refl _) (.cells #[.int .i64 xk, .int .i64 xa, .int .i64 xb, .string xd, .int .i64 xp, .int .i64 xq, .string xe, .int .i64 xr, .int .i64 xs, .string xf] 27)
      replace c0 := bkeep hA c0
      replace c1 := bkeep hA c1
      replace c2 := bkeep hA c2
      replace c3 := bkeep hA c3
      replace c4 := bkeep hA c4
      replace c5 := bkeep hA c5
      replace c6 := bkeep hA c6
      replace c7 := bkeep hA c7
      replace c8 := bkeep hA c8
      replace c9 := bkeep hA c9
      replace o0 := bkeep hA o0
      replace o1 := bkeep hA o1
      replace o2 := bkeep hA o2
      replace o3 := bkeep hA o3
      replace A0 := bkeep hA A0
      replace A1 := bkeep hA A1
      replace A2 := bkeep hA A2
      replace A3 := bkeep hA A3
      replace A4 := bkeep hA A4
      replace A5 := bkeep hA A5
      replace A6 := bkeep hA A6
      replace A7 := bkeep hA A7
      replace A8 := bkeep hA A8
      replace A9 := bkeep hA A9
      replace B0 := bkeep hA B0
      replace B1 := bkeep hA B1
      replace B2 := bkeep hA B2
      replace B3 := bkeep hA B3
      replace B4 := bkeep hA B4
      replace B5 := bkeep hA B5
      replace B6 := bkeep hA B6
      replace B7 := bkeep hA B7
      replace B8 := bkeep hA B8
      replace B9 := bkeep hA B9
      replace G0 := bkeep hA G0
      replace G1 := bkeep hA G1
      replace G2 := bkeep hA G2
      replace G3 := bkeep hA G3
      replace G4 := bkeep hA G4
      replace G5 := bkeep hA G5
      replace G6 := bkeep hA G6
      replace G7 := bkeep hA G7
      replace G8 := bkeep hA G8
      replace G9 := bkeep hA G9
      replace HB := bt HB hA
      clear hA
      go_wp2_with (first | (go_at_call 13; (with_reducible refine (Q1.out _).mono ?_); rintro e' W9 ⟨rfl, hA⟩; replace c0 := bkeep hA c0; replace c1 := bkeep hA c1; replace c2 := bkeep hA c2; replace c3 := bkeep hA c3; replace c4 := bkeep hA c4; replace c5 := bkeep hA c5; replace c6 := bkeep hA c6; replace c7 := bkeep hA c7; replace c8 := bkeep hA c8; replace c9 := bkeep hA c9; replace o0 := bkeep hA o0; replace o1 := bkeep hA o1; replace o2 := bkeep hA o2; replace o3 := bkeep hA o3; replace A0 := bkeep hA A0; replace A1 := bkeep hA A1; replace A2 := bkeep hA A2; replace A3 := bkeep hA A3; replace A4 := bkeep hA A4; replace A5 := bkeep hA A5; replace A6 := bkeep hA A6; replace A7 := bkeep hA A7; replace A8 := bkeep hA A8; replace A9 := bkeep hA A9; replace B0 := bkeep hA B0; replace B1 := bkeep hA B1; replace B2 := bkeep hA B2; replace B3 := bkeep hA B3; replace B4 := bkeep hA B4; replace B5 := bkeep hA B5; replace B6 := bkeep hA B6; replace B7 := bkeep hA B7; replace B8 := bkeep hA B8; replace B9 := bkeep hA B9; replace G0 := bkeep hA G0; replace G1 := bkeep hA G1; replace G2 := bkeep hA G2; replace G3 := bkeep hA G3; replace G4 := bkeep hA G4; replace G5 := bkeep hA G5; replace G6 := bkeep hA G6; replace G7 := bkeep hA G7; replace G8 := bkeep hA G8; replace G9 := bkeep hA G9; replace D0 := bkeep hA D0; replace D1 := bkeep hA D1; replace D2 := bkeep hA D2; replace D3 := bkeep hA D3; replace D4 := bkeep hA D4; replace D5 := bkeep hA D5; replace D6 := bkeep hA D6; replace D7 := bkeep hA D7; replace D8 := bkeep hA D8; replace D9 := bkeep hA D9; replace HB := bt HB hA; clear hA) | (go_at_call 11; (with_reducible refine (Q3.out _).mono ?_); rintro e' W9 ⟨rfl, hA⟩; replace c0 := bkeep hA c0; replace c1 := bkeep hA c1; replace c2 := bkeep hA c2; replace c3 := bkeep hA c3; replace c4 := bkeep hA c4; replace c5 := bkeep hA c5; replace c6 := bkeep hA c6; replace c7 := bkeep hA c7; replace c8 := bkeep hA c8; replace c9 := bkeep hA c9; replace o0 := bkeep hA o0; replace o1 := bkeep hA o1; replace o2 := bkeep hA o2; replace o3 := bkeep hA o3; replace A0 := bkeep hA A0; replace A1 := bkeep hA A1; replace A2 := bkeep hA A2; replace A3 := bkeep hA A3; replace A4 := bkeep hA A4; replace A5 := bkeep hA A5; replace A6 := bkeep hA A6; replace A7 := bkeep hA A7; replace A8 := bkeep hA A8; replace A9 := bkeep hA A9; replace B0 := bkeep hA B0; replace B1 := bkeep hA B1; replace B2 := bkeep hA B2; replace B3 := bkeep hA B3; replace B4 := bkeep hA B4; replace B5 := bkeep hA B5; replace B6 := bkeep hA B6; replace B7 := bkeep hA B7; replace B8 := bkeep hA B8; replace B9 := bkeep hA B9; replace G0 := bkeep hA G0; replace G1 := bkeep hA G1; replace G2 := bkeep hA G2; replace G3 := bkeep hA G3; replace G4 := bkeep hA G4; replace G5 := bkeep hA G5; replace G6 := bkeep hA G6; replace G7 := bkeep hA G7; replace G8 := bkeep hA G8; replace G9 := bkeep hA G9; replace D0 := bkeep hA D0; replace D1 := bkeep hA D1; replace D2 := bkeep hA D2; replace D3 := bkeep hA D3; replace D4 := bkeep hA D4; replace D5 := bkeep hA D5; replace D6 := bkeep hA D6; replace D7 := bkeep hA D7; replace D8 := bkeep hA D8; replace D9 := bkeep hA D9; replace HB := bt HB hA; clear hA))
      go_ret
      exact ⟨rfl, HB⟩
  · have n1 : (E1 != 0) = true := bne_iff_ne.2 h1
    clear L1 h1
    by_cases h2 : E2 = 0
    · have l2 := L2 h2
      have Q2 := Lib.hid (fun w => rcmp_at l2.1 w)
      have Q4 := Lib.hid (fun w => chk_at l2.2 w)
      subst h2
      clear L2 l2
      obtain ⟨c0, c1, c2, c3, c4, c5, c6, c7, c8, c9⟩ := held10 (w := w) (k := k) (a := a) (b := b) (d := d) (p := p) (q := q) (e := e) (r := r) (s := s) (f := f) 27
      have HB : Below w.heap.size w (w.alloc (.cells #[.int .i64 k, .int .i64 a, .int .i64 b, .string d, .int .i64 p, .int .i64 q, .string e, .int .i64 r, .int .i64 s, .string f] 27)) := (Below.refl _ _).alloc (Nat.le_refl _) _
      have hz1 : (w.alloc (.cells #[.int .i64 k, .int .i64 a, .int .i64 b, .string d, .int .i64 p, .int .i64 q, .string e, .int .i64 r, .int .i64 s, .string f] 27)).heap.size = w.heap.size + 1 := by simp
      go_enter Try.func4, Try.ntmps4
      go_wp2_with fail
      generalize w.alloc (.cells #[.int .i64 k, .int .i64 a, .int .i64 b, .string d, .int .i64 p, .int .i64 q, .string e, .int .i64 r, .int .i64 s, .string f] 27) = W1 at *
      obtain ⟨o0, o1, o2, o3⟩ := held4o (w := W1) (n := nd) (m := bt_) (l := ch) (t := tx) 38
      rw [hz1] at o0 o1 o2 o3
      have hA : Below W1.heap.size W1 (W1.alloc (.cells #[.int .i64 nd, .int .i64 bt_, .int .i64 ch, .string tx] 38)) := (Below.refl _ _).alloc (Nat.le_refl _) _
      replace c0 := bkeep hA c0
      replace c1 := bkeep hA c1
      replace c2 := bkeep hA c2
      replace c3 := bkeep hA c3
      replace c4 := bkeep hA c4
      replace c5 := bkeep hA c5
      replace c6 := bkeep hA c6
      replace c7 := bkeep hA c7
      replace c8 := bkeep hA c8
      replace c9 := bkeep hA c9
      replace HB := bt HB hA
      clear hA hz1
      generalize W1.alloc (.cells #[.int .i64 nd, .int .i64 bt_, .int .i64 ch, .string tx] 38) = W2 at *
      refine (works_any _).mono ?_
      rintro e' W3 ⟨rfl, hA⟩
      replace c0 := bkeep hA c0
      replace c1 := bkeep hA c1
      replace c2 := bkeep hA c2
      replace c3 := bkeep hA c3
      replace c4 := bkeep hA c4
      replace c5 := bkeep hA c5
      replace c6 := bkeep hA c6
      replace c7 := bkeep hA c7
      replace c8 := bkeep hA c8
      replace c9 := bkeep hA c9
      replace o0 := bkeep hA o0
      replace o1 := bkeep hA o1
      replace o2 := bkeep hA o2
      replace o3 := bkeep hA o3
      replace HB := bt HB hA
      clear hA
      go_wp2_with fail
      refine (big_any _ _ _ _ _ _ _ _ _ _ _).mono ?_
      rintro e' W4 ⟨rfl, hA⟩
      replace c0 := bkeep hA c0
      replace c1 := bkeep hA c1
      replace c2 := bkeep hA c2
      replace c3 := bkeep hA c3
      replace c4 := bkeep hA c4
      replace c5 := bkeep hA c5
      replace c6 := bkeep hA c6
      replace c7 := bkeep hA c7
      replace c8 := bkeep hA c8
      replace c9 := bkeep hA c9
      replace o0 := bkeep hA o0
      replace o1 := bkeep hA o1
      replace o2 := bkeep hA o2
      replace o3 := bkeep hA o3
      replace HB := bt HB hA
      clear hA
      rw [hbig]
      go_wp2_with fail
      refine (C1.out _).mono ?_
      rintro e' W5 ⟨rfl, hA⟩
      replace c0 := bkeep hA c0
      replace c1 := bkeep hA c1
      replace c2 := bkeep hA c2
      replace c3 := bkeep hA c3
      replace c4 := bkeep hA c4
      replace c5 := bkeep hA c5
      replace c6 := bkeep hA c6
      replace c7 := bkeep hA c7
      replace c8 := bkeep hA c8
      replace c9 := bkeep hA c9
      replace o0 := bkeep hA o0
      replace o1 := bkeep hA o1
      replace o2 := bkeep hA o2
      replace o3 := bkeep hA o3
      replace HB := bt HB hA
      clear hA
      obtain ⟨A0, A1, A2, A3, A4, A5, A6, A7, A8, A9⟩ := held10 (w := W5) (k := wk) (a := wa) (b := wb) (d := wd) (p := wp) (q := wq) (e := we) (r := wr) (s := ws) (f := wf) 27
      have hA := (Below.refl W5.heap.size W5).alloc (Nat.le_refl _) (.cells #[.int .i64 wk, .int .i64 wa, .int .i64 wb, .string wd, .int .i64 wp, .int .i64 wq, .string we, .int .i64 wr, .int .i64 ws, .string wf] 27)
      replace c0 := bkeep hA c0
      replace c1 := bkeep hA c1
      replace c2 := bkeep hA c2
      replace c3 := bkeep hA c3
      replace c4 := bkeep hA c4
      replace c5 := bkeep hA c5
      replace c6 := bkeep hA c6
      replace c7 := bkeep hA c7
      replace c8 := bkeep hA c8
      replace c9 := bkeep hA c9
      replace o0 := bkeep hA o0
      replace o1 := bkeep hA o1
      replace o2 := bkeep hA o2
      replace o3 := bkeep hA o3
      replace HB := bt HB hA
      clear hA
      go_wp2_with fail
      generalize W5.alloc (.cells #[.int .i64 wk, .int .i64 wa, .int .i64 wb, .string wd, .int .i64 wp, .int .i64 wq, .string we, .int .i64 wr, .int .i64 ws, .string wf] 27) = W5' at *
      refine (C2.out _).mono ?_
      rintro e' W6 ⟨rfl, hA⟩
      replace c0 := bkeep hA c0
      replace c1 := bkeep hA c1
      replace c2 := bkeep hA c2
      replace c3 := bkeep hA c3
      replace c4 := bkeep hA c4
      replace c5 := bkeep hA c5
      replace c6 := bkeep hA c6
      replace c7 := bkeep hA c7
      replace c8 := bkeep hA c8
      replace c9 := bkeep hA c9
      replace o0 := bkeep hA o0
      replace o1 := bkeep hA o1
      replace o2 := bkeep hA o2
      replace o3 := bkeep hA o3
      replace A0 := bkeep hA A0
      replace A1 := bkeep hA A1
      replace A2 := bkeep hA A2
      replace A3 := bkeep hA A3
      replace A4 := bkeep hA A4
      replace A5 := bkeep hA A5
      replace A6 := bkeep hA A6
      replace A7 := bkeep hA A7
      replace A8 := bkeep hA A8
      replace A9 := bkeep hA A9
      replace HB := bt HB hA
      clear hA
      obtain ⟨B0, B1, B2, B3, B4, B5, B6, B7, B8, B9⟩ := held10 (w := W6) (k := wk) (a := wa) (b := wb) (d := wd) (p := wp) (q := wq) (e := we) (r := wr) (s := ws) (f := wf) 27
      have hA := (Below.refl W6.heap.size W6).alloc (Nat.le_refl _) (.cells #[.int .i64 wk, .int .i64 wa, .int .i64 wb, .string wd, .int .i64 wp, .int .i64 wq, .string we, .int .i64 wr, .int .i64 ws, .string wf] 27)
      replace c0 := bkeep hA c0
      replace c1 := bkeep hA c1
      replace c2 := bkeep hA c2
      replace c3 := bkeep hA c3
      replace c4 := bkeep hA c4
      replace c5 := bkeep hA c5
      replace c6 := bkeep hA c6
      replace c7 := bkeep hA c7
      replace c8 := bkeep hA c8
      replace c9 := bkeep hA c9
      replace o0 := bkeep hA o0
      replace o1 := bkeep hA o1
      replace o2 := bkeep hA o2
      replace o3 := bkeep hA o3
      replace A0 := bkeep hA A0
      replace A1 := bkeep hA A1
      replace A2 := bkeep hA A2
      replace A3 := bkeep hA A3
      replace A4 := bkeep hA A4
      replace A5 := bkeep hA A5
      replace A6 := bkeep hA A6
      replace A7 := bkeep hA A7
      replace A8 := bkeep hA A8
      replace A9 := bkeep hA A9
      replace HB := bt HB hA
      clear hA
      go_wp2_with fail
      generalize W6.alloc (.cells #[.int .i64 wk, .int .i64 wa, .int .i64 wb, .string wd, .int .i64 wp, .int .i64 wq, .string we, .int .i64 wr, .int .i64 ws, .string wf] 27) = W6' at *
      refine (C3.out _).mono ?_
      rintro e' W7 ⟨rfl, hA⟩
      replace c0 := bkeep hA c0
      replace c1 := bkeep hA c1
      replace c2 := bkeep hA c2
      replace c3 := bkeep hA c3
      replace c4 := bkeep hA c4
      replace c5 := bkeep hA c5
      replace c6 := bkeep hA c6
      replace c7 := bkeep hA c7
      replace c8 := bkeep hA c8
      replace c9 := bkeep hA c9
      replace o0 := bkeep hA o0
      replace o1 := bkeep hA o1
      replace o2 := bkeep hA o2
      replace o3 := bkeep hA o3
      replace A0 := bkeep hA A0
      replace A1 := bkeep hA A1
      replace A2 := bkeep hA A2
      replace A3 := bkeep hA A3
      replace A4 := bkeep hA A4
      replace A5 := bkeep hA A5
      replace A6 := bkeep hA A6
      replace A7 := bkeep hA A7
      replace A8 := bkeep hA A8
      replace A9 := bkeep hA A9
      replace B0 := bkeep hA B0
      replace B1 := bkeep hA B1
      replace B2 := bkeep hA B2
      replace B3 := bkeep hA B3
      replace B4 := bkeep hA B4
      replace B5 := bkeep hA B5
      replace B6 := bkeep hA B6
      replace B7 := bkeep hA B7
      replace B8 := bkeep hA B8
      replace B9 := bkeep hA B9
      replace HB := bt HB hA
      clear hA
      obtain ⟨G0, G1, G2, G3, G4, G5, G6, G7, G8, G9⟩ := held10 (w := W7) (k := xk) (a := xa) (b := xb) (d := xd) (p := xp) (q := xq) (e := xe) (r := xr) (s := xs) (f := xf) 27
      have hA := (Below.refl W7.heap.size W7).alloc (Nat.le_refl _) (.cells #[.int .i64 xk, .int .i64 xa, .int .i64 xb, .string xd, .int .i64 xp, .int .i64 xq, .string xe, .int .i64 xr, .int .i64 xs, .string xf] 27)
      replace c0 := bkeep hA c0
      replace c1 := bkeep hA c1
      replace c2 := bkeep hA c2
      replace c3 := bkeep hA c3
      replace c4 := bkeep hA c4
      replace c5 := bkeep hA c5
      replace c6 := bkeep hA c6
      replace c7 := bkeep hA c7
      replace c8 := bkeep hA c8
      replace c9 := bkeep hA c9
      replace o0 := bkeep hA o0
      replace o1 := bkeep hA o1
      replace o2 := bkeep hA o2
      replace o3 := bkeep hA o3
      replace A0 := bkeep hA A0
      replace A1 := bkeep hA A1
      replace A2 := bkeep hA A2
      replace A3 := bkeep hA A3
      replace A4 := bkeep hA A4
      replace A5 := bkeep hA A5
      replace A6 := bkeep hA A6
      replace A7 := bkeep hA A7
      replace A8 := bkeep hA A8
      replace A9 := bkeep hA A9
      replace B0 := bkeep hA B0
      replace B1 := bkeep hA B1
      replace B2 := bkeep hA B2
      replace B3 := bkeep hA B3
      replace B4 := bkeep hA B4
      replace B5 := bkeep hA B5
      replace B6 := bkeep hA B6
      replace B7 := bkeep hA B7
      replace B8 := bkeep hA B8
      replace B9 := bkeep hA B9
      replace HB := bt HB hA
      clear hA
      go_wp2_with fail
      generalize W7.alloc (.cells #[.int .i64 xk, .int .i64 xa, .int .i64 xb, .string xd, .int .i64 xp, .int .i64 xq, .string xe, .int .i64 xr, .int .i64 xs, .string xf] 27) = W7' at *
      refine (C4.out _).mono ?_
      rintro e' W8 ⟨rfl, hA⟩
      replace c0 := bkeep hA c0
      replace c1 := bkeep hA c1
      replace c2 := bkeep hA c2
      replace c3 := bkeep hA c3
      replace c4 := bkeep hA c4
      replace c5 := bkeep hA c5
      replace c6 := bkeep hA c6
      replace c7 := bkeep hA c7
      replace c8 := bkeep hA c8
      replace c9 := bkeep hA c9
      replace o0 := bkeep hA o0
      replace o1 := bkeep hA o1
      replace o2 := bkeep hA o2
      replace o3 := bkeep hA o3
      replace A0 := bkeep hA A0
      replace A1 := bkeep hA A1
      replace A2 := bkeep hA A2
      replace A3 := bkeep hA A3
      replace A4 := bkeep hA A4
      replace A5 := bkeep hA A5
      replace A6 := bkeep hA A6
      replace A7 := bkeep hA A7
      replace A8 := bkeep hA A8
      replace A9 := bkeep hA A9
      replace B0 := bkeep hA B0
      replace B1 := bkeep hA B1
      replace B2 := bkeep hA B2
      replace B3 := bkeep hA B3
      replace B4 := bkeep hA B4
      replace B5 := bkeep hA B5
      replace B6 := bkeep hA B6
      replace B7 := bkeep hA B7
      replace B8 := bkeep hA B8
      replace B9 := bkeep hA B9
      replace G0 := bkeep hA G0
      replace G1 := bkeep hA G1
      replace G2 := bkeep hA G2
      replace G3 := bkeep hA G3
      replace G4 := bkeep hA G4
      replace G5 := bkeep hA G5
      replace G6 := bkeep hA G6
      replace G7 := bkeep hA G7
      replace G8 := bkeep hA G8
      replace G9 := bkeep hA G9
      replace HB := bt HB hA
      clear hA
      obtain ⟨D0, D1, D2, D3, D4, D5, D6, D7, D8, D9⟩ := held10 (w := W8) (k := xk) (a := xa) (b := xb) (d := xd) (p := xp) (q := xq) (e := xe) (r := xr) (s := xs) (f := xf) 27
      have hA := (Below.refl W8.heap.size W8).alloc (Nat.le_refl _) (.cells #[.int .i64 xk, .int .i64 xa, .int .i64 xb, .string xd, .int .i64 xp, .int .i64 xq, .string xe, .int .i64 xr, .int .i64 xs, .string xf] 27)
      replace c0 := bkeep hA c0
      replace c1 := bkeep hA c1
      replace c2 := bkeep hA c2
      replace c3 := bkeep hA c3
      replace c4 := bkeep hA c4
      replace c5 := bkeep hA c5
      replace c6 := bkeep hA c6
      replace c7 := bkeep hA c7
      replace c8 := bkeep hA c8
      replace c9 := bkeep hA c9
      replace o0 := bkeep hA o0
      replace o1 := bkeep hA o1
      replace o2 := bkeep hA o2
      replace o3 := bkeep hA o3
      replace A0 := bkeep hA A0
      replace A1 := bkeep hA A1
      replace A2 := bkeep hA A2
      replace A3 := bkeep hA A3
      replace A4 := bkeep hA A4
      replace A5 := bkeep hA A5
      replace A6 := bkeep hA A6
      replace A7 := bkeep hA A7
      replace A8 := bkeep hA A8
      replace A9 := bkeep hA A9
      replace B0 := bkeep hA B0
      replace B1 := bkeep hA B1
      replace B2 := bkeep hA B2
      replace B3 := bkeep hA B3
      replace B4 := bkeep hA B4
      replace B5 := bkeep hA B5
      replace B6 := bkeep hA B6
      replace B7 := bkeep hA B7
      replace B8 := bkeep hA B8
      replace B9 := bkeep hA B9
      replace G0 := bkeep hA G0
      replace G1 := bkeep hA G1
      replace G2 := bkeep hA G2
      replace G3 := bkeep hA G3
      replace G4 := bkeep hA G4
      replace G5 := bkeep hA G5
      replace G6 := bkeep hA G6
      replace G7 := bkeep hA G7
      replace G8 := bkeep hA G8
      replace G9 := bkeep hA G9
      replace HB := bt HB hA
      clear hA
      go_wp2_with (first | (go_at_call 13; (with_reducible refine (Q2.out _).mono ?_); rintro e' W9 ⟨rfl, hA⟩; replace c0 := bkeep hA c0; replace c1 := bkeep hA c1; replace c2 := bkeep hA c2; replace c3 := bkeep hA c3; replace c4 := bkeep hA c4; replace c5 := bkeep hA c5; replace c6 := bkeep hA c6; replace c7 := bkeep hA c7; replace c8 := bkeep hA c8; replace c9 := bkeep hA c9; replace o0 := bkeep hA o0; replace o1 := bkeep hA o1; replace o2 := bkeep hA o2; replace o3 := bkeep hA o3; replace A0 := bkeep hA A0; replace A1 := bkeep hA A1; replace A2 := bkeep hA A2; replace A3 := bkeep hA A3; replace A4 := bkeep hA A4; replace A5 := bkeep hA A5; replace A6 := bkeep hA A6; replace A7 := bkeep hA A7; replace A8 := bkeep hA A8; replace A9 := bkeep hA A9; replace B0 := bkeep hA B0; replace B1 := bkeep hA B1; replace B2 := bkeep hA B2; replace B3 := bkeep hA B3; replace B4 := bkeep hA B4; replace B5 := bkeep hA B5; replace B6 := bkeep hA B6; replace B7 := bkeep hA B7; replace B8 := bkeep hA B8; replace B9 := bkeep hA B9; replace G0 := bkeep hA G0; replace G1 := bkeep hA G1; replace G2 := bkeep hA G2; replace G3 := bkeep hA G3; replace G4 := bkeep hA G4; replace G5 := bkeep hA G5; replace G6 := bkeep hA G6; replace G7 := bkeep hA G7; replace G8 := bkeep hA G8; replace G9 := bkeep hA G9; replace D0 := bkeep hA D0; replace D1 := bkeep hA D1; replace D2 := bkeep hA D2; replace D3 := bkeep hA D3; replace D4 := bkeep hA D4; replace D5 := bkeep hA D5; replace D6 := bkeep hA D6; replace D7 := bkeep hA D7; replace D8 := bkeep hA D8; replace D9 := bkeep hA D9; replace HB := bt HB hA; clear hA) | (go_at_call 11; (with_reducible refine (Q4.out _).mono ?_); rintro e' W9 ⟨rfl, hA⟩; replace c0 := bkeep hA c0; replace c1 := bkeep hA c1; replace c2 := bkeep hA c2; replace c3 := bkeep hA c3; replace c4 := bkeep hA c4; replace c5 := bkeep hA c5; replace c6 := bkeep hA c6; replace c7 := bkeep hA c7; replace c8 := bkeep hA c8; replace c9 := bkeep hA c9; replace o0 := bkeep hA o0; replace o1 := bkeep hA o1; replace o2 := bkeep hA o2; replace o3 := bkeep hA o3; replace A0 := bkeep hA A0; replace A1 := bkeep hA A1; replace A2 := bkeep hA A2; replace A3 := bkeep hA A3; replace A4 := bkeep hA A4; replace A5 := bkeep hA A5; replace A6 := bkeep hA A6; replace A7 := bkeep hA A7; replace A8 := bkeep hA A8; replace A9 := bkeep hA A9; replace B0 := bkeep hA B0; replace B1 := bkeep hA B1; replace B2 := bkeep hA B2; replace B3 := bkeep hA B3; replace B4 := bkeep hA B4; replace B5 := bkeep hA B5; replace B6 := bkeep hA B6; replace B7 := bkeep hA B7; replace B8 := bkeep hA B8; replace B9 := bkeep hA B9; replace G0 := bkeep hA G0; replace G1 := bkeep hA G1; replace G2 := bkeep hA G2; replace G3 := bkeep hA G3; replace G4 := bkeep hA G4; replace G5 := bkeep hA G5; replace G6 := bkeep hA G6; replace G7 := bkeep hA G7; replace G8 := bkeep hA G8; replace G9 := bkeep hA G9; replace D0 := bkeep hA D0; replace D1 := bkeep hA D1; replace D2 := bkeep hA D2; replace D3 := bkeep hA D3; replace D4 := bkeep hA D4; replace D5 := bkeep hA D5; replace D6 := bkeep hA D6; replace D7 := bkeep hA D7; replace D8 := bkeep hA D8; replace D9 := bkeep hA D9; replace HB := bt HB hA; clear hA))
      go_ret
      exact ⟨rfl, HB⟩
    · have n2 : (E2 != 0) = true := bne_iff_ne.2 h2
      clear L2 h2
      obtain ⟨c0, c1, c2, c3, c4, c5, c6, c7, c8, c9⟩ := held10 (w := w) (k := k) (a := a) (b := b) (d := d) (p := p) (q := q) (e := e) (r := r) (s := s) (f := f) 27
      have HB : Below w.heap.size w (w.alloc (.cells #[.int .i64 k, .int .i64 a, .int .i64 b, .string d, .int .i64 p, .int .i64 q, .string e, .int .i64 r, .int .i64 s, .string f] 27)) := (Below.refl _ _).alloc (Nat.le_refl _) _
      have hz1 : (w.alloc (.cells #[.int .i64 k, .int .i64 a, .int .i64 b, .string d, .int .i64 p, .int .i64 q, .string e, .int .i64 r, .int .i64 s, .string f] 27)).heap.size = w.heap.size + 1 := by simp
      go_enter Try.func4, Try.ntmps4
      go_wp2_with fail
      generalize w.alloc (.cells #[.int .i64 k, .int .i64 a, .int .i64 b, .string d, .int .i64 p, .int .i64 q, .string e, .int .i64 r, .int .i64 s, .string f] 27) = W1 at *
      obtain ⟨o0, o1, o2, o3⟩ := held4o (w := W1) (n := nd) (m := bt_) (l := ch) (t := tx) 38
      rw [hz1] at o0 o1 o2 o3
      have hA : Below W1.heap.size W1 (W1.alloc (.cells #[.int .i64 nd, .int .i64 bt_, .int .i64 ch, .string tx] 38)) := (Below.refl _ _).alloc (Nat.le_refl _) _
      replace c0 := bkeep hA c0
      replace c1 := bkeep hA c1
      replace c2 := bkeep hA c2
      replace c3 := bkeep hA c3
      replace c4 := bkeep hA c4
      replace c5 := bkeep hA c5
      replace c6 := bkeep hA c6
      replace c7 := bkeep hA c7
      replace c8 := bkeep hA c8
      replace c9 := bkeep hA c9
      replace HB := bt HB hA
      clear hA hz1
      generalize W1.alloc (.cells #[.int .i64 nd, .int .i64 bt_, .int .i64 ch, .string tx] 38) = W2 at *
      refine (works_any _).mono ?_
      rintro e' W3 ⟨rfl, hA⟩
      replace c0 := bkeep hA c0
      replace c1 := bkeep hA c1
      replace c2 := bkeep hA c2
      replace c3 := bkeep hA c3
      replace c4 := bkeep hA c4
      replace c5 := bkeep hA c5
      replace c6 := bkeep hA c6
      replace c7 := bkeep hA c7
      replace c8 := bkeep hA c8
      replace c9 := bkeep hA c9
      replace o0 := bkeep hA o0
      replace o1 := bkeep hA o1
      replace o2 := bkeep hA o2
      replace o3 := bkeep hA o3
      replace HB := bt HB hA
      clear hA
      go_wp2_with fail
      refine (big_any _ _ _ _ _ _ _ _ _ _ _).mono ?_
      rintro e' W4 ⟨rfl, hA⟩
      replace c0 := bkeep hA c0
      replace c1 := bkeep hA c1
      replace c2 := bkeep hA c2
      replace c3 := bkeep hA c3
      replace c4 := bkeep hA c4
      replace c5 := bkeep hA c5
      replace c6 := bkeep hA c6
      replace c7 := bkeep hA c7
      replace c8 := bkeep hA c8
      replace c9 := bkeep hA c9
      replace o0 := bkeep hA o0
      replace o1 := bkeep hA o1
      replace o2 := bkeep hA o2
      replace o3 := bkeep hA o3
      replace HB := bt HB hA
      clear hA
      rw [hbig]
      go_wp2_with fail
      refine (C1.out _).mono ?_
      rintro e' W5 ⟨rfl, hA⟩
      replace c0 := bkeep hA c0
      replace c1 := bkeep hA c1
      replace c2 := bkeep hA c2
      replace c3 := bkeep hA c3
      replace c4 := bkeep hA c4
      replace c5 := bkeep hA c5
      replace c6 := bkeep hA c6
      replace c7 := bkeep hA c7
      replace c8 := bkeep hA c8
      replace c9 := bkeep hA c9
      replace o0 := bkeep hA o0
      replace o1 := bkeep hA o1
      replace o2 := bkeep hA o2
      replace o3 := bkeep hA o3
      replace HB := bt HB hA
      clear hA
      obtain ⟨A0, A1, A2, A3, A4, A5, A6, A7, A8, A9⟩ := held10 (w := W5) (k := wk) (a := wa) (b := wb) (d := wd) (p := wp) (q := wq) (e := we) (r := wr) (s := ws) (f := wf) 27
      have hA := (Below.refl W5.heap.size W5).alloc (Nat.le_refl _) (.cells #[.int .i64 wk, .int .i64 wa, .int .i64 wb, .string wd, .int .i64 wp, .int .i64 wq, .string we, .int .i64 wr, .int .i64 ws, .string wf] 27)
      replace c0 := bkeep hA c0
      replace c1 := bkeep hA c1
      replace c2 := bkeep hA c2
      replace c3 := bkeep hA c3
      replace c4 := bkeep hA c4
      replace c5 := bkeep hA c5
      replace c6 := bkeep hA c6
      replace c7 := bkeep hA c7
      replace c8 := bkeep hA c8
      replace c9 := bkeep hA c9
      replace o0 := bkeep hA o0
      replace o1 := bkeep hA o1
      replace o2 := bkeep hA o2
      replace o3 := bkeep hA o3
      replace HB := bt HB hA
      clear hA
      go_wp2_with fail
      generalize W5.alloc (.cells #[.int .i64 wk, .int .i64 wa, .int .i64 wb, .string wd, .int .i64 wp, .int .i64 wq, .string we, .int .i64 wr, .int .i64 ws, .string wf] 27) = W5' at *
      refine (C2.out _).mono ?_
      rintro e' W6 ⟨rfl, hA⟩
      replace c0 := bkeep hA c0
      replace c1 := bkeep hA c1
      replace c2 := bkeep hA c2
      replace c3 := bkeep hA c3
      replace c4 := bkeep hA c4
      replace c5 := bkeep hA c5
      replace c6 := bkeep hA c6
      replace c7 := bkeep hA c7
      replace c8 := bkeep hA c8
      replace c9 := bkeep hA c9
      replace o0 := bkeep hA o0
      replace o1 := bkeep hA o1
      replace o2 := bkeep hA o2
      replace o3 := bkeep hA o3
      replace A0 := bkeep hA A0
      replace A1 := bkeep hA A1
      replace A2 := bkeep hA A2
      replace A3 := bkeep hA A3
      replace A4 := bkeep hA A4
      replace A5 := bkeep hA A5
      replace A6 := bkeep hA A6
      replace A7 := bkeep hA A7
      replace A8 := bkeep hA A8
      replace A9 := bkeep hA A9
      replace HB := bt HB hA
      clear hA
      obtain ⟨B0, B1, B2, B3, B4, B5, B6, B7, B8, B9⟩ := held10 (w := W6) (k := wk) (a := wa) (b := wb) (d := wd) (p := wp) (q := wq) (e := we) (r := wr) (s := ws) (f := wf) 27
      have hA := (Below.refl W6.heap.size W6).alloc (Nat.le_refl _) (.cells #[.int .i64 wk, .int .i64 wa, .int .i64 wb, .string wd, .int .i64 wp, .int .i64 wq, .string we, .int .i64 wr, .int .i64 ws, .string wf] 27)
      replace c0 := bkeep hA c0
      replace c1 := bkeep hA c1
      replace c2 := bkeep hA c2
      replace c3 := bkeep hA c3
      replace c4 := bkeep hA c4
      replace c5 := bkeep hA c5
      replace c6 := bkeep hA c6
      replace c7 := bkeep hA c7
      replace c8 := bkeep hA c8
      replace c9 := bkeep hA c9
      replace o0 := bkeep hA o0
      replace o1 := bkeep hA o1
      replace o2 := bkeep hA o2
      replace o3 := bkeep hA o3
      replace A0 := bkeep hA A0
      replace A1 := bkeep hA A1
      replace A2 := bkeep hA A2
      replace A3 := bkeep hA A3
      replace A4 := bkeep hA A4
      replace A5 := bkeep hA A5
      replace A6 := bkeep hA A6
      replace A7 := bkeep hA A7
      replace A8 := bkeep hA A8
      replace A9 := bkeep hA A9
      replace HB := bt HB hA
      clear hA
      go_wp2_with fail
      generalize W6.alloc (.cells #[.int .i64 wk, .int .i64 wa, .int .i64 wb, .string wd, .int .i64 wp, .int .i64 wq, .string we, .int .i64 wr, .int .i64 ws, .string wf] 27) = W6' at *
      refine (C3.out _).mono ?_
      rintro e' W7 ⟨rfl, hA⟩
      replace c0 := bkeep hA c0
      replace c1 := bkeep hA c1
      replace c2 := bkeep hA c2
      replace c3 := bkeep hA c3
      replace c4 := bkeep hA c4
      replace c5 := bkeep hA c5
      replace c6 := bkeep hA c6
      replace c7 := bkeep hA c7
      replace c8 := bkeep hA c8
      replace c9 := bkeep hA c9
      replace o0 := bkeep hA o0
      replace o1 := bkeep hA o1
      replace o2 := bkeep hA o2
      replace o3 := bkeep hA o3
      replace A0 := bkeep hA A0
      replace A1 := bkeep hA A1
      replace A2 := bkeep hA A2
      replace A3 := bkeep hA A3
      replace A4 := bkeep hA A4
      replace A5 := bkeep hA A5
      replace A6 := bkeep hA A6
      replace A7 := bkeep hA A7
      replace A8 := bkeep hA A8
      replace A9 := bkeep hA A9
      replace B0 := bkeep hA B0
      replace B1 := bkeep hA B1
      replace B2 := bkeep hA B2
      replace B3 := bkeep hA B3
      replace B4 := bkeep hA B4
      replace B5 := bkeep hA B5
      replace B6 := bkeep hA B6
      replace B7 := bkeep hA B7
      replace B8 := bkeep hA B8
      replace B9 := bkeep hA B9
      replace HB := bt HB hA
      clear hA
      obtain ⟨G0, G1, G2, G3, G4, G5, G6, G7, G8, G9⟩ := held10 (w := W7) (k := xk) (a := xa) (b := xb) (d := xd) (p := xp) (q := xq) (e := xe) (r := xr) (s := xs) (f := xf) 27
      have hA := (Below.refl W7.heap.size W7).alloc (Nat.le_refl _) (.cells #[.int .i64 xk, .int .i64 xa, .int .i64 xb, .string xd, .int .i64 xp, .int .i64 xq, .string xe, .int .i64 xr, .int .i64 xs, .string xf] 27)
      replace c0 := bkeep hA c0
      replace c1 := bkeep hA c1
      replace c2 := bkeep hA c2
      replace c3 := bkeep hA c3
      replace c4 := bkeep hA c4
      replace c5 := bkeep hA c5
      replace c6 := bkeep hA c6
      replace c7 := bkeep hA c7
      replace c8 := bkeep hA c8
      replace c9 := bkeep hA c9
      replace o0 := bkeep hA o0
      replace o1 := bkeep hA o1
      replace o2 := bkeep hA o2
      replace o3 := bkeep hA o3
      replace A0 := bkeep hA A0
      replace A1 := bkeep hA A1
      replace A2 := bkeep hA A2
      replace A3 := bkeep hA A3
      replace A4 := bkeep hA A4
      replace A5 := bkeep hA A5
      replace A6 := bkeep hA A6
      replace A7 := bkeep hA A7
      replace A8 := bkeep hA A8
      replace A9 := bkeep hA A9
      replace B0 := bkeep hA B0
      replace B1 := bkeep hA B1
      replace B2 := bkeep hA B2
      replace B3 := bkeep hA B3
      replace B4 := bkeep hA B4
      replace B5 := bkeep hA B5
      replace B6 := bkeep hA B6
      replace B7 := bkeep hA B7
      replace B8 := bkeep hA B8
      replace B9 := bkeep hA B9
      replace HB := bt HB hA
      clear hA
      go_wp2_with fail
      generalize W7.alloc (.cells #[.int .i64 xk, .int .i64 xa, .int .i64 xb, .string xd, .int .i64 xp, .int .i64 xq, .string xe, .int .i64 xr, .int .i64 xs, .string xf] 27) = W7' at *
      refine (C4.out _).mono ?_
      rintro e' W8 ⟨rfl, hA⟩
      replace c0 := bkeep hA c0
      replace c1 := bkeep hA c1
      replace c2 := bkeep hA c2
      replace c3 := bkeep hA c3
      replace c4 := bkeep hA c4
      replace c5 := bkeep hA c5
      replace c6 := bkeep hA c6
      replace c7 := bkeep hA c7
      replace c8 := bkeep hA c8
      replace c9 := bkeep hA c9
      replace o0 := bkeep hA o0
      replace o1 := bkeep hA o1
      replace o2 := bkeep hA o2
      replace o3 := bkeep hA o3
      replace A0 := bkeep hA A0
      replace A1 := bkeep hA A1
      replace A2 := bkeep hA A2
      replace A3 := bkeep hA A3
      replace A4 := bkeep hA A4
      replace A5 := bkeep hA A5
      replace A6 := bkeep hA A6
      replace A7 := bkeep hA A7
      replace A8 := bkeep hA A8
      replace A9 := bkeep hA A9
      replace B0 := bkeep hA B0
      replace B1 := bkeep hA B1
      replace B2 := bkeep hA B2
      replace B3 := bkeep hA B3
      replace B4 := bkeep hA B4
      replace B5 := bkeep hA B5
      replace B6 := bkeep hA B6
      replace B7 := bkeep hA B7
      replace B8 := bkeep hA B8
      replace B9 := bkeep hA B9
      replace G0 := bkeep hA G0
      replace G1 := bkeep hA G1
      replace G2 := bkeep hA G2
      replace G3 := bkeep hA G3
      replace G4 := bkeep hA G4
      replace G5 := bkeep hA G5
      replace G6 := bkeep hA G6
      replace G7 := bkeep hA G7
      replace G8 := bkeep hA G8
      replace G9 := bkeep hA G9
      replace HB := bt HB hA
      clear hA
      obtain ⟨D0, D1, D2, D3, D4, D5, D6, D7, D8, D9⟩ := held10 (w := W8) (k := xk) (a := xa) (b := xb) (d := xd) (p := xp) (q := xq) (e := xe) (r := xr) (s := xs) (f := xf) 27
      have hA := (Below.refl W8.heap.size W8).alloc (Nat.le_refl _) (.cells #[.int .i64 xk, .int .i64 xa, .int .i64 xb, .string xd, .int .i64 xp, .int .i64 xq, .string xe, .int .i64 xr, .int .i64 xs, .string xf] 27)
      replace c0 := bkeep hA c0
      replace c1 := bkeep hA c1
      replace c2 := bkeep hA c2
      replace c3 := bkeep hA c3
      replace c4 := bkeep hA c4
      replace c5 := bkeep hA c5
      replace c6 := bkeep hA c6
      replace c7 := bkeep hA c7
      replace c8 := bkeep hA c8
      replace c9 := bkeep hA c9
      replace o0 := bkeep hA o0
      replace o1 := bkeep hA o1
      replace o2 := bkeep hA o2
      replace o3 := bkeep hA o3
      replace A0 := bkeep hA A0
      replace A1 := bkeep hA A1
      replace A2 := bkeep hA A2
      replace A3 := bkeep hA A3
      replace A4 := bkeep hA A4
      replace A5 := bkeep hA A5
      replace A6 := bkeep hA A6
      replace A7 := bkeep hA A7
      replace A8 := bkeep hA A8
      replace A9 := bkeep hA A9
      replace B0 := bkeep hA B0
      replace B1 := bkeep hA B1
      replace B2 := bkeep hA B2
      replace B3 := bkeep hA B3
      replace B4 := bkeep hA B4
      replace B5 := bkeep hA B5
      replace B6 := bkeep hA B6
      replace B7 := bkeep hA B7
      replace B8 := bkeep hA B8
      replace B9 := bkeep hA B9
      replace G0 := bkeep hA G0
      replace G1 := bkeep hA G1
      replace G2 := bkeep hA G2
      replace G3 := bkeep hA G3
      replace G4 := bkeep hA G4
      replace G5 := bkeep hA G5
      replace G6 := bkeep hA G6
      replace G7 := bkeep hA G7
      replace G8 := bkeep hA G8
      replace G9 := bkeep hA G9
      replace HB := bt HB hA
      clear hA
      go_wp2
      go_ret
      exact ⟨rfl, HB⟩
end Go.Proofs.Ytingeahkndingaa
