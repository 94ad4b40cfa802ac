/-
  Chapter 23: solderlaw23.changed. (genstm.py prints it.)
-/
import Derived.Test.YtingeahkndingaaStateWork
import Derived.Test.YtingeahkndingaaStateCel2
import Derived.Test.YtingeahkndingaaStateMeet
import Derived.Test.YtingeahkndingaaDraw
import Derived.Deep.Cut
import Derived.Deep.CutRange
namespace Go.Proofs.Ytingeahkndingaa
open Go.RowKit
set_option linter.unusedVariables false
set_option linter.unusedSimpArgs false
theorem put10_cell {W : World} {g : Nat} {q : Addr} {u : Value} (h : W.cell? q = some u) (hne : q.block ≠ g) (x : St) : (put10 W g x).cell? q = some u := by
  unfold put10
  repeat (first | with_reducible exact h | with_reducible refine cell_set_ne ?_ hne)
theorem wr_at' {x z : St} {node boot E : Int} {t : ByteArray} (h : wrS x node boot t = z) (he : wrE x node boot t = E) (w : World) : Calls Try.prog 15 #[SS x.k x.a x.b x.d x.x.p x.x.q x.x.d x.y.p x.y.q x.y.d, .int .i64 node, .int .i64 boot, .string t] w fun e' w' => e' = .returned (.tuple #[SS z.k z.a z.b z.d z.x.p z.x.q z.x.d z.y.p z.y.q z.y.d, .int .i64 E]) ∧ Below w.heap.size w w' := h ▸ he ▸ write_any x.k x.a x.b x.d x.x.p x.x.q x.x.d x.y.p x.y.q x.y.d node boot t w
set_option maxRecDepth 100000 in
set_option maxHeartbeats 12800000 in
theorem changed_any (x : St) (ad : Option Addr) (len cap : Nat) (l : List Opr) (node : Int) (w : World) (hl : IsList w ad len 4 oprE oprOk l) :
    Calls Try.prog 19 #[SS x.k x.a x.b x.d x.x.p x.x.q x.x.d x.y.p x.y.q x.y.d, .slice ad len cap, .int .i64 node] w fun e' w' => e' = .returned (.tuple #[(chgs node x l).1.v, .int .i64 ((chgs node x l).2 : Nat)]) ∧ Below w.heap.size w w' := by
  have hsz := hl.size_eq
  have hmost := hl.most
  have hcn := chgs_le node
  have B0 : Box ((w.alloc (.cells #[.int .i64 x.k, .int .i64 x.a, .int .i64 x.b, .string x.d, .int .i64 x.x.p, .int .i64 x.x.q, .string x.x.d, .int .i64 x.y.p, .int .i64 x.y.q, .string x.y.d] 27)).alloc (.cells #[.int .i64 0, .int .i64 0, .int .i64 0, .string ⟨#[]⟩, .int .i64 0, .int .i64 0, .string ⟨#[]⟩, .int .i64 0, .int .i64 0, .string ⟨#[]⟩] 27)) w.heap.size x := (Box.new w x 27).below ((Below.refl _ _).alloc (Nat.le_refl _) _)
  have B1 : Box ((w.alloc (.cells #[.int .i64 x.k, .int .i64 x.a, .int .i64 x.b, .string x.d, .int .i64 x.x.p, .int .i64 x.x.q, .string x.x.d, .int .i64 x.y.p, .int .i64 x.y.q, .string x.y.d] 27)).alloc (.cells #[.int .i64 0, .int .i64 0, .int .i64 0, .string ⟨#[]⟩, .int .i64 0, .int .i64 0, .string ⟨#[]⟩, .int .i64 0, .int .i64 0, .string ⟨#[]⟩] 27)) (w.heap.size + 1) ⟨0, 0, 0, ⟨#[]⟩, ⟨0, 0, ⟨#[]⟩⟩, ⟨0, 0, ⟨#[]⟩⟩⟩ := by
    have h := Box.new (w.alloc (.cells #[.int .i64 x.k, .int .i64 x.a, .int .i64 x.b, .string x.d, .int .i64 x.x.p, .int .i64 x.x.q, .string x.x.d, .int .i64 x.y.p, .int .i64 x.y.q, .string x.y.d] 27)) ⟨0, 0, 0, ⟨#[]⟩, ⟨0, 0, ⟨#[]⟩⟩, ⟨0, 0, ⟨#[]⟩⟩⟩ 27
    rw [show (w.alloc (.cells #[.int .i64 x.k, .int .i64 x.a, .int .i64 x.b, .string x.d, .int .i64 x.x.p, .int .i64 x.x.q, .string x.x.d, .int .i64 x.y.p, .int .i64 x.y.q, .string x.y.d] 27)).heap.size = w.heap.size + 1 by simp] at h
    exact h
  have B0 := Lib.hid B0
  have B1 := Lib.hid B1
  have B2 := Lib.hid (((Below.refl w.heap.size w).alloc (Nat.le_refl _) (.cells #[.int .i64 x.k, .int .i64 x.a, .int .i64 x.b, .string x.d, .int .i64 x.x.p, .int .i64 x.x.q, .string x.x.d, .int .i64 x.y.p, .int .i64 x.y.q, .string x.y.d] 27)).alloc (by simp) (.cells #[.int .i64 0, .int .i64 0, .int .i64 0, .string ⟨#[]⟩, .int .i64 0, .int .i64 0, .string ⟨#[]⟩, .int .i64 0, .int .i64 0, .string ⟨#[]⟩] 27))
  go_enter Try.func19, Try.ntmps19
  go_wp2
  go_loopw [8, 9] (fun n i wr => ∃ k : Nat, k ≤ len ∧ i = .int .i64 k ∧ n = .int .i64 ((chgs node x (l.take k)).2 : Nat) ∧ Hid (Box wr w.heap.size (chgs node x (l.take k)).1) ∧ Hid (Box wr (w.heap.size + 1) ⟨0, 0, 0, ⟨#[]⟩, ⟨0, 0, ⟨#[]⟩⟩, ⟨0, 0, ⟨#[]⟩⟩⟩) ∧ Hid (Below w.heap.size w wr)) (fun _ i _ => len - (intOf i).toNat)
  case atStart => exact ⟨0, Nat.zero_le _, rfl, rfl, B0.out, B1.out, B2.out⟩
  case round =>
    obtain ⟨k, hk, rfl, rfl, HX, H0, HB⟩ := hrel
    clear B0 B1 B2
    by_cases hlt : k < len
    · obtain ⟨b, o, rfl, -⟩ := hl.at_ (by omega)
      have hkl : k < l.length := by omega
      have q1 := (hl.get HB.out (Nat.le_refl _) k hkl 1 (by omega) (.int .i64 l[k].bt) rfl).1
      have q2 := (hl.get HB.out (Nat.le_refl _) k hkl 2 (by omega) (.int .i64 l[k].ch) rfl).1
      have q3 := (hl.get HB.out (Nat.le_refl _) k hkl 3 (by omega) (.string l[k].tx) rfl).1
      have HT := Lib.hid (chgs_take node x l k hkl)
      have hzn := hcn (l.take k) (x, 0)
      generalize l[k] = op at *
      obtain ⟨nd, bt, ch, tx⟩ := op
      have hzn : (chgs node x (l.take k)).2 ≤ k := by
        have : (l.take k).length ≤ k := by rw [List.length_take]; omega
        unfold chgs; simp only at hzn; omega
      generalize hz : chgs node x (l.take k) = z at *
      obtain ⟨⟨zk, za, zb, zd, ⟨zp, zq, ze⟩, ⟨zr, zs, zf⟩⟩, zn⟩ := z
      clear hz
      simp only at q1 q2 q3 hzn
      by_cases hbig : 1000 < tx.size
      · have hbi : (1000 : Int) < (tx.size : Int) := by omega
        have hc : Hid (chg node (⟨zk, za, zb, zd, ⟨zp, zq, ze⟩, ⟨zr, zs, zf⟩⟩, zn) ⟨nd, bt, ch, tx⟩ = (⟨zk, za, zb, zd, ⟨zp, zq, ze⟩, ⟨zr, zs, zf⟩⟩, zn)) := by show _ = _; unfold chg; rw [if_pos hbig]
        go_wp2
        exact ⟨⟨k + 1, by omega, by go_num, by rw [HT.out, hc.out], by rw [HT.out, hc.out]; exact HX.out, H0.out, HB.out⟩, by simp [intOf]; omega⟩
      · have hbi : ¬ (1000 : Int) < (tx.size : Int) := by omega
        obtain ⟨E2, hE2⟩ : ∃ E, resE ⟨zk, za, zb, zd, ⟨zp, zq, ze⟩, ⟨zr, zs, zf⟩⟩ node bt ch tx = E := ⟨_, rfl⟩
        obtain ⟨⟨rk, ra, rb, rd, ⟨rp, rq, re⟩, ⟨rr, rs, rf⟩⟩, hR⟩ : ∃ E, resS ⟨zk, za, zb, zd, ⟨zp, zq, ze⟩, ⟨zr, zs, zf⟩⟩ node bt ch tx = E := ⟨_, rfl⟩
        have CR := Lib.hid (fun w => res_at hR hE2 w)
        go_wp2_with fail
        have HS : Hid ((fun w' => Cel w' w.heap.size ⟨zk, za, zb, zd, ⟨zp, zq, ze⟩, ⟨zr, zs, zf⟩⟩ ∧ w'.cell? ⟨b, o + k * 4 + 1, none⟩ = some (.int .i64 bt) ∧ w'.cell? ⟨b, o + k * 4 + 2, none⟩ = some (.int .i64 ch) ∧ w'.cell? ⟨b, o + k * 4 + 3, none⟩ = some (.string tx)) wr.drew) := ⟨HX.out.1, q1, q2, q3⟩
        replace HX := Lib.hid HX.out.drew
        replace H0 := Lib.hid H0.out.drew
        replace HB := Lib.hid HB.out.drew
        go_cut [10, 11] from 12 to 72 (fun tp ep wx => ∃ g : Nat, tp = .pointer (some ⟨g, 0, none⟩) ∧ ep = .int .i64 E2 ∧ Hid (Box wx g ⟨rk, ra, rb, rd, ⟨rp, rq, re⟩, ⟨rr, rs, rf⟩⟩) ∧ Hid (Box wx w.heap.size ⟨zk, za, zb, zd, ⟨zp, zq, ze⟩, ⟨zr, zs, zf⟩⟩) ∧ Hid (Box wx (w.heap.size + 1) ⟨0, 0, 0, ⟨#[]⟩, ⟨0, 0, ⟨#[]⟩⟩, ⟨0, 0, ⟨#[]⟩⟩⟩) ∧ Hid (wx.cell? ⟨b, o + k * 4 + 1, none⟩ = some (.int .i64 bt) ∧ wx.cell? ⟨b, o + k * 4 + 2, none⟩ = some (.int .i64 ch) ∧ wx.cell? ⟨b, o + k * 4 + 3, none⟩ = some (.string tx)) ∧ Hid (w.heap.size ≠ g ∧ w.heap.size + 1 ≠ g ∧ w.heap.size ≤ g ∧ b < g) ∧ Hid (Below w.heap.size w wx))
        case first =>
          refine wp_region_held_drew (S := (fun w' => Cel w' w.heap.size ⟨zk, za, zb, zd, ⟨zp, zq, ze⟩, ⟨zr, zs, zf⟩⟩ ∧ w'.cell? ⟨b, o + k * 4 + 1, none⟩ = some (.int .i64 bt) ∧ w'.cell? ⟨b, o + k * 4 + 2, none⟩ = some (.int .i64 ch) ∧ w'.cell? ⟨b, o + k * 4 + 3, none⟩ = some (.string tx))) (by kernel_rfl) ?_ (fun hHeld => ?_)
          · exact HS.out
          generalize wr.drew = Wd at *
          first | (refine take_w (i := 0) (d := (some 26)) (v := ?_) (by rfl) (by kernel_rfl) (by kernel_rfl) (by kernel_rfl) (fun _ _ _ h => h) (by rfl) ?_ (by first | with_reducible exact hHeld | assumption) ?_; rotate_left; (focus (intro o ho; simp only [List.getElem?_toArray, List.getElem?_cons_succ, List.getElem?_cons_zero, Option.some.injEq] at ho; subst ho; intro w hSw; (try simp only [Cel] at hSw); go_simp; (try with_reducible rfl); done)))
          try simp only [Act.put, List.setIfInBounds_toArray, List.set_cons_zero, List.set_cons_succ]
          first | (refine take_w (i := 1) (d := (some 27)) (v := ?_) (by rfl) (by kernel_rfl) (by kernel_rfl) (by kernel_rfl) (fun _ _ _ h => h) (by rfl) ?_ (by first | with_reducible exact hHeld | assumption) ?_; rotate_left; (focus (intro o ho; simp only [List.getElem?_toArray, List.getElem?_cons_succ, List.getElem?_cons_zero, Option.some.injEq] at ho; subst ho; intro w hSw; (try simp only [Cel] at hSw); go_simp; (try with_reducible rfl); done)))
          try simp only [Act.put, List.setIfInBounds_toArray, List.set_cons_zero, List.set_cons_succ]
          first | (refine take_w (i := 2) (d := (some 28)) (v := ?_) (by rfl) (by kernel_rfl) (by kernel_rfl) (by kernel_rfl) (fun _ _ _ h => h) (by rfl) ?_ (by first | with_reducible exact hHeld | assumption) ?_; rotate_left; (focus (intro o ho; simp only [List.getElem?_toArray, List.getElem?_cons_succ, List.getElem?_cons_zero, Option.some.injEq] at ho; subst ho; intro w hSw; (try simp only [Cel] at hSw); go_simp; (try with_reducible rfl); done)))
          try simp only [Act.put, List.setIfInBounds_toArray, List.set_cons_zero, List.set_cons_succ]
          first | (refine take_w (i := 3) (d := (some 29)) (v := ?_) (by rfl) (by kernel_rfl) (by kernel_rfl) (by kernel_rfl) (fun _ _ _ h => h) (by rfl) ?_ (by first | with_reducible exact hHeld | assumption) ?_; rotate_left; (focus (intro o ho; simp only [List.getElem?_toArray, List.getElem?_cons_succ, List.getElem?_cons_zero, Option.some.injEq] at ho; subst ho; intro w hSw; (try simp only [Cel] at hSw); go_simp; (try with_reducible rfl); done)))
          try simp only [Act.put, List.setIfInBounds_toArray, List.set_cons_zero, List.set_cons_succ]
          first | (refine take_w (i := 4) (d := (some 30)) (v := ?_) (by rfl) (by kernel_rfl) (by kernel_rfl) (by kernel_rfl) (fun _ _ _ h => h) (by rfl) ?_ (by first | with_reducible exact hHeld | assumption) ?_; rotate_left; (focus (intro o ho; simp only [List.getElem?_toArray, List.getElem?_cons_succ, List.getElem?_cons_zero, Option.some.injEq] at ho; subst ho; intro w hSw; (try simp only [Cel] at hSw); go_simp; (try with_reducible rfl); done)))
          try simp only [Act.put, List.setIfInBounds_toArray, List.set_cons_zero, List.set_cons_succ]
          first | (refine take_w (i := 5) (d := (some 31)) (v := ?_) (by rfl) (by kernel_rfl) (by kernel_rfl) (by kernel_rfl) (fun _ _ _ h => h) (by rfl) ?_ (by first | with_reducible exact hHeld | assumption) ?_; rotate_left; (focus (intro o ho; simp only [List.getElem?_toArray, List.getElem?_cons_succ, List.getElem?_cons_zero, Option.some.injEq] at ho; subst ho; intro w hSw; (try simp only [Cel] at hSw); go_simp; (try with_reducible rfl); done)))
          try simp only [Act.put, List.setIfInBounds_toArray, List.set_cons_zero, List.set_cons_succ]
          first | (refine take_w (i := 6) (d := (some 32)) (v := ?_) (by rfl) (by kernel_rfl) (by kernel_rfl) (by kernel_rfl) (fun _ _ _ h => h) (by rfl) ?_ (by first | with_reducible exact hHeld | assumption) ?_; rotate_left; (focus (intro o ho; simp only [List.getElem?_toArray, List.getElem?_cons_succ, List.getElem?_cons_zero, Option.some.injEq] at ho; subst ho; intro w hSw; (try simp only [Cel] at hSw); go_simp; (try with_reducible rfl); done)))
          try simp only [Act.put, List.setIfInBounds_toArray, List.set_cons_zero, List.set_cons_succ]
          first | (refine take_w (i := 7) (d := (some 33)) (v := ?_) (by rfl) (by kernel_rfl) (by kernel_rfl) (by kernel_rfl) (fun _ _ _ h => h) (by rfl) ?_ (by first | with_reducible exact hHeld | assumption) ?_; rotate_left; (focus (intro o ho; simp only [List.getElem?_toArray, List.getElem?_cons_succ, List.getElem?_cons_zero, Option.some.injEq] at ho; subst ho; intro w hSw; (try simp only [Cel] at hSw); go_simp; (try with_reducible rfl); done)))
          try simp only [Act.put, List.setIfInBounds_toArray, List.set_cons_zero, List.set_cons_succ]
          first | (refine take_w (i := 8) (d := (some 34)) (v := ?_) (by rfl) (by kernel_rfl) (by kernel_rfl) (by kernel_rfl) (fun _ _ _ h => h) (by rfl) ?_ (by first | with_reducible exact hHeld | assumption) ?_; rotate_left; (focus (intro o ho; simp only [List.getElem?_toArray, List.getElem?_cons_succ, List.getElem?_cons_zero, Option.some.injEq] at ho; subst ho; intro w hSw; (try simp only [Cel] at hSw); go_simp; (try with_reducible rfl); done)))
          try simp only [Act.put, List.setIfInBounds_toArray, List.set_cons_zero, List.set_cons_succ]
          first | (refine take_w (i := 9) (d := (some 35)) (v := ?_) (by rfl) (by kernel_rfl) (by kernel_rfl) (by kernel_rfl) (fun _ _ _ h => h) (by rfl) ?_ (by first | with_reducible exact hHeld | assumption) ?_; rotate_left; (focus (intro o ho; simp only [List.getElem?_toArray, List.getElem?_cons_succ, List.getElem?_cons_zero, Option.some.injEq] at ho; subst ho; intro w hSw; (try simp only [Cel] at hSw); go_simp; (try with_reducible rfl); done)))
          try simp only [Act.put, List.setIfInBounds_toArray, List.set_cons_zero, List.set_cons_succ]
          first | (refine take_w (i := 10) (d := (some 36)) (v := ?_) (by rfl) (by kernel_rfl) (by kernel_rfl) (by kernel_rfl) (fun _ _ _ h => h) (by rfl) ?_ (by first | with_reducible exact hHeld | assumption) ?_; rotate_left; (focus (intro o ho; simp only [List.getElem?_toArray, List.getElem?_cons_succ, List.getElem?_cons_zero, Option.some.injEq] at ho; subst ho; intro w hSw; (try simp only [Cel] at hSw); go_simp; (try with_reducible rfl); done)))
          try simp only [Act.put, List.setIfInBounds_toArray, List.set_cons_zero, List.set_cons_succ]
          first | (refine take_w (i := 11) (d := (some 37)) (v := ?_) (by rfl) (by kernel_rfl) (by kernel_rfl) (by kernel_rfl) (fun _ _ _ h => h) (by rfl) ?_ (by first | with_reducible exact hHeld | assumption) ?_; rotate_left; (focus (intro o ho; simp only [List.getElem?_toArray, List.getElem?_cons_succ, List.getElem?_cons_zero, Option.some.injEq] at ho; subst ho; intro w hSw; (try simp only [Cel] at hSw); go_simp; (try with_reducible rfl); done)))
          try simp only [Act.put, List.setIfInBounds_toArray, List.set_cons_zero, List.set_cons_succ]
          first | (refine take_w (i := 12) (d := (some 38)) (v := ?_) (by rfl) (by kernel_rfl) (by kernel_rfl) (by kernel_rfl) (fun _ _ _ h => h) (by rfl) ?_ (by first | with_reducible exact hHeld | assumption) ?_; rotate_left; (focus (intro o ho; simp only [List.getElem?_toArray, List.getElem?_cons_succ, List.getElem?_cons_zero, Option.some.injEq] at ho; subst ho; intro w hSw; (try simp only [Cel] at hSw); go_simp; (try with_reducible rfl); done)))
          try simp only [Act.put, List.setIfInBounds_toArray, List.set_cons_zero, List.set_cons_succ]
          first | (refine take_w (i := 13) (d := (some 39)) (v := ?_) (by rfl) (by kernel_rfl) (by kernel_rfl) (by kernel_rfl) (fun _ _ _ h => h) (by rfl) ?_ (by first | with_reducible exact hHeld | assumption) ?_; rotate_left; (focus (intro o ho; simp only [List.getElem?_toArray, List.getElem?_cons_succ, List.getElem?_cons_zero, Option.some.injEq] at ho; subst ho; intro w hSw; (try simp only [Cel] at hSw); go_simp; (try with_reducible rfl); done)))
          try simp only [Act.put, List.setIfInBounds_toArray, List.set_cons_zero, List.set_cons_succ]
          first | (refine take_w (i := 14) (d := (some 40)) (v := ?_) (by rfl) (by kernel_rfl) (by kernel_rfl) (by kernel_rfl) (fun _ _ _ h => h) (by rfl) ?_ (by first | with_reducible exact hHeld | assumption) ?_; rotate_left; (focus (intro o ho; simp only [List.getElem?_toArray, List.getElem?_cons_succ, List.getElem?_cons_zero, Option.some.injEq] at ho; subst ho; intro w hSw; (try simp only [Cel] at hSw); go_simp; (try with_reducible rfl); done)))
          try simp only [Act.put, List.setIfInBounds_toArray, List.set_cons_zero, List.set_cons_succ]
          first | (refine take_w (i := 15) (d := (some 41)) (v := ?_) (by rfl) (by kernel_rfl) (by kernel_rfl) (by kernel_rfl) (fun _ _ _ h => h) (by rfl) ?_ (by first | with_reducible exact hHeld | assumption) ?_; rotate_left; (focus (intro o ho; simp only [List.getElem?_toArray, List.getElem?_cons_succ, List.getElem?_cons_zero, Option.some.injEq] at ho; subst ho; intro w hSw; (try simp only [Cel] at hSw); go_simp; (try with_reducible rfl); done)))
          try simp only [Act.put, List.setIfInBounds_toArray, List.set_cons_zero, List.set_cons_succ]
          first | (refine take_w (i := 16) (d := (some 42)) (v := ?_) (by rfl) (by kernel_rfl) (by kernel_rfl) (by kernel_rfl) (fun _ _ _ h => h) (by rfl) ?_ (by first | with_reducible exact hHeld | assumption) ?_; rotate_left; (focus (intro o ho; simp only [List.getElem?_toArray, List.getElem?_cons_succ, List.getElem?_cons_zero, Option.some.injEq] at ho; subst ho; intro w hSw; (try simp only [Cel] at hSw); go_simp; (try with_reducible rfl); done)))
          try simp only [Act.put, List.setIfInBounds_toArray, List.set_cons_zero, List.set_cons_succ]
          refine call_next2 (i := 17) (j := 21) (by kernel_rfl) (by rfl) (by rfl) ?_ ?_
          · intro o ho K hK
            simp only [List.getElem?_toArray, List.getElem?_cons_succ, List.getElem?_cons_zero, Option.some.injEq] at ho
            subst ho
            go_simp
            (with_reducible refine (CR.out _).mono ?_)
            rintro e' Wn1 ⟨rfl, hA⟩
            replace HS : Hid ((fun w' => Cel w' w.heap.size ⟨zk, za, zb, zd, ⟨zp, zq, ze⟩, ⟨zr, zs, zf⟩⟩ ∧ w'.cell? ⟨b, o + k * 4 + 1, none⟩ = some (.int .i64 bt) ∧ w'.cell? ⟨b, o + k * 4 + 2, none⟩ = some (.int .i64 ch) ∧ w'.cell? ⟨b, o + k * 4 + 3, none⟩ = some (.string tx)) Wn1) := ⟨HS.out.1.below hA, bkeep hA HS.out.2.1, bkeep hA HS.out.2.2.1, bkeep hA HS.out.2.2.2⟩
            replace HX := Lib.hid (HX.out.below hA)
            replace H0 := Lib.hid (H0.out.below hA)
            replace HB := Lib.hid (HB.out.trans (hA.mono HB.out.size))
            clear hA
            refine hK.out _ _ ?_ (fun hHeld => ?_)
            · exact HS.out
            clear hK K
            try simp only [Act.put, List.setIfInBounds_toArray, List.set_cons_zero, List.set_cons_succ]
            first | (refine take_w (i := 18) (d := (some 25)) (v := ?_) (by rfl) (by kernel_rfl) (by kernel_rfl) (by kernel_rfl) (fun _ _ _ h => h) (by rfl) ?_ (by first | with_reducible exact hHeld | assumption) ?_; rotate_left; (focus (intro o ho; simp only [List.getElem?_toArray, List.getElem?_cons_succ, List.getElem?_cons_zero, Option.some.injEq] at ho; subst ho; intro w hSw; (try simp only [Cel] at hSw); go_simp; (try with_reducible rfl); done)))
            try simp only [Act.put, List.setIfInBounds_toArray, List.set_cons_zero, List.set_cons_succ]
            first | (refine take_w (i := 19) (d := (some 44)) (v := ?_) (by rfl) (by kernel_rfl) (by kernel_rfl) (by kernel_rfl) (fun _ _ _ h => h) (by rfl) ?_ (by first | with_reducible exact hHeld | assumption) ?_; rotate_left; (focus (intro o ho; simp only [List.getElem?_toArray, List.getElem?_cons_succ, List.getElem?_cons_zero, Option.some.injEq] at ho; subst ho; intro w hSw; (try simp only [Cel] at hSw); go_simp; (try with_reducible rfl); done)))
            try simp only [Act.put, List.setIfInBounds_toArray, List.set_cons_zero, List.set_cons_succ]
            first | (refine take_w (i := 20) (d := (some 45)) (v := ?_) (by rfl) (by kernel_rfl) (by kernel_rfl) (by kernel_rfl) (fun _ _ _ h => h) (by rfl) ?_ (by first | with_reducible exact hHeld | assumption) ?_; rotate_left; (focus (intro o ho; simp only [List.getElem?_toArray, List.getElem?_cons_succ, List.getElem?_cons_zero, Option.some.injEq] at ho; subst ho; intro w hSw; (try simp only [Cel] at hSw); go_simp; (try with_reducible rfl); done)))
            try simp only [Act.put, List.setIfInBounds_toArray, List.set_cons_zero, List.set_cons_succ]
            refine call_next (i := 21) (by kernel_rfl) (by rfl) ?_
            intro o ho K hK
            simp only [List.getElem?_toArray, List.getElem?_cons_succ, List.getElem?_cons_zero, Option.some.injEq] at ho
            subst ho
            go_simp
            have hA := (Below.refl Wn1.heap.size Wn1).alloc (Nat.le_refl _) (.cells #[.int .i64 0, .int .i64 0, .int .i64 0, .string ⟨#[]⟩, .int .i64 0, .int .i64 0, .string ⟨#[]⟩, .int .i64 0, .int .i64 0, .string ⟨#[]⟩] 27)
            have HG := Lib.hid (Box.new Wn1 ⟨0, 0, 0, ⟨#[]⟩, ⟨0, 0, ⟨#[]⟩⟩, ⟨0, 0, ⟨#[]⟩⟩⟩ 27)
            have hgX := Lib.hid (Nat.ne_of_lt HX.out.1.lt)
            have hg0 := Lib.hid (Nat.ne_of_lt H0.out.1.lt)
            have hgB := Lib.hid HB.out.size
            have hgb : Hid (b < Wn1.heap.size) := World.block_lt_of_cell? _ _ HS.out.2.1
            replace HS : Hid ((fun w' => Cel w' w.heap.size ⟨zk, za, zb, zd, ⟨zp, zq, ze⟩, ⟨zr, zs, zf⟩⟩ ∧ w'.cell? ⟨b, o + k * 4 + 1, none⟩ = some (.int .i64 bt) ∧ w'.cell? ⟨b, o + k * 4 + 2, none⟩ = some (.int .i64 ch) ∧ w'.cell? ⟨b, o + k * 4 + 3, none⟩ = some (.string tx)) (Wn1.alloc (.cells #[.int .i64 0, .int .i64 0, .int .i64 0, .string ⟨#[]⟩, .int .i64 0, .int .i64 0, .string ⟨#[]⟩, .int .i64 0, .int .i64 0, .string ⟨#[]⟩] 27))) := ⟨HS.out.1.below hA, bkeep hA HS.out.2.1, bkeep hA HS.out.2.2.1, bkeep hA HS.out.2.2.2⟩
            replace HX := Lib.hid (HX.out.below hA)
            replace H0 := Lib.hid (H0.out.below hA)
            replace HB := Lib.hid (HB.out.trans (hA.mono HB.out.size))
            clear hA
            refine hK.out _ _ ?_ (fun hHeld => ?_)
            · exact HS.out
            clear hK K
            generalize Wn1.alloc (.cells #[.int .i64 0, .int .i64 0, .int .i64 0, .string ⟨#[]⟩, .int .i64 0, .int .i64 0, .string ⟨#[]⟩, .int .i64 0, .int .i64 0, .string ⟨#[]⟩] 27) = Wn2 at *
            generalize hgg : Wn1.heap.size = g at *
            clear hgg
            try simp only [Act.put, List.setIfInBounds_toArray, List.set_cons_zero, List.set_cons_succ]
            refine call_next (i := 22) (by kernel_rfl) (by rfl) ?_
            intro o ho K hK
            simp only [List.getElem?_toArray, List.getElem?_cons_succ, List.getElem?_cons_zero, Option.some.injEq] at ho
            subst ho
            obtain ⟨⟨z0, z1, z2, z3, z4, z5, z6, z7, z8, z9⟩, v0, v1, v2, v3, v4, v5, v6, v7, v8, v9⟩ := HG.out
            go_simp
            refine hK.out _ (put10 Wn2 g ⟨rk, ra, rb, rd, ⟨rp, rq, re⟩, ⟨rr, rs, rf⟩⟩) ?_ (fun hHeld => ?_)
            · exact ⟨HS.out.1.put_ne hgX.out _, put10_cell HS.out.2.1 (Nat.ne_of_lt hgb.out) _, put10_cell HS.out.2.2.1 (Nat.ne_of_lt hgb.out) _, put10_cell HS.out.2.2.2 (Nat.ne_of_lt hgb.out) _⟩
            clear hK K z0 z1 z2 z3 z4 z5 z6 z7 z8 z9 v0 v1 v2 v3 v4 v5 v6 v7 v8 v9
            replace HS : Hid ((fun w' => Cel w' w.heap.size ⟨zk, za, zb, zd, ⟨zp, zq, ze⟩, ⟨zr, zs, zf⟩⟩ ∧ w'.cell? ⟨b, o + k * 4 + 1, none⟩ = some (.int .i64 bt) ∧ w'.cell? ⟨b, o + k * 4 + 2, none⟩ = some (.int .i64 ch) ∧ w'.cell? ⟨b, o + k * 4 + 3, none⟩ = some (.string tx)) (put10 Wn2 g ⟨rk, ra, rb, rd, ⟨rp, rq, re⟩, ⟨rr, rs, rf⟩⟩)) := ⟨HS.out.1.put_ne hgX.out _, put10_cell HS.out.2.1 (Nat.ne_of_lt hgb.out) _, put10_cell HS.out.2.2.1 (Nat.ne_of_lt hgb.out) _, put10_cell HS.out.2.2.2 (Nat.ne_of_lt hgb.out) _⟩
            replace HX := Lib.hid (HX.out.put_ne hgX.out ⟨rk, ra, rb, rd, ⟨rp, rq, re⟩, ⟨rr, rs, rf⟩⟩)
            replace H0 := Lib.hid (H0.out.put_ne hg0.out ⟨rk, ra, rb, rd, ⟨rp, rq, re⟩, ⟨rr, rs, rf⟩⟩)
            replace HB := Lib.hid (put10_below HB.out hgB.out ⟨rk, ra, rb, rd, ⟨rp, rq, re⟩, ⟨rr, rs, rf⟩⟩)
            replace HG := Lib.hid (HG.out.put ⟨rk, ra, rb, rd, ⟨rp, rq, re⟩, ⟨rr, rs, rf⟩⟩)
            generalize put10 Wn2 g ⟨rk, ra, rb, rd, ⟨rp, rq, re⟩, ⟨rr, rs, rf⟩⟩ = Wp at *
            try simp only [Act.put, List.setIfInBounds_toArray, List.set_cons_zero, List.set_cons_succ]
            first | (refine take_w (i := 23) (d := (some 11)) (v := ?_) (by rfl) (by kernel_rfl) (by kernel_rfl) (by kernel_rfl) (fun _ _ _ h => h) (by rfl) ?_ (by first | with_reducible exact hHeld | assumption) ?_; rotate_left; (focus (intro o ho; simp only [List.getElem?_toArray, List.getElem?_cons_succ, List.getElem?_cons_zero, Option.some.injEq] at ho; subst ho; intro w hSw; (try simp only [Cel] at hSw); go_simp; (try with_reducible rfl); done)))
            try simp only [Act.put, List.setIfInBounds_toArray, List.set_cons_zero, List.set_cons_succ]
            refine wpAnyH_done (by kernel_rfl) ?_ _
            go_wp2_with fail
            go_meet
            exact ⟨g, rfl, rfl, HG.out, HX.out, H0.out, HS.out.2, ⟨hgX.out, hg0.out, hgB.out, hgb.out⟩, HB.out⟩
          · intro o ho K hK
            simp only [List.getElem?_toArray, List.getElem?_cons_succ, List.getElem?_cons_zero, Option.some.injEq] at ho
            subst ho
            go_simp
            have hA := (Below.refl Wd.heap.size Wd).alloc (Nat.le_refl _) (.cells #[.int .i64 0, .int .i64 0, .int .i64 0, .string ⟨#[]⟩, .int .i64 0, .int .i64 0, .string ⟨#[]⟩, .int .i64 0, .int .i64 0, .string ⟨#[]⟩] 27)
            have HG := Lib.hid (Box.new Wd ⟨0, 0, 0, ⟨#[]⟩, ⟨0, 0, ⟨#[]⟩⟩, ⟨0, 0, ⟨#[]⟩⟩⟩ 27)
            have hgX := Lib.hid (Nat.ne_of_lt HX.out.1.lt)
            have hg0 := Lib.hid (Nat.ne_of_lt H0.out.1.lt)
            have hgB := Lib.hid HB.out.size
            have hgb : Hid (b < Wd.heap.size) := World.block_lt_of_cell? _ _ HS.out.2.1
            replace HS : Hid ((fun w' => Cel w' w.heap.size ⟨zk, za, zb, zd, ⟨zp, zq, ze⟩, ⟨zr, zs, zf⟩⟩ ∧ w'.cell? ⟨b, o + k * 4 + 1, none⟩ = some (.int .i64 bt) ∧ w'.cell? ⟨b, o + k * 4 + 2, none⟩ = some (.int .i64 ch) ∧ w'.cell? ⟨b, o + k * 4 + 3, none⟩ = some (.string tx)) (Wd.alloc (.cells #[.int .i64 0, .int .i64 0, .int .i64 0, .string ⟨#[]⟩, .int .i64 0, .int .i64 0, .string ⟨#[]⟩, .int .i64 0, .int .i64 0, .string ⟨#[]⟩] 27))) := ⟨HS.out.1.below hA, bkeep hA HS.out.2.1, bkeep hA HS.out.2.2.1, bkeep hA HS.out.2.2.2⟩
            replace HX := Lib.hid (HX.out.below hA)
            replace H0 := Lib.hid (H0.out.below hA)
            replace HB := Lib.hid (HB.out.trans (hA.mono HB.out.size))
            clear hA
            refine hK.out _ _ ?_ (fun hHeld => ?_)
            · exact HS.out
            clear hK K
            generalize Wd.alloc (.cells #[.int .i64 0, .int .i64 0, .int .i64 0, .string ⟨#[]⟩, .int .i64 0, .int .i64 0, .string ⟨#[]⟩, .int .i64 0, .int .i64 0, .string ⟨#[]⟩] 27) = Wn1 at *
            generalize hgg : Wd.heap.size = g at *
            clear hgg
            try simp only [Act.put, List.setIfInBounds_toArray, List.set_cons_zero, List.set_cons_succ]
            refine call_next (i := 17) (by kernel_rfl) (by rfl) ?_
            intro o ho K hK
            simp only [List.getElem?_toArray, List.getElem?_cons_succ, List.getElem?_cons_zero, Option.some.injEq] at ho
            subst ho
            go_simp
            (with_reducible refine (CR.out _).mono ?_)
            rintro e' Wn2 ⟨rfl, hA⟩
            replace HS : Hid ((fun w' => Cel w' w.heap.size ⟨zk, za, zb, zd, ⟨zp, zq, ze⟩, ⟨zr, zs, zf⟩⟩ ∧ w'.cell? ⟨b, o + k * 4 + 1, none⟩ = some (.int .i64 bt) ∧ w'.cell? ⟨b, o + k * 4 + 2, none⟩ = some (.int .i64 ch) ∧ w'.cell? ⟨b, o + k * 4 + 3, none⟩ = some (.string tx)) Wn2) := ⟨HS.out.1.below hA, bkeep hA HS.out.2.1, bkeep hA HS.out.2.2.1, bkeep hA HS.out.2.2.2⟩
            replace HX := Lib.hid (HX.out.below hA)
            replace H0 := Lib.hid (H0.out.below hA)
            replace HG := Lib.hid (HG.out.below hA)
            replace HB := Lib.hid (HB.out.trans (hA.mono HB.out.size))
            clear hA
            refine hK.out _ _ ?_ (fun hHeld => ?_)
            · exact HS.out
            clear hK K
            try simp only [Act.put, List.setIfInBounds_toArray, List.set_cons_zero, List.set_cons_succ]
            first | (refine take_w (i := 18) (d := (some 25)) (v := ?_) (by rfl) (by kernel_rfl) (by kernel_rfl) (by kernel_rfl) (fun _ _ _ h => h) (by rfl) ?_ (by first | with_reducible exact hHeld | assumption) ?_; rotate_left; (focus (intro o ho; simp only [List.getElem?_toArray, List.getElem?_cons_succ, List.getElem?_cons_zero, Option.some.injEq] at ho; subst ho; intro w hSw; (try simp only [Cel] at hSw); go_simp; (try with_reducible rfl); done)))
            try simp only [Act.put, List.setIfInBounds_toArray, List.set_cons_zero, List.set_cons_succ]
            first | (refine take_w (i := 19) (d := (some 44)) (v := ?_) (by rfl) (by kernel_rfl) (by kernel_rfl) (by kernel_rfl) (fun _ _ _ h => h) (by rfl) ?_ (by first | with_reducible exact hHeld | assumption) ?_; rotate_left; (focus (intro o ho; simp only [List.getElem?_toArray, List.getElem?_cons_succ, List.getElem?_cons_zero, Option.some.injEq] at ho; subst ho; intro w hSw; (try simp only [Cel] at hSw); go_simp; (try with_reducible rfl); done)))
            try simp only [Act.put, List.setIfInBounds_toArray, List.set_cons_zero, List.set_cons_succ]
            first | (refine take_w (i := 20) (d := (some 45)) (v := ?_) (by rfl) (by kernel_rfl) (by kernel_rfl) (by kernel_rfl) (fun _ _ _ h => h) (by rfl) ?_ (by first | with_reducible exact hHeld | assumption) ?_; rotate_left; (focus (intro o ho; simp only [List.getElem?_toArray, List.getElem?_cons_succ, List.getElem?_cons_zero, Option.some.injEq] at ho; subst ho; intro w hSw; (try simp only [Cel] at hSw); go_simp; (try with_reducible rfl); done)))
            try simp only [Act.put, List.setIfInBounds_toArray, List.set_cons_zero, List.set_cons_succ]
            refine call_next (i := 22) (by kernel_rfl) (by rfl) ?_
            intro o ho K hK
            simp only [List.getElem?_toArray, List.getElem?_cons_succ, List.getElem?_cons_zero, Option.some.injEq] at ho
            subst ho
            obtain ⟨⟨z0, z1, z2, z3, z4, z5, z6, z7, z8, z9⟩, v0, v1, v2, v3, v4, v5, v6, v7, v8, v9⟩ := HG.out
            go_simp
            refine hK.out _ (put10 Wn2 g ⟨rk, ra, rb, rd, ⟨rp, rq, re⟩, ⟨rr, rs, rf⟩⟩) ?_ (fun hHeld => ?_)
            · exact ⟨HS.out.1.put_ne hgX.out _, put10_cell HS.out.2.1 (Nat.ne_of_lt hgb.out) _, put10_cell HS.out.2.2.1 (Nat.ne_of_lt hgb.out) _, put10_cell HS.out.2.2.2 (Nat.ne_of_lt hgb.out) _⟩
            clear hK K z0 z1 z2 z3 z4 z5 z6 z7 z8 z9 v0 v1 v2 v3 v4 v5 v6 v7 v8 v9
            replace HS : Hid ((fun w' => Cel w' w.heap.size ⟨zk, za, zb, zd, ⟨zp, zq, ze⟩, ⟨zr, zs, zf⟩⟩ ∧ w'.cell? ⟨b, o + k * 4 + 1, none⟩ = some (.int .i64 bt) ∧ w'.cell? ⟨b, o + k * 4 + 2, none⟩ = some (.int .i64 ch) ∧ w'.cell? ⟨b, o + k * 4 + 3, none⟩ = some (.string tx)) (put10 Wn2 g ⟨rk, ra, rb, rd, ⟨rp, rq, re⟩, ⟨rr, rs, rf⟩⟩)) := ⟨HS.out.1.put_ne hgX.out _, put10_cell HS.out.2.1 (Nat.ne_of_lt hgb.out) _, put10_cell HS.out.2.2.1 (Nat.ne_of_lt hgb.out) _, put10_cell HS.out.2.2.2 (Nat.ne_of_lt hgb.out) _⟩
            replace HX := Lib.hid (HX.out.put_ne hgX.out ⟨rk, ra, rb, rd, ⟨rp, rq, re⟩, ⟨rr, rs, rf⟩⟩)
            replace H0 := Lib.hid (H0.out.put_ne hg0.out ⟨rk, ra, rb, rd, ⟨rp, rq, re⟩, ⟨rr, rs, rf⟩⟩)
            replace HB := Lib.hid (put10_below HB.out hgB.out ⟨rk, ra, rb, rd, ⟨rp, rq, re⟩, ⟨rr, rs, rf⟩⟩)
            replace HG := Lib.hid (HG.out.put ⟨rk, ra, rb, rd, ⟨rp, rq, re⟩, ⟨rr, rs, rf⟩⟩)
            generalize put10 Wn2 g ⟨rk, ra, rb, rd, ⟨rp, rq, re⟩, ⟨rr, rs, rf⟩⟩ = Wp at *
            try simp only [Act.put, List.setIfInBounds_toArray, List.set_cons_zero, List.set_cons_succ]
            first | (refine take_w (i := 23) (d := (some 11)) (v := ?_) (by rfl) (by kernel_rfl) (by kernel_rfl) (by kernel_rfl) (fun _ _ _ h => h) (by rfl) ?_ (by first | with_reducible exact hHeld | assumption) ?_; rotate_left; (focus (intro o ho; simp only [List.getElem?_toArray, List.getElem?_cons_succ, List.getElem?_cons_zero, Option.some.injEq] at ho; subst ho; intro w hSw; (try simp only [Cel] at hSw); go_simp; (try with_reducible rfl); done)))
            try simp only [Act.put, List.setIfInBounds_toArray, List.set_cons_zero, List.set_cons_succ]
            refine wpAnyH_done (by kernel_rfl) ?_ _
            go_wp2_with fail
            go_meet
            exact ⟨g, rfl, rfl, HG.out, HX.out, H0.out, HS.out.2, ⟨hgX.out, hg0.out, hgB.out, hgb.out⟩, HB.out⟩
        case rest =>
          obtain ⟨g, rfl, rfl, HG, HX, H0, HE, HN, HB⟩ := hcut
          have q2 := HE.out.2.1
          by_cases hc3 : ch = 3
          · have hcb : (ch == 3) = true := beq_iff_eq.2 hc3
            have HC3 := Lib.hid hc3
            clear hc3
            go_wp2_with fail
            clear q2
            obtain ⟨E3, hE3⟩ : ∃ E, wrE ⟨zk, za, zb, zd, ⟨zp, zq, ze⟩, ⟨zr, zs, zf⟩⟩ node bt tx = E := ⟨_, rfl⟩
            obtain ⟨⟨vk, va, vb, vd, ⟨vp, vq, ve⟩, ⟨vr, vs, vf⟩⟩, hV⟩ : ∃ E, wrS ⟨zk, za, zb, zd, ⟨zp, zq, ze⟩, ⟨zr, zs, zf⟩⟩ node bt tx = E := ⟨_, rfl⟩
            have CW := Lib.hid (fun w => wr_at' hV hE3 w)
            have HS : Hid ((fun w' => Cel w' w.heap.size ⟨zk, za, zb, zd, ⟨zp, zq, ze⟩, ⟨zr, zs, zf⟩⟩ ∧ w'.cell? ⟨b, o + k * 4 + 1, none⟩ = some (.int .i64 bt) ∧ w'.cell? ⟨b, o + k * 4 + 2, none⟩ = some (.int .i64 ch) ∧ w'.cell? ⟨b, o + k * 4 + 3, none⟩ = some (.string tx)) wc.drew) := ⟨HX.out.1, HE.out.1, HE.out.2.1, HE.out.2.2⟩
            replace HX := Lib.hid HX.out.drew
            replace H0 := Lib.hid H0.out.drew
            replace HB := Lib.hid HB.out.drew
            replace HG := Lib.hid HG.out.drew
            have hgX := Lib.hid HN.out.1
            have hg0 := Lib.hid HN.out.2.1
            have hgB := Lib.hid HN.out.2.2.1
            have hgb := Lib.hid HN.out.2.2.2
            refine wp_region_held_drew (S := (fun w' => Cel w' w.heap.size ⟨zk, za, zb, zd, ⟨zp, zq, ze⟩, ⟨zr, zs, zf⟩⟩ ∧ w'.cell? ⟨b, o + k * 4 + 1, none⟩ = some (.int .i64 bt) ∧ w'.cell? ⟨b, o + k * 4 + 2, none⟩ = some (.int .i64 ch) ∧ w'.cell? ⟨b, o + k * 4 + 3, none⟩ = some (.string tx))) (by kernel_rfl) ?_ (fun hHeld => ?_)
            · exact HS.out
            generalize wc.drew = Wd at *
            first | (refine take_w (i := 0) (d := (some 53)) (v := ?_) (by rfl) (by kernel_rfl) (by kernel_rfl) (by kernel_rfl) (fun _ _ _ h => h) (by rfl) ?_ (by first | with_reducible exact hHeld | assumption) ?_; rotate_left; (focus (intro o ho; simp only [List.getElem?_toArray, List.getElem?_cons_succ, List.getElem?_cons_zero, Option.some.injEq] at ho; subst ho; intro w hSw; (try simp only [Cel] at hSw); go_simp; (try with_reducible rfl); done)))
            try simp only [Act.put, List.setIfInBounds_toArray, List.set_cons_zero, List.set_cons_succ]
            first | (refine take_w (i := 1) (d := (some 54)) (v := ?_) (by rfl) (by kernel_rfl) (by kernel_rfl) (by kernel_rfl) (fun _ _ _ h => h) (by rfl) ?_ (by first | with_reducible exact hHeld | assumption) ?_; rotate_left; (focus (intro o ho; simp only [List.getElem?_toArray, List.getElem?_cons_succ, List.getElem?_cons_zero, Option.some.injEq] at ho; subst ho; intro w hSw; (try simp only [Cel] at hSw); go_simp; (try with_reducible rfl); done)))
            try simp only [Act.put, List.setIfInBounds_toArray, List.set_cons_zero, List.set_cons_succ]
            first | (refine take_w (i := 2) (d := (some 55)) (v := ?_) (by rfl) (by kernel_rfl) (by kernel_rfl) (by kernel_rfl) (fun _ _ _ h => h) (by rfl) ?_ (by first | with_reducible exact hHeld | assumption) ?_; rotate_left; (focus (intro o ho; simp only [List.getElem?_toArray, List.getElem?_cons_succ, List.getElem?_cons_zero, Option.some.injEq] at ho; subst ho; intro w hSw; (try simp only [Cel] at hSw); go_simp; (try with_reducible rfl); done)))
            try simp only [Act.put, List.setIfInBounds_toArray, List.set_cons_zero, List.set_cons_succ]
            first | (refine take_w (i := 3) (d := (some 56)) (v := ?_) (by rfl) (by kernel_rfl) (by kernel_rfl) (by kernel_rfl) (fun _ _ _ h => h) (by rfl) ?_ (by first | with_reducible exact hHeld | assumption) ?_; rotate_left; (focus (intro o ho; simp only [List.getElem?_toArray, List.getElem?_cons_succ, List.getElem?_cons_zero, Option.some.injEq] at ho; subst ho; intro w hSw; (try simp only [Cel] at hSw); go_simp; (try with_reducible rfl); done)))
            try simp only [Act.put, List.setIfInBounds_toArray, List.set_cons_zero, List.set_cons_succ]
            first | (refine take_w (i := 4) (d := (some 57)) (v := ?_) (by rfl) (by kernel_rfl) (by kernel_rfl) (by kernel_rfl) (fun _ _ _ h => h) (by rfl) ?_ (by first | with_reducible exact hHeld | assumption) ?_; rotate_left; (focus (intro o ho; simp only [List.getElem?_toArray, List.getElem?_cons_succ, List.getElem?_cons_zero, Option.some.injEq] at ho; subst ho; intro w hSw; (try simp only [Cel] at hSw); go_simp; (try with_reducible rfl); done)))
            try simp only [Act.put, List.setIfInBounds_toArray, List.set_cons_zero, List.set_cons_succ]
            first | (refine take_w (i := 5) (d := (some 58)) (v := ?_) (by rfl) (by kernel_rfl) (by kernel_rfl) (by kernel_rfl) (fun _ _ _ h => h) (by rfl) ?_ (by first | with_reducible exact hHeld | assumption) ?_; rotate_left; (focus (intro o ho; simp only [List.getElem?_toArray, List.getElem?_cons_succ, List.getElem?_cons_zero, Option.some.injEq] at ho; subst ho; intro w hSw; (try simp only [Cel] at hSw); go_simp; (try with_reducible rfl); done)))
            try simp only [Act.put, List.setIfInBounds_toArray, List.set_cons_zero, List.set_cons_succ]
            first | (refine take_w (i := 6) (d := (some 59)) (v := ?_) (by rfl) (by kernel_rfl) (by kernel_rfl) (by kernel_rfl) (fun _ _ _ h => h) (by rfl) ?_ (by first | with_reducible exact hHeld | assumption) ?_; rotate_left; (focus (intro o ho; simp only [List.getElem?_toArray, List.getElem?_cons_succ, List.getElem?_cons_zero, Option.some.injEq] at ho; subst ho; intro w hSw; (try simp only [Cel] at hSw); go_simp; (try with_reducible rfl); done)))
            try simp only [Act.put, List.setIfInBounds_toArray, List.set_cons_zero, List.set_cons_succ]
            first | (refine take_w (i := 7) (d := (some 60)) (v := ?_) (by rfl) (by kernel_rfl) (by kernel_rfl) (by kernel_rfl) (fun _ _ _ h => h) (by rfl) ?_ (by first | with_reducible exact hHeld | assumption) ?_; rotate_left; (focus (intro o ho; simp only [List.getElem?_toArray, List.getElem?_cons_succ, List.getElem?_cons_zero, Option.some.injEq] at ho; subst ho; intro w hSw; (try simp only [Cel] at hSw); go_simp; (try with_reducible rfl); done)))
            try simp only [Act.put, List.setIfInBounds_toArray, List.set_cons_zero, List.set_cons_succ]
            first | (refine take_w (i := 8) (d := (some 61)) (v := ?_) (by rfl) (by kernel_rfl) (by kernel_rfl) (by kernel_rfl) (fun _ _ _ h => h) (by rfl) ?_ (by first | with_reducible exact hHeld | assumption) ?_; rotate_left; (focus (intro o ho; simp only [List.getElem?_toArray, List.getElem?_cons_succ, List.getElem?_cons_zero, Option.some.injEq] at ho; subst ho; intro w hSw; (try simp only [Cel] at hSw); go_simp; (try with_reducible rfl); done)))
            try simp only [Act.put, List.setIfInBounds_toArray, List.set_cons_zero, List.set_cons_succ]
            first | (refine take_w (i := 9) (d := (some 62)) (v := ?_) (by rfl) (by kernel_rfl) (by kernel_rfl) (by kernel_rfl) (fun _ _ _ h => h) (by rfl) ?_ (by first | with_reducible exact hHeld | assumption) ?_; rotate_left; (focus (intro o ho; simp only [List.getElem?_toArray, List.getElem?_cons_succ, List.getElem?_cons_zero, Option.some.injEq] at ho; subst ho; intro w hSw; (try simp only [Cel] at hSw); go_simp; (try with_reducible rfl); done)))
            try simp only [Act.put, List.setIfInBounds_toArray, List.set_cons_zero, List.set_cons_succ]
            first | (refine take_w (i := 10) (d := (some 63)) (v := ?_) (by rfl) (by kernel_rfl) (by kernel_rfl) (by kernel_rfl) (fun _ _ _ h => h) (by rfl) ?_ (by first | with_reducible exact hHeld | assumption) ?_; rotate_left; (focus (intro o ho; simp only [List.getElem?_toArray, List.getElem?_cons_succ, List.getElem?_cons_zero, Option.some.injEq] at ho; subst ho; intro w hSw; (try simp only [Cel] at hSw); go_simp; (try with_reducible rfl); done)))
            try simp only [Act.put, List.setIfInBounds_toArray, List.set_cons_zero, List.set_cons_succ]
            first | (refine take_w (i := 11) (d := (some 64)) (v := ?_) (by rfl) (by kernel_rfl) (by kernel_rfl) (by kernel_rfl) (fun _ _ _ h => h) (by rfl) ?_ (by first | with_reducible exact hHeld | assumption) ?_; rotate_left; (focus (intro o ho; simp only [List.getElem?_toArray, List.getElem?_cons_succ, List.getElem?_cons_zero, Option.some.injEq] at ho; subst ho; intro w hSw; (try simp only [Cel] at hSw); go_simp; (try with_reducible rfl); done)))
            try simp only [Act.put, List.setIfInBounds_toArray, List.set_cons_zero, List.set_cons_succ]
            refine call_next (i := 12) (by kernel_rfl) (by rfl) ?_
            intro o ho K hK
            simp only [List.getElem?_toArray, List.getElem?_cons_succ, List.getElem?_cons_zero, Option.some.injEq] at ho
            subst ho
            go_simp
            (with_reducible refine (CW.out _).mono ?_)
            rintro e' Wn1 ⟨rfl, hA⟩
            replace HS : Hid ((fun w' => Cel w' w.heap.size ⟨zk, za, zb, zd, ⟨zp, zq, ze⟩, ⟨zr, zs, zf⟩⟩ ∧ w'.cell? ⟨b, o + k * 4 + 1, none⟩ = some (.int .i64 bt) ∧ w'.cell? ⟨b, o + k * 4 + 2, none⟩ = some (.int .i64 ch) ∧ w'.cell? ⟨b, o + k * 4 + 3, none⟩ = some (.string tx)) Wn1) := ⟨HS.out.1.below hA, bkeep hA HS.out.2.1, bkeep hA HS.out.2.2.1, bkeep hA HS.out.2.2.2⟩
            replace HX := Lib.hid (HX.out.below hA)
            replace H0 := Lib.hid (H0.out.below hA)
            replace HG := Lib.hid (HG.out.below hA)
            replace HB := Lib.hid (HB.out.trans (hA.mono HB.out.size))
            clear hA
            refine hK.out _ _ ?_ (fun hHeld => ?_)
            · exact HS.out
            clear hK K
            try simp only [Act.put, List.setIfInBounds_toArray, List.set_cons_zero, List.set_cons_succ]
            first | (refine take_w (i := 13) (d := (some 52)) (v := ?_) (by rfl) (by kernel_rfl) (by kernel_rfl) (by kernel_rfl) (fun _ _ _ h => h) (by rfl) ?_ (by first | with_reducible exact hHeld | assumption) ?_; rotate_left; (focus (intro o ho; simp only [List.getElem?_toArray, List.getElem?_cons_succ, List.getElem?_cons_zero, Option.some.injEq] at ho; subst ho; intro w hSw; (try simp only [Cel] at hSw); go_simp; (try with_reducible rfl); done)))
            try simp only [Act.put, List.setIfInBounds_toArray, List.set_cons_zero, List.set_cons_succ]
            first | (refine take_w (i := 14) (d := (some 66)) (v := ?_) (by rfl) (by kernel_rfl) (by kernel_rfl) (by kernel_rfl) (fun _ _ _ h => h) (by rfl) ?_ (by first | with_reducible exact hHeld | assumption) ?_; rotate_left; (focus (intro o ho; simp only [List.getElem?_toArray, List.getElem?_cons_succ, List.getElem?_cons_zero, Option.some.injEq] at ho; subst ho; intro w hSw; (try simp only [Cel] at hSw); go_simp; (try with_reducible rfl); done)))
            try simp only [Act.put, List.setIfInBounds_toArray, List.set_cons_zero, List.set_cons_succ]
            first | (refine take_w (i := 15) (d := (some 67)) (v := ?_) (by rfl) (by kernel_rfl) (by kernel_rfl) (by kernel_rfl) (fun _ _ _ h => h) (by rfl) ?_ (by first | with_reducible exact hHeld | assumption) ?_; rotate_left; (focus (intro o ho; simp only [List.getElem?_toArray, List.getElem?_cons_succ, List.getElem?_cons_zero, Option.some.injEq] at ho; subst ho; intro w hSw; (try simp only [Cel] at hSw); go_simp; (try with_reducible rfl); done)))
            try simp only [Act.put, List.setIfInBounds_toArray, List.set_cons_zero, List.set_cons_succ]
            refine call_next (i := 16) (by kernel_rfl) (by rfl) ?_
            intro o ho K hK
            simp only [List.getElem?_toArray, List.getElem?_cons_succ, List.getElem?_cons_zero, Option.some.injEq] at ho
            subst ho
            obtain ⟨⟨z0, z1, z2, z3, z4, z5, z6, z7, z8, z9⟩, v0, v1, v2, v3, v4, v5, v6, v7, v8, v9⟩ := HG.out
            go_simp
            refine hK.out _ (put10 Wn1 g ⟨vk, va, vb, vd, ⟨vp, vq, ve⟩, ⟨vr, vs, vf⟩⟩) ?_ (fun hHeld => ?_)
            · exact ⟨HS.out.1.put_ne hgX.out _, put10_cell HS.out.2.1 (Nat.ne_of_lt hgb.out) _, put10_cell HS.out.2.2.1 (Nat.ne_of_lt hgb.out) _, put10_cell HS.out.2.2.2 (Nat.ne_of_lt hgb.out) _⟩
            clear hK K z0 z1 z2 z3 z4 z5 z6 z7 z8 z9 v0 v1 v2 v3 v4 v5 v6 v7 v8 v9
            replace HS : Hid ((fun w' => Cel w' w.heap.size ⟨zk, za, zb, zd, ⟨zp, zq, ze⟩, ⟨zr, zs, zf⟩⟩ ∧ w'.cell? ⟨b, o + k * 4 + 1, none⟩ = some (.int .i64 bt) ∧ w'.cell? ⟨b, o + k * 4 + 2, none⟩ = some (.int .i64 ch) ∧ w'.cell? ⟨b, o + k * 4 + 3, none⟩ = some (.string tx)) (put10 Wn1 g ⟨vk, va, vb, vd, ⟨vp, vq, ve⟩, ⟨vr, vs, vf⟩⟩)) := ⟨HS.out.1.put_ne hgX.out _, put10_cell HS.out.2.1 (Nat.ne_of_lt hgb.out) _, put10_cell HS.out.2.2.1 (Nat.ne_of_lt hgb.out) _, put10_cell HS.out.2.2.2 (Nat.ne_of_lt hgb.out) _⟩
            replace HX := Lib.hid (HX.out.put_ne hgX.out ⟨vk, va, vb, vd, ⟨vp, vq, ve⟩, ⟨vr, vs, vf⟩⟩)
            replace H0 := Lib.hid (H0.out.put_ne hg0.out ⟨vk, va, vb, vd, ⟨vp, vq, ve⟩, ⟨vr, vs, vf⟩⟩)
            replace HB := Lib.hid (put10_below HB.out hgB.out ⟨vk, va, vb, vd, ⟨vp, vq, ve⟩, ⟨vr, vs, vf⟩⟩)
            replace HG := Lib.hid (HG.out.put ⟨vk, va, vb, vd, ⟨vp, vq, ve⟩, ⟨vr, vs, vf⟩⟩)
            generalize put10 Wn1 g ⟨vk, va, vb, vd, ⟨vp, vq, ve⟩, ⟨vr, vs, vf⟩⟩ = Wp at *
            try simp only [Act.put, List.setIfInBounds_toArray, List.set_cons_zero, List.set_cons_succ]
            first | (refine take_w (i := 17) (d := (some 11)) (v := ?_) (by rfl) (by kernel_rfl) (by kernel_rfl) (by kernel_rfl) (fun _ _ _ h => h) (by rfl) ?_ (by first | with_reducible exact hHeld | assumption) ?_; rotate_left; (focus (intro o ho; simp only [List.getElem?_toArray, List.getElem?_cons_succ, List.getElem?_cons_zero, Option.some.injEq] at ho; subst ho; intro w hSw; (try simp only [Cel] at hSw); go_simp; (try with_reducible rfl); done)))
            try simp only [Act.put, List.setIfInBounds_toArray, List.set_cons_zero, List.set_cons_succ]
            refine wpAnyH_done (by kernel_rfl) ?_ _
            clear HS hHeld
            have hst := Lib.hid (show stE ⟨zk, za, zb, zd, ⟨zp, zq, ze⟩, ⟨zr, zs, zf⟩⟩ node ⟨nd, bt, ch, tx⟩ = E3 by unfold stE; exact (if_pos HC3.out).trans hE3)
            have hsS := Lib.hid (show stS ⟨zk, za, zb, zd, ⟨zp, zq, ze⟩, ⟨zr, zs, zf⟩⟩ node ⟨nd, bt, ch, tx⟩ = ⟨vk, va, vb, vd, ⟨vp, vq, ve⟩, ⟨vr, vs, vf⟩⟩ by unfold stS; exact (if_pos HC3.out).trans hV)
            by_cases h0 : E3 = 0
            · have hc : Hid (chg node (⟨zk, za, zb, zd, ⟨zp, zq, ze⟩, ⟨zr, zs, zf⟩⟩, zn) ⟨nd, bt, ch, tx⟩ = (⟨vk, va, vb, vd, ⟨vp, vq, ve⟩, ⟨vr, vs, vf⟩⟩, zn + 1)) := by show _ = _; unfold chg; rw [if_neg hbig, if_pos (hst.out.trans h0), hsS.out]
              subst h0
              obtain ⟨⟨c0, c1, c2, c3, c4, c5, c6, c7, c8, c9⟩, x0, x1, x2, x3, x4, x5, x6, x7, x8, x9⟩ := id HX.out
              obtain ⟨u0, u1, u2, u3, u4, u5, u6, u7, u8, u9⟩ := id HG.out.1
              have hzn1 : (zn : Int) + 1 ≤ 9223372036854775807 := by omega
              go_wp2
              exact ⟨⟨k + 1, by omega, by go_num, by rw [HT.out, hc.out]; simp, by rw [HT.out, hc.out]; exact HX.out.put ⟨vk, va, vb, vd, ⟨vp, vq, ve⟩, ⟨vr, vs, vf⟩⟩, H0.out.put_ne (by omega) ⟨vk, va, vb, vd, ⟨vp, vq, ve⟩, ⟨vr, vs, vf⟩⟩, put10_below HB.out (Nat.le_refl _) ⟨vk, va, vb, vd, ⟨vp, vq, ve⟩, ⟨vr, vs, vf⟩⟩⟩, by simp [intOf]; omega⟩
            · have hc : Hid (chg node (⟨zk, za, zb, zd, ⟨zp, zq, ze⟩, ⟨zr, zs, zf⟩⟩, zn) ⟨nd, bt, ch, tx⟩ = (⟨zk, za, zb, zd, ⟨zp, zq, ze⟩, ⟨zr, zs, zf⟩⟩, zn)) := by show _ = _; unfold chg; rw [if_neg hbig, if_neg (fun h => h0 (hst.out.symm.trans h))]
              have hne : (E3 == 0) = false := beq_eq_false_iff_ne.2 h0
              clear h0
              go_wp2
              exact ⟨⟨k + 1, by omega, by go_num, by rw [HT.out, hc.out], by rw [HT.out, hc.out]; exact HX.out, H0.out, HB.out⟩, by simp [intOf]; omega⟩
          · have hcb : (ch == 3) = false := beq_eq_false_iff_ne.2 hc3
            have HC3 := Lib.hid hc3
            clear hc3
            have hst := Lib.hid (show stE ⟨zk, za, zb, zd, ⟨zp, zq, ze⟩, ⟨zr, zs, zf⟩⟩ node ⟨nd, bt, ch, tx⟩ = E2 by unfold stE; exact (if_neg HC3.out).trans hE2)
            have hsS := Lib.hid (show stS ⟨zk, za, zb, zd, ⟨zp, zq, ze⟩, ⟨zr, zs, zf⟩⟩ node ⟨nd, bt, ch, tx⟩ = ⟨rk, ra, rb, rd, ⟨rp, rq, re⟩, ⟨rr, rs, rf⟩⟩ by unfold stS; exact (if_neg HC3.out).trans hR)
            by_cases h0 : E2 = 0
            · have hc : Hid (chg node (⟨zk, za, zb, zd, ⟨zp, zq, ze⟩, ⟨zr, zs, zf⟩⟩, zn) ⟨nd, bt, ch, tx⟩ = (⟨rk, ra, rb, rd, ⟨rp, rq, re⟩, ⟨rr, rs, rf⟩⟩, zn + 1)) := by show _ = _; unfold chg; rw [if_neg hbig, if_pos (hst.out.trans h0), hsS.out]
              subst h0
              obtain ⟨⟨c0, c1, c2, c3, c4, c5, c6, c7, c8, c9⟩, x0, x1, x2, x3, x4, x5, x6, x7, x8, x9⟩ := id HX.out
              obtain ⟨u0, u1, u2, u3, u4, u5, u6, u7, u8, u9⟩ := id HG.out.1
              have hzn1 : (zn : Int) + 1 ≤ 9223372036854775807 := by omega
              go_wp2
              exact ⟨⟨k + 1, by omega, by go_num, by rw [HT.out, hc.out]; simp, by rw [HT.out, hc.out]; exact HX.out.put ⟨rk, ra, rb, rd, ⟨rp, rq, re⟩, ⟨rr, rs, rf⟩⟩, H0.out.put_ne (by omega) ⟨rk, ra, rb, rd, ⟨rp, rq, re⟩, ⟨rr, rs, rf⟩⟩, put10_below HB.out (Nat.le_refl _) ⟨rk, ra, rb, rd, ⟨rp, rq, re⟩, ⟨rr, rs, rf⟩⟩⟩, by simp [intOf]; omega⟩
            · have hc : Hid (chg node (⟨zk, za, zb, zd, ⟨zp, zq, ze⟩, ⟨zr, zs, zf⟩⟩, zn) ⟨nd, bt, ch, tx⟩ = (⟨zk, za, zb, zd, ⟨zp, zq, ze⟩, ⟨zr, zs, zf⟩⟩, zn)) := by show _ = _; unfold chg; rw [if_neg hbig, if_neg (fun h => h0 (hst.out.symm.trans h))]
              have hne : (E2 == 0) = false := beq_eq_false_iff_ne.2 h0
              clear h0
              go_wp2
              exact ⟨⟨k + 1, by omega, by go_num, by rw [HT.out, hc.out], by rw [HT.out, hc.out]; exact HX.out, H0.out, HB.out⟩, by simp [intOf]; omega⟩
    · have hkl : k = len := by omega
      subst hkl
      have hlt2 : l.take l.length = l := List.take_of_length_le (Nat.le_refl _)
      rw [← hsz, hlt2] at HX
      rw [← hsz, hlt2]
      obtain ⟨⟨c0, c1, c2, c3, c4, c5, c6, c7, c8, c9⟩, x0, x1, x2, x3, x4, x5, x6, x7, x8, x9⟩ := id HX.out
      obtain ⟨⟨g0, g1, g2, g3, g4, g5, g6, g7, g8, g9⟩, v0, v1, v2, v3, v4, v5, v6, v7, v8, v9⟩ := id H0.out
      go_wp2
      exact bodyPost_ret (v := .tuple #[(chgs node x l).1.v, .int .i64 ((chgs node x l).2 : Nat)]) (by simp [results, Try.results19, go_sem, g0, g1, g2, g3, g4, g5, g6, g7, g8, g9]) rfl ⟨rfl, put10_below HB.out (by omega) (chgs node x l).1⟩
end Go.Proofs.Ytingeahkndingaa
