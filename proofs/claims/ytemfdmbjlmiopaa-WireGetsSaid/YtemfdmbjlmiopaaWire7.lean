/-
  Messages as bytes (chapter 25): the program's Get.
-/
import Derived.Test.YtemfdmbjlmiopaaWire6
namespace Go.Proofs.Ytemfdmbjlmiopaa
open Go.RowKit
set_option linter.unusedVariables false
set_option linter.unusedSimpArgs false
theorem read_any {g K : Nat} {t : ByteArray} {w : World} (hk : ¬ (gK t < 1 ∨ 8 < gK t)) (hR : PA w g (gz t)) (hM : MBox w K ⟨gK t, 0, 0, 0, St.nil, 0⟩) (hgk : g ≠ K) : Calls Try.prog 37 #[TV (T0 (gK t)) (T1 (gK t)) (T2 (gK t)) (T3 (gK t)), .pointer (some ⟨g, 0, none⟩), .pointer (some ⟨K, 0, none⟩)] w fun e w' =>
    e = .returned (.int .i64 (mgetF t)) ∧ (∃ M, MBox w' K M ∧ (mgetF t = 0 → M = mgetR t)) ∧ Frm (fun x => x = g ∨ x = K) w w' := by
  have h01 : (gz t).2 = 0 ∨ (gz t).2 = 1 := fail01 (t, 0) 1 (by decide) (.inl rfl)
  have h11 : (n1 (gz t) 1).2 = 0 ∨ (n1 (gz t) 1).2 = 1 := fail01 (gz t) 1 (by decide) h01
  rcases kinds (gK t) with h | h | h | h | h
  · exact absurd h hk
  · obtain ⟨t0, t1, t2, t3⟩ := tA h
    have eF : mgetF t = rdEnd (n1 (n1 (n1 (gz t) 1) 7) 7).1 (n1 (n1 (n1 (gz t) 1) 7) 7).2 := if_pos t1
    have eR : mgetR t = ⟨gK t, nO (gz t) 1, nO (n1 (gz t) 1) 7, nO (n1 (n1 (gz t) 1) 7) 7, St.nil, 0⟩ := if_pos t1
    rw [t0, t1, t2, t3, eF, eR]
    exact (read_A hR hM hgk).mono fun e w' ⟨a, b, c⟩ => ⟨a, ⟨_, b, fun _ => rfl⟩, c⟩
  · obtain ⟨t0, t1, t2, t3⟩ := tB h
    have eF : mgetF t = rdEnd (n1 (gz t) 1).1 (n1 (gz t) 1).2 := by unfold mgetF; rw [t1, t2]; rfl
    have eR : mgetR t = ⟨gK t, nO (gz t) 1, 0, 0, St.nil, 0⟩ := by unfold mgetR; rw [t1, t2, t3]; rfl
    rw [t0, t1, t2, t3, eF, eR]
    exact (read_B hR hM hgk).mono fun e w' ⟨a, b, c⟩ => ⟨a, ⟨_, b, fun _ => rfl⟩, c⟩
  · obtain ⟨t0, t1, t2, t3⟩ := tC h
    have eF : mgetF t = (if rdEnd (n1 (gz t) 1).1 (n1 (gz t) 1).2 = 1 then 1 else getE (n1 (gz t) 1).1) := by unfold mgetF; rw [t1, t2]; rfl
    have eR : mgetR t = ⟨gK t, nO (gz t) 1, 0, 0, getSt (n1 (gz t) 1).1, 0⟩ := by unfold mgetR; rw [t1, t2]; rfl
    rw [t0, t1, t2, t3, eF, eR]
    by_cases he : rdEnd (n1 (gz t) 1).1 (n1 (gz t) 1).2 = 1
    · rw [if_pos he]
      exact (read_C1 hR hM hgk he).mono fun e w' ⟨a, b, c⟩ => ⟨a, ⟨_, b, fun h => by cases h⟩, c⟩
    · rw [if_neg he]
      exact (read_C2 hR hM hgk he (end01 h11 he).2).mono fun e w' ⟨a, b, c⟩ => ⟨a, ⟨_, b, fun _ => rfl⟩, c⟩
  · obtain ⟨t0, t1, t2, t3⟩ := tD h
    have eF : mgetF t = rdEnd (n1 (gz t) 1).1 (n1 (gz t) 1).2 := by unfold mgetF; rw [t1, t2]; rfl
    have eR : mgetR t = ⟨gK t, 0, 0, 0, St.nil, nO (gz t) 1⟩ := by unfold mgetR; rw [t1, t2, t3]; rfl
    rw [t0, t1, t2, t3, eF, eR]
    exact (read_D hR hM hgk).mono fun e w' ⟨a, b, c⟩ => ⟨a, ⟨_, b, fun _ => rfl⟩, c⟩
set_option maxRecDepth 20000 in
set_option maxHeartbeats 3200000 in
theorem wget_0 (t : ByteArray) (w : World) (ht : t.size = 0) : Calls Try.prog 13 #[.string t] w fun e' w' => e' = .returned (.tuple #[MV (mget t).k (mget t).ex (mget t).va (mget t).vb (mget t).s (mget t).n, .int .i64 (mgetE t)]) ∧ Below w.heap.size w w' := by
  have hE : mgetE t = 1 := if_pos ht
  have hS : mget t = Mg.nil := if_neg (by rw [hE]; decide)
  rw [hE, hS]
  have := size0 ht
  subst this
  clear hE hS ht
  have H2 : MBox (w.alloc (.cells #[.int .i64 0, .int .i64 0, .int .i64 0, .int .i64 0, .int .i64 0, .int .i64 0, .int .i64 0, .string ⟨#[]⟩, .int .i64 0, .int .i64 0, .string ⟨#[]⟩, .int .i64 0, .int .i64 0, .string ⟨#[]⟩, .int .i64 0] 29)) w.heap.size ⟨0, 0, 0, 0, ⟨0, 0, 0, ⟨#[]⟩, ⟨0, 0, ⟨#[]⟩⟩, ⟨0, 0, ⟨#[]⟩⟩⟩, 0⟩ := MBox.new w 0 0 0 0 ⟨0, 0, 0, ⟨#[]⟩, ⟨0, 0, ⟨#[]⟩⟩, ⟨0, 0, ⟨#[]⟩⟩⟩ 0 29
  have HB : Below w.heap.size w (w.alloc (.cells #[.int .i64 0, .int .i64 0, .int .i64 0, .int .i64 0, .int .i64 0, .int .i64 0, .int .i64 0, .string ⟨#[]⟩, .int .i64 0, .int .i64 0, .string ⟨#[]⟩, .int .i64 0, .int .i64 0, .string ⟨#[]⟩, .int .i64 0] 29)) := (Below.refl _ _).alloc (Nat.le_refl _) _
  go_enter Try.func13, Try.ntmps13
  go_wp2_with fail
  generalize w.alloc (.cells #[.int .i64 0, .int .i64 0, .int .i64 0, .int .i64 0, .int .i64 0, .int .i64 0, .int .i64 0, .string ⟨#[]⟩, .int .i64 0, .int .i64 0, .string ⟨#[]⟩, .int .i64 0, .int .i64 0, .string ⟨#[]⟩, .int .i64 0] 29) = W0 at *
  obtain ⟨⟨d0, d1, d2, d3, d4, d5, d6, d7, d8, d9, d10, d11, d12, d13, d14⟩, yf⟩ := id H2
  have y0 := yf 0 (by decide)
  have y1 := yf 1 (by decide)
  have y2 := yf 2 (by decide)
  have y3 := yf 3 (by decide)
  have y4 := yf 4 (by decide)
  have y5 := yf 5 (by decide)
  have y6 := yf 6 (by decide)
  have y7 := yf 7 (by decide)
  have y8 := yf 8 (by decide)
  have y9 := yf 9 (by decide)
  have y10 := yf 10 (by decide)
  have y11 := yf 11 (by decide)
  have y12 := yf 12 (by decide)
  have y13 := yf 13 (by decide)
  have y14 := yf 14 (by decide)
  clear yf
  go_wp2
  refine bodyPost_ret (v := .tuple #[.agg #[.int .i64 0, .int .i64 0, .int .i64 0, .int .i64 0, .int .i64 0, .int .i64 0, .int .i64 0, .string ⟨#[]⟩, .int .i64 0, .int .i64 0, .string ⟨#[]⟩, .int .i64 0, .int .i64 0, .string ⟨#[]⟩, .int .i64 0], .int .i64 1]) (by simp [results, Try.results13, go_sem, d0, d1, d2, d3, d4, d5, d6, d7, d8, d9, d10, d11, d12, d13, d14]) rfl ⟨by rfl, ?_⟩
  first | with_reducible exact HB.out | with_reducible exact HB | skip
  repeat (first | with_reducible exact HB.out | with_reducible exact HB | with_reducible refine Below.setCell ?_ (by first | (simp; done) | (simp; omega)) _)
set_option maxRecDepth 20000 in
set_option maxHeartbeats 3200000 in
theorem wget_x (t : ByteArray) (w : World) (h0 : ¬ t.size = 0) (ht : t.size ≤ 100000) (hk : gK t < 1 ∨ 8 < gK t) : Calls Try.prog 13 #[.string t] w fun e' w' => e' = .returned (.tuple #[MV (mget t).k (mget t).ex (mget t).va (mget t).vb (mget t).s (mget t).n, .int .i64 (mgetE t)]) ∧ Below w.heap.size w w' := by
  have hE : mgetE t = 7 := by unfold mgetE; rw [if_neg h0, if_pos hk]
  have hS : mget t = Mg.nil := if_neg (by rw [hE]; decide)
  rw [hE, hS]
  clear hE hS
  have n1' : (t.toList == []) = false := by
    cases h : t.toList with
    | nil =>
      exfalso; apply h0
      have : t.data.toList = [] := (ByteArray.toList_eq t).symm.trans h
      have h2 := data_len t
      rw [this] at h2
      exact h2.symm
    | cons a l => rfl
  have n2' : t.toList.isEmpty = false := by
    cases h : t.toList with
    | nil => rw [h] at n1'; cases n1'
    | cons a l => rfl
  have n3' : ¬ t.toList = [] := fun h => by rw [h] at n1'; cases n1'
  clear h0
  have CN : Hid (∀ W g, PA W g (t, 0) → Calls Try.prog 36 #[.pointer (some ⟨g, 0, none⟩), .int .i64 1] W fun e w' => e = .returned (.int .i64 (gK t)) ∧ PA w' g (gz t) ∧ Frm (fun x => x = g) W w') := fun W g h => num_p (z := (t, 0)) 1 h
  have CO := Lib.hid (fun w => of_no (gK t) w hk)
  clear hk
  generalize gK t = kk at *
  generalize gz t = z1 at *
  have H2 : MBox (w.alloc (.cells #[.int .i64 0, .int .i64 0, .int .i64 0, .int .i64 0, .int .i64 0, .int .i64 0, .int .i64 0, .string ⟨#[]⟩, .int .i64 0, .int .i64 0, .string ⟨#[]⟩, .int .i64 0, .int .i64 0, .string ⟨#[]⟩, .int .i64 0] 29)) w.heap.size ⟨0, 0, 0, 0, ⟨0, 0, 0, ⟨#[]⟩, ⟨0, 0, ⟨#[]⟩⟩, ⟨0, 0, ⟨#[]⟩⟩⟩, 0⟩ := MBox.new w 0 0 0 0 ⟨0, 0, 0, ⟨#[]⟩, ⟨0, 0, ⟨#[]⟩⟩, ⟨0, 0, ⟨#[]⟩⟩⟩ 0 29
  have HB : Below w.heap.size w (w.alloc (.cells #[.int .i64 0, .int .i64 0, .int .i64 0, .int .i64 0, .int .i64 0, .int .i64 0, .int .i64 0, .string ⟨#[]⟩, .int .i64 0, .int .i64 0, .string ⟨#[]⟩, .int .i64 0, .int .i64 0, .string ⟨#[]⟩, .int .i64 0] 29)) := (Below.refl _ _).alloc (Nat.le_refl _) _
  go_enter Try.func13, Try.ntmps13
  go_wp2_with fail
  generalize w.alloc (.cells #[.int .i64 0, .int .i64 0, .int .i64 0, .int .i64 0, .int .i64 0, .int .i64 0, .int .i64 0, .string ⟨#[]⟩, .int .i64 0, .int .i64 0, .string ⟨#[]⟩, .int .i64 0, .int .i64 0, .string ⟨#[]⟩, .int .i64 0] 29) = W0 at *
  refine (new_any t W0).mono ?_
  rintro e' W1 ⟨rfl, hA⟩
  have HR : PA W1 W0.heap.size (t, 0) := hA ▸ ⟨IsRd.new W0 t 0 93, ht⟩
  have hb : Below W0.heap.size W0 W1 := hA ▸ (Below.refl _ _).alloc (Nat.le_refl _) _
  have h2g : ¬ w.heap.size = W0.heap.size := Nat.ne_of_lt H2.lt
  have hgB : w.heap.size ≤ W0.heap.size := HB.size
  replace H2 := Lib.hid (H2.below hb)
  replace HB := Lib.hid (bt HB hb)
  clear hA hb
  generalize W0.heap.size = g at *
  go_wp2_with fail
  refine (CN.out _ _ HR).mono ?_
  rintro e' W2 ⟨rfl, hR, hA⟩
  have h5g : ¬ W2.heap.size = g := Nat.ne_of_gt hR.lt
  have h52 : ¬ w.heap.size = W2.heap.size := Nat.ne_of_lt (Nat.lt_of_lt_of_le H2.out.lt hA.size)
  replace H2 := Lib.hid (H2.out.frm hA h2g)
  replace HB := Lib.hid (hA.after HB.out (Nat.le_trans (Nat.le_refl _) HB.out.size) (fun k hk e => Nat.lt_irrefl k (Nat.lt_of_lt_of_le hk (e ▸ hgB))))
  have h5B : w.heap.size ≤ W2.heap.size := HB.out.size
  clear hA HR
  have hA := (Below.refl W2.heap.size W2).alloc (Nat.le_refl _) (.cells #[.int .i64 kk, .int .i64 0, .int .i64 0, .int .i64 0, .int .i64 0, .int .i64 0, .int .i64 0, .string ⟨#[]⟩, .int .i64 0, .int .i64 0, .string ⟨#[]⟩, .int .i64 0, .int .i64 0, .string ⟨#[]⟩, .int .i64 0] 29)
  have HR := hR
  clear hR
  have H5 : MBox (W2.alloc (.cells #[.int .i64 kk, .int .i64 0, .int .i64 0, .int .i64 0, .int .i64 0, .int .i64 0, .int .i64 0, .string ⟨#[]⟩, .int .i64 0, .int .i64 0, .string ⟨#[]⟩, .int .i64 0, .int .i64 0, .string ⟨#[]⟩, .int .i64 0] 29)) W2.heap.size ⟨kk, 0, 0, 0, ⟨0, 0, 0, ⟨#[]⟩, ⟨0, 0, ⟨#[]⟩⟩, ⟨0, 0, ⟨#[]⟩⟩⟩, 0⟩ := MBox.new W2 kk 0 0 0 ⟨0, 0, 0, ⟨#[]⟩, ⟨0, 0, ⟨#[]⟩⟩, ⟨0, 0, ⟨#[]⟩⟩⟩ 0 29
  replace H2 := Lib.hid (H2.out.below hA)
  replace HB := Lib.hid (bt HB.out hA)
  replace HR := HR.frm (S := fun _ => False) (Frm.ofBelow hA) (fun x => x)
  clear hA
  obtain ⟨c0, c1, c2, c3, c4, c5, c6, c7, c8, c9, c10, c11, c12, c13, c14⟩ := id H5.1
  go_wp2_with fail
  refine (CO.out _).mono ?_
  rintro e' W3 ⟨rfl, hA⟩
  replace H2 := Lib.hid (H2.out.below hA)
  replace HB := Lib.hid (bt HB.out hA)
  clear hA
  obtain ⟨e0, e1, e2, e3⟩ := held4b (w := W3) (a := false) (b := false) (c := false) (d := false) 52
  have hA := (Below.refl W3.heap.size W3).alloc (Nat.le_refl _) (.cells #[.bool false, .bool false, .bool false, .bool false] 52)
  replace H2 := Lib.hid (H2.out.below hA)
  replace HB := Lib.hid (bt HB.out hA)
  clear hA
  obtain ⟨⟨d0, d1, d2, d3, d4, d5, d6, d7, d8, d9, d10, d11, d12, d13, d14⟩, yf⟩ := id H2.out
  have y0 := yf 0 (by decide)
  have y1 := yf 1 (by decide)
  have y2 := yf 2 (by decide)
  have y3 := yf 3 (by decide)
  have y4 := yf 4 (by decide)
  have y5 := yf 5 (by decide)
  have y6 := yf 6 (by decide)
  have y7 := yf 7 (by decide)
  have y8 := yf 8 (by decide)
  have y9 := yf 9 (by decide)
  have y10 := yf 10 (by decide)
  have y11 := yf 11 (by decide)
  have y12 := yf 12 (by decide)
  have y13 := yf 13 (by decide)
  have y14 := yf 14 (by decide)
  clear yf
  go_wp2
  refine bodyPost_ret (v := .tuple #[.agg #[.int .i64 0, .int .i64 0, .int .i64 0, .int .i64 0, .int .i64 0, .int .i64 0, .int .i64 0, .string ⟨#[]⟩, .int .i64 0, .int .i64 0, .string ⟨#[]⟩, .int .i64 0, .int .i64 0, .string ⟨#[]⟩, .int .i64 0], .int .i64 7]) (by simp [results, Try.results13, go_sem, d0, d1, d2, d3, d4, d5, d6, d7, d8, d9, d10, d11, d12, d13, d14]) rfl ⟨by rfl, ?_⟩
  first | with_reducible exact HB.out | with_reducible exact HB | skip
  repeat (first | with_reducible exact HB.out | with_reducible exact HB | with_reducible refine Below.setCell ?_ (by first | (simp; done) | (simp; omega)) _)
set_option maxRecDepth 20000 in
set_option maxHeartbeats 6400000 in
theorem wget_k (t : ByteArray) (w : World) (h0 : ¬ t.size = 0) (ht : t.size ≤ 100000) (hk : ¬ (gK t < 1 ∨ 8 < gK t)) : Calls Try.prog 13 #[.string t] w fun e' w' => e' = .returned (.tuple #[MV (mget t).k (mget t).ex (mget t).va (mget t).vb (mget t).s (mget t).n, .int .i64 (mgetE t)]) ∧ Below w.heap.size w w' := by
  have hGE : mgetE t = if mgetF t = 0 then mchk (mgetR t) else mgetF t := by unfold mgetE; rw [if_neg h0, if_neg hk]
  have HGS : Hid ((mgetE t = 0 → mget t = mgetR t) ∧ (¬ mgetE t = 0 → mget t = Mg.nil)) := ⟨fun h => if_pos h, fun h => if_neg h⟩
  have n1' : (t.toList == []) = false := by
    cases h : t.toList with
    | nil =>
      exfalso; apply h0
      have : t.data.toList = [] := (ByteArray.toList_eq t).symm.trans h
      have h2 := data_len t
      rw [this] at h2
      exact h2.symm
    | cons a l => rfl
  have n2' : t.toList.isEmpty = false := by
    cases h : t.toList with
    | nil => rw [h] at n1'; cases n1'
    | cons a l => rfl
  have n3' : ¬ t.toList = [] := fun h => by rw [h] at n1'; cases n1'
  clear h0
  have CN : Hid (∀ W g, PA W g (t, 0) → Calls Try.prog 36 #[.pointer (some ⟨g, 0, none⟩), .int .i64 1] W fun e w' => e = .returned (.int .i64 (gK t)) ∧ PA w' g (gz t) ∧ Frm (fun x => x = g) W w') := fun W g h => num_p (z := (t, 0)) 1 h
  have CO := Lib.hid (fun w => of_ok (gK t) w hk)
  have CR : Hid (∀ W g K, PA W g (gz t) → MBox W K ⟨gK t, 0, 0, 0, St.nil, 0⟩ → g ≠ K → Calls Try.prog 37 #[TV (T0 (gK t)) (T1 (gK t)) (T2 (gK t)) (T3 (gK t)), .pointer (some ⟨g, 0, none⟩), .pointer (some ⟨K, 0, none⟩)] W fun e w' =>
    e = .returned (.int .i64 (mgetF t)) ∧ (∃ M, MBox w' K M ∧ (mgetF t = 0 → M = mgetR t)) ∧ Frm (fun x => x = g ∨ x = K) W w') := fun W g K hR hM hg => read_any hk hR hM hg
  obtain ⟨X, hX⟩ : ∃ X, mchk (mgetR t) = X := ⟨_, rfl⟩
  rw [hX] at hGE
  generalize mgetR t = Rm at *
  obtain ⟨rk, rex, rva, rvb, rs, rn⟩ := Rm
  have CX := Lib.hid (fun w => wchk_at hX w)
  clear hX
  have HGE := Lib.hid hGE
  clear hGE
  generalize mget t = GS at *
  generalize mgetE t = GE at *
  generalize mgetF t = F at *
  generalize T0 (gK t) = ta at *
  generalize T1 (gK t) = tb at *
  generalize T2 (gK t) = tc at *
  generalize T3 (gK t) = td at *
  clear hk
  generalize gK t = kk at *
  generalize gz t = z1 at *
  have H2 : MBox (w.alloc (.cells #[.int .i64 0, .int .i64 0, .int .i64 0, .int .i64 0, .int .i64 0, .int .i64 0, .int .i64 0, .string ⟨#[]⟩, .int .i64 0, .int .i64 0, .string ⟨#[]⟩, .int .i64 0, .int .i64 0, .string ⟨#[]⟩, .int .i64 0] 29)) w.heap.size ⟨0, 0, 0, 0, ⟨0, 0, 0, ⟨#[]⟩, ⟨0, 0, ⟨#[]⟩⟩, ⟨0, 0, ⟨#[]⟩⟩⟩, 0⟩ := MBox.new w 0 0 0 0 ⟨0, 0, 0, ⟨#[]⟩, ⟨0, 0, ⟨#[]⟩⟩, ⟨0, 0, ⟨#[]⟩⟩⟩ 0 29
  have HB : Below w.heap.size w (w.alloc (.cells #[.int .i64 0, .int .i64 0, .int .i64 0, .int .i64 0, .int .i64 0, .int .i64 0, .int .i64 0, .string ⟨#[]⟩, .int .i64 0, .int .i64 0, .string ⟨#[]⟩, .int .i64 0, .int .i64 0, .string ⟨#[]⟩, .int .i64 0] 29)) := (Below.refl _ _).alloc (Nat.le_refl _) _
  go_enter Try.func13, Try.ntmps13
  go_wp2_with fail
  generalize w.alloc (.cells #[.int .i64 0, .int .i64 0, .int .i64 0, .int .i64 0, .int .i64 0, .int .i64 0, .int .i64 0, .string ⟨#[]⟩, .int .i64 0, .int .i64 0, .string ⟨#[]⟩, .int .i64 0, .int .i64 0, .string ⟨#[]⟩, .int .i64 0] 29) = W0 at *
  refine (new_any t W0).mono ?_
  rintro e' W1 ⟨rfl, hA⟩
  have HR : PA W1 W0.heap.size (t, 0) := hA ▸ ⟨IsRd.new W0 t 0 93, ht⟩
  have hb : Below W0.heap.size W0 W1 := hA ▸ (Below.refl _ _).alloc (Nat.le_refl _) _
  have h2g : ¬ w.heap.size = W0.heap.size := Nat.ne_of_lt H2.lt
  have hgB : w.heap.size ≤ W0.heap.size := HB.size
  replace H2 := Lib.hid (H2.below hb)
  replace HB := Lib.hid (bt HB hb)
  clear hA hb
  generalize W0.heap.size = g at *
  go_wp2_with fail
  refine (CN.out _ _ HR).mono ?_
  rintro e' W2 ⟨rfl, hR, hA⟩
  have h5g : ¬ W2.heap.size = g := Nat.ne_of_gt hR.lt
  have h52 : ¬ w.heap.size = W2.heap.size := Nat.ne_of_lt (Nat.lt_of_lt_of_le H2.out.lt hA.size)
  replace H2 := Lib.hid (H2.out.frm hA h2g)
  replace HB := Lib.hid (hA.after HB.out (Nat.le_trans (Nat.le_refl _) HB.out.size) (fun k hk e => Nat.lt_irrefl k (Nat.lt_of_lt_of_le hk (e ▸ hgB))))
  have h5B : w.heap.size ≤ W2.heap.size := HB.out.size
  clear hA HR
  have hA := (Below.refl W2.heap.size W2).alloc (Nat.le_refl _) (.cells #[.int .i64 kk, .int .i64 0, .int .i64 0, .int .i64 0, .int .i64 0, .int .i64 0, .int .i64 0, .string ⟨#[]⟩, .int .i64 0, .int .i64 0, .string ⟨#[]⟩, .int .i64 0, .int .i64 0, .string ⟨#[]⟩, .int .i64 0] 29)
  have HR := hR
  clear hR
  have H5 : MBox (W2.alloc (.cells #[.int .i64 kk, .int .i64 0, .int .i64 0, .int .i64 0, .int .i64 0, .int .i64 0, .int .i64 0, .string ⟨#[]⟩, .int .i64 0, .int .i64 0, .string ⟨#[]⟩, .int .i64 0, .int .i64 0, .string ⟨#[]⟩, .int .i64 0] 29)) W2.heap.size ⟨kk, 0, 0, 0, ⟨0, 0, 0, ⟨#[]⟩, ⟨0, 0, ⟨#[]⟩⟩, ⟨0, 0, ⟨#[]⟩⟩⟩, 0⟩ := MBox.new W2 kk 0 0 0 ⟨0, 0, 0, ⟨#[]⟩, ⟨0, 0, ⟨#[]⟩⟩, ⟨0, 0, ⟨#[]⟩⟩⟩ 0 29
  replace H2 := Lib.hid (H2.out.below hA)
  replace HB := Lib.hid (bt HB.out hA)
  replace HR := HR.frm (S := fun _ => False) (Frm.ofBelow hA) (fun x => x)
  clear hA
  obtain ⟨c0, c1, c2, c3, c4, c5, c6, c7, c8, c9, c10, c11, c12, c13, c14⟩ := id H5.1
  go_wp2_with fail
  clear c0 c1 c2 c3 c4 c5 c6 c7 c8 c9 c10 c11 c12 c13 c14
  generalize W2.alloc (.cells #[.int .i64 kk, .int .i64 0, .int .i64 0, .int .i64 0, .int .i64 0, .int .i64 0, .int .i64 0, .string ⟨#[]⟩, .int .i64 0, .int .i64 0, .string ⟨#[]⟩, .int .i64 0, .int .i64 0, .string ⟨#[]⟩, .int .i64 0] 29) = W2' at *
  replace H5 := Lib.hid H5
  generalize W2.heap.size = K at *
  refine (CO.out _).mono ?_
  rintro e' W3 ⟨rfl, hA⟩
  replace H2 := Lib.hid (H2.out.below hA)
  replace H5 := Lib.hid (H5.out.below hA)
  replace HR := HR.frm (S := fun _ => False) (Frm.ofBelow hA) (fun x => x)
  replace HB := Lib.hid (bt HB.out hA)
  clear hA CO
  obtain ⟨e0, e1, e2, e3⟩ := held4b (w := W3) (a := ta) (b := tb) (c := tc) (d := td) 52
  have hA := (Below.refl W3.heap.size W3).alloc (Nat.le_refl _) (.cells #[.bool ta, .bool tb, .bool tc, .bool td] 52)
  replace H2 := Lib.hid (H2.out.below hA)
  replace HB := Lib.hid (bt HB.out hA)
  replace H5 := Lib.hid (H5.out.below hA)
  replace HR := HR.frm (S := fun _ => False) (Frm.ofBelow hA) (fun x => x)
  clear hA
  go_wp2_with fail
  clear e0 e1 e2 e3
  refine (CR.out _ g K HR H5.out (fun e => h5g e.symm)).mono ?_
  rintro e' W5 ⟨rfl, ⟨M, hM, hMe⟩, hA⟩
  replace H2 := Lib.hid (H2.out.frm hA (fun h => h.elim h2g h52))
  replace HB := Lib.hid (hA.after HB.out HB.out.size (fun k hk e => e.elim (fun e => Nat.lt_irrefl k (Nat.lt_of_lt_of_le hk (e ▸ hgB))) (fun e => Nat.lt_irrefl k (Nat.lt_of_lt_of_le hk (e ▸ h5B)))))
  have H5 := Lib.hid hM
  clear hA HR CR CN hM
  by_cases hF0 : F = 0
  case neg =>
    have m1 : (F == 0) = false := beq_eq_false_iff_ne.2 hF0
    have m2 : (F != 0) = true := bne_iff_ne.2 hF0
    obtain ⟨⟨d0, d1, d2, d3, d4, d5, d6, d7, d8, d9, d10, d11, d12, d13, d14⟩, yf⟩ := id H2.out
    have y0 := yf 0 (by decide)
    have y1 := yf 1 (by decide)
    have y2 := yf 2 (by decide)
    have y3 := yf 3 (by decide)
    have y4 := yf 4 (by decide)
    have y5 := yf 5 (by decide)
    have y6 := yf 6 (by decide)
    have y7 := yf 7 (by decide)
    have y8 := yf 8 (by decide)
    have y9 := yf 9 (by decide)
    have y10 := yf 10 (by decide)
    have y11 := yf 11 (by decide)
    have y12 := yf 12 (by decide)
    have y13 := yf 13 (by decide)
    have y14 := yf 14 (by decide)
    clear yf
    go_wp2
    refine bodyPost_ret (v := .tuple #[.agg #[.int .i64 0, .int .i64 0, .int .i64 0, .int .i64 0, .int .i64 0, .int .i64 0, .int .i64 0, .string ⟨#[]⟩, .int .i64 0, .int .i64 0, .string ⟨#[]⟩, .int .i64 0, .int .i64 0, .string ⟨#[]⟩, .int .i64 0], .int .i64 F]) (by simp [results, Try.results13, go_sem, d0, d1, d2, d3, d4, d5, d6, d7, d8, d9, d10, d11, d12, d13, d14]) rfl ⟨by (have q1 : GE = F := (by have q := HGE.out; simpa [hF0] using q); have q2 := HGS.out.2 (by rw [q1]; exact hF0); rw [q1, q2]; rfl), ?_⟩
    first | with_reducible exact HB.out | with_reducible exact HB | skip
    repeat (first | with_reducible exact HB.out | with_reducible exact HB | with_reducible refine Below.setCell ?_ (by first | (simp; done) | (simp; omega)) _)
  subst hF0
  have hMe := hMe rfl
  subst hMe
  obtain ⟨c0, c1, c2, c3, c4, c5, c6, c7, c8, c9, c10, c11, c12, c13, c14⟩ := id H5.out.1
  go_wp2_with fail
  refine (CX.out _).mono ?_
  rintro e' W7 ⟨rfl, hA⟩
  replace H2 := Lib.hid (H2.out.below hA)
  replace H5 := Lib.hid (H5.out.below hA)
  replace HB := Lib.hid (bt HB.out hA)
  clear hA CX
  clear c0 c1 c2 c3 c4 c5 c6 c7 c8 c9 c10 c11 c12 c13 c14
  by_cases hX0 : X = 0
  case neg =>
    have m1 : (X == 0) = false := beq_eq_false_iff_ne.2 hX0
    have m2 : (X != 0) = true := bne_iff_ne.2 hX0
    obtain ⟨⟨d0, d1, d2, d3, d4, d5, d6, d7, d8, d9, d10, d11, d12, d13, d14⟩, yf⟩ := id H2.out
    have y0 := yf 0 (by decide)
    have y1 := yf 1 (by decide)
    have y2 := yf 2 (by decide)
    have y3 := yf 3 (by decide)
    have y4 := yf 4 (by decide)
    have y5 := yf 5 (by decide)
    have y6 := yf 6 (by decide)
    have y7 := yf 7 (by decide)
    have y8 := yf 8 (by decide)
    have y9 := yf 9 (by decide)
    have y10 := yf 10 (by decide)
    have y11 := yf 11 (by decide)
    have y12 := yf 12 (by decide)
    have y13 := yf 13 (by decide)
    have y14 := yf 14 (by decide)
    clear yf
    go_wp2
    refine bodyPost_ret (v := .tuple #[.agg #[.int .i64 0, .int .i64 0, .int .i64 0, .int .i64 0, .int .i64 0, .int .i64 0, .int .i64 0, .string ⟨#[]⟩, .int .i64 0, .int .i64 0, .string ⟨#[]⟩, .int .i64 0, .int .i64 0, .string ⟨#[]⟩, .int .i64 0], .int .i64 X]) (by simp [results, Try.results13, go_sem, d0, d1, d2, d3, d4, d5, d6, d7, d8, d9, d10, d11, d12, d13, d14]) rfl ⟨by (have q1 : GE = X := (by have q := HGE.out; simpa using q); have q2 := HGS.out.2 (by rw [q1]; exact hX0); rw [q1, q2]; rfl), ?_⟩
    first | with_reducible exact HB.out | with_reducible exact HB | skip
    repeat (first | with_reducible exact HB.out | with_reducible exact HB | with_reducible refine Below.setCell ?_ (by first | (simp; done) | (simp; omega)) _)
  subst hX0
  obtain ⟨c0, c1, c2, c3, c4, c5, c6, c7, c8, c9, c10, c11, c12, c13, c14⟩ := id H5.out.1
  obtain ⟨⟨d0, d1, d2, d3, d4, d5, d6, d7, d8, d9, d10, d11, d12, d13, d14⟩, yf⟩ := id H2.out
  have y0 := yf 0 (by decide)
  have y1 := yf 1 (by decide)
  have y2 := yf 2 (by decide)
  have y3 := yf 3 (by decide)
  have y4 := yf 4 (by decide)
  have y5 := yf 5 (by decide)
  have y6 := yf 6 (by decide)
  have y7 := yf 7 (by decide)
  have y8 := yf 8 (by decide)
  have y9 := yf 9 (by decide)
  have y10 := yf 10 (by decide)
  have y11 := yf 11 (by decide)
  have y12 := yf 12 (by decide)
  have y13 := yf 13 (by decide)
  have y14 := yf 14 (by decide)
  clear yf
  go_wp2
  refine bodyPost_ret (v := .tuple #[MV rk rex rva rvb rs rn, .int .i64 0]) (by simp [results, Try.results13, go_sem, d0, d1, d2, d3, d4, d5, d6, d7, d8, d9, d10, d11, d12, d13, d14]) rfl ⟨by (have q1 : GE = 0 := (by have q := HGE.out; simpa using q); have q2 := HGS.out.1 q1; rw [q1, q2]), ?_⟩
  first | with_reducible exact HB.out | with_reducible exact HB | skip
  repeat (first | with_reducible exact HB.out | with_reducible exact HB | with_reducible refine Below.setCell ?_ (by first | (simp; done) | (simp; omega)) _)
theorem wget_any (t : ByteArray) (w : World) (ht : t.size ≤ 100000) : Calls Try.prog 13 #[.string t] w fun e' w' => e' = .returned (.tuple #[MV (mget t).k (mget t).ex (mget t).va (mget t).vb (mget t).s (mget t).n, .int .i64 (mgetE t)]) ∧ Below w.heap.size w w' := by
  by_cases h0 : t.size = 0
  · exact wget_0 t w h0
  · by_cases hk : gK t < 1 ∨ 8 < gK t
    · exact wget_x t w h0 ht hk
    · exact wget_k t w h0 ht hk
end Go.Proofs.Ytemfdmbjlmiopaa
