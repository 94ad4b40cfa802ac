/-
  Messages as bytes (chapter 25): the reference's Get. (genwg.py prints it.)
-/
import Derived.Test.YtemfdmbjlmiopaaWire7
namespace Go.Proofs.Ytemfdmbjlmiopaa
open Go.RowKit
set_option linter.unusedVariables false
set_option linter.unusedSimpArgs false
def mwA (W : World) (K : Nat) (a : Int) : World := W.setCell ⟨K, 2, none⟩ (.int .i64 a)
def mwB (W : World) (K : Nat) (b : Int) : World := W.setCell ⟨K, 3, none⟩ (.int .i64 b)
theorem mwA_frm (W : World) (K : Nat) (x : Int) : Frm (fun x => x = K) W (mwA W K x) := frm_set (Frm.refl _ _) _ _
theorem mwB_frm (W : World) (K : Nat) (x : Int) : Frm (fun x => x = K) W (mwB W K x) := frm_set (Frm.refl _ _) _ _
set_option maxHeartbeats 1600000 in
theorem MBox.a {W : World} {K : Nat} {k ex va vb n : Int} {s : St} (h : MBox W K ⟨k, ex, va, vb, s, n⟩) (x : Int) : MBox (mwA W K x) K ⟨k, ex, x, vb, s, n⟩ := by
  obtain ⟨⟨c0, c1, c2, c3, c4, c5, c6, c7, c8, c9, c10, c11, c12, c13, c14⟩, hf⟩ := h
  refine ⟨⟨?_, ?_, ?_, ?_, ?_, ?_, ?_, ?_, ?_, ?_, ?_, ?_, ?_, ?_, ?_⟩, fun o ho => ?_⟩
  rotate_right
  · have := hf o ho
    simpa [go_sem, mwA] using this
  all_goals simp [go_sem, mwA, c0, c1, c2, c3, c4, c5, c6, c7, c8, c9, c10, c11, c12, c13, c14]
set_option maxHeartbeats 1600000 in
theorem MBox.b {W : World} {K : Nat} {k ex va vb n : Int} {s : St} (h : MBox W K ⟨k, ex, va, vb, s, n⟩) (x : Int) : MBox (mwB W K x) K ⟨k, ex, va, x, s, n⟩ := by
  obtain ⟨⟨c0, c1, c2, c3, c4, c5, c6, c7, c8, c9, c10, c11, c12, c13, c14⟩, hf⟩ := h
  refine ⟨⟨?_, ?_, ?_, ?_, ?_, ?_, ?_, ?_, ?_, ?_, ?_, ?_, ?_, ?_, ?_⟩, fun o ho => ?_⟩
  rotate_right
  · have := hf o ho
    simpa [go_sem, mwB] using this
  all_goals simp [go_sem, mwB, c0, c1, c2, c3, c4, c5, c6, c7, c8, c9, c10, c11, c12, c13, c14]
/-- where the state's bytes begin -/
theorem two_in (t : ByteArray) (h : (n1 (gz t) 1).2 = 0) : 2 ≤ t.size ∧ t.extract 2 t.size = (n1 (gz t) 1).1 := by
  obtain ⟨b1', X, b2, b3, b4⟩ := n1_b1 _ h
  obtain ⟨a1, K, a2, a3, a4⟩ := n1_b1 (t, 0) b1'
  have a4 : t = ⟨(be 1 K).toArray⟩ ++ (gz t).1 := a4
  have e : t = (⟨(be 1 K).toArray⟩ ++ ⟨(be 1 X).toArray⟩) ++ (n1 (gz t) 1).1 := by rw [ByteArray.append_assoc, ← b4]; exact a4
  have hs : ((⟨(be 1 K).toArray⟩ : ByteArray) ++ ⟨(be 1 X).toArray⟩).size = 2 := by rw [size1, be_size]
  refine ⟨by rw [a4, b4, size1, size1]; omega, ?_⟩
  have h2 := ext_right ((⟨(be 1 K).toArray⟩ : ByteArray) ++ ⟨(be 1 X).toArray⟩) (n1 (gz t) 1).1
  rw [hs, ← e] at h2
  exact h2
set_option maxRecDepth 20000 in
set_option maxHeartbeats 3200000 in
theorem rwget_0 (t : ByteArray) (w : World) (ht : t.size = 0) : Calls Try.prog 14 #[.string t] w fun e' w' => e' = .returned (.tuple #[MV (mget t).k (mget t).ex (mget t).va (mget t).vb (mget t).s (mget t).n, .int .i64 (mgetE t)]) ∧ Below w.heap.size w w' := by
  have hE : mgetE t = 1 := if_pos ht
  have hS : mget t = Mg.nil := if_neg (by rw [hE]; decide)
  rw [hE, hS]
  have := size0 ht
  subst this
  clear hE hS ht
  have H2 : MBox (w.alloc (.cells #[.int .i64 0, .int .i64 0, .int .i64 0, .int .i64 0, .int .i64 0, .int .i64 0, .int .i64 0, .string ⟨#[]⟩, .int .i64 0, .int .i64 0, .string ⟨#[]⟩, .int .i64 0, .int .i64 0, .string ⟨#[]⟩, .int .i64 0] 29)) w.heap.size ⟨0, 0, 0, 0, ⟨0, 0, 0, ⟨#[]⟩, ⟨0, 0, ⟨#[]⟩⟩, ⟨0, 0, ⟨#[]⟩⟩⟩, 0⟩ := MBox.new w 0 0 0 0 ⟨0, 0, 0, ⟨#[]⟩, ⟨0, 0, ⟨#[]⟩⟩, ⟨0, 0, ⟨#[]⟩⟩⟩ 0 29
  have HB : Below w.heap.size w (w.alloc (.cells #[.int .i64 0, .int .i64 0, .int .i64 0, .int .i64 0, .int .i64 0, .int .i64 0, .int .i64 0, .string ⟨#[]⟩, .int .i64 0, .int .i64 0, .string ⟨#[]⟩, .int .i64 0, .int .i64 0, .string ⟨#[]⟩, .int .i64 0] 29)) := (Below.refl _ _).alloc (Nat.le_refl _) _
  go_enter Try.func14, Try.ntmps14
  go_wp2_with fail
  generalize w.alloc (.cells #[.int .i64 0, .int .i64 0, .int .i64 0, .int .i64 0, .int .i64 0, .int .i64 0, .int .i64 0, .string ⟨#[]⟩, .int .i64 0, .int .i64 0, .string ⟨#[]⟩, .int .i64 0, .int .i64 0, .string ⟨#[]⟩, .int .i64 0] 29) = W0 at *
  obtain ⟨⟨d0, d1, d2, d3, d4, d5, d6, d7, d8, d9, d10, d11, d12, d13, d14⟩, yf⟩ := id H2
  have y0 := yf 0 (by decide)
  have y1 := yf 1 (by decide)
  have y2 := yf 2 (by decide)
  have y3 := yf 3 (by decide)
  have y4 := yf 4 (by decide)
  have y5 := yf 5 (by decide)
  have y6 := yf 6 (by decide)
  have y7 := yf 7 (by decide)
  have y8 := yf 8 (by decide)
  have y9 := yf 9 (by decide)
  have y10 := yf 10 (by decide)
  have y11 := yf 11 (by decide)
  have y12 := yf 12 (by decide)
  have y13 := yf 13 (by decide)
  have y14 := yf 14 (by decide)
  clear yf
  go_wp2
  refine bodyPost_ret (v := .tuple #[.agg #[.int .i64 0, .int .i64 0, .int .i64 0, .int .i64 0, .int .i64 0, .int .i64 0, .int .i64 0, .string ⟨#[]⟩, .int .i64 0, .int .i64 0, .string ⟨#[]⟩, .int .i64 0, .int .i64 0, .string ⟨#[]⟩, .int .i64 0], .int .i64 1]) (by simp [results, Try.results14, go_sem, d0, d1, d2, d3, d4, d5, d6, d7, d8, d9, d10, d11, d12, d13, d14]) rfl ⟨by rfl, ?_⟩
  first | with_reducible exact HB.out | with_reducible exact HB | skip
  repeat (first | with_reducible exact HB.out | with_reducible exact HB | with_reducible refine Below.setCell ?_ (by first | (simp; done) | (simp; omega)) _)
set_option maxRecDepth 20000 in
set_option maxHeartbeats 3200000 in
theorem rwget_x (t : ByteArray) (w : World) (h0 : ¬ t.size = 0) (ht : t.size ≤ 100000) (hk : gK t < 1 ∨ 8 < gK t) : Calls Try.prog 14 #[.string t] w fun e' w' => e' = .returned (.tuple #[MV (mget t).k (mget t).ex (mget t).va (mget t).vb (mget t).s (mget t).n, .int .i64 (mgetE t)]) ∧ Below w.heap.size w w' := by
  have hE : mgetE t = 7 := by unfold mgetE; rw [if_neg h0, if_pos hk]
  have hS : mget t = Mg.nil := if_neg (by rw [hE]; decide)
  rw [hE, hS]
  clear hE hS
  have n1' : (t.toList == []) = false := by
    cases h : t.toList with
    | nil =>
      exfalso; apply h0
      have : t.data.toList = [] := (ByteArray.toList_eq t).symm.trans h
      have h2 := data_len t
      rw [this] at h2
      exact h2.symm
    | cons a l => rfl
  have n2' : t.toList.isEmpty = false := by
    cases h : t.toList with
    | nil => rw [h] at n1'; cases n1'
    | cons a l => rfl
  have n3' : ¬ t.toList = [] := fun h => by rw [h] at n1'; cases n1'
  clear h0
  have CN : Hid (∀ W g, RA t W g (t, 0) → Calls Try.prog 38 #[.pointer (some ⟨g, 0, none⟩), .int .i64 1] W fun e w' => e = .returned (.int .i64 (gK t)) ∧ RA t w' g (gz t) ∧ Frm (fun x => x = g) W w') := fun W g h => num_r (z := (t, 0)) 1 h
  have hz : (w.alloc (.cells #[.int .i64 0, .int .i64 0, .int .i64 0, .int .i64 0, .int .i64 0, .int .i64 0, .int .i64 0, .string ⟨#[]⟩, .int .i64 0, .int .i64 0, .string ⟨#[]⟩, .int .i64 0, .int .i64 0, .string ⟨#[]⟩, .int .i64 0] 29)).heap.size = w.heap.size + 1 := by simp
  by_cases h1 : gK t < 1
  · have dk1 : decide (gK t < 1) = true := decide_eq_true h1
    clear hk h1
    generalize gK t = kk at *
    generalize gz t = z1 at *
    have H2 : MBox (w.alloc (.cells #[.int .i64 0, .int .i64 0, .int .i64 0, .int .i64 0, .int .i64 0, .int .i64 0, .int .i64 0, .string ⟨#[]⟩, .int .i64 0, .int .i64 0, .string ⟨#[]⟩, .int .i64 0, .int .i64 0, .string ⟨#[]⟩, .int .i64 0] 29)) w.heap.size ⟨0, 0, 0, 0, ⟨0, 0, 0, ⟨#[]⟩, ⟨0, 0, ⟨#[]⟩⟩, ⟨0, 0, ⟨#[]⟩⟩⟩, 0⟩ := MBox.new w 0 0 0 0 ⟨0, 0, 0, ⟨#[]⟩, ⟨0, 0, ⟨#[]⟩⟩, ⟨0, 0, ⟨#[]⟩⟩⟩ 0 29
    have HB : Below w.heap.size w (w.alloc (.cells #[.int .i64 0, .int .i64 0, .int .i64 0, .int .i64 0, .int .i64 0, .int .i64 0, .int .i64 0, .string ⟨#[]⟩, .int .i64 0, .int .i64 0, .string ⟨#[]⟩, .int .i64 0, .int .i64 0, .string ⟨#[]⟩, .int .i64 0] 29)) := (Below.refl _ _).alloc (Nat.le_refl _) _
    go_enter Try.func14, Try.ntmps14
    go_wp2_with fail
    generalize w.alloc (.cells #[.int .i64 0, .int .i64 0, .int .i64 0, .int .i64 0, .int .i64 0, .int .i64 0, .int .i64 0, .string ⟨#[]⟩, .int .i64 0, .int .i64 0, .string ⟨#[]⟩, .int .i64 0, .int .i64 0, .string ⟨#[]⟩, .int .i64 0] 29) = W0 at *
    have HR : RA t (W0.alloc (.cells #[.string t, .int .i64 0, .int .i64 0] 71)) (w.heap.size + 1) (t, 0) := hz ▸ ⟨ht, 0, Nat.zero_le _, IsRR.new W0 t 0 0 71, left_0 t⟩
    have hA := (Below.refl W0.heap.size W0).alloc (Nat.le_refl _) (.cells #[.string t, .int .i64 0, .int .i64 0] 71)
    have h2g : ¬ w.heap.size = w.heap.size + 1 := by omega
    have hgB : w.heap.size ≤ w.heap.size + 1 := by omega
    replace H2 := Lib.hid (H2.below hA)
    replace HB := Lib.hid (bt HB hA)
    clear hA hz
    generalize W0.alloc (.cells #[.string t, .int .i64 0, .int .i64 0] 71) = W1 at *
    generalize w.heap.size + 1 = g at *
    refine (CN.out _ _ HR).mono ?_
    rintro e' W2 ⟨rfl, hR, hA⟩
    have h5g : ¬ W2.heap.size = g := Nat.ne_of_gt hR.lt
    have h52 : ¬ w.heap.size = W2.heap.size := Nat.ne_of_lt (Nat.lt_of_lt_of_le H2.out.lt hA.size)
    replace H2 := Lib.hid (H2.out.frm hA h2g)
    replace HB := Lib.hid (hA.after HB.out (Nat.le_trans (Nat.le_refl _) HB.out.size) (fun k hk e => Nat.lt_irrefl k (Nat.lt_of_lt_of_le hk (e ▸ hgB))))
    have h5B : w.heap.size ≤ W2.heap.size := HB.out.size
    clear hA HR
    have hA := (Below.refl W2.heap.size W2).alloc (Nat.le_refl _) (.cells #[.int .i64 kk, .int .i64 0, .int .i64 0, .int .i64 0, .int .i64 0, .int .i64 0, .int .i64 0, .string ⟨#[]⟩, .int .i64 0, .int .i64 0, .string ⟨#[]⟩, .int .i64 0, .int .i64 0, .string ⟨#[]⟩, .int .i64 0] 29)
    have HR := hR
    clear hR
    have H5 : MBox (W2.alloc (.cells #[.int .i64 kk, .int .i64 0, .int .i64 0, .int .i64 0, .int .i64 0, .int .i64 0, .int .i64 0, .string ⟨#[]⟩, .int .i64 0, .int .i64 0, .string ⟨#[]⟩, .int .i64 0, .int .i64 0, .string ⟨#[]⟩, .int .i64 0] 29)) W2.heap.size ⟨kk, 0, 0, 0, ⟨0, 0, 0, ⟨#[]⟩, ⟨0, 0, ⟨#[]⟩⟩, ⟨0, 0, ⟨#[]⟩⟩⟩, 0⟩ := MBox.new W2 kk 0 0 0 ⟨0, 0, 0, ⟨#[]⟩, ⟨0, 0, ⟨#[]⟩⟩, ⟨0, 0, ⟨#[]⟩⟩⟩ 0 29
    replace H2 := Lib.hid (H2.out.below hA)
    replace HB := Lib.hid (bt HB.out hA)
    replace HR := HR.frm (S := fun _ => False) (Frm.ofBelow hA) (fun x => x)
    clear hA
    obtain ⟨c0, c1, c2, c3, c4, c5, c6, c7, c8, c9, c10, c11, c12, c13, c14⟩ := id H5.1
    obtain ⟨⟨d0, d1, d2, d3, d4, d5, d6, d7, d8, d9, d10, d11, d12, d13, d14⟩, yf⟩ := id H2.out
    have y0 := yf 0 (by decide)
    have y1 := yf 1 (by decide)
    have y2 := yf 2 (by decide)
    have y3 := yf 3 (by decide)
    have y4 := yf 4 (by decide)
    have y5 := yf 5 (by decide)
    have y6 := yf 6 (by decide)
    have y7 := yf 7 (by decide)
    have y8 := yf 8 (by decide)
    have y9 := yf 9 (by decide)
    have y10 := yf 10 (by decide)
    have y11 := yf 11 (by decide)
    have y12 := yf 12 (by decide)
    have y13 := yf 13 (by decide)
    have y14 := yf 14 (by decide)
    clear yf
    go_wp2
    refine bodyPost_ret (v := .tuple #[.agg #[.int .i64 0, .int .i64 0, .int .i64 0, .int .i64 0, .int .i64 0, .int .i64 0, .int .i64 0, .string ⟨#[]⟩, .int .i64 0, .int .i64 0, .string ⟨#[]⟩, .int .i64 0, .int .i64 0, .string ⟨#[]⟩, .int .i64 0], .int .i64 7]) (by simp [results, Try.results14, go_sem, d0, d1, d2, d3, d4, d5, d6, d7, d8, d9, d10, d11, d12, d13, d14]) rfl ⟨by rfl, ?_⟩
    first | with_reducible exact HB.out | with_reducible exact HB | skip
    repeat (first | with_reducible exact HB.out | with_reducible exact HB | with_reducible refine Below.setCell ?_ (by first | (simp; done) | (simp; omega)) _)
  · have dk1 : decide (gK t < 1) = false := decide_eq_false h1
    have dk2 : decide (8 < gK t) = true := decide_eq_true (hk.resolve_left h1)
    clear hk h1
    generalize gK t = kk at *
    generalize gz t = z1 at *
    have H2 : MBox (w.alloc (.cells #[.int .i64 0, .int .i64 0, .int .i64 0, .int .i64 0, .int .i64 0, .int .i64 0, .int .i64 0, .string ⟨#[]⟩, .int .i64 0, .int .i64 0, .string ⟨#[]⟩, .int .i64 0, .int .i64 0, .string ⟨#[]⟩, .int .i64 0] 29)) w.heap.size ⟨0, 0, 0, 0, ⟨0, 0, 0, ⟨#[]⟩, ⟨0, 0, ⟨#[]⟩⟩, ⟨0, 0, ⟨#[]⟩⟩⟩, 0⟩ := MBox.new w 0 0 0 0 ⟨0, 0, 0, ⟨#[]⟩, ⟨0, 0, ⟨#[]⟩⟩, ⟨0, 0, ⟨#[]⟩⟩⟩ 0 29
    have HB : Below w.heap.size w (w.alloc (.cells #[.int .i64 0, .int .i64 0, .int .i64 0, .int .i64 0, .int .i64 0, .int .i64 0, .int .i64 0, .string ⟨#[]⟩, .int .i64 0, .int .i64 0, .string ⟨#[]⟩, .int .i64 0, .int .i64 0, .string ⟨#[]⟩, .int .i64 0] 29)) := (Below.refl _ _).alloc (Nat.le_refl _) _
    go_enter Try.func14, Try.ntmps14
    go_wp2_with fail
    generalize w.alloc (.cells #[.int .i64 0, .int .i64 0, .int .i64 0, .int .i64 0, .int .i64 0, .int .i64 0, .int .i64 0, .string ⟨#[]⟩, .int .i64 0, .int .i64 0, .string ⟨#[]⟩, .int .i64 0, .int .i64 0, .string ⟨#[]⟩, .int .i64 0] 29) = W0 at *
    have HR : RA t (W0.alloc (.cells #[.string t, .int .i64 0, .int .i64 0] 71)) (w.heap.size + 1) (t, 0) := hz ▸ ⟨ht, 0, Nat.zero_le _, IsRR.new W0 t 0 0 71, left_0 t⟩
    have hA := (Below.refl W0.heap.size W0).alloc (Nat.le_refl _) (.cells #[.string t, .int .i64 0, .int .i64 0] 71)
    have h2g : ¬ w.heap.size = w.heap.size + 1 := by omega
    have hgB : w.heap.size ≤ w.heap.size + 1 := by omega
    replace H2 := Lib.hid (H2.below hA)
    replace HB := Lib.hid (bt HB hA)
    clear hA hz
    generalize W0.alloc (.cells #[.string t, .int .i64 0, .int .i64 0] 71) = W1 at *
    generalize w.heap.size + 1 = g at *
    refine (CN.out _ _ HR).mono ?_
    rintro e' W2 ⟨rfl, hR, hA⟩
    have h5g : ¬ W2.heap.size = g := Nat.ne_of_gt hR.lt
    have h52 : ¬ w.heap.size = W2.heap.size := Nat.ne_of_lt (Nat.lt_of_lt_of_le H2.out.lt hA.size)
    replace H2 := Lib.hid (H2.out.frm hA h2g)
    replace HB := Lib.hid (hA.after HB.out (Nat.le_trans (Nat.le_refl _) HB.out.size) (fun k hk e => Nat.lt_irrefl k (Nat.lt_of_lt_of_le hk (e ▸ hgB))))
    have h5B : w.heap.size ≤ W2.heap.size := HB.out.size
    clear hA HR
    have hA := (Below.refl W2.heap.size W2).alloc (Nat.le_refl _) (.cells #[.int .i64 kk, .int .i64 0, .int .i64 0, .int .i64 0, .int .i64 0, .int .i64 0, .int .i64 0, .string ⟨#[]⟩, .int .i64 0, .int .i64 0, .string ⟨#[]⟩, .int .i64 0, .int .i64 0, .string ⟨#[]⟩, .int .i64 0] 29)
    have HR := hR
    clear hR
    have H5 : MBox (W2.alloc (.cells #[.int .i64 kk, .int .i64 0, .int .i64 0, .int .i64 0, .int .i64 0, .int .i64 0, .int .i64 0, .string ⟨#[]⟩, .int .i64 0, .int .i64 0, .string ⟨#[]⟩, .int .i64 0, .int .i64 0, .string ⟨#[]⟩, .int .i64 0] 29)) W2.heap.size ⟨kk, 0, 0, 0, ⟨0, 0, 0, ⟨#[]⟩, ⟨0, 0, ⟨#[]⟩⟩, ⟨0, 0, ⟨#[]⟩⟩⟩, 0⟩ := MBox.new W2 kk 0 0 0 ⟨0, 0, 0, ⟨#[]⟩, ⟨0, 0, ⟨#[]⟩⟩, ⟨0, 0, ⟨#[]⟩⟩⟩ 0 29
    replace H2 := Lib.hid (H2.out.below hA)
    replace HB := Lib.hid (bt HB.out hA)
    replace HR := HR.frm (S := fun _ => False) (Frm.ofBelow hA) (fun x => x)
    clear hA
    obtain ⟨c0, c1, c2, c3, c4, c5, c6, c7, c8, c9, c10, c11, c12, c13, c14⟩ := id H5.1
    obtain ⟨⟨d0, d1, d2, d3, d4, d5, d6, d7, d8, d9, d10, d11, d12, d13, d14⟩, yf⟩ := id H2.out
    have y0 := yf 0 (by decide)
    have y1 := yf 1 (by decide)
    have y2 := yf 2 (by decide)
    have y3 := yf 3 (by decide)
    have y4 := yf 4 (by decide)
    have y5 := yf 5 (by decide)
    have y6 := yf 6 (by decide)
    have y7 := yf 7 (by decide)
    have y8 := yf 8 (by decide)
    have y9 := yf 9 (by decide)
    have y10 := yf 10 (by decide)
    have y11 := yf 11 (by decide)
    have y12 := yf 12 (by decide)
    have y13 := yf 13 (by decide)
    have y14 := yf 14 (by decide)
    clear yf
    go_wp2
    refine bodyPost_ret (v := .tuple #[.agg #[.int .i64 0, .int .i64 0, .int .i64 0, .int .i64 0, .int .i64 0, .int .i64 0, .int .i64 0, .string ⟨#[]⟩, .int .i64 0, .int .i64 0, .string ⟨#[]⟩, .int .i64 0, .int .i64 0, .string ⟨#[]⟩, .int .i64 0], .int .i64 7]) (by simp [results, Try.results14, go_sem, d0, d1, d2, d3, d4, d5, d6, d7, d8, d9, d10, d11, d12, d13, d14]) rfl ⟨by rfl, ?_⟩
    first | with_reducible exact HB.out | with_reducible exact HB | skip
    repeat (first | with_reducible exact HB.out | with_reducible exact HB | with_reducible refine Below.setCell ?_ (by first | (simp; done) | (simp; omega)) _)
end Go.Proofs.Ytemfdmbjlmiopaa
