/-
  Rules (chapter 42): their words, what is wrong with them, whom they cover.
-/
import Derived.Test.YtnflnaalpeeciaaDoorRows
import Derived.Test.YtnflnaalpeeciaaDoorMine
import Derived.Test.YtnflnaalpeeciaaDoorPolPlain
import Derived.WalkKit
import Derived.WalkSpells
import Derived.WalkLawsBesides
import Derived.Lib.Hide
import Derived.Handy
namespace Go.Proofs.YtnflnaalpeeciaaDoor
open Go.RowKit
set_option linter.unusedVariables false
set_option linter.unusedSimpArgs false
set_option maxRecDepth 20000

theorem alb (W : World) (o : Obj) : Below W.heap.size W (W.alloc o) := (Below.refl _ _).alloc (Nat.le_refl _) _
theorem inR_cases {k : Int} (h : inR k = true) : k = 1 ∨ k = 2 ∨ k = 3 ∨ k = 4 ∨ k = 5 := by
  unfold inR at h
  simp at h
  omega
theorem notR {k : Int} (h : inR k = false) : (k == 1) = false ∧ (k == 2) = false ∧ (k == 3) = false ∧ (k == 4) = false ∧ (k == 5) = false := by
  have h := of_decide_eq_false h
  refine ⟨?_, ?_, ?_, ?_, ?_⟩ <;> (rw [beq_eq_false_iff_ne]; omega)
theorem nameR_not {k : Int} (h : inR k = false) : nameR k = ⟨#[]⟩ := by
  have h := of_decide_eq_false h
  unfold nameR
  rw [if_neg (by omega), if_neg (by omega), if_neg (by omega), if_neg (by omega), if_neg (by omega)]
theorem nameR_emp (k : Int) : (nameR k).toList.isEmpty = !inR k := by
  rw [empty_size]
  cases hk : inR k with
  | true => rcases inR_cases hk with rfl | rfl | rfl | rfl | rfl <;> rfl
  | false => rw [nameR_not hk]; rfl
theorem name_any (k : Int) (w : World) : Calls Tryd.prog 33 #[.int .i64 k] w fun e w' => e = .returned (.string (nameR k)) ∧ w' = w := by
  cases hk : inR k with
  | true =>
    rcases inR_cases hk with rfl | rfl | rfl | rfl | rfl
    all_goals
      clear hk
      go_enter Tryd.func33, Tryd.ntmps33
      go_wp2
      go_ret
      exact ⟨rfl, rfl⟩
  | false =>
    obtain ⟨d1, d2, d3, d4, d5⟩ := notR hk
    rw [nameR_not hk]
    clear hk
    go_enter Tryd.func33, Tryd.ntmps33
    go_wp2
    go_ret
    exact ⟨rfl, rfl⟩
theorem rname_any (k : Int) (w : World) : Calls Tryd.prog 35 #[.int .i64 k] w fun e w' => e = .returned (.string (nameR k)) ∧ Below w.heap.size w w' := by
  have hB : ∀ a, Below w.heap.size w (w.alloc (.cells a 9)) := fun a => (Below.refl _ _).alloc (Nat.le_refl _) _
  have hB := Lib.hid hB
  cases hk : inR k with
  | true =>
    rcases inR_cases hk with rfl | rfl | rfl | rfl | rfl
    all_goals
      clear hk
      go_enter Tryd.func35, Tryd.ntmps35
      go_wp2
      go_ret
      exact ⟨rfl, hB.out _⟩
  | false =>
    rw [nameR_not hk]
    have h := of_decide_eq_false hk
    by_cases h1 : k < 1
    · have g1 : decide (k < 1) = true := decide_eq_true h1
      clear hk h h1
      go_enter Tryd.func35, Tryd.ntmps35
      go_wp2
      go_ret
      exact ⟨rfl, hB.out _⟩
    · have g1 : decide (k < 1) = false := decide_eq_false h1
      have g2 : decide (5 < k) = true := decide_eq_true (by omega)
      clear hk h h1
      go_enter Tryd.func35, Tryd.ntmps35
      go_wp2
      go_ret
      exact ⟨rfl, hB.out _⟩
def rlV (r : Rl) : Value := .agg #[.int .i64 r.k, .int .i64 r.a, .int .i64 r.b]
structure HRl (W : World) (K : Nat) (k a b : Int) : Prop where
  c0 : W.cell? ⟨K, 0, none⟩ = some (.int .i64 k)
  c1 : W.cell? ⟨K, 1, none⟩ = some (.int .i64 a)
  c2 : W.cell? ⟨K, 2, none⟩ = some (.int .i64 b)
theorem HRl.below {W W' : World} {K : Nat} {k a b : Int} (h : HRl W K k a b) (hb : Below W.heap.size W W') : HRl W' K k a b := ⟨bkeep hb h.c0, bkeep hb h.c1, bkeep hb h.c2⟩
theorem HRl.new (W : World) (T : TypeId) (k a b : Int) : HRl (W.alloc (.cells #[.int .i64 k, .int .i64 a, .int .i64 b] T)) W.heap.size k a b := ⟨by simp [go_sem], by simp [go_sem], by simp [go_sem]⟩
def chkG (i : Bool) (a b : Int) : Int := if i then if a < 0 ∨ b < a ∨ 24 ≤ b then 3 else 0 else 7
theorem chkR_eq (r : Rl) : chkR r = chkG (inR r.k) r.a r.b := rfl
theorem check_any (r : Rl) (w : World) : Calls Tryd.prog 20 #[rlV r] w fun e w' => e = .returned (.int .i64 (chkR r)) ∧ Below w.heap.size w w' := by
  rw [chkR_eq]
  have hO := fun w => name_any r.k w
  have hnm := nameR_emp r.k
  obtain ⟨k, a, b⟩ := r
  unfold rlV
  simp only at hO hnm ⊢
  generalize nameR k = nm at *
  generalize inR k = i at *
  have hE0 : ∀ (v : Int) W, v = chkG i a b → Below w.heap.size w W → (fun (e1 : Ending) (w' : World) => e1 = .returned (.int .i64 (chkG i a b)) ∧ Below w.heap.size w w') (.returned (.int .i64 v)) W := by
    rintro v W rfl hb
    exact ⟨rfl, hb⟩
  generalize (fun (e1 : Ending) (w' : World) => e1 = .returned (.int .i64 (chkG i a b)) ∧ Below w.heap.size w w') = Pst at *
  have hE := Lib.hid hE0
  clear hE0
  have hO := Lib.hid hO
  obtain ⟨W0, hW0⟩ : ∃ W0, w.alloc (.cells #[.int .i64 k, .int .i64 a, .int .i64 b] 29) = W0 := ⟨_, rfl⟩
  obtain ⟨c0, c1, c2⟩ := hW0 ▸ HRl.new w 29 k a b
  have hb0 := Lib.hid (hW0 ▸ alb w _ : Below w.heap.size w W0)
  go_enter Tryd.func20, Tryd.ntmps20
  go_wp2_with (go_at_call 33; (with_reducible refine (hO.out _).mono ?_); rintro e1 w1 ⟨rfl, rfl⟩)
  all_goals
    refine hE.out _ _ ?_ hb0.out
    clear hE hO hb0 hW0 c0 c1 c2
    unfold chkG
    cases i <;> simp_all <;> omega
theorem rcheck_any (r : Rl) (w : World) : Calls Tryd.prog 21 #[rlV r] w fun e w' => e = .returned (.int .i64 (chkR r)) ∧ Below w.heap.size w w' := by
  rw [chkR_eq]
  have hO := fun w => rname_any r.k w
  have hnm := nameR_emp r.k
  obtain ⟨k, a, b⟩ := r
  unfold rlV
  simp only at hO hnm ⊢
  generalize nameR k = nm at *
  generalize inR k = i at *
  have hE0 : ∀ (v : Int) W, v = chkG i a b → Below w.heap.size w W → (fun (e1 : Ending) (w' : World) => e1 = .returned (.int .i64 (chkG i a b)) ∧ Below w.heap.size w w') (.returned (.int .i64 v)) W := by
    rintro v W rfl hb
    exact ⟨rfl, hb⟩
  generalize (fun (e1 : Ending) (w' : World) => e1 = .returned (.int .i64 (chkG i a b)) ∧ Below w.heap.size w w') = Pst at *
  have hE := Lib.hid hE0
  clear hE0
  have hO := Lib.hid hO
  obtain ⟨W0, hW0⟩ : ∃ W0, w.alloc (.cells #[.int .i64 k, .int .i64 a, .int .i64 b] 29) = W0 := ⟨_, rfl⟩
  have hc := Lib.hid (hW0 ▸ HRl.new w 29 k a b)
  have hb0 := Lib.hid (hW0 ▸ alb w _ : Below w.heap.size w W0)
  have c0 := hc.out.c0
  go_enter Tryd.func21, Tryd.ntmps21
  go_wp2_with (go_at_call 35; (with_reducible refine (hO.out _).mono ?_); rintro e1 w1 ⟨rfl, hb1⟩; have hb2 := bt hb0.out hb1; obtain ⟨q0, q1, q2⟩ := hc.out.below hb1)
  all_goals
    refine hE.out _ _ ?_ hb2
    clear hE hO hb0 hW0 hc c0 hb1 hb2 q0 q1 q2
    unfold chkG
    cases i <;> simp_all <;> omega
def finG (z : Bool) (k : Int) : Bool := z && decide (k = 1 ∨ k = 2 ∨ k = 5)
theorem final_any (r : Rl) (w : World) : Calls Tryd.prog 23 #[rlV r] w fun e w' => e = .returned (.bool (decide (chkR r = 0) && finK r.k)) ∧ Below w.heap.size w w' := by
  have hO := fun w => check_any r w
  obtain ⟨k, a, b⟩ := r
  unfold rlV at hO ⊢
  simp only at hO ⊢
  generalize chkR ⟨k, a, b⟩ = z at *
  have hE0 : ∀ (v : Bool) W, v = (decide (z = 0) && finK k) → Below w.heap.size w W → (fun (e1 : Ending) (w' : World) => e1 = .returned (.bool (decide (z = 0) && finK k)) ∧ Below w.heap.size w w') (.returned (.bool v)) W := by
    rintro v W rfl hb
    exact ⟨rfl, hb⟩
  generalize (fun (e1 : Ending) (w' : World) => e1 = .returned (.bool (decide (z = 0) && finK k)) ∧ Below w.heap.size w w') = Pst at *
  have hE := Lib.hid hE0
  clear hE0
  have hO := Lib.hid hO
  obtain ⟨W0, hW0⟩ : ∃ W0, w.alloc (.cells #[.int .i64 k, .int .i64 a, .int .i64 b] 29) = W0 := ⟨_, rfl⟩
  have hc := Lib.hid (hW0 ▸ HRl.new w 29 k a b)
  obtain ⟨c0, c1, c2⟩ := hc.out
  have hb0 := Lib.hid (hW0 ▸ alb w _ : Below w.heap.size w W0)
  go_enter Tryd.func23, Tryd.ntmps23
  go_wp2_with (go_at_call 20; (with_reducible refine (hO.out _).mono ?_); rintro e1 w1 ⟨rfl, hb1⟩; have hb2 := bt hb0.out hb1; obtain ⟨q0, q1, q2⟩ := hc.out.below hb1)
  all_goals
    refine hE.out _ _ ?_ hb2
    clear hE hb0 hW0 hc c0 c1 c2 hb1 hb2 q0 q1 q2
    clear hO
    unfold finK
    by_cases h1 : k = 1 <;> by_cases h2 : k = 2 <;> by_cases h5 : k = 5 <;> simp_all
theorem covers_any (r : Rl) (x : Int) (w : World) : Calls Tryd.prog 26 #[rlV r, .int .i64 x] w fun e w' => e = .returned (.bool (covR r x)) ∧ Below w.heap.size w w' := by
  have hO := fun w => check_any r w
  unfold covR
  obtain ⟨k, a, b⟩ := r
  unfold rlV at hO ⊢
  simp only at hO ⊢
  generalize chkR ⟨k, a, b⟩ = z at *
  have hE0 : ∀ (v : Bool) W, v = decide (z = 0 ∧ a ≤ x ∧ x ≤ b) → Below w.heap.size w W → (fun (e1 : Ending) (w' : World) => e1 = .returned (.bool (decide (z = 0 ∧ a ≤ x ∧ x ≤ b))) ∧ Below w.heap.size w w') (.returned (.bool v)) W := by
    rintro v W rfl hb
    exact ⟨rfl, hb⟩
  generalize (fun (e1 : Ending) (w' : World) => e1 = .returned (.bool (decide (z = 0 ∧ a ≤ x ∧ x ≤ b))) ∧ Below w.heap.size w w') = Pst at *
  have hE := Lib.hid hE0
  clear hE0
  have hO := Lib.hid hO
  obtain ⟨W0, hW0⟩ : ∃ W0, w.alloc (.cells #[.int .i64 k, .int .i64 a, .int .i64 b] 29) = W0 := ⟨_, rfl⟩
  have hc := Lib.hid (hW0 ▸ HRl.new w 29 k a b)
  obtain ⟨c0, c1, c2⟩ := hc.out
  have hb0 := Lib.hid (hW0 ▸ alb w _ : Below w.heap.size w W0)
  go_enter Tryd.func26, Tryd.ntmps26
  go_wp2_with (go_at_call 20; (with_reducible refine (hO.out _).mono ?_); rintro e1 w1 ⟨rfl, hb1⟩; have hb2 := bt hb0.out hb1; obtain ⟨q0, q1, q2⟩ := hc.out.below hb1)
  all_goals
    refine hE.out _ _ ?_ hb2
    clear hE hb0 hW0 hc c0 c1 c2 hb1 hb2 q0 q1 q2
    clear hO
    simp_all <;> omega
theorem rcovers_any (r : Rl) (x : Int) (w : World) : Calls Tryd.prog 28 #[rlV r, .int .i64 x] w fun e w' => e = .returned (.bool (covR r x)) ∧ Below w.heap.size w w' := by
  have hO := fun w => rcheck_any r w
  unfold covR
  obtain ⟨k, a, b⟩ := r
  unfold rlV at hO ⊢
  simp only at hO ⊢
  generalize chkR ⟨k, a, b⟩ = z at *
  have hE0 : ∀ (v : Bool) W, v = decide (z = 0 ∧ a ≤ x ∧ x ≤ b) → Below w.heap.size w W → (fun (e1 : Ending) (w' : World) => e1 = .returned (.bool (decide (z = 0 ∧ a ≤ x ∧ x ≤ b))) ∧ Below w.heap.size w w') (.returned (.bool v)) W := by
    rintro v W rfl hb
    exact ⟨rfl, hb⟩
  generalize (fun (e1 : Ending) (w' : World) => e1 = .returned (.bool (decide (z = 0 ∧ a ≤ x ∧ x ≤ b))) ∧ Below w.heap.size w w') = Pst at *
  have hE := Lib.hid hE0
  clear hE0
  have hO := Lib.hid hO
  obtain ⟨W0, hW0⟩ : ∃ W0, w.alloc (.cells #[.int .i64 k, .int .i64 a, .int .i64 b] 29) = W0 := ⟨_, rfl⟩
  have hc := Lib.hid (hW0 ▸ HRl.new w 29 k a b)
  obtain ⟨c0, c1, c2⟩ := hc.out
  have hb0 := Lib.hid (hW0 ▸ alb w _ : Below w.heap.size w W0)
  go_enter Tryd.func28, Tryd.ntmps28
  go_wp2_with (go_at_call 21; (with_reducible refine (hO.out _).mono ?_); rintro e1 w1 ⟨rfl, hb1⟩; have hb2 := bt hb0.out hb1; obtain ⟨q0, q1, q2⟩ := hc.out.below hb1)
  all_goals
    refine hE.out _ _ ?_ hb2
    clear hE hb0 hW0 hc c0 c1 c2 hb1 hb2 q0 q1 q2
    clear hO
    simp_all <;> omega
end Go.Proofs.YtnflnaalpeeciaaDoor
