/-
  Commands (chapter 33): checked.
-/
import Derived.Test.YtkcnpahnhmcegaaCon
namespace Go.Proofs.Ytkcnpahnhmcegaa
open Go.RowKit
set_option linter.unusedVariables false
set_option linter.unusedSimpArgs false

def chkF (i a b d : Bool) (e sd : Int) (n : Nat) : Int :=
  if i = false then 70 else
  if (a = true ∧ ¬ (0 ≤ e ∧ e ≤ 23)) ∨ (b = true ∧ ¬ (0 ≤ sd ∧ sd ≤ 1)) then 3 else
  if 200 < n then 11 else
  if (a = false ∧ e ≠ 0) ∨ (b = false ∧ sd ≠ 0) ∨ (d = false ∧ n ≠ 0) then 4 else 0
theorem chkC_eq (c : Cmd) : chkC c = chkF (inK c.k) (hE c.k) (hS c.k) (hB c.k) c.e c.sd c.d.size := rfl
/-- a block that holds a command -/
structure HCmd (W : World) (K : Nat) (k e sd : Int) (d : ByteArray) : Prop where
  c0 : W.cell? ⟨K, 0, none⟩ = some (.int .i64 k)
  c1 : W.cell? ⟨K, 1, none⟩ = some (.int .i64 e)
  c2 : W.cell? ⟨K, 2, none⟩ = some (.int .i64 sd)
  c3 : W.cell? ⟨K, 3, none⟩ = some (.string d)
theorem HCmd.below {W W' : World} {K : Nat} {k e sd : Int} {d : ByteArray} (h : HCmd W K k e sd d) (hb : Below W.heap.size W W') : HCmd W' K k e sd d := ⟨bkeep hb h.c0, bkeep hb h.c1, bkeep hb h.c2, bkeep hb h.c3⟩
theorem HCmd.new (W : World) (T : TypeId) (k e sd : Int) (d : ByteArray) : HCmd (W.alloc (.cells #[.int .i64 k, .int .i64 e, .int .i64 sd, .string d] T)) W.heap.size k e sd d := ⟨by simp [go_sem], by simp [go_sem], by simp [go_sem], by simp [go_sem]⟩
structure HShp (W : World) (K : Nat) (s : ByteArray) (a b d : Bool) : Prop where
  c0 : W.cell? ⟨K, 0, none⟩ = some (.string s)
  c1 : W.cell? ⟨K, 1, none⟩ = some (.bool a)
  c2 : W.cell? ⟨K, 2, none⟩ = some (.bool b)
  c3 : W.cell? ⟨K, 3, none⟩ = some (.bool d)
theorem HShp.below {W W' : World} {K : Nat} {s : ByteArray} {a b d : Bool} (h : HShp W K s a b d) (hb : Below W.heap.size W W') : HShp W' K s a b d := ⟨bkeep hb h.c0, bkeep hb h.c1, bkeep hb h.c2, bkeep hb h.c3⟩
theorem HShp.new (W : World) (T : TypeId) (s : ByteArray) (a b d : Bool) : HShp (W.alloc (.cells #[.string s, .bool a, .bool b, .bool d] T)) W.heap.size s a b d := ⟨by simp [go_sem], by simp [go_sem], by simp [go_sem], by simp [go_sem]⟩
structure HHas (W : World) (K : Nat) (a b d : Bool) : Prop where
  c0 : W.cell? ⟨K, 0, none⟩ = some (.bool a)
  c1 : W.cell? ⟨K, 1, none⟩ = some (.bool b)
  c2 : W.cell? ⟨K, 2, none⟩ = some (.bool d)
theorem HHas.below {W W' : World} {K : Nat} {a b d : Bool} (h : HHas W K a b d) (hb : Below W.heap.size W W') : HHas W' K a b d := ⟨bkeep hb h.c0, bkeep hb h.c1, bkeep hb h.c2⟩
theorem HHas.new (W : World) (T : TypeId) (a b d : Bool) : HHas (W.alloc (.cells #[.bool a, .bool b, .bool d] T)) W.heap.size a b d := ⟨by simp [go_sem], by simp [go_sem], by simp [go_sem]⟩
theorem emp_eq0 (d : ByteArray) : (d = ByteArray.empty) = (d.size = 0) := propext ⟨fun h => by rw [h]; rfl, fun h => emp_eq h⟩
theorem emp_eq1 (d : ByteArray) : (d.toList = []) = (d.size = 0) := propext ⟨fun h => by have := congrArg List.length h; rw [ByteArray.toList_eq, data_len] at this; exact this, fun h => by rw [emp_eq h]; exact ba_list []⟩
theorem alb (W : World) (o : Obj) : Below W.heap.size W (W.alloc o) := (Below.refl _ _).alloc (Nat.le_refl _) _
set_option maxHeartbeats 3200000 in
theorem check_any33 (c : Cmd) (w : World) : Calls Try.prog 9 #[cmdV c] w fun e w' => e = .returned (.int .i64 (chkC c)) ∧ Below w.heap.size w w' := by
  rw [chkC_eq]
  have hO := fun w => of_any c.k w
  have hz2 := Lib.hid (And.intro (emp_eq0 c.d) (emp_eq1 c.d))
  obtain ⟨k, e, sd, d⟩ := c
  unfold shV at hO
  unfold cmdV
  simp only at hO hz2 ⊢
  generalize nameK k = nm at *
  generalize inK k = i at *
  generalize Ytkcnpahnhmcegaa.hE k = a at *
  generalize Ytkcnpahnhmcegaa.hS k = b at *
  generalize Ytkcnpahnhmcegaa.hB k = d0 at *
  have hE0 : ∀ (v : Int) W, v = chkF i a b d0 e sd d.size → Below w.heap.size w W → (fun (e1 : Ending) (w' : World) => e1 = .returned (.int .i64 (chkF i a b d0 e sd d.size)) ∧ Below w.heap.size w w') (.returned (.int .i64 v)) W := by
    rintro v W rfl hb
    exact ⟨rfl, hb⟩
  generalize (fun (e1 : Ending) (w' : World) => e1 = .returned (.int .i64 (chkF i a b d0 e sd d.size)) ∧ Below w.heap.size w w') = Pst at *
  have hE := Lib.hid hE0
  clear hE0
  have hO := Lib.hid hO
  obtain ⟨W0, hW0⟩ : ∃ W0, w.alloc (.cells #[.int .i64 k, .int .i64 e, .int .i64 sd, .string d] 23) = W0 := ⟨_, rfl⟩
  have hc := Lib.hid (hW0 ▸ HCmd.new w 23 k e sd d)
  have hb0 := Lib.hid (hW0 ▸ alb w _ : Below w.heap.size w W0)
  have c0 := hc.out.c0
  go_enter Try.func9, Try.ntmps9
  go_wp2_with (first | (go_at_call 17; (with_reducible refine (hO.out _).mono ?_); rintro e1 w1 ⟨rfl, hb1⟩; obtain ⟨W1, hW1⟩ : ∃ W1, w1.alloc (.cells #[.string nm, .bool a, .bool b, .bool d0] 37) = W1 := ⟨_, rfl⟩; have hs := hW1 ▸ HShp.new w1 37 nm a b d0; have hb2 := bt hb0.out (bt hb1 (hW1 ▸ alb w1 _)); obtain ⟨s0, s1, s2, s3⟩ := hs; obtain ⟨q0, q1, q2, q3⟩ := hc.out.below (bt hb1 (hW1 ▸ alb w1 _))) | (go_at_call 23; (with_reducible refine (within_any _ _ _).mono ?_); rintro e1 wx ⟨rfl, rfl⟩))
  all_goals
    refine hE.out _ _ ?_ hb2
    clear hE hO hc hb0 hb2 s0 s1 s2 s3 q0 q1 q2 q3 hW0 hW1
    unfold chkF
    have hzz := hz2.out.2
    clear hz2 hb1 hO c0
    by_cases hn : d.size = 0
    · have hl : d.toList = [] := hzz ▸ hn
      clear hzz
      simp_all <;> omega
    · have hl : ¬ d.toList = [] := fun h => hn (hzz ▸ h)
      clear hzz
      simp_all <;> omega
end Go.Proofs.Ytkcnpahnhmcegaa
