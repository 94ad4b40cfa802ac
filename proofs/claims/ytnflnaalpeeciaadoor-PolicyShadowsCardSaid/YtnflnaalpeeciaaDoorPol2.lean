/-
  What a rule says of a conflict (chapter 42).
-/
import Derived.Test.YtnflnaalpeeciaaDoorPolRows
import Derived.BigQuiet
import Derived.Deep.Cut
namespace Go.Proofs.YtnflnaalpeeciaaDoor
open Go.RowKit
set_option linter.unusedVariables false
set_option linter.unusedSimpArgs false
set_option maxRecDepth 20000

theorem further_any (p : Pr) (w : World) : Calls Tryd.prog 42 #[prV p] w fun e w' => e = .returned (.int .i64 (saysR 3 p)) ∧ Below w.heap.size w w' := by
  have hE0 : ∀ (v : Int) W, v = saysR 3 p → Below w.heap.size w W → (fun (e1 : Ending) (w' : World) => e1 = .returned (.int .i64 (saysR 3 p)) ∧ Below w.heap.size w w') (.returned (.int .i64 v)) W := by
    rintro v W rfl hb
    exact ⟨rfl, hb⟩
  generalize (fun (e1 : Ending) (w' : World) => e1 = .returned (.int .i64 (saysR 3 p)) ∧ Below w.heap.size w w') = Pst at *
  have hE := Lib.hid hE0
  clear hE0
  obtain ⟨W0, hW0⟩ : ∃ W0, w.alloc (.cells #[.int .i64 p.x, .int .i64 p.a1, .int .i64 p.a2, .string p.ad, .int .i64 p.b1, .int .i64 p.b2, .string p.bd] 41) = W0 := ⟨_, rfl⟩
  obtain ⟨c0, c1, c2, c3, c4, c5, c6⟩ := hW0 ▸ HPr.new w 41 p
  have hb0 := Lib.hid (hW0 ▸ alb w _ : Below w.heap.size w W0)
  unfold prV
  have hF : ∀ m, Below w.heap.size w (W0.drewN m) := fun m => bdraws hb0.out m
  replace hF := Lib.hid hF
  have z3 : saysR 3 p = if p.b2 < p.a1 then 1 else if p.a1 < p.b2 then 2 else 0 := by simp [saysR]
  replace z3 := Lib.hid z3
  generalize saysR 3 p = z at *
  go_enter Tryd.func42, Tryd.ntmps42
  go_upto_region 1 with fail
  go_quiet (fail)
  go_wp2
  all_goals
    refine hE.out _ _ ?_ (hF.out _)
    have z := z3.out
    clear z3 hE hF c0 c1 c2 c3 c4 c5 c6 hb0 hW0
    simp_all <;> omega
theorem eq1_any (p : Pr) (w : World) : Calls Tryd.prog 43 #[prV p] w fun e w' => e = .returned (.int .i64 (saysR 4 p)) ∧ Below w.heap.size w w' := by
  have hE0 : ∀ (v : Int) W, v = saysR 4 p → Below w.heap.size w W → (fun (e1 : Ending) (w' : World) => e1 = .returned (.int .i64 (saysR 4 p)) ∧ Below w.heap.size w w') (.returned (.int .i64 v)) W := by
    rintro v W rfl hb
    exact ⟨rfl, hb⟩
  generalize (fun (e1 : Ending) (w' : World) => e1 = .returned (.int .i64 (saysR 4 p)) ∧ Below w.heap.size w w') = Pst at *
  have hE := Lib.hid hE0
  clear hE0
  obtain ⟨W0, hW0⟩ : ∃ W0, w.alloc (.cells #[.int .i64 p.x, .int .i64 p.a1, .int .i64 p.a2, .string p.ad, .int .i64 p.b1, .int .i64 p.b2, .string p.bd] 41) = W0 := ⟨_, rfl⟩
  obtain ⟨c0, c1, c2, c3, c4, c5, c6⟩ := hW0 ▸ HPr.new w 41 p
  have hb0 := Lib.hid (hW0 ▸ alb w _ : Below w.heap.size w W0)
  unfold prV
  by_cases hd : p.ad = p.bd
  · have z3 : saysR 4 p = 1 := by simp [saysR, hd]
    rw [hd] at c3
    have hd2 := Lib.hid hd
    rw [hd] at hW0 ⊢
    clear hd
    go_enter Tryd.func43, Tryd.ntmps43
    go_wp2
    all_goals first | exact hE.out _ _ z3.symm hb0.out | (exfalso; simp_all)
  · have z3 : saysR 4 p = 0 := by simp [saysR, hd]
    have hd1 : (p.ad.toList == p.bd.toList) = false := by
      rw [beq_eq_false_iff_ne]
      intro h
      apply hd
      rw [ByteArray.toList_eq, ByteArray.toList_eq] at h
      cases hx : p.ad; cases hy : p.bd
      rw [hx, hy] at h
      simp at h
      rw [h]
    have hd := Lib.hid hd
    go_enter Tryd.func43, Tryd.ntmps43
    go_wp2
    all_goals first | exact hE.out _ _ z3.symm hb0.out | (exfalso; simp_all)
theorem alw1_any (p : Pr) (K : Nat) (v : Int) (w : World) (h : w.cell? ⟨K, 0, none⟩ = some (.int .i64 v)) : Calls Tryd.prog 49 #[prV p, .pointer (some ⟨K, 0, none⟩)] w fun e w' => e = .returned (.int .i64 v) ∧ Below w.heap.size w w' := by
  unfold prV
  have hb := alb w (.cells #[.int .i64 p.x, .int .i64 p.a1, .int .i64 p.a2, .string p.ad, .int .i64 p.b1, .int .i64 p.b2, .string p.bd] 41)
  have h2 := bkeep hb h
  go_enter Tryd.func49, Tryd.ntmps49
  go_wp2
  go_ret
  exact ⟨rfl, hb⟩
theorem always_any (v : Int) (w : World) : Calls Tryd.prog 41 #[.int .i64 v] w fun e w' => e = .returned (.func (.func 49) #[] #[.pointer (some ⟨w.heap.size, 0, none⟩)]) ∧ w' = w.alloc (.cells #[.int .i64 v] 60) := by
  go_enter Tryd.func41, Tryd.ntmps41
  go_wp2
  go_ret
  exact ⟨rfl, rfl⟩
theorem of_three (w : World) : Calls Tryd.prog 27 #[.int .i64 3] w fun e w' => e = .returned (.func (.func 42) #[] #[]) ∧ w' = w := by
  go_enter Tryd.func27, Tryd.ntmps27
  go_wp2
  go_ret
  exact ⟨rfl, rfl⟩
theorem of_four (w : World) : Calls Tryd.prog 27 #[.int .i64 4] w fun e w' => e = .returned (.func (.func 43) #[] #[]) ∧ w' = w := by
  go_enter Tryd.func27, Tryd.ntmps27
  go_wp2
  go_ret
  exact ⟨rfl, rfl⟩
/-- what is said of all conflicts -/
def OfA (k : Int) (w : World) (e : Ending) (w' : World) : Prop := ∃ K v, e = .returned (.func (.func 49) #[] #[.pointer (some ⟨K, 0, none⟩)]) ∧ w'.cell? ⟨K, 0, none⟩ = some (.int .i64 v) ∧ (∀ p, saysR k p = v) ∧ Below w.heap.size w w'
theorem of_always (k : Int) (h3 : k ≠ 3) (h4 : k ≠ 4) (w : World) : Calls Tryd.prog 27 #[.int .i64 k] w (OfA k w) := by
  have hA : ∀ v, (∀ p, saysR k p = v) → ∀ w', w' = w.alloc (.cells #[.int .i64 v] 60) → OfA k w (.returned (.func (.func 49) #[] #[.pointer (some ⟨w.heap.size, 0, none⟩)])) w' := by
    rintro v hv w' rfl
    exact ⟨_, v, rfl, by simp [go_sem], hv, alb w _⟩
  generalize OfA k w = Pst at *
  replace hA := Lib.hid hA
  cases hk : inR k with
  | true =>
    rcases inR_cases hk with rfl | rfl | rfl | rfl | rfl
    case true.inr.inr.inl => exact absurd rfl h3
    case true.inr.inr.inr.inl => exact absurd rfl h4
    all_goals
      clear hk h3 h4
      go_enter Tryd.func27, Tryd.ntmps27
      go_wp2_with (go_at_call 41; (with_reducible refine (always_any _ _).mono ?_); rintro e1 w1 ⟨rfl, rfl⟩)
      exact hA.out _ (fun p => by simp [saysR]) _ rfl
  | false =>
    obtain ⟨d1, d2, d3, d4, d5⟩ := notR hk
    have hz : ∀ p, saysR k p = 0 := fun p => by
      have h := of_decide_eq_false hk
      unfold saysR
      rw [if_neg (by omega), if_neg (by omega), if_neg (by omega), if_neg (by omega), if_neg (by omega)]
    clear hk h3 h4
    replace hz := Lib.hid hz
    go_enter Tryd.func27, Tryd.ntmps27
    go_wp2_with (go_at_call 41; (with_reducible refine (always_any _ _).mono ?_); rintro e1 w1 ⟨rfl, rfl⟩)
    exact hA.out _ hz.out _ rfl
theorem says_cases (k : Int) (p : Pr) : saysR k p = 0 ∨ saysR k p = 1 ∨ saysR k p = 2 ∨ saysR k p = 3 := by
  unfold saysR
  repeat' split
  all_goals simp
def rsV (v : Int) : Int := if v = 0 then -1 else if v = 3 then -2 else v - 1
theorem rsays_any (r : Rl) (p : Pr) (w : World) : Calls Tryd.prog 29 #[rlV r, prV p] w fun e w' => e = .returned (.int .i64 (rsV (saysR r.k p))) ∧ Below w.heap.size w w' := by
  obtain ⟨k, a, b⟩ := r
  unfold rlV prV
  simp only
  have hE0 : ∀ (v : Int) W, v = rsV (saysR k p) → Below w.heap.size w W → (fun (e1 : Ending) (w' : World) => e1 = .returned (.int .i64 (rsV (saysR k p))) ∧ Below w.heap.size w w') (.returned (.int .i64 v)) W := by
    rintro v W rfl hb
    exact ⟨rfl, hb⟩
  generalize (fun (e1 : Ending) (w' : World) => e1 = .returned (.int .i64 (rsV (saysR k p))) ∧ Below w.heap.size w w') = Pst at *
  have hE := Lib.hid hE0
  clear hE0
  obtain ⟨W1, hW1⟩ : ∃ W1, w.alloc (.cells #[.int .i64 k, .int .i64 a, .int .i64 b] 29) = W1 := ⟨_, rfl⟩
  obtain ⟨W0, hW0⟩ : ∃ W0, W1.alloc (.cells #[.int .i64 p.x, .int .i64 p.a1, .int .i64 p.a2, .string p.ad, .int .i64 p.b1, .int .i64 p.b2, .string p.bd] 41) = W0 := ⟨_, rfl⟩
  obtain ⟨c0, c1, c2, c3, c4, c5, c6⟩ := hW0 ▸ HPr.new W1 41 p
  have hb1 : Below W1.heap.size W1 W0 := hW0 ▸ alb W1 _
  obtain ⟨d0, d1, d2⟩ := (hW1 ▸ HRl.new w 29 k a b).below hb1
  have hb0 := Lib.hid (bt (hW1 ▸ alb w _ : Below w.heap.size w W1) hb1)
  clear hb1
  cases hk : inR k with
  | true =>
    rcases inR_cases hk with rfl | rfl | rfl | rfl | rfl
    · clear hk
      go_enter Tryd.func29, Tryd.ntmps29
      go_wp2
      exact hE.out _ _ (by simp [rsV, saysR]) hb0.out
    · clear hk
      go_enter Tryd.func29, Tryd.ntmps29
      go_wp2
      exact hE.out _ _ (by simp [rsV, saysR]) hb0.out
    · clear hk
      go_enter Tryd.func29, Tryd.ntmps29
      go_wp2
      all_goals
        refine hE.out _ _ ?_ hb0.out
        clear hE hb0 hW0 hW1 c0 c1 c2 c3 c4 c5 c6 d0 d1 d2
        simp_all [rsV, saysR] <;> (try split) <;> omega
    · clear hk
      by_cases hd : p.ad = p.bd
      · have z3 : rsV (saysR 4 p) = 0 := by simp [saysR, rsV, hd]
        rw [hd] at c3
        have hd2 := Lib.hid hd
        rw [hd] at hW0 ⊢
        clear hd
        go_enter Tryd.func29, Tryd.ntmps29
        go_wp2
        all_goals first | exact hE.out _ _ z3.symm hb0.out | (exfalso; simp_all)
      · have z3 : rsV (saysR 4 p) = -1 := by simp [saysR, rsV, hd]
        have hd1 : (p.ad.toList == p.bd.toList) = false := by
          rw [beq_eq_false_iff_ne]
          intro h
          apply hd
          rw [ByteArray.toList_eq, ByteArray.toList_eq] at h
          cases hx : p.ad; cases hy : p.bd
          rw [hx, hy] at h
          simp at h
          rw [h]
        have hd := Lib.hid hd
        go_enter Tryd.func29, Tryd.ntmps29
        go_wp2
        all_goals first | exact hE.out _ _ z3.symm hb0.out | (exfalso; simp_all)
    · clear hk
      go_enter Tryd.func29, Tryd.ntmps29
      go_wp2
      exact hE.out _ _ (by simp [rsV, saysR]) hb0.out
  | false =>
    obtain ⟨e1, e2, e3, e4, e5⟩ := notR hk
    have hz : rsV (saysR k p) = -1 := by
      have h := of_decide_eq_false hk
      unfold saysR
      rw [if_neg (by omega), if_neg (by omega), if_neg (by omega), if_neg (by omega), if_neg (by omega)]
      rfl
    clear hk
    go_enter Tryd.func29, Tryd.ntmps29
    go_wp2
    exact hE.out _ _ hz.symm hb0.out
end Go.Proofs.YtnflnaalpeeciaaDoor
