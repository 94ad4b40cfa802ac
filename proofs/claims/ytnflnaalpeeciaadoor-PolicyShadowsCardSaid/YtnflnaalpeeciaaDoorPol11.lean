/-
  The law's own words (chapter 42): what is great, what is the same, that it works; commands that may be.
-/
import Derived.Test.YtnflnaalpeeciaaDoorPol7
import Derived.Test.YtnflnaalpeeciaaDoorPol10
namespace Go.Proofs.YtnflnaalpeeciaaDoor
open Go.RowKit
set_option linter.unusedVariables false
set_option linter.unusedSimpArgs false
set_option maxRecDepth 20000

def greatP (l : List Pr) : Bool := decide (60 < l.length) || l.any fun y => decide (1000 < y.ad.size ∨ 1000 < y.bd.size)
def GR (w : World) (l : List Pr) (i : Value) (wr : World) : Prop := ∃ k : Nat, k ≤ l.length ∧ k ≤ 60 ∧ i = .int .i64 k ∧ Hid (∀ (j : Nat) y, j < k → l[j]? = some y → ¬ (1000 < y.ad.size ∨ 1000 < y.bd.size)) ∧ Hid (Below w.heap.size w wr)
set_option maxHeartbeats 1600000 in
theorem great_any (v : Value) (l : List Pr) (w : World) (hl : FP.X w v l) (hm : l.length ≤ 9223372036854775807) :
    Calls Tryd.prog 7 #[v] w fun e w' => e = .returned (.bool (greatP l)) ∧ Below w.heap.size w w' := by
  obtain ⟨a, cap, rfl⟩ := hl.any
  replace hl := Lib.hid hl
  obtain ⟨G, hG⟩ : ∃ G, greatP l = G := ⟨_, rfl⟩
  have hG1 : ∀ y, y ∈ l → (1000 < y.ad.size ∨ 1000 < y.bd.size) → true = G := fun y hy h => by rw [← hG]; unfold greatP; rw [List.any_eq_true.2 ⟨y, hy, decide_eq_true h⟩, Bool.or_true]
  have hG2 : 60 < l.length → true = G := fun h => by rw [← hG]; unfold greatP; rw [decide_eq_true h, Bool.true_or]
  have hG3 : ¬ 60 < l.length → (∀ y, y ∈ l → ¬ (1000 < y.ad.size ∨ 1000 < y.bd.size)) → false = G := fun h h2 => by
    rw [← hG]; unfold greatP
    rw [decide_eq_false h, Bool.false_or]
    exact (List.any_eq_false.2 fun y hy => by simpa using h2 y hy).symm
  rw [hG]
  clear hG
  replace hG1 := Lib.hid hG1
  replace hG2 := Lib.hid hG2
  replace hG3 := Lib.hid hG3
  go_enter Tryd.func7, Tryd.ntmps7
  go_wp2
  go_loopw [3] (fun i wr => GR w l i wr) (fun i _ => l.length - (intOf i).toNat)
  case atStart => exact ⟨0, Nat.zero_le _, Nat.zero_le _, rfl, fun j y h => absurd h (Nat.not_lt_zero _), Below.refl _ _⟩
  case round =>
    obtain ⟨k, hk, hk4, rfl, hN, hB⟩ := hrel
    by_cases hlt : k < l.length
    · have hd2 : decide ((k : Int) < (l.length : Int)) = true := decide_eq_true (by omega)
      obtain ⟨y, hy⟩ : ∃ y, l[k]? = some y := ⟨_, List.getElem?_eq_getElem hlt⟩
      obtain ⟨g, o, rfl, p0, p1, p2, p3, p4, p5, p6⟩ := FP.at hl.out k y hy
      have p3 := bkeep hB.out p3
      have p6 := bkeep hB.out p6
      have i1 : (0 : Int) ≤ (k : Int) := by omega
      have i2 : (k : Int) < (l.length : Int) := by omega
      clear p0 p1 p2 p4 p5
      by_cases h4 : 60 ≤ k
      · have e4 : decide ((60 : Int) ≤ (k : Int)) = true := decide_eq_true (by omega)
        have e5 : decide (60 ≤ k) = true := decide_eq_true h4
        have hGG := hG2.out (by omega)
        subst hGG
        clear hy
        go_wp2
        go_ret
        exact ⟨rfl, hB.out⟩
      · have e4 : decide ((60 : Int) ≤ (k : Int)) = false := decide_eq_false (by omega)
        have e5 : decide (60 ≤ k) = false := decide_eq_false h4
        by_cases h6 : 1000 < y.ad.size ∨ 1000 < y.bd.size
        · have hGG := hG1.out y (List.mem_of_getElem? hy) h6
          subst hGG
          clear hy
          by_cases h7 : 1000 < y.ad.size
          · have e6 : decide ((1000 : Int) < (y.ad.size : Int)) = true := decide_eq_true (by omega)
            have e7 : decide (1000 < y.ad.size) = true := decide_eq_true h7
            go_wp2
            go_ret
            exact ⟨rfl, hB.out⟩
          · have h8 : 1000 < y.bd.size := by omega
            have e6 : decide ((1000 : Int) < (y.ad.size : Int)) = false := decide_eq_false (by omega)
            have e7 : decide (1000 < y.ad.size) = false := decide_eq_false h7
            have e8 : decide ((1000 : Int) < (y.bd.size : Int)) = true := decide_eq_true (by omega)
            have e9 : decide (1000 < y.bd.size) = true := decide_eq_true h8
            clear h6
            go_wp2
            go_ret
            exact ⟨rfl, hB.out⟩
        · have h7 : ¬ 1000 < y.ad.size := fun h => h6 (.inl h)
          have h8 : ¬ 1000 < y.bd.size := fun h => h6 (.inr h)
          have e6 : decide ((1000 : Int) < (y.ad.size : Int)) = false := decide_eq_false (by omega)
          have e7 : decide (1000 < y.ad.size) = false := decide_eq_false h7
          have e8 : decide ((1000 : Int) < (y.bd.size : Int)) = false := decide_eq_false (by omega)
          have e9 : decide (1000 < y.bd.size) = false := decide_eq_false h8
          have hN2 : Hid (∀ (j : Nat) y, j < k + 1 → l[j]? = some y → ¬ (1000 < y.ad.size ∨ 1000 < y.bd.size)) := by
            intro j z hj hz
            by_cases e : j = k
            · subst e; rw [hy] at hz; injection hz with hz; subst hz; exact h6
            · exact hN.out j z (by omega) hz
          clear hy h6
          go_wp2
          exact ⟨⟨k + 1, by omega, by omega, by go_num, hN2, hB⟩, by simp [intOf]; omega⟩
    · have hd2 : decide ((k : Int) < (l.length : Int)) = false := decide_eq_false (by omega)
      have hGG := hG3.out (by omega) (fun y hy => by
        obtain ⟨j, hj⟩ := List.mem_iff_getElem?.1 hy
        exact hN.out j y (by have := (List.getElem?_eq_some_iff.1 hj).1; omega) hj)
      subst hGG
      go_wp2
      go_ret
      exact ⟨rfl, hB.out⟩
theorem cm_neq (a b : Int) (W : World) : (binOp .neq 45 (.agg #[.int .i64 3, .int .i64 a, .int .i64 b, .string ByteArray.empty]) (.agg #[.int .i64 3, .int .i64 a, .int .i64 b, .string ByteArray.empty])).run Tryd.prog W = .ok (.bool false) W := by simp [go_sem]
def MR (w : World) (l : List (Int × Int)) (i : Value) (wr : World) : Prop := ∃ k : Nat, k ≤ l.length ∧ i = .int .i64 k ∧ Hid (Below w.heap.size w wr)
set_option maxHeartbeats 1600000 in
theorem same_eq (v1 v2 : Value) (l : List (Int × Int)) (w : World) (h1 : FC.X w v1 l) (h2 : FC.X w v2 l) (hm : l.length ≤ 9223372036854775807) :
    Calls Tryd.prog 9 #[v1, v2] w fun e w' => e = .returned (.bool true) ∧ Below w.heap.size w w' := by
  obtain ⟨a1, cap1, rfl⟩ := h1.any
  obtain ⟨a2, cap2, rfl⟩ := h2.any
  replace h1 := Lib.hid h1
  replace h2 := Lib.hid h2
  go_enter Tryd.func9, Tryd.ntmps9
  go_wp2
  go_loopw [5] (fun i wr => MR w l i wr) (fun i _ => l.length - (intOf i).toNat)
  case atStart => exact ⟨0, Nat.zero_le _, rfl, Below.refl _ _⟩
  case round =>
    obtain ⟨k, hk, rfl, hB⟩ := hrel
    by_cases hlt : k < l.length
    · have hd2 : decide ((k : Int) < (l.length : Int)) = true := decide_eq_true (by omega)
      obtain ⟨y, hy⟩ : ∃ y, l[k]? = some y := ⟨_, List.getElem?_eq_getElem hlt⟩
      obtain ⟨g, o, rfl, p0, p1, p2, p3⟩ := FC.at h1.out k y hy
      obtain ⟨g2, o2, rfl, q0, q1, q2, q3⟩ := FC.at h2.out k y hy
      have p0 := bkeep hB.out p0
      have p1 := bkeep hB.out p1
      have p2 := bkeep hB.out p2
      have p3 := bkeep hB.out p3
      have q0 := bkeep hB.out q0
      have q1 := bkeep hB.out q1
      have q2 := bkeep hB.out q2
      have q3 := bkeep hB.out q3
      have i1 : (0 : Int) ≤ (k : Int) := by omega
      have i2 : (k : Int) < (l.length : Int) := by omega
      have hcm := cm_neq y.1 y.2
      have hfin := Lib.hid (fun n => bdraws hB.out n)
      clear hy
      go_wp2
      go_quiet (fail)
      go_wp2
      exact ⟨⟨k + 1, by omega, by go_num, hfin.out _⟩, by simp [intOf]; omega⟩
    · have hd2 : decide ((k : Int) < (l.length : Int)) = false := decide_eq_false (by omega)
      go_wp2
      go_ret
      exact ⟨rfl, hB.out⟩
theorem ccheck_any (c : Int × Int) (w : World) (h1 : 0 ≤ c.1 ∧ c.1 ≤ 23) (h2 : c.2 = 0 ∨ c.2 = 1) : Calls Tryd.prog 13 #[cmV c] w fun e w' => e = .returned (.int .i64 0) ∧ Below w.heap.size w w' := by
  obtain ⟨x, s⟩ := c
  simp only at h1 h2
  unfold cmV
  simp only
  have hz : ∀ w, (zeroValue 65).run Tryd.prog w = .ok (.agg #[.string ⟨#[]⟩, .bool false, .bool false, .bool false]) w := fun _ => by kernel_rfl
  have d1 : decide (0 ≤ x) = true := decide_eq_true h1.1
  have d2 : decide (x ≤ 23) = true := decide_eq_true h1.2
  have d3 : decide (0 ≤ s) = true := decide_eq_true (by omega)
  have d4 : decide (s ≤ 1) = true := decide_eq_true (by omega)
  have hfin : ∀ o1 o2 o3, Below w.heap.size w (((w.alloc o1).alloc o2).alloc o3) := fun o1 o2 o3 => bt (bt (alb w o1) (alb _ o2)) (alb _ o3)
  have hfin := Lib.hid hfin
  clear h1 h2
  go_enter Tryd.func13, Tryd.ntmps13
  go_wp2
  go_ret
  first
  | exact ⟨rfl, hfin.out _ _ _⟩
  | exact ⟨rfl, bt (alb w _) (alb _ _)⟩
end Go.Proofs.YtnflnaalpeeciaaDoor
