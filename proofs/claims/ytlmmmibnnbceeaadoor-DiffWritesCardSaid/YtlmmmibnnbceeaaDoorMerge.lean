/-
  Two versions of a base (chapter 41): which changed a place.
-/
import Derived.Test.YtlmmmibnnbceeaaDoorDRef2
import Derived.Lib.LazyBuf
import Derived.RegionIn
namespace Go.Proofs.YtlmmmibnnbceeaaDoor
open Go.RowKit
set_option linter.unusedVariables false
set_option linter.unusedSimpArgs false

/-- just b changed a place -/
def pT (o a b : ByteArray) (i : Nat) : Bool := !decide (gd a i = gd b i) && decide (gd a i = gd o i)
/-- both changed a place, and not alike -/
def pC (o a b : ByteArray) (i : Nat) : Bool := (!decide (gd a i = gd b i) && !decide (gd a i = gd o i)) && !decide (gd b i = gd o i)
theorem bne_n (x y : Nat) : ((x : Int) != (y : Int)) = !decide (x = y) := by
  by_cases e : x = y
  · rw [e]; simp
  · rw [decide_eq_false e, bne_iff_ne.2 (by omega)]; rfl
theorem beq_n (x y : Nat) : ((x : Int) == (y : Int)) = decide (x = y) := by
  by_cases e : x = y
  · rw [e]; simp
  · rw [decide_eq_false e, beq_eq_false_iff_ne]; omega
set_option maxHeartbeats 1600000 in
theorem theirs_any (o a b : ByteArray) (i : Nat) (w : World) (ho : i < o.size) (ha : i < a.size) (hb : i < b.size) (hm : i ≤ 1000000) : Calls Tryd.prog 25 #[.agg #[.string o, .string a, .string b], .int .i64 i] w fun e w' => e = .returned (.bool (pT o a b i)) ∧ Below w.heap.size w w' := by
  have go_ := gd_eq ho
  have ga := gd_eq ha
  have gb := gd_eq hb
  have io : (i : Int) < (o.size : Int) := by omega
  have ia : (i : Int) < (a.size : Int) := by omega
  have ib : (i : Int) < (b.size : Int) := by omega
  unfold pT
  by_cases h1 : gd a i = gd b i
  · rw [decide_eq_true h1]
    have q1 : ((gd a i : Int) != (gd b i : Int)) = false := by rw [bne_n, decide_eq_true h1]; rfl
    clear h1
    go_enter Tryd.func25, Tryd.ntmps25
    go_wp2_with fail
    go_region
    go_wp2
    go_ret
    exact ⟨rfl, (alb' w _).drew⟩
  · rw [decide_eq_false h1]
    have q1 : ((gd a i : Int) != (gd b i : Int)) = true := by rw [bne_n, decide_eq_false h1]; rfl
    have q2 := beq_n (gd a i) (gd o i)
    clear h1
    go_enter Tryd.func25, Tryd.ntmps25
    go_wp2_with fail
    go_region
    go_wp2
    go_ret
    exact ⟨rfl, (alb' w _).drew⟩
set_option maxHeartbeats 1600000 in
theorem clashes_any (o a b : ByteArray) (i : Nat) (w : World) (ho : i < o.size) (ha : i < a.size) (hb : i < b.size) (hm : i ≤ 1000000) : Calls Tryd.prog 27 #[.agg #[.string o, .string a, .string b], .int .i64 i] w fun e w' => e = .returned (.bool (pC o a b i)) ∧ Below w.heap.size w w' := by
  have go_ := gd_eq ho
  have ga := gd_eq ha
  have gb := gd_eq hb
  have io : (i : Int) < (o.size : Int) := by omega
  have ia : (i : Int) < (a.size : Int) := by omega
  have ib : (i : Int) < (b.size : Int) := by omega
  unfold pC
  by_cases h1 : gd a i = gd b i
  · rw [decide_eq_true h1]
    have q1 : ((gd a i : Int) != (gd b i : Int)) = false := by rw [bne_n, decide_eq_true h1]; rfl
    clear h1
    go_enter Tryd.func27, Tryd.ntmps27
    go_wp2_with fail
    go_region
    go_wp2
    go_ret
    exact ⟨rfl, (alb' w _).drew⟩
  · rw [decide_eq_false h1]
    have q1 : ((gd a i : Int) != (gd b i : Int)) = true := by rw [bne_n, decide_eq_false h1]; rfl
    by_cases h2 : gd a i = gd o i
    · rw [decide_eq_true h2]
      have q2 : ((gd a i : Int) != (gd o i : Int)) = false := by rw [bne_n, decide_eq_true h2]; rfl
      clear h1 h2
      go_enter Tryd.func27, Tryd.ntmps27
      go_wp2_with fail
      go_region
      go_wp2
      go_ret
      exact ⟨rfl, (alb' w _).drew⟩
    · rw [decide_eq_false h2]
      have q2 : ((gd a i : Int) != (gd o i : Int)) = true := by rw [bne_n, decide_eq_false h2]; rfl
      have q3 := bne_n (gd b i) (gd o i)
      clear h1 h2
      go_enter Tryd.func27, Tryd.ntmps27
      go_wp2_with fail
      go_region
      go_wp2
      go_ret
      exact ⟨rfl, (alb' w _).drew⟩
def szE (o a b : ByteArray) : Int := if a.size = o.size ∧ b.size = o.size then 0 else 12
theorem checked_any (o a b : ByteArray) (w : World) : Calls Tryd.prog 23 #[.agg #[.string o, .string a, .string b]] w fun e w' => e = .returned (.int .i64 (szE o a b)) ∧ Below w.heap.size w w' := by
  have hE0 : ∀ (v : Int) W, v = szE o a b → Below w.heap.size w W → (fun (e1 : Ending) (w' : World) => e1 = .returned (.int .i64 (szE o a b)) ∧ Below w.heap.size w w') (.returned (.int .i64 v)) W := by
    rintro v W rfl hb
    exact ⟨rfl, hb⟩
  generalize (fun (e1 : Ending) (w' : World) => e1 = .returned (.int .i64 (szE o a b)) ∧ Below w.heap.size w w') = Pst at *
  have hE := Lib.hid hE0
  clear hE0
  by_cases h1 : a.size = o.size
  · by_cases h2 : b.size = o.size
    · have hv := Lib.hid (show (0 : Int) = szE o a b by unfold szE; rw [if_pos ⟨h1, h2⟩])
      go_enter Tryd.func23, Tryd.ntmps23
      go_wp2
      exact hE.out _ _ hv.out (alb' _ _)
    · have hv := Lib.hid (show (12 : Int) = szE o a b by unfold szE; rw [if_neg (fun h => h2 h.2)])
      go_enter Tryd.func23, Tryd.ntmps23
      go_wp2
      exact hE.out _ _ hv.out (alb' _ _)
  · have hv := Lib.hid (show (12 : Int) = szE o a b by unfold szE; rw [if_neg (fun h => h1 h.1)])
    go_enter Tryd.func23, Tryd.ntmps23
    go_wp2
    exact hE.out _ _ hv.out (alb' _ _)
end Go.Proofs.YtlmmmibnnbceeaaDoor
