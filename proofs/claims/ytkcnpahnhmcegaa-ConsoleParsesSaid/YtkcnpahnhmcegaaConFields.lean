/-
  Commands (chapter 33): fields read.
-/
import Derived.Test.YtkcnpahnhmcegaaConPrint2
namespace Go.Proofs.Ytkcnpahnhmcegaa
open Go.RowKit
set_option linter.unusedVariables false
set_option linter.unusedSimpArgs false

theorem Strs.get {w : World} {B : Nat} {v : Value} {l : List ByteArray} (h : Strs w B v l) (h0 : l ≠ []) : ∃ g cap, v = .slice (some ⟨g, 0, none⟩) l.length cap ∧ l.length ≤ cap ∧ ∀ j (hj : j < l.length), w.cell? ⟨g, j, none⟩ = some (.string l[j]) := by
  rcases h.2 with ⟨_, h2⟩ | ⟨g, cap, cur, rfl, hg, hc, hn, r⟩
  · exact absurd (List.length_eq_zero_iff.1 h2) h0
  · refine ⟨g, cap, rfl, hn, fun j hj => ?_⟩
    rw [World.ownsRow.cellAt h j (by omega)]
    simp [hj]
def fldE (a : Bool) (n : Nat) (s1 : ByteArray) : Int := if a = true ∧ 1 < n then readV s1 else 0
def fldS (b : Bool) (n : Nat) (s2 : ByteArray) : Int := if b = true ∧ 2 < n ∧ s2.toList = [98] then 1 else 0
def fldD (d : Bool) (n : Nat) (s2 : ByteArray) : ByteArray := if d = true ∧ 2 < n then ubS s2 else emS
structure FCmd (W : World) (K : Nat) : Prop where
  c0 : W.frozen? ⟨K, 0, none⟩ = false
  c1 : W.frozen? ⟨K, 1, none⟩ = false
  c2 : W.frozen? ⟨K, 2, none⟩ = false
  c3 : W.frozen? ⟨K, 3, none⟩ = false
theorem FCmd.below {W W' : World} {K : Nat} {k e sd : Int} {d : ByteArray} (f : FCmd W K) (h : HCmd W K k e sd d) (hb : Below W.heap.size W W') : FCmd W' K := ⟨bfree hb h.c0 f.c0, bfree hb h.c1 f.c1, bfree hb h.c2 f.c2, bfree hb h.c3 f.c3⟩
/-- the world behind the three boxes -/
def W3F (w : World) (nm : ByteArray) (a b d0 : Bool) (k e sd : Int) (d : ByteArray) : World := ((w.alloc (.cells #[.string nm, .bool a, .bool b, .bool d0] 37)).alloc (.cells #[.int .i64 0, .int .i64 0, .int .i64 0, .string ⟨#[]⟩] 23)).alloc (.cells #[.int .i64 k, .int .i64 e, .int .i64 sd, .string d] 23)
theorem w3_below (w : World) (nm : ByteArray) (a b d0 : Bool) (k e sd : Int) (d : ByteArray) : Below w.heap.size w (W3F w nm a b d0 k e sd d) := bt (bt (alb _ _) (alb _ _)) (alb _ _)
theorem w3_cmd (w : World) (nm : ByteArray) (a b d0 : Bool) (k e sd : Int) (d : ByteArray) : HCmd (W3F w nm a b d0 k e sd d) (w.heap.size + 2) k e sd d ∧ FCmd (W3F w nm a b d0 k e sd d) (w.heap.size + 2) := by
  unfold W3F
  constructor <;> constructor <;> simp [go_sem]
theorem w3_res (w : World) (nm : ByteArray) (a b d0 : Bool) (k e sd : Int) (d : ByteArray) : HCmd (W3F w nm a b d0 k e sd d) (w.heap.size + 1) 0 0 0 ⟨#[]⟩ ∧ FCmd (W3F w nm a b d0 k e sd d) (w.heap.size + 1) := by
  unfold W3F
  constructor <;> constructor <;> simp [go_sem]
set_option maxHeartbeats 6400000 in
theorem fields33 (nm : ByteArray) (a b d0 : Bool) (k : Int) (g n cap : Nat) (s1 s2 : ByteArray) (w : World) (hcombo : (a = false ∧ b = false ∧ d0 = false) ∨ (a = true ∧ b = false ∧ d0 = false) ∨ (a = true ∧ b = true ∧ d0 = false) ∨ (a = true ∧ b = false ∧ d0 = true))
    (hcap : n ≤ cap) (hn : n ≤ 1000000) (hz1 : 1 < n → w.cell? ⟨g, 1, none⟩ = some (.string s1)) (hz2 : 2 < n → w.cell? ⟨g, 2, none⟩ = some (.string s2)) (h1 : s1.size ≤ 1000000) (h2 : s2.size ≤ 1000000) :
    Calls Try.prog 25 #[.agg #[.string nm, .bool a, .bool b, .bool d0], .int .i64 k, .slice (some ⟨g, 0, none⟩) n cap] w fun e1 w' => e1 = .returned (.agg #[.int .i64 k, .int .i64 (fldE a n s1), .int .i64 (fldS b n s2), .string (fldD d0 n s2)]) ∧ Below w.heap.size w w' := by
  have hfin : ∀ ee ss dd W, ee = fldE a n s1 → ss = fldS b n s2 → dd = fldD d0 n s2 → Below w.heap.size w W → (fun e1 w' => e1 = Ending.returned (.agg #[.int .i64 k, .int .i64 (fldE a n s1), .int .i64 (fldS b n s2), .string (fldD d0 n s2)]) ∧ Below w.heap.size w w') (.returned (.agg #[.int .i64 k, .int .i64 ee, .int .i64 ss, .string dd])) W := by
    rintro ee ss dd W rfl rfl rfl hb
    exact ⟨rfl, hb⟩
  generalize (fun e1 w' => e1 = Ending.returned (.agg #[.int .i64 k, .int .i64 (fldE a n s1), .int .i64 (fldS b n s2), .string (fldD d0 n s2)]) ∧ Below w.heap.size w w') = Pst at *
  have hfin := Lib.hid hfin
  have hR := Lib.hid (fun w => read_any s1 w (by omega))
  have hU := Lib.hid (fun w => unbytes_any s2 w (by omega))
  have hzz : ∀ w, (zeroValue 23).run Try.prog w = .ok (.agg #[.int .i64 0, .int .i64 0, .int .i64 0, .string ⟨#[]⟩]) w := fun _ => by kernel_rfl
  have hk1 : ∀ a b d0 ee ss dd, 1 < n → (((w.alloc (.cells #[.string nm, .bool a, .bool b, .bool d0] 37)).alloc (.cells #[.int .i64 0, .int .i64 0, .int .i64 0, .string ⟨#[]⟩] 23)).alloc (.cells #[.int .i64 k, .int .i64 ee, .int .i64 ss, .string dd] 23)).cell? ⟨g, 1, none⟩ = some (.string s1) := fun a b d0 ee ss dd h => bkeep (w3_below w nm a b d0 k ee ss dd) (hz1 h)
  have hk2 : ∀ a b d0 ee ss dd, 2 < n → (((w.alloc (.cells #[.string nm, .bool a, .bool b, .bool d0] 37)).alloc (.cells #[.int .i64 0, .int .i64 0, .int .i64 0, .string ⟨#[]⟩] 23)).alloc (.cells #[.int .i64 k, .int .i64 ee, .int .i64 ss, .string dd] 23)).cell? ⟨g, 2, none⟩ = some (.string s2) := fun a b d0 ee ss dd h => bkeep (w3_below w nm a b d0 k ee ss dd) (hz2 h)
  have hk1 := Lib.hid hk1
  have hk2 := Lib.hid hk2
  clear hz1 hz2
  have hbA : ∀ W, Below w.heap.size w W → ∀ a1 a2 a3 a4 a5, Below w.heap.size w (((((W.setCell ⟨w.heap.size + 2, 3, none⟩ a5).setCell ⟨w.heap.size + 1, 0, none⟩ a1).setCell ⟨w.heap.size + 1, 1, none⟩ a2).setCell ⟨w.heap.size + 1, 2, none⟩ a3).setCell ⟨w.heap.size + 1, 3, none⟩ a4) := fun W h a1 a2 a3 a4 a5 =>
    ((((h.setCell (p := ⟨w.heap.size + 2, 3, none⟩) (by simp) _).setCell (p := ⟨w.heap.size + 1, 0, none⟩) (by simp) _).setCell (p := ⟨w.heap.size + 1, 1, none⟩) (by simp) _).setCell (p := ⟨w.heap.size + 1, 2, none⟩) (by simp) _).setCell (p := ⟨w.heap.size + 1, 3, none⟩) (by simp) _
  have hbA := Lib.hid hbA
  rcases hcombo with ⟨rfl, rfl, rfl⟩ | ⟨rfl, rfl, rfl⟩ | ⟨rfl, rfl, rfl⟩ | ⟨rfl, rfl, rfl⟩
  · skip
    go_enter Try.func25, Try.ntmps25
    go_wp2_with (first | (go_at_call 32; (with_reducible refine (hR.out _).mono ?_); rintro e1 wx ⟨rfl, rfl⟩) | (go_at_call 13; (with_reducible refine (hU.out _).mono ?_); rintro e1 w5 ⟨rfl, hb5⟩; have hb6 := bt (w3_below w nm false false false k (readV s1) 0 ⟨#[]⟩) hb5; obtain ⟨q0, q1, q2, q3⟩ := (w3_cmd w nm false false false k (readV s1) 0 ⟨#[]⟩).1.below hb5; obtain ⟨q4, q5, q6, q7⟩ := (w3_res w nm false false false k (readV s1) 0 ⟨#[]⟩).1.below hb5; obtain ⟨f0, f1, f2, f3⟩ := (w3_cmd w nm false false false k (readV s1) 0 ⟨#[]⟩).2.below (w3_cmd w nm false false false k (readV s1) 0 ⟨#[]⟩).1 hb5; obtain ⟨f4, f5, f6, f7⟩ := (w3_res w nm false false false k (readV s1) 0 ⟨#[]⟩).2.below (w3_res w nm false false false k (readV s1) 0 ⟨#[]⟩).1 hb5))
    go_returns
    exact hfin.out _ _ _ _ (by unfold fldE; first | exact (if_pos ⟨rfl, by omega⟩).symm | exact (if_neg (fun h => absurd h.1 (by decide))).symm | exact (if_neg (fun h => by have := h.2; omega)).symm) (by unfold fldS; first | exact (if_pos ⟨rfl, by omega, p3⟩).symm | exact (if_neg (fun h => absurd h.1 (by decide))).symm | exact (if_neg (fun h => by have := h.2.1; omega)).symm | exact (if_neg (fun h => p3 h.2.2)).symm) (by unfold fldD; first | exact (if_pos ⟨rfl, by omega⟩).symm | exact (if_neg (fun h => absurd h.1 (by decide))).symm | exact (if_neg (fun h => by have := h.2; omega)).symm) (by first | exact bt (bt (alb _ _) (alb _ _)) (alb _ _) | exact hbA.out _ hb6 _ _ _ _ _)
  · by_cases p1 : 1 < n
    · have z1 := fun a b d0 ee ss dd => hk1.out a b d0 ee ss dd p1
      have p1' : (1 : Int) < (n : Int) := by omega
      go_enter Try.func25, Try.ntmps25
      go_wp2_with (first | (go_at_call 32; (with_reducible refine (hR.out _).mono ?_); rintro e1 wx ⟨rfl, rfl⟩) | (go_at_call 13; (with_reducible refine (hU.out _).mono ?_); rintro e1 w5 ⟨rfl, hb5⟩; have hb6 := bt (w3_below w nm true false false k (readV s1) 0 ⟨#[]⟩) hb5; obtain ⟨q0, q1, q2, q3⟩ := (w3_cmd w nm true false false k (readV s1) 0 ⟨#[]⟩).1.below hb5; obtain ⟨q4, q5, q6, q7⟩ := (w3_res w nm true false false k (readV s1) 0 ⟨#[]⟩).1.below hb5; obtain ⟨f0, f1, f2, f3⟩ := (w3_cmd w nm true false false k (readV s1) 0 ⟨#[]⟩).2.below (w3_cmd w nm true false false k (readV s1) 0 ⟨#[]⟩).1 hb5; obtain ⟨f4, f5, f6, f7⟩ := (w3_res w nm true false false k (readV s1) 0 ⟨#[]⟩).2.below (w3_res w nm true false false k (readV s1) 0 ⟨#[]⟩).1 hb5))
      go_returns
      exact hfin.out _ _ _ _ (by unfold fldE; first | exact (if_pos ⟨rfl, by omega⟩).symm | exact (if_neg (fun h => absurd h.1 (by decide))).symm | exact (if_neg (fun h => by have := h.2; omega)).symm) (by unfold fldS; first | exact (if_pos ⟨rfl, by omega, p3⟩).symm | exact (if_neg (fun h => absurd h.1 (by decide))).symm | exact (if_neg (fun h => by have := h.2.1; omega)).symm | exact (if_neg (fun h => p3 h.2.2)).symm) (by unfold fldD; first | exact (if_pos ⟨rfl, by omega⟩).symm | exact (if_neg (fun h => absurd h.1 (by decide))).symm | exact (if_neg (fun h => by have := h.2; omega)).symm) (by first | exact bt (bt (alb _ _) (alb _ _)) (alb _ _) | exact hbA.out _ hb6 _ _ _ _ _)
    · have p1' : ¬ (1 : Int) < (n : Int) := by omega
      go_enter Try.func25, Try.ntmps25
      go_wp2_with (first | (go_at_call 32; (with_reducible refine (hR.out _).mono ?_); rintro e1 wx ⟨rfl, rfl⟩) | (go_at_call 13; (with_reducible refine (hU.out _).mono ?_); rintro e1 w5 ⟨rfl, hb5⟩; have hb6 := bt (w3_below w nm true false false k (readV s1) 0 ⟨#[]⟩) hb5; obtain ⟨q0, q1, q2, q3⟩ := (w3_cmd w nm true false false k (readV s1) 0 ⟨#[]⟩).1.below hb5; obtain ⟨q4, q5, q6, q7⟩ := (w3_res w nm true false false k (readV s1) 0 ⟨#[]⟩).1.below hb5; obtain ⟨f0, f1, f2, f3⟩ := (w3_cmd w nm true false false k (readV s1) 0 ⟨#[]⟩).2.below (w3_cmd w nm true false false k (readV s1) 0 ⟨#[]⟩).1 hb5; obtain ⟨f4, f5, f6, f7⟩ := (w3_res w nm true false false k (readV s1) 0 ⟨#[]⟩).2.below (w3_res w nm true false false k (readV s1) 0 ⟨#[]⟩).1 hb5))
      go_returns
      exact hfin.out _ _ _ _ (by unfold fldE; first | exact (if_pos ⟨rfl, by omega⟩).symm | exact (if_neg (fun h => absurd h.1 (by decide))).symm | exact (if_neg (fun h => by have := h.2; omega)).symm) (by unfold fldS; first | exact (if_pos ⟨rfl, by omega, p3⟩).symm | exact (if_neg (fun h => absurd h.1 (by decide))).symm | exact (if_neg (fun h => by have := h.2.1; omega)).symm | exact (if_neg (fun h => p3 h.2.2)).symm) (by unfold fldD; first | exact (if_pos ⟨rfl, by omega⟩).symm | exact (if_neg (fun h => absurd h.1 (by decide))).symm | exact (if_neg (fun h => by have := h.2; omega)).symm) (by first | exact bt (bt (alb _ _) (alb _ _)) (alb _ _) | exact hbA.out _ hb6 _ _ _ _ _)
  · by_cases p1 : 1 < n
    · have z1 := fun a b d0 ee ss dd => hk1.out a b d0 ee ss dd p1
      have p1' : (1 : Int) < (n : Int) := by omega
      by_cases p2 : 2 < n
      · have z2 := fun a b d0 ee ss dd => hk2.out a b d0 ee ss dd p2
        have p2' : (2 : Int) < (n : Int) := by omega
        by_cases p3 : s2.toList = [98]
        · have hq : (s2.toList == [98]) = true := by rw [p3]; rfl
          go_enter Try.func25, Try.ntmps25
          go_wp2_with (first | (go_at_call 32; (with_reducible refine (hR.out _).mono ?_); rintro e1 wx ⟨rfl, rfl⟩) | (go_at_call 13; (with_reducible refine (hU.out _).mono ?_); rintro e1 w5 ⟨rfl, hb5⟩; have hb6 := bt (w3_below w nm true true false k (readV s1) 0 ⟨#[]⟩) hb5; obtain ⟨q0, q1, q2, q3⟩ := (w3_cmd w nm true true false k (readV s1) 0 ⟨#[]⟩).1.below hb5; obtain ⟨q4, q5, q6, q7⟩ := (w3_res w nm true true false k (readV s1) 0 ⟨#[]⟩).1.below hb5; obtain ⟨f0, f1, f2, f3⟩ := (w3_cmd w nm true true false k (readV s1) 0 ⟨#[]⟩).2.below (w3_cmd w nm true true false k (readV s1) 0 ⟨#[]⟩).1 hb5; obtain ⟨f4, f5, f6, f7⟩ := (w3_res w nm true true false k (readV s1) 0 ⟨#[]⟩).2.below (w3_res w nm true true false k (readV s1) 0 ⟨#[]⟩).1 hb5))
          go_returns
          exact hfin.out _ _ _ _ (by unfold fldE; first | exact (if_pos ⟨rfl, by omega⟩).symm | exact (if_neg (fun h => absurd h.1 (by decide))).symm | exact (if_neg (fun h => by have := h.2; omega)).symm) (by unfold fldS; first | exact (if_pos ⟨rfl, by omega, p3⟩).symm | exact (if_neg (fun h => absurd h.1 (by decide))).symm | exact (if_neg (fun h => by have := h.2.1; omega)).symm | exact (if_neg (fun h => p3 h.2.2)).symm) (by unfold fldD; first | exact (if_pos ⟨rfl, by omega⟩).symm | exact (if_neg (fun h => absurd h.1 (by decide))).symm | exact (if_neg (fun h => by have := h.2; omega)).symm) (by first | exact bt (bt (alb _ _) (alb _ _)) (alb _ _) | exact hbA.out _ hb6 _ _ _ _ _)
        · have hq : (s2.toList == [98]) = false := beq_eq_false_iff_ne.2 p3
          go_enter Try.func25, Try.ntmps25
          go_wp2_with (first | (go_at_call 32; (with_reducible refine (hR.out _).mono ?_); rintro e1 wx ⟨rfl, rfl⟩) | (go_at_call 13; (with_reducible refine (hU.out _).mono ?_); rintro e1 w5 ⟨rfl, hb5⟩; have hb6 := bt (w3_below w nm true true false k (readV s1) 0 ⟨#[]⟩) hb5; obtain ⟨q0, q1, q2, q3⟩ := (w3_cmd w nm true true false k (readV s1) 0 ⟨#[]⟩).1.below hb5; obtain ⟨q4, q5, q6, q7⟩ := (w3_res w nm true true false k (readV s1) 0 ⟨#[]⟩).1.below hb5; obtain ⟨f0, f1, f2, f3⟩ := (w3_cmd w nm true true false k (readV s1) 0 ⟨#[]⟩).2.below (w3_cmd w nm true true false k (readV s1) 0 ⟨#[]⟩).1 hb5; obtain ⟨f4, f5, f6, f7⟩ := (w3_res w nm true true false k (readV s1) 0 ⟨#[]⟩).2.below (w3_res w nm true true false k (readV s1) 0 ⟨#[]⟩).1 hb5))
          go_returns
          exact hfin.out _ _ _ _ (by unfold fldE; first | exact (if_pos ⟨rfl, by omega⟩).symm | exact (if_neg (fun h => absurd h.1 (by decide))).symm | exact (if_neg (fun h => by have := h.2; omega)).symm) (by unfold fldS; first | exact (if_pos ⟨rfl, by omega, p3⟩).symm | exact (if_neg (fun h => absurd h.1 (by decide))).symm | exact (if_neg (fun h => by have := h.2.1; omega)).symm | exact (if_neg (fun h => p3 h.2.2)).symm) (by unfold fldD; first | exact (if_pos ⟨rfl, by omega⟩).symm | exact (if_neg (fun h => absurd h.1 (by decide))).symm | exact (if_neg (fun h => by have := h.2; omega)).symm) (by first | exact bt (bt (alb _ _) (alb _ _)) (alb _ _) | exact hbA.out _ hb6 _ _ _ _ _)
      · have p2' : ¬ (2 : Int) < (n : Int) := by omega
        go_enter Try.func25, Try.ntmps25
        go_wp2_with (first | (go_at_call 32; (with_reducible refine (hR.out _).mono ?_); rintro e1 wx ⟨rfl, rfl⟩) | (go_at_call 13; (with_reducible refine (hU.out _).mono ?_); rintro e1 w5 ⟨rfl, hb5⟩; have hb6 := bt (w3_below w nm true true false k (readV s1) 0 ⟨#[]⟩) hb5; obtain ⟨q0, q1, q2, q3⟩ := (w3_cmd w nm true true false k (readV s1) 0 ⟨#[]⟩).1.below hb5; obtain ⟨q4, q5, q6, q7⟩ := (w3_res w nm true true false k (readV s1) 0 ⟨#[]⟩).1.below hb5; obtain ⟨f0, f1, f2, f3⟩ := (w3_cmd w nm true true false k (readV s1) 0 ⟨#[]⟩).2.below (w3_cmd w nm true true false k (readV s1) 0 ⟨#[]⟩).1 hb5; obtain ⟨f4, f5, f6, f7⟩ := (w3_res w nm true true false k (readV s1) 0 ⟨#[]⟩).2.below (w3_res w nm true true false k (readV s1) 0 ⟨#[]⟩).1 hb5))
        go_returns
        exact hfin.out _ _ _ _ (by unfold fldE; first | exact (if_pos ⟨rfl, by omega⟩).symm | exact (if_neg (fun h => absurd h.1 (by decide))).symm | exact (if_neg (fun h => by have := h.2; omega)).symm) (by unfold fldS; first | exact (if_pos ⟨rfl, by omega, p3⟩).symm | exact (if_neg (fun h => absurd h.1 (by decide))).symm | exact (if_neg (fun h => by have := h.2.1; omega)).symm | exact (if_neg (fun h => p3 h.2.2)).symm) (by unfold fldD; first | exact (if_pos ⟨rfl, by omega⟩).symm | exact (if_neg (fun h => absurd h.1 (by decide))).symm | exact (if_neg (fun h => by have := h.2; omega)).symm) (by first | exact bt (bt (alb _ _) (alb _ _)) (alb _ _) | exact hbA.out _ hb6 _ _ _ _ _)
    · have p1' : ¬ (1 : Int) < (n : Int) := by omega
      have p2' : ¬ (2 : Int) < (n : Int) := by omega
      go_enter Try.func25, Try.ntmps25
      go_wp2_with (first | (go_at_call 32; (with_reducible refine (hR.out _).mono ?_); rintro e1 wx ⟨rfl, rfl⟩) | (go_at_call 13; (with_reducible refine (hU.out _).mono ?_); rintro e1 w5 ⟨rfl, hb5⟩; have hb6 := bt (w3_below w nm true true false k (readV s1) 0 ⟨#[]⟩) hb5; obtain ⟨q0, q1, q2, q3⟩ := (w3_cmd w nm true true false k (readV s1) 0 ⟨#[]⟩).1.below hb5; obtain ⟨q4, q5, q6, q7⟩ := (w3_res w nm true true false k (readV s1) 0 ⟨#[]⟩).1.below hb5; obtain ⟨f0, f1, f2, f3⟩ := (w3_cmd w nm true true false k (readV s1) 0 ⟨#[]⟩).2.below (w3_cmd w nm true true false k (readV s1) 0 ⟨#[]⟩).1 hb5; obtain ⟨f4, f5, f6, f7⟩ := (w3_res w nm true true false k (readV s1) 0 ⟨#[]⟩).2.below (w3_res w nm true true false k (readV s1) 0 ⟨#[]⟩).1 hb5))
      go_returns
      exact hfin.out _ _ _ _ (by unfold fldE; first | exact (if_pos ⟨rfl, by omega⟩).symm | exact (if_neg (fun h => absurd h.1 (by decide))).symm | exact (if_neg (fun h => by have := h.2; omega)).symm) (by unfold fldS; first | exact (if_pos ⟨rfl, by omega, p3⟩).symm | exact (if_neg (fun h => absurd h.1 (by decide))).symm | exact (if_neg (fun h => by have := h.2.1; omega)).symm | exact (if_neg (fun h => p3 h.2.2)).symm) (by unfold fldD; first | exact (if_pos ⟨rfl, by omega⟩).symm | exact (if_neg (fun h => absurd h.1 (by decide))).symm | exact (if_neg (fun h => by have := h.2; omega)).symm) (by first | exact bt (bt (alb _ _) (alb _ _)) (alb _ _) | exact hbA.out _ hb6 _ _ _ _ _)
  · by_cases p1 : 1 < n
    · have z1 := fun a b d0 ee ss dd => hk1.out a b d0 ee ss dd p1
      have p1' : (1 : Int) < (n : Int) := by omega
      by_cases p2 : 2 < n
      · have z2 := fun a b d0 ee ss dd => hk2.out a b d0 ee ss dd p2
        have p2' : (2 : Int) < (n : Int) := by omega
        go_enter Try.func25, Try.ntmps25
        go_wp2_with (first | (go_at_call 32; (with_reducible refine (hR.out _).mono ?_); rintro e1 wx ⟨rfl, rfl⟩) | (go_at_call 13; (with_reducible refine (hU.out _).mono ?_); rintro e1 w5 ⟨rfl, hb5⟩; have hb6 := bt (w3_below w nm true false true k (readV s1) 0 ⟨#[]⟩) hb5; obtain ⟨q0, q1, q2, q3⟩ := (w3_cmd w nm true false true k (readV s1) 0 ⟨#[]⟩).1.below hb5; obtain ⟨q4, q5, q6, q7⟩ := (w3_res w nm true false true k (readV s1) 0 ⟨#[]⟩).1.below hb5; obtain ⟨f0, f1, f2, f3⟩ := (w3_cmd w nm true false true k (readV s1) 0 ⟨#[]⟩).2.below (w3_cmd w nm true false true k (readV s1) 0 ⟨#[]⟩).1 hb5; obtain ⟨f4, f5, f6, f7⟩ := (w3_res w nm true false true k (readV s1) 0 ⟨#[]⟩).2.below (w3_res w nm true false true k (readV s1) 0 ⟨#[]⟩).1 hb5))
        refine bodyPost_ret (v := .agg #[.int .i64 k, .int .i64 (readV s1), .int .i64 0, .string (ubS s2)]) (by simp [results, Try.results25, go_sem, q4, q5, q6, q7]) rfl ?_
        exact hfin.out _ _ _ _ (by unfold fldE; first | exact (if_pos ⟨rfl, by omega⟩).symm | exact (if_neg (fun h => absurd h.1 (by decide))).symm | exact (if_neg (fun h => by have := h.2; omega)).symm) (by unfold fldS; first | exact (if_pos ⟨rfl, by omega, p3⟩).symm | exact (if_neg (fun h => absurd h.1 (by decide))).symm | exact (if_neg (fun h => by have := h.2.1; omega)).symm | exact (if_neg (fun h => p3 h.2.2)).symm) (by unfold fldD; first | exact (if_pos ⟨rfl, by omega⟩).symm | exact (if_neg (fun h => absurd h.1 (by decide))).symm | exact (if_neg (fun h => by have := h.2; omega)).symm) (by first | exact bt (bt (alb _ _) (alb _ _)) (alb _ _) | exact hbA.out _ hb6 _ _ _ _ _)
      · have p2' : ¬ (2 : Int) < (n : Int) := by omega
        go_enter Try.func25, Try.ntmps25
        go_wp2_with (first | (go_at_call 32; (with_reducible refine (hR.out _).mono ?_); rintro e1 wx ⟨rfl, rfl⟩) | (go_at_call 13; (with_reducible refine (hU.out _).mono ?_); rintro e1 w5 ⟨rfl, hb5⟩; have hb6 := bt (w3_below w nm true false true k (readV s1) 0 ⟨#[]⟩) hb5; obtain ⟨q0, q1, q2, q3⟩ := (w3_cmd w nm true false true k (readV s1) 0 ⟨#[]⟩).1.below hb5; obtain ⟨q4, q5, q6, q7⟩ := (w3_res w nm true false true k (readV s1) 0 ⟨#[]⟩).1.below hb5; obtain ⟨f0, f1, f2, f3⟩ := (w3_cmd w nm true false true k (readV s1) 0 ⟨#[]⟩).2.below (w3_cmd w nm true false true k (readV s1) 0 ⟨#[]⟩).1 hb5; obtain ⟨f4, f5, f6, f7⟩ := (w3_res w nm true false true k (readV s1) 0 ⟨#[]⟩).2.below (w3_res w nm true false true k (readV s1) 0 ⟨#[]⟩).1 hb5))
        go_returns
        exact hfin.out _ _ _ _ (by unfold fldE; first | exact (if_pos ⟨rfl, by omega⟩).symm | exact (if_neg (fun h => absurd h.1 (by decide))).symm | exact (if_neg (fun h => by have := h.2; omega)).symm) (by unfold fldS; first | exact (if_pos ⟨rfl, by omega, p3⟩).symm | exact (if_neg (fun h => absurd h.1 (by decide))).symm | exact (if_neg (fun h => by have := h.2.1; omega)).symm | exact (if_neg (fun h => p3 h.2.2)).symm) (by unfold fldD; first | exact (if_pos ⟨rfl, by omega⟩).symm | exact (if_neg (fun h => absurd h.1 (by decide))).symm | exact (if_neg (fun h => by have := h.2; omega)).symm) (by first | exact bt (bt (alb _ _) (alb _ _)) (alb _ _) | exact hbA.out _ hb6 _ _ _ _ _)
    · have p1' : ¬ (1 : Int) < (n : Int) := by omega
      have p2' : ¬ (2 : Int) < (n : Int) := by omega
      go_enter Try.func25, Try.ntmps25
      go_wp2_with (first | (go_at_call 32; (with_reducible refine (hR.out _).mono ?_); rintro e1 wx ⟨rfl, rfl⟩) | (go_at_call 13; (with_reducible refine (hU.out _).mono ?_); rintro e1 w5 ⟨rfl, hb5⟩; have hb6 := bt (w3_below w nm true false true k (readV s1) 0 ⟨#[]⟩) hb5; obtain ⟨q0, q1, q2, q3⟩ := (w3_cmd w nm true false true k (readV s1) 0 ⟨#[]⟩).1.below hb5; obtain ⟨q4, q5, q6, q7⟩ := (w3_res w nm true false true k (readV s1) 0 ⟨#[]⟩).1.below hb5; obtain ⟨f0, f1, f2, f3⟩ := (w3_cmd w nm true false true k (readV s1) 0 ⟨#[]⟩).2.below (w3_cmd w nm true false true k (readV s1) 0 ⟨#[]⟩).1 hb5; obtain ⟨f4, f5, f6, f7⟩ := (w3_res w nm true false true k (readV s1) 0 ⟨#[]⟩).2.below (w3_res w nm true false true k (readV s1) 0 ⟨#[]⟩).1 hb5))
      go_returns
      exact hfin.out _ _ _ _ (by unfold fldE; first | exact (if_pos ⟨rfl, by omega⟩).symm | exact (if_neg (fun h => absurd h.1 (by decide))).symm | exact (if_neg (fun h => by have := h.2; omega)).symm) (by unfold fldS; first | exact (if_pos ⟨rfl, by omega, p3⟩).symm | exact (if_neg (fun h => absurd h.1 (by decide))).symm | exact (if_neg (fun h => by have := h.2.1; omega)).symm | exact (if_neg (fun h => p3 h.2.2)).symm) (by unfold fldD; first | exact (if_pos ⟨rfl, by omega⟩).symm | exact (if_neg (fun h => absurd h.1 (by decide))).symm | exact (if_neg (fun h => by have := h.2; omega)).symm) (by first | exact bt (bt (alb _ _) (alb _ _)) (alb _ _) | exact hbA.out _ hb6 _ _ _ _ _)
end Go.Proofs.Ytkcnpahnhmcegaa
