/-
  Parts in writing (chapter 41): the reference's Print; parts compared.
-/
import Derived.Test.YtlmmmibnnbceeaaDoorWr1
import Derived.BigQuiet
namespace Go.Proofs.YtlmmmibnnbceeaaDoor
open Go.RowKit
set_option linter.unusedVariables false
set_option linter.unusedSimpArgs false
set_option maxRecDepth 20000

theorem pj_take {l : List I3} {k : Nat} {x : I3} (h : l[k]? = some x) (h0 : 0 < k) : jn ((l.take (k + 1)).map wdS) = (jn ((l.take k).map wdS) ++ spB) ++ wdS x := by
  have hk : k < l.length := (List.getElem?_eq_some_iff.1 h).1
  rw [prn_take h]
  refine jn_snoc _ ?_
  intro e
  have := congrArg List.length e
  rw [List.length_map, List.length_take, Nat.min_eq_left (by omega), List.length_nil] at this
  omega
theorem pj_first {l : List I3} {x : I3} (h : l[0]? = some x) : jn ((l.take 1).map wdS) = wdS x := by
  rw [prn_take (k := 0) h]
  exact jn_one _
theorem wd_app (J : ByteArray) (x : I3) : (J ++ spB) ++ wdS x = ((((J ++ ⟨#[32]⟩) ++ textS x.1) ++ ⟨#[45]⟩) ++ textS x.2.1) ++ letS x.2.2 := by
  apply dl_eq
  unfold wdS spB
  simp only [ByteArray.data_append, Array.toList_append, List.append_assoc]
def QRel (w : World) (l : List I3) (s i : Value) (wr : World) : Prop := ∃ k : Nat, k ≤ l.length ∧ i = .int .i64 k ∧ s = .string (jn ((l.take k).map wdS)) ∧ Hid (Below w.heap.size w wr)
set_option maxHeartbeats 6400000 in
theorem rprint_any (a : Option Addr) (cap : Nat) (l : List I3) (w : World) (hl : P3At w a l) (hi : ∀ x ∈ l, I64 x.1 ∧ I64 x.2.1) (hn : l.length ≤ 2000) : Calls Tryd.prog 10 #[.slice a l.length cap] w fun e w' => e = .returned (.string (prn l)) ∧ Below w.heap.size w w' := by
  have hE : ∀ W, Below w.heap.size w W → (fun (e : Ending) (w' : World) => e = .returned (.string (prn l)) ∧ Below w.heap.size w w') (.returned (.string (jn (l.map wdS)))) W := fun W h => ⟨rfl, h⟩
  generalize (fun (e : Ending) (w' : World) => e = .returned (.string (prn l)) ∧ Below w.heap.size w w') = Pst at *
  replace hE := Lib.hid hE
  replace hl := Lib.hid hl
  go_enter Tryd.func10, Tryd.ntmps10
  go_wp2
  go_loopw [3, 4] (fun s i wr => QRel w l s i wr) (fun _ i _ => l.length - (intOf i).toNat)
  case atStart => exact ⟨0, Nat.zero_le _, rfl, rfl, Below.refl _ _⟩
  case round =>
    obtain ⟨k, hk, rfl, rfl, hB⟩ := hrel
    by_cases hlt : k < l.length
    · have hd2 : decide ((k : Int) < (l.length : Int)) = true := decide_eq_true (by omega)
      have hd3 : decide (k < l.length) = true := decide_eq_true hlt
      obtain ⟨y, hy⟩ : ∃ y, l[k]? = some y := ⟨_, List.getElem?_eq_getElem hlt⟩
      obtain ⟨g, o, rfl, p0, p1, p2⟩ := hl.out k y hy
      have hyi := hi y (List.mem_of_getElem? hy)
      have hT1 := fun W => rtext_any y.1 W hyi.1.1 hyi.1.2
      have hT2 := fun W => rtext_any y.2.1 W hyi.2.1 hyi.2.2
      have z1 := text_size y.1
      have z2 := text_size y.2.1
      have z4 : (jn ((l.take k).map wdS)).size ≤ 90000 := by
        have := prn_size (l.take k)
        unfold prn at this
        rw [List.length_take] at this
        omega
      have p0 := bkeep hB.out p0
      have p1 := bkeep hB.out p1
      have p2 := bkeep hB.out p2
      have i1 : (0 : Int) ≤ (k : Int) := by omega
      have i2 : (k : Int) < (l.length : Int) := by omega
      have hA0 := wd_app (jn ((l.take k).map wdS)) y
      have hw0 : wdS y = ((textS y.1 ++ ⟨#[45]⟩) ++ textS y.2.1) ++ letS y.2.2 := rfl
      by_cases h0 : 0 < k
      · have hd4 : decide ((0 : Int) < (k : Int)) = true := decide_eq_true (by omega)
        have hd5 : decide (0 < k) = true := decide_eq_true h0
        have hs := pj_take hy h0
        rw [hA0] at hs
        clear hA0 hw0
        generalize jn ((l.take k).map wdS) = J at *
        generalize textS y.1 = t1 at *
        generalize textS y.2.1 = t2 at *
        have g0 : ¬ 9223372036854775807 < J.size + 1 := by omega
        have g1 : ¬ 9223372036854775807 < J.size + 1 + t1.size := by omega
        have g2 : ¬ 9223372036854775807 < J.size + 1 + t1.size + 1 := by omega
        have g3 : ¬ 9223372036854775807 < J.size + 1 + t1.size + 1 + t2.size := by omega
        have g4 : ¬ 9223372036854775807 < J.size + 1 + t1.size + 1 + t2.size + 1 := by omega
        replace hT1 := Lib.hid hT1
        replace hT2 := Lib.hid hT2
        clear z1 z2 z4 hyi hy
        by_cases hz : y.2.2 = 0
        · have n1 : (y.2.2 == 0) = true := by simpa using hz
          rw [show letS y.2.2 = ⟨#[97]⟩ from if_pos hz] at hs
          replace hs := Lib.hid hs
          clear hz
          have hr2 := Lib.hid (And.intro p0 (And.intro p1 p2))
          replace hr2 : Hid (wr.cell? ⟨g, o + k * 3, none⟩ = some (.int .i64 y.1) ∧ wr.cell? ⟨g, o + k * 3 + 1, none⟩ = some (.int .i64 y.2.1) ∧ wr.cell? ⟨g, o + k * 3 + 2, none⟩ = some (.int .i64 y.2.2)) := hr2
          go_wp2_with fail
          replace hr2 := Lib.hid (And.intro (bkeep (bdrw wr) p0) (And.intro (bkeep (bdrw wr) p1) (bkeep (bdrw wr) p2)))
          have hB2 := Lib.hid (bt hB.out (bdrw wr))
          clear p0 p1 p2
          refine wp_region_held_drew (S := (fun w' : World => w'.cell? ⟨g, o + k * 3, none⟩ = some (.int .i64 y.1) ∧ w'.cell? ⟨g, o + k * 3 + 1, none⟩ = some (.int .i64 y.2.1) ∧ w'.cell? ⟨g, o + k * 3 + 2, none⟩ = some (.int .i64 y.2.2))) (by kernel_rfl) ?_ (fun hHeld => ?_)
          · first | exact hr2.out
          first | (refine tw (i := 0) (v := ?_) ?_ hHeld ?_; rotate_left; focus (intro w hSw; (try dsimp only at hSw); (try skip); go_simp; (try with_reducible rfl); done)) | refine tn (i := 0) hHeld ?_
          try simp only [Act.put, List.setIfInBounds_toArray, List.set_cons_zero, List.set_cons_succ]
          first | (refine tw (i := 1) (v := ?_) ?_ hHeld ?_; rotate_left; focus (intro w hSw; (try dsimp only at hSw); (try skip); go_simp; (try with_reducible rfl); done)) | refine tn (i := 1) hHeld ?_
          try simp only [Act.put, List.setIfInBounds_toArray, List.set_cons_zero, List.set_cons_succ]
          first | (refine tw (i := 2) (v := ?_) ?_ hHeld ?_; rotate_left; focus (intro w hSw; (try dsimp only at hSw); (try skip); go_simp; (try with_reducible rfl); done)) | refine tn (i := 2) hHeld ?_
          try simp only [Act.put, List.setIfInBounds_toArray, List.set_cons_zero, List.set_cons_succ]
          first | (refine tw (i := 3) (v := ?_) ?_ hHeld ?_; rotate_left; focus (intro w hSw; (try dsimp only at hSw); (try skip); go_simp; (try with_reducible rfl); done)) | refine tn (i := 3) hHeld ?_
          try simp only [Act.put, List.setIfInBounds_toArray, List.set_cons_zero, List.set_cons_succ]
          first | (refine tw (i := 4) (v := ?_) ?_ hHeld ?_; rotate_left; focus (intro w hSw; (try dsimp only at hSw); (try skip); go_simp; (try with_reducible rfl); done)) | refine tn (i := 4) hHeld ?_
          try simp only [Act.put, List.setIfInBounds_toArray, List.set_cons_zero, List.set_cons_succ]
          first | (refine tw (i := 5) (v := ?_) ?_ hHeld ?_; rotate_left; focus (intro w hSw; (try dsimp only at hSw); (try skip); go_simp; (try with_reducible rfl); done)) | refine tn (i := 5) hHeld ?_
          try simp only [Act.put, List.setIfInBounds_toArray, List.set_cons_zero, List.set_cons_succ]
          first | (refine tw (i := 6) (v := ?_) ?_ hHeld ?_; rotate_left; focus (intro w hSw; (try dsimp only at hSw); (try skip); go_simp; (try with_reducible rfl); done)) | refine tn (i := 6) hHeld ?_
          try simp only [Act.put, List.setIfInBounds_toArray, List.set_cons_zero, List.set_cons_succ]
          first | (refine tw (i := 10) (v := ?_) ?_ hHeld ?_; rotate_left; focus (intro w hSw; (try dsimp only at hSw); (try skip); go_simp; (try with_reducible rfl); done)) | refine tn (i := 10) hHeld ?_
          try simp only [Act.put, List.setIfInBounds_toArray, List.set_cons_zero, List.set_cons_succ]
          first | (refine tw (i := 11) (v := ?_) ?_ hHeld ?_; rotate_left; focus (intro w hSw; (try dsimp only at hSw); (try skip); go_simp; (try with_reducible rfl); done)) | refine tn (i := 11) hHeld ?_
          try simp only [Act.put, List.setIfInBounds_toArray, List.set_cons_zero, List.set_cons_succ]
          first | (refine tw (i := 12) (v := ?_) ?_ hHeld ?_; rotate_left; focus (intro w hSw; (try dsimp only at hSw); (try skip); go_simp; (try with_reducible rfl); done)) | refine tn (i := 12) hHeld ?_
          try simp only [Act.put, List.setIfInBounds_toArray, List.set_cons_zero, List.set_cons_succ]
          first | (refine tw (i := 13) (v := ?_) ?_ hHeld ?_; rotate_left; focus (intro w hSw; (try dsimp only at hSw); (try skip); go_simp; (try with_reducible rfl); done)) | refine tn (i := 13) hHeld ?_
          try simp only [Act.put, List.setIfInBounds_toArray, List.set_cons_zero, List.set_cons_succ]
          first | (refine tw (i := 14) (v := ?_) ?_ hHeld ?_; rotate_left; focus (intro w hSw; (try dsimp only at hSw); (try skip); go_simp; (try with_reducible rfl); done)) | refine tn (i := 14) hHeld ?_
          try simp only [Act.put, List.setIfInBounds_toArray, List.set_cons_zero, List.set_cons_succ]
          first | (refine tw (i := 15) (v := ?_) ?_ hHeld ?_; rotate_left; focus (intro w hSw; (try dsimp only at hSw); (try skip); go_simp; (try with_reducible rfl); done)) | refine tn (i := 15) hHeld ?_
          try simp only [Act.put, List.setIfInBounds_toArray, List.set_cons_zero, List.set_cons_succ]
          refine call_next (i := 7) (by kernel_rfl) (by rfl) ?_
          intro o ho K hK
          simp only [List.getElem?_toArray, List.getElem?_cons_succ, List.getElem?_cons_zero, Option.some.injEq] at ho
          subst ho
          first | (fail; refine hK.out _ _ ?_ (fun hHeld => ?_)) | (go_simp; first | (with_reducible refine hK.out _ _ ?_ (fun hHeld => ?_)) | ((first | (go_at_call 22; (with_reducible refine (hT1.out _).mono ?_); rintro e6 w6 ⟨rfl, hA⟩; replace hB2 := Lib.hid (bt hB2.out hA); replace hr2 := Lib.hid (And.intro (bkeep hA hr2.out.1) (And.intro (bkeep hA hr2.out.2.1) (bkeep hA hr2.out.2.2))); clear hA) | (go_at_call 22; (with_reducible refine (hT2.out _).mono ?_); rintro e6 w6 ⟨rfl, hA⟩; replace hB2 := Lib.hid (bt hB2.out hA); replace hr2 := Lib.hid (And.intro (bkeep hA hr2.out.1) (And.intro (bkeep hA hr2.out.2.1) (bkeep hA hr2.out.2.2))); clear hA)); refine hK.out _ _ ?_ (fun hHeld => ?_)))
          · first | exact hr2.out
          clear hK K
          try simp only [Act.put, List.setIfInBounds_toArray, List.set_cons_zero, List.set_cons_succ]
          first | (refine tw (i := 8) (v := ?_) ?_ hHeld ?_; rotate_left; focus (intro w hSw; (try dsimp only at hSw); (try skip); go_simp; (try with_reducible rfl); done)) | refine tn (i := 8) hHeld ?_
          try simp only [Act.put, List.setIfInBounds_toArray, List.set_cons_zero, List.set_cons_succ]
          first | (refine tw (i := 9) (v := ?_) ?_ hHeld ?_; rotate_left; focus (intro w hSw; (try dsimp only at hSw); (try skip); go_simp; (try with_reducible rfl); done)) | refine tn (i := 9) hHeld ?_
          try simp only [Act.put, List.setIfInBounds_toArray, List.set_cons_zero, List.set_cons_succ]
          refine call_next (i := 16) (by kernel_rfl) (by rfl) ?_
          intro o ho K hK
          simp only [List.getElem?_toArray, List.getElem?_cons_succ, List.getElem?_cons_zero, Option.some.injEq] at ho
          subst ho
          first | (fail; refine hK.out _ _ ?_ (fun hHeld => ?_)) | (go_simp; first | (with_reducible refine hK.out _ _ ?_ (fun hHeld => ?_)) | ((first | (go_at_call 22; (with_reducible refine (hT1.out _).mono ?_); rintro e6 w6 ⟨rfl, hA⟩; replace hB2 := Lib.hid (bt hB2.out hA); replace hr2 := Lib.hid (And.intro (bkeep hA hr2.out.1) (And.intro (bkeep hA hr2.out.2.1) (bkeep hA hr2.out.2.2))); clear hA) | (go_at_call 22; (with_reducible refine (hT2.out _).mono ?_); rintro e6 w6 ⟨rfl, hA⟩; replace hB2 := Lib.hid (bt hB2.out hA); replace hr2 := Lib.hid (And.intro (bkeep hA hr2.out.1) (And.intro (bkeep hA hr2.out.2.1) (bkeep hA hr2.out.2.2))); clear hA)); refine hK.out _ _ ?_ (fun hHeld => ?_)))
          · first | exact hr2.out
          clear hK K
          try simp only [Act.put, List.setIfInBounds_toArray, List.set_cons_zero, List.set_cons_succ]
          first | (refine tw (i := 17) (v := ?_) ?_ hHeld ?_; rotate_left; focus (intro w hSw; (try dsimp only at hSw); (try skip); go_simp; (try with_reducible rfl); done)) | refine tn (i := 17) hHeld ?_
          try simp only [Act.put, List.setIfInBounds_toArray, List.set_cons_zero, List.set_cons_succ]
          first | (refine tw (i := 18) (v := ?_) ?_ hHeld ?_; rotate_left; focus (intro w hSw; (try dsimp only at hSw); (try skip); go_simp; (try with_reducible rfl); done)) | refine tn (i := 18) hHeld ?_
          try simp only [Act.put, List.setIfInBounds_toArray, List.set_cons_zero, List.set_cons_succ]
          refine wpAnyH_done (by kernel_rfl) ?_ _
          obtain ⟨p0, p1, p2⟩ := hr2.out
          go_wp2
          exact ⟨⟨k + 1, by omega, by go_num, by rw [hs.out], hB2⟩, by simp [intOf]; omega⟩
        · have n1 : (y.2.2 == 0) = false := by simpa using hz
          rw [show letS y.2.2 = ⟨#[98]⟩ from if_neg hz] at hs
          replace hs := Lib.hid hs
          clear hz
          have hr2 := Lib.hid (And.intro p0 (And.intro p1 p2))
          replace hr2 : Hid (wr.cell? ⟨g, o + k * 3, none⟩ = some (.int .i64 y.1) ∧ wr.cell? ⟨g, o + k * 3 + 1, none⟩ = some (.int .i64 y.2.1) ∧ wr.cell? ⟨g, o + k * 3 + 2, none⟩ = some (.int .i64 y.2.2)) := hr2
          go_wp2_with fail
          replace hr2 := Lib.hid (And.intro (bkeep (bdrw wr) p0) (And.intro (bkeep (bdrw wr) p1) (bkeep (bdrw wr) p2)))
          have hB2 := Lib.hid (bt hB.out (bdrw wr))
          clear p0 p1 p2
          refine wp_region_held_drew (S := (fun w' : World => w'.cell? ⟨g, o + k * 3, none⟩ = some (.int .i64 y.1) ∧ w'.cell? ⟨g, o + k * 3 + 1, none⟩ = some (.int .i64 y.2.1) ∧ w'.cell? ⟨g, o + k * 3 + 2, none⟩ = some (.int .i64 y.2.2))) (by kernel_rfl) ?_ (fun hHeld => ?_)
          · first | exact hr2.out
          first | (refine tw (i := 0) (v := ?_) ?_ hHeld ?_; rotate_left; focus (intro w hSw; (try dsimp only at hSw); (try skip); go_simp; (try with_reducible rfl); done)) | refine tn (i := 0) hHeld ?_
          try simp only [Act.put, List.setIfInBounds_toArray, List.set_cons_zero, List.set_cons_succ]
          first | (refine tw (i := 1) (v := ?_) ?_ hHeld ?_; rotate_left; focus (intro w hSw; (try dsimp only at hSw); (try skip); go_simp; (try with_reducible rfl); done)) | refine tn (i := 1) hHeld ?_
          try simp only [Act.put, List.setIfInBounds_toArray, List.set_cons_zero, List.set_cons_succ]
          first | (refine tw (i := 2) (v := ?_) ?_ hHeld ?_; rotate_left; focus (intro w hSw; (try dsimp only at hSw); (try skip); go_simp; (try with_reducible rfl); done)) | refine tn (i := 2) hHeld ?_
          try simp only [Act.put, List.setIfInBounds_toArray, List.set_cons_zero, List.set_cons_succ]
          first | (refine tw (i := 3) (v := ?_) ?_ hHeld ?_; rotate_left; focus (intro w hSw; (try dsimp only at hSw); (try skip); go_simp; (try with_reducible rfl); done)) | refine tn (i := 3) hHeld ?_
          try simp only [Act.put, List.setIfInBounds_toArray, List.set_cons_zero, List.set_cons_succ]
          first | (refine tw (i := 4) (v := ?_) ?_ hHeld ?_; rotate_left; focus (intro w hSw; (try dsimp only at hSw); (try skip); go_simp; (try with_reducible rfl); done)) | refine tn (i := 4) hHeld ?_
          try simp only [Act.put, List.setIfInBounds_toArray, List.set_cons_zero, List.set_cons_succ]
          first | (refine tw (i := 5) (v := ?_) ?_ hHeld ?_; rotate_left; focus (intro w hSw; (try dsimp only at hSw); (try skip); go_simp; (try with_reducible rfl); done)) | refine tn (i := 5) hHeld ?_
          try simp only [Act.put, List.setIfInBounds_toArray, List.set_cons_zero, List.set_cons_succ]
          first | (refine tw (i := 6) (v := ?_) ?_ hHeld ?_; rotate_left; focus (intro w hSw; (try dsimp only at hSw); (try skip); go_simp; (try with_reducible rfl); done)) | refine tn (i := 6) hHeld ?_
          try simp only [Act.put, List.setIfInBounds_toArray, List.set_cons_zero, List.set_cons_succ]
          first | (refine tw (i := 10) (v := ?_) ?_ hHeld ?_; rotate_left; focus (intro w hSw; (try dsimp only at hSw); (try skip); go_simp; (try with_reducible rfl); done)) | refine tn (i := 10) hHeld ?_
          try simp only [Act.put, List.setIfInBounds_toArray, List.set_cons_zero, List.set_cons_succ]
          first | (refine tw (i := 11) (v := ?_) ?_ hHeld ?_; rotate_left; focus (intro w hSw; (try dsimp only at hSw); (try skip); go_simp; (try with_reducible rfl); done)) | refine tn (i := 11) hHeld ?_
          try simp only [Act.put, List.setIfInBounds_toArray, List.set_cons_zero, List.set_cons_succ]
          first | (refine tw (i := 12) (v := ?_) ?_ hHeld ?_; rotate_left; focus (intro w hSw; (try dsimp only at hSw); (try skip); go_simp; (try with_reducible rfl); done)) | refine tn (i := 12) hHeld ?_
          try simp only [Act.put, List.setIfInBounds_toArray, List.set_cons_zero, List.set_cons_succ]
          first | (refine tw (i := 13) (v := ?_) ?_ hHeld ?_; rotate_left; focus (intro w hSw; (try dsimp only at hSw); (try skip); go_simp; (try with_reducible rfl); done)) | refine tn (i := 13) hHeld ?_
          try simp only [Act.put, List.setIfInBounds_toArray, List.set_cons_zero, List.set_cons_succ]
          first | (refine tw (i := 14) (v := ?_) ?_ hHeld ?_; rotate_left; focus (intro w hSw; (try dsimp only at hSw); (try skip); go_simp; (try with_reducible rfl); done)) | refine tn (i := 14) hHeld ?_
          try simp only [Act.put, List.setIfInBounds_toArray, List.set_cons_zero, List.set_cons_succ]
          first | (refine tw (i := 15) (v := ?_) ?_ hHeld ?_; rotate_left; focus (intro w hSw; (try dsimp only at hSw); (try skip); go_simp; (try with_reducible rfl); done)) | refine tn (i := 15) hHeld ?_
          try simp only [Act.put, List.setIfInBounds_toArray, List.set_cons_zero, List.set_cons_succ]
          refine call_next (i := 7) (by kernel_rfl) (by rfl) ?_
          intro o ho K hK
          simp only [List.getElem?_toArray, List.getElem?_cons_succ, List.getElem?_cons_zero, Option.some.injEq] at ho
          subst ho
          first | (fail; refine hK.out _ _ ?_ (fun hHeld => ?_)) | (go_simp; first | (with_reducible refine hK.out _ _ ?_ (fun hHeld => ?_)) | ((first | (go_at_call 22; (with_reducible refine (hT1.out _).mono ?_); rintro e6 w6 ⟨rfl, hA⟩; replace hB2 := Lib.hid (bt hB2.out hA); replace hr2 := Lib.hid (And.intro (bkeep hA hr2.out.1) (And.intro (bkeep hA hr2.out.2.1) (bkeep hA hr2.out.2.2))); clear hA) | (go_at_call 22; (with_reducible refine (hT2.out _).mono ?_); rintro e6 w6 ⟨rfl, hA⟩; replace hB2 := Lib.hid (bt hB2.out hA); replace hr2 := Lib.hid (And.intro (bkeep hA hr2.out.1) (And.intro (bkeep hA hr2.out.2.1) (bkeep hA hr2.out.2.2))); clear hA)); refine hK.out _ _ ?_ (fun hHeld => ?_)))
          · first | exact hr2.out
          clear hK K
          try simp only [Act.put, List.setIfInBounds_toArray, List.set_cons_zero, List.set_cons_succ]
          first | (refine tw (i := 8) (v := ?_) ?_ hHeld ?_; rotate_left; focus (intro w hSw; (try dsimp only at hSw); (try skip); go_simp; (try with_reducible rfl); done)) | refine tn (i := 8) hHeld ?_
          try simp only [Act.put, List.setIfInBounds_toArray, List.set_cons_zero, List.set_cons_succ]
          first | (refine tw (i := 9) (v := ?_) ?_ hHeld ?_; rotate_left; focus (intro w hSw; (try dsimp only at hSw); (try skip); go_simp; (try with_reducible rfl); done)) | refine tn (i := 9) hHeld ?_
          try simp only [Act.put, List.setIfInBounds_toArray, List.set_cons_zero, List.set_cons_succ]
          refine call_next (i := 16) (by kernel_rfl) (by rfl) ?_
          intro o ho K hK
          simp only [List.getElem?_toArray, List.getElem?_cons_succ, List.getElem?_cons_zero, Option.some.injEq] at ho
          subst ho
          first | (fail; refine hK.out _ _ ?_ (fun hHeld => ?_)) | (go_simp; first | (with_reducible refine hK.out _ _ ?_ (fun hHeld => ?_)) | ((first | (go_at_call 22; (with_reducible refine (hT1.out _).mono ?_); rintro e6 w6 ⟨rfl, hA⟩; replace hB2 := Lib.hid (bt hB2.out hA); replace hr2 := Lib.hid (And.intro (bkeep hA hr2.out.1) (And.intro (bkeep hA hr2.out.2.1) (bkeep hA hr2.out.2.2))); clear hA) | (go_at_call 22; (with_reducible refine (hT2.out _).mono ?_); rintro e6 w6 ⟨rfl, hA⟩; replace hB2 := Lib.hid (bt hB2.out hA); replace hr2 := Lib.hid (And.intro (bkeep hA hr2.out.1) (And.intro (bkeep hA hr2.out.2.1) (bkeep hA hr2.out.2.2))); clear hA)); refine hK.out _ _ ?_ (fun hHeld => ?_)))
          · first | exact hr2.out
          clear hK K
          try simp only [Act.put, List.setIfInBounds_toArray, List.set_cons_zero, List.set_cons_succ]
          first | (refine tw (i := 17) (v := ?_) ?_ hHeld ?_; rotate_left; focus (intro w hSw; (try dsimp only at hSw); (try skip); go_simp; (try with_reducible rfl); done)) | refine tn (i := 17) hHeld ?_
          try simp only [Act.put, List.setIfInBounds_toArray, List.set_cons_zero, List.set_cons_succ]
          first | (refine tw (i := 18) (v := ?_) ?_ hHeld ?_; rotate_left; focus (intro w hSw; (try dsimp only at hSw); (try skip); go_simp; (try with_reducible rfl); done)) | refine tn (i := 18) hHeld ?_
          try simp only [Act.put, List.setIfInBounds_toArray, List.set_cons_zero, List.set_cons_succ]
          refine wpAnyH_done (by kernel_rfl) ?_ _
          obtain ⟨p0, p1, p2⟩ := hr2.out
          go_wp2
          exact ⟨⟨k + 1, by omega, by go_num, by rw [hs.out], hB2⟩, by simp [intOf]; omega⟩
      · obtain rfl : k = 0 := by omega
        have hd4 : decide ((0 : Int) < ((0 : Nat) : Int)) = false := rfl
        have hs := pj_first hy
        have hs0 : jn ((l.take 0).map wdS) = ByteArray.empty := rfl
        rw [hw0] at hs
        rw [hs0]
        clear hA0 hw0 z4 hs0
        generalize textS y.1 = t1 at *
        generalize textS y.2.1 = t2 at *
        have g1 : ¬ 9223372036854775807 < t1.size := by omega
        have g2 : ¬ 9223372036854775807 < t1.size + 1 := by omega
        have g3 : ¬ 9223372036854775807 < t1.size + 1 + t2.size := by omega
        have g4 : ¬ 9223372036854775807 < t1.size + 1 + t2.size + 1 := by omega
        replace hT1 := Lib.hid hT1
        replace hT2 := Lib.hid hT2
        rw [Nat.zero_mul, Nat.add_zero] at p0 p1 p2
        clear z1 z2 hyi hy
        by_cases hz : y.2.2 = 0
        · have n1 : (y.2.2 == 0) = true := by simpa using hz
          rw [show letS y.2.2 = ⟨#[97]⟩ from if_pos hz] at hs
          replace hs := Lib.hid hs
          clear hz
          have hr2 := Lib.hid (And.intro p0 (And.intro p1 p2))
          replace hr2 : Hid (wr.cell? ⟨g, o, none⟩ = some (.int .i64 y.1) ∧ wr.cell? ⟨g, o + 1, none⟩ = some (.int .i64 y.2.1) ∧ wr.cell? ⟨g, o + 2, none⟩ = some (.int .i64 y.2.2)) := hr2
          go_wp2_with fail
          replace hr2 := Lib.hid (And.intro (bkeep (bdrw wr) p0) (And.intro (bkeep (bdrw wr) p1) (bkeep (bdrw wr) p2)))
          have hB2 := Lib.hid (bt hB.out (bdrw wr))
          clear p0 p1 p2
          refine wp_region_held_drew (S := (fun w' : World => w'.cell? ⟨g, o, none⟩ = some (.int .i64 y.1) ∧ w'.cell? ⟨g, o + 1, none⟩ = some (.int .i64 y.2.1) ∧ w'.cell? ⟨g, o + 2, none⟩ = some (.int .i64 y.2.2))) (by kernel_rfl) ?_ (fun hHeld => ?_)
          · first | exact hr2.out
          first | (refine tw (i := 0) (v := ?_) ?_ hHeld ?_; rotate_left; focus (intro w hSw; (try dsimp only at hSw); (try skip); go_simp; (try with_reducible rfl); done)) | refine tn (i := 0) hHeld ?_
          try simp only [Act.put, List.setIfInBounds_toArray, List.set_cons_zero, List.set_cons_succ]
          first | (refine tw (i := 1) (v := ?_) ?_ hHeld ?_; rotate_left; focus (intro w hSw; (try dsimp only at hSw); (try skip); go_simp; (try with_reducible rfl); done)) | refine tn (i := 1) hHeld ?_
          try simp only [Act.put, List.setIfInBounds_toArray, List.set_cons_zero, List.set_cons_succ]
          first | (refine tw (i := 2) (v := ?_) ?_ hHeld ?_; rotate_left; focus (intro w hSw; (try dsimp only at hSw); (try skip); go_simp; (try with_reducible rfl); done)) | refine tn (i := 2) hHeld ?_
          try simp only [Act.put, List.setIfInBounds_toArray, List.set_cons_zero, List.set_cons_succ]
          first | (refine tw (i := 3) (v := ?_) ?_ hHeld ?_; rotate_left; focus (intro w hSw; (try dsimp only at hSw); (try skip); go_simp; (try with_reducible rfl); done)) | refine tn (i := 3) hHeld ?_
          try simp only [Act.put, List.setIfInBounds_toArray, List.set_cons_zero, List.set_cons_succ]
          first | (refine tw (i := 4) (v := ?_) ?_ hHeld ?_; rotate_left; focus (intro w hSw; (try dsimp only at hSw); (try skip); go_simp; (try with_reducible rfl); done)) | refine tn (i := 4) hHeld ?_
          try simp only [Act.put, List.setIfInBounds_toArray, List.set_cons_zero, List.set_cons_succ]
          first | (refine tw (i := 5) (v := ?_) ?_ hHeld ?_; rotate_left; focus (intro w hSw; (try dsimp only at hSw); (try skip); go_simp; (try with_reducible rfl); done)) | refine tn (i := 5) hHeld ?_
          try simp only [Act.put, List.setIfInBounds_toArray, List.set_cons_zero, List.set_cons_succ]
          first | (refine tw (i := 6) (v := ?_) ?_ hHeld ?_; rotate_left; focus (intro w hSw; (try dsimp only at hSw); (try skip); go_simp; (try with_reducible rfl); done)) | refine tn (i := 6) hHeld ?_
          try simp only [Act.put, List.setIfInBounds_toArray, List.set_cons_zero, List.set_cons_succ]
          first | (refine tw (i := 10) (v := ?_) ?_ hHeld ?_; rotate_left; focus (intro w hSw; (try dsimp only at hSw); (try skip); go_simp; (try with_reducible rfl); done)) | refine tn (i := 10) hHeld ?_
          try simp only [Act.put, List.setIfInBounds_toArray, List.set_cons_zero, List.set_cons_succ]
          first | (refine tw (i := 11) (v := ?_) ?_ hHeld ?_; rotate_left; focus (intro w hSw; (try dsimp only at hSw); (try skip); go_simp; (try with_reducible rfl); done)) | refine tn (i := 11) hHeld ?_
          try simp only [Act.put, List.setIfInBounds_toArray, List.set_cons_zero, List.set_cons_succ]
          first | (refine tw (i := 12) (v := ?_) ?_ hHeld ?_; rotate_left; focus (intro w hSw; (try dsimp only at hSw); (try skip); go_simp; (try with_reducible rfl); done)) | refine tn (i := 12) hHeld ?_
          try simp only [Act.put, List.setIfInBounds_toArray, List.set_cons_zero, List.set_cons_succ]
          first | (refine tw (i := 13) (v := ?_) ?_ hHeld ?_; rotate_left; focus (intro w hSw; (try dsimp only at hSw); (try skip); go_simp; (try with_reducible rfl); done)) | refine tn (i := 13) hHeld ?_
          try simp only [Act.put, List.setIfInBounds_toArray, List.set_cons_zero, List.set_cons_succ]
          first | (refine tw (i := 14) (v := ?_) ?_ hHeld ?_; rotate_left; focus (intro w hSw; (try dsimp only at hSw); (try skip); go_simp; (try with_reducible rfl); done)) | refine tn (i := 14) hHeld ?_
          try simp only [Act.put, List.setIfInBounds_toArray, List.set_cons_zero, List.set_cons_succ]
          first | (refine tw (i := 15) (v := ?_) ?_ hHeld ?_; rotate_left; focus (intro w hSw; (try dsimp only at hSw); (try skip); go_simp; (try with_reducible rfl); done)) | refine tn (i := 15) hHeld ?_
          try simp only [Act.put, List.setIfInBounds_toArray, List.set_cons_zero, List.set_cons_succ]
          refine call_next (i := 7) (by kernel_rfl) (by rfl) ?_
          intro o ho K hK
          simp only [List.getElem?_toArray, List.getElem?_cons_succ, List.getElem?_cons_zero, Option.some.injEq] at ho
          subst ho
          first | (fail; refine hK.out _ _ ?_ (fun hHeld => ?_)) | (go_simp; first | (with_reducible refine hK.out _ _ ?_ (fun hHeld => ?_)) | ((first | (go_at_call 22; (with_reducible refine (hT1.out _).mono ?_); rintro e6 w6 ⟨rfl, hA⟩; replace hB2 := Lib.hid (bt hB2.out hA); replace hr2 := Lib.hid (And.intro (bkeep hA hr2.out.1) (And.intro (bkeep hA hr2.out.2.1) (bkeep hA hr2.out.2.2))); clear hA) | (go_at_call 22; (with_reducible refine (hT2.out _).mono ?_); rintro e6 w6 ⟨rfl, hA⟩; replace hB2 := Lib.hid (bt hB2.out hA); replace hr2 := Lib.hid (And.intro (bkeep hA hr2.out.1) (And.intro (bkeep hA hr2.out.2.1) (bkeep hA hr2.out.2.2))); clear hA)); refine hK.out _ _ ?_ (fun hHeld => ?_)))
          · first | exact hr2.out
          clear hK K
          try simp only [Act.put, List.setIfInBounds_toArray, List.set_cons_zero, List.set_cons_succ]
          first | (refine tw (i := 8) (v := ?_) ?_ hHeld ?_; rotate_left; focus (intro w hSw; (try dsimp only at hSw); (try skip); go_simp; (try with_reducible rfl); done)) | refine tn (i := 8) hHeld ?_
          try simp only [Act.put, List.setIfInBounds_toArray, List.set_cons_zero, List.set_cons_succ]
          first | (refine tw (i := 9) (v := ?_) ?_ hHeld ?_; rotate_left; focus (intro w hSw; (try dsimp only at hSw); (try skip); go_simp; (try with_reducible rfl); done)) | refine tn (i := 9) hHeld ?_
          try simp only [Act.put, List.setIfInBounds_toArray, List.set_cons_zero, List.set_cons_succ]
          refine call_next (i := 16) (by kernel_rfl) (by rfl) ?_
          intro o ho K hK
          simp only [List.getElem?_toArray, List.getElem?_cons_succ, List.getElem?_cons_zero, Option.some.injEq] at ho
          subst ho
          first | (fail; refine hK.out _ _ ?_ (fun hHeld => ?_)) | (go_simp; first | (with_reducible refine hK.out _ _ ?_ (fun hHeld => ?_)) | ((first | (go_at_call 22; (with_reducible refine (hT1.out _).mono ?_); rintro e6 w6 ⟨rfl, hA⟩; replace hB2 := Lib.hid (bt hB2.out hA); replace hr2 := Lib.hid (And.intro (bkeep hA hr2.out.1) (And.intro (bkeep hA hr2.out.2.1) (bkeep hA hr2.out.2.2))); clear hA) | (go_at_call 22; (with_reducible refine (hT2.out _).mono ?_); rintro e6 w6 ⟨rfl, hA⟩; replace hB2 := Lib.hid (bt hB2.out hA); replace hr2 := Lib.hid (And.intro (bkeep hA hr2.out.1) (And.intro (bkeep hA hr2.out.2.1) (bkeep hA hr2.out.2.2))); clear hA)); refine hK.out _ _ ?_ (fun hHeld => ?_)))
          · first | exact hr2.out
          clear hK K
          try simp only [Act.put, List.setIfInBounds_toArray, List.set_cons_zero, List.set_cons_succ]
          first | (refine tw (i := 17) (v := ?_) ?_ hHeld ?_; rotate_left; focus (intro w hSw; (try dsimp only at hSw); (try skip); go_simp; (try with_reducible rfl); done)) | refine tn (i := 17) hHeld ?_
          try simp only [Act.put, List.setIfInBounds_toArray, List.set_cons_zero, List.set_cons_succ]
          first | (refine tw (i := 18) (v := ?_) ?_ hHeld ?_; rotate_left; focus (intro w hSw; (try dsimp only at hSw); (try skip); go_simp; (try with_reducible rfl); done)) | refine tn (i := 18) hHeld ?_
          try simp only [Act.put, List.setIfInBounds_toArray, List.set_cons_zero, List.set_cons_succ]
          refine wpAnyH_done (by kernel_rfl) ?_ _
          obtain ⟨p0, p1, p2⟩ := hr2.out
          go_wp2
          exact ⟨⟨1, by omega, rfl, by rw [hs.out]; try simp, hB2⟩, by simp [intOf]; omega⟩
        · have n1 : (y.2.2 == 0) = false := by simpa using hz
          rw [show letS y.2.2 = ⟨#[98]⟩ from if_neg hz] at hs
          replace hs := Lib.hid hs
          clear hz
          have hr2 := Lib.hid (And.intro p0 (And.intro p1 p2))
          replace hr2 : Hid (wr.cell? ⟨g, o, none⟩ = some (.int .i64 y.1) ∧ wr.cell? ⟨g, o + 1, none⟩ = some (.int .i64 y.2.1) ∧ wr.cell? ⟨g, o + 2, none⟩ = some (.int .i64 y.2.2)) := hr2
          go_wp2_with fail
          replace hr2 := Lib.hid (And.intro (bkeep (bdrw wr) p0) (And.intro (bkeep (bdrw wr) p1) (bkeep (bdrw wr) p2)))
          have hB2 := Lib.hid (bt hB.out (bdrw wr))
          clear p0 p1 p2
          refine wp_region_held_drew (S := (fun w' : World => w'.cell? ⟨g, o, none⟩ = some (.int .i64 y.1) ∧ w'.cell? ⟨g, o + 1, none⟩ = some (.int .i64 y.2.1) ∧ w'.cell? ⟨g, o + 2, none⟩ = some (.int .i64 y.2.2))) (by kernel_rfl) ?_ (fun hHeld => ?_)
          · first | exact hr2.out
          first | (refine tw (i := 0) (v := ?_) ?_ hHeld ?_; rotate_left; focus (intro w hSw; (try dsimp only at hSw); (try skip); go_simp; (try with_reducible rfl); done)) | refine tn (i := 0) hHeld ?_
          try simp only [Act.put, List.setIfInBounds_toArray, List.set_cons_zero, List.set_cons_succ]
          first | (refine tw (i := 1) (v := ?_) ?_ hHeld ?_; rotate_left; focus (intro w hSw; (try dsimp only at hSw); (try skip); go_simp; (try with_reducible rfl); done)) | refine tn (i := 1) hHeld ?_
          try simp only [Act.put, List.setIfInBounds_toArray, List.set_cons_zero, List.set_cons_succ]
          first | (refine tw (i := 2) (v := ?_) ?_ hHeld ?_; rotate_left; focus (intro w hSw; (try dsimp only at hSw); (try skip); go_simp; (try with_reducible rfl); done)) | refine tn (i := 2) hHeld ?_
          try simp only [Act.put, List.setIfInBounds_toArray, List.set_cons_zero, List.set_cons_succ]
          first | (refine tw (i := 3) (v := ?_) ?_ hHeld ?_; rotate_left; focus (intro w hSw; (try dsimp only at hSw); (try skip); go_simp; (try with_reducible rfl); done)) | refine tn (i := 3) hHeld ?_
          try simp only [Act.put, List.setIfInBounds_toArray, List.set_cons_zero, List.set_cons_succ]
          first | (refine tw (i := 4) (v := ?_) ?_ hHeld ?_; rotate_left; focus (intro w hSw; (try dsimp only at hSw); (try skip); go_simp; (try with_reducible rfl); done)) | refine tn (i := 4) hHeld ?_
          try simp only [Act.put, List.setIfInBounds_toArray, List.set_cons_zero, List.set_cons_succ]
          first | (refine tw (i := 5) (v := ?_) ?_ hHeld ?_; rotate_left; focus (intro w hSw; (try dsimp only at hSw); (try skip); go_simp; (try with_reducible rfl); done)) | refine tn (i := 5) hHeld ?_
          try simp only [Act.put, List.setIfInBounds_toArray, List.set_cons_zero, List.set_cons_succ]
          first | (refine tw (i := 6) (v := ?_) ?_ hHeld ?_; rotate_left; focus (intro w hSw; (try dsimp only at hSw); (try skip); go_simp; (try with_reducible rfl); done)) | refine tn (i := 6) hHeld ?_
          try simp only [Act.put, List.setIfInBounds_toArray, List.set_cons_zero, List.set_cons_succ]
          first | (refine tw (i := 10) (v := ?_) ?_ hHeld ?_; rotate_left; focus (intro w hSw; (try dsimp only at hSw); (try skip); go_simp; (try with_reducible rfl); done)) | refine tn (i := 10) hHeld ?_
          try simp only [Act.put, List.setIfInBounds_toArray, List.set_cons_zero, List.set_cons_succ]
          first | (refine tw (i := 11) (v := ?_) ?_ hHeld ?_; rotate_left; focus (intro w hSw; (try dsimp only at hSw); (try skip); go_simp; (try with_reducible rfl); done)) | refine tn (i := 11) hHeld ?_
          try simp only [Act.put, List.setIfInBounds_toArray, List.set_cons_zero, List.set_cons_succ]
          first | (refine tw (i := 12) (v := ?_) ?_ hHeld ?_; rotate_left; focus (intro w hSw; (try dsimp only at hSw); (try skip); go_simp; (try with_reducible rfl); done)) | refine tn (i := 12) hHeld ?_
          try simp only [Act.put, List.setIfInBounds_toArray, List.set_cons_zero, List.set_cons_succ]
          first | (refine tw (i := 13) (v := ?_) ?_ hHeld ?_; rotate_left; focus (intro w hSw; (try dsimp only at hSw); (try skip); go_simp; (try with_reducible rfl); done)) | refine tn (i := 13) hHeld ?_
          try simp only [Act.put, List.setIfInBounds_toArray, List.set_cons_zero, List.set_cons_succ]
          first | (refine tw (i := 14) (v := ?_) ?_ hHeld ?_; rotate_left; focus (intro w hSw; (try dsimp only at hSw); (try skip); go_simp; (try with_reducible rfl); done)) | refine tn (i := 14) hHeld ?_
          try simp only [Act.put, List.setIfInBounds_toArray, List.set_cons_zero, List.set_cons_succ]
          first | (refine tw (i := 15) (v := ?_) ?_ hHeld ?_; rotate_left; focus (intro w hSw; (try dsimp only at hSw); (try skip); go_simp; (try with_reducible rfl); done)) | refine tn (i := 15) hHeld ?_
          try simp only [Act.put, List.setIfInBounds_toArray, List.set_cons_zero, List.set_cons_succ]
          refine call_next (i := 7) (by kernel_rfl) (by rfl) ?_
          intro o ho K hK
          simp only [List.getElem?_toArray, List.getElem?_cons_succ, List.getElem?_cons_zero, Option.some.injEq] at ho
          subst ho
          first | (fail; refine hK.out _ _ ?_ (fun hHeld => ?_)) | (go_simp; first | (with_reducible refine hK.out _ _ ?_ (fun hHeld => ?_)) | ((first | (go_at_call 22; (with_reducible refine (hT1.out _).mono ?_); rintro e6 w6 ⟨rfl, hA⟩; replace hB2 := Lib.hid (bt hB2.out hA); replace hr2 := Lib.hid (And.intro (bkeep hA hr2.out.1) (And.intro (bkeep hA hr2.out.2.1) (bkeep hA hr2.out.2.2))); clear hA) | (go_at_call 22; (with_reducible refine (hT2.out _).mono ?_); rintro e6 w6 ⟨rfl, hA⟩; replace hB2 := Lib.hid (bt hB2.out hA); replace hr2 := Lib.hid (And.intro (bkeep hA hr2.out.1) (And.intro (bkeep hA hr2.out.2.1) (bkeep hA hr2.out.2.2))); clear hA)); refine hK.out _ _ ?_ (fun hHeld => ?_)))
          · first | exact hr2.out
          clear hK K
          try simp only [Act.put, List.setIfInBounds_toArray, List.set_cons_zero, List.set_cons_succ]
          first | (refine tw (i := 8) (v := ?_) ?_ hHeld ?_; rotate_left; focus (intro w hSw; (try dsimp only at hSw); (try skip); go_simp; (try with_reducible rfl); done)) | refine tn (i := 8) hHeld ?_
          try simp only [Act.put, List.setIfInBounds_toArray, List.set_cons_zero, List.set_cons_succ]
          first | (refine tw (i := 9) (v := ?_) ?_ hHeld ?_; rotate_left; focus (intro w hSw; (try dsimp only at hSw); (try skip); go_simp; (try with_reducible rfl); done)) | refine tn (i := 9) hHeld ?_
          try simp only [Act.put, List.setIfInBounds_toArray, List.set_cons_zero, List.set_cons_succ]
          refine call_next (i := 16) (by kernel_rfl) (by rfl) ?_
          intro o ho K hK
          simp only [List.getElem?_toArray, List.getElem?_cons_succ, List.getElem?_cons_zero, Option.some.injEq] at ho
          subst ho
          first | (fail; refine hK.out _ _ ?_ (fun hHeld => ?_)) | (go_simp; first | (with_reducible refine hK.out _ _ ?_ (fun hHeld => ?_)) | ((first | (go_at_call 22; (with_reducible refine (hT1.out _).mono ?_); rintro e6 w6 ⟨rfl, hA⟩; replace hB2 := Lib.hid (bt hB2.out hA); replace hr2 := Lib.hid (And.intro (bkeep hA hr2.out.1) (And.intro (bkeep hA hr2.out.2.1) (bkeep hA hr2.out.2.2))); clear hA) | (go_at_call 22; (with_reducible refine (hT2.out _).mono ?_); rintro e6 w6 ⟨rfl, hA⟩; replace hB2 := Lib.hid (bt hB2.out hA); replace hr2 := Lib.hid (And.intro (bkeep hA hr2.out.1) (And.intro (bkeep hA hr2.out.2.1) (bkeep hA hr2.out.2.2))); clear hA)); refine hK.out _ _ ?_ (fun hHeld => ?_)))
          · first | exact hr2.out
          clear hK K
          try simp only [Act.put, List.setIfInBounds_toArray, List.set_cons_zero, List.set_cons_succ]
          first | (refine tw (i := 17) (v := ?_) ?_ hHeld ?_; rotate_left; focus (intro w hSw; (try dsimp only at hSw); (try skip); go_simp; (try with_reducible rfl); done)) | refine tn (i := 17) hHeld ?_
          try simp only [Act.put, List.setIfInBounds_toArray, List.set_cons_zero, List.set_cons_succ]
          first | (refine tw (i := 18) (v := ?_) ?_ hHeld ?_; rotate_left; focus (intro w hSw; (try dsimp only at hSw); (try skip); go_simp; (try with_reducible rfl); done)) | refine tn (i := 18) hHeld ?_
          try simp only [Act.put, List.setIfInBounds_toArray, List.set_cons_zero, List.set_cons_succ]
          refine wpAnyH_done (by kernel_rfl) ?_ _
          obtain ⟨p0, p1, p2⟩ := hr2.out
          go_wp2
          exact ⟨⟨1, by omega, rfl, by rw [hs.out]; try simp, hB2⟩, by simp [intOf]; omega⟩
    · have hd2 : decide ((k : Int) < (l.length : Int)) = false := decide_eq_false (by omega)
      have hd3 : decide (k < l.length) = false := decide_eq_false hlt
      rw [List.take_of_length_le (by omega)]
      go_wp2
      exact hE.out _ hB.out
theorem pt_neq (a b c : Int) (W : World) : (binOp .neq 42 (.agg #[.int .i64 a, .int .i64 b, .int .i64 c]) (.agg #[.int .i64 a, .int .i64 b, .int .i64 c])).run Tryd.prog W = .ok (.bool false) W := by simp [go_sem]
set_option maxHeartbeats 1600000 in
theorem parts_eq (a1 a2 : Option Addr) (c1 c2 : Nat) (l : List I3) (w : World) (h1 : P3At w a1 l) (h2 : P3At w a2 l) (hm : l.length ≤ 1000000) :
    Calls Tryd.prog 9 #[.slice a1 l.length c1, .slice a2 l.length c2] w fun e w' => e = .returned (.bool true) ∧ Below w.heap.size w w' := by
  replace h1 := Lib.hid h1
  replace h2 := Lib.hid h2
  go_enter Tryd.func9, Tryd.ntmps9
  go_wp2
  go_loopw [5] (fun i wr => ∃ k : Nat, k ≤ l.length ∧ i = .int .i64 k ∧ Hid (Below w.heap.size w wr)) (fun i _ => l.length - (intOf i).toNat)
  case atStart => exact ⟨0, Nat.zero_le _, rfl, Below.refl _ _⟩
  case round =>
    obtain ⟨k, hk, rfl, hB⟩ := hrel
    by_cases hlt : k < l.length
    · have hd2 : decide ((k : Int) < (l.length : Int)) = true := decide_eq_true (by omega)
      have hd3 : decide (k < l.length) = true := decide_eq_true hlt
      obtain ⟨y, hy⟩ : ∃ y, l[k]? = some y := ⟨_, List.getElem?_eq_getElem hlt⟩
      obtain ⟨g, o, rfl, p0, p1, p2⟩ := h1.out k y hy
      obtain ⟨g2, o2, rfl, q0, q1, q2⟩ := h2.out k y hy
      have p0 := bkeep hB.out p0
      have p1 := bkeep hB.out p1
      have p2 := bkeep hB.out p2
      have q0 := bkeep hB.out q0
      have q1 := bkeep hB.out q1
      have q2 := bkeep hB.out q2
      have i1 : (0 : Int) ≤ (k : Int) := by omega
      have i2 : (k : Int) < (l.length : Int) := by omega
      have hcm := pt_neq y.1 y.2.1 y.2.2
      have hfin := Lib.hid (fun n => bdraws hB.out n)
      clear hy
      go_wp2
      go_quiet (fail)
      go_wp2
      exact ⟨⟨k + 1, by omega, by go_num, hfin.out _⟩, by simp [intOf]; omega⟩
    · have hd2 : decide ((k : Int) < (l.length : Int)) = false := decide_eq_false (by omega)
      have hd3 : decide (k < l.length) = false := decide_eq_false hlt
      go_wp2
      go_ret
      exact ⟨rfl, hB.out⟩
end Go.Proofs.YtlmmmibnnbceeaaDoor
