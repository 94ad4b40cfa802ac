/-
  Errors, operations and what a node knows of itself in words (chapter 34): both sides.
-/
import Derived.Test.YtaddbljdheafaaaDoorRep2
import Derived.Deep.Cut
import Derived.Deep.CutRange
namespace Go.Proofs.YtaddbljdheafaaaDoor
open Go.RowKit
set_option linter.unusedVariables false
set_option linter.unusedSimpArgs false
set_option maxRecDepth 20000

def errS (e : Int) : ByteArray := if e = 0 then ⟨#[111, 107]⟩ else ⟨#[101, 114, 114, 111, 114, 32]⟩ ++ textS e
set_option maxHeartbeats 1600000 in
theorem error_any (e : Int) (w : World) (he : I64 e) : Calls Tryd.prog 21 #[.int .i64 e] w fun e' w' => e' = .returned (.string (errS e)) ∧ Below w.heap.size w w' := by
    have hE : ∀ (t : ByteArray) W, t = errS e → Below w.heap.size w W → (fun (e' : Ending) (w' : World) => e' = .returned (.string (errS e)) ∧ Below w.heap.size w w') (.returned (.string t)) W := by
      rintro t W rfl h
      exact ⟨rfl, h⟩
    have h0 : errS e = if e = 0 then ⟨#[111, 107]⟩ else ⟨#[101, 114, 114, 111, 114, 32]⟩ ++ textS e := rfl
    generalize (fun (e' : Ending) (w' : World) => e' = .returned (.string (errS e)) ∧ Below w.heap.size w w') = Pst at *
    generalize errS e = tt at *
    replace hE := Lib.hid hE
    have hT := fun W => text_any e W he.1 he.2
    have hz := textS_size e
    have hz2 : ¬ 9223372036854775807 < 6 + (textS e).size := by omega
    generalize textS e = tx at *
    replace hT := Lib.hid hT
    clear he
    by_cases hk : e = 0
    · subst hk
      rw [if_pos rfl] at h0
      replace h0 := Lib.hid h0
      go_enter Tryd.func21, Tryd.ntmps21
      go_wp2
      exact hE.out _ _ h0.out.symm (Below.refl _ _)
    · have n1 : (e == 0) = false := by simpa using hk
      rw [if_neg hk] at h0
      replace h0 := Lib.hid h0
      clear hk
      go_enter Tryd.func21, Tryd.ntmps21
      go_wp2_with (go_at_call 31; (with_reducible refine (hT.out _).mono ?_); rintro e5 w5 ⟨rfl, hA⟩)
      exact hE.out _ _ h0.out.symm hA
set_option maxHeartbeats 1600000 in
theorem rerror_any (e : Int) (w : World) (he : I64 e) : Calls Tryd.prog 22 #[.int .i64 e] w fun e' w' => e' = .returned (.string (errS e)) ∧ Below w.heap.size w w' := by
    have hE : ∀ (t : ByteArray) W, t = errS e → Below w.heap.size w W → (fun (e' : Ending) (w' : World) => e' = .returned (.string (errS e)) ∧ Below w.heap.size w w') (.returned (.string t)) W := by
      rintro t W rfl h
      exact ⟨rfl, h⟩
    have h0 : errS e = if e = 0 then ⟨#[111, 107]⟩ else ⟨#[101, 114, 114, 111, 114, 32]⟩ ++ textS e := rfl
    generalize (fun (e' : Ending) (w' : World) => e' = .returned (.string (errS e)) ∧ Below w.heap.size w w') = Pst at *
    generalize errS e = tt at *
    replace hE := Lib.hid hE
    have hT := fun W => rtext_any e W he.1 he.2
    have hz := textS_size e
    have hz2 : ¬ 9223372036854775807 < 6 + (textS e).size := by omega
    generalize textS e = tx at *
    replace hT := Lib.hid hT
    clear he
    by_cases hk : e = 0
    · subst hk
      rw [if_pos rfl] at h0
      replace h0 := Lib.hid h0
      go_enter Tryd.func22, Tryd.ntmps22
      go_wp2
      exact hE.out _ _ h0.out.symm (Below.refl _ _)
    · have n1 : (e == 0) = false := by simpa using hk
      rw [if_neg hk] at h0
      replace h0 := Lib.hid h0
      clear hk
      go_enter Tryd.func22, Tryd.ntmps22
      go_wp2_with (go_at_call 34; (with_reducible refine (hT.out _).mono ?_); rintro e5 w5 ⟨rfl, hA⟩)
      exact hE.out _ _ h0.out.symm hA
def howS (h : Int) : ByteArray := if h = 1 then ⟨#[97, 108, 111, 110, 101]⟩ else if h = 2 then ⟨#[98, 111, 116, 104]⟩ else ⟨#[119, 97, 105, 116, 115]⟩
def evS (id h : Int) : ByteArray := jn [⟨#[111, 112]⟩, textS id, howS h]
theorem ev_app (id h : Int) : evS id h = ((⟨#[111, 112, 32]⟩ ++ textS id) ++ ⟨#[32]⟩) ++ howS h := by
  apply dl_eq
  unfold evS jn
  rw [la]
  simp only [List.map_cons, List.map_nil, Lib.join_cons, Lib.joinTail, List.flatten_cons, List.flatten_nil, ByteArray.data_append, Array.toList_append, List.append_assoc, List.cons_append, List.nil_append, List.append_nil]
theorem howS_size (h : Int) : (howS h).size ≤ 5 := by
  unfold howS
  split
  · decide
  · split <;> decide
theorem ev_size (id h : Int) : (evS id h).size ≤ 1000 := by
  refine Nat.le_trans (jn_size _) ?_
  have := textS_size id
  have := howS_size h
  have : (⟨#[111, 112]⟩ : ByteArray).size = 2 := rfl
  simp only [List.map_cons, List.map_nil, List.sum_cons, List.sum_nil, List.length_cons, List.length_nil]
  omega
theorem how_cases (h : Int) : (h = 1 ∧ howS h = ⟨#[97, 108, 111, 110, 101]⟩) ∨ ((h == 1) = false ∧ h = 2 ∧ howS h = ⟨#[98, 111, 116, 104]⟩) ∨ ((h == 1) = false ∧ (h == 2) = false ∧ howS h = ⟨#[119, 97, 105, 116, 115]⟩) := by
  by_cases h1 : h = 1
  · exact .inl ⟨h1, by rw [h1]; rfl⟩
  · by_cases h2 : h = 2
    · exact .inr (.inl ⟨by simpa using h1, h2, by rw [h2]; rfl⟩)
    · refine .inr (.inr ⟨by simpa using h1, by simpa using h2, ?_⟩)
      unfold howS
      rw [if_neg h1, if_neg h2]
set_option maxHeartbeats 1600000 in
theorem event_any (id h : Int) (w : World) (hi : I64 id) : Calls Tryd.prog 19 #[.agg #[.int .i64 id, .int .i64 h]] w fun e' w' => e' = .returned (.string (evS id h)) ∧ Below w.heap.size w w' := by
  rw [ev_app]
  have hT := fun W => text_any id W hi.1 hi.2
  have hz := textS_size id
  have hz2 := howS_size h
  rcases how_cases h with ⟨rfl, h0⟩ | ⟨n1, rfl, h0⟩ | ⟨n1, n2, h0⟩
  all_goals
    rw [h0]
    clear h0 hz2
    generalize textS id = tx at *
    have g1 : ¬ 9223372036854775807 < 3 + tx.size := by omega
    have g2 : ¬ 9223372036854775807 < 3 + tx.size + 1 := by omega
    have g3 : ¬ 9223372036854775807 < 3 + tx.size + 1 + 5 := by omega
    have g4 : ¬ 9223372036854775807 < 3 + tx.size + 1 + 4 := by omega
    replace hT := Lib.hid hT
    go_enter Tryd.func19, Tryd.ntmps19
    go_wp2_with (go_at_call 31; (with_reducible refine (hT.out _).mono ?_); rintro e5 w5 ⟨rfl, hA⟩; replace hA := Lib.hid (bt (alb _ _) hA))
    go_ret
    exact ⟨rfl, hA.out⟩
set_option maxHeartbeats 1600000 in
theorem revent_any (id h : Int) (w : World) (hi : I64 id) : Calls Tryd.prog 20 #[.agg #[.int .i64 id, .int .i64 h]] w fun e' w' => e' = .returned (.string (evS id h)) ∧ Below w.heap.size w w' := by
  have hT := fun W => rtext_any id W hi.1 hi.2
  have hJ := fun W => words_ref _ _ _ (tx_lit W [⟨#[111, 112]⟩, textS id, howS h] #[.string ⟨#[111, 112]⟩, .string (textS id), .string (howS h)] 3 rfl rfl) (by have : (jn [⟨#[111, 112]⟩, textS id, howS h]).size ≤ 1000 := ev_size id h; omega) (by simp)
  have he : evS id h = jn [⟨#[111, 112]⟩, textS id, howS h] := rfl
  rw [← he] at hJ
  clear he
  rcases how_cases h with ⟨rfl, h0⟩ | ⟨n1, rfl, h0⟩ | ⟨n1, n2, h0⟩
  all_goals
    rw [h0] at hJ
    clear h0
    generalize evS id _ = tt at *
    generalize textS id = tx at *
    replace hT := Lib.hid hT
    replace hJ := Lib.hid hJ
    go_enter Tryd.func20, Tryd.ntmps20
    go_wp2_with (first | (go_at_call 34; (with_reducible refine (hT.out _).mono ?_); rintro e5 w5 ⟨rfl, hA⟩; replace hA := Lib.hid (bt (alb _ _) hA)) | (go_at_call 27; (with_reducible refine (hJ.out _).mono ?_); rintro e6 w6 ⟨rfl, hA2⟩; replace hA := Lib.hid (bt hA.out (bt (alb _ _) hA2))))
    go_ret
    exact ⟨rfl, hA.out⟩
theorem either_any (b : Bool) (y n : ByteArray) (w : World) : Calls Tryd.prog 40 #[.bool b, .string y, .string n] w fun e w' => e = .returned (.string (if b then y else n)) ∧ w' = w := by
  cases b
  all_goals
    go_enter Tryd.func40, Tryd.ntmps40
    go_wp2
    go_ret
    exact ⟨rfl, rfl⟩
end Go.Proofs.YtaddbljdheafaaaDoor
