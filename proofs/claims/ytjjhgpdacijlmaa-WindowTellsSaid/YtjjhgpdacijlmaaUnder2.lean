/-
  A window's bodies under way, with their numbers, as a list.
-/
import Derived.Test.YtjjhgpdacijlmaaUnder
namespace Go.Proofs.Ytjjhgpdacijlmaa
open Go.RowKit Go.Shelf
set_option linter.unusedVariables false
set_option linter.unusedSimpArgs false
theorem gotS_len (f : Int) (L : List ByteArray) (most : Int) : (gotS f L most).length = min (max most 1).toNat L.length := by
  unfold gotS
  rw [List.length_map, List.length_take, tellS_len]
theorem gotS_get (f : Int) (L : List ByteArray) (most : Int) (i : Nat) (hf : 0 ≤ f ∧ f ≤ 1000000) (hL : L.length ≤ 8) (hi : i < (gotS f L most).length) : (gotS f L most)[i]? = some (f + i, L.getD i ⟨#[]⟩) := by
  have hl := gotS_len f L most
  have h1 : i < L.length := by omega
  unfold gotS tellS uptoS
  have h2 : i < (max most 1).toNat := by omega
  rw [List.getElem?_map, List.getElem?_take, if_pos h2, List.getElem?_map, List.getElem?_map, List.getElem?_range h1]
  simp only [Option.map_some, toldS, numS, Int.toNat_natCast]
  rw [show IntKind.i64.wrap (f + (i : Int)) = f + i by rw [IntKind.wrap_i64]; omega]
/-- under, of a window that is none -/
theorem under1_nil (fn : Fn) (ts cs : Array Value) (P : Nat) (w : World) (hP : w.cell? ⟨P, 0, none⟩ = some (.pointer none)) : Calls Try.prog 25 #[.func fn ts cs, .pointer (some ⟨P, 0, none⟩)] w fun e w' => e = .returned (.tuple #[]) ∧ w' = w.alloc (.cells #[.func fn ts cs] 57) := by
  have h1 := bkeep ((Below.refl _ w).alloc (Nat.le_refl _) (.cells #[.func fn ts cs] 57)) hP
  refine (callsIn_wide (n := 8)).1 ?_
  refine callsIn_of_wp_marks Try.func25 rfl trivial ?_ rfl
  simp only [Try.ntmps25, List.size_toArray, List.length_cons, List.length_nil, Nat.reduceAdd, Nat.reduceSub, Array.replicate_succ, Array.replicate_zero, List.push_toArray, List.append_toArray, List.nil_append, List.cons_append]
  gi_wp2
  refine ⟨.tuple #[], ?_, rfl, rfl⟩
  simp [results, Try.f25, go_sem]
theorem under_nil (most : Int) (w : World) : Calls Try.prog 15 #[.pointer none, .int .i64 most] w fun e w' => e = .returned (.slice none 0 0) ∧ Below w.heap.size w w' := by
  have hU := Lib.hid (fun w => under_fn none w)
  go_enter Try.func15, Try.ntmps15
  go_wp2_with fail
  refine (hU.out _).mono ?_
  rintro e w1 ⟨rfl, rfl⟩
  go_wp2_with fail
  refine (under1_nil _ _ _ _ _ (by simp [go_sem])).mono ?_
  rintro e w2 ⟨rfl, rfl⟩
  go_wp2
  go_ret
  exact ⟨rfl, ((((Below.refl _ w).alloc (Nat.le_refl _) _).alloc (by simp) _).alloc (by simp; omega) _).alloc (by simp; omega) _⟩
set_option maxHeartbeats 1600000 in
theorem under_any {w : World} {r u g : Nat} {L : List ByteArray} {f l most : Int} (hX : WX w r u g L f l) : Calls Try.prog 15 #[.pointer (some ⟨r, 0, none⟩), .int .i64 most] w fun e w' =>
    (∃ v D, e = .returned v ∧ w.heap.size ≤ D ∧ URow w' D v (gotS f L most)) ∧ Below w.heap.size w w' := by
  have hU := Lib.hid (fun w => under_fn (some ⟨r, 0, none⟩) w)
  obtain ⟨hr, hu, hg⟩ := hX.lt
  go_enter Try.func15, Try.ntmps15
  go_wp2_with fail
  refine (hU.out _).mono ?_
  rintro e w1 ⟨rfl, rfl⟩
  go_wp2_with fail
  have hb : Below w.heap.size w (((w.alloc (.cells #[.int .i64 most] 3)).alloc (.cells #[.slice none 0 0] 38)).alloc (.cells #[.pointer (some ⟨r, 0, none⟩)] 24)) := (((Below.refl _ w).alloc (Nat.le_refl _) _).alloc (by simp) _).alloc (by simp; omega) _
  have hz : (((w.alloc (.cells #[.int .i64 most] 3)).alloc (.cells #[.slice none 0 0] 38)).alloc (.cells #[.pointer (some ⟨r, 0, none⟩)] 24)).heap.size = w.heap.size + 3 := by simp
  have k0 : (((w.alloc (.cells #[.int .i64 most] 3)).alloc (.cells #[.slice none 0 0] 38)).alloc (.cells #[.pointer (some ⟨r, 0, none⟩)] 24)).cell? ⟨w.heap.size, 0, none⟩ = some (.int .i64 most) := by simp [go_sem]
  have k2 : (((w.alloc (.cells #[.int .i64 most] 3)).alloc (.cells #[.slice none 0 0] 38)).alloc (.cells #[.pointer (some ⟨r, 0, none⟩)] 24)).cell? ⟨w.heap.size + 2, 0, none⟩ = some (.pointer (some ⟨r, 0, none⟩)) := by simp [go_sem]
  have k1 : Boxed (((w.alloc (.cells #[.int .i64 most] 3)).alloc (.cells #[.slice none 0 0] 38)).alloc (.cells #[.pointer (some ⟨r, 0, none⟩)] 24)) (w.heap.size + 1) 38 (.slice none 0 0) := by
    have := Boxed.new (w.alloc (.cells #[.int .i64 most] 3)) 38 (.slice none 0 0)
    rw [World.size_alloc] at this
    exact this.alloc _
  have hX1 := hX.below hb
  obtain ⟨N, hN⟩ : ∃ N, w.heap.size = N := ⟨_, rfl⟩
  rw [hN] at hz k0 k1 k2 hr hu hg hb
  generalize (((w.alloc (.cells #[.int .i64 most] 3)).alloc (.cells #[.slice none 0 0] 38)).alloc (.cells #[.pointer (some ⟨r, 0, none⟩)] 24)) = W at *
  simp only [hN, World.size_alloc]
  have hT := Lib.hid (under1_tell hX1 k2 k1 k0 (by omega) (by omega) (by omega) (by omega) (by omega))
  clear hX1 k0 k1 k2 hX hU
  refine hT.out.mono ?_
  rintro e w2 ⟨rfl, ⟨v, D, hD, hbx, hrow⟩, hF⟩
  have hc := hbx.cell
  go_wp2
  go_ret
  have hB2 : Below N w w2 := ⟨hF.os.trans hb.os, hF.tape.trans hb.tape, hF.output.trans hb.output, Nat.le_trans hb.size hF.size, fun k hk => (hF.block k (by omega) (by omega)).trans (hb.block k hk)⟩
  exact ⟨⟨v, D, rfl, by omega, hrow⟩, hN ▸ hB2⟩
end Go.Proofs.Ytjjhgpdacijlmaa
