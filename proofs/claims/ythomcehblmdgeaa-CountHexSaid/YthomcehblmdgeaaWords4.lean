/-
  Two lists of texts are compared (chapter 1).
-/
import Derived.Test.YthomcehblmdgeaaWords3
import Derived.BigQuiet
namespace Go.Proofs.Ythomcehblmdgeaa
open Go.RowKit
set_option linter.unusedVariables false
set_option linter.unusedSimpArgs false

/-- the texts that a slice lists -/
def Texts (w : World) (v : Value) (l : List ByteArray) : Prop :=
  (v = .slice none 0 0 ∧ l = []) ∨ ∃ g cap, v = .slice (some ⟨g, 0, none⟩) l.length cap ∧ ∀ k (h : k < l.length), w.cell? ⟨g, k, none⟩ = some (.string l[k])
theorem Texts.below {w w' : World} {v : Value} {l : List ByteArray} (h : Texts w v l) (hb : Below w.heap.size w w') : Texts w' v l := by
  rcases h with h | ⟨g, cap, e, hc⟩
  · exact .inl h
  · exact .inr ⟨g, cap, e, fun k hk => (hb.cell (World.block_lt_of_cell? w _ (hc k hk))).trans (hc k hk)⟩
theorem Texts.len {w : World} {v : Value} {l : List ByteArray} (h : Texts w v l) : ∃ a cap, v = .slice a l.length cap := by
  rcases h with ⟨rfl, rfl⟩ | ⟨g, cap, e, hc⟩
  · exact ⟨none, 0, rfl⟩
  · exact ⟨_, cap, e⟩
theorem Strs.texts {w : World} {B : Nat} {v : Value} {l : List ByteArray} (h : Strs w B v l) : Texts w v l := by
  have hcells := fun g hg => World.ownsRow.cells (g := g) h hg
  rcases h.2 with ⟨e, hn⟩ | ⟨g, cap, cur, e, _⟩
  · exact .inl ⟨e, List.length_eq_zero_iff.1 hn⟩
  · refine .inr ⟨g, cap, e, fun k hk => ?_⟩
    have h1 := hcells g (by rw [e]; rfl) k (.string l[k]) (by rw [List.getElem?_map, List.getElem?_eq_getElem hk]; rfl)
    rw [Go.WideShapes.add_plain, Nat.zero_add] at h1
    exact h1
theorem ne_lists {l1 l2 : List ByteArray} (k : Nat) (h1 : k < l1.length) (h2 : k < l2.length) (h : l1[k] ≠ l2[k]) : l1 ≠ l2 := by
  rintro rfl; exact h rfl
theorem ba_ext {a b : ByteArray} (h : a.toList = b.toList) : a = b := by
  cases a; cases b
  rw [ByteArray.toList_eq, ByteArray.toList_eq] at h
  congr
  exact Array.toList_inj.1 h
set_option maxHeartbeats 3200000 in
theorem same_any (v1 v2 : Value) (l1 l2 : List ByteArray) (w : World) (h1 : Texts w v1 l1) (h2 : Texts w v2 l2) (hm : l1.length ≤ 1099511627776) : Calls Try.prog 14 #[v1, v2] w fun e w' => e = .returned (.bool (decide (l1 = l2))) ∧ Below w.heap.size w w' := by
  by_cases hlen : l1.length = l2.length
  · rcases h1 with ⟨rfl, rfl⟩ | ⟨g1, c1, rfl, hc1⟩
    · obtain ⟨a, cap, rfl⟩ := h2.len
      obtain rfl : l2 = [] := List.length_eq_zero_iff.1 hlen.symm
      clear h2 hlen
      go_enter Try.func14, Try.ntmps14
      go_wp2
      refine wp_loop_rounds 1 ?_
      rw [rounds_succ]
      go_wp2
      go_ret
      exact ⟨rfl, Below.refl _ _⟩
    · rcases h2 with ⟨rfl, rfl⟩ | ⟨g2, c2, rfl, hc2⟩
      · obtain rfl : l1 = [] := List.length_eq_zero_iff.1 hlen
        go_enter Try.func14, Try.ntmps14
        go_wp2
        refine wp_loop_rounds 1 ?_
        rw [rounds_succ]
        go_wp2
        go_ret
        exact ⟨rfl, Below.refl _ _⟩
      · have HLE := Lib.hid hlen
        have HC1 := Lib.hid hc1
        have HC2 := Lib.hid hc2
        obtain ⟨n, hn⟩ : ∃ n, l1.length = n := ⟨_, rfl⟩
        have hn2 : l2.length = n := by omega
        rw [hn] at hm ⊢
        rw [hn2]
        have HN := Lib.hid hn
        have HN2 := Lib.hid hn2
        clear hc1 hc2 hlen hn hn2
        go_enter Try.func14, Try.ntmps14
        go_wp2
        go_loopw [5] (fun i wr => ∃ k : Nat, k ≤ n ∧ i = .int .i64 k ∧ Hid (l1.take k = l2.take k) ∧ Hid (Below w.heap.size w wr)) (fun i _ => n - (intOf i).toNat)
        case atStart => exact ⟨0, Nat.zero_le _, rfl, rfl, Below.refl _ _⟩
        case round =>
          obtain ⟨k, hk, rfl, HT, HB⟩ := hrel
          by_cases hlt : k < n
          · have hk1 : k < l1.length := by have := HN.out; omega
            have hk2 : k < l2.length := by have := HN2.out; omega
            have d1 := (HB.out.cell (World.block_lt_of_cell? w _ (HC1.out k hk1))).trans (HC1.out k hk1)
            have d2 := (HB.out.cell (World.block_lt_of_cell? w _ (HC2.out k hk2))).trans (HC2.out k hk2)
            by_cases he : l1[k] = l2[k]
            · have hs : ((l1[k]).toList == (l2[k]).toList) = true := by rw [he]; exact beq_self_eq_true _
              have HT' : Hid (l1.take (k + 1) = l2.take (k + 1)) := by
                show _ = _
                rw [List.take_succ_eq_append_getElem hk1, List.take_succ_eq_append_getElem hk2, HT.out, he]
              generalize l1[k] = x at *
              generalize l2[k] = y at *
              clear he hk1 hk2
              go_wp2
              go_quiet (fail)
              go_wp2
              exact ⟨⟨k + 1, by omega, by go_num, HT', bdraws HB.out _⟩, by simp [intOf]; omega⟩
            · have hs : ((l1[k]).toList == (l2[k]).toList) = false := by rw [beq_eq_false_iff_ne]; intro h; exact he (ba_ext h)
              have HF : Hid (decide (l1 = l2) = false) := decide_eq_false (ne_lists k hk1 hk2 he)
              generalize l1[k] = x at *
              generalize l2[k] = y at *
              clear he hk1 hk2
              go_wp2
              go_quiet (fail)
              go_wp2
              go_ret
              exact ⟨congrArg (fun x => Ending.returned (.bool x)) HF.out.symm, bdraws HB.out _⟩
          · obtain rfl : k = n := by omega
            have HF : Hid (decide (l1 = l2) = true) := decide_eq_true (by
              have := HT.out
              rw [List.take_of_length_le (by rw [HN.out]; exact Nat.le_refl _), List.take_of_length_le (by rw [HN2.out]; exact Nat.le_refl _)] at this
              exact this)
            go_wp2
            go_ret
            exact ⟨congrArg (fun x => Ending.returned (.bool x)) HF.out.symm, HB.out⟩
  · have HF : Hid (decide (l1 = l2) = false) := decide_eq_false (fun h => hlen (by rw [h]))
    obtain ⟨a1, c1, rfl⟩ := h1.len
    obtain ⟨a2, c2, rfl⟩ := h2.len
    have hb : ((l1.length : Int) != (l2.length : Int)) = true := by rw [bne_iff_ne]; omega
    clear h1 h2 hlen
    go_enter Try.func14, Try.ntmps14
    go_wp2
    go_ret
    exact ⟨congrArg (fun x => Ending.returned (.bool x)) HF.out.symm, Below.refl _ _⟩
theorem long_any (s : ByteArray) (w : World) : Calls Try.prog 8 #[.string s] w fun e w' => e = .returned (.bool (decide ((3000 : Int) < (s.size : Int)))) ∧ w = w' := by
  go_enter Try.func8, Try.ntmps8
  go_wp2
  go_ret
  exact ⟨rfl, rfl⟩
end Go.Proofs.Ythomcehblmdgeaa
