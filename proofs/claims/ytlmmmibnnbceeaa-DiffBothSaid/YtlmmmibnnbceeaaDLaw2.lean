/-
  What comes of two versions of a base (chapter 41): the law.
-/
import Derived.Test.YtlmmmibnnbceeaaRSides
namespace Go.Proofs.Ytlmmmibnnbceeaa
open Go.RowKit
set_option linter.unusedVariables false
set_option linter.unusedSimpArgs false

set_option maxHeartbeats 1600000 in
theorem rsides_any (o a b : ByteArray) (w : World) (hn : o.size ≤ 1500) :
    Calls Try.prog 15 #[.string o, .string a, .string b] w fun e w' => (∃ v B, e = .returned (.tuple #[v, .int .i64 (sidE o a b)]) ∧ w.heap.size ≤ B ∧ PtRow w' B v (sidL o a b)) ∧ Below w.heap.size w w' := by
  have hM := fun w => rmerge_any o a b w hn
  by_cases hs : a.size = o.size ∧ b.size = o.size
  · have hz : szE o a b = 0 := by unfold szE; rw [if_pos hs]
    by_cases h0 : o.size = 0
    · have hE : sidE o a b = 8 := by unfold sidE; rw [if_neg (by rw [hz]; simp), if_pos h0]
      have hL : sidL o a b = [] := by unfold sidL; rw [if_neg (by rw [hE]; decide)]
      rw [hE, hL]
      rw [hz] at hM
      have hM := Lib.hid hM
      have e1 : o.toList.isEmpty = true := by
        have h := ByteArray.toList_eq o
        rw [h, List.isEmpty_iff, Array.toList_eq_nil_iff, ← Array.size_eq_zero_iff]; exact h0
      go_enter Try.func15, Try.ntmps15
      go_wp2_with (go_at_call 13; (with_reducible refine (hM.out _).mono ?_); rintro e w2 ⟨⟨v2, B2, rfl, _, hv2⟩, hb2⟩)
      refine bodyPost_ret (v := .tuple #[.slice none 0 0, .int .i64 8]) (by simp [results, Try.f15, go_sem]) rfl ?_
      exact ⟨⟨_, w2.heap.size, rfl, hb2.size, ⟨rfl, .inl ⟨rfl, rfl⟩⟩⟩, hb2⟩
    · by_cases hc : rs (pC o a b) o.size = []
      · have hE : sidE o a b = 0 := by unfold sidE; rw [if_neg (by rw [hz]; simp), if_neg h0, if_neg (by simp [hc])]
        have hL : sidL o a b = pts (pT o a b) o.size := by unfold sidL; rw [if_pos hE]
        rw [hE, hL]
        exact rsides_eq o a b o.size rfl hs.1 hs.2 hn (by omega) hc w
      · have hE : sidE o a b = 14 := by unfold sidE; rw [if_neg (by rw [hz]; simp), if_neg h0, if_pos hc]
        have hL : sidL o a b = [] := by unfold sidL; rw [if_neg (by rw [hE]; decide)]
        rw [hE, hL]
        have hml : mrgL o a b = rs (pC o a b) o.size := by unfold mrgL; rw [if_pos hs]
        rw [hz, hml] at hM
        have hM := Lib.hid hM
        have e1 : o.toList.isEmpty = false := by
          cases h : o.toList with
          | nil => exact absurd (by rw [ba_eq h]; rfl) h0
          | cons x l => rfl
        have hpos : 0 < (rs (pC o a b) o.size).length := by
          cases h : rs (pC o a b) o.size with
          | nil => exact absurd h hc
          | cons x l => simp
        generalize rs (pC o a b) o.size = L at *
        have hd : decide (0 < L.length) = true := decide_eq_true hpos
        have hd2 : decide ((0 : Int) < (L.length : Int)) = true := decide_eq_true (by omega)
        go_enter Try.func15, Try.ntmps15
        go_wp2_with (go_at_call 13; (with_reducible refine (hM.out _).mono ?_); rintro e w2 ⟨⟨v2, B2, rfl, _, hv2⟩, hb2⟩; obtain ⟨av2, cv2, rfl⟩ := hv2.any)
        refine bodyPost_ret (v := .tuple #[.slice none 0 0, .int .i64 14]) (by simp [results, Try.f15, go_sem]) rfl ?_
        exact ⟨⟨_, w2.heap.size, rfl, hb2.size, ⟨rfl, .inl ⟨rfl, rfl⟩⟩⟩, hb2⟩
  · have hz : szE o a b = 12 := by unfold szE; rw [if_neg hs]
    have hE : sidE o a b = 12 := by unfold sidE; rw [if_pos (by rw [hz]; decide), hz]
    have hL : sidL o a b = [] := by unfold sidL; rw [if_neg (by rw [hE]; decide)]
    rw [hE, hL]
    rw [hz] at hM
    have hM := Lib.hid hM
    go_enter Try.func15, Try.ntmps15
    go_wp2_with (go_at_call 13; (with_reducible refine (hM.out _).mono ?_); rintro e w2 ⟨⟨v2, B2, rfl, _, hv2⟩, hb2⟩)
    refine bodyPost_ret (v := .tuple #[.slice none 0 0, .int .i64 12]) (by simp [results, Try.f15, go_sem]) rfl ?_
    exact ⟨⟨_, w2.heap.size, rfl, hb2.size, ⟨rfl, .inl ⟨rfl, rfl⟩⟩⟩, hb2⟩
/-- v reads as the parts l -/
def PtAt (W : World) (v : Value) (l : List P3) : Prop := ∃ av c, v = .slice av l.length c ∧ ∀ k x, l[k]? = some x → ∃ g, av = some ⟨g, 0, none⟩ ∧ W.cell? ⟨g, k * 3, none⟩ = some (.int .i64 x.1) ∧ W.cell? ⟨g, k * 3 + 1, none⟩ = some (.int .i64 x.2.1) ∧ W.cell? ⟨g, k * 3 + 2, none⟩ = some (.int .i64 x.2.2)
theorem PtRow.at {W : World} {B : Nat} {v : Value} {l : List P3} (h : PtRow W B v l) : PtAt W v l := by
  by_cases e : l = []
  · subst e
    obtain ⟨a, c, rfl⟩ := h.any
    exact ⟨a, c, rfl, fun k x hk => by simp at hk⟩
  · obtain ⟨g, c, rfl, _, _⟩ := h.slice e
    exact ⟨_, c, rfl, fun k x hk => ⟨g, rfl, h.cells k x hk⟩⟩
theorem PtAt.keep {W W' : World} {v : Value} {l : List P3} (h : PtAt W v l) (hb : Below W.heap.size W W') : PtAt W' v l := by
  obtain ⟨av, c, rfl, h⟩ := h
  exact ⟨av, c, rfl, fun k x hk => by obtain ⟨g, e, h1, h2, h3⟩ := h k x hk; exact ⟨g, e, bkeep hb h1, bkeep hb h2, bkeep hb h3⟩⟩
set_option maxHeartbeats 1600000 in
theorem same_parts (u v : Value) (l : List P3) (w : World) (hu : PtAt w u l) (hv : PtAt w v l) (hm : l.length ≤ 1000001) :
    Calls Try.prog 16 #[u, v] w fun e w' => e = .returned (.bool true) ∧ Below w.heap.size w w' := by
  obtain ⟨au, cu, rfl, hu⟩ := hu
  obtain ⟨av, cv, rfl, hv⟩ := hv
  have hu := Lib.hid hu
  have hv := Lib.hid hv
  go_enter Try.func16, Try.ntmps16
  go_wp2
  go_loopw [5] (fun i wr => ∃ k : Nat, k ≤ l.length ∧ i = .int .i64 k ∧ Hid (Below w.heap.size w wr)) (fun i _ => l.length - (intOf i).toNat)
  case atStart => exact ⟨0, Nat.zero_le _, rfl, Below.refl _ _⟩
  case round =>
    obtain ⟨k, hk, rfl, hB⟩ := hrel
    by_cases hlt : k < l.length
    · have hd : decide ((k : Int) < (l.length : Int)) = true := decide_eq_true (by omega)
      obtain ⟨⟨x1, x2, x3⟩, hx⟩ : ∃ x, l[k]? = some x := ⟨l[k], List.getElem?_eq_getElem hlt⟩
      obtain ⟨g, rfl, p1, p2, p3⟩ := hu.out k _ hx
      obtain ⟨g', rfl, q1, q2, q3⟩ := hv.out k _ hx
      have p1 := bkeep hB.out p1
      have p2 := bkeep hB.out p2
      have p3 := bkeep hB.out p3
      have q1 := bkeep hB.out q1
      have q2 := bkeep hB.out q2
      have q3 := bkeep hB.out q3
      have i1 : (0 : Int) ≤ (k : Int) := by omega
      have i2 : (k : Int) < (l.length : Int) := by omega
      have hfin := Lib.hid (fun m => bdraws hB.out m)
      clear hx
      go_wp2_with fail
      go_quiet (fail)
      go_wp2
      exact ⟨⟨k + 1, by omega, by go_num, hfin.out _⟩, by simp [intOf]; omega⟩
    · have hd : decide ((k : Int) < (l.length : Int)) = false := decide_eq_false (by omega)
      go_wp2
      go_ret
      exact ⟨rfl, hB.out⟩
theorem rmerge_of {o a b s : ByteArray} {l : List (Nat × Nat)} {n : Int} (hs : mrgS o a b = s) (hl : mrgL o a b = l) (hn : szE o a b = n) (w : World) (ho : o.size ≤ 1500) :
    Calls Try.prog 13 #[.string o, .string a, .string b] w fun e w' => (∃ v, e = .returned (.tuple #[.string s, v, .int .i64 n]) ∧ SpAt w' v l) ∧ Below w.heap.size w w' := by
  refine (rmerge_any o a b w ho).mono ?_
  rintro e w' ⟨⟨v, B, rfl, hB, hr⟩, hb⟩
  exact ⟨⟨v, by rw [hs, hn], hl ▸ hr.at⟩, hb⟩
theorem sides_of {o a b : ByteArray} {l : List P3} {n : Int} (hl : sidL o a b = l) (hn : sidE o a b = n) (w : World) (ho : o.size ≤ 1500) :
    Calls Try.prog 14 #[.string o, .string a, .string b] w fun e w' => (∃ v, e = .returned (.tuple #[v, .int .i64 n]) ∧ PtAt w' v l) ∧ Below w.heap.size w w' := by
  refine (sides_any o a b w ho).mono ?_
  rintro e w' ⟨⟨v, B, rfl, hB, hr⟩, hb⟩
  exact ⟨⟨v, by rw [hn], hl ▸ hr.at⟩, hb⟩
theorem rsides_of {o a b : ByteArray} {l : List P3} {n : Int} (hl : sidL o a b = l) (hn : sidE o a b = n) (w : World) (ho : o.size ≤ 1500) :
    Calls Try.prog 15 #[.string o, .string a, .string b] w fun e w' => (∃ v, e = .returned (.tuple #[v, .int .i64 n]) ∧ PtAt w' v l) ∧ Below w.heap.size w w' := by
  refine (rsides_any o a b w ho).mono ?_
  rintro e w' ⟨⟨v, B, rfl, hB, hr⟩, hb⟩
  exact ⟨⟨v, by rw [hn], hl ▸ hr.at⟩, hb⟩
theorem long3 (w : World) (T : TypeId) (x y z : ByteArray) : Calls Try.prog 8 #[.slice (some ⟨w.heap.size, 0, none⟩) 3 3] (w.alloc (.cells #[.string x, .string y, .string z] T)) fun e w' => e = .returned (.bool ([x, y, z].any fun t => decide (1500 < t.size))) ∧ Below w.heap.size w w' := by
  refine (long_any _ w.heap.size 3 [x, y, z] (by simp) (row3 w T x y z)).mono ?_
  rintro e w' ⟨rfl, hb⟩
  exact ⟨rfl, bt (alb' w _) hb⟩
theorem mrgL_len (o a b : ByteArray) : (mrgL o a b).length ≤ o.size := by
  unfold mrgL; split
  · exact rs_len _ _
  · exact Nat.zero_le _
theorem sidL_len (o a b : ByteArray) : (sidL o a b).length ≤ o.size := by
  unfold sidL; split
  · exact pts_len _ _
  · exact Nat.zero_le _
set_option maxHeartbeats 3200000 in
theorem walk_DiffMerges (o : ByteArray) (uo : o.size ≤ 140737488351232) (a : ByteArray) (ua : a.size ≤ 140737488351232) (b : ByteArray) (ub : b.size ≤ 140737488351232) {w : World} : Calls Try.prog 4 #[.string o, .string a, .string b] w fun e w' => e = .returned (.bool true) ∧ Below w.heap.size w w' := by
  clear uo ua ub
  have hlg := Lib.hid (fun w => long3 w 9 o a b)
  cases hd : [o, a, b].any fun t => decide (1500 < t.size) with
  | true =>
    rw [hd] at hlg
    go_enter Try.func4, Try.ntmps4
    go_wp2_with (first | (go_at_call 7; (with_reducible refine (works_any _).mono ?_); rintro e w1 ⟨rfl, hb1⟩) | (go_at_call 8; (with_reducible refine (hlg.out _).mono ?_); rintro e w2 ⟨rfl, hb2⟩))
    go_ret
    exact ⟨rfl, bt hb1 hb2⟩
  | false =>
    rw [hd] at hlg
    have ho : o.size ≤ 1500 := by simp at hd; omega
    have hl1 := mrgL_len o a b
    have hl2 := sidL_len o a b
    obtain ⟨S, hS⟩ : ∃ S, mrgS o a b = S := ⟨_, rfl⟩
    obtain ⟨L, hL⟩ : ∃ L, mrgL o a b = L := ⟨_, rfl⟩
    obtain ⟨E, hE⟩ : ∃ E, szE o a b = E := ⟨_, rfl⟩
    obtain ⟨P, hP⟩ : ∃ P, sidL o a b = P := ⟨_, rfl⟩
    obtain ⟨F, hF⟩ : ∃ F, sidE o a b = F := ⟨_, rfl⟩
    have h1 := Lib.hid (fun w => merge_of hS hL hE w ho)
    have h2 := Lib.hid (fun w => rmerge_of hS hL hE w ho)
    have h3 := Lib.hid (fun w => sides_of hP hF w ho)
    have h4 := Lib.hid (fun w => rsides_of hP hF w ho)
    have e1 := bse S
    rw [hL] at hl1
    rw [hP] at hl2
    have hl3 : L.length ≤ 1000001 := by omega
    have hl4 : P.length ≤ 1000001 := by omega
    clear hS hL hE hP hF hd
    go_enter Try.func4, Try.ntmps4
    go_wp2_with (first | (go_at_call 7; (with_reducible refine (works_any _).mono ?_); rintro e w1 ⟨rfl, hb1⟩) | (go_at_call 8; (with_reducible refine (hlg.out _).mono ?_); rintro e w2 ⟨rfl, hb2⟩) | (go_at_call 12; (with_reducible refine (h1.out _).mono ?_); rintro e w3 ⟨⟨v3, rfl, hv3⟩, hb3⟩) | (go_at_call 13; (with_reducible refine (h2.out _).mono ?_); rintro e w4 ⟨⟨v4, rfl, hv4⟩, hb4⟩) | (go_at_call 14; (with_reducible refine (h3.out _).mono ?_); rintro e w5 ⟨⟨v5, rfl, hv5⟩, hb5⟩) | (go_at_call 15; (with_reducible refine (h4.out _).mono ?_); rintro e w6 ⟨⟨v6, rfl, hv6⟩, hb6⟩) | (go_at_call 10; (with_reducible refine (same_eq _ _ _ _ (hv3.keep (bt (bt hb4 hb5) hb6)) (hv4.keep (bt hb5 hb6)) hl3).mono ?_); rintro e w7 ⟨rfl, hb7⟩) | (go_at_call 16; (with_reducible refine (same_parts _ _ _ _ (hv5.keep (bt hb6 hb7)) (hv6.keep hb7) hl4).mono ?_); rintro e w8 ⟨rfl, hb8⟩))
    go_ret
    exact ⟨rfl, bt (bt (bt (bt (bt (bt (bt hb1 hb2) hb3) hb4) hb5) hb6) hb7) hb8⟩
end Go.Proofs.Ytlmmmibnnbceeaa
