/-
  The statements of chapter 1: walks.
-/
import Derived.Test.YthomcehblmdgeaaWords4
import Derived.Test.YthomcehblmdgeaaWordsBack
import Derived.Test.YthomcehblmdgeaaCountRead4
import Derived.Test.YthomcehblmdgeaaCountHex5
namespace Go.Proofs.Ythomcehblmdgeaa
open Go.RowKit
set_option linter.unusedVariables false
set_option linter.unusedSimpArgs false

theorem read_of {s : ByteArray} {v e0 : Int} (hv : readV s = v) (he : readE s = e0) (w : World) (hs : s.size ≤ 140737488355328) : Calls Try.prog 9 #[.string s] w fun e w' => e = .returned (.tuple #[.int .i64 v, .int .i64 e0]) ∧ w = w' := hv ▸ he ▸ read_any s w hs
theorem rread_of {s : ByteArray} {v e0 : Int} (hv : readV s = v) (he : readE s = e0) (w : World) (hs : s.size ≤ 140737488355328) : Calls Try.prog 10 #[.string s] w fun e w' => e = .returned (.tuple #[.int .i64 v, .int .i64 e0]) ∧ w = w' := hv ▸ he ▸ rread_any s w hs
theorem text_of {n : Int} {t : ByteArray} (h : textS n = t) (w : World) (h0 : -9223372036854775808 ≤ n) (h1 : n ≤ 9223372036854775807) : Calls Try.prog 11 #[.int .i64 n] w fun e w' => e = .returned (.string t) ∧ Below w.heap.size w w' := h ▸ text_any n w h0 h1
theorem rtext_of {n : Int} {t : ByteArray} (h : textS n = t) (w : World) (h0 : -9223372036854775808 ≤ n) (h1 : n ≤ 9223372036854775807) : Calls Try.prog 12 #[.int .i64 n] w fun e w' => e = .returned (.string t) ∧ Below w.heap.size w w' := h ▸ rtext_any n w h0 h1
theorem hex_of {s t : ByteArray} (h : hexS s = t) (w : World) (hs : s.size ≤ 70368744177664) : Calls Try.prog 18 #[.string s] w fun e w' => e = .returned (.string t) ∧ Below w.heap.size w w' := h ▸ hex_any s w hs
theorem rhex_of {s t : ByteArray} (h : hexS s = t) (w : World) (hs : s.size ≤ 70368744177664) : Calls Try.prog 19 #[.string s] w fun e w' => e = .returned (.string t) ∧ Below w.heap.size w w' := h ▸ rhex_any s w hs
theorem unhex_of {s t : ByteArray} {e0 : Int} (h : unS s = t) (he : unE s = e0) (w : World) (hs : s.size ≤ 140737488351232) : Calls Try.prog 16 #[.string s] w fun e w' => e = .returned (.tuple #[.string t, .int .i64 e0]) ∧ Below w.heap.size w w' := h ▸ he ▸ unhex_any s w hs
theorem runhex_of {s t : ByteArray} {e0 : Int} (h : unS s = t) (he : unE s = e0) (w : World) (hs : s.size ≤ 140737488351232) : Calls Try.prog 17 #[.string s] w fun e w' => e = .returned (.tuple #[.string t, .int .i64 e0]) ∧ Below w.heap.size w w' := h ▸ he ▸ runhex_any s w hs
theorem words_of {s : ByteArray} {l : List ByteArray} (h : wordsL s = l) (w : World) (hs : s.size ≤ 549755813888) : Calls Try.prog 13 #[.string s] w fun e w' => (∃ v, e = .returned v ∧ Texts w' v l) ∧ Below w.heap.size w w' := by
  refine (words_any s w hs).mono ?_
  rintro e w' ⟨⟨v, h1, h2⟩, h3⟩
  exact ⟨⟨v, h1, h ▸ h2.texts⟩, h3⟩
theorem rwords_of {s : ByteArray} {l : List ByteArray} (h : wordsL s = l) (w : World) (hs : s.size ≤ 549755813888) : Calls Try.prog 15 #[.string s] w fun e w' => (∃ v, e = .returned v ∧ Texts w' v l) ∧ Below w.heap.size w w' := by
  refine (rwords_any s w hs).mono ?_
  rintro e w' ⟨⟨v, h1, h2⟩, h3⟩
  exact ⟨⟨v, h1, h ▸ h2.texts⟩, h3⟩
theorem same_of {v1 v2 : Value} {l1 l2 : List ByteArray} {w : World} {b : Bool} (hb : decide (l1 = l2) = b) (h1 : Texts w v1 l1) (h2 : Texts w v2 l2) (hm : l1.length ≤ 1099511627776) : Calls Try.prog 14 #[v1, v2] w fun e w' => e = .returned (.bool b) ∧ Below w.heap.size w w' := hb ▸ same_any v1 v2 l1 l2 w h1 h2 hm
theorem bse (x : ByteArray) : (x.toList == x.toList) = true := beq_self_eq_true _
theorem lit_texts (w : World) (T : TypeId) (a b : ByteArray) : Texts (w.alloc (.cells #[.string a, .string b] T)) (.slice (some ⟨w.heap.size, 0, none⟩) 2 2) [a, b] := by
  refine .inr ⟨w.heap.size, 2, rfl, fun k hk => ?_⟩
  match k, hk with
  | 0, _ => simp [go_sem]
  | 1, _ => simp [go_sem]
  | k + 2, h => simp at h; omega
theorem lit1 : readV ⟨#[45, 49, 50]⟩ = -12 ∧ readE ⟨#[45, 49, 50]⟩ = 0 := by decide +kernel
theorem lit2 : textS (-12) = ⟨#[45, 49, 50]⟩ := by decide +kernel
theorem lit3 : hexS ⟨#[0, 255]⟩ = ⟨#[48, 48, 102, 102]⟩ := by decide +kernel
theorem lit4 : wordsL ⟨#[32, 32, 97, 32, 32, 98, 99, 32]⟩ = [⟨#[97]⟩, ⟨#[98, 99]⟩] := by decide +kernel
set_option maxHeartbeats 3200000 in
theorem works_any (w : World) : Calls Try.prog 7 #[] w fun e w' => e = .returned (.bool true) ∧ Below w.heap.size w w' := by
  have e1 := bse ⟨#[45, 49, 50]⟩
  have e2 := bse ⟨#[48, 48, 102, 102]⟩
  go_enter Try.func7, Try.ntmps7
  go_wp2_with (first | (go_at_call 9; (with_reducible refine (read_of lit1.1 lit1.2 _ (by decide)).mono ?_); rintro e wx ⟨rfl, rfl⟩) | (go_at_call 11; (with_reducible refine (text_of lit2 _ (by decide) (by decide)).mono ?_); rintro e w1 ⟨rfl, hb1⟩) | (go_at_call 18; (with_reducible refine (hex_of lit3 _ (by decide)).mono ?_); rintro e w2 ⟨rfl, hb2⟩) | (go_at_call 13; (with_reducible refine (words_of lit4 _ (by decide)).mono ?_); rintro e w3 ⟨⟨v3, rfl, HT⟩, hb3⟩) | (go_at_call 14; (with_reducible refine (same_of (decide_eq_true rfl) (HT.below ((Below.refl _ _).alloc (Nat.le_refl _) _)) (lit_texts _ _ _ _) (by decide)).mono ?_); rintro e w4 ⟨rfl, hb4⟩))
  go_ret
  exact ⟨rfl, bt (bt (bt (bt hb1 hb2) hb3) ((Below.refl _ _).alloc (Nat.le_refl _) _)) hb4⟩
theorem walk_CountNumbers (n : Int) (un : (Lit.int .i64 n).wf = true) (s : ByteArray) (hs : s.size ≤ 140737488351232) {w : World} :
    Calls Try.prog 3 #[.int .i64 n, .string s] w fun e w' => e = .returned (.bool true) ∧ Below w.heap.size w w' := by
  have hn := bounds_i64 un
  have hn0 := Lib.hid hn
  clear un hn
  by_cases hbig : 3000 < (s.size : Int)
  · have hd : decide (3000 < (s.size : Int)) = true := decide_eq_true hbig
    go_enter Try.func3, Try.ntmps3
    go_wp2_with (first | (go_at_call 7; (with_reducible refine (works_any _).mono ?_); rintro e w1 ⟨rfl, hb1⟩) | (go_at_call 8; (with_reducible refine (long_any _ _).mono ?_); rintro e wx ⟨rfl, rfl⟩; rw [hd]))
    go_ret
    exact ⟨rfl, hb1⟩
  have hd : decide (3000 < (s.size : Int)) = false := decide_eq_false hbig
  have HS := Lib.hid hs
  clear hs
  obtain ⟨V, hV⟩ : ∃ x, readV s = x := ⟨_, rfl⟩
  obtain ⟨E, hE⟩ : ∃ x, readE s = x := ⟨_, rfl⟩
  obtain ⟨T, hT⟩ : ∃ x, textS n = x := ⟨_, rfl⟩
  have hV := Lib.hid hV
  have hE := Lib.hid hE
  have hT := Lib.hid hT
  have e1 := bse T
  go_enter Try.func3, Try.ntmps3
  go_wp2_with (first | (go_at_call 7; (with_reducible refine (works_any _).mono ?_); rintro e w1 ⟨rfl, hb1⟩) | (go_at_call 8; (with_reducible refine (long_any _ _).mono ?_); rintro e wx ⟨rfl, rfl⟩; rw [hd]) | (go_at_call 9; (with_reducible refine (read_of hV.out hE.out _ (by have := HS.out; omega)).mono ?_); rintro e wx ⟨rfl, rfl⟩) | (go_at_call 10; (with_reducible refine (rread_of hV.out hE.out _ (by have := HS.out; omega)).mono ?_); rintro e wx ⟨rfl, rfl⟩) | (go_at_call 11; (with_reducible refine (text_of hT.out _ hn0.out.1 hn0.out.2).mono ?_); rintro e w2 ⟨rfl, hb2⟩) | (go_at_call 12; (with_reducible refine (rtext_of hT.out _ hn0.out.1 hn0.out.2).mono ?_); rintro e w3 ⟨rfl, hb3⟩))
  go_ret
  exact ⟨rfl, bt (bt hb1 hb2) hb3⟩
theorem walk_CountHex (s : ByteArray) (hs : s.size ≤ 140737488351232) (t : ByteArray) (ht : t.size ≤ 140737488351232) {w : World} :
    Calls Try.prog 5 #[.string s, .string t] w fun e w' => e = .returned (.bool true) ∧ Below w.heap.size w w' := by
  by_cases hbig : 3000 < (s.size : Int)
  · have hd : decide (3000 < (s.size : Int)) = true := decide_eq_true hbig
    go_enter Try.func5, Try.ntmps5
    go_wp2_with (first | (go_at_call 7; (with_reducible refine (works_any _).mono ?_); rintro e w1 ⟨rfl, hb1⟩) | (go_at_call 8; (with_reducible refine (long_any _ _).mono ?_); rintro e wx ⟨rfl, rfl⟩; rw [hd]))
    go_ret
    exact ⟨rfl, hb1⟩
  have hd : decide (3000 < (s.size : Int)) = false := decide_eq_false hbig
  by_cases hbig2 : 3000 < (t.size : Int)
  · have hd2 : decide (3000 < (t.size : Int)) = true := decide_eq_true hbig2
    go_enter Try.func5, Try.ntmps5
    go_wp2_with (first | (go_at_call 7; (with_reducible refine (works_any _).mono ?_); rintro e w1 ⟨rfl, hb1⟩) | (go_at_call 8; (with_reducible refine (long_any _ _).mono ?_); rintro e wx ⟨rfl, rfl⟩; first | rw [hd] | rw [hd2]))
    go_ret
    exact ⟨rfl, hb1⟩
  have hd2 : decide (3000 < (t.size : Int)) = false := decide_eq_false hbig2
  have HS := Lib.hid hs
  have HT := Lib.hid ht
  have HS3 : Hid (s.size ≤ 70368744177664) := by show _ ≤ _; omega
  clear hs ht
  obtain ⟨U, hU⟩ : ∃ x, unS t = x := ⟨_, rfl⟩
  obtain ⟨E, hE⟩ : ∃ x, unE t = x := ⟨_, rfl⟩
  obtain ⟨T, hT⟩ : ∃ x, hexS s = x := ⟨_, rfl⟩
  have hU := Lib.hid hU
  have hE := Lib.hid hE
  have hT := Lib.hid hT
  have e1 := bse T
  have e2 := bse U
  go_enter Try.func5, Try.ntmps5
  go_wp2_with (first | (go_at_call 7; (with_reducible refine (works_any _).mono ?_); rintro e w1 ⟨rfl, hb1⟩) | (go_at_call 8; (with_reducible refine (long_any _ _).mono ?_); rintro e wx ⟨rfl, rfl⟩; first | rw [hd] | rw [hd2]) | (go_at_call 16; (with_reducible refine (unhex_of hU.out hE.out _ HT.out).mono ?_); rintro e w4 ⟨rfl, hb4⟩) | (go_at_call 17; (with_reducible refine (runhex_of hU.out hE.out _ HT.out).mono ?_); rintro e w5 ⟨rfl, hb5⟩) | (go_at_call 18; (with_reducible refine (hex_of hT.out _ HS3.out).mono ?_); rintro e w2 ⟨rfl, hb2⟩) | (go_at_call 19; (with_reducible refine (rhex_of hT.out _ HS3.out).mono ?_); rintro e w3 ⟨rfl, hb3⟩))
  go_ret
  exact ⟨rfl, bt (bt (bt (bt hb1 hb4) hb5) hb2) hb3⟩
theorem words_one {x : ByteArray} (h : isWord x) (w : World) (hs : x.size ≤ 549755813888) : Calls Try.prog 13 #[.string x] w fun e w' => (∃ a cap, e = .returned (.slice a 1 cap)) ∧ Below w.heap.size w w' := by
  refine (words_of rfl w hs).mono ?_
  rintro e w' ⟨⟨v, h1, h2⟩, h3⟩
  obtain ⟨a, cap, h4⟩ := h2.len
  exact ⟨⟨a, cap, by rw [h1, h4, word_words h]⟩, h3⟩
theorem readV_range (s : ByteArray) : -9223372036854775808 ≤ readV s ∧ readV s ≤ 9223372036854775807 := by
  unfold readV
  split
  · rename_i h
    unfold readE at h
    split at h
    · split
      · rename_i hn
        rw [if_pos hn] at h
        split at h
        · omega
        · cases h
      · rename_i hn
        rw [if_neg hn] at h
        split at h
        · omega
        · cases h
    · cases h
  · omega
theorem eq_emp {t : ByteArray} (h : isWord t) : (t.toList == (⟨#[]⟩ : ByteArray).toList) = false ∧ t.toList.isEmpty = false := by
  have hl := toList_len t
  have := h.1
  refine ⟨?_, by rw [empty_size]; exact decide_eq_false (by omega)⟩
  rw [beq_eq_false_iff_ne]
  intro he
  rw [he] at hl
  have : (⟨#[]⟩ : ByteArray).toList.length = 0 := by rw [ByteArray.toList_eq]; rfl
  omega
set_option maxHeartbeats 3200000 in
theorem walk_CountWords (s : ByteArray) (hs : s.size ≤ 140737488351232) {w : World} :
    Calls Try.prog 4 #[.string s] w fun e w' => e = .returned (.bool true) ∧ Below w.heap.size w w' := by
  by_cases hbig : 3000 < (s.size : Int)
  · have hd : decide (3000 < (s.size : Int)) = true := decide_eq_true hbig
    go_enter Try.func4, Try.ntmps4
    go_wp2_with (first | (go_at_call 7; (with_reducible refine (works_any _).mono ?_); rintro e w1 ⟨rfl, hb1⟩) | (go_at_call 8; (with_reducible refine (long_any _ _).mono ?_); rintro e wx ⟨rfl, rfl⟩; rw [hd]))
    go_ret
    exact ⟨rfl, hb1⟩
  have hd : decide (3000 < (s.size : Int)) = false := decide_eq_false hbig
  have HS : Hid (s.size ≤ 3000) := by show _ ≤ _; omega
  have hwl := words_len s
  have hw := words_are s
  obtain ⟨l, hl⟩ : ∃ x, wordsL s = x := ⟨_, rfl⟩
  rw [hl] at hwl hw
  have HL := Lib.hid hl
  have HW := Lib.hid hw
  have hlm : Hid (l.length ≤ 3001) := by show _ ≤ _; have := HS.out; omega
  clear hs hl hw hwl
  go_enter Try.func4, Try.ntmps4
  go_wp2_with (first | (go_at_call 7; (with_reducible refine (works_any _).mono ?_); rintro e w1 ⟨rfl, hb1⟩) | (go_at_call 8; (with_reducible refine (long_any _ _).mono ?_); rintro e wx ⟨rfl, rfl⟩; rw [hd]) | (go_at_call 13; (with_reducible refine (words_of HL.out _ (by have := HS.out; omega)).mono ?_); rintro e w3 ⟨⟨v3, rfl, HT⟩, hb3⟩))
  have HB := Lib.hid (bt hb1 hb3)
  have HT := Lib.hid HT
  clear hb1 hb3
  go_loopw [4] (fun i wr => ∃ k : Nat, k ≤ l.length ∧ i = .int .i64 k ∧ Hid (Texts wr v3 l) ∧ Hid (Below w.heap.size w wr)) (fun i _ => l.length - (intOf i).toNat)
  case atStart => exact ⟨0, Nat.zero_le _, rfl, HT, HB⟩
  case round =>
    obtain ⟨k, hk, rfl, HT, HB⟩ := hrel
    have hm := hlm.out
    by_cases hlt : k < l.length
    · rcases HT.out with ⟨_, h0⟩ | ⟨g, cap, rfl, hc⟩
      · rw [h0] at hlt; simp at hlt
      · have hck := hc k hlt
        have HWk := HW.out l[k] (List.getElem_mem hlt)
        obtain ⟨x, hx⟩ : ∃ x, l[k] = x := ⟨_, rfl⟩
        rw [hx] at hck HWk
        obtain ⟨n1, n2⟩ := eq_emp HWk.1
        have HWk := Lib.hid HWk
        have hxs : Hid (x.size ≤ 549755813888) := by show _ ≤ _; have := HWk.out.2; have := HS.out; omega
        have hc := Lib.hid hc
        have hx := Lib.hid hx
        go_wp2_with (go_at_call 13; (with_reducible refine (words_one HWk.out.1 _ hxs.out).mono ?_); rintro e w4 ⟨⟨a4, c4, rfl⟩, hb4⟩)
        exact ⟨⟨k + 1, by omega, by go_num, HT.out.below hb4, HB.out.trans (hb4.mono HB.out.size)⟩, by simp [intOf]; omega⟩
    · obtain rfl : k = l.length := by omega
      obtain ⟨a, cap, rfl⟩ := HT.out.len
      go_wp2_with (first | (go_at_call 15; (with_reducible refine (rwords_of HL.out _ (by have := HS.out; omega)).mono ?_); rintro e w4 ⟨⟨v4, rfl, HT4⟩, hb4⟩) | (go_at_call 14; (with_reducible refine (same_of (decide_eq_true rfl) (HT.out.below hb4) HT4 (by omega)).mono ?_); rintro e w5 ⟨rfl, hb5⟩))
      go_ret
      exact ⟨rfl, (HB.out.trans (hb4.mono HB.out.size)).trans (hb5.mono (Nat.le_trans HB.out.size hb4.size))⟩
set_option maxHeartbeats 6400000 in
theorem walk_CountBack (n : Int) (un : (Lit.int .i64 n).wf = true) (s : ByteArray) (hs : s.size ≤ 140737488351232) {w : World} :
    Calls Try.prog 6 #[.int .i64 n, .string s] w fun e w' => e = .returned (.bool true) ∧ Below w.heap.size w w' := by
  have hn := bounds_i64 un
  by_cases hbig : 3000 < (s.size : Int)
  · have hd : decide (3000 < (s.size : Int)) = true := decide_eq_true hbig
    go_enter Try.func6, Try.ntmps6
    go_wp2_with (first | (go_at_call 7; (with_reducible refine (works_any _).mono ?_); rintro e w1 ⟨rfl, hb1⟩) | (go_at_call 8; (with_reducible refine (long_any _ _).mono ?_); rintro e wx ⟨rfl, rfl⟩; rw [hd]))
    go_ret
    exact ⟨rfl, hb1⟩
  have hd : decide (3000 < (s.size : Int)) = false := decide_eq_false hbig
  have HS : Hid (s.size ≤ 3000) := by show _ ≤ _; omega
  obtain ⟨r1, r2⟩ := read_text n hn.1 hn.2
  obtain ⟨u1, u2⟩ := unhex_hex s
  have hz : ((hexS s).size : Int) = (s.size : Int) + (s.size : Int) := by rw [hexS_size]; omega
  have hts := text_size n
  have t1 := text_read s
  have t2 := hex_unhex s
  have hus := unS_size s
  have hk := readV_range s
  obtain ⟨T, hT⟩ : ∃ x, textS n = x := ⟨_, rfl⟩
  obtain ⟨X, hX⟩ : ∃ x, hexS s = x := ⟨_, rfl⟩
  obtain ⟨V, hV⟩ : ∃ x, readV s = x := ⟨_, rfl⟩
  obtain ⟨E, hE⟩ : ∃ x, readE s = x := ⟨_, rfl⟩
  obtain ⟨U, hU⟩ : ∃ x, unS s = x := ⟨_, rfl⟩
  obtain ⟨F, hF⟩ : ∃ x, unE s = x := ⟨_, rfl⟩
  obtain ⟨Y, hY⟩ : ∃ x, hexS U = x := ⟨_, rfl⟩
  obtain ⟨Z, hZ⟩ : ∃ x, textS V = x := ⟨_, rfl⟩
  rw [hX] at u1 u2 hz
  rw [hT] at r1 r2 hts
  rw [hV, hE, hZ] at t1
  rw [hU, hF, hY] at t2
  rw [hU] at hus
  rw [hV] at hk
  have C1 := Lib.hid (fun w => text_of hT w hn.1 hn.2)
  have C2 := Lib.hid (fun w => read_of r2 r1 w (by omega))
  have C3 := Lib.hid (fun w => hex_of hX w (by omega))
  have C4 := Lib.hid (fun w => unhex_of u1 u2 w (by omega))
  have C5 := Lib.hid (fun w => read_of hV hE w (by omega))
  have C6 := Lib.hid (fun w => unhex_of hU hF w hs)
  have C7 := Lib.hid (fun w => text_of hZ w hk.1 hk.2)
  have C8 := Lib.hid (fun w => hex_of hY w (by omega))
  have s1 : (s.size : Int) ≤ 3000 := by omega
  have s0 : (0 : Int) ≤ (s.size : Int) := by omega
  have e1 := bse s
  clear hT hX hV hE hU hF hY hZ hs hts hus hk un hn r1 r2 u1 u2
  by_cases hE : E = 0
  · have hz1 := t1 hE
    subst hE hz1
    clear t1
    by_cases hF : F = 0
    · have hz2 := t2 hF
      subst hF hz2
      clear t2
      go_enter Try.func6, Try.ntmps6
      go_wp2_with (first | (go_at_call 7; (with_reducible refine (works_any _).mono ?_); rintro e w1 ⟨rfl, hb⟩; have HB := Lib.hid hb; clear hb) | (go_at_call 8; (with_reducible refine (long_any _ _).mono ?_); rintro e wx ⟨rfl, rfl⟩; rw [hd]) | (go_at_call 11; (with_reducible refine (C1.out _).mono ?_); rintro e w2 ⟨rfl, hb⟩; have HB := Lib.hid (HB.out.trans (hb.mono HB.out.size)); clear hb) | (go_at_call 11; (with_reducible refine (C7.out _).mono ?_); rintro e w3 ⟨rfl, hb⟩; have HB := Lib.hid (HB.out.trans (hb.mono HB.out.size)); clear hb) | (go_at_call 9; (with_reducible refine (C2.out _).mono ?_); rintro e wx ⟨rfl, rfl⟩) | (go_at_call 9; (with_reducible refine (C5.out _).mono ?_); rintro e wx ⟨rfl, rfl⟩) | (go_at_call 18; (with_reducible refine (C3.out _).mono ?_); rintro e w4 ⟨rfl, hb⟩; have HB := Lib.hid (HB.out.trans (hb.mono HB.out.size)); clear hb) | (go_at_call 18; (with_reducible refine (C8.out _).mono ?_); rintro e w5 ⟨rfl, hb⟩; have HB := Lib.hid (HB.out.trans (hb.mono HB.out.size)); clear hb) | (go_at_call 16; (with_reducible refine (C4.out _).mono ?_); rintro e w6 ⟨rfl, hb⟩; have HB := Lib.hid (HB.out.trans (hb.mono HB.out.size)); clear hb) | (go_at_call 16; (with_reducible refine (C6.out _).mono ?_); rintro e w7 ⟨rfl, hb⟩; have HB := Lib.hid (HB.out.trans (hb.mono HB.out.size)); clear hb))
      go_ret
      exact ⟨rfl, HB.out⟩
    · have hf : (F != 0) = true := bne_iff_ne.2 hF
      clear t2
      go_enter Try.func6, Try.ntmps6
      go_wp2_with (first | (go_at_call 7; (with_reducible refine (works_any _).mono ?_); rintro e w1 ⟨rfl, hb⟩; have HB := Lib.hid hb; clear hb) | (go_at_call 8; (with_reducible refine (long_any _ _).mono ?_); rintro e wx ⟨rfl, rfl⟩; rw [hd]) | (go_at_call 11; (with_reducible refine (C1.out _).mono ?_); rintro e w2 ⟨rfl, hb⟩; have HB := Lib.hid (HB.out.trans (hb.mono HB.out.size)); clear hb) | (go_at_call 11; (with_reducible refine (C7.out _).mono ?_); rintro e w3 ⟨rfl, hb⟩; have HB := Lib.hid (HB.out.trans (hb.mono HB.out.size)); clear hb) | (go_at_call 9; (with_reducible refine (C2.out _).mono ?_); rintro e wx ⟨rfl, rfl⟩) | (go_at_call 9; (with_reducible refine (C5.out _).mono ?_); rintro e wx ⟨rfl, rfl⟩) | (go_at_call 18; (with_reducible refine (C3.out _).mono ?_); rintro e w4 ⟨rfl, hb⟩; have HB := Lib.hid (HB.out.trans (hb.mono HB.out.size)); clear hb) | (go_at_call 18; (with_reducible refine (C8.out _).mono ?_); rintro e w5 ⟨rfl, hb⟩; have HB := Lib.hid (HB.out.trans (hb.mono HB.out.size)); clear hb) | (go_at_call 16; (with_reducible refine (C4.out _).mono ?_); rintro e w6 ⟨rfl, hb⟩; have HB := Lib.hid (HB.out.trans (hb.mono HB.out.size)); clear hb) | (go_at_call 16; (with_reducible refine (C6.out _).mono ?_); rintro e w7 ⟨rfl, hb⟩; have HB := Lib.hid (HB.out.trans (hb.mono HB.out.size)); clear hb))
      go_ret
      exact ⟨rfl, HB.out⟩
  · have he : (E != 0) = true := bne_iff_ne.2 hE
    clear t1
    by_cases hF : F = 0
    · have hz2 := t2 hF
      subst hF hz2
      clear t2
      go_enter Try.func6, Try.ntmps6
      go_wp2_with (first | (go_at_call 7; (with_reducible refine (works_any _).mono ?_); rintro e w1 ⟨rfl, hb⟩; have HB := Lib.hid hb; clear hb) | (go_at_call 8; (with_reducible refine (long_any _ _).mono ?_); rintro e wx ⟨rfl, rfl⟩; rw [hd]) | (go_at_call 11; (with_reducible refine (C1.out _).mono ?_); rintro e w2 ⟨rfl, hb⟩; have HB := Lib.hid (HB.out.trans (hb.mono HB.out.size)); clear hb) | (go_at_call 11; (with_reducible refine (C7.out _).mono ?_); rintro e w3 ⟨rfl, hb⟩; have HB := Lib.hid (HB.out.trans (hb.mono HB.out.size)); clear hb) | (go_at_call 9; (with_reducible refine (C2.out _).mono ?_); rintro e wx ⟨rfl, rfl⟩) | (go_at_call 9; (with_reducible refine (C5.out _).mono ?_); rintro e wx ⟨rfl, rfl⟩) | (go_at_call 18; (with_reducible refine (C3.out _).mono ?_); rintro e w4 ⟨rfl, hb⟩; have HB := Lib.hid (HB.out.trans (hb.mono HB.out.size)); clear hb) | (go_at_call 18; (with_reducible refine (C8.out _).mono ?_); rintro e w5 ⟨rfl, hb⟩; have HB := Lib.hid (HB.out.trans (hb.mono HB.out.size)); clear hb) | (go_at_call 16; (with_reducible refine (C4.out _).mono ?_); rintro e w6 ⟨rfl, hb⟩; have HB := Lib.hid (HB.out.trans (hb.mono HB.out.size)); clear hb) | (go_at_call 16; (with_reducible refine (C6.out _).mono ?_); rintro e w7 ⟨rfl, hb⟩; have HB := Lib.hid (HB.out.trans (hb.mono HB.out.size)); clear hb))
      go_ret
      exact ⟨rfl, HB.out⟩
    · have hf : (F != 0) = true := bne_iff_ne.2 hF
      clear t2
      go_enter Try.func6, Try.ntmps6
      go_wp2_with (first | (go_at_call 7; (with_reducible refine (works_any _).mono ?_); rintro e w1 ⟨rfl, hb⟩; have HB := Lib.hid hb; clear hb) | (go_at_call 8; (with_reducible refine (long_any _ _).mono ?_); rintro e wx ⟨rfl, rfl⟩; rw [hd]) | (go_at_call 11; (with_reducible refine (C1.out _).mono ?_); rintro e w2 ⟨rfl, hb⟩; have HB := Lib.hid (HB.out.trans (hb.mono HB.out.size)); clear hb) | (go_at_call 11; (with_reducible refine (C7.out _).mono ?_); rintro e w3 ⟨rfl, hb⟩; have HB := Lib.hid (HB.out.trans (hb.mono HB.out.size)); clear hb) | (go_at_call 9; (with_reducible refine (C2.out _).mono ?_); rintro e wx ⟨rfl, rfl⟩) | (go_at_call 9; (with_reducible refine (C5.out _).mono ?_); rintro e wx ⟨rfl, rfl⟩) | (go_at_call 18; (with_reducible refine (C3.out _).mono ?_); rintro e w4 ⟨rfl, hb⟩; have HB := Lib.hid (HB.out.trans (hb.mono HB.out.size)); clear hb) | (go_at_call 18; (with_reducible refine (C8.out _).mono ?_); rintro e w5 ⟨rfl, hb⟩; have HB := Lib.hid (HB.out.trans (hb.mono HB.out.size)); clear hb) | (go_at_call 16; (with_reducible refine (C4.out _).mono ?_); rintro e w6 ⟨rfl, hb⟩; have HB := Lib.hid (HB.out.trans (hb.mono HB.out.size)); clear hb) | (go_at_call 16; (with_reducible refine (C6.out _).mono ?_); rintro e w7 ⟨rfl, hb⟩; have HB := Lib.hid (HB.out.trans (hb.mono HB.out.size)); clear hb))
      go_ret
      exact ⟨rfl, HB.out⟩
end Go.Proofs.Ythomcehblmdgeaa
