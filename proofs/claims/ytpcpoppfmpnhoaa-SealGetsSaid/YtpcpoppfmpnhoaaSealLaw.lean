/-
  The statements of chapter 4: walks.
-/
import Derived.Test.YtpcpoppfmpnhoaaSealBack
namespace Go.Proofs.Ytpcpoppfmpnhoaa
open Go.RowKit
set_option linter.unusedVariables false
set_option linter.unusedSimpArgs false
theorem sput_at {kind : Int} {body t : ByteArray} {e0 : Int} (h1 : sealS kind body = t) (h2 : putE kind body = e0) (w : World) (hk : kind ≤ 9223372036854775807) (hs : body.size ≤ 140737488351232) : Calls Try.prog 8 #[.int .i64 kind, .string body] w fun e w' => e = .returned (.tuple #[.string t, .int .i64 e0]) ∧ Below w.heap.size w w' := h1 ▸ h2 ▸ sput_any kind body w hk hs
theorem rsput_at {kind : Int} {body t : ByteArray} {e0 : Int} (h1 : sealS kind body = t) (h2 : putE kind body = e0) (w : World) (hk : kind ≤ 9223372036854775807) (hs : body.size ≤ 140737488351232) : Calls Try.prog 9 #[.int .i64 kind, .string body] w fun e w' => e = .returned (.tuple #[.string t, .int .i64 e0]) ∧ Below w.heap.size w w' := h1 ▸ h2 ▸ rsput_any kind body w hk hs
theorem sget_at {s b : ByteArray} {k e0 : Int} (h1 : getK s = k) (h2 : getB s = b) (h3 : getE s = e0) (w : World) (hs : s.size ≤ 140737488351232) : Calls Try.prog 10 #[.string s] w fun e w' => e = .returned (.tuple #[.int .i64 k, .string b, .int .i64 e0]) ∧ Below w.heap.size w w' := h1 ▸ h2 ▸ h3 ▸ get_any s w hs
theorem rsget_at {s b : ByteArray} {k e0 : Int} (h1 : getK s = k) (h2 : getB s = b) (h3 : getE s = e0) (w : World) (hs : s.size ≤ 140737488351232) : Calls Try.prog 11 #[.string s] w fun e w' => e = .returned (.tuple #[.int .i64 k, .string b, .int .i64 e0]) ∧ Below w.heap.size w w' := h1 ▸ h2 ▸ h3 ▸ rget_any s w hs
theorem app_emp (s : ByteArray) : s ++ ⟨#[]⟩ = s := by apply ba_data; rw [app_list]; simp
/-- what is sealed is got -/
theorem seal_back {kind : Int} {body : ByteArray} (h : putE kind body = 0) (more : ByteArray) :
    getK (sealS kind body) = kind ∧ getB (sealS kind body) = body ∧ getE (sealS kind body) = 0 ∧
    firK (sealS kind body ++ more) = kind ∧ firB (sealS kind body ++ more) = body ∧ firR (sealS kind body ++ more) = more ∧ firE (sealS kind body ++ more) = 0 ∧ (sealS kind body).size = body.size + 7 ∧ body.size ≤ 600 := by
  obtain ⟨k, rfl, hk, hb⟩ := putE_ok h
  obtain ⟨a1, a2, a3, a4, _⟩ := fir_seal k body more hk hb
  obtain ⟨b1, b2, b3, b4, _⟩ := fir_seal k body ⟨#[]⟩ hk hb
  rw [(put_good h).1]
  rw [app_emp] at b1 b2 b3 b4
  have hE := fir_get b1 (by rw [b4]; rfl)
  obtain ⟨c1, c2, _⟩ := get_good hE
  exact ⟨by rw [c1, b2], by rw [c2, b3], hE, a2, a3, a4, a1, by rw [ByteArray.size_append, headS_size k body hk hb, tailS_size], hb⟩
theorem sl0 : putE 5 ⟨#[97, 98]⟩ = 0 := by decide +kernel
theorem seal_size (kind : Int) (body : ByteArray) : (sealS kind body).size ≤ 700 := by
  unfold sealS
  split
  · rename_i h
    obtain ⟨k, rfl, hk, hb⟩ := putE_ok h
    rw [ByteArray.size_append, headS_size k body hk hb, tailS_size]; omega
  · exact Nat.zero_le _
set_option maxHeartbeats 3200000 in
theorem works_any (w : World) : Calls Try.prog 7 #[] w fun e w' => e = .returned (.bool true) ∧ Below w.heap.size w w' := by
  obtain ⟨g1, g2, g3, _, _, _, _, hz, _⟩ := seal_back sl0 ⟨#[]⟩
  obtain ⟨S, hS⟩ : ∃ x, sealS 5 ⟨#[97, 98]⟩ = x := ⟨_, rfl⟩
  rw [hS] at g1 g2 g3 hz
  have hz : S.size = 9 := hz
  have C1 := Lib.hid (fun w => sput_at hS sl0 w (by decide) (by decide))
  have C2 := Lib.hid (fun w => sget_at g1 g2 g3 w (by omega))
  have e1 := bse ⟨#[97, 98]⟩
  have hzi : (S.size : Int) = 9 := by omega
  clear g1 g2 g3 hS hz
  go_enter Try.func7, Try.ntmps7
  go_wp2_with (first | (go_at_call 8; (with_reducible refine (C1.out _).mono ?_); rintro e w1 ⟨rfl, hb1⟩) | (go_at_call 10; (with_reducible refine (C2.out _).mono ?_); rintro e w2 ⟨rfl, hb2⟩))
  go_ret
  exact ⟨rfl, bt hb1 hb2⟩
theorem walk_SealPuts (kind : Int) (uk : (Lit.int .i64 kind).wf = true) (body : ByteArray) (hs : body.size ≤ 140737488351232) {w : World} :
    Calls Try.prog 3 #[.int .i64 kind, .string body] w fun e w' => e = .returned (.bool true) ∧ Below w.heap.size w w' := by
  have hk := (bounds_i64 uk).2
  obtain ⟨S, hS⟩ : ∃ x, sealS kind body = x := ⟨_, rfl⟩
  obtain ⟨E, hE⟩ : ∃ x, putE kind body = x := ⟨_, rfl⟩
  have C1 := Lib.hid (fun w => sput_at hS hE w hk hs)
  have C2 := Lib.hid (fun w => rsput_at hS hE w hk hs)
  have e1 := bse S
  clear hS hE uk hk
  by_cases hbig : 3000 < (body.size : Int)
  · go_enter Try.func3, Try.ntmps3
    go_wp2_with (go_at_call 7; (with_reducible refine (works_any _).mono ?_); rintro e w1 ⟨rfl, hb1⟩)
    go_ret
    exact ⟨rfl, hb1⟩
  go_enter Try.func3, Try.ntmps3
  go_wp2_with (first | (go_at_call 7; (with_reducible refine (works_any _).mono ?_); rintro e w1 ⟨rfl, hb1⟩) | (go_at_call 8; (with_reducible refine (C1.out _).mono ?_); rintro e w2 ⟨rfl, hb2⟩) | (go_at_call 9; (with_reducible refine (C2.out _).mono ?_); rintro e w3 ⟨rfl, hb3⟩))
  go_ret
  exact ⟨rfl, bt (bt hb1 hb2) hb3⟩
theorem walk_SealGets (s : ByteArray) (hs : s.size ≤ 140737488351232) {w : World} :
    Calls Try.prog 4 #[.string s] w fun e w' => e = .returned (.bool true) ∧ Below w.heap.size w w' := by
  obtain ⟨k, hk⟩ : ∃ x, getK s = x := ⟨_, rfl⟩
  obtain ⟨b, hb⟩ : ∃ x, getB s = x := ⟨_, rfl⟩
  obtain ⟨x, hx⟩ : ∃ x, getE s = x := ⟨_, rfl⟩
  obtain ⟨fk, hfk⟩ : ∃ x, firK s = x := ⟨_, rfl⟩
  obtain ⟨fb, hfb⟩ : ∃ x, firB s = x := ⟨_, rfl⟩
  obtain ⟨fr, hfr⟩ : ∃ x, firR s = x := ⟨_, rfl⟩
  obtain ⟨fe, hfe⟩ : ∃ x, firE s = x := ⟨_, rfl⟩
  have C1 := Lib.hid (fun w => sget_at hk hb hx w hs)
  have C2 := Lib.hid (fun w => rsget_at hk hb hx w hs)
  have C3 := Lib.hid (fun w => first_at hfk hfb hfr hfe w hs)
  have C4 := Lib.hid (fun w => rfirst_at hfk hfb hfr hfe w hs)
  have e1 := bse b
  have e2 := bse fb
  have e3 := bse fr
  clear hk hb hx hfk hfb hfr hfe
  by_cases hbig : 3000 < (s.size : Int)
  · go_enter Try.func4, Try.ntmps4
    go_wp2_with (go_at_call 7; (with_reducible refine (works_any _).mono ?_); rintro e w1 ⟨rfl, hb1⟩)
    go_ret
    exact ⟨rfl, hb1⟩
  go_enter Try.func4, Try.ntmps4
  go_wp2_with (first | (go_at_call 7; (with_reducible refine (works_any _).mono ?_); rintro e w1 ⟨rfl, hb1⟩) | (go_at_call 10; (with_reducible refine (C1.out _).mono ?_); rintro e w2 ⟨rfl, hb2⟩) | (go_at_call 11; (with_reducible refine (C2.out _).mono ?_); rintro e w3 ⟨rfl, hb3⟩) | (go_at_call 12; (with_reducible refine (C3.out _).mono ?_); rintro e w4 ⟨rfl, hb4⟩) | (go_at_call 13; (with_reducible refine (C4.out _).mono ?_); rintro e w5 ⟨rfl, hb5⟩))
  go_ret
  exact ⟨rfl, bt (bt (bt (bt hb1 hb2) hb3) hb4) hb5⟩
theorem getK_nat (s : ByteArray) : getK s ≤ 9223372036854775807 := by
  have := gd_lt s 0
  unfold getK; split
  · unfold firK; split <;> omega
  · omega
theorem getB_size (s : ByteArray) : (getB s).size ≤ s.size := by
  unfold getB; split
  · unfold firB; split
    · rw [ByteArray.size_extract]; omega
    · exact Nat.zero_le _
  · exact Nat.zero_le _
set_option maxHeartbeats 6400000 in
theorem walk_SealBack (kind : Int) (uk : (Lit.int .i64 kind).wf = true) (body : ByteArray) (hs : body.size ≤ 140737488351232) (more : ByteArray) (hm : more.size ≤ 140737488351232) {w : World} :
    Calls Try.prog 5 #[.int .i64 kind, .string body, .string more] w fun e w' => e = .returned (.bool true) ∧ Below w.heap.size w w' := by
  have hk := (bounds_i64 uk).2
  by_cases hbig : 3000 < (body.size : Int)
  · go_enter Try.func5, Try.ntmps5
    go_wp2_with (go_at_call 7; (with_reducible refine (works_any _).mono ?_); rintro e w1 ⟨rfl, hb1⟩)
    go_ret
    exact ⟨rfl, hb1⟩
  by_cases hbig2 : 3000 < (more.size : Int)
  · go_enter Try.func5, Try.ntmps5
    go_wp2_with (go_at_call 7; (with_reducible refine (works_any _).mono ?_); rintro e w1 ⟨rfl, hb1⟩)
    go_ret
    exact ⟨rfl, hb1⟩
  have hb := fun h => seal_back (kind := kind) (body := body) h more
  have hp := put_get more
  have hsz := seal_size kind body
  have hgk := getK_nat more
  have hgb := getB_size more
  have hbad := fun (x : Int) => get_bad (s := more) (x := x)
  obtain ⟨S, hS⟩ : ∃ x, sealS kind body = x := ⟨_, rfl⟩
  obtain ⟨E, hE⟩ : ∃ x, putE kind body = x := ⟨_, rfl⟩
  obtain ⟨gk, hgK⟩ : ∃ x, getK more = x := ⟨_, rfl⟩
  obtain ⟨gb, hgB⟩ : ∃ x, getB more = x := ⟨_, rfl⟩
  obtain ⟨X, hX⟩ : ∃ x, getE more = x := ⟨_, rfl⟩
  have C1 := Lib.hid (fun w => sput_at hS hE w hk hs)
  have C2 := Lib.hid (fun w => sget_at hgK hgB hX w hm)
  rw [hS, hE] at hb
  rw [hX, hgK, hgB] at hp hbad
  rw [hS] at hsz
  rw [hgK] at hgk
  rw [hgB] at hgb
  have e1 := bse body
  have e2 := bse more
  clear hS hE hgK hgB hX uk
  by_cases hE0 : E = 0
  · obtain ⟨g1, g2, g3, f1, f2, f3, f4, hz, h6⟩ := hb hE0
    subst hE0
    have C3 := Lib.hid (fun w => sget_at g1 g2 g3 w (by omega))
    have C4 := Lib.hid (fun w => first_at f1 f2 f3 f4 w (by rw [ByteArray.size_append]; omega))
    have hov : ¬ (9223372036854775807 : Int) < (S.size : Int) + (more.size : Int) := by omega
    clear hb g1 g2 g3 f1 f2 f3 f4 hz h6
    by_cases hX0 : X = 0
    · obtain ⟨p1, p2⟩ := hp hX0
      subst hX0
      have C5 := Lib.hid (fun w => sput_at p2 p1 w hgk (by omega))
      clear hp hbad p1 p2 hgk hgb hsz
      go_enter Try.func5, Try.ntmps5
      go_wp2_with (first | (go_at_call 7; (with_reducible refine (works_any _).mono ?_); rintro e w1 ⟨rfl, hb⟩; have HB := Lib.hid hb; clear hb) | (go_at_call 8; (with_reducible refine (C1.out _).mono ?_); rintro e wx ⟨rfl, hb⟩; have HB := Lib.hid (HB.out.trans (hb.mono HB.out.size)); clear hb) | (go_at_call 8; (with_reducible refine (C5.out _).mono ?_); rintro e wx ⟨rfl, hb⟩; have HB := Lib.hid (HB.out.trans (hb.mono HB.out.size)); clear hb) | (go_at_call 10; (with_reducible refine (C2.out _).mono ?_); rintro e wx ⟨rfl, hb⟩; have HB := Lib.hid (HB.out.trans (hb.mono HB.out.size)); clear hb) | (go_at_call 10; (with_reducible refine (C3.out _).mono ?_); rintro e wx ⟨rfl, hb⟩; have HB := Lib.hid (HB.out.trans (hb.mono HB.out.size)); clear hb) | (go_at_call 12; (with_reducible refine (C4.out _).mono ?_); rintro e wx ⟨rfl, hb⟩; have HB := Lib.hid (HB.out.trans (hb.mono HB.out.size)); clear hb))
      go_ret
      exact ⟨rfl, HB.out⟩
    · obtain ⟨p1, p2, _⟩ := hbad X rfl hX0
      have n1 : (X != 0) = true := bne_iff_ne.2 hX0
      subst p1 p2
      have e3 := bse ⟨#[]⟩
      clear hp hbad hX0 hgk hgb hsz
      go_enter Try.func5, Try.ntmps5
      go_wp2_with (first | (go_at_call 7; (with_reducible refine (works_any _).mono ?_); rintro e w1 ⟨rfl, hb⟩; have HB := Lib.hid hb; clear hb) | (go_at_call 8; (with_reducible refine (C1.out _).mono ?_); rintro e wx ⟨rfl, hb⟩; have HB := Lib.hid (HB.out.trans (hb.mono HB.out.size)); clear hb) | (go_at_call 8; (with_reducible refine (C5.out _).mono ?_); rintro e wx ⟨rfl, hb⟩; have HB := Lib.hid (HB.out.trans (hb.mono HB.out.size)); clear hb) | (go_at_call 10; (with_reducible refine (C2.out _).mono ?_); rintro e wx ⟨rfl, hb⟩; have HB := Lib.hid (HB.out.trans (hb.mono HB.out.size)); clear hb) | (go_at_call 10; (with_reducible refine (C3.out _).mono ?_); rintro e wx ⟨rfl, hb⟩; have HB := Lib.hid (HB.out.trans (hb.mono HB.out.size)); clear hb) | (go_at_call 12; (with_reducible refine (C4.out _).mono ?_); rintro e wx ⟨rfl, hb⟩; have HB := Lib.hid (HB.out.trans (hb.mono HB.out.size)); clear hb))
      go_ret
      exact ⟨rfl, HB.out⟩
  · have n2 : (E == 0) = false := beq_eq_false_iff_ne.2 hE0
    clear hb hE0
    by_cases hX0 : X = 0
    · obtain ⟨p1, p2⟩ := hp hX0
      subst hX0
      have C5 := Lib.hid (fun w => sput_at p2 p1 w hgk (by omega))
      clear hp hbad p1 p2 hgk hgb hsz
      go_enter Try.func5, Try.ntmps5
      go_wp2_with (first | (go_at_call 7; (with_reducible refine (works_any _).mono ?_); rintro e w1 ⟨rfl, hb⟩; have HB := Lib.hid hb; clear hb) | (go_at_call 8; (with_reducible refine (C1.out _).mono ?_); rintro e wx ⟨rfl, hb⟩; have HB := Lib.hid (HB.out.trans (hb.mono HB.out.size)); clear hb) | (go_at_call 8; (with_reducible refine (C5.out _).mono ?_); rintro e wx ⟨rfl, hb⟩; have HB := Lib.hid (HB.out.trans (hb.mono HB.out.size)); clear hb) | (go_at_call 10; (with_reducible refine (C2.out _).mono ?_); rintro e wx ⟨rfl, hb⟩; have HB := Lib.hid (HB.out.trans (hb.mono HB.out.size)); clear hb) | (go_at_call 10; (with_reducible refine (C3.out _).mono ?_); rintro e wx ⟨rfl, hb⟩; have HB := Lib.hid (HB.out.trans (hb.mono HB.out.size)); clear hb) | (go_at_call 12; (with_reducible refine (C4.out _).mono ?_); rintro e wx ⟨rfl, hb⟩; have HB := Lib.hid (HB.out.trans (hb.mono HB.out.size)); clear hb))
      go_ret
      exact ⟨rfl, HB.out⟩
    · obtain ⟨p1, p2, _⟩ := hbad X rfl hX0
      have n1 : (X != 0) = true := bne_iff_ne.2 hX0
      subst p1 p2
      have e3 := bse ⟨#[]⟩
      clear hp hbad hX0 hgk hgb hsz
      go_enter Try.func5, Try.ntmps5
      go_wp2_with (first | (go_at_call 7; (with_reducible refine (works_any _).mono ?_); rintro e w1 ⟨rfl, hb⟩; have HB := Lib.hid hb; clear hb) | (go_at_call 8; (with_reducible refine (C1.out _).mono ?_); rintro e wx ⟨rfl, hb⟩; have HB := Lib.hid (HB.out.trans (hb.mono HB.out.size)); clear hb) | (go_at_call 8; (with_reducible refine (C5.out _).mono ?_); rintro e wx ⟨rfl, hb⟩; have HB := Lib.hid (HB.out.trans (hb.mono HB.out.size)); clear hb) | (go_at_call 10; (with_reducible refine (C2.out _).mono ?_); rintro e wx ⟨rfl, hb⟩; have HB := Lib.hid (HB.out.trans (hb.mono HB.out.size)); clear hb) | (go_at_call 10; (with_reducible refine (C3.out _).mono ?_); rintro e wx ⟨rfl, hb⟩; have HB := Lib.hid (HB.out.trans (hb.mono HB.out.size)); clear hb) | (go_at_call 12; (with_reducible refine (C4.out _).mono ?_); rintro e wx ⟨rfl, hb⟩; have HB := Lib.hid (HB.out.trans (hb.mono HB.out.size)); clear hb))
      go_ret
      exact ⟨rfl, HB.out⟩
end Go.Proofs.Ytpcpoppfmpnhoaa
