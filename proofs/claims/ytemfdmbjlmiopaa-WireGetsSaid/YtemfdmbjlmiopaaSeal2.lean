/-
  Bytes of a kind, sealed (chapter 4): walks (2).
-/
import Derived.Test.YtemfdmbjlmiopaaSeal
namespace Go.Proofs.Ytemfdmbjlmiopaa
open Go.RowKit
set_option linter.unusedVariables false
set_option linter.unusedSimpArgs false
theorem seal_of {s : ByteArray} {k e0 : Int} {b : ByteArray} (h : getK s = k ∧ getB s = b ∧ sealE s = e0) (e : Ending) (P : Prop) (h1 : e = .returned (.tuple #[.int .i64 k, .string b, .int .i64 e0])) (h2 : P) : e = .returned (.tuple #[.int .i64 (getK s), .string (getB s), .int .i64 (sealE s)]) ∧ P := by
  obtain ⟨rfl, rfl, rfl⟩ := h; exact ⟨h1, h2⟩
theorem get_bad {s : ByteArray} {x : Int} (h : sealE s = x) (hx : x ≠ 0) : getK s = 0 ∧ getB s = ⟨#[]⟩ ∧ sealE s = x := by
  have h0 : sealE s ≠ 0 := by rw [h]; exact hx
  unfold getK getB; rw [if_neg h0, if_neg h0]; exact ⟨rfl, rfl, h⟩
theorem get_good {s : ByteArray} (h : sealE s = 0) : getK s = firK s ∧ getB s = firB s ∧ sealE s = 0 := by
  unfold getK getB; rw [if_pos h, if_pos h]; exact ⟨rfl, rfl, h⟩
theorem first_at {s : ByteArray} {k e0 : Int} {b r : ByteArray} (h1 : firK s = k) (h2 : firB s = b) (h3 : firR s = r) (h4 : firE s = e0) (w : World) (hs : s.size ≤ 140737488351232) : Calls Try.prog 64 #[.string s] w fun e w' => e = .returned (.tuple #[.int .i64 k, .string b, .string r, .int .i64 e0]) ∧ Below w.heap.size w w' := h1 ▸ h2 ▸ h3 ▸ h4 ▸ first_any s w hs
theorem rfirst_at {s : ByteArray} {k e0 : Int} {b r : ByteArray} (h1 : firK s = k) (h2 : firB s = b) (h3 : firR s = r) (h4 : firE s = e0) (w : World) (hs : s.size ≤ 140737488351232) : Calls Try.prog 65 #[.string s] w fun e w' => e = .returned (.tuple #[.int .i64 k, .string b, .string r, .int .i64 e0]) ∧ Below w.heap.size w w' := h1 ▸ h2 ▸ h3 ▸ h4 ▸ rfirst_any s w hs
set_option maxHeartbeats 3200000 in
theorem get_any (s : ByteArray) (w : World) (hs : s.size ≤ 140737488351232) : Calls Try.prog 45 #[.string s] w fun e w' => e = .returned (.tuple #[.int .i64 (getK s), .string (getB s), .int .i64 (sealE s)]) ∧ Below w.heap.size w w' := by
  have hE : sealE s = if firE s = 0 then (if (firR s).size = 0 then 0 else 2) else firE s := rfl
  have hb := fun (x : Int) => get_bad (s := s) (x := x)
  have hg := get_good (s := s)
  obtain ⟨k, hk⟩ : ∃ x, firK s = x := ⟨_, rfl⟩
  obtain ⟨b, hB⟩ : ∃ x, firB s = x := ⟨_, rfl⟩
  obtain ⟨r, hr⟩ : ∃ x, firR s = x := ⟨_, rfl⟩
  obtain ⟨x, hx⟩ : ∃ x, firE s = x := ⟨_, rfl⟩
  rw [hx, hr] at hE
  rw [hk, hB] at hg
  have C := Lib.hid (fun w => first_at hk hB hr hx w hs)
  clear hk hB hr hx hs
  by_cases h0 : x = 0
  · subst h0
    rw [if_pos rfl] at hE
    have hem := empty_size r
    by_cases hr0 : r.size = 0
    · rw [if_pos hr0] at hE
      have HF := Lib.hid (hg hE)
      rw [decide_eq_true hr0] at hem
      clear hr0 hE hb hg
      go_enter Try.func45, Try.ntmps45
      go_wp2_with (go_at_call 64; (with_reducible refine (C.out _).mono ?_); rintro e w1 ⟨rfl, hb1⟩)
      exact bodyPost_ret (v := .tuple #[.int .i64 k, .string b, .int .i64 0]) (by simp [results, Try.results45, go_sem]) rfl (seal_of HF.out _ _ rfl hb1)
    · rw [if_neg hr0] at hE
      have HF := Lib.hid (hb _ hE (by decide))
      rw [decide_eq_false hr0] at hem
      clear hr0 hE hb hg
      go_enter Try.func45, Try.ntmps45
      go_wp2_with (go_at_call 64; (with_reducible refine (C.out _).mono ?_); rintro e w1 ⟨rfl, hb1⟩)
      exact bodyPost_ret (v := .tuple #[.int .i64 0, .string ⟨#[]⟩, .int .i64 2]) (by simp [results, Try.results45, go_sem]) rfl (seal_of HF.out _ _ rfl hb1)
  · rw [if_neg h0] at hE
    have HF := Lib.hid (hb _ hE h0)
    have n1 : (x == 0) = false := beq_eq_false_iff_ne.2 h0
    have n2 : (x != 0) = true := bne_iff_ne.2 h0
    clear h0 hE hb hg
    go_enter Try.func45, Try.ntmps45
    go_wp2_with (go_at_call 64; (with_reducible refine (C.out _).mono ?_); rintro e w1 ⟨rfl, hb1⟩)
    exact bodyPost_ret (v := .tuple #[.int .i64 0, .string ⟨#[]⟩, .int .i64 x]) (by simp [results, Try.results45, go_sem]) rfl (seal_of HF.out _ _ rfl hb1)
set_option maxHeartbeats 3200000 in
theorem rget_any (s : ByteArray) (w : World) (hs : s.size ≤ 140737488351232) : Calls Try.prog 48 #[.string s] w fun e w' => e = .returned (.tuple #[.int .i64 (getK s), .string (getB s), .int .i64 (sealE s)]) ∧ Below w.heap.size w w' := by
  have hE : sealE s = if firE s = 0 then (if (firR s).size = 0 then 0 else 2) else firE s := rfl
  have hb := fun (x : Int) => get_bad (s := s) (x := x)
  have hg := get_good (s := s)
  obtain ⟨k, hk⟩ : ∃ x, firK s = x := ⟨_, rfl⟩
  obtain ⟨b, hB⟩ : ∃ x, firB s = x := ⟨_, rfl⟩
  obtain ⟨r, hr⟩ : ∃ x, firR s = x := ⟨_, rfl⟩
  obtain ⟨x, hx⟩ : ∃ x, firE s = x := ⟨_, rfl⟩
  rw [hx, hr] at hE
  rw [hk, hB] at hg
  have C := Lib.hid (fun w => rfirst_at hk hB hr hx w hs)
  clear hk hB hr hx hs
  by_cases h0 : x = 0
  · subst h0
    rw [if_pos rfl] at hE
    have hem := empty_size r
    by_cases hr0 : r.size = 0
    · rw [if_pos hr0] at hE
      have HF := Lib.hid (hg hE)
      rw [decide_eq_true hr0] at hem
      clear hr0 hE hb hg
      go_enter Try.func48, Try.ntmps48
      go_wp2_with (go_at_call 65; (with_reducible refine (C.out _).mono ?_); rintro e w1 ⟨rfl, hb1⟩)
      exact bodyPost_ret (v := .tuple #[.int .i64 k, .string b, .int .i64 0]) (by simp [results, Try.results48, go_sem]) rfl (seal_of HF.out _ _ rfl hb1)
    · rw [if_neg hr0] at hE
      have HF := Lib.hid (hb _ hE (by decide))
      rw [decide_eq_false hr0] at hem
      clear hr0 hE hb hg
      go_enter Try.func48, Try.ntmps48
      go_wp2_with (go_at_call 65; (with_reducible refine (C.out _).mono ?_); rintro e w1 ⟨rfl, hb1⟩)
      exact bodyPost_ret (v := .tuple #[.int .i64 0, .string ⟨#[]⟩, .int .i64 2]) (by simp [results, Try.results48, go_sem]) rfl (seal_of HF.out _ _ rfl hb1)
  · rw [if_neg h0] at hE
    have HF := Lib.hid (hb _ hE h0)
    have n1 : (x == 0) = false := beq_eq_false_iff_ne.2 h0
    have n2 : (x != 0) = true := bne_iff_ne.2 h0
    clear h0 hE hb hg
    go_enter Try.func48, Try.ntmps48
    go_wp2_with (go_at_call 65; (with_reducible refine (C.out _).mono ?_); rintro e w1 ⟨rfl, hb1⟩)
    exact bodyPost_ret (v := .tuple #[.int .i64 0, .string ⟨#[]⟩, .int .i64 x]) (by simp [results, Try.results48, go_sem]) rfl (seal_of HF.out _ _ rfl hb1)
theorem put_of {kind : Int} {body : ByteArray} {t : ByteArray} {e0 : Int} (h : sealS kind body = t ∧ putE kind body = e0) (e : Ending) (P : Prop) (h1 : e = .returned (.tuple #[.string t, .int .i64 e0])) (h2 : P) : e = .returned (.tuple #[.string (sealS kind body), .int .i64 (putE kind body)]) ∧ P := by
  obtain ⟨rfl, rfl⟩ := h; exact ⟨h1, h2⟩
theorem put_bad {kind : Int} {body : ByteArray} {x : Int} (h : putE kind body = x) (hx : x ≠ 0) : sealS kind body = ⟨#[]⟩ ∧ putE kind body = x := by
  unfold sealS; rw [if_neg (by rw [h]; exact hx)]; exact ⟨rfl, h⟩
theorem put_good {kind : Int} {body : ByteArray} (h : putE kind body = 0) : sealS kind body = headS kind body ++ tailS (headS kind body) ∧ putE kind body = 0 := by
  unfold sealS; rw [if_pos h]; exact ⟨rfl, h⟩
theorem putS_size (s : ByteArray) (n size : Int) : (putS s n size).size ≤ s.size + 7 := by
  unfold putS
  split
  · rename_i h
    rw [fits_iff] at h
    rw [ByteArray.size_append, be_size]; omega
  · omega
theorem head_size (kind : Int) (body : ByteArray) : (putS ⟨#[]⟩ kind 1).size ≤ 7 ∧ (putS (putS ⟨#[]⟩ kind 1) body.size 2).size ≤ 14 ∧ (headS kind body).size ≤ body.size + 14 := by
  have h1 := putS_size ⟨#[]⟩ kind 1
  have h2 := putS_size (putS ⟨#[]⟩ kind 1) body.size 2
  have h0 : (⟨#[]⟩ : ByteArray).size = 0 := rfl
  refine ⟨by omega, by omega, ?_⟩
  unfold headS; rw [ByteArray.size_append]; omega
set_option maxHeartbeats 3200000 in
theorem sealput_any (kind : Int) (body : ByteArray) (w : World) (hk : kind ≤ 9223372036854775807) (hs : body.size ≤ 140737488351232) : Calls Try.prog 42 #[.int .i64 kind, .string body] w fun e w' => e = .returned (.tuple #[.string (sealS kind body), .int .i64 (putE kind body)]) ∧ Below w.heap.size w w' := by
  by_cases hneg : kind < 0
  · have HF := Lib.hid (put_bad (kind := kind) (body := body) (x := 7) (by unfold putE; rw [if_pos (.inl hneg)]) (by decide))
    go_enter Try.func42, Try.ntmps42
    go_wp2
    exact bodyPost_ret (v := .tuple #[.string ⟨#[]⟩, .int .i64 7]) (by simp [results, Try.results42, go_sem]) rfl (put_of HF.out _ _ rfl (Below.refl _ _))
  by_cases hbig : 255 < kind
  · have HF := Lib.hid (put_bad (kind := kind) (body := body) (x := 7) (by unfold putE; rw [if_pos (.inr hbig)]) (by decide))
    go_enter Try.func42, Try.ntmps42
    go_wp2
    exact bodyPost_ret (v := .tuple #[.string ⟨#[]⟩, .int .i64 7]) (by simp [results, Try.results42, go_sem]) rfl (put_of HF.out _ _ rfl (Below.refl _ _))
  by_cases hlong : (600 : Int) < (body.size : Int)
  · have HF := Lib.hid (put_bad (kind := kind) (body := body) (x := 11) (by unfold putE; rw [if_neg (by omega), if_pos (by omega)]) (by decide))
    go_enter Try.func42, Try.ntmps42
    go_wp2
    exact bodyPost_ret (v := .tuple #[.string ⟨#[]⟩, .int .i64 11]) (by simp [results, Try.results42, go_sem]) rfl (put_of HF.out _ _ rfl (Below.refl _ _))
  · have hg := put_good (kind := kind) (body := body) (by unfold putE; rw [if_neg (by omega), if_neg (by omega)])
    obtain ⟨z1, z2, z3⟩ := head_size kind body
    have hh : headS kind body = putS (putS ⟨#[]⟩ kind 1) body.size 2 ++ body := rfl
    rw [hh] at hg z3
    have HF := Lib.hid hg
    have hzz : (putS (putS ⟨#[]⟩ kind 1) body.size 2).size + body.size ≤ 1000 := by omega
    have hz3 : (putS (putS ⟨#[]⟩ kind 1) body.size 2 ++ body).size ≤ 1000 := by omega
    have P1 := Lib.hid (fun w => put_any ⟨#[]⟩ kind 1 w hk (by decide))
    have P2 := Lib.hid (fun w => put_any (putS ⟨#[]⟩ kind 1) body.size 2 w (by omega) (by omega))
    have P3 := Lib.hid (fun w => ctailS (putS (putS ⟨#[]⟩ kind 1) body.size 2 ++ body) w (by unfold maxLen; omega))
    have hz4 := tailS_size (putS (putS ⟨#[]⟩ kind 1) body.size 2 ++ body)
    clear hg hh z1 z2 z3
    generalize hp1 : putS ⟨#[]⟩ kind 1 = p1 at *
    generalize hp2 : putS p1 body.size 2 = p2 at *
    generalize hp3 : p2 ++ body = p3 at *
    generalize hp4 : tailS p3 = p4 at *
    have HP3 := Lib.hid hp3
    have hq1 : ¬ (9223372036854775807 : Int) < (p2.size : Int) + (body.size : Int) := by omega
    have hq2 : ¬ (9223372036854775807 : Int) < (p3.size : Int) + (p4.size : Int) := by omega
    clear hp1 hp2 hp4 hp3
    go_enter Try.func42, Try.ntmps42
    go_wp2_with (first | (go_at_call 22; (with_reducible refine (P1.out _).mono ?_); rintro e w1 ⟨rfl, hb1⟩) | (go_at_call 22; (with_reducible refine (P2.out _).mono ?_); rintro e w2 ⟨rfl, hb2⟩) | (rw [HP3.out]; (with_reducible refine (P3.out _).mono ?_); rintro e w3 ⟨rfl, hb3⟩))
    exact bodyPost_ret (v := .tuple #[.string (p3 ++ p4), .int .i64 0]) (by simp [results, Try.results42, go_sem]) rfl (put_of HF.out _ _ rfl (bt (bt hb1 hb2) hb3))
set_option maxHeartbeats 3200000 in
theorem rsealput_any (kind : Int) (body : ByteArray) (w : World) (hk : kind ≤ 9223372036854775807) (hs : body.size ≤ 140737488351232) : Calls Try.prog 44 #[.int .i64 kind, .string body] w fun e w' => e = .returned (.tuple #[.string (sealS kind body), .int .i64 (putE kind body)]) ∧ Below w.heap.size w w' := by
  by_cases hneg : kind < 0
  · have HF := Lib.hid (put_bad (kind := kind) (body := body) (x := 7) (by unfold putE; rw [if_pos (.inl hneg)]) (by decide))
    go_enter Try.func44, Try.ntmps44
    go_wp2
    exact bodyPost_ret (v := .tuple #[.string ⟨#[]⟩, .int .i64 7]) (by simp [results, Try.results44, go_sem]) rfl (put_of HF.out _ _ rfl (Below.refl _ _))
  by_cases hbig : 255 < kind
  · have HF := Lib.hid (put_bad (kind := kind) (body := body) (x := 7) (by unfold putE; rw [if_pos (.inr hbig)]) (by decide))
    go_enter Try.func44, Try.ntmps44
    go_wp2
    exact bodyPost_ret (v := .tuple #[.string ⟨#[]⟩, .int .i64 7]) (by simp [results, Try.results44, go_sem]) rfl (put_of HF.out _ _ rfl (Below.refl _ _))
  by_cases hlong : (600 : Int) < (body.size : Int)
  · have HF := Lib.hid (put_bad (kind := kind) (body := body) (x := 11) (by unfold putE; rw [if_neg (by omega), if_pos (by omega)]) (by decide))
    go_enter Try.func44, Try.ntmps44
    go_wp2
    exact bodyPost_ret (v := .tuple #[.string ⟨#[]⟩, .int .i64 11]) (by simp [results, Try.results44, go_sem]) rfl (put_of HF.out _ _ rfl (Below.refl _ _))
  · have hg := put_good (kind := kind) (body := body) (by unfold putE; rw [if_neg (by omega), if_neg (by omega)])
    obtain ⟨z1, z2, z3⟩ := head_size kind body
    have hh : headS kind body = putS (putS ⟨#[]⟩ kind 1) body.size 2 ++ body := rfl
    rw [hh] at hg z3
    have HF := Lib.hid hg
    have hzz : (putS (putS ⟨#[]⟩ kind 1) body.size 2).size + body.size ≤ 1000 := by omega
    have hz3 : (putS (putS ⟨#[]⟩ kind 1) body.size 2 ++ body).size ≤ 1000 := by omega
    have P1 := Lib.hid (fun w => rput_any ⟨#[]⟩ kind 1 w hk (by decide))
    have P2 := Lib.hid (fun w => rput_any (putS ⟨#[]⟩ kind 1) body.size 2 w (by omega) (by omega))
    have P3 := Lib.hid (fun w => crtailS (putS (putS ⟨#[]⟩ kind 1) body.size 2 ++ body) w (by unfold maxLen; omega))
    have hz4 := tailS_size (putS (putS ⟨#[]⟩ kind 1) body.size 2 ++ body)
    clear hg hh z1 z2 z3
    generalize hp1 : putS ⟨#[]⟩ kind 1 = p1 at *
    generalize hp2 : putS p1 body.size 2 = p2 at *
    generalize hp3 : p2 ++ body = p3 at *
    generalize hp4 : tailS p3 = p4 at *
    have HP3 := Lib.hid hp3
    have hq1 : ¬ (9223372036854775807 : Int) < (p2.size : Int) + (body.size : Int) := by omega
    have hq2 : ¬ (9223372036854775807 : Int) < (p3.size : Int) + (p4.size : Int) := by omega
    clear hp1 hp2 hp4 hp3
    go_enter Try.func44, Try.ntmps44
    go_wp2_with (first | (go_at_call 26; (with_reducible refine (P1.out _).mono ?_); rintro e w1 ⟨rfl, hb1⟩) | (go_at_call 26; (with_reducible refine (P2.out _).mono ?_); rintro e w2 ⟨rfl, hb2⟩) | (rw [HP3.out]; (with_reducible refine (P3.out _).mono ?_); rintro e w3 ⟨rfl, hb3⟩))
    exact bodyPost_ret (v := .tuple #[.string (p3 ++ p4), .int .i64 0]) (by simp [results, Try.results44, go_sem]) rfl (put_of HF.out _ _ rfl (bt (bt hb1 hb2) hb3))
end Go.Proofs.Ytemfdmbjlmiopaa
