/-
  Bytes of a kind, sealed (chapter 4): plain laws.
-/
import Derived.Test.YtemfdmbjlmiopaaSeal2
namespace Go.Proofs.Ytemfdmbjlmiopaa
open Go.RowKit
set_option linter.unusedVariables false

theorem be1 (k : Nat) : be 1 k = [UInt8.ofNat (k % 256)] := rfl
theorem be2 (k : Nat) : be 2 k = [UInt8.ofNat (k / 256 % 256), UInt8.ofNat (k % 256)] := rfl
theorem headS_list (k : Nat) (body : ByteArray) (hk : k ≤ 255) (hb : body.size ≤ 600) : (headS k body).data.toList = UInt8.ofNat k :: UInt8.ofNat (body.size / 256) :: UInt8.ofNat (body.size % 256) :: body.data.toList := by
  unfold headS
  have f1 : fitsB (k : Int) ((1 : Nat) : Int) = true := by rw [fits_iff]; simp; omega
  have f2 : fitsB ((body.size : Nat) : Int) ((2 : Nat) : Int) = true := by rw [fits_iff]; simp; omega
  rw [show (1 : Int) = ((1 : Nat) : Int) from rfl, show (2 : Int) = ((2 : Nat) : Int) from rfl, putS_fit _ k 1 f1, putS_fit _ body.size 2 f2]
  rw [app_list, app_list, app_list, be1, be2, Nat.mod_eq_of_lt (show k < 256 by omega), Nat.mod_eq_of_lt (show body.size / 256 < 256 by omega)]
  rfl
theorem headS_size (k : Nat) (body : ByteArray) (hk : k ≤ 255) (hb : body.size ≤ 600) : (headS k body).size = body.size + 3 := by
  have h := congrArg List.length (headS_list k body hk hb)
  rw [data_len] at h
  simp only [List.length_cons, data_len] at h
  exact h
theorem ext_front (p q : ByteArray) (n : Nat) (hn : p.size = n) : (p ++ q).extract 0 n = p := by
  apply ba_data
  rw [ext_list, app_list, List.drop_zero, Nat.sub_zero, ← hn, ← data_len p, List.take_left]
theorem ext_back (p q : ByteArray) (n : Nat) (hn : p.size = n) : (p ++ q).extract n (p ++ q).size = q := by
  apply ba_data
  rw [ext_list, app_list, ← hn, ← data_len p, List.drop_left, ByteArray.size_append, List.take_of_length_le (by rw [data_len, data_len]; omega)]
theorem ext_mid (p q r : ByteArray) (n m : Nat) (hn : p.size = n) (hm : n + q.size = m) : (p ++ q ++ r).extract n m = q := by
  apply ba_data
  rw [ext_list, app_list, app_list, List.append_assoc, ← hn, ← data_len p, List.drop_left, data_len, show m - p.size = q.size by omega, ← data_len q, List.take_left]
theorem gd_list0 {s : ByteArray} {l : List UInt8} (h : s.data.toList = l) (k : Nat) : gd s k = (l.getD k 0).toNat := by rw [gd_data, h]
/-- what is sealed is got, also with more behind it -/
theorem fir_seal (k : Nat) (body more : ByteArray) (hk : k ≤ 255) (hb : body.size ≤ 600) :
    let s := headS k body ++ tailS (headS k body) ++ more
    firE s = 0 ∧ firK s = k ∧ firB s = body ∧ firR s = more ∧ lenAt s = body.size := by
  intro s
  have hh := headS_list k body hk hb
  have hz := headS_size k body hk hb
  have ht := tailS_size (headS k body)
  have hl : s.data.toList = UInt8.ofNat k :: UInt8.ofNat (body.size / 256) :: UInt8.ofNat (body.size % 256) :: (body.data.toList ++ (tailS (headS k body)).data.toList ++ more.data.toList) := by
    show (headS k body ++ tailS (headS k body) ++ more).data.toList = _
    rw [app_list, app_list, hh]; simp
  have hsz : s.size = body.size + 7 + more.size := by
    show (headS k body ++ tailS (headS k body) ++ more).size = _
    rw [ByteArray.size_append, ByteArray.size_append]; omega
  have g0 : gd s 0 = k := by rw [gd_list0 hl]; show (UInt8.ofNat k).toNat = k; rw [UInt8.toNat_ofNat']; omega
  have g1 : gd s 1 = body.size / 256 := by rw [gd_list0 hl]; show (UInt8.ofNat (body.size / 256)).toNat = _; rw [UInt8.toNat_ofNat']; omega
  have g2 : gd s 2 = body.size % 256 := by rw [gd_list0 hl]; show (UInt8.ofNat (body.size % 256)).toNat = _; rw [UInt8.toNat_ofNat']; omega
  have hn : lenAt s = body.size := by unfold lenAt; rw [g1, g2]; omega
  have e1 : s.extract 0 (3 + body.size) = headS k body := by
    show (headS k body ++ tailS (headS k body) ++ more).extract _ _ = _
    rw [ByteArray.append_assoc]; exact ext_front _ _ _ (by omega)
  have e2 : s.extract (3 + body.size) (7 + body.size) = tailS (headS k body) := ext_mid _ _ _ _ _ (by omega) (by omega)
  have e3 : s.extract (7 + body.size) s.size = more := ext_back (headS k body ++ tailS (headS k body)) more _ (by rw [ByteArray.size_append]; omega)
  have e4 : s.extract 3 (3 + body.size) = body := by
    apply ba_data
    rw [ext_list, hl]
    show ((body.data.toList ++ (tailS (headS k body)).data.toList ++ more.data.toList)).take (3 + body.size - 3) = _
    rw [show 3 + body.size - 3 = body.data.toList.length by rw [data_len]; omega, List.append_assoc, List.take_left]
  have hs : sumB s = true := by unfold sumB; rw [hn, e1, e2]; exact bse _
  have hE : firE s = 0 := by
    unfold firE
    rw [if_neg (by omega), hn, if_neg (by omega), if_neg (by omega), hs]; rfl
  obtain ⟨a, b, c, _⟩ := fir_good hE
  exact ⟨hE, by rw [a, g0], by rw [b, hn, e4], by rw [c, hn, e3], hn⟩
theorem putE_ok {kind : Int} {body : ByteArray} (h : putE kind body = 0) : ∃ k : Nat, kind = k ∧ k ≤ 255 ∧ body.size ≤ 600 := by
  unfold putE at h
  split at h
  · cases h
  · split at h
    · cases h
    · exact ⟨kind.toNat, by omega, by omega, by omega⟩
theorem fir_get {s : ByteArray} (h : firE s = 0) (hr : (firR s).size = 0) : sealE s = 0 := by unfold sealE; rw [if_pos h, if_pos hr]
/-- what is got, sealed, is just the bytes that it was got from -/
theorem seal_get (s : ByteArray) (h : sealE s = 0) : 7 ≤ s.size ∧ lenAt s ≤ 600 ∧ s.size = 7 + lenAt s ∧ getK s = gd s 0 ∧ (getB s).size = lenAt s ∧ getB s = s.extract 3 (3 + lenAt s) ∧ s.extract (3 + lenAt s) (7 + lenAt s) = tailS (s.extract 0 (3 + lenAt s)) := by
  obtain ⟨hk, hb, _⟩ := get_good h
  have hE : firE s = 0 := by
    by_cases h0 : firE s = 0
    · exact h0
    · unfold sealE at h; rw [if_neg h0] at h; exact absurd h h0
  have hR : (firR s).size = 0 := by
    by_cases h0 : (firR s).size = 0
    · exact h0
    · unfold sealE at h; rw [if_pos hE, if_neg h0] at h; cases h
  obtain ⟨a, b, c, _⟩ := fir_good hE
  have h7 : ¬ s.size < 7 := fun h' => by unfold firE at hE; rw [if_pos h'] at hE; cases hE
  have h6 : ¬ 600 < lenAt s := fun h' => by unfold firE at hE; rw [if_neg h7, if_pos h'] at hE; cases hE
  have h5 : ¬ s.size < lenAt s + 7 := fun h' => by unfold firE at hE; rw [if_neg h7, if_neg h6, if_pos h'] at hE; cases hE
  have hs : sumB s = true := by
    cases hs : sumB s
    · unfold firE at hE; rw [if_neg h7, if_neg h6, if_neg h5, if_pos hs] at hE; cases hE
    · rfl
  rw [c, ext_size _ _ _ (Nat.le_refl _)] at hR
  refine ⟨by omega, by omega, by omega, by rw [hk, a], by rw [hb, b, ext_size _ _ _ (by omega)]; omega, by rw [hb, b], ?_⟩
  unfold sumB at hs
  exact ba_ext (beq_iff_eq.1 hs)
theorem seal_put_get (s : ByteArray) (h : sealE s = 0) : putE (getK s) (getB s) = 0 ∧ sealS (getK s) (getB s) = s := by
  obtain ⟨h7, h6, hz, hk, hbz, hb, hs⟩ := seal_get s h
  have hg := gd_lt s 0
  have hP : putE (getK s) (getB s) = 0 := by
    unfold putE
    rw [if_neg (by omega), if_neg (by omega)]
  refine ⟨hP, ?_⟩
  rw [(put_good hP).1]
  have hh : headS (getK s) (getB s) = s.extract 0 (3 + lenAt s) := by
    apply ba_data
    rw [hk, headS_list (gd s 0) (getB s) (by omega) (by omega), hbz]
    obtain ⟨a, b, c, t, hl⟩ := three s (by omega)
    have ga : gd s 0 = a.toNat := gd_list0 hl 0
    have gb : gd s 1 = b.toNat := gd_list0 hl 1
    have gc : gd s 2 = c.toNat := gd_list0 hl 2
    have hb1 : lenAt s / 256 = b.toNat := by have := c.toNat_lt; unfold lenAt; rw [gb, gc]; omega
    have hc1 : lenAt s % 256 = c.toNat := by have := c.toNat_lt; unfold lenAt; rw [gb, gc]; omega
    rw [hb, ext_list, ext_list, hl, ga, hb1, hc1, UInt8.ofNat_toNat, UInt8.ofNat_toNat, UInt8.ofNat_toNat, Nat.sub_zero]
    rw [show 3 + lenAt s - 3 = lenAt s by omega, show 3 + lenAt s = lenAt s + 1 + 1 + 1 by omega]
    rfl
  rw [hh, ← hs]
  apply ba_data
  rw [app_list, ext_list, ext_list, List.drop_zero, Nat.sub_zero, show 7 + lenAt s - (3 + lenAt s) = 4 by omega]
  rw [List.take_of_length_le (l := List.drop (3 + lenAt s) s.data.toList) (by rw [List.length_drop, data_len]; omega), List.take_append_drop]
/-- of sealed bytes, what is cut off is not got -/
theorem get_cut (k : Nat) (body : ByteArray) (hk : k ≤ 255) (hb : body.size ≤ 600) (m : Nat) (hm : m < body.size + 7) : sealE ((headS k body ++ tailS (headS k body)).extract 0 m) ≠ 0 := by
  obtain ⟨_, _, _, _, hn⟩ := fir_seal k body ⟨#[]⟩ hk hb
  have hz := headS_size k body hk hb
  have ht := tailS_size (headS k body)
  have he : headS k body ++ tailS (headS k body) ++ ⟨#[]⟩ = headS k body ++ tailS (headS k body) := by
    apply ba_data; rw [app_list]; simp
  rw [he] at hn
  have hsz : (headS k body ++ tailS (headS k body)).size = body.size + 7 := by rw [ByteArray.size_append]; omega
  generalize headS k body ++ tailS (headS k body) = s at *
  have hz1 := ext_size s 0 m (by omega)
  have hE : firE (s.extract 0 m) = 1 := by
    unfold firE
    by_cases h7 : (s.extract 0 m).size < 7
    · rw [if_pos h7]
    · have hl : lenAt (s.extract 0 m) = body.size := by
        unfold lenAt at hn ⊢
        rw [gd_extract s 0 m 1 (by omega) (by omega), gd_extract s 0 m 2 (by omega) (by omega)]; exact hn
      rw [if_neg h7, hl, if_neg (by omega), if_pos (by omega)]
  unfold sealE; rw [hE, if_neg (by decide)]; decide
theorem sealed_crc (h : ByteArray) : crcOf (h ++ tailS h).data.toList = 558161692 := by
  have hl : (tailS h).data.toList.map (·.toNat) = [crcOf h.data.toList % 256, crcOf h.data.toList / 256 % 256, crcOf h.data.toList / 65536 % 256, crcOf h.data.toList / 16777216 % 256] := by
    simp [tailS, le4, strOfNums_data]; omega
  rw [app_list]; exact crc_tail _ _ hl
/-- what is got has the sum of all that is sealed -/
theorem got_crc (s : ByteArray) (h : sealE s = 0) : crcOf s.data.toList = 558161692 := by
  obtain ⟨h7, h6, hz, hk, hbz, hb, hs⟩ := seal_get s h
  have := sealed_crc (s.extract 0 (3 + lenAt s))
  rw [← hs] at this
  have e : s.extract 0 (3 + lenAt s) ++ s.extract (3 + lenAt s) (7 + lenAt s) = s := by
    apply ba_data
    rw [app_list, ext_list, ext_list, List.drop_zero, Nat.sub_zero, show 7 + lenAt s - (3 + lenAt s) = 4 by omega]
    rw [List.take_of_length_le (l := List.drop (3 + lenAt s) s.data.toList) (by rw [List.length_drop, data_len]; omega), List.take_append_drop]
  rw [e] at this; exact this
end Go.Proofs.Ytemfdmbjlmiopaa
