/-
  The statement SealTurned (chapter 4): what is turned is not got.
-/
import Derived.Test.YtpcpoppfmpnhoaaSealLaw
import Derived.Test.YtpcpoppfmpnhoaaCycTurn
namespace Go.Proofs.Ytpcpoppfmpnhoaa
open Go.RowKit
set_option linter.unusedVariables false
set_option linter.unusedSimpArgs false
theorem conv_one (W : World) (a0 : Int) : (convert 34 9 (.slice (some ⟨W.heap.size, 0, none⟩) 1 1)).run Try.prog (W.alloc (.cells #[.int .u8 a0] 5)) = .ok (.string (strOfNums [a0])) (W.alloc (.cells #[.int .u8 a0] 5)) := by
  refine run_convert_bytes_arg _ 34 5 Try.underlying34 Try.underlying5 W.heap.size 0 1 1 [a0] rfl (fun i hi => ?_) 9 Try.underlying9
  obtain rfl : i = 0 := by omega
  simp [go_sem]
theorem mk_data (l : List UInt8) : (ByteArray.mk l.toArray).data.toList = l := rfl
/-- what is turned is got only if nothing is -/
theorem turned_get (k : Nat) (body : ByteArray) (hk : k ≤ 255) (hb : body.size ≤ 600) (f : Nat → UInt8) (at_ q : Nat) (h4 : q ≤ 4) (hq : at_ + q ≤ body.size + 7) :
    getE ⟨(turn f (headS k body ++ tailS (headS k body)).data.toList at_ q).toArray⟩ = 0 ↔ turn f (headS k body ++ tailS (headS k body)).data.toList at_ q = (headS k body ++ tailS (headS k body)).data.toList := by
  have hz := headS_size k body hk hb
  have ht := tailS_size (headS k body)
  have hsz : (headS k body ++ tailS (headS k body)).size = body.size + 7 := by rw [ByteArray.size_append]; omega
  constructor
  · intro h
    have h1 := got_crc _ h
    rw [mk_data] at h1
    have h2 := sealed_crc (headS k body)
    exact (turn_sees f _ at_ q h4 (by rw [data_len]; omega)).1 (h1.trans h2.symm)
  · intro h
    rw [h]
    have e : (⟨(headS k body ++ tailS (headS k body)).data.toList.toArray⟩ : ByteArray) = headS k body ++ tailS (headS k body) := by
      apply ba_data; rfl
    rw [e]
    obtain ⟨a1, _, _, a4, _⟩ := fir_seal k body ⟨#[]⟩ hk hb
    rw [app_emp] at a1 a4
    exact fir_get a1 (by rw [a4]; rfl)
theorem more_get (k : Nat) (body more : ByteArray) (hk : k ≤ 255) (hb : body.size ≤ 600) (hm : 0 < more.size) : getE (headS k body ++ tailS (headS k body) ++ more) = 2 := by
  obtain ⟨a1, _, _, a4, _⟩ := fir_seal k body more hk hb
  unfold getE; rw [if_pos a1, a4, if_neg (by omega)]
theorem place_tight (a : Int) (n : Nat) (h0 : 0 < n) (hn : n ≤ 3000) : ∃ k : Nat, k < n ∧ wrap64 ((IntKind.u64.wrap a).tmod (n : Int)) = (k : Int) := place_nat a n h0 hn
theorem turned_bad (kind : Int) (uk : (Lit.int .i64 kind).wf = true) (body : ByteArray) (hs : body.size ≤ 140737488351232) (at_ : Int) (b0 b1 b2 b3 : Int) (hE : putE kind body ≠ 0) {w : World} :
    Calls Try.prog 6 #[.int .i64 kind, .string body, .int .i64 at_, .agg #[.int .u8 b0, .int .u8 b1, .int .u8 b2, .int .u8 b3]] w fun e w' => e = .returned (.bool true) ∧ Below w.heap.size w w' := by
  have hk := (bounds_i64 uk).2
  obtain ⟨p1, p2⟩ := put_bad (kind := kind) (body := body) rfl hE
  have C1 := Lib.hid (fun w => sput_at p1 rfl w hk hs)
  have n1 : (putE kind body != 0) = true := bne_iff_ne.2 hE
  have e3 := bse ⟨#[]⟩
  clear p1 p2 hE uk
  generalize putE kind body = E at *
  go_enter Try.func6, Try.ntmps6
  go_wp2_with (first | (go_at_call 7; (with_reducible refine (works_any _).mono ?_); rintro e w1 ⟨rfl, hb1⟩) | (go_at_call 8; (with_reducible refine (C1.out _).mono ?_); rintro e w2 ⟨rfl, hb2⟩))
  go_ret
  exact ⟨rfl, (bt ((Below.refl _ _).alloc (Nat.le_refl _) _) (bt hb1 hb2))⟩
set_option maxHeartbeats 6400000 in
theorem walk_SealTurned (kind : Int) (uk : (Lit.int .i64 kind).wf = true) (body : ByteArray) (hs : body.size ≤ 140737488351232) (at_ : Int) (hat : (Lit.int .i64 at_).wf = true) (b0 b1 b2 b3 : Int) (h0 : (Lit.int .u8 b0).wf = true) (h1 : (Lit.int .u8 b1).wf = true) (h2 : (Lit.int .u8 b2).wf = true) (h3 : (Lit.int .u8 b3).wf = true) {w : World} :
    Calls Try.prog 6 #[.int .i64 kind, .string body, .int .i64 at_, .agg #[.int .u8 b0, .int .u8 b1, .int .u8 b2, .int .u8 b3]] w fun e w' => e = .returned (.bool true) ∧ Below w.heap.size w w' := by
  by_cases hE : putE kind body = 0
  case neg => exact turned_bad kind uk body hs at_ b0 b1 b2 b3 hE
  have hk := (bounds_i64 uk).2
  obtain ⟨kd, rfl, hkd, hbd⟩ := putE_ok hE
  have hS := (put_good hE).1
  have TG := Lib.hid (fun f a q h4 hq => turned_get kd body hkd hbd f a q h4 hq)
  have CG := Lib.hid (fun m hm => get_cut kd body hkd hbd m hm)
  have MG := Lib.hid (fun more hm => more_get kd body more hkd hbd hm)
  have hsz : (headS kd body ++ tailS (headS kd body)).size = body.size + 7 := by rw [ByteArray.size_append, headS_size kd body hkd hbd, tailS_size]
  generalize headS kd body ++ tailS (headS kd body) = s at *
  have C1 := Lib.hid (fun w => sput_at hS hE w hk hs)
  have hm : s.size ≤ maxLen := by unfold maxLen; omega
  have hpos : 0 < s.size := by omega
  have hle : s.size ≤ 1000 := by omega
  have hcv := fun W => Lib.run_convert_string_bytes (P := Try.prog) W 9 34 5 s Try.underlying9 Try.underlying34 Try.underlying5
  obtain ⟨k, hkn, hkk⟩ := place_nat at_ s.size hpos (by omega)
  have hmax : max (s.size : Int) 1 = (s.size : Int) := by omega
  have HSZ := Lib.hid hsz
  clear hS hE hk uk hat hsz
  go_enter Try.func6, Try.ntmps6
  go_wp2_with (first | (go_at_call 7; (with_reducible refine (works_any _).mono ?_); rintro e w1 ⟨rfl, hb1⟩) | (go_at_call 8; (with_reducible refine (C1.out _).mono ?_); rintro e w2 ⟨rfl, hb2⟩))
  rw [hkk]
  clear hkk
  obtain ⟨W0, hW0, hc0, hf0, hB0⟩ : ∃ W0, W0 = Lib.bytesWorld w2 5 s ∧ (∀ j, j < s.size → W0.cell? ⟨w2.heap.size, j, none⟩ = some (.int .u8 (s.data.toList.getD j 0).toNat)) ∧ (∀ j, j < s.size → W0.frozen? ⟨w2.heap.size, j, none⟩ = false) ∧ Below w2.heap.size w2 W0 :=
    ⟨_, rfl, fun j hj => Lib.bytesWorld_cell w2 5 s j hj, fun j hj => bytesWorld_free w2 5 s j hj, bytesWorld_below w2 5 s⟩
  rw [← hW0]
  clear hW0 hcv
  have hb12 := bt hb1 hb2
  have hw1 : w.heap.size < w2.heap.size := by have := hb12.size; simp at this; omega
  have HB12 := Lib.hid hb12
  have HSM := Lib.hid hm
  have HC0 := Lib.hid (show ∀ wr, Below w2.heap.size w2 wr → ∀ q, q < 4 → wr.cell? ⟨w.heap.size, q, none⟩ = some (.int .u8 (byF b0 b1 b2 b3 q)) by
    intro wr H3 q hq
    rw [H3.cell (p := ⟨w.heap.size, q, none⟩) hw1, hb12.cell (p := ⟨w.heap.size, q, none⟩) (by simp)]
    have : q = 0 ∨ q = 1 ∨ q = 2 ∨ q = 3 := by omega
    rcases this with rfl | rfl | rfl | rfl <;> simp [go_sem, byF])
  clear hb1 hb2 hb12 C1 hm
  go_loopw [13] (fun i wr => ∃ q : Nat, q ≤ 4 ∧ k + q ≤ s.size ∧ i = .int .i64 q ∧ Hid (∀ j, j < s.size → wr.cell? ⟨w2.heap.size, j, none⟩ = some (.int .u8 ((turn (by8 b0 b1 b2 b3) s.data.toList k q).getD j 0).toNat)) ∧ Hid (∀ j, j < s.size → wr.frozen? ⟨w2.heap.size, j, none⟩ = false) ∧ Hid (Below w2.heap.size w2 wr)) (fun i _ => 4 - (intOf i).toNat)
  case atStart => exact ⟨0, by omega, by omega, rfl, fun j hj => by rw [turn_zero]; exact hc0 j hj, hf0, hB0⟩
  case round =>
    obtain ⟨q, hq4, hqn, rfl, H1, H2, H3⟩ := hrel
    by_cases hgo : q < 4 ∧ k + q < s.size
    · obtain ⟨hq, hkq⟩ := hgo
      have hck := H1.out (k + q) hkq
      have hfk := H2.out (k + q) hkq
      have hby := HC0.out wr H3.out q hq
      have hne : w.heap.size ≠ w2.heap.size := by omega
      have i1 : (0 : Int) ≤ (k : Int) + (q : Int) := by omega
      have i2 : (k : Int) + (q : Int) < (s.size : Int) := by omega
      have i3 : (q : Int) < 4 := by omega
      have HR := Lib.hid (round_cells wr w2.heap.size s.size b0 b1 b2 b3 s.data.toList k q (by simp) h0 h1 h2 h3 hkq H1.out H2.out)
      go_wp2
      go_region
      go_wp2
      refine ⟨⟨q + 1, by omega, by omega, by go_num, HR.out.1, HR.out.2, (H3.out.setCell (p := ⟨w2.heap.size, k + q, none⟩) (Nat.le_refl _) _).drew⟩, by simp [intOf]; omega⟩
    · have hT := TG.out (by8 b0 b1 b2 b3) k q hq4 (by have := HSZ.out; omega)
      generalize hl : turn (by8 b0 b1 b2 b3) s.data.toList k q = l at *
      have hll : s.size = l.length := by rw [← hl]; simp [turn_len]
      have hconv : ∀ w', Bytes w' w2.heap.size s.size l → (convert 34 9 (.slice (some ⟨w2.heap.size, 0, none⟩) s.size (grownCap w2 s.size 0 5))).run Try.prog w' = .ok (.string ⟨l.toArray⟩) w' := fun w' h => bytes_conv w' _ _ _ l hll h
      have HK : Hid (Keeps wr w2.heap.size s.size l wr) := ⟨H1.out, Below.refl _ _⟩
      have hTs : (⟨l.toArray⟩ : ByteArray).size = s.size := hll.symm
      have hTe : l = s.data.toList ↔ (⟨l.toArray⟩ : ByteArray) = s := ⟨fun h => by apply ba_data; exact h, fun h => by rw [← h]⟩
      rw [hTe] at hT
      have HCV := Lib.hid hconv
      clear hl hll hc0 hf0 H1 H2 hconv hTe
      generalize (⟨l.toArray⟩ : ByteArray) = T at *
      have G1 := Lib.hid (fun w => sget_at (s := T) rfl rfl rfl w (by omega))
      have G2 := Lib.hid (fun w => sget_at (s := s.extract 0 k) rfl rfl rfl w (by rw [ByteArray.size_extract]; omega))
      have hsn : (strOfNums [b0]).size = 1 := by simp [strOfNums_size]
      have G3 := Lib.hid (fun w => sget_at (s := s ++ strOfNums [b0]) rfl rfl (MG.out (strOfNums [b0]) (by omega)) w (by rw [ByteArray.size_append]; omega))
      have hY := CG.out k (by have := HSZ.out; omega)
      generalize getK T = K1 at *
      generalize getB T = B1 at *
      generalize getE T = X at *
      generalize getK (s.extract 0 k) = K2 at *
      generalize getB (s.extract 0 k) = B2 at *
      generalize getE (s.extract 0 k) = Y at *
      generalize getK (s ++ strOfNums [b0]) = K3 at *
      generalize getB (s ++ strOfNums [b0]) = B3 at *
      have hY' : (Y != 0) = true := bne_iff_ne.2 hY
      have hmin : min (k : Int) (s.size : Int) = (k : Int) := by omega
      have hfin : ((X == 0) == (T.toList == s.toList)) = true := by
        by_cases hTS : T = s
        · rw [hT.2 hTS, hTS]; simp
        · rw [beq_eq_false_iff_ne.2 (fun h => hTS (hT.1 h)), beq_eq_false_iff_ne.2 (fun h => hTS (ba_ext h))]; rfl
      have hov : ¬ (9223372036854775807 : Int) < (s.size : Int) + ((strOfNums [b0]).size : Int) := by omega
      have hcv0 := HCV.out wr HK.out.bytes
      clear hT hY hTs hsn CG MG TG
      by_cases hq : q < 4
      all_goals
        go_wp2_with fail
        refine (G1.out _).mono ?_
        rintro e w4 ⟨rfl, hb4⟩
        have HK4 := Lib.hid (Keeps.below HK.out hb4)
        go_wp2_with fail
        refine (G2.out _).mono ?_
        rintro e w5 ⟨rfl, hb5⟩
        have HK5 := Lib.hid (Keeps.below HK4.out hb5)
        have hc5 := HC0.out w5 (H3.out.trans (HK5.out.old.mono H3.out.size)) 0 (by omega)
        have hb0 : byF b0 b1 b2 b3 0 = b0 := rfl
        rw [hb0] at hc5
        have hco := conv_one w5 b0
        go_wp2_with fail
        refine (G3.out _).mono ?_
        rintro e w6 ⟨rfl, hb6⟩
        have HK6 := Lib.hid (Keeps.below (Keeps.below HK5.out ((Below.refl _ _).alloc (Nat.le_refl _) _)) hb6)
        have hcv6 := HCV.out w6 HK6.out.bytes
        go_wp2
        go_ret
        refine ⟨rfl, ?_⟩
        exact bt (bt ((Below.refl _ _).alloc (Nat.le_refl _) _) HB12.out) (H3.out.trans (HK6.out.old.mono H3.out.size))
end Go.Proofs.Ytpcpoppfmpnhoaa
