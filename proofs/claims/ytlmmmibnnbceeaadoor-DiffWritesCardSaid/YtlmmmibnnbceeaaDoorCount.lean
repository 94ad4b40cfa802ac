/-
  Walks over package count (chapter 1): Text.
-/
import Derived.Test.YtlmmmibnnbceeaaDoorRows
import Derived.Test.YtlmmmibnnbceeaaDoorMine
import Derived.Test.YtlmmmibnnbceeaaDoorCountPlain
import Derived.WalkKit
import Derived.WalkSpells
import Derived.WalkLawsBesides
import Derived.Lib.Hide
namespace Go.Proofs.YtlmmmibnnbceeaaDoor
open Go.RowKit
set_option linter.unusedVariables false
set_option maxRecDepth 20000

theorem Bytes.set {w : World} {g n : Nat} {l : List UInt8} (h : Bytes w g n l) (k : Nat) (c : UInt8) (hl : k < l.length) : Bytes (w.setCell ⟨g, k, none⟩ (.int .u8 c.toNat)) g n (l.set k c) := by
  intro j hj
  by_cases e : j = k
  · subst e
    have := h j hj
    simp [go_sem, this, List.getD_eq_getElem?_getD, hl]
  · have := h j hj
    have hne : ¬ (k = j) := fun h => e h.symm
    simpa [go_sem, hne, List.getD_eq_getElem?_getD, List.getElem?_set_ne hne] using this
/-- bytes from a place on, as a text -/
theorem bytes_conv_from (w : World) (g n c o m : Nat) (l : List UInt8) (hl : l.length = n) (ho : o + m = n) (H : Bytes w g n l) :
    (convert 51 9 (.slice (some ⟨g, o, none⟩) m c)).run Tryd.prog w = .ok (.string ⟨(l.drop o).toArray⟩) w := by
  have h := run_convert_bytes_arg w 51 5 Tryd.underlying51 Tryd.underlying5 g o m c ((l.drop o).map fun c => (c.toNat : Int)) (by simp [hl]; omega) (fun i hi => by
    rw [H (o + i) (by omega)]
    simp [List.getD_eq_getElem?_getD, List.getElem?_drop, List.getElem?_eq_getElem (show o + i < l.length by omega)]) 9 Tryd.underlying9
  rw [h]
  have : ((l.drop o).map fun c => (c.toNat : Int)).map (fun n => UInt8.ofNat n.toNat) = l.drop o := by
    rw [List.map_map]
    conv => rhs; rw [← List.map_id (l.drop o)]
    exact List.map_congr_left fun c _ => by simp
  unfold strOfNums
  rw [this]

/-- the array behind q digits -/
def dgt (q n : Nat) : List UInt8 := List.replicate (20 - q) 0 ++ lowd q n
theorem dgt_len (q n : Nat) (h : q ≤ 20) : (dgt q n).length = 20 := by simp [dgt, lowd_len]; omega
theorem dgt_succ (q n : Nat) (h : q < 20) : (dgt q n).set (19 - q) (UInt8.ofNat (48 + n / 10 ^ q % 10)) = dgt (q + 1) n := by
  unfold dgt
  rw [List.set_append_left _ _ (by simp; omega)]
  rw [show 20 - q = (19 - q) + 1 by omega, show 20 - (q + 1) = 19 - q by omega, List.replicate_succ', List.set_append_right _ _ (by simp)]
  simp [lowd]

theorem arr20 : Tryd.prog.arrayLen 63 = 20 := by kernel_rfl
theorem slice20 (W : World) (g r : Nat) (hr : r < 20) : (Instr.sliceAt 63 (.pointer (some ⟨g, 0, none⟩)) (some (.int .i64 r)) none none).run Tryd.prog W = .ok (.slice (some ⟨g, r, none⟩) (20 - r) (20 - r)) W := by
  have hu : Tryd.prog.underlying 63 = some (.array (Tryd.prog.arrayLen 63) (Tryd.prog.elem 63)) := by kernel_rfl
  have hs : ∀ W, (sizeOf (Tryd.prog.elem 63)).run Tryd.prog W = .ok 1 W := fun W => by kernel_rfl
  rw [run_sliceAt_array_l W 63 ⟨g, 0, none⟩ hu .i64 r (by omega) (by rw [arr20]; omega), hs, arr20]
  have hne : ¬ (20 = r) := by omega
  simp [Result.andThen, slicedAt, Addr.add, hne]
  omega
theorem ten_small (q N : Nat) (hN : N ≤ 9223372036854775808) (h : q = 0 ∨ N / 10 ^ q ≠ 0) : q < 19 := by
  rcases h with h | h
  · omega
  · rcases Nat.lt_or_ge q 19 with g | g
    · exact g
    · exfalso
      have h1 : 10 ^ 19 ≤ 10 ^ q := Nat.pow_le_pow_right (by omega) g
      exact h (Nat.div_eq_of_lt (by omega))
theorem div_succ (q N : Nat) : N / 10 ^ q / 10 = N / 10 ^ (q + 1) := by rw [Nat.div_div_eq_div_mul, Nat.pow_succ]
theorem digit_byte (z : Nat) : ((UInt8.ofNat (48 + z % 10)).toNat : Int) = 48 + (z : Int) % 10 := by rw [UInt8.toNat_ofNat']; omega
theorem drop_dgt (q n : Nat) (h : q ≤ 20) : (dgt q n).drop (20 - q) = lowd q n := by unfold dgt; rw [List.drop_append_of_le_length (by simp)]; simp
theorem drop_low (q : Nat) (h : q < 20) (n : Nat) : (dgt (q + 1) n).drop (19 - q) = lowd (q + 1) n := by rw [show 19 - q = 20 - (q + 1) by omega]; exact drop_dgt _ _ (by omega)
theorem dgt_zero (w : World) (T : TypeId) (n : Nat) : Bytes (w.alloc (.cells (List.replicate 20 (Value.int .u8 0)).toArray T)) w.heap.size 20 (dgt 0 n) ∧ ∀ j, j < 20 → (w.alloc (.cells (List.replicate 20 (Value.int .u8 0)).toArray T)).frozen? ⟨w.heap.size, j, none⟩ = false := by
  refine ⟨fun j hj => ?_, fun j _ => by simp [go_sem]⟩
  have : (dgt 0 n).getD j 0 = 0 := by
    unfold dgt
    rw [List.getD_eq_getElem?_getD, lowd, List.append_nil, List.getElem?_replicate]; split <;> rfl
  rw [this, World.cell?_alloc_new, List.getElem?_toArray, List.getElem?_replicate, if_pos hj]; rfl

theorem neg_tmod (z : Nat) : (-(z : Int)).tmod 10 = -((z : Int) % 10) := by rw [Int.neg_tmod, Int.tmod_eq_emod_of_nonneg (by omega)]
theorem neg_tdiv (z : Nat) : (-(z : Int)).tdiv 10 = -((z : Int) / 10) := by rw [Int.neg_tdiv, Int.tdiv_eq_ediv_of_nonneg (by omega)]
theorem drop_sign (q n r : Nat) (h : r + q = 19) (hq : q ≤ 19) : ((dgt q n).set r 45).drop r = 45 :: lowd q n := by
  have hl := dgt_len q n (by omega)
  rw [List.drop_eq_getElem_cons (by rw [List.length_set]; omega)]
  rw [List.getElem_set_self, List.drop_set_of_lt (by omega), show r + 1 = 20 - q by omega, drop_dgt q n (by omega)]

set_option maxHeartbeats 3200000 in
theorem text_pos (N : Nat) (w : World) (hN : N ≤ 9223372036854775807) : Calls Tryd.prog 19 #[.int .i64 N] w fun e w' => e = .returned (.string ⟨(digs N).toArray⟩) ∧ Below w.heap.size w w' := by
  go_enter Tryd.func19, Tryd.ntmps19
  go_wp2
  obtain ⟨W0, hW0, hB0⟩ : ∃ W0, W0 = w.alloc (.cells (List.replicate 20 (Value.int .u8 0)).toArray 63) ∧ Below w.heap.size w W0 := ⟨_, rfl, (Below.refl _ _).alloc (Nat.le_refl _) _⟩
  have hZ := dgt_zero w 63 N
  rw [← hW0] at hZ
  change Code.wp Tryd.prog _ _ _ (w.alloc (.cells (List.replicate 20 (Value.int .u8 0)).toArray 63))
  rw [← hW0]
  clear hW0
  obtain ⟨hZ1, hZ2⟩ := hZ
  have HZ1 := Lib.hid hZ1
  have HZ2 := Lib.hid hZ2
  clear hZ1 hZ2
  go_loopw [4, 5] (fun a m wr => ∃ q r : Nat, r + q = 19 ∧ 1 ≤ r ∧ a = .int .i64 ((r : Int) + 1) ∧ m = .int .i64 (N / 10 ^ q : Nat) ∧ Hid (q = 0 ∨ N / 10 ^ q ≠ 0) ∧ Hid (Bytes wr w.heap.size 20 (dgt q N)) ∧ Hid (∀ j, j < 20 → wr.frozen? ⟨w.heap.size, j, none⟩ = false) ∧ Hid (Below w.heap.size w wr)) (fun _ m _ => (intOf m).toNat)
  case atStart => exact ⟨0, 19, by omega, by omega, rfl, by simp, .inl rfl, HZ1, HZ2, hB0⟩
  case round =>
    obtain ⟨q, r, hqr, hr1, rfl, rfl, Hq, H1, H2, H3⟩ := hrel
    have hd : N / 10 ^ q ≤ N := Nat.div_le_self _ _
    have HS := Lib.hid (div_succ q N)
    have HG := Lib.hid (dgt_succ q N (by omega))
    have HBY := Lib.hid (digit_byte (N / 10 ^ q))
    have hcell := H1.out r (by omega)
    have hfr := H2.out r (by omega)
    have hr2 : r < 20 := by omega
    have HQR := Lib.hid hqr
    have HN1 : Hid (Bytes (wr.setCell ⟨w.heap.size, r, none⟩ (.int .u8 (48 + ((N / 10 ^ q : Nat) : Int) % 10))) w.heap.size 20 (dgt (q + 1) N)) := by
      have h := H1.out.set r (UInt8.ofNat (48 + N / 10 ^ q % 10)) (by rw [dgt_len _ _ (by omega)]; omega)
      rw [HBY.out] at h
      rw [show r = 19 - q by omega, HG.out] at h
      rw [show r = 19 - q by omega]
      exact h
    have HN2 : Hid (∀ j, j < 20 → (wr.setCell ⟨w.heap.size, r, none⟩ (.int .u8 (48 + ((N / 10 ^ q : Nat) : Int) % 10))).frozen? ⟨w.heap.size, j, none⟩ = false) := fun j hj => by simpa [go_sem] using H2.out j hj
    have HN3 : Hid (Below w.heap.size w (wr.setCell ⟨w.heap.size, r, none⟩ (.int .u8 (48 + ((N / 10 ^ q : Nat) : Int) % 10)))) := H3.out.setCell (p := ⟨w.heap.size, r, none⟩) (Nat.le_refl _) _
    have hcv := bytes_conv_from _ w.heap.size 20 (20 - r) r (20 - r) _ (dgt_len (q + 1) N (by omega)) (by omega) HN1.out
    rw [show (dgt (q + 1) N).drop r = lowd (q + 1) N by rw [show r = 19 - q by omega]; exact drop_low q (by omega) N] at hcv
    have HDL := Lib.hid (fun h => digs_low q N h Hq.out (by omega))
    generalize hz : N / 10 ^ q = z at *
    have HZ := Lib.hid hz
    clear hz hqr
    have hsl := fun W => slice20 W w.heap.size r hr2
    by_cases hend : z / 10 = 0
    · have hend' : ((z : Int) / 10 == 0) = true := by rw [beq_iff_eq]; omega
      have HE := Lib.hid hend
      clear hend
      go_wp2
      go_ret
      exact ⟨by rw [HDL.out (by rw [← HS.out]; exact HE.out)]; rfl, HN3.out⟩
    · have hend' : ((z : Int) / 10 == 0) = false := by rw [beq_eq_false_iff_ne]; omega
      clear hcv
      go_wp2
      refine ⟨⟨q + 1, r - 1, ?_, ?_, ?_, ?_, .inr ?_, HN1.out, HN2.out, HN3.out⟩, by simp [intOf]; omega⟩
      · have := HQR.out; omega
      · have h1 := ten_small (q + 1) N (by omega) (.inr (by rw [← HS.out]; exact hend))
        have := HQR.out; omega
      · exact congrArg _ (by omega)
      · rw [← HS.out]; go_num
      · rw [← HS.out]; exact hend
set_option maxHeartbeats 3200000 in
theorem text_neg (N : Nat) (w : World) (hN : N ≤ 9223372036854775808) (hN0 : 0 < N) : Calls Tryd.prog 19 #[.int .i64 (-(N : Int))] w fun e w' => e = .returned (.string ⟨(45 :: digs N).toArray⟩) ∧ Below w.heap.size w w' := by
  go_enter Tryd.func19, Tryd.ntmps19
  go_wp2
  obtain ⟨W0, hW0, hB0⟩ : ∃ W0, W0 = w.alloc (.cells (List.replicate 20 (Value.int .u8 0)).toArray 63) ∧ Below w.heap.size w W0 := ⟨_, rfl, (Below.refl _ _).alloc (Nat.le_refl _) _⟩
  have hZ := dgt_zero w 63 N
  rw [← hW0] at hZ
  change Code.wp Tryd.prog _ _ _ (w.alloc (.cells (List.replicate 20 (Value.int .u8 0)).toArray 63))
  rw [← hW0]
  clear hW0
  obtain ⟨hZ1, hZ2⟩ := hZ
  have HZ1 := Lib.hid hZ1
  have HZ2 := Lib.hid hZ2
  clear hZ1 hZ2
  go_loopw [4, 5] (fun a m wr => ∃ q r : Nat, r + q = 19 ∧ 1 ≤ r ∧ a = .int .i64 ((r : Int) + 1) ∧ m = .int .i64 (-((N / 10 ^ q : Nat) : Int)) ∧ Hid (q = 0 ∨ N / 10 ^ q ≠ 0) ∧ Hid (Bytes wr w.heap.size 20 (dgt q N)) ∧ Hid (∀ j, j < 20 → wr.frozen? ⟨w.heap.size, j, none⟩ = false) ∧ Hid (Below w.heap.size w wr)) (fun _ m _ => (-(intOf m)).toNat)
  case atStart => exact ⟨0, 19, by omega, by omega, rfl, by simp, .inl rfl, HZ1, HZ2, hB0⟩
  case round =>
    obtain ⟨q, r, hqr, hr1, rfl, rfl, Hq, H1, H2, H3⟩ := hrel
    have hd : N / 10 ^ q ≤ N := Nat.div_le_self _ _
    have HS := Lib.hid (div_succ q N)
    have HG := Lib.hid (dgt_succ q N (by omega))
    have HBY := Lib.hid (digit_byte (N / 10 ^ q))
    have hcell := H1.out r (by omega)
    have hfr := H2.out r (by omega)
    have hr2 : r < 20 := by omega
    have HQR := Lib.hid hqr
    have HN1 : Hid (Bytes (wr.setCell ⟨w.heap.size, r, none⟩ (.int .u8 (48 + ((N / 10 ^ q : Nat) : Int) % 10))) w.heap.size 20 (dgt (q + 1) N)) := by
      have h := H1.out.set r (UInt8.ofNat (48 + N / 10 ^ q % 10)) (by rw [dgt_len _ _ (by omega)]; omega)
      rw [HBY.out] at h
      rw [show r = 19 - q by omega, HG.out] at h
      rw [show r = 19 - q by omega]
      exact h
    have HN2 : Hid (∀ j, j < 20 → (wr.setCell ⟨w.heap.size, r, none⟩ (.int .u8 (48 + ((N / 10 ^ q : Nat) : Int) % 10))).frozen? ⟨w.heap.size, j, none⟩ = false) := fun j hj => by simpa [go_sem] using H2.out j hj
    have HN3 : Hid (Below w.heap.size w (wr.setCell ⟨w.heap.size, r, none⟩ (.int .u8 (48 + ((N / 10 ^ q : Nat) : Int) % 10)))) := H3.out.setCell (p := ⟨w.heap.size, r, none⟩) (Nat.le_refl _) _
    have hcell1 := HN1.out (r - 1) (by omega)
    have hfr1 := HN2.out (r - 1) (by omega)
    have HM1 : Hid (Bytes ((wr.setCell ⟨w.heap.size, r, none⟩ (.int .u8 (48 + ((N / 10 ^ q : Nat) : Int) % 10))).setCell ⟨w.heap.size, r - 1, none⟩ (.int .u8 45)) w.heap.size 20 ((dgt (q + 1) N).set (r - 1) 45)) := HN1.out.set (r - 1) 45 (by rw [dgt_len _ _ (by omega)]; omega)
    have hcv := bytes_conv_from _ w.heap.size 20 (20 - (r - 1)) (r - 1) (20 - (r - 1)) _ (by rw [List.length_set, dgt_len _ _ (by omega)]) (by omega) HM1.out
    rw [drop_sign (q + 1) N (r - 1) (by omega) (by omega)] at hcv
    have HDL := Lib.hid (fun h => digs_low q N h Hq.out (by omega))
    generalize hz : N / 10 ^ q = z at *
    have HZ := Lib.hid hz
    clear hz hqr
    have hsl : ∀ W, (Instr.sliceAt 63 (.pointer (some ⟨w.heap.size, 0, none⟩)) (some (.int .i64 ((r : Int) - 1))) none none).run Tryd.prog W = .ok (.slice (some ⟨w.heap.size, r - 1, none⟩) (20 - (r - 1)) (20 - (r - 1))) W := fun W => by rw [show (r : Int) - 1 = ((r - 1 : Nat) : Int) by omega]; exact slice20 W w.heap.size (r - 1) (by omega)
    have em : (-(z : Int)).tmod 10 = -((z : Int) % 10) := neg_tmod z
    have ed : (-(z : Int)).tdiv 10 = -((z : Int) / 10) := neg_tdiv z
    have hmax : (if -((z : Int) % 10) < (z : Int) % 10 then (z : Int) % 10 else -((z : Int) % 10)) = (z : Int) % 10 := by split <;> omega
    by_cases hend : z / 10 = 0
    · have hend' : (-((z : Int) / 10) == 0) = true := by rw [beq_iff_eq]; omega
      have HE := Lib.hid hend
      clear hend
      go_wp2
      go_ret
      exact ⟨by rw [HDL.out (by rw [← HS.out]; exact HE.out)]; rfl, HN3.out.setCell (p := ⟨w.heap.size, r - 1, none⟩) (Nat.le_refl _) _⟩
    · have hend' : (-((z : Int) / 10) == 0) = false := by rw [beq_eq_false_iff_ne]; omega
      clear hcv
      go_wp2
      refine ⟨⟨q + 1, r - 1, ?_, ?_, ?_, ?_, .inr ?_, HN1.out, HN2.out, HN3.out⟩, by simp [intOf]; omega⟩
      · have := HQR.out; omega
      · have h1 := ten_small (q + 1) N (by omega) (.inr (by rw [← HS.out]; exact hend))
        have := HQR.out; omega
      · exact congrArg _ (by omega)
      · rw [← HS.out]; go_num
      · rw [← HS.out]; exact hend

theorem text_any (n : Int) (w : World) (h0 : -9223372036854775808 ≤ n) (h1 : n ≤ 9223372036854775807) : Calls Tryd.prog 19 #[.int .i64 n] w fun e w' => e = .returned (.string (textS n)) ∧ Below w.heap.size w w' := by
  by_cases hn : n < 0
  · obtain ⟨N, rfl⟩ : ∃ N : Nat, n = -(N : Int) := ⟨(-n).toNat, by omega⟩
    have h := text_neg N w (by omega) (by omega)
    have e : textS (-(N : Int)) = ⟨(45 :: digs N).toArray⟩ := by unfold textS textZ; rw [if_pos hn]; simp
    rw [e]; exact h
  · obtain ⟨N, rfl⟩ := Int.eq_ofNat_of_zero_le (show 0 ≤ n by omega)
    have h := text_pos N w (by omega)
    have e : textS (N : Int) = ⟨(digs N).toArray⟩ := by unfold textS textZ; rw [if_neg hn]; simp
    rw [e]; exact h

/-! ### the reference -/
theorem conv_one (W : World) (a0 : Int) : (convert 51 9 (.slice (some ⟨W.heap.size, 0, none⟩) 1 1)).run Tryd.prog (W.alloc (.cells #[.int .u8 a0] 5)) = .ok (.string (strOfNums [a0])) (W.alloc (.cells #[.int .u8 a0] 5)) := by
  refine run_convert_bytes_arg _ 51 5 Tryd.underlying51 Tryd.underlying5 W.heap.size 0 1 1 [a0] rfl (fun i hi => ?_) 9 Tryd.underlying9
  obtain rfl : i = 0 := by omega
  simp [go_sem]
theorem one_digit (N : Nat) (h : N < 10) : Ending.returned (.string (strOfNums [48 + (N : Int) % 10])) = Ending.returned (.string ⟨[UInt8.ofNat (48 + N)].toArray⟩) := by
  have : (48 + (N : Int) % 10).toNat = 48 + N := by omega
  simp [strOfNums, this]
theorem more_digit (l : List UInt8) (N : Nat) : Ending.returned (.string (ByteArray.mk l.toArray ++ strOfNums [48 + (N : Int) % 10])) = Ending.returned (.string ⟨(l ++ [UInt8.ofNat (48 + N % 10)]).toArray⟩) := by
  have : (48 + (N : Int) % 10).toNat = 48 + N % 10 := by omega
  have e : ByteArray.mk l.toArray ++ strOfNums [48 + (N : Int) % 10] = ⟨(l ++ [UInt8.ofNat (48 + N % 10)]).toArray⟩ := by
    apply ByteArray.ext
    simp [strOfNums, this]
  rw [e]
set_option maxHeartbeats 1600000 in
theorem rtext_pos (k : Nat) : ∀ (N : Nat) (w : World), N < 10 ^ k → k ≤ 19 → N ≤ 9223372036854775807 → 1 ≤ k → Calls Tryd.prog 22 #[.int .i64 N] w fun e w' => e = .returned (.string ⟨(digF k N).toArray⟩) ∧ Below w.heap.size w w' := by
  induction k with
  | zero => intro N w _ _ _ h; omega
  | succ k ih =>
    intro N w hN hk hm _
    have hcv := conv_one
    have hss := strOfNums_size
    by_cases h10 : N < 10
    · have HD : Hid (digF (k + 1) N = [UInt8.ofNat (48 + N)]) := by show _ = _; rw [digF, if_pos h10]
      clear ih hN
      go_enter Tryd.func22, Tryd.ntmps22
      go_wp2_with fail
      go_ret
      exact ⟨by rw [HD.out]; exact one_digit N h10, (Below.refl _ _).alloc (Nat.le_refl _) _⟩
    · have HD : Hid (digF (k + 1) N = digF k (N / 10) ++ [UInt8.ofNat (48 + N % 10)]) := by show _ = _; rw [digF, if_neg h10]
      have hk1 : 1 ≤ k := by
        rcases Nat.eq_zero_or_pos k with h | h
        · subst h; simp at hN; omega
        · exact h
      have hih := fun w => ih (N / 10) w (by rw [Nat.pow_succ] at hN; omega) (by omega) (by omega) hk1
      rw [show ((N / 10 : Nat) : Int) = (N : Int) / 10 by omega] at hih
      have IH := Lib.hid hih
      clear hih
      have hl := digF_len k (N / 10)
      have hlz : (ByteArray.mk (digF k (N / 10)).toArray).size ≤ 20 := by simp [ByteArray.size]; omega
      clear ih hN hlz
      go_enter Tryd.func22, Tryd.ntmps22
      go_wp2_with fail
      refine (IH.out _).mono ?_
      rintro e w1 ⟨rfl, hb1⟩
      go_wp2_with fail
      go_ret
      exact ⟨by rw [HD.out]; exact more_digit _ N, bt ((Below.refl _ _).alloc (Nat.le_refl _) _) hb1⟩
theorem digs_19 (N : Nat) (h : N ≤ 9223372036854775808) : digF 19 N = digs N := by
  unfold digs
  rcases digF_more 19 N (by omega) with h1 | h1
  · exact h1.symm
  · rw [digF, if_pos h1, digF, if_pos h1]
set_option maxHeartbeats 1600000 in
theorem rtext_any (n : Int) (w : World) (h0 : -9223372036854775808 ≤ n) (h1 : n ≤ 9223372036854775807) : Calls Tryd.prog 22 #[.int .i64 n] w fun e w' => e = .returned (.string (textS n)) ∧ Below w.heap.size w w' := by
  by_cases hn : n < 0
  · by_cases hmin : n = -9223372036854775808
    · subst hmin
      have e : textS (-9223372036854775808) = ⟨#[45, 57, 50, 50, 51, 51, 55, 50, 48, 51, 54, 56, 53, 52, 55, 55, 53, 56, 48, 56]⟩ := by decide +kernel
      rw [e]
      go_enter Tryd.func22, Tryd.ntmps22
      go_wp2_with fail
      go_ret
      exact ⟨rfl, Below.refl _ _⟩
    · obtain ⟨N, rfl⟩ : ∃ N : Nat, n = -(N : Int) := ⟨(-n).toNat, by omega⟩
      have hp := fun w => rtext_pos 19 N w (by omega) (by omega) (by omega) (by omega)
      rw [digs_19 N (by omega)] at hp
      have HP := Lib.hid hp
      clear hp
      have hl := digs_len N
      have hlz : (ByteArray.mk (digs N).toArray).size ≤ 20 := by simp [ByteArray.size]; omega
      have HE : Hid (textS (-(N : Int)) = ⟨#[45]⟩ ++ ⟨(digs N).toArray⟩) := by
        show _ = _
        unfold textS textZ; rw [if_pos hn]; apply ByteArray.ext; simp
      have hmin' : (-(N : Int) == -9223372036854775808) = false := by rw [beq_eq_false_iff_ne]; exact hmin
      go_enter Tryd.func22, Tryd.ntmps22
      go_wp2_with fail
      refine (HP.out _).mono ?_
      rintro e w1 ⟨rfl, hb1⟩
      go_wp2_with fail
      go_ret
      exact ⟨by rw [HE.out]; rfl, hb1⟩
  · obtain ⟨N, rfl⟩ := Int.eq_ofNat_of_zero_le (show 0 ≤ n by omega)
    have h := rtext_pos 19 N w (by omega) (by omega) (by omega) (by omega)
    have e : textS (N : Int) = ⟨(digs N).toArray⟩ := by unfold textS textZ; rw [if_neg hn]; simp
    rw [e, ← digs_19 N (by omega)]; exact h
end Go.Proofs.YtlmmmibnnbceeaaDoor
