/-
  Walk over the statement CyclicPieces.
-/
import Derived.Test.YtohelhodaemjfaaWalksB
namespace Go.Proofs.Ytohelhodaemjfaa
open Go.RowKit

def catN (l : List ByteArray) (k : Nat) : ByteArray := (l.take k).foldl (· ++ ·) ⟨#[]⟩
theorem catN_succ (l : List ByteArray) (k : Nat) (h : k < l.length) : catN l (k + 1) = catN l k ++ l[k] := by
  unfold catN
  rw [List.take_succ_eq_append_getElem h, List.foldl_append]; rfl
theorem str_at {w : World} {ad : Addr} {len : Nat} {l : List ByteArray} (h : IsList w (some ad) len 1 strE strOk l) (k : Nat) (hk : k < l.length) : w.cell? (ad.add k) = some (.string l[k]) := by
  obtain ⟨ad', e, hc⟩ := h.at_ (by have := h.size_eq; omega)
  injection e with e; subst e
  have := (hc k hk).2 0 (by omega)
  simpa [strE] using this
theorem crc_more (p q : ByteArray) : crcFrom (crcOf p.data.toList ^^^ 4294967295) q.data.toList ^^^ 4294967295 = crcOf (p.data.toList ++ q.data.toList) := by
  unfold crcOf
  rw [Nat.xor_assoc, Nat.xor_self, Nat.xor_zero, crcFrom_append]

theorem add_more (b : Nat) (p s : ByteArray) (w : World) (hs : s.size ≤ maxLen) (hc : w.cell? ⟨b, 0, none⟩ = some (.int .u32 (crcOf p.data.toList))) (hf : w.frozen? ⟨b, 0, none⟩ = false) :
    Calls Try.prog 9 #[.pointer (some ⟨b, 0, none⟩), .string s] w fun e w' => e = .returned (.tuple #[]) ∧ w.setCell ⟨b, 0, none⟩ (.int .u32 (crcOf (p.data.toList ++ s.data.toList))) = w' := by
  have h := add_any b (crcOf p.data.toList) s w hs (all_lt _ (crcFrom_lt p.data.toList (n := 4294967295) (by omega))) hc hf
  rwa [crc_more] at h
theorem of_app (p q : ByteArray) (w : World) (hs : (p ++ q).size ≤ maxLen) :
    Calls Try.prog 11 #[.string (p ++ q)] w fun e w' => e = .returned (.int .i64 (crcOf (p.data.toList ++ q.data.toList) : Nat)) ∧ Below w.heap.size w w' := by
  have h := of_any (p ++ q) w hs
  simpa using h
theorem cell_set (w : World) (a : Addr) (v x : Value) (h : w.cell? a = some v) : (w.setCell a x).cell? a = some x := by simp [go_sem, h]
theorem catN_zero (l : List ByteArray) : catN l 0 = ⟨#[]⟩ := rfl
theorem catN_bound (l : List ByteArray) (k : Nat) (h : k < l.length) (h4 : (l[k].size : Int) ≤ 3000 - (catN l k).size) : (catN l (k + 1)).size ≤ 3000 := by
  rw [catN_succ l k h, ByteArray.size_append]; omega

theorem after_set {w w3 : World} {g : Nat} {x v : Value} (hc : w.cell? ⟨g, 0, none⟩ = some v) (hf : w.frozen? ⟨g, 0, none⟩ = false) (hb : Below (w.setCell ⟨g, 0, none⟩ x).heap.size (w.setCell ⟨g, 0, none⟩ x) w3) :
    w3.cell? ⟨g, 0, none⟩ = some x ∧ w3.frozen? ⟨g, 0, none⟩ = false ∧ ∀ (B : Nat) (w0 : World), Below B w0 w → B ≤ g → B ≤ w.heap.size → Below B w0 w3 := by
  have hlt : g < w.heap.size := World.block_lt_of_cell? w ⟨g, 0, none⟩ hc
  have hs : (w.setCell ⟨g, 0, none⟩ x).heap.size = w.heap.size := by simp [World.setCell]
  refine ⟨?_, ?_, ?_⟩
  · rw [hb.cell (p := ⟨g, 0, none⟩) (by rw [hs]; exact hlt)]; exact cell_set _ _ _ _ hc
  · rw [hb.frozen (p := ⟨g, 0, none⟩) (by rw [hs]; exact hlt)]; simpa [go_sem] using hf
  · intro B w0 h1 h2 h3
    exact (h1.setCell (p := ⟨g, 0, none⟩) h2 x).trans (hb.mono (by rw [hs]; exact h3))

set_option maxHeartbeats 1600000 in
theorem walk_CyclicPieces (a : Option Addr) (len cap : Nat) (l : List ByteArray) {w : World} (hl : IsList w a len 1 strE strOk l) :
    Calls Try.prog 3 #[.slice a len cap] w fun e w' => e = .returned (.bool true) ∧ Below w.heap.size w w' := by
  have hsz := hl.size_eq
  have hmost := hl.most
  go_enter Try.func3, Try.ntmps3
  go_wp2_with (first | (go_at_call 7; refine (works_any _).mono ?_; rintro e w1 ⟨rfl, hb1⟩) | (go_at_call 8; refine (new_any _).mono ?_; rintro e w' ⟨rfl, rfl⟩))
  have HB := hb1.size
  go_loopw [5, 6] (fun s i wr => ∃ k : Nat, k ≤ len ∧ i = .int .i64 k ∧ s = .string (catN l k) ∧ (catN l k).size ≤ 3000 ∧ Hid (wr.cell? ⟨w1.heap.size, 0, none⟩ = some (.int .u32 (crcOf (catN l k).data.toList))) ∧ Hid (wr.frozen? ⟨w1.heap.size, 0, none⟩ = false) ∧ Hid (Below w1.heap.size w1 wr)) (fun _ i _ => len - (intOf i).toNat)
  case atStart =>
    refine ⟨0, by omega, rfl, rfl, by rw [catN_zero]; decide, ?_, ?_, (Below.refl _ _).alloc (Nat.le_refl _) _⟩
    · show _ = _
      rw [catN_zero]; simp [go_sem]; decide +kernel
    · show _ = _
      simp [go_sem]
  case round =>
    obtain ⟨k, hk, rfl, rfl, hc3, H1, H2, H3⟩ := hrel
    have hm3 : (catN l k).size ≤ maxLen := by unfold maxLen; omega
    have HM3 := Lib.hid hm3
    clear hm3
    have hcr := all_lt _ (crcFrom_lt (catN l k).data.toList (n := 4294967295) (by omega))
    have HCR : Hid (crcOf (catN l k).data.toList < 4294967296) := hcr
    clear hcr
    by_cases hlt : k < len
    · obtain ⟨ad, rfl, -⟩ := hl.at_ (by omega)
      have hw := str_at hl k (by omega)
      have hcell : wr.cell? (ad.add k) = some (.string l[k]) := (H3.out.cell (Nat.lt_of_lt_of_le (World.block_lt_of_cell? _ _ hw) HB)).trans ((hb1.cell (World.block_lt_of_cell? _ _ hw)).trans hw)
      have hne : w1.heap.size ≠ (ad.add k).block := fun e => by have := World.block_lt_of_cell? _ _ hw; omega
      have hcell2 : ∀ x, (wr.setCell ⟨w1.heap.size, 0, none⟩ x).cell? (ad.add k) = some (.string l[k]) := fun x => (World.cell?_of_block (w := wr) (Below.heap_setCell wr ⟨w1.heap.size, 0, none⟩ x _ (Ne.symm hne))).trans hcell
      clear hw hne
      have hlm : l[k].size ≤ maxLen := ((hl.at_ (by omega)).choose_spec.2 k (by omega)).1
      have HLM := Lib.hid hlm
      clear hlm
      have HS := Lib.hid (catN_succ l k (by omega))
      have HBD := Lib.hid (catN_bound l k (by omega))
      by_cases h100 : (k : Int) < 100
      · by_cases hbig : 3000 - ((catN l k).size : Int) < (l[k].size : Int)
        · go_wp2
          go_ret
          exact ⟨rfl, hb1.trans (H3.out.mono hb1.size)⟩
        · have hc3' := HBD.out (by omega)
          rw [HS.out] at hc3'
          have hm3' : (catN l k ++ l[k]).size ≤ maxLen := by unfold maxLen; omega
          have HM3' := Lib.hid hm3'
          clear hm3'
          have hcr' := all_lt _ (crcFrom_lt ((catN l k).data.toList ++ l[k].data.toList) (n := 4294967295) (by omega))
          have HCR' : Hid (crcOf ((catN l k).data.toList ++ l[k].data.toList) < 4294967296) := hcr'
          clear hcr'
          have HC' := Lib.hid (cell_set wr ⟨w1.heap.size, 0, none⟩ _ (.int .u32 (crcOf ((catN l k).data.toList ++ l[k].data.toList))) H1.out)
          have hsz2 : (catN l k).size + l[k].size ≤ 3000 := by rw [← ByteArray.size_append]; exact hc3'
          go_wp2_with (first | (go_at_call 9; first | ((with_reducible refine (add_more _ _ _ _ HLM.out H1.out H2.out).mono ?_); rintro e w2 ⟨rfl, rfl⟩) | ((with_reducible refine (add_nil _ _).mono ?_); rintro e w2 ⟨rfl, rfl⟩)) | (go_at_call 10; (with_reducible refine (sum_any _ _ _ HCR'.out HC'.out).mono ?_); rintro e w2 ⟨rfl, rfl⟩) | (go_at_call 11; (with_reducible refine (of_app _ _ _ HM3'.out).mono ?_); rintro e w3 ⟨rfl, hb3⟩))
          obtain ⟨q1, q2, q3⟩ := after_set H1.out H2.out hb3
          refine ⟨⟨k + 1, by omega, by go_num, by rw [HS.out], by rw [HS.out]; exact hc3', ?_, q2, q3 _ _ H3.out (Nat.le_refl _) H3.out.size⟩, by simp [intOf]; omega⟩
          show _ = _
          rw [q1, HS.out]; simp
      · go_wp2
        go_ret
        exact ⟨rfl, hb1.trans (H3.out.mono hb1.size)⟩
    · have hc1 := H1.out
      go_wp2_with (first | (go_at_call 10; first | ((with_reducible refine (sum_any _ _ _ HCR.out hc1).mono ?_); rintro e w2 ⟨rfl, rfl⟩) | ((with_reducible refine (sum_nil _).mono ?_); rintro e w2 ⟨rfl, rfl⟩)) | (go_at_call 11; (with_reducible refine (of_any _ _ HM3.out).mono ?_); rintro e w3 ⟨rfl, hb3⟩))
      go_ret
      exact ⟨rfl, bt hb1 (H3.out.trans (hb3.mono H3.out.size))⟩
end Go.Proofs.Ytohelhodaemjfaa
