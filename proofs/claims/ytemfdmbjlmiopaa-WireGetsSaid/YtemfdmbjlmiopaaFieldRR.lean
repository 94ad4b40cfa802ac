/-
  Walks over the readers of fields (chapter 2): the reference's.
-/
import Derived.Test.YtemfdmbjlmiopaaFieldRd
import Derived.Deep.QuietTactic
import Derived.BigQuiet
import Derived.RegionTactic
import Derived.BigRegion
namespace Go.Proofs.Ytemfdmbjlmiopaa
open Go.RowKit
set_option linter.unusedVariables false

/-- a reader of the reference at block g: all bytes, where it stands, what it failed with -/
structure IsRR (w : World) (g : Nat) (s : ByteArray) (at_ : Nat) (err : Int) : Prop where
  c0 : w.cell? ⟨g, 0, none⟩ = some (.string s)
  c1 : w.cell? ⟨g, 1, none⟩ = some (.int .i64 at_)
  c2 : w.cell? ⟨g, 2, none⟩ = some (.int .i64 err)
  f1 : w.frozen? ⟨g, 1, none⟩ = false
  f2 : w.frozen? ⟨g, 2, none⟩ = false
theorem IsRR.frm {S : Nat → Prop} {w w' : World} {g : Nat} {s : ByteArray} {at_ : Nat} {err : Int} (h : IsRR w g s at_ err) (hf : Frm S w w') (hg : ¬ S g) : IsRR w' g s at_ err :=
  have hlt := World.block_lt_of_cell? w _ h.c0
  ⟨hf.cell hg h.c0, hf.cell hg h.c1, hf.cell hg h.c2, (hf.frozen (p := ⟨g, 1, none⟩) hg hlt).trans h.f1, (hf.frozen (p := ⟨g, 2, none⟩) hg hlt).trans h.f2⟩
theorem IsRR.drew {w : World} {g : Nat} {s : ByteArray} {at_ : Nat} {err : Int} (h : IsRR w g s at_ err) : IsRR w.drew g s at_ err := ⟨h.c0, h.c1, h.c2, h.f1, h.f2⟩
theorem IsRR.drewN {w : World} {g : Nat} {s : ByteArray} {at_ : Nat} {err : Int} (h : IsRR w g s at_ err) (n : Nat) : IsRR (w.drewN n) g s at_ err := ⟨h.c0, h.c1, h.c2, h.f1, h.f2⟩
theorem IsRR.set1 {w : World} {g : Nat} {s : ByteArray} {at_ : Nat} {err : Int} (h : IsRR w g s at_ err) (x : Nat) : IsRR (w.setCell ⟨g, 1, none⟩ (.int .i64 x)) g s x err :=
  ⟨by simp [go_sem, h.c0], by simp [go_sem, h.c1], by simp [go_sem, h.c2], by simpa [go_sem] using h.f1, by simpa [go_sem] using h.f2⟩
theorem IsRR.set2 {w : World} {g : Nat} {s : ByteArray} {at_ : Nat} {err : Int} (h : IsRR w g s at_ err) (x : Int) : IsRR (w.setCell ⟨g, 2, none⟩ (.int .i64 x)) g s at_ x :=
  ⟨by simp [go_sem, h.c0], by simp [go_sem, h.c1], by simp [go_sem, h.c2], by simpa [go_sem] using h.f1, by simpa [go_sem] using h.f2⟩
theorem IsRR.new (w : World) (s : ByteArray) (at_ : Nat) (err : Int) (T : TypeId) : IsRR (w.alloc (.cells #[.string s, .int .i64 at_, .int .i64 err] T)) w.heap.size s at_ err :=
  ⟨by simp [go_sem], by simp [go_sem], by simp [go_sem], by simp [go_sem], by simp [go_sem]⟩

/-- what is left of the reference's bytes -/
def left (s : ByteArray) (at_ : Nat) : ByteArray := s.extract at_ s.size
/-- where it stands behind a read -/
def rrAt (s : ByteArray) (at_ : Nat) (err n : Int) : Nat := if rdErr (left s at_) err n = 0 then at_ + n.toNat else at_
theorem left_size (s : ByteArray) (at_ : Nat) (h : at_ ≤ s.size) : (left s at_).size = s.size - at_ := by simp [left]
theorem left_rest (s : ByteArray) (at_ : Nat) (err n : Int) (h : at_ ≤ s.size) : rdRest (left s at_) err n = left s (rrAt s at_ err n) ∧ rrAt s at_ err n ≤ s.size := by
  unfold rdRest rrAt
  by_cases he : rdErr (left s at_) err n = 0
  · rw [if_pos he, if_pos he]
    have hn : n.toNat ≤ s.size - at_ := by
      unfold rdErr at he
      rw [left_size s at_ h] at he
      split at he
      · split at he
        · omega
        · split at he <;> omega
      · omega
    refine ⟨?_, by omega⟩
    unfold left
    rw [ByteArray.extract_extract]
    congr 1
    simp
    omega
  · rw [if_neg he, if_neg he]
    exact ⟨rfl, h⟩

set_option maxHeartbeats 800000 in
theorem rbytes_any (g : Nat) (n : Int) (s : ByteArray) (at_ : Nat) (err : Int) (w : World) (hr : s.size ≤ 1000000) (hat : at_ ≤ s.size) (h : IsRR w g s at_ err) :
    Calls Try.prog 60 #[.pointer (some ⟨g, 0, none⟩), .int .i64 n] w fun e w' => e = .returned (.string (rdOut (left s at_) err n)) ∧ IsRR w' g s (rrAt s at_ err n) (rdErr (left s at_) err n) ∧ Frm (· = g) w w' := by
  have h0 := h.c0
  have h1 := h.c1
  have h2 := h.c2
  have f1 := h.f1
  have f2 := h.f2
  have hls := left_size s at_ hat
  have HH := Lib.hid h
  clear h
  by_cases he : err = 0
  · subst he
    by_cases hn : n < 0
    · have e1 : rdErr (left s at_) 0 n = 3 := by unfold rdErr; simp [hn]
      have e2 : rdOut (left s at_) 0 n = ⟨#[]⟩ := by unfold rdOut; rw [e1]; rfl
      have e3 : rrAt s at_ 0 n = at_ := by unfold rrAt; rw [e1]; rfl
      rw [e1, e2, e3]
      clear e1 e2 e3 hls
      go_enter Try.func60, Try.ntmps60
      go_wp2
      go_ret
      exact ⟨rfl, HH.out.set2 3, Frm.one _ _ _ _⟩
    · by_cases hl : ((s.size - at_ : Nat) : Int) < n
      · have e1 : rdErr (left s at_) 0 n = 1 := by unfold rdErr; rw [hls]; simp [hn, hl]
        have e2 : rdOut (left s at_) 0 n = ⟨#[]⟩ := by unfold rdOut; rw [e1]; rfl
        have e3 : rrAt s at_ 0 n = at_ := by unfold rrAt; rw [e1]; rfl
        rw [e1, e2, e3]
        clear e1 e2 e3 hls
        have hl' : (s.size : Int) - (at_ : Int) < n := by omega
        clear hl
        go_enter Try.func60, Try.ntmps60
        go_wp2
        go_quiet (fail)
        go_wp2
        go_ret
        exact ⟨rfl, (HH.out.drewN _).set2 1, ((Frm.refl _ _).drewN _).trans (Frm.one _ _ _ _)⟩
      · obtain ⟨m, rfl⟩ := Int.eq_ofNat_of_zero_le (show 0 ≤ n by omega)
        have e1 : rdErr (left s at_) 0 m = 0 := by unfold rdErr; rw [hls]; simp [hl]
        have e2 : rdOut (left s at_) 0 m = s.extract at_ (at_ + m) := by
          unfold rdOut left; rw [show rdErr (s.extract at_ s.size) 0 m = 0 from e1, if_pos rfl, ByteArray.extract_extract]; congr 1; simp; omega
        have e3 : rrAt s at_ 0 m = at_ + m := by unfold rrAt; rw [e1]; rfl
        rw [e1, e2, e3]
        clear e1 e2 e3 hls
        have hl' : ¬ (s.size : Int) - (at_ : Int) < (m : Int) := by omega
        clear hl
        go_enter Try.func60, Try.ntmps60
        go_wp2
        go_quiet (fail)
        go_wp2
        generalize hW : (w.drewN nq).setCell ⟨g, 1, none⟩ (.int .i64 ((at_ : Int) + (m : Int))) = W
        have HI : IsRR W g s (at_ + m) 0 := by rw [← hW]; exact (HH.out.drewN nq).set1 (at_ + m)
        have HF : Frm (· = g) w W := by rw [← hW]; exact ((Frm.refl _ _).drewN _).trans (Frm.one _ _ _ _)
        clear hW h0 h1 h2 f1 f2
        have h0 := HI.c0
        have h1 := HI.c1
        have j1 : ((at_ + m : Nat) : Int) - (m : Int) = at_ := by omega
        have j2 : (0 : Int) ≤ at_ := by omega
        have j3 : (at_ : Int) ≤ ((at_ + m : Nat) : Int) := by omega
        have j4 : ((at_ + m : Nat) : Int) ≤ s.size := by omega
        go_quiet (fail)
        go_wp2
        go_ret
        exact ⟨rfl, HI.drewN nq, HF.drewN nq⟩
  · have hb : (err == 0) = false := by simpa using he
    have hb2 : (err != 0) = true := by simpa using he
    have e1 : rdErr (left s at_) err n = err := by unfold rdErr; simp [he]
    have e2 : rdOut (left s at_) err n = ⟨#[]⟩ := by unfold rdOut; rw [e1, if_neg he]
    have e3 : rrAt s at_ err n = at_ := by unfold rrAt; rw [e1, if_neg he]
    rw [e1, e2, e3]
    clear e1 e2 e3 hls
    go_enter Try.func60, Try.ntmps60
    go_wp2
    go_ret
    exact ⟨rfl, HH.out, Frm.refl _ _⟩

def nrAt (s : ByteArray) (at_ : Nat) (err n : Int) : Nat := if widthB n = true then rrAt s at_ err n else at_
theorem nrest (s : ByteArray) (at_ : Nat) (err n : Int) (h : at_ ≤ s.size) : nmRest (left s at_) err n = left s (nrAt s at_ err n) ∧ nrAt s at_ err n ≤ s.size := by
  unfold nmRest nrAt
  split
  · exact left_rest s at_ err n h
  · exact ⟨rfl, h⟩
theorem rd_failed (rest : ByteArray) (err n : Int) (h : err ≠ 0) : rdErr rest err n = err ∧ rdOut rest err n = ⟨#[]⟩ := by
  have e : rdErr rest err n = err := by unfold rdErr; rw [if_neg h]
  exact ⟨e, by unfold rdOut; rw [e, if_neg h]⟩
theorem rr_failed (s : ByteArray) (at_ : Nat) (err n : Int) (h : err ≠ 0) : rrAt s at_ err n = at_ := by
  unfold rrAt; rw [(rd_failed (left s at_) err n h).1, if_neg h]

/-- the loop over the bytes that were read -/
theorem mul_add (n c : Nat) : (256 : Int) * (n : Int) + (c : Int) = ((n * 256 + c : Nat) : Int) := by omega
set_option maxHeartbeats 1600000 in
theorem rnum_any (g : Nat) (n : Int) (s : ByteArray) (at_ : Nat) (err : Int) (w : World) (hr : s.size ≤ 1000000) (hat : at_ ≤ s.size) (h : IsRR w g s at_ err) :
    Calls Try.prog 38 #[.pointer (some ⟨g, 0, none⟩), .int .i64 n] w fun e w' => e = .returned (.int .i64 (nmOut (left s at_) err n)) ∧ IsRR w' g s (nrAt s at_ err n) (nmErr (left s at_) err n) ∧ Frm (· = g) w w' := by
  have h0 := h.c0
  have h2 := h.c2
  have f2 := h.f2
  have HH := Lib.hid h
  clear h
  by_cases hw : widthB n = true
  · have e1 : nmErr (left s at_) err n = rdErr (left s at_) err n := by unfold nmErr; rw [if_pos hw]
    have e2 : nmOut (left s at_) err n = nat256 (rdOut (left s at_) err n).data.toList := by unfold nmOut; rw [if_pos hw]
    have e3 : nrAt s at_ err n = rrAt s at_ err n := by unfold nrAt; rw [if_pos hw]
    rw [e1, e2, e3]
    clear e1 e2 e3
    have hn := of_decide_eq_true hw
    obtain ⟨hn1, hn7⟩ := hn
    have hs7 := rdOut_size7 (left s at_) err n hn7
    generalize hb : rdOut (left s at_) err n = b at *
    have HB := Lib.hid hb
    clear hb hw
    by_cases he : err = 0
    · have heb : (err == 0) = true := by simpa using he
      have HE := Lib.hid he
      clear he
      go_enter Try.func38, Try.ntmps38
      go_wp2_with (go_at_call 60; (with_reducible refine (rbytes_any _ _ _ _ _ _ hr hat HH.out).mono ?_); rintro e w1 ⟨rfl, hI, hF⟩; rw [HB.out])
      go_loop [6, 7] (fun x i => ∃ k : Nat, k ≤ b.size ∧ i = .int .i64 k ∧ x = .int .i64 (nat256 (b.data.toList.take k) : Nat)) (fun _ i => b.size - (intOf i).toNat)
      case atStart => exact ⟨0, by omega, rfl, rfl⟩
      case round =>
        obtain ⟨k, hk, rfl, rfl⟩ := hrel
        by_cases hlt : k < b.size
        · have HT := Lib.hid (nat256_take b.data.toList k (by simpa using hlt))
          have hsm2 : nat256 (b.data.toList.take k) < 281474976710656 := by
            have h1 := nat256_lt (b.data.toList.take k)
            have h2 : 256 ^ (b.data.toList.take k).length ≤ 256 ^ 6 := Nat.pow_le_pow_right (by omega) (by simp; omega)
            omega
          have hcb : b[k].toNat < 256 := b[k].toNat_lt
          have HM := Lib.hid (mul_add (nat256 (b.data.toList.take k)) b[k].toNat)
          go_wp2
          go_round
          case rel => exact ⟨k + 1, by omega, by go_num, by rw [HT.out, HM.out]; rfl⟩
          case measure => simp [intOf]; omega
        · go_wp2
          go_ret
          obtain rfl : k = b.size := by omega
          refine ⟨?_, hI, hF⟩
          rw [List.take_of_length_le (by simp)]; rfl
    · have heb : (err == 0) = false := by simpa using he
      have HE := Lib.hid he
      clear he
      go_enter Try.func38, Try.ntmps38
      go_wp2_with (go_at_call 60; (with_reducible refine (rbytes_any _ _ _ _ _ _ hr hat HH.out).mono ?_); rintro e w1 ⟨rfl, hI, hF⟩; rw [HB.out])
      go_loop [6, 7] (fun x i => ∃ k : Nat, k ≤ b.size ∧ i = .int .i64 k ∧ x = .int .i64 (nat256 (b.data.toList.take k) : Nat)) (fun _ i => b.size - (intOf i).toNat)
      case atStart => exact ⟨0, by omega, rfl, rfl⟩
      case round =>
        obtain ⟨k, hk, rfl, rfl⟩ := hrel
        by_cases hlt : k < b.size
        · have HT := Lib.hid (nat256_take b.data.toList k (by simpa using hlt))
          have hsm2 : nat256 (b.data.toList.take k) < 281474976710656 := by
            have h1 := nat256_lt (b.data.toList.take k)
            have h2 : 256 ^ (b.data.toList.take k).length ≤ 256 ^ 6 := Nat.pow_le_pow_right (by omega) (by simp; omega)
            omega
          have hcb : b[k].toNat < 256 := b[k].toNat_lt
          have HM := Lib.hid (mul_add (nat256 (b.data.toList.take k)) b[k].toNat)
          go_wp2
          go_round
          case rel => exact ⟨k + 1, by omega, by go_num, by rw [HT.out, HM.out]; rfl⟩
          case measure => simp [intOf]; omega
        · go_wp2
          go_ret
          obtain rfl : k = b.size := by omega
          refine ⟨?_, hI, hF⟩
          rw [List.take_of_length_le (by simp)]; rfl
  · have hnw : ¬ (1 ≤ n ∧ n ≤ 7) := fun h => hw (decide_eq_true h)
    have e2 : nmOut (left s at_) err n = 0 := by unfold nmOut; rw [if_neg hw]
    have e3 : nrAt s at_ err n = at_ := by unfold nrAt; rw [if_neg hw]
    rw [e2, e3]
    clear e2 e3
    by_cases he : err = 0
    · have e1 : nmErr (left s at_) err n = 3 := by unfold nmErr; rw [if_neg hw, if_pos he]
      rw [e1]
      clear e1 hw
      subst he
      have HB := Lib.hid (rd_failed (left s at_) 3 n (by decide))
      have HR := Lib.hid (rr_failed s at_ 3 n (by decide))
      obtain ⟨b, hb⟩ : ∃ b : ByteArray, b = ⟨#[]⟩ := ⟨_, rfl⟩
      have hs7 : b.size ≤ 7 := by rw [hb]; decide
      have hz : nat256 b.data.toList = 0 := by rw [hb]; rfl
      have HZ := Lib.hid hz
      have Hb := Lib.hid hb
      clear hb hz
      have H3 := Lib.hid (HH.out.set2 3)
      by_cases h1 : n < 1
      all_goals
        go_enter Try.func38, Try.ntmps38
        go_wp2_with (go_at_call 60; (with_reducible refine (rbytes_any _ _ _ _ _ _ hr hat H3.out).mono ?_); rintro e w1 ⟨rfl, hI, hF⟩; rw [HB.out.2, ← Hb.out]; rw [HB.out.1, HR.out] at hI)
        go_loop [6, 7] (fun x i => ∃ k : Nat, k ≤ b.size ∧ i = .int .i64 k ∧ x = .int .i64 (nat256 (b.data.toList.take k) : Nat)) (fun _ i => b.size - (intOf i).toNat)
        case atStart => exact ⟨0, by omega, rfl, rfl⟩
        case round =>
          obtain ⟨k, hk, rfl, rfl⟩ := hrel
          by_cases hlt : k < b.size
          · have HT := Lib.hid (nat256_take b.data.toList k (by simpa using hlt))
            have hsm2 : nat256 (b.data.toList.take k) < 281474976710656 := by
              have h1 := nat256_lt (b.data.toList.take k)
              have h2 : 256 ^ (b.data.toList.take k).length ≤ 256 ^ 6 := Nat.pow_le_pow_right (by omega) (by simp; omega)
              omega
            have hcb : b[k].toNat < 256 := b[k].toNat_lt
            have HM := Lib.hid (mul_add (nat256 (b.data.toList.take k)) b[k].toNat)
            go_wp2
            go_round
            case rel => exact ⟨k + 1, by omega, by go_num, by rw [HT.out, HM.out]; rfl⟩
            case measure => simp [intOf]; omega
          · go_wp2
            go_ret
            obtain rfl : k = b.size := by omega
            refine ⟨?_, hI, (Frm.one _ _ _ _).trans hF⟩
            rw [List.take_of_length_le (by simp), HZ.out]; rfl
    · have e1 : nmErr (left s at_) err n = err := by unfold nmErr; rw [if_neg hw, if_neg he]
      rw [e1]
      clear e1 hw
      have HB := Lib.hid (rd_failed (left s at_) err n he)
      have HR := Lib.hid (rr_failed s at_ err n he)
      obtain ⟨b, hb⟩ : ∃ b : ByteArray, b = ⟨#[]⟩ := ⟨_, rfl⟩
      have hs7 : b.size ≤ 7 := by rw [hb]; decide
      have hz : nat256 b.data.toList = 0 := by rw [hb]; rfl
      have HZ := Lib.hid hz
      have Hb := Lib.hid hb
      clear hb hz
      have heb : (err == 0) = false := by simpa using he
      go_enter Try.func38, Try.ntmps38
      go_wp2_with (go_at_call 60; (with_reducible refine (rbytes_any _ _ _ _ _ _ hr hat HH.out).mono ?_); rintro e w1 ⟨rfl, hI, hF⟩; rw [HB.out.2, ← Hb.out]; rw [HB.out.1, HR.out] at hI)
      go_loop [6, 7] (fun x i => ∃ k : Nat, k ≤ b.size ∧ i = .int .i64 k ∧ x = .int .i64 (nat256 (b.data.toList.take k) : Nat)) (fun _ i => b.size - (intOf i).toNat)
      case atStart => exact ⟨0, by omega, rfl, rfl⟩
      case round =>
        obtain ⟨k, hk, rfl, rfl⟩ := hrel
        by_cases hlt : k < b.size
        · have HT := Lib.hid (nat256_take b.data.toList k (by simpa using hlt))
          have hsm2 : nat256 (b.data.toList.take k) < 281474976710656 := by
            have h1 := nat256_lt (b.data.toList.take k)
            have h2 : 256 ^ (b.data.toList.take k).length ≤ 256 ^ 6 := Nat.pow_le_pow_right (by omega) (by simp; omega)
            omega
          have hcb : b[k].toNat < 256 := b[k].toNat_lt
          have HM := Lib.hid (mul_add (nat256 (b.data.toList.take k)) b[k].toNat)
          go_wp2
          go_round
          case rel => exact ⟨k + 1, by omega, by go_num, by rw [HT.out, HM.out]; rfl⟩
          case measure => simp [intOf]; omega
        · go_wp2
          go_ret
          obtain rfl : k = b.size := by omega
          refine ⟨?_, hI, hF⟩
          rw [List.take_of_length_le (by simp), HZ.out]; rfl

set_option maxHeartbeats 800000 in
theorem rend_any (g : Nat) (s : ByteArray) (at_ : Nat) (err : Int) (w : World) (hr : s.size ≤ 1000000) (hat : at_ ≤ s.size) (h : IsRR w g s at_ err) :
    Calls Try.prog 39 #[.pointer (some ⟨g, 0, none⟩)] w fun e w' => e = .returned (.int .i64 (rdEnd (left s at_) err)) ∧ ∃ m, w.drewN m = w' := by
  have h0 := h.c0
  have h1 := h.c1
  have h2 := h.c2
  have hls := left_size s at_ hat
  clear h
  by_cases he : err = 0
  · subst he
    by_cases hz : at_ < s.size
    · have HE : Hid (rdEnd (left s at_) 0 = 2) := by unfold rdEnd; show _ = _; rw [if_pos ⟨rfl, by omega⟩]
      have hz' : (at_ : Int) < (s.size : Int) := by omega
      clear hls hz
      go_enter Try.func39, Try.ntmps39
      go_wp2
      go_quiet (fail)
      go_wp2
      go_ret
      exact ⟨congrArg (fun x => Ending.returned (.int .i64 x)) HE.out.symm, _, rfl⟩
    · have HE : Hid (rdEnd (left s at_) 0 = 0) := by unfold rdEnd; show _ = _; rw [if_neg (by omega)]
      have hz' : decide (at_ < s.size) = false := by simp; omega
      clear hls hz
      go_enter Try.func39, Try.ntmps39
      go_wp2
      go_quiet (fail)
      go_wp2
      go_ret
      exact ⟨congrArg (fun x => Ending.returned (.int .i64 x)) HE.out.symm, _, rfl⟩
  · have HE : Hid (rdEnd (left s at_) err = err) := by unfold rdEnd; show _ = _; rw [if_neg (fun h => he h.1)]
    have heb : (err == 0) = false := by simpa using he
    go_enter Try.func39, Try.ntmps39
    go_wp2
    go_quiet (fail)
    go_wp2
    go_ret
    exact ⟨congrArg (fun x => Ending.returned (.int .i64 x)) HE.out.symm, _, rfl⟩
end Go.Proofs.Ytemfdmbjlmiopaa
