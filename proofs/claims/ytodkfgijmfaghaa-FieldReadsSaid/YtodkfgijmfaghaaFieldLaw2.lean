/-
  Walk over the statement FieldReads (chapter 2).
-/
import Derived.Test.YtodkfgijmfaghaaFieldLaw
import Derived.Deep.RegionHeld3
namespace Go.Proofs.Ytodkfgijmfaghaa
open Go.RowKit
set_option linter.unusedVariables false

/-- a read -/
def opE (x : Bool × Int) : List Value := [.bool x.1, .int .i64 x.2]
def opOk (x : Bool × Int) : Prop := (Lit.int .i64 x.2).wf = true
theorem op_of (vs : List Value) (h : OKs [LK.bool, LK.int .i64] vs) : ∃ x, vs = opE x ∧ opOk x := by
  obtain ⟨_, _, rfl, ⟨x, rfl⟩, h1⟩ := h.cons
  obtain ⟨_, _, rfl, ⟨y, rfl, w⟩, h2⟩ := h1.cons
  obtain rfl := h2.nil
  exact ⟨(x, y), rfl, w⟩

theorem IsRd.drewN {w : World} {g : Nat} {rest : ByteArray} {err : Int} (h : IsRd w g rest err) (n : Nat) : IsRd (w.drewN n) g rest err := ⟨h.c0, h.c1, h.f0, h.f1⟩
theorem left_zero (s : ByteArray) : left s 0 = s := by simp [left]
set_option maxRecDepth 100000 in
set_option maxHeartbeats 6400000 in
theorem walk_FieldReads (s : ByteArray) (hs : s.size ≤ 140737488351232) (a : Option Addr) (len cap : Nat) (l : List (Bool × Int)) {w : World} (hl : IsList w a len 2 opE opOk l) :
    Calls Try.prog 4 #[.string s, .slice a len cap] w fun e w' => e = .returned (.bool true) ∧ Below w.heap.size w w' := by
  have hsz := hl.size_eq
  have hmost := hl.most
  by_cases hbig : 3000 < (s.size : Int)
  · go_enter Try.func4, Try.ntmps4
    go_wp2_with (go_at_call 6; (with_reducible refine (works_any _).mono ?_); rintro e w1 ⟨rfl, hb1⟩)
    go_ret
    exact ⟨rfl, hb1⟩
  have hd1 : decide (3000 < (s.size : Int)) = false := decide_eq_false hbig
  by_cases hbig2 : 200 < (len : Int)
  · go_enter Try.func4, Try.ntmps4
    go_wp2_with (go_at_call 6; (with_reducible refine (works_any _).mono ?_); rintro e w1 ⟨rfl, hb1⟩)
    go_ret
    exact ⟨rfl, hb1⟩
  have hd2 : decide (200 < (len : Int)) = false := decide_eq_false hbig2
  have hs3 : s.size ≤ 1000000 := by omega
  go_enter Try.func4, Try.ntmps4
  go_wp2_with (first | (go_at_call 6; (with_reducible refine (works_any _).mono ?_); rintro e w1 ⟨rfl, hb1⟩) | (go_at_call 11; (with_reducible refine (new_any _ _).mono ?_); rintro e wx ⟨rfl, rfl⟩))
  have hw1 := hb1.size
  go_loopw [8] (fun i wr => ∃ (k at_ : Nat) (err : Int), k ≤ len ∧ i = .int .i64 k ∧ at_ ≤ s.size ∧ Hid (IsRd wr w1.heap.size (left s at_) err) ∧ Hid (IsRR wr (w1.heap.size + 1) s at_ err) ∧ Hid (Below w1.heap.size w1 wr)) (fun i _ => len - (intOf i).toNat)
  case atStart =>
    refine ⟨0, 0, 0, by omega, rfl, by omega, ?_, ?_, ?_⟩
    · rw [left_zero]
      exact (IsRd.new w1 s 0 44).frm ((Frm.refl (fun _ => False) _).alloc _) (fun h => h)
    · have h := IsRR.new (w1.alloc (.cells #[.string s, .int .i64 0] 44)) s 0 0 32
      rw [show (w1.alloc (.cells #[.string s, .int .i64 0] 44)).heap.size = w1.heap.size + 1 by simp] at h
      exact h
    · exact ((Below.refl _ _).alloc (Nat.le_refl _) _).alloc (by simp) _
  case round =>
    obtain ⟨k, at_, err, hk, rfl, hat, HA, HB, HO⟩ := hrel
    by_cases hlt : k < len
    · obtain ⟨b, o, rfl, -⟩ := hl.at_ (by omega)
      generalize hx : l[k] = x
      obtain ⟨isNum, n⟩ := x
      have hB0 : Below w.heap.size w wr := bt hb1 HO.out
      obtain ⟨c0, hbl⟩ := hl.get hB0 (Nat.le_refl _) k (by omega) 0 (by omega) (.bool isNum) (by rw [hx]; rfl)
      obtain ⟨c1, -⟩ := hl.get hB0 (Nat.le_refl _) k (by omega) 1 (by omega) (.int .i64 n) (by rw [hx]; rfl)
      rw [Nat.add_zero] at c0
      have hn1 : ¬ (b = w1.heap.size) := by omega
      have hn2 : ¬ (b = w1.heap.size + 1) := by omega
      clear hx hB0
      have hne : ¬ (w1.heap.size + 1 = w1.heap.size) := by omega
      have hne' : ¬ (w1.heap.size = w1.heap.size + 1) := by omega
      have hlm : (left s at_).size ≤ maxLen := by rw [left_size s at_ hat]; unfold maxLen; omega
      have HL := Lib.hid hlm
      clear hlm
      cases isNum with
      | true =>
        have HN := Lib.hid (nrest s at_ err n hat)
        have hA := HA.out
        have hB := HB.out
        go_wp2
        go_region_held3 (fun w' => w'.cell? ⟨b, o + k * 2 + 1, none⟩ = some (.int .i64 n)) (first | exact c1 | exact c2 | exact c3) (first | (go_at_call 12; first | ((with_reducible refine (num_nil _ _).mono ?_); rintro e wx ⟨rfl, rfl⟩) | ((with_reducible refine (num_any _ _ _ _ _ HL.out hA.drew).mono ?_); rintro e w2 ⟨rfl, I2, F2⟩; have J2 := hB.drew.frm F2 hne; have c2 := F2.cell (p := ⟨b, o + k * 2 + 1, none⟩) hn1 (show wr.drew.cell? _ = _ from c1))) | (go_at_call 13; (with_reducible refine (rnum_any _ _ _ _ _ _ hs3 hat J2).mono ?_); rintro e w3 ⟨rfl, J3, F3⟩; have I3 := I2.frm F3 hne'; have c3 := F3.cell (p := ⟨b, o + k * 2 + 1, none⟩) hn2 c2))
        rw [HN.out.1] at I3
        have hat' := HN.out.2
        go_wp2_with (first | (go_at_call 16; (with_reducible refine (left_any _ _ _ _ I3).mono ?_); rintro e wx ⟨rfl, rfl⟩) | (go_at_call 17; (with_reducible refine (rleft_any _ _ _ _ _ hs3 hat' J3).mono ?_); rintro e wx ⟨rfl, ⟨m1, rfl⟩⟩; have I4 := I3.drewN m1; have J4 := J3.drewN m1) | (go_at_call 18; (with_reducible refine (end_any _ _ _ _ I4).mono ?_); rintro e wx ⟨rfl, rfl⟩) | (go_at_call 19; (with_reducible refine (rend_any _ _ _ _ _ hs3 hat' J4).mono ?_); rintro e wx ⟨rfl, ⟨m2, rfl⟩⟩))
        refine ⟨⟨k + 1, nrAt s at_ err n, nmErr (left s at_) err n, by omega, by go_num, hat', I3.drewN (m1 + m2), J3.drewN (m1 + m2), ?_⟩, by simp [intOf]; omega⟩
        have FA : Frm (fun x => x = w1.heap.size ∨ x = w1.heap.size + 1) wr w3 := ((Frm.refl _ _).drew.trans (F2.mono fun _ _ h => .inl h)).trans (F3.mono fun _ _ h => .inr h)
        exact bdraws (FA.after HO.out HO.out.size (fun j hj => by omega)) (m1 + m2)
      | false =>
        have HN := Lib.hid (left_rest s at_ err n hat)
        have hA := HA.out
        have hB := HB.out
        go_wp2
        go_region_held3 (fun w' => w'.cell? ⟨b, o + k * 2 + 1, none⟩ = some (.int .i64 n)) (first | exact c1 | exact c2 | exact c3) (first | (go_at_call 14; first | ((with_reducible refine (bytes_nil _ _).mono ?_); rintro e wx ⟨rfl, rfl⟩) | ((with_reducible refine (bytes_any _ _ _ _ _ HL.out hA.drew).mono ?_); rintro e w2 ⟨rfl, I2, F2⟩; have J2 := hB.drew.frm F2 hne; have c2 := F2.cell (p := ⟨b, o + k * 2 + 1, none⟩) hn1 (show wr.drew.cell? _ = _ from c1))) | (go_at_call 15; (with_reducible refine (rbytes_any _ _ _ _ _ _ hs3 hat J2).mono ?_); rintro e w3 ⟨rfl, J3, F3⟩; have I3 := I2.frm F3 hne'; have c3 := F3.cell (p := ⟨b, o + k * 2 + 1, none⟩) hn2 c2))
        rw [HN.out.1] at I3
        have hat' := HN.out.2
        go_wp2_with (first | (go_at_call 16; (with_reducible refine (left_any _ _ _ _ I3).mono ?_); rintro e wx ⟨rfl, rfl⟩) | (go_at_call 17; (with_reducible refine (rleft_any _ _ _ _ _ hs3 hat' J3).mono ?_); rintro e wx ⟨rfl, ⟨m1, rfl⟩⟩; have I4 := I3.drewN m1; have J4 := J3.drewN m1) | (go_at_call 18; (with_reducible refine (end_any _ _ _ _ I4).mono ?_); rintro e wx ⟨rfl, rfl⟩) | (go_at_call 19; (with_reducible refine (rend_any _ _ _ _ _ hs3 hat' J4).mono ?_); rintro e wx ⟨rfl, ⟨m2, rfl⟩⟩))
        refine ⟨⟨k + 1, rrAt s at_ err n, rdErr (left s at_) err n, by omega, by go_num, hat', I3.drewN (m1 + m2), J3.drewN (m1 + m2), ?_⟩, by simp [intOf]; omega⟩
        have FA : Frm (fun x => x = w1.heap.size ∨ x = w1.heap.size + 1) wr w3 := ((Frm.refl _ _).drew.trans (F2.mono fun _ _ h => .inl h)).trans (F3.mono fun _ _ h => .inr h)
        exact bdraws (FA.after HO.out HO.out.size (fun j hj => by omega)) (m1 + m2)
    · go_wp2_with (first | (go_at_call 16; (with_reducible refine (left_nil _).mono ?_); rintro e wx ⟨rfl, rfl⟩) | (go_at_call 18; (with_reducible refine (end_nil _).mono ?_); rintro e wx ⟨rfl, rfl⟩))
      go_ret
      exact ⟨rfl, bt hb1 HO.out⟩
end Go.Proofs.Ytodkfgijmfaghaa
