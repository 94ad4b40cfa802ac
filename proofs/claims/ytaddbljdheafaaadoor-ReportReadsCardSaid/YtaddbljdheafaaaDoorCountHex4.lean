/-
  The bytes that digits say (chapter 1): count.Unhex.
-/
import Derived.Test.YtaddbljdheafaaaDoorCountHex3
import Derived.Lib.JoinLaws
namespace Go.Proofs.YtaddbljdheafaaaDoor
open Go.RowKit
set_option linter.unusedVariables false
set_option linter.unusedSimpArgs false
set_option maxRecDepth 20000

def pairAt (s : ByteArray) (k : Nat) : Option Nat := match vaN (gd s (2 * k)), vaN (gd s (2 * k + 1)) with | some a, some b => some (16 * a + b) | _, _ => none
def unL (s : ByteArray) : Nat → Option (List UInt8)
  | 0 => some []
  | k + 1 => match unL s k, pairAt s k with | some l, some c => some (l ++ [UInt8.ofNat c]) | _, _ => none
def unO (s : ByteArray) : Option (List UInt8) := if s.size % 2 = 0 then unL s (s.size / 2) else none
def unS (s : ByteArray) : ByteArray := match unO s with | some l => ⟨l.toArray⟩ | none => ⟨#[]⟩
def unE (s : ByteArray) : Int := match unO s with | some _ => 0 | none => 4
theorem unL_len (s : ByteArray) : ∀ k l, unL s k = some l → l.length = k
  | 0, l, h => by cases h; rfl
  | k + 1, l, h => by
    unfold unL at h
    split at h
    · rename_i l' c h1 h2
      cases h
      simp [unL_len s k l' h1]
    · cases h
theorem unL_none (s : ByteArray) {k : Nat} (h : pairAt s k = none) : ∀ j, unL s (k + 1 + j) = none
  | 0 => by
    show unL s (k + 1) = none
    unfold unL; rw [h]; cases unL s k <;> rfl
  | j + 1 => by
    show (match unL s (k + 1 + j), pairAt s (k + 1 + j) with | some l, some c => some (l ++ [UInt8.ofNat c]) | _, _ => none) = none
    rw [unL_none s h j]
theorem un_bad {s : ByteArray} {n k : Nat} (hs : s.size = 2 * n) (hk : k < n) (h : pairAt s k = none) : unS s = ⟨#[]⟩ ∧ unE s = 4 := by
  have e : unO s = none := by
    unfold unO
    rw [if_pos (by omega), show s.size / 2 = k + 1 + (n - (k + 1)) by omega]
    exact unL_none s h _
  unfold unS unE; rw [e]; exact ⟨rfl, rfl⟩
theorem un_odd {s : ByteArray} (hs : s.size % 2 = 1) : unS s = ⟨#[]⟩ ∧ unE s = 4 := by
  have e : unO s = none := by unfold unO; rw [if_neg (by omega)]
  unfold unS unE; rw [e]; exact ⟨rfl, rfl⟩
theorem un_good {s : ByteArray} {n : Nat} {l : List UInt8} (hs : s.size = 2 * n) (h : unL s n = some l) : unS s = ⟨l.toArray⟩ ∧ unE s = 0 := by
  have e : unO s = some l := by unfold unO; rw [if_pos (by omega), show s.size / 2 = n by omega]; exact h
  unfold unS unE; rw [e]; exact ⟨rfl, rfl⟩
theorem value_of {c : Nat} {v : Int} {b : Bool} (hv : ((vaN c).getD 0 : Nat) = v) (hb : (vaN c).isSome = b) (w : World) (h : c < 256) : Calls Tryd.prog 59 #[.int .u8 c] w fun e w' => e = .returned (.tuple #[.int .u8 v, .bool b]) ∧ w = w' := hv ▸ hb ▸ value_any c w h

theorem or_nib (a b : Nat) (ha : a < 16) (hb : b < 16) : bits BinOp.or IntKind.u8 ((a : Int) * 16) (b : Int) = ((16 * a + b : Nat) : Int) := by
  have key : ∀ a b : Fin 16, bits BinOp.or IntKind.u8 (((a : Nat) : Int) * 16) ((b : Nat) : Int) = ((16 * (a : Nat) + (b : Nat) : Nat) : Int) := by decide +kernel
  exact key ⟨a, ha⟩ ⟨b, hb⟩
theorem Row.one {w : World} {g n k : Nat} {l : List UInt8} (h : Row w g n l) (hk : k < n) (a : UInt8) : Row (w.setCell ⟨g, k, none⟩ (.int .u8 a.toNat)) g n (l.set k a) := by
  refine ⟨by simp [h.1], h.2.1.set k a (by rw [h.1]; omega), fun j hj => ?_⟩
  simp [go_sem, h.2.2 j hj]
theorem row_set (l : List UInt8) (k n : Nat) (x : UInt8) (hl : l.length = k) (hk : k < n) : (l ++ List.replicate (n - k) 0).set k x = (l ++ [x]) ++ List.replicate (n - (k + 1)) 0 := by
  obtain ⟨m, rfl⟩ : ∃ m, n = k + 1 + m := ⟨n - (k + 1), by omega⟩
  rw [show k + 1 + m - k = m + 1 by omega, show k + 1 + m - (k + 1) = m by omega, List.replicate_succ, List.set_append_right _ _ (by omega), hl, Nat.sub_self, List.set_cons_zero, List.append_assoc]
  rfl
theorem row_made1 (w : World) (n : Nat) (T : TypeId) : Row (w.alloc (.cells (madeCells #[.int .u8 0] n) T)) w.heap.size n ([] ++ List.replicate (n - 0) 0) := by
  refine ⟨by simp, fun j hj => ?_, fun j hj => by simp [go_sem]⟩
  have h1 : (([] : List UInt8) ++ List.replicate (n - 0) 0).getD j 0 = 0 := by
    rw [List.nil_append, List.getD_eq_getElem?_getD, List.getElem?_replicate]; split <;> rfl
  rw [h1]
  simp [go_sem, madeCells, hj, Nat.mod_one]
set_option maxHeartbeats 3200000 in
theorem unhex_any (s : ByteArray) (w : World) (hs : s.size ≤ 140737488351232) : Calls Tryd.prog 44 #[.string s] w fun e w' => e = .returned (.tuple #[.string (unS s), .int .i64 (unE s)]) ∧ Below w.heap.size w w' := by
  rcases Nat.mod_two_eq_zero_or_one s.size with hpar | hpar
  · obtain ⟨n, hn⟩ : ∃ n, s.size = 2 * n := ⟨s.size / 2, by omega⟩
    have h2 : ((s.size : Int) % 2 != 0) = false := by rw [bne_eq_false_iff_eq]; omega
    have hdiv : (s.size : Int) / 2 = (n : Int) := by omega
    have hmk : ∀ w, (Instr.makeSlice 77 (.int .i64 0) (.int .i64 (n : Int))).run Tryd.prog w = .ok (.slice (some ⟨w.heap.size, 0, none⟩) 0 n) (w.alloc (.cells (madeCells #[.int .u8 0] n) 5)) := fun w => run_make_room (P := Tryd.prog) 77 5 (.int .u8 0) 1 Tryd.underlying77 (by kernel_rfl) rfl .i64 .i64 n (by omega) (by omega) w
    have HN := Lib.hid hn
    clear hn hpar
    go_enter Tryd.func44, Tryd.ntmps44
    go_wp2
    clear h2 hdiv hmk
    go_loopw [4, 5] (fun v i wr => ∃ k : Nat, ∃ l : List UInt8, k ≤ n ∧ i = .int .i64 ((2 * k : Nat) : Int) ∧ v = .slice (some ⟨w.heap.size, 0, none⟩) k n ∧ Hid (unL s k = some l) ∧ Hid (Row wr w.heap.size n (l ++ List.replicate (n - k) 0)) ∧ Hid (Below w.heap.size w wr)) (fun _ i _ => s.size - (intOf i).toNat)
    case atStart => exact ⟨0, [], Nat.zero_le _, rfl, rfl, rfl, row_made1 w n _, (Below.refl _ _).alloc (Nat.le_refl _) _⟩
    case round =>
      obtain ⟨k, l, hk, rfl, rfl, HL, HRow, HB⟩ := hrel
      by_cases hlt : k < n
      · obtain ⟨j, hj⟩ : ∃ j, j = 2 * k := ⟨_, rfl⟩
        have HJ := Lib.hid hj
        rw [← hj]
        clear hj
        have hj1 : j + 1 < s.size := by have := HJ.out; have := HN.out; omega
        have hj0 : j < s.size := by omega
        have hg0 := gd_eq hj0
        have hg1 := gd_eq hj1
        have hi0 : (0 : Int) ≤ (j : Int) := by omega
        have hi1 : (j : Int) < (s.size : Int) := by omega
        have hi2 : (j : Int) + 1 < (s.size : Int) := by omega
        cases ha : vaN (gd s j) with
        | none =>
          have HFIN : Hid (unS s = ⟨#[]⟩ ∧ unE s = 4) := un_bad HN.out hlt (by unfold pairAt; rw [← HJ.out, ha])
          have hv0 : ((vaN (gd s j)).getD 0 : Nat) = (0 : Int) := by rw [ha]; rfl
          have hb0 : (vaN (gd s j)).isSome = false := by rw [ha]; rfl
          have V0 := Lib.hid (fun w => value_of hv0 hb0 w (gd_lt _ _))
          have V1 := Lib.hid (fun w => value_any (gd s (j + 1)) w (gd_lt _ _))
          clear hv0 hb0 ha
          go_wp2_with (go_at_call 59; first | ((with_reducible refine (V0.out _).mono ?_); rintro e wx ⟨rfl, rfl⟩) | ((with_reducible refine (V1.out _).mono ?_); rintro e wx ⟨rfl, rfl⟩))
          have hfin := HFIN.out
          exact bodyPost_ret (v := .tuple #[.string ⟨#[]⟩, .int .i64 4]) (by simp [results, Tryd.results44, go_sem]) rfl ⟨by rw [hfin.1, hfin.2], HB.out⟩
        | some a =>
          cases hb : vaN (gd s (j + 1)) with
          | none =>
            have HFIN : Hid (unS s = ⟨#[]⟩ ∧ unE s = 4) := un_bad HN.out hlt (by unfold pairAt; rw [← HJ.out, ha, hb])
            have V0 := Lib.hid (fun w => value_of (c := gd s j) (v := a) (b := true) (by rw [ha]; rfl) (by rw [ha]; rfl) w (gd_lt _ _))
            have V1 := Lib.hid (fun w => value_of (c := gd s (j + 1)) (v := 0) (b := false) (by rw [hb]; rfl) (by rw [hb]; rfl) w (gd_lt _ _))
            clear ha hb
            go_wp2_with (go_at_call 59; first | ((with_reducible refine (V0.out _).mono ?_); rintro e wx ⟨rfl, rfl⟩) | ((with_reducible refine (V1.out _).mono ?_); rintro e wx ⟨rfl, rfl⟩))
            have hfin := HFIN.out
            exact bodyPost_ret (v := .tuple #[.string ⟨#[]⟩, .int .i64 4]) (by simp [results, Tryd.results44, go_sem]) rfl ⟨by rw [hfin.1, hfin.2], HB.out⟩
          | some b =>
            have ha16 := (va_some ha).1
            have hb16 := (va_some hb).1
            have V0 := Lib.hid (fun w => value_of (c := gd s j) (v := a) (b := true) (by rw [ha]; rfl) (by rw [ha]; rfl) w (gd_lt _ _))
            have V1 := Lib.hid (fun w => value_of (c := gd s (j + 1)) (v := b) (b := true) (by rw [hb]; rfl) (by rw [hb]; rfl) w (gd_lt _ _))
            obtain ⟨c, hc⟩ : ∃ c, c = 16 * a + b := ⟨_, rfl⟩
            have hpair : Hid (pairAt s k = some c) := by show _ = _; unfold pairAt; rw [← HJ.out, ha, hb, hc]
            clear ha hb
            have hor : bits BinOp.or IntKind.u8 ((a : Int) * 16) (b : Int) = (c : Int) := by rw [or_nib a b ha16 hb16, hc]
            have hc256 : c < 256 := by omega
            have HC := Lib.hid hc
            clear hc
            have hR := HRow.out.below ((Below.refl _ _).alloc (Nat.le_refl _) (.cells #[.int .u8 (c : Int)] 5))
            have hcell := hR.2.1 k hlt
            have hfrz := hR.2.2 k hlt
            have HL2 : Hid (unL s (k + 1) = some (l ++ [UInt8.ofNat c])) := by show _ = _; unfold unL; rw [HL.out, hpair.out]
            have HR2 := Lib.hid (hR.one hlt (UInt8.ofNat c))
            have HB2 := Lib.hid ((HB.out.alloc HB.out.size (.cells #[.int .u8 (c : Int)] 5)).setCell (p := ⟨w.heap.size, k, none⟩) (Nat.le_refl _) (.int .u8 (c : Int)))
            have hll := Lib.hid (unL_len s k l HL.out)
            clear hR
            go_wp2_with (go_at_call 59; first | ((with_reducible refine (V0.out _).mono ?_); rintro e wx ⟨rfl, rfl⟩) | ((with_reducible refine (V1.out _).mono ?_); rintro e wx ⟨rfl, rfl⟩))
            have hR3 := HR2.out
            rw [UInt8.toNat_ofNat', Nat.mod_eq_of_lt hc256, row_set l k n _ hll.out hlt] at hR3
            exact ⟨⟨k + 1, _, by omega, by have := HJ.out; go_num, rfl, HL2.out, hR3, HB2.out⟩, by have := HJ.out; simp [intOf]; omega⟩
      · have hke : k = n := by omega
        subst hke
        have hll := unL_len s k l HL.out
        have HFIN := Lib.hid (un_good HN.out HL.out)
        have hcv := bytes_conv_from wr w.heap.size k k 0 k _ HRow.out.1 (by omega) HRow.out.2.1
        rw [List.drop_zero, Nat.sub_self, List.replicate_zero, List.append_nil] at hcv
        have hs2 : (s.size : Int) = 2 * (k : Int) := by have := HN.out; omega
        clear hll
        go_wp2
        have hfin := HFIN.out
        exact bodyPost_ret (v := .tuple #[.string ⟨l.toArray⟩, .int .i64 0]) (by simp [results, Tryd.results44, go_sem]) rfl ⟨by rw [hfin.1, hfin.2], HB.out⟩
  · obtain ⟨e1, e2⟩ := un_odd hpar
    have h2 : ((s.size : Int) % 2 == 0) = false := by rw [beq_eq_false_iff_ne]; omega
    rw [e1, e2]
    clear e1 e2 hpar
    go_enter Tryd.func44, Tryd.ntmps44
    go_wp2
    exact bodyPost_ret (v := .tuple #[.string ⟨#[]⟩, .int .i64 4]) (by simp [results, Tryd.results44, go_sem]) rfl ⟨rfl, Below.refl _ _⟩
end Go.Proofs.YtaddbljdheafaaaDoor
