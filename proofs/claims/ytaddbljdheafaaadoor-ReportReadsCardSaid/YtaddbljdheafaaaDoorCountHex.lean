/-
  Bytes in digits (chapter 1): walks.
-/
import Derived.Test.YtaddbljdheafaaaDoorCountRead3
import Derived.Deep.RegionLaw
import Derived.Test.YtaddbljdheafaaaDoorDraw
import Derived.Laws.MakeOwn
namespace Go.Proofs.YtaddbljdheafaaaDoor
open Go.RowKit
set_option linter.unusedVariables false
set_option linter.unusedSimpArgs false
set_option maxRecDepth 20000

def dgN (n : Nat) : Nat := if n < 10 then 48 + n else 87 + n
def dgU (n : Nat) : UInt8 := UInt8.ofNat (dgN n)
theorem digit_any (n : Nat) (w : World) (h : n < 16) : Calls Tryd.prog 51 #[.int .u8 n] w fun e w' => e = .returned (.int .u8 (dgN n)) ∧ w = w' := by
  by_cases h1 : (n : Int) < 10
  · have HF : Hid ((48 + (n : Int)) = (dgN n : Nat)) := by show _ = _; unfold dgN; rw [if_pos (by omega)]; omega
    go_enter Tryd.func51, Tryd.ntmps51
    go_wp2
    go_ret
    exact ⟨congrArg (fun x => Ending.returned (.int .u8 x)) HF.out, rfl⟩
  · have HF : Hid ((87 + (n : Int)) = (dgN n : Nat)) := by show _ = _; unfold dgN; rw [if_neg (by omega)]; omega
    go_enter Tryd.func51, Tryd.ntmps51
    go_wp2
    go_ret
    exact ⟨congrArg (fun x => Ending.returned (.int .u8 x)) HF.out, rfl⟩
def hexB (c : Nat) : List UInt8 := [dgU (c / 16), dgU (c % 16)]
def hexL (s : ByteArray) : Nat → List UInt8
  | 0 => []
  | k + 1 => hexL s k ++ hexB (gd s k)
theorem hexL_len (s : ByteArray) (k : Nat) : (hexL s k).length = 2 * k := by
  induction k with
  | zero => rfl
  | succ k ih => simp [hexL, ih, hexB]; omega
def hexS (s : ByteArray) : ByteArray := ⟨(hexL s s.size).toArray⟩
theorem hexF_and (n : Nat) (h : n < 256) : bits BinOp.and IntKind.u8 (n : Int) 15 = ((n % 16 : Nat) : Int) := by
  have key : ∀ n : Fin 256, bits BinOp.and IntKind.u8 ((n : Nat) : Int) 15 = (((n : Nat) % 16 : Nat) : Int) := by decide +kernel
  exact key ⟨n, h⟩
theorem hex_news (w : World) (T : TypeId) (a b : Nat) : ∀ j u, ([Value.int .u8 a, .int .u8 b] : List Value)[j]? = some u → (w.alloc (.cells #[.int .u8 a, .int .u8 b] T)).cell? ((⟨w.heap.size, 0, none⟩ : Addr).add j) = some u := by
  intro j u h
  match j, h with
  | 0, h => simp at h; subst h; simp [go_sem, Addr.add]
  | 1, h => simp at h; subst h; simp [go_sem, Addr.add]
  | j + 2, h => simp at h
theorem hex_one {a b : Nat} : ∀ u ∈ ([Value.int .u8 a, .int .u8 b] : List Value), u.oneCell' = true := by
  intro u h; simp at h; rcases h with rfl | rfl <;> rfl
/-- the row of n bytes that is filled -/
def Row (w : World) (g n : Nat) (l : List UInt8) : Prop := l.length = n ∧ Bytes w g n l ∧ ∀ j, j < n → w.frozen? ⟨g, j, none⟩ = false
theorem Row.below {w w' : World} {g n : Nat} {l : List UInt8} (h : Row w g n l) (hb : Below w.heap.size w w') : Row w' g n l :=
  ⟨h.1, h.2.1.below hb, fun j hj => bfree hb (h.2.1 j hj) (h.2.2 j hj)⟩
theorem hex_spare {w : World} {T : TypeId} {g n k : Nat} {a b : Nat} {l : List UInt8} (h : Row w g (2 * n) l) (hk : k < n) {u v : Value} :
    ∀ j, j < ([u, v] : List Value).length → ((w.alloc (.cells #[.int .u8 a, .int .u8 b] T)).cell? ⟨g, 0 + 2 * k * 1 + j, none⟩).isSome = true ∧ (w.alloc (.cells #[.int .u8 a, .int .u8 b] T)).frozen? ⟨g, 0 + 2 * k * 1 + j, none⟩ = false := by
  intro j hj
  have hj2 : j < 2 := hj
  have hr := h.below ((Below.refl _ _).alloc (Nat.le_refl _) (.cells #[.int .u8 a, .int .u8 b] T))
  exact ⟨by rw [hr.2.1 _ (by omega)]; rfl, hr.2.2 _ (by omega)⟩
theorem Row.two {w : World} {g n k : Nat} {l : List UInt8} (h : Row w g (2 * n) l) (hk : k < n) (a b : UInt8) : Row (w.setCells g (0 + 2 * k * 1) [.int .u8 a.toNat, .int .u8 b.toNat]) g (2 * n) ((l.set (2 * k) a).set (2 * k + 1) b) := by
  have e : w.setCells g (0 + 2 * k * 1) [.int .u8 a.toNat, .int .u8 b.toNat] = (w.setCell ⟨g, 2 * k, none⟩ (.int .u8 a.toNat)).setCell ⟨g, 2 * k + 1, none⟩ (.int .u8 b.toNat) := by
    rw [show 0 + 2 * k * 1 = 2 * k by omega]; rfl
  rw [e]
  refine ⟨by simp [h.1], ?_, fun j hj => ?_⟩
  · exact (h.2.1.set (2 * k) a (by rw [h.1]; omega)).set (2 * k + 1) b (by simp [h.1]; omega)
  · simp [go_sem, h.2.2 j hj]
theorem row_made (w : World) (n : Nat) (T : TypeId) : Row (w.alloc (.cells (madeCells #[.int .u8 0] (2 * n)) T)) w.heap.size (2 * n) ([] ++ List.replicate (2 * n - 2 * 0) 0) := by
  refine ⟨by simp, fun j hj => ?_, fun j hj => by simp [go_sem]⟩
  have h1 : (([] : List UInt8) ++ List.replicate (2 * n - 2 * 0) 0).getD j 0 = 0 := by
    rw [List.nil_append, List.getD_eq_getElem?_getD, List.getElem?_replicate]; split <;> rfl
  rw [h1]
  simp [go_sem, madeCells, hj, Nat.mod_one]
theorem hex_list (s : ByteArray) (k n : Nat) (hk : k < n) : ((hexL s k ++ List.replicate (2 * n - 2 * k) 0).set (2 * k) (dgU (gd s k / 16))).set (2 * k + 1) (dgU (gd s k % 16)) = hexL s (k + 1) ++ List.replicate (2 * n - 2 * (k + 1)) 0 := by
  obtain ⟨m, rfl⟩ : ∃ m, n = k + 1 + m := ⟨n - (k + 1), by omega⟩
  rw [show 2 * (k + 1 + m) - 2 * k = 2 * m + 1 + 1 by omega, show 2 * (k + 1 + m) - 2 * (k + 1) = 2 * m by omega, List.replicate_succ, List.replicate_succ]
  have hl := hexL_len s k
  rw [List.set_append_right _ _ (by omega), hl, Nat.sub_self, List.set_cons_zero, List.set_append_right _ _ (by omega), hl, show 2 * k + 1 - 2 * k = 1 by omega]
  show hexL s k ++ _ = (hexL s k ++ hexB (gd s k)) ++ _
  rw [List.append_assoc]; rfl
theorem dgU_nat {n : Nat} (h : n < 16) : (dgU n).toNat = dgN n := by
  unfold dgU
  rw [UInt8.toNat_ofNat']
  unfold dgN
  split <;> omega
theorem digit_of {m : Int} {n : Nat} (hm : m = (n : Int)) (h : n < 16) (w : World) : Calls Tryd.prog 51 #[.int .u8 m] w fun e w' => e = .returned (.int .u8 (dgN n)) ∧ w = w' := hm ▸ digit_any n w h
set_option maxHeartbeats 3200000 in
theorem hex_any (s : ByteArray) (w : World) (hs : s.size ≤ 70368744177664) : Calls Tryd.prog 36 #[.string s] w fun e w' => e = .returned (.string (hexS s)) ∧ Below w.heap.size w w' := by
  have hb1 : (0 : Int) ≤ 2 * (s.size : Int) := by omega
  have hb2 : 2 * (s.size : Int) ≤ 140737488355328 := by omega
  have hmk : ∀ w, (Instr.makeSlice 77 (.int .i64 0) (.int .i64 (2 * (s.size : Int)))).run Tryd.prog w = .ok (.slice (some ⟨w.heap.size, 0, none⟩) 0 (2 * s.size)) (w.alloc (.cells (madeCells #[.int .u8 0] (2 * s.size)) 5)) := by
    intro w
    have h := run_make (P := Tryd.prog) w 77 5 _ (.int .u8 0) Tryd.underlying77 rfl rfl .i64 .i64 0 (2 * (s.size : Int)) (by omega) hb1 (by show (1 : Int) * _ ≤ _; omega) (by omega)
    have e : (2 * (s.size : Int)).toNat = 2 * s.size := by omega
    rw [e] at h
    exact h.trans (congrArg (fun m => Result.ok (Value.slice (some ⟨w.heap.size, 0, none⟩) 0 (2 * s.size)) (w.alloc (.cells (madeCells #[.int .u8 0] m) 5))) (Nat.mul_one _))
  go_enter Tryd.func36, Tryd.ntmps36
  go_wp2
  go_loopw [3, 11] (fun v i wr => ∃ k : Nat, k ≤ s.size ∧ i = .int .i64 k ∧ v = .slice (some ⟨w.heap.size, 0, none⟩) (2 * k) (2 * s.size) ∧ Hid (Row wr w.heap.size (2 * s.size) (hexL s k ++ List.replicate (2 * s.size - 2 * k) 0)) ∧ Hid (Below w.heap.size w wr)) (fun _ i _ => s.size - (intOf i).toNat)
  case atStart => exact ⟨0, Nat.zero_le _, rfl, rfl, row_made w _ _, (Below.refl _ _).alloc (Nat.le_refl _) _⟩
  case round =>
    obtain ⟨k, hk, rfl, rfl, HRow, HB⟩ := hrel
    by_cases hlt : k < s.size
    · have hgk := gd_eq hlt
      have hk0 : (0 : Int) ≤ (k : Int) := by omega
      have hk1 : (k : Int) < (s.size : Int) := by omega
      have hq : gd s k / 16 < 16 := by have := gd_lt s k; omega
      have hr : gd s k % 16 < 16 := by omega
      have HS2 : Hid (Row wr.drew w.heap.size (2 * s.size) (hexL s k ++ List.replicate (2 * s.size - 2 * k) 0)) := ⟨HRow.out.1, fun j hj => HRow.out.2.1 j hj, fun j hj => HRow.out.2.2 j hj⟩
      have HQ : Hid ((gd s k : Int) / 16 = ((gd s k / 16 : Nat) : Int)) := by show _ = _; omega
      have HR : Hid (bits BinOp.and IntKind.u8 (gd s k : Int) 15 = ((gd s k % 16 : Nat) : Int)) := hexF_and _ (gd_lt s k)
      go_wp2
      refine wp_region_held_drew (S := (fun _ => True)) (by kernel_rfl) ?_ (fun hHeld => ?_)
      · trivial
      first | (refine take_w (i := 0) (d := (some 14)) (v := ?_) (by rfl) (by kernel_rfl) (by kernel_rfl) (by kernel_rfl) (fun _ _ _ h => h) (by rfl) ?_ (by assumption) ?_; rotate_left; (intro o ho; simp only [List.getElem?_toArray, List.getElem?_cons_succ, List.getElem?_cons_zero, Option.some.injEq] at ho; subst ho; intro w hSw; (try dsimp only at hSw); go_simp); (try with_reducible rfl)) | (refine take_n (i := 0) (d := (some 14)) (by rfl) (by kernel_rfl) (by kernel_rfl) (by kernel_rfl) (fun _ _ _ h => h) (by rfl) (by assumption) ?_)
      try simp only [Act.put, List.setIfInBounds_toArray, List.set_cons_zero, List.set_cons_succ]
      first | (refine take_w (i := 1) (d := (some 15)) (v := ?_) (by rfl) (by kernel_rfl) (by kernel_rfl) (by kernel_rfl) (fun _ _ _ h => h) (by rfl) ?_ (by assumption) ?_; rotate_left; (intro o ho; simp only [List.getElem?_toArray, List.getElem?_cons_succ, List.getElem?_cons_zero, Option.some.injEq] at ho; subst ho; intro w hSw; (try dsimp only at hSw); go_simp); (try with_reducible rfl)) | (refine take_n (i := 1) (d := (some 15)) (by rfl) (by kernel_rfl) (by kernel_rfl) (by kernel_rfl) (fun _ _ _ h => h) (by rfl) (by assumption) ?_)
      try simp only [Act.put, List.setIfInBounds_toArray, List.set_cons_zero, List.set_cons_succ]
      first | (refine take_w (i := 2) (d := (some 16)) (v := ?_) (by rfl) (by kernel_rfl) (by kernel_rfl) (by kernel_rfl) (fun _ _ _ h => h) (by rfl) ?_ (by assumption) ?_; rotate_left; (intro o ho; simp only [List.getElem?_toArray, List.getElem?_cons_succ, List.getElem?_cons_zero, Option.some.injEq] at ho; subst ho; intro w hSw; (try dsimp only at hSw); go_simp); (try with_reducible rfl)) | (refine take_n (i := 2) (d := (some 16)) (by rfl) (by kernel_rfl) (by kernel_rfl) (by kernel_rfl) (fun _ _ _ h => h) (by rfl) (by assumption) ?_)
      try simp only [Act.put, List.setIfInBounds_toArray, List.set_cons_zero, List.set_cons_succ]
      first | (refine take_w (i := 3) (d := (some 17)) (v := ?_) (by rfl) (by kernel_rfl) (by kernel_rfl) (by kernel_rfl) (fun _ _ _ h => h) (by rfl) ?_ (by assumption) ?_; rotate_left; (intro o ho; simp only [List.getElem?_toArray, List.getElem?_cons_succ, List.getElem?_cons_zero, Option.some.injEq] at ho; subst ho; intro w hSw; (try dsimp only at hSw); go_simp); (try with_reducible rfl)) | (refine take_n (i := 3) (d := (some 17)) (by rfl) (by kernel_rfl) (by kernel_rfl) (by kernel_rfl) (fun _ _ _ h => h) (by rfl) (by assumption) ?_)
      try simp only [Act.put, List.setIfInBounds_toArray, List.set_cons_zero, List.set_cons_succ]
      first | (refine take_w (i := 4) (d := (some 18)) (v := ?_) (by rfl) (by kernel_rfl) (by kernel_rfl) (by kernel_rfl) (fun _ _ _ h => h) (by rfl) ?_ (by assumption) ?_; rotate_left; (intro o ho; simp only [List.getElem?_toArray, List.getElem?_cons_succ, List.getElem?_cons_zero, Option.some.injEq] at ho; subst ho; intro w hSw; (try dsimp only at hSw); go_simp); (try with_reducible rfl)) | (refine take_n (i := 4) (d := (some 18)) (by rfl) (by kernel_rfl) (by kernel_rfl) (by kernel_rfl) (fun _ _ _ h => h) (by rfl) (by assumption) ?_)
      try simp only [Act.put, List.setIfInBounds_toArray, List.set_cons_zero, List.set_cons_succ]
      first | (refine take_w (i := 6) (d := (some 20)) (v := ?_) (by rfl) (by kernel_rfl) (by kernel_rfl) (by kernel_rfl) (fun _ _ _ h => h) (by rfl) ?_ (by assumption) ?_; rotate_left; (intro o ho; simp only [List.getElem?_toArray, List.getElem?_cons_succ, List.getElem?_cons_zero, Option.some.injEq] at ho; subst ho; intro w hSw; (try dsimp only at hSw); go_simp); (try with_reducible rfl)) | (refine take_n (i := 6) (d := (some 20)) (by rfl) (by kernel_rfl) (by kernel_rfl) (by kernel_rfl) (fun _ _ _ h => h) (by rfl) (by assumption) ?_)
      try simp only [Act.put, List.setIfInBounds_toArray, List.set_cons_zero, List.set_cons_succ]
      first | (refine take_w (i := 7) (d := (some 21)) (v := ?_) (by rfl) (by kernel_rfl) (by kernel_rfl) (by kernel_rfl) (fun _ _ _ h => h) (by rfl) ?_ (by assumption) ?_; rotate_left; (intro o ho; simp only [List.getElem?_toArray, List.getElem?_cons_succ, List.getElem?_cons_zero, Option.some.injEq] at ho; subst ho; intro w hSw; (try dsimp only at hSw); go_simp); (try with_reducible rfl)) | (refine take_n (i := 7) (d := (some 21)) (by rfl) (by kernel_rfl) (by kernel_rfl) (by kernel_rfl) (fun _ _ _ h => h) (by rfl) (by assumption) ?_)
      try simp only [Act.put, List.setIfInBounds_toArray, List.set_cons_zero, List.set_cons_succ]
      first | (refine take_w (i := 8) (d := (some 22)) (v := ?_) (by rfl) (by kernel_rfl) (by kernel_rfl) (by kernel_rfl) (fun _ _ _ h => h) (by rfl) ?_ (by assumption) ?_; rotate_left; (intro o ho; simp only [List.getElem?_toArray, List.getElem?_cons_succ, List.getElem?_cons_zero, Option.some.injEq] at ho; subst ho; intro w hSw; (try dsimp only at hSw); go_simp); (try with_reducible rfl)) | (refine take_n (i := 8) (d := (some 22)) (by rfl) (by kernel_rfl) (by kernel_rfl) (by kernel_rfl) (fun _ _ _ h => h) (by rfl) (by assumption) ?_)
      try simp only [Act.put, List.setIfInBounds_toArray, List.set_cons_zero, List.set_cons_succ]
      first | (refine take_w (i := 9) (d := (some 23)) (v := ?_) (by rfl) (by kernel_rfl) (by kernel_rfl) (by kernel_rfl) (fun _ _ _ h => h) (by rfl) ?_ (by assumption) ?_; rotate_left; (intro o ho; simp only [List.getElem?_toArray, List.getElem?_cons_succ, List.getElem?_cons_zero, Option.some.injEq] at ho; subst ho; intro w hSw; (try dsimp only at hSw); go_simp); (try with_reducible rfl)) | (refine take_n (i := 9) (d := (some 23)) (by rfl) (by kernel_rfl) (by kernel_rfl) (by kernel_rfl) (fun _ _ _ h => h) (by rfl) (by assumption) ?_)
      try simp only [Act.put, List.setIfInBounds_toArray, List.set_cons_zero, List.set_cons_succ]
      refine call_next (i := 5) (by kernel_rfl) (by rfl) ?_
      intro o ho K hK
      simp only [List.getElem?_toArray, List.getElem?_cons_succ, List.getElem?_cons_zero, Option.some.injEq] at ho
      subst ho
      first | ((refine step_append_room rfl _ _ 77 rfl 5 _ 1 Tryd.underlying77 rfl rfl w.heap.size 0 (2 * k) (2 * s.size) rfl _ 2 2 [.int .u8 (dgN (gd s k / 16)), .int .u8 (dgN (gd s k % 16))] rfl rfl (hex_news _ _ _ _) hex_one (by omega) (hex_spare HS2.out hlt) ?_); refine hK.out _ _ ?_ (fun hHeld => ?_)) | (go_simp; first | (with_reducible refine hK.out _ _ ?_ (fun hHeld => ?_)) | ((first | (go_at_call 51; first | ((with_reducible refine (digit_of HQ.out hq _).mono ?_); rintro e w5 ⟨rfl, rfl⟩) | ((with_reducible refine (digit_of HR.out hr _).mono ?_); rintro e w5 ⟨rfl, rfl⟩))); refine hK.out _ _ ?_ (fun hHeld => ?_)))
      · trivial
      clear hK K
      try simp only [Act.put, List.setIfInBounds_toArray, List.set_cons_zero, List.set_cons_succ]
      refine call_next (i := 10) (by kernel_rfl) (by rfl) ?_
      intro o ho K hK
      simp only [List.getElem?_toArray, List.getElem?_cons_succ, List.getElem?_cons_zero, Option.some.injEq] at ho
      subst ho
      first | ((refine step_append_room rfl _ _ 77 rfl 5 _ 1 Tryd.underlying77 rfl rfl w.heap.size 0 (2 * k) (2 * s.size) rfl _ 2 2 [.int .u8 (dgN (gd s k / 16)), .int .u8 (dgN (gd s k % 16))] rfl rfl (hex_news _ _ _ _) hex_one (by omega) (hex_spare HS2.out hlt) ?_); refine hK.out _ _ ?_ (fun hHeld => ?_)) | (go_simp; first | (with_reducible refine hK.out _ _ ?_ (fun hHeld => ?_)) | ((first | (go_at_call 51; first | ((with_reducible refine (digit_of HQ.out hq _).mono ?_); rintro e w5 ⟨rfl, rfl⟩) | ((with_reducible refine (digit_of HR.out hr _).mono ?_); rintro e w5 ⟨rfl, rfl⟩))); refine hK.out _ _ ?_ (fun hHeld => ?_)))
      · trivial
      clear hK K
      try simp only [Act.put, List.setIfInBounds_toArray, List.set_cons_zero, List.set_cons_succ]
      refine call_next (i := 11) (by kernel_rfl) (by rfl) ?_
      intro o ho K hK
      simp only [List.getElem?_toArray, List.getElem?_cons_succ, List.getElem?_cons_zero, Option.some.injEq] at ho
      subst ho
      first | ((refine step_append_room rfl _ _ 77 rfl 5 _ 1 Tryd.underlying77 rfl rfl w.heap.size 0 (2 * k) (2 * s.size) rfl _ 2 2 [.int .u8 (dgN (gd s k / 16)), .int .u8 (dgN (gd s k % 16))] rfl rfl (hex_news _ _ _ _) hex_one (by omega) (hex_spare HS2.out hlt) ?_); refine hK.out _ _ ?_ (fun hHeld => ?_)) | (go_simp; first | (with_reducible refine hK.out _ _ ?_ (fun hHeld => ?_)) | ((first | (go_at_call 51; first | ((with_reducible refine (digit_of HQ.out hq _).mono ?_); rintro e w5 ⟨rfl, rfl⟩) | ((with_reducible refine (digit_of HR.out hr _).mono ?_); rintro e w5 ⟨rfl, rfl⟩))); refine hK.out _ _ ?_ (fun hHeld => ?_)))
      · trivial
      clear hK K
      try simp only [Act.put, List.setIfInBounds_toArray, List.set_cons_zero, List.set_cons_succ]
      refine call_next (i := 12) (by kernel_rfl) (by rfl) ?_
      intro o ho K hK
      simp only [List.getElem?_toArray, List.getElem?_cons_succ, List.getElem?_cons_zero, Option.some.injEq] at ho
      subst ho
      (refine step_append_room rfl _ _ 77 rfl 5 _ 1 Tryd.underlying77 rfl rfl w.heap.size 0 (2 * k) (2 * s.size) rfl _ 2 2 [.int .u8 (dgN (gd s k / 16)), .int .u8 (dgN (gd s k % 16))] rfl rfl (hex_news _ _ _ _) hex_one (by omega) (hex_spare HS2.out hlt) ?_); refine hK.out _ _ ?_ (fun hHeld => ?_)
      · trivial
      clear hK K
      try simp only [Act.put, List.setIfInBounds_toArray, List.set_cons_zero, List.set_cons_succ]
      first | (refine take_w (i := 13) (d := (some 3)) (v := ?_) (by rfl) (by kernel_rfl) (by kernel_rfl) (by kernel_rfl) (fun _ _ _ h => h) (by rfl) ?_ (by assumption) ?_; rotate_left; (intro o ho; simp only [List.getElem?_toArray, List.getElem?_cons_succ, List.getElem?_cons_zero, Option.some.injEq] at ho; subst ho; intro w hSw; (try dsimp only at hSw); go_simp); (try with_reducible rfl)) | (refine take_n (i := 13) (d := (some 3)) (by rfl) (by kernel_rfl) (by kernel_rfl) (by kernel_rfl) (fun _ _ _ h => h) (by rfl) (by assumption) ?_)
      try simp only [Act.put, List.setIfInBounds_toArray, List.set_cons_zero, List.set_cons_succ]
      refine wpAnyH_done (by kernel_rfl) ?_ _
      have HR2 := (HS2.out.below ((Below.refl _ _).alloc (Nat.le_refl _) (.cells #[.int .u8 (dgN (gd s k / 16)), .int .u8 (dgN (gd s k % 16))] 5))).two hlt (dgU (gd s k / 16)) (dgU (gd s k % 16))
      rw [hex_list s k s.size hlt, dgU_nat hq, dgU_nat hr] at HR2
      rw [show 0 + 2 * k * 1 = 2 * k by omega] at HR2
      have HB2 : Below w.heap.size w (((((wr.alloc (.cells #[.int .u8 (dgN (gd s k / 16)), .int .u8 (dgN (gd s k % 16))] 5)).drew).setCell ⟨w.heap.size, 2 * k, none⟩ (.int .u8 (dgN (gd s k / 16)))).setCell ⟨w.heap.size, 2 * k + 1, none⟩ (.int .u8 (dgN (gd s k % 16))))) := (((HB.out.alloc HB.out.size _).drew).setCell (Nat.le_refl _) _).setCell (Nat.le_refl _) _
      have H1 := Lib.hid HR2
      have H2 := Lib.hid HB2
      clear HR2 HB2
      go_wp2
      exact ⟨⟨k + 1, by omega, by go_num, by rw [show 2 * (k + 1) = 2 * k + 2 by omega], H1.out, H2.out⟩, by simp [intOf]; omega⟩
    · have hke : k = s.size := by omega
      subst hke
      have hcv := bytes_conv_from wr w.heap.size (2 * s.size) (2 * s.size) 0 (2 * s.size) _ HRow.out.1 (by omega) HRow.out.2.1
      rw [List.drop_zero, Nat.sub_self, List.replicate_zero, List.append_nil] at hcv
      go_wp2
      go_ret
      exact ⟨rfl, HB.out⟩
end Go.Proofs.YtaddbljdheafaaaDoor
