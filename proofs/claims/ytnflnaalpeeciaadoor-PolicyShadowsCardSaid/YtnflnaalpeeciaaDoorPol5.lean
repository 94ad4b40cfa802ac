/-
  What is shadowed (chapter 42): the program's own.
-/
import Derived.Test.YtnflnaalpeeciaaDoorPol4
namespace Go.Proofs.YtnflnaalpeeciaaDoor
open Go.RowKit
set_option linter.unusedVariables false
set_option linter.unusedSimpArgs false
set_option maxRecDepth 20000

theorem arr24 : Tryd.prog.arrayLen 53 = 24 := by kernel_rfl
theorem slice24 (W : World) (g a b : Nat) (h1 : a ≤ b) (h2 : b < 24) : (Instr.sliceAt 53 (.pointer (some ⟨g, 0, none⟩)) (some (.int .i64 a)) (some (.int .i64 ((b : Int) + 1))) none).run Tryd.prog W = .ok (.slice (some ⟨g, a, none⟩) (b + 1 - a) (24 - a)) W := by
  have hu : Tryd.prog.underlying 53 = some (.array (Tryd.prog.arrayLen 53) (Tryd.prog.elem 53)) := by kernel_rfl
  have hs : ∀ W, (sizeOf (Tryd.prog.elem 53)).run Tryd.prog W = .ok 1 W := fun W => by kernel_rfl
  rw [run_sliceAt_array_lh W 53 ⟨g, 0, none⟩ hu .i64 .i64 a ((b : Int) + 1) (by omega) (by omega) (by rw [arr24]; omega), hs, arr24]
  have hne : ¬ (24 = a) := by omega
  have e : ((b : Int) + 1).toNat = b + 1 := by omega
  simp [Result.andThen, slicedAt, Addr.add, hne, e]
  omega
/-- which extents are done, in a block of the call's own -/
def DR (W : World) (B D : Nat) (f : Nat → Bool) : Prop := W.ownsRow B 53 1 (.slice (some ⟨D, 0, none⟩) 24 24) 24 ((List.range 24).map fun x => Value.bool (f x))
def BX (W : World) (D : Nat) (f : Nat → Bool) : Prop := ∀ x, x < 24 → W.cell? ⟨D, x, none⟩ = some (.bool (f x))
theorem DR.bx {W : World} {B D : Nat} {f : Nat → Bool} (h : DR W B D f) : BX W D f := fun x hx => by
  rw [World.ownsRow.cellAt h x (by omega)]
  simp [hx]
theorem DR.put {W : World} {B D : Nat} {f : Nat → Bool} (h : DR W B D f) (x : Nat) : DR (W.setCell ⟨D, x, none⟩ (.bool true)) B D (fun y => f y || decide (y = x)) := by
  have := (World.ownsRow.stored h x (.bool true)).1
  unfold DR
  have e : ((List.range 24).map fun y => Value.bool (f y || decide (y = x))) = ((List.range 24).map fun y => Value.bool (f y)).set x (.bool true) := by
    apply List.ext_getElem?
    intro j
    rw [List.getElem?_set]
    by_cases hj : x = j
    · subst hj
      by_cases hx : x < 24
      · simp [hx]
      · simp [hx]
    · rw [if_neg hj]
      by_cases hx : j < 24
      · simp [hx, Ne.symm hj]
      · simp [hx]
  rw [e]; exact this
theorem DR.free {W : World} {B D : Nat} {f : Nat → Bool} (h : DR W B D f) (x : Nat) : W.frozen? ⟨D, x, none⟩ = false := by
  rcases h.2 with ⟨h', _⟩ | ⟨g', cap', cur, h', hb, hg, hnc, hcm, hcs, htake⟩
  · simp at h'
  · simp only [Value.slice.injEq, Option.some.injEq, Addr.mk.injEq, and_true, true_and] at h'
    obtain ⟨rfl, rfl⟩ := h'
    exact frozen_of_row W _ _ cur 53 hg
theorem DR.frm {S : Nat → Prop} {W W' : World} {B D : Nat} {f : Nat → Bool} (h : DR W B D f) (hf : Frm S W W') (hs : ¬ S D) : DR W' B D f := ownsRow_frm h hf fun g hg => by
  simp only [Value.ownBlock, Option.some.injEq] at hg
  subst hg; exact hs
theorem DR.below {W W' : World} {B D : Nat} {f : Nat → Bool} (h : DR W B D f) (hb : Below W.heap.size W W') : DR W' B D f := h.frm (S := fun _ => False) (.ofBelow hb) id
theorem DR.new (w : World) (B : Nat) (hB : B ≤ w.heap.size) : DR (w.alloc (.cells (Array.replicate 24 (.bool false)) 53)) B w.heap.size (fun _ => false) := by
  have := World.ownsRow_lit (base := B) (e := 53) (size := 1) w (Array.replicate 24 (.bool false)) 24 hB (by unfold maxLen; omega) rfl
  exact this
theorem DR.congr {W : World} {B D : Nat} {f g : Nat → Bool} (h : DR W B D f) (e : ∀ x, x < 24 → f x = g x) : DR W B D g := by
  unfold DR at h ⊢
  have : ((List.range 24).map fun x => Value.bool (f x)) = (List.range 24).map fun x => Value.bool (g x) := List.map_congr_left fun x hx => by rw [e x (by simpa using hx)]
  rw [← this]; exact h
def anyN (f : Nat → Bool) (o n : Nat) : Bool := (List.range n).any fun j => !f (o + j)
def IXR (w : World) (f : Nat → Bool) (o n : Nat) (i : Value) (wr : World) : Prop := ∃ k : Nat, k ≤ n ∧ i = .int .i64 k ∧ Hid (∀ j, j < k → f (o + j) = true) ∧ Hid (Below w.heap.size w wr)
def IXE (f : Nat → Bool) (o n : Nat) (w : World) (e : Ending) (w' : World) : Prop := ∃ r : Int, e = .returned (.int .i64 r) ∧ decide (0 ≤ r) = anyN f o n ∧ Below w.heap.size w w'
set_option maxHeartbeats 1600000 in
theorem index_any (D o n c : Nat) (f : Nat → Bool) (w : World) (ho : o + n ≤ 24) (h : BX w D f) :
    Calls Tryd.prog 39 #[.slice (some ⟨D, o, none⟩) n c, .bool false] w (IXE f o n w) := by
  have hY : ∀ (r : Nat) W, r < n → f (o + r) = false → Below w.heap.size w W → IXE f o n w (.returned (.int .i64 r)) W := by
    intro r W h1 h2 hb
    refine ⟨r, rfl, ?_, hb⟩
    unfold anyN
    rw [List.any_eq_true.2 ⟨r, by simpa using h1, by rw [h2]; rfl⟩]
    exact decide_eq_true (by omega)
  have hN : ∀ W, (∀ j, j < n → f (o + j) = true) → Below w.heap.size w W → IXE f o n w (.returned (.int .i64 (-1))) W := by
    intro W h1 hb
    refine ⟨-1, rfl, ?_, hb⟩
    unfold anyN
    rw [List.any_eq_false.2 (fun j hj => by rw [h1 j (by simpa using hj)]; simp)]
    rfl
  generalize IXE f o n w = Pst at *
  replace hY := Lib.hid hY
  replace hN := Lib.hid hN
  replace h := Lib.hid h
  go_enter Tryd.func39, Tryd.ntmps39
  go_wp2
  go_loopw [8] (fun i wr => IXR w f o n i wr) (fun i _ => n - (intOf i).toNat)
  case atStart => exact ⟨0, Nat.zero_le _, rfl, fun j h => absurd h (Nat.not_lt_zero _), Below.refl _ _⟩
  case round =>
    obtain ⟨k, hk, rfl, hK, hB⟩ := hrel
    by_cases hlt : k < n
    · have hd2 : decide ((k : Int) < (n : Int)) = true := decide_eq_true (by omega)
      have hc := bkeep hB.out (h.out (o + k) (by omega))
      have i1 : (0 : Int) ≤ (k : Int) := by omega
      have i2 : (k : Int) < (n : Int) := by omega
      cases hf : f (o + k) with
      | false =>
        rw [hf] at hc
        have hfin := Lib.hid (fun W hb => hY.out k W hlt hf hb)
        clear hf
        go_wp2
        exact hfin.out _ hB.out
      | true =>
        rw [hf] at hc
        have hK2 : Hid (∀ j, j < k + 1 → f (o + j) = true) := by
          intro j hj
          by_cases e : j = k
          · subst e; exact hf
          · exact hK.out j (by omega)
        clear hf
        go_wp2
        exact ⟨⟨k + 1, by omega, by go_num, hK2, hB⟩, by simp [intOf]; omega⟩
    · have hd2 : decide ((k : Int) < (n : Int)) = false := decide_eq_false (by omega)
      have hfin := Lib.hid (hN.out wr (fun j hj => hK.out j (by omega)) hB.out)
      go_wp2
      exact hfin.out
theorem cont_any (D o n c : Nat) (f : Nat → Bool) (w : World) (ho : o + n ≤ 24) (h : BX w D f) :
    Calls Tryd.prog 22 #[.slice (some ⟨D, o, none⟩) n c, .bool false] w fun e w' => e = .returned (.bool (anyN f o n)) ∧ Below w.heap.size w w' := by
  have hC := index_any D o n c f w ho h
  unfold IXE at hC
  replace hC := Lib.hid hC
  go_enter Tryd.func22, Tryd.ntmps22
  go_wp2_with (go_at_call 39; (with_reducible refine hC.out.mono ?_); rintro e4 w2 ⟨r, rfl, hr, hA⟩; replace hr := Lib.hid hr)
  go_ret
  first
  | exact ⟨rfl, hA⟩
  | exact ⟨by show Ending.returned (.bool (decide (0 ≤ r))) = _; rw [hr.out], hA⟩
/-! ### what the list says of a rule -/
theorem getD_of {l : List Rl} {k : Nat} {r : Rl} (h : l[k]? = some r) : l.getD k default = r := by simp [List.getD, h]
theorem shd_bad {l : List Rl} {k : Nat} {r : Rl} (h : l[k]? = some r) (hc : chkR r ≠ 0) : shd l k = true := by
  unfold shd
  rw [getD_of h, List.all_eq_true]
  intro x _
  have : covR r (x : Int) = false := decide_eq_false fun h2 => hc h2.1
  rw [this]; rfl
theorem cov_ok {r : Rl} {a b : Nat} (hc : chkR r = 0) (ha : r.a = a) (hb : r.b = b) (x : Nat) : covR r (x : Int) = decide (a ≤ x ∧ x ≤ b) := by
  unfold covR
  rw [decide_eq_decide, ha, hb]
  constructor
  · rintro ⟨_, h1, h2⟩; omega
  · rintro ⟨h1, h2⟩; exact ⟨hc, by omega, by omega⟩
theorem shd_ok {l : List Rl} {k : Nat} {r : Rl} {a b : Nat} (h : l[k]? = some r) (hc : chkR r = 0) (ha : r.a = a) (hb : r.b = b) (hab : a ≤ b) (h2 : b < 24) : shd l k = !anyN (fun x => doneB (l.take k) (x : Int)) a (b + 1 - a) := by
  unfold shd anyN
  rw [getD_of h, List.not_any_eq_all_not]
  rw [Bool.eq_iff_iff, List.all_eq_true, List.all_eq_true]
  constructor
  · intro h3 j hj
    have h4 := h3 (a + j) (by simp at hj ⊢; omega)
    rw [cov_ok hc ha hb, decide_eq_true (by simp at hj; omega)] at h4
    simpa using h4
  · intro h3 x hx
    rw [cov_ok hc ha hb]
    by_cases hx2 : a ≤ x ∧ x ≤ b
    · have h4 := h3 (x - a) (by simp; omega)
      rw [show a + (x - a) = x by omega] at h4
      rw [decide_eq_true hx2]
      simpa using h4
    · rw [decide_eq_false hx2]; rfl
theorem done_take {l : List Rl} {k : Nat} {r : Rl} (h : l[k]? = some r) (x : Int) : doneB (l.take (k + 1)) x = (doneB (l.take k) x || (covR r x && finK r.k)) := by
  unfold doneB
  rw [List.take_add_one, h]
  simp
end Go.Proofs.YtnflnaalpeeciaaDoor
