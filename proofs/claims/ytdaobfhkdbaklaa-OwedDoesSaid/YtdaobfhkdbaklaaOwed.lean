/-
  What is owed: the walk of its small functions.
-/
import Derived.Test.YtdaobfhkdbaklaaMarksNext2
import Derived.Test.YtdaobfhkdbaklaaMarks3
import Derived.Test.YtdaobfhkdbaklaaMake
import Derived.Shelf.Small.Bits
import Derived.IntWalk
namespace Go.Proofs.Ytdaobfhkdbaklaa
open Go.RowKit Go.Shelf
set_option linter.unusedVariables false
set_option linter.unusedSimpArgs false

def tzRen : Go.Shelf.Ren := ⟨fun | 136 => 24 | n => n, fun | 3 => 3 | 5 => 5 | 9 => 9 | n => n, fun x => x⟩
theorem tzLays : Lays.n136 Try.prog tzRen where
  mixed := by kernel_rfl
  f136 := by kernel_rfl
  t3 := by kernel_rfl
  a3 := fun _ => by kernel_rfl
  z3 := fun _ => by kernel_rfl
  v3 := fun _ => by kernel_rfl
  t5 := by kernel_rfl
  a5 := fun _ => by kernel_rfl
  z5 := fun _ => by kernel_rfl
  v5 := fun _ => by kernel_rfl
  t9 := by kernel_rfl
  a9 := fun _ => by kernel_rfl
  z9 := fun _ => by kernel_rfl
  v9 := fun _ => by kernel_rfl
theorem tz_any (c : Nat) (w : World) (hc : c < 256) : Calls Try.prog 24 #[.int .u8 c] w fun e w' => e = .returned (.int .i64 (Lib.trailingZeros8 c)) ∧ w = w' :=
  (Any.bits_TrailingZeros8 tzLays (c : Int) w (by omega) (by omega)).mono fun _ _ h => ⟨h.1, h.2.symm⟩
/-- what is owed: for each of the many places its kinds as bits, and the set of the places that owe -/
structure OW (w : World) (o h s gM many : Nat) (bs cs : List Nat) : Prop where
  c0 : w.cell? ⟨o, 0, none⟩ = some (.pointer (some ⟨s, 0, none⟩))
  c1 : w.cell? ⟨o, 1, none⟩ = some (.slice (some ⟨h, 0, none⟩) many many)
  b : ∀ j (hj : j < cs.length), w.cell? ⟨h, j, none⟩ = some (.int .u8 cs[j])
  f : ∀ j, j < cs.length → w.frozen? ⟨h, j, none⟩ = false
  m : MS w s gM many bs
  len : cs.length = many
  lt : ∀ x ∈ cs, x < 128 ∧ x % 2 = 0
  rel : ∀ j (hj : j < cs.length), bit bs j = decide (cs[j] ≠ 0)
  oh : o ≠ h
  og : o ≠ gM
  hs : h ≠ s
  hg : h ≠ gM
  h24 : many ≤ 24
theorem OW.frm {S : Nat → Prop} {w w' : World} {o h s gM many : Nat} {bs cs : List Nat} (H : OW w o h s gM many bs cs) (hf : Frm S w w') (h1 : ¬ S o) (h2 : ¬ S h) (h3 : ¬ S s) (h4 : ¬ S gM) : OW w' o h s gM many bs cs :=
  ⟨hf.cell h1 H.c0, hf.cell h1 H.c1, fun j hj => hf.cell (p := ⟨h, j, none⟩) h2 (H.b j hj), fun j hj => (hf.frozen (p := ⟨h, j, none⟩) h2 (World.block_lt_of_cell? w _ (H.b j hj))).trans (H.f j hj), H.m.frm hf h3 h4, H.len, H.lt, H.rel, H.oh, H.og, H.hs, H.hg, H.h24⟩
theorem OW.below {w w' : World} {o h s gM many : Nat} {bs cs : List Nat} (H : OW w o h s gM many bs cs) (hb : Below w.heap.size w w') : OW w' o h s gM many bs cs := H.frm (S := fun _ => False) (.ofBelow hb) id id id id
/-- may a thing of this place and kind be owed? -/
def inB (many : Nat) (i k : Int) : Bool := decide (0 ≤ i ∧ i < many ∧ 1 ≤ k ∧ k ≤ 6)
def bitV (many : Nat) (i k : Int) : Int := if inB many i k then ((2 ^ k.toNat : Nat) : Int) else 0
theorem bit_none (i k : Int) (w : World) : Calls Try.prog 21 #[.pointer none, .int .i64 i, .int .i64 k] w fun e w' => e = .returned (.int .u8 0) ∧ w = w' := by
  go_enter Try.func21, Try.ntmps21
  go_wp2
  go_ret
  exact ⟨rfl, rfl⟩
theorem bit_any (o h s gM many : Nat) (bs cs : List Nat) (i k : Int) (w : World) (H : OW w o h s gM many bs cs) : Calls Try.prog 21 #[.pointer (some ⟨o, 0, none⟩), .int .i64 i, .int .i64 k] w fun e w' => e = .returned (.int .u8 (bitV many i k)) ∧ w = w' := by
  have hc1 := H.c1
  have h24 := H.h24
  have hE0 : ∀ v : Int, v = bitV many i k → (fun (e : Ending) (w' : World) => e = .returned (.int .u8 (bitV many i k)) ∧ w = w') (.returned (.int .u8 v)) w := by
    rintro v rfl
    exact ⟨rfl, rfl⟩
  generalize (fun (e : Ending) (w' : World) => e = .returned (.int .u8 (bitV many i k)) ∧ w = w') = Pst at *
  have hE := Lib.hid hE0
  clear hE0
  have hno : ¬ (0 ≤ i ∧ i < many ∧ 1 ≤ k ∧ k ≤ 6) → (0 : Int) = bitV many i k := fun e => by unfold bitV inB; rw [decide_eq_false e]; rfl
  have hyes : (0 ≤ i ∧ i < many ∧ 1 ≤ k ∧ k ≤ 6) → (2 : Int) ^ k.toNat % 256 = bitV many i k := fun e => by
    unfold bitV inB
    rw [decide_eq_true e, if_pos rfl]
    have h : ∀ q : Fin 8, (2 : Int) ^ q.val % 256 = ((2 ^ q.val : Nat) : Int) := by decide
    exact h ⟨k.toNat, by omega⟩
  have hno := Lib.hid hno
  have hyes := Lib.hid hyes
  clear H
  go_enter Try.func21, Try.ntmps21
  go_wp2
  all_goals first | exact hE.out _ (hno.out (by omega)) | exact hE.out _ (hyes.out (by omega))
theorem comes_any (s gM many : Nat) (bs : List Nat) (i : Int) (w : World) (h : MS w s gM many bs) : Calls Try.prog 22 #[.agg #[.pointer (some ⟨s, 0, none⟩)], .int .i64 i] w fun e w' => e = .returned (.tuple #[]) ∧ MS w' s gM many (turnL many bs i true) ∧ Frm (fun k => k = gM ∨ w.heap.size ≤ k) w w' := by
  have hA : Below w.heap.size w (w.alloc (.cells #[.pointer (some ⟨s, 0, none⟩)] 43)) := (Below.refl _ _).alloc (Nat.le_refl _) _
  have hP := Lib.hid (add_any s gM many bs i _ (h.below hA))
  go_enter Try.func22, Try.ntmps22
  go_wp2_with (go_at_call 28; (with_reducible refine hP.out.mono ?_); rintro e w1 ⟨rfl, h1, hf1⟩)
  go_end0
  exact ⟨rfl, h1, ((Frm.ofBelow hA).trans (hf1.mono fun k _ e => .inl e))⟩
theorem goes_any (s gM many : Nat) (bs : List Nat) (i : Int) (w : World) (h : MS w s gM many bs) : Calls Try.prog 25 #[.agg #[.pointer (some ⟨s, 0, none⟩)], .int .i64 i] w fun e w' => e = .returned (.tuple #[]) ∧ MS w' s gM many (turnL many bs i false) ∧ Frm (fun k => k = gM ∨ w.heap.size ≤ k) w w' := by
  have hA : Below w.heap.size w (w.alloc (.cells #[.pointer (some ⟨s, 0, none⟩)] 43)) := (Below.refl _ _).alloc (Nat.le_refl _) _
  have hP := Lib.hid (remove_any s gM many bs i _ (h.below hA))
  go_enter Try.func25, Try.ntmps25
  go_wp2_with (go_at_call 30; (with_reducible refine hP.out.mono ?_); rintro e w1 ⟨rfl, h1, hf1⟩)
  go_end0
  exact ⟨rfl, h1, ((Frm.ofBelow hA).trans (hf1.mono fun k _ e => .inl e))⟩
theorem pnext_any (s gM many : Nat) (bs : List Nat) (i : Int) (w : World) (h : MS w s gM many bs) (hi : -9223372036854775808 ≤ i ∧ i ≤ 9223372036854775807) : Calls Try.prog 23 #[.agg #[.pointer (some ⟨s, 0, none⟩)], .int .i64 i] w fun e w' => e = .returned (.tuple #[.int .i64 (nextM bs many i).1, .bool (nextM bs many i).2]) ∧ Below w.heap.size w w' := by
  have hA : Below w.heap.size w (w.alloc (.cells #[.pointer (some ⟨s, 0, none⟩)] 43)) := (Below.refl _ _).alloc (Nat.le_refl _) _
  have hP := next_any s gM many bs i _ (h.below hA) hi
  generalize nextM bs many i = r at *
  obtain ⟨y, ok⟩ := r
  have hP := Lib.hid hP
  go_enter Try.func23, Try.ntmps23
  go_wp2_with (go_at_call 29; (with_reducible refine hP.out.mono ?_); rintro e w1 ⟨rfl, hb1⟩)
  go_ret2
  exact ⟨rfl, bt hA hb1⟩
theorem u8_and (c q : Nat) (hc : c < 256) (hq : q < 8) : (bits .and .u8 (c : Int) ((2 ^ q : Nat) : Int) != 0) = c.testBit q := by
  have h : ∀ c : Fin 256, ∀ q : Fin 8, (bits .and .u8 ((c.val : Nat) : Int) ((2 ^ q.val : Nat) : Int) != 0) = c.val.testBit q.val := by decide +kernel
  exact h ⟨c, hc⟩ ⟨q, hq⟩
theorem u8_or (c q : Nat) (hc : c < 256) (hq : q < 8) : bits .or .u8 (c : Int) ((2 ^ q : Nat) : Int) = ((c ||| 2 ^ q : Nat) : Int) := by
  have h : ∀ c : Fin 256, ∀ q : Fin 8, bits .or .u8 ((c.val : Nat) : Int) ((2 ^ q.val : Nat) : Int) = ((c.val ||| 2 ^ q.val : Nat) : Int) := by decide +kernel
  exact h ⟨c, hc⟩ ⟨q, hq⟩
theorem u8_or_ok (c q : Nat) (hc : c < 128 ∧ c % 2 = 0) (hq : 1 ≤ q ∧ q ≤ 6) : (c ||| 2 ^ q) < 128 ∧ (c ||| 2 ^ q) % 2 = 0 ∧ (c ||| 2 ^ q) ≠ 0 := by
  have h : ∀ c : Fin 128, ∀ q : Fin 7, c.val % 2 = 0 → 1 ≤ q.val → (c.val ||| 2 ^ q.val) < 128 ∧ (c.val ||| 2 ^ q.val) % 2 = 0 ∧ (c.val ||| 2 ^ q.val) ≠ 0 := by decide +kernel
  exact h ⟨c, hc.1⟩ ⟨q, by omega⟩ hc.2 hq.1
def addB (many : Nat) (cs : List Nat) (i k : Int) : Bool := inB many i k && !(cs.getD i.toNat 0).testBit k.toNat
def addC (many : Nat) (cs : List Nat) (i k : Int) : List Nat := if addB many cs i k then cs.set i.toNat (cs.getD i.toNat 0 ||| 2 ^ k.toNat) else cs
end Go.Proofs.Ytdaobfhkdbaklaa
