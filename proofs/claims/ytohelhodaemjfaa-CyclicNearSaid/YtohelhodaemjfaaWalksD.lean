/-
  Walk over the statement CyclicNear.
-/
import Derived.Test.YtohelhodaemjfaaWalksC
import Derived.Lib.ConvBytes
import Derived.BigRegion
import Derived.Deep.RegionHeld3
namespace Go.Proofs.Ytohelhodaemjfaa
open Go.RowKit
set_option linter.unusedVariables false

/-- bytes of which q from k on are turned -/
def turn (by_ : Nat → UInt8) (l : List UInt8) (k q : Nat) : List UInt8 := l.mapIdx fun j c => if k ≤ j ∧ j < k + q then c ^^^ by_ (j - k) else c

theorem toList_len (s : ByteArray) : s.toList.length = s.size := by rw [ByteArray.toList_eq]; simp
theorem place_nat (a : Int) (n : Nat) (h0 : 0 < n) (hn : n ≤ 3000) : ∃ k : Nat, k < n ∧ wrap64 ((IntKind.u64.wrap a).tmod (n : Int)) = (k : Int) := by
  rw [IntKind.wrap_u64, Int.tmod_eq_emod_of_nonneg (by omega)]
  have h1 := Int.emod_nonneg (a % 18446744073709551616) (show (n : Int) ≠ 0 by omega)
  have h2 := Int.emod_lt_of_pos (a % 18446744073709551616) (show (0 : Int) < n by omega)
  refine ⟨(a % 18446744073709551616 % (n : Int)).toNat, by omega, ?_⟩
  rw [IntWalk.wrap64_in _ ⟨by omega, by omega⟩]; omega
theorem bytesWorld_free (w : World) (e : TypeId) (s : ByteArray) (j : Nat) (hj : j < s.size) : (Lib.bytesWorld w e s).frozen? ⟨w.heap.size, j, none⟩ = false := by
  have h : s.size ≤ (Lib.bytesCells w e s).size := by simp [Lib.bytesCells]
  simp [World.frozen?, Lib.bytesWorld_at_new]
  omega
theorem bytesWorld_below (w : World) (e : TypeId) (s : ByteArray) : Below w.heap.size w (Lib.bytesWorld w e s) :=
  ⟨rfl, rfl, rfl, by rw [Lib.bytesWorld_size]; omega, fun k hk => Lib.bytesWorld_at_old w e s k hk⟩
def byF (b0 b1 b2 b3 : Int) (i : Nat) : Int := if i = 0 then b0 else if i = 1 then b1 else if i = 2 then b2 else b3
def by8 (b0 b1 b2 b3 : Int) (i : Nat) : UInt8 := UInt8.ofNat (byF b0 b1 b2 b3 i).toNat
theorem turn_len (f : Nat → UInt8) (l : List UInt8) (k q : Nat) : (turn f l k q).length = l.length := by simp [turn]
theorem turn_zero (f : Nat → UInt8) (l : List UInt8) (k : Nat) : turn f l k 0 = l := by
  unfold turn
  apply List.ext_getElem (by simp)
  intro i h1 h2
  simp; omega
/-- what a round does to place j -/
theorem turn_at (f : Nat → UInt8) (l : List UInt8) (k q j : Nat) : (turn f l k (q + 1)).getD j 0 = if j = k + q ∧ j < l.length then (turn f l k q).getD j 0 ^^^ f q else (turn f l k q).getD j 0 := by
  unfold turn
  simp only [List.getD_eq_getElem?_getD, List.getElem?_mapIdx]
  by_cases hj : j < l.length
  · simp [hj]
    by_cases e : j = k + q
    · subst e; simp
    · simp [e]
      split <;> split <;> first | rfl | omega
  · simp [hj]

theorem byF_nat (b0 b1 b2 b3 : Int) (h0 : (Lit.int .u8 b0).wf = true) (h1 : (Lit.int .u8 b1).wf = true) (h2 : (Lit.int .u8 b2).wf = true) (h3 : (Lit.int .u8 b3).wf = true) (q : Nat) : byF b0 b1 b2 b3 q = ((by8 b0 b1 b2 b3 q).toNat : Int) ∧ (by8 b0 b1 b2 b3 q).toNat < 256 := by
  have g0 := bounds_u8 h0
  have g1 := bounds_u8 h1
  have g2 := bounds_u8 h2
  have g3 := bounds_u8 h3
  have g : 0 ≤ byF b0 b1 b2 b3 q ∧ byF b0 b1 b2 b3 q ≤ 255 := by unfold byF; split <;> (try split) <;> (try split) <;> assumption
  refine ⟨?_, (by8 b0 b1 b2 b3 q).toNat_lt⟩
  unfold by8
  rw [UInt8.toNat_ofNat']
  omega
theorem round_cells (wr : World) (g n : Nat) (b0 b1 b2 b3 : Int) (l : List UInt8) (k q : Nat) (hn : n = l.length) (h0 : (Lit.int .u8 b0).wf = true) (h1 : (Lit.int .u8 b1).wf = true) (h2 : (Lit.int .u8 b2).wf = true) (h3 : (Lit.int .u8 b3).wf = true) (hk : k + q < n)
    (H1 : ∀ j, j < n → wr.cell? ⟨g, j, none⟩ = some (.int .u8 ((turn (by8 b0 b1 b2 b3) l k q).getD j 0).toNat)) (H2 : ∀ j, j < n → wr.frozen? ⟨g, j, none⟩ = false) :
    (∀ j, j < n → (wr.setCell ⟨g, k + q, none⟩ (.int .u8 (bits .xor .u8 (((turn (by8 b0 b1 b2 b3) l k q)[k + q]?.getD 0).toNat : Int) (byF b0 b1 b2 b3 q)))).drew.cell? ⟨g, j, none⟩ = some (.int .u8 ((turn (by8 b0 b1 b2 b3) l k (q + 1)).getD j 0).toNat)) ∧
    (∀ j, j < n → (wr.setCell ⟨g, k + q, none⟩ (.int .u8 (bits .xor .u8 (((turn (by8 b0 b1 b2 b3) l k q)[k + q]?.getD 0).toNat : Int) (byF b0 b1 b2 b3 q)))).drew.frozen? ⟨g, j, none⟩ = false) := by
  obtain ⟨e, lt⟩ := byF_nat b0 b1 b2 b3 h0 h1 h2 h3 q
  refine ⟨fun j hj => ?_, fun j hj => by simpa [go_sem] using H2 j hj⟩
  rw [e, u8_xor_nat _ _ (by have := ((turn (by8 b0 b1 b2 b3) l k q)[k + q]?.getD 0).toNat_lt; omega) lt]
  by_cases ej : j = k + q
  · subst ej
    have := H1 (k + q) hj
    rw [turn_at, if_pos ⟨rfl, by omega⟩, UInt8.toNat_xor]
    simp [go_sem, this, List.getD_eq_getElem?_getD]
  · rw [turn_at, if_neg (by omega)]
    have := H1 j hj
    have hne : ¬ (k + q = j) := fun h => ej h.symm
    simpa [go_sem, hne] using this
theorem bytes_conv (wr : World) (g n c : Nat) (l : List UInt8) (hn : n = l.length) (H1 : ∀ j, j < n → wr.cell? ⟨g, j, none⟩ = some (.int .u8 (l.getD j 0).toNat)) :
    (convert 31 9 (.slice (some ⟨g, 0, none⟩) n c)).run Try.prog wr = .ok (.string ⟨l.toArray⟩) wr := by
  have h := run_convert_bytes_arg wr 31 5 Try.underlying31 Try.underlying5 g 0 n c (l.map fun c => (c.toNat : Int)) (by simp [hn]) (fun i hi => by
    rw [Nat.zero_add, H1 i hi]
    simp [List.getD_eq_getElem?_getD, List.getElem?_eq_getElem (show i < l.length by omega)]) 9 Try.underlying9
  rw [h]
  have : (l.map fun c => (c.toNat : Int)).map (fun n => UInt8.ofNat n.toNat) = l := by
    rw [List.map_map]
    conv => rhs; rw [← List.map_id l]
    exact List.map_congr_left fun c _ => by simp
  unfold strOfNums
  rw [this]
/-- the cells of a row of bytes -/
def Bytes (w : World) (g n : Nat) (l : List UInt8) : Prop := ∀ j, j < n → w.cell? ⟨g, j, none⟩ = some (.int .u8 (l.getD j 0).toNat)
theorem Bytes.below {w w' : World} {g n : Nat} {l : List UInt8} (h : Bytes w g n l) (hb : Below w.heap.size w w') : Bytes w' g n l :=
  fun j hj => (hb.cell (World.block_lt_of_cell? w _ (h j hj))).trans (h j hj)

/-- a row of bytes is there, and what was there ahead of it is as it was -/
structure Keeps (wr : World) (g n : Nat) (l : List UInt8) (w : World) : Prop where
  bytes : Bytes w g n l
  old : Below wr.heap.size wr w
theorem Keeps.drew {wr w : World} {g n : Nat} {l : List UInt8} (h : Keeps wr g n l w) : Keeps wr g n l w.drew := ⟨h.bytes, h.old.drew⟩
theorem Keeps.below {wr w w' : World} {g n : Nat} {l : List UInt8} (h : Keeps wr g n l w) (hb : Below w.heap.size w w') : Keeps wr g n l w' := ⟨h.bytes.below hb, bt h.old hb⟩
theorem turn_sees (f : Nat → UInt8) (l : List UInt8) (k q : Nat) (h4 : q ≤ 4) (hk : k + q ≤ l.length) : crcOf (turn f l k q) = crcOf l ↔ turn f l k q = l := by
  have e1 : turn f l k q = l.take k ++ ((turn f l k q).drop k).take q ++ l.drop (k + q) := by
    apply List.ext_getElem?
    intro i
    by_cases h1 : i < k
    · rw [List.append_assoc, List.getElem?_append_left (by simp; omega), List.getElem?_take_of_lt h1]
      simp only [turn, List.getElem?_mapIdx]
      cases l[i]? with
      | none => rfl
      | some c => simp; omega
    · by_cases h2 : i < k + q
      · rw [List.append_assoc, List.getElem?_append_right (by simp; omega), List.getElem?_append_left (by simp [turn_len]; omega)]
        rw [List.getElem?_take_of_lt (by simp; omega), List.getElem?_drop]
        congr 1; simp; omega
      · rw [List.getElem?_append_right (by simp [turn_len]; omega)]
        rw [List.getElem?_drop]
        rw [show k + q + (i - (l.take k ++ ((turn f l k q).drop k).take q).length) = i by simp [turn_len]; omega]
        simp only [turn, List.getElem?_mapIdx]
        cases l[i]? with
        | none => rfl
        | some c => simp; omega
  have e2 : l = l.take k ++ (l.drop k).take q ++ l.drop (k + q) := by
    rw [List.append_assoc, ← List.drop_drop, List.take_append_drop, List.take_append_drop]
  have h := crc_near (l.take k) (((turn f l k q).drop k).take q) ((l.drop k).take q) (l.drop (k + q)) (by simp; omega) (by simp [turn_len])
  rw [← e1, ← e2] at h
  rw [h]
  constructor
  · intro a; rw [e1, a]; exact e2.symm
  · intro a; rw [a]

set_option maxHeartbeats 1600000 in
theorem walk_CyclicNear (s : ByteArray) (hs : s.size ≤ 140737488351232) (at_ : Int) (hat : (Lit.int .i64 at_).wf = true) (b0 b1 b2 b3 : Int) (h0 : (Lit.int .u8 b0).wf = true) (h1 : (Lit.int .u8 b1).wf = true) (h2 : (Lit.int .u8 b2).wf = true) (h3 : (Lit.int .u8 b3).wf = true) {w : World} :
    Calls Try.prog 4 #[.string s, .int .i64 at_, .agg #[.int .u8 b0, .int .u8 b1, .int .u8 b2, .int .u8 b3]] w fun e w' => e = .returned (.bool true) ∧ Below w.heap.size w w' := by
  have hm : s.size ≤ maxLen := by unfold maxLen; omega
  by_cases hbig : 3000 < (s.size : Int)
  · go_enter Try.func4, Try.ntmps4
    go_wp2_with (go_at_call 7; (with_reducible refine (works_any _).mono ?_); rintro e w1 ⟨rfl, hb1⟩)
    go_ret
    exact ⟨rfl, bt ((Below.refl _ _).alloc (Nat.le_refl _) _) hb1⟩
  · by_cases he : s = ByteArray.empty
    · go_enter Try.func4, Try.ntmps4
      go_wp2_with (go_at_call 7; (with_reducible refine (works_any _).mono ?_); rintro e w1 ⟨rfl, hb1⟩)
      go_ret
      exact ⟨rfl, bt ((Below.refl _ _).alloc (Nat.le_refl _) _) hb1⟩
    · have hpos : 0 < s.size := Nat.pos_of_ne_zero fun h => he (ByteArray.size_eq_zero_iff.1 h)
      have he1 : s.toList.isEmpty = false := by
        cases h : s.toList with
        | nil => exact absurd (congrArg List.length h) (by rw [toList_len]; simp; omega)
        | cons c l => rfl
      have he2 : (decide (3000 < (s.size : Int)) || s.toList.isEmpty) = false := by rw [he1]; simp; omega
      have hcv := fun W => Lib.run_convert_string_bytes (P := Try.prog) W 9 31 5 s Try.underlying9 Try.underlying31 Try.underlying5
      obtain ⟨k, hkn, hkk⟩ := place_nat at_ s.size hpos (by omega)
      go_enter Try.func4, Try.ntmps4
      go_wp2_with (go_at_call 7; (with_reducible refine (works_any _).mono ?_); rintro e w1 ⟨rfl, hb1⟩)
      rw [hkk]
      clear hkk
      obtain ⟨W0, hW0, hc0, hf0, hB0⟩ : ∃ W0, W0 = Lib.bytesWorld w1 5 s ∧ (∀ j, j < s.size → W0.cell? ⟨w1.heap.size, j, none⟩ = some (.int .u8 (s.data.toList.getD j 0).toNat)) ∧ (∀ j, j < s.size → W0.frozen? ⟨w1.heap.size, j, none⟩ = false) ∧ Below w1.heap.size w1 W0 :=
        ⟨_, rfl, fun j hj => Lib.bytesWorld_cell w1 5 s j hj, fun j hj => bytesWorld_free w1 5 s j hj, bytesWorld_below w1 5 s⟩
      rw [← hW0]
      clear hW0 hcv
      have hw1 : w.heap.size < w1.heap.size := by have := hb1.size; simp at this; omega
      go_loopw [9] (fun i wr => ∃ q : Nat, q ≤ 4 ∧ k + q ≤ s.size ∧ i = .int .i64 q ∧ Hid (∀ j, j < s.size → wr.cell? ⟨w1.heap.size, j, none⟩ = some (.int .u8 ((turn (by8 b0 b1 b2 b3) s.data.toList k q).getD j 0).toNat)) ∧ Hid (∀ j, j < s.size → wr.frozen? ⟨w1.heap.size, j, none⟩ = false) ∧ Hid (Below w1.heap.size w1 wr)) (fun i _ => 4 - (intOf i).toNat)
      case atStart => exact ⟨0, by omega, by omega, rfl, fun j hj => by rw [turn_zero]; exact hc0 j hj, hf0, hB0⟩
      case round =>
        obtain ⟨q, hq4, hqn, rfl, H1, H2, H3⟩ := hrel
        by_cases hgo : q < 4 ∧ k + q < s.size
        · obtain ⟨hq, hkq⟩ := hgo
          have hck := H1.out (k + q) hkq
          have hfk := H2.out (k + q) hkq
          have hby : wr.cell? ⟨w.heap.size, q, none⟩ = some (.int .u8 (byF b0 b1 b2 b3 q)) := by
            rw [H3.out.cell (p := ⟨w.heap.size, q, none⟩) hw1, hb1.cell (p := ⟨w.heap.size, q, none⟩) (by simp)]
            have : q = 0 ∨ q = 1 ∨ q = 2 ∨ q = 3 := by omega
            rcases this with rfl | rfl | rfl | rfl <;> simp [go_sem, byF]
          have hne : w.heap.size ≠ w1.heap.size := by omega
          have i1 : (0 : Int) ≤ (k : Int) + (q : Int) := by omega
          have i2 : (k : Int) + (q : Int) < (s.size : Int) := by omega
          have i3 : (q : Int) < 4 := by omega
          have HR := Lib.hid (round_cells wr w1.heap.size s.size b0 b1 b2 b3 s.data.toList k q (by simp) h0 h1 h2 h3 hkq H1.out H2.out)
          go_wp2
          go_region
          go_wp2
          refine ⟨⟨q + 1, by omega, by omega, by go_num, HR.out.1, HR.out.2, (H3.out.setCell (p := ⟨w1.heap.size, k + q, none⟩) (Nat.le_refl _) _).drew⟩, by simp [intOf]; omega⟩
        · generalize hl : turn (by8 b0 b1 b2 b3) s.data.toList k q = l at *
          have hll : s.size = l.length := by rw [← hl]; simp [turn_len]
          have hconv : ∀ w', Bytes w' w1.heap.size s.size l → (convert 31 9 (.slice (some ⟨w1.heap.size, 0, none⟩) s.size (grownCap w1 s.size 0 5))).run Try.prog w' = .ok (.string ⟨l.toArray⟩) w' := fun w' h => bytes_conv w' _ _ _ l hll h
          have hS : Bytes wr w1.heap.size s.size l := H1.out
          have hml : (ByteArray.mk l.toArray).size ≤ maxLen := by simp [ByteArray.size]; omega
          have HML := Lib.hid hml
          have HMS := Lib.hid hm
          have HL := Lib.hid hl
          have HLL := Lib.hid hll
          clear hml hm hl hll hc0 hf0 H1 H2
          have hfin : ((crcOf l : Int) == (crcOf s.data.toList : Int)) == (l == s.toList) := by
            have := turn_sees (by8 b0 b1 b2 b3) s.data.toList k q hq4 (by simpa using hqn)
            rw [HL.out] at this
            rw [beq_iff_eq, Bool.eq_iff_iff, beq_iff_eq, beq_iff_eq, ByteArray.toList_eq]
            exact ⟨fun h => this.1 (by omega), fun h => by rw [this.2 h]⟩
          have HF := Lib.hid hfin
          have hK : Keeps wr w1.heap.size s.size l wr := ⟨hS, Below.refl _ _⟩
          have hconv' : ∀ w', Keeps wr w1.heap.size s.size l w' → (convert 31 9 (.slice (some ⟨w1.heap.size, 0, none⟩) s.size (grownCap w1 s.size 0 5))).run Try.prog w' = .ok (.string ⟨l.toArray⟩) w' := fun w' h => hconv w' h.bytes
          clear hfin hS hconv
          by_cases hq : q < 4
          all_goals
            go_wp2
            go_region_held3 (fun w' => Keeps wr w1.heap.size s.size l w') (first | assumption | exact Keeps.drew (by assumption)) (first | (go_at_call 11; (with_reducible refine (of_any _ _ (by first | exact HML.out | exact HMS.out)).mono ?_); rintro e w5 ⟨rfl, hb5⟩; have hS5 := Keeps.below (by assumption) hb5))
            go_wp2
            go_ret
            refine ⟨congrArg (fun b => Ending.returned (.bool b)) HF.out, ?_⟩
            exact bt (bt ((Below.refl _ _).alloc (Nat.le_refl _) _) hb1) (H3.out.trans (hS5.old.mono H3.out.size))
end Go.Proofs.Ytohelhodaemjfaa
