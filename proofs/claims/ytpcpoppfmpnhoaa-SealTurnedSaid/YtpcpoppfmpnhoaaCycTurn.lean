/-
  Bytes that are turned within four in a row: plain (chapters 3, 4).
-/
import Derived.Test.YtpcpoppfmpnhoaaCyc
import Derived.Lib.ConvBytes
import Derived.BigRegion
import Derived.Deep.RegionHeld3
namespace Go.Proofs.Ytpcpoppfmpnhoaa
open Go.RowKit
set_option linter.unusedVariables false

/-- bytes of which q from k on are turned -/
def turn (by_ : Nat → UInt8) (l : List UInt8) (k q : Nat) : List UInt8 := l.mapIdx fun j c => if k ≤ j ∧ j < k + q then c ^^^ by_ (j - k) else c

theorem place_nat (a : Int) (n : Nat) (h0 : 0 < n) (hn : n ≤ 3000) : ∃ k : Nat, k < n ∧ wrap64 ((IntKind.u64.wrap a).tmod (n : Int)) = (k : Int) := by
  rw [IntKind.wrap_u64, Int.tmod_eq_emod_of_nonneg (by omega)]
  have h1 := Int.emod_nonneg (a % 18446744073709551616) (show (n : Int) ≠ 0 by omega)
  have h2 := Int.emod_lt_of_pos (a % 18446744073709551616) (show (0 : Int) < n by omega)
  refine ⟨(a % 18446744073709551616 % (n : Int)).toNat, by omega, ?_⟩
  rw [IntWalk.wrap64_in _ ⟨by omega, by omega⟩]; omega
def byF (b0 b1 b2 b3 : Int) (i : Nat) : Int := if i = 0 then b0 else if i = 1 then b1 else if i = 2 then b2 else b3
def by8 (b0 b1 b2 b3 : Int) (i : Nat) : UInt8 := UInt8.ofNat (byF b0 b1 b2 b3 i).toNat
theorem turn_len (f : Nat → UInt8) (l : List UInt8) (k q : Nat) : (turn f l k q).length = l.length := by simp [turn]
theorem turn_zero (f : Nat → UInt8) (l : List UInt8) (k : Nat) : turn f l k 0 = l := by
  unfold turn
  apply List.ext_getElem (by simp)
  intro i h1 h2
  simp; omega
/-- what a round does to place j -/
theorem turn_at (f : Nat → UInt8) (l : List UInt8) (k q j : Nat) : (turn f l k (q + 1)).getD j 0 = if j = k + q ∧ j < l.length then (turn f l k q).getD j 0 ^^^ f q else (turn f l k q).getD j 0 := by
  unfold turn
  simp only [List.getD_eq_getElem?_getD, List.getElem?_mapIdx]
  by_cases hj : j < l.length
  · simp [hj]
    by_cases e : j = k + q
    · subst e; simp
    · simp [e]
      split <;> split <;> first | rfl | omega
  · simp [hj]

theorem byF_nat (b0 b1 b2 b3 : Int) (h0 : (Lit.int .u8 b0).wf = true) (h1 : (Lit.int .u8 b1).wf = true) (h2 : (Lit.int .u8 b2).wf = true) (h3 : (Lit.int .u8 b3).wf = true) (q : Nat) : byF b0 b1 b2 b3 q = ((by8 b0 b1 b2 b3 q).toNat : Int) ∧ (by8 b0 b1 b2 b3 q).toNat < 256 := by
  have g0 := bounds_u8 h0
  have g1 := bounds_u8 h1
  have g2 := bounds_u8 h2
  have g3 := bounds_u8 h3
  have g : 0 ≤ byF b0 b1 b2 b3 q ∧ byF b0 b1 b2 b3 q ≤ 255 := by unfold byF; split <;> (try split) <;> (try split) <;> assumption
  refine ⟨?_, (by8 b0 b1 b2 b3 q).toNat_lt⟩
  unfold by8
  rw [UInt8.toNat_ofNat']
  omega
theorem round_cells (wr : World) (g n : Nat) (b0 b1 b2 b3 : Int) (l : List UInt8) (k q : Nat) (hn : n = l.length) (h0 : (Lit.int .u8 b0).wf = true) (h1 : (Lit.int .u8 b1).wf = true) (h2 : (Lit.int .u8 b2).wf = true) (h3 : (Lit.int .u8 b3).wf = true) (hk : k + q < n)
    (H1 : ∀ j, j < n → wr.cell? ⟨g, j, none⟩ = some (.int .u8 ((turn (by8 b0 b1 b2 b3) l k q).getD j 0).toNat)) (H2 : ∀ j, j < n → wr.frozen? ⟨g, j, none⟩ = false) :
    (∀ j, j < n → (wr.setCell ⟨g, k + q, none⟩ (.int .u8 (bits .xor .u8 (((turn (by8 b0 b1 b2 b3) l k q)[k + q]?.getD 0).toNat : Int) (byF b0 b1 b2 b3 q)))).drew.cell? ⟨g, j, none⟩ = some (.int .u8 ((turn (by8 b0 b1 b2 b3) l k (q + 1)).getD j 0).toNat)) ∧
    (∀ j, j < n → (wr.setCell ⟨g, k + q, none⟩ (.int .u8 (bits .xor .u8 (((turn (by8 b0 b1 b2 b3) l k q)[k + q]?.getD 0).toNat : Int) (byF b0 b1 b2 b3 q)))).drew.frozen? ⟨g, j, none⟩ = false) := by
  obtain ⟨e, lt⟩ := byF_nat b0 b1 b2 b3 h0 h1 h2 h3 q
  refine ⟨fun j hj => ?_, fun j hj => by simpa [go_sem] using H2 j hj⟩
  rw [e, u8_xor_nat _ _ (by have := ((turn (by8 b0 b1 b2 b3) l k q)[k + q]?.getD 0).toNat_lt; omega) lt]
  by_cases ej : j = k + q
  · subst ej
    have := H1 (k + q) hj
    rw [turn_at, if_pos ⟨rfl, by omega⟩, UInt8.toNat_xor]
    simp [go_sem, this, List.getD_eq_getElem?_getD]
  · rw [turn_at, if_neg (by omega)]
    have := H1 j hj
    have hne : ¬ (k + q = j) := fun h => ej h.symm
    simpa [go_sem, hne] using this
theorem bytes_conv (wr : World) (g n c : Nat) (l : List UInt8) (hn : n = l.length) (H1 : ∀ j, j < n → wr.cell? ⟨g, j, none⟩ = some (.int .u8 (l.getD j 0).toNat)) :
    (convert 34 9 (.slice (some ⟨g, 0, none⟩) n c)).run Try.prog wr = .ok (.string ⟨l.toArray⟩) wr := by
  have h := run_convert_bytes_arg wr 34 5 Try.underlying34 Try.underlying5 g 0 n c (l.map fun c => (c.toNat : Int)) (by simp [hn]) (fun i hi => by
    rw [Nat.zero_add, H1 i hi]
    simp [List.getD_eq_getElem?_getD, List.getElem?_eq_getElem (show i < l.length by omega)]) 9 Try.underlying9
  rw [h]
  have : (l.map fun c => (c.toNat : Int)).map (fun n => UInt8.ofNat n.toNat) = l := by
    rw [List.map_map]
    conv => rhs; rw [← List.map_id l]
    exact List.map_congr_left fun c _ => by simp
  unfold strOfNums
  rw [this]
/-- a row of bytes is there, and what was there ahead of it is as it was -/
structure Keeps (wr : World) (g n : Nat) (l : List UInt8) (w : World) : Prop where
  bytes : Bytes w g n l
  old : Below wr.heap.size wr w
theorem Keeps.drew {wr w : World} {g n : Nat} {l : List UInt8} (h : Keeps wr g n l w) : Keeps wr g n l w.drew := ⟨h.bytes, h.old.drew⟩
theorem Keeps.below {wr w w' : World} {g n : Nat} {l : List UInt8} (h : Keeps wr g n l w) (hb : Below w.heap.size w w') : Keeps wr g n l w' := ⟨h.bytes.below hb, bt h.old hb⟩
theorem turn_sees (f : Nat → UInt8) (l : List UInt8) (k q : Nat) (h4 : q ≤ 4) (hk : k + q ≤ l.length) : crcOf (turn f l k q) = crcOf l ↔ turn f l k q = l := by
  have e1 : turn f l k q = l.take k ++ ((turn f l k q).drop k).take q ++ l.drop (k + q) := by
    apply List.ext_getElem?
    intro i
    by_cases h1 : i < k
    · rw [List.append_assoc, List.getElem?_append_left (by simp; omega), List.getElem?_take_of_lt h1]
      simp only [turn, List.getElem?_mapIdx]
      cases l[i]? with
      | none => rfl
      | some c => simp; omega
    · by_cases h2 : i < k + q
      · rw [List.append_assoc, List.getElem?_append_right (by simp; omega), List.getElem?_append_left (by simp [turn_len]; omega)]
        rw [List.getElem?_take_of_lt (by simp; omega), List.getElem?_drop]
        congr 1; simp; omega
      · rw [List.getElem?_append_right (by simp [turn_len]; omega)]
        rw [List.getElem?_drop]
        rw [show k + q + (i - (l.take k ++ ((turn f l k q).drop k).take q).length) = i by simp [turn_len]; omega]
        simp only [turn, List.getElem?_mapIdx]
        cases l[i]? with
        | none => rfl
        | some c => simp; omega
  have e2 : l = l.take k ++ (l.drop k).take q ++ l.drop (k + q) := by
    rw [List.append_assoc, ← List.drop_drop, List.take_append_drop, List.take_append_drop]
  have h := crc_near (l.take k) (((turn f l k q).drop k).take q) ((l.drop k).take q) (l.drop (k + q)) (by simp; omega) (by simp [turn_len])
  rw [← e1, ← e2] at h
  rw [h]
  constructor
  · intro a; rw [e1, a]; exact e2.symm
  · intro a; rw [a]

end Go.Proofs.Ytpcpoppfmpnhoaa
