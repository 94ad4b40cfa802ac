/-
  States and errors in words (chapter 34): their parts.
-/
import Derived.Test.YtaddbljdheafaaaDoorCutsPlain
import Derived.Test.YtaddbljdheafaaaDoorCount
import Derived.Test.YtaddbljdheafaaaDoorVector
import Derived.Test.YtaddbljdheafaaaDoorCountHex2
import Derived.Test.YtaddbljdheafaaaDoorCyc
import Derived.Test.YtaddbljdheafaaaDoorDraw
import Derived.Test.YtaddbljdheafaaaDoorTexts
namespace Go.Proofs.YtaddbljdheafaaaDoor
open Go.RowKit
set_option linter.unusedVariables false
set_option linter.unusedSimpArgs false
set_option maxRecDepth 20000

theorem alb (W : World) (o : Obj) : Below W.heap.size W (W.alloc o) := (Below.refl _ _).alloc (Nat.le_refl _) _
theorem bdrw (w : World) : Below w.heap.size w w.drew := ⟨rfl, rfl, rfl, Nat.le_refl _, fun _ _ => rfl⟩
def vtextS (a b : Int) : ByteArray := textS a ++ ⟨#[46]⟩ ++ textS b
theorem textS_size (n : Int) : (textS n).size ≤ 21 := by
  show (textZ n).toArray.size ≤ 21
  rw [List.size_toArray]
  unfold textZ
  by_cases h : n < 0
  · rw [if_pos h]; have := digs_len (-n).toNat; simp; omega
  · rw [if_neg h]; have := digs_len n.toNat; simp; omega
set_option maxHeartbeats 1600000 in
theorem vtext_any (a b : Int) (w : World) (ha0 : -9223372036854775808 ≤ a) (ha : a ≤ 9223372036854775807) (hb0 : -9223372036854775808 ≤ b) (hb : b ≤ 9223372036854775807) : Calls Tryd.prog 50 #[VV a b] w fun e w' => e = .returned (.string (vtextS a b)) ∧ Below w.heap.size w w' := by
  have HA := Lib.hid (And.intro ha0 ha)
  have HC := Lib.hid (And.intro hb0 hb)
  clear ha0 ha hb0 hb
  have hs := textS_size a
  have hs2 := textS_size b
  have hz1 : ¬ 9223372036854775807 < (textS a).size + 1 := by omega
  have hz2 : ¬ 9223372036854775807 < (textS a).size + 1 + (textS b).size := by omega
  have c0 : (w.alloc (.cells #[.int .i64 a, .int .i64 b] 23)).cell? ⟨w.heap.size, 0, none⟩ = some (.int .i64 a) := by simp [go_sem]
  have c1 : (w.alloc (.cells #[.int .i64 a, .int .i64 b] 23)).cell? ⟨w.heap.size, 1, none⟩ = some (.int .i64 b) := by simp [go_sem]
  have HB : Below w.heap.size w (w.alloc (.cells #[.int .i64 a, .int .i64 b] 23)) := (Below.refl _ _).alloc (Nat.le_refl _) _
  go_enter Tryd.func50, Tryd.ntmps50
  go_wp2_with fail
  generalize w.alloc (.cells #[.int .i64 a, .int .i64 b] 23) = W at *
  replace HB := HB.drew
  go_region_held3 (fun w' => w'.cell? ⟨w.heap.size, 0, none⟩ = some (.int .i64 a) ∧ w'.cell? ⟨w.heap.size, 1, none⟩ = some (.int .i64 b)) (first | exact ⟨c0, c1⟩) (first | (go_at_call 31; first | ((with_reducible refine (text_any a _ HA.out.1 HA.out.2).mono ?_); rintro e w5 ⟨rfl, hb5⟩; replace c0 := bkeep hb5 c0; replace c1 := bkeep hb5 c1; replace HB := bt HB hb5) | ((with_reducible refine (text_any b _ HC.out.1 HC.out.2).mono ?_); rintro e w5 ⟨rfl, hb5⟩; replace c0 := bkeep hb5 c0; replace c1 := bkeep hb5 c1; replace HB := bt HB hb5)))
  go_wp2
  go_ret
  exact ⟨rfl, HB⟩
set_option maxHeartbeats 1600000 in
theorem rvtext_any (a b : Int) (w : World) (ha0 : -9223372036854775808 ≤ a) (ha : a ≤ 9223372036854775807) (hb0 : -9223372036854775808 ≤ b) (hb : b ≤ 9223372036854775807) : Calls Tryd.prog 35 #[VV a b] w fun e w' => e = .returned (.string (vtextS a b)) ∧ Below w.heap.size w w' := by
  have HA := Lib.hid (And.intro ha0 ha)
  have HC := Lib.hid (And.intro hb0 hb)
  clear ha0 ha hb0 hb
  have hs := textS_size a
  have hs2 := textS_size b
  have hz1 : ¬ 9223372036854775807 < (textS a).size + 1 := by omega
  have hz2 : ¬ 9223372036854775807 < (textS a).size + 1 + (textS b).size := by omega
  have c0 : (w.alloc (.cells #[.int .i64 a, .int .i64 b] 23)).cell? ⟨w.heap.size, 0, none⟩ = some (.int .i64 a) := by simp [go_sem]
  have c1 : (w.alloc (.cells #[.int .i64 a, .int .i64 b] 23)).cell? ⟨w.heap.size, 1, none⟩ = some (.int .i64 b) := by simp [go_sem]
  have HB : Below w.heap.size w (w.alloc (.cells #[.int .i64 a, .int .i64 b] 23)) := (Below.refl _ _).alloc (Nat.le_refl _) _
  go_enter Tryd.func35, Tryd.ntmps35
  go_wp2_with fail
  generalize w.alloc (.cells #[.int .i64 a, .int .i64 b] 23) = W at *
  replace HB := HB.drew
  go_region_held3 (fun w' => w'.cell? ⟨w.heap.size, 0, none⟩ = some (.int .i64 a) ∧ w'.cell? ⟨w.heap.size, 1, none⟩ = some (.int .i64 b)) (first | exact ⟨c0, c1⟩) (first | (go_at_call 34; first | ((with_reducible refine (rtext_any a _ HA.out.1 HA.out.2).mono ?_); rintro e w5 ⟨rfl, hb5⟩; replace c0 := bkeep hb5 c0; replace c1 := bkeep hb5 c1; replace HB := bt HB hb5) | ((with_reducible refine (rtext_any b _ HC.out.1 HC.out.2).mono ?_); rintro e w5 ⟨rfl, hb5⟩; replace c0 := bkeep hb5 c0; replace c1 := bkeep hb5 c1; replace HB := bt HB hb5)))
  go_wp2
  go_ret
  exact ⟨rfl, HB⟩
def sumS (d : ByteArray) : ByteArray := hexS (le4 (crcOf d.data.toList))
def verS (a b : Int) (d : ByteArray) : ByteArray := (vtextS a b ++ spB) ++ sumS d
theorem le4_size (n : Nat) : (le4 n).size = 4 := by simp [le4, strOfNums_size]
theorem sumS_size (d : ByteArray) : (sumS d).size = 8 := by unfold sumS; rw [hexS_size, le4_size]
theorem vtextS_size (a b : Int) : (vtextS a b).size ≤ 43 := by
  unfold vtextS
  rw [ByteArray.size_append, ByteArray.size_append]
  have := textS_size a
  have := textS_size b
  have : (⟨#[46]⟩ : ByteArray).size = 1 := rfl
  omega
theorem verS_size (a b : Int) (d : ByteArray) : (verS a b d).size ≤ 52 := by
  unfold verS
  rw [ByteArray.size_append, ByteArray.size_append, sumS_size]
  have := vtextS_size a b
  have : spB.size = 1 := rfl
  omega
theorem sum_any (d : ByteArray) (w : World) (hd : d.size ≤ maxLen) : Calls Tryd.prog 15 #[.string d] w fun e w' => e = .returned (.string (sumS d)) ∧ Below w.heap.size w w' := by
  have h1 := Lib.hid (fun W => ctail_any d W hd)
  have h2 := Lib.hid (fun W => hex_any (le4 (crcOf d.data.toList)) W (by rw [le4_size]; decide))
  have hE : ∀ W, Below w.heap.size w W → (fun (e : Ending) (w' : World) => e = .returned (.string (sumS d)) ∧ Below w.heap.size w w') (.returned (.string (hexS (le4 (crcOf d.data.toList))))) W := fun W h => ⟨rfl, h⟩
  generalize (fun (e : Ending) (w' : World) => e = .returned (.string (sumS d)) ∧ Below w.heap.size w w') = Pst at *
  replace hE := Lib.hid hE
  generalize le4 (crcOf d.data.toList) = t at *
  go_enter Tryd.func15, Tryd.ntmps15
  go_wp2_with (first | (go_at_call 37; (with_reducible refine (h1.out _).mono ?_); rintro e1 w1 ⟨rfl, hA⟩) | (go_at_call 36; (with_reducible refine (h2.out _).mono ?_); rintro e2 w2 ⟨rfl, hB⟩))
  exact hE.out _ (bt hA hB)
theorem rsum_any (d : ByteArray) (w : World) (hd : d.size ≤ maxLen) : Calls Tryd.prog 16 #[.string d] w fun e w' => e = .returned (.string (sumS d)) ∧ Below w.heap.size w w' := by
  have h1 := Lib.hid (fun W => creftail_any d W hd)
  have h2 := Lib.hid (fun W => rhex_any (le4 (crcOf d.data.toList)) W (by rw [le4_size]; decide))
  have hE : ∀ W, Below w.heap.size w W → (fun (e : Ending) (w' : World) => e = .returned (.string (sumS d)) ∧ Below w.heap.size w w') (.returned (.string (hexS (le4 (crcOf d.data.toList))))) W := fun W h => ⟨rfl, h⟩
  generalize (fun (e : Ending) (w' : World) => e = .returned (.string (sumS d)) ∧ Below w.heap.size w w') = Pst at *
  replace hE := Lib.hid hE
  generalize le4 (crcOf d.data.toList) = t at *
  go_enter Tryd.func16, Tryd.ntmps16
  go_wp2_with (first | (go_at_call 39; (with_reducible refine (h1.out _).mono ?_); rintro e1 w1 ⟨rfl, hA⟩) | (go_at_call 38; (with_reducible refine (h2.out _).mono ?_); rintro e2 w2 ⟨rfl, hB⟩))
  exact hE.out _ (bt hA hB)
def V3 (W : World) (K : Nat) (a b : Int) (d : ByteArray) : Prop := W.cell? ⟨K, 0, none⟩ = some (.int .i64 a) ∧ W.cell? ⟨K, 1, none⟩ = some (.int .i64 b) ∧ W.cell? ⟨K, 2, none⟩ = some (.string d)
theorem V3.below {W W' : World} {K : Nat} {a b : Int} {d : ByteArray} (h : V3 W K a b d) (hb : Below W.heap.size W W') : V3 W' K a b d := ⟨bkeep hb h.1, bkeep hb h.2.1, bkeep hb h.2.2⟩
theorem V3.new (W : World) (T : TypeId) (a b : Int) (d : ByteArray) : V3 (W.alloc (.cells #[.int .i64 a, .int .i64 b, .string d] T)) W.heap.size a b d := ⟨by simp [go_sem], by simp [go_sem], by simp [go_sem]⟩
def I64 (a : Int) : Prop := -9223372036854775808 ≤ a ∧ a ≤ 9223372036854775807
theorem version_any (a b : Int) (d : ByteArray) (w : World) (ha : I64 a) (hb : I64 b) (hd : d.size ≤ maxLen) : Calls Tryd.prog 33 #[.agg #[.int .i64 a, .int .i64 b, .string d]] w fun e w' => e = .returned (.string (verS a b d)) ∧ Below w.heap.size w w' := by
  have hT := fun W => vtext_any a b W ha.1 ha.2 hb.1 hb.2
  have hS := Lib.hid (fun W => sum_any d W hd)
  have hE : ∀ W, Below w.heap.size w W → (fun (e : Ending) (w' : World) => e = .returned (.string (verS a b d)) ∧ Below w.heap.size w w') (.returned (.string ((vtextS a b ++ ⟨#[32]⟩) ++ sumS d))) W := fun W h => ⟨rfl, h⟩
  have z1 := vtextS_size a b
  have z2 := Nat.le_of_eq (sumS_size d)
  generalize (fun (e : Ending) (w' : World) => e = .returned (.string (verS a b d)) ∧ Below w.heap.size w w') = Pst at *
  replace hE := Lib.hid hE
  generalize vtextS a b = t at *
  generalize sumS d = u at *
  replace hT := Lib.hid hT
  have hz1 : ¬ 9223372036854775807 < t.size + 1 := by omega
  have hz2 : ¬ 9223372036854775807 < t.size + 1 + u.size := by omega
  have hz3 : ¬ 9223372036854775807 < (t ++ ⟨#[32]⟩ : ByteArray).size + u.size := by rw [ByteArray.size_append]; exact hz2
  obtain ⟨W0, hW0⟩ : ∃ W0, w.alloc (.cells #[.int .i64 a, .int .i64 b, .string d] 25) = W0 := ⟨_, rfl⟩
  have hc := Lib.hid (hW0 ▸ V3.new w 25 a b d)
  have hb0 : Below w.heap.size w W0 := hW0 ▸ alb w _
  have hr2 := Lib.hid (hc.out.below (bdrw W0))
  have hb2 := Lib.hid (bt hb0 (bdrw W0))
  go_enter Tryd.func33, Tryd.ntmps33
  go_wp2_with fail
  clear hc hb0
  refine wp_region_held_drew (S := (fun w' => V3 w' w.heap.size a b d)) (by kernel_rfl) ?_ (fun hHeld => ?_)
  · first | with_reducible exact hr2.out
  first | (refine tw (i := 0) (v := ?_) ?_ hHeld ?_; rotate_left; focus (intro w hSw; (try dsimp only at hSw); (try simp only [V3] at hSw); go_simp; (try with_reducible rfl); done)) | refine tn (i := 0) hHeld ?_
  try simp only [Act.put, List.setIfInBounds_toArray, List.set_cons_zero, List.set_cons_succ]
  first | (refine tw (i := 1) (v := ?_) ?_ hHeld ?_; rotate_left; focus (intro w hSw; (try dsimp only at hSw); (try simp only [V3] at hSw); go_simp; (try with_reducible rfl); done)) | refine tn (i := 1) hHeld ?_
  try simp only [Act.put, List.setIfInBounds_toArray, List.set_cons_zero, List.set_cons_succ]
  first | (refine tw (i := 4) (v := ?_) ?_ hHeld ?_; rotate_left; focus (intro w hSw; (try dsimp only at hSw); (try simp only [V3] at hSw); go_simp; (try with_reducible rfl); done)) | refine tn (i := 4) hHeld ?_
  try simp only [Act.put, List.setIfInBounds_toArray, List.set_cons_zero, List.set_cons_succ]
  first | (refine tw (i := 5) (v := ?_) ?_ hHeld ?_; rotate_left; focus (intro w hSw; (try dsimp only at hSw); (try simp only [V3] at hSw); go_simp; (try with_reducible rfl); done)) | refine tn (i := 5) hHeld ?_
  try simp only [Act.put, List.setIfInBounds_toArray, List.set_cons_zero, List.set_cons_succ]
  refine call_next (i := 2) (by kernel_rfl) (by rfl) ?_
  intro o ho K hK
  simp only [List.getElem?_toArray, List.getElem?_cons_succ, List.getElem?_cons_zero, Option.some.injEq] at ho
  subst ho
  first | (fail; refine hK.out _ _ ?_ (fun hHeld => ?_)) | (go_simp; first | (with_reducible refine hK.out _ _ ?_ (fun hHeld => ?_)) | ((first | (go_at_call 50; (with_reducible refine (hT.out _).mono ?_); rintro e5 w5 ⟨rfl, hA⟩; replace hr2 := Lib.hid (hr2.out.below hA); replace hb2 := Lib.hid (bt hb2.out hA); clear hA) | (go_at_call 15; (with_reducible refine (hS.out _).mono ?_); rintro e5 w5 ⟨rfl, hA⟩; replace hr2 := Lib.hid (hr2.out.below hA); replace hb2 := Lib.hid (bt hb2.out hA); clear hA)); refine hK.out _ _ ?_ (fun hHeld => ?_)))
  · first | with_reducible exact hr2.out
  clear hK K
  try simp only [Act.put, List.setIfInBounds_toArray, List.set_cons_zero, List.set_cons_succ]
  first | (refine tw (i := 3) (v := ?_) ?_ hHeld ?_; rotate_left; focus (intro w hSw; (try dsimp only at hSw); (try simp only [V3] at hSw); go_simp; (try with_reducible rfl); done)) | refine tn (i := 3) hHeld ?_
  try simp only [Act.put, List.setIfInBounds_toArray, List.set_cons_zero, List.set_cons_succ]
  refine call_next (i := 6) (by kernel_rfl) (by rfl) ?_
  intro o ho K hK
  simp only [List.getElem?_toArray, List.getElem?_cons_succ, List.getElem?_cons_zero, Option.some.injEq] at ho
  subst ho
  first | (fail; refine hK.out _ _ ?_ (fun hHeld => ?_)) | (go_simp; first | (with_reducible refine hK.out _ _ ?_ (fun hHeld => ?_)) | ((first | (go_at_call 50; (with_reducible refine (hT.out _).mono ?_); rintro e5 w5 ⟨rfl, hA⟩; replace hr2 := Lib.hid (hr2.out.below hA); replace hb2 := Lib.hid (bt hb2.out hA); clear hA) | (go_at_call 15; (with_reducible refine (hS.out _).mono ?_); rintro e5 w5 ⟨rfl, hA⟩; replace hr2 := Lib.hid (hr2.out.below hA); replace hb2 := Lib.hid (bt hb2.out hA); clear hA)); refine hK.out _ _ ?_ (fun hHeld => ?_)))
  · first | with_reducible exact hr2.out
  clear hK K
  try simp only [Act.put, List.setIfInBounds_toArray, List.set_cons_zero, List.set_cons_succ]
  first | (refine tw (i := 7) (v := ?_) ?_ hHeld ?_; rotate_left; focus (intro w hSw; (try dsimp only at hSw); (try simp only [V3] at hSw); go_simp; (try with_reducible rfl); done)) | refine tn (i := 7) hHeld ?_
  try simp only [Act.put, List.setIfInBounds_toArray, List.set_cons_zero, List.set_cons_succ]
  first | (refine tw (i := 8) (v := ?_) ?_ hHeld ?_; rotate_left; focus (intro w hSw; (try dsimp only at hSw); (try simp only [V3] at hSw); go_simp; (try with_reducible rfl); done)) | refine tn (i := 8) hHeld ?_
  try simp only [Act.put, List.setIfInBounds_toArray, List.set_cons_zero, List.set_cons_succ]
  refine wpAnyH_done (by kernel_rfl) ?_ _
  go_wp2
  exact hE.out _ hb2.out
/-- the words so far -/
def WR (w : World) (l : List ByteArray) (s i : Value) (wr : World) : Prop := ∃ k : Nat, k ≤ l.length ∧ i = .int .i64 k ∧ s = .string (jn (l.take k)) ∧ Hid (Below w.heap.size w wr)
theorem jn_take {l : List ByteArray} {k : Nat} {x : ByteArray} (h : l[k]? = some x) (h0 : 0 < k) : jn (l.take (k + 1)) = (jn (l.take k) ++ spB) ++ x := by
  have hk : k < l.length := (List.getElem?_eq_some_iff.1 h).1
  rw [List.take_add_one, h]
  exact jn_snoc x (by
    intro e
    have := congrArg List.length e
    rw [List.length_take, Nat.min_eq_left (by omega), List.length_nil] at this
    omega)
theorem jn_mono (l : List ByteArray) : ∀ d k, k + d = l.length → (jn (l.take k)).size ≤ (jn l).size
  | 0, k, h => by rw [List.take_of_length_le (by omega)]; exact Nat.le_refl _
  | d + 1, k, h => by
    refine Nat.le_trans ?_ (jn_mono l d (k + 1) (by omega))
    obtain ⟨x, hx⟩ : ∃ x, l[k]? = some x := ⟨_, List.getElem?_eq_getElem (by omega)⟩
    by_cases h0 : 0 < k
    · rw [jn_take hx h0, ByteArray.size_append, ByteArray.size_append]; omega
    · obtain rfl : k = 0 := by omega
      rw [List.take_zero, jn_nil]; exact Nat.zero_le _
set_option maxHeartbeats 1600000 in
theorem words_ref (v : Value) (l : List ByteArray) (w : World) (hl : TX w 0 v l) (hn : (jn l).size ≤ 1099511627776) (hm : l.length ≤ 1099511627776) : Calls Tryd.prog 27 #[v] w fun e w' => e = .returned (.string (jn l)) ∧ Below w.heap.size w w' := by
  obtain ⟨a, cap, rfl⟩ := hl.len
  have hE : ∀ W, Below w.heap.size w W → (fun (e : Ending) (w' : World) => e = .returned (.string (jn l)) ∧ Below w.heap.size w w') (.returned (.string (jn l))) W := fun W h => ⟨rfl, h⟩
  generalize (fun (e : Ending) (w' : World) => e = .returned (.string (jn l)) ∧ Below w.heap.size w w') = Pst at *
  replace hE := Lib.hid hE
  replace hl := Lib.hid hl
  go_enter Tryd.func27, Tryd.ntmps27
  go_wp2
  go_loopw [3, 4] (fun s i wr => WR w l s i wr) (fun _ i _ => l.length - (intOf i).toNat)
  case atStart => exact ⟨0, Nat.zero_le _, rfl, rfl, Below.refl _ _⟩
  case round =>
    obtain ⟨k, hk, rfl, rfl, hB⟩ := hrel
    by_cases hlt : k < l.length
    · have hd2 : decide ((k : Int) < (l.length : Int)) = true := decide_eq_true (by omega)
      have hd3 : decide (k < l.length) = true := decide_eq_true hlt
      obtain ⟨x, hx⟩ : ∃ x, l[k]? = some x := ⟨_, List.getElem?_eq_getElem hlt⟩
      obtain ⟨g, o, rfl, p0⟩ : ∃ g o, a = some ⟨g, o, none⟩ ∧ w.cell? ⟨g, o + k, none⟩ = some (.string x) := by
        rcases hl.out with ⟨e, e2⟩ | ⟨g, o, c2, e, _, _, hc⟩
        · subst e2; simp at hlt
        · injection e with e1 e2 e3
          refine ⟨g, o, e1, ?_⟩
          have := hc k hlt
          rwa [show l[k] = x from (List.getElem?_eq_some_iff.1 hx).2] at this
      have p0 := bkeep hB.out p0
      have i1 : (0 : Int) ≤ (k : Int) := by omega
      have i2 : (k : Int) < (l.length : Int) := by omega
      have hmo := Nat.le_trans (jn_mono l (l.length - (k + 1)) (k + 1) (by omega)) hn
      by_cases h0 : 0 < k
      · have hd4 : decide ((0 : Int) < (k : Int)) = true := decide_eq_true (by omega)
        have hd5 : decide (0 < k) = true := decide_eq_true h0
        have hs := jn_take hx h0
        rw [hs, ByteArray.size_append, ByteArray.size_append] at hmo
        have hsp : spB.size = 1 := rfl
        have hsp2 : (⟨#[32]⟩ : ByteArray) = spB := rfl
        have hz1 : ¬ 9223372036854775807 < (jn (l.take k)).size + 1 := by omega
        have hz2 : ¬ 9223372036854775807 < (jn (l.take k)).size + 1 + x.size := by omega
        generalize jn (l.take k) = J at *
        replace hs := Lib.hid hs
        clear hx
        go_wp2
        exact ⟨⟨k + 1, by omega, by go_num, by rw [hs.out], hB⟩, by simp [intOf]; omega⟩
      · obtain rfl : k = 0 := by omega
        have hs : jn (l.take (0 + 1)) = ByteArray.empty ++ x := by
          rw [List.take_add_one, hx, List.take_zero]
          exact (jn_one x).trans (by simp)
        have hs0 : jn (l.take 0) = ByteArray.empty := rfl
        rw [hs0]
        rw [hs] at hmo
        rw [Nat.add_zero] at p0
        have hz2 : ¬ 9223372036854775807 < x.size := by rw [ByteArray.size_append] at hmo; have : ByteArray.empty.size = 0 := rfl; omega
        have hz3 : ¬ 9223372036854775807 < (0 : Nat) + x.size := by omega
        have hz4 : ¬ 9223372036854775807 < ByteArray.empty.size + x.size := hz3
        have hd4 : decide ((0 : Int) < ((0 : Nat) : Int)) = false := rfl
        replace hs := Lib.hid hs
        clear hx hs0
        go_wp2
        exact ⟨⟨1, by omega, rfl, by rw [show (1 : Nat) = 0 + 1 from rfl, hs.out]; simp, hB⟩, by simp [intOf]; omega⟩
    · have hd2 : decide ((k : Int) < (l.length : Int)) = false := decide_eq_false (by omega)
      have hd3 : decide (k < l.length) = false := decide_eq_false hlt
      have he : l.take k = l := List.take_of_length_le (by omega)
      rw [he]
      go_wp2
      exact hE.out _ hB.out
end Go.Proofs.YtaddbljdheafaaaDoor
