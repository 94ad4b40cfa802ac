/-
  The reference's box: the next line, all that is left.
-/
import Derived.Test.YtmhmdcfdodiphaaInboxRef
namespace Go.Proofs.Ytmhmdcfdodiphaa
open Go.RowKit
set_option linter.unusedVariables false
set_option linter.unusedSimpArgs false

def RNext (w : World) (q B : Nat) (U O : List ByteArray) (n : Nat) (cl : Bool) (x : ByteArray) (ok : Bool) (e : Ending) (w' : World) : Prop := e = .returned (.tuple #[.string x, .bool ok]) ∧ RBx w' q B U O n cl ∧ Frm (· = q) w w'
theorem TX.tail1 {w : World} {B g o : Nat} {x : ByteArray} {L : List ByteArray} (hB : B ≤ g) (hc : ∀ k (h : k < (x :: L).length), w.cell? ⟨g, o + k, none⟩ = some (.string (x :: L)[k])) (hl : L.length ≤ 0) : TX w B (.slice (some ⟨g, o, none⟩) 0 0) L := by
  obtain rfl : L = [] := List.length_eq_zero_iff.1 (by omega)
  exact .inr ⟨g, o, 0, rfl, Nat.le_refl _, hB, fun k hk => by simp at hk⟩
theorem TX.tail2 {w : World} {B g o cap : Nat} {x : ByteArray} {L : List ByteArray} (hB : B ≤ g) (hc : ∀ k (h : k < (x :: L).length), w.cell? ⟨g, o + k, none⟩ = some (.string (x :: L)[k])) (hl : L.length ≤ cap) : TX w B (.slice (some ⟨g, o + 1, none⟩) L.length cap) L :=
  .inr ⟨g, o + 1, cap, rfl, hl, hB, fun k hk => by have := hc (k + 1) (by simp; omega); rw [Nat.add_assoc, Nat.add_comm 1 k]; simpa using this⟩
theorem rnext_t (q B : Nat) (O : List ByteArray) (x : ByteArray) (L : List ByteArray) (n : Nat) (cl : Bool) (w : World) (h : RBx w q B (x :: L) O n cl) (hl : L.length ≤ 1000) : Calls Try.prog 12 #[.pointer (some ⟨q, 0, none⟩)] w
    (RNext w q B L O n cl x true) := by
  obtain ⟨vu, vo, HX⟩ := h
  have hc0 := HX.c0
  have hc1 := HX.c1
  have hf0 := HX.f0
  have hq := HX.lt
  rcases HX.u with ⟨_, hn⟩ | ⟨g, o, cap, hv, hcap, hB, hc⟩
  · cases hn
  obtain ⟨k, hk⟩ : ∃ k, L.length = k := ⟨_, rfl⟩
  have hx : w.cell? ⟨g, o, none⟩ = some (.string x) := by have := hc 0 (by simp); rw [Nat.add_zero] at this; exact this
  rw [hv, List.length_cons, hk] at hc0
  rw [List.length_cons, hk] at hcap
  have hgq : g ≠ q := by omega
  have hset1 := fun hl => HX.set0 (TX.tail1 (L := L) hB hc hl)
  have hset2 := fun cp hl => HX.set0 (TX.tail2 (cap := cp) hB hc hl)
  rw [hk] at hset2 hset1
  have hset1 := Lib.hid hset1
  have hset2 := Lib.hid hset2
  have HK := Lib.hid hk
  clear hk hv hc
  have hk1 : k ≤ 1000 := by have := HK.out; omega
  by_cases h1 : cap = 1
  · obtain rfl := h1
    obtain rfl : k = 0 := by omega
    go_enter Try.func12, Try.ntmps12
    go_wp2
    go_ret2
    exact ⟨rfl, hset1.out (Nat.le_refl _), Frm.one _ _ _ _⟩
  · go_enter Try.func12, Try.ntmps12
    go_wp2
    go_ret2
    exact ⟨rfl, hset2.out _ (by omega), Frm.one _ _ _ _⟩
theorem rnext_f (q B : Nat) (U : List ByteArray) (x : ByteArray) (L : List ByteArray) (n : Nat) (cl : Bool) (w : World) (hU0 : U = []) (h : RBx w q B U (x :: L) n cl) (hl : L.length ≤ 1000) : Calls Try.prog 12 #[.pointer (some ⟨q, 0, none⟩)] w
    (RNext w q B U L n cl x true) := by
  obtain ⟨vu, vo, HX⟩ := h
  have hc0 := HX.c0
  have hc1 := HX.c1
  have hf1 := HX.f1
  have hq := HX.lt
  rcases HX.o with ⟨_, hn⟩ | ⟨g, o, cap, hv, hcap, hB, hc⟩
  · cases hn
  obtain ⟨k, hk⟩ : ∃ k, L.length = k := ⟨_, rfl⟩
  have hx : w.cell? ⟨g, o, none⟩ = some (.string x) := by have := hc 0 (by simp); rw [Nat.add_zero] at this; exact this
  rw [hv, List.length_cons, hk] at hc1
  rw [List.length_cons, hk] at hcap
  have hgq : g ≠ q := by omega
  have hset1 := fun hl => HX.set1 (TX.tail1 (L := L) hB hc hl)
  have hset2 := fun cp hl => HX.set1 (TX.tail2 (cap := cp) hB hc hl)
  rw [hk] at hset2 hset1
  obtain ⟨a0, cap0, hva⟩ := HX.u.len
  rw [hva, hU0, List.length_nil] at hc0
  have HU0 := Lib.hid hU0
  clear hU0 hva
  have hset1 := Lib.hid hset1
  have hset2 := Lib.hid hset2
  have HK := Lib.hid hk
  clear hk hv hc
  have hk1 : k ≤ 1000 := by have := HK.out; omega
  by_cases h1 : cap = 1
  · obtain rfl := h1
    obtain rfl : k = 0 := by omega
    go_enter Try.func12, Try.ntmps12
    go_wp2
    go_ret2
    exact ⟨rfl, hset1.out (Nat.le_refl _), Frm.one _ _ _ _⟩
  · go_enter Try.func12, Try.ntmps12
    go_wp2
    go_ret2
    exact ⟨rfl, hset2.out _ (by omega), Frm.one _ _ _ _⟩
theorem rnext_n (q B : Nat) (n : Nat) (cl : Bool) (w : World) (h : RBx w q B [] [] n cl) : Calls Try.prog 12 #[.pointer (some ⟨q, 0, none⟩)] w
    (RNext w q B [] [] n cl ⟨#[]⟩ false) := by
  obtain ⟨vu, vo, HX⟩ := h
  have hc0 := HX.c0
  have hc1 := HX.c1
  obtain ⟨a0, cap0, hva⟩ := HX.u.len
  obtain ⟨a1, cap1, hvb⟩ := HX.o.len
  rw [hva, List.length_nil] at hc0
  rw [hvb, List.length_nil] at hc1
  clear hva hvb
  go_enter Try.func12, Try.ntmps12
  go_wp2
  go_ret2
  exact ⟨rfl, ⟨_, _, HX⟩, Frm.refl _ _⟩
theorem rnext_any (q B : Nat) (U O : List ByteArray) (n : Nat) (cl : Bool) (w : World) (h : RBx w q B U O n cl) (hu : U.length ≤ 1000) (ho : O.length ≤ 1000) : Calls Try.prog 12 #[.pointer (some ⟨q, 0, none⟩)] w
    (RNext w q B U.tail (if U.isEmpty then O.tail else O) n cl (nextV U O) (!(U.isEmpty && O.isEmpty))) := by
  match U, O with
  | x :: U, O => exact rnext_t q B O x U n cl w h (by simp at hu; omega)
  | [], x :: O => exact rnext_f q B [] x O n cl w rfl h (by simp at ho; omega)
  | [], [] => exact rnext_n q B n cl w h
theorem rrest_open (q B : Nat) (U O : List ByteArray) (n : Nat) (w : World) (h : RBx w q B U O n false) : Calls Try.prog 15 #[.pointer (some ⟨q, 0, none⟩)] w fun e w' => e = .returned (.tuple #[.slice none 0 0, .int .i64 10]) ∧ w = w' := by
  obtain ⟨vu, vo, HX⟩ := h
  have hc3 := HX.c3
  go_enter Try.func15, Try.ntmps15
  go_wp2
  go_ret2
  exact ⟨rfl, rfl⟩
def RRest (w : World) (q B : Nat) (n : Nat) (L : List ByteArray) (e : Ending) (w' : World) : Prop := ∃ v, e = .returned (.tuple #[v, .int .i64 0]) ∧ TX w' B v L ∧ RBx w' q B [] [] n true ∧ Frm (· = q) w w'
structure Held (q B : Nat) (vu vo : Value) (U O : List ByteArray) (w : World) : Prop where
  c0 : w.cell? ⟨q, 0, none⟩ = some vu
  c1 : w.cell? ⟨q, 1, none⟩ = some vo
  u : TX w 0 vu U
  o : TX w 0 vo O
theorem Held.below {q B : Nat} {vu vo : Value} {U O : List ByteArray} {w w' : World} (h : Held q B vu vo U O w) (hb : Below w.heap.size w w') : Held q B vu vo U O w' :=
  ⟨bkeep hb h.c0, bkeep hb h.c1, h.u.below hb, h.o.below hb⟩
theorem Held.drew {q B : Nat} {vu vo : Value} {U O : List ByteArray} {w : World} (h : Held q B vu vo U O w) : Held q B vu vo U O w.drew :=
  ⟨h.c0, h.c1, h.u, h.o⟩
set_option maxHeartbeats 1000000 in
theorem rrest_any (q B : Nat) (U O : List ByteArray) (n : Nat) (w : World) (h : RBx w q B U O n true) (hB : B ≤ w.heap.size) (hu : U.length ≤ 1000) (ho : O.length ≤ 1000) : Calls Try.prog 15 #[.pointer (some ⟨q, 0, none⟩)] w (RRest w q B n (U ++ O)) := by
  obtain ⟨vu, vo, HX⟩ := h
  have hc3 := HX.c3
  have HH : Held q B vu vo U O w := ⟨HX.c0, HX.c1, HX.u.mono (Nat.zero_le _), HX.o.mono (Nat.zero_le _)⟩
  have HM := Strs.made w.drew w.heap.size (Nat.le_refl _)
  have HA : Below w.drew.heap.size w.drew (w.drew.alloc (.cells #[] 9)) := (Below.refl _ _).alloc (Nat.le_refl _) _
  have HHA := HH.drew.below HA
  have hf0 := HX.f0
  have hf1 := HX.f1
  have hwz := HX.c0
  have hq : q < w.heap.size := World.block_lt_of_cell? w _ HX.c0
  clear hwz
  go_enter Try.func15, Try.ntmps15
  go_wp2
  refine wp_region_held_drew (S := Held q B vu vo U O) (by kernel_rfl) ?_ (fun hHeld => ?_)
  · first | exact HH.drew | exact HHA | exact HG2 | exact HG1 | exact hHeld
  first | (refine tw (i := 1) (v := ?_) ?_ hHeld ?_; rotate_left; focus (intro w hSw; (try dsimp only at hSw); have hS0 := hSw.c0; have hS1 := hSw.c1; go_simp; (try with_reducible rfl); done)) | refine tn (i := 1) hHeld ?_
  try simp only [Act.put, List.setIfInBounds_toArray, List.set_cons_zero, List.set_cons_succ]
  first | (refine tw (i := 2) (v := ?_) ?_ hHeld ?_; rotate_left; focus (intro w hSw; (try dsimp only at hSw); have hS0 := hSw.c0; have hS1 := hSw.c1; go_simp; (try with_reducible rfl); done)) | refine tn (i := 2) hHeld ?_
  try simp only [Act.put, List.setIfInBounds_toArray, List.set_cons_zero, List.set_cons_succ]
  first | (refine tw (i := 3) (v := ?_) ?_ hHeld ?_; rotate_left; focus (intro w hSw; (try dsimp only at hSw); have hS0 := hSw.c0; have hS1 := hSw.c1; go_simp; (try with_reducible rfl); done)) | refine tn (i := 3) hHeld ?_
  try simp only [Act.put, List.setIfInBounds_toArray, List.set_cons_zero, List.set_cons_succ]
  first | (refine tw (i := 4) (v := ?_) ?_ hHeld ?_; rotate_left; focus (intro w hSw; (try dsimp only at hSw); have hS0 := hSw.c0; have hS1 := hSw.c1; go_simp; (try with_reducible rfl); done)) | refine tn (i := 4) hHeld ?_
  try simp only [Act.put, List.setIfInBounds_toArray, List.set_cons_zero, List.set_cons_succ]
  first | (refine tw (i := 6) (v := ?_) ?_ hHeld ?_; rotate_left; focus (intro w hSw; (try dsimp only at hSw); have hS0 := hSw.c0; have hS1 := hSw.c1; go_simp; (try with_reducible rfl); done)) | refine tn (i := 6) hHeld ?_
  try simp only [Act.put, List.setIfInBounds_toArray, List.set_cons_zero, List.set_cons_succ]
  first | (refine tw (i := 7) (v := ?_) ?_ hHeld ?_; rotate_left; focus (intro w hSw; (try dsimp only at hSw); have hS0 := hSw.c0; have hS1 := hSw.c1; go_simp; (try with_reducible rfl); done)) | refine tn (i := 7) hHeld ?_
  try simp only [Act.put, List.setIfInBounds_toArray, List.set_cons_zero, List.set_cons_succ]
  first | (refine tw (i := 8) (v := ?_) ?_ hHeld ?_; rotate_left; focus (intro w hSw; (try dsimp only at hSw); have hS0 := hSw.c0; have hS1 := hSw.c1; go_simp; (try with_reducible rfl); done)) | refine tn (i := 8) hHeld ?_
  try simp only [Act.put, List.setIfInBounds_toArray, List.set_cons_zero, List.set_cons_succ]
  first | (refine tw (i := 9) (v := ?_) ?_ hHeld ?_; rotate_left; focus (intro w hSw; (try dsimp only at hSw); have hS0 := hSw.c0; have hS1 := hSw.c1; go_simp; (try with_reducible rfl); done)) | refine tn (i := 9) hHeld ?_
  try simp only [Act.put, List.setIfInBounds_toArray, List.set_cons_zero, List.set_cons_succ]
  refine call_next (i := 0) (by kernel_rfl) (by rfl) ?_
  intro o ho K hK
  simp only [List.getElem?_toArray, List.getElem?_cons_succ, List.getElem?_cons_zero, Option.some.injEq] at ho
  subst ho
  first | ((first | (refine step_app_tx rfl (.tmp 10) (.tmp 14) _ w.heap.size _ _ [] U rfl rfl HM HHA.u (by simp; omega) (by simp) ?_ rfl rfl; intro v1 w1 hs1 hy1; have hb1 : Below w.heap.size w w1 := below_of ((((Frm.refl _ w).drew).alloc _).trans hy1); have HG1 := HH.below hb1) | (refine step_app_tx rfl (.tmp 15) (.tmp 19) _ w.heap.size _ _ ([] ++ U) O rfl rfl hs1 HG1.o (by simp; omega) hb1.size ?_ rfl rfl; intro v2 w2 hs2 hy2; have hb2 : Below w.heap.size w w2 := below_of ((Frm.mono (S' := fun k => w.heap.size ≤ k) (.ofBelow (S := fun k => w.heap.size ≤ k) hb1) (fun k _ h => h)).trans hy2); have HG2 := HH.below hb2)); refine hK.out _ _ ?_ (fun hHeld => ?_)) | (go_simp; first | (with_reducible refine hK.out _ _ ?_ (fun hHeld => ?_)) | (fail; refine hK.out _ _ ?_ (fun hHeld => ?_)))
  · first | exact HH.drew | exact HHA | exact HG2 | exact HG1 | exact hHeld
  clear hK K
  try simp only [Act.put, List.setIfInBounds_toArray, List.set_cons_zero, List.set_cons_succ]
  refine call_next (i := 5) (by kernel_rfl) (by rfl) ?_
  intro o ho K hK
  simp only [List.getElem?_toArray, List.getElem?_cons_succ, List.getElem?_cons_zero, Option.some.injEq] at ho
  subst ho
  (first | (refine step_app_tx rfl (.tmp 10) (.tmp 14) _ w.heap.size _ _ [] U rfl rfl HM HHA.u (by simp; omega) (by simp) ?_ rfl rfl; intro v1 w1 hs1 hy1; have hb1 : Below w.heap.size w w1 := below_of ((((Frm.refl _ w).drew).alloc _).trans hy1); have HG1 := HH.below hb1) | (refine step_app_tx rfl (.tmp 15) (.tmp 19) _ w.heap.size _ _ ([] ++ U) O rfl rfl hs1 HG1.o (by simp; omega) hb1.size ?_ rfl rfl; intro v2 w2 hs2 hy2; have hb2 : Below w.heap.size w w2 := below_of ((Frm.mono (S' := fun k => w.heap.size ≤ k) (.ofBelow (S := fun k => w.heap.size ≤ k) hb1) (fun k _ h => h)).trans hy2); have HG2 := HH.below hb2)); refine hK.out _ _ ?_ (fun hHeld => ?_)
  · first | exact HH.drew | exact HHA | exact HG2 | exact HG1 | exact hHeld
  clear hK K
  try simp only [Act.put, List.setIfInBounds_toArray, List.set_cons_zero, List.set_cons_succ]
  refine call_next (i := 10) (by kernel_rfl) (by rfl) ?_
  intro o ho K hK
  simp only [List.getElem?_toArray, List.getElem?_cons_succ, List.getElem?_cons_zero, Option.some.injEq] at ho
  subst ho
  (first | (refine step_app_tx rfl (.tmp 10) (.tmp 14) _ w.heap.size _ _ [] U rfl rfl HM HHA.u (by simp; omega) (by simp) ?_ rfl rfl; intro v1 w1 hs1 hy1; have hb1 : Below w.heap.size w w1 := below_of ((((Frm.refl _ w).drew).alloc _).trans hy1); have HG1 := HH.below hb1) | (refine step_app_tx rfl (.tmp 15) (.tmp 19) _ w.heap.size _ _ ([] ++ U) O rfl rfl hs1 HG1.o (by simp; omega) hb1.size ?_ rfl rfl; intro v2 w2 hs2 hy2; have hb2 : Below w.heap.size w w2 := below_of ((Frm.mono (S' := fun k => w.heap.size ≤ k) (.ofBelow (S := fun k => w.heap.size ≤ k) hb1) (fun k _ h => h)).trans hy2); have HG2 := HH.below hb2)); refine hK.out _ _ ?_ (fun hHeld => ?_)
  · first | exact HH.drew | exact HHA | exact HG2 | exact HG1 | exact hHeld
  clear hK K
  try simp only [Act.put, List.setIfInBounds_toArray, List.set_cons_zero, List.set_cons_succ]
  first | (refine tw (i := 11) (v := ?_) ?_ hHeld ?_; rotate_left; focus (intro w hSw; (try dsimp only at hSw); have hS0 := hSw.c0; have hS1 := hSw.c1; go_simp; (try with_reducible rfl); done)) | refine tn (i := 11) hHeld ?_
  try simp only [Act.put, List.setIfInBounds_toArray, List.set_cons_zero, List.set_cons_succ]
  refine wpAnyH_done (by kernel_rfl) ?_ _
  have c0 := HG2.c0
  have c1 := HG2.c1
  have g0 := bfree hb2 HX.c0 hf0
  have g1 := bfree hb2 HX.c1 hf1
  obtain ⟨a2, m2, cc2, rfl⟩ := hs2.slice
  go_wp2
  go_ret2
  have HX2 := HX.frm (S := fun _ => False) (.ofBelow hb2) id (fun _ _ => id)
  obtain ⟨u', o', HX3⟩ := HX2.set0 (TX.nil w2 B)
  have HX4 := HX3.set1 (TX.nil _ B)
  have hF : Frm (· = q) w2 ((w2.setCell ⟨q, 0, none⟩ (.slice none 0 0)).setCell ⟨q, 1, none⟩ (.slice none 0 0)) := (Frm.one w2 q 0 _).trans (Frm.one _ q 1 _)
  exact ⟨_, rfl, (by simpa using (hs2.tx.frm hF (fun k hk he => by omega)).mono hB), HX4, (Frm.ofBelow hb2).trans hF⟩
end Go.Proofs.Ytmhmdcfdodiphaa
