/-
  A window of bodies (chapter 27): its functions walked.
-/
import Derived.Test.YtjjhgpdacijlmaaRing3S
import Derived.BigQuiet
namespace Go.Proofs.Ytjjhgpdacijlmaa
open Go.RowKit
set_option linter.unusedVariables false
set_option linter.unusedSimpArgs false
/-- block r is a window: bodies under way L, the first one's number, the last that was taken; its ring u, the ring's row g -/
structure WX (w : World) (r u g : Nat) (L : List ByteArray) (first last : Int) : Prop where
  c0 : w.cell? ⟨r, 0, none⟩ = some (.pointer (some ⟨u, 0, none⟩))
  c1 : w.cell? ⟨r, 1, none⟩ = some (.int .i64 first)
  c2 : w.cell? ⟨r, 2, none⟩ = some (.int .i64 last)
  f1 : w.frozen? ⟨r, 1, none⟩ = false
  f2 : w.frozen? ⟨r, 2, none⟩ = false
  ring : ∃ fr C, RGS w u g fr L.length C ∧ C.length = 8 ∧ LS C fr L.length = L
  ru : r ≠ u
  rg : r ≠ g
theorem WX.lt {w : World} {r u g : Nat} {L : List ByteArray} {f l : Int} (h : WX w r u g L f l) : r < w.heap.size ∧ u < w.heap.size ∧ g < w.heap.size := by
  obtain ⟨fr, C, hR, _⟩ := h.ring
  exact ⟨World.block_lt_of_cell? w _ h.c0, hR.lt, hR.hg⟩
theorem WX.frm {S : Nat → Prop} {w w' : World} {r u g : Nat} {L : List ByteArray} {f l : Int} (h : WX w r u g L f l) (hf : Frm S w w') (h1 : ¬ S r) (h2 : ¬ S u) (h3 : ¬ S g) : WX w' r u g L f l := by
  obtain ⟨fr, C, hR, hC, hL⟩ := h.ring
  have hlt := h.lt.1
  exact ⟨hf.cell h1 h.c0, hf.cell h1 h.c1, hf.cell h1 h.c2, (hf.frozen (p := ⟨r, 1, none⟩) h1 hlt).trans h.f1, (hf.frozen (p := ⟨r, 2, none⟩) h1 hlt).trans h.f2, ⟨fr, C, hR.frm hf h2 h3, hC, hL⟩, h.ru, h.rg⟩
theorem WX.below {w w' : World} {r u g : Nat} {L : List ByteArray} {f l : Int} (h : WX w r u g L f l) (hb : Below w.heap.size w w') : WX w' r u g L f l := h.frm (S := fun _ => False) (.ofBelow hb) id id id
theorem WX.drewN {w : World} {r u g : Nat} {L : List ByteArray} {f l : Int} (h : WX w r u g L f l) (m : Nat) : WX (w.drewN m) r u g L f l := h.below (bdraws0 _ _)
theorem WX.len {w : World} {r u g : Nat} {L : List ByteArray} {f l : Int} (h : WX w r u g L f l) : L.length ≤ 8 := by
  obtain ⟨fr, C, hR, hC, hL⟩ := h.ring
  have := hR.hn
  omega
/-- another ring in its place -/
theorem WX.ring' {w w' : World} {r u g : Nat} {L L' : List ByteArray} {f l : Int} (h : WX w r u g L f l) (hf : Frm (fun k => k = u ∨ k = g) w w') (hr : ∃ fr C, RGS w' u g fr L'.length C ∧ C.length = 8 ∧ LS C fr L'.length = L') : WX w' r u g L' f l := by
  have hlt := h.lt.1
  have h1 : ¬ (r = u ∨ r = g) := fun e => e.elim h.ru h.rg
  exact ⟨hf.cell h1 h.c0, hf.cell h1 h.c1, hf.cell h1 h.c2, (hf.frozen (p := ⟨r, 1, none⟩) h1 hlt).trans h.f1, (hf.frozen (p := ⟨r, 2, none⟩) h1 hlt).trans h.f2, hr, h.ru, h.rg⟩
theorem WX.setF {w : World} {r u g : Nat} {L : List ByteArray} {f l : Int} (h : WX w r u g L f l) (x : Int) : WX (w.setCell ⟨r, 1, none⟩ (.int .i64 x)) r u g L x l := by
  obtain ⟨fr, C, hR, hC, hL⟩ := h.ring
  exact ⟨cell_set_off h.c0 (by decide), cell_set_same h.c1, cell_set_off h.c2 (by decide), (World.frozen?_setCell _ _ _ _).trans h.f1, (World.frozen?_setCell _ _ _ _).trans h.f2, ⟨fr, C, hR.frm (Frm.one w r 1 _) (fun e => h.ru e.symm) (fun e => h.rg e.symm), hC, hL⟩, h.ru, h.rg⟩
theorem WX.setL {w : World} {r u g : Nat} {L : List ByteArray} {f l : Int} (h : WX w r u g L f l) (x : Int) : WX (w.setCell ⟨r, 2, none⟩ (.int .i64 x)) r u g L f x := by
  obtain ⟨fr, C, hR, hC, hL⟩ := h.ring
  exact ⟨cell_set_off h.c0 (by decide), cell_set_off h.c1 (by decide), cell_set_same h.c2, (World.frozen?_setCell _ _ _ _).trans h.f1, (World.frozen?_setCell _ _ _ _).trans h.f2, ⟨fr, C, hR.frm (Frm.one w r 2 _) (fun e => h.ru e.symm) (fun e => h.rg e.symm), hC, hL⟩, h.ru, h.rg⟩
theorem wnew_any (w : World) : Calls Try.prog 6 #[] w fun e w' => ∃ r u g, e = .returned (.pointer (some ⟨r, 0, none⟩)) ∧ WX w' r u g [] 1 0 ∧ (w.heap.size ≤ r ∧ w.heap.size ≤ u ∧ w.heap.size ≤ g) ∧ Below w.heap.size w w' := by
  have hN := Lib.hid (newS_any 8 w (by decide))
  go_enter Try.func6, Try.ntmps6
  go_wp2_with (go_at_call 17; (with_reducible refine hN.out.mono ?_); rintro e w1 ⟨u, g, rfl, hR, hu, hg, hb⟩)
  go_ret
  have hA := (Below.refl w1.heap.size w1).alloc (Nat.le_refl _) (.cells #[.pointer (some ⟨u, 0, none⟩), .int .i64 1, .int .i64 0] 52)
  have hu1 := hR.lt
  have hg1 := hR.hg
  exact ⟨w1.heap.size, u, g, rfl, ⟨by simp [go_sem], by simp [go_sem], by simp [go_sem], by simp [go_sem], by simp [go_sem], ⟨0, zCS 8, hR.below hA, by simp [zCS, nR]; decide, by simp [rgL]⟩, by omega, by omega⟩, ⟨hb.size, hu, hg⟩, bt hb hA⟩
theorem below_frmW {N : Nat} {a b c : World} {S : Nat → Prop} (h : Below N a b) (hf : Frm S b c) (hs : ∀ k, S k → N ≤ k) (hN : N ≤ b.heap.size) : Below N a c :=
  ⟨hf.os.trans h.os, hf.tape.trans h.tape, hf.output.trans h.output, Nat.le_trans h.size hf.size, fun k hk => (hf.block k (by omega) (fun hx => by have := hs k hx; omega)).trans (h.block k hk)⟩
/-! ### a window that is none -/
theorem send_nil (x : ByteArray) (w : World) : Calls Try.prog 7 #[.pointer none, .string x] w fun e w' => e = .returned (.tuple #[.int .i64 0, .int .i64 10]) ∧ w = w' := by
  go_enter Try.func7, Try.ntmps7
  go_wp2
  go_ret2
  exact ⟨rfl, rfl⟩
theorem heard_nil (n : Int) (w : World) : Calls Try.prog 9 #[.pointer none, .int .i64 n] w fun e w' => e = .returned (.tuple #[.int .i64 0, .int .i64 10]) ∧ w = w' := by
  go_enter Try.func9, Try.ntmps9
  go_wp2
  go_ret2
  exact ⟨rfl, rfl⟩
theorem take_nil (n : Int) (w : World) : Calls Try.prog 11 #[.pointer none, .int .i64 n] w fun e w' => e = .returned (.bool false) ∧ w = w' := by
  go_enter Try.func11, Try.ntmps11
  go_wp2
  go_ret
  exact ⟨rfl, rfl⟩
theorem last_nil (w : World) : Calls Try.prog 13 #[.pointer none] w fun e w' => e = .returned (.int .i64 0) ∧ w = w' := by
  go_enter Try.func13, Try.ntmps13
  go_wp2
  go_ret
  exact ⟨rfl, rfl⟩
theorem room_nil (w : World) : Calls Try.prog 14 #[.pointer none] w fun e w' => e = .returned (.int .i64 0) ∧ w = w' := by
  go_enter Try.func14, Try.ntmps14
  go_wp2
  go_ret
  exact ⟨rfl, rfl⟩
/-! ### a window -/
theorem last_any {w : World} {r u g : Nat} {L : List ByteArray} {f l : Int} (h : WX w r u g L f l) : Calls Try.prog 13 #[.pointer (some ⟨r, 0, none⟩)] w fun e w' => e = .returned (.int .i64 l) ∧ w = w' := by
  have c2 := h.c2
  clear h
  go_enter Try.func13, Try.ntmps13
  go_wp2
  go_ret
  exact ⟨rfl, rfl⟩
theorem room_any {w : World} {r u g : Nat} {L : List ByteArray} {f l : Int} (h : WX w r u g L f l) : Calls Try.prog 14 #[.pointer (some ⟨r, 0, none⟩)] w fun e w' => e = .returned (.int .i64 (8 - L.length)) ∧ ∃ m, w' = w.drewN m := by
  have c0 := h.c0
  have hl := h.len
  obtain ⟨fr, C, hR, hC, hL⟩ := h.ring
  have hQ := roomS_any u g fr L.length C w hR
  rw [show ((C.length - L.length : Nat) : Int) = 8 - (L.length : Int) by omega] at hQ
  have hQ := Lib.hid hQ
  clear hR hC hL h hl
  go_enter Try.func14, Try.ntmps14
  go_wp2_with (go_at_call 21; (with_reducible refine hQ.out.mono ?_); rintro e w1 ⟨rfl, m, rfl⟩)
  go_ret
  exact ⟨rfl, m, rfl⟩
theorem take_any {w : World} {r u g : Nat} {L : List ByteArray} {f l : Int} (h : WX w r u g L f l) (hl : 0 ≤ l ∧ l ≤ 1000000) (n : Int) : Calls Try.prog 11 #[.pointer (some ⟨r, 0, none⟩), .int .i64 n] w fun e w' =>
    e = .returned (.bool (decide (n = l + 1))) ∧ WX w' r u g L f (if n = l + 1 then n else l) ∧ Frm (fun k => k = r) w w' := by
  have c2 := h.c2
  have f2 := h.f2
  by_cases hn : n = l + 1
  · subst hn
    rw [if_pos rfl, show decide (l + 1 = l + 1) = true from decide_eq_true rfl]
    have hX := Lib.hid (h.setL (l + 1))
    have m1 : (l + 1 != l + 1) = false := by simp
    have m2 : (l + 1 == l + 1) = true := by simp
    clear h
    go_enter Try.func11, Try.ntmps11
    go_wp2
    go_ret
    exact ⟨rfl, hX.out, Frm.one _ _ _ _⟩
  · rw [if_neg hn, show decide (n = l + 1) = false from decide_eq_false hn]
    have m1 : (n != l + 1) = true := bne_iff_ne.2 hn
    have m2 : (n == l + 1) = false := beq_eq_false_iff_ne.2 hn
    have hX := Lib.hid h
    clear h hn
    go_enter Try.func11, Try.ntmps11
    go_wp2
    go_ret
    exact ⟨rfl, hX.out, Frm.refl _ _⟩
set_option maxHeartbeats 1600000 in
theorem send_any {w : World} {r u g : Nat} {L : List ByteArray} {f l : Int} (h : WX w r u g L f l) (hf : 0 ≤ f ∧ f ≤ 1000000) (x : ByteArray) : Calls Try.prog 7 #[.pointer (some ⟨r, 0, none⟩), .string x] w fun e w' =>
    (e = .returned (.tuple (if L.length < 8 then #[.int .i64 (f + L.length), .int .i64 0] else #[.int .i64 0, .int .i64 6]))) ∧ WX w' r u g (if L.length < 8 then L ++ [x] else L) f l ∧ Frm (fun k => k = u ∨ k = g) w w' := by
  have c0 := h.c0
  have c1 := h.c1
  have hl := h.len
  obtain ⟨fr, C, hR, hC, hL⟩ := h.ring
  have hLen := Lib.hid (fun m => (lenS_any u g fr L.length C (w.drewN m) (hR.below (bdraws0 _ _))).mono fun e w' h => (⟨h.1, h.2.symm⟩ : _ ∧ w' = w.drewN m))
  have hq1 : IntKind.i64.wrap (f + (L.length : Int)) = f + (L.length : Int) := by rw [IntKind.wrap_i64]; omega
  by_cases h8 : L.length < 8
  · rw [if_pos h8, if_pos h8]
    have hP := Lib.hid (fun m => pushS_ok u g fr L.length C x (w.drewN m) (hR.below (bdraws0 _ _)) (by omega))
    have hfin : ∀ m W, RGS W u g fr (L.length + 1) (C.set ((fr + L.length) % C.length) x) → Frm (fun k => k = u ∨ k = g) (w.drewN m) W → WX W r u g (L ++ [x]) f l ∧ Frm (fun k => k = u ∨ k = g) w W := fun m W a b => by
      have hF := ((Frm.refl (fun k => k = u ∨ k = g) w).drewN m).trans b
      have e1 : (L ++ [x]).length = L.length + 1 := by simp
      refine ⟨h.ring' hF ⟨fr, C.set ((fr + L.length) % C.length) x, by rw [e1]; exact a, by rw [List.length_set]; exact hC, ?_⟩, hF⟩
      rw [e1]
      exact (rgL_push _ _ _ _ _ (by omega)).trans (congrArg (· ++ [x]) hL)
    have hfin := Lib.hid hfin
    clear hR hL h h8 hl
    go_enter Try.func7, Try.ntmps7
    go_wp2
    go_quiet ((first | (go_at_call 18; with_reducible exact Calls.quiet_of_same (hLen.out _))))
    go_wp2_with (go_at_call 19; (with_reducible refine (hP.out _).mono ?_); rintro e w1 ⟨rfl, a1, a2⟩; replace hfin := Lib.hid (hfin.out _ _ a1 a2); clear a1 a2)
    go_ret2
    exact ⟨rfl, hfin.out⟩
  · rw [if_neg h8, if_neg h8]
    have hP := Lib.hid (fun m => pushS_full u g fr L.length C x (w.drewN m) (hR.below (bdraws0 _ _)) (by omega))
    have hfin := Lib.hid h
    clear hR hL h h8 hl
    go_enter Try.func7, Try.ntmps7
    go_wp2
    go_quiet ((first | (go_at_call 18; with_reducible exact Calls.quiet_of_same (hLen.out _))))
    go_wp2_with (go_at_call 19; (with_reducible refine (hP.out _).mono ?_); rintro e w1 ⟨rfl, m, rfl⟩)
    go_ret2
    exact ⟨rfl, hfin.out.drewN _, (Frm.refl _ w).drewN _⟩
def hearE (L : List ByteArray) (f n : Int) : Int := if n < 0 ∨ f + L.length ≤ n then 3 else 0
def hearK (L : List ByteArray) (f n : Int) : Nat := if n < 0 ∨ f + L.length ≤ n then 0 else (n - f + 1).toNat
set_option maxHeartbeats 1600000 in
theorem heard_any {w : World} {r u g : Nat} {L : List ByteArray} {f l : Int} (h : WX w r u g L f l) (hf : 0 ≤ f ∧ f ≤ 1000000) (n : Int) : Calls Try.prog 9 #[.pointer (some ⟨r, 0, none⟩), .int .i64 n] w fun e w' =>
    (e = .returned (.tuple #[.int .i64 (hearK L f n), .int .i64 (hearE L f n)])) ∧ WX w' r u g (L.drop (hearK L f n)) (f + hearK L f n) l ∧ Frm (fun k => k = r ∨ k = u ∨ k = g) w w' := by
  have c0 := h.c0
  have c1 := h.c1
  have f1 := h.f1
  have hl := h.len
  obtain ⟨fr, C, hR, hC, hL⟩ := h.ring
  have hLen := Lib.hid (fun m => (lenS_any u g fr L.length C (w.drewN m) (hR.below (bdraws0 _ _))).mono fun e w' h => (⟨h.1, h.2.symm⟩ : _ ∧ w' = w.drewN m))
  have hq1 : IntKind.i64.wrap (f + (L.length : Int)) = f + (L.length : Int) := by rw [IntKind.wrap_i64]; omega
  by_cases hneg : n < 0
  · have e1 : hearE L f n = 3 := if_pos (.inl hneg)
    have e2 : hearK L f n = 0 := if_pos (.inl hneg)
    rw [e1, e2]
    have hfin : ∀ m, WX (w.drewN m) r u g (L.drop 0) (f + ((0 : Nat) : Int)) l := fun m => by rw [List.drop_zero, show f + ((0 : Nat) : Int) = f by omega]; exact h.drewN m
    have hfin := Lib.hid hfin
    have d1 : decide (n < 0) = true := decide_eq_true hneg
    clear hR hL h hl e1 e2 hneg
    go_enter Try.func9, Try.ntmps9
    go_wp2
    go_quiet ((first | (go_at_call 18; with_reducible exact Calls.quiet_of_same (hLen.out _))))
    go_wp2
    go_ret2
    exact ⟨rfl, hfin.out _, (Frm.refl _ w).drewN _⟩
  by_cases hbig : f + L.length ≤ n
  · have e1 : hearE L f n = 3 := if_pos (.inr hbig)
    have e2 : hearK L f n = 0 := if_pos (.inr hbig)
    rw [e1, e2]
    have hfin : ∀ m, WX (w.drewN m) r u g (L.drop 0) (f + ((0 : Nat) : Int)) l := fun m => by rw [List.drop_zero, show f + ((0 : Nat) : Int) = f by omega]; exact h.drewN m
    have hfin := Lib.hid hfin
    have d1 : decide (n < 0) = false := decide_eq_false hneg
    have d2 : decide (f + (L.length : Int) ≤ n) = true := decide_eq_true hbig
    clear hR hL h hl e1 e2 hneg hbig
    go_enter Try.func9, Try.ntmps9
    go_wp2
    go_quiet ((first | (go_at_call 18; with_reducible exact Calls.quiet_of_same (hLen.out _))))
    go_wp2
    go_ret2
    exact ⟨rfl, hfin.out _, (Frm.refl _ w).drewN _⟩
  have e1 : hearE L f n = 0 := if_neg (by omega)
  have e2 : hearK L f n = (n - f + 1).toNat := if_neg (by omega)
  have d1 : decide (n < 0) = false := decide_eq_false hneg
  have d2 : decide (f + (L.length : Int) ≤ n) = false := decide_eq_false hbig
  rw [e1, e2]
  clear e1 e2
  by_cases hlow : n < f
  · have hfin : ∀ m, WX (w.drewN m) r u g (L.drop 0) (f + ((0 : Nat) : Int)) l := fun m => by rw [List.drop_zero, show f + ((0 : Nat) : Int) = f by omega]; exact h.drewN m
    have hfin := Lib.hid hfin
    have d3 : decide (n < f) = true := decide_eq_true hlow
    rw [show (n - f + 1).toNat = 0 by omega]
    clear hR hL h hl hneg hbig hlow
    go_enter Try.func9, Try.ntmps9
    go_wp2
    go_quiet ((first | (go_at_call 18; with_reducible exact Calls.quiet_of_same (hLen.out _))))
    go_wp2
    go_ret2
    exact ⟨rfl, hfin.out _, (Frm.refl _ w).drewN _⟩
  · have d3 : decide (n < f) = false := decide_eq_false hlow
    obtain ⟨k, hk⟩ : ∃ k : Nat, n - f + 1 = k := ⟨(n - f + 1).toNat, by omega⟩
    have hkL : k ≤ L.length := by omega
    rw [show (n - f + 1).toNat = k by omega]
    have hq2 : IntKind.i64.wrap (n - f) = n - f := by rw [IntKind.wrap_i64]; omega
    have hq3 : IntKind.i64.wrap (k : Int) = (k : Int) := by rw [IntKind.wrap_i64]; omega
    have hD := fun W => fun hW : RGS W u g fr L.length C => dropS_any u g fr L.length C k W hW (by omega)
    have e3 : (min (max (k : Int) 0) (L.length : Int)).toNat = k := by omega
    rw [e3] at hD
    have hRB : ∀ W, Below w.heap.size w W → RGS W u g fr L.length C := fun W hb => hR.below hb
    have hD := Lib.hid hD
    have hRB := Lib.hid hRB
    have hfin : ∀ W W', Below w.heap.size w W → DropPS W u g fr L.length k C (.returned (.int .i64 k)) W' → W'.cell? ⟨r, 0, none⟩ = some (.pointer (some ⟨u, 0, none⟩)) ∧ W'.cell? ⟨r, 1, none⟩ = some (.int .i64 f) ∧ W'.frozen? ⟨r, 1, none⟩ = false ∧ WX (W'.setCell ⟨r, 1, none⟩ (.int .i64 (f + k))) r u g (L.drop k) (f + k) l ∧ Frm (fun k => k = r ∨ k = u ∨ k = g) w (W'.setCell ⟨r, 1, none⟩ (.int .i64 (f + k))) := fun W W' hb hd => by
      obtain ⟨-, ⟨D, fr', a1, a2, a3⟩, a4⟩ := hd
      have hF : Frm (fun k => k = u ∨ k = g) w W' := (Frm.ofBelow hb).trans a4
      have el : (L.drop k).length = L.length - k := List.length_drop
      have hX := h.ring' hF ⟨fr', D, by rw [el]; exact a1, by omega, by rw [el, a3]; exact congrArg (List.drop k) hL⟩
      exact ⟨hX.c0, hX.c1, hX.f1, hX.setF _, (hF.mono fun k _ => .inr).trans ((Frm.one W' r 1 _).mono fun k _ => .inl)⟩
    have hfin := Lib.hid hfin
    have hw64 : wrap64 (f + (k : Int)) = f + (k : Int) := IntWalk.wrap64_in _ ⟨by omega, by omega⟩
    have hwi : IntKind.i64.wrap (f + (k : Int)) = f + (k : Int) := by rw [IntKind.wrap_i64]; omega
    clear hR hL h hl hneg hbig hlow hkL e3
    go_enter Try.func9, Try.ntmps9
    go_wp2
    go_quiet ((first | (go_at_call 18; with_reducible exact Calls.quiet_of_same (hLen.out _))))
    go_wp2
    refine wp_region_held_drew (S := (fun w' : World => w'.cell? ⟨r, 0, none⟩ = some (.pointer (some ⟨u, 0, none⟩)) ∧ w'.cell? ⟨r, 1, none⟩ = some (.int .i64 f))) (by kernel_rfl) ?_ (fun hHeld => ?_)
    · first | exact ⟨c0, c1⟩ | exact ⟨k0, k1⟩
    first | (refine tw (i := 0) (v := ?_) ?_ hHeld ?_; rotate_left; focus (intro w hSw; (try dsimp only at hSw); go_simp; (try with_reducible rfl); done)) | refine tn (i := 0) hHeld ?_
    try simp only [Act.put, List.setIfInBounds_toArray, List.set_cons_zero, List.set_cons_succ]
    first | (refine tw (i := 1) (v := ?_) ?_ hHeld ?_; rotate_left; focus (intro w hSw; (try dsimp only at hSw); go_simp; (try with_reducible rfl); done)) | refine tn (i := 1) hHeld ?_
    try simp only [Act.put, List.setIfInBounds_toArray, List.set_cons_zero, List.set_cons_succ]
    first | (refine tw (i := 2) (v := ?_) ?_ hHeld ?_; rotate_left; focus (intro w hSw; (try dsimp only at hSw); go_simp; (try with_reducible rfl); done)) | refine tn (i := 2) hHeld ?_
    try simp only [Act.put, List.setIfInBounds_toArray, List.set_cons_zero, List.set_cons_succ]
    first | (refine tw (i := 3) (v := ?_) ?_ hHeld ?_; rotate_left; focus (intro w hSw; (try dsimp only at hSw); go_simp; (try with_reducible rfl); done)) | refine tn (i := 3) hHeld ?_
    try simp only [Act.put, List.setIfInBounds_toArray, List.set_cons_zero, List.set_cons_succ]
    first | (refine tw (i := 4) (v := ?_) ?_ hHeld ?_; rotate_left; focus (intro w hSw; (try dsimp only at hSw); go_simp; (try with_reducible rfl); done)) | refine tn (i := 4) hHeld ?_
    try simp only [Act.put, List.setIfInBounds_toArray, List.set_cons_zero, List.set_cons_succ]
    first | (refine tw (i := 5) (v := ?_) ?_ hHeld ?_; rotate_left; focus (intro w hSw; (try dsimp only at hSw); go_simp; (try with_reducible rfl); done)) | refine tn (i := 5) hHeld ?_
    try simp only [Act.put, List.setIfInBounds_toArray, List.set_cons_zero, List.set_cons_succ]
    first | (refine tw (i := 6) (v := ?_) ?_ hHeld ?_; rotate_left; focus (intro w hSw; (try dsimp only at hSw); go_simp; (try with_reducible rfl); done)) | refine tn (i := 6) hHeld ?_
    try simp only [Act.put, List.setIfInBounds_toArray, List.set_cons_zero, List.set_cons_succ]
    first | (refine tw (i := 7) (v := ?_) ?_ hHeld ?_; rotate_left; focus (intro w hSw; (try dsimp only at hSw); go_simp; (try with_reducible rfl); done)) | refine tn (i := 7) hHeld ?_
    try simp only [Act.put, List.setIfInBounds_toArray, List.set_cons_zero, List.set_cons_succ]
    first | (refine tw (i := 8) (v := ?_) ?_ hHeld ?_; rotate_left; focus (intro w hSw; (try dsimp only at hSw); go_simp; (try with_reducible rfl); done)) | refine tn (i := 8) hHeld ?_
    try simp only [Act.put, List.setIfInBounds_toArray, List.set_cons_zero, List.set_cons_succ]
    first | (refine tw (i := 9) (v := ?_) ?_ hHeld ?_; rotate_left; focus (intro w hSw; (try dsimp only at hSw); go_simp; (try with_reducible rfl); done)) | refine tn (i := 9) hHeld ?_
    try simp only [Act.put, List.setIfInBounds_toArray, List.set_cons_zero, List.set_cons_succ]
    first | (refine tw (i := 10) (v := ?_) ?_ hHeld ?_; rotate_left; focus (intro w hSw; (try dsimp only at hSw); go_simp; (try with_reducible rfl); done)) | refine tn (i := 10) hHeld ?_
    try simp only [Act.put, List.setIfInBounds_toArray, List.set_cons_zero, List.set_cons_succ]
    refine call_next (i := 11) (by kernel_rfl) (by rfl) ?_
    intro o ho K hK
    simp only [List.getElem?_toArray, List.getElem?_cons_succ, List.getElem?_cons_zero, Option.some.injEq] at ho
    subst ho
    first | (fail; refine hK.out _ _ ?_ (fun hHeld => ?_)) | (go_simp; first | (with_reducible refine hK.out _ _ ?_ (fun hHeld => ?_)) | ((go_at_call 20; (with_reducible refine (hD.out _ (hRB.out _ (bdraws0 w _))).mono ?_); rintro e w1 hd; obtain rfl := hd.1; obtain ⟨k0, k1, k2, k3⟩ := hfin.out _ _ (bdraws0 w _) hd; replace k3 := Lib.hid k3; clear hd); refine hK.out _ _ ?_ (fun hHeld => ?_)))
    · first | exact ⟨c0, c1⟩ | exact ⟨k0, k1⟩
    clear hK K
    try simp only [Act.put, List.setIfInBounds_toArray, List.set_cons_zero, List.set_cons_succ]
    first | (refine tw (i := 12) (v := ?_) ?_ hHeld ?_; rotate_left; focus (intro w hSw; (try dsimp only at hSw); go_simp; (try with_reducible rfl); done)) | refine tn (i := 12) hHeld ?_
    try simp only [Act.put, List.setIfInBounds_toArray, List.set_cons_zero, List.set_cons_succ]
    refine wpAnyH_done (by kernel_rfl) ?_ _
    go_wp2
    go_ret2
    exact ⟨rfl, k3.out⟩
end Go.Proofs.Ytjjhgpdacijlmaa
