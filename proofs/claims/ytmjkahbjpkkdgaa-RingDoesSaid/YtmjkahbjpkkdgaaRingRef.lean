/-
  The reference's ring.
-/
import Derived.Test.YtmjkahbjpkkdgaaIntx
import Derived.Test.YtmjkahbjpkkdgaaRing6I
namespace Go.Proofs.Ytmjkahbjpkkdgaa
open Go.RowKit
set_option linter.unusedVariables false
set_option linter.unusedSimpArgs false

structure RF (w : World) (q B : Nat) (l : List Int) (n : Nat) (v : Value) : Prop where
  c0 : w.cell? ⟨q, 0, none⟩ = some v
  c1 : w.cell? ⟨q, 1, none⟩ = some (.int .i64 n)
  f0 : w.frozen? ⟨q, 0, none⟩ = false
  l : Lx iv w B v l
  lt : q < B
def RFx (w : World) (q B : Nat) (l : List Int) (n : Nat) : Prop := ∃ v, RF w q B l n v
theorem RF.frm {S : Nat → Prop} {w w' : World} {q B n : Nat} {l : List Int} {v : Value} (h : RF w q B l n v) (hf : Frm S w w') (h1 : ¬ S q) (h2 : ∀ k, B ≤ k → ¬ S k) : RF w' q B l n v :=
  have hl : q < w.heap.size := World.block_lt_of_cell? w _ h.c0
  ⟨hf.cell h1 h.c0, hf.cell h1 h.c1, (hf.frozen (p := ⟨q, 0, none⟩) h1 hl).trans h.f0, h.l.frm hf h2, h.lt⟩
theorem RFx.frm {S : Nat → Prop} {w w' : World} {q B n : Nat} {l : List Int} (h : RFx w q B l n) (hf : Frm S w w') (h1 : ¬ S q) (h2 : ∀ k, B ≤ k → ¬ S k) : RFx w' q B l n := by
  obtain ⟨v, h⟩ := h
  exact ⟨v, h.frm hf h1 h2⟩
theorem RFx.below {w w' : World} {q B n : Nat} {l : List Int} (h : RFx w q B l n) (hb : Below w.heap.size w w') : RFx w' q B l n := h.frm (S := fun _ => False) (.ofBelow hb) id (fun _ _ => id)
theorem RF.set {w : World} {q B n : Nat} {l l' : List Int} {u v : Value} (h : RF w q B l n u) (hv : Lx iv w B v l') : RFx (w.setCell ⟨q, 0, none⟩ v) q B l' n :=
  have hf := Frm.one w q 0 v
  ⟨v, cell_set_same h.c0, cell_set_off h.c1 (by decide), (World.frozen?_setCell _ _ _ _).trans h.f0, hv.frm hf (fun k hk he => by have := h.lt; omega), h.lt⟩
theorem rnew_any (most : Int) (w : World) : Calls Try.prog 8 #[.int .i64 most] w fun e w' => e = .returned (.pointer (some ⟨w.heap.size, 0, none⟩)) ∧ (∀ B, w.heap.size < B → RFx w' w.heap.size B [] (nR most)) ∧ Below w.heap.size w w' ∧ w'.heap.size = w.heap.size + 1 := by
  have key : ∀ n : Int, n = (nR most : Int) → ∀ B, w.heap.size < B → RFx (w.alloc (.cells #[.slice none 0 0, .int .i64 n] 39)) w.heap.size B [] (nR most) := by
    rintro n rfl B hB
    exact ⟨_, by simp [go_sem], by simp [go_sem], by simp [go_sem], Lx.nil _ _ _, hB⟩
  have hb : ∀ n : Int, Below w.heap.size w (w.alloc (.cells #[.slice none 0 0, .int .i64 n] 39)) := fun n => (Below.refl _ _).alloc (Nat.le_refl _) _
  by_cases h1 : 1000 < most
  · have k := key 1000 (by unfold nR; omega)
    clear key
    go_enter Try.func8, Try.ntmps8
    go_wp2
    go_ret
    exact ⟨rfl, k, hb _, by simp⟩
  · by_cases h2 : most < 0
    · have k := key 0 (by unfold nR; omega)
      clear key
      go_enter Try.func8, Try.ntmps8
      go_wp2
      go_ret
      exact ⟨rfl, k, hb _, by simp⟩
    · have k := key most (by unfold nR; omega)
      clear key
      go_enter Try.func8, Try.ntmps8
      go_wp2
      go_ret
      exact ⟨rfl, k, hb _, by simp⟩
theorem belowD {w w' : World} (m : Nat) (h : Frm (fun k => w.heap.size ≤ k) w w') : Below w.heap.size w w' := ⟨h.os, h.tape, h.output, h.size, fun k hk => h.block k hk (by omega)⟩
theorem rpush_ok (q B : Nat) (l : List Int) (n : Nat) (x : Int) (w : World) (h : RFx w q B l n) (hB : B ≤ w.heap.size) (hl : l.length < n) (hn : n ≤ 1000) : Calls Try.prog 10 #[.pointer (some ⟨q, 0, none⟩), .int .i64 x] w fun e w' =>
    e = .returned (.int .i64 0) ∧ RFx w' q B (l ++ [x]) n ∧ Frm (· = q) w w' := by
  obtain ⟨v, HX⟩ := h
  have hc0 := HX.c0
  have hc1 := HX.c1
  have hf0 := HX.f0
  have hq := HX.lt
  obtain ⟨a, cap, hva⟩ := HX.l.len
  have HLX := Lib.hid HX.l
  obtain ⟨k, hk⟩ : ∃ k, l.length = k := ⟨_, rfl⟩
  have hd : decide ((n : Int) ≤ (k : Int)) = false := decide_eq_false (by omega)
  have HK := Lib.hid hk
  rw [hk] at hva hl
  subst hva
  have hqw : q < w.heap.size := by omega
  have HM := Lib.hid (fun m => ints_made (w.drewN m) w.heap.size (Nat.le_refl _))
  have HT := Lib.hid (fun m => ((HLX.out.mono (Nat.zero_le B)).below (bdraws0 w m)).below ((Below.refl _ _).alloc (Nat.le_refl _) (.cells #[] 3)))
  have hcA := fun m => bkeep ((Below.refl _ (w.drewN m)).alloc (Nat.le_refl _) (.cells #[] 3)) (bkeep (bdraws0 w m) hc0)
  have hb0 : ∀ m, w.heap.size ≤ ((w.drewN m).alloc (.cells #[] 3)).heap.size := fun m => by simp
  clear hk
  go_enter Try.func10, Try.ntmps10
  go_wp2
  go_quiet (fail)
  go_wp2_with (first | (at_builtin; refine wpl_app_ix rfl (.tmp 16) (.tmp 20) _ w.heap.size _ _ [] l rfl rfl (HM.out _) (HT.out _) (by have := HK.out; simp; omega) (hb0 _) ?_ rfl rfl; intro v1 w1 hs1 hy1) | (at_builtin; refine wpl_app_ix rfl (.tmp 21) (.tmp 23) _ w.heap.size _ _ ([] ++ l) [x] rfl rfl (hs1.alloc _) ((ints_one w1 x).mono (Nat.zero_le _)) (by have := HK.out; simp; omega) (by have := hy1.size; simp at this ⊢; omega) ?_ rfl rfl; intro v2 w2 hs2 hy2; obtain ⟨a2, c2, hv2⟩ := hs2.slice; subst hv2; have hfw := belowD nq (((((Frm.refl _ w).drewN nq).alloc _).trans hy1).alloc _ |>.trans hy2); have e0 := bkeep hfw hc0; have g0 := bfree hfw hc0 hf0; have hqk : q < w2.heap.size := World.block_lt_of_cell? w2 _ e0))
  go_ret
  exact ⟨rfl, (HX.frm (S := fun _ => False) (.ofBelow hfw) id fun _ _ => id).set (by simpa using hs2.lx.mono hB), (Frm.ofBelow hfw).trans (Frm.one _ _ _ _)⟩
theorem rpush_full (q B : Nat) (l : List Int) (n : Nat) (x : Int) (w : World) (h : RFx w q B l n) (hl : ¬ l.length < n) (hm : l.length ≤ 1000) : Calls Try.prog 10 #[.pointer (some ⟨q, 0, none⟩), .int .i64 x] w fun e w' =>
    e = .returned (.int .i64 6) ∧ ∃ m, w' = w.drewN m := by
  obtain ⟨v, HX⟩ := h
  have hc0 := HX.c0
  have hc1 := HX.c1
  obtain ⟨a, cap, hva⟩ := HX.l.len
  obtain ⟨k, hk⟩ : ∃ k, l.length = k := ⟨_, rfl⟩
  have hd : decide ((n : Int) ≤ (k : Int)) = true := decide_eq_true (by omega)
  rw [hk] at hva hl hm
  subst hva
  clear hk HX
  go_enter Try.func10, Try.ntmps10
  go_wp2
  go_quiet (fail)
  go_wp2
  go_ret
  exact ⟨rfl, _, rfl⟩
/-- what the reference's At reads -/
def RA (w : World) (q : Nat) (l : List Int) : Prop := ∃ v, w.cell? ⟨q, 0, none⟩ = some v ∧ Lx iv w 0 v l
theorem RFx.ra {w : World} {q B n : Nat} {l : List Int} (h : RFx w q B l n) : RA w q l := by
  obtain ⟨v, h⟩ := h
  exact ⟨v, h.c0, h.l.mono (Nat.zero_le _)⟩
theorem ra_any (q : Nat) (l : List Int) (i : Int) (w : World) (h : RA w q l) (hm : l.length ≤ 1000) : Calls Try.prog 12 #[.pointer (some ⟨q, 0, none⟩), .int .i64 i] w fun e w' => e = .returned (atVI l i) ∧ w = w' := by
  obtain ⟨v, hc0, HX⟩ := h
  by_cases h1 : 0 ≤ i ∧ i < l.length
  · have hv : atVI l i = .tuple #[iv (l[i.toNat]'(by omega)), .bool true] := by
      unfold atVI
      rw [dif_pos h1]
    obtain ⟨k, rfl⟩ : ∃ k : Nat, i = k := ⟨i.toNat, by omega⟩
    have hkn : k < l.length := by omega
    rcases HX with ⟨rfl, rfl⟩ | ⟨g, o, cap, rfl, hcap, _, hc⟩
    · simp at hkn
    · have hcell := hc k hkn
      simp only [Int.toNat_natCast] at hv
      rw [hv]
      have g1 : decide ((k : Int) < 0) = false := decide_eq_false (by omega)
      have g2 : decide ((l.length : Int) ≤ (k : Int)) = false := decide_eq_false (by omega)
      clear hv hc
      generalize l[k] = y at *
      obtain ⟨m, hmm⟩ : ∃ m, l.length = m := ⟨_, rfl⟩
      rw [hmm] at *
      go_enter Try.func12, Try.ntmps12
      go_wp2
      go_ret2
      exact ⟨rfl, rfl⟩
  · have hv : atVI l i = .tuple #[.int .i64 0, .bool false] := by
      unfold atVI
      rw [dif_neg h1]
    rw [hv]
    obtain ⟨a, cap, hva⟩ := HX.len
    subst hva
    obtain ⟨m, hmm⟩ : ∃ m, l.length = m := ⟨_, rfl⟩
    rw [hmm] at hc0 h1 hm
    clear hv HX
    by_cases h2 : i < 0
    · go_enter Try.func12, Try.ntmps12
      go_wp2
      go_ret2
      exact ⟨rfl, rfl⟩
    · have g1 : decide (i < 0) = false := decide_eq_false h2
      have g2 : decide ((m : Int) ≤ i) = true := decide_eq_true (by omega)
      clear h1 h2
      go_enter Try.func12, Try.ntmps12
      go_wp2
      go_ret2
      exact ⟨rfl, rfl⟩
theorem rat_any (q B : Nat) (l : List Int) (n : Nat) (i : Int) (w : World) (h : RFx w q B l n) (hm : l.length ≤ 1000) : Calls Try.prog 12 #[.pointer (some ⟨q, 0, none⟩), .int .i64 i] w fun e w' => e = .returned (atVI l i) ∧ w = w' := ra_any q l i w h.ra hm
theorem rdrop_any (q B : Nat) (l : List Int) (n : Nat) (i : Int) (w : World) (h : RFx w q B l n) (hm : l.length ≤ 1000) : Calls Try.prog 13 #[.pointer (some ⟨q, 0, none⟩), .int .i64 i] w fun e w' =>
    e = .returned (.int .i64 (min (max i 0) (l.length : Int)).toNat) ∧ RFx w' q B (l.drop (min (max i 0) (l.length : Int)).toNat) n ∧ Frm (· = q) w w' := by
  obtain ⟨v, HX⟩ := h
  have hc0 := HX.c0
  have hf0 := HX.f0
  obtain ⟨k, hk⟩ : ∃ k : Nat, (min (max i 0) (l.length : Int)).toNat = k := ⟨_, rfl⟩
  rw [hk]
  have hkl : k ≤ l.length := by omega
  have hE : ∀ v, Lx iv w B v (l.drop k) → ∀ j : Int, j = k → (fun (e : Ending) w' => e = .returned (.int .i64 k) ∧ RFx w' q B (l.drop k) n ∧ Frm (· = q) w w') (.returned (.int .i64 j)) (w.setCell ⟨q, 0, none⟩ v) := by
    rintro v hv j rfl
    exact ⟨rfl, HX.set hv, Frm.one _ _ _ _⟩
  generalize (fun (e : Ending) w' => e = .returned (.int .i64 k) ∧ RFx w' q B (l.drop k) n ∧ Frm (· = q) w w') = Pst at *
  have hE := Lib.hid hE
  rcases HX.l with ⟨rfl, rfl⟩ | ⟨g, o, cap, rfl, hcap, hgB, hc⟩
  · have hnil := hE.out (.slice none 0 0) (by rw [List.drop_nil]; exact Lx.nil _ _ _)
    have hk0 : k = 0 := by simpa using hkl
    have hnil := Lib.hid hnil
    clear HX
    go_enter Try.func13, Try.ntmps13
    go_wp2
    all_goals first | exact hnil.out _ (by omega) | omega | (intro _; omega)
  · obtain ⟨m, hmm⟩ : ∃ m, l.length = m := ⟨_, rfl⟩
    have hc' := Lib.hid hc
    rw [hmm] at hc0 hm hcap hkl
    have hmm' := Lib.hid hmm
    have hk' : (min (max i 0) (m : Int)).toNat = k := by rw [← hmm]; exact hk
    have hk'' := Lib.hid hk'
    have hfull := Lib.hid HX.l
    clear HX hc hk hmm hk'
    go_enter Try.func13, Try.ntmps13
    go_wp2
    all_goals
      have hkk := hk''.out
      have hl2 := hmm'.out
      first
      | exact hE.out _ (Lx.drop1 hgB k (by omega)) _ (by omega)
      | (rw [show m - i.toNat = 0 by omega]; exact hE.out _ (Lx.drop1 hgB k (by omega)) _ (by omega))
      | (rw [show i.toNat = k by omega]; exact hE.out _ (Lx.drop2 hgB hc'.out k _ (by omega) (by omega) (by omega)) _ (by omega))
      | (have hk0 : k = 0 := by omega
         subst hk0
         subst hl2
         exact hE.out _ hfull.out _ (by omega))
end Go.Proofs.Ytmjkahbjpkkdgaa
