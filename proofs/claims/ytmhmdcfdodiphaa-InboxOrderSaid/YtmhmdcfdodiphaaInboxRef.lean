/-
  The reference's box of lines that wait.
-/
import Derived.Test.YtmhmdcfdodiphaaTexts
import Derived.Test.YtmhmdcfdodiphaaInbox
import Derived.Test.YtmhmdcfdodiphaaDraw
namespace Go.Proofs.Ytmhmdcfdodiphaa
open Go.RowKit
set_option linter.unusedVariables false
set_option linter.unusedSimpArgs false

structure RB (w : World) (q B : Nat) (U O : List ByteArray) (n : Nat) (cl : Bool) (vu vo : Value) : Prop where
  c0 : w.cell? ⟨q, 0, none⟩ = some vu
  c1 : w.cell? ⟨q, 1, none⟩ = some vo
  c2 : w.cell? ⟨q, 2, none⟩ = some (.int .i64 n)
  c3 : w.cell? ⟨q, 3, none⟩ = some (.bool cl)
  f0 : w.frozen? ⟨q, 0, none⟩ = false
  f1 : w.frozen? ⟨q, 1, none⟩ = false
  f3 : w.frozen? ⟨q, 3, none⟩ = false
  u : TX w B vu U
  o : TX w B vo O
  lt : q < B
theorem RB.frm {S : Nat → Prop} {w w' : World} {q B : Nat} {U O : List ByteArray} {n : Nat} {cl : Bool} {vu vo : Value} (h : RB w q B U O n cl vu vo) (hf : Frm S w w') (h1 : ¬ S q) (h2 : ∀ k, B ≤ k → ¬ S k) : RB w' q B U O n cl vu vo :=
  have hl : q < w.heap.size := World.block_lt_of_cell? w _ h.c0
  ⟨hf.cell h1 h.c0, hf.cell h1 h.c1, hf.cell h1 h.c2, hf.cell h1 h.c3, (hf.frozen (p := ⟨q, 0, none⟩) h1 hl).trans h.f0, (hf.frozen (p := ⟨q, 1, none⟩) h1 hl).trans h.f1, (hf.frozen (p := ⟨q, 3, none⟩) h1 hl).trans h.f3, h.u.frm hf h2, h.o.frm hf h2, h.lt⟩
def RBx (w : World) (q B : Nat) (U O : List ByteArray) (n : Nat) (cl : Bool) : Prop := ∃ vu vo, RB w q B U O n cl vu vo
theorem RBx.frm {S : Nat → Prop} {w w' : World} {q B : Nat} {U O : List ByteArray} {n : Nat} {cl : Bool} (h : RBx w q B U O n cl) (hf : Frm S w w') (h1 : ¬ S q) (h2 : ∀ k, B ≤ k → ¬ S k) : RBx w' q B U O n cl := by
  obtain ⟨vu, vo, h⟩ := h
  exact ⟨vu, vo, h.frm hf h1 h2⟩
theorem RB.set0 {w : World} {q B : Nat} {U O U' : List ByteArray} {n : Nat} {cl : Bool} {vu vo v : Value} (h : RB w q B U O n cl vu vo) (hv : TX w B v U') : RBx (w.setCell ⟨q, 0, none⟩ v) q B U' O n cl :=
  have hf := Frm.one w q 0 v
  have hn : ∀ k, B ≤ k → ¬ k = q := fun k hk he => by have := h.lt; omega
  ⟨v, vo, cell_set_same h.c0, cell_set_off h.c1 (by decide), cell_set_off h.c2 (by decide), cell_set_off h.c3 (by decide), (World.frozen?_setCell _ _ _ _).trans h.f0, (World.frozen?_setCell _ _ _ _).trans h.f1, (World.frozen?_setCell _ _ _ _).trans h.f3, hv.frm hf hn, h.o.frm hf hn, h.lt⟩
theorem RB.set1 {w : World} {q B : Nat} {U O O' : List ByteArray} {n : Nat} {cl : Bool} {vu vo v : Value} (h : RB w q B U O n cl vu vo) (hv : TX w B v O') : RBx (w.setCell ⟨q, 1, none⟩ v) q B U O' n cl :=
  have hf := Frm.one w q 1 v
  have hn : ∀ k, B ≤ k → ¬ k = q := fun k hk he => by have := h.lt; omega
  ⟨vu, v, cell_set_off h.c0 (by decide), cell_set_same h.c1, cell_set_off h.c2 (by decide), cell_set_off h.c3 (by decide), (World.frozen?_setCell _ _ _ _).trans h.f0, (World.frozen?_setCell _ _ _ _).trans h.f1, (World.frozen?_setCell _ _ _ _).trans h.f3, h.u.frm hf hn, hv.frm hf hn, h.lt⟩
theorem RB.set3 {w : World} {q B : Nat} {U O : List ByteArray} {n : Nat} {cl : Bool} {vu vo : Value} (h : RB w q B U O n cl vu vo) (c : Bool) : RBx (w.setCell ⟨q, 3, none⟩ (.bool c)) q B U O n c :=
  have hf := Frm.one w q 3 (.bool c)
  have hn : ∀ k, B ≤ k → ¬ k = q := fun k hk he => by have := h.lt; omega
  ⟨vu, vo, cell_set_off h.c0 (by decide), cell_set_off h.c1 (by decide), cell_set_off h.c2 (by decide), cell_set_same h.c3, (World.frozen?_setCell _ _ _ _).trans h.f0, (World.frozen?_setCell _ _ _ _).trans h.f1, (World.frozen?_setCell _ _ _ _).trans h.f3, h.u.frm hf hn, h.o.frm hf hn, h.lt⟩
theorem Strs.slice {w : World} {B : Nat} {v : Value} {l : List ByteArray} (h : Strs w B v l) : ∃ a m c, v = .slice a m c := by
  obtain ⟨a, c, e⟩ := h.tx.len
  exact ⟨a, _, c, e⟩
theorem below_of {w w' : World} (h : Frm (fun k => w.heap.size ≤ k) w w') : Below w.heap.size w w' := ⟨h.os, h.tape, h.output, h.size, fun k hk => h.block k hk (by omega)⟩
def RPut (w : World) (q B : Nat) (U O : List ByteArray) (n : Nat) (cl : Bool) (c : Int) (e : Ending) (w' : World) : Prop := e = .returned (.int .i64 c) ∧ RBx w' q B U O n cl ∧ Frm (· = q) w w'
theorem rnew_any (most : Int) (w : World) : Calls Try.prog 10 #[.int .i64 most] w fun e w' => e = .returned (.pointer (some ⟨w.heap.size, 0, none⟩)) ∧ RBx w' w.heap.size (w.heap.size + 1) [] [] (nB most) false ∧ Below w.heap.size w w' := by
  have key : ∀ n : Int, n = (nB most : Int) → RBx (w.alloc (.cells #[.slice none 0 0, .slice none 0 0, .int .i64 n, .bool false] 38)) w.heap.size (w.heap.size + 1) [] [] (nB most) false := by
    rintro n rfl
    exact ⟨_, _, by simp [go_sem], by simp [go_sem], by simp [go_sem], by simp [go_sem], by simp [go_sem], by simp [go_sem], by simp [go_sem], TX.nil _ _, TX.nil _ _, by omega⟩
  have hb : ∀ n : Int, Below w.heap.size w (w.alloc (.cells #[.slice none 0 0, .slice none 0 0, .int .i64 n, .bool false] 38)) := fun n => (Below.refl _ _).alloc (Nat.le_refl _) _
  by_cases h1 : 100 < most
  · have k := key 100 (by unfold nB; omega)
    clear key
    go_enter Try.func10, Try.ntmps10
    go_wp2
    go_ret
    exact ⟨rfl, k, hb _⟩
  · by_cases h2 : most < 0
    · have k := key 0 (by unfold nB; omega)
      clear key
      go_enter Try.func10, Try.ntmps10
      go_wp2
      go_ret
      exact ⟨rfl, k, hb _⟩
    · have k := key most (by unfold nB; omega)
      clear key
      go_enter Try.func10, Try.ntmps10
      go_wp2
      go_ret
      exact ⟨rfl, k, hb _⟩
theorem rput_t (q B : Nat) (U O : List ByteArray) (n : Nat) (x : ByteArray) (w : World) (h : RBx w q B U O n false) (hB : B ≤ w.heap.size) (hu : U.length ≤ 1000) (hn : n ≤ 1000) : Calls Try.prog 11 #[.pointer (some ⟨q, 0, none⟩), .string x, .bool true] w
    (RPut w q B (if U.length < n then U ++ [x] else U) O n false (if U.length < n then 0 else 6)) := by
  obtain ⟨vu, vo, HX⟩ := h
  have hc0 := HX.c0
  have hc1 := HX.c1
  have hc2 := HX.c2
  have hc3 := HX.c3
  have hf0 := HX.f0
  have hU := HX.u
  have hq := HX.lt
  obtain ⟨a, cap, hva⟩ := hU.len
  by_cases hroom : U.length < n
  · simp only [if_pos hroom]
    have hm0 := Strs.made w w.heap.size (Nat.le_refl _)
    have htx := (hU.mono (Nat.zero_le B)).below ((Below.refl _ _).alloc (Nat.le_refl _) (.cells #[] 9))
    have hb0 : w.heap.size ≤ (w.alloc (.cells #[] 9)).heap.size := by simp
    obtain ⟨k, hk⟩ : ∃ k, U.length = k := ⟨_, rfl⟩
    have hd : decide (n ≤ k) = false := decide_eq_false (by omega)
    have HU := Lib.hid hU
    have HT := Lib.hid htx
    have HM := Lib.hid hm0
    have HK := Lib.hid hk
    have HV := Lib.hid hva
    rw [hva, hk] at hc0
    have hk1 : k ≤ 1000 := by omega
    clear hU htx hm0 hva hk
    go_enter Try.func11, Try.ntmps11
    go_wp2_with (first | (at_builtin; refine wpl_app_tx rfl (.tmp 30) (.tmp 31) _ w.heap.size _ _ [] U rfl rfl HM.out (by have := HT.out; rw [HV.out, HK.out] at this; exact this) (by have := HK.out; simp; omega) hb0 ?_ rfl rfl; intro v1 w1 hs1 hy1) | (at_builtin; refine wpl_app_tx rfl (.tmp 32) (.tmp 34) _ w.heap.size _ _ ([] ++ U) [x] rfl rfl (hs1.alloc _) ((TX.one w1 x).mono (Nat.zero_le _)) (by have := HK.out; simp; omega) (by have := hy1.size; simp at this ⊢; omega) ?_ rfl rfl; intro v2 w2 hs2 hy2; obtain ⟨a2, m2, c2, rfl⟩ := hs2.slice; have hfw := below_of ((((Frm.refl _ w).alloc _).trans hy1).alloc _ |>.trans hy2); have e0 := bkeep hfw hc0; have g0 := bfree hfw hc0 hf0; have hqk : q < w2.heap.size := World.block_lt_of_cell? w2 _ e0))
    go_ret
    exact ⟨rfl, (HX.frm (S := fun _ => False) (.ofBelow hfw) id fun _ _ => id).set0 (by simpa using hs2.tx.mono hB), (Frm.ofBelow hfw).trans (Frm.one _ _ _ _)⟩
  · simp only [if_neg hroom]
    obtain ⟨k, hk⟩ : ∃ k, U.length = k := ⟨_, rfl⟩
    have hd : decide (n ≤ k) = true := decide_eq_true (by omega)
    rw [hva, hk] at hc0
    have hk1 : k ≤ 1000 := by omega
    clear hU hva hk
    go_enter Try.func11, Try.ntmps11
    go_wp2
    go_ret
    exact ⟨rfl, ⟨_, _, HX⟩, Frm.refl _ _⟩
theorem rput_f (q B : Nat) (U O : List ByteArray) (n : Nat) (x : ByteArray) (w : World) (h : RBx w q B U O n false) (hB : B ≤ w.heap.size) (hu : O.length ≤ 1000) (hn : n ≤ 1000) : Calls Try.prog 11 #[.pointer (some ⟨q, 0, none⟩), .string x, .bool false] w
    (RPut w q B U (if O.length < n then O ++ [x] else O) n false (if O.length < n then 0 else 6)) := by
  obtain ⟨vu, vo, HX⟩ := h
  have hc0 := HX.c0
  have hc1 := HX.c1
  have hc2 := HX.c2
  have hc3 := HX.c3
  have hf1 := HX.f1
  have hU := HX.o
  have hq := HX.lt
  obtain ⟨a, cap, hva⟩ := hU.len
  by_cases hroom : O.length < n
  · simp only [if_pos hroom]
    have hm0 := Strs.made w w.heap.size (Nat.le_refl _)
    have htx := (hU.mono (Nat.zero_le B)).below ((Below.refl _ _).alloc (Nat.le_refl _) (.cells #[] 9))
    have hb0 : w.heap.size ≤ (w.alloc (.cells #[] 9)).heap.size := by simp
    obtain ⟨k, hk⟩ : ∃ k, O.length = k := ⟨_, rfl⟩
    have hd : decide (n ≤ k) = false := decide_eq_false (by omega)
    have HU := Lib.hid hU
    have HT := Lib.hid htx
    have HM := Lib.hid hm0
    have HK := Lib.hid hk
    have HV := Lib.hid hva
    rw [hva, hk] at hc1
    have hk1 : k ≤ 1000 := by omega
    clear hU htx hm0 hva hk
    go_enter Try.func11, Try.ntmps11
    go_wp2_with (first | (at_builtin; refine wpl_app_tx rfl (.tmp 30) (.tmp 31) _ w.heap.size _ _ [] O rfl rfl HM.out (by have := HT.out; rw [HV.out, HK.out] at this; exact this) (by have := HK.out; simp; omega) hb0 ?_ rfl rfl; intro v1 w1 hs1 hy1) | (at_builtin; refine wpl_app_tx rfl (.tmp 32) (.tmp 34) _ w.heap.size _ _ ([] ++ O) [x] rfl rfl (hs1.alloc _) ((TX.one w1 x).mono (Nat.zero_le _)) (by have := HK.out; simp; omega) (by have := hy1.size; simp at this ⊢; omega) ?_ rfl rfl; intro v2 w2 hs2 hy2; obtain ⟨a2, m2, c2, rfl⟩ := hs2.slice; have hfw := below_of ((((Frm.refl _ w).alloc _).trans hy1).alloc _ |>.trans hy2); have e1 := bkeep hfw hc1; have g1 := bfree hfw hc1 hf1; have hqk : q < w2.heap.size := World.block_lt_of_cell? w2 _ e1))
    go_ret
    exact ⟨rfl, (HX.frm (S := fun _ => False) (.ofBelow hfw) id fun _ _ => id).set1 (by simpa using hs2.tx.mono hB), (Frm.ofBelow hfw).trans (Frm.one _ _ _ _)⟩
  · simp only [if_neg hroom]
    obtain ⟨k, hk⟩ : ∃ k, O.length = k := ⟨_, rfl⟩
    have hd : decide (n ≤ k) = true := decide_eq_true (by omega)
    rw [hva, hk] at hc1
    have hk1 : k ≤ 1000 := by omega
    clear hU hva hk
    go_enter Try.func11, Try.ntmps11
    go_wp2
    go_ret
    exact ⟨rfl, ⟨_, _, HX⟩, Frm.refl _ _⟩
theorem rput_c (q B : Nat) (U O : List ByteArray) (n : Nat) (x : ByteArray) (g : Bool) (w : World) (h : RBx w q B U O n true) : Calls Try.prog 11 #[.pointer (some ⟨q, 0, none⟩), .string x, .bool g] w
    (RPut w q B U O n true 10) := by
  obtain ⟨vu, vo, HX⟩ := h
  have hc0 := HX.c0
  have hc1 := HX.c1
  have hc3 := HX.c3
  obtain ⟨a, cap, hva⟩ := HX.u.len
  obtain ⟨a2, cap2, hva2⟩ := HX.o.len
  obtain ⟨k, hk⟩ : ∃ k, U.length = k := ⟨_, rfl⟩
  obtain ⟨k2, hk2⟩ : ∃ k, O.length = k := ⟨_, rfl⟩
  rw [hva, hk] at hc0
  rw [hva2, hk2] at hc1
  clear hva hva2 hk hk2
  cases g
  all_goals
    go_enter Try.func11, Try.ntmps11
    go_wp2
    go_ret
    exact ⟨rfl, ⟨_, _, HX⟩, Frm.refl _ _⟩
theorem rput_any (q B : Nat) (U O : List ByteArray) (n : Nat) (cl : Bool) (x : ByteArray) (g : Bool) (w : World) (h : RBx w q B U O n cl) (hB : B ≤ w.heap.size) (hu : U.length ≤ 1000) (ho : O.length ≤ 1000) (hn : n ≤ 1000) : Calls Try.prog 11 #[.pointer (some ⟨q, 0, none⟩), .string x, .bool g] w
    (RPut w q B (if g then putL cl n U x else U) (if g then O else putL cl n O x) n cl (putE cl n (if g then U.length else O.length))) := by
  match cl, g with
  | true, true => exact rput_c q B U O n x true w h
  | true, false => exact rput_c q B U O n x false w h
  | false, true => exact rput_t q B U O n x w h hB hu hn
  | false, false => exact rput_f q B U O n x w h hB ho hn
end Go.Proofs.Ytmhmdcfdodiphaa
