/-
  A ring's things in order: plain.
-/
import Derived.Test.YtjjhgpdacijlmaaList
import Derived.Test.YtjjhgpdacijlmaaMake
namespace Go.Proofs.Ytjjhgpdacijlmaa
open Go.RowKit
set_option linter.unusedVariables false
set_option linter.unusedSimpArgs false

section
variable {α : Type}
/-- the n things of a ring, from a place on, round -/
def rgL (d : α) (C : List α) (fr n : Nat) : List α := (List.range n).map fun i => C.getD ((fr + i) % C.length) d
theorem rgL_len (d : α) (C : List α) (fr n : Nat) : (rgL d C fr n).length = n := by simp [rgL]
theorem rgL_get (d : α) (C : List α) (fr n i : Nat) (h : i < n) : (rgL d C fr n)[i]'(by rw [rgL_len]; exact h) = C.getD ((fr + i) % C.length) d := by simp [rgL]
theorem mod_inj {a b c m : Nat} (h : (c + a) % m = (c + b) % m) (ha : a < m) (hb : b < m) : a = b := by
  have h1 : ∀ x, x < m → ((c + x) % m + (m - c % m)) % m = x := by
    intro x hx
    have hc := Nat.mod_lt c (show 0 < m by omega)
    rw [Nat.add_mod c x m, Nat.mod_eq_of_lt hx]
    by_cases hs : c % m + x < m
    · rw [Nat.mod_eq_of_lt hs]
      by_cases h0 : c % m = 0
      · rw [h0, Nat.zero_add, Nat.sub_zero, Nat.add_mod_right, Nat.mod_eq_of_lt hx]
      · rw [show c % m + x + (m - c % m) = x + m by omega, Nat.add_mod_right, Nat.mod_eq_of_lt hx]
    · rw [show c % m + x = (c % m + x - m) + m by omega, Nat.add_mod_right, Nat.mod_eq_of_lt (show c % m + x - m < m by omega), show c % m + x - m + (m - c % m) = x by omega, Nat.mod_eq_of_lt hx]
  rw [← h1 a ha, h, h1 b hb]
theorem rgL_push (d : α) (C : List α) (fr n : Nat) (x : α) (hn : n < C.length) : rgL d (C.set ((fr + n) % C.length) x) fr (n + 1) = rgL d C fr n ++ [x] := by
  have hm : (fr + n) % C.length < C.length := Nat.mod_lt _ (by omega)
  unfold rgL
  rw [List.range_succ, List.map_append, List.length_set]
  congr 1
  · apply List.map_congr_left
    intro i hi
    have hi := List.mem_range.1 hi
    have hne : (fr + n) % C.length ≠ (fr + i) % C.length := fun e => by have := mod_inj e (by omega) (by omega); omega
    rw [List.getD_eq_getElem?_getD, List.getD_eq_getElem?_getD, List.getElem?_set_ne hne]
  · simp only [List.map_cons, List.map_nil]
    rw [List.getD_eq_getElem?_getD, List.getElem?_set_self hm]
    rfl
theorem rgL_drop (d : α) (C : List α) (fr n k : Nat) (hk : k ≤ n) (hc : 0 < C.length) : rgL d C ((fr + k) % C.length) (n - k) = (rgL d C fr n).drop k := by
  apply List.ext_getElem
  · rw [rgL_len, List.length_drop, rgL_len]
  · intro i h1 h2
    rw [rgL_len] at h1
    rw [rgL_get _ _ _ _ _ h1, List.getElem_drop, rgL_get _ _ _ _ _ (by omega)]
    congr 1
    rw [Nat.mod_add_mod, Nat.add_assoc]
/-- what is wiped lies among what is dropped -/
theorem rgL_wipe (d : α) (C : List α) (fr n k j : Nat) (x : α) (hj : j < k) (hk : k ≤ n) (hn : n ≤ C.length) : (rgL d (C.set ((fr + j) % C.length) x) fr n).drop k = (rgL d C fr n).drop k := by
  apply List.ext_getElem
  · simp [rgL_len]
  · intro i h1 h2
    rw [List.length_drop, rgL_len] at h1
    rw [List.getElem_drop, List.getElem_drop, rgL_get _ _ _ _ _ (by omega), rgL_get _ _ _ _ _ (by omega), List.length_set]
    have hne : (fr + j) % C.length ≠ (fr + (k + i)) % C.length := fun e => by have := mod_inj e (by omega) (by omega); omega
    rw [List.getD_eq_getElem?_getD, List.getD_eq_getElem?_getD, List.getElem?_set_ne hne]
structure RG (E : α → Value) (w : World) (r g fr n : Nat) (C : List α) : Prop where
  c0 : w.cell? ⟨r, 0, none⟩ = some (.slice (some ⟨g, 0, none⟩) C.length C.length)
  c1 : w.cell? ⟨r, 1, none⟩ = some (.int .i64 fr)
  c2 : w.cell? ⟨r, 2, none⟩ = some (.int .i64 n)
  f1 : w.frozen? ⟨r, 1, none⟩ = false
  f2 : w.frozen? ⟨r, 2, none⟩ = false
  b : ∀ j (h : j < C.length), w.cell? ⟨g, j, none⟩ = some (E C[j])
  f : ∀ j, j < C.length → w.frozen? ⟨g, j, none⟩ = false
  ne : r ≠ g
  hn : n ≤ C.length
  hm : C.length ≤ 1000
  hf : fr ≤ C.length
  hf2 : 0 < C.length → fr < C.length
  hg : g < w.heap.size
variable {E : α → Value} {w w' : World} {r g fr n : Nat} {C : List α}
theorem RG.lt (h : RG E w r g fr n C) : r < w.heap.size := World.block_lt_of_cell? w _ h.c0
theorem RG.frm {S : Nat → Prop} (h : RG E w r g fr n C) (hf : Frm S w w') (h1 : ¬ S r) (h2 : ¬ S g) : RG E w' r g fr n C :=
  ⟨hf.cell h1 h.c0, hf.cell h1 h.c1, hf.cell h1 h.c2, (hf.frozen (p := ⟨r, 1, none⟩) h1 h.lt).trans h.f1, (hf.frozen (p := ⟨r, 2, none⟩) h1 h.lt).trans h.f2, fun j hj => hf.cell (p := ⟨g, j, none⟩) h2 (h.b j hj), fun j hj => (hf.frozen (p := ⟨g, j, none⟩) h2 (World.block_lt_of_cell? w _ (h.b j hj))).trans (h.f j hj), h.ne, h.hn, h.hm, h.hf, h.hf2, Nat.lt_of_lt_of_le h.hg hf.size⟩
theorem RG.below (h : RG E w r g fr n C) (hb : Below w.heap.size w w') : RG E w' r g fr n C := h.frm (S := fun _ => False) (.ofBelow hb) id id
theorem rcell_off {W : World} {g i j : Nat} {v u : Value} (h : W.cell? ⟨g, j, none⟩ = some u) (hne : i ≠ j) : (W.setCell ⟨g, i, none⟩ v).cell? ⟨g, j, none⟩ = some u := by
  simp [go_sem, h, hne]
theorem rcell_same {W : World} {g j : Nat} {v u : Value} (h : W.cell? ⟨g, j, none⟩ = some u) : (W.setCell ⟨g, j, none⟩ v).cell? ⟨g, j, none⟩ = some v := by
  simp [go_sem, h]
theorem RG.put (h : RG E w r g fr n C) (k : Nat) (hk : k < C.length) (x : α) : RG E (w.setCell ⟨g, k, none⟩ (E x)) r g fr n (C.set k x) := by
  have hf := Frm.one w g k (E x)
  have hl : (C.set k x).length = C.length := List.length_set
  refine ⟨by rw [hl]; exact hf.cell (p := ⟨r, 0, none⟩) h.ne h.c0, hf.cell (p := ⟨r, 1, none⟩) h.ne h.c1, hf.cell (p := ⟨r, 2, none⟩) h.ne h.c2, (World.frozen?_setCell _ _ _ _).trans h.f1, (World.frozen?_setCell _ _ _ _).trans h.f2, ?_, ?_, h.ne, by rw [hl]; exact h.hn, by rw [hl]; exact h.hm, by rw [hl]; exact h.hf, by rw [hl]; exact h.hf2, Nat.lt_of_lt_of_le h.hg hf.size⟩
  · intro j hj
    rw [hl] at hj
    by_cases e : k = j
    · subst e
      rw [List.getElem_set_self]
      exact rcell_same (h.b k hj)
    · rw [List.getElem_set_ne e]
      exact rcell_off (h.b j hj) e
  · intro j hj
    rw [hl] at hj
    exact (World.frozen?_setCell _ _ _ _).trans (h.f j hj)
theorem RG.setN (h : RG E w r g fr n C) (m : Nat) (hm : m ≤ C.length) : RG E (w.setCell ⟨r, 2, none⟩ (.int .i64 m)) r g fr m C :=
  have hf := Frm.one w r 2 (.int .i64 m)
  ⟨rcell_off h.c0 (by decide), rcell_off h.c1 (by decide), rcell_same h.c2, (World.frozen?_setCell _ _ _ _).trans h.f1, (World.frozen?_setCell _ _ _ _).trans h.f2, fun j hj => hf.cell (p := ⟨g, j, none⟩) (fun e => h.ne e.symm) (h.b j hj), fun j hj => (World.frozen?_setCell _ _ _ _).trans (h.f j hj), h.ne, hm, h.hm, h.hf, h.hf2, Nat.lt_of_lt_of_le h.hg hf.size⟩
theorem RG.setF (h : RG E w r g fr n C) (m : Nat) (hm : m < C.length) : RG E (w.setCell ⟨r, 1, none⟩ (.int .i64 m)) r g m n C :=
  have hf := Frm.one w r 1 (.int .i64 m)
  ⟨rcell_off h.c0 (by decide), rcell_same h.c1, rcell_off h.c2 (by decide), (World.frozen?_setCell _ _ _ _).trans h.f1, (World.frozen?_setCell _ _ _ _).trans h.f2, fun j hj => hf.cell (p := ⟨g, j, none⟩) (fun e => h.ne e.symm) (h.b j hj), fun j hj => (World.frozen?_setCell _ _ _ _).trans (h.f j hj), h.ne, h.hn, h.hm, by omega, fun _ => hm, Nat.lt_of_lt_of_le h.hg hf.size⟩
end
def nR (most : Int) : Nat := (min (max most 0) 1000).toNat
end Go.Proofs.Ytjjhgpdacijlmaa
