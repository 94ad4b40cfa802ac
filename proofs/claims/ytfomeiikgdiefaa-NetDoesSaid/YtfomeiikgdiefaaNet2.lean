/-
  Frames under way (chapter 26): one cut out of the row.
-/
import Derived.Test.YtfomeiikgdiefaaNet
import Derived.Shelf.RegionOpenPlain
import Derived.Deep.RegionLaw
import Derived.Lib.Walk
import Derived.Lib.SliceRun
namespace Go.Proofs.Ytfomeiikgdiefaa
open Go.RowKit Go.Shelf
set_option linter.unusedVariables false
set_option linter.unusedSimpArgs false

/-- the cells that 'clear' lays -/
def zcs (n : Nat) : List Value := (Builtin.zeroCells #[.int .i64 0, .string ⟨#[]⟩] n).toList
theorem zcs_len (n : Nat) : (zcs n).length = n * 2 := by unfold zcs; simp [Builtin.zeroCells]
theorem zcs_one (n : Nat) : ∀ u ∈ zcs n, u.oneCell' = true := by
  intro u hu
  unfold zcs at hu
  simp only [Builtin.zeroCells, Array.toList_map, List.mem_map] at hu
  obtain ⟨k, _, rfl⟩ := hu
  have h2 : k % 2 = 0 ∨ k % 2 = 1 := by omega
  show ((#[.int .i64 0, .string ⟨#[]⟩] : Array Value)[k % 2]!).oneCell' = true
  rcases h2 with h2 | h2
  · rw [h2]; rfl
  · rw [h2]; rfl
theorem run_clear_u (w : World) (ty : TypeId) (b o n c : Nat) (hn : 0 < n)
    (hc : ∀ j, j < n * 2 → (w.cell? ⟨b, o + j, none⟩).isSome = true) (hf : ∀ j, j < n * 2 → w.frozen? ⟨b, o + j, none⟩ = false) :
    (Builtin.clear_ #[28] ty #[.slice (some ⟨b, o, none⟩) n c]).run Try.prog w = .ok (.tuple #[]) (w.setCells b o (zcs n)) := by
  have hv : ∀ w, (zeroValue 32).run Try.prog w = .ok (.agg #[.int .i64 0, .string ⟨#[]⟩]) w := fun _ => by kernel_rfl
  have hst := run_storeCells_cells (P := Try.prog) b o (zcs n) 0 w (by rw [zcs_len]; simpa using hc) (by rw [zcs_len]; simpa using hf) (zcs_one n)
  simp only [Nat.add_zero] at hst
  obtain ⟨m, rfl⟩ : ∃ m, n = m + 1 := ⟨n - 1, by omega⟩
  simp [Builtin.clear_, run_underlying Try.underlying28, hv, Value.cells]
  unfold zcs at hst ⊢
  rw [hst]
  rfl
theorem getElem?_flatU_some {l : List U2} {j : Nat} (h : j < l.length * 2) : ∃ u, (flatU l)[j]? = some u := ⟨_, List.getElem?_eq_getElem (by rw [flatU_len]; exact h)⟩
theorem erase_eq (l : List U2) (i : Nat) : l.eraseIdx i = l.take i ++ l.drop (i + 1) := List.eraseIdx_eq_take_drop_succ l i
theorem row_cells {w : World} {B g n cap : Nat} {xs : List Value} (h : w.ownsRow B 32 2 (.slice (some ⟨g, 0, none⟩) n cap) n xs) (j : Nat) (hj : j < n * 2) : (w.cell? ⟨g, j, none⟩).isSome = true ∧ w.frozen? ⟨g, j, none⟩ = false := by
  refine ⟨?_, World.ownsRow.frozenAt h j⟩
  have h1 := World.ownsRow.cellAt h j hj
  rw [h1, List.getElem?_eq_getElem (by rw [h.1]; exact hj)]
  rfl
set_option maxHeartbeats 3200000 in
theorem ndelete_any (B g cap i : Nat) (l : List U2) (w : World) (h : URow w B (.slice (some ⟨g, 0, none⟩) l.length cap) l) (hi : i < l.length) (hm : l.length ≤ 1000) :
    Calls Try.prog 22 #[.slice (some ⟨g, 0, none⟩) l.length cap, .int .i64 i, .int .i64 ((i : Int) + 1)] w fun e w' => e = .returned (.slice (some ⟨g, 0, none⟩) (l.eraseIdx i).length cap) ∧ URow w' B (.slice (some ⟨g, 0, none⟩) (l.eraseIdx i).length cap) (l.eraseIdx i) ∧ Frm (· = g) w w' := by
  have mixed : Try.prog.follows Departure.mixedOrders = true := by kernel_rfl
  obtain ⟨i0, hi0, hzz⟩ := Option.map_eq_some_iff.1 und_info
  simp only [Prod.mk.injEq] at hzz
  obtain ⟨hz, hsz, hby⟩ := hzz
  have hcap : l.length ≤ cap ∧ cap ≤ maxLen := by
    rcases h.2 with ⟨h', _⟩ | ⟨g', cap', cur, h', hb, hg, hnc, hcm, hcs, htake⟩
    · simp at h'
    · simp only [Value.slice.injEq, Option.some.injEq, Addr.mk.injEq, and_true, true_and] at h'
      obtain ⟨rfl, rfl⟩ := h'
      exact ⟨hnc, hcm⟩
  obtain ⟨n, hn⟩ : ∃ n, l.length = n := ⟨_, rfl⟩
  have hE : (l.eraseIdx i).length = i + (n - (i + 1)) := by rw [List.length_eraseIdx]; rw [if_pos hi]; omega
  obtain ⟨news, hnews⟩ : ∃ news, news = flatU (l.drop (i + 1)) := ⟨_, rfl⟩
  have hlen : news.length = (n - (i + 1)) * 2 := by rw [hnews, flatU_len, List.length_drop, hn]
  have hrow : w.drew.ownsRow B 32 2 (.slice (some ⟨g, 0, none⟩) n cap) n (flatU l) := by rw [← hn]; exact h.below (Below.refl _ _).drew
  obtain ⟨A, hA, hsrc⟩ : ∃ A : Addr, (if cap = i + 1 then some (⟨g, 0, none⟩ : Addr) else some ⟨g, (i + 1) * 2, none⟩) = some A ∧ Hid (∀ t u, news[t]? = some u → w.drew.cell? (A.add t) = some u) := by
    by_cases hc : cap = i + 1
    · refine ⟨⟨g, 0, none⟩, by simp [hc], fun t u hu => ?_⟩
      have h0 : news.length = 0 := by rw [hlen]; omega
      rw [List.length_eq_zero_iff.1 h0] at hu
      simp at hu
    · refine ⟨⟨g, (i + 1) * 2, none⟩, by simp [hc], fun t u hu => ?_⟩
      rw [hnews, ← flatU_drop, List.getElem?_drop] at hu
      rw [Addr.add_lit]
      exact (h.below (Below.refl _ _).drew).cell _ u hu
  have s1 : Hid (news.length = (n - (i + 1)) * 2) := hlen
  have s2 : Hid (∀ u ∈ news, u.oneCell' = true) := by rw [hnews]; exact flatU_one _
  have s3 : Hid (∀ t, t < news.length → (w.drew.cell? ⟨g, 0 + i * 2 + t, none⟩).isSome = true ∧ w.drew.frozen? ⟨g, 0 + i * 2 + t, none⟩ = false) := by
    intro t ht
    rw [hlen] at ht
    exact row_cells hrow _ (by omega)
  obtain ⟨W1, hW1⟩ : ∃ W1, W1 = w.drew.setCells g (0 + i * 2) news := ⟨_, rfl⟩
  have hm1 := stored_many news (0 + i * 2) w.drew (flatU l) hrow
  rw [← hW1] at hm1
  have hcl : ∀ ty, (Builtin.clear_ #[28] ty #[.slice (some ⟨g, (i + (n - (i + 1))) * 2, none⟩) (n - (i + (n - (i + 1)))) (cap - (i + (n - (i + 1))))]).run Try.prog W1 = .ok (.tuple #[]) (W1.setCells g ((i + (n - (i + 1))) * 2) (zcs (n - (i + (n - (i + 1)))))) :=
    fun ty => run_clear_u W1 ty g _ _ _ (by omega) (fun j hj => (row_cells hm1.1 _ (by omega)).1) (fun j hj => (row_cells hm1.1 _ (by omega)).2)
  have hm2 := stored_many (zcs (n - (i + (n - (i + 1))))) ((i + (n - (i + 1))) * 2) W1 _ hm1.1
  have hfin : Hid (URow (W1.setCells g ((i + (n - (i + 1))) * 2) (zcs (n - (i + (n - (i + 1)))))) B (.slice (some ⟨g, 0, none⟩) (i + (n - (i + 1))) cap) (l.eraseIdx i) ∧ Frm (· = g) w (W1.setCells g ((i + (n - (i + 1))) * 2) (zcs (n - (i + (n - (i + 1))))))) := by
    refine ⟨?_, (((Frm.refl _ w).drew).trans hm1.2).trans hm2.2⟩
    have h1 := row_shrink hm2.1 (m := i + (n - (i + 1))) (by omega)
    unfold URow
    rw [hE]
    have e : (setL (setL (flatU l) (0 + i * 2) news) ((i + (n - (i + 1))) * 2) (zcs (n - (i + (n - (i + 1)))))).take ((i + (n - (i + 1))) * 2) = flatU (l.eraseIdx i) := by
      rw [setL_eq _ _ _ (by rw [setL_len, flatU_len, zcs_len]; omega), List.append_assoc, List.take_append_of_le_length (by rw [List.length_take, setL_len, flatU_len]; omega), List.take_take, Nat.min_self]
      rw [setL_eq _ _ _ (by rw [flatU_len, hlen]; omega), Nat.zero_add, List.take_append_of_le_length (by rw [List.length_append, List.length_take, flatU_len, hlen]; omega)]
      rw [List.take_of_length_le (by rw [List.length_append, List.length_take, flatU_len, hlen]; omega), erase_eq, flatU_app, ← hnews, ← flatU_take]
    rw [← e]
    exact h1
  have hW : Hid (W1 = w.drew.setCells g (0 + i * 2) news) := hW1
  have hic : i ≤ cap := by omega
  have hjc : i + 1 ≤ cap := by omega
  rw [hE]
  rw [hn] at hi hm hcap ⊢
  have j1 : (0 : Int) ≤ (i : Int) := by omega
  have j2 : (i : Int) ≤ (i : Int) + 1 := by omega
  have j3 : (i : Int) + 1 ≤ (n : Int) := by omega
  have j5 : (0 : Int) ≤ (i : Int) + 1 := by omega
  have j4 : ((i : Int) == (i : Int) + 1) = false := beq_eq_false_iff_ne.2 (by omega)
  clear hW1 hm1 hm2 hrow h hnews hlen hE
  go_enter Try.func22, Try.ntmps22
  go_wp2_with fail
  go_region_law_o (refine step_append_room rfl (.tmp 22) (.tmp 25) 28 rfl 32 i0 2 Try.underlying28 hi0 hsz g 0 i cap (by simp [Act.eval, Act.put]) A (n - (i + 1)) (cap - (i + 1)) news (by simp [Act.eval, Act.put]) s1.out hsrc.out s2.out (by omega) s3.out ?_; rw [← hW.out])
  go_wp2
  go_ret
  exact ⟨rfl, hfin.out⟩
end Go.Proofs.Ytfomeiikgdiefaa
