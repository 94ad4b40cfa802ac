/-
  Two versions of a base (chapter 41): merged, the first loop.
-/
import Derived.Test.YtlmmmibnnbceeaaDoorMerge
import Derived.Laws.IdiomStrings
import Derived.BigRegionIn
namespace Go.Proofs.YtlmmmibnnbceeaaDoor
open Go.RowKit Go.Shelf
set_option linter.unusedVariables false
set_option linter.unusedSimpArgs false
attribute [local go_sem] Oper.semAt_some

/-- a row of n bytes: f tells them -/
structure BRow (W : World) (G n : Nat) (f : Nat → Nat) : Prop where
  c : ∀ j, j < n → W.cell? ⟨G, j, none⟩ = some (.int .u8 (f j))
  z : ∀ j, j < n → W.frozen? ⟨G, j, none⟩ = false
theorem BRow.frm {S : Nat → Prop} {W W' : World} {G n : Nat} {f : Nat → Nat} (h : BRow W G n f) (hf : Frm S W W') (hG : ¬ S G) : BRow W' G n f :=
  ⟨fun j hj => hf.cell (p := ⟨G, j, none⟩) hG (h.c j hj), fun j hj => (hf.frozen (p := ⟨G, j, none⟩) hG (World.block_lt_of_cell? W _ (h.c j hj))).trans (h.z j hj)⟩
theorem bytes_new (s : ByteArray) (W : World) : ∃ cap W', (convert 9 51 (.string s)).run Tryd.prog W = .ok (.slice (some ⟨W.heap.size, 0, none⟩) s.size cap) W' ∧ s.size ≤ cap ∧ BRow W' W.heap.size s.size (gd s) ∧ Below W.heap.size W W' ∧ W'.heap.size = W.heap.size + 1 := by
  have hge := grownCap_ge W s.size 0 5
  refine ⟨grownCap W s.size 0 5, _, run_bytes_of_string W 9 51 5 s (by kernel_rfl) Tryd.underlying51 (by kernel_rfl), hge, ?_, ?_, ?_⟩
  · have hnew := heap_alloc_new W.drew (.cells (bytesRow s (grownCap W s.size 0 5)) 5 ((bytesRow s (grownCap W s.size 0 5)).size, (bytesRow s (grownCap W s.size 0 5)).size + 1))
    refine ⟨fun j hj => ?_, fun j hj => ?_⟩
    · have h1 := bytesRow_at s (grownCap W s.size 0 5) j hj
      have h2 : (s.data[j].toNat : Int) = ((gd s j : Nat) : Int) := by rw [← gd_eq hj]; rfl
      rw [h2] at h1
      exact (cell_of_row _ W.heap.size j _ _ _ hnew).trans h1
    · refine (World.frozen?_alloc_mark W.drew _ _ _ _ j).trans ?_
      have hl : j < (bytesRow s (grownCap W s.size 0 5)).size := by
        have h1 := bytesRow_at s (grownCap W s.size 0 5) j hj
        exact (Array.getElem?_eq_some_iff.1 h1).1
      rw [decide_eq_false (by omega), Bool.false_and]
  · exact ((Below.refl _ W).drew).alloc (Nat.le_refl _) _
  · rw [World.size_alloc]; rfl
theorem bytes_put (W : World) (G n cap : Nat) (f : Nat → Nat) (t : ByteArray) (x1 x2 : Nat) (h1 : x1 ≤ x2) (h2 : x2 ≤ n) (h3 : n ≤ t.size) (ty : TypeId) (h : BRow W G n f) :
    (Builtin.copy_ #[51, 9] ty #[.slice (some ⟨G, x1, none⟩) (x2 - x1) (cap - x1), .string (t.extract x1 x2)]).run Tryd.prog W = .ok (goInt ((x2 - x1 : Nat) : Int)) (W.setCells G x1 ((t.extract x1 x2).data.toList.map fun x => Value.int .u8 (x.toNat : Int))) ∧
    BRow (W.setCells G x1 ((t.extract x1 x2).data.toList.map fun x => Value.int .u8 (x.toNat : Int))) G n (fun j => if x1 ≤ j ∧ j < x2 then gd t j else f j) ∧
    Frm (· = G) W (W.setCells G x1 ((t.extract x1 x2).data.toList.map fun x => Value.int .u8 (x.toNat : Int))) ∧ KeepsOthers W (W.setCells G x1 ((t.extract x1 x2).data.toList.map fun x => Value.int .u8 (x.toNat : Int))) := by
  have hz : (t.extract x1 x2).size = x2 - x1 := ext_size t x1 x2 (by omega)
  have hr := run_copy_string (P := Tryd.prog) W 51 9 ty 5 G x1 (x2 - x1) (cap - x1) (t.extract x1 x2) Tryd.underlying51 (fun w => by kernel_rfl) (by omega)
    (fun j hj => by rw [h.c (x1 + j) (by omega)]; rfl) (fun j hj => h.z (x1 + j) (by omega))
  rw [hz] at hr
  refine ⟨hr, ⟨fun j hj => ?_, fun j hj => (World.frozen?_setCells G _ _ _ _).trans (h.z j hj)⟩, ?_, ?_⟩
  · have hlen : ((t.extract x1 x2).data.toList.map fun x => Value.int .u8 (x.toNat : Int)).length = x2 - x1 := by rw [List.length_map, data_len, hz]
    by_cases hin : x1 ≤ j ∧ j < x2
    · rw [if_pos hin]
      obtain ⟨d, rfl⟩ : ∃ d, j = x1 + d := ⟨j - x1, by omega⟩
      rw [World.cell?_setCells_in G _ x1 W (fun i hi => by rw [h.c (x1 + i) (by omega)]; rfl) d (by rw [hlen]; omega)]
      have hd : d < x2 - x1 := by omega
      have hg := gd_extract t x1 x2 d (by omega) hd
      have he := gd_eq (d := t.extract x1 x2) (k := d) (by omega)
      simp only [List.getElem_map]
      congr 2
      rw [← hg, ← he]
      rfl
    · rw [if_neg hin, World.cell?_setCells_out G _ x1 W ⟨G, j, none⟩ (fun _ _ => by show j < x1 ∨ x1 + _ ≤ j; rw [hlen]; omega)]
      exact h.c j hj
  · have key : ∀ (vs : List Value) (o : Nat) (W : World), Frm (· = G) W (W.setCells G o vs) := by
      intro vs
      induction vs with
      | nil => intro o W; exact Frm.refl _ _
      | cons v vs ih => intro o W; exact (Frm.one W G o v).trans (ih (o + 1) _)
    exact key _ _ _
  · have key : ∀ (vs : List Value) (o : Nat) (W : World), KeepsOthers W (W.setCells G o vs) := by
      intro vs
      induction vs with
      | nil => intro o W; exact KeepsOthers.refl _
      | cons v vs ih => intro o W; exact (KeepsOthers.setCell W _ v).trans (ih (o + 1) _)
    exact key _ _ _
/-- is a place in one of the runs? -/
def inR (l : List (Nat × Nat)) (j : Nat) : Bool := l.any fun x => decide (x.1 ≤ j) && decide (j < x.2)
theorem inR_snoc (l : List (Nat × Nat)) (x : Nat × Nat) (j : Nat) : inR (l ++ [x]) j = (inR l j || (decide (x.1 ≤ j) && decide (j < x.2))) := by unfold inR; simp
theorem inR_rs (p : Nat → Bool) : ∀ n j, inR (rs p n) j = (decide (j < n) && p j) := by
  intro n
  induction n with
  | zero => intro j; rw [decide_eq_false (by omega)]; rfl
  | succ n ih =>
    intro j
    cases hp : p n with
    | false =>
      rw [rs_no hp, ih j]
      by_cases e : j = n
      · subst e; rw [hp, Bool.and_false, Bool.and_false]
      · congr 1; rw [decide_eq_decide]; omega
    | true =>
      by_cases hq : 0 < n ∧ p (n - 1) = true
      · obtain ⟨X, k, hX⟩ := rs_last p n hq.1 hq.2
        have hk := (rs_mem p n (k, n) (by rw [hX]; simp))
        have e : rs p (n + 1) = X ++ [(k, n + 1)] := by
          show (if p n = true then (if 0 < n ∧ p (n - 1) = true then _ else _) else _) = _
          rw [if_pos hp, if_pos hq, hX]; simp
        have ihj := ih j
        rw [hX, inR_snoc] at ihj
        rw [e, inR_snoc]
        by_cases e2 : j = n
        · subst e2
          rw [decide_eq_true (show (k, j + 1).1 ≤ j from by have := hk.1; simp at this ⊢; omega), decide_eq_true (show j < (k, j + 1).2 from by simp), hp]
          simp
        · have e3 : decide (j < (k, n + 1).2) = decide (j < (k, n).2) := by rw [decide_eq_decide]; simp; omega
          have e4 : decide (j < n + 1) = decide (j < n) := by rw [decide_eq_decide]; omega
          rw [e4]
          exact ihj
      · have e : rs p (n + 1) = rs p n ++ [(n, n + 1)] := by
          show (if p n = true then (if 0 < n ∧ p (n - 1) = true then _ else _) else _) = _
          rw [if_pos hp, if_neg hq]
        rw [e, inR_snoc, ih j]
        by_cases e2 : j = n
        · subst e2
          rw [decide_eq_true (show (j, j + 1).1 ≤ j from Nat.le_refl _), decide_eq_true (show j < (j, j + 1).2 from by simp), hp]
          simp
        · have e3 : (decide ((n, n + 1).1 ≤ j) && decide (j < (n, n + 1).2)) = false := by
            by_cases h : n ≤ j
            · rw [decide_eq_false (show ¬ j < (n, n + 1).2 from by simp; omega), Bool.and_false]
            · rw [decide_eq_false (show ¬ (n, n + 1).1 ≤ j from h), Bool.false_and]
          have e4 : decide (j < n + 1) = decide (j < n) := by rw [decide_eq_decide]; omega
          rw [e3, e4, Bool.or_false]
end Go.Proofs.YtlmmmibnnbceeaaDoor
