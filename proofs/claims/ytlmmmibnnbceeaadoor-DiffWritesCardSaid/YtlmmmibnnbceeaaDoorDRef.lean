/-
  Where two texts differ (chapter 41), the reference.
-/
import Derived.Test.YtlmmmibnnbceeaaDoorDSpans
import Derived.Test.YtlmmmibnnbceeaaDoorMake
import Derived.Laws.AppendOwn
namespace Go.Proofs.YtlmmmibnnbceeaaDoor
open Go.RowKit
set_option linter.unusedVariables false
set_option linter.unusedSimpArgs false

theorem appS {ops : Array Oper} {rest : List Oper} {o : Oper} {a : Act} {Q : Exit → Act → World → Prop} (hgd : o.guard = none) (s x : Operand)
    (ho : o.op = .call { callee := .builtin .append, args := #[s, x], argTypes := #[32, 32] })
    (w w0 : World) (B : Nat) (v : Value) (l : List (Nat × Nat)) (x1 x2 : Nat) (hs : a.eval s = v) (hx : a.eval x = .slice (some ⟨w.heap.size, 0, none⟩) 1 1)
    (hrow : SpRow w B v l) (hlen : l.length ≤ 1000001) (hB : B ≤ w.heap.size) (hbel : Below B w0 w)
    (h : ∀ v' w', SpRow w' B v' (l ++ [(x1, x2)]) → Below B w0 w' → wpList Tryd.prog ops Q rest (a.put o.dst v') w') :
    wpList Tryd.prog ops Q (o :: rest) a (w.alloc (.cells #[.int .i64 x1, .int .i64 x2] 38)) := by
  obtain ⟨i, hi, hzz⟩ := Option.map_eq_some_iff.1 span_info
  simp only [Prod.mk.injEq] at hzz
  obtain ⟨hz, hsz, hby⟩ := hzz
  have hrow' : w.ownsRow B 38 2 v l.length (flatS l) := hrow
  refine wpList_append_own _ hgd s x 32 ho B 38 i (.agg #[.int .i64 0, .int .i64 0]) 2 16 Tryd.underlying32 hi hz hsz hby rfl (by decide) v l.length (flatS l) hs (hrow'.alloc _) ⟨w.heap.size, 0, none⟩ 1 1 [.int .i64 x1, .int .i64 x2] hx rfl ?_ ?_ ?_ ?_ ?_ ?_
  · intro j u hj
    match j, hj with
    | 0, hj => simp at hj; subst hj; simp [go_sem, Addr.add]
    | 1, hj => simp at hj; subst hj; simp [go_sem, Addr.add]
    | j + 2, hj => simp at hj
  · intro u hu; simp at hu; rcases hu with rfl | rfl <;> rfl
  · unfold maxLen; omega
  · omega
  · simp; omega
  · intro v' w' h1 h2 _
    refine h v' w' ?_ ?_
    · have e1 : (l ++ [(x1, x2)]).length = l.length + 1 := by simp
      unfold SpRow
      rw [e1, flatS_snoc]; exact h1
    · exact (hbel.alloc hB _).grown h2 (by simp; omega) (fun k hk => (World.ownsRow.lt hrow' k hk).1)
theorem SpRow.slice {W : World} {B : Nat} {v : Value} {l : List (Nat × Nat)} (h : SpRow W B v l) (h0 : l ≠ []) : ∃ g c, v = .slice (some ⟨g, 0, none⟩) l.length c ∧ B ≤ g ∧ l.length ≤ c := by
  rcases h.2 with ⟨_, h2⟩ | ⟨g, cap, cur, hv, hg, _, hc, _⟩
  · exact absurd (List.length_eq_zero_iff.1 h2) h0
  · exact ⟨g, cap, hv, hg, hc⟩
theorem SpRow.any {W : World} {B : Nat} {v : Value} {l : List (Nat × Nat)} (h : SpRow W B v l) : ∃ a c, v = .slice a l.length c := by
  rcases h.2 with ⟨hv, h2⟩ | ⟨g, cap, cur, hv, _⟩
  · exact ⟨none, 0, by rw [hv, h2]⟩
  · exact ⟨_, cap, hv⟩
theorem SpRow.below {W W' : World} {B : Nat} {v : Value} {l : List (Nat × Nat)} (h : SpRow W B v l) (hb : Below W.heap.size W W') : SpRow W' B v l := by
  refine ⟨h.1, ?_⟩
  rcases h.2 with h2 | ⟨g, cap, cur, e, hg, hc, r⟩
  · exact .inl h2
  · exact .inr ⟨g, cap, cur, e, hg, (hb.block g (Array.getElem?_eq_some_iff.1 hc).1).trans hc, r⟩
theorem SpRow.cells {W : World} {B g c : Nat} {l : List (Nat × Nat)} (h : SpRow W B (.slice (some ⟨g, 0, none⟩) l.length c) l) (k : Nat) (x : Nat × Nat) (hk : l[k]? = some x) : W.cell? ⟨g, k * 2, none⟩ = some (.int .i64 x.1) ∧ W.cell? ⟨g, k * 2 + 1, none⟩ = some (.int .i64 x.2) := by
  have hkl := (List.getElem?_eq_some_iff.1 hk).1
  have key : ∀ (l : List (Nat × Nat)) k x, l[k]? = some x → (flatS l)[k * 2]? = some (.int .i64 x.1) ∧ (flatS l)[k * 2 + 1]? = some (.int .i64 x.2) := by
    intro l
    induction l with
    | nil => intro k x h; simp at h
    | cons a l ih =>
      intro k x h
      have e : flatS (a :: l) = .int .i64 a.1 :: .int .i64 a.2 :: flatS l := rfl
      rw [e]
      match k, h with
      | 0, h => simp at h; subst h; exact ⟨rfl, rfl⟩
      | k + 1, h =>
        simp at h
        obtain ⟨h1, h2⟩ := ih k x h
        rw [show (k + 1) * 2 = k * 2 + 1 + 1 by omega, show k * 2 + 1 + 1 + 1 = (k * 2 + 1) + 1 + 1 by omega]
        exact ⟨by simpa using h1, by simpa using h2⟩
  obtain ⟨h1, h2⟩ := key l k x hk
  have a1 := World.ownsRow.cellAt h (k * 2) (by omega)
  have a2 := World.ownsRow.cellAt h (k * 2 + 1) (by omega)
  exact ⟨a1.trans h1, a2.trans h2⟩
theorem SpRow.last {W : World} {B g c : Nat} {X : List (Nat × Nat)} {k i j : Nat} (h : SpRow W B (.slice (some ⟨g, 0, none⟩) (X ++ [(k, i)]).length c) (X ++ [(k, i)])) :
    SpRow (W.setCell ⟨g, X.length * 2 + 1, none⟩ (.int .i64 j)) B (.slice (some ⟨g, 0, none⟩) (X ++ [(k, j)]).length c) (X ++ [(k, j)]) := by
  have e : (X ++ [(k, i)]).length = (X ++ [(k, j)]).length := by simp
  have h2 := World.ownsRow.stored h (X.length * 2 + 1) (.int .i64 j)
  have e2 : (flatS (X ++ [(k, i)])).set (X.length * 2 + 1) (.int .i64 j) = flatS (X ++ [(k, j)]) := by
    rw [flatS_snoc, flatS_snoc, List.set_append_right _ _ (by rw [flatS_len]; omega), flatS_len]
    rw [show X.length * 2 + 1 - X.length * 2 = 1 by omega]
    rfl
  rw [e2] at h2
  unfold SpRow
  rw [← e]
  exact h2.1
end Go.Proofs.YtlmmmibnnbceeaaDoor
