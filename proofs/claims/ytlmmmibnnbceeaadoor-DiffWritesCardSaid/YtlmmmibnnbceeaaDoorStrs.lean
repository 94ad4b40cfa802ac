/-
  A list of texts that the call itself makes, one text at a time.
-/
import Derived.Test.YtlmmmibnnbceeaaDoorRows
import Derived.Test.YtlmmmibnnbceeaaDoorMine
import Derived.WalkKit
import Derived.Laws.AppendOwn
import Derived.Laws.OwnMore
import Derived.OwnWalk
namespace Go.Proofs.YtlmmmibnnbceeaaDoor
open Go.RowKit
set_option linter.unusedVariables false

/-- v is the list l, a row of the call's own behind block B -/
def Strs (w : World) (B : Nat) (v : Value) (l : List ByteArray) : Prop := w.ownsRow B 9 1 v l.length (l.map Value.string)
theorem Strs.nil (w : World) (B : Nat) : Strs w B (.slice none 0 0) [] := ⟨rfl, .inl ⟨rfl, rfl⟩⟩
theorem strs_info : (Tryd.prog.info? 9).map (fun i => (i.zero, i.size, i.bytes)) = some (some (.string ByteArray.empty), 1, 16) := by kernel_rfl
theorem app_str2 {ops : Array Oper} {rest : List Oper} {o : Oper} {a : Act} {Q : Exit → Act → World → Prop} (hgd : o.guard = none) (s x : Operand)
    (ho : o.op = .call { callee := .builtin .append, args := #[s, x], argTypes := #[39, 39] })
    (w w0 : World) (B B0 : Nat) (v : Value) (l : List ByteArray) (t : ByteArray) (hs : a.eval s = v) (hx : a.eval x = .slice (some ⟨w.heap.size, 0, none⟩) 1 1)
    (hown : Strs w B v l) (hlen : l.length + 1 ≤ 1099511627776) (hB : B ≤ w.heap.size) (hB0 : B0 ≤ B) (hbel : Below B0 w0 w)
    (h : ∀ v' w', Strs w' B v' (l ++ [t]) → Below B0 w0 w' → (∀ k, k < w.heap.size → some k ≠ v.ownBlock → w'.heap[k]? = w.heap[k]?) → wpList Tryd.prog ops Q rest (a.put o.dst v') w') :
    wpList Tryd.prog ops Q (o :: rest) a (w.alloc (.cells #[.string t] 9)) := by
  obtain ⟨i, hi, hzz⟩ := Option.map_eq_some_iff.1 strs_info
  simp only [Prod.mk.injEq] at hzz
  obtain ⟨hz, hsz, hby⟩ := hzz
  refine wpList_append_own _ hgd s x 39 ho B 9 i (.string ByteArray.empty) 1 16 Tryd.underlying39 hi hz hsz hby rfl (by decide) v l.length (l.map Value.string) hs (hown.alloc _) ⟨w.heap.size, 0, none⟩ 1 1 [.string t] hx rfl ?_ ?_ ?_ ?_ ?_ ?_
  · intro j u hj
    match j, hj with
    | 0, hj => simp at hj; subst hj; simp [go_sem, Addr.add]
    | j + 1, hj => simp at hj
  · intro u hu; simp at hu; subst hu; rfl
  · unfold maxLen; omega
  · omega
  · simp; omega
  · intro v' w' h1 h2 _
    refine h v' w' ?_ ?_ ?_
    · have e1 : (l ++ [t]).length = l.length + 1 := by simp
      have e2 : (l ++ [t]).map Value.string = l.map Value.string ++ [.string t] := by simp
      unfold Strs
      rw [e1, e2]; exact h1
    · refine (hbel.alloc (Nat.le_trans hB0 hB) _).grown h2 (by simp; omega) ?_
      intro k hk
      rcases hown.2 with ⟨e, _⟩ | ⟨g, cap, cur, e, hg, _⟩
      · subst e; cases hk
      · subst e; simp [Value.ownBlock] at hk; omega
    · intro k hk hne
      rw [h2.block k (by simp; omega) hne]
      exact Below.heap_alloc w _ k hk
theorem app_str {ops : Array Oper} {rest : List Oper} {o : Oper} {a : Act} {Q : Exit → Act → World → Prop} (hgd : o.guard = none) (s x : Operand)
    (ho : o.op = .call { callee := .builtin .append, args := #[s, x], argTypes := #[39, 39] })
    (w w0 : World) (B : Nat) (v : Value) (l : List ByteArray) (t : ByteArray) (hs : a.eval s = v) (hx : a.eval x = .slice (some ⟨w.heap.size, 0, none⟩) 1 1)
    (hown : Strs w B v l) (hlen : l.length + 1 ≤ 1099511627776) (hB : B ≤ w.heap.size) (hbel : Below B w0 w)
    (h : ∀ v' w', Strs w' B v' (l ++ [t]) → Below B w0 w' → (∀ k, k < w.heap.size → some k ≠ v.ownBlock → w'.heap[k]? = w.heap[k]?) → wpList Tryd.prog ops Q rest (a.put o.dst v') w') :
    wpList Tryd.prog ops Q (o :: rest) a (w.alloc (.cells #[.string t] 9)) := app_str2 hgd s x ho w w0 B B v l t hs hx hown hlen hB (Nat.le_refl _) hbel h
end Go.Proofs.YtlmmmibnnbceeaaDoor
