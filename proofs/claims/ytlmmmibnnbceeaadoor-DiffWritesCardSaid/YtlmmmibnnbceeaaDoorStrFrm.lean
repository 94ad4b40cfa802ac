/-
  A list of texts of the call's own, behind changes of other blocks; one more text, as the machine reckons it.
-/
import Derived.Test.YtlmmmibnnbceeaaDoorStrs
import Derived.Test.YtlmmmibnnbceeaaDoorOwn
namespace Go.Proofs.YtlmmmibnnbceeaaDoor
open Go.RowKit
set_option linter.unusedVariables false
set_option linter.unusedSimpArgs false
theorem Strs.frm {S : Nat → Prop} {w w' : World} {B : Nat} {v : Value} {l : List ByteArray} (h : Strs w B v l) (hf : Frm S w w') (hs : ∀ k, B ≤ k → ¬ S k) : Strs w' B v l := by
  refine ⟨h.1, ?_⟩
  rcases h.2 with hn | ⟨g, cap, cur, rfl, hb, hgg, rest⟩
  · exact .inl hn
  · refine .inr ⟨g, cap, cur, rfl, hb, ?_, rest⟩
    rw [hf.block g (Array.getElem?_eq_some_iff.1 hgg).1 (hs g hb)]
    exact hgg
theorem run_app_str (w : World) (B : Nat) (v : Value) (l : List ByteArray) (t : ByteArray) (hown : Strs w B v l) (hlen : l.length + 1 ≤ 1099511627776) (hB : B ≤ w.heap.size) :
    ∃ v' w', (Builtin.append_ #[39, 39] 39 #[v, .slice (some ⟨w.heap.size, 0, none⟩) 1 1]).run Tryd.prog (w.alloc (.cells #[.string t] 9)) = .ok v' w' ∧ Strs w' B v' (l ++ [t]) ∧
      (∀ (S : Nat → Prop) (a : World), a.heap.size ≤ B → Frm S a w → Frm S a w') ∧ w.heap.size ≤ w'.heap.size ∧ Frm (fun k => B ≤ k) w w' := by
  obtain ⟨i, hi, hzz⟩ := Option.map_eq_some_iff.1 strs_info
  simp only [Prod.mk.injEq] at hzz
  obtain ⟨hz, hsz, hby⟩ := hzz
  obtain ⟨v', w', hr, h1, h2, _⟩ := run_append_own (P := Tryd.prog) (w.alloc (.cells #[.string t] 9)) B 39 39 9 i (.string ByteArray.empty) 1 16 Tryd.underlying39 hi hz hsz hby rfl (by decide) v l.length (l.map Value.string) (hown.alloc _) ⟨w.heap.size, 0, none⟩ 1 1 [.string t] rfl
    (by
      intro j u hj
      match j, hj with
      | 0, hj => simp at hj; subst hj; simp [go_sem, Addr.add]
      | j + 1, hj => simp at hj)
    (by intro u hu; simp at hu; subst hu; rfl) (by unfold maxLen; omega) (by omega) (by simp; omega)
  refine ⟨v', w', hr, ?_, fun S a ha hf => (hf.alloc _).grown h2 ?_, Nat.le_trans (by simp) h2.size, ⟨h2.os, h2.tape, h2.output, Nat.le_trans (by simp) h2.size, fun k hk hs => ?_⟩⟩
  · have e1 : (l ++ [t]).length = l.length + 1 := by simp
    have e2 : (l ++ [t]).map Value.string = l.map Value.string ++ [.string t] := by simp
    unfold Strs
    rw [e1, e2]; exact h1
  · intro k hk
    have := (World.ownsRow.lt (hown.alloc (.cells #[.string t] 9)) k hk).1
    omega
  · rw [h2.block k (by simp; omega) (by intro he; have := (World.ownsRow.lt (hown.alloc (.cells #[.string t] 9)) k he.symm).1; exact hs this)]
    exact Below.heap_alloc w _ k hk
/-- 'append(v, t)', on a row of the call's own -/
theorem app_own2 {ops : Array Oper} {rest : List Oper} {o : Oper} {a : Act} {Q : Exit → Act → World → Prop} (hgd : o.guard = none) (s x : Operand)
    (ho : o.op = .call { callee := .builtin .append, args := #[s, x], argTypes := #[39, 39] })
    (w : World) (B : Nat) (v : Value) (l : List ByteArray) (t : ByteArray) (hs : a.eval s = v) (hx : a.eval x = .slice (some ⟨w.heap.size, 0, none⟩) 1 1)
    (hown : Strs w B v l) (hlen : l.length + 1 ≤ 1099511627776) (hB : B ≤ w.heap.size)
    (h : ∀ v' w', Strs w' B v' (l ++ [t]) → Frm (fun k => some k = v.ownBlock) w w' → Stay w v v' → wpList Tryd.prog ops Q rest (a.put o.dst v') w') :
    wpList Tryd.prog ops Q (o :: rest) a (w.alloc (.cells #[.string t] 9)) := by
  refine wpl_own2 hgd s x 39 ho B 9 (.string ByteArray.empty) 1 16 Tryd.underlying39 strs_info rfl (by decide) v l.length (l.map Value.string) hs (hown.alloc _) ⟨w.heap.size, 0, none⟩ 1 1 [.string t] hx rfl ?_ ?_ ?_ ?_ ?_ ?_
  · intro j u hj
    match j, hj with
    | 0, hj => simp at hj; subst hj; simp [go_sem, Addr.add]
    | j + 1, hj => simp at hj
  · intro u hu; simp at hu; subst hu; rfl
  · unfold maxLen; omega
  · omega
  · simp; omega
  · intro v' w' h1 h2 h3
    refine h v' w' ?_ (((Frm.refl _ w).alloc _).trans h2) ?_
    · have e1 : (l ++ [t]).length = l.length + 1 := by simp
      have e2 : (l ++ [t]).map Value.string = l.map Value.string ++ [.string t] := by simp
      unfold Strs
      rw [e1, e2]; exact h1
    · rcases h3 with h3 | ⟨g, hg, hl⟩
      · exact .inl h3
      · exact .inr ⟨g, hg, by simp at hl; omega⟩
end Go.Proofs.YtlmmmibnnbceeaaDoor
