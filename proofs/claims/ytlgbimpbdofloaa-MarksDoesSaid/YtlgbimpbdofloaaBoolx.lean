/-
  Lists of truths joined.
-/
import Derived.Test.YtlgbimpbdofloaaRows
import Derived.Test.YtlgbimpbdofloaaList
import Derived.WalkKit
import Derived.Laws.AppendOwnNone
import Derived.Laws.OwnMore
namespace Go.Proofs.Ytlgbimpbdofloaa
open Go.RowKit
set_option linter.unusedVariables false
set_option linter.unusedSimpArgs false

theorem boolx_info : (Try.prog.info? 4).map (fun i => (i.zero, i.size, i.bytes)) = some (some (.bool false), 1, 1) := by kernel_rfl
/-- 'append(own, x...)', as the machine reckons it -/
theorem run_app_bx (w : World) (B : Nat) (v vx : Value) (l m : List Bool) (hown : Lst 4 Value.bool w B v l) (hx : Lx Value.bool w 0 vx m) (hlen : l.length + m.length ≤ 1099511627776) (hB : B ≤ w.heap.size) :
    ∃ v' w', (Builtin.append_ #[39, 39] 39 #[v, vx]).run Try.prog w = .ok v' w' ∧ Lst 4 Value.bool w' B v' (l ++ m) ∧ Frm (fun k => B ≤ k) w w' := by
  obtain ⟨i, hi, hzz⟩ := Option.map_eq_some_iff.1 boolx_info
  simp only [Prod.mk.injEq] at hzz
  obtain ⟨hz, hsz, hby⟩ := hzz
  rcases hx with ⟨rfl, rfl⟩ | ⟨g, o, cap, rfl, hcap, _, hc⟩
  · refine ⟨v, w, run_append_owned_none (P := Try.prog) (w := w) B 39 39 4 i 1 Try.underlying39 hi v l.length (l.map Value.bool) hown, by simpa using hown, Frm.refl _ _⟩
  · obtain ⟨v', w', hr, h1, h2, _⟩ := run_append_own (P := Try.prog) w B 39 39 4 i (.bool false) 1 1 Try.underlying39 hi hz hsz hby rfl (by decide) v l.length (l.map Value.bool) hown ⟨g, o, none⟩ m.length cap (m.map Value.bool) (by simp)
      (by
        intro j u hj
        rw [List.getElem?_map, Option.map_eq_some_iff] at hj
        obtain ⟨x, hx, rfl⟩ := hj
        obtain ⟨hjl, rfl⟩ := List.getElem?_eq_some_iff.1 hx
        rw [Go.WideShapes.add_plain]
        exact hc j hjl)
      (by intro u hu; obtain ⟨x, _, rfl⟩ := List.mem_map.1 hu; rfl) (by unfold maxLen; omega) (by omega) hB
    refine ⟨v', w', hr, ?_, h2.os, h2.tape, h2.output, h2.size, fun k hk hs => ?_⟩
    · unfold Lst
      rw [List.length_append, List.map_append]; exact h1
    · exact h2.block k hk (by intro he; exact hs (World.ownsRow.lt hown k he.symm).1)
theorem wp_app_bx {o : Oper} {a : Act} {K : Act → World → Prop} {Q : Exit → Act → World → Prop} (s x : Operand) (w : World) (B : Nat) (v vx : Value) (l m : List Bool) (hs : a.eval s = v) (hx : a.eval x = vx)
    (hown : Lst 4 Value.bool w B v l) (htx : Lx Value.bool w 0 vx m) (hlen : l.length + m.length ≤ 1099511627776) (hB : B ≤ w.heap.size)
    (h : ∀ v' w', Lst 4 Value.bool w' B v' (l ++ m) → Frm (fun k => B ≤ k) w w' → K (a.put o.dst v') w')
    (ho : o.op = .call { callee := .builtin .append, args := #[s, x], argTypes := #[39, 39] } := by rfl) (ht : o.type = 39 := by rfl) : o.wp Try.prog a w K Q := by
  obtain ⟨v', w', hr, h1, h2⟩ := run_app_bx w B v vx l m hown htx hlen hB
  unfold Oper.wp execOp
  simp only [ho, ht, resolve, invoke, builtin, Sem.run_bind, Sem.run_pure, Result.andThen_ok, List.map_toArray, List.map_cons, List.map_nil, hs, hx, hr]
  exact h v' w' h1 h2
theorem wpl_app_bx {ops : Array Oper} {rest : List Oper} {o : Oper} {a : Act} {Q : Exit → Act → World → Prop} (hgd : o.guard = none) (s x : Operand) (w : World) (B : Nat) (v vx : Value) (l m : List Bool) (hs : a.eval s = v) (hx : a.eval x = vx)
    (hown : Lst 4 Value.bool w B v l) (htx : Lx Value.bool w 0 vx m) (hlen : l.length + m.length ≤ 1099511627776) (hB : B ≤ w.heap.size)
    (h : ∀ v' w', Lst 4 Value.bool w' B v' (l ++ m) → Frm (fun k => B ≤ k) w w' → wpList Try.prog ops Q rest (a.put o.dst v') w')
    (ho : o.op = .call { callee := .builtin .append, args := #[s, x], argTypes := #[39, 39] } := by rfl) (ht : o.type = 39 := by rfl) : wpList Try.prog ops Q (o :: rest) a w :=
  wpList_plain hgd fun _ hK => wp_app_bx s x w B v vx l m hs hx hown htx hlen hB (fun v' w' h1 h2 => hK _ _ (h v' w' h1 h2)) ho ht
theorem bools_made (w : World) (B : Nat) (hB : B ≤ w.heap.size) : Lst 4 Value.bool (w.alloc (.cells #[] 4)) B (.slice (some ⟨w.heap.size, 0, none⟩) 0 0) [] :=
  World.ownsRow_lit w #[] 0 hB (by unfold maxLen; omega) rfl
end Go.Proofs.Ytlgbimpbdofloaa
