/-
  Lists of numbers joined.
-/
import Derived.Test.YtmjkahbjpkkdgaaRows
import Derived.Test.YtmjkahbjpkkdgaaList
import Derived.WalkKit
import Derived.Laws.AppendOwnNone
import Derived.Laws.OwnMore
namespace Go.Proofs.Ytmjkahbjpkkdgaa
open Go.RowKit
set_option linter.unusedVariables false
set_option linter.unusedSimpArgs false

theorem intx_info : (Try.prog.info? 3).map (fun i => (i.zero, i.size, i.bytes)) = some (some (.int .i64 0), 1, 8) := by kernel_rfl
/-- 'append(own, x...)', as the machine reckons it -/
theorem run_app_ix (w : World) (B : Nat) (v vx : Value) (l m : List Int) (hown : Lst 3 iv w B v l) (hx : Lx iv w 0 vx m) (hlen : l.length + m.length ≤ 1099511627776) (hB : B ≤ w.heap.size) :
    ∃ v' w', (Builtin.append_ #[37, 37] 37 #[v, vx]).run Try.prog w = .ok v' w' ∧ Lst 3 iv w' B v' (l ++ m) ∧ Frm (fun k => B ≤ k) w w' := by
  obtain ⟨i, hi, hzz⟩ := Option.map_eq_some_iff.1 intx_info
  simp only [Prod.mk.injEq] at hzz
  obtain ⟨hz, hsz, hby⟩ := hzz
  rcases hx with ⟨rfl, rfl⟩ | ⟨g, o, cap, rfl, hcap, _, hc⟩
  · refine ⟨v, w, run_append_owned_none (P := Try.prog) (w := w) B 37 37 3 i 1 Try.underlying37 hi v l.length (l.map iv) hown, by simpa using hown, Frm.refl _ _⟩
  · obtain ⟨v', w', hr, h1, h2, _⟩ := run_append_own (P := Try.prog) w B 37 37 3 i (.int .i64 0) 1 8 Try.underlying37 hi hz hsz hby rfl (by decide) v l.length (l.map iv) hown ⟨g, o, none⟩ m.length cap (m.map iv) (by simp)
      (by
        intro j u hj
        rw [List.getElem?_map, Option.map_eq_some_iff] at hj
        obtain ⟨x, hx, rfl⟩ := hj
        obtain ⟨hjl, rfl⟩ := List.getElem?_eq_some_iff.1 hx
        rw [Go.WideShapes.add_plain]
        exact hc j hjl)
      (by intro u hu; obtain ⟨x, _, rfl⟩ := List.mem_map.1 hu; rfl) (by unfold maxLen; omega) (by omega) hB
    refine ⟨v', w', hr, ?_, h2.os, h2.tape, h2.output, h2.size, fun k hk hs => ?_⟩
    · unfold Lst
      rw [List.length_append, List.map_append]; exact h1
    · exact h2.block k hk (by intro he; exact hs (World.ownsRow.lt hown k he.symm).1)
theorem wp_app_ix {o : Oper} {a : Act} {K : Act → World → Prop} {Q : Exit → Act → World → Prop} (s x : Operand) (w : World) (B : Nat) (v vx : Value) (l m : List Int) (hs : a.eval s = v) (hx : a.eval x = vx)
    (hown : Lst 3 iv w B v l) (htx : Lx iv w 0 vx m) (hlen : l.length + m.length ≤ 1099511627776) (hB : B ≤ w.heap.size)
    (h : ∀ v' w', Lst 3 iv w' B v' (l ++ m) → Frm (fun k => B ≤ k) w w' → K (a.put o.dst v') w')
    (ho : o.op = .call { callee := .builtin .append, args := #[s, x], argTypes := #[37, 37] } := by rfl) (ht : o.type = 37 := by rfl) : o.wp Try.prog a w K Q := by
  obtain ⟨v', w', hr, h1, h2⟩ := run_app_ix w B v vx l m hown htx hlen hB
  unfold Oper.wp execOp
  simp only [ho, ht, resolve, invoke, builtin, Sem.run_bind, Sem.run_pure, Result.andThen_ok, List.map_toArray, List.map_cons, List.map_nil, hs, hx, hr]
  exact h v' w' h1 h2
theorem wpl_app_ix {ops : Array Oper} {rest : List Oper} {o : Oper} {a : Act} {Q : Exit → Act → World → Prop} (hgd : o.guard = none) (s x : Operand) (w : World) (B : Nat) (v vx : Value) (l m : List Int) (hs : a.eval s = v) (hx : a.eval x = vx)
    (hown : Lst 3 iv w B v l) (htx : Lx iv w 0 vx m) (hlen : l.length + m.length ≤ 1099511627776) (hB : B ≤ w.heap.size)
    (h : ∀ v' w', Lst 3 iv w' B v' (l ++ m) → Frm (fun k => B ≤ k) w w' → wpList Try.prog ops Q rest (a.put o.dst v') w')
    (ho : o.op = .call { callee := .builtin .append, args := #[s, x], argTypes := #[37, 37] } := by rfl) (ht : o.type = 37 := by rfl) : wpList Try.prog ops Q (o :: rest) a w :=
  wpList_plain hgd fun _ hK => wp_app_ix s x w B v vx l m hs hx hown htx hlen hB (fun v' w' h1 h2 => hK _ _ (h v' w' h1 h2)) ho ht
theorem ints_made (w : World) (B : Nat) (hB : B ≤ w.heap.size) : Lst 3 iv (w.alloc (.cells #[] 3)) B (.slice (some ⟨w.heap.size, 0, none⟩) 0 0) [] :=
  World.ownsRow_lit w #[] 0 hB (by unfold maxLen; omega) rfl
theorem ints_one (w : World) (x : Int) : Lx iv (w.alloc (.cells #[.int .i64 x] 3)) w.heap.size (.slice (some ⟨w.heap.size, 0, none⟩) 1 1) [x] := by
  refine .inr ⟨w.heap.size, 0, 1, rfl, Nat.le_refl _, Nat.le_refl _, fun k hk => ?_⟩
  simp at hk; subst hk
  simp [go_sem, iv]
/-- what is left of a list from a place on -/
theorem Lx.drop1 {w : World} {B g o cap : Nat} {l : List Int} (hB : B ≤ g) (k : Nat) (hk : l.length ≤ k) : Lx iv w B (.slice (some ⟨g, o, none⟩) 0 cap) (l.drop k) := by
  have e : l.drop k = [] := List.drop_eq_nil_of_le hk
  rw [e]
  exact .inr ⟨g, o, cap, rfl, Nat.zero_le _, hB, fun k hk => by simp at hk⟩
theorem Lx.drop2 {w : World} {B g o cap : Nat} {l : List Int} (hB : B ≤ g) (hc : ∀ k (h : k < l.length), w.cell? ⟨g, o + k, none⟩ = some (iv l[k])) (k m : Nat) (hk : k ≤ l.length) (hm : m = l.length - k) (hcap : m ≤ cap) : Lx iv w B (.slice (some ⟨g, o + k, none⟩) m cap) (l.drop k) := by
  have e : (l.drop k).length = m := by rw [List.length_drop, hm]
  refine .inr ⟨g, o + k, cap, by rw [e], by rw [e]; exact hcap, hB, fun j hj => ?_⟩
  rw [List.getElem_drop, Nat.add_assoc]
  exact hc (k + j) (by rw [e] at hj; omega)
end Go.Proofs.Ytmjkahbjpkkdgaa
