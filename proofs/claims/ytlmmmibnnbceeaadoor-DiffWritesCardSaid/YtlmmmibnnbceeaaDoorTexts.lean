/-
  Lists of texts: what a slice lists, wherever it begins; lists joined; two lists compared.
-/
import Derived.Test.YtlmmmibnnbceeaaDoorStrFrm
import Derived.Test.YtlmmmibnnbceeaaDoorBytes
import Derived.Laws.AppendOwnNone
import Derived.Laws.OwnMore
import Derived.BigQuiet
namespace Go.Proofs.YtlmmmibnnbceeaaDoor
open Go.RowKit
set_option linter.unusedVariables false
set_option linter.unusedSimpArgs false

/-- the texts that a slice lists; its row lies at or behind block B -/
def TX (w : World) (B : Nat) (v : Value) (l : List ByteArray) : Prop :=
  (v = .slice none 0 0 ∧ l = []) ∨ ∃ g o cap, v = .slice (some ⟨g, o, none⟩) l.length cap ∧ l.length ≤ cap ∧ B ≤ g ∧ ∀ k (h : k < l.length), w.cell? ⟨g, o + k, none⟩ = some (.string l[k])
theorem TX.nil (w : World) (B : Nat) : TX w B (.slice none 0 0) [] := .inl ⟨rfl, rfl⟩
theorem TX.frm {S : Nat → Prop} {w w' : World} {B : Nat} {v : Value} {l : List ByteArray} (h : TX w B v l) (hf : Frm S w w') (hs : ∀ k, B ≤ k → ¬ S k) : TX w' B v l := by
  rcases h with h | ⟨g, o, cap, e, hl, hB, hc⟩
  · exact .inl h
  · exact .inr ⟨g, o, cap, e, hl, hB, fun k hk => hf.cell (p := ⟨g, o + k, none⟩) (hs g hB) (hc k hk)⟩
theorem TX.below {w w' : World} {B : Nat} {v : Value} {l : List ByteArray} (h : TX w B v l) (hb : Below w.heap.size w w') : TX w' B v l :=
  h.frm (S := fun _ => False) (.ofBelow hb) fun _ _ => id
theorem TX.len {w : World} {B : Nat} {v : Value} {l : List ByteArray} (h : TX w B v l) : ∃ a cap, v = .slice a l.length cap := by
  rcases h with ⟨rfl, rfl⟩ | ⟨g, o, cap, e, hc⟩
  · exact ⟨none, 0, rfl⟩
  · exact ⟨_, cap, e⟩
theorem TX.mono {w : World} {B B' : Nat} {v : Value} {l : List ByteArray} (h : TX w B v l) (hb : B' ≤ B) : TX w B' v l := by
  rcases h with h | ⟨g, o, cap, e, hl, hB, hc⟩
  · exact .inl h
  · exact .inr ⟨g, o, cap, e, hl, Nat.le_trans hb hB, hc⟩
theorem Strs.tx {w : World} {B : Nat} {v : Value} {l : List ByteArray} (h : Strs w B v l) : TX w B v l := by
  have hcells := fun g hg => World.ownsRow.cells (g := g) h hg
  rcases h.2 with ⟨e, hn⟩ | ⟨g, cap, cur, e, hb, _, hcap, _⟩
  · exact .inl ⟨e, List.length_eq_zero_iff.1 hn⟩
  · refine .inr ⟨g, 0, cap, e, hcap, hb, fun k hk => ?_⟩
    have h1 := hcells g (by rw [e]; rfl) k (.string l[k]) (by rw [List.getElem?_map, List.getElem?_eq_getElem hk]; rfl)
    rw [Go.WideShapes.add_plain, Nat.zero_add] at h1
    rw [Nat.zero_add]
    exact h1
/-- 'append(own, x...)', as the machine reckons it -/
theorem run_app_tx (w : World) (B : Nat) (v vx : Value) (l m : List ByteArray) (hown : Strs w B v l) (hx : TX w 0 vx m) (hlen : l.length + m.length ≤ 1099511627776) (hB : B ≤ w.heap.size) :
    ∃ v' w', (Builtin.append_ #[39, 39] 39 #[v, vx]).run Tryd.prog w = .ok v' w' ∧ Strs w' B v' (l ++ m) ∧ Frm (fun k => B ≤ k) w w' := by
  obtain ⟨i, hi, hzz⟩ := Option.map_eq_some_iff.1 strs_info
  simp only [Prod.mk.injEq] at hzz
  obtain ⟨hz, hsz, hby⟩ := hzz
  rcases hx with ⟨rfl, rfl⟩ | ⟨g, o, cap, rfl, hcap, _, hc⟩
  · refine ⟨v, w, run_append_owned_none (P := Tryd.prog) (w := w) B 39 39 9 i 1 Tryd.underlying39 hi v l.length (l.map Value.string) hown, by simpa using hown, Frm.refl _ _⟩
  · obtain ⟨v', w', hr, h1, h2, _⟩ := run_append_own (P := Tryd.prog) w B 39 39 9 i (.string ByteArray.empty) 1 16 Tryd.underlying39 hi hz hsz hby rfl (by decide) v l.length (l.map Value.string) hown ⟨g, o, none⟩ m.length cap (m.map Value.string) (by simp)
      (by
        intro j u hj
        rw [List.getElem?_map, Option.map_eq_some_iff] at hj
        obtain ⟨x, hx, rfl⟩ := hj
        obtain ⟨hjl, rfl⟩ := List.getElem?_eq_some_iff.1 hx
        rw [Go.WideShapes.add_plain]
        exact hc j hjl)
      (by intro u hu; obtain ⟨x, _, rfl⟩ := List.mem_map.1 hu; rfl) (by unfold maxLen; omega) (by omega) hB
    refine ⟨v', w', hr, ?_, h2.os, h2.tape, h2.output, h2.size, fun k hk hs => ?_⟩
    · unfold Strs
      rw [List.length_append, List.map_append]; exact h1
    · exact h2.block k hk (by intro he; exact hs (World.ownsRow.lt hown k he.symm).1)
theorem wp_app_tx {o : Oper} {a : Act} {K : Act → World → Prop} {Q : Exit → Act → World → Prop} (s x : Operand) (w : World) (B : Nat) (v vx : Value) (l m : List ByteArray) (hs : a.eval s = v) (hx : a.eval x = vx)
    (hown : Strs w B v l) (htx : TX w 0 vx m) (hlen : l.length + m.length ≤ 1099511627776) (hB : B ≤ w.heap.size)
    (h : ∀ v' w', Strs w' B v' (l ++ m) → Frm (fun k => B ≤ k) w w' → K (a.put o.dst v') w')
    (ho : o.op = .call { callee := .builtin .append, args := #[s, x], argTypes := #[39, 39] } := by rfl) (ht : o.type = 39 := by rfl) : o.wp Tryd.prog a w K Q := by
  obtain ⟨v', w', hr, h1, h2⟩ := run_app_tx w B v vx l m hown htx hlen hB
  unfold Oper.wp execOp
  simp only [ho, ht, resolve, invoke, builtin, Sem.run_bind, Sem.run_pure, Result.andThen_ok, List.map_toArray, List.map_cons, List.map_nil, hs, hx, hr]
  exact h v' w' h1 h2
theorem wpl_app_tx {ops : Array Oper} {rest : List Oper} {o : Oper} {a : Act} {Q : Exit → Act → World → Prop} (hgd : o.guard = none) (s x : Operand) (w : World) (B : Nat) (v vx : Value) (l m : List ByteArray) (hs : a.eval s = v) (hx : a.eval x = vx)
    (hown : Strs w B v l) (htx : TX w 0 vx m) (hlen : l.length + m.length ≤ 1099511627776) (hB : B ≤ w.heap.size)
    (h : ∀ v' w', Strs w' B v' (l ++ m) → Frm (fun k => B ≤ k) w w' → wpList Tryd.prog ops Q rest (a.put o.dst v') w')
    (ho : o.op = .call { callee := .builtin .append, args := #[s, x], argTypes := #[39, 39] } := by rfl) (ht : o.type = 39 := by rfl) : wpList Tryd.prog ops Q (o :: rest) a w :=
  wpList_plain hgd fun _ hK => wp_app_tx s x w B v vx l m hs hx hown htx hlen hB (fun v' w' h1 h2 => hK _ _ (h v' w' h1 h2)) ho ht
theorem step_app_tx {ops : Array Oper} {o : Oper} {a : Act} {K : Act → World → Prop} {Q : Exit → Act → World → Prop} {E : Prop} (hg : o.guard = none) (s x : Operand) (w : World) (B : Nat) (v vx : Value) (l m : List ByteArray) (hs : a.eval s = v) (hx : a.eval x = vx)
    (hown : Strs w B v l) (htx : TX w 0 vx m) (hlen : l.length + m.length ≤ 1099511627776) (hB : B ≤ w.heap.size)
    (h : ∀ v' w', Strs w' B v' (l ++ m) → Frm (fun k => B ≤ k) w w' → K (a.put o.dst v') w')
    (ho : o.op = .call { callee := .builtin .append, args := #[s, x], argTypes := #[39, 39] } := by rfl) (ht : o.type = 39 := by rfl) : if Region.wanted o (yielded ops a.tmps) = true then Oper.wp Tryd.prog o a w K Q else E := by
  have hw : Region.wanted o (yielded ops a.tmps) = true := by simp [Region.wanted, hg]
  rw [if_pos hw]
  exact wp_app_tx s x w B v vx l m hs hx hown htx hlen hB h ho ht
theorem Strs.made (w : World) (B : Nat) (hB : B ≤ w.heap.size) : Strs (w.alloc (.cells #[] 9)) B (.slice (some ⟨w.heap.size, 0, none⟩) 0 0) [] :=
  World.ownsRow_lit w #[] 0 hB (by unfold maxLen; omega) rfl
theorem TX.one (w : World) (x : ByteArray) : TX (w.alloc (.cells #[.string x] 9)) w.heap.size (.slice (some ⟨w.heap.size, 0, none⟩) 1 1) [x] := by
  refine .inr ⟨w.heap.size, 0, 1, rfl, Nat.le_refl _, Nat.le_refl _, fun k hk => ?_⟩
  simp at hk; subst hk
  simp [go_sem]
theorem ne_tx {l1 l2 : List ByteArray} (k : Nat) (h1 : k < l1.length) (h2 : k < l2.length) (h : l1[k] ≠ l2[k]) : l1 ≠ l2 := by
  rintro rfl; exact h rfl
end Go.Proofs.YtlmmmibnnbceeaaDoor
