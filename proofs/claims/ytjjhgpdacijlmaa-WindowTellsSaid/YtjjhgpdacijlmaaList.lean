/-
  A list of things of one cell each, a row of the call's own: one more thing; the list as it is read.
-/
import Derived.Test.YtjjhgpdacijlmaaOwn
namespace Go.Proofs.Ytjjhgpdacijlmaa
open Go.RowKit
set_option linter.unusedVariables false
set_option linter.unusedSimpArgs false

/-- v is the list l, its cells told by E, a row of the call's own behind block B -/
def Lst {α : Type} (e : TypeId) (E : α → Value) (w : World) (B : Nat) (v : Value) (l : List α) : Prop := w.ownsRow B e 1 v l.length (l.map E)
section
variable {α : Type} {e : TypeId} {E : α → Value} {w w' : World} {B : Nat} {v : Value} {l : List α}
theorem Lst.nil (e : TypeId) (E : α → Value) (w : World) (B : Nat) : Lst e E w B (.slice none 0 0) [] := ⟨rfl, .inl ⟨rfl, rfl⟩⟩
theorem Lst.frm {S : Nat → Prop} (h : Lst e E w B v l) (hf : Frm S w w') (hs : ∀ g, v.ownBlock = some g → ¬ S g) : Lst e E w' B v l := ownsRow_frm h hf hs
theorem Lst.far {S : Nat → Prop} (h : Lst e E w B v l) (hf : Frm S w w') (hs : ∀ k, B ≤ k → ¬ S k) : Lst e E w' B v l := ownsRow_frm h hf fun g hg => hs g (World.ownsRow.lt h g hg).1
theorem Lst.below (h : Lst e E w B v l) (hb : Below w.heap.size w w') : Lst e E w' B v l := h.frm (S := fun _ => False) (.ofBelow hb) fun _ _ => id
theorem Lst.mono {B' : Nat} (h : Lst e E w B v l) (hb : B' ≤ B) : Lst e E w B' v l := ownsRow_mono h hb
theorem Lst.notin (h : Lst e E w B v l) {k : Nat} (hk : k < B) : ¬ some k = v.ownBlock := fun he => by have := (World.ownsRow.lt h k he.symm).1; omega
theorem Lst.slice (h : Lst e E w B v l) : ∃ a c, v = .slice a l.length c := by
  rcases h.2 with ⟨rfl, hn⟩ | ⟨g, cap, cur, rfl, _⟩
  · exact ⟨none, 0, by rw [hn]⟩
  · exact ⟨_, cap, rfl⟩
/-- 'append(v, x)' of one thing that lies in a block of its own -/
theorem app1 {P : Program} {ops : Array Oper} {rest : List Oper} {o : Oper} {a : Act} {Q : Exit → Act → World → Prop} (hgd : o.guard = none) (s x : Operand) (t : TypeId)
    (ho : o.op = .call { callee := .builtin .append, args := #[s, x], argTypes := #[t, t] })
    (z : Value) (bytes : Nat) (ht : P.underlying t = some (.slice e)) (hinfo : (P.info? e).map (fun i => (i.zero, i.size, i.bytes)) = some (some z, 1, bytes)) (hzs : z.cells.size = 1) (hby : bytes ≤ 64)
    (w : World) (B : Nat) (v : Value) (l : List α) (y : α) (hs : a.eval s = v) (hx : a.eval x = .slice (some ⟨w.heap.size, 0, none⟩) 1 1) (hone : (E y).oneCell' = true)
    (hown : Lst e E w B v l) (hlen : l.length + 1 ≤ 1099511627776) (hB : B ≤ w.heap.size)
    (h : ∀ v' w', Lst e E w' B v' (l ++ [y]) → Frm (fun k => some k = v.ownBlock) w w' → Stay w v v' → wpList P ops Q rest (a.put o.dst v') w') :
    wpList P ops Q (o :: rest) a (w.alloc (.cells #[E y] e)) := by
  refine wpl_own2 hgd s x t ho B e z 1 bytes ht hinfo hzs (by decide) v l.length (l.map E) hs (hown.alloc _) ⟨w.heap.size, 0, none⟩ 1 1 [E y] hx rfl ?_ ?_ ?_ ?_ ?_ ?_
  · intro j u hj
    match j, hj with
    | 0, hj => simp at hj; subst hj; simp [go_sem, Addr.add]
    | j + 1, hj => simp at hj
  · intro u hu; simp at hu; subst hu; exact hone
  · unfold maxLen; omega
  · exact Nat.le_trans (Nat.mul_le_mul_left _ hby) (by omega)
  · simp; omega
  · intro v' w' h1 h2 h3
    refine h v' w' ?_ (((Frm.refl _ w).alloc _).trans h2) ?_
    · have e1 : (l ++ [y]).length = l.length + 1 := by simp
      have e2 : (l ++ [y]).map E = l.map E ++ [E y] := by simp
      unfold Lst
      rw [e1, e2]; exact h1
    · rcases h3 with h3 | ⟨g, hg, hl⟩
      · exact .inl h3
      · exact .inr ⟨g, hg, by simp at hl; omega⟩
/-- what a slice lists, wherever it begins -/
def Lx {α : Type} (E : α → Value) (w : World) (B : Nat) (v : Value) (l : List α) : Prop :=
  (v = .slice none 0 0 ∧ l = []) ∨ ∃ g o cap, v = .slice (some ⟨g, o, none⟩) l.length cap ∧ l.length ≤ cap ∧ B ≤ g ∧ ∀ k (h : k < l.length), w.cell? ⟨g, o + k, none⟩ = some (E l[k])
theorem Lx.nil (E : α → Value) (w : World) (B : Nat) : Lx E w B (.slice none 0 0) [] := .inl ⟨rfl, rfl⟩
theorem Lx.frm {S : Nat → Prop} (h : Lx E w B v l) (hf : Frm S w w') (hs : ∀ k, B ≤ k → ¬ S k) : Lx E w' B v l := by
  rcases h with h | ⟨g, o, cap, e, hl, hB, hc⟩
  · exact .inl h
  · exact .inr ⟨g, o, cap, e, hl, hB, fun k hk => hf.cell (p := ⟨g, o + k, none⟩) (hs g hB) (hc k hk)⟩
theorem Lx.below (h : Lx E w B v l) (hb : Below w.heap.size w w') : Lx E w' B v l := h.frm (S := fun _ => False) (.ofBelow hb) fun _ _ => id
theorem Lx.len (h : Lx E w B v l) : ∃ a cap, v = .slice a l.length cap := by
  rcases h with ⟨rfl, rfl⟩ | ⟨g, o, cap, e, hc⟩
  · exact ⟨none, 0, rfl⟩
  · exact ⟨_, cap, e⟩
theorem Lx.mono {B' : Nat} (h : Lx E w B v l) (hb : B' ≤ B) : Lx E w B' v l := by
  rcases h with h | ⟨g, o, cap, e, hl, hB, hc⟩
  · exact .inl h
  · exact .inr ⟨g, o, cap, e, hl, Nat.le_trans hb hB, hc⟩
theorem Lst.lx (h : Lst e E w B v l) : Lx E w B v l := by
  have hcells := fun g hg => World.ownsRow.cells (g := g) h hg
  rcases h.2 with ⟨e, hn⟩ | ⟨g, cap, cur, e, hb, _, hcap, _⟩
  · exact .inl ⟨e, List.length_eq_zero_iff.1 hn⟩
  · refine .inr ⟨g, 0, cap, e, hcap, hb, fun k hk => ?_⟩
    have h1 := hcells g (by rw [e]; rfl) k (E l[k]) (by rw [List.getElem?_map, List.getElem?_eq_getElem hk]; rfl)
    rw [Go.WideShapes.add_plain, Nat.zero_add] at h1
    rw [Nat.zero_add]
    exact h1
end
def iv (n : Int) : Value := .int .i64 n
end Go.Proofs.Ytjjhgpdacijlmaa
