/-
  Rows of elements of any flat type: read wherever they begin, joined onto a row of the call's own.
-/
import Derived.Test.YtlmmmibnnbceeaaDoorRows
import Derived.Test.YtlmmmibnnbceeaaDoorOwn
import Derived.WalkKit
import Derived.Laws.AppendOwn
import Derived.Laws.AppendOwnNone
import Derived.Laws.OwnMore
namespace Go.Proofs.YtlmmmibnnbceeaaDoor
open Go.RowKit
set_option linter.unusedVariables false
set_option linter.unusedSimpArgs false

/-- how elements of a type lie -/
structure Fl (α : Type) where
  T : TypeId
  Ts : TypeId
  k : Nat
  bytes : Nat
  zero : Value
  fl : α → List Value
  len : ∀ x, (fl x).length = k
  one : ∀ x, ∀ u ∈ fl x, u.oneCell' = true
  pos : 0 < k
  small : bytes ≤ 256
  under : Tryd.prog.underlying Ts = some (.slice T)
  info : (Tryd.prog.info? T).map (fun i => (i.zero, i.size, i.bytes)) = some (some zero, k, bytes)
  zlen : zero.cells.size = k
variable {α : Type} {F : Fl α}
def Fl.flat (F : Fl α) (l : List α) : List Value := l.flatMap F.fl
theorem Fl.flat_len (F : Fl α) (l : List α) : (F.flat l).length = l.length * F.k := by
  unfold Fl.flat
  induction l with
  | nil => simp
  | cons a l ih => simp only [List.flatMap_cons, List.length_append, ih, F.len, List.length_cons, Nat.add_mul]; omega
theorem Fl.flat_app (F : Fl α) (l m : List α) : F.flat (l ++ m) = F.flat l ++ F.flat m := List.flatMap_append
theorem Fl.flat_cons (F : Fl α) (x : α) (l : List α) : F.flat (x :: l) = F.fl x ++ F.flat l := rfl
theorem Fl.flat_get (F : Fl α) : ∀ (l : List α) (i : Nat) (x : α), l[i]? = some x → ∀ (j : Nat) u, (F.fl x)[j]? = some u → (F.flat l)[i * F.k + j]? = some u
  | [], i, x, h => by simp at h
  | a :: l, 0, x, h => by
    simp at h; subst h
    intro j u hu
    have hj : j < (F.fl a).length := (List.getElem?_eq_some_iff.1 hu).1
    rw [Nat.zero_mul, Nat.zero_add, F.flat_cons, List.getElem?_append_left hj]; exact hu
  | a :: l, i + 1, x, h => by
    simp at h
    intro j u hu
    have := F.flat_get l i x h j u hu
    rw [F.flat_cons, List.getElem?_append_right (by rw [F.len, Nat.add_mul]; omega), F.len]
    rw [show (i + 1) * F.k + j - F.k = i * F.k + j by rw [Nat.add_mul]; omega]; exact this
theorem Fl.flat_one (F : Fl α) (l : List α) : ∀ u ∈ F.flat l, u.oneCell' = true := by
  intro u hu
  obtain ⟨x, _, hx⟩ := List.mem_flatMap.1 hu
  exact F.one x u hx
theorem Fl.flat_of (F : Fl α) : ∀ (l : List α) (j : Nat) u, (F.flat l)[j]? = some u → ∃ i x q, l[i]? = some x ∧ (F.fl x)[q]? = some u ∧ j = i * F.k + q
  | [], j, u, h => by simp [Fl.flat] at h
  | a :: l, j, u, h => by
    rw [F.flat_cons] at h
    rcases Nat.lt_or_ge j F.k with hj | hj
    · rw [List.getElem?_append_left (by rw [F.len]; exact hj)] at h
      exact ⟨0, a, j, rfl, h, by omega⟩
    · rw [List.getElem?_append_right (by rw [F.len]; exact hj), F.len] at h
      obtain ⟨i, x, q, h1, h2, h3⟩ := F.flat_of l _ u h
      exact ⟨i + 1, x, q, by simpa using h1, h2, by rw [Nat.add_mul]; omega⟩
/-- a row of the call's own -/
def Fl.Row (F : Fl α) (W : World) (B : Nat) (v : Value) (l : List α) : Prop := W.ownsRow B F.T F.k v l.length (F.flat l)
theorem Fl.Row.nil (F : Fl α) (W : World) (B : Nat) : F.Row W B (.slice none 0 0) [] := ⟨by simp [Fl.flat], .inl ⟨rfl, rfl⟩⟩
theorem Fl.Row.any {W : World} {B : Nat} {v : Value} {l : List α} (h : F.Row W B v l) : ∃ a c, v = .slice a l.length c := by
  rcases h.2 with ⟨hv, h2⟩ | ⟨g, cap, cur, hv, _⟩
  · exact ⟨none, 0, by rw [hv, h2]⟩
  · exact ⟨_, cap, hv⟩
theorem Fl.Row.frm {S : Nat → Prop} {W W' : World} {B : Nat} {v : Value} {l : List α} (h : F.Row W B v l) (hf : Frm S W W') (hs : ∀ g, v.ownBlock = some g → ¬ S g) : F.Row W' B v l := ownsRow_frm h hf hs
theorem Fl.Row.below {W W' : World} {B : Nat} {v : Value} {l : List α} (h : F.Row W B v l) (hb : Below W.heap.size W W') : F.Row W' B v l := h.frm (S := fun _ => False) (.ofBelow hb) fun _ _ => id
theorem Fl.Row.lt {W : World} {B : Nat} {v : Value} {l : List α} (h : F.Row W B v l) (g : Nat) (hg : v.ownBlock = some g) : B ≤ g ∧ g < W.heap.size := World.ownsRow.lt h g hg
theorem Fl.Row.mono {W : World} {B B' : Nat} {v : Value} {l : List α} (h : F.Row W B v l) (hb : B' ≤ B) : F.Row W B' v l := ownsRow_mono h hb
theorem Fl.Row.ne {W : World} {B p : Nat} {v : Value} {l : List α} {cs : Array Value} {T : TypeId} {fr : Nat × Nat} (h : F.Row W B v l) (hb : W.heap[p]? = some (.cells cs T fr)) (hT : T ≠ F.T) : v.ownBlock ≠ some p := by
  rcases h.2 with ⟨hv, _⟩ | ⟨g, cap, cur, hv, _, hg, _⟩
  · rw [hv]; simp [Value.ownBlock]
  · rw [hv]
    intro h2
    simp only [Value.ownBlock, Option.some.injEq] at h2
    subst h2
    rw [hg] at hb
    simp only [Option.some.injEq, Obj.cells.injEq] at hb
    exact hT hb.2.1.symm
/-- what a slice lists, wherever it begins -/
def Fl.X (F : Fl α) (w : World) (v : Value) (l : List α) : Prop :=
  ∃ a cap, v = .slice a l.length cap ∧ (l ≠ [] → ∃ g o, a = some ⟨g, o, none⟩ ∧ ∀ (j : Nat) u, (F.flat l)[j]? = some u → w.cell? ⟨g, o + j, none⟩ = some u)
theorem Fl.Row.x {W : World} {B : Nat} {v : Value} {l : List α} (h : F.Row W B v l) : F.X W v l := by
  obtain ⟨a, c, rfl⟩ := h.any
  refine ⟨a, c, rfl, fun h0 => ?_⟩
  rcases h.2 with ⟨_, h2⟩ | ⟨g, cap, cur, hv, _⟩
  · exact absurd (List.length_eq_zero_iff.1 h2) h0
  · injection hv with h1 h2 h3
    subst h1
    refine ⟨g, 0, rfl, fun j u hj => ?_⟩
    rw [Nat.zero_add]
    exact (World.ownsRow.cellAt h j (by have := (List.getElem?_eq_some_iff.1 hj).1; rwa [F.flat_len] at this)).trans hj
theorem Fl.X.any {w : World} {v : Value} {l : List α} (h : F.X w v l) : ∃ a c, v = .slice a l.length c := ⟨_, _, h.choose_spec.choose_spec.1⟩
theorem Fl.X.below {w w' : World} {v : Value} {l : List α} (h : F.X w v l) (hb : Below w.heap.size w w') : F.X w' v l := by
  obtain ⟨a, cap, e, hc⟩ := h
  refine ⟨a, cap, e, fun h0 => ?_⟩
  obtain ⟨g, o, e2, h3⟩ := hc h0
  exact ⟨g, o, e2, fun j u hj => bkeep hb (h3 j u hj)⟩
/-- element i of it -/
theorem Fl.X.get {w : World} {a : Option Addr} {n c : Nat} {l : List α} (h : F.X w (.slice a n c) l) (i : Nat) (x : α) (hi : l[i]? = some x) :
    ∃ g o, a = some ⟨g, o, none⟩ ∧ ∀ (j : Nat) u, (F.fl x)[j]? = some u → w.cell? ⟨g, o + i * F.k + j, none⟩ = some u := by
  obtain ⟨a', cap, e, hc⟩ := h
  injection e with e1 e2 e3
  subst e1
  obtain ⟨g, o, e4, h3⟩ := hc (by rintro rfl; simp at hi)
  exact ⟨g, o, e4, fun j u hj => by rw [Nat.add_assoc]; exact h3 _ u (F.flat_get l i x hi j u hj)⟩
theorem Fl.X.of {w : World} {a : Option Addr} {len cap : Nat} {ok : α → Prop} {l : List α} (h : IsList w a len F.k F.fl ok l) : F.X w (.slice a len cap) l := by
  have hs := h.size_eq
  refine ⟨a, cap, by rw [hs], fun h0 => ?_⟩
  obtain ⟨g, o, e, hc⟩ := h.at_ (by have := List.length_pos_iff.2 h0; omega)
  refine ⟨g, o, e, fun j u hj => ?_⟩
  obtain ⟨i, x, q, h1, h2, rfl⟩ := F.flat_of l j u hj
  obtain ⟨hil, h1⟩ := List.getElem?_eq_some_iff.1 h1
  have := (hc i hil).2 q (by have := (List.getElem?_eq_some_iff.1 h2).1; rwa [F.len] at this)
  rw [h1, h2] at this
  rw [← Nat.add_assoc]; exact this
/-- a list laid as it is -/
theorem Fl.X.lit (F : Fl α) (w : World) (l : List α) (cs : Array Value) (n c : Nat) (hn : n = l.length) (hc : cs.toList = F.flat l) : F.X (w.alloc (.cells cs F.T)) (.slice (some ⟨w.heap.size, 0, none⟩) n c) l := by
  refine ⟨_, c, by rw [hn], fun _ => ⟨w.heap.size, 0, rfl, fun j u hj => ?_⟩⟩
  rw [← hc] at hj
  obtain ⟨h1, h2⟩ := List.getElem?_eq_some_iff.1 hj
  rw [Array.length_toList] at h1
  have e : cs[j] = u := by rw [← h2]; simp
  rw [Nat.zero_add]
  simp [go_sem, h1, e]
theorem Fl.Row.lit (F : Fl α) (w : World) (B : Nat) (l : List α) (cs : Array Value) (n : Nat) (hB : B ≤ w.heap.size) (hn : n = l.length) (hm : n ≤ maxLen) (hc : cs.toList = F.flat l) : F.Row (w.alloc (.cells cs F.T)) B (.slice (some ⟨w.heap.size, 0, none⟩) n n) l := by
  have := World.ownsRow_lit (e := F.T) (size := F.k) w cs n hB hm (by rw [← Array.length_toList, hc, F.flat_len, hn])
  rw [hc] at this
  unfold Fl.Row
  rwa [← hn]
theorem run_app_none {P : Program} {w : World} (base : Nat) (t ty e : TypeId) (i : TypeInfo) (size : Nat) (ht : P.underlying t = some (.slice e)) (hi : P.info? e = some i) (v : Value) (n c : Nat) (xs : List Value) (hown : w.ownsRow base e size v n xs) :
    (Builtin.append_ #[t, t] ty #[v, .slice none 0 c]).run P w = .ok v w := by
  rcases hown.2 with ⟨rfl, rfl⟩ | ⟨g, cap, cur, rfl, _, _, hnc, _⟩
  · simp [Builtin.append_, run_underlying ht, sizeOf, typeInfo, hi, Builtin.lenOf, Builtin.firstCells]
  · simp [Builtin.append_, run_underlying ht, sizeOf, typeInfo, hi, Builtin.lenOf, Builtin.firstCells, hnc, storeCells]
/-- 'append(own, x...)', as the machine reckons it -/
theorem Fl.run_app (F : Fl α) (w : World) (B : Nat) (v vx : Value) (l m : List α) (hown : F.Row w B v l) (hx : F.X w vx m) (hlen : l.length + m.length ≤ 1000000) (hB : B ≤ w.heap.size) :
    ∃ v' w', (Builtin.append_ #[F.Ts, F.Ts] F.Ts #[v, vx]).run Tryd.prog w = .ok v' w' ∧ F.Row w' B v' (l ++ m) ∧ Frm (fun k => some k = v.ownBlock) w w' ∧ Stay w v v' := by
  obtain ⟨i, hi, hzz⟩ := Option.map_eq_some_iff.1 F.info
  simp only [Prod.mk.injEq] at hzz
  obtain ⟨hz, hsz, hby⟩ := hzz
  obtain ⟨a, cap, rfl, hc⟩ := hx
  have hsm := F.small
  cases a with
  | none =>
    have hm : m = [] := by
      by_cases h0 : m = []
      · exact h0
      · obtain ⟨g, o, e, _⟩ := hc h0; cases e
    subst hm
    exact ⟨v, w, run_app_none (P := Tryd.prog) (w := w) B F.Ts F.Ts F.T i F.k F.under hi v l.length cap (F.flat l) hown, by simpa using hown, Frm.refl _ _, .inl rfl⟩
  | some ad =>
    obtain ⟨v', w', hr, h1, h2, h3⟩ := run_append_own2 (P := Tryd.prog) w B F.Ts F.Ts F.T i F.zero F.k F.bytes F.under hi hz hsz hby F.zlen F.pos v l.length (F.flat l) hown ad m.length cap (F.flat m) (F.flat_len m)
      (by
        intro j u hj
        have h0 : m ≠ [] := by rintro rfl; simp [Fl.flat] at hj
        obtain ⟨g, o, e, h4⟩ := hc h0
        obtain rfl := Option.some.inj e
        have := h4 j u hj
        rwa [show (⟨g, o, none⟩ : Addr).add j = ⟨g, o + j, none⟩ by cases j <;> simp [Addr.add]])
      (F.flat_one m) (Nat.le_trans hlen (by unfold maxLen; decide)) (Nat.le_trans (Nat.mul_le_mul hlen hsm) (by decide)) hB
    refine ⟨v', w', hr, ?_, h2, h3⟩
    unfold Fl.Row
    rw [List.length_append, F.flat_app]; exact h1
theorem Fl.wp_app (F : Fl α) {o : Oper} {a : Act} {K : Act → World → Prop} {Q : Exit → Act → World → Prop} (s x : Operand) (w : World) (B : Nat) (v vx : Value) (l m : List α) (hs : a.eval s = v) (hx : a.eval x = vx)
    (hown : F.Row w B v l) (htx : F.X w vx m) (hlen : l.length + m.length ≤ 1000000) (hB : B ≤ w.heap.size)
    (h : ∀ v' w', F.Row w' B v' (l ++ m) → Frm (fun k => some k = v.ownBlock) w w' → Stay w v v' → K (a.put o.dst v') w')
    (ho : o.op = .call { callee := .builtin .append, args := #[s, x], argTypes := #[F.Ts, F.Ts] } := by rfl) (ht : o.type = F.Ts := by rfl) : o.wp Tryd.prog a w K Q := by
  obtain ⟨v', w', hr, h2, h3, h4⟩ := F.run_app w B v vx l m hown htx hlen hB
  unfold Oper.wp execOp
  simp only [ho, ht, resolve, invoke, builtin, Sem.run_bind, Sem.run_pure, Result.andThen_ok, List.map_toArray, List.map_cons, List.map_nil, hs, hx, hr]
  exact h v' w' h2 h3 h4
theorem Fl.wpl_app (F : Fl α) {ops : Array Oper} {rest : List Oper} {o : Oper} {a : Act} {Q : Exit → Act → World → Prop} (hgd : o.guard = none) (s x : Operand) (w : World) (B : Nat) (v vx : Value) (l m : List α) (hs : a.eval s = v) (hx : a.eval x = vx)
    (hown : F.Row w B v l) (htx : F.X w vx m) (hlen : l.length + m.length ≤ 1000000) (hB : B ≤ w.heap.size)
    (h : ∀ v' w', F.Row w' B v' (l ++ m) → Frm (fun k => some k = v.ownBlock) w w' → Stay w v v' → wpList Tryd.prog ops Q rest (a.put o.dst v') w')
    (ho : o.op = .call { callee := .builtin .append, args := #[s, x], argTypes := #[F.Ts, F.Ts] } := by rfl) (ht : o.type = F.Ts := by rfl) : wpList Tryd.prog ops Q (o :: rest) a w := by
  refine wpList_plain hgd fun K hK => ?_
  exact F.wp_app s x w B v vx l m hs hx hown htx hlen hB (fun v' w' h1 h2 h3 => hK _ _ (h v' w' h1 h2 h3)) ho ht
end Go.Proofs.YtlmmmibnnbceeaaDoor
