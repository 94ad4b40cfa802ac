/-
  Frames under way (chapter 26): rows of them, joined, written over, cut.
-/
import Derived.Test.YtjjhgpdacijlmaaRows
import Derived.Test.YtjjhgpdacijlmaaOwn
import Derived.WalkKit
import Derived.Laws.AppendOwn
import Derived.Laws.AppendOwnNone
import Derived.Laws.OwnMore
import Derived.Laws.IdiomCopy
namespace Go.Proofs.Ytjjhgpdacijlmaa
open Go.RowKit
set_option linter.unusedVariables false
set_option linter.unusedSimpArgs false

abbrev U2 := Int × ByteArray
def flatU (l : List U2) : List Value := l.flatMap fun x => [.int .i64 x.1, .string x.2]
theorem flatU_len (l : List U2) : (flatU l).length = l.length * 2 := by
  unfold flatU
  induction l with
  | nil => rfl
  | cons a l ih => simp [ih]; omega
theorem flatU_app (l m : List U2) : flatU (l ++ m) = flatU l ++ flatU m := List.flatMap_append
theorem flatU_cons (x : U2) (l : List U2) : flatU (x :: l) = .int .i64 x.1 :: .string x.2 :: flatU l := rfl
theorem flatU_get : ∀ (l : List U2) (k : Nat) (x : U2), l[k]? = some x → (flatU l)[k * 2]? = some (.int .i64 x.1) ∧ (flatU l)[k * 2 + 1]? = some (.string x.2)
  | [], k, x, h => by simp at h
  | a :: l, 0, x, h => by
    simp at h; subst h; exact ⟨rfl, rfl⟩
  | a :: l, k + 1, x, h => by
    simp at h
    obtain ⟨h1, h2⟩ := flatU_get l k x h
    rw [flatU_cons, show (k + 1) * 2 = k * 2 + 1 + 1 by omega]
    exact ⟨by simpa using h1, by simpa using h2⟩
theorem flatU_one (l : List U2) : ∀ u ∈ flatU l, u.oneCell' = true := by
  intro u hu
  unfold flatU at hu
  obtain ⟨x, _, hx⟩ := List.mem_flatMap.1 hu
  simp at hx
  rcases hx with rfl | rfl <;> rfl
theorem flatU_take (l : List U2) (k : Nat) : (flatU l).take (k * 2) = flatU (l.take k) := by
  rcases Nat.lt_or_ge k l.length with h | h
  · have e : l = l.take k ++ l.drop k := (List.take_append_drop k l).symm
    conv => lhs; rw [e, flatU_app]
    rw [List.take_append_of_le_length (by rw [flatU_len, List.length_take]; omega), List.take_of_length_le (by rw [flatU_len, List.length_take]; omega)]
  · rw [List.take_of_length_le h, List.take_of_length_le (by rw [flatU_len]; omega)]
theorem flatU_drop (l : List U2) (k : Nat) : (flatU l).drop (k * 2) = flatU (l.drop k) := by
  rcases Nat.lt_or_ge k l.length with h | h
  · have e : l = l.take k ++ l.drop k := (List.take_append_drop k l).symm
    conv => lhs; rw [e, flatU_app]
    have hl : (flatU (l.take k)).length = k * 2 := by rw [flatU_len, List.length_take]; omega
    rw [← hl, List.drop_left]
  · rw [List.drop_eq_nil_of_le h, List.drop_eq_nil_of_le (by rw [flatU_len]; omega)]; rfl
/-- a row of the call's own -/
def URow (W : World) (B : Nat) (v : Value) (l : List U2) : Prop := W.ownsRow B 41 2 v l.length (flatU l)
theorem und_info : (Try.prog.info? 41).map (fun i => (i.zero, i.size, i.bytes)) = some (some (.agg #[.int .i64 0, .string ⟨#[]⟩]), 2, 24) := by kernel_rfl
theorem URow.nil (W : World) (B : Nat) : URow W B (.slice none 0 0) [] := ⟨rfl, .inl ⟨rfl, rfl⟩⟩
theorem URow.made (w : World) (B : Nat) (hB : B ≤ w.heap.size) : URow (w.alloc (.cells #[] 41)) B (.slice (some ⟨w.heap.size, 0, none⟩) 0 0) [] :=
  World.ownsRow_lit w #[] 0 hB (by unfold maxLen; omega) rfl
theorem URow.any {W : World} {B : Nat} {v : Value} {l : List U2} (h : URow W B v l) : ∃ a c, v = .slice a l.length c := by
  rcases h.2 with ⟨hv, h2⟩ | ⟨g, cap, cur, hv, _⟩
  · exact ⟨none, 0, by rw [hv, h2]⟩
  · exact ⟨_, cap, hv⟩
theorem URow.slice {W : World} {B : Nat} {v : Value} {l : List U2} (h : URow W B v l) (h0 : l ≠ []) : ∃ g c, v = .slice (some ⟨g, 0, none⟩) l.length c ∧ B ≤ g ∧ l.length ≤ c ∧ g < W.heap.size := by
  rcases h.2 with ⟨_, h2⟩ | ⟨g, cap, cur, hv, hg, hh, hc, _⟩
  · exact absurd (List.length_eq_zero_iff.1 h2) h0
  · exact ⟨g, cap, hv, hg, hc, (Array.getElem?_eq_some_iff.1 hh).1⟩
theorem URow.cell {W : World} {B g c : Nat} {l : List U2} (h : URow W B (.slice (some ⟨g, 0, none⟩) l.length c) l) (j : Nat) (u : Value) (hj : (flatU l)[j]? = some u) : W.cell? ⟨g, j, none⟩ = some u :=
  (World.ownsRow.cellAt h j (by have := (List.getElem?_eq_some_iff.1 hj).1; rw [flatU_len] at this; omega)).trans hj
theorem URow.at {W : World} {B g c : Nat} {l : List U2} (h : URow W B (.slice (some ⟨g, 0, none⟩) l.length c) l) (k : Nat) (x : U2) (hk : l[k]? = some x) :
    W.cell? ⟨g, k * 2, none⟩ = some (.int .i64 x.1) ∧ W.cell? ⟨g, k * 2 + 1, none⟩ = some (.string x.2) :=
  ⟨h.cell _ _ (flatU_get l k x hk).1, h.cell _ _ (flatU_get l k x hk).2⟩
theorem URow.frm {S : Nat → Prop} {W W' : World} {B : Nat} {v : Value} {l : List U2} (h : URow W B v l) (hf : Frm S W W') (hs : ∀ g, v.ownBlock = some g → ¬ S g) : URow W' B v l := ownsRow_frm h hf hs
theorem URow.below {W W' : World} {B : Nat} {v : Value} {l : List U2} (h : URow W B v l) (hb : Below W.heap.size W W') : URow W' B v l := h.frm (S := fun _ => False) (.ofBelow hb) fun _ _ => id
theorem URow.lt {W : World} {B : Nat} {v : Value} {l : List U2} (h : URow W B v l) (g : Nat) (hg : v.ownBlock = some g) : B ≤ g ∧ g < W.heap.size := World.ownsRow.lt h g hg
/-- the block of a row is none of another type -/
theorem URow.ne {W : World} {B p : Nat} {v : Value} {l : List U2} {cs : Array Value} {T : TypeId} {fr : Nat × Nat} (h : URow W B v l) (hb : W.heap[p]? = some (.cells cs T fr)) (hT : T ≠ 41) : v.ownBlock ≠ some p := by
  rcases h.2 with ⟨hv, _⟩ | ⟨g, cap, cur, hv, _, hg, _⟩
  · rw [hv]; simp [Value.ownBlock]
  · rw [hv]
    intro h2
    simp only [Value.ownBlock, Option.some.injEq] at h2
    subst h2
    rw [hg] at hb
    simp only [Option.some.injEq, Obj.cells.injEq] at hb
    exact hT hb.2.1.symm
/-- what a slice lists, wherever it begins -/
def UX (w : World) (v : Value) (l : List U2) : Prop :=
  (v = .slice none 0 0 ∧ l = []) ∨ ∃ g o cap, v = .slice (some ⟨g, o, none⟩) l.length cap ∧ ∀ (j : Nat) u, (flatU l)[j]? = some u → w.cell? ⟨g, o + j, none⟩ = some u
theorem URow.ux {W : World} {B : Nat} {v : Value} {l : List U2} (h : URow W B v l) : UX W v l := by
  rcases h.2 with ⟨hv, h2⟩ | ⟨g, cap, cur, hv, _⟩
  · exact .inl ⟨hv, List.length_eq_zero_iff.1 h2⟩
  · refine .inr ⟨g, 0, cap, hv, fun j u hj => ?_⟩
    rw [Nat.zero_add]
    exact URow.cell (hv ▸ h) j u hj
theorem UX.one (w : World) (x : U2) : UX (w.alloc (.cells #[.int .i64 x.1, .string x.2] 41)) (.slice (some ⟨w.heap.size, 0, none⟩) 1 1) [x] := by
  refine .inr ⟨w.heap.size, 0, 1, rfl, fun j u hj => ?_⟩
  match j, hj with
  | 0, hj => simp [flatU] at hj; subst hj; simp [go_sem]
  | 1, hj => simp [flatU] at hj; subst hj; simp [go_sem]
  | j + 2, hj => simp [flatU] at hj
theorem UX.below {w w' : World} {v : Value} {l : List U2} (h : UX w v l) (hb : Below w.heap.size w w') : UX w' v l := by
  rcases h with h | ⟨g, o, cap, e, hc⟩
  · exact .inl h
  · exact .inr ⟨g, o, cap, e, fun j u hj => bkeep hb (hc j u hj)⟩
theorem UX.head {w : World} {g o n c k : Nat} {l : List U2} (h : UX w (.slice (some ⟨g, o, none⟩) n c) l) (hk : k ≤ l.length) (c' : Nat) : UX w (.slice (some ⟨g, o, none⟩) k c') (l.take k) := by
  rcases h with ⟨e, _⟩ | ⟨g', o', cap, e, hc⟩
  · cases e
  · injection e with e1 e2 e3
    injection e1 with e1
    injection e1 with e4 e5
    subst e4 e5
    refine .inr ⟨g, o, c', by rw [List.length_take, Nat.min_eq_left hk], fun j u hj => hc j u ?_⟩
    rw [← flatU_take, List.getElem?_take] at hj
    split at hj
    · exact hj
    · cases hj
theorem UX.tail {w : World} {g o n c k : Nat} {l : List U2} (h : UX w (.slice (some ⟨g, o, none⟩) n c) l) (hk : k ≤ l.length) (c' : Nat) : UX w (.slice (some ⟨g, o + k * 2, none⟩) (l.length - k) c') (l.drop k) := by
  rcases h with ⟨e, _⟩ | ⟨g', o', cap, e, hc⟩
  · cases e
  · injection e with e1 e2 e3
    injection e1 with e1
    injection e1 with e4 e5
    subst e4 e5
    refine .inr ⟨g, o + k * 2, c', by rw [List.length_drop], fun j u hj => ?_⟩
    rw [← flatU_drop, List.getElem?_drop] at hj
    rw [Nat.add_assoc]
    exact hc _ u hj
theorem UX.void (w : World) (a : Option Addr) (c : Nat) (h : a = none → c = 0) (hs : ∀ x, a = some x → x.spot = none) : UX w (.slice a 0 c) [] := by
  cases a with
  | none => rw [h rfl]; exact .inl ⟨rfl, rfl⟩
  | some x =>
    obtain ⟨g, o, s⟩ := x
    have := hs _ rfl
    simp only at this
    subst this
    exact .inr ⟨g, o, c, rfl, fun j u hj => by simp [flatU] at hj⟩
/-- 'append(own, x...)', as the machine reckons it -/
theorem run_app_ux (w : World) (B : Nat) (v vx : Value) (l m : List U2) (hown : URow w B v l) (hx : UX w vx m) (hlen : l.length + m.length ≤ 1000000) (hB : B ≤ w.heap.size) :
    ∃ v' w', (Builtin.append_ #[38, 38] 38 #[v, vx]).run Try.prog w = .ok v' w' ∧ URow w' B v' (l ++ m) ∧ Frm (fun k => some k = v.ownBlock) w w' ∧ Stay w v v' := by
  obtain ⟨i, hi, hzz⟩ := Option.map_eq_some_iff.1 und_info
  simp only [Prod.mk.injEq] at hzz
  obtain ⟨hz, hsz, hby⟩ := hzz
  rcases hx with ⟨rfl, rfl⟩ | ⟨g, o, cap, rfl, hc⟩
  · refine ⟨v, w, run_append_owned_none (P := Try.prog) (w := w) B 38 38 41 i 2 Try.underlying38 hi v l.length (flatU l) hown, by simpa using hown, Frm.refl _ _, .inl rfl⟩
  · obtain ⟨v', w', hr, h1, h2, h3⟩ := run_append_own2 (P := Try.prog) w B 38 38 41 i (.agg #[.int .i64 0, .string ⟨#[]⟩]) 2 24 Try.underlying38 hi hz hsz hby rfl (by decide) v l.length (flatU l) hown ⟨g, o, none⟩ m.length cap (flatU m) (flatU_len m)
      (by
        intro j u hj
        have := hc j u hj
        rwa [show (⟨g, o, none⟩ : Addr).add j = ⟨g, o + j, none⟩ by cases j <;> simp [Addr.add]])
      (flatU_one m) (by unfold maxLen; omega) (by omega) hB
    refine ⟨v', w', hr, ?_, h2, h3⟩
    unfold URow
    rw [List.length_append, flatU_app]; exact h1
theorem wp_app_ux {o : Oper} {a : Act} {K : Act → World → Prop} {Q : Exit → Act → World → Prop} (s x : Operand) (w : World) (B : Nat) (v vx : Value) (l m : List U2) (hs : a.eval s = v) (hx : a.eval x = vx)
    (hown : URow w B v l) (htx : UX w vx m) (hlen : l.length + m.length ≤ 1000000) (hB : B ≤ w.heap.size)
    (h : ∀ v' w', URow w' B v' (l ++ m) → Frm (fun k => some k = v.ownBlock) w w' → Stay w v v' → K (a.put o.dst v') w')
    (ho : o.op = .call { callee := .builtin .append, args := #[s, x], argTypes := #[38, 38] } := by rfl) (ht : o.type = 38 := by rfl) : o.wp Try.prog a w K Q := by
  obtain ⟨v', w', hr, h2, h3, h4⟩ := run_app_ux w B v vx l m hown htx hlen hB
  unfold Oper.wp execOp
  simp only [ho, ht, resolve, invoke, builtin, Sem.run_bind, Sem.run_pure, Result.andThen_ok, List.map_toArray, List.map_cons, List.map_nil, hs, hx, hr]
  exact h v' w' h2 h3 h4
theorem wpl_app_ux {ops : Array Oper} {rest : List Oper} {o : Oper} {a : Act} {Q : Exit → Act → World → Prop} (hgd : o.guard = none) (s x : Operand) (w : World) (B : Nat) (v vx : Value) (l m : List U2) (hs : a.eval s = v) (hx : a.eval x = vx)
    (hown : URow w B v l) (htx : UX w vx m) (hlen : l.length + m.length ≤ 1000000) (hB : B ≤ w.heap.size)
    (h : ∀ v' w', URow w' B v' (l ++ m) → Frm (fun k => some k = v.ownBlock) w w' → Stay w v v' → wpList Try.prog ops Q rest (a.put o.dst v') w')
    (ho : o.op = .call { callee := .builtin .append, args := #[s, x], argTypes := #[38, 38] } := by rfl) (ht : o.type = 38 := by rfl) : wpList Try.prog ops Q (o :: rest) a w := by
  refine wpList_plain hgd fun K hK => ?_
  exact wp_app_ux s x w B v vx l m hs hx hown htx hlen hB (fun v' w' h1 h2 h3 => hK _ _ (h v' w' h1 h2 h3)) ho ht
theorem step_app_ux {ops : Array Oper} {o : Oper} {a : Act} {K : Act → World → Prop} {Q : Exit → Act → World → Prop} {E : Prop} (hg : o.guard = none) (s x : Operand) (w : World) (B : Nat) (v vx : Value) (l m : List U2) (hs : a.eval s = v) (hx : a.eval x = vx)
    (hown : URow w B v l) (htx : UX w vx m) (hlen : l.length + m.length ≤ 1000000) (hB : B ≤ w.heap.size)
    (h : ∀ v' w', URow w' B v' (l ++ m) → Frm (fun k => some k = v.ownBlock) w w' → Stay w v v' → K (a.put o.dst v') w')
    (ho : o.op = .call { callee := .builtin .append, args := #[s, x], argTypes := #[38, 38] } := by rfl) (ht : o.type = 38 := by rfl) : if Region.wanted o (yielded ops a.tmps) = true then Oper.wp Try.prog o a w K Q else E := by
  have hw : Region.wanted o (yielded ops a.tmps) = true := by simp [Region.wanted, hg]
  rw [if_pos hw]
  exact wp_app_ux s x w B v vx l m hs hx hown htx hlen hB h ho ht
/-- values laid one by one -/
def setL (xs : List Value) (o : Nat) : List Value → List Value
  | [] => xs
  | v :: r => setL (xs.set o v) (o + 1) r
theorem setL_len (xs : List Value) (o : Nat) : ∀ news : List Value, (setL xs o news).length = xs.length := by
  intro news
  induction news generalizing xs o with
  | nil => rfl
  | cons v r ih => unfold setL; rw [ih]; simp
theorem setL_eq : ∀ (news xs : List Value) (o : Nat), o + news.length ≤ xs.length → setL xs o news = xs.take o ++ news ++ xs.drop (o + news.length)
  | [], xs, o, h => by simp [setL]
  | v :: r, xs, o, h => by
    simp at h
    unfold setL
    rw [setL_eq r (xs.set o v) (o + 1) (by simp; omega)]
    have e1 : (xs.set o v).take (o + 1) = xs.take o ++ [v] := by
      rw [List.take_add_one, List.take_set_of_le (Nat.le_refl _), List.getElem?_set_self (by omega)]; rfl
    have e2 : (xs.set o v).drop (o + 1 + r.length) = xs.drop (o + (v :: r).length) := by
      rw [List.drop_set_of_lt (by omega)]; congr 1; simp; omega
    rw [e1, e2]; simp
theorem stored_many {e : TypeId} {B size g n cap : Nat} : ∀ (news : List Value) (o : Nat) (w : World) (xs : List Value), w.ownsRow B e size (.slice (some ⟨g, 0, none⟩) n cap) n xs →
    (w.setCells g o news).ownsRow B e size (.slice (some ⟨g, 0, none⟩) n cap) n (setL xs o news) ∧ Frm (· = g) w (w.setCells g o news)
  | [], o, w, xs, h => ⟨h, Frm.refl _ _⟩
  | v :: r, o, w, xs, h => by
    have h1 := World.ownsRow.stored h o v
    obtain ⟨h2, h3⟩ := stored_many r (o + 1) _ _ h1.1
    exact ⟨h2, (Frm.one w g o v).trans h3⟩
theorem row_shrink {w : World} {e : TypeId} {B size g n m cap : Nat} {xs : List Value} (h : w.ownsRow B e size (.slice (some ⟨g, 0, none⟩) n cap) n xs) (hm : m ≤ n) : w.ownsRow B e size (.slice (some ⟨g, 0, none⟩) m cap) m (xs.take (m * size)) := by
  have hmul : m * size ≤ n * size := Nat.mul_le_mul_right _ hm
  refine ⟨by rw [List.length_take, h.1]; omega, ?_⟩
  rcases h.2 with ⟨h', _⟩ | ⟨g', cap', cur, h', hb, hg, hnc, hcm, hcs, htake⟩
  · simp at h'
  · simp only [Value.slice.injEq, Option.some.injEq, Addr.mk.injEq, and_true, true_and] at h'
    obtain ⟨rfl, rfl⟩ := h'
    refine .inr ⟨g, cap, cur, rfl, hb, hg, by omega, hcm, hcs, ?_⟩
    rw [← htake, List.take_take]; congr 1; omega
end Go.Proofs.Ytjjhgpdacijlmaa
