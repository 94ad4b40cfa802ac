/-
  What an extent may have (chapter 36): a history's pasts in memory; one more write.
-/
import Derived.Test.YtecfppglpallmaaRows
import Derived.Test.YtecfppglpallmaaOwn
import Derived.WalkKit
import Derived.Laws.AppendOwn
import Derived.Laws.AppendOwnNone
import Derived.Laws.OwnMore
import Derived.Laws.IdiomCopy
namespace Go.Proofs.Ytecfppglpallmaa
open Go.RowKit
set_option linter.unusedVariables false
set_option linter.unusedSimpArgs false

/-- a past, and where its texts lie -/
structure Pc where
  l : List ByteArray
  seen : Bool
  wr : Bool
  sure : Bool
  lv : Value
  g : Nat
def pcV (q : Pc) : List Value := [q.lv, .bool q.seen, .bool q.wr, .bool q.sure]
def flatH (qs : List Pc) : List Value := qs.flatMap pcV
theorem flatH_len (qs : List Pc) : (flatH qs).length = qs.length * 4 := by
  unfold flatH
  induction qs with
  | nil => rfl
  | cons a l ih => simp [ih, pcV]; omega
theorem flatH_get : ∀ (qs : List Pc) (i : Nat) (q : Pc), qs[i]? = some q → (flatH qs)[i * 4]? = some q.lv ∧ (flatH qs)[i * 4 + 1]? = some (.bool q.seen) ∧ (flatH qs)[i * 4 + 2]? = some (.bool q.wr) ∧ (flatH qs)[i * 4 + 3]? = some (.bool q.sure)
  | [], i, q, h => by simp at h
  | a :: qs, 0, q, h => by simp at h; subst h; exact ⟨rfl, rfl, rfl, rfl⟩
  | a :: qs, i + 1, q, h => by
    simp at h
    obtain ⟨h1, h2, h3, h4⟩ := flatH_get qs i q h
    have e : flatH (a :: qs) = a.lv :: .bool a.seen :: .bool a.wr :: .bool a.sure :: flatH qs := rfl
    rw [e, show (i + 1) * 4 = i * 4 + 1 + 1 + 1 + 1 by omega]
    exact ⟨by simpa using h1, by simpa using h2, by simpa using h3, by simpa using h4⟩
theorem flatH_set : ∀ (qs : List Pc) (i : Nat) (q q' : Pc), qs[i]? = some q → flatH (qs.set i q') = ((((flatH qs).set (i * 4) q'.lv).set (i * 4 + 1) (.bool q'.seen)).set (i * 4 + 2) (.bool q'.wr)).set (i * 4 + 3) (.bool q'.sure)
  | [], i, q, q', h => by simp at h
  | a :: qs, 0, q, q', h => rfl
  | a :: qs, i + 1, q, q', h => by
    have ih := flatH_set qs i q q' (by simpa using h)
    have e : flatH (a :: qs) = a.lv :: .bool a.seen :: .bool a.wr :: .bool a.sure :: flatH qs := rfl
    rw [List.set_cons_succ]
    have e2 : flatH (a :: qs.set i q') = a.lv :: .bool a.seen :: .bool a.wr :: .bool a.sure :: flatH (qs.set i q') := rfl
    rw [e, e2, ih, show (i + 1) * 4 = i * 4 + 1 + 1 + 1 + 1 by omega]
    simp only [List.set_cons_succ]
/-- the texts of a past -/
structure TS (W : World) (B : Nat) (q : Pc) : Prop where
  ne : q.l ≠ []
  hB : B ≤ q.g
  at_ : ∃ (o cap : Nat) (cur : Array Value), q.lv = .slice (some ⟨q.g, o, none⟩) q.l.length cap ∧ W.heap[q.g]? = some (.cells cur 9 (0, 0)) ∧ q.l.length ≤ cap ∧ cap ≤ maxLen ∧ o + cap ≤ cur.size ∧ ∀ (k : Nat) x, q.l[k]? = some x → cur[o + k]? = some (.string x)
theorem TS.frm {S : Nat → Prop} {W W' : World} {B : Nat} {q : Pc} (h : TS W B q) (hf : Frm S W W') (hg : ¬ S q.g) : TS W' B q := by
  obtain ⟨o, cap, cur, h1, h2, h3⟩ := h.at_
  exact ⟨h.ne, h.hB, o, cap, cur, h1, (hf.block q.g (Array.getElem?_eq_some_iff.1 h2).1 hg).trans h2, h3⟩
theorem TS.lt {W : World} {B : Nat} {q : Pc} (h : TS W B q) : q.g < W.heap.size := by
  obtain ⟨o, cap, cur, h1, h2, h3⟩ := h.at_
  exact (Array.getElem?_eq_some_iff.1 h2).1
/-- a history in memory -/
structure HX (W : World) (B h R cap : Nat) (qs : List Pc) : Prop where
  box : W.heap[h]? = some (.cells #[.slice (some ⟨R, 0, none⟩) qs.length cap] 38 (0, 0))
  row : W.ownsRow B 40 4 (.slice (some ⟨R, 0, none⟩) qs.length cap) qs.length (flatH qs)
  txt : ∀ (i : Nat) q, qs[i]? = some q → TS W B q
  ap : ∀ (i j : Nat) a b, i ≠ j → qs[i]? = some a → qs[j]? = some b → a.g ≠ b.g
section
variable {W W' : World} {B h R cap : Nat} {qs : List Pc}
theorem HX.c0 (H : HX W B h R cap qs) : W.cell? ⟨h, 0, none⟩ = some (.slice (some ⟨R, 0, none⟩) qs.length cap) := by rw [cell_of_row W h 0 _ _ _ H.box]; rfl
theorem HX.hlt (H : HX W B h R cap qs) : h < W.heap.size := (Array.getElem?_eq_some_iff.1 H.box).1
theorem HX.rowAt (H : HX W B h R cap qs) : ∃ cur, W.heap[R]? = some (.cells cur 40 (0, 0)) := by
  rcases H.row.2 with ⟨h', _⟩ | ⟨g', cap', cur, h', hb, hg, _⟩
  · cases h'
  · injection h' with h1
    injection h1 with h1
    injection h1 with h1
    subst h1
    exact ⟨cur, hg⟩
theorem HX.hR (H : HX W B h R cap qs) : h ≠ R := by
  rintro rfl
  obtain ⟨cur, hc⟩ := H.rowAt
  rw [H.box] at hc
  simp only [Option.some.injEq, Obj.cells.injEq] at hc
  exact absurd hc.2.1 (by decide)
theorem HX.gR (H : HX W B h R cap qs) {i : Nat} {q : Pc} (hq : qs[i]? = some q) : q.g ≠ R ∧ q.g ≠ h := by
  obtain ⟨o, c, cur, _, h2, _⟩ := (H.txt i q hq).at_
  constructor
  · intro e
    obtain ⟨cur', hc⟩ := H.rowAt
    rw [e, hc] at h2
    simp only [Option.some.injEq, Obj.cells.injEq] at h2
    exact absurd h2.2.1 (by decide)
  · intro e
    rw [e, H.box] at h2
    simp only [Option.some.injEq, Obj.cells.injEq] at h2
    exact absurd h2.2.1 (by decide)
theorem HX.below (H : HX W B h R cap qs) (hb : Below W.heap.size W W') : HX W' B h R cap qs :=
  ⟨(hb.block h H.hlt).trans H.box, ownsRow_frm H.row (S := fun _ => False) (.ofBelow hb) fun _ _ => id, fun i q hq => (H.txt i q hq).frm (S := fun _ => False) (.ofBelow hb) id, H.ap⟩
theorem HX.cells (H : HX W B h R cap qs) {i : Nat} {q : Pc} (hq : qs[i]? = some q) : W.cell? ⟨R, i * 4, none⟩ = some q.lv ∧ W.cell? ⟨R, i * 4 + 1, none⟩ = some (.bool q.seen) ∧ W.cell? ⟨R, i * 4 + 2, none⟩ = some (.bool q.wr) ∧ W.cell? ⟨R, i * 4 + 3, none⟩ = some (.bool q.sure) := by
  have hl := (List.getElem?_eq_some_iff.1 hq).1
  obtain ⟨h1, h2, h3, h4⟩ := flatH_get qs i q hq
  exact ⟨(World.ownsRow.cellAt H.row _ (by omega)).trans h1, (World.ownsRow.cellAt H.row _ (by omega)).trans h2, (World.ownsRow.cellAt H.row _ (by omega)).trans h3, (World.ownsRow.cellAt H.row _ (by omega)).trans h4⟩
theorem HX.free (H : HX W B h R cap qs) (j : Nat) : W.frozen? ⟨R, j, none⟩ = false := World.ownsRow.frozenAt H.row j
end
theorem alb (W : World) (o : Obj) : Below W.heap.size W (W.alloc o) := (Below.refl _ _).alloc (Nat.le_refl _) _
/-- one place of the row is written anew -/
def put4 (W : World) (R i : Nat) (q : Pc) : World := (((W.setCell ⟨R, i * 4, none⟩ q.lv).setCell ⟨R, i * 4 + 1, none⟩ (.bool q.seen)).setCell ⟨R, i * 4 + 2, none⟩ (.bool q.wr)).setCell ⟨R, i * 4 + 3, none⟩ (.bool q.sure)
/-- a past is another one -/
theorem HX.upd {W W1 W2 : World} {B h R cap : Nat} {qs : List Pc} {i : Nat} {q q' : Pc} (H : HX W B h R cap qs) (hq : qs[i]? = some q) (hf : Frm (fun k => k = q.g) W W1) (ht : TS W1 B q') (hg : q'.g = q.g ∨ W.heap.size ≤ q'.g)
    (hrow : W2.ownsRow B 40 4 (.slice (some ⟨R, 0, none⟩) qs.length cap) qs.length (flatH (qs.set i q'))) (hf2 : Frm (fun k => k = R) W1 W2) : HX W2 B h R cap (qs.set i q') ∧ Frm (fun k => k = R ∨ k = q.g) W W2 := by
  have hgR := H.gR hq
  have hRl : R < W.heap.size := by obtain ⟨c, hc⟩ := H.rowAt; exact (Array.getElem?_eq_some_iff.1 hc).1
  have hF : Frm (fun k => k = R ∨ k = q.g) W W2 := (hf.mono fun k _ e => .inr e).trans (hf2.mono fun k _ e => .inl e)
  have hil := (List.getElem?_eq_some_iff.1 hq).1
  have hq'R : q'.g ≠ R := by
    rcases hg with e | e
    · rw [e]; exact hgR.1
    · omega
  refine ⟨⟨?_, by rw [List.length_set]; exact hrow, ?_, ?_⟩, hF⟩
  · rw [List.length_set]
    exact (hF.block h H.hlt (by rintro (e | e); exact H.hR e; exact hgR.2 e.symm)).trans H.box
  · intro j a ha
    by_cases hij : i = j
    · subst hij
      rw [List.getElem?_set_self hil] at ha
      injection ha with ha
      subst ha
      exact ht.frm hf2 hq'R
    · rw [List.getElem?_set_ne hij] at ha
      exact (H.txt j a ha).frm hF (by rintro (e | e); exact (H.gR ha).1 e; exact H.ap i j q a hij hq ha e.symm)
  · intro j k a b hjk ha hb
    by_cases hij : i = j
    · subst hij
      rw [List.getElem?_set_self hil] at ha
      rw [List.getElem?_set_ne hjk] at hb
      injection ha with ha
      subst ha
      rcases hg with e | e
      · rw [e]; exact H.ap i k q b hjk hq hb
      · have := (H.txt k b hb).lt; omega
    · rw [List.getElem?_set_ne hij] at ha
      by_cases hik : i = k
      · subst hik
        rw [List.getElem?_set_self hil] at hb
        injection hb with hb
        subst hb
        rcases hg with e | e
        · rw [e]; exact H.ap j i a q hjk ha hq
        · have := (H.txt j a ha).lt; omega
      · rw [List.getElem?_set_ne hik] at hb
        exact H.ap j k a b hjk ha hb
theorem str_info : (Try.prog.info? 9).map (fun i => (i.zero, i.size, i.bytes)) = some (some (.string ⟨#[]⟩), 1, 16) := by kernel_rfl
/-- one more text behind a past's -/
theorem run_app_ts (W : World) (B : Nat) (q : Pc) (d : ByteArray) (ht : TS W B q) (hlen : q.l.length ≤ 100000) (hB : B ≤ W.heap.size) : ∃ (v' : Value) (g' : Nat) (w' : World),
    (Builtin.append_ #[22, 22] 22 #[q.lv, .slice (some ⟨W.heap.size, 0, none⟩) 1 1]).run Try.prog (W.alloc (.cells #[.string d] 9)) = .ok v' w' ∧ TS w' B { q with l := q.l ++ [d], lv := v', g := g' } ∧ Frm (fun k => k = q.g) W w' ∧ (g' = q.g ∨ W.heap.size ≤ g') := by
  obtain ⟨i, hi, hzz⟩ := Option.map_eq_some_iff.1 str_info
  simp only [Prod.mk.injEq] at hzz
  obtain ⟨hz, hsz, hby⟩ := hzz
  have hlt := ht.lt
  obtain ⟨o, cap, cur, hv, hh, hlc, hcm, hoc, hx⟩ := ht.at_
  have hh2 : (W.alloc (.cells #[.string d] 9)).heap[q.g]? = some (.cells cur 9 (0, 0)) := (heap_alloc_old _ _ hlt).trans hh
  have hcell : ∀ j, j < cur.size → (W.alloc (.cells #[.string d] 9)).cell? ⟨q.g, j, none⟩ = cur[j]? := fun j _ => cell_of_row _ q.g j cur 9 (0, 0) hh2
  have hnew : ∀ (j : Nat) u, [Value.string d][j]? = some u → (W.alloc (.cells #[.string d] 9)).cell? ((⟨W.heap.size, 0, none⟩ : Addr).add j) = some u := by
    intro j u hj
    match j, hj with
    | 0, hj => simp at hj; subst hj; simp [go_sem, Addr.add]
    | j + 1, hj => simp at hj
  rw [hv]
  by_cases hroom : q.l.length + 1 ≤ cap
  · have hr := run_append_room_cells (P := Try.prog) (w := W.alloc (.cells #[.string d] 9)) 22 22 9 i Try.underlying22 hi q.g o q.l.length cap ⟨W.heap.size, 0, none⟩ 1 1 [.string d] (by rw [hsz]; rfl) hnew (by intro u hu; simp at hu; subst hu; rfl) hroom
      (fun j hj => by simp at hj; subst hj; rw [hsz, Nat.mul_one, Nat.add_zero, hcell _ (by omega), Array.getElem?_eq_getElem (by omega)]; rfl)
      (fun j hj => frozen_of_row _ q.g _ cur 9 hh2)
    rw [hsz, Nat.mul_one] at hr
    refine ⟨_, q.g, _, hr, ⟨by simp, ht.hB, o, cap, cur.setIfInBounds (o + q.l.length) (.string d), by simp, ?_, by simpa using hroom, hcm, by simpa using hoc, ?_⟩, ?_, .inl rfl⟩
    · exact heap_setCell_same _ q.g (o + q.l.length) cur 9 _ hh2
    · intro k x hk
      rcases Nat.lt_or_ge k q.l.length with h | h
      · rw [List.getElem?_append_left h] at hk
        rw [Array.getElem?_setIfInBounds_ne (by omega)]
        exact hx k x hk
      · have : k = q.l.length := by have := (List.getElem?_eq_some_iff.1 hk).1; simp at this; omega
        subst this
        simp at hk; subst hk
        rw [Array.getElem?_setIfInBounds_self_of_lt (by omega)]
    · exact (Frm.ofBelow (alb W _)).trans (Frm.one _ q.g _ _)
  · obtain ⟨v', w', hr, h2, h3⟩ := run_append_arg_grows (P := Try.prog) (W.alloc (.cells #[.string d] 9)) 22 22 9 i (.string ⟨#[]⟩) 1 16 Try.underlying22 hi hz hsz hby rfl (by decide) ⟨q.g, o, none⟩ q.l.length cap (q.l.map Value.string) (by simp)
      (fun j u hj => by
        rw [List.getElem?_map, Option.map_eq_some_iff] at hj
        obtain ⟨x, hj, rfl⟩ := hj
        have hjl := (List.getElem?_eq_some_iff.1 hj).1
        rw [show (⟨q.g, o, none⟩ : Addr).add j = ⟨q.g, o + j, none⟩ by cases j <;> simp [Addr.add], hcell _ (by omega)]
        exact hx j x hj) ⟨W.heap.size, 0, none⟩ 1 1 [.string d] rfl hnew (by omega) (by unfold maxLen; omega) (by omega)
    have hsl : ∃ g' c', v' = .slice (some ⟨g', 0, none⟩) (q.l.length + 1) c' ∧ (W.alloc (.cells #[.string d] 9)).heap.size ≤ g' ∧ ∃ cur', w'.heap[g']? = some (.cells cur' 9 (0, 0)) ∧ q.l.length + 1 ≤ c' ∧ c' ≤ maxLen ∧ cur'.size = c' * 1 ∧ cur'.toList.take ((q.l.length + 1) * 1) = q.l.map Value.string ++ [.string d] := by
      rcases h2.2 with ⟨_, h0⟩ | ⟨g', c', cur', e, hb, hg, hc, hm, hs, ht⟩
      · omega
      · exact ⟨g', c', e, hb, cur', hg, hc, hm, hs, ht⟩
    obtain ⟨g', c', rfl, hg', cur', hh', hc', hm', hs', ht'⟩ := hsl
    have hgW : W.heap.size ≤ g' := by simp at hg'; omega
    refine ⟨_, g', w', hr, ⟨by simp, by show B ≤ g'; omega, 0, c', cur', by simp, hh', by simpa using hc', hm', by omega, ?_⟩, (Frm.ofBelow (alb W _)).trans ⟨h3.os, h3.tape, h3.output, h3.size, fun k hk _ => h3.block k hk (by simp)⟩, .inr hgW⟩
    intro k x hk
    have hkl : k < q.l.length + 1 := by have := (List.getElem?_eq_some_iff.1 hk).1; simpa using this
    have h5 : (cur'.toList.take ((q.l.length + 1) * 1))[k]? = some (.string x) := by
      rw [ht']
      have : (q.l.map Value.string ++ [Value.string d]) = (q.l ++ [d]).map Value.string := by simp
      rw [this, List.getElem?_map, hk]; rfl
    rw [List.getElem?_take, if_pos (by omega)] at h5
    rw [Nat.zero_add]
    simpa using h5
theorem wpl_app_ts {ops : Array Oper} {rest : List Oper} {o : Oper} {a : Act} {Q : Exit → Act → World → Prop} (hgd : o.guard = none) (s x : Operand) (W : World) (B : Nat) (q : Pc) (d : ByteArray) (hs : a.eval s = q.lv) (hx : a.eval x = .slice (some ⟨W.heap.size, 0, none⟩) 1 1)
    (ht : TS W B q) (hlen : q.l.length ≤ 100000) (hB : B ≤ W.heap.size)
    (h : ∀ v' g' w', TS w' B { q with l := q.l ++ [d], lv := v', g := g' } → Frm (fun k => k = q.g) W w' → (g' = q.g ∨ W.heap.size ≤ g') → wpList Try.prog ops Q rest (a.put o.dst v') w')
    (ho : o.op = .call { callee := .builtin .append, args := #[s, x], argTypes := #[22, 22] } := by rfl) (hty : o.type = 22 := by rfl) : wpList Try.prog ops Q (o :: rest) a (W.alloc (.cells #[.string d] 9)) := by
  refine wpList_plain hgd fun K hK => ?_
  obtain ⟨v', g', w', hr, h2, h3, h4⟩ := run_app_ts W B q d ht hlen hB
  unfold Oper.wp execOp
  simp only [ho, hty, resolve, invoke, builtin, Sem.run_bind, Sem.run_pure, Result.andThen_ok, List.map_toArray, List.map_cons, List.map_nil, hs, hx, hr]
  exact hK _ _ (h v' g' w' h2 h3 h4)
/-- a history of n pasts finds one -/
theorem of_in (B h R cap : Nat) (qs : List Pc) (i : Nat) (W : World) (H : HX W B h R cap qs) (hi : i < qs.length) (hm : qs.length ≤ 100000) : Calls Try.prog 13 #[.pointer (some ⟨h, 0, none⟩), .int .i64 i] W fun e w' => e = .returned (.pointer (some ⟨R, i * 4, none⟩)) ∧ w' = W := by
  have c0 := H.c0
  have h1 : decide ((i : Int) < 0) = false := decide_eq_false (by omega)
  have h2 : decide ((qs.length : Int) ≤ (i : Int)) = false := decide_eq_false (by omega)
  have h2' : decide (qs.length ≤ i) = false := decide_eq_false (by omega)
  have h3 : (0 : Int) ≤ (i : Int) := by omega
  have h4 : (i : Int) < (qs.length : Int) := by omega
  go_enter Try.func13, Try.ntmps13
  go_wp2
  go_ret
  exact ⟨rfl, rfl⟩
theorem of_out (B h R cap : Nat) (qs : List Pc) (e : Int) (W : World) (H : HX W B h R cap qs) (hi : e < 0 ∨ (qs.length : Int) ≤ e) : Calls Try.prog 13 #[.pointer (some ⟨h, 0, none⟩), .int .i64 e] W fun r w' => r = .returned (.pointer none) ∧ w' = W := by
  have c0 := H.c0
  by_cases h0 : e < 0
  · have h1 : decide (e < 0) = true := decide_eq_true h0
    clear hi
    go_enter Try.func13, Try.ntmps13
    go_wp2
    go_ret
    exact ⟨rfl, rfl⟩
  · have h1 : decide (e < 0) = false := decide_eq_false h0
    have h2 : decide ((qs.length : Int) ≤ e) = true := decide_eq_true (by omega)
    clear hi
    go_enter Try.func13, Try.ntmps13
    go_wp2
    go_ret
    exact ⟨rfl, rfl⟩
theorem set_id {xs : List Value} {j : Nat} {v : Value} (h : xs[j]? = some v) : xs.set j v = xs := by
  apply List.ext_getElem?
  intro k
  rw [List.getElem?_set]
  split
  · rename_i e
    subst e
    have := (List.getElem?_eq_some_iff.1 h).1
    rw [if_pos this, h]
  · rfl
/-- the row behind stores at one place -/
theorem row_upd {W : World} {B R n cap : Nat} {qs : List Pc} {i : Nat} {q q' : Pc} (hr : W.ownsRow B 40 4 (.slice (some ⟨R, 0, none⟩) n cap) n (flatH qs)) (hq : qs[i]? = some q) :
    (put4 W R i q').ownsRow B 40 4 (.slice (some ⟨R, 0, none⟩) n cap) n (flatH (qs.set i q')) ∧ Frm (fun k => k = R) W (put4 W R i q') := by
  have h1 := World.ownsRow.stored hr (i * 4) q'.lv
  have h2 := World.ownsRow.stored h1.1 (i * 4 + 1) (.bool q'.seen)
  have h3 := World.ownsRow.stored h2.1 (i * 4 + 2) (.bool q'.wr)
  have h4 := World.ownsRow.stored h3.1 (i * 4 + 3) (.bool q'.sure)
  rw [flatH_set qs i q q' hq]
  exact ⟨h4.1, (((Frm.one W R _ _).trans (Frm.one _ R _ _)).trans (Frm.one _ R _ _)).trans (Frm.one _ R _ _)⟩
/-- three stores do where the fourth value stays -/
theorem row_upd3 {W : World} {B R n cap : Nat} {qs : List Pc} {i : Nat} {q q' : Pc} (hr : W.ownsRow B 40 4 (.slice (some ⟨R, 0, none⟩) n cap) n (flatH qs)) (hq : qs[i]? = some q) (hs : q'.sure = q.sure) :
    ((((W.setCell ⟨R, i * 4, none⟩ q'.lv).setCell ⟨R, i * 4 + 1, none⟩ (.bool q'.seen)).setCell ⟨R, i * 4 + 2, none⟩ (.bool q'.wr))).ownsRow B 40 4 (.slice (some ⟨R, 0, none⟩) n cap) n (flatH (qs.set i q')) ∧ Frm (fun k => k = R) W (((W.setCell ⟨R, i * 4, none⟩ q'.lv).setCell ⟨R, i * 4 + 1, none⟩ (.bool q'.seen)).setCell ⟨R, i * 4 + 2, none⟩ (.bool q'.wr)) := by
  have h1 := World.ownsRow.stored hr (i * 4) q'.lv
  have h2 := World.ownsRow.stored h1.1 (i * 4 + 1) (.bool q'.seen)
  have h3 := World.ownsRow.stored h2.1 (i * 4 + 2) (.bool q'.wr)
  rw [flatH_set qs i q q' hq, set_id (j := i * 4 + 3)]
  · exact ⟨h3.1, ((Frm.one W R _ _).trans (Frm.one _ R _ _)).trans (Frm.one _ R _ _)⟩
  · rw [List.getElem?_set_ne (by omega), List.getElem?_set_ne (by omega), List.getElem?_set_ne (by omega), hs]
    exact (flatH_get qs i q hq).2.2.2
/-- a past with one more text -/
def wrQ (q : Pc) (d : ByteArray) (v : Value) (g : Nat) : Pc := ⟨q.l ++ [d], true, true, q.sure, v, g⟩
set_option maxHeartbeats 1600000 in
theorem wrote_in (B h R cap : Nat) (qs : List Pc) (i : Nat) (q : Pc) (d : ByteArray) (W : World) (H : HX W B h R cap qs) (hq : qs[i]? = some q) (hm : qs.length ≤ 100000) (hB : B ≤ W.heap.size) (hl : q.l.length ≤ 100000) :
    Calls Try.prog 7 #[.pointer (some ⟨h, 0, none⟩), .int .i64 i, .string d] W fun e w' => e = .returned (.bool true) ∧ ∃ v g, HX w' B h R cap (qs.set i (wrQ q d v g)) ∧ Frm (fun k => k = R ∨ k = q.g) W w' := by
  have hi := (List.getElem?_eq_some_iff.1 hq).1
  have hof := of_in B h R cap qs i W H hi hm
  obtain ⟨e0, e1, e2, e3⟩ := H.cells hq
  have hRW : R < W.heap.size := World.block_lt_of_cell? W _ e0
  have hRne := (H.gR hq).1
  have hTS := H.txt i q hq
  have hlv : ∃ a, q.lv = .slice (some a) q.l.length (match q.lv with | .slice _ _ c => c | _ => 0) := by
    obtain ⟨o, c, cur, hv, _⟩ := hTS.at_
    rw [hv]; exact ⟨_, rfl⟩
  have a0 := bkeep (alb W (.cells #[.string d] 9)) e0
  go_enter Try.func7, Try.ntmps7
  go_wp2_with (first | (go_at_call 13; (with_reducible refine hof.mono ?_); rintro e w1 ⟨rfl, rfl⟩) | (at_builtin; refine wpl_app_ts rfl (.tmp 17) (.tmp 19) _ B q d rfl rfl hTS hl hB ?_ rfl rfl; intro v5 g5 w5 ht5 hf5 hg5; have b0 := hf5.cell (p := ⟨R, i * 4, none⟩) (fun e => hRne e.symm) e0; have b1 := hf5.cell (p := ⟨R, i * 4 + 1, none⟩) (fun e => hRne e.symm) e1; have b2 := hf5.cell (p := ⟨R, i * 4 + 2, none⟩) (fun e => hRne e.symm) e2; have z0 := (hf5.frozen (p := ⟨R, i * 4, none⟩) (fun e => hRne e.symm) hRW).trans (H.free _); have z1 := (hf5.frozen (p := ⟨R, i * 4 + 1, none⟩) (fun e => hRne e.symm) hRW).trans (H.free _); have z2 := (hf5.frozen (p := ⟨R, i * 4 + 2, none⟩) (fun e => hRne e.symm) hRW).trans (H.free _); obtain ⟨o5, c5, cur5, hv5, _⟩ := ht5.at_; simp only at hv5; subst hv5))
  go_ret
  have hr5 := ownsRow_frm H.row hf5 (fun g hg e => by simp only [Value.ownBlock, Option.some.injEq] at hg; subst hg; exact hRne e.symm)
  have hLL : (q.l ++ [d]).length = q.l.length + 1 := by simp
  rw [hLL] at ht5
  have hu := row_upd3 (q' := wrQ q d (.slice (some ⟨g5, o5, none⟩) (q.l.length + 1) c5) g5) hr5 hq rfl
  have hfin := H.upd (q' := wrQ q d (.slice (some ⟨g5, o5, none⟩) (q.l.length + 1) c5) g5) hq hf5 ⟨ht5.ne, ht5.hB, ht5.at_⟩ hg5 hu.1 hu.2
  exact ⟨rfl, ⟨_, g5, hfin.1⟩, hfin.2⟩
theorem wrote_out (B h R cap : Nat) (qs : List Pc) (i : Int) (d : ByteArray) (W : World) (H : HX W B h R cap qs) (hi : i < 0 ∨ (qs.length : Int) ≤ i) :
    Calls Try.prog 7 #[.pointer (some ⟨h, 0, none⟩), .int .i64 i, .string d] W fun e w' => e = .returned (.bool false) ∧ w' = W := by
  have hof := of_out B h R cap qs i W H hi
  go_enter Try.func7, Try.ntmps7
  go_wp2_with (first | (go_at_call 13; (with_reducible refine hof.mono ?_); rintro e w1 ⟨rfl, rfl⟩))
  go_ret
  exact ⟨rfl, rfl⟩
end Go.Proofs.Ytecfppglpallmaa
