/-
  Parts of two versions (chapter 41): a row of them, and one more.
-/
import Derived.Test.YtlmmmibnnbceeaaParts
import Derived.Test.YtlmmmibnnbceeaaMerge4
namespace Go.Proofs.Ytlmmmibnnbceeaa
open Go.RowKit Go.Shelf
set_option linter.unusedVariables false
set_option linter.unusedSimpArgs false
attribute [local go_sem] Oper.semAt_some

def flatP (l : List P3) : List Value := l.flatMap fun x => [.int .i64 x.1, .int .i64 x.2.1, .int .i64 x.2.2]
theorem flatP_len (l : List P3) : (flatP l).length = l.length * 3 := by
  unfold flatP
  induction l with
  | nil => rfl
  | cons a l ih => rw [List.flatMap_cons, List.length_append, ih]; simp; omega
theorem flatP_snoc (l : List P3) (x : P3) : flatP (l ++ [x]) = flatP l ++ [.int .i64 x.1, .int .i64 x.2.1, .int .i64 x.2.2] := by
  unfold flatP; rw [List.flatMap_append]; rfl
/-- v lists the parts l, in a row of its own behind block B -/
def PtRow (W : World) (B : Nat) (v : Value) (l : List P3) : Prop := W.ownsRow B 54 3 v l.length (flatP l)
theorem part_info : (Try.prog.info? 54).map (fun i => (i.zero, i.size, i.bytes)) = some (some (.agg #[.int .i64 0, .int .i64 0, .int .i64 0]), 3, 24) := by kernel_rfl
theorem appP_in {F : Fence} {m : Nat} {ops : Array Oper} {rest : List Oper} {o : Oper} {a : Act} {Q : Exit → Act → World → Prop} (hgd : o.guard = none) (s x : Operand)
    (ho : o.op = .call { callee := .builtin .append, args := #[s, x], argTypes := #[33, 33] })
    (w : World) (B N : Nat) (v : Value) (l : List P3) (x1 x2 x3 : Nat) (hs : a.eval s = v) (hx : a.eval x = .slice (some ⟨w.heap.size, 0, none⟩) 1 1)
    (hbx : Boxed w N 33 v) (hrow : PtRow w B v l) (hlen : l.length ≤ 1000001) (hB : B ≤ w.heap.size) (hN : N < B)
    (h : ∀ v' w', Boxed w' N 33 v → (∃ g c, v' = .slice (some ⟨g, 0, none⟩) (l.length + 1) c) → Boxed (w'.setCell ⟨N, 0, none⟩ v') N 33 v' → PtRow (w'.setCell ⟨N, 0, none⟩ v') B v' (l ++ [(x1, x2, x3)]) → KeepsOthers w (w'.setCell ⟨N, 0, none⟩ v') → Frm (fun k => k = N ∨ v.ownBlock = some k) w (w'.setCell ⟨N, 0, none⟩ v') → wpListIn F m Try.prog ops Q rest (a.put o.dst v') w') :
    wpListIn F m Try.prog ops Q (o :: rest) a (w.alloc (.cells #[.int .i64 x1, .int .i64 x2, .int .i64 x3] 54)) := by
  obtain ⟨i, hi, hzz⟩ := Option.map_eq_some_iff.1 part_info
  simp only [Prod.mk.injEq] at hzz
  obtain ⟨hz, hsz, hby⟩ := hzz
  have hrow' : w.ownsRow B 54 3 v l.length (flatP l) := hrow
  refine wpListIn_append_own _ hgd s x 33 ho B 54 i (.agg #[.int .i64 0, .int .i64 0, .int .i64 0]) 3 24 Try.underlying33 hi hz hsz hby rfl (by decide) v l.length (flatP l) hs (hrow'.alloc _) ⟨w.heap.size, 0, none⟩ 1 1 [.int .i64 x1, .int .i64 x2, .int .i64 x3] hx rfl ?_ ?_ ?_ ?_ ?_ ?_
  · intro j u hj
    match j, hj with
    | 0, hj => simp at hj; subst hj; simp [go_sem, Addr.add]
    | 1, hj => simp at hj; subst hj; simp [go_sem, Addr.add]
    | 2, hj => simp at hj; subst hj; simp [go_sem, Addr.add]
    | j + 3, hj => simp at hj
  · intro u hu; simp at hu; rcases hu with rfl | rfl | rfl <;> rfl
  · unfold maxLen; omega
  · omega
  · simp; omega
  · intro v' w' h1 h2 _
    have h1' : w'.ownsRow B 54 3 v' (l ++ [(x1, x2, x3)]).length (flatP (l ++ [(x1, x2, x3)])) := by
      have e1 : (l ++ [(x1, x2, x3)]).length = l.length + 1 := by simp
      rw [e1, flatP_snoc]; exact h1
    obtain ⟨g, c, hv'⟩ := ownsRow_succ h1
    have hap := Boxed.appended (n₀ := 0) hbx (by decide) (ownsRow_mono hrow' (Nat.zero_le _)) (Nat.zero_le _) (Nat.zero_le _) (ownsRow_mono h1' (Nat.zero_le _)) h2
    have hg : v'.ownBlock = some g := by rw [hv']; rfl
    have hgB := World.ownsRow.lt h1' g hg
    refine h v' w' hap.1 ⟨g, c, hv'⟩ hap.2.1 ?_ hap.2.2.2.1 ?_
    · exact h1'.kept (grownBy_setCell' w' N v') (.inr (by rw [hg]; intro e; cases e; omega))
    · refine (((Frm.refl _ w).alloc _).trans ((frm_grown h2).mono fun k _ e => .inr e)).trans ((Frm.one w' N 0 v').mono fun k _ e => .inl e)
/-- the part's maker and what it keeps: at's box A, the list's box L, the list's row behind B -/
structure PK (W : World) (A L B : Nat) (s : List P3 × Nat) : Prop where
  c : W.cell? ⟨A, 0, none⟩ = some (.int .i64 s.2)
  z : W.frozen? ⟨A, 0, none⟩ = false
  l : ∃ v, Boxed W L 33 v ∧ PtRow W B v s.1
/-- a block of parts -/
def IsPart (w : World) (k : Nat) : Prop := ∃ cs fr, w.heap[k]? = some (.cells cs 54 fr)
theorem PtRow.isPart {W : World} {B : Nat} {v : Value} {l : List P3} (h : PtRow W B v l) {k : Nat} (hk : v.ownBlock = some k) : B ≤ k ∧ IsPart W k := by
  rcases h.2 with ⟨rfl, _⟩ | ⟨g, cap, cur, rfl, hg, hc, _⟩
  · cases hk
  · cases hk
    exact ⟨hg, _, _, hc⟩
set_option maxHeartbeats 1600000 in
theorem padd_any (to side A L B : Nat) (s : List P3 × Nat) (w : World) (h : PK w A L B s) (hlen : s.1.length ≤ 1000000) (hA : A < B) (hL : L < B) (hAL : A ≠ L) (hB : B ≤ w.heap.size) :
    Calls Try.prog 28 #[.int .i64 to, .int .i64 side, .pointer (some ⟨A, 0, none⟩), .pointer (some ⟨L, 0, none⟩)] w fun e w' => (∃ r, e = .returned r) ∧ PK w' A L B (padd s to side) ∧ KeepsOthers w w' ∧ Frm (fun k => k = A ∨ k = L ∨ (B ≤ k ∧ IsPart w k)) w w' := by
  obtain ⟨l, at_⟩ := s
  obtain ⟨hc, hz, v, hbx, hrow⟩ := h
  simp only at hc hrow hlen
  refine (callsIn_wide (n := 2)).1 ?_
  refine callsIn_of_wp Try.func28 rfl trivial ?_ rfl
  simp only [Try.ntmps28, List.size_toArray, List.length_cons, List.length_nil, Nat.reduceAdd, Nat.reduceSub, Array.replicate_succ, Array.replicate_zero, List.push_toArray, List.append_toArray, List.nil_append, List.cons_append]
  by_cases hlt : at_ < to
  · have hd : decide ((at_ : Int) < (to : Int)) = true := decide_eq_true (by omega)
    have hd2 : decide (at_ < to) = true := decide_eq_true hlt
    rw [padd_lt (s := (l, at_)) hlt]
    have hbc := hbx.cell
    have hbf := hbx.frozen
    have hfin : ∀ (v' : Value) (w' : World), Boxed (w'.setCell ⟨L, 0, none⟩ v') L 33 v' → PtRow (w'.setCell ⟨L, 0, none⟩ v') B v' (l ++ [(at_, to, side)]) → KeepsOthers w (w'.setCell ⟨L, 0, none⟩ v') → Frm (fun k => k = L ∨ v.ownBlock = some k) w (w'.setCell ⟨L, 0, none⟩ v') →
        (w'.setCell ⟨L, 0, none⟩ v').cell? ⟨A, 0, none⟩ = some (.int .i64 at_) ∧ (w'.setCell ⟨L, 0, none⟩ v').frozen? ⟨A, 0, none⟩ = false ∧
        PK ((w'.setCell ⟨L, 0, none⟩ v').setCell ⟨A, 0, none⟩ (.int .i64 to)) A L B (l ++ [(at_, to, side)], to) ∧ KeepsOthers w ((w'.setCell ⟨L, 0, none⟩ v').setCell ⟨A, 0, none⟩ (.int .i64 to)) ∧ Frm (fun k => k = A ∨ k = L ∨ (B ≤ k ∧ IsPart w k)) w ((w'.setCell ⟨L, 0, none⟩ v').setCell ⟨A, 0, none⟩ (.int .i64 to)) := fun v' w' a1 a2 a3 a4 => by
      have hnA : ¬ ((fun k => k = L ∨ v.ownBlock = some k) A) := by rintro (e | e); exact hAL e; have := (hrow.isPart e).1; omega
      have k1 := a4.cell (p := ⟨A, 0, none⟩) hnA hc
      have k2 := (a4.frozen (p := ⟨A, 0, none⟩) hnA (World.block_lt_of_cell? _ _ hc)).trans hz
      refine ⟨k1, k2, ⟨cell_same k1, (World.frozen?_setCell _ _ _ _).trans k2, v', ?_, ?_⟩, a3.trans (KeepsOthers.setCell _ _ _), (a4.mono fun k _ h => .inr (h.imp id fun e => hrow.isPart e)).trans ((Frm.one _ A 0 _).mono fun k _ h => .inl h)⟩
      · exact a1.kept (grownBy_setCell' _ A _) (fun e => by cases e; exact hAL rfl)
      · refine World.ownsRow.kept a2 (grownBy_setCell' _ A _) (.inr fun e => ?_)
        have := (World.ownsRow.lt a2 A e).1
        omega
    have hfin := Lib.hid hfin
    have hbx := Lib.hid hbx
    have hrow := Lib.hid hrow
    gi_wp2_with (gi_at_builtin; refine appP_in rfl (.tmp 9) (.tmp 15) rfl w B L v l at_ to side rfl rfl hbx.out hrow.out (by omega) hB hL ?_; intro v' w' b1 bv b2 b3 b4 b5; have c1 := b1.cell; have c2 := b1.frozen; obtain ⟨d1, d2, d3⟩ := hfin.out v' w' b2 b3 b4 b5; have d3 := Lib.hid d3; obtain ⟨g9, c9, rfl⟩ := bv; clear b1 b2 b3 b4 b5)
    go_end0
    exact ⟨⟨_, rfl⟩, d3.out⟩
  · have hd : decide ((at_ : Int) < (to : Int)) = false := decide_eq_false (by omega)
    have hd2 : decide (at_ < to) = false := decide_eq_false hlt
    rw [padd_ge (s := (l, at_)) hlt]
    gi_wp2_with fail
    go_end0
    exact ⟨⟨_, rfl⟩, ⟨hc, hz, v, hbx, hrow⟩, KeepsOthers.refl _, Frm.refl _ _⟩
end Go.Proofs.Ytlmmmibnnbceeaa
