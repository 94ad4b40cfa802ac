/-
  Two windows, one of which tells the other (chapter 27): what holds between two steps.
-/
import Derived.Test.YtjjhgpdacijlmaaWinDoes0
import Derived.Test.YtjjhgpdacijlmaaUnder2
namespace Go.Proofs.Ytjjhgpdacijlmaa
open Go.RowKit
set_option linter.unusedVariables false
set_option linter.unusedSimpArgs false
def RowI (w : World) (B : Nat) (v : Value) (l : List Int) : Prop := w.ownsRow B 3 1 v l.length (l.map (Value.int .i64))
/-- four rows of the call's own, in different blocks -/
structure R4 (w : World) (B : Nat) (vs vt vo vh : Value) (S T : List ByteArray) (O : List U2) (H : List Int) : Prop where
  s : Strs w B vs S
  t : Strs w B vt T
  o : URow w B vo O
  h : RowI w B vh H
  st : Apart vs vt
  so : Apart vs vo
  sh : Apart vs vh
  to : Apart vt vo
  th : Apart vt vh
  oh : Apart vo vh
variable {w w' : World} {B : Nat} {vs vt vo vh : Value} {S T : List ByteArray} {O : List U2} {H : List Int}
theorem R4.frm {X : Nat → Prop} (h : R4 w B vs vt vo vh S T O H) (hf : Frm X w w') (hx : ∀ k, B ≤ k → ¬ X k) : R4 w' B vs vt vo vh S T O H :=
  ⟨ownsRow_frm h.s hf fun g hg => hx g (h.s.lt g hg).1, ownsRow_frm h.t hf fun g hg => hx g (h.t.lt g hg).1, ownsRow_frm h.o hf fun g hg => hx g (World.ownsRow.lt h.o g hg).1, ownsRow_frm h.h hf fun g hg => hx g (World.ownsRow.lt h.h g hg).1, h.st, h.so, h.sh, h.to, h.th, h.oh⟩
theorem R4.below (h : R4 w B vs vt vo vh S T O H) (hb : Below w.heap.size w w') : R4 w' B vs vt vo vh S T O H := h.frm (X := fun _ => False) (.ofBelow hb) fun _ _ => id
theorem R4.app_s (h : R4 w B vs vt vo vh S T O H) {v' : Value} {S' : List ByteArray} (h1 : Strs w' B v' S') (hf : Frm (fun k => some k = vs.ownBlock) w w') (hs : Stay w vs v') : R4 w' B v' vt vo vh S' T O H :=
  ⟨h1, ownsRow_frm h.t hf h.st.frm, ownsRow_frm h.o hf h.so.frm, ownsRow_frm h.h hf h.sh.frm, h.st.stay hs h.t, h.so.stay hs h.o, h.sh.stay hs h.h, h.to, h.th, h.oh⟩
theorem R4.app_t (h : R4 w B vs vt vo vh S T O H) {v' : Value} {T' : List ByteArray} (h1 : Strs w' B v' T') (hf : Frm (fun k => some k = vt.ownBlock) w w') (hs : Stay w vt v') : R4 w' B vs v' vo vh S T' O H :=
  ⟨ownsRow_frm h.s hf h.st.symm.frm, h1, ownsRow_frm h.o hf h.to.frm, ownsRow_frm h.h hf h.th.frm, (h.st.symm.stay hs h.s).symm, h.so, h.sh, h.to.stay hs h.o, h.th.stay hs h.h, h.oh⟩
theorem R4.app_o (h : R4 w B vs vt vo vh S T O H) {v' : Value} {O' : List U2} (h1 : URow w' B v' O') (hf : Frm (fun k => some k = vo.ownBlock) w w') (hs : Stay w vo v') : R4 w' B vs vt v' vh S T O' H :=
  ⟨ownsRow_frm h.s hf h.so.symm.frm, ownsRow_frm h.t hf h.to.symm.frm, h1, ownsRow_frm h.h hf h.oh.frm, h.st, (h.so.symm.stay hs h.s).symm, h.sh, (h.to.symm.stay hs h.t).symm, h.th, h.oh.stay hs h.h⟩
theorem R4.app_h (h : R4 w B vs vt vo vh S T O H) {v' : Value} {H' : List Int} (h1 : RowI w' B v' H') (hf : Frm (fun k => some k = vh.ownBlock) w w') (hs : Stay w vh v') : R4 w' B vs vt vo v' S T O H' :=
  ⟨ownsRow_frm h.s hf h.sh.symm.frm, ownsRow_frm h.t hf h.th.symm.frm, ownsRow_frm h.o hf h.oh.symm.frm, h1, h.st, h.so, (h.sh.symm.stay hs h.s).symm, h.to, (h.th.symm.stay hs h.t).symm, (h.oh.symm.stay hs h.o).symm⟩
/-- one text more -/
theorem wpl_str1 {ops : Array Oper} {rest : List Oper} {o : Oper} {a : Act} {Q : Exit → Act → World → Prop} (hgd : o.guard = none) (s x : Operand) (w : World) (B : Nat) (v : Value) (l : List ByteArray) (y : ByteArray) (hs : a.eval s = v) (hx : a.eval x = .slice (some ⟨w.heap.size, 0, none⟩) 1 1)
    (hown : Strs w B v l) (hlen : l.length ≤ 100000) (hB : B ≤ w.heap.size)
    (h : ∀ v' w', Strs w' B v' (l ++ [y]) → Frm (fun k => some k = v.ownBlock) (w.alloc (.cells #[.string y] 9)) w' → Stay (w.alloc (.cells #[.string y] 9)) v v' → wpList Try.prog ops Q rest (a.put o.dst v') w')
    (ho : o.op = .call { callee := .builtin .append, args := #[s, x], argTypes := #[27, 27] } := by rfl) (ht : o.type = 27 := by rfl) : wpList Try.prog ops Q (o :: rest) a (w.alloc (.cells #[.string y] 9)) := by
  have hA := (Below.refl w.heap.size w).alloc (Nat.le_refl _) (.cells #[.string y] 9)
  have hown2 := ownsRow_frm hown (Frm.ofBelow (S := fun _ => False) hA) (fun _ _ => id)
  refine wpl_own2 hgd s x 27 ho B 9 (.string ByteArray.empty) 1 16 Try.underlying27 strs_info rfl (by decide) v l.length (l.map Value.string) hs hown2 ⟨w.heap.size, 0, none⟩ 1 1 [.string y] hx rfl ?_ ?_ (by unfold maxLen; omega) (by omega) (by simp; omega) ?_
  · intro j u hj
    match j, hj with
    | 0, hj => simp at hj; subst hj; simp [go_sem, Addr.add]
    | j + 1, hj => simp at hj
  · intro u hu; simp at hu; subst hu; rfl
  · intro v' w' h1 h2 h3
    refine h v' w' ?_ h2 h3
    unfold Strs
    rw [List.length_append, List.map_append]; exact h1
theorem ints_info : (Try.prog.info? 3).map (fun i => (i.zero, i.size, i.bytes)) = some (some (.int .i64 0), 1, 8) := by kernel_rfl
/-- one number more -/
theorem wpl_int1 {ops : Array Oper} {rest : List Oper} {o : Oper} {a : Act} {Q : Exit → Act → World → Prop} (hgd : o.guard = none) (s x : Operand) (w : World) (B : Nat) (v : Value) (l : List Int) (y : Int) (hs : a.eval s = v) (hx : a.eval x = .slice (some ⟨w.heap.size, 0, none⟩) 1 1)
    (hown : RowI w B v l) (hlen : l.length ≤ 100000) (hB : B ≤ w.heap.size)
    (h : ∀ v' w', RowI w' B v' (l ++ [y]) → Frm (fun k => some k = v.ownBlock) (w.alloc (.cells #[.int .i64 y] 3)) w' → Stay (w.alloc (.cells #[.int .i64 y] 3)) v v' → wpList Try.prog ops Q rest (a.put o.dst v') w')
    (ho : o.op = .call { callee := .builtin .append, args := #[s, x], argTypes := #[44, 44] } := by rfl) (ht : o.type = 44 := by rfl) : wpList Try.prog ops Q (o :: rest) a (w.alloc (.cells #[.int .i64 y] 3)) := by
  have hA := (Below.refl w.heap.size w).alloc (Nat.le_refl _) (.cells #[.int .i64 y] 3)
  have hown2 := ownsRow_frm hown (Frm.ofBelow (S := fun _ => False) hA) (fun _ _ => id)
  refine wpl_own2 hgd s x 44 ho B 3 (.int .i64 0) 1 8 Try.underlying44 ints_info rfl (by decide) v l.length (l.map (Value.int .i64)) hs hown2 ⟨w.heap.size, 0, none⟩ 1 1 [.int .i64 y] hx rfl ?_ ?_ (by unfold maxLen; omega) (by omega) (by simp; omega) ?_
  · intro j u hj
    match j, hj with
    | 0, hj => simp at hj; subst hj; simp [go_sem, Addr.add]
    | j + 1, hj => simp at hj
  · intro u hu; simp at hu; subst hu; rfl
  · intro v' w' h1 h2 h3
    refine h v' w' ?_ h2 h3
    unfold RowI
    rw [List.length_append, List.map_append]; exact h1
def BG (n : Nat) (w : World) (i : Value) (wr : World) : Prop := ∃ j : Nat, j ≤ n ∧ i = .int .i64 j ∧ ∃ m, wr = w.drewN m
/-- the first ones of a list begin it -/
theorem begins_yes {w : World} {B1 B2 : Nat} {v1 v2 : Value} {S : List ByteArray} {t : Nat} (h1 : TX w B1 v1 S) (h2 : TX w B2 v2 (S.take t)) (hm : S.length ≤ 1000000) : Calls Try.prog 16 #[v1, v2] w fun e w' => e = .returned (.bool true) ∧ ∃ m, w' = w.drewN m := by
  have hl : (S.take t).length ≤ S.length := by rw [List.length_take]; omega
  rcases h2 with ⟨rfl, h20⟩ | ⟨g2, o2, c2, rfl, _, _, hc2⟩
  · obtain ⟨a1, d1, rfl⟩ := h1.len
    go_enter Try.func16, Try.ntmps16
    go_wp2_with fail
    refine wp_loop_rounds 1 ?_
    rw [rounds_succ]
    go_wp2
    go_ret
    exact ⟨rfl, 0, rfl⟩
  · obtain ⟨n, hn⟩ : ∃ n, (S.take t).length = n := ⟨_, rfl⟩
    rw [hn] at hl ⊢
    rcases h1 with ⟨rfl, h10⟩ | ⟨g1, o1, c1, rfl, _, _, hc1⟩
    · have hn0 : n = 0 := by rw [h10] at hl; simp at hl; omega
      subst hn0
      go_enter Try.func16, Try.ntmps16
      go_wp2_with fail
      refine wp_loop_rounds 1 ?_
      rw [rounds_succ]
      go_wp2
      go_ret
      exact ⟨rfl, 0, rfl⟩
    · have HC1 := Lib.hid hc1
      have HC2 := Lib.hid hc2
      have HN := Lib.hid hn
      have hd1 : ¬ ((S.length : Int) < (n : Int)) := by omega
      clear hc1 hc2 hn
      go_enter Try.func16, Try.ntmps16
      go_wp2_with fail
      go_loopw [5] (fun i wr => BG n w i wr) (fun i _ => n - (intOf i).toNat)
      case atStart => exact ⟨0, Nat.zero_le _, rfl, 0, rfl⟩
      case round =>
        obtain ⟨j, hj, rfl, m, rfl⟩ := hrel
        by_cases hjl : j < n
        · have p1 := HC1.out j (by omega)
          have p2 := HC2.out j (by rw [HN.out]; exact hjl)
          rw [List.getElem_take] at p2
          generalize S[j] = y at *
          have hjI : (j : Int) < (n : Int) := by omega
          have hjS : (j : Int) < (S.length : Int) := by omega
          have hnext : ∀ m', BG n w (.int .i64 ((j : Int) + 1)) (w.drewN m') := fun m' => ⟨j + 1, by omega, by go_num, m', rfl⟩
          have hnext := Lib.hid hnext
          go_wp2_with fail
          go_quiet (fail)
          go_wp2
          exact ⟨hnext.out _, by simp [intOf]; omega⟩
        · have hjI : ¬ ((j : Int) < (n : Int)) := by omega
          go_wp2
          go_ret
          exact ⟨rfl, m, rfl⟩
end Go.Proofs.Ytjjhgpdacijlmaa
