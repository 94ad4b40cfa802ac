/-
  Runs of places (chapter 41): all of them.
-/
import Derived.Test.YtlmmmibnnbceeaaDoorRuns2
import Derived.Test.YtlmmmibnnbceeaaDoorOwn
import Derived.RangeFuncBox
import Derived.Laws.OwnMore
namespace Go.Proofs.YtlmmmibnnbceeaaDoor
open Go.RowKit Go.Shelf
set_option linter.unusedVariables false
set_option linter.unusedSimpArgs false
attribute [local go_sem] Oper.semAt_some

def flatS (l : List (Nat × Nat)) : List Value := l.flatMap fun x => [.int .i64 x.1, .int .i64 x.2]
theorem flatS_len (l : List (Nat × Nat)) : (flatS l).length = l.length * 2 := by
  unfold flatS
  induction l with
  | nil => rfl
  | cons a l ih => rw [List.flatMap_cons, List.length_append, ih]; simp; omega
theorem flatS_snoc (l : List (Nat × Nat)) (x : Nat × Nat) : flatS (l ++ [x]) = flatS l ++ [.int .i64 x.1, .int .i64 x.2] := by
  unfold flatS; rw [List.flatMap_append]; rfl
/-- v lists the runs l, in a row of its own behind block B -/
def SpRow (W : World) (B : Nat) (v : Value) (l : List (Nat × Nat)) : Prop := W.ownsRow B 38 2 v l.length (flatS l)
theorem span_info : (Tryd.prog.info? 38).map (fun i => (i.zero, i.size, i.bytes)) = some (some (.agg #[.int .i64 0, .int .i64 0]), 2, 16) := by kernel_rfl
theorem frm_grown {A B : World} {row : Option Nat} (h : A.grownBy B row) : Frm (fun k => row = some k) A B := ⟨h.os, h.tape, h.output, h.size, fun k hk hx => h.block k hk fun e => hx e.symm⟩
theorem ownFrom_frmA {β : Type} {B : Nat} {S : Nat → Prop} {w : World} (hS : ∀ k, B ≤ k → S k) : OwnFrom B (fun (_ : β) W => Frm S w W) :=
  fun _ W W' row hs hg hr => hs.trans ((frm_grown hg).mono fun k _ e => hS k (hr k e).1)
theorem frmK_bA {S : Nat → Prop} {w : World} (hS : ∀ k, w.heap.size ≤ k → S k) (W : World) (l : Nat) (o o' : Obj) (hl : w.heap.size ≤ l) (h : W.heap[l]? = some o) (_ : o.isCells = false) (_ : o.isWalk = false) : Frm S W (W.putObj l o') :=
  ⟨rfl, rfl, rfl, by simp, fun k hk hx => World.putObj_heap_other (fun e => hx (by subst e; exact hS _ hl))⟩
/-- the invariant between two rounds -/
def AI (N n : Nat) (W0 : World) (pre : List (SpN n)) (W : World) : Prop := (∃ v, Boxed W N 32 v ∧ SpRow W (N + 3) v (pre.map Subtype.val) ∧ True) ∧ Frm (fun k => k = N ∨ N + 3 ≤ k) W0 W
theorem AI_own (N n : Nat) (W0 : World) : OwnFrom (N + 3) (AI N n W0) :=
  OwnFrom.and ((holdsRow_own (N + 3) N 32 38 2 (fun (pre : List (SpN n)) => (pre.map Subtype.val).length) (fun pre => flatS (pre.map Subtype.val)) (fun _ _ => True)).from _) (ownFrom_frmA fun k hk => .inr hk)
/-- a round's own variable -/
def AX (N n : Nat) (A : Value → Value → Act) (x : SpN n) (a : Act) (W : World) : Prop := ∃ b, N + 3 ≤ b ∧ a = A (.pointer (some ⟨b, 0, none⟩)) (spV x.1) ∧ W.cell? ⟨b, 0, none⟩ = some (.int .i64 x.1.1) ∧ W.cell? ⟨b, 1, none⟩ = some (.int .i64 x.1.2)
theorem AX_own (N n : Nat) (A : Value → Value → Act) (x : SpN n) (a : Act) (B : Nat) : OwnFrom B (fun (_ : Unit) W => AX N n A x a W) :=
  Own.from (fun s X Y row ⟨b, h1, h2, h3, h4⟩ hg hr => ⟨b, h1, h2, cell_kept h3 hg hr, cell_kept h4 hg hr⟩) _
theorem below_frmN {N : Nat} {a b c : World} {S : Nat → Prop} (h : Below N a b) (hN : N ≤ b.heap.size) (hf : Frm S b c) (hs : ∀ k, S k → N ≤ k) : Below N a c :=
  ⟨hf.os.trans h.os, hf.tape.trans h.tape, hf.output.trans h.output, Nat.le_trans h.size hf.size, fun k hk => (hf.block k (by omega) (fun hx => by have := hs k hx; omega)).trans (h.block k hk)⟩
theorem appS_in {F : Fence} {m : Nat} {ops : Array Oper} {rest : List Oper} {o : Oper} {a : Act} {Q : Exit → Act → World → Prop} (hgd : o.guard = none) (s x : Operand)
    (ho : o.op = .call { callee := .builtin .append, args := #[s, x], argTypes := #[32, 32] })
    (w : World) (B N : Nat) (v : Value) (l : List (Nat × Nat)) (x1 x2 : Nat) (hs : a.eval s = v) (hx : a.eval x = .slice (some ⟨w.heap.size, 0, none⟩) 1 1)
    (hbx : Boxed w N 32 v) (hrow : SpRow w B v l) (hlen : l.length ≤ 1000001) (hB : B ≤ w.heap.size) (hN : N < B)
    (h : ∀ v' w', Boxed w' N 32 v → (∃ g c, v' = .slice (some ⟨g, 0, none⟩) (l.length + 1) c) → Boxed (w'.setCell ⟨N, 0, none⟩ v') N 32 v' → SpRow (w'.setCell ⟨N, 0, none⟩ v') B v' (l ++ [(x1, x2)]) → KeepsOthers w (w'.setCell ⟨N, 0, none⟩ v') → Frm (fun k => k = N ∨ B ≤ k) w (w'.setCell ⟨N, 0, none⟩ v') → wpListIn F m Tryd.prog ops Q rest (a.put o.dst v') w') :
    wpListIn F m Tryd.prog ops Q (o :: rest) a (w.alloc (.cells #[.int .i64 x1, .int .i64 x2] 38)) := by
  obtain ⟨i, hi, hzz⟩ := Option.map_eq_some_iff.1 span_info
  simp only [Prod.mk.injEq] at hzz
  obtain ⟨hz, hsz, hby⟩ := hzz
  have hrow' : w.ownsRow B 38 2 v l.length (flatS l) := hrow
  refine wpListIn_append_own _ hgd s x 32 ho B 38 i (.agg #[.int .i64 0, .int .i64 0]) 2 16 Tryd.underlying32 hi hz hsz hby rfl (by decide) v l.length (flatS l) hs (hrow'.alloc _) ⟨w.heap.size, 0, none⟩ 1 1 [.int .i64 x1, .int .i64 x2] hx rfl ?_ ?_ ?_ ?_ ?_ ?_
  · intro j u hj
    match j, hj with
    | 0, hj => simp at hj; subst hj; simp [go_sem, Addr.add]
    | 1, hj => simp at hj; subst hj; simp [go_sem, Addr.add]
    | j + 2, hj => simp at hj
  · intro u hu; simp at hu; rcases hu with rfl | rfl <;> rfl
  · unfold maxLen; omega
  · omega
  · simp; omega
  · intro v' w' h1 h2 _
    have h1' : w'.ownsRow B 38 2 v' (l ++ [(x1, x2)]).length (flatS (l ++ [(x1, x2)])) := by
      have e1 : (l ++ [(x1, x2)]).length = l.length + 1 := by simp
      rw [e1, flatS_snoc]; exact h1
    obtain ⟨g, c, hv'⟩ := ownsRow_succ h1
    have hap := Boxed.appended (n₀ := 0) hbx (by decide) (ownsRow_mono hrow' (Nat.zero_le _)) (Nat.zero_le _) (Nat.zero_le _) (ownsRow_mono h1' (Nat.zero_le _)) h2
    have hg : v'.ownBlock = some g := by rw [hv']; rfl
    have hgB := World.ownsRow.lt h1' g hg
    refine h v' w' hap.1 ⟨g, c, hv'⟩ hap.2.1 ?_ hap.2.2.2.1 ?_
    · exact h1'.kept (grownBy_setCell' w' N v') (.inr (by rw [hg]; intro e; cases e; omega))
    · refine (((Frm.refl _ w).alloc _).trans ((frm_grown h2).mono fun k _ e => .inr (World.ownsRow.lt hrow' k e).1)).trans ((Frm.one w' N 0 v').mono fun k _ e => .inl e)
set_option maxRecDepth 100000 in
set_option maxHeartbeats 3200000 in
theorem allS_any (n : Nat) (hn : n ≤ 1000000) (t1 t2 t3 : ByteArray) (q1 q2 q3 : Nat) (p : Nat → Bool) (E : World → Prop) (w : World)
    (hE : ∀ A B, E A → Frm (fun k => w.heap.size ≤ k) A B → E B) (hE0 : E w)
    (hc : ∀ W' (i : Nat), E W' → i < n → Calls Tryd.prog 28 ((#[] ++ #[.int .i64 i]) ++ #[.pointer (some ⟨q1, 0, none⟩), .pointer (some ⟨q2, 0, none⟩), .pointer (some ⟨q3, 0, none⟩)]) W' fun e W'' => e = .returned (.bool (p i)) ∧ Below W'.heap.size W' W'') :
    Calls Tryd.prog 26 #[.int .i64 n, .func (.func 28) #[] #[.pointer (some ⟨q1, 0, none⟩), .pointer (some ⟨q2, 0, none⟩), .pointer (some ⟨q3, 0, none⟩)]] w fun e w' => (∃ v B, e = .returned v ∧ w.heap.size ≤ B ∧ SpRow w' B v (rs p n)) ∧ Below w.heap.size w w' := by
  refine (callsIn_wide (n := 8)).1 ?_
  have h1 : 1 ≤ 8 := by decide
  refine callsIn_of_wp_marks Tryd.func26 rfl trivial ?_ rfl
  simp only [Tryd.ntmps26, List.size_toArray, List.length_cons, List.length_nil, Nat.reduceAdd, Nat.reduceSub, Array.replicate_succ, Array.replicate_zero, List.push_toArray, List.append_toArray, List.nil_append, List.cons_append]
  have hfr := Lib.hid (fun w => (callsIn_wide (n := 7)).2 (runs_fn n (.func 28) #[] #[.pointer (some ⟨q1, 0, none⟩), .pointer (some ⟨q2, 0, none⟩), .pointer (some ⟨q3, 0, none⟩)] w))
  gi_wp2_with fail
  refine ⟨trivial, ?_⟩
  refine (hfr.out _).mono ?_
  rintro e w1 ⟨rfl, rfl⟩
  gi_wp2_with fail
  obtain ⟨W0, hW0⟩ : ∃ W0, ((w.alloc (.cells #[.slice none 0 0] 32)).alloc (.cells #[.int .i64 n] 3)).alloc (.cells #[.func (.func 28) #[] #[.pointer (some ⟨q1, 0, none⟩), .pointer (some ⟨q2, 0, none⟩), .pointer (some ⟨q3, 0, none⟩)]] 54) = W0 := ⟨_, rfl⟩
  have hb0 : Below w.heap.size w W0 := hW0 ▸ (((Below.refl _ w).alloc (Nat.le_refl _) _).alloc (by simp) _).alloc (by simp; omega) _
  have hz0 : W0.heap.size = w.heap.size + 3 := by rw [← hW0]; simp
  have hc1 : W0.cell? ⟨w.heap.size + 1, 0, none⟩ = some (.int .i64 n) := by rw [← hW0]; simp [go_sem]
  have hc2 : W0.cell? ⟨w.heap.size + 2, 0, none⟩ = some (.func (.func 28) #[] #[.pointer (some ⟨q1, 0, none⟩), .pointer (some ⟨q2, 0, none⟩), .pointer (some ⟨q3, 0, none⟩)]) := by rw [← hW0]; simp [go_sem]
  have hbx : Boxed W0 w.heap.size 32 (.slice none 0 0) := by rw [← hW0]; exact ((Boxed.new w _ _).alloc _).alloc _
  have hEW : E W0 := hE _ _ hE0 (.ofBelow hb0)
  rw [hW0]
  clear hW0
  obtain ⟨N, hN⟩ : ∃ N, w.heap.size = N := ⟨_, rfl⟩
  rw [hN] at hb0 hz0 hc1 hc2 hbx hE
  simp only [hN]
  obtain ⟨S, hS⟩ : ∃ S : Nat → Prop, S = fun k => k = N ∨ N + 3 ≤ k := ⟨_, rfl⟩
  have nS1 : ¬ S (N + 1) := by rw [hS]; omega
  have nS2 : ¬ S (N + 2) := by rw [hS]; omega
  have hSE : ∀ A B, E A → Frm S A B → E B := fun A B h hf => hE A B h (hf.mono fun k _ hk => by rw [hS] at hk; rcases hk with hk | hk <;> omega)
  have hst : SeqStopsK Fence.wide 7 Tryd.prog 37 #[.pointer (some ⟨N + 1, 0, none⟩), .pointer (some ⟨N + 2, 0, none⟩)] (fun x : SpN n => #[spV x.1]) (Frm S) (fun ys => ys.map Subtype.val = rs p n) (fun _ => True) (n + 1) W0 :=
    fun l J Jx W hW hJ _ hY h0 => runsS_in 7 (by decide) l n (N + 1) (N + 2) hn t1 t2 t3 q1 q2 q3 p S E J Jx W hY hJ (bkeep hW hc1) (bkeep hW hc2) nS1 nS2 hSE (hSE _ _ hEW (.ofBelow hW)) hc h0
  have h00 : AI N n W0 [] W0 := ⟨⟨_, hbx, ⟨rfl, .inl ⟨rfl, rfl⟩⟩, trivial⟩, Frm.refl _ _⟩
  obtain ⟨i, hi, hzz⟩ := Option.map_eq_some_iff.1 span_info
  simp only [Prod.mk.injEq] at hzz
  obtain ⟨hzi, hsz, hby⟩ := hzz
  clear hc hEW hc1 hc2 hbx
  refine wpIn_rangeFunc_ownH rfl h1 (gf := 37) (lb := #[.pointer (some ⟨N + 1, 0, none⟩), .pointer (some ⟨N + 2, 0, none⟩)]) rfl trivial (enters_of Tryd.func37 (by kernel_rfl) rfl)
    hst (fun h k => h.trans k) (frmK_bA fun k hk => by rw [hS]; exact .inr (by omega)) (Below.refl _ _) (fun _ => rfl)
    (AI N n W0) (fun _ _ _ => False) (hz0 ▸ AI_own N n W0) (fun c => Own.from (fun s A B row hs hg hr => hs) _) h00
    (AX N n (fun pp sv => { tmps := #[.int .i64 n, .func (.func 28) #[] #[.pointer (some ⟨q1, 0, none⟩), .pointer (some ⟨q2, 0, none⟩), .pointer (some ⟨q3, 0, none⟩)], undef, undef, .slice none 0 0, .pointer (some ⟨N, 0, none⟩), pp, .int .i64 n, .func (.func 28) #[] #[.pointer (some ⟨q1, 0, none⟩), .pointer (some ⟨q2, 0, none⟩), .pointer (some ⟨q3, 0, none⟩)], .func (.func 37) #[] #[.pointer (some ⟨N + 1, 0, none⟩), .pointer (some ⟨N + 2, 0, none⟩)], sv, undef, undef, undef, undef, undef], defers := [] }))
    (fun x a' => AX_own _ _ _ _ _ _) ?assign ?body ?done ?stop
  case assign =>
    intro l pre x W K hI hK
    have hWz : N + 3 ≤ W.heap.size := by have := hI.2.size; omega
    simp only [spV]
    gi_wp2_with fail
    refine hK _ _ ((KeepsOthers.alloc W _).from _) (.ofBelow ((Below.refl _ _).alloc (Nat.le_refl _) _)) (AI_own N n W0 pre W _ none hI (World.grownBy_alloc W _ none) (fun r e => by cases e)) ⟨W.heap.size, hWz, ?_, ?_, ?_⟩
    · rfl
    · simp [go_sem]
    · simp [go_sem]
  case body =>
    intro l pre x a' W hl hlr hI hA hlen
    obtain ⟨b, hb, rfl, hc0, hc1⟩ := hA
    obtain ⟨⟨v, hbx, hrow, _⟩, hF⟩ := hI
    have hbc := hbx.cell
    have hbf := hbx.frozen
    have hWz : N + 3 ≤ W.heap.size := by have := hF.size; omega
    have hlen2 : (pre.map Subtype.val).length ≤ 1000001 := by rw [List.length_map]; omega
    have hfin : ∀ (v' : Value) (w' : World), Boxed (w'.setCell ⟨N, 0, none⟩ v') N 32 v' → SpRow (w'.setCell ⟨N, 0, none⟩ v') (N + 3) v' (pre.map Subtype.val ++ [(x.1.1, x.1.2)]) → KeepsOthers W (w'.setCell ⟨N, 0, none⟩ v') → Frm (fun k => k = N ∨ N + 3 ≤ k) W (w'.setCell ⟨N, 0, none⟩ v') →
        KeepsFrom W0.heap.size W (w'.setCell ⟨N, 0, none⟩ v') ∧ Frm S W (w'.setCell ⟨N, 0, none⟩ v') ∧ AI N n W0 (pre ++ [x]) (w'.setCell ⟨N, 0, none⟩ v') := fun v' w' a1 a2 a3 a4 =>
      ⟨a3.from _, hS ▸ a4, ⟨v', a1, by rw [List.map_append]; exact a2, trivial⟩, hF.trans a4⟩
    generalize pre.map Subtype.val = pl at *
    have hfin := Lib.hid hfin
    have hbx := Lib.hid hbx
    have hrow := Lib.hid hrow
    clear hF hst h00
    gi_wp2_with (gi_at_builtin; refine appS_in rfl (.tmp 11) (.tmp 13) rfl W (N + 3) N v _ x.1.1 x.1.2 rfl rfl hbx.out hrow.out hlen2 hWz (by omega) ?_; intro v' w' b1 bv b2 b3 b4 b5; have c1 := b1.cell; have c2 := b1.frozen; have d1 := Lib.hid (hfin.out v' w' b2 b3 b4 b5); obtain ⟨g9, c9, rfl⟩ := bv; clear b1 b2 b3 b4 b5)
    exact d1.out
  case done =>
    rintro D xs W hD hxs ⟨⟨v, hbx, hrow, _⟩, hF⟩ hK
    have hbc := hbx.cell
    rw [hxs] at hrow
    have hbel : Below w.heap.size w W := below_frmN (hN ▸ hb0) (by omega) hF (fun k h => by rcases h with h | h <;> omega)
    gi_wp2
    refine ⟨by simp, .inl ⟨_, _, rfl, run_takeDeferred hK, ?_⟩⟩
    refine ⟨v, ?_, ⟨v, N + 3, rfl, by omega, ownsRow_putObj hrow _ hK rfl⟩, ?_⟩
    · simp [results, Tryd.f26, go_sem]
    · exact below_frmN hbel (by have := hF.size; omega) (frm_grown (grownBy_putObj' W D _)) (fun k e => by cases e; omega)
  case stop =>
    intro D c pre W hD _ h hK
    exact h.elim
set_option maxRecDepth 100000 in
set_option maxHeartbeats 3200000 in
theorem allC_any (n : Nat) (hn : n ≤ 1000000) (t1 t2 t3 : ByteArray) (q1 q2 q3 : Nat) (p : Nat → Bool) (E : World → Prop) (w : World)
    (hE : ∀ A B, E A → Frm (fun k => w.heap.size ≤ k) A B → E B) (hE0 : E w)
    (hc : ∀ W' (i : Nat), E W' → i < n → Calls Tryd.prog 27 ((#[.agg #[.string t1, .string t2, .string t3]] ++ #[.int .i64 i]) ++ #[]) W' fun e W'' => e = .returned (.bool (p i)) ∧ Below W'.heap.size W' W'') :
    Calls Tryd.prog 26 #[.int .i64 n, .func (.func 27) #[.agg #[.string t1, .string t2, .string t3]] #[]] w fun e w' => (∃ v B, e = .returned v ∧ w.heap.size ≤ B ∧ SpRow w' B v (rs p n)) ∧ Below w.heap.size w w' := by
  refine (callsIn_wide (n := 8)).1 ?_
  have h1 : 1 ≤ 8 := by decide
  refine callsIn_of_wp_marks Tryd.func26 rfl trivial ?_ rfl
  simp only [Tryd.ntmps26, List.size_toArray, List.length_cons, List.length_nil, Nat.reduceAdd, Nat.reduceSub, Array.replicate_succ, Array.replicate_zero, List.push_toArray, List.append_toArray, List.nil_append, List.cons_append]
  have hfr := Lib.hid (fun w => (callsIn_wide (n := 7)).2 (runs_fn n (.func 27) #[.agg #[.string t1, .string t2, .string t3]] #[] w))
  gi_wp2_with fail
  refine ⟨trivial, ?_⟩
  refine (hfr.out _).mono ?_
  rintro e w1 ⟨rfl, rfl⟩
  gi_wp2_with fail
  obtain ⟨W0, hW0⟩ : ∃ W0, ((w.alloc (.cells #[.slice none 0 0] 32)).alloc (.cells #[.int .i64 n] 3)).alloc (.cells #[.func (.func 27) #[.agg #[.string t1, .string t2, .string t3]] #[]] 54) = W0 := ⟨_, rfl⟩
  have hb0 : Below w.heap.size w W0 := hW0 ▸ (((Below.refl _ w).alloc (Nat.le_refl _) _).alloc (by simp) _).alloc (by simp; omega) _
  have hz0 : W0.heap.size = w.heap.size + 3 := by rw [← hW0]; simp
  have hc1 : W0.cell? ⟨w.heap.size + 1, 0, none⟩ = some (.int .i64 n) := by rw [← hW0]; simp [go_sem]
  have hc2 : W0.cell? ⟨w.heap.size + 2, 0, none⟩ = some (.func (.func 27) #[.agg #[.string t1, .string t2, .string t3]] #[]) := by rw [← hW0]; simp [go_sem]
  have hbx : Boxed W0 w.heap.size 32 (.slice none 0 0) := by rw [← hW0]; exact ((Boxed.new w _ _).alloc _).alloc _
  have hEW : E W0 := hE _ _ hE0 (.ofBelow hb0)
  rw [hW0]
  clear hW0
  obtain ⟨N, hN⟩ : ∃ N, w.heap.size = N := ⟨_, rfl⟩
  rw [hN] at hb0 hz0 hc1 hc2 hbx hE
  simp only [hN]
  obtain ⟨S, hS⟩ : ∃ S : Nat → Prop, S = fun k => k = N ∨ N + 3 ≤ k := ⟨_, rfl⟩
  have nS1 : ¬ S (N + 1) := by rw [hS]; omega
  have nS2 : ¬ S (N + 2) := by rw [hS]; omega
  have hSE : ∀ A B, E A → Frm S A B → E B := fun A B h hf => hE A B h (hf.mono fun k _ hk => by rw [hS] at hk; rcases hk with hk | hk <;> omega)
  have hst : SeqStopsK Fence.wide 7 Tryd.prog 37 #[.pointer (some ⟨N + 1, 0, none⟩), .pointer (some ⟨N + 2, 0, none⟩)] (fun x : SpN n => #[spV x.1]) (Frm S) (fun ys => ys.map Subtype.val = rs p n) (fun _ => True) (n + 1) W0 :=
    fun l J Jx W hW hJ _ hY h0 => runsC_in 7 (by decide) l n (N + 1) (N + 2) hn t1 t2 t3 q1 q2 q3 p S E J Jx W hY hJ (bkeep hW hc1) (bkeep hW hc2) nS1 nS2 hSE (hSE _ _ hEW (.ofBelow hW)) hc h0
  have h00 : AI N n W0 [] W0 := ⟨⟨_, hbx, ⟨rfl, .inl ⟨rfl, rfl⟩⟩, trivial⟩, Frm.refl _ _⟩
  obtain ⟨i, hi, hzz⟩ := Option.map_eq_some_iff.1 span_info
  simp only [Prod.mk.injEq] at hzz
  obtain ⟨hzi, hsz, hby⟩ := hzz
  clear hc hEW hc1 hc2 hbx
  refine wpIn_rangeFunc_ownH rfl h1 (gf := 37) (lb := #[.pointer (some ⟨N + 1, 0, none⟩), .pointer (some ⟨N + 2, 0, none⟩)]) rfl trivial (enters_of Tryd.func37 (by kernel_rfl) rfl)
    hst (fun h k => h.trans k) (frmK_bA fun k hk => by rw [hS]; exact .inr (by omega)) (Below.refl _ _) (fun _ => rfl)
    (AI N n W0) (fun _ _ _ => False) (hz0 ▸ AI_own N n W0) (fun c => Own.from (fun s A B row hs hg hr => hs) _) h00
    (AX N n (fun pp sv => { tmps := #[.int .i64 n, .func (.func 27) #[.agg #[.string t1, .string t2, .string t3]] #[], undef, undef, .slice none 0 0, .pointer (some ⟨N, 0, none⟩), pp, .int .i64 n, .func (.func 27) #[.agg #[.string t1, .string t2, .string t3]] #[], .func (.func 37) #[] #[.pointer (some ⟨N + 1, 0, none⟩), .pointer (some ⟨N + 2, 0, none⟩)], sv, undef, undef, undef, undef, undef], defers := [] }))
    (fun x a' => AX_own _ _ _ _ _ _) ?assign ?body ?done ?stop
  case assign =>
    intro l pre x W K hI hK
    have hWz : N + 3 ≤ W.heap.size := by have := hI.2.size; omega
    simp only [spV]
    gi_wp2_with fail
    refine hK _ _ ((KeepsOthers.alloc W _).from _) (.ofBelow ((Below.refl _ _).alloc (Nat.le_refl _) _)) (AI_own N n W0 pre W _ none hI (World.grownBy_alloc W _ none) (fun r e => by cases e)) ⟨W.heap.size, hWz, ?_, ?_, ?_⟩
    · rfl
    · simp [go_sem]
    · simp [go_sem]
  case body =>
    intro l pre x a' W hl hlr hI hA hlen
    obtain ⟨b, hb, rfl, hc0, hc1⟩ := hA
    obtain ⟨⟨v, hbx, hrow, _⟩, hF⟩ := hI
    have hbc := hbx.cell
    have hbf := hbx.frozen
    have hWz : N + 3 ≤ W.heap.size := by have := hF.size; omega
    have hlen2 : (pre.map Subtype.val).length ≤ 1000001 := by rw [List.length_map]; omega
    have hfin : ∀ (v' : Value) (w' : World), Boxed (w'.setCell ⟨N, 0, none⟩ v') N 32 v' → SpRow (w'.setCell ⟨N, 0, none⟩ v') (N + 3) v' (pre.map Subtype.val ++ [(x.1.1, x.1.2)]) → KeepsOthers W (w'.setCell ⟨N, 0, none⟩ v') → Frm (fun k => k = N ∨ N + 3 ≤ k) W (w'.setCell ⟨N, 0, none⟩ v') →
        KeepsFrom W0.heap.size W (w'.setCell ⟨N, 0, none⟩ v') ∧ Frm S W (w'.setCell ⟨N, 0, none⟩ v') ∧ AI N n W0 (pre ++ [x]) (w'.setCell ⟨N, 0, none⟩ v') := fun v' w' a1 a2 a3 a4 =>
      ⟨a3.from _, hS ▸ a4, ⟨v', a1, by rw [List.map_append]; exact a2, trivial⟩, hF.trans a4⟩
    generalize pre.map Subtype.val = pl at *
    have hfin := Lib.hid hfin
    have hbx := Lib.hid hbx
    have hrow := Lib.hid hrow
    clear hF hst h00
    gi_wp2_with (gi_at_builtin; refine appS_in rfl (.tmp 11) (.tmp 13) rfl W (N + 3) N v _ x.1.1 x.1.2 rfl rfl hbx.out hrow.out hlen2 hWz (by omega) ?_; intro v' w' b1 bv b2 b3 b4 b5; have c1 := b1.cell; have c2 := b1.frozen; have d1 := Lib.hid (hfin.out v' w' b2 b3 b4 b5); obtain ⟨g9, c9, rfl⟩ := bv; clear b1 b2 b3 b4 b5)
    exact d1.out
  case done =>
    rintro D xs W hD hxs ⟨⟨v, hbx, hrow, _⟩, hF⟩ hK
    have hbc := hbx.cell
    rw [hxs] at hrow
    have hbel : Below w.heap.size w W := below_frmN (hN ▸ hb0) (by omega) hF (fun k h => by rcases h with h | h <;> omega)
    gi_wp2
    refine ⟨by simp, .inl ⟨_, _, rfl, run_takeDeferred hK, ?_⟩⟩
    refine ⟨v, ?_, ⟨v, N + 3, rfl, by omega, ownsRow_putObj hrow _ hK rfl⟩, ?_⟩
    · simp [results, Tryd.f26, go_sem]
    · exact below_frmN hbel (by have := hF.size; omega) (frm_grown (grownBy_putObj' W D _)) (fun k e => by cases e; omega)
  case stop =>
    intro D c pre W hD _ h hK
    exact h.elim
end Go.Proofs.YtlmmmibnnbceeaaDoor
