/-
  A range over a function whose iterator itself ranges over another one: its word may lean on an invariant of the caller's that abides loops' records too.
-/
import Derived.Test.YtjjhgpdacijlmaaRing4S
namespace Go.Proofs.Ytjjhgpdacijlmaa
open Go.RowKit Go.Shelf
set_option linter.unusedVariables false
set_option linter.unusedSimpArgs false
/-- what is no cells, from block b on, lies as it lay (but for block l) -/
def KF (b : Nat) (A B : World) : Prop := ∀ (k : Nat) (o : Obj), b ≤ k → A.heap[k]? = some o → o.isCells = false → B.heap[k]? = some o
def KB (b l : Nat) (A B : World) : Prop := ∀ (k : Nat) (o : Obj), b ≤ k → k ≠ l → A.heap[k]? = some o → o.isCells = false → B.heap[k]? = some o
theorem KF.refl (b : Nat) (A : World) : KF b A A := fun _ _ _ h _ => h
theorem KF.trans {b : Nat} {A B C : World} (h : KF b A B) (k : KF b B C) : KF b A C := fun i o hi ho hc => k i o hi (h i o hi ho hc) hc
theorem KF.of {b : Nat} {A B : World} (h : KeepsOthers A B) : KF b A B := fun k o _ ho hc => h.same k o ho hc
theorem KF.drewN (b : Nat) (A : World) (m : Nat) : KF b A (A.drewN m) := fun _ _ _ h _ => h
theorem KF.mono {b c : Nat} {A B : World} (h : KF b A B) (hbc : b ≤ c) : KF c A B := fun k o hk ho hc => h k o (Nat.le_trans hbc hk) ho hc
theorem KB.kf {b l c : Nat} {A B : World} (h : KB b l A B) (hb : b ≤ c) (hl : l < c) : KF c A B := fun k o hk ho hc => h k o (by omega) (by omega) ho hc
/-- an iterator's contract: as the shelf's, but of J it is known more: it abides the turn of any block that is no cells and lies behind; and a round turns, of what is no cells, its own record only -/
def SeqO {α : Type} (b : Nat) (F : Fence) (n : Nat) (P : Program) (g : Nat) (lb : Array Value) (encs : α → Array Value) (Kp : World → World → Prop) (S Sp : List α → Prop) (N : Nat) (w : World) : Prop :=
  ∀ (l : Nat) (J Jx : List α → World → Prop) (W : World), Below w.heap.size w W → w.heap.size ≤ l → l < W.heap.size → OwnFrom W.heap.size J → OwnFrom W.heap.size Jx →
    (∀ pre x W1, J pre W1 → pre.length < N → YieldAt F (n - 1) P l (encs x) W1 fun e W' =>
      (e = .returned (.bool true) ∧ J (pre ++ [x]) W' ∧ Kp W1 W' ∧ KB b l W1 W') ∨ (e = .returned (.bool false) ∧ Jx (pre ++ [x]) W' ∧ KB b l W1 W')) →
    J [] W →
    CallsIn F n P g (#[.func (.yield l) #[] #[]] ++ lb) W fun e W' => (∃ v, e = .returned v) ∧ ((∃ xs, S xs ∧ J xs W') ∨ (∃ pre, Sp pre ∧ Jx pre W'))
theorem SeqO.of {α : Type} {b : Nat} {F : Fence} {n : Nat} {P : Program} {g : Nat} {lb : Array Value} {encs : α → Array Value} {Kp : World → World → Prop} {S Sp : List α → Prop} {N : Nat} {w : World}
    (h : SeqStopsK F n P g lb encs Kp S Sp N w) : SeqO b F n P g lb encs Kp S Sp N w := fun l J Jx W hW _ _ hJ hJx hY h0 =>
  h l J Jx W hW (fun s A B row hs hg hr => hJ s A B row hs hg fun r e => by obtain ⟨h1, o, h2, h3⟩ := hr r e; exact ⟨h1, o, h2, Obj.not_cells_of_walk h3⟩)
    (fun s A B row hs hg hr => hJx s A B row hs hg fun r e => by obtain ⟨h1, o, h2, h3⟩ := hr r e; exact ⟨h1, o, h2, Obj.not_cells_of_walk h3⟩)
    (fun pre x W1 hj hl => (hY pre x W1 hj hl).mono fun e W' h => h.imp (fun ⟨h1, h2, h3, _⟩ => ⟨h1, h2, h3⟩) (fun ⟨h1, h2, _⟩ => ⟨h1, h2⟩)) h0
/-- how a round's body may be left -/
def ownPostO {α : Type} (b : Nat) (Kp : World → World → Prop) (I Ix : List α → World → Prop) (xs : List α) (W : World) : Exit → Act → World → Prop
  | .normal, _, W' => KF b W W' ∧ Kp W W' ∧ I xs W'
  | .ret, _, W' => KF b W W' ∧ Ix xs W'
  | _, _, _ => False
/-- a block ahead of the turned one lies as it lay -/
theorem kept_ahead {A B : World} {row : Option Nat} {m k : Nat} {o : Obj} (hg : A.grownBy B row) (hr : ∀ r, row = some r → m ≤ r) (hk : k < m) (h : A.heap[k]? = some o) : B.heap[k]? = some o :=
  (hg.block k (Array.getElem?_eq_some_iff.1 h).1 (fun e => by have := hr k e.symm; omega)).trans h
section
variable {F : Fence} {n : Nat} {P : Program}
/-- what the law's own record looks like -/
def recO (fn : FuncId) (tmps : Array Value) (ps : Array Tmp) (assign body : Code) (D : Nat) (st : LoopState) (pe : Option Code) : Loop := { state := st, pending := pe, fn, tmps, params := ps, assign, body, defers := D }
theorem wpIn_range_o {α : Type} {g : Operand} {ps : Array Tmp} {assign body : Code} {Q : Exit → Act → World → Prop} {a : Act} {w : World}
    (hro : F.round = none) (h1 : 1 ≤ n) {gf : Nat} {lb : Array Value} (hg : a.eval g = .func (.func gf) #[] lb) (hFg : F.fn gf) (eg : ∀ args w, (callFunc gf args).run P w = .ok (.enter gf args) w)
    {encs : α → Array Value} {Kp : World → World → Prop} {S Sp : List α → Prop} {N : Nat} {w0 : World} {b : Nat} (hbd : b ≤ w.heap.size) (hseq : SeqO b F (n - 1) P gf lb encs Kp S Sp N w0)
    (hKt : ∀ {A B C : World}, Kp A B → Kp B C → Kp A C) (hKb : ∀ (W : World) (l : Nat) (o o' : Obj), w.heap.size ≤ l → W.heap[l]? = some o → o.isCells = false → o.isWalk = false → Kp W (W.putObj l o')) (hb0 : Below w0.heap.size w0 w) (hps : ∀ x, (encs x).size = ps.size)
    (I : List α → World → Prop) (Ix : List α → World → Prop) (hI : OwnFrom w.heap.size I) (hIx : OwnFrom w.heap.size Ix) (h0 : I [] w) (a₁ : α → Act)
    (hassign : ∀ (l : Nat) (x : α) (W : World) (K : Act → World → Prop), K (a₁ x) W →
      assign.wpIn (F.inRound l) (n - 1 - 1) P (Exit.then K (fun _ _ _ => False)) { tmps := (ps.zip (encs x)).foldl (fun t (p, v) => t.setIfInBounds p v) a.tmps, defers := [] } W)
    (hbody : ∀ (l : Nat) (pre : List α) (x : α) (W : World), I pre W → pre.length < N → body.wpIn (F.inRound l) (n - 1 - 1) P (ownPostO b Kp I Ix (pre ++ [x]) W) (a₁ x) W)
    (hdone : ∀ (D : Nat) (xs : List α) (W : World), w.heap.size ≤ D → S xs → I xs W → W.heap[D]? = some (.deferred (some [])) → Q .normal { a with defers := { target := .collected D, args := #[] } :: a.defers } W)
    (hstop : ∀ (D : Nat) (pre : List α) (W : World), w.heap.size ≤ D → Sp pre → Ix pre W → W.heap[D]? = some (.deferred (some [])) → Code.ret.wpIn F n P Q { a with defers := { target := .collected D, args := #[] } :: a.defers } W) :
    (Code.rangeFunc g ps assign body).wpIn F n P Q a w := by
  refine wpIn_rangeFunc fun fn hfn => ?_
  rw [hro]
  generalize hd : w.heap.size = d at *
  let R := recO fn a.tmps ps assign body d
  let W1 := (w.alloc (.deferred (some []))).alloc (.loop (R .ready none))
  have hz : W1.heap.size = d + 2 := by simp [W1, hd]
  have hl1 : W1.heap[d + 1]? = some (.loop (R .ready none)) := by
    have := World.alloc_heap_new (w.alloc (.deferred (some []))) (.loop (R .ready none))
    rwa [World.size_alloc, hd] at this
  have hd1 : W1.heap[d]? = some (.deferred (some [])) := by
    have := World.alloc_heap_new w (.deferred (some []))
    rw [hd] at this
    exact (Below.heap_alloc _ _ _ (by simp [hd])).trans this
  have hi1 : I [] W1 := hI.alloc _ (hI.alloc _ h0)
  have hb1 : Below w0.heap.size w0 W1 := hb0.trans ((((Below.refl _ w).alloc (Nat.le_refl _) _).alloc (by simp) _).mono hb0.size)
  have henter := run_enterLoop_outer (P := P) (w := w) fn a.tmps ps assign body
  rw [hd] at henter
  refine ⟨d + 1, [{ target := .collected d, args := #[] }], W1, { target := .fn (.func gf) lb, args := #[.func (.yield (d + 1)) #[] #[]] }, W1, gf, #[.func (.yield (d + 1)) #[] #[]] ++ lb, W1, henter, ?_, ?_, ?_, fun _ => h1, ?_⟩
  · simp only [resolve, hg]; simp [go_sem]
  · intro f' hf'; simp [Target.leads] at hf'; subst hf'; exact hFg
  · simp [invoke, go_sem, eg]
  have hcall := hseq (d + 1) (fun pre W => I pre W ∧ W.heap[d + 1]? = some (.loop (R .ready none)) ∧ W.heap[d]? = some (.deferred (some [])))
    (fun pre W => Ix pre W ∧ W.heap[d + 1]? = some (.loop (R .done (some .ret))) ∧ W.heap[d]? = some (.deferred (some []))) W1 hb1 (by have := hb0.size; omega) (by omega)
    (fun s A B row hs hg' hr => ⟨hI s A B row hs.1 hg' fun r e => ⟨by have := (hr r e).1; omega, (hr r e).2⟩, kept_ahead hg' (fun r e => (hr r e).1) (by omega) hs.2.1, kept_ahead hg' (fun r e => (hr r e).1) (by omega) hs.2.2⟩)
    (fun s A B row hs hg' hr => ⟨hIx s A B row hs.1 hg' fun r e => ⟨by have := (hr r e).1; omega, (hr r e).2⟩, kept_ahead hg' (fun r e => (hr r e).1) (by omega) hs.2.1, kept_ahead hg' (fun r e => (hr r e).1) (by omega) hs.2.2⟩)
    ?round ⟨hi1, hl1, hd1⟩
  case round =>
    rintro pre x W ⟨hi, hl, hk⟩ hlen
    have hlt := (Array.getElem?_eq_some_iff.1 hl).1
    have hy := run_yield (P := P) (args := encs x) hl (hps x)
    refine ⟨fn, _, assign, body, hy, roundIn_of_wpIn hfn (hassign _ x W _ ⟨_, run_beginRound hl rfl, ?_⟩)⟩
    let B := W.putObj (d + 1) (.loop (R .busy none))
    have hlB : B.heap[d + 1]? = some (.loop (R .busy none)) := World.putObj_heap_same hlt
    have hkB : B.heap[d]? = some (.deferred (some [])) := (World.putObj_heap_other (by omega)).trans hk
    have hKB : Kp W B := hKb _ _ _ _ (by omega) hl rfl rfl
    have hWB : ∀ (k : Nat) (o : Obj), k ≠ d + 1 → W.heap[k]? = some o → B.heap[k]? = some o := fun k o hk' ho => (World.putObj_heap_other hk').trans ho
    refine wpIn_mono (hbody _ pre x B (hI.putObj _ hi (by omega) hl rfl) hlen) ?_
    have fin : ∀ (jump : Option Code) (V : World), KF b B V → V.heap[d + 1]? = some (.loop (R .busy none)) ∧ V.heap[d]? = some (.deferred (some [])) ∧ ∀ o', KB b (d + 1) W (V.putObj (d + 1) o') := fun jump V hko =>
      ⟨hko _ _ (by omega) hlB rfl, hko _ _ (by omega) hkB rfl, fun o' k o hk1 hk2 ho hc => (World.putObj_heap_other hk2).trans (hko k o hk1 (hWB k o hk2 ho) hc)⟩
    rintro e a3 V hp
    cases e with
    | normal =>
      obtain ⟨hko, hkp, hiV⟩ := hp
      obtain ⟨hlV, hkV, hB⟩ := fin none V hko
      have hend := run_endRound (P := P) none hlV
      exact ⟨_, _, hend, .inl ⟨rfl, ⟨hI.putObj _ hiV (by omega) hlV rfl, World.putObj_heap_same (Array.getElem?_eq_some_iff.1 hlV).1, (World.putObj_heap_other (by omega)).trans hkV⟩, hKt (hKt hKB hkp) (hKb _ _ _ _ (by omega) hlV rfl rfl), hB _⟩⟩
    | ret =>
      obtain ⟨hko, hiV⟩ := hp
      obtain ⟨hlV, hkV, hB⟩ := fin (some .ret) V hko
      have hend := run_endRound (P := P) (some .ret) hlV
      exact ⟨_, _, hend, .inr ⟨rfl, ⟨hIx.putObj _ hiV (by omega) hlV rfl, World.putObj_heap_same (Array.getElem?_eq_some_iff.1 hlV).1, (World.putObj_heap_other (by omega)).trans hkV⟩, hB _⟩⟩
    | exit id => exact hp.elim
    | goto t => exact hp.elim
    | panic ch => exact hp.elim
    | outgrown => exact hp.elim
  refine hcall.mono ?_
  rintro e W2 ⟨⟨v, rfl⟩, (⟨xs, hS, hi, hl, hk⟩ | ⟨pre, hSp, hi, hl, hk⟩)⟩
  · have hend := run_endLoop (P := P) hl (by simp [R, recO])
    exact ⟨none, _, hend, hdone _ xs _ (Nat.le_refl _) hS (hI.putObj _ hi (by omega) hl rfl) ((World.putObj_heap_other (by omega)).trans hk)⟩
  · have hend := run_endLoop (P := P) hl (by simp [R, recO])
    exact ⟨some .ret, _, hend, hstop _ pre _ (Nat.le_refl _) hSp (hIx.putObj _ hi (by omega) hl rfl) ((World.putObj_heap_other (by omega)).trans hk)⟩
end
end Go.Proofs.Ytjjhgpdacijlmaa
