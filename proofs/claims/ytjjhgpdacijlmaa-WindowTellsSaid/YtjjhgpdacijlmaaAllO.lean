/-
  A ring of texts: all that is in it, told to a loop's body.
-/
import Derived.Test.YtjjhgpdacijlmaaSeqO
namespace Go.Proofs.Ytjjhgpdacijlmaa
open Go.RowKit Go.Shelf
set_option linter.unusedVariables false
set_option linter.unusedSimpArgs false
attribute [local go_sem] Oper.semAt_some

theorem frm_grownS {A B : World} {row : Option Nat} (h : A.grownBy B row) : Frm (fun k => row = some k) A B := ⟨h.os, h.tape, h.output, h.size, fun k hk hx => h.block k hk fun e => hx e.symm⟩
theorem ownFrom_frmS {β : Type} {B : Nat} {S : Nat → Prop} {w : World} (hS : ∀ k, B ≤ k → S k) : OwnFrom B (fun (_ : β) W => Frm S w W) :=
  fun _ W W' row hs hg hr => hs.trans ((frm_grownS hg).mono fun k _ e => hS k (hr k e).1)
theorem uptoS_prefix {pre : List Int} {n : Nat} (h : pre <+: uptoS n) : pre = uptoS pre.length ∧ pre.length ≤ n := by
  have hl := h.length_le
  rw [uptoS_len] at hl
  refine ⟨List.ext_getElem (by rw [uptoS_len]) fun i h1 h2 => ?_, hl⟩
  rw [h.getElem h1]
  simp [uptoS]
/-- of the cells that lay ahead of D all but c1 lie as they lay; of those behind all but the rows of T -/
structure KC (D c1 : Nat) (T : TypeId) (A B : World) : Prop where
  os : B.os = A.os
  tape : B.tape = A.tape
  output : B.output = A.output
  size : A.heap.size ≤ B.heap.size
  old : ∀ (k : Nat) (o : Obj), k < D → k ≠ c1 → A.heap[k]? = some o → o.isCells = true → B.heap[k]? = some o
  new : ∀ (k : Nat) (vs : Array Value) (t : TypeId) (z : Nat × Nat), D ≤ k → t ≠ T → A.heap[k]? = some (.cells vs t z) → B.heap[k]? = some (.cells vs t z)
theorem KC.refl (D c1 : Nat) (T : TypeId) (A : World) : KC D c1 T A A := ⟨rfl, rfl, rfl, Nat.le_refl _, fun _ _ _ _ h _ => h, fun _ _ _ _ _ _ h => h⟩
theorem KC.trans {D c1 : Nat} {T : TypeId} {A B C : World} (h : KC D c1 T A B) (k : KC D c1 T B C) : KC D c1 T A C :=
  ⟨k.os.trans h.os, k.tape.trans h.tape, k.output.trans h.output, Nat.le_trans h.size k.size, fun i o a b c d => k.old i o a b (h.old i o a b c d) d, fun i vs t z a b c => k.new i vs t z a b (h.new i vs t z a b c)⟩
theorem KC.drewN {D c1 : Nat} {T : TypeId} (A : World) (m : Nat) : KC D c1 T A (A.drewN m) := ⟨rfl, rfl, rfl, Nat.le_refl _, fun _ _ _ _ h _ => h, fun _ _ _ _ _ _ h => h⟩
theorem KC.putObj {D c1 : Nat} {T : TypeId} {A : World} {l : Nat} {o : Obj} (o' : Obj) (h : A.heap[l]? = some o) (ho : o.isCells = false) : KC D c1 T A (A.putObj l o') :=
  ⟨rfl, rfl, rfl, by simp, fun k x _ _ hx hc => (World.putObj_heap_other (fun e => by subst e; rw [h] at hx; cases hx; rw [ho] at hc; cases hc)).trans hx,
    fun k vs t z _ _ hx => (World.putObj_heap_other (fun e => by subst e; rw [h] at hx; cases hx; cases ho)).trans hx⟩
theorem frm_round {D c1 l N0 : Nat} {T t0 t1 : TypeId} {A B : World} {v0 v1 : Array Value} {z0 z1 : Nat × Nat} (h : KC D c1 T A B) (hb : KB 0 l A B) (h0 : A.heap[N0]? = some (.cells v0 t0 z0)) (h1 : A.heap[N0 + 1]? = some (.cells v1 t1 z1)) (ht0 : t0 ≠ T) (ht1 : t1 ≠ T) :
    Frm (fun k => k = c1 ∨ k = l ∨ (D ≤ k ∧ k ≠ N0 ∧ k ≠ N0 + 1)) A B := by
  refine ⟨h.os, h.tape, h.output, h.size, fun k hk hs => ?_⟩
  obtain ⟨o, ho⟩ : ∃ o, A.heap[k]? = some o := ⟨_, Array.getElem?_eq_getElem hk⟩
  simp only [not_or, not_and] at hs
  obtain ⟨n1, n2, n3⟩ := hs
  rw [ho]
  cases hc : o.isCells with
  | false => exact hb k o (Nat.zero_le _) n2 ho hc
  | true =>
    by_cases hd : D ≤ k
    · by_cases hk0 : k = N0
      · subst hk0; rw [h0] at ho; cases ho; exact h.new _ _ _ _ hd ht0 h0
      · have hk1 : k = N0 + 1 := Classical.not_not.1 (n3 hd hk0)
        subst hk1; rw [h1] at ho; cases ho; exact h.new _ _ _ _ hd ht1 h1
    · exact h.old k o (by omega) n1 ho hc
/-- what is told: each text and its place -/
def toldS (L : List ByteArray) (x : Int) : Int × ByteArray := (x, L.getD x.toNat ⟨#[]⟩)
def tellS (L : List ByteArray) : List (Int × ByteArray) := (uptoS L.length).map (toldS L)
theorem RoundIn.anyO {l2 m m' : Nat} {P : Program} {l : Nat} {f : FuncId} {tmps : Array Value} {assign body : Code} {w : World} {R : Ending → World → Prop}
    (h : RoundIn Fence.wide m P l f tmps assign body w R) : RoundIn (Fence.wide.inRound l2) m' P l f tmps assign body w R :=
  ⟨h.1, fun c cs _ => h.2 c cs (fun d hd => by cases hd)⟩
theorem j_draw {α : Type} {B : Nat} {J : List α → World → Prop} (hJ : OwnFrom B J) {pre : List α} {W : World} (h : J pre W) (m : Nat) : J pre (W.drewN m) :=
  hJ pre _ _ none h ⟨rfl, rfl, rfl, Nat.le_refl _, fun _ _ _ => rfl⟩ (fun r e => by cases e)
set_option maxRecDepth 100000 in
set_option maxHeartbeats 3200000 in
theorem all1S_in (n : Nat) (hn : 4 ≤ n) (l D c1 r g fr N P : Nat) (C : List ByteArray) (J Jx : List (Int × ByteArray) → World → Prop) (W : World) (hl : l < W.heap.size) (hDl : D ≤ l) (hcD : c1 < D)
    (hJ : OwnFrom W.heap.size J) (hJx : OwnFrom W.heap.size Jx)
    (hY : ∀ pre (x : Int × ByteArray) W1, J pre W1 → pre.length < N → YieldAt Fence.wide (n - 1) Try.prog l #[.int .i64 x.1, .string x.2] W1 fun e W' =>
      (e = .returned (.bool true) ∧ J (pre ++ [x]) W' ∧ KC D c1 41 W1 W' ∧ KB 0 l W1 W') ∨ (e = .returned (.bool false) ∧ Jx (pre ++ [x]) W' ∧ KB 0 l W1 W'))
    (hR : RGS W r g fr N C) (hP : W.cell? ⟨P, 0, none⟩ = some (.pointer (some ⟨r, 0, none⟩))) (hrD : r < D) (hgD : g < D) (hPD : P < D) (hrc : r ≠ c1) (hgc : g ≠ c1) (hPc : P ≠ c1) (h0 : J [] W) :
    CallsIn Fence.wide n Try.prog 27 #[.func (.yield l) #[] #[], .pointer (some ⟨P, 0, none⟩)] W fun e W' => (∃ v, e = .returned v) ∧
      ((∃ ys, ys = tellS (LS C fr N) ∧ J ys W') ∨ (∃ pre, pre <+: tellS (LS C fr N) ∧ Jx pre W')) := by
  have h1 : 1 ≤ n := by omega
  have h1n : 1 ≤ n - 1 := by omega
  have h2n : 1 ≤ n - 1 - 1 := by omega
  have h3n : 1 ≤ n - 1 - 1 - 1 := by omega
  refine callsIn_of_wp_marks Try.func27 rfl trivial ?_ rfl
  simp only [Try.ntmps27, List.size_toArray, List.length_cons, List.length_nil, Nat.reduceAdd, Nat.reduceSub, Array.replicate_succ, Array.replicate_zero, List.push_toArray, List.append_toArray, List.nil_append, List.cons_append]
  have hfr := Lib.hid (fun w => (callsIn_wide (n := n - 1)).2 (placesS_fn (some ⟨r, 0, none⟩) w))
  have hP1 := bkeep ((Below.refl _ W).alloc (Nat.le_refl _) (.cells #[.func (.yield l) #[] #[]] 57)) hP
  gi_wp2_with fail
  refine ⟨trivial, ?_⟩
  refine (hfr.out _).mono ?_
  rintro e w1 ⟨rfl, rfl⟩
  gi_wp2_with fail
  have hb0 : Below W.heap.size W ((W.alloc (.cells #[.func (.yield l) #[] #[]] 57)).alloc (.cells #[.pointer (some ⟨r, 0, none⟩)] 49)) := ((Below.refl _ W).alloc (Nat.le_refl _) _).alloc (by simp) _
  have h00 : J [] ((W.alloc (.cells #[.func (.yield l) #[] #[]] 57)).alloc (.cells #[.pointer (some ⟨r, 0, none⟩)] 49)) := hJ.alloc _ (hJ.alloc _ h0)
  have hB0 : ((W.alloc (.cells #[.func (.yield l) #[] #[]] 57)).alloc (.cells #[.pointer (some ⟨r, 0, none⟩)] 49)).heap[W.heap.size]? = some (.cells #[.func (.yield l) #[] #[]] 57 (0, 0)) :=
    (Below.heap_alloc _ _ _ (by simp)).trans (World.alloc_heap_new W _)
  have hB1 : ((W.alloc (.cells #[.func (.yield l) #[] #[]] 57)).alloc (.cells #[.pointer (some ⟨r, 0, none⟩)] 49)).heap[W.heap.size + 1]? = some (.cells #[.pointer (some ⟨r, 0, none⟩)] 49 (0, 0)) := by
    have := World.alloc_heap_new (W.alloc (.cells #[.func (.yield l) #[] #[]] 57)) (.cells #[.pointer (some ⟨r, 0, none⟩)] 49)
    rwa [World.size_alloc] at this
  have hz0 : ((W.alloc (.cells #[.func (.yield l) #[] #[]] 57)).alloc (.cells #[.pointer (some ⟨r, 0, none⟩)] 49)).heap.size = W.heap.size + 2 := by simp
  clear hP1
  have hR0 := hR.below hb0
  have hP0 := bkeep hb0 hP
  obtain ⟨N0, hN0⟩ : ∃ N0, W.heap.size = N0 := ⟨_, rfl⟩
  generalize ((W.alloc (.cells #[.func (.yield l) #[] #[]] 57)).alloc (.cells #[.pointer (some ⟨r, 0, none⟩)] 49)) = W0 at *
  rw [hN0] at hB0 hB1 hz0 hJ hJx hl
  simp only [hN0, World.size_alloc]
  have hcQ : W0.cell? ⟨N0, 0, none⟩ = some (.func (.yield l) #[] #[]) := by simp [World.cell?, hB0]
  have hcP : W0.cell? ⟨N0 + 1, 0, none⟩ = some (.pointer (some ⟨r, 0, none⟩)) := by simp [World.cell?, hB1]
  obtain ⟨S, hS⟩ : ∃ S : Nat → Prop, S = fun k => k = c1 ∨ k = l ∨ (D ≤ k ∧ k ≠ N0 ∧ k ≠ N0 + 1) := ⟨_, rfl⟩
  have nD : ∀ k, k < D → k ≠ c1 → ¬ S k := fun k a b => by subst hS; exact fun h => h.elim b (fun h => h.elim (fun h => by omega) (fun h => by omega))
  have S2 : ∀ k, N0 + 2 ≤ k → S k := fun k a => by subst hS; exact .inr (.inr ⟨by omega, by omega, by omega⟩)
  have hc0 : ¬ (N0 = c1 ∨ N0 + 1 = c1) := by omega
  have nN0 : ¬ S N0 := by subst hS; exact fun h => h.elim (fun h => hc0 (.inl h)) (fun h => h.elim (fun h => by omega) (fun h => h.2.1 rfl))
  have nN1 : ¬ S (N0 + 1) := by subst hS; exact fun h => h.elim (fun h => hc0 (.inr h)) (fun h => h.elim (fun h => by omega) (fun h => h.2.2 rfl))
  have hst := placesS_stops (n - 1) (by omega) r g fr N (N0 + 1) C S W0 hR0 hcP (nD _ hrD hrc) (nD _ hgD hgc) nN1
  have hLl : (LS C fr N).length = N := rgL_len _ _ _ _
  refine wpIn_range_o rfl h1 (gf := 30) (lb := #[.pointer (some ⟨N0 + 1, 0, none⟩)]) rfl trivial (enters_of Try.func30 (by kernel_rfl) rfl)
    (b := W0.heap.size) (Nat.le_refl _) (SeqO.of hst) (fun h k => h.trans k) (frmK_bS fun k hk => S2 k (by omega)) (Below.refl _ _) (fun _ => rfl)
    (fun pre W => J (pre.map (toldS (LS C fr N))) W ∧ Frm S W0 W)
    (fun pre W => (∀ x ∈ pre, 0 ≤ x ∧ x < (N : Int)) → Jx (pre.map (toldS (LS C fr N))) W)
    (OwnFrom.and (fun k W W' row hs hg hr => hJ _ W W' row hs hg fun r e => ⟨by have := (hr r e).1; omega, (hr r e).2⟩) (ownFrom_frmS fun k hk => S2 k (by omega)))
    (fun pre W W' row hs hg hr => fun hx => hJx _ W W' row (hs hx) hg fun r e => ⟨by have := (hr r e).1; omega, (hr r e).2⟩)
    ⟨h00, Frm.refl _ _⟩
    (fun x => { tmps := #[.func (.yield l) #[] #[], .pointer (some ⟨P, 0, none⟩), .pointer (some ⟨N0, 0, none⟩), .int .i64 x, undef, undef, .pointer (some ⟨r, 0, none⟩), .func (.func 30) #[] #[.pointer (some ⟨N0 + 1, 0, none⟩)], .int .i64 x, undef, undef, undef, undef, undef, undef, undef, undef, undef, undef, undef, undef, undef, undef, undef], defers := [] }) ?assign ?body ?done ?stop
  case assign =>
    intro l x W K hK
    gi_wp2
    exact hK
  case body =>
    rintro l2 pre x V ⟨hJk, hF⟩ hlen
    have hRW := hR0.frm hF (nD _ hrD hrc) (nD _ hgD hgc)
    have hcPW := hF.cell (p := ⟨P, 0, none⟩) (nD P hPD hPc) hP0
    have hcQW := hF.cell (p := ⟨N0, 0, none⟩) nN0 hcQ
    have hBV0 : V.heap[N0]? = some (.cells #[.func (.yield l) #[] #[]] 57 (0, 0)) := (hF.block N0 (by omega) nN0).trans hB0
    have hBV1 : V.heap[N0 + 1]? = some (.cells #[.pointer (some ⟨r, 0, none⟩)] 49 (0, 0)) := (hF.block (N0 + 1) (by omega) nN1).trans hB1
    have hAt := atS_any r g fr N C x V hRW
    by_cases hx : 0 ≤ x ∧ x < N
    · have hv : atVS (LS C fr N) x = .tuple #[Value.string ((LS C fr N)[x.toNat]'(by rw [rgL_len]; omega)), .bool true] := by
        unfold atVS
        rw [dif_pos (by rw [rgL_len]; exact hx)]
      rw [hv] at hAt
      have hAt := Lib.hid hAt
      have hyx : (LS C fr N).getD x.toNat ⟨#[]⟩ = (LS C fr N)[x.toNat]'(by rw [rgL_len]; omega) := by
        rw [List.getD_eq_getElem?_getD, List.getElem?_eq_getElem (by rw [rgL_len]; omega)]; rfl
      have htp : ∀ y, (LS C fr N).getD x.toNat ⟨#[]⟩ = y → (pre ++ [x]).map (toldS (LS C fr N)) = pre.map (toldS (LS C fr N)) ++ [(x, y)] := fun y hy => by rw [List.map_append, ← hy]; rfl
      have htp := htp _ hyx
      have hyk := Lib.hid (fun m => hY _ (x, (LS C fr N)[x.toNat]'(by rw [rgL_len]; omega)) (V.drewN m) (j_draw hJ hJk m) (by rw [List.length_map]; exact hlen))
      clear hv hyx
      generalize (LS C fr N)[x.toNat]'(by rw [rgL_len]; omega) = y at *
      have hfin : ∀ m W2, KC D c1 41 (V.drewN m) W2 → KB 0 l (V.drewN m) W2 → Frm S V W2 := fun m W2 a b => by
        subst hS
        exact ((Frm.refl _ V).drewN m).trans (frm_round a b (A := V.drewN m) hBV0 hBV1 (by decide) (by decide))
      gi_wp2_with (refine ⟨trivial, ?_⟩; gi_at_call 29; refine (CallsIn.inRound l2 (callsIn_wide.2 hAt.out)).mono ?_; rintro e w1 ⟨rfl, m, rfl⟩; obtain ⟨fn, tm, asg, bdy, hy, hRd⟩ := hyk.out m)
      refine (RoundIn.anyO hRd).mono ?_
      rintro e w2 (⟨rfl, hJ2, hK2, hB2⟩ | ⟨rfl, hJ2, hB2⟩)
      · have hfs := hfin m w2 hK2 hB2
        gi_wp2_with fail
        exact ⟨(KF.drewN _ V m).trans (hB2.kf (Nat.zero_le _) (by omega)), hfs, by rw [htp]; exact hJ2, hF.trans hfs⟩
      · gi_wp2_with fail
        exact ⟨(KF.drewN _ V m).trans (hB2.kf (Nat.zero_le _) (by omega)), fun _ => by rw [htp]; exact hJ2⟩
    · have hv : atVS (LS C fr N) x = .tuple #[.string ⟨#[]⟩, .bool false] := by
        unfold atVS
        rw [dif_neg (by rw [rgL_len]; exact hx)]
      rw [hv] at hAt
      have hAt := Lib.hid hAt
      gi_wp2_with (refine ⟨trivial, ?_⟩; gi_at_call 29; refine (CallsIn.inRound l2 (callsIn_wide.2 hAt.out)).mono ?_; rintro e w1 ⟨rfl, m, rfl⟩)
      refine ⟨fun _ h => (by cases h), ?_⟩
      gi_wp2_with fail
      exact ⟨KF.drewN _ V m, fun h => absurd (h x (by simp)) hx⟩
  case done =>
    rintro Dd ys V hD rfl ⟨hJk, hF⟩ hK
    gi_wp2
    refine ⟨by simp, .inl ⟨_, _, rfl, run_takeDeferred hK, ?_⟩⟩
    refine ⟨.tuple #[], ?_, ⟨_, rfl⟩, .inl ⟨_, by unfold tellS; rw [hLl], hJ _ _ _ _ hJk (grownBy_putObj' V Dd _) (fun r e => by cases e; exact ⟨by omega, _, hK, rfl⟩)⟩⟩
    simp [results, Try.f27, go_sem]
  case stop =>
    rintro Dd pre V hD hpre hJk hK
    obtain ⟨he, hk⟩ := uptoS_prefix hpre
    have hJk := hJk (by rw [he]; exact fun x hx => by obtain ⟨i, hi, rfl⟩ := List.mem_map.1 hx; have := List.mem_range.1 hi; omega)
    gi_wp2
    refine ⟨by simp, .inl ⟨_, _, rfl, run_takeDeferred hK, ?_⟩⟩
    refine ⟨.tuple #[], ?_, ⟨_, rfl⟩, .inr ⟨_, by unfold tellS; rw [hLl]; exact hpre.map _, hJx _ _ _ _ hJk (grownBy_putObj' V Dd _) (fun r e => by cases e; exact ⟨by omega, _, hK, rfl⟩)⟩⟩
    simp [results, Try.f27, go_sem]
end Go.Proofs.Ytjjhgpdacijlmaa
