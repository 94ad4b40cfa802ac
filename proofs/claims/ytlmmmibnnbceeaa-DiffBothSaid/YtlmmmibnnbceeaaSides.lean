/-
  Parts of two versions (chapter 41): which are whose.
-/
import Derived.Test.YtlmmmibnnbceeaaParts2
import Derived.Laws.EntriesVeiled
namespace Go.Proofs.Ytlmmmibnnbceeaa
open Go.RowKit Go.Shelf
set_option linter.unusedVariables false
set_option linter.unusedSimpArgs false
attribute [local go_sem] Oper.semAt_some

theorem pfold_len (l : List (Nat × Nat)) : (pfold l).1.length ≤ 2 * l.length := by
  have key : ∀ (l : List (Nat × Nat)) (s : List P3 × Nat), (l.foldl pstp s).1.length ≤ s.1.length + 2 * l.length := by
    intro l
    induction l with
    | nil => intro s; simp
    | cons x l ih =>
      intro s
      have h1 : ∀ (s : List P3 × Nat) to side, (padd s to side).1.length ≤ s.1.length + 1 := fun s to side => by
        by_cases h : s.2 < to
        · rw [padd_lt h]; simp
        · rw [padd_ge h]; omega
      have h2 := ih (pstp s x)
      have h3 := h1 (padd s x.1 0) x.2 1
      have h4 := h1 s x.1 0
      rw [List.foldl_cons, List.length_cons]
      unfold pstp at *
      omega
  have := key l ([], 0)
  unfold pfold; simpa using this
theorem PK.own {A L B : Nat} {s : List P3 × Nat} {W W' : World} {row : Option Nat} (h : PK W A L B s) (hg : W.grownBy W' row) (hr : ∀ r, row = some r → ∃ o : Obj, W.heap[r]? = some o ∧ o.isCells = false) : PK W' A L B s := by
  obtain ⟨h1, h2, v, h3, h4⟩ := h
  obtain ⟨v', h5, h6, _⟩ := holdsRow_own B L 33 54 3 (fun (_ : Unit) => s.1.length) (fun _ => flatP s.1) (fun _ _ => True) () W W' row ⟨v, h3, h4, trivial⟩ hg hr
  exact ⟨cell_kept h1 hg hr, (frozen_kept h1 hg hr).trans h2, v', h5, h6⟩
/-- the invariant of the loop over the other's runs -/
def SI (G n : Nat) (W0 : World) (pre : List (SpN n)) (W : World) : Prop := PK W (G + 1) G (G + 5) (pfold (pre.map Subtype.val)) ∧ Frm (fun k => k = G ∨ k = G + 1 ∨ G + 5 ≤ k) W0 W
theorem SI_own (G n : Nat) (W0 : World) : OwnFrom (G + 5) (SI G n W0) := by
  intro s W W' row ⟨h1, h5⟩ hg hr
  exact ⟨h1.own hg (fun r e => (hr r e).2), h5.trans ((frm_grown hg).mono fun k _ e => .inr (.inr (hr k e).1))⟩
/-- a round's own variable -/
def AP (n B : Nat) (A : Value → Value → Act) (x : SpN n) (a : Act) (W : World) : Prop := ∃ b, B ≤ b ∧ a = A (.pointer (some ⟨b, 0, none⟩)) (spV x.1) ∧ W.heap[b]? = some (.cells #[.int .i64 x.1.1, .int .i64 x.1.2] 27 (0, 0))
theorem AP_own (n B0 : Nat) (A : Value → Value → Act) (x : SpN n) (a : Act) (B : Nat) : OwnFrom B (fun (_ : Unit) W => AP n B0 A x a W) :=
  Own.from (fun s X Y row ⟨b, h1, h2, h3⟩ hg hr => ⟨b, h1, h2, (grownBy_keeps_cells hg hr h3 rfl).trans h3⟩) _
set_option maxRecDepth 100000 in
set_option maxHeartbeats 3200000 in
theorem sides_eq (o a b : ByteArray) (n : Nat) (ho : o.size = n) (ha : a.size = n) (hb : b.size = n) (hn : n ≤ 1500) (h0 : 0 < n) (hcl : rs (pC o a b) n = []) (w : World) :
    Calls Try.prog 14 #[.string o, .string a, .string b] w fun e w' => (∃ v B, e = .returned (.tuple #[v, .int .i64 0]) ∧ w.heap.size ≤ B ∧ PtRow w' B v (pts (pT o a b) n)) ∧ Below w.heap.size w w' := by
  refine (callsIn_wide (n := 8)).1 ?_
  refine callsIn_of_wp_marks Try.func14 rfl trivial ?_ rfl
  simp only [Try.ntmps14, List.size_toArray, List.length_cons, List.length_nil, Nat.reduceAdd, Nat.reduceSub, Array.replicate_succ, Array.replicate_zero, List.push_toArray, List.append_toArray, List.nil_append, List.cons_append]
  have hck := Lib.hid (fun w => (callsIn_wide (n := 7)).2 (checked_any o a b w))
  have hz0 : szE o a b = 0 := by unfold szE; rw [if_pos ⟨by omega, by omega⟩]
  rw [hz0] at hck
  have hal0 := fun W => (callsIn_wide (n := 7)).2 (allC_any n (by omega) o a b 0 0 0 (pC o a b) (fun _ => True) W (fun _ _ _ _ => trivial) trivial (fun W' i _ hi => clashes_any o a b i W' (by omega) (by omega) (by omega) (by omega)))
  rw [hcl] at hal0
  have hal := Lib.hid hal0
  obtain ⟨W1, hW1⟩ : ∃ W1, w.alloc (.cells #[.string o, .string a, .string b] 48) = W1 := ⟨_, rfl⟩
  have k0 : W1.cell? ⟨w.heap.size, 0, none⟩ = some (.string o) := by rw [← hW1]; simp [go_sem]
  have k1 : W1.cell? ⟨w.heap.size, 1, none⟩ = some (.string a) := by rw [← hW1]; simp [go_sem]
  have k2 : W1.cell? ⟨w.heap.size, 2, none⟩ = some (.string b) := by rw [← hW1]; simp [go_sem]
  have hb0 : Below w.heap.size w W1 := hW1 ▸ (Below.refl _ w).alloc (Nat.le_refl _) _
  have hz1 : W1.heap.size = w.heap.size + 1 := by rw [← hW1]; simp
  have hoe : o ≠ ⟨#[]⟩ := fun e => by rw [e] at ho; have h1 : (0 : Nat) = n := ho; omega
  have e1 : o.toList.isEmpty = false := by
    cases h : o.toList with
    | nil => exact absurd (ba_eq h) hoe
    | cons x l => rfl
  clear hal0 hcl
  gi_wp2_with fail
  refine ⟨trivial, ?_⟩
  refine (hck.out _).mono ?_
  rintro e w1 ⟨rfl, hb1⟩
  have k0 := bkeep hb1 k0
  have k1 := bkeep hb1 k1
  have k2 := bkeep hb1 k2
  gi_wp2_with fail
  refine ⟨trivial, ?_⟩
  refine (hal.out _).mono ?_
  rintro e w2 ⟨⟨v2, B2, rfl, _, hv2⟩, hb2⟩
  obtain ⟨av2, cv2, rfl⟩ := hv2.any
  have hbw := bt (bt hb0 hb1) hb2
  have hzw : w.heap.size + 1 ≤ w2.heap.size := by have := hb1.size; have := hb2.size; omega
  have k0 := bkeep hb2 k0
  have k1 := bkeep hb2 k1
  have k2 := bkeep hb2 k2
  clear hck hal hv2 hb1 hb2 hb0
  have hfr := Lib.hid (fun w => (callsIn_wide (n := 7)).2 (runs_fn n (.func 26) #[.agg #[.string o, .string a, .string b]] #[] w))
  obtain ⟨W3, hW3⟩ : ∃ W3, ((w2.alloc (.cells #[.slice none 0 0] 33)).alloc (.cells #[.int .i64 0] 3)).alloc (.cells #[.nilFunc] 55) = W3 := ⟨_, rfl⟩
  have hb3 : Below w2.heap.size w2 W3 := hW3 ▸ (((Below.refl _ w2).alloc (Nat.le_refl _) _).alloc (by simp) _).alloc (by simp; omega) _
  have c3 : W3.cell? ⟨w2.heap.size + 1 + 1, 0, none⟩ = some .nilFunc := by rw [← hW3]; simp [go_sem]
  have z3 : W3.frozen? ⟨w2.heap.size + 1 + 1, 0, none⟩ = false := by rw [← hW3]; simp [go_sem]
  have cA : W3.cell? ⟨w2.heap.size + 1, 0, none⟩ = some (.int .i64 0) := by rw [← hW3]; simp [go_sem]
  have zA : W3.frozen? ⟨w2.heap.size + 1, 0, none⟩ = false := by rw [← hW3]; simp [go_sem]
  have hbx3 : Boxed W3 w2.heap.size 33 (.slice none 0 0) := by rw [← hW3]; exact ((Boxed.new w2 _ _).alloc _).alloc _
  have hz3 : W3.heap.size = w2.heap.size + 3 := by rw [← hW3]; simp
  obtain ⟨W4, hW4⟩ : ∃ W4, W3.setCell ⟨w2.heap.size + 1 + 1, 0, none⟩ (Value.func (.func 28) #[] #[.pointer (some ⟨w2.heap.size + 1, 0, none⟩), .pointer (some ⟨w2.heap.size, 0, none⟩)]) = W4 := ⟨_, rfl⟩
  have hb4 : Below w2.heap.size w2 W4 := hW4 ▸ hb3.setCell (by show w2.heap.size ≤ w2.heap.size + 1 + 1; omega) _
  have hz4 : W4.heap.size = w2.heap.size + 3 := by rw [← hW4, ← hz3]; exact World.size_setCell _ _ _
  have hf4 : Frm (· = w2.heap.size + 1 + 1) W3 W4 := hW4 ▸ Frm.one W3 _ 0 _
  have c4 : W4.cell? ⟨w2.heap.size + 1 + 1, 0, none⟩ = some (Value.func (.func 28) #[] #[.pointer (some ⟨w2.heap.size + 1, 0, none⟩), .pointer (some ⟨w2.heap.size, 0, none⟩)]) := by rw [← hW4]; exact cell_same c3
  have q0 := bkeep hb4 k0
  have q1 := bkeep hb4 k1
  have q2 := bkeep hb4 k2
  clear k0 k1 k2
  gi_wp2_with fail
  refine ⟨trivial, ?_⟩
  refine (hfr.out _).mono ?_
  rintro e w5 ⟨rfl, rfl⟩
  gi_wp2_with fail
  obtain ⟨G, hG⟩ : ∃ G, w2.heap.size = G := ⟨_, rfl⟩
  obtain ⟨N, hN⟩ : ∃ N, w.heap.size = N := ⟨_, rfl⟩
  rw [hG] at hzw c3 z3 cA zA hbx3 hz3 hb4 hz4 hf4 c4
  rw [hN] at hzw hbw q0 q1 q2
  have pA := hf4.cell (p := ⟨G + 1, 0, none⟩) (by simp) cA
  have pZ := (hf4.frozen (p := ⟨G + 1, 0, none⟩) (by simp) (World.block_lt_of_cell? _ _ cA)).trans zA
  have hbx4 : Boxed W4 G 33 (.slice none 0 0) := (hf4.block G (by omega) (by show ¬ (G = G + 1 + 1); omega)).trans hbx3
  obtain ⟨W0, hW0⟩ : ∃ W0, (W4.alloc (.cells #[.int .i64 n] 3)).alloc (.cells #[.func (.func 26) #[.agg #[.string o, .string a, .string b]] #[]] 44) = W0 := ⟨_, rfl⟩
  have hb5 : Below W4.heap.size W4 W0 := hW0 ▸ ((Below.refl _ _).alloc (Nat.le_refl _) _).alloc (by simp) _
  have hz5 : W0.heap.size = G + 5 := by rw [← hW0]; simp [hz4]
  have hc1 : W0.cell? ⟨G + 3, 0, none⟩ = some (.int .i64 n) := by rw [← hW0, ← hz4]; simp [go_sem]
  have hc2 : W0.cell? ⟨G + 4, 0, none⟩ = some (.func (.func 26) #[.agg #[.string o, .string a, .string b]] #[]) := by rw [← hW0, show G + 4 = W4.heap.size + 1 by omega]; simp [go_sem]
  have pA := bkeep hb5 pA
  have pZ := (hb5.frozen (World.block_lt_of_cell? _ _ (hf4.cell (p := ⟨G + 1, 0, none⟩) (by simp) cA))).trans pZ
  have hbx5 : Boxed W0 G 33 (.slice none 0 0) := (hb5.block G (by omega)).trans hbx4
  have c5 := bkeep hb5 c4
  have q0 := bkeep hb5 q0
  have q1 := bkeep hb5 q1
  have q2 := bkeep hb5 q2
  have hbb : Below N w W0 := (hbw.trans (hb4.mono (show N ≤ G by omega))).trans (hb5.mono (by omega))
  have hPK : PK W0 (G + 1) G (G + 5) (pfold []) := ⟨pA, pZ, _, hbx5, ⟨rfl, .inl ⟨rfl, rfl⟩⟩⟩
  simp only [hG, hN, hz4] at hW0 ⊢
  rw [hW0]
  clear hW0 hb5 hb4 hb3 hf4 c3 z3 cA zA hbx3 hbx4 hbx5 pA pZ hz0 hz1 hfr hbw hW4 hW3
  obtain ⟨S, hS⟩ : ∃ S : Nat → Prop, S = fun k => k = G ∨ k = G + 1 ∨ G + 5 ≤ k := ⟨_, rfl⟩
  have nS1 : ¬ S (G + 3) := by rw [hS]; omega
  have nS2 : ¬ S (G + 4) := by rw [hS]; omega
  have hst : SeqStopsK Fence.wide 7 Try.prog 31 #[.pointer (some ⟨G + 3, 0, none⟩), .pointer (some ⟨G + 4, 0, none⟩)] (fun x : SpN n => #[spV x.1]) (Frm S) (fun ys => ys.map Subtype.val = rs (pT o a b) n) (fun _ => True) (n + 1) W0 :=
    fun l J Jx W hW hJ _ hY h0 => runsT_in 7 (by decide) l n (G + 3) (G + 4) (by omega) o a b 0 0 0 (pT o a b) S (fun _ => True) J Jx W hY hJ (bkeep hW hc1) (bkeep hW hc2) nS1 nS2 (fun _ _ _ _ => trivial) trivial
      (fun W' i _ hi => theirs_any o a b i W' (by omega) (by omega) (by omega) (by omega)) h0
  have h00 : SI G n W0 [] W0 := ⟨hPK, Frm.refl _ _⟩
  refine wpIn_rangeFunc_ownH rfl (by decide) (gf := 31) (lb := #[.pointer (some ⟨G + 3, 0, none⟩), .pointer (some ⟨G + 4, 0, none⟩)]) rfl trivial (enters_of Try.func31 (by kernel_rfl) rfl)
    hst (fun h k => h.trans k) (frmK_bA fun k hk => by rw [hS]; exact .inr (.inr (by omega))) (Below.refl _ _) (fun _ => rfl)
    (SI G n W0) (fun _ _ _ => False) (hz5 ▸ SI_own G n W0) (fun c => Own.from (fun s A B row hs hg hr => hs) _) h00
    (AP n (G + 5) (fun pp sv => { tmps := #[.string o, .string a, .string b, undef, undef, undef, .slice none 0 0, .int .i64 0, .pointer (some ⟨N, 0, none⟩), .int .i64 0, .pointer (some ⟨G, 0, none⟩), .pointer (some ⟨G + 1, 0, none⟩), .pointer (some ⟨G + 1 + 1, 0, none⟩), pp, .string o, .string a, .string b, .agg #[.string o, .string a, .string b], .agg #[.string o, .string a, .string b], .int .i64 0, .int .i64 0, .bool false, undef, .bool false, .string o, .bool false, .bool false, .string o, .int .i64 n, .agg #[.string o, .string a, .string b], .func (.func 27) #[.agg #[.string o, .string a, .string b]] #[], .slice av2 0 cv2, .int .i64 0, .bool false, .func (.func 28) #[] #[.pointer (some ⟨G + 1, 0, none⟩), .pointer (some ⟨G, 0, none⟩)], .string o, .int .i64 n, .agg #[.string o, .string a, .string b], .func (.func 26) #[.agg #[.string o, .string a, .string b]] #[], .func (.func 31) #[] #[.pointer (some ⟨G + 3, 0, none⟩), .pointer (some ⟨G + 4, 0, none⟩)], sv, undef, undef, undef, undef, undef, undef, undef, undef, undef, undef, undef, undef, undef], defers := [] }))
    (fun x a' => AP_own _ _ _ _ _ _) ?assign ?body ?done ?stop
  case assign =>
    intro l pre x W K hI hK
    have hWz : G + 5 ≤ W.heap.size := by have := hI.2.size; omega
    simp only [spV]
    gi_wp2_with fail
    refine hK _ _ ((KeepsOthers.alloc W _).from _) (.ofBelow ((Below.refl _ _).alloc (Nat.le_refl _) _)) (SI_own G n W0 pre W _ none hI (World.grownBy_alloc W _ none) (fun r e => by cases e)) ⟨W.heap.size, hWz, ?_, ?_⟩
    · rfl
    · exact heap_alloc_new W _
  case body =>
    clear hst h00
    intro l pre x a' W hl hlr hI hA hlen
    obtain ⟨p, hp, rfl, hpx⟩ := hA
    obtain ⟨hP, hF⟩ := hI
    obtain ⟨⟨x1, x2⟩, hx12, hx2⟩ := x
    simp only at hx12 hx2 hpx
    have p0 : W.cell? ⟨p, 0, none⟩ = some (.int .i64 x1) := cell_of_row _ p 0 _ _ _ hpx
    have p1 : W.cell? ⟨p, 1, none⟩ = some (.int .i64 x2) := cell_of_row _ p 1 _ _ _ hpx
    have c6 := hF.cell (p := ⟨G + 1 + 1, 0, none⟩) (by simp; omega) c5
    have hln : (pfold (pre.map Subtype.val)).1.length ≤ 4000 := by have := pfold_len (pre.map Subtype.val); rw [List.length_map] at this; omega
    have hWz : G + 5 ≤ W.heap.size := by have := hF.size; omega
    have hpf : pstp (pfold (pre.map Subtype.val)) (x1, x2) = pfold ((pre ++ [(⟨(x1, x2), hx12, hx2⟩ : SpN n)]).map Subtype.val) := by rw [List.map_append, List.map_cons, List.map_nil, pfold_snoc]
    generalize pfold (pre.map Subtype.val) = s at *
    have hln2 : (padd s x1 0).1.length ≤ 4001 := by
      by_cases h : s.2 < x1
      · rw [padd_lt h]; simp; omega
      · rw [padd_ge h]; omega
    have ha1 := Lib.hid (padd_any x1 0 (G + 1) G (G + 5) s W hP (by omega) (by omega) (by omega) (by omega) hWz)
    have hnp : ¬ IsPart W p := by rintro ⟨cs, fr, h⟩; rw [hpx] at h; cases h
    have hfin : ∀ w7, PK w7 (G + 1) G (G + 5) (pstp s (x1, x2)) → KeepsOthers W w7 → Frm (fun k => k = G ∨ k = G + 1 ∨ G + 5 ≤ k) W w7 →
        KeepsFrom W0.heap.size W w7 ∧ Frm S W w7 ∧ SI G n W0 (pre ++ [⟨(x1, x2), hx12, hx2⟩]) w7 := fun w7 h1 h2 h3 => ⟨h2.from _, hS ▸ h3, hpf ▸ h1, hF.trans h3⟩
    have hfin := Lib.hid hfin
    clear hpf hF q0 q1 q2 hbb hPK hc1 hc2 nS1 nS2
    gi_wp2_with fail
    refine ⟨trivial, ?_⟩
    refine (CallsIn.inRound l (callsIn_wide.2 ha1.out)).mono ?_
    rintro e w6 ⟨⟨r, rfl⟩, hP6, hK6, hF6⟩
    have hFa := hF6.mono (S' := fun k => k = G ∨ k = G + 1 ∨ G + 5 ≤ k) fun k _ h => by rcases h with h | h | h; exact .inr (.inl h); exact .inl h; exact .inr (.inr h.1)
    have hnS : ¬ ((fun k => k = G + 1 ∨ k = G ∨ (G + 5 ≤ k ∧ IsPart W k)) p) := by rintro (h | h | h); omega; omega; exact hnp h.2
    have p0 := hF6.cell (p := ⟨p, 0, none⟩) hnS p0
    have p1 := hF6.cell (p := ⟨p, 1, none⟩) hnS p1
    have c7 := hF6.cell (p := ⟨G + 1 + 1, 0, none⟩) (by rintro (h | h | h) <;> simp at h <;> omega) c6
    have ha2 := Lib.hid (padd_any x2 1 (G + 1) G (G + 5) _ w6 hP6 (by omega) (by omega) (by omega) (by omega) (by have := hF6.size; omega))
    have hfin2 := Lib.hid (fun w7 h1 (h2 : KeepsOthers w6 w7) (h3 : Frm (fun k => k = G + 1 ∨ k = G ∨ (G + 5 ≤ k ∧ IsPart w6 k)) w6 w7) => hfin.out w7 h1 (hK6.trans h2) (hFa.trans (h3.mono fun k _ h => by rcases h with h | h | h; exact .inr (.inl h); exact .inl h; exact .inr (.inr h.1))))
    clear hnS hFa hF6 hK6 hP6 hfin ha1 hP
    gi_wp2_with fail
    refine ⟨trivial, ?_⟩
    refine (CallsIn.inRound l (callsIn_wide.2 ha2.out)).mono ?_
    rintro e w7 ⟨⟨r, rfl⟩, hP7, hK7, hF7⟩
    have hfin3 := Lib.hid (hfin2.out w7 hP7 hK7 hF7)
    clear hP7 hK7 hF7
    gi_wp2_with fail
    exact hfin3.out
  case done =>
    clear hst h00
    rintro D xs W hD hxs ⟨hP, hF⟩ hK
    rw [hxs] at hP
    have c6 := hF.cell (p := ⟨G + 1 + 1, 0, none⟩) (by simp; omega) c5
    have hWz : G + 5 ≤ W.heap.size := by have := hF.size; omega
    have hln : (pfold (rs (pT o a b) n)).1.length ≤ 4000 := by have := pfold_len (rs (pT o a b) n); have := rs_len (pT o a b) n; omega
    have hbW : Below N w W := below_frmN hbb (by omega) hF (fun k h => by rcases h with h | h | h <;> omega)
    have ha1 := Lib.hid (padd_any n 0 (G + 1) G (G + 5) _ W hP (by omega) (by omega) (by omega) (by omega) hWz)
    clear hP hF hbb hPK
    gi_wp2_with fail
    refine ⟨trivial, ?_⟩
    refine (callsIn_wide.2 ha1.out).mono ?_
    rintro e w6 ⟨⟨r, rfl⟩, ⟨h1, h2, v6, h3, h4⟩, hK6, hF6⟩
    rw [(PF_all (pT o a b) n).eq] at h4
    have hbc := h3.cell
    have hD6 : w6.heap[D]? = some (.deferred (some [])) := hK6.same D _ hK rfl
    have hb6 : Below N w w6 := below_frmN hbW (by omega) hF6 (fun k h => by rcases h with h | h | h <;> omega)
    have hfin : PtRow (w6.putObj D (.deferred none)) (G + 5) v6 (pts (pT o a b) n) ∧ Below N w (w6.putObj D (.deferred none)) :=
      ⟨ownsRow_putObj h4 _ hD6 rfl, below_frmN hb6 (by have := hF6.size; omega) (frm_grown (grownBy_putObj' w6 D _)) (fun k e => by cases e; omega)⟩
    have hfin := Lib.hid hfin
    clear h1 h2 h3 h4 hK6 hF6 hb6 hbW
    gi_wp2_with fail
    refine ⟨by simp, .inl ⟨_, _, rfl, run_takeDeferred hD6, ?_⟩⟩
    refine ⟨.tuple #[v6, .int .i64 0], ?_, ?_⟩
    · simp [results, Try.f14, go_sem]
    · exact ⟨⟨_, _, rfl, by omega, hfin.out.1⟩, by rw [hN]; exact hfin.out.2⟩
  case stop =>
    intro D c pre W hD _ h hK
    exact h.elim
def sidE (o a b : ByteArray) : Int := if szE o a b ≠ 0 then szE o a b else if o.size = 0 then 8 else if rs (pC o a b) o.size ≠ [] then 14 else 0
def sidL (o a b : ByteArray) : List P3 := if sidE o a b = 0 then pts (pT o a b) o.size else []
set_option maxHeartbeats 1600000 in
theorem sides_any (o a b : ByteArray) (w : World) (hn : o.size ≤ 1500) :
    Calls Try.prog 14 #[.string o, .string a, .string b] w fun e w' => (∃ v B, e = .returned (.tuple #[v, .int .i64 (sidE o a b)]) ∧ w.heap.size ≤ B ∧ PtRow w' B v (sidL o a b)) ∧ Below w.heap.size w w' := by
  by_cases hs : a.size = o.size ∧ b.size = o.size
  · have hz : szE o a b = 0 := by unfold szE; rw [if_pos hs]
    by_cases h0 : o.size = 0
    · have hE : sidE o a b = 8 := by unfold sidE; rw [if_neg (by rw [hz]; simp), if_pos h0]
      have hL : sidL o a b = [] := by unfold sidL; rw [if_neg (by rw [hE]; decide)]
      rw [hE, hL]
      have hck := Lib.hid (fun w => checked_any o a b w)
      rw [hz] at hck
      have e1 : o.toList.isEmpty = true := by
        have h := ByteArray.toList_eq o
        rw [h, List.isEmpty_iff, Array.toList_eq_nil_iff, ← Array.size_eq_zero_iff]; exact h0
      obtain ⟨W1, hW1⟩ : ∃ W1, w.alloc (.cells #[.string o, .string a, .string b] 48) = W1 := ⟨_, rfl⟩
      have k0 : W1.cell? ⟨w.heap.size, 0, none⟩ = some (.string o) := by rw [← hW1]; simp [go_sem]
      have k1 : W1.cell? ⟨w.heap.size, 1, none⟩ = some (.string a) := by rw [← hW1]; simp [go_sem]
      have k2 : W1.cell? ⟨w.heap.size, 2, none⟩ = some (.string b) := by rw [← hW1]; simp [go_sem]
      have hb0 : Below w.heap.size w W1 := hW1 ▸ (Below.refl _ w).alloc (Nat.le_refl _) _
      go_enter Try.func14, Try.ntmps14
      go_wp2_with fail
      refine (hck.out _).mono ?_
      rintro e w1 ⟨rfl, hb1⟩
      have hbb := Lib.hid (bt hb0 hb1)
      clear hW1 k0 k1 k2 hb0 hb1
      go_wp2
      refine bodyPost_ret (v := .tuple #[.slice none 0 0, .int .i64 8]) (by simp [results, Try.f14, go_sem]) rfl ?_
      exact ⟨⟨_, w1.heap.size, rfl, hbb.out.size, ⟨rfl, .inl ⟨rfl, rfl⟩⟩⟩, hbb.out⟩
    · by_cases hc : rs (pC o a b) o.size = []
      · have hE : sidE o a b = 0 := by unfold sidE; rw [if_neg (by rw [hz]; simp), if_neg h0, if_neg (by simp [hc])]
        have hL : sidL o a b = pts (pT o a b) o.size := by unfold sidL; rw [if_pos hE]
        rw [hE, hL]
        exact sides_eq o a b o.size rfl hs.1 hs.2 hn (by omega) hc w
      · have hE : sidE o a b = 14 := by unfold sidE; rw [if_neg (by rw [hz]; simp), if_neg h0, if_pos hc]
        have hL : sidL o a b = [] := by unfold sidL; rw [if_neg (by rw [hE]; decide)]
        rw [hE, hL]
        have hck := Lib.hid (fun w => checked_any o a b w)
        rw [hz] at hck
        have e1 : o.toList.isEmpty = false := by
          cases h : o.toList with
          | nil => exact absurd (by rw [ba_eq h]; rfl) h0
          | cons x l => rfl
        have hal := Lib.hid (fun W => allC_any o.size (by omega) o a b 0 0 0 (pC o a b) (fun _ => True) W (fun _ _ _ _ => trivial) trivial (fun W' i _ hi => clashes_any o a b i W' (by omega) (by omega) (by omega) (by omega)))
        have hpos : 0 < (rs (pC o a b) o.size).length := by
          cases h : rs (pC o a b) o.size with
          | nil => exact absurd h hc
          | cons x l => simp
        generalize rs (pC o a b) o.size = L at *
        have hd : decide (0 < L.length) = true := decide_eq_true hpos
        have hd2 : decide ((0 : Int) < (L.length : Int)) = true := decide_eq_true (by omega)
        obtain ⟨W1, hW1⟩ : ∃ W1, w.alloc (.cells #[.string o, .string a, .string b] 48) = W1 := ⟨_, rfl⟩
        have k0 : W1.cell? ⟨w.heap.size, 0, none⟩ = some (.string o) := by rw [← hW1]; simp [go_sem]
        have k1 : W1.cell? ⟨w.heap.size, 1, none⟩ = some (.string a) := by rw [← hW1]; simp [go_sem]
        have k2 : W1.cell? ⟨w.heap.size, 2, none⟩ = some (.string b) := by rw [← hW1]; simp [go_sem]
        have hb0 : Below w.heap.size w W1 := hW1 ▸ (Below.refl _ w).alloc (Nat.le_refl _) _
        go_enter Try.func14, Try.ntmps14
        go_wp2_with fail
        refine (hck.out _).mono ?_
        rintro e w1 ⟨rfl, hb1⟩
        have k0 := bkeep hb1 k0
        have k1 := bkeep hb1 k1
        have k2 := bkeep hb1 k2
        go_wp2_with fail
        refine (hal.out _).mono ?_
        rintro e w2 ⟨⟨v2, B2, rfl, _, hv2⟩, hb2⟩
        obtain ⟨av2, cv2, rfl⟩ := hv2.any
        have hbb := Lib.hid (bt (bt hb0 hb1) hb2)
        clear hW1 k0 k1 k2 hb0 hb1 hb2 hv2
        go_wp2
        refine bodyPost_ret (v := .tuple #[.slice none 0 0, .int .i64 14]) (by simp [results, Try.f14, go_sem]) rfl ?_
        exact ⟨⟨_, w2.heap.size, rfl, hbb.out.size, ⟨rfl, .inl ⟨rfl, rfl⟩⟩⟩, hbb.out⟩
  · have hz : szE o a b = 12 := by unfold szE; rw [if_neg hs]
    have hE : sidE o a b = 12 := by unfold sidE; rw [if_pos (by rw [hz]; decide), hz]
    have hL : sidL o a b = [] := by unfold sidL; rw [if_neg (by rw [hE]; decide)]
    rw [hE, hL]
    have hck := Lib.hid (fun w => checked_any o a b w)
    rw [hz] at hck
    obtain ⟨W1, hW1⟩ : ∃ W1, w.alloc (.cells #[.string o, .string a, .string b] 48) = W1 := ⟨_, rfl⟩
    have k0 : W1.cell? ⟨w.heap.size, 0, none⟩ = some (.string o) := by rw [← hW1]; simp [go_sem]
    have k1 : W1.cell? ⟨w.heap.size, 1, none⟩ = some (.string a) := by rw [← hW1]; simp [go_sem]
    have k2 : W1.cell? ⟨w.heap.size, 2, none⟩ = some (.string b) := by rw [← hW1]; simp [go_sem]
    have hb0 : Below w.heap.size w W1 := hW1 ▸ (Below.refl _ w).alloc (Nat.le_refl _) _
    go_enter Try.func14, Try.ntmps14
    go_wp2_with fail
    refine (hck.out _).mono ?_
    rintro e w1 ⟨rfl, hb1⟩
    have hbb := Lib.hid (bt hb0 hb1)
    clear hW1 k0 k1 k2 hb0 hb1
    go_wp2
    refine bodyPost_ret (v := .tuple #[.slice none 0 0, .int .i64 12]) (by simp [results, Try.f14, go_sem]) rfl ?_
    exact ⟨⟨_, w1.heap.size, rfl, hbb.out.size, ⟨rfl, .inl ⟨rfl, rfl⟩⟩⟩, hbb.out⟩
end Go.Proofs.Ytlmmmibnnbceeaa
