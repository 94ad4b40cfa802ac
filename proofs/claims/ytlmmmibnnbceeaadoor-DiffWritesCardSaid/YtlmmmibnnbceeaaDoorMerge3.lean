/-
  Two versions of a base (chapter 41): merged.
-/
import Derived.Test.YtlmmmibnnbceeaaDoorMerge2
import Derived.Test.YtlmmmibnnbceeaaDoorDrawIn
namespace Go.Proofs.YtlmmmibnnbceeaaDoor
open Go.RowKit Go.Shelf
set_option linter.unusedVariables false
set_option linter.unusedSimpArgs false
attribute [local go_sem] Oper.semAt_some

/-- what comes of two versions, byte by byte -/
def mB (o a b : ByteArray) (j : Nat) : Nat := if pC o a b j = true then gd o j else if pT o a b j = true then gd b j else gd a j
def mS (o a b : ByteArray) : ByteArray := ⟨((List.range o.size).map fun j => UInt8.ofNat (mB o a b j)).toArray⟩
/-- the invariant of the first loop -/
def MI (a b : ByteArray) (G n : Nat) (W0 : World) (pre : List (SpN n)) (W : World) : Prop := BRow W G n (fun j => if inR (pre.map Subtype.val) j = true then gd b j else gd a j) ∧ Frm (fun k => k = G ∨ G + 4 ≤ k) W0 W
theorem MI_own (a b : ByteArray) (G n : Nat) (W0 : World) : OwnFrom (G + 4) (MI a b G n W0) := by
  intro s W W' row ⟨h1, h2⟩ hg hr
  have hr' : ∀ r, row = some r → ∃ o : Obj, W.heap[r]? = some o ∧ o.isCells = false := fun r e => (hr r e).2
  exact ⟨⟨fun j hj => cell_kept (h1.c j hj) hg hr', fun j hj => (frozen_kept (h1.c j hj) hg hr').trans (h1.z j hj)⟩, h2.trans ((frm_grown hg).mono fun k _ e => .inr (hr k e).1)⟩
def AM (n B : Nat) (A : Value → Value → Act) (x : SpN n) (a : Act) (W : World) : Prop := ∃ b, B ≤ b ∧ a = A (.pointer (some ⟨b, 0, none⟩)) (spV x.1) ∧ W.cell? ⟨b, 0, none⟩ = some (.int .i64 x.1.1) ∧ W.cell? ⟨b, 1, none⟩ = some (.int .i64 x.1.2)
theorem AM_own (n B0 : Nat) (A : Value → Value → Act) (x : SpN n) (a : Act) (B : Nat) : OwnFrom B (fun (_ : Unit) W => AM n B0 A x a W) :=
  Own.from (fun s X Y row ⟨b, h1, h2, h3, h4⟩ hg hr => ⟨b, h1, h2, cell_kept h3 hg hr, cell_kept h4 hg hr⟩) _
/-- what holds at the head of the second loop -/
structure ML (o : ByteArray) (G n : Nat) (f : Nat → Nat) (w5 : World) (L : List (Nat × Nat)) (k : Nat) (wr : World) : Prop where
  le : k ≤ L.length
  row : BRow wr G n (fun j => if inR (L.take k) j = true then gd o j else f j)
  fr : Frm (fun k => k = G ∨ w5.heap.size ≤ k) w5 wr
set_option maxRecDepth 100000 in
set_option maxHeartbeats 3200000 in
theorem merge_eq (o a b : ByteArray) (n : Nat) (ho : o.size = n) (ha : a.size = n) (hb : b.size = n) (hn : n ≤ 1500) (w : World) :
    Calls Tryd.prog 12 #[.string o, .string a, .string b] w fun e w' => (∃ v B, e = .returned (.tuple #[.string (mS o a b), v, .int .i64 0]) ∧ w.heap.size ≤ B ∧ SpRow w' B v (rs (pC o a b) n)) ∧ Below w.heap.size w w' := by
  refine (callsIn_wide (n := 8)).1 ?_
  refine callsIn_of_wp_marks Tryd.func12 rfl trivial ?_ rfl
  simp only [Tryd.ntmps12, List.size_toArray, List.length_cons, List.length_nil, Nat.reduceAdd, Nat.reduceSub, Array.replicate_succ, Array.replicate_zero, List.push_toArray, List.append_toArray, List.nil_append, List.cons_append]
  have hck := Lib.hid (fun w => (callsIn_wide (n := 7)).2 (checked_any o a b w))
  have hz0 : szE o a b = 0 := by unfold szE; rw [if_pos ⟨by omega, by omega⟩]
  rw [hz0] at hck
  have hcx : ∀ W0, ((w.alloc (.cells #[.string b] 9)).alloc (.cells #[.string o, .string a, .string b] 49)) = W0 → ∀ w1, Below W0.heap.size W0 w1 → w1.cell? ⟨w.heap.size, 0, none⟩ = some (.string b) ∧ w1.cell? ⟨w.heap.size + 1, 0, none⟩ = some (.string o) ∧ w1.cell? ⟨w.heap.size + 1, 1, none⟩ = some (.string a) ∧ w1.cell? ⟨w.heap.size + 1, 2, none⟩ = some (.string b) ∧ Below w.heap.size w w1 ∧ w.heap.size + 2 ≤ w1.heap.size := fun W0 hW w1 h => by
    have q0 : W0.cell? ⟨w.heap.size, 0, none⟩ = some (.string b) := by rw [← hW]; simp [go_sem]
    have q1 : W0.cell? ⟨w.heap.size + 1, 0, none⟩ = some (.string o) := by rw [← hW]; simp [go_sem]
    have q2 : W0.cell? ⟨w.heap.size + 1, 1, none⟩ = some (.string a) := by rw [← hW]; simp [go_sem]
    have q3 : W0.cell? ⟨w.heap.size + 1, 2, none⟩ = some (.string b) := by rw [← hW]; simp [go_sem]
    have qz : W0.heap.size = w.heap.size + 2 := by rw [← hW]; simp
    have qb : Below w.heap.size w W0 := hW ▸ ((Below.refl _ w).alloc (Nat.le_refl _) _).alloc (by simp) _
    exact ⟨bkeep h q0, bkeep h q1, bkeep h q2, bkeep h q3, bt qb h, by have := h.size; omega⟩
  have hcx := hcx _ rfl
  have hcx := Lib.hid hcx
  gi_wp2_with fail
  refine ⟨trivial, ?_⟩
  refine (hck.out _).mono ?_
  rintro e w1 ⟨rfl, hb1⟩
  obtain ⟨k0, k1, k2, k3, hbw, hzw⟩ := hcx.out w1 hb1
  obtain ⟨cap, w2, hcv, hcap, hrow, hb2, hz2⟩ := bytes_new a w1
  rw [ha] at hcv hcap hrow
  have j0 := bkeep hb2 k0
  have j1 := bkeep hb2 k1
  have j2 := bkeep hb2 k2
  have j3 := bkeep hb2 k3
  clear k0 k1 k2 k3
  have hb3 := (Below.refl _ w2).alloc (Nat.le_refl _) (.cells #[.slice (some ⟨w1.heap.size, 0, none⟩) n cap] 51)
  have m0 := bkeep hb3 j0
  have m1 := bkeep hb3 j1
  have m2 := bkeep hb3 j2
  have m3 := bkeep hb3 j3
  clear j0 j1 j2 j3
  have hfr := Lib.hid (fun w => (callsIn_wide (n := 7)).2 (runs_fn n (.func 25) #[.agg #[.string o, .string a, .string b]] #[] w))
  gi_wp2_with fail
  refine ⟨trivial, ?_⟩
  refine (hfr.out _).mono ?_
  rintro e w3 ⟨rfl, rfl⟩
  gi_wp2_with fail
  clear hcx hck hfr hb1
  obtain ⟨G, hG⟩ : ∃ G, w1.heap.size = G := ⟨_, rfl⟩
  obtain ⟨N, hN⟩ : ∃ N, w.heap.size = N := ⟨_, rfl⟩
  obtain ⟨W0, hW0⟩ : ∃ W0, (((w2.alloc (.cells #[.slice (some ⟨w1.heap.size, 0, none⟩) n cap] 51)).alloc (.cells #[.int .i64 n] 3)).alloc (.cells #[.func (.func 25) #[.agg #[.string o, .string a, .string b]] #[]] 54)) = W0 := ⟨_, rfl⟩
  have hb4 : Below (w2.alloc (.cells #[.slice (some ⟨w1.heap.size, 0, none⟩) n cap] 51)).heap.size (w2.alloc (.cells #[.slice (some ⟨w1.heap.size, 0, none⟩) n cap] 51)) W0 := hW0 ▸ ((Below.refl _ _).alloc (Nat.le_refl _) _).alloc (by simp) _
  have hz4 : W0.heap.size = G + 4 := by rw [← hW0, ← hG]; simp [hz2]
  have hc0 : W0.cell? ⟨G + 1, 0, none⟩ = some (.slice (some ⟨G, 0, none⟩) n cap) := by rw [← hW0, ← hG, ← hz2]; simp [go_sem]
  have hc1 : W0.cell? ⟨G + 2, 0, none⟩ = some (.int .i64 n) := by rw [← hW0, ← hG, show w1.heap.size + 2 = w2.heap.size + 1 by omega]; simp [go_sem]
  have hc2 : W0.cell? ⟨G + 3, 0, none⟩ = some (.func (.func 25) #[.agg #[.string o, .string a, .string b]] #[]) := by rw [← hW0, ← hG, show w1.heap.size + 3 = w2.heap.size + 2 by omega]; simp [go_sem]
  have m0 := bkeep hb4 m0
  have m1 := bkeep hb4 m1
  have m2 := bkeep hb4 m2
  have m3 := bkeep hb4 m3
  rw [hG] at hrow hzw
  have hrow0 : BRow W0 G n (gd a) := (hrow.frm (S := fun _ => False) (.ofBelow hb3) (fun h => h)).frm (S := fun _ => False) (.ofBelow hb4) (fun h => h)
  have hbb : Below w.heap.size w W0 := bt (bt (bt hbw hb2) hb3) hb4
  rw [hN] at hbb hzw m0 m1 m2 m3
  simp only [hG, hN] at hW0 ⊢
  rw [hW0]
  clear hW0 hb4 hb3 hb2 hrow hcv hz2 hbw hz0
  obtain ⟨S, hS⟩ : ∃ S : Nat → Prop, S = fun k => k = G ∨ G + 4 ≤ k := ⟨_, rfl⟩
  have nS1 : ¬ S (G + 2) := by rw [hS]; omega
  have nS2 : ¬ S (G + 3) := by rw [hS]; omega
  have hst : SeqStopsK Fence.wide 7 Tryd.prog 37 #[.pointer (some ⟨G + 2, 0, none⟩), .pointer (some ⟨G + 3, 0, none⟩)] (fun x : SpN n => #[spV x.1]) (Frm S) (fun ys => ys.map Subtype.val = rs (pT o a b) n) (fun _ => True) (n + 1) W0 :=
    fun l J Jx W hW hJ _ hY h0 => runsT_in 7 (by decide) l n (G + 2) (G + 3) (by omega) o a b 0 0 0 (pT o a b) S (fun _ => True) J Jx W hY hJ (bkeep hW hc1) (bkeep hW hc2) nS1 nS2 (fun _ _ _ _ => trivial) trivial
      (fun W' i _ hi => theirs_any o a b i W' (by omega) (by omega) (by omega) (by omega)) h0
  have h00 : MI a b G n W0 [] W0 := ⟨hrow0, Frm.refl _ _⟩
  refine wpIn_rangeFunc_ownH rfl (by decide) (gf := 37) (lb := #[.pointer (some ⟨G + 2, 0, none⟩), .pointer (some ⟨G + 3, 0, none⟩)]) rfl trivial (enters_of Tryd.func37 (by kernel_rfl) rfl)
    hst (fun h k => h.trans k) (frmK_bA fun k hk => by rw [hS]; exact .inr (by omega)) (Below.refl _ _) (fun _ => rfl)
    (MI a b G n W0) (fun _ _ _ => False) (hz4 ▸ MI_own a b G n W0) (fun c => Own.from (fun s A B row hs hg hr => hs) _) h00
    (AM n (G + 4) (fun pp sv => { tmps := #[.string o, .string a, .string b, undef, undef, .pointer (some ⟨N, 0, none⟩), .string ⟨#[]⟩, .slice none 0 0, .int .i64 0, .pointer (some ⟨N + 1, 0, none⟩), .int .i64 0, .pointer (some ⟨G + 1, 0, none⟩), pp, undef, undef, undef, .string o, .string a, .string b, .agg #[.string o, .string a, .string b], .agg #[.string o, .string a, .string b], .int .i64 0, .int .i64 0, .bool false, undef, .string a, .slice (some ⟨G, 0, none⟩) n cap, .slice (some ⟨G, 0, none⟩) n cap, .int .i64 n, .agg #[.string o, .string a, .string b], .func (.func 25) #[.agg #[.string o, .string a, .string b]] #[], .func (.func 37) #[] #[.pointer (some ⟨G + 2, 0, none⟩), .pointer (some ⟨G + 3, 0, none⟩)], sv, undef, undef, undef, undef, undef, undef, undef, undef, undef, undef, undef, undef, undef, undef, undef, undef, undef, undef, undef, undef, undef, undef, undef, undef, undef, undef, undef, undef, undef, undef, undef, undef, undef, undef, undef, undef, undef, undef, undef, undef, undef], defers := [] }))
    (fun x a' => AM_own _ _ _ _ _ _) ?assign ?body ?done ?stop
  case assign =>
    intro l pre x W K hI hK
    have hWz : G + 4 ≤ W.heap.size := by have := hI.2.size; omega
    simp only [spV]
    gi_wp2_with fail
    refine hK _ _ ((KeepsOthers.alloc W _).from _) (.ofBelow ((Below.refl _ _).alloc (Nat.le_refl _) _)) (MI_own a b G n W0 pre W _ none hI (World.grownBy_alloc W _ none) (fun r e => by cases e)) ⟨W.heap.size, hWz, ?_, ?_, ?_⟩
    · rfl
    · simp [go_sem]
    · simp [go_sem]
  case body =>
    clear hst h00
    intro l pre x a' W hl hlr hI hA hlen
    obtain ⟨p, hp, rfl, p0, p1⟩ := hA
    obtain ⟨hrW, hF⟩ := hI
    have nS3 : ¬ ((fun k => k = G ∨ G + 4 ≤ k) (G + 1)) := by simp
    have nS4 : ¬ ((fun k => k = G ∨ G + 4 ≤ k) N) := by simp; omega
    have g0 := hF.cell (p := ⟨G + 1, 0, none⟩) nS3 hc0
    have g1 := hF.cell (p := ⟨N, 0, none⟩) nS4 m0
    obtain ⟨⟨x1, x2⟩, hx12, hx2⟩ := x
    simp only at hx12 hx2 p0 p1
    have i1 : (0 : Int) ≤ (x1 : Int) := by omega
    have i2 : (x1 : Int) ≤ (x2 : Int) := by omega
    have i3 : (x2 : Int) ≤ (cap : Int) := by omega
    have i4 : (x2 : Int) ≤ (b.size : Int) := by omega
    have hnc : ¬ cap = x1 := by omega
    obtain ⟨c1, c2, c3, c4⟩ := bytes_put W.drew G n cap _ b x1 x2 (by omega) hx2 (by omega) 3 (hrW.frm (S := fun _ => False) ((Frm.refl _ W).drew) (fun h => h))
    obtain ⟨W9, hW9⟩ : ∃ W9, W.drew.setCells G x1 ((b.extract x1 x2).data.toList.map fun x => Value.int .u8 (x.toNat : Int)) = W9 := ⟨_, rfl⟩
    rw [hW9] at c1 c2 c3 c4
    have hk9 : KeepsOthers W W9 := ⟨c4.size, c4.same⟩
    have hf9 : Frm (fun k => k = G ∨ G + 4 ≤ k) W W9 := ((Frm.refl _ W).drew).trans (c3.mono fun k _ h => .inl h)
    have hfin : KeepsFrom W0.heap.size W W9 ∧ Frm S W W9 ∧ MI a b G n W0 (pre ++ [⟨(x1, x2), hx12, hx2⟩]) W9 := by
      refine ⟨hk9.from _, hS ▸ hf9, ?_, hF.trans hf9⟩
      have hfe : (fun j => if inR ((pre ++ [(⟨(x1, x2), hx12, hx2⟩ : SpN n)]).map Subtype.val) j = true then gd b j else gd a j) = (fun j => if x1 ≤ j ∧ j < x2 then gd b j else if inR (pre.map Subtype.val) j = true then gd b j else gd a j) := by
        funext j
        rw [List.map_append, List.map_cons, List.map_nil, inR_snoc]
        by_cases h : x1 ≤ j ∧ j < x2
        · rw [if_pos h, decide_eq_true h.1, decide_eq_true h.2, Bool.and_true, Bool.or_true, if_pos rfl]
        · rw [if_neg h]
          have : (decide (x1 ≤ j) && decide (j < x2)) = false := by
            cases hd : (decide (x1 ≤ j) && decide (j < x2)) with
            | false => rfl
            | true => simp at hd; omega
          rw [this, Bool.or_false]
      rw [hfe]; exact c2
    have hfin := Lib.hid hfin
    have fp : ¬ (p = G) := by omega
    have fN : ¬ (N = G) := by omega
    have M1 : (W.drew.cell? ⟨G + 1, 0, none⟩ = some (.slice (some ⟨G, 0, none⟩) n cap) ∧ W.drew.cell? ⟨N, 0, none⟩ = some (.string b) ∧ W.drew.cell? ⟨p, 0, none⟩ = some (.int .i64 x1) ∧ W.drew.cell? ⟨p, 1, none⟩ = some (.int .i64 x2)) := ⟨g0, g1, p0, p1⟩
    have M9 : (W9.cell? ⟨G + 1, 0, none⟩ = some (.slice (some ⟨G, 0, none⟩) n cap) ∧ W9.cell? ⟨N, 0, none⟩ = some (.string b) ∧ W9.cell? ⟨p, 0, none⟩ = some (.int .i64 x1) ∧ W9.cell? ⟨p, 1, none⟩ = some (.int .i64 x2)) :=
      ⟨c3.cell (p := ⟨G + 1, 0, none⟩) (by simp) M1.1, c3.cell (p := ⟨N, 0, none⟩) fN M1.2.1, c3.cell (p := ⟨p, 0, none⟩) fp M1.2.2.1, c3.cell (p := ⟨p, 1, none⟩) fp M1.2.2.2⟩
    clear hrW hF m0 m1 m2 m3 hrow0 hbb c2 c3 c4 hk9 hf9 hW9
    gi_wp2_with fail
    refine region_round (S := (fun w' : World => w'.cell? ⟨G + 1, 0, none⟩ = some (.slice (some ⟨G, 0, none⟩) n cap) ∧ w'.cell? ⟨N, 0, none⟩ = some (.string b) ∧ w'.cell? ⟨p, 0, none⟩ = some (.int .i64 x1) ∧ w'.cell? ⟨p, 1, none⟩ = some (.int .i64 x2))) (by kernel_rfl) (by kernel_rfl) ?_ (fun hHeld => ?_)
    · first | exact M1 | exact M9
    first | (refine tw (i := 0) (v := ?_) ?_ hHeld ?_; rotate_left; focus (intro w hSw; (try dsimp only at hSw); go_simp; (try with_reducible rfl); done)) | refine tn (i := 0) hHeld ?_
    try simp only [Act.put, List.setIfInBounds_toArray, List.set_cons_zero, List.set_cons_succ]
    first | (refine tw (i := 1) (v := ?_) ?_ hHeld ?_; rotate_left; focus (intro w hSw; (try dsimp only at hSw); go_simp; (try with_reducible rfl); done)) | refine tn (i := 1) hHeld ?_
    try simp only [Act.put, List.setIfInBounds_toArray, List.set_cons_zero, List.set_cons_succ]
    first | (refine tw (i := 2) (v := ?_) ?_ hHeld ?_; rotate_left; focus (intro w hSw; (try dsimp only at hSw); go_simp; (try with_reducible rfl); done)) | refine tn (i := 2) hHeld ?_
    try simp only [Act.put, List.setIfInBounds_toArray, List.set_cons_zero, List.set_cons_succ]
    first | (refine tw (i := 3) (v := ?_) ?_ hHeld ?_; rotate_left; focus (intro w hSw; (try dsimp only at hSw); go_simp; (try with_reducible rfl); done)) | refine tn (i := 3) hHeld ?_
    try simp only [Act.put, List.setIfInBounds_toArray, List.set_cons_zero, List.set_cons_succ]
    first | (refine tw (i := 4) (v := ?_) ?_ hHeld ?_; rotate_left; focus (intro w hSw; (try dsimp only at hSw); go_simp; (try with_reducible rfl); done)) | refine tn (i := 4) hHeld ?_
    try simp only [Act.put, List.setIfInBounds_toArray, List.set_cons_zero, List.set_cons_succ]
    first | (refine tw (i := 5) (v := ?_) ?_ hHeld ?_; rotate_left; focus (intro w hSw; (try dsimp only at hSw); go_simp; (try with_reducible rfl); done)) | refine tn (i := 5) hHeld ?_
    try simp only [Act.put, List.setIfInBounds_toArray, List.set_cons_zero, List.set_cons_succ]
    first | (refine tw (i := 6) (v := ?_) ?_ hHeld ?_; rotate_left; focus (intro w hSw; (try dsimp only at hSw); go_simp; (try with_reducible rfl); done)) | refine tn (i := 6) hHeld ?_
    try simp only [Act.put, List.setIfInBounds_toArray, List.set_cons_zero, List.set_cons_succ]
    first | (refine tw (i := 7) (v := ?_) ?_ hHeld ?_; rotate_left; focus (intro w hSw; (try dsimp only at hSw); go_simp; (try with_reducible rfl); done)) | refine tn (i := 7) hHeld ?_
    try simp only [Act.put, List.setIfInBounds_toArray, List.set_cons_zero, List.set_cons_succ]
    first | (refine tw (i := 8) (v := ?_) ?_ hHeld ?_; rotate_left; focus (intro w hSw; (try dsimp only at hSw); go_simp; (try with_reducible rfl); done)) | refine tn (i := 8) hHeld ?_
    try simp only [Act.put, List.setIfInBounds_toArray, List.set_cons_zero, List.set_cons_succ]
    first | (refine tw (i := 9) (v := ?_) ?_ hHeld ?_; rotate_left; focus (intro w hSw; (try dsimp only at hSw); go_simp; (try with_reducible rfl); done)) | refine tn (i := 9) hHeld ?_
    try simp only [Act.put, List.setIfInBounds_toArray, List.set_cons_zero, List.set_cons_succ]
    first | (refine tw (i := 10) (v := ?_) ?_ hHeld ?_; rotate_left; focus (intro w hSw; (try dsimp only at hSw); go_simp; (try with_reducible rfl); done)) | refine tn (i := 10) hHeld ?_
    try simp only [Act.put, List.setIfInBounds_toArray, List.set_cons_zero, List.set_cons_succ]
    first | (refine tw (i := 11) (v := ?_) ?_ hHeld ?_; rotate_left; focus (intro w hSw; (try dsimp only at hSw); go_simp; (try with_reducible rfl); done)) | refine tn (i := 11) hHeld ?_
    try simp only [Act.put, List.setIfInBounds_toArray, List.set_cons_zero, List.set_cons_succ]
    refine call_next (i := 12) (by kernel_rfl) (by rfl) ?_
    intro o ho K hK
    simp only [List.getElem?_toArray, List.getElem?_cons_succ, List.getElem?_cons_zero, Option.some.injEq] at ho
    subst ho
    first | (fail; refine hK.out _ _ ?_ (fun hHeld => ?_)) | (go_simp; first | (with_reducible refine hK.out _ _ ?_ (fun hHeld => ?_)) | (fail; refine hK.out _ _ ?_ (fun hHeld => ?_)))
    · first | exact M1 | exact M9
    clear hK K
    try simp only [Act.put, List.setIfInBounds_toArray, List.set_cons_zero, List.set_cons_succ]
    refine wpAnyH_done (by kernel_rfl) ?_ _
    refine Held1.normal ?_
    exact hfin.out
  case done =>
    clear hst h00
    rintro D xs W hD hxs ⟨hrW, hF⟩ hK
    rw [hxs] at hrW
    have nS3 : ¬ ((fun k => k = G ∨ G + 4 ≤ k) (G + 1)) := by simp
    have nS4 : ¬ ((fun k => k = G ∨ G + 4 ≤ k) (N + 1)) := by simp; omega
    have g0 := hF.cell (p := ⟨G + 1, 0, none⟩) nS3 hc0
    have g1 := hF.cell (p := ⟨N + 1, 0, none⟩) nS4 m1
    have g2 := hF.cell (p := ⟨N + 1, 1, none⟩) nS4 m2
    have g3 := hF.cell (p := ⟨N + 1, 2, none⟩) nS4 m3
    have hbW : Below N w W := below_frmN hbb (by omega) hF (fun k h => by rcases h with h | h <;> omega)
    have hWz : G + 4 ≤ W.heap.size := by have := hF.size; omega
    have hal := Lib.hid ((callsIn_wide (n := 7)).2 (allC_any n (by omega) o a b 0 0 0 (pC o a b) (fun _ => True) W (fun _ _ _ _ => trivial) trivial (fun W' i _ hi => clashes_any o a b i W' (by omega) (by omega) (by omega) (by omega))))
    clear hF m0 m1 m2 m3 hrow0 hbb hc0 hc1 hc2 nS1 nS2 nS3 nS4 hxs
    generalize hf1 : (fun j => if inR (rs (pT o a b) n) j = true then gd b j else gd a j) = f1 at hrW
    gi_wp2_with fail
    refine ⟨trivial, ?_⟩
    refine hal.out.mono ?_
    rintro e w5 ⟨⟨v, B, rfl, hB, hsp⟩, hb5⟩
    have hl : ∀ x ∈ rs (pC o a b) n, x.1 < x.2 ∧ x.2 ≤ n := fun x hx => ⟨(rs_mem _ _ x hx).1, (rs_mem _ _ x hx).2.1⟩
    have hl := Lib.hid hl
    have hlen := rs_len (pC o a b) n
    have g0 := bkeep hb5 g0
    have hr5 : BRow w5 G n f1 := hrW.frm (S := fun _ => False) (.ofBelow hb5) (fun h => h)
    have hbel5 := hbW.trans (hb5.mono (show N ≤ W.heap.size by omega))
    have hz5 := hb5.size
    have hK5 : w5.heap[D]? = some (.deferred (some [])) := (hb5.block D (Array.getElem?_eq_some_iff.1 hK).1).trans hK
    have hsp0 := hsp
    generalize hL : rs (pC o a b) n = L at *
    obtain ⟨av, c, rfl⟩ := hsp.any
    clear hal hrW g1 g2 g3 hb5
    have hin0 : ML o G n f1 w5 L 0 w5 := ⟨Nat.zero_le _, by rw [List.take_zero]; exact hr5, Frm.refl _ _⟩
    gi_wp2_with fail
    gi_loopw [53] (fun i wr => ∃ k : Nat, i = .int .i64 k ∧ Hid (ML o G n f1 w5 L k wr)) (fun i _ => L.length - (intOf i).toNat)
    case atStart => exact ⟨0, rfl, hin0⟩
    case round =>
      obtain ⟨k, rfl, hH⟩ := hrel
      clear hin0
      by_cases hk : k < L.length
      · have hd : decide ((k : Int) < (L.length : Int)) = true := decide_eq_true (by omega)
        obtain ⟨⟨x1, x2⟩, hx⟩ : ∃ x, L[k]? = some x := ⟨L[k], List.getElem?_eq_getElem hk⟩
        obtain ⟨hx12, hx2⟩ := hl.out _ (List.mem_of_getElem? hx)
        simp only at hx12 hx2
        obtain ⟨g, c', he, hBg, hlc⟩ := hsp.slice (fun e => by rw [e] at hk; simp at hk)
        obtain ⟨rfl, rfl⟩ : av = some ⟨g, 0, none⟩ ∧ c = c' := by cases he; exact ⟨rfl, rfl⟩
        obtain ⟨q0, q1⟩ := hsp.cells k (x1, x2) hx
        simp only at q0 q1
        have hg5 := World.block_lt_of_cell? _ _ q0
        simp only at hg5
        have hfr := hH.out.fr
        have hSg : ¬ ((fun k => k = G ∨ w5.heap.size ≤ k) g) := by simp; omega
        have hSG : ¬ ((fun k => k = G ∨ w5.heap.size ≤ k) (G + 1)) := by simp; omega
        have q0 := hfr.cell (p := ⟨g, k * 2, none⟩) hSg q0
        have q1 := hfr.cell (p := ⟨g, k * 2 + 1, none⟩) hSg q1
        have gg := hfr.cell (p := ⟨G + 1, 0, none⟩) hSG g0
        have hrk := hH.out.row
        obtain ⟨wa, hwa⟩ : ∃ wa, wr.alloc (.cells #[.int .i64 x1, .int .i64 x2] 38) = wa := ⟨_, rfl⟩
        have hba : Below wr.heap.size wr wa := hwa ▸ (Below.refl _ _).alloc (Nat.le_refl _) _
        have p0 : wa.cell? ⟨wr.heap.size, 0, none⟩ = some (.int .i64 x1) := by rw [← hwa]; simp [go_sem]
        have p1 : wa.cell? ⟨wr.heap.size, 1, none⟩ = some (.int .i64 x2) := by rw [← hwa]; simp [go_sem]
        have ga := bkeep hba gg
        have hra : BRow wa.drew G n (fun j => if inR (L.take k) j = true then gd o j else f1 j) := hrk.frm (S := fun _ => False) ((Frm.ofBelow hba).drew) (fun h => h)
        obtain ⟨c1, c2, c3, c4⟩ := bytes_put wa.drew G n cap _ o x1 x2 (by omega) hx2 (by omega) 3 hra
        obtain ⟨W9, hW9⟩ : ∃ W9, wa.drew.setCells G x1 ((o.extract x1 x2).data.toList.map fun x => Value.int .u8 (x.toNat : Int)) = W9 := ⟨_, rfl⟩
        rw [hW9] at c1 c2 c3 c4
        have hwz : w5.heap.size ≤ wr.heap.size := hfr.size
        have hne1 : ¬ (wr.heap.size = G) := by omega
        have i1 : (0 : Int) ≤ (x1 : Int) := by omega
        have i2 : (x1 : Int) ≤ (x2 : Int) := by omega
        have i3 : (x2 : Int) ≤ (cap : Int) := by omega
        have i4 : (x2 : Int) ≤ (o.size : Int) := by omega
        have i5 : (0 : Int) ≤ (k : Int) := by omega
        have i6 : (k : Int) < (L.length : Int) := by omega
        have hnc : ¬ cap = x1 := by omega
        have M1 : (wa.drew.cell? ⟨G + 1, 0, none⟩ = some (.slice (some ⟨G, 0, none⟩) n cap) ∧ wa.drew.cell? ⟨wr.heap.size, 0, none⟩ = some (.int .i64 x1) ∧ wa.drew.cell? ⟨wr.heap.size, 1, none⟩ = some (.int .i64 x2)) := ⟨ga, p0, p1⟩
        have M9 : (W9.cell? ⟨G + 1, 0, none⟩ = some (.slice (some ⟨G, 0, none⟩) n cap) ∧ W9.cell? ⟨wr.heap.size, 0, none⟩ = some (.int .i64 x1) ∧ W9.cell? ⟨wr.heap.size, 1, none⟩ = some (.int .i64 x2)) :=
          ⟨c3.cell (p := ⟨G + 1, 0, none⟩) (by simp) M1.1, c3.cell (p := ⟨wr.heap.size, 0, none⟩) hne1 M1.2.1, c3.cell (p := ⟨wr.heap.size, 1, none⟩) hne1 M1.2.2⟩
        have hnx : ML o G n f1 w5 L (k + 1) W9 := by
          refine ⟨hk, ?_, ((hfr.below hba).drew).trans (c3.mono fun k _ h => .inl h)⟩
          have hfe : (fun j => if inR (L.take (k + 1)) j = true then gd o j else f1 j) = (fun j => if x1 ≤ j ∧ j < x2 then gd o j else if inR (L.take k) j = true then gd o j else f1 j) := by
            funext j
            rw [List.take_add_one, hx, Option.toList_some, inR_snoc]
            by_cases h : x1 ≤ j ∧ j < x2
            · rw [if_pos h, decide_eq_true h.1, decide_eq_true h.2, Bool.and_true, Bool.or_true, if_pos rfl]
            · rw [if_neg h]
              have : (decide (x1 ≤ j) && decide (j < x2)) = false := by
                cases hd : (decide (x1 ≤ j) && decide (j < x2)) with
                | false => rfl
                | true => simp at hd; omega
              rw [this, Bool.or_false]
          rw [hfe]; exact c2
        have hnx := Lib.hid hnx
        clear hrk hra hfr c2 c3 c4 hW9 gg hba p0 p1 ga hsp hsp0 hr5 hbel5 hK5 hx he hH hl m0 m1 m2 m3 hL
        gi_wp2_with fail
        refine wpIn_wide.2 (wp_then (a1 := ?_) (w1 := W9) ?_ ?_)
        rotate_left
        refine wp_region_held_drew (S := (fun w' : World => w'.cell? ⟨G + 1, 0, none⟩ = some (.slice (some ⟨G, 0, none⟩) n cap) ∧ w'.cell? ⟨wr.heap.size, 0, none⟩ = some (.int .i64 x1) ∧ w'.cell? ⟨wr.heap.size, 1, none⟩ = some (.int .i64 x2))) (by kernel_rfl) ?_ (fun hHeld => ?_)
        · first | exact M1 | exact M9
        first | (refine tw (i := 0) (v := ?_) ?_ hHeld ?_; rotate_left; focus (intro w hSw; (try dsimp only at hSw); go_simp; (try with_reducible rfl); done)) | refine tn (i := 0) hHeld ?_
        try simp only [Act.put, List.setIfInBounds_toArray, List.set_cons_zero, List.set_cons_succ]
        first | (refine tw (i := 1) (v := ?_) ?_ hHeld ?_; rotate_left; focus (intro w hSw; (try dsimp only at hSw); go_simp; (try with_reducible rfl); done)) | refine tn (i := 1) hHeld ?_
        try simp only [Act.put, List.setIfInBounds_toArray, List.set_cons_zero, List.set_cons_succ]
        first | (refine tw (i := 2) (v := ?_) ?_ hHeld ?_; rotate_left; focus (intro w hSw; (try dsimp only at hSw); go_simp; (try with_reducible rfl); done)) | refine tn (i := 2) hHeld ?_
        try simp only [Act.put, List.setIfInBounds_toArray, List.set_cons_zero, List.set_cons_succ]
        first | (refine tw (i := 3) (v := ?_) ?_ hHeld ?_; rotate_left; focus (intro w hSw; (try dsimp only at hSw); go_simp; (try with_reducible rfl); done)) | refine tn (i := 3) hHeld ?_
        try simp only [Act.put, List.setIfInBounds_toArray, List.set_cons_zero, List.set_cons_succ]
        first | (refine tw (i := 4) (v := ?_) ?_ hHeld ?_; rotate_left; focus (intro w hSw; (try dsimp only at hSw); go_simp; (try with_reducible rfl); done)) | refine tn (i := 4) hHeld ?_
        try simp only [Act.put, List.setIfInBounds_toArray, List.set_cons_zero, List.set_cons_succ]
        first | (refine tw (i := 5) (v := ?_) ?_ hHeld ?_; rotate_left; focus (intro w hSw; (try dsimp only at hSw); go_simp; (try with_reducible rfl); done)) | refine tn (i := 5) hHeld ?_
        try simp only [Act.put, List.setIfInBounds_toArray, List.set_cons_zero, List.set_cons_succ]
        first | (refine tw (i := 6) (v := ?_) ?_ hHeld ?_; rotate_left; focus (intro w hSw; (try dsimp only at hSw); go_simp; (try with_reducible rfl); done)) | refine tn (i := 6) hHeld ?_
        try simp only [Act.put, List.setIfInBounds_toArray, List.set_cons_zero, List.set_cons_succ]
        first | (refine tw (i := 7) (v := ?_) ?_ hHeld ?_; rotate_left; focus (intro w hSw; (try dsimp only at hSw); go_simp; (try with_reducible rfl); done)) | refine tn (i := 7) hHeld ?_
        try simp only [Act.put, List.setIfInBounds_toArray, List.set_cons_zero, List.set_cons_succ]
        first | (refine tw (i := 8) (v := ?_) ?_ hHeld ?_; rotate_left; focus (intro w hSw; (try dsimp only at hSw); go_simp; (try with_reducible rfl); done)) | refine tn (i := 8) hHeld ?_
        try simp only [Act.put, List.setIfInBounds_toArray, List.set_cons_zero, List.set_cons_succ]
        first | (refine tw (i := 9) (v := ?_) ?_ hHeld ?_; rotate_left; focus (intro w hSw; (try dsimp only at hSw); go_simp; (try with_reducible rfl); done)) | refine tn (i := 9) hHeld ?_
        try simp only [Act.put, List.setIfInBounds_toArray, List.set_cons_zero, List.set_cons_succ]
        first | (refine tw (i := 10) (v := ?_) ?_ hHeld ?_; rotate_left; focus (intro w hSw; (try dsimp only at hSw); go_simp; (try with_reducible rfl); done)) | refine tn (i := 10) hHeld ?_
        try simp only [Act.put, List.setIfInBounds_toArray, List.set_cons_zero, List.set_cons_succ]
        first | (refine tw (i := 11) (v := ?_) ?_ hHeld ?_; rotate_left; focus (intro w hSw; (try dsimp only at hSw); go_simp; (try with_reducible rfl); done)) | refine tn (i := 11) hHeld ?_
        try simp only [Act.put, List.setIfInBounds_toArray, List.set_cons_zero, List.set_cons_succ]
        refine call_next (i := 12) (by kernel_rfl) (by rfl) ?_
        intro o ho K hK
        simp only [List.getElem?_toArray, List.getElem?_cons_succ, List.getElem?_cons_zero, Option.some.injEq] at ho
        subst ho
        first | (fail; refine hK.out _ _ ?_ (fun hHeld => ?_)) | (go_simp; first | (with_reducible refine hK.out _ _ ?_ (fun hHeld => ?_)) | (fail; refine hK.out _ _ ?_ (fun hHeld => ?_)))
        · first | exact M1 | exact M9
        clear hK K
        try simp only [Act.put, List.setIfInBounds_toArray, List.set_cons_zero, List.set_cons_succ]
        refine wpAnyH_done (by kernel_rfl) ?_ _
        refine ⟨?_, ?_⟩
        · with_reducible rfl
        · with_reducible rfl
        gi_wp2
        exact ⟨⟨k + 1, by go_num, hnx⟩, by simp [intOf]; omega⟩
      · have hd : decide ((k : Int) < (L.length : Int)) = false := decide_eq_false (by omega)
        have hke : k = L.length := by have := hH.out.le; omega
        subst hke
        have hfr := hH.out.fr
        have hSG : ¬ ((fun k => k = G ∨ w5.heap.size ≤ k) (G + 1)) := by simp; omega
        have hSD : ¬ ((fun k => k = G ∨ w5.heap.size ≤ k) D) := by have := (Array.getElem?_eq_some_iff.1 hK5).1; simp; omega
        have gg := hfr.cell (p := ⟨G + 1, 0, none⟩) hSG g0
        have hKr : wr.heap[D]? = some (.deferred (some [])) := (hfr.block D (Array.getElem?_eq_some_iff.1 hK5).1 hSD).trans hK5
        have hrk := hH.out.row
        have hcv := run_convert_bytes_back (P := Tryd.prog) wr 51 9 5 ⟨G, 0, none⟩ cap ((List.range n).map fun j => UInt8.ofNat (mB o a b j)) Tryd.underlying51 (by kernel_rfl) (by kernel_rfl) (fun j hj => by
          simp only [List.length_map, List.length_range] at hj
          have h1 := hrk.c j hj
          rw [List.take_length, ← hL, inR_rs, decide_eq_true hj, Bool.true_and, ← hf1] at h1
          simp only [inR_rs, decide_eq_true hj, Bool.true_and] at h1
          have h2 : (UInt8.ofNat (mB o a b j)).toNat = mB o a b j := by
            rw [UInt8.toNat_ofNat']
            have h3 : mB o a b j < 256 := by unfold mB; split; exact gd_lt _ _; split; exact gd_lt _ _; exact gd_lt _ _
            exact Nat.mod_eq_of_lt h3
          simp only [List.getElem_map, List.getElem_range]
          rw [h2]
          have h4 : (⟨G, 0, none⟩ : Addr).add j = ⟨G, j, none⟩ := by cases j <;> simp [Addr.add]
          rw [h4, h1]
          rfl)
        have hms : (⟨((List.range n).map fun j => UInt8.ofNat (mB o a b j)).toArray⟩ : ByteArray) = mS o a b := by unfold mS; rw [ho]
        rw [hms, List.length_map, List.length_range] at hcv
        have hspr : SpRow wr B (.slice av L.length c) L := by
          refine ⟨hsp.1, ?_⟩
          rcases hsp.2 with h2 | ⟨g, cap, cur, e, hg, hc, r⟩
          · exact .inl h2
          · exact .inr ⟨g, cap, cur, e, hg, (hfr.block g (Array.getElem?_eq_some_iff.1 hc).1 (by have := (Array.getElem?_eq_some_iff.1 hc).1; simp; omega)).trans hc, r⟩
        have hbr : Below N w wr := below_frmN hbel5 (by omega) hfr (fun k h => by rcases h with h | h <;> omega)
        have hfin : SpRow (wr.putObj D (.deferred none)) B (.slice av L.length c) (rs (pC o a b) n) ∧ Below N w (wr.putObj D (.deferred none)) :=
          ⟨by rw [hL]; exact ownsRow_putObj hspr _ hKr rfl, below_frmN hbr (by have := hfr.size; omega) (frm_grown (grownBy_putObj' wr D _)) (fun k e => by cases e; omega)⟩
        have hfin := Lib.hid hfin
        clear hrk hfr hH hl hlen m0 m1 m2 m3 hL hsp hsp0 hspr hbr hr5 hbel5
        gi_wp2_with fail
        refine ⟨by simp, .inl ⟨_, _, rfl, run_takeDeferred hKr, ?_⟩⟩
        refine ⟨.tuple #[.string (mS o a b), .slice av L.length c, .int .i64 0], ?_, ?_⟩
        · simp [results, Tryd.f12, go_sem]
        · exact ⟨⟨_, rfl, B, by omega, hfin.out.1⟩, hfin.out.2⟩
  case stop =>
    intro D c pre W hD _ h hK
    exact h.elim
end Go.Proofs.YtlmmmibnnbceeaaDoor
