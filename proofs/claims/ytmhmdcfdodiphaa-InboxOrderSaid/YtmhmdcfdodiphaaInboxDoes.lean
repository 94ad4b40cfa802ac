/-
  Whatever comes to a box: the walk of InboxDoes.
-/
import Derived.Test.YtmhmdcfdodiphaaInboxLaw
namespace Go.Proofs.Ytmhmdcfdodiphaa
open Go.RowKit
set_option linter.unusedVariables false
set_option linter.unusedSimpArgs false

structure IOp where
  k : Int
  s : ByteArray
def iopE (x : IOp) : List Value := [.int .i64 x.k, .string x.s]
def iopOk (x : IOp) : Prop := (Lit.int .i64 x.k).wf = true ∧ x.s.size ≤ maxLen
instance : Inhabited IOp := ⟨⟨0, ⟨#[]⟩⟩⟩
theorem iop_of (vs : List Value) (h : OKs [LK.int .i64, LK.str] vs) : ∃ x, vs = iopE x ∧ iopOk x := by
  obtain ⟨c0, r0, rfl, h0, h⟩ := OKs.cons h
  obtain ⟨c1, r1, rfl, h1, h⟩ := OKs.cons h
  obtain rfl := OKs.nil h
  obtain ⟨a0, rfl, w0⟩ := h0
  obtain ⟨a1, rfl, w1⟩ := h1
  exact ⟨⟨a0, a1⟩, rfl, w0, w1⟩
/-- where the blocks lie -/
structure Lay (N p cu co q B : Nat) : Prop where
  np : N ≤ p
  ncu : N ≤ cu
  nco : N ≤ co
  nq : N ≤ q
  pq : p < q
  cuq : cu < q
  coq : co < q
  qB : q < B
/-- box and reference agree -/
structure ST (N p cu co q B n : Nat) (U O : List ByteArray) (cl : Bool) (wr : World) : Prop where
  bx : BX wr p cu co n U O cl
  rb : RBx wr q B U O n cl
  hB : B ≤ wr.heap.size
  lu : U.length ≤ n
  lo : O.length ≤ n
theorem ST.below {N p cu co q B n : Nat} {U O : List ByteArray} {cl : Bool} {w w' : World} (h : ST N p cu co q B n U O cl w) (hb : Below w.heap.size w w') : ST N p cu co q B n U O cl w' :=
  ⟨h.bx.below hb, h.rb.frm (S := fun _ => False) (.ofBelow hb) id (fun _ _ => id), Nat.le_trans h.hB hb.size, h.lu, h.lo⟩
theorem Lay.a {N p cu co q B : Nat} (L : Lay N p cu co q B) {n : Nat} {U O : List ByteArray} {cl : Bool} {w w' : World} (h : RBx w q B U O n cl) (hf : Frm (fun k => k = cu ∨ k = co) w w') : RBx w' q B U O n cl :=
  h.frm hf (by have := L.cuq; have := L.coq; omega) (by intro k hk; have := L.cuq; have := L.qB; have := L.coq; omega)
theorem Lay.a3 {N p cu co q B : Nat} (L : Lay N p cu co q B) {n : Nat} {U O : List ByteArray} {cl : Bool} {w w' : World} (h : RBx w q B U O n cl) (hf : Frm (fun k => k = p ∨ k = cu ∨ k = co) w w') : RBx w' q B U O n cl :=
  h.frm hf (by have := L.pq; have := L.cuq; have := L.coq; omega) (by intro k hk; have := L.pq; have := L.cuq; have := L.qB; have := L.coq; omega)
theorem Lay.b {N p cu co q B : Nat} (L : Lay N p cu co q B) {n : Nat} {U O : List ByteArray} {cl : Bool} {w w' : World} (h : BX w p cu co n U O cl) (hf : Frm (fun k => k = q) w w') : BX w' p cu co n U O cl :=
  h.frm hf (by have := L.pq; omega) (by have := L.cuq; omega) (by have := L.coq; omega)
theorem Lay.ba {N p cu co q B : Nat} (L : Lay N p cu co q B) {w0 w w' : World} (h : Below N w0 w) (hN : N = w0.heap.size) (hf : Frm (fun k => k = cu ∨ k = co) w w') : Below N w0 w' := by
  subst hN
  exact below_frm h hf (by rintro k (rfl | rfl); exact L.ncu; exact L.nco)
theorem Lay.ba3 {N p cu co q B : Nat} (L : Lay N p cu co q B) {w0 w w' : World} (h : Below N w0 w) (hN : N = w0.heap.size) (hf : Frm (fun k => k = p ∨ k = cu ∨ k = co) w w') : Below N w0 w' := by
  subst hN
  exact below_frm h hf (by rintro k (rfl | rfl | rfl); exact L.np; exact L.ncu; exact L.nco)
theorem Lay.bb {N p cu co q B : Nat} (L : Lay N p cu co q B) {w0 w w' : World} (h : Below N w0 w) (hN : N = w0.heap.size) (hf : Frm (fun k => k = q) w w') : Below N w0 w' := by
  subst hN
  exact below_frm h hf (by rintro k rfl; exact L.nq)
theorem BX.drew {w : World} {p cu co cap : Nat} {U O : List ByteArray} {cl : Bool} (h : BX w p cu co cap U O cl) : BX w.drew p cu co cap U O cl := ⟨h.c0, h.c1, h.c2, h.f2, h.u, h.o, h.ne, h.nu, h.no⟩
theorem BX.drewN {w : World} {p cu co cap : Nat} {U O : List ByteArray} {cl : Bool} (h : BX w p cu co cap U O cl) (n : Nat) : BX (w.drewN n) p cu co cap U O cl := ⟨h.c0, h.c1, h.c2, h.f2, h.u, h.o, h.ne, h.nu, h.no⟩
theorem RBx.drew {w : World} {q B n : Nat} {U O : List ByteArray} {cl : Bool} (h : RBx w q B U O n cl) : RBx w.drew q B U O n cl := h.frm (S := fun _ => False) (Frm.drew (Frm.refl _ _)) id (fun _ _ => id)
theorem putL_len (cl : Bool) (n : Nat) (l : List ByteArray) (x : ByteArray) (h : l.length ≤ n) : (putL cl n l x).length ≤ n := by
  unfold putL
  split
  · exact h
  · split
    · simp; omega
    · exact h
def HS (N p cu co q B n : Nat) (w wr : World) : Prop := (∃ U O cl, ST N p cu co q B n U O cl wr) ∧ Below N w wr
theorem len_none2 (w : World) : Calls Try.prog 16 #[.pointer none] w fun e w' => e = .returned (.int .i64 0) ∧ w' = w := (len_none w).mono fun _ _ h => ⟨h.1, h.2.symm⟩
theorem rput_of {w : World} {q B n : Nat} {U O : List ByteArray} {cl : Bool} (h : RBx w q B U O n cl) (hB : B ≤ w.heap.size) (hu : U.length ≤ 1000) (ho : O.length ≤ 1000) (hn : n ≤ 1000) (x : ByteArray) (g : Bool) {U' O' : List ByteArray} {c : Int} (h1 : (if g then putL cl n U x else U) = U') (h2 : (if g then O else putL cl n O x) = O') (h3 : putE cl n (if g then U.length else O.length) = c) :
    Calls Try.prog 11 #[.pointer (some ⟨q, 0, none⟩), .string x, .bool g] w (RPut w q B U' O' n cl c) := by
  subst h1; subst h2; subst h3
  exact rput_any q B U O n cl x g w h hB hu ho hn
theorem same_same {w : World} {v1 v2 : Value} {B1 B2 : Nat} {l : List ByteArray} (h1 : TX w B1 v1 l) (h2 : TX w B2 v2 l) (hm : l.length ≤ 1000) : Calls Try.prog 9 #[v1, v2] w fun e w' => e = .returned (.bool true) ∧ Below w.heap.size w w' := by
  refine (same_tx v1 v2 B1 B2 l l w h1 h2 (by omega)).mono ?_
  rintro e w' ⟨rfl, h⟩
  exact ⟨by simp, h⟩
theorem app_len (U O : List ByteArray) (n : Nat) (hn : n ≤ 100) (hu : U.length ≤ n) (ho : O.length ≤ n) : (U ++ O).length ≤ 1000 := by simp; omega
set_option maxRecDepth 100000 in
set_option maxHeartbeats 3200000 in
theorem walk_InboxDoes (most : Int) (um : (Lit.int .i64 most).wf = true) (a : Option Addr) (len cap : Nat) (l : List IOp) {w : World} (hl : IsList w a len 2 iopE iopOk l) :
    Calls Try.prog 4 #[.int .i64 most, .slice a len cap] w fun e w' => e = .returned (.bool true) ∧ Below w.heap.size w w' := by
  have hm := hl.most
  have hbd := bounds_i64 um
  clear um
  by_cases hbig : 200 < len
  · go_enter Try.func4, Try.ntmps4
    go_wp2_with (go_at_call 5; (with_reducible refine (works_any _).mono ?_); rintro e w1 ⟨rfl, hb1⟩)
    go_ret
    exact ⟨rfl, hb1⟩
  have hbd := Lib.hid hbd
  go_enter Try.func4, Try.ntmps4
  go_wp2_with (first | (go_at_call 5; (with_reducible refine (works_any _).mono ?_); rintro e w1 ⟨rfl, hb1⟩) | (go_at_call 6; (with_reducible refine (new_any most _ hbd.out).mono ?_); rintro e w2 ⟨p, cu, co, rfl, hx2, hp, hu, ho, hb2⟩) | (go_at_call 10; (with_reducible refine (rnew_any most _).mono ?_); rintro e w3 ⟨rfl, hr3, hb3⟩))
  have hb02 := bt hb1 hb2
  have hb03 := bt hb02 hb3
  have hz1 := hb1.size
  have hz2 := hb02.size
  have hz3 := hb3.size
  have hr3l : w2.heap.size + 1 ≤ w3.heap.size := by
    obtain ⟨_, _, hx⟩ := hr3
    exact World.block_lt_of_cell? w3 _ hx.c0
  have hST3 : ST w.heap.size p cu co w2.heap.size (w2.heap.size + 1) (nB most) [] [] false w3 := ⟨hx2.below hb3, hr3, hr3l, Nat.zero_le _, Nat.zero_le _⟩
  have hLay : Lay w.heap.size p cu co w2.heap.size (w2.heap.size + 1) := by
    have h2 := hx2.lt
    exact ⟨by omega, by omega, by omega, by omega, by omega, by omega, by omega, by omega⟩
  have hH0 : HS w.heap.size p cu co w2.heap.size (w2.heap.size + 1) (nB most) w w3 := ⟨⟨[], [], false, hST3⟩, hb03⟩
  generalize hq : w2.heap.size = q at *
  have hN : nB most ≤ 100 := by unfold nB; omega
  obtain ⟨n, hn⟩ : ∃ n, nB most = n := ⟨_, rfl⟩
  rw [hn] at hH0 hN
  clear hST3 hr3l hz3 hz2 hz1 hb03 hb02 hb3 hr3 hx2 hb2 hb1 hq hn hp hu ho
  obtain ⟨N, hNw⟩ : ∃ N, w.heap.size = N := ⟨_, rfl⟩
  rw [hNw] at hH0 hLay
  have hNw := Lib.hid hNw
  have hbig : len ≤ 200 := by omega
  rcases Nat.eq_zero_or_pos len with h0 | hpos
  · subst h0
    refine wp_loop_rounds 1 ?_
    rw [rounds_succ]
    go_wp2
    go_ret
    exact ⟨rfl, hNw.out ▸ hH0.2⟩
  obtain ⟨b, o, rfl, _⟩ := hl.at_ hpos
  have hlen := Lib.hid hl.size_eq
  go_loopw [8] (fun i wr => ∃ k : Nat, k ≤ len ∧ i = .int .i64 k ∧ HS N p cu co q (q + 1) n w wr) (fun i _ => len - (intOf i).toNat)
  case atStart => exact ⟨0, Nat.zero_le _, rfl, hH0⟩
  case round =>
    obtain ⟨k, hk, rfl, ⟨U, O, cl, hST⟩, hbW⟩ := hrel
    by_cases hlt : k < len
    · have hk1 : k < l.length := by have := hlen.out; omega
      have g0 : wr.cell? ⟨b, o + k * 2, none⟩ = some (.int .i64 l[k].k) := (hl.get (hNw.out ▸ hbW) (Nat.le_refl _) k hk1 0 (by decide) _ rfl).1
      have g1 : wr.cell? ⟨b, o + k * 2 + 1, none⟩ = some (.string l[k].s) := (hl.get (hNw.out ▸ hbW) (Nat.le_refl _) k hk1 1 (by decide) _ rfl).1
      generalize l[k].k = kd at *
      generalize l[k].s = x at *
      have hA : Below wr.heap.size wr (wr.alloc (.cells #[.int .i64 kd, .string x] 30)) := (Below.refl _ _).alloc (Nat.le_refl _) _
      have hST1 := hST.below hA
      have hbW1 : Below N w (wr.alloc (.cells #[.int .i64 kd, .string x] 30)) := hbW.trans (hA.mono (by have := hbW.size; have := hNw.out; omega))
      have m0 : (wr.alloc (.cells #[.int .i64 kd, .string x] 30)).cell? ⟨wr.heap.size, 0, none⟩ = some (.int .i64 kd) := by simp [go_sem]
      have m1 : (wr.alloc (.cells #[.int .i64 kd, .string x] 30)).cell? ⟨wr.heap.size, 1, none⟩ = some (.string x) := by simp [go_sem]
      by_cases h5 : kd = 5
      · subst h5
        have hx1 := hST1.bx
        have hr1 := hST1.rb
        go_wp2_with (first | (go_at_call 13; (with_reducible refine (close_none _).mono ?_); rintro e wx ⟨rfl, rfl⟩) | (go_at_call 13; (with_reducible refine (close_any p cu co n U O cl _ hx1).mono ?_); rintro e w4 ⟨rfl, hx4, hf4⟩; have hr4 := hLay.a3 hr1 hf4; have hb4 := hLay.ba3 hbW1 hNw.out.symm hf4; obtain ⟨vu, vo, HR⟩ := hr4; have y0 := HR.c0; have y1 := HR.c1; have y3 := HR.c3; have ef := HR.f3; have hr5 := HR.set3 true; have hf5 := Frm.one w4 q 3 (.bool true); have hx5 := hLay.b hx4 hf5; have hb5 := hLay.bb hb4 hNw.out.symm hf5; have hz5 := hf4.size; clear hx1 hr1))
        have hzz : q + 1 ≤ (w4.setCell ⟨q, 3, none⟩ (.bool true)).heap.size := by simp; have := hST1.hB; simp at this hz5; omega
        generalize w4.setCell ⟨q, 3, none⟩ (.bool true) = W at *
        obtain ⟨vu9, vo9, HT⟩ := hr5
        obtain ⟨a1, cp1, e1⟩ := HT.u.len
        obtain ⟨a2, cp2, e2⟩ := HT.o.len
        have t0 := HT.c0
        have t1 := HT.c1
        rw [e1] at t0
        rw [e2] at t1
        have hlen9 := fun m => len_any p cu co n (U) (O) (true) (World.drewN W m) (BX.drewN hx5 m) (Nat.le_trans hST1.lu (by omega)) (Nat.le_trans hST1.lo (by omega))
        have hST9 : ST N p cu co q (q + 1) n (U) (O) (true) W := ⟨hx5, ⟨_, _, HT⟩, hzz, hST1.lu, hST1.lo⟩
        have HSS := Lib.hid hST9
        have HBB := Lib.hid hb5
        have hlu9 : (U).length ≤ 100 := Nat.le_trans hST1.lu hN
        have hlo9 : (O).length ≤ 100 := Nat.le_trans hST1.lo hN
        generalize (U).length = z1 at t0 hlen9 hlu9
        generalize (O).length = z2 at t1 hlen9 hlo9
        have hw9 : IntKind.i64.wrap ((z1 : Int) + (z2 : Int)) = (z1 : Int) + (z2 : Int) := IntWalk.i64_in _ (by omega)
        simp only [Int.natCast_add] at hlen9
        clear e1 e2 HT hST9 hb5
        go_quiet ((first | (go_at_call 16; with_reducible exact Calls.quiet_of (hlen9 _)) | (go_at_call 16; with_reducible exact Calls.quiet_of_same (len_none2 _))))
        clear hw9 hlen9
        go_wp2
        exact ⟨⟨k + 1, by omega, by go_num, ⟨⟨_, _, _, HSS.out.below (bdraws0 _ _)⟩, bdraws HBB.out _⟩⟩, by simp [intOf]; omega⟩
      by_cases h0 : kd = 0
      · subst h0
        have hx1 := hST1.bx.drew
        have hr1 := RBx.drew hST1.rb
        have hbW1 := hbW1.drew
        have hB1 : q + 1 ≤ (wr.alloc (.cells #[.int .i64 0, .string x] 30)).drew.heap.size := hST1.hB
        have hp1 := hST.bx.lt
        have hq1 := hST.hB
        have hlu := hST1.lu
        have hlo := hST1.lo
        have m0 : (wr.alloc (.cells #[.int .i64 0, .string x] 30)).drew.cell? ⟨wr.heap.size, 0, none⟩ = some (.int .i64 0) := m0
        have m1 : (wr.alloc (.cells #[.int .i64 0, .string x] 30)).drew.cell? ⟨wr.heap.size, 1, none⟩ = some (.string x) := m1
        go_wp2_with fail
        generalize wr.alloc (.cells #[.int .i64 0, .string x] 30) = W1 at *
        obtain ⟨bb, hbb⟩ : ∃ bb, wr.heap.size = bb := ⟨_, rfl⟩
        rw [hbb] at hp1 hq1 m0 m1
        simp only [hbb]
        clear hbb g0 g1
        obtain ⟨c, hc⟩ : ∃ c, putE cl n O.length = c := ⟨_, rfl⟩
        have hc := Lib.hid hc
        have hS : ∀ w1 w2 : World, Frm (fun k => k = cu ∨ k = co) w1 w2 → w1.cell? ⟨bb, 0, none⟩ = some (.int .i64 0) ∧ w1.cell? ⟨bb, 1, none⟩ = some (.string x) → w2.cell? ⟨bb, 0, none⟩ = some (.int .i64 0) ∧ w2.cell? ⟨bb, 1, none⟩ = some (.string x) := fun _ _ hf h =>
          ⟨hf.cell (p := ⟨bb, 0, none⟩) (show ¬ (bb = cu ∨ bb = co) by omega) h.1, hf.cell (p := ⟨bb, 1, none⟩) (show ¬ (bb = cu ∨ bb = co) by omega) h.2⟩
        have hS2 : ∀ w1 w2 : World, Frm (fun k => k = q) w1 w2 → w1.cell? ⟨bb, 0, none⟩ = some (.int .i64 0) ∧ w1.cell? ⟨bb, 1, none⟩ = some (.string x) → w2.cell? ⟨bb, 0, none⟩ = some (.int .i64 0) ∧ w2.cell? ⟨bb, 1, none⟩ = some (.string x) := fun _ _ hf h =>
          ⟨hf.cell (p := ⟨bb, 0, none⟩) (show ¬ bb = q by omega) h.1, hf.cell (p := ⟨bb, 1, none⟩) (show ¬ bb = q by omega) h.2⟩
        have M1 := And.intro m0 m1
        clear m0 m1
        have hS := Lib.hid hS
        have hS2 := Lib.hid hS2
        have hcP := Lib.hid (put_of hx1 x false (U' := U) (O' := putL cl n O x) rfl rfl hc.out)
        have hcR := Lib.hid (fun (w : World) (h : RBx w q (q + 1) U O n cl) (hB : q + 1 ≤ w.heap.size) => rput_of h hB (by omega) (by omega) (by omega) x false (U' := U) (O' := putL cl n O x) rfl rfl hc.out)
        refine wp_region_held_drew (S := (fun w' : World => w'.cell? ⟨bb, 0, none⟩ = some (.int .i64 0) ∧ w'.cell? ⟨bb, 1, none⟩ = some (.string x))) (by kernel_rfl) ?_ (fun hHeld => ?_)
        · first | exact M1 | exact M4 | exact M5
        first | (refine tw (i := 0) (v := ?_) ?_ hHeld ?_; rotate_left; focus (intro w hSw; (try dsimp only at hSw); go_simp; (try with_reducible rfl); done)) | refine tn (i := 0) hHeld ?_
        try simp only [Act.put, List.setIfInBounds_toArray, List.set_cons_zero, List.set_cons_succ]
        first | (refine tw (i := 1) (v := ?_) ?_ hHeld ?_; rotate_left; focus (intro w hSw; (try dsimp only at hSw); go_simp; (try with_reducible rfl); done)) | refine tn (i := 1) hHeld ?_
        try simp only [Act.put, List.setIfInBounds_toArray, List.set_cons_zero, List.set_cons_succ]
        first | (refine tw (i := 2) (v := ?_) ?_ hHeld ?_; rotate_left; focus (intro w hSw; (try dsimp only at hSw); go_simp; (try with_reducible rfl); done)) | refine tn (i := 2) hHeld ?_
        try simp only [Act.put, List.setIfInBounds_toArray, List.set_cons_zero, List.set_cons_succ]
        first | (refine tw (i := 3) (v := ?_) ?_ hHeld ?_; rotate_left; focus (intro w hSw; (try dsimp only at hSw); go_simp; (try with_reducible rfl); done)) | refine tn (i := 3) hHeld ?_
        try simp only [Act.put, List.setIfInBounds_toArray, List.set_cons_zero, List.set_cons_succ]
        first | (refine tw (i := 4) (v := ?_) ?_ hHeld ?_; rotate_left; focus (intro w hSw; (try dsimp only at hSw); go_simp; (try with_reducible rfl); done)) | refine tn (i := 4) hHeld ?_
        try simp only [Act.put, List.setIfInBounds_toArray, List.set_cons_zero, List.set_cons_succ]
        first | (refine tw (i := 5) (v := ?_) ?_ hHeld ?_; rotate_left; focus (intro w hSw; (try dsimp only at hSw); go_simp; (try with_reducible rfl); done)) | refine tn (i := 5) hHeld ?_
        try simp only [Act.put, List.setIfInBounds_toArray, List.set_cons_zero, List.set_cons_succ]
        first | (refine tw (i := 7) (v := ?_) ?_ hHeld ?_; rotate_left; focus (intro w hSw; (try dsimp only at hSw); go_simp; (try with_reducible rfl); done)) | refine tn (i := 7) hHeld ?_
        try simp only [Act.put, List.setIfInBounds_toArray, List.set_cons_zero, List.set_cons_succ]
        first | (refine tw (i := 8) (v := ?_) ?_ hHeld ?_; rotate_left; focus (intro w hSw; (try dsimp only at hSw); go_simp; (try with_reducible rfl); done)) | refine tn (i := 8) hHeld ?_
        try simp only [Act.put, List.setIfInBounds_toArray, List.set_cons_zero, List.set_cons_succ]
        first | (refine tw (i := 9) (v := ?_) ?_ hHeld ?_; rotate_left; focus (intro w hSw; (try dsimp only at hSw); go_simp; (try with_reducible rfl); done)) | refine tn (i := 9) hHeld ?_
        try simp only [Act.put, List.setIfInBounds_toArray, List.set_cons_zero, List.set_cons_succ]
        first | (refine tw (i := 10) (v := ?_) ?_ hHeld ?_; rotate_left; focus (intro w hSw; (try dsimp only at hSw); go_simp; (try with_reducible rfl); done)) | refine tn (i := 10) hHeld ?_
        try simp only [Act.put, List.setIfInBounds_toArray, List.set_cons_zero, List.set_cons_succ]
        first | (refine tw (i := 11) (v := ?_) ?_ hHeld ?_; rotate_left; focus (intro w hSw; (try dsimp only at hSw); go_simp; (try with_reducible rfl); done)) | refine tn (i := 11) hHeld ?_
        try simp only [Act.put, List.setIfInBounds_toArray, List.set_cons_zero, List.set_cons_succ]
        first | (refine tw (i := 12) (v := ?_) ?_ hHeld ?_; rotate_left; focus (intro w hSw; (try dsimp only at hSw); go_simp; (try with_reducible rfl); done)) | refine tn (i := 12) hHeld ?_
        try simp only [Act.put, List.setIfInBounds_toArray, List.set_cons_zero, List.set_cons_succ]
        refine call_next (i := 6) (by kernel_rfl) (by rfl) ?_
        intro o ho K hK
        simp only [List.getElem?_toArray, List.getElem?_cons_succ, List.getElem?_cons_zero, Option.some.injEq] at ho
        subst ho
        first | (fail; refine hK.out _ _ ?_ (fun hHeld => ?_)) | (go_simp; first | (with_reducible refine hK.out _ _ ?_ (fun hHeld => ?_)) | ((first | (go_at_call 7; (with_reducible refine hcP.out.mono ?_); rintro e w4 ⟨rfl, hx4, hf4⟩; have hr4 := hLay.a hr1 hf4; have hb4 := hLay.ba hbW1 hNw.out.symm hf4; have hz4 := Nat.le_trans hB1 hf4.size; have M4 := hS.out _ _ hf4 M1; clear hx1 hr1) | (go_at_call 11; (with_reducible refine (hcR.out _ hr4 hz4).mono ?_); rintro e w5 ⟨rfl, hr5, hf5⟩; have hx5 := hLay.b hx4 hf5; have hb5 := hLay.bb hb4 hNw.out.symm hf5; have hz5 := Nat.le_trans hz4 hf5.size; have M5 := hS2.out _ _ hf5 M4; clear hr4) | (go_at_call 7; (with_reducible refine (put_none _ _ _).mono ?_); rintro e wx ⟨rfl, rfl⟩)); refine hK.out _ _ ?_ (fun hHeld => ?_)))
        · first | exact M1 | exact M4 | exact M5
        clear hK K
        try simp only [Act.put, List.setIfInBounds_toArray, List.set_cons_zero, List.set_cons_succ]
        refine call_next (i := 13) (by kernel_rfl) (by rfl) ?_
        intro o ho K hK
        simp only [List.getElem?_toArray, List.getElem?_cons_succ, List.getElem?_cons_zero, Option.some.injEq] at ho
        subst ho
        first | (fail; refine hK.out _ _ ?_ (fun hHeld => ?_)) | (go_simp; first | (with_reducible refine hK.out _ _ ?_ (fun hHeld => ?_)) | ((first | (go_at_call 7; (with_reducible refine hcP.out.mono ?_); rintro e w4 ⟨rfl, hx4, hf4⟩; have hr4 := hLay.a hr1 hf4; have hb4 := hLay.ba hbW1 hNw.out.symm hf4; have hz4 := Nat.le_trans hB1 hf4.size; have M4 := hS.out _ _ hf4 M1; clear hx1 hr1) | (go_at_call 11; (with_reducible refine (hcR.out _ hr4 hz4).mono ?_); rintro e w5 ⟨rfl, hr5, hf5⟩; have hx5 := hLay.b hx4 hf5; have hb5 := hLay.bb hb4 hNw.out.symm hf5; have hz5 := Nat.le_trans hz4 hf5.size; have M5 := hS2.out _ _ hf5 M4; clear hr4) | (go_at_call 7; (with_reducible refine (put_none _ _ _).mono ?_); rintro e wx ⟨rfl, rfl⟩)); refine hK.out _ _ ?_ (fun hHeld => ?_)))
        · first | exact M1 | exact M4 | exact M5
        clear hK K
        try simp only [Act.put, List.setIfInBounds_toArray, List.set_cons_zero, List.set_cons_succ]
        first | (refine tw (i := 14) (v := ?_) ?_ hHeld ?_; rotate_left; focus (intro w hSw; (try dsimp only at hSw); go_simp; (try with_reducible rfl); done)) | refine tn (i := 14) hHeld ?_
        try simp only [Act.put, List.setIfInBounds_toArray, List.set_cons_zero, List.set_cons_succ]
        first | (refine tw (i := 15) (v := ?_) ?_ hHeld ?_; rotate_left; focus (intro w hSw; (try dsimp only at hSw); go_simp; (try with_reducible rfl); done)) | refine tn (i := 15) hHeld ?_
        try simp only [Act.put, List.setIfInBounds_toArray, List.set_cons_zero, List.set_cons_succ]
        first | (refine tw (i := 16) (v := ?_) ?_ hHeld ?_; rotate_left; focus (intro w hSw; (try dsimp only at hSw); go_simp; (try with_reducible rfl); done)) | refine tn (i := 16) hHeld ?_
        try simp only [Act.put, List.setIfInBounds_toArray, List.set_cons_zero, List.set_cons_succ]
        first | (refine tw (i := 17) (v := ?_) ?_ hHeld ?_; rotate_left; focus (intro w hSw; (try dsimp only at hSw); go_simp; (try with_reducible rfl); done)) | refine tn (i := 17) hHeld ?_
        try simp only [Act.put, List.setIfInBounds_toArray, List.set_cons_zero, List.set_cons_succ]
        first | (refine tw (i := 18) (v := ?_) ?_ hHeld ?_; rotate_left; focus (intro w hSw; (try dsimp only at hSw); go_simp; (try with_reducible rfl); done)) | refine tn (i := 18) hHeld ?_
        try simp only [Act.put, List.setIfInBounds_toArray, List.set_cons_zero, List.set_cons_succ]
        refine call_next (i := 19) (by kernel_rfl) (by rfl) ?_
        intro o ho K hK
        simp only [List.getElem?_toArray, List.getElem?_cons_succ, List.getElem?_cons_zero, Option.some.injEq] at ho
        subst ho
        first | (fail; refine hK.out _ _ ?_ (fun hHeld => ?_)) | (go_simp; first | (with_reducible refine hK.out _ _ ?_ (fun hHeld => ?_)) | ((first | (go_at_call 7; (with_reducible refine hcP.out.mono ?_); rintro e w4 ⟨rfl, hx4, hf4⟩; have hr4 := hLay.a hr1 hf4; have hb4 := hLay.ba hbW1 hNw.out.symm hf4; have hz4 := Nat.le_trans hB1 hf4.size; have M4 := hS.out _ _ hf4 M1; clear hx1 hr1) | (go_at_call 11; (with_reducible refine (hcR.out _ hr4 hz4).mono ?_); rintro e w5 ⟨rfl, hr5, hf5⟩; have hx5 := hLay.b hx4 hf5; have hb5 := hLay.bb hb4 hNw.out.symm hf5; have hz5 := Nat.le_trans hz4 hf5.size; have M5 := hS2.out _ _ hf5 M4; clear hr4) | (go_at_call 7; (with_reducible refine (put_none _ _ _).mono ?_); rintro e wx ⟨rfl, rfl⟩)); refine hK.out _ _ ?_ (fun hHeld => ?_)))
        · first | exact M1 | exact M4 | exact M5
        clear hK K
        try simp only [Act.put, List.setIfInBounds_toArray, List.set_cons_zero, List.set_cons_succ]
        first | (refine tw (i := 20) (v := ?_) ?_ hHeld ?_; rotate_left; focus (intro w hSw; (try dsimp only at hSw); go_simp; (try with_reducible rfl); done)) | refine tn (i := 20) hHeld ?_
        try simp only [Act.put, List.setIfInBounds_toArray, List.set_cons_zero, List.set_cons_succ]
        first | (refine tw (i := 21) (v := ?_) ?_ hHeld ?_; rotate_left; focus (intro w hSw; (try dsimp only at hSw); go_simp; (try with_reducible rfl); done)) | refine tn (i := 21) hHeld ?_
        try simp only [Act.put, List.setIfInBounds_toArray, List.set_cons_zero, List.set_cons_succ]
        first | (refine tw (i := 22) (v := ?_) ?_ hHeld ?_; rotate_left; focus (intro w hSw; (try dsimp only at hSw); go_simp; (try with_reducible rfl); done)) | refine tn (i := 22) hHeld ?_
        try simp only [Act.put, List.setIfInBounds_toArray, List.set_cons_zero, List.set_cons_succ]
        refine wpAnyH_done (by kernel_rfl) ?_ _
        go_wp2
        clear M1 M4 M5 hS hS2 hcP hcR
        obtain ⟨vu9, vo9, HT⟩ := hr5
        obtain ⟨a1, cp1, e1⟩ := HT.u.len
        obtain ⟨a2, cp2, e2⟩ := HT.o.len
        have t0 := HT.c0
        have t1 := HT.c1
        rw [e1] at t0
        rw [e2] at t1
        have hlen9 := fun m => len_any p cu co n (U) (putL cl n O x) (cl) (World.drewN w5 m) (BX.drewN hx5 m) (Nat.le_trans hST1.lu (by omega)) (Nat.le_trans (putL_len _ _ _ _ hST1.lo) (by omega))
        have hST9 : ST N p cu co q (q + 1) n (U) (putL cl n O x) (cl) w5 := ⟨hx5, ⟨_, _, HT⟩, hz5, hST1.lu, (putL_len _ _ _ _ hST1.lo)⟩
        have HSS := Lib.hid hST9
        have HBB := Lib.hid hb5
        have hlu9 : (U).length ≤ 100 := Nat.le_trans hST1.lu hN
        have hlo9 : (putL cl n O x).length ≤ 100 := Nat.le_trans (putL_len _ _ _ _ hST1.lo) hN
        generalize (U).length = z1 at t0 hlen9 hlu9
        generalize (putL cl n O x).length = z2 at t1 hlen9 hlo9
        have hw9 : IntKind.i64.wrap ((z1 : Int) + (z2 : Int)) = (z1 : Int) + (z2 : Int) := IntWalk.i64_in _ (by omega)
        simp only [Int.natCast_add] at hlen9
        clear e1 e2 HT hST9 hb5
        go_quiet ((first | (go_at_call 16; with_reducible exact Calls.quiet_of (hlen9 _)) | (go_at_call 16; with_reducible exact Calls.quiet_of_same (len_none2 _))))
        clear hw9 hlen9
        go_wp2
        exact ⟨⟨k + 1, by omega, by go_num, ⟨⟨_, _, _, HSS.out.below (bdraws0 _ _)⟩, bdraws HBB.out _⟩⟩, by simp [intOf]; omega⟩
      by_cases h1 : kd = 1
      · subst h1
        have hx1 := hST1.bx.drew
        have hr1 := RBx.drew hST1.rb
        have hbW1 := hbW1.drew
        have hB1 : q + 1 ≤ (wr.alloc (.cells #[.int .i64 1, .string x] 30)).drew.heap.size := hST1.hB
        have hp1 := hST.bx.lt
        have hq1 := hST.hB
        have hlu := hST1.lu
        have hlo := hST1.lo
        have m0 : (wr.alloc (.cells #[.int .i64 1, .string x] 30)).drew.cell? ⟨wr.heap.size, 0, none⟩ = some (.int .i64 1) := m0
        have m1 : (wr.alloc (.cells #[.int .i64 1, .string x] 30)).drew.cell? ⟨wr.heap.size, 1, none⟩ = some (.string x) := m1
        go_wp2_with fail
        generalize wr.alloc (.cells #[.int .i64 1, .string x] 30) = W1 at *
        obtain ⟨bb, hbb⟩ : ∃ bb, wr.heap.size = bb := ⟨_, rfl⟩
        rw [hbb] at hp1 hq1 m0 m1
        simp only [hbb]
        clear hbb g0 g1
        obtain ⟨c, hc⟩ : ∃ c, putE cl n O.length = c := ⟨_, rfl⟩
        have hc := Lib.hid hc
        have hS : ∀ w1 w2 : World, Frm (fun k => k = cu ∨ k = co) w1 w2 → w1.cell? ⟨bb, 0, none⟩ = some (.int .i64 1) ∧ w1.cell? ⟨bb, 1, none⟩ = some (.string x) → w2.cell? ⟨bb, 0, none⟩ = some (.int .i64 1) ∧ w2.cell? ⟨bb, 1, none⟩ = some (.string x) := fun _ _ hf h =>
          ⟨hf.cell (p := ⟨bb, 0, none⟩) (show ¬ (bb = cu ∨ bb = co) by omega) h.1, hf.cell (p := ⟨bb, 1, none⟩) (show ¬ (bb = cu ∨ bb = co) by omega) h.2⟩
        have hS2 : ∀ w1 w2 : World, Frm (fun k => k = q) w1 w2 → w1.cell? ⟨bb, 0, none⟩ = some (.int .i64 1) ∧ w1.cell? ⟨bb, 1, none⟩ = some (.string x) → w2.cell? ⟨bb, 0, none⟩ = some (.int .i64 1) ∧ w2.cell? ⟨bb, 1, none⟩ = some (.string x) := fun _ _ hf h =>
          ⟨hf.cell (p := ⟨bb, 0, none⟩) (show ¬ bb = q by omega) h.1, hf.cell (p := ⟨bb, 1, none⟩) (show ¬ bb = q by omega) h.2⟩
        have M1 := And.intro m0 m1
        clear m0 m1
        have hS := Lib.hid hS
        have hS2 := Lib.hid hS2
        have hcP := Lib.hid (put_of hx1 x false (U' := U) (O' := putL cl n O x) rfl rfl hc.out)
        have hcR := Lib.hid (fun (w : World) (h : RBx w q (q + 1) U O n cl) (hB : q + 1 ≤ w.heap.size) => rput_of h hB (by omega) (by omega) (by omega) x false (U' := U) (O' := putL cl n O x) rfl rfl hc.out)
        refine wp_region_held_drew (S := (fun w' : World => w'.cell? ⟨bb, 0, none⟩ = some (.int .i64 1) ∧ w'.cell? ⟨bb, 1, none⟩ = some (.string x))) (by kernel_rfl) ?_ (fun hHeld => ?_)
        · first | exact M1 | exact M4 | exact M5
        first | (refine tw (i := 0) (v := ?_) ?_ hHeld ?_; rotate_left; focus (intro w hSw; (try dsimp only at hSw); go_simp; (try with_reducible rfl); done)) | refine tn (i := 0) hHeld ?_
        try simp only [Act.put, List.setIfInBounds_toArray, List.set_cons_zero, List.set_cons_succ]
        first | (refine tw (i := 1) (v := ?_) ?_ hHeld ?_; rotate_left; focus (intro w hSw; (try dsimp only at hSw); go_simp; (try with_reducible rfl); done)) | refine tn (i := 1) hHeld ?_
        try simp only [Act.put, List.setIfInBounds_toArray, List.set_cons_zero, List.set_cons_succ]
        first | (refine tw (i := 2) (v := ?_) ?_ hHeld ?_; rotate_left; focus (intro w hSw; (try dsimp only at hSw); go_simp; (try with_reducible rfl); done)) | refine tn (i := 2) hHeld ?_
        try simp only [Act.put, List.setIfInBounds_toArray, List.set_cons_zero, List.set_cons_succ]
        first | (refine tw (i := 3) (v := ?_) ?_ hHeld ?_; rotate_left; focus (intro w hSw; (try dsimp only at hSw); go_simp; (try with_reducible rfl); done)) | refine tn (i := 3) hHeld ?_
        try simp only [Act.put, List.setIfInBounds_toArray, List.set_cons_zero, List.set_cons_succ]
        first | (refine tw (i := 4) (v := ?_) ?_ hHeld ?_; rotate_left; focus (intro w hSw; (try dsimp only at hSw); go_simp; (try with_reducible rfl); done)) | refine tn (i := 4) hHeld ?_
        try simp only [Act.put, List.setIfInBounds_toArray, List.set_cons_zero, List.set_cons_succ]
        first | (refine tw (i := 5) (v := ?_) ?_ hHeld ?_; rotate_left; focus (intro w hSw; (try dsimp only at hSw); go_simp; (try with_reducible rfl); done)) | refine tn (i := 5) hHeld ?_
        try simp only [Act.put, List.setIfInBounds_toArray, List.set_cons_zero, List.set_cons_succ]
        first | (refine tw (i := 7) (v := ?_) ?_ hHeld ?_; rotate_left; focus (intro w hSw; (try dsimp only at hSw); go_simp; (try with_reducible rfl); done)) | refine tn (i := 7) hHeld ?_
        try simp only [Act.put, List.setIfInBounds_toArray, List.set_cons_zero, List.set_cons_succ]
        first | (refine tw (i := 8) (v := ?_) ?_ hHeld ?_; rotate_left; focus (intro w hSw; (try dsimp only at hSw); go_simp; (try with_reducible rfl); done)) | refine tn (i := 8) hHeld ?_
        try simp only [Act.put, List.setIfInBounds_toArray, List.set_cons_zero, List.set_cons_succ]
        first | (refine tw (i := 9) (v := ?_) ?_ hHeld ?_; rotate_left; focus (intro w hSw; (try dsimp only at hSw); go_simp; (try with_reducible rfl); done)) | refine tn (i := 9) hHeld ?_
        try simp only [Act.put, List.setIfInBounds_toArray, List.set_cons_zero, List.set_cons_succ]
        first | (refine tw (i := 10) (v := ?_) ?_ hHeld ?_; rotate_left; focus (intro w hSw; (try dsimp only at hSw); go_simp; (try with_reducible rfl); done)) | refine tn (i := 10) hHeld ?_
        try simp only [Act.put, List.setIfInBounds_toArray, List.set_cons_zero, List.set_cons_succ]
        first | (refine tw (i := 11) (v := ?_) ?_ hHeld ?_; rotate_left; focus (intro w hSw; (try dsimp only at hSw); go_simp; (try with_reducible rfl); done)) | refine tn (i := 11) hHeld ?_
        try simp only [Act.put, List.setIfInBounds_toArray, List.set_cons_zero, List.set_cons_succ]
        first | (refine tw (i := 12) (v := ?_) ?_ hHeld ?_; rotate_left; focus (intro w hSw; (try dsimp only at hSw); go_simp; (try with_reducible rfl); done)) | refine tn (i := 12) hHeld ?_
        try simp only [Act.put, List.setIfInBounds_toArray, List.set_cons_zero, List.set_cons_succ]
        refine call_next (i := 6) (by kernel_rfl) (by rfl) ?_
        intro o ho K hK
        simp only [List.getElem?_toArray, List.getElem?_cons_succ, List.getElem?_cons_zero, Option.some.injEq] at ho
        subst ho
        first | (fail; refine hK.out _ _ ?_ (fun hHeld => ?_)) | (go_simp; first | (with_reducible refine hK.out _ _ ?_ (fun hHeld => ?_)) | ((first | (go_at_call 7; (with_reducible refine hcP.out.mono ?_); rintro e w4 ⟨rfl, hx4, hf4⟩; have hr4 := hLay.a hr1 hf4; have hb4 := hLay.ba hbW1 hNw.out.symm hf4; have hz4 := Nat.le_trans hB1 hf4.size; have M4 := hS.out _ _ hf4 M1; clear hx1 hr1) | (go_at_call 11; (with_reducible refine (hcR.out _ hr4 hz4).mono ?_); rintro e w5 ⟨rfl, hr5, hf5⟩; have hx5 := hLay.b hx4 hf5; have hb5 := hLay.bb hb4 hNw.out.symm hf5; have hz5 := Nat.le_trans hz4 hf5.size; have M5 := hS2.out _ _ hf5 M4; clear hr4) | (go_at_call 7; (with_reducible refine (put_none _ _ _).mono ?_); rintro e wx ⟨rfl, rfl⟩)); refine hK.out _ _ ?_ (fun hHeld => ?_)))
        · first | exact M1 | exact M4 | exact M5
        clear hK K
        try simp only [Act.put, List.setIfInBounds_toArray, List.set_cons_zero, List.set_cons_succ]
        refine call_next (i := 13) (by kernel_rfl) (by rfl) ?_
        intro o ho K hK
        simp only [List.getElem?_toArray, List.getElem?_cons_succ, List.getElem?_cons_zero, Option.some.injEq] at ho
        subst ho
        first | (fail; refine hK.out _ _ ?_ (fun hHeld => ?_)) | (go_simp; first | (with_reducible refine hK.out _ _ ?_ (fun hHeld => ?_)) | ((first | (go_at_call 7; (with_reducible refine hcP.out.mono ?_); rintro e w4 ⟨rfl, hx4, hf4⟩; have hr4 := hLay.a hr1 hf4; have hb4 := hLay.ba hbW1 hNw.out.symm hf4; have hz4 := Nat.le_trans hB1 hf4.size; have M4 := hS.out _ _ hf4 M1; clear hx1 hr1) | (go_at_call 11; (with_reducible refine (hcR.out _ hr4 hz4).mono ?_); rintro e w5 ⟨rfl, hr5, hf5⟩; have hx5 := hLay.b hx4 hf5; have hb5 := hLay.bb hb4 hNw.out.symm hf5; have hz5 := Nat.le_trans hz4 hf5.size; have M5 := hS2.out _ _ hf5 M4; clear hr4) | (go_at_call 7; (with_reducible refine (put_none _ _ _).mono ?_); rintro e wx ⟨rfl, rfl⟩)); refine hK.out _ _ ?_ (fun hHeld => ?_)))
        · first | exact M1 | exact M4 | exact M5
        clear hK K
        try simp only [Act.put, List.setIfInBounds_toArray, List.set_cons_zero, List.set_cons_succ]
        first | (refine tw (i := 14) (v := ?_) ?_ hHeld ?_; rotate_left; focus (intro w hSw; (try dsimp only at hSw); go_simp; (try with_reducible rfl); done)) | refine tn (i := 14) hHeld ?_
        try simp only [Act.put, List.setIfInBounds_toArray, List.set_cons_zero, List.set_cons_succ]
        first | (refine tw (i := 15) (v := ?_) ?_ hHeld ?_; rotate_left; focus (intro w hSw; (try dsimp only at hSw); go_simp; (try with_reducible rfl); done)) | refine tn (i := 15) hHeld ?_
        try simp only [Act.put, List.setIfInBounds_toArray, List.set_cons_zero, List.set_cons_succ]
        first | (refine tw (i := 16) (v := ?_) ?_ hHeld ?_; rotate_left; focus (intro w hSw; (try dsimp only at hSw); go_simp; (try with_reducible rfl); done)) | refine tn (i := 16) hHeld ?_
        try simp only [Act.put, List.setIfInBounds_toArray, List.set_cons_zero, List.set_cons_succ]
        first | (refine tw (i := 17) (v := ?_) ?_ hHeld ?_; rotate_left; focus (intro w hSw; (try dsimp only at hSw); go_simp; (try with_reducible rfl); done)) | refine tn (i := 17) hHeld ?_
        try simp only [Act.put, List.setIfInBounds_toArray, List.set_cons_zero, List.set_cons_succ]
        first | (refine tw (i := 18) (v := ?_) ?_ hHeld ?_; rotate_left; focus (intro w hSw; (try dsimp only at hSw); go_simp; (try with_reducible rfl); done)) | refine tn (i := 18) hHeld ?_
        try simp only [Act.put, List.setIfInBounds_toArray, List.set_cons_zero, List.set_cons_succ]
        refine call_next (i := 19) (by kernel_rfl) (by rfl) ?_
        intro o ho K hK
        simp only [List.getElem?_toArray, List.getElem?_cons_succ, List.getElem?_cons_zero, Option.some.injEq] at ho
        subst ho
        first | (fail; refine hK.out _ _ ?_ (fun hHeld => ?_)) | (go_simp; first | (with_reducible refine hK.out _ _ ?_ (fun hHeld => ?_)) | ((first | (go_at_call 7; (with_reducible refine hcP.out.mono ?_); rintro e w4 ⟨rfl, hx4, hf4⟩; have hr4 := hLay.a hr1 hf4; have hb4 := hLay.ba hbW1 hNw.out.symm hf4; have hz4 := Nat.le_trans hB1 hf4.size; have M4 := hS.out _ _ hf4 M1; clear hx1 hr1) | (go_at_call 11; (with_reducible refine (hcR.out _ hr4 hz4).mono ?_); rintro e w5 ⟨rfl, hr5, hf5⟩; have hx5 := hLay.b hx4 hf5; have hb5 := hLay.bb hb4 hNw.out.symm hf5; have hz5 := Nat.le_trans hz4 hf5.size; have M5 := hS2.out _ _ hf5 M4; clear hr4) | (go_at_call 7; (with_reducible refine (put_none _ _ _).mono ?_); rintro e wx ⟨rfl, rfl⟩)); refine hK.out _ _ ?_ (fun hHeld => ?_)))
        · first | exact M1 | exact M4 | exact M5
        clear hK K
        try simp only [Act.put, List.setIfInBounds_toArray, List.set_cons_zero, List.set_cons_succ]
        first | (refine tw (i := 20) (v := ?_) ?_ hHeld ?_; rotate_left; focus (intro w hSw; (try dsimp only at hSw); go_simp; (try with_reducible rfl); done)) | refine tn (i := 20) hHeld ?_
        try simp only [Act.put, List.setIfInBounds_toArray, List.set_cons_zero, List.set_cons_succ]
        first | (refine tw (i := 21) (v := ?_) ?_ hHeld ?_; rotate_left; focus (intro w hSw; (try dsimp only at hSw); go_simp; (try with_reducible rfl); done)) | refine tn (i := 21) hHeld ?_
        try simp only [Act.put, List.setIfInBounds_toArray, List.set_cons_zero, List.set_cons_succ]
        first | (refine tw (i := 22) (v := ?_) ?_ hHeld ?_; rotate_left; focus (intro w hSw; (try dsimp only at hSw); go_simp; (try with_reducible rfl); done)) | refine tn (i := 22) hHeld ?_
        try simp only [Act.put, List.setIfInBounds_toArray, List.set_cons_zero, List.set_cons_succ]
        refine wpAnyH_done (by kernel_rfl) ?_ _
        go_wp2
        clear M1 M4 M5 hS hS2 hcP hcR
        obtain ⟨vu9, vo9, HT⟩ := hr5
        obtain ⟨a1, cp1, e1⟩ := HT.u.len
        obtain ⟨a2, cp2, e2⟩ := HT.o.len
        have t0 := HT.c0
        have t1 := HT.c1
        rw [e1] at t0
        rw [e2] at t1
        have hlen9 := fun m => len_any p cu co n (U) (putL cl n O x) (cl) (World.drewN w5 m) (BX.drewN hx5 m) (Nat.le_trans hST1.lu (by omega)) (Nat.le_trans (putL_len _ _ _ _ hST1.lo) (by omega))
        have hST9 : ST N p cu co q (q + 1) n (U) (putL cl n O x) (cl) w5 := ⟨hx5, ⟨_, _, HT⟩, hz5, hST1.lu, (putL_len _ _ _ _ hST1.lo)⟩
        have HSS := Lib.hid hST9
        have HBB := Lib.hid hb5
        have hlu9 : (U).length ≤ 100 := Nat.le_trans hST1.lu hN
        have hlo9 : (putL cl n O x).length ≤ 100 := Nat.le_trans (putL_len _ _ _ _ hST1.lo) hN
        generalize (U).length = z1 at t0 hlen9 hlu9
        generalize (putL cl n O x).length = z2 at t1 hlen9 hlo9
        have hw9 : IntKind.i64.wrap ((z1 : Int) + (z2 : Int)) = (z1 : Int) + (z2 : Int) := IntWalk.i64_in _ (by omega)
        simp only [Int.natCast_add] at hlen9
        clear e1 e2 HT hST9 hb5
        go_quiet ((first | (go_at_call 16; with_reducible exact Calls.quiet_of (hlen9 _)) | (go_at_call 16; with_reducible exact Calls.quiet_of_same (len_none2 _))))
        clear hw9 hlen9
        go_wp2
        exact ⟨⟨k + 1, by omega, by go_num, ⟨⟨_, _, _, HSS.out.below (bdraws0 _ _)⟩, bdraws HBB.out _⟩⟩, by simp [intOf]; omega⟩
      by_cases h2 : kd = 2
      · subst h2
        have hx1 := hST1.bx.drew
        have hr1 := RBx.drew hST1.rb
        have hbW1 := hbW1.drew
        have hB1 : q + 1 ≤ (wr.alloc (.cells #[.int .i64 2, .string x] 30)).drew.heap.size := hST1.hB
        have hp1 := hST.bx.lt
        have hq1 := hST.hB
        have hlu := hST1.lu
        have hlo := hST1.lo
        have m0 : (wr.alloc (.cells #[.int .i64 2, .string x] 30)).drew.cell? ⟨wr.heap.size, 0, none⟩ = some (.int .i64 2) := m0
        have m1 : (wr.alloc (.cells #[.int .i64 2, .string x] 30)).drew.cell? ⟨wr.heap.size, 1, none⟩ = some (.string x) := m1
        go_wp2_with fail
        generalize wr.alloc (.cells #[.int .i64 2, .string x] 30) = W1 at *
        obtain ⟨bb, hbb⟩ : ∃ bb, wr.heap.size = bb := ⟨_, rfl⟩
        rw [hbb] at hp1 hq1 m0 m1
        simp only [hbb]
        clear hbb g0 g1
        obtain ⟨c, hc⟩ : ∃ c, putE cl n U.length = c := ⟨_, rfl⟩
        have hc := Lib.hid hc
        have hS : ∀ w1 w2 : World, Frm (fun k => k = cu ∨ k = co) w1 w2 → w1.cell? ⟨bb, 0, none⟩ = some (.int .i64 2) ∧ w1.cell? ⟨bb, 1, none⟩ = some (.string x) → w2.cell? ⟨bb, 0, none⟩ = some (.int .i64 2) ∧ w2.cell? ⟨bb, 1, none⟩ = some (.string x) := fun _ _ hf h =>
          ⟨hf.cell (p := ⟨bb, 0, none⟩) (show ¬ (bb = cu ∨ bb = co) by omega) h.1, hf.cell (p := ⟨bb, 1, none⟩) (show ¬ (bb = cu ∨ bb = co) by omega) h.2⟩
        have hS2 : ∀ w1 w2 : World, Frm (fun k => k = q) w1 w2 → w1.cell? ⟨bb, 0, none⟩ = some (.int .i64 2) ∧ w1.cell? ⟨bb, 1, none⟩ = some (.string x) → w2.cell? ⟨bb, 0, none⟩ = some (.int .i64 2) ∧ w2.cell? ⟨bb, 1, none⟩ = some (.string x) := fun _ _ hf h =>
          ⟨hf.cell (p := ⟨bb, 0, none⟩) (show ¬ bb = q by omega) h.1, hf.cell (p := ⟨bb, 1, none⟩) (show ¬ bb = q by omega) h.2⟩
        have M1 := And.intro m0 m1
        clear m0 m1
        have hS := Lib.hid hS
        have hS2 := Lib.hid hS2
        have hcP := Lib.hid (put_of hx1 x true (U' := putL cl n U x) (O' := O) rfl rfl hc.out)
        have hcR := Lib.hid (fun (w : World) (h : RBx w q (q + 1) U O n cl) (hB : q + 1 ≤ w.heap.size) => rput_of h hB (by omega) (by omega) (by omega) x true (U' := putL cl n U x) (O' := O) rfl rfl hc.out)
        refine wp_region_held_drew (S := (fun w' : World => w'.cell? ⟨bb, 0, none⟩ = some (.int .i64 2) ∧ w'.cell? ⟨bb, 1, none⟩ = some (.string x))) (by kernel_rfl) ?_ (fun hHeld => ?_)
        · first | exact M1 | exact M4 | exact M5
        first | (refine tw (i := 0) (v := ?_) ?_ hHeld ?_; rotate_left; focus (intro w hSw; (try dsimp only at hSw); go_simp; (try with_reducible rfl); done)) | refine tn (i := 0) hHeld ?_
        try simp only [Act.put, List.setIfInBounds_toArray, List.set_cons_zero, List.set_cons_succ]
        first | (refine tw (i := 1) (v := ?_) ?_ hHeld ?_; rotate_left; focus (intro w hSw; (try dsimp only at hSw); go_simp; (try with_reducible rfl); done)) | refine tn (i := 1) hHeld ?_
        try simp only [Act.put, List.setIfInBounds_toArray, List.set_cons_zero, List.set_cons_succ]
        first | (refine tw (i := 2) (v := ?_) ?_ hHeld ?_; rotate_left; focus (intro w hSw; (try dsimp only at hSw); go_simp; (try with_reducible rfl); done)) | refine tn (i := 2) hHeld ?_
        try simp only [Act.put, List.setIfInBounds_toArray, List.set_cons_zero, List.set_cons_succ]
        first | (refine tw (i := 3) (v := ?_) ?_ hHeld ?_; rotate_left; focus (intro w hSw; (try dsimp only at hSw); go_simp; (try with_reducible rfl); done)) | refine tn (i := 3) hHeld ?_
        try simp only [Act.put, List.setIfInBounds_toArray, List.set_cons_zero, List.set_cons_succ]
        first | (refine tw (i := 4) (v := ?_) ?_ hHeld ?_; rotate_left; focus (intro w hSw; (try dsimp only at hSw); go_simp; (try with_reducible rfl); done)) | refine tn (i := 4) hHeld ?_
        try simp only [Act.put, List.setIfInBounds_toArray, List.set_cons_zero, List.set_cons_succ]
        first | (refine tw (i := 5) (v := ?_) ?_ hHeld ?_; rotate_left; focus (intro w hSw; (try dsimp only at hSw); go_simp; (try with_reducible rfl); done)) | refine tn (i := 5) hHeld ?_
        try simp only [Act.put, List.setIfInBounds_toArray, List.set_cons_zero, List.set_cons_succ]
        first | (refine tw (i := 7) (v := ?_) ?_ hHeld ?_; rotate_left; focus (intro w hSw; (try dsimp only at hSw); go_simp; (try with_reducible rfl); done)) | refine tn (i := 7) hHeld ?_
        try simp only [Act.put, List.setIfInBounds_toArray, List.set_cons_zero, List.set_cons_succ]
        first | (refine tw (i := 8) (v := ?_) ?_ hHeld ?_; rotate_left; focus (intro w hSw; (try dsimp only at hSw); go_simp; (try with_reducible rfl); done)) | refine tn (i := 8) hHeld ?_
        try simp only [Act.put, List.setIfInBounds_toArray, List.set_cons_zero, List.set_cons_succ]
        first | (refine tw (i := 9) (v := ?_) ?_ hHeld ?_; rotate_left; focus (intro w hSw; (try dsimp only at hSw); go_simp; (try with_reducible rfl); done)) | refine tn (i := 9) hHeld ?_
        try simp only [Act.put, List.setIfInBounds_toArray, List.set_cons_zero, List.set_cons_succ]
        first | (refine tw (i := 10) (v := ?_) ?_ hHeld ?_; rotate_left; focus (intro w hSw; (try dsimp only at hSw); go_simp; (try with_reducible rfl); done)) | refine tn (i := 10) hHeld ?_
        try simp only [Act.put, List.setIfInBounds_toArray, List.set_cons_zero, List.set_cons_succ]
        first | (refine tw (i := 11) (v := ?_) ?_ hHeld ?_; rotate_left; focus (intro w hSw; (try dsimp only at hSw); go_simp; (try with_reducible rfl); done)) | refine tn (i := 11) hHeld ?_
        try simp only [Act.put, List.setIfInBounds_toArray, List.set_cons_zero, List.set_cons_succ]
        first | (refine tw (i := 12) (v := ?_) ?_ hHeld ?_; rotate_left; focus (intro w hSw; (try dsimp only at hSw); go_simp; (try with_reducible rfl); done)) | refine tn (i := 12) hHeld ?_
        try simp only [Act.put, List.setIfInBounds_toArray, List.set_cons_zero, List.set_cons_succ]
        refine call_next (i := 6) (by kernel_rfl) (by rfl) ?_
        intro o ho K hK
        simp only [List.getElem?_toArray, List.getElem?_cons_succ, List.getElem?_cons_zero, Option.some.injEq] at ho
        subst ho
        first | (fail; refine hK.out _ _ ?_ (fun hHeld => ?_)) | (go_simp; first | (with_reducible refine hK.out _ _ ?_ (fun hHeld => ?_)) | ((first | (go_at_call 7; (with_reducible refine hcP.out.mono ?_); rintro e w4 ⟨rfl, hx4, hf4⟩; have hr4 := hLay.a hr1 hf4; have hb4 := hLay.ba hbW1 hNw.out.symm hf4; have hz4 := Nat.le_trans hB1 hf4.size; have M4 := hS.out _ _ hf4 M1; clear hx1 hr1) | (go_at_call 11; (with_reducible refine (hcR.out _ hr4 hz4).mono ?_); rintro e w5 ⟨rfl, hr5, hf5⟩; have hx5 := hLay.b hx4 hf5; have hb5 := hLay.bb hb4 hNw.out.symm hf5; have hz5 := Nat.le_trans hz4 hf5.size; have M5 := hS2.out _ _ hf5 M4; clear hr4) | (go_at_call 7; (with_reducible refine (put_none _ _ _).mono ?_); rintro e wx ⟨rfl, rfl⟩)); refine hK.out _ _ ?_ (fun hHeld => ?_)))
        · first | exact M1 | exact M4 | exact M5
        clear hK K
        try simp only [Act.put, List.setIfInBounds_toArray, List.set_cons_zero, List.set_cons_succ]
        refine call_next (i := 13) (by kernel_rfl) (by rfl) ?_
        intro o ho K hK
        simp only [List.getElem?_toArray, List.getElem?_cons_succ, List.getElem?_cons_zero, Option.some.injEq] at ho
        subst ho
        first | (fail; refine hK.out _ _ ?_ (fun hHeld => ?_)) | (go_simp; first | (with_reducible refine hK.out _ _ ?_ (fun hHeld => ?_)) | ((first | (go_at_call 7; (with_reducible refine hcP.out.mono ?_); rintro e w4 ⟨rfl, hx4, hf4⟩; have hr4 := hLay.a hr1 hf4; have hb4 := hLay.ba hbW1 hNw.out.symm hf4; have hz4 := Nat.le_trans hB1 hf4.size; have M4 := hS.out _ _ hf4 M1; clear hx1 hr1) | (go_at_call 11; (with_reducible refine (hcR.out _ hr4 hz4).mono ?_); rintro e w5 ⟨rfl, hr5, hf5⟩; have hx5 := hLay.b hx4 hf5; have hb5 := hLay.bb hb4 hNw.out.symm hf5; have hz5 := Nat.le_trans hz4 hf5.size; have M5 := hS2.out _ _ hf5 M4; clear hr4) | (go_at_call 7; (with_reducible refine (put_none _ _ _).mono ?_); rintro e wx ⟨rfl, rfl⟩)); refine hK.out _ _ ?_ (fun hHeld => ?_)))
        · first | exact M1 | exact M4 | exact M5
        clear hK K
        try simp only [Act.put, List.setIfInBounds_toArray, List.set_cons_zero, List.set_cons_succ]
        first | (refine tw (i := 14) (v := ?_) ?_ hHeld ?_; rotate_left; focus (intro w hSw; (try dsimp only at hSw); go_simp; (try with_reducible rfl); done)) | refine tn (i := 14) hHeld ?_
        try simp only [Act.put, List.setIfInBounds_toArray, List.set_cons_zero, List.set_cons_succ]
        first | (refine tw (i := 15) (v := ?_) ?_ hHeld ?_; rotate_left; focus (intro w hSw; (try dsimp only at hSw); go_simp; (try with_reducible rfl); done)) | refine tn (i := 15) hHeld ?_
        try simp only [Act.put, List.setIfInBounds_toArray, List.set_cons_zero, List.set_cons_succ]
        first | (refine tw (i := 16) (v := ?_) ?_ hHeld ?_; rotate_left; focus (intro w hSw; (try dsimp only at hSw); go_simp; (try with_reducible rfl); done)) | refine tn (i := 16) hHeld ?_
        try simp only [Act.put, List.setIfInBounds_toArray, List.set_cons_zero, List.set_cons_succ]
        first | (refine tw (i := 17) (v := ?_) ?_ hHeld ?_; rotate_left; focus (intro w hSw; (try dsimp only at hSw); go_simp; (try with_reducible rfl); done)) | refine tn (i := 17) hHeld ?_
        try simp only [Act.put, List.setIfInBounds_toArray, List.set_cons_zero, List.set_cons_succ]
        first | (refine tw (i := 18) (v := ?_) ?_ hHeld ?_; rotate_left; focus (intro w hSw; (try dsimp only at hSw); go_simp; (try with_reducible rfl); done)) | refine tn (i := 18) hHeld ?_
        try simp only [Act.put, List.setIfInBounds_toArray, List.set_cons_zero, List.set_cons_succ]
        refine call_next (i := 19) (by kernel_rfl) (by rfl) ?_
        intro o ho K hK
        simp only [List.getElem?_toArray, List.getElem?_cons_succ, List.getElem?_cons_zero, Option.some.injEq] at ho
        subst ho
        first | (fail; refine hK.out _ _ ?_ (fun hHeld => ?_)) | (go_simp; first | (with_reducible refine hK.out _ _ ?_ (fun hHeld => ?_)) | ((first | (go_at_call 7; (with_reducible refine hcP.out.mono ?_); rintro e w4 ⟨rfl, hx4, hf4⟩; have hr4 := hLay.a hr1 hf4; have hb4 := hLay.ba hbW1 hNw.out.symm hf4; have hz4 := Nat.le_trans hB1 hf4.size; have M4 := hS.out _ _ hf4 M1; clear hx1 hr1) | (go_at_call 11; (with_reducible refine (hcR.out _ hr4 hz4).mono ?_); rintro e w5 ⟨rfl, hr5, hf5⟩; have hx5 := hLay.b hx4 hf5; have hb5 := hLay.bb hb4 hNw.out.symm hf5; have hz5 := Nat.le_trans hz4 hf5.size; have M5 := hS2.out _ _ hf5 M4; clear hr4) | (go_at_call 7; (with_reducible refine (put_none _ _ _).mono ?_); rintro e wx ⟨rfl, rfl⟩)); refine hK.out _ _ ?_ (fun hHeld => ?_)))
        · first | exact M1 | exact M4 | exact M5
        clear hK K
        try simp only [Act.put, List.setIfInBounds_toArray, List.set_cons_zero, List.set_cons_succ]
        first | (refine tw (i := 20) (v := ?_) ?_ hHeld ?_; rotate_left; focus (intro w hSw; (try dsimp only at hSw); go_simp; (try with_reducible rfl); done)) | refine tn (i := 20) hHeld ?_
        try simp only [Act.put, List.setIfInBounds_toArray, List.set_cons_zero, List.set_cons_succ]
        first | (refine tw (i := 21) (v := ?_) ?_ hHeld ?_; rotate_left; focus (intro w hSw; (try dsimp only at hSw); go_simp; (try with_reducible rfl); done)) | refine tn (i := 21) hHeld ?_
        try simp only [Act.put, List.setIfInBounds_toArray, List.set_cons_zero, List.set_cons_succ]
        first | (refine tw (i := 22) (v := ?_) ?_ hHeld ?_; rotate_left; focus (intro w hSw; (try dsimp only at hSw); go_simp; (try with_reducible rfl); done)) | refine tn (i := 22) hHeld ?_
        try simp only [Act.put, List.setIfInBounds_toArray, List.set_cons_zero, List.set_cons_succ]
        refine wpAnyH_done (by kernel_rfl) ?_ _
        go_wp2
        clear M1 M4 M5 hS hS2 hcP hcR
        obtain ⟨vu9, vo9, HT⟩ := hr5
        obtain ⟨a1, cp1, e1⟩ := HT.u.len
        obtain ⟨a2, cp2, e2⟩ := HT.o.len
        have t0 := HT.c0
        have t1 := HT.c1
        rw [e1] at t0
        rw [e2] at t1
        have hlen9 := fun m => len_any p cu co n (putL cl n U x) (O) (cl) (World.drewN w5 m) (BX.drewN hx5 m) (Nat.le_trans (putL_len _ _ _ _ hST1.lu) (by omega)) (Nat.le_trans hST1.lo (by omega))
        have hST9 : ST N p cu co q (q + 1) n (putL cl n U x) (O) (cl) w5 := ⟨hx5, ⟨_, _, HT⟩, hz5, (putL_len _ _ _ _ hST1.lu), hST1.lo⟩
        have HSS := Lib.hid hST9
        have HBB := Lib.hid hb5
        have hlu9 : (putL cl n U x).length ≤ 100 := Nat.le_trans (putL_len _ _ _ _ hST1.lu) hN
        have hlo9 : (O).length ≤ 100 := Nat.le_trans hST1.lo hN
        generalize (putL cl n U x).length = z1 at t0 hlen9 hlu9
        generalize (O).length = z2 at t1 hlen9 hlo9
        have hw9 : IntKind.i64.wrap ((z1 : Int) + (z2 : Int)) = (z1 : Int) + (z2 : Int) := IntWalk.i64_in _ (by omega)
        simp only [Int.natCast_add] at hlen9
        clear e1 e2 HT hST9 hb5
        go_quiet ((first | (go_at_call 16; with_reducible exact Calls.quiet_of (hlen9 _)) | (go_at_call 16; with_reducible exact Calls.quiet_of_same (len_none2 _))))
        clear hw9 hlen9
        go_wp2
        exact ⟨⟨k + 1, by omega, by go_num, ⟨⟨_, _, _, HSS.out.below (bdraws0 _ _)⟩, bdraws HBB.out _⟩⟩, by simp [intOf]; omega⟩
      by_cases h3 : kd = 3
      · subst h3
        have hx1 := hST1.bx
        have hr1 := hST1.rb
        have hB1 := hST1.hB
        have hlu : U.tail.length ≤ n := by have := hST1.lu; simp; omega
        have hlo : (if U.isEmpty then O.tail else O).length ≤ n := by have := hST1.lo; split <;> simp <;> omega
        have hcA := next_any p cu co n U O cl _ hx1
        have hcB := fun w h => rnext_any q (q + 1) U O n cl w h (Nat.le_trans hST1.lu (by omega)) (Nat.le_trans hST1.lo (by omega))
        have he := bse (nextV U O)
        generalize nextV U O = s at hcA hcB he
        generalize (!(U.isEmpty && O.isEmpty)) = g at hcA hcB
        generalize U.tail = U' at hcA hcB hlu
        generalize (if U.isEmpty then O.tail else O) = O' at hcA hcB hlo
        have hcA := Lib.hid hcA
        have hcB := Lib.hid hcB
        go_wp2_with (first | (go_at_call 8; (with_reducible refine hcA.out.mono ?_); rintro e w4 ⟨rfl, hx4, hf4⟩; have hr4 := hLay.a hr1 hf4; have hb4 := hLay.ba hbW1 hNw.out.symm hf4; have hz4 := Nat.le_trans hB1 hf4.size; clear hx1 hr1) | (go_at_call 12; (with_reducible refine (hcB.out _ hr4).mono ?_); rintro e w5 ⟨rfl, hr5, hf5⟩; have hx5 := hLay.b hx4 hf5; have hb5 := hLay.bb hb4 hNw.out.symm hf5; have hz5 := Nat.le_trans hz4 hf5.size; clear hr4) | (go_at_call 8; (with_reducible refine (next_none _).mono ?_); rintro e wx ⟨rfl, rfl⟩))
        clear he
        obtain ⟨vu9, vo9, HT⟩ := hr5
        obtain ⟨a1, cp1, e1⟩ := HT.u.len
        obtain ⟨a2, cp2, e2⟩ := HT.o.len
        have t0 := HT.c0
        have t1 := HT.c1
        rw [e1] at t0
        rw [e2] at t1
        have hlen9 := fun m => len_any p cu co n (U') (O') (cl) (World.drewN w5 m) (BX.drewN hx5 m) (Nat.le_trans hlu (by omega)) (Nat.le_trans hlo (by omega))
        have hST9 : ST N p cu co q (q + 1) n (U') (O') (cl) w5 := ⟨hx5, ⟨_, _, HT⟩, hz5, hlu, hlo⟩
        have HSS := Lib.hid hST9
        have HBB := Lib.hid hb5
        have hlu9 : (U').length ≤ 100 := Nat.le_trans hlu hN
        have hlo9 : (O').length ≤ 100 := Nat.le_trans hlo hN
        generalize (U').length = z1 at t0 hlen9 hlu9
        generalize (O').length = z2 at t1 hlen9 hlo9
        have hw9 : IntKind.i64.wrap ((z1 : Int) + (z2 : Int)) = (z1 : Int) + (z2 : Int) := IntWalk.i64_in _ (by omega)
        simp only [Int.natCast_add] at hlen9
        clear e1 e2 HT hST9 hb5
        go_quiet ((first | (go_at_call 16; with_reducible exact Calls.quiet_of (hlen9 _)) | (go_at_call 16; with_reducible exact Calls.quiet_of_same (len_none2 _))))
        clear hw9 hlen9
        go_wp2
        exact ⟨⟨k + 1, by omega, by go_num, ⟨⟨_, _, _, HSS.out.below (bdraws0 _ _)⟩, bdraws HBB.out _⟩⟩, by simp [intOf]; omega⟩
      by_cases h4 : kd = 4
      · subst h4
        have hx1 := hST1.bx
        have hr1 := hST1.rb
        have hB1 := hST1.hB
        have hlu : U.tail.length ≤ n := by have := hST1.lu; simp; omega
        have hlo : (if U.isEmpty then O.tail else O).length ≤ n := by have := hST1.lo; split <;> simp <;> omega
        have hcA := next_any p cu co n U O cl _ hx1
        have hcB := fun w h => rnext_any q (q + 1) U O n cl w h (Nat.le_trans hST1.lu (by omega)) (Nat.le_trans hST1.lo (by omega))
        have he := bse (nextV U O)
        generalize nextV U O = s at hcA hcB he
        generalize (!(U.isEmpty && O.isEmpty)) = g at hcA hcB
        generalize U.tail = U' at hcA hcB hlu
        generalize (if U.isEmpty then O.tail else O) = O' at hcA hcB hlo
        have hcA := Lib.hid hcA
        have hcB := Lib.hid hcB
        go_wp2_with (first | (go_at_call 8; (with_reducible refine hcA.out.mono ?_); rintro e w4 ⟨rfl, hx4, hf4⟩; have hr4 := hLay.a hr1 hf4; have hb4 := hLay.ba hbW1 hNw.out.symm hf4; have hz4 := Nat.le_trans hB1 hf4.size; clear hx1 hr1) | (go_at_call 12; (with_reducible refine (hcB.out _ hr4).mono ?_); rintro e w5 ⟨rfl, hr5, hf5⟩; have hx5 := hLay.b hx4 hf5; have hb5 := hLay.bb hb4 hNw.out.symm hf5; have hz5 := Nat.le_trans hz4 hf5.size; clear hr4) | (go_at_call 8; (with_reducible refine (next_none _).mono ?_); rintro e wx ⟨rfl, rfl⟩))
        clear he
        obtain ⟨vu9, vo9, HT⟩ := hr5
        obtain ⟨a1, cp1, e1⟩ := HT.u.len
        obtain ⟨a2, cp2, e2⟩ := HT.o.len
        have t0 := HT.c0
        have t1 := HT.c1
        rw [e1] at t0
        rw [e2] at t1
        have hlen9 := fun m => len_any p cu co n (U') (O') (cl) (World.drewN w5 m) (BX.drewN hx5 m) (Nat.le_trans hlu (by omega)) (Nat.le_trans hlo (by omega))
        have hST9 : ST N p cu co q (q + 1) n (U') (O') (cl) w5 := ⟨hx5, ⟨_, _, HT⟩, hz5, hlu, hlo⟩
        have HSS := Lib.hid hST9
        have HBB := Lib.hid hb5
        have hlu9 : (U').length ≤ 100 := Nat.le_trans hlu hN
        have hlo9 : (O').length ≤ 100 := Nat.le_trans hlo hN
        generalize (U').length = z1 at t0 hlen9 hlu9
        generalize (O').length = z2 at t1 hlen9 hlo9
        have hw9 : IntKind.i64.wrap ((z1 : Int) + (z2 : Int)) = (z1 : Int) + (z2 : Int) := IntWalk.i64_in _ (by omega)
        simp only [Int.natCast_add] at hlen9
        clear e1 e2 HT hST9 hb5
        go_quiet ((first | (go_at_call 16; with_reducible exact Calls.quiet_of (hlen9 _)) | (go_at_call 16; with_reducible exact Calls.quiet_of_same (len_none2 _))))
        clear hw9 hlen9
        go_wp2
        exact ⟨⟨k + 1, by omega, by go_num, ⟨⟨_, _, _, HSS.out.below (bdraws0 _ _)⟩, bdraws HBB.out _⟩⟩, by simp [intOf]; omega⟩
      by_cases h6 : kd = 6
      · subst h6
        have hx1 := hST1.bx
        have hr1 := hST1.rb
        have hB1 := hST1.hB
        cases cl with
        | false =>
          go_wp2_with (first | (go_at_call 14; (with_reducible refine (rest_open p cu co n U O _ hx1).mono ?_); rintro e wx ⟨rfl, rfl⟩) | (go_at_call 15; (with_reducible refine (rrest_open q (q + 1) U O n _ hr1).mono ?_); rintro e wx ⟨rfl, rfl⟩) | (go_at_call 14; (with_reducible refine (rest_none _).mono ?_); rintro e wx ⟨rfl, rfl⟩) | (go_at_call 9; (with_reducible refine (same_same (TX.nil _ 0) (TX.nil _ 0) (by simp)).mono ?_); rintro e w4 ⟨rfl, hb4⟩))
          have hx4 := hx1.below hb4
          have hr4 := hr1.frm (S := fun _ => False) (.ofBelow hb4) id (fun _ _ => id)
          have hz4 := Nat.le_trans hB1 hb4.size
          have hbb4 : Below N w w4 := hbW1.trans (hb4.mono (by have := hbW1.size; have := hNw.out; omega))
          obtain ⟨vu9, vo9, HT⟩ := hr4
          obtain ⟨a1, cp1, e1⟩ := HT.u.len
          obtain ⟨a2, cp2, e2⟩ := HT.o.len
          have t0 := HT.c0
          have t1 := HT.c1
          rw [e1] at t0
          rw [e2] at t1
          have hlen9 := fun m => len_any p cu co n (U) (O) (false) (World.drewN w4 m) (BX.drewN hx4 m) (Nat.le_trans hST1.lu (by omega)) (Nat.le_trans hST1.lo (by omega))
          have hST9 : ST N p cu co q (q + 1) n (U) (O) (false) w4 := ⟨hx4, ⟨_, _, HT⟩, hz4, hST1.lu, hST1.lo⟩
          have HSS := Lib.hid hST9
          have HBB := Lib.hid hbb4
          have hlu9 : (U).length ≤ 100 := Nat.le_trans hST1.lu hN
          have hlo9 : (O).length ≤ 100 := Nat.le_trans hST1.lo hN
          generalize (U).length = z1 at t0 hlen9 hlu9
          generalize (O).length = z2 at t1 hlen9 hlo9
          have hw9 : IntKind.i64.wrap ((z1 : Int) + (z2 : Int)) = (z1 : Int) + (z2 : Int) := IntWalk.i64_in _ (by omega)
          simp only [Int.natCast_add] at hlen9
          clear e1 e2 HT hST9 hbb4
          go_quiet ((first | (go_at_call 16; with_reducible exact Calls.quiet_of (hlen9 _)) | (go_at_call 16; with_reducible exact Calls.quiet_of_same (len_none2 _))))
          clear hw9 hlen9
          go_wp2
          exact ⟨⟨k + 1, by omega, by go_num, ⟨⟨_, _, _, HSS.out.below (bdraws0 _ _)⟩, bdraws HBB.out _⟩⟩, by simp [intOf]; omega⟩
        | true =>
          have hl1 : U.length + O.length ≤ 1000 := by have := hST1.lu; have := hST1.lo; omega
          have hlu : U.length ≤ 1000 := by omega
          have hlo : O.length ≤ 1000 := by omega
          have hl2 : (U ++ O).length ≤ 1000 := by simp; omega
          have hq1 : q < (wr.alloc (.cells #[.int .i64 6, .string x] 30)).heap.size := hB1
          go_wp2_with (first | (go_at_call 14; (with_reducible refine (rest_any p cu co n U O _ hx1 hl1).mono ?_); rintro e w4 ⟨⟨v4, rfl, hs4⟩, hx4, hf4⟩; have hr4 := hLay.a hr1 hf4; have hb4 := hLay.ba hbW1 hNw.out.symm hf4; have hz4 := Nat.le_trans hB1 hf4.size; clear hx1 hr1) | (go_at_call 15; (with_reducible refine (rrest_any q (q + 1) U O n _ hr4 hz4 hlu hlo).mono ?_); rintro e w5 ⟨v5, rfl, ht5, hr5, hf5⟩; have hx5 := hLay.b hx4 hf5; have hb5 := hLay.bb hb4 hNw.out.symm hf5; have hz5 := Nat.le_trans hz4 hf5.size; have ht4 := hs4.tx.frm hf5 (fun k hk he => by omega); clear hr4 hs4) | (go_at_call 14; (with_reducible refine (rest_none _).mono ?_); rintro e wx ⟨rfl, rfl⟩) | (go_at_call 9; (with_reducible refine (same_same ht4 ht5 hl2).mono ?_); rintro e w6 ⟨rfl, hb6⟩))
          have hx6 := hx5.below hb6
          have hr6 := hr5.frm (S := fun _ => False) (.ofBelow hb6) id (fun _ _ => id)
          have hz6 := Nat.le_trans hz5 hb6.size
          have hbb6 : Below N w w6 := hb5.trans (hb6.mono (by have := hb5.size; have := hNw.out; omega))
          clear ht4 ht5
          obtain ⟨E1, E2, hle1, hle2, hx7, hr7⟩ : ∃ E1 E2 : List ByteArray, E1.length ≤ n ∧ E2.length ≤ n ∧ BX w6 p cu co n E1 E2 true ∧ RBx w6 q (q + 1) E1 E2 n true := ⟨[], [], Nat.zero_le _, Nat.zero_le _, hx6, hr6⟩
          clear hx6 hr6
          obtain ⟨vu9, vo9, HT⟩ := hr7
          obtain ⟨a1, cp1, e1⟩ := HT.u.len
          obtain ⟨a2, cp2, e2⟩ := HT.o.len
          have t0 := HT.c0
          have t1 := HT.c1
          rw [e1] at t0
          rw [e2] at t1
          have hlen9 := fun m => len_any p cu co n (E1) (E2) (true) (World.drewN w6 m) (BX.drewN hx7 m) (Nat.le_trans hle1 (by omega)) (Nat.le_trans hle2 (by omega))
          have hST9 : ST N p cu co q (q + 1) n (E1) (E2) (true) w6 := ⟨hx7, ⟨_, _, HT⟩, hz6, hle1, hle2⟩
          have HSS := Lib.hid hST9
          have HBB := Lib.hid hbb6
          have hlu9 : (E1).length ≤ 100 := Nat.le_trans hle1 hN
          have hlo9 : (E2).length ≤ 100 := Nat.le_trans hle2 hN
          generalize (E1).length = z1 at t0 hlen9 hlu9
          generalize (E2).length = z2 at t1 hlen9 hlo9
          have hw9 : IntKind.i64.wrap ((z1 : Int) + (z2 : Int)) = (z1 : Int) + (z2 : Int) := IntWalk.i64_in _ (by omega)
          simp only [Int.natCast_add] at hlen9
          clear e1 e2 HT hST9 hbb6
          go_quiet ((first | (go_at_call 16; with_reducible exact Calls.quiet_of (hlen9 _)) | (go_at_call 16; with_reducible exact Calls.quiet_of_same (len_none2 _))))
          clear hw9 hlen9
          go_wp2
          exact ⟨⟨k + 1, by omega, by go_num, ⟨⟨_, _, _, HSS.out.below (bdraws0 _ _)⟩, bdraws HBB.out _⟩⟩, by simp [intOf]; omega⟩
      have d0 : (kd == 0) = false := by simpa using h0
      have d1 : (kd == 1) = false := by simpa using h1
      have d2 : (kd == 2) = false := by simpa using h2
      have d3 : (kd == 3) = false := by simpa using h3
      have d4 : (kd == 4) = false := by simpa using h4
      have d5 : (kd == 5) = false := by simpa using h5
      have d6 : (kd == 6) = false := by simpa using h6
      have hx1 := hST1.bx
      have hr1 := hST1.rb
      have hz1 := hST1.hB
      have hlu1 := hST1.lu
      have hlo1 := hST1.lo
      go_wp2_with fail
      generalize wr.alloc (.cells #[.int .i64 kd, .string x] 30) = W at *
      obtain ⟨vu9, vo9, HT⟩ := hr1
      obtain ⟨a1, cp1, e1⟩ := HT.u.len
      obtain ⟨a2, cp2, e2⟩ := HT.o.len
      have t0 := HT.c0
      have t1 := HT.c1
      rw [e1] at t0
      rw [e2] at t1
      have hlen9 := fun m => len_any p cu co n (U) (O) (cl) (World.drewN W m) (BX.drewN hx1 m) (Nat.le_trans hlu1 (by omega)) (Nat.le_trans hlo1 (by omega))
      have hST9 : ST N p cu co q (q + 1) n (U) (O) (cl) W := ⟨hx1, ⟨_, _, HT⟩, hz1, hlu1, hlo1⟩
      have HSS := Lib.hid hST9
      have HBB := Lib.hid hbW1
      have hlu9 : (U).length ≤ 100 := Nat.le_trans hlu1 hN
      have hlo9 : (O).length ≤ 100 := Nat.le_trans hlo1 hN
      generalize (U).length = z1 at t0 hlen9 hlu9
      generalize (O).length = z2 at t1 hlen9 hlo9
      have hw9 : IntKind.i64.wrap ((z1 : Int) + (z2 : Int)) = (z1 : Int) + (z2 : Int) := IntWalk.i64_in _ (by omega)
      simp only [Int.natCast_add] at hlen9
      clear e1 e2 HT hST9 hbW1
      go_quiet ((first | (go_at_call 16; with_reducible exact Calls.quiet_of (hlen9 _)) | (go_at_call 16; with_reducible exact Calls.quiet_of_same (len_none2 _))))
      clear hw9 hlen9
      go_wp2
      exact ⟨⟨k + 1, by omega, by go_num, ⟨⟨_, _, _, HSS.out.below (bdraws0 _ _)⟩, bdraws HBB.out _⟩⟩, by simp [intOf]; omega⟩
    · obtain rfl : k = len := by omega
      go_wp2
      go_ret
      exact ⟨rfl, hNw.out ▸ hbW⟩
end Go.Proofs.Ytmhmdcfdodiphaa
