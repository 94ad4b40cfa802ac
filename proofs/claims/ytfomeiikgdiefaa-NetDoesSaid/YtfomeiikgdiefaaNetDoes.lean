/-
  Whatever arrives, is lost and doubled (chapter 26): the walk of NetDoes.
-/
import Derived.Test.YtfomeiikgdiefaaNetRef
import Derived.Test.YtfomeiikgdiefaaNetCounts
import Derived.Deep.Cut
import Derived.Deep.CutRange
import Derived.Deep.CutBlock
namespace Go.Proofs.Ytfomeiikgdiefaa
open Go.RowKit
set_option linter.unusedVariables false
set_option linter.unusedSimpArgs false

/-- both nets, all of it behind B -/
structure ND (B p q : Nat) (v u : Value) (Ln Lr : List U2) (w W : World) : Prop where
  n : NT 44 W p B v Ln
  r : NT 30 W q B u Lr
  ap : Apart v u
  bel : Below B w W
  hp : B ≤ p
  hq : B ≤ q
  hB : B ≤ W.heap.size
section
variable {B p q : Nat} {v u : Value} {Ln Lr L' : List U2} {w W W' : World}
theorem ND.below (h : ND B p q v u Ln Lr w W) (hb : Below W.heap.size W W') : ND B p q v u Ln Lr w W' :=
  ⟨h.n.below hb, h.r.below hb, h.ap, h.bel.trans (hb.mono h.hB), h.hp, h.hq, Nat.le_trans h.hB hb.size⟩
theorem ND.pq (h : ND B p q v u Ln Lr w W) : p ≠ q := by
  rintro rfl
  have h1 := h.n.box
  rw [h.r.box] at h1
  simp only [Option.some.injEq, Obj.cells.injEq] at h1
  exact absurd h1.2.1 (by decide)
theorem ND.net (h : ND B p q v u Ln Lr w W) (hc : ∃ v', NT 44 W' p B v' L' ∧ Stay W v v' ∧ Frm (fun k => k = p ∨ some k = v.ownBlock) W W') : ∃ v', ND B p q v' u L' Lr w W' := by
  obtain ⟨v', h1, h2, h3⟩ := hc
  have hpq := h.pq
  have hvq := h.n.row.ne h.r.box (by decide)
  have hup := h.r.row.ne h.n.box (by decide)
  refine ⟨v', h1, h.r.frm h3 ?_ ?_, h.ap.stay h2 h.r.row, h3.after h.bel h.hB ?_, h.hp, h.hq, Nat.le_trans h.hB h3.size⟩
  · rintro (e | e)
    · exact hpq e.symm
    · exact hvq e.symm
  · rintro g hg (e | e)
    · subst e; exact hup hg
    · exact h.ap g e.symm hg
  · rintro k hk (rfl | e)
    · have := h.hp; omega
    · have := (h.n.row.lt k e.symm).1; omega
theorem ND.ref (h : ND B p q v u Ln Lr w W) (hc : ∃ u', NT 30 W' q B u' L' ∧ Sty W u u' ∧ Frm (fun k => k = q) W W') : (∃ u', ND B p q v u' Ln L' w W') ∧ Frm (fun k => k = q) W W' := by
  obtain ⟨u', h1, h2, h3⟩ := hc
  have hpq := h.pq
  have hvq := h.n.row.ne h.r.box (by decide)
  refine ⟨⟨u', h.n.frm h3 hpq ?_, h1, ?_, h3.after h.bel h.hB ?_, h.hp, h.hq, Nat.le_trans h.hB h3.size⟩, h3⟩
  · intro g hg e
    subst e; exact hvq hg
  · intro g hg hu
    rcases h2 g hu with h4 | h4
    · exact h.ap g hg h4
    · have := (h.n.row.lt g hg).2; omega
  · rintro k hk rfl
    have := h.hq; omega
theorem put_d (x : U2) (h : ND B p q v u Ln Lr w W) (hm : Ln.length ≤ 1000) : Calls Try.prog 8 #[.pointer (some ⟨p, 0, none⟩), .agg #[.int .i64 x.1, .string x.2]] W fun e W' => e = .returned (.int .i64 (putE x Ln.length)) ∧ ∃ v', ND B p q v' u (putL x Ln) Lr w W' :=
  (nput_any p B v Ln x.1 x.2 W h.n h.hB hm).mono fun e w' hc => ⟨hc.1, h.net hc.2⟩
theorem take_d (n : Int) (h : ND B p q v u Ln Lr w W) (hm : Ln.length ≤ 1000) : Calls Try.prog 10 #[.pointer (some ⟨p, 0, none⟩), .int .i64 n] W fun e W' => e = .returned (.tuple #[.agg #[.int .i64 (lookV Ln n).1, .string (lookV Ln n).2], .bool (lookB Ln)]) ∧ ∃ v', ND B p q v' u (takeL Ln n) Lr w W' := by
  by_cases h0 : Ln = []
  · subst h0
    exact (take_zero p B v n W h.n).mono fun e w' hc => ⟨hc.1, v, h.below hc.2⟩
  · obtain ⟨h1, h2⟩ := look_at h0 hm n
    rw [h2]
    exact (take_any p B v Ln n _ W h.n hm h1).mono fun e w' hc => ⟨hc.1, h.net hc.2⟩
theorem lose_d (n : Int) (h : ND B p q v u Ln Lr w W) (hm : Ln.length ≤ 1000) : Calls Try.prog 12 #[.pointer (some ⟨p, 0, none⟩), .int .i64 n] W fun e W' => e = .returned (.bool (lookB Ln)) ∧ ∃ v', ND B p q v' u (takeL Ln n) Lr w W' := by
  by_cases h0 : Ln = []
  · subst h0
    exact (lose_zero p B v n W h.n).mono fun e w' hc => ⟨hc.1, v, h.below hc.2⟩
  · obtain ⟨h1, h2⟩ := look_at h0 hm n
    rw [h2]
    exact (lose_any p B v Ln n _ W h.n hm h1).mono fun e w' hc => ⟨hc.1, h.net hc.2⟩
theorem double_d (n : Int) (h : ND B p q v u Ln Lr w W) (hm : Ln.length ≤ 1000) : Calls Try.prog 13 #[.pointer (some ⟨p, 0, none⟩), .int .i64 n] W fun e W' => e = .returned (.bool (dblB Ln n)) ∧ ∃ v', ND B p q v' u (dblL Ln n) Lr w W' := by
  by_cases h0 : Ln = []
  · subst h0
    exact (double_zero p B v n W h.n).mono fun e w' hc => ⟨hc.1, v, h.below hc.2⟩
  · obtain ⟨h1, h2⟩ := look_at h0 hm n
    unfold dblB dblL
    rw [h2, if_pos rfl, Bool.true_and]
    exact (double_any p B v Ln n _ W h.n h.hB hm h1).mono fun e w' hc => ⟨hc.1, h.net hc.2⟩
theorem clear_d (n : Int) (h : ND B p q v u Ln Lr w W) (hm : Ln.length ≤ 1000) : Calls Try.prog 15 #[.pointer (some ⟨p, 0, none⟩), .int .i64 n] W fun e W' => e = .returned (.int .i64 ((Ln.length : Int) - (keepN n Ln).length)) ∧ ∃ v', ND B p q v' u (keepN n Ln) Lr w W' :=
  (clear_any p B v Ln n W h.n hm).mono fun e w' hc => ⟨hc.1, h.net hc.2⟩
theorem look_d (n : Int) (h : ND B p q v u Ln Lr w W) (hm : Ln.length ≤ 1000) : Calls Try.prog 17 #[.pointer (some ⟨p, 0, none⟩), .int .i64 n] W fun e W' => e = .returned (.tuple #[.agg #[.int .i64 (lookV Ln n).1, .string (lookV Ln n).2], .bool (lookB Ln)]) ∧ Below W.heap.size W W' := by
  by_cases h0 : Ln = []
  · subst h0
    exact look_zero p B v n W h.n
  · obtain ⟨h1, h2⟩ := look_at h0 hm n
    rw [h2]
    exact look_any p B v Ln n _ W h.n hm h1
theorem rput_d (x : U2) (h : ND B p q v u Ln Lr w W) (hm : Lr.length ≤ 1000) : Calls Try.prog 9 #[.pointer (some ⟨q, 0, none⟩), .agg #[.int .i64 x.1, .string x.2]] W fun e W' => e = .returned (.int .i64 (putE x Lr.length)) ∧ (∃ u', ND B p q v u' Ln (putL x Lr) w W') ∧ Frm (fun k => k = q) W W' :=
  (rput_any q B u Lr x.1 x.2 W h.r h.hB hm).mono fun e w' hc => ⟨hc.1, h.ref hc.2⟩
theorem rtake_d (n : Int) (h : ND B p q v u Ln Lr w W) (hm : Lr.length ≤ 1000) : Calls Try.prog 11 #[.pointer (some ⟨q, 0, none⟩), .int .i64 n] W fun e W' => e = .returned (.tuple #[.agg #[.int .i64 (lookV Lr n).1, .string (lookV Lr n).2], .bool (lookB Lr)]) ∧ (∃ u', ND B p q v u' Ln (takeL Lr n) w W') ∧ Frm (fun k => k = q) W W' := by
  by_cases h0 : Lr = []
  · subst h0
    exact (rtake_zero q B u n W h.r).mono fun e w' hc => ⟨hc.1, ⟨u, h.below hc.2⟩, .ofBelow hc.2⟩
  · obtain ⟨h1, h2⟩ := look_at h0 hm n
    rw [h2]
    exact (rtake_any q B u Lr n _ W h.r h.hB hm h1).mono fun e w' hc => ⟨hc.1, h.ref hc.2⟩
theorem rdouble_d (n : Int) (h : ND B p q v u Ln Lr w W) (hm : Lr.length ≤ 1000) : Calls Try.prog 14 #[.pointer (some ⟨q, 0, none⟩), .int .i64 n] W fun e W' => e = .returned (.bool (dblB Lr n)) ∧ (∃ u', ND B p q v u' Ln (dblL Lr n) w W') ∧ Frm (fun k => k = q) W W' := by
  by_cases h0 : Lr = []
  · subst h0
    exact (rdouble_zero q B u n W h.r).mono fun e w' hc => ⟨hc.1, ⟨u, h.below hc.2⟩, .ofBelow hc.2⟩
  · obtain ⟨h1, h2⟩ := look_at h0 hm n
    unfold dblB dblL
    rw [h2, if_pos rfl, Bool.true_and]
    exact (rdouble_any q B u Lr n _ W h.r h.hB hm h1).mono fun e w' hc => ⟨hc.1, h.ref hc.2⟩
theorem rclear_d (n : Int) (h : ND B p q v u Ln Lr w W) (hm : Lr.length ≤ 1000) : Calls Try.prog 16 #[.pointer (some ⟨q, 0, none⟩), .int .i64 n] W fun e W' => e = .returned (.int .i64 ((Lr.length : Int) - (keepN n Lr).length)) ∧ (∃ u', ND B p q v u' Ln (keepN n Lr) w W') ∧ Frm (fun k => k = q) W W' :=
  (rclear_any q B u Lr n W h.r h.hB hm).mono fun e w' hc => ⟨hc.1, h.ref hc.2⟩
end
theorem dbl_len {L : List U2} {n : Int} (h : L.length ≤ 200) : (dblL L n).length ≤ 200 := by
  unfold dblL
  split
  · exact put_len h
  · exact h
theorem plc_self (i n : Nat) (hi : i < n) (hn : n ≤ 3000) : plc (i : Int) n = i := by
  have h := (plc_eq (i : Int) n (by omega) hn).1
  have e1 : (i : Int) % 18446744073709551616 = i := Int.emod_eq_of_lt (by omega) (by omega)
  have e2 : (i : Int) % (n : Int) = i := Int.emod_eq_of_lt (by omega) (by omega)
  rw [IntKind.wrap_u64, e1, Int.tmod_eq_emod_of_nonneg (by omega), e2, IntWalk.wrap64_in _ ⟨by omega, by omega⟩] at h
  omega
set_option maxRecDepth 20000 in
set_option maxHeartbeats 6400000 in
theorem walk_NetDoes (a : Option Addr) (len cap : Nat) (l : List NOp) {w : World} (hl : IsList w a len 4 nopE nopOk l) : Calls Try.prog 3 #[.slice a len cap] w fun e w' => e = .returned (.bool true) ∧ Below w.heap.size w w' := by
  have hse := hl.size_eq
  have hm := hl.most
  subst hse
  have hP := Lib.hid (op_of hl)
  clear hl
  have hgr := fun W h => great_any a cap l W h hm
  replace hgr := Lib.hid hgr
  clear hm
  cases hG : greatB l with
  | true =>
    rw [hG] at hgr
    go_enter Try.func3, Try.ntmps3
    go_wp2_with (first | (go_at_call 5; (with_reducible refine (works_any _).mono ?_); rintro e w1 ⟨rfl, hb1⟩) | (go_at_call 6; (with_reducible refine (hgr.out _ (hP.out.keep hb1)).mono ?_); rintro e w2 ⟨rfl, hb2⟩))
    go_ret
    exact ⟨rfl, bt hb1 hb2⟩
  | false =>
    rw [hG] at hgr
    have h400 : l.length ≤ 400 := by
      unfold greatB at hG
      by_cases h : 400 < l.length
      · rw [decide_eq_true h] at hG; simp at hG
      · omega
    clear hG
    go_enter Try.func3, Try.ntmps3
    go_wp2_with (first | (go_at_call 5; (with_reducible refine (works_any _).mono ?_); rintro e w1 ⟨rfl, hb1⟩) | (go_at_call 6; (with_reducible refine (hgr.out _ (hP.out.keep hb1)).mono ?_); rintro e w2 ⟨rfl, hb2⟩) | (go_at_call 7; (with_reducible refine (nnew_any _).mono ?_); rintro e w4 ⟨rfl, rfl⟩))
    have hbw := Lib.hid (bt hb1 hb2)
    have hPw := Lib.hid (hP.out.keep hbw.out)
    have hN0 : ND w2.heap.size w2.heap.size (w2.heap.size + 1) (.slice none 0 0) (.slice none 0 0) [] [] w2 ((w2.alloc (.cells #[.slice none 0 0] 44)).alloc (.cells #[.slice none 0 0] 30)) := by
      have e1 := heap_alloc_new w2 (.cells #[.slice none 0 0] 44)
      have e2 := heap_alloc_new (w2.alloc (.cells #[.slice none 0 0] 44)) (.cells #[.slice none 0 0] 30)
      rw [World.size_alloc] at e2
      exact ⟨⟨(heap_alloc_old _ _ (by simp)).trans e1, URow.nil _ _⟩, ⟨e2, URow.nil _ _⟩, fun g h => by simp [Value.ownBlock] at h, bt (alb _ _) (alb _ _), Nat.le_refl _, Nat.le_succ _, (bt (alb w2 _) (alb _ _)).size⟩
    replace hN0 := Lib.hid hN0
    clear hb1 hb2 hgr hP
    go_loopw [5] (fun i wr => ∃ (k : Nat) (v u : Value) (L : List U2), k ≤ l.length ∧ i = .int .i64 k ∧ Hid (L.length ≤ 200) ∧ Hid (ND w2.heap.size w2.heap.size (w2.heap.size + 1) v u L L w2 wr)) (fun i _ => l.length - (intOf i).toNat)
    case atStart => exact ⟨0, _, _, [], Nat.zero_le _, rfl, Nat.zero_le _, hN0⟩
    case round =>
      obtain ⟨k, v, u, L, hk, rfl, hlen, hS⟩ := hrel
      clear hN0
      by_cases hlt : k < l.length
      · have hd2 : decide ((k : Int) < (l.length : Int)) = true := decide_eq_true (by omega)
        obtain ⟨⟨kd, nn, ⟨o1, o2⟩⟩, hy⟩ : ∃ y, l[k]? = some y := ⟨_, List.getElem?_eq_getElem hlt⟩
        obtain ⟨g, o, rfl, q1, q2, q3, q4⟩ := hPw.out k _ hy
        have q1 : w2.cell? ⟨g, o + k * 4, none⟩ = some (.int .i64 kd) := q1
        have q2 : w2.cell? ⟨g, o + k * 4 + 1, none⟩ = some (.int .i64 nn) := q2
        have q3 : w2.cell? ⟨g, o + k * 4 + 2, none⟩ = some (.int .i64 o1) := q3
        have q4 : w2.cell? ⟨g, o + k * 4 + 3, none⟩ = some (.string o2) := q4
        have u1 := bkeep hS.out.bel q1
        have u2 := bkeep hS.out.bel q2
        have i1 : (0 : Int) ≤ (k : Int) := by omega
        have i2 : (k : Int) < (l.length : Int) := by omega
        clear hy hPw
        go_upto_block 2 with fail
        go_cut [6, 7, 8, 9, 10, 11, 12] from 26 to 198 (fun okv s7 s8 s9 s10 s11 s12 wx => okv = .bool true ∧ ∃ (v u : Value) (Z : List U2), Hid (Z.length ≤ 200) ∧ Hid (ND w2.heap.size w2.heap.size (w2.heap.size + 1) v u Z Z w2 wx))
        case first =>
          by_cases hk5 : kd = 5
          · as_aux_lemma =>
              subst hk5
              have hc1 := fun W hW => clear_d (B := w2.heap.size) (p := w2.heap.size) (q := w2.heap.size + 1) (v := v) (u := u) (Ln := L) (Lr := L) (w := w2) (W := W) nn hW (Nat.le_trans hlen.out (by decide))
              have hc2 := fun v5 W hW => rclear_d (B := w2.heap.size) (p := w2.heap.size) (q := w2.heap.size + 1) (v := v5) (u := u) (Ln := keepN nn L) (Lr := L) (w := w2) (W := W) nn hW (Nat.le_trans hlen.out (by decide))
              generalize (L.length : Int) - ((keepN nn L).length : Int) = E at *
              have hS0 := hS.out.below (Below.refl _ _).drew
              have hH1 := hlen.out
              have hl2 : Hid ((keepN nn L).length ≤ 200) := Nat.le_trans (keep_len nn L) hlen.out
              have M0 := bkeep hS0.bel q2
              replace hc1 := Lib.hid hc1
              replace hc2 := Lib.hid hc2
              go_wp2_with fail
              refine wp_region_held_drew (S := (fun w' : World => w'.cell? ⟨g, o + k * 4 + 1, none⟩ = some (.int .i64 nn))) (by kernel_rfl) ?_ (fun hHeld => ?_)
              · first | exact M0 | exact M5 | exact M6
              first | (refine tw (i := 0) (v := ?_) ?_ hHeld ?_; rotate_left; focus (intro w hSw; (try dsimp only at hSw); go_simp; (try with_reducible rfl); done)) | refine tn (i := 0) hHeld ?_
              try simp only [Act.put, List.setIfInBounds_toArray, List.set_cons_zero, List.set_cons_succ]
              first | (refine tw (i := 1) (v := ?_) ?_ hHeld ?_; rotate_left; focus (intro w hSw; (try dsimp only at hSw); go_simp; (try with_reducible rfl); done)) | refine tn (i := 1) hHeld ?_
              try simp only [Act.put, List.setIfInBounds_toArray, List.set_cons_zero, List.set_cons_succ]
              first | (refine tw (i := 2) (v := ?_) ?_ hHeld ?_; rotate_left; focus (intro w hSw; (try dsimp only at hSw); go_simp; (try with_reducible rfl); done)) | refine tn (i := 2) hHeld ?_
              try simp only [Act.put, List.setIfInBounds_toArray, List.set_cons_zero, List.set_cons_succ]
              first | (refine tw (i := 3) (v := ?_) ?_ hHeld ?_; rotate_left; focus (intro w hSw; (try dsimp only at hSw); go_simp; (try with_reducible rfl); done)) | refine tn (i := 3) hHeld ?_
              try simp only [Act.put, List.setIfInBounds_toArray, List.set_cons_zero, List.set_cons_succ]
              first | (refine tw (i := 4) (v := ?_) ?_ hHeld ?_; rotate_left; focus (intro w hSw; (try dsimp only at hSw); go_simp; (try with_reducible rfl); done)) | refine tn (i := 4) hHeld ?_
              try simp only [Act.put, List.setIfInBounds_toArray, List.set_cons_zero, List.set_cons_succ]
              first | (refine tw (i := 5) (v := ?_) ?_ hHeld ?_; rotate_left; focus (intro w hSw; (try dsimp only at hSw); go_simp; (try with_reducible rfl); done)) | refine tn (i := 5) hHeld ?_
              try simp only [Act.put, List.setIfInBounds_toArray, List.set_cons_zero, List.set_cons_succ]
              first | (refine tw (i := 7) (v := ?_) ?_ hHeld ?_; rotate_left; focus (intro w hSw; (try dsimp only at hSw); go_simp; (try with_reducible rfl); done)) | refine tn (i := 7) hHeld ?_
              try simp only [Act.put, List.setIfInBounds_toArray, List.set_cons_zero, List.set_cons_succ]
              first | (refine tw (i := 8) (v := ?_) ?_ hHeld ?_; rotate_left; focus (intro w hSw; (try dsimp only at hSw); go_simp; (try with_reducible rfl); done)) | refine tn (i := 8) hHeld ?_
              try simp only [Act.put, List.setIfInBounds_toArray, List.set_cons_zero, List.set_cons_succ]
              first | (refine tw (i := 9) (v := ?_) ?_ hHeld ?_; rotate_left; focus (intro w hSw; (try dsimp only at hSw); go_simp; (try with_reducible rfl); done)) | refine tn (i := 9) hHeld ?_
              try simp only [Act.put, List.setIfInBounds_toArray, List.set_cons_zero, List.set_cons_succ]
              first | (refine tw (i := 10) (v := ?_) ?_ hHeld ?_; rotate_left; focus (intro w hSw; (try dsimp only at hSw); go_simp; (try with_reducible rfl); done)) | refine tn (i := 10) hHeld ?_
              try simp only [Act.put, List.setIfInBounds_toArray, List.set_cons_zero, List.set_cons_succ]
              first | (refine tw (i := 11) (v := ?_) ?_ hHeld ?_; rotate_left; focus (intro w hSw; (try dsimp only at hSw); go_simp; (try with_reducible rfl); done)) | refine tn (i := 11) hHeld ?_
              try simp only [Act.put, List.setIfInBounds_toArray, List.set_cons_zero, List.set_cons_succ]
              first | (refine tw (i := 12) (v := ?_) ?_ hHeld ?_; rotate_left; focus (intro w hSw; (try dsimp only at hSw); go_simp; (try with_reducible rfl); done)) | refine tn (i := 12) hHeld ?_
              try simp only [Act.put, List.setIfInBounds_toArray, List.set_cons_zero, List.set_cons_succ]
              refine call_next (i := 6) (by kernel_rfl) (by rfl) ?_
              intro o ho K hK
              simp only [List.getElem?_toArray, List.getElem?_cons_succ, List.getElem?_cons_zero, Option.some.injEq] at ho
              subst ho
              first | (fail; refine hK.out _ _ ?_ (fun hHeld => ?_)) | (go_simp; first | (with_reducible refine hK.out _ _ ?_ (fun hHeld => ?_)) | ((first | (go_at_call 15; (with_reducible refine (hc1.out _ hS0).mono ?_); rintro e w5 ⟨rfl, v5, n5⟩; have M5 := bkeep n5.bel q2) | (go_at_call 16; (with_reducible refine (hc2.out _ _ n5).mono ?_); rintro e w6 ⟨rfl, ⟨u6, n6⟩, f6⟩; have M6 := bkeep n6.bel q2)); refine hK.out _ _ ?_ (fun hHeld => ?_)))
              · first | exact M0 | exact M5 | exact M6
              clear hK K
              try simp only [Act.put, List.setIfInBounds_toArray, List.set_cons_zero, List.set_cons_succ]
              refine call_next (i := 13) (by kernel_rfl) (by rfl) ?_
              intro o ho K hK
              simp only [List.getElem?_toArray, List.getElem?_cons_succ, List.getElem?_cons_zero, Option.some.injEq] at ho
              subst ho
              first | (fail; refine hK.out _ _ ?_ (fun hHeld => ?_)) | (go_simp; first | (with_reducible refine hK.out _ _ ?_ (fun hHeld => ?_)) | ((first | (go_at_call 15; (with_reducible refine (hc1.out _ hS0).mono ?_); rintro e w5 ⟨rfl, v5, n5⟩; have M5 := bkeep n5.bel q2) | (go_at_call 16; (with_reducible refine (hc2.out _ _ n5).mono ?_); rintro e w6 ⟨rfl, ⟨u6, n6⟩, f6⟩; have M6 := bkeep n6.bel q2)); refine hK.out _ _ ?_ (fun hHeld => ?_)))
              · first | exact M0 | exact M5 | exact M6
              clear hK K
              try simp only [Act.put, List.setIfInBounds_toArray, List.set_cons_zero, List.set_cons_succ]
              first | (refine tw (i := 14) (v := ?_) ?_ hHeld ?_; rotate_left; focus (intro w hSw; (try dsimp only at hSw); go_simp; (try with_reducible rfl); done)) | refine tn (i := 14) hHeld ?_
              try simp only [Act.put, List.setIfInBounds_toArray, List.set_cons_zero, List.set_cons_succ]
              first | (refine tw (i := 15) (v := ?_) ?_ hHeld ?_; rotate_left; focus (intro w hSw; (try dsimp only at hSw); go_simp; (try with_reducible rfl); done)) | refine tn (i := 15) hHeld ?_
              try simp only [Act.put, List.setIfInBounds_toArray, List.set_cons_zero, List.set_cons_succ]
              refine wpAnyH_done (by kernel_rfl) ?_ _
              try clear M0
              try clear M5
              try clear M6
              try clear n5
              try clear hS0
              try go_wp2_with fail
              go_meet
              exact ⟨rfl, _, _, keepN nn L, hl2, n6⟩
          · have e5 : (kd == 5) = false := beq_eq_false_iff_ne.2 hk5
            by_cases hk0 : kd = 0
            · as_aux_lemma =>
                subst hk0
                have hc1 := fun W hW => put_d (B := w2.heap.size) (p := w2.heap.size) (q := w2.heap.size + 1) (v := v) (u := u) (Ln := L) (Lr := L) (w := w2) (W := W) (o1, o2) hW (Nat.le_trans hlen.out (by decide))
                have hc2 := fun v5 W hW => rput_d (B := w2.heap.size) (p := w2.heap.size) (q := w2.heap.size + 1) (v := v5) (u := u) (Ln := putL (o1, o2) L) (Lr := L) (w := w2) (W := W) (o1, o2) hW (Nat.le_trans hlen.out (by decide))
                generalize putE (o1, o2) L.length = E at *
                have hS0 := hS.out.below (Below.refl _ _).drew
                have hH1 := hlen.out
                have hl2 : Hid ((putL (o1, o2) L).length ≤ 200) := put_len hlen.out
                have M0 := And.intro (bkeep hS0.bel q3) (bkeep hS0.bel q4)
                replace hc1 := Lib.hid hc1
                replace hc2 := Lib.hid hc2
                go_wp2_with fail
                refine wp_region_held_drew (S := (fun w' : World => w'.cell? ⟨g, o + k * 4 + 2, none⟩ = some (.int .i64 o1) ∧ w'.cell? ⟨g, o + k * 4 + 3, none⟩ = some (.string o2))) (by kernel_rfl) ?_ (fun hHeld => ?_)
                · first | exact M0 | exact M5 | exact M6
                first | (refine tw (i := 0) (v := ?_) ?_ hHeld ?_; rotate_left; focus (intro w hSw; (try dsimp only at hSw); go_simp; (try with_reducible rfl); done)) | refine tn (i := 0) hHeld ?_
                try simp only [Act.put, List.setIfInBounds_toArray, List.set_cons_zero, List.set_cons_succ]
                first | (refine tw (i := 1) (v := ?_) ?_ hHeld ?_; rotate_left; focus (intro w hSw; (try dsimp only at hSw); go_simp; (try with_reducible rfl); done)) | refine tn (i := 1) hHeld ?_
                try simp only [Act.put, List.setIfInBounds_toArray, List.set_cons_zero, List.set_cons_succ]
                first | (refine tw (i := 2) (v := ?_) ?_ hHeld ?_; rotate_left; focus (intro w hSw; (try dsimp only at hSw); go_simp; (try with_reducible rfl); done)) | refine tn (i := 2) hHeld ?_
                try simp only [Act.put, List.setIfInBounds_toArray, List.set_cons_zero, List.set_cons_succ]
                first | (refine tw (i := 3) (v := ?_) ?_ hHeld ?_; rotate_left; focus (intro w hSw; (try dsimp only at hSw); go_simp; (try with_reducible rfl); done)) | refine tn (i := 3) hHeld ?_
                try simp only [Act.put, List.setIfInBounds_toArray, List.set_cons_zero, List.set_cons_succ]
                first | (refine tw (i := 4) (v := ?_) ?_ hHeld ?_; rotate_left; focus (intro w hSw; (try dsimp only at hSw); go_simp; (try with_reducible rfl); done)) | refine tn (i := 4) hHeld ?_
                try simp only [Act.put, List.setIfInBounds_toArray, List.set_cons_zero, List.set_cons_succ]
                first | (refine tw (i := 5) (v := ?_) ?_ hHeld ?_; rotate_left; focus (intro w hSw; (try dsimp only at hSw); go_simp; (try with_reducible rfl); done)) | refine tn (i := 5) hHeld ?_
                try simp only [Act.put, List.setIfInBounds_toArray, List.set_cons_zero, List.set_cons_succ]
                first | (refine tw (i := 7) (v := ?_) ?_ hHeld ?_; rotate_left; focus (intro w hSw; (try dsimp only at hSw); go_simp; (try with_reducible rfl); done)) | refine tn (i := 7) hHeld ?_
                try simp only [Act.put, List.setIfInBounds_toArray, List.set_cons_zero, List.set_cons_succ]
                first | (refine tw (i := 8) (v := ?_) ?_ hHeld ?_; rotate_left; focus (intro w hSw; (try dsimp only at hSw); go_simp; (try with_reducible rfl); done)) | refine tn (i := 8) hHeld ?_
                try simp only [Act.put, List.setIfInBounds_toArray, List.set_cons_zero, List.set_cons_succ]
                first | (refine tw (i := 9) (v := ?_) ?_ hHeld ?_; rotate_left; focus (intro w hSw; (try dsimp only at hSw); go_simp; (try with_reducible rfl); done)) | refine tn (i := 9) hHeld ?_
                try simp only [Act.put, List.setIfInBounds_toArray, List.set_cons_zero, List.set_cons_succ]
                first | (refine tw (i := 10) (v := ?_) ?_ hHeld ?_; rotate_left; focus (intro w hSw; (try dsimp only at hSw); go_simp; (try with_reducible rfl); done)) | refine tn (i := 10) hHeld ?_
                try simp only [Act.put, List.setIfInBounds_toArray, List.set_cons_zero, List.set_cons_succ]
                first | (refine tw (i := 11) (v := ?_) ?_ hHeld ?_; rotate_left; focus (intro w hSw; (try dsimp only at hSw); go_simp; (try with_reducible rfl); done)) | refine tn (i := 11) hHeld ?_
                try simp only [Act.put, List.setIfInBounds_toArray, List.set_cons_zero, List.set_cons_succ]
                first | (refine tw (i := 12) (v := ?_) ?_ hHeld ?_; rotate_left; focus (intro w hSw; (try dsimp only at hSw); go_simp; (try with_reducible rfl); done)) | refine tn (i := 12) hHeld ?_
                try simp only [Act.put, List.setIfInBounds_toArray, List.set_cons_zero, List.set_cons_succ]
                refine call_next (i := 6) (by kernel_rfl) (by rfl) ?_
                intro o ho K hK
                simp only [List.getElem?_toArray, List.getElem?_cons_succ, List.getElem?_cons_zero, Option.some.injEq] at ho
                subst ho
                first | (fail; refine hK.out _ _ ?_ (fun hHeld => ?_)) | (go_simp; first | (with_reducible refine hK.out _ _ ?_ (fun hHeld => ?_)) | ((first | (go_at_call 8; (with_reducible refine (hc1.out _ hS0).mono ?_); rintro e w5 ⟨rfl, v5, n5⟩; have M5 := And.intro (bkeep n5.bel q3) (bkeep n5.bel q4)) | (go_at_call 9; (with_reducible refine (hc2.out _ _ n5).mono ?_); rintro e w6 ⟨rfl, ⟨u6, n6⟩, f6⟩; have M6 := And.intro (bkeep n6.bel q3) (bkeep n6.bel q4))); refine hK.out _ _ ?_ (fun hHeld => ?_)))
                · first | exact M0 | exact M5 | exact M6
                clear hK K
                try simp only [Act.put, List.setIfInBounds_toArray, List.set_cons_zero, List.set_cons_succ]
                refine call_next (i := 13) (by kernel_rfl) (by rfl) ?_
                intro o ho K hK
                simp only [List.getElem?_toArray, List.getElem?_cons_succ, List.getElem?_cons_zero, Option.some.injEq] at ho
                subst ho
                first | (fail; refine hK.out _ _ ?_ (fun hHeld => ?_)) | (go_simp; first | (with_reducible refine hK.out _ _ ?_ (fun hHeld => ?_)) | ((first | (go_at_call 8; (with_reducible refine (hc1.out _ hS0).mono ?_); rintro e w5 ⟨rfl, v5, n5⟩; have M5 := And.intro (bkeep n5.bel q3) (bkeep n5.bel q4)) | (go_at_call 9; (with_reducible refine (hc2.out _ _ n5).mono ?_); rintro e w6 ⟨rfl, ⟨u6, n6⟩, f6⟩; have M6 := And.intro (bkeep n6.bel q3) (bkeep n6.bel q4))); refine hK.out _ _ ?_ (fun hHeld => ?_)))
                · first | exact M0 | exact M5 | exact M6
                clear hK K
                try simp only [Act.put, List.setIfInBounds_toArray, List.set_cons_zero, List.set_cons_succ]
                first | (refine tw (i := 14) (v := ?_) ?_ hHeld ?_; rotate_left; focus (intro w hSw; (try dsimp only at hSw); go_simp; (try with_reducible rfl); done)) | refine tn (i := 14) hHeld ?_
                try simp only [Act.put, List.setIfInBounds_toArray, List.set_cons_zero, List.set_cons_succ]
                first | (refine tw (i := 15) (v := ?_) ?_ hHeld ?_; rotate_left; focus (intro w hSw; (try dsimp only at hSw); go_simp; (try with_reducible rfl); done)) | refine tn (i := 15) hHeld ?_
                try simp only [Act.put, List.setIfInBounds_toArray, List.set_cons_zero, List.set_cons_succ]
                refine wpAnyH_done (by kernel_rfl) ?_ _
                try clear M0
                try clear M5
                try clear M6
                try clear n5
                try clear hS0
                try go_wp2_with fail
                go_meet
                exact ⟨rfl, _, _, putL (o1, o2) L, hl2, n6⟩
            · have e0 : (kd == 0) = false := beq_eq_false_iff_ne.2 hk0
              by_cases hk1 : kd = 1
              · as_aux_lemma =>
                  subst hk1
                  have hc1 := fun W hW => put_d (B := w2.heap.size) (p := w2.heap.size) (q := w2.heap.size + 1) (v := v) (u := u) (Ln := L) (Lr := L) (w := w2) (W := W) (o1, o2) hW (Nat.le_trans hlen.out (by decide))
                  have hc2 := fun v5 W hW => rput_d (B := w2.heap.size) (p := w2.heap.size) (q := w2.heap.size + 1) (v := v5) (u := u) (Ln := putL (o1, o2) L) (Lr := L) (w := w2) (W := W) (o1, o2) hW (Nat.le_trans hlen.out (by decide))
                  generalize putE (o1, o2) L.length = E at *
                  have hS0 := hS.out.below (Below.refl _ _).drew
                  have hH1 := hlen.out
                  have hl2 : Hid ((putL (o1, o2) L).length ≤ 200) := put_len hlen.out
                  have M0 := And.intro (bkeep hS0.bel q3) (bkeep hS0.bel q4)
                  replace hc1 := Lib.hid hc1
                  replace hc2 := Lib.hid hc2
                  go_wp2_with fail
                  refine wp_region_held_drew (S := (fun w' : World => w'.cell? ⟨g, o + k * 4 + 2, none⟩ = some (.int .i64 o1) ∧ w'.cell? ⟨g, o + k * 4 + 3, none⟩ = some (.string o2))) (by kernel_rfl) ?_ (fun hHeld => ?_)
                  · first | exact M0 | exact M5 | exact M6
                  first | (refine tw (i := 0) (v := ?_) ?_ hHeld ?_; rotate_left; focus (intro w hSw; (try dsimp only at hSw); go_simp; (try with_reducible rfl); done)) | refine tn (i := 0) hHeld ?_
                  try simp only [Act.put, List.setIfInBounds_toArray, List.set_cons_zero, List.set_cons_succ]
                  first | (refine tw (i := 1) (v := ?_) ?_ hHeld ?_; rotate_left; focus (intro w hSw; (try dsimp only at hSw); go_simp; (try with_reducible rfl); done)) | refine tn (i := 1) hHeld ?_
                  try simp only [Act.put, List.setIfInBounds_toArray, List.set_cons_zero, List.set_cons_succ]
                  first | (refine tw (i := 2) (v := ?_) ?_ hHeld ?_; rotate_left; focus (intro w hSw; (try dsimp only at hSw); go_simp; (try with_reducible rfl); done)) | refine tn (i := 2) hHeld ?_
                  try simp only [Act.put, List.setIfInBounds_toArray, List.set_cons_zero, List.set_cons_succ]
                  first | (refine tw (i := 3) (v := ?_) ?_ hHeld ?_; rotate_left; focus (intro w hSw; (try dsimp only at hSw); go_simp; (try with_reducible rfl); done)) | refine tn (i := 3) hHeld ?_
                  try simp only [Act.put, List.setIfInBounds_toArray, List.set_cons_zero, List.set_cons_succ]
                  first | (refine tw (i := 4) (v := ?_) ?_ hHeld ?_; rotate_left; focus (intro w hSw; (try dsimp only at hSw); go_simp; (try with_reducible rfl); done)) | refine tn (i := 4) hHeld ?_
                  try simp only [Act.put, List.setIfInBounds_toArray, List.set_cons_zero, List.set_cons_succ]
                  first | (refine tw (i := 5) (v := ?_) ?_ hHeld ?_; rotate_left; focus (intro w hSw; (try dsimp only at hSw); go_simp; (try with_reducible rfl); done)) | refine tn (i := 5) hHeld ?_
                  try simp only [Act.put, List.setIfInBounds_toArray, List.set_cons_zero, List.set_cons_succ]
                  first | (refine tw (i := 7) (v := ?_) ?_ hHeld ?_; rotate_left; focus (intro w hSw; (try dsimp only at hSw); go_simp; (try with_reducible rfl); done)) | refine tn (i := 7) hHeld ?_
                  try simp only [Act.put, List.setIfInBounds_toArray, List.set_cons_zero, List.set_cons_succ]
                  first | (refine tw (i := 8) (v := ?_) ?_ hHeld ?_; rotate_left; focus (intro w hSw; (try dsimp only at hSw); go_simp; (try with_reducible rfl); done)) | refine tn (i := 8) hHeld ?_
                  try simp only [Act.put, List.setIfInBounds_toArray, List.set_cons_zero, List.set_cons_succ]
                  first | (refine tw (i := 9) (v := ?_) ?_ hHeld ?_; rotate_left; focus (intro w hSw; (try dsimp only at hSw); go_simp; (try with_reducible rfl); done)) | refine tn (i := 9) hHeld ?_
                  try simp only [Act.put, List.setIfInBounds_toArray, List.set_cons_zero, List.set_cons_succ]
                  first | (refine tw (i := 10) (v := ?_) ?_ hHeld ?_; rotate_left; focus (intro w hSw; (try dsimp only at hSw); go_simp; (try with_reducible rfl); done)) | refine tn (i := 10) hHeld ?_
                  try simp only [Act.put, List.setIfInBounds_toArray, List.set_cons_zero, List.set_cons_succ]
                  first | (refine tw (i := 11) (v := ?_) ?_ hHeld ?_; rotate_left; focus (intro w hSw; (try dsimp only at hSw); go_simp; (try with_reducible rfl); done)) | refine tn (i := 11) hHeld ?_
                  try simp only [Act.put, List.setIfInBounds_toArray, List.set_cons_zero, List.set_cons_succ]
                  first | (refine tw (i := 12) (v := ?_) ?_ hHeld ?_; rotate_left; focus (intro w hSw; (try dsimp only at hSw); go_simp; (try with_reducible rfl); done)) | refine tn (i := 12) hHeld ?_
                  try simp only [Act.put, List.setIfInBounds_toArray, List.set_cons_zero, List.set_cons_succ]
                  refine call_next (i := 6) (by kernel_rfl) (by rfl) ?_
                  intro o ho K hK
                  simp only [List.getElem?_toArray, List.getElem?_cons_succ, List.getElem?_cons_zero, Option.some.injEq] at ho
                  subst ho
                  first | (fail; refine hK.out _ _ ?_ (fun hHeld => ?_)) | (go_simp; first | (with_reducible refine hK.out _ _ ?_ (fun hHeld => ?_)) | ((first | (go_at_call 8; (with_reducible refine (hc1.out _ hS0).mono ?_); rintro e w5 ⟨rfl, v5, n5⟩; have M5 := And.intro (bkeep n5.bel q3) (bkeep n5.bel q4)) | (go_at_call 9; (with_reducible refine (hc2.out _ _ n5).mono ?_); rintro e w6 ⟨rfl, ⟨u6, n6⟩, f6⟩; have M6 := And.intro (bkeep n6.bel q3) (bkeep n6.bel q4))); refine hK.out _ _ ?_ (fun hHeld => ?_)))
                  · first | exact M0 | exact M5 | exact M6
                  clear hK K
                  try simp only [Act.put, List.setIfInBounds_toArray, List.set_cons_zero, List.set_cons_succ]
                  refine call_next (i := 13) (by kernel_rfl) (by rfl) ?_
                  intro o ho K hK
                  simp only [List.getElem?_toArray, List.getElem?_cons_succ, List.getElem?_cons_zero, Option.some.injEq] at ho
                  subst ho
                  first | (fail; refine hK.out _ _ ?_ (fun hHeld => ?_)) | (go_simp; first | (with_reducible refine hK.out _ _ ?_ (fun hHeld => ?_)) | ((first | (go_at_call 8; (with_reducible refine (hc1.out _ hS0).mono ?_); rintro e w5 ⟨rfl, v5, n5⟩; have M5 := And.intro (bkeep n5.bel q3) (bkeep n5.bel q4)) | (go_at_call 9; (with_reducible refine (hc2.out _ _ n5).mono ?_); rintro e w6 ⟨rfl, ⟨u6, n6⟩, f6⟩; have M6 := And.intro (bkeep n6.bel q3) (bkeep n6.bel q4))); refine hK.out _ _ ?_ (fun hHeld => ?_)))
                  · first | exact M0 | exact M5 | exact M6
                  clear hK K
                  try simp only [Act.put, List.setIfInBounds_toArray, List.set_cons_zero, List.set_cons_succ]
                  first | (refine tw (i := 14) (v := ?_) ?_ hHeld ?_; rotate_left; focus (intro w hSw; (try dsimp only at hSw); go_simp; (try with_reducible rfl); done)) | refine tn (i := 14) hHeld ?_
                  try simp only [Act.put, List.setIfInBounds_toArray, List.set_cons_zero, List.set_cons_succ]
                  first | (refine tw (i := 15) (v := ?_) ?_ hHeld ?_; rotate_left; focus (intro w hSw; (try dsimp only at hSw); go_simp; (try with_reducible rfl); done)) | refine tn (i := 15) hHeld ?_
                  try simp only [Act.put, List.setIfInBounds_toArray, List.set_cons_zero, List.set_cons_succ]
                  refine wpAnyH_done (by kernel_rfl) ?_ _
                  try clear M0
                  try clear M5
                  try clear M6
                  try clear n5
                  try clear hS0
                  try go_wp2_with fail
                  go_meet
                  exact ⟨rfl, _, _, putL (o1, o2) L, hl2, n6⟩
              · have e1 : (kd == 1) = false := beq_eq_false_iff_ne.2 hk1
                by_cases hk2 : kd = 2
                · as_aux_lemma =>
                    subst hk2
                    have hc1 := fun W hW => take_d (B := w2.heap.size) (p := w2.heap.size) (q := w2.heap.size + 1) (v := v) (u := u) (Ln := L) (Lr := L) (w := w2) (W := W) nn hW (Nat.le_trans hlen.out (by decide))
                    have hc2 := fun v5 W hW => rtake_d (B := w2.heap.size) (p := w2.heap.size) (q := w2.heap.size + 1) (v := v5) (u := u) (Ln := takeL L nn) (Lr := L) (w := w2) (W := W) nn hW (Nat.le_trans hlen.out (by decide))
                    obtain ⟨⟨t1, t2⟩, hT⟩ : ∃ y, lookV L nn = y := ⟨_, rfl⟩
                    rw [hT] at hc1 hc2
                    generalize lookB L = E at *
                    have tt : ∀ w, (binOp .eql 32 (.agg #[.int .i64 t1, .string t2]) (.agg #[.int .i64 t1, .string t2])).run Try.prog w = .ok (.bool true) w := fun w => by rw [und_eql]; simp
                    replace hc1 := Lib.hid hc1
                    replace hc2 := Lib.hid hc2
                    have hl2 : Hid ((takeL L nn).length ≤ 200) := take_len hlen.out
                    clear hT
                    go_wp2_with (first | (go_at_call 10; (with_reducible refine (hc1.out _ hS.out).mono ?_); rintro e w5 ⟨rfl, v5, n5⟩; have n5' := n5.below (alb w5 (.cells #[.int .i64 t1, .string t2] 32)); have t0 : (w5.alloc (.cells #[.int .i64 t1, .string t2] 32)).cell? ⟨w5.heap.size, 0, none⟩ = some (.int .i64 t1) := (by simp [go_sem]); have t0' : (w5.alloc (.cells #[.int .i64 t1, .string t2] 32)).cell? ⟨w5.heap.size, 1, none⟩ = some (.string t2) := (by simp [go_sem]); have qq := bkeep n5'.bel q2) | (go_at_call 11; (with_reducible refine (hc2.out _ _ n5').mono ?_); rintro e w6 ⟨rfl, ⟨u6, n6⟩, f6⟩; have hwq := n5.r.lt; have b0 := bkeep (alb w6 (.cells #[.int .i64 t1, .string t2] 32)) (f6.cell (p := ⟨w5.heap.size, 0, none⟩) (fun e => by simp only at e; omega) t0); have b1 := bkeep (alb w6 (.cells #[.int .i64 t1, .string t2] 32)) (f6.cell (p := ⟨w5.heap.size, 1, none⟩) (fun e => by simp only at e; omega) t0'); have n7 := n6.below (alb w6 (.cells #[.int .i64 t1, .string t2] 32)); have u2' := bkeep n7.bel q2) | (go_at_call 17; fail))
                    try go_wp2_with fail
                    go_meet
                    exact ⟨rfl, _, _, takeL L nn, hl2, n7⟩
                · have e2 : (kd == 2) = false := beq_eq_false_iff_ne.2 hk2
                  by_cases hk3 : kd = 3
                  · as_aux_lemma =>
                      subst hk3
                      have hc2 := fun W hW => rtake_d (B := w2.heap.size) (p := w2.heap.size) (q := w2.heap.size + 1) (v := v) (u := u) (Ln := L) (Lr := L) (w := w2) (W := W) nn hW (Nat.le_trans hlen.out (by decide))
                      have hc1 := fun u5 W hW => lose_d (B := w2.heap.size) (p := w2.heap.size) (q := w2.heap.size + 1) (v := v) (u := u5) (Ln := L) (Lr := takeL L nn) (w := w2) (W := W) nn hW (Nat.le_trans hlen.out (by decide))
                      obtain ⟨⟨t1, t2⟩, hT⟩ : ∃ y, lookV L nn = y := ⟨_, rfl⟩
                      rw [hT] at hc2
                      generalize lookB L = E at *
                      replace hc1 := Lib.hid hc1
                      replace hc2 := Lib.hid hc2
                      have hl2 : Hid ((takeL L nn).length ≤ 200) := take_len hlen.out
                      clear hT
                      go_wp2_with (first | (go_at_call 11; (with_reducible refine (hc2.out _ hS.out).mono ?_); rintro e w6 ⟨rfl, ⟨u6, n6⟩, f6⟩; have n7 := n6.below (alb w6 (.cells #[.int .i64 t1, .string t2] 32)); have u2' := bkeep n7.bel q2) | (go_at_call 12; (with_reducible refine (hc1.out _ _ n7).mono ?_); rintro e w5 ⟨rfl, v5, n5⟩; have u3' := bkeep n5.bel q2) | (go_at_call 17; fail))
                      try go_wp2_with fail
                      go_meet
                      exact ⟨rfl, _, _, takeL L nn, hl2, n5⟩
                  · have e3 : (kd == 3) = false := beq_eq_false_iff_ne.2 hk3
                    by_cases hk4 : kd = 4
                    · as_aux_lemma =>
                        subst hk4
                        have hc1 := fun W hW => double_d (B := w2.heap.size) (p := w2.heap.size) (q := w2.heap.size + 1) (v := v) (u := u) (Ln := L) (Lr := L) (w := w2) (W := W) nn hW (Nat.le_trans hlen.out (by decide))
                        have hc2 := fun v5 W hW => rdouble_d (B := w2.heap.size) (p := w2.heap.size) (q := w2.heap.size + 1) (v := v5) (u := u) (Ln := dblL L nn) (Lr := L) (w := w2) (W := W) nn hW (Nat.le_trans hlen.out (by decide))
                        generalize dblB L nn = E at *
                        have hS0 := hS.out.below (Below.refl _ _).drew
                        have hH1 := hlen.out
                        have hl2 : Hid ((dblL L nn).length ≤ 200) := dbl_len hlen.out
                        have M0 := bkeep hS0.bel q2
                        replace hc1 := Lib.hid hc1
                        replace hc2 := Lib.hid hc2
                        go_wp2_with fail
                        refine wp_region_held_drew (S := (fun w' : World => w'.cell? ⟨g, o + k * 4 + 1, none⟩ = some (.int .i64 nn))) (by kernel_rfl) ?_ (fun hHeld => ?_)
                        · first | exact M0 | exact M5 | exact M6
                        first | (refine tw (i := 0) (v := ?_) ?_ hHeld ?_; rotate_left; focus (intro w hSw; (try dsimp only at hSw); go_simp; (try with_reducible rfl); done)) | refine tn (i := 0) hHeld ?_
                        try simp only [Act.put, List.setIfInBounds_toArray, List.set_cons_zero, List.set_cons_succ]
                        first | (refine tw (i := 1) (v := ?_) ?_ hHeld ?_; rotate_left; focus (intro w hSw; (try dsimp only at hSw); go_simp; (try with_reducible rfl); done)) | refine tn (i := 1) hHeld ?_
                        try simp only [Act.put, List.setIfInBounds_toArray, List.set_cons_zero, List.set_cons_succ]
                        first | (refine tw (i := 2) (v := ?_) ?_ hHeld ?_; rotate_left; focus (intro w hSw; (try dsimp only at hSw); go_simp; (try with_reducible rfl); done)) | refine tn (i := 2) hHeld ?_
                        try simp only [Act.put, List.setIfInBounds_toArray, List.set_cons_zero, List.set_cons_succ]
                        first | (refine tw (i := 3) (v := ?_) ?_ hHeld ?_; rotate_left; focus (intro w hSw; (try dsimp only at hSw); go_simp; (try with_reducible rfl); done)) | refine tn (i := 3) hHeld ?_
                        try simp only [Act.put, List.setIfInBounds_toArray, List.set_cons_zero, List.set_cons_succ]
                        first | (refine tw (i := 4) (v := ?_) ?_ hHeld ?_; rotate_left; focus (intro w hSw; (try dsimp only at hSw); go_simp; (try with_reducible rfl); done)) | refine tn (i := 4) hHeld ?_
                        try simp only [Act.put, List.setIfInBounds_toArray, List.set_cons_zero, List.set_cons_succ]
                        first | (refine tw (i := 5) (v := ?_) ?_ hHeld ?_; rotate_left; focus (intro w hSw; (try dsimp only at hSw); go_simp; (try with_reducible rfl); done)) | refine tn (i := 5) hHeld ?_
                        try simp only [Act.put, List.setIfInBounds_toArray, List.set_cons_zero, List.set_cons_succ]
                        first | (refine tw (i := 7) (v := ?_) ?_ hHeld ?_; rotate_left; focus (intro w hSw; (try dsimp only at hSw); go_simp; (try with_reducible rfl); done)) | refine tn (i := 7) hHeld ?_
                        try simp only [Act.put, List.setIfInBounds_toArray, List.set_cons_zero, List.set_cons_succ]
                        first | (refine tw (i := 8) (v := ?_) ?_ hHeld ?_; rotate_left; focus (intro w hSw; (try dsimp only at hSw); go_simp; (try with_reducible rfl); done)) | refine tn (i := 8) hHeld ?_
                        try simp only [Act.put, List.setIfInBounds_toArray, List.set_cons_zero, List.set_cons_succ]
                        first | (refine tw (i := 9) (v := ?_) ?_ hHeld ?_; rotate_left; focus (intro w hSw; (try dsimp only at hSw); go_simp; (try with_reducible rfl); done)) | refine tn (i := 9) hHeld ?_
                        try simp only [Act.put, List.setIfInBounds_toArray, List.set_cons_zero, List.set_cons_succ]
                        first | (refine tw (i := 10) (v := ?_) ?_ hHeld ?_; rotate_left; focus (intro w hSw; (try dsimp only at hSw); go_simp; (try with_reducible rfl); done)) | refine tn (i := 10) hHeld ?_
                        try simp only [Act.put, List.setIfInBounds_toArray, List.set_cons_zero, List.set_cons_succ]
                        first | (refine tw (i := 11) (v := ?_) ?_ hHeld ?_; rotate_left; focus (intro w hSw; (try dsimp only at hSw); go_simp; (try with_reducible rfl); done)) | refine tn (i := 11) hHeld ?_
                        try simp only [Act.put, List.setIfInBounds_toArray, List.set_cons_zero, List.set_cons_succ]
                        first | (refine tw (i := 12) (v := ?_) ?_ hHeld ?_; rotate_left; focus (intro w hSw; (try dsimp only at hSw); go_simp; (try with_reducible rfl); done)) | refine tn (i := 12) hHeld ?_
                        try simp only [Act.put, List.setIfInBounds_toArray, List.set_cons_zero, List.set_cons_succ]
                        refine call_next (i := 6) (by kernel_rfl) (by rfl) ?_
                        intro o ho K hK
                        simp only [List.getElem?_toArray, List.getElem?_cons_succ, List.getElem?_cons_zero, Option.some.injEq] at ho
                        subst ho
                        first | (fail; refine hK.out _ _ ?_ (fun hHeld => ?_)) | (go_simp; first | (with_reducible refine hK.out _ _ ?_ (fun hHeld => ?_)) | ((first | (go_at_call 13; (with_reducible refine (hc1.out _ hS0).mono ?_); rintro e w5 ⟨rfl, v5, n5⟩; have M5 := bkeep n5.bel q2) | (go_at_call 14; (with_reducible refine (hc2.out _ _ n5).mono ?_); rintro e w6 ⟨rfl, ⟨u6, n6⟩, f6⟩; have M6 := bkeep n6.bel q2)); refine hK.out _ _ ?_ (fun hHeld => ?_)))
                        · first | exact M0 | exact M5 | exact M6
                        clear hK K
                        try simp only [Act.put, List.setIfInBounds_toArray, List.set_cons_zero, List.set_cons_succ]
                        refine call_next (i := 13) (by kernel_rfl) (by rfl) ?_
                        intro o ho K hK
                        simp only [List.getElem?_toArray, List.getElem?_cons_succ, List.getElem?_cons_zero, Option.some.injEq] at ho
                        subst ho
                        first | (fail; refine hK.out _ _ ?_ (fun hHeld => ?_)) | (go_simp; first | (with_reducible refine hK.out _ _ ?_ (fun hHeld => ?_)) | ((first | (go_at_call 13; (with_reducible refine (hc1.out _ hS0).mono ?_); rintro e w5 ⟨rfl, v5, n5⟩; have M5 := bkeep n5.bel q2) | (go_at_call 14; (with_reducible refine (hc2.out _ _ n5).mono ?_); rintro e w6 ⟨rfl, ⟨u6, n6⟩, f6⟩; have M6 := bkeep n6.bel q2)); refine hK.out _ _ ?_ (fun hHeld => ?_)))
                        · first | exact M0 | exact M5 | exact M6
                        clear hK K
                        try simp only [Act.put, List.setIfInBounds_toArray, List.set_cons_zero, List.set_cons_succ]
                        first | (refine tw (i := 14) (v := ?_) ?_ hHeld ?_; rotate_left; focus (intro w hSw; (try dsimp only at hSw); go_simp; (try with_reducible rfl); done)) | refine tn (i := 14) hHeld ?_
                        try simp only [Act.put, List.setIfInBounds_toArray, List.set_cons_zero, List.set_cons_succ]
                        first | (refine tw (i := 15) (v := ?_) ?_ hHeld ?_; rotate_left; focus (intro w hSw; (try dsimp only at hSw); go_simp; (try with_reducible rfl); done)) | refine tn (i := 15) hHeld ?_
                        try simp only [Act.put, List.setIfInBounds_toArray, List.set_cons_zero, List.set_cons_succ]
                        refine wpAnyH_done (by kernel_rfl) ?_ _
                        try clear M0
                        try clear M5
                        try clear M6
                        try clear n5
                        try clear hS0
                        try go_wp2_with fail
                        go_meet
                        exact ⟨rfl, _, _, dblL L nn, hl2, n6⟩
                    · have e4 : (kd == 4) = false := beq_eq_false_iff_ne.2 hk4
                      have hH0 := hS.out
                      clear hS
                      try go_wp2_with fail
                      go_meet
                      exact ⟨rfl, _, _, L, hlen, hH0⟩
        case rest =>
          obtain ⟨rfl, v, u, Z, hZ, hH⟩ := hcut
          have hZ2 : Z.length ≤ 200 := hZ.out
          have hlk := look_d nn hH.out (Nat.le_trans hZ2 (by decide))
          have q2' := bkeep hH.out.bel q2
          by_cases hL : Z = []
          · as_aux_lemma =>
              subst hL
              have zz : ∀ w, (binOp .neq 32 (.agg #[.int .i64 0, .string ⟨#[]⟩]) (.agg #[.int .i64 0, .string ⟨#[]⟩])).run Try.prog w = .ok (.bool false) w := fun w => by rw [und_neq]; simp
              have e1 : lookV [] nn = (0, ⟨#[]⟩) := rfl
              have e2 : lookB [] = false := rfl
              rw [e1, e2] at hlk
              replace hlk := Lib.hid hlk
              go_wp2_with (first | (go_at_call 17; (with_reducible refine hlk.out.mono ?_); rintro e w7 ⟨rfl, hb7⟩; have hb8 := bt hb7 (alb w7 (.cells #[.int .i64 0, .string ⟨#[]⟩] 32)); have hK := hH.out.below hb8; have z0 : (w7.alloc (.cells #[.int .i64 0, .string ⟨#[]⟩] 32)).cell? ⟨w7.heap.size, 0, none⟩ = some (.int .i64 0) := (by simp [go_sem]); have z1 : (w7.alloc (.cells #[.int .i64 0, .string ⟨#[]⟩] 32)).cell? ⟨w7.heap.size, 1, none⟩ = some (.string ⟨#[]⟩) := (by simp [go_sem]); have q2'' := bkeep hK.bel q2) | (go_at_call 18; (with_reducible refine (rplace_any _ _ _ _ nn _ hK.r (by decide)).mono ?_); rintro e w9 ⟨rfl, rfl⟩))
              have hln : Hid (Calls Try.prog 19 #[.pointer (some ⟨w2.heap.size, 0, none⟩)] (w7.alloc (.cells #[.int .i64 0, .string ⟨#[]⟩] 32)).drew fun e w' => e = .returned (.int .i64 0) ∧ w' = (w7.alloc (.cells #[.int .i64 0, .string ⟨#[]⟩] 32)).drew) := nlen_any _ _ _ [] _ (hK.n.below (Below.refl _ _).drew) (by decide)
              obtain ⟨ar, cr, hur⟩ := hK.r.row.any
              have c0' := hK.r.c0
              rw [hur] at c0'
              have M9 : (w7.alloc (.cells #[.int .i64 0, .string ⟨#[]⟩] 32)).drew.cell? ⟨w2.heap.size + 1, 0, none⟩ = some (.slice ar 0 cr) ∧ (w7.alloc (.cells #[.int .i64 0, .string ⟨#[]⟩] 32)).drew.cell? ⟨w7.heap.size, 0, none⟩ = some (.int .i64 0) ∧ (w7.alloc (.cells #[.int .i64 0, .string ⟨#[]⟩] 32)).drew.cell? ⟨w7.heap.size, 1, none⟩ = some (.string ⟨#[]⟩) := ⟨c0', z0, z1⟩
              have hfin := Lib.hid (hK.below (Below.refl _ _).drew)
              clear hlk hur hK c0'
              go_wp2_with fail
              refine wp_one (a1 := ?_) (w1 := (w7.alloc (.cells #[.int .i64 0, .string ⟨#[]⟩] 32)).drew) ?_ ?_
              rotate_left
              refine wp_region_held_drew (S := (fun w' : World => w'.cell? ⟨w2.heap.size + 1, 0, none⟩ = some (.slice ar 0 cr) ∧ w'.cell? ⟨w7.heap.size, 0, none⟩ = some (.int .i64 0) ∧ w'.cell? ⟨w7.heap.size, 1, none⟩ = some (.string ⟨#[]⟩))) (by kernel_rfl) ?_ (fun hHeld => ?_)
              · exact M9
              first | (refine tw (i := 0) (v := ?_) ?_ hHeld ?_; rotate_left; focus (intro w hSw; (try dsimp only at hSw); go_simp; (try with_reducible rfl); done)) | refine tn (i := 0) hHeld ?_
              try simp only [Act.put, List.setIfInBounds_toArray, List.set_cons_zero, List.set_cons_succ]
              first | (refine tw (i := 1) (v := ?_) ?_ hHeld ?_; rotate_left; focus (intro w hSw; (try dsimp only at hSw); go_simp; (try with_reducible rfl); done)) | refine tn (i := 1) hHeld ?_
              try simp only [Act.put, List.setIfInBounds_toArray, List.set_cons_zero, List.set_cons_succ]
              first | (refine tw (i := 2) (v := ?_) ?_ hHeld ?_; rotate_left; focus (intro w hSw; (try dsimp only at hSw); go_simp; (try with_reducible rfl); done)) | refine tn (i := 2) hHeld ?_
              try simp only [Act.put, List.setIfInBounds_toArray, List.set_cons_zero, List.set_cons_succ]
              first | (refine tw (i := 3) (v := ?_) ?_ hHeld ?_; rotate_left; focus (intro w hSw; (try dsimp only at hSw); go_simp; (try with_reducible rfl); done)) | refine tn (i := 3) hHeld ?_
              try simp only [Act.put, List.setIfInBounds_toArray, List.set_cons_zero, List.set_cons_succ]
              first | (refine tw (i := 5) (v := ?_) ?_ hHeld ?_; rotate_left; focus (intro w hSw; (try dsimp only at hSw); go_simp; (try with_reducible rfl); done)) | refine tn (i := 5) hHeld ?_
              try simp only [Act.put, List.setIfInBounds_toArray, List.set_cons_zero, List.set_cons_succ]
              first | (refine tw (i := 6) (v := ?_) ?_ hHeld ?_; rotate_left; focus (intro w hSw; (try dsimp only at hSw); go_simp; (try with_reducible rfl); done)) | refine tn (i := 6) hHeld ?_
              try simp only [Act.put, List.setIfInBounds_toArray, List.set_cons_zero, List.set_cons_succ]
              first | (refine tw (i := 7) (v := ?_) ?_ hHeld ?_; rotate_left; focus (intro w hSw; (try dsimp only at hSw); go_simp; (try with_reducible rfl); done)) | refine tn (i := 7) hHeld ?_
              try simp only [Act.put, List.setIfInBounds_toArray, List.set_cons_zero, List.set_cons_succ]
              first | (refine tw (i := 8) (v := ?_) ?_ hHeld ?_; rotate_left; focus (intro w hSw; (try dsimp only at hSw); go_simp; (try with_reducible rfl); done)) | refine tn (i := 8) hHeld ?_
              try simp only [Act.put, List.setIfInBounds_toArray, List.set_cons_zero, List.set_cons_succ]
              first | (refine tw (i := 9) (v := ?_) ?_ hHeld ?_; rotate_left; focus (intro w hSw; (try dsimp only at hSw); go_simp; (try with_reducible rfl); done)) | refine tn (i := 9) hHeld ?_
              try simp only [Act.put, List.setIfInBounds_toArray, List.set_cons_zero, List.set_cons_succ]
              refine call_next (i := 4) (by kernel_rfl) (by rfl) ?_
              intro o ho K hK
              simp only [List.getElem?_toArray, List.getElem?_cons_succ, List.getElem?_cons_zero, Option.some.injEq] at ho
              subst ho
              first | (fail; refine hK.out _ _ ?_ (fun hHeld => ?_)) | (go_simp; first | (with_reducible refine hK.out _ _ ?_ (fun hHeld => ?_)) | ((go_at_call 19; (with_reducible refine hln.out.mono ?_); rintro e w8 ⟨rfl, rfl⟩); refine hK.out _ _ ?_ (fun hHeld => ?_)))
              · exact M9
              clear hK K
              try simp only [Act.put, List.setIfInBounds_toArray, List.set_cons_zero, List.set_cons_succ]
              first | (refine tw (i := 10) (v := ?_) ?_ hHeld ?_; rotate_left; focus (intro w hSw; (try dsimp only at hSw); go_simp; (try with_reducible rfl); done)) | refine tn (i := 10) hHeld ?_
              try simp only [Act.put, List.setIfInBounds_toArray, List.set_cons_zero, List.set_cons_succ]
              first | (refine tw (i := 11) (v := ?_) ?_ hHeld ?_; rotate_left; focus (intro w hSw; (try dsimp only at hSw); go_simp; (try with_reducible rfl); done)) | refine tn (i := 11) hHeld ?_
              try simp only [Act.put, List.setIfInBounds_toArray, List.set_cons_zero, List.set_cons_succ]
              first | (refine tw (i := 12) (v := ?_) ?_ hHeld ?_; rotate_left; focus (intro w hSw; (try dsimp only at hSw); go_simp; (try with_reducible rfl); done)) | refine tn (i := 12) hHeld ?_
              try simp only [Act.put, List.setIfInBounds_toArray, List.set_cons_zero, List.set_cons_succ]
              first | (refine tw (i := 13) (v := ?_) ?_ hHeld ?_; rotate_left; focus (intro w hSw; (try dsimp only at hSw); go_simp; (try with_reducible rfl); done)) | refine tn (i := 13) hHeld ?_
              try simp only [Act.put, List.setIfInBounds_toArray, List.set_cons_zero, List.set_cons_succ]
              first | (refine tw (i := 14) (v := ?_) ?_ hHeld ?_; rotate_left; focus (intro w hSw; (try dsimp only at hSw); go_simp; (try with_reducible rfl); done)) | refine tn (i := 14) hHeld ?_
              try simp only [Act.put, List.setIfInBounds_toArray, List.set_cons_zero, List.set_cons_succ]
              first | (refine tw (i := 15) (v := ?_) ?_ hHeld ?_; rotate_left; focus (intro w hSw; (try dsimp only at hSw); go_simp; (try with_reducible rfl); done)) | refine tn (i := 15) hHeld ?_
              try simp only [Act.put, List.setIfInBounds_toArray, List.set_cons_zero, List.set_cons_succ]
              first | (refine tw (i := 16) (v := ?_) ?_ hHeld ?_; rotate_left; focus (intro w hSw; (try dsimp only at hSw); go_simp; (try with_reducible rfl); done)) | refine tn (i := 16) hHeld ?_
              try simp only [Act.put, List.setIfInBounds_toArray, List.set_cons_zero, List.set_cons_succ]
              first | (refine tw (i := 17) (v := ?_) ?_ hHeld ?_; rotate_left; focus (intro w hSw; (try dsimp only at hSw); go_simp; (try with_reducible rfl); done)) | refine tn (i := 17) hHeld ?_
              try simp only [Act.put, List.setIfInBounds_toArray, List.set_cons_zero, List.set_cons_succ]
              first | (refine tw (i := 18) (v := ?_) ?_ hHeld ?_; rotate_left; focus (intro w hSw; (try dsimp only at hSw); go_simp; (try with_reducible rfl); done)) | refine tn (i := 18) hHeld ?_
              try simp only [Act.put, List.setIfInBounds_toArray, List.set_cons_zero, List.set_cons_succ]
              first | (refine tw (i := 19) (v := ?_) ?_ hHeld ?_; rotate_left; focus (intro w hSw; (try dsimp only at hSw); go_simp; (try with_reducible rfl); done)) | refine tn (i := 19) hHeld ?_
              try simp only [Act.put, List.setIfInBounds_toArray, List.set_cons_zero, List.set_cons_succ]
              first | (refine tw (i := 20) (v := ?_) ?_ hHeld ?_; rotate_left; focus (intro w hSw; (try dsimp only at hSw); go_simp; (try with_reducible rfl); done)) | refine tn (i := 20) hHeld ?_
              try simp only [Act.put, List.setIfInBounds_toArray, List.set_cons_zero, List.set_cons_succ]
              first | (refine tw (i := 21) (v := ?_) ?_ hHeld ?_; rotate_left; focus (intro w hSw; (try dsimp only at hSw); go_simp; (try with_reducible rfl); done)) | refine tn (i := 21) hHeld ?_
              try simp only [Act.put, List.setIfInBounds_toArray, List.set_cons_zero, List.set_cons_succ]
              first | (refine tw (i := 22) (v := ?_) ?_ hHeld ?_; rotate_left; focus (intro w hSw; (try dsimp only at hSw); go_simp; (try with_reducible rfl); done)) | refine tn (i := 22) hHeld ?_
              try simp only [Act.put, List.setIfInBounds_toArray, List.set_cons_zero, List.set_cons_succ]
              first | (refine tw (i := 23) (v := ?_) ?_ hHeld ?_; rotate_left; focus (intro w hSw; (try dsimp only at hSw); go_simp; (try with_reducible rfl); done)) | refine tn (i := 23) hHeld ?_
              try simp only [Act.put, List.setIfInBounds_toArray, List.set_cons_zero, List.set_cons_succ]
              first | (refine tw (i := 24) (v := ?_) ?_ hHeld ?_; rotate_left; focus (intro w hSw; (try dsimp only at hSw); go_simp; (try with_reducible rfl); done)) | refine tn (i := 24) hHeld ?_
              try simp only [Act.put, List.setIfInBounds_toArray, List.set_cons_zero, List.set_cons_succ]
              first | (refine tw (i := 25) (v := ?_) ?_ hHeld ?_; rotate_left; focus (intro w hSw; (try dsimp only at hSw); go_simp; (try with_reducible rfl); done)) | refine tn (i := 25) hHeld ?_
              try simp only [Act.put, List.setIfInBounds_toArray, List.set_cons_zero, List.set_cons_succ]
              first | (refine tw (i := 26) (v := ?_) ?_ hHeld ?_; rotate_left; focus (intro w hSw; (try dsimp only at hSw); go_simp; (try with_reducible rfl); done)) | refine tn (i := 26) hHeld ?_
              try simp only [Act.put, List.setIfInBounds_toArray, List.set_cons_zero, List.set_cons_succ]
              first | (refine tw (i := 27) (v := ?_) ?_ hHeld ?_; rotate_left; focus (intro w hSw; (try dsimp only at hSw); go_simp; (try with_reducible rfl); done)) | refine tn (i := 27) hHeld ?_
              try simp only [Act.put, List.setIfInBounds_toArray, List.set_cons_zero, List.set_cons_succ]
              first | (refine tw (i := 28) (v := ?_) ?_ hHeld ?_; rotate_left; focus (intro w hSw; (try dsimp only at hSw); go_simp; (try with_reducible rfl); done)) | refine tn (i := 28) hHeld ?_
              try simp only [Act.put, List.setIfInBounds_toArray, List.set_cons_zero, List.set_cons_succ]
              first | (refine tw (i := 29) (v := ?_) ?_ hHeld ?_; rotate_left; focus (intro w hSw; (try dsimp only at hSw); go_simp; (try with_reducible rfl); done)) | refine tn (i := 29) hHeld ?_
              try simp only [Act.put, List.setIfInBounds_toArray, List.set_cons_zero, List.set_cons_succ]
              first | (refine tw (i := 30) (v := ?_) ?_ hHeld ?_; rotate_left; focus (intro w hSw; (try dsimp only at hSw); go_simp; (try with_reducible rfl); done)) | refine tn (i := 30) hHeld ?_
              try simp only [Act.put, List.setIfInBounds_toArray, List.set_cons_zero, List.set_cons_succ]
              first | (refine tw (i := 31) (v := ?_) ?_ hHeld ?_; rotate_left; focus (intro w hSw; (try dsimp only at hSw); go_simp; (try with_reducible rfl); done)) | refine tn (i := 31) hHeld ?_
              try simp only [Act.put, List.setIfInBounds_toArray, List.set_cons_zero, List.set_cons_succ]
              first | (refine tw (i := 32) (v := ?_) ?_ hHeld ?_; rotate_left; focus (intro w hSw; (try dsimp only at hSw); go_simp; (try with_reducible rfl); done)) | refine tn (i := 32) hHeld ?_
              try simp only [Act.put, List.setIfInBounds_toArray, List.set_cons_zero, List.set_cons_succ]
              first | (refine tw (i := 33) (v := ?_) ?_ hHeld ?_; rotate_left; focus (intro w hSw; (try dsimp only at hSw); go_simp; (try with_reducible rfl); done)) | refine tn (i := 33) hHeld ?_
              try simp only [Act.put, List.setIfInBounds_toArray, List.set_cons_zero, List.set_cons_succ]
              first | (refine tw (i := 34) (v := ?_) ?_ hHeld ?_; rotate_left; focus (intro w hSw; (try dsimp only at hSw); go_simp; (try with_reducible rfl); done)) | refine tn (i := 34) hHeld ?_
              try simp only [Act.put, List.setIfInBounds_toArray, List.set_cons_zero, List.set_cons_succ]
              first | (refine tw (i := 35) (v := ?_) ?_ hHeld ?_; rotate_left; focus (intro w hSw; (try dsimp only at hSw); go_simp; (try with_reducible rfl); done)) | refine tn (i := 35) hHeld ?_
              try simp only [Act.put, List.setIfInBounds_toArray, List.set_cons_zero, List.set_cons_succ]
              first | (refine tw (i := 36) (v := ?_) ?_ hHeld ?_; rotate_left; focus (intro w hSw; (try dsimp only at hSw); go_simp; (try with_reducible rfl); done)) | refine tn (i := 36) hHeld ?_
              try simp only [Act.put, List.setIfInBounds_toArray, List.set_cons_zero, List.set_cons_succ]
              first | (refine tw (i := 37) (v := ?_) ?_ hHeld ?_; rotate_left; focus (intro w hSw; (try dsimp only at hSw); go_simp; (try with_reducible rfl); done)) | refine tn (i := 37) hHeld ?_
              try simp only [Act.put, List.setIfInBounds_toArray, List.set_cons_zero, List.set_cons_succ]
              first | (refine tw (i := 38) (v := ?_) ?_ hHeld ?_; rotate_left; focus (intro w hSw; (try dsimp only at hSw); go_simp; (try with_reducible rfl); done)) | refine tn (i := 38) hHeld ?_
              try simp only [Act.put, List.setIfInBounds_toArray, List.set_cons_zero, List.set_cons_succ]
              first | (refine tw (i := 39) (v := ?_) ?_ hHeld ?_; rotate_left; focus (intro w hSw; (try dsimp only at hSw); go_simp; (try with_reducible rfl); done)) | refine tn (i := 39) hHeld ?_
              try simp only [Act.put, List.setIfInBounds_toArray, List.set_cons_zero, List.set_cons_succ]
              first | (refine tw (i := 40) (v := ?_) ?_ hHeld ?_; rotate_left; focus (intro w hSw; (try dsimp only at hSw); go_simp; (try with_reducible rfl); done)) | refine tn (i := 40) hHeld ?_
              try simp only [Act.put, List.setIfInBounds_toArray, List.set_cons_zero, List.set_cons_succ]
              first | (refine tw (i := 41) (v := ?_) ?_ hHeld ?_; rotate_left; focus (intro w hSw; (try dsimp only at hSw); go_simp; (try with_reducible rfl); done)) | refine tn (i := 41) hHeld ?_
              try simp only [Act.put, List.setIfInBounds_toArray, List.set_cons_zero, List.set_cons_succ]
              refine wpAnyH_done (by kernel_rfl) ?_ _
              refine ⟨?_, ?_⟩
              · with_reducible rfl
              · with_reducible rfl
              go_wp2
              exact ⟨⟨k + 1, _, _, [], by omega, by go_num, hZ, hfin.out⟩, by simp [intOf]; omega⟩
          · as_aux_lemma =>
              obtain ⟨hat, hbt⟩ := look_at hL (Nat.le_trans hZ2 (by decide)) nn
              rw [hbt] at hlk
              obtain ⟨⟨y1, y2⟩, hY⟩ : ∃ y, lookV Z nn = y := ⟨_, rfl⟩
              rw [hY] at hlk hat
              have zz : ∀ w, (binOp .neq 32 (.agg #[.int .i64 y1, .string y2]) (.agg #[.int .i64 y1, .string y2])).run Try.prog w = .ok (.bool false) w := fun w => by rw [und_neq]; simp
              have hjl := (List.getElem?_eq_some_iff.1 hat).1
              have hpl := fun u' W h => rplace_any (w2.heap.size + 1) w2.heap.size u' Z nn W h (Nat.le_trans hZ2 (by decide))
              rw [if_neg hL] at hpl
              generalize plc nn Z.length = j at *
              replace hlk := Lib.hid hlk
              replace hpl := Lib.hid hpl
              have j1 : decide ((0 : Int) ≤ (j : Int)) = true := decide_eq_true (by omega)
              have j2 : decide ((j : Int) < 0) = false := decide_eq_false (by omega)
              have j3 : (0 : Int) ≤ (j : Int) := by omega
              have j4 : (j : Int) < (Z.length : Int) := by omega
              go_wp2_with (first | (go_at_call 17; (with_reducible refine hlk.out.mono ?_); rintro e w7 ⟨rfl, hb7⟩; have hb8 := bt hb7 (alb w7 (.cells #[.int .i64 y1, .string y2] 32)); have hK := hH.out.below hb8; have z0 : (w7.alloc (.cells #[.int .i64 y1, .string y2] 32)).cell? ⟨w7.heap.size, 0, none⟩ = some (.int .i64 y1) := (by simp [go_sem]); have z1 : (w7.alloc (.cells #[.int .i64 y1, .string y2] 32)).cell? ⟨w7.heap.size, 1, none⟩ = some (.string y2) := (by simp [go_sem]); have q2'' := bkeep hK.bel q2) | (go_at_call 18; (with_reducible refine (hpl.out _ _ hK.r).mono ?_); rintro e w9 ⟨rfl, rfl⟩))
              have hln : Hid (Calls Try.prog 19 #[.pointer (some ⟨w2.heap.size, 0, none⟩)] (w7.alloc (.cells #[.int .i64 y1, .string y2] 32)).drew fun e w' => e = .returned (.int .i64 Z.length) ∧ w' = (w7.alloc (.cells #[.int .i64 y1, .string y2] 32)).drew) := nlen_any _ _ _ Z _ (hK.n.below (Below.refl _ _).drew) (Nat.le_trans hZ2 (by decide))
              obtain ⟨gr, cr, hur, _, _, _⟩ := hK.r.row.slice hL
              have hrr := hK.r.row
              rw [hur] at hrr
              obtain ⟨d1, d2⟩ := hrr.at j _ hat
              have c0 := hK.r.c0
              rw [hur] at c0
              have M9 : (w7.alloc (.cells #[.int .i64 y1, .string y2] 32)).drew.cell? ⟨w2.heap.size + 1, 0, none⟩ = some (.slice (some ⟨gr, 0, none⟩) Z.length cr) ∧ (w7.alloc (.cells #[.int .i64 y1, .string y2] 32)).drew.cell? ⟨w7.heap.size, 0, none⟩ = some (.int .i64 y1) ∧ (w7.alloc (.cells #[.int .i64 y1, .string y2] 32)).drew.cell? ⟨w7.heap.size, 1, none⟩ = some (.string y2) ∧ (w7.alloc (.cells #[.int .i64 y1, .string y2] 32)).drew.cell? ⟨gr, j * 2, none⟩ = some (.int .i64 y1) ∧ (w7.alloc (.cells #[.int .i64 y1, .string y2] 32)).drew.cell? ⟨gr, j * 2 + 1, none⟩ = some (.string y2) := ⟨c0, z0, z1, d1, d2⟩
              have hfin := Lib.hid (hK.below (Below.refl _ _).drew)
              clear hlk hur hK hrr hat hL hbt hY c0 d1 d2
              go_wp2_with fail
              refine wp_one (a1 := ?_) (w1 := (w7.alloc (.cells #[.int .i64 y1, .string y2] 32)).drew) ?_ ?_
              rotate_left
              refine wp_region_held_drew (S := (fun w' : World => w'.cell? ⟨w2.heap.size + 1, 0, none⟩ = some (.slice (some ⟨gr, 0, none⟩) Z.length cr) ∧ w'.cell? ⟨w7.heap.size, 0, none⟩ = some (.int .i64 y1) ∧ w'.cell? ⟨w7.heap.size, 1, none⟩ = some (.string y2) ∧ w'.cell? ⟨gr, j * 2, none⟩ = some (.int .i64 y1) ∧ w'.cell? ⟨gr, j * 2 + 1, none⟩ = some (.string y2))) (by kernel_rfl) ?_ (fun hHeld => ?_)
              · exact M9
              first | (refine tw (i := 0) (v := ?_) ?_ hHeld ?_; rotate_left; focus (intro w hSw; (try dsimp only at hSw); go_simp; (try with_reducible rfl); done)) | refine tn (i := 0) hHeld ?_
              try simp only [Act.put, List.setIfInBounds_toArray, List.set_cons_zero, List.set_cons_succ]
              first | (refine tw (i := 1) (v := ?_) ?_ hHeld ?_; rotate_left; focus (intro w hSw; (try dsimp only at hSw); go_simp; (try with_reducible rfl); done)) | refine tn (i := 1) hHeld ?_
              try simp only [Act.put, List.setIfInBounds_toArray, List.set_cons_zero, List.set_cons_succ]
              first | (refine tw (i := 2) (v := ?_) ?_ hHeld ?_; rotate_left; focus (intro w hSw; (try dsimp only at hSw); go_simp; (try with_reducible rfl); done)) | refine tn (i := 2) hHeld ?_
              try simp only [Act.put, List.setIfInBounds_toArray, List.set_cons_zero, List.set_cons_succ]
              first | (refine tw (i := 3) (v := ?_) ?_ hHeld ?_; rotate_left; focus (intro w hSw; (try dsimp only at hSw); go_simp; (try with_reducible rfl); done)) | refine tn (i := 3) hHeld ?_
              try simp only [Act.put, List.setIfInBounds_toArray, List.set_cons_zero, List.set_cons_succ]
              first | (refine tw (i := 5) (v := ?_) ?_ hHeld ?_; rotate_left; focus (intro w hSw; (try dsimp only at hSw); go_simp; (try with_reducible rfl); done)) | refine tn (i := 5) hHeld ?_
              try simp only [Act.put, List.setIfInBounds_toArray, List.set_cons_zero, List.set_cons_succ]
              first | (refine tw (i := 6) (v := ?_) ?_ hHeld ?_; rotate_left; focus (intro w hSw; (try dsimp only at hSw); go_simp; (try with_reducible rfl); done)) | refine tn (i := 6) hHeld ?_
              try simp only [Act.put, List.setIfInBounds_toArray, List.set_cons_zero, List.set_cons_succ]
              first | (refine tw (i := 7) (v := ?_) ?_ hHeld ?_; rotate_left; focus (intro w hSw; (try dsimp only at hSw); go_simp; (try with_reducible rfl); done)) | refine tn (i := 7) hHeld ?_
              try simp only [Act.put, List.setIfInBounds_toArray, List.set_cons_zero, List.set_cons_succ]
              first | (refine tw (i := 8) (v := ?_) ?_ hHeld ?_; rotate_left; focus (intro w hSw; (try dsimp only at hSw); go_simp; (try with_reducible rfl); done)) | refine tn (i := 8) hHeld ?_
              try simp only [Act.put, List.setIfInBounds_toArray, List.set_cons_zero, List.set_cons_succ]
              first | (refine tw (i := 9) (v := ?_) ?_ hHeld ?_; rotate_left; focus (intro w hSw; (try dsimp only at hSw); go_simp; (try with_reducible rfl); done)) | refine tn (i := 9) hHeld ?_
              try simp only [Act.put, List.setIfInBounds_toArray, List.set_cons_zero, List.set_cons_succ]
              refine call_next (i := 4) (by kernel_rfl) (by rfl) ?_
              intro o ho K hK
              simp only [List.getElem?_toArray, List.getElem?_cons_succ, List.getElem?_cons_zero, Option.some.injEq] at ho
              subst ho
              first | (fail; refine hK.out _ _ ?_ (fun hHeld => ?_)) | (go_simp; first | (with_reducible refine hK.out _ _ ?_ (fun hHeld => ?_)) | ((go_at_call 19; (with_reducible refine hln.out.mono ?_); rintro e w8 ⟨rfl, rfl⟩); refine hK.out _ _ ?_ (fun hHeld => ?_)))
              · exact M9
              clear hK K
              try simp only [Act.put, List.setIfInBounds_toArray, List.set_cons_zero, List.set_cons_succ]
              first | (refine tw (i := 10) (v := ?_) ?_ hHeld ?_; rotate_left; focus (intro w hSw; (try dsimp only at hSw); go_simp; (try with_reducible rfl); done)) | refine tn (i := 10) hHeld ?_
              try simp only [Act.put, List.setIfInBounds_toArray, List.set_cons_zero, List.set_cons_succ]
              first | (refine tw (i := 11) (v := ?_) ?_ hHeld ?_; rotate_left; focus (intro w hSw; (try dsimp only at hSw); go_simp; (try with_reducible rfl); done)) | refine tn (i := 11) hHeld ?_
              try simp only [Act.put, List.setIfInBounds_toArray, List.set_cons_zero, List.set_cons_succ]
              first | (refine tw (i := 12) (v := ?_) ?_ hHeld ?_; rotate_left; focus (intro w hSw; (try dsimp only at hSw); go_simp; (try with_reducible rfl); done)) | refine tn (i := 12) hHeld ?_
              try simp only [Act.put, List.setIfInBounds_toArray, List.set_cons_zero, List.set_cons_succ]
              first | (refine tw (i := 13) (v := ?_) ?_ hHeld ?_; rotate_left; focus (intro w hSw; (try dsimp only at hSw); go_simp; (try with_reducible rfl); done)) | refine tn (i := 13) hHeld ?_
              try simp only [Act.put, List.setIfInBounds_toArray, List.set_cons_zero, List.set_cons_succ]
              first | (refine tw (i := 14) (v := ?_) ?_ hHeld ?_; rotate_left; focus (intro w hSw; (try dsimp only at hSw); go_simp; (try with_reducible rfl); done)) | refine tn (i := 14) hHeld ?_
              try simp only [Act.put, List.setIfInBounds_toArray, List.set_cons_zero, List.set_cons_succ]
              first | (refine tw (i := 15) (v := ?_) ?_ hHeld ?_; rotate_left; focus (intro w hSw; (try dsimp only at hSw); go_simp; (try with_reducible rfl); done)) | refine tn (i := 15) hHeld ?_
              try simp only [Act.put, List.setIfInBounds_toArray, List.set_cons_zero, List.set_cons_succ]
              first | (refine tw (i := 16) (v := ?_) ?_ hHeld ?_; rotate_left; focus (intro w hSw; (try dsimp only at hSw); go_simp; (try with_reducible rfl); done)) | refine tn (i := 16) hHeld ?_
              try simp only [Act.put, List.setIfInBounds_toArray, List.set_cons_zero, List.set_cons_succ]
              first | (refine tw (i := 17) (v := ?_) ?_ hHeld ?_; rotate_left; focus (intro w hSw; (try dsimp only at hSw); go_simp; (try with_reducible rfl); done)) | refine tn (i := 17) hHeld ?_
              try simp only [Act.put, List.setIfInBounds_toArray, List.set_cons_zero, List.set_cons_succ]
              first | (refine tw (i := 18) (v := ?_) ?_ hHeld ?_; rotate_left; focus (intro w hSw; (try dsimp only at hSw); go_simp; (try with_reducible rfl); done)) | refine tn (i := 18) hHeld ?_
              try simp only [Act.put, List.setIfInBounds_toArray, List.set_cons_zero, List.set_cons_succ]
              first | (refine tw (i := 19) (v := ?_) ?_ hHeld ?_; rotate_left; focus (intro w hSw; (try dsimp only at hSw); go_simp; (try with_reducible rfl); done)) | refine tn (i := 19) hHeld ?_
              try simp only [Act.put, List.setIfInBounds_toArray, List.set_cons_zero, List.set_cons_succ]
              first | (refine tw (i := 20) (v := ?_) ?_ hHeld ?_; rotate_left; focus (intro w hSw; (try dsimp only at hSw); go_simp; (try with_reducible rfl); done)) | refine tn (i := 20) hHeld ?_
              try simp only [Act.put, List.setIfInBounds_toArray, List.set_cons_zero, List.set_cons_succ]
              first | (refine tw (i := 21) (v := ?_) ?_ hHeld ?_; rotate_left; focus (intro w hSw; (try dsimp only at hSw); go_simp; (try with_reducible rfl); done)) | refine tn (i := 21) hHeld ?_
              try simp only [Act.put, List.setIfInBounds_toArray, List.set_cons_zero, List.set_cons_succ]
              first | (refine tw (i := 22) (v := ?_) ?_ hHeld ?_; rotate_left; focus (intro w hSw; (try dsimp only at hSw); go_simp; (try with_reducible rfl); done)) | refine tn (i := 22) hHeld ?_
              try simp only [Act.put, List.setIfInBounds_toArray, List.set_cons_zero, List.set_cons_succ]
              first | (refine tw (i := 23) (v := ?_) ?_ hHeld ?_; rotate_left; focus (intro w hSw; (try dsimp only at hSw); go_simp; (try with_reducible rfl); done)) | refine tn (i := 23) hHeld ?_
              try simp only [Act.put, List.setIfInBounds_toArray, List.set_cons_zero, List.set_cons_succ]
              first | (refine tw (i := 24) (v := ?_) ?_ hHeld ?_; rotate_left; focus (intro w hSw; (try dsimp only at hSw); go_simp; (try with_reducible rfl); done)) | refine tn (i := 24) hHeld ?_
              try simp only [Act.put, List.setIfInBounds_toArray, List.set_cons_zero, List.set_cons_succ]
              first | (refine tw (i := 25) (v := ?_) ?_ hHeld ?_; rotate_left; focus (intro w hSw; (try dsimp only at hSw); go_simp; (try with_reducible rfl); done)) | refine tn (i := 25) hHeld ?_
              try simp only [Act.put, List.setIfInBounds_toArray, List.set_cons_zero, List.set_cons_succ]
              first | (refine tw (i := 26) (v := ?_) ?_ hHeld ?_; rotate_left; focus (intro w hSw; (try dsimp only at hSw); go_simp; (try with_reducible rfl); done)) | refine tn (i := 26) hHeld ?_
              try simp only [Act.put, List.setIfInBounds_toArray, List.set_cons_zero, List.set_cons_succ]
              first | (refine tw (i := 27) (v := ?_) ?_ hHeld ?_; rotate_left; focus (intro w hSw; (try dsimp only at hSw); go_simp; (try with_reducible rfl); done)) | refine tn (i := 27) hHeld ?_
              try simp only [Act.put, List.setIfInBounds_toArray, List.set_cons_zero, List.set_cons_succ]
              first | (refine tw (i := 28) (v := ?_) ?_ hHeld ?_; rotate_left; focus (intro w hSw; (try dsimp only at hSw); go_simp; (try with_reducible rfl); done)) | refine tn (i := 28) hHeld ?_
              try simp only [Act.put, List.setIfInBounds_toArray, List.set_cons_zero, List.set_cons_succ]
              first | (refine tw (i := 29) (v := ?_) ?_ hHeld ?_; rotate_left; focus (intro w hSw; (try dsimp only at hSw); go_simp; (try with_reducible rfl); done)) | refine tn (i := 29) hHeld ?_
              try simp only [Act.put, List.setIfInBounds_toArray, List.set_cons_zero, List.set_cons_succ]
              first | (refine tw (i := 30) (v := ?_) ?_ hHeld ?_; rotate_left; focus (intro w hSw; (try dsimp only at hSw); go_simp; (try with_reducible rfl); done)) | refine tn (i := 30) hHeld ?_
              try simp only [Act.put, List.setIfInBounds_toArray, List.set_cons_zero, List.set_cons_succ]
              first | (refine tw (i := 31) (v := ?_) ?_ hHeld ?_; rotate_left; focus (intro w hSw; (try dsimp only at hSw); go_simp; (try with_reducible rfl); done)) | refine tn (i := 31) hHeld ?_
              try simp only [Act.put, List.setIfInBounds_toArray, List.set_cons_zero, List.set_cons_succ]
              first | (refine tw (i := 32) (v := ?_) ?_ hHeld ?_; rotate_left; focus (intro w hSw; (try dsimp only at hSw); go_simp; (try with_reducible rfl); done)) | refine tn (i := 32) hHeld ?_
              try simp only [Act.put, List.setIfInBounds_toArray, List.set_cons_zero, List.set_cons_succ]
              first | (refine tw (i := 33) (v := ?_) ?_ hHeld ?_; rotate_left; focus (intro w hSw; (try dsimp only at hSw); go_simp; (try with_reducible rfl); done)) | refine tn (i := 33) hHeld ?_
              try simp only [Act.put, List.setIfInBounds_toArray, List.set_cons_zero, List.set_cons_succ]
              first | (refine tw (i := 34) (v := ?_) ?_ hHeld ?_; rotate_left; focus (intro w hSw; (try dsimp only at hSw); go_simp; (try with_reducible rfl); done)) | refine tn (i := 34) hHeld ?_
              try simp only [Act.put, List.setIfInBounds_toArray, List.set_cons_zero, List.set_cons_succ]
              first | (refine tw (i := 35) (v := ?_) ?_ hHeld ?_; rotate_left; focus (intro w hSw; (try dsimp only at hSw); go_simp; (try with_reducible rfl); done)) | refine tn (i := 35) hHeld ?_
              try simp only [Act.put, List.setIfInBounds_toArray, List.set_cons_zero, List.set_cons_succ]
              first | (refine tw (i := 36) (v := ?_) ?_ hHeld ?_; rotate_left; focus (intro w hSw; (try dsimp only at hSw); go_simp; (try with_reducible rfl); done)) | refine tn (i := 36) hHeld ?_
              try simp only [Act.put, List.setIfInBounds_toArray, List.set_cons_zero, List.set_cons_succ]
              first | (refine tw (i := 37) (v := ?_) ?_ hHeld ?_; rotate_left; focus (intro w hSw; (try dsimp only at hSw); go_simp; (try with_reducible rfl); done)) | refine tn (i := 37) hHeld ?_
              try simp only [Act.put, List.setIfInBounds_toArray, List.set_cons_zero, List.set_cons_succ]
              first | (refine tw (i := 38) (v := ?_) ?_ hHeld ?_; rotate_left; focus (intro w hSw; (try dsimp only at hSw); go_simp; (try with_reducible rfl); done)) | refine tn (i := 38) hHeld ?_
              try simp only [Act.put, List.setIfInBounds_toArray, List.set_cons_zero, List.set_cons_succ]
              first | (refine tw (i := 39) (v := ?_) ?_ hHeld ?_; rotate_left; focus (intro w hSw; (try dsimp only at hSw); go_simp; (try with_reducible rfl); done)) | refine tn (i := 39) hHeld ?_
              try simp only [Act.put, List.setIfInBounds_toArray, List.set_cons_zero, List.set_cons_succ]
              first | (refine tw (i := 40) (v := ?_) ?_ hHeld ?_; rotate_left; focus (intro w hSw; (try dsimp only at hSw); go_simp; (try with_reducible rfl); done)) | refine tn (i := 40) hHeld ?_
              try simp only [Act.put, List.setIfInBounds_toArray, List.set_cons_zero, List.set_cons_succ]
              first | (refine tw (i := 41) (v := ?_) ?_ hHeld ?_; rotate_left; focus (intro w hSw; (try dsimp only at hSw); go_simp; (try with_reducible rfl); done)) | refine tn (i := 41) hHeld ?_
              try simp only [Act.put, List.setIfInBounds_toArray, List.set_cons_zero, List.set_cons_succ]
              refine wpAnyH_done (by kernel_rfl) ?_ _
              refine ⟨?_, ?_⟩
              · with_reducible rfl
              · with_reducible rfl
              go_wp2
              exact ⟨⟨k + 1, _, _, Z, by omega, by go_num, hZ, hfin.out⟩, by simp [intOf]; omega⟩
      · have hd2 : decide ((k : Int) < (l.length : Int)) = false := decide_eq_false (by omega)
        have hL2 : L.length ≤ 200 := hlen.out
        go_wp2
        go_loopw [16] (fun i wr => ∃ (j : Nat), j ≤ L.length ∧ i = .int .i64 j ∧ Hid (ND w2.heap.size w2.heap.size (w2.heap.size + 1) v u L L w2 wr)) (fun i _ => L.length - (intOf i).toNat)
        case atStart => exact ⟨0, Nat.zero_le _, rfl, hS⟩
        case round =>
          obtain ⟨j, hj, rfl, hT⟩ := hrel
          clear hS
          obtain ⟨ar, cr, hur⟩ := hT.out.r.row.any
          have c0 := hT.out.r.c0
          rw [hur] at c0
          by_cases hjl : j < L.length
          · have hd3 : decide ((j : Int) < (L.length : Int)) = true := decide_eq_true (by omega)
            have hL : L ≠ [] := List.length_pos_iff.1 (by omega)
            have hlk := look_d (j : Int) hT.out (Nat.le_trans hL2 (by decide))
            obtain ⟨hat, hbt⟩ := look_at hL (Nat.le_trans hL2 (by decide)) (j : Int)
            rw [plc_self j L.length hjl (by omega)] at hat
            rw [hbt] at hlk
            obtain ⟨⟨y1, y2⟩, hY⟩ : ∃ y, lookV L (j : Int) = y := ⟨_, rfl⟩
            rw [hY] at hlk hat
            have zz : ∀ w, (binOp .neq 32 (.agg #[.int .i64 y1, .string y2]) (.agg #[.int .i64 y1, .string y2])).run Try.prog w = .ok (.bool false) w := fun w => by rw [und_neq]; simp
            replace hlk := Lib.hid hlk
            have j3 : (0 : Int) ≤ (j : Int) := by omega
            have j4 : (j : Int) < (L.length : Int) := by omega
            go_wp2_with (first | (go_at_call 17; (with_reducible refine hlk.out.mono ?_); rintro e w7 ⟨rfl, hb7⟩; have hb8 := bt hb7 (alb w7 (.cells #[.int .i64 y1, .string y2] 32)); have hK := hT.out.below hb8; have z0 : (w7.alloc (.cells #[.int .i64 y1, .string y2] 32)).cell? ⟨w7.heap.size, 0, none⟩ = some (.int .i64 y1) := (by simp [go_sem]); have z1 : (w7.alloc (.cells #[.int .i64 y1, .string y2] 32)).cell? ⟨w7.heap.size, 1, none⟩ = some (.string y2) := (by simp [go_sem])))
            obtain ⟨gr, cr2, hur2, _, _, _⟩ := hK.r.row.slice hL
            have hrr := hK.r.row
            rw [hur2] at hrr
            obtain ⟨d1, d2⟩ := hrr.at j _ hat
            have c2 := hK.r.c0
            rw [hur2] at c2
            have M9 : (w7.alloc (.cells #[.int .i64 y1, .string y2] 32)).drew.cell? ⟨w2.heap.size + 1, 0, none⟩ = some (.slice (some ⟨gr, 0, none⟩) L.length cr2) ∧ (w7.alloc (.cells #[.int .i64 y1, .string y2] 32)).drew.cell? ⟨w7.heap.size, 0, none⟩ = some (.int .i64 y1) ∧ (w7.alloc (.cells #[.int .i64 y1, .string y2] 32)).drew.cell? ⟨w7.heap.size, 1, none⟩ = some (.string y2) ∧ (w7.alloc (.cells #[.int .i64 y1, .string y2] 32)).drew.cell? ⟨gr, j * 2, none⟩ = some (.int .i64 y1) ∧ (w7.alloc (.cells #[.int .i64 y1, .string y2] 32)).drew.cell? ⟨gr, j * 2 + 1, none⟩ = some (.string y2) := ⟨c2, z0, z1, d1, d2⟩
            have hfin := Lib.hid (hK.below (Below.refl _ _).drew)
            clear hlk hur hur2 hK hrr hat hL hbt hY c2 d1 d2
            go_wp2_with fail
            refine wp_one (a1 := ?_) (w1 := (w7.alloc (.cells #[.int .i64 y1, .string y2] 32)).drew) ?_ ?_
            rotate_left
            refine wp_region_held_drew (S := (fun w' : World => w'.cell? ⟨w2.heap.size + 1, 0, none⟩ = some (.slice (some ⟨gr, 0, none⟩) L.length cr2) ∧ w'.cell? ⟨w7.heap.size, 0, none⟩ = some (.int .i64 y1) ∧ w'.cell? ⟨w7.heap.size, 1, none⟩ = some (.string y2) ∧ w'.cell? ⟨gr, j * 2, none⟩ = some (.int .i64 y1) ∧ w'.cell? ⟨gr, j * 2 + 1, none⟩ = some (.string y2))) (by kernel_rfl) ?_ (fun hHeld => ?_)
            · exact M9
            first | (refine tw (i := 0) (v := ?_) ?_ hHeld ?_; rotate_left; focus (intro w hSw; (try dsimp only at hSw); go_simp; (try with_reducible rfl); done)) | refine tn (i := 0) hHeld ?_
            try simp only [Act.put, List.setIfInBounds_toArray, List.set_cons_zero, List.set_cons_succ]
            first | (refine tw (i := 1) (v := ?_) ?_ hHeld ?_; rotate_left; focus (intro w hSw; (try dsimp only at hSw); go_simp; (try with_reducible rfl); done)) | refine tn (i := 1) hHeld ?_
            try simp only [Act.put, List.setIfInBounds_toArray, List.set_cons_zero, List.set_cons_succ]
            first | (refine tw (i := 2) (v := ?_) ?_ hHeld ?_; rotate_left; focus (intro w hSw; (try dsimp only at hSw); go_simp; (try with_reducible rfl); done)) | refine tn (i := 2) hHeld ?_
            try simp only [Act.put, List.setIfInBounds_toArray, List.set_cons_zero, List.set_cons_succ]
            first | (refine tw (i := 3) (v := ?_) ?_ hHeld ?_; rotate_left; focus (intro w hSw; (try dsimp only at hSw); go_simp; (try with_reducible rfl); done)) | refine tn (i := 3) hHeld ?_
            try simp only [Act.put, List.setIfInBounds_toArray, List.set_cons_zero, List.set_cons_succ]
            first | (refine tw (i := 4) (v := ?_) ?_ hHeld ?_; rotate_left; focus (intro w hSw; (try dsimp only at hSw); go_simp; (try with_reducible rfl); done)) | refine tn (i := 4) hHeld ?_
            try simp only [Act.put, List.setIfInBounds_toArray, List.set_cons_zero, List.set_cons_succ]
            first | (refine tw (i := 5) (v := ?_) ?_ hHeld ?_; rotate_left; focus (intro w hSw; (try dsimp only at hSw); go_simp; (try with_reducible rfl); done)) | refine tn (i := 5) hHeld ?_
            try simp only [Act.put, List.setIfInBounds_toArray, List.set_cons_zero, List.set_cons_succ]
            first | (refine tw (i := 6) (v := ?_) ?_ hHeld ?_; rotate_left; focus (intro w hSw; (try dsimp only at hSw); go_simp; (try with_reducible rfl); done)) | refine tn (i := 6) hHeld ?_
            try simp only [Act.put, List.setIfInBounds_toArray, List.set_cons_zero, List.set_cons_succ]
            first | (refine tw (i := 7) (v := ?_) ?_ hHeld ?_; rotate_left; focus (intro w hSw; (try dsimp only at hSw); go_simp; (try with_reducible rfl); done)) | refine tn (i := 7) hHeld ?_
            try simp only [Act.put, List.setIfInBounds_toArray, List.set_cons_zero, List.set_cons_succ]
            first | (refine tw (i := 8) (v := ?_) ?_ hHeld ?_; rotate_left; focus (intro w hSw; (try dsimp only at hSw); go_simp; (try with_reducible rfl); done)) | refine tn (i := 8) hHeld ?_
            try simp only [Act.put, List.setIfInBounds_toArray, List.set_cons_zero, List.set_cons_succ]
            first | (refine tw (i := 9) (v := ?_) ?_ hHeld ?_; rotate_left; focus (intro w hSw; (try dsimp only at hSw); go_simp; (try with_reducible rfl); done)) | refine tn (i := 9) hHeld ?_
            try simp only [Act.put, List.setIfInBounds_toArray, List.set_cons_zero, List.set_cons_succ]
            first | (refine tw (i := 10) (v := ?_) ?_ hHeld ?_; rotate_left; focus (intro w hSw; (try dsimp only at hSw); go_simp; (try with_reducible rfl); done)) | refine tn (i := 10) hHeld ?_
            try simp only [Act.put, List.setIfInBounds_toArray, List.set_cons_zero, List.set_cons_succ]
            first | (refine tw (i := 11) (v := ?_) ?_ hHeld ?_; rotate_left; focus (intro w hSw; (try dsimp only at hSw); go_simp; (try with_reducible rfl); done)) | refine tn (i := 11) hHeld ?_
            try simp only [Act.put, List.setIfInBounds_toArray, List.set_cons_zero, List.set_cons_succ]
            first | (refine tw (i := 12) (v := ?_) ?_ hHeld ?_; rotate_left; focus (intro w hSw; (try dsimp only at hSw); go_simp; (try with_reducible rfl); done)) | refine tn (i := 12) hHeld ?_
            try simp only [Act.put, List.setIfInBounds_toArray, List.set_cons_zero, List.set_cons_succ]
            refine wpAnyH_done (by kernel_rfl) ?_ _
            refine ⟨?_, ?_⟩
            · with_reducible rfl
            · with_reducible rfl
            go_wp2
            exact ⟨⟨j + 1, by omega, by go_num, hfin⟩, by simp [intOf]; omega⟩
          · have hd3 : decide ((j : Int) < (L.length : Int)) = false := decide_eq_false (by omega)
            go_wp2
            go_ret
            exact ⟨rfl, bt hbw.out hT.out.bel⟩
end Go.Proofs.Ytfomeiikgdiefaa
