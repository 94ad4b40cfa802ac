/-
  Frames under way (chapter 26): the reference's net.
-/
import Derived.Test.YtfomeiikgdiefaaNetClear
namespace Go.Proofs.Ytfomeiikgdiefaa
open Go.RowKit
set_option linter.unusedVariables false
set_option linter.unusedSimpArgs false

/-- the new row is the old one's block, or lies behind all, or in none -/
def Sty (w : World) (v v' : Value) : Prop := ∀ g, v'.ownBlock = some g → v.ownBlock = some g ∨ w.heap.size ≤ g
theorem Stay.sty {w : World} {v v' : Value} (h : Stay w v v') : Sty w v v' := by
  intro g hg
  rcases h with h | ⟨g', h1, h2⟩
  · exact .inl (h ▸ hg)
  · rw [hg] at h1; injection h1 with h1; subst h1; exact .inr h2
def RChg (w : World) (q B : Nat) (v : Value) (l' : List U2) (r : Value) (e : Ending) (w' : World) : Prop := e = .returned r ∧ ∃ v', NT 30 w' q B v' l' ∧ Sty w v v' ∧ Frm (fun k => k = q) w w'
theorem RChg.same {w w' : World} {q B : Nat} {v : Value} {l : List U2} {r : Value} (h : NT 30 w q B v l) (hb : Below w.heap.size w w') : RChg w q B v l r (.returned r) w' := ⟨rfl, v, h.below hb, fun g hg => .inl hg, .ofBelow hb⟩
theorem ux_frm {S : Nat → Prop} {w w' : World} {g o n c : Nat} {l : List U2} (h : UX w (.slice (some ⟨g, o, none⟩) n c) l) (hf : Frm S w w') (hg : ¬ S g) : UX w' (.slice (some ⟨g, o, none⟩) n c) l := by
  rcases h with ⟨e, _⟩ | ⟨g', o', cap, e, hc⟩
  · cases e
  · refine .inr ⟨g', o', cap, e, fun j u hj => hf.cell (p := ⟨g', o' + j, none⟩) ?_ (hc j u hj)⟩
    injection e with e1
    injection e1 with e1
    injection e1 with e1
    rw [← e1]; exact hg
theorem urow_mono {W : World} {B B' : Nat} {v : Value} {l : List U2} (h : URow W B v l) (hb : B' ≤ B) : URow W B' v l := ownsRow_mono h hb
theorem rput_new {w w2 : World} {q B : Nat} {v v2 : Value} {l l2 : List U2} (h : NT 30 w q B v l) (hB : B ≤ w.heap.size) (hb : Below w.heap.size w w2) (hr : URow w2 w.heap.size v2 l2) : ∃ v', NT 30 (w2.setCell ⟨q, 0, none⟩ v2) q B v' l2 ∧ Sty w v v' ∧ Frm (fun k => k = q) w (w2.setCell ⟨q, 0, none⟩ v2) := by
  refine ⟨v2, NT.put ((hb.block q h.lt).trans h.box) (ownsRow_mono hr hB) (by decide), fun g hg => .inr (hr.lt g hg).1, (Frm.ofBelow hb).trans (Frm.one w2 q 0 v2)⟩
theorem rplace_any (q B : Nat) (v : Value) (l : List U2) (n : Int) (w : World) (h : NT 30 w q B v l) (hm : l.length ≤ 1000) : Calls Try.prog 18 #[.pointer (some ⟨q, 0, none⟩), .int .i64 n] w fun e w' => e = .returned (.int .i64 (if l = [] then -1 else (plc n l.length : Int))) ∧ w' = w := by
  obtain ⟨a, c, rfl⟩ := h.row.any
  have h0 := h.c0
  by_cases hl : l = []
  · subst hl
    rw [if_pos rfl]
    go_enter Try.func18, Try.ntmps18
    go_wp2
    go_ret
    exact ⟨rfl, rfl⟩
  · have hl0 : 0 < l.length := List.length_pos_iff.2 hl
    rw [if_neg hl]
    obtain ⟨hpl, hplt⟩ := plc_eq n l.length hl0 (by omega)
    have hz : ((l.length : Int) == 0) = false := beq_eq_false_iff_ne.2 (by omega)
    have hne : ¬ (l.length : Int) = 0 := by omega
    have hw1 : IntKind.u64.wrap (l.length : Int) = (l.length : Int) := by rw [IntKind.wrap_u64]; omega
    rw [← hpl]
    clear hpl hplt hl
    go_enter Try.func18, Try.ntmps18
    go_wp2
    go_ret
    exact ⟨rfl, rfl⟩
set_option maxHeartbeats 3200000 in
theorem rput_any (q B : Nat) (v : Value) (l : List U2) (x1 : Int) (x2 : ByteArray) (w : World) (h : NT 30 w q B v l) (hB : B ≤ w.heap.size) (hm : l.length ≤ 1000) : Calls Try.prog 9 #[.pointer (some ⟨q, 0, none⟩), .agg #[.int .i64 x1, .string x2]] w
    (RChg w q B v (putL (x1, x2) l) (.int .i64 (putE (x1, x2) l.length))) := by
  obtain ⟨a, c, rfl⟩ := h.row.any
  have hW := h.below (alb w (.cells #[.int .i64 x1, .string x2] 32))
  have h0 := hW.c0
  have hsame := Lib.hid (fun r => RChg.same (r := r) h (alb w (.cells #[.int .i64 x1, .string x2] 32)))
  obtain ⟨E, hE⟩ : ∃ E, putE (x1, x2) l.length = E := ⟨_, rfl⟩
  have hL : putL (x1, x2) l = if E = 0 then l ++ [(x1, x2)] else l := by unfold putL; rw [hE]
  have hE2 : putE (x1, x2) l.length = if x1 ≠ 0 ∧ x1 ≠ 1 then 3 else if 700 < x2.size then 11 else if 200 ≤ l.length then 6 else 0 := rfl
  by_cases q1 : x1 ≠ 0 ∧ x1 ≠ 1
  · rw [if_pos q1, hE] at hE2
    subst hE2
    rw [hL, hE, if_neg (by decide)]
    clear hE hL
    by_cases q2 : x1 < 0
    · have z1 : decide (x1 < 0) = true := decide_eq_true q2
      clear q1
      go_enter Try.func9, Try.ntmps9
      go_wp2
      go_ret
      exact hsame.out _
    · have z1 : decide (x1 < 0) = false := decide_eq_false q2
      have z2 : decide (1 < x1) = true := decide_eq_true (by omega)
      clear q1
      go_enter Try.func9, Try.ntmps9
      go_wp2
      go_ret
      exact hsame.out _
  · rw [if_neg q1] at hE2
    have z1 : decide (x1 < 0) = false := decide_eq_false (by omega)
    have z2 : decide (1 < x1) = false := decide_eq_false (by omega)
    clear q1
    by_cases q2 : 700 < x2.size
    · rw [if_pos q2, hE] at hE2
      subst hE2
      rw [hL, hE, if_neg (by decide)]
      have z3 : decide ((700 : Int) < (x2.size : Int)) = true := decide_eq_true (by omega)
      have z4 : decide (700 < x2.size) = true := decide_eq_true q2
      clear hE hL
      go_enter Try.func9, Try.ntmps9
      go_wp2
      go_ret
      exact hsame.out _
    · have z3 : decide ((700 : Int) < (x2.size : Int)) = false := decide_eq_false (by omega)
      have z4 : decide (700 < x2.size) = false := decide_eq_false q2
      rw [if_neg q2] at hE2
      by_cases q3 : 200 ≤ l.length
      · rw [if_pos q3, hE] at hE2
        subst hE2
        rw [hL, hE, if_neg (by decide)]
        have z5 : decide ((200 : Int) ≤ (l.length : Int)) = true := decide_eq_true (by omega)
        have z6 : decide (200 ≤ l.length) = true := decide_eq_true q3
        clear hE hL
        go_enter Try.func9, Try.ntmps9
        go_wp2
        go_ret
        exact hsame.out _
      · have z5 : decide ((200 : Int) ≤ (l.length : Int)) = false := decide_eq_false (by omega)
        have z6 : decide (200 ≤ l.length) = false := decide_eq_false q3
        rw [if_neg q3, hE] at hE2
        subst hE2
        rw [hL, hE, if_pos rfl]
        clear hE hL hsame
        have hb1 : Below w.heap.size w ((w.alloc (.cells #[.int .i64 x1, .string x2] 32)).alloc (.cells #[] 32)).drew := (bt (alb w _) (alb _ _)).drew
        have hbA : Below w.heap.size w (((w.alloc (.cells #[.int .i64 x1, .string x2] 32)).alloc (.cells #[] 32)).alloc (.cells #[.int .i64 x1, .string x2] 32)).drew := (bt (bt (alb w _) (alb _ _)) (alb _ _)).drew
        have hbB : Below w.heap.size w (((w.alloc (.cells #[.int .i64 x1, .string x2] 32)).alloc (.cells #[.int .i64 x1, .string x2] 32)).alloc (.cells #[] 32)).drew := (bt (bt (alb w _) (alb _ _)) (alb _ _)).drew
        have hb2 : Below w.heap.size w ((w.alloc (.cells #[.int .i64 x1, .string x2] 32)).alloc (.cells #[.int .i64 x1, .string x2] 32)).drew := (bt (alb w _) (alb _ _)).drew
        have r1 : URow ((w.alloc (.cells #[.int .i64 x1, .string x2] 32)).alloc (.cells #[] 32)).drew (w.heap.size + 1) (.slice (some ⟨w.heap.size + 1, 0, none⟩) 0 0) [] := by
          have := (URow.made (w.alloc (.cells #[.int .i64 x1, .string x2] 32)) (w.heap.size + 1) (by simp)).below (Below.refl _ _).drew
          rwa [World.size_alloc] at this
        have rA : URow (((w.alloc (.cells #[.int .i64 x1, .string x2] 32)).alloc (.cells #[] 32)).alloc (.cells #[.int .i64 x1, .string x2] 32)).drew (w.heap.size + 1) (.slice (some ⟨w.heap.size + 1, 0, none⟩) 0 0) [] := by
          have := ((URow.made (w.alloc (.cells #[.int .i64 x1, .string x2] 32)) (w.heap.size + 1) (by simp)).below (alb _ (.cells #[.int .i64 x1, .string x2] 32))).below (Below.refl _ _).drew
          rwa [World.size_alloc] at this
        have rB : URow (((w.alloc (.cells #[.int .i64 x1, .string x2] 32)).alloc (.cells #[.int .i64 x1, .string x2] 32)).alloc (.cells #[] 32)).drew (w.heap.size + 1) (.slice (some ⟨w.heap.size + 1 + 1, 0, none⟩) 0 0) [] := by
          have := (URow.made ((w.alloc (.cells #[.int .i64 x1, .string x2] 32)).alloc (.cells #[.int .i64 x1, .string x2] 32)) (w.heap.size + 1) (by first | (simp; done) | (simp; omega))).below (Below.refl _ _).drew
          rwa [World.size_alloc, World.size_alloc] at this
        have xA : UX (((w.alloc (.cells #[.int .i64 x1, .string x2] 32)).alloc (.cells #[] 32)).alloc (.cells #[.int .i64 x1, .string x2] 32)).drew (.slice (some ⟨w.heap.size + 1 + 1, 0, none⟩) 1 1) [(x1, x2)] := by
          have := (UX.one ((w.alloc (.cells #[.int .i64 x1, .string x2] 32)).alloc (.cells #[] 32)) (x1, x2)).below (Below.refl _ _).drew
          rwa [World.size_alloc, World.size_alloc] at this
        have xB : UX (((w.alloc (.cells #[.int .i64 x1, .string x2] 32)).alloc (.cells #[.int .i64 x1, .string x2] 32)).alloc (.cells #[] 32)).drew (.slice (some ⟨w.heap.size + 1, 0, none⟩) 1 1) [(x1, x2)] := by
          have := ((UX.one (w.alloc (.cells #[.int .i64 x1, .string x2] 32)) (x1, x2)).below (alb _ (.cells #[] 32))).below (Below.refl _ _).drew
          rwa [World.size_alloc] at this
        have hvx := h.row.ux
        have hlen1 : ([] : List U2).length + l.length ≤ 1000000 := by simp; omega
        have hlen2 : ([] ++ l : List U2).length + [(x1, x2)].length ≤ 1000000 := by simp; omega
        have S0 : ∀ W, Below w.heap.size w W → W.cell? ⟨w.heap.size, 0, none⟩ = some (.int .i64 x1) → W.cell? ⟨w.heap.size, 1, none⟩ = some (.string x2) → W.cell? ⟨q, 0, none⟩ = some (.slice a l.length c) ∧ W.cell? ⟨w.heap.size, 0, none⟩ = some (.int .i64 x1) ∧ W.cell? ⟨w.heap.size, 1, none⟩ = some (.string x2) := fun W hb h1 h2 => ⟨bkeep hb h.c0, h1, h2⟩
        have M0 := S0 (w.alloc (.cells #[.int .i64 x1, .string x2] 32)).drew (alb w _).drew (by simp [go_sem]) (by simp [go_sem])
        have M1 := S0 _ hb1 (by simp [go_sem]) (by simp [go_sem])
        have M2 := S0 _ hb2 (by simp [go_sem]) (by simp [go_sem])
        have MA := S0 _ hbA (by simp [go_sem]) (by simp [go_sem])
        have MB := S0 _ hbB (by simp [go_sem]) (by simp [go_sem])
        replace S0 := Lib.hid S0
        have hown : ∀ (W W' : World) (g : Nat), w.heap.size ≤ g → Below w.heap.size w W → Frm (fun k => some k = (Value.slice (some ⟨g, 0, none⟩) 0 0).ownBlock) W W' → Below w.heap.size w W' := fun W W' g hg hb hf => hf.after hb hb.size (fun k hk e => by simp only [Value.ownBlock, Option.some.injEq] at e; omega)
        have hown2 : ∀ (W W' : World) (v : Value) (l : List U2), URow W (w.heap.size + 1) v l → Below w.heap.size w W → Frm (fun k => some k = v.ownBlock) W W' → Below w.heap.size w W' := fun W W' v l hr hb hf => hf.after hb hb.size (fun k hk e => by have := (hr.lt k e.symm).1; omega)
        replace hown := Lib.hid hown
        replace hown2 := Lib.hid hown2
        have hb1 := Lib.hid hb1
        have hbA := Lib.hid hbA
        have hbB := Lib.hid hbB
        have hz1 : w.heap.size + 1 ≤ ((w.alloc (.cells #[.int .i64 x1, .string x2] 32)).alloc (.cells #[] 32)).drew.heap.size := by simp [World.drew]
        have hzA : w.heap.size + 1 ≤ (((w.alloc (.cells #[.int .i64 x1, .string x2] 32)).alloc (.cells #[] 32)).alloc (.cells #[.int .i64 x1, .string x2] 32)).drew.heap.size := by first | (simp [World.drew]; done) | (simp [World.drew]; omega)
        have hzB : w.heap.size + 1 ≤ (((w.alloc (.cells #[.int .i64 x1, .string x2] 32)).alloc (.cells #[.int .i64 x1, .string x2] 32)).alloc (.cells #[] 32)).drew.heap.size := by first | (simp [World.drew]; done) | (simp [World.drew]; omega)
        have hfz := h.f0
        have hcw := h.c0
        go_enter Try.func9, Try.ntmps9
        go_wp2
        refine wp_region_drewS (S := (fun w' : World => w'.cell? ⟨q, 0, none⟩ = some (.slice a l.length c) ∧ w'.cell? ⟨w.heap.size, 0, none⟩ = some (.int .i64 x1) ∧ w'.cell? ⟨w.heap.size, 1, none⟩ = some (.string x2))) 12 (by kernel_rfl) (by kernel_rfl) ?_ (fun hLst hHeld => ?_)
        · first | exact M0 | exact M1 | exact M2 | exact MA | exact MB | exact M5 | exact M6 | exact M7
        first | (refine tws (i := 0) (v := ?_) hLst ?_ hHeld ?_; rotate_left; focus (intro w hSw; (try dsimp only at hSw); go_simp; (try with_reducible rfl); done)) | refine tns (i := 0) hLst hHeld ?_
        try simp only [Act.put, List.setIfInBounds_toArray, List.set_cons_zero, List.set_cons_succ]
        first | (refine tws (i := 2) (v := ?_) hLst ?_ hHeld ?_; rotate_left; focus (intro w hSw; (try dsimp only at hSw); go_simp; (try with_reducible rfl); done)) | refine tns (i := 2) hLst hHeld ?_
        try simp only [Act.put, List.setIfInBounds_toArray, List.set_cons_zero, List.set_cons_succ]
        first | (refine tws (i := 3) (v := ?_) hLst ?_ hHeld ?_; rotate_left; focus (intro w hSw; (try dsimp only at hSw); go_simp; (try with_reducible rfl); done)) | refine tns (i := 3) hLst hHeld ?_
        try simp only [Act.put, List.setIfInBounds_toArray, List.set_cons_zero, List.set_cons_succ]
        first | (refine tws (i := 4) (v := ?_) hLst ?_ hHeld ?_; rotate_left; focus (intro w hSw; (try dsimp only at hSw); go_simp; (try with_reducible rfl); done)) | refine tns (i := 4) hLst hHeld ?_
        try simp only [Act.put, List.setIfInBounds_toArray, List.set_cons_zero, List.set_cons_succ]
        first | (refine tws (i := 5) (v := ?_) hLst ?_ hHeld ?_; rotate_left; focus (intro w hSw; (try dsimp only at hSw); go_simp; (try with_reducible rfl); done)) | refine tns (i := 5) hLst hHeld ?_
        try simp only [Act.put, List.setIfInBounds_toArray, List.set_cons_zero, List.set_cons_succ]
        first | (refine tws (i := 7) (v := ?_) hLst ?_ hHeld ?_; rotate_left; focus (intro w hSw; (try dsimp only at hSw); go_simp; (try with_reducible rfl); done)) | refine tns (i := 7) hLst hHeld ?_
        try simp only [Act.put, List.setIfInBounds_toArray, List.set_cons_zero, List.set_cons_succ]
        refine call_nexts2 (i := 1) (j := 8) (by kernel_rfl) (by rfl) (by rfl) ?_ ?_
        · intro o ho K hK
          simp only [List.getElem?_toArray, List.getElem?_cons_succ, List.getElem?_cons_zero, Option.some.injEq] at ho
          subst ho
          first | (go_simp; first | (with_reducible refine hK.out _ _ ?_ (fun hHeld => ?_)) | (fail; refine hK.out _ _ ?_ (fun hHeld => ?_)))
          · first | exact M0 | exact M1 | exact M2 | exact MA | exact MB | exact M5 | exact M6 | exact M7
          clear hK K
          try simp only [Act.put, List.setIfInBounds_toArray, List.set_cons_zero, List.set_cons_succ]
          refine call_nexts2 (i := 6) (j := 8) (by kernel_rfl) (by rfl) (by rfl) ?_ ?_
          · intro o ho K hK
            simp only [List.getElem?_toArray, List.getElem?_cons_succ, List.getElem?_cons_zero, Option.some.injEq] at ho
            subst ho
            (first | (refine step_app_ux rfl (.tmp 27) (.tmp 31) _ (w.heap.size + 1) (.slice (some ⟨w.heap.size + 1, 0, none⟩) 0 0) (.slice a l.length c) [] l rfl rfl r1 (hvx.below hb1.out) hlen1 hz1 ?_ rfl rfl; intro v5 w5 hs5 hf5 hst5; have hb5 := hown.out _ _ _ (by omega) hb1.out hf5; have M5 := S0.out _ hb5 (hf5.cell (p := ⟨w.heap.size, 0, none⟩) (by first | (simp [Value.ownBlock]; done) | (simp [Value.ownBlock]; omega)) M1.2.1) (hf5.cell (p := ⟨w.heap.size, 1, none⟩) (by first | (simp [Value.ownBlock]; done) | (simp [Value.ownBlock]; omega)) M1.2.2); have b5 := bt hb5 (alb w5 (.cells #[.int .i64 x1, .string x2] 32)); have M7 := And.intro (bkeep (alb w5 (.cells #[.int .i64 x1, .string x2] 32)) M5.1) (And.intro (bkeep (alb w5 (.cells #[.int .i64 x1, .string x2] 32)) M5.2.1) (bkeep (alb w5 (.cells #[.int .i64 x1, .string x2] 32)) M5.2.2)); have s5 := hs5.below (alb w5 (.cells #[.int .i64 x1, .string x2] 32)); have x5 := UX.one w5 (x1, x2); have z5' : w.heap.size + 1 ≤ (w5.alloc (.cells #[.int .i64 x1, .string x2] 32)).heap.size := Nat.le_trans (Nat.le_trans hz1 hf5.size) (alb w5 _).size) | (refine step_app_ux rfl (.tmp 27) (.tmp 31) _ (w.heap.size + 1) (.slice (some ⟨w.heap.size + 1, 0, none⟩) 0 0) (.slice a l.length c) [] l rfl rfl rA (hvx.below hbA.out) hlen1 hzA ?_ rfl rfl; intro v5 w5 hs5 hf5 hst5; have hb5 := hown.out _ _ _ (by omega) hbA.out hf5; have z5' := Nat.le_trans hzA hf5.size; have M5 := S0.out _ hb5 (hf5.cell (p := ⟨w.heap.size, 0, none⟩) (by first | (simp [Value.ownBlock]; done) | (simp [Value.ownBlock]; omega)) MA.2.1) (hf5.cell (p := ⟨w.heap.size, 1, none⟩) (by first | (simp [Value.ownBlock]; done) | (simp [Value.ownBlock]; omega)) MA.2.2); have x5 : UX w5 (.slice (some ⟨w.heap.size + 1 + 1, 0, none⟩) 1 1) [(x1, x2)] := ux_frm xA hf5 (by first | (simp [Value.ownBlock]; done) | (simp [Value.ownBlock]; omega)); have s5 := hs5; have b5 := hb5) | (refine step_app_ux rfl (.tmp 27) (.tmp 31) _ (w.heap.size + 1) (.slice (some ⟨w.heap.size + 1 + 1, 0, none⟩) 0 0) (.slice a l.length c) [] l rfl rfl rB (hvx.below hbB.out) hlen1 hzB ?_ rfl rfl; intro v5 w5 hs5 hf5 hst5; have hb5 := hown.out _ _ _ (by omega) hbB.out hf5; have z5' := Nat.le_trans hzB hf5.size; have M5 := S0.out _ hb5 (hf5.cell (p := ⟨w.heap.size, 0, none⟩) (by first | (simp [Value.ownBlock]; done) | (simp [Value.ownBlock]; omega)) MB.2.1) (hf5.cell (p := ⟨w.heap.size, 1, none⟩) (by first | (simp [Value.ownBlock]; done) | (simp [Value.ownBlock]; omega)) MB.2.2); have x5 : UX w5 (.slice (some ⟨w.heap.size + 1, 0, none⟩) 1 1) [(x1, x2)] := ux_frm xB hf5 (by first | (simp [Value.ownBlock]; done) | (simp [Value.ownBlock]; omega)); have s5 := hs5; have b5 := hb5) | (refine step_app_ux rfl (.tmp 32) (.tmp 34) _ (w.heap.size + 1) v5 _ ([] ++ l) [(x1, x2)] rfl rfl s5 x5 hlen2 z5' ?_ rfl rfl; intro v6 w6 hs6 hf6 hst6; have hb6 := hown2.out _ _ _ _ s5 b5 hf6; obtain ⟨a6, k6, rfl⟩ := hs6.any; have c6 := bkeep hb6 hcw; have z6 := bfree hb6 hcw hfz; have M6 := S0.out _ hb6 (hf6.cell (p := ⟨w.heap.size, 0, none⟩) (fun e => Nat.not_succ_le_self _ (s5.lt _ e.symm).1) hHeld.2.1) (hf6.cell (p := ⟨w.heap.size, 1, none⟩) (fun e => Nat.not_succ_le_self _ (s5.lt _ e.symm).1) hHeld.2.2))); refine hK.out _ _ ?_ (fun hHeld => ?_)
            · first | exact M0 | exact M1 | exact M2 | exact MA | exact MB | exact M5 | exact M6 | exact M7
            clear hK K
            try simp only [Act.put, List.setIfInBounds_toArray, List.set_cons_zero, List.set_cons_succ]
            refine call_nexts (i := 8) (by kernel_rfl) (by rfl) ?_
            intro o ho K hK
            simp only [List.getElem?_toArray, List.getElem?_cons_succ, List.getElem?_cons_zero, Option.some.injEq] at ho
            subst ho
            first | (go_simp; first | (with_reducible refine hK.out _ _ ?_ (fun hHeld => ?_)) | (fail; refine hK.out _ _ ?_ (fun hHeld => ?_)))
            · first | exact M0 | exact M1 | exact M2 | exact MA | exact MB | exact M5 | exact M6 | exact M7
            clear hK K
            try simp only [Act.put, List.setIfInBounds_toArray, List.set_cons_zero, List.set_cons_succ]
            refine call_nexts (i := 9) (by kernel_rfl) (by rfl) ?_
            intro o ho K hK
            simp only [List.getElem?_toArray, List.getElem?_cons_succ, List.getElem?_cons_zero, Option.some.injEq] at ho
            subst ho
            (first | (refine step_app_ux rfl (.tmp 27) (.tmp 31) _ (w.heap.size + 1) (.slice (some ⟨w.heap.size + 1, 0, none⟩) 0 0) (.slice a l.length c) [] l rfl rfl r1 (hvx.below hb1.out) hlen1 hz1 ?_ rfl rfl; intro v5 w5 hs5 hf5 hst5; have hb5 := hown.out _ _ _ (by omega) hb1.out hf5; have M5 := S0.out _ hb5 (hf5.cell (p := ⟨w.heap.size, 0, none⟩) (by first | (simp [Value.ownBlock]; done) | (simp [Value.ownBlock]; omega)) M1.2.1) (hf5.cell (p := ⟨w.heap.size, 1, none⟩) (by first | (simp [Value.ownBlock]; done) | (simp [Value.ownBlock]; omega)) M1.2.2); have b5 := bt hb5 (alb w5 (.cells #[.int .i64 x1, .string x2] 32)); have M7 := And.intro (bkeep (alb w5 (.cells #[.int .i64 x1, .string x2] 32)) M5.1) (And.intro (bkeep (alb w5 (.cells #[.int .i64 x1, .string x2] 32)) M5.2.1) (bkeep (alb w5 (.cells #[.int .i64 x1, .string x2] 32)) M5.2.2)); have s5 := hs5.below (alb w5 (.cells #[.int .i64 x1, .string x2] 32)); have x5 := UX.one w5 (x1, x2); have z5' : w.heap.size + 1 ≤ (w5.alloc (.cells #[.int .i64 x1, .string x2] 32)).heap.size := Nat.le_trans (Nat.le_trans hz1 hf5.size) (alb w5 _).size) | (refine step_app_ux rfl (.tmp 27) (.tmp 31) _ (w.heap.size + 1) (.slice (some ⟨w.heap.size + 1, 0, none⟩) 0 0) (.slice a l.length c) [] l rfl rfl rA (hvx.below hbA.out) hlen1 hzA ?_ rfl rfl; intro v5 w5 hs5 hf5 hst5; have hb5 := hown.out _ _ _ (by omega) hbA.out hf5; have z5' := Nat.le_trans hzA hf5.size; have M5 := S0.out _ hb5 (hf5.cell (p := ⟨w.heap.size, 0, none⟩) (by first | (simp [Value.ownBlock]; done) | (simp [Value.ownBlock]; omega)) MA.2.1) (hf5.cell (p := ⟨w.heap.size, 1, none⟩) (by first | (simp [Value.ownBlock]; done) | (simp [Value.ownBlock]; omega)) MA.2.2); have x5 : UX w5 (.slice (some ⟨w.heap.size + 1 + 1, 0, none⟩) 1 1) [(x1, x2)] := ux_frm xA hf5 (by first | (simp [Value.ownBlock]; done) | (simp [Value.ownBlock]; omega)); have s5 := hs5; have b5 := hb5) | (refine step_app_ux rfl (.tmp 27) (.tmp 31) _ (w.heap.size + 1) (.slice (some ⟨w.heap.size + 1 + 1, 0, none⟩) 0 0) (.slice a l.length c) [] l rfl rfl rB (hvx.below hbB.out) hlen1 hzB ?_ rfl rfl; intro v5 w5 hs5 hf5 hst5; have hb5 := hown.out _ _ _ (by omega) hbB.out hf5; have z5' := Nat.le_trans hzB hf5.size; have M5 := S0.out _ hb5 (hf5.cell (p := ⟨w.heap.size, 0, none⟩) (by first | (simp [Value.ownBlock]; done) | (simp [Value.ownBlock]; omega)) MB.2.1) (hf5.cell (p := ⟨w.heap.size, 1, none⟩) (by first | (simp [Value.ownBlock]; done) | (simp [Value.ownBlock]; omega)) MB.2.2); have x5 : UX w5 (.slice (some ⟨w.heap.size + 1, 0, none⟩) 1 1) [(x1, x2)] := ux_frm xB hf5 (by first | (simp [Value.ownBlock]; done) | (simp [Value.ownBlock]; omega)); have s5 := hs5; have b5 := hb5) | (refine step_app_ux rfl (.tmp 32) (.tmp 34) _ (w.heap.size + 1) v5 _ ([] ++ l) [(x1, x2)] rfl rfl s5 x5 hlen2 z5' ?_ rfl rfl; intro v6 w6 hs6 hf6 hst6; have hb6 := hown2.out _ _ _ _ s5 b5 hf6; obtain ⟨a6, k6, rfl⟩ := hs6.any; have c6 := bkeep hb6 hcw; have z6 := bfree hb6 hcw hfz; have M6 := S0.out _ hb6 (hf6.cell (p := ⟨w.heap.size, 0, none⟩) (fun e => Nat.not_succ_le_self _ (s5.lt _ e.symm).1) hHeld.2.1) (hf6.cell (p := ⟨w.heap.size, 1, none⟩) (fun e => Nat.not_succ_le_self _ (s5.lt _ e.symm).1) hHeld.2.2))); refine hK.out _ _ ?_ (fun hHeld => ?_)
            · first | exact M0 | exact M1 | exact M2 | exact MA | exact MB | exact M5 | exact M6 | exact M7
            clear hK K
            try simp only [Act.put, List.setIfInBounds_toArray, List.set_cons_zero, List.set_cons_succ]
            first | (refine tws (i := 10) (v := ?_) hLst ?_ hHeld ?_; rotate_left; focus (intro w hSw; (try dsimp only at hSw); go_simp; (try with_reducible rfl); done)) | refine tns (i := 10) hLst hHeld ?_
            try simp only [Act.put, List.setIfInBounds_toArray, List.set_cons_zero, List.set_cons_succ]
            first | (refine tws (i := 11) (v := ?_) hLst ?_ hHeld ?_; rotate_left; focus (intro w hSw; (try dsimp only at hSw); go_simp; (try with_reducible rfl); done)) | refine tns (i := 11) hLst hHeld ?_
            try simp only [Act.put, List.setIfInBounds_toArray, List.set_cons_zero, List.set_cons_succ]
            refine call_last (by kernel_rfl) (by kernel_rfl) (by rfl) ?_
            intro o ho K hK
            simp only [List.getElem?_toArray, List.getElem?_cons_succ, List.getElem?_cons_zero, Option.some.injEq] at ho
            subst ho
            go_simp; with_reducible refine hK.out _ _ ?_
            clear hK K
            try simp only [Act.put, List.setIfInBounds_toArray, List.set_cons_zero, List.set_cons_succ]
            go_wp2
            go_ret
            rw [List.length_append, List.length_append] at hs6
            exact ⟨rfl, rput_new h hB hb6 (urow_mono (by simpa using hs6) (Nat.le_succ _))⟩
          · intro o ho K hK
            simp only [List.getElem?_toArray, List.getElem?_cons_succ, List.getElem?_cons_zero, Option.some.injEq] at ho
            subst ho
            first | (go_simp; first | (with_reducible refine hK.out _ _ ?_ (fun hHeld => ?_)) | (fail; refine hK.out _ _ ?_ (fun hHeld => ?_)))
            · first | exact M0 | exact M1 | exact M2 | exact MA | exact MB | exact M5 | exact M6 | exact M7
            clear hK K
            try simp only [Act.put, List.setIfInBounds_toArray, List.set_cons_zero, List.set_cons_succ]
            refine call_nexts (i := 6) (by kernel_rfl) (by rfl) ?_
            intro o ho K hK
            simp only [List.getElem?_toArray, List.getElem?_cons_succ, List.getElem?_cons_zero, Option.some.injEq] at ho
            subst ho
            (first | (refine step_app_ux rfl (.tmp 27) (.tmp 31) _ (w.heap.size + 1) (.slice (some ⟨w.heap.size + 1, 0, none⟩) 0 0) (.slice a l.length c) [] l rfl rfl r1 (hvx.below hb1.out) hlen1 hz1 ?_ rfl rfl; intro v5 w5 hs5 hf5 hst5; have hb5 := hown.out _ _ _ (by omega) hb1.out hf5; have M5 := S0.out _ hb5 (hf5.cell (p := ⟨w.heap.size, 0, none⟩) (by first | (simp [Value.ownBlock]; done) | (simp [Value.ownBlock]; omega)) M1.2.1) (hf5.cell (p := ⟨w.heap.size, 1, none⟩) (by first | (simp [Value.ownBlock]; done) | (simp [Value.ownBlock]; omega)) M1.2.2); have b5 := bt hb5 (alb w5 (.cells #[.int .i64 x1, .string x2] 32)); have M7 := And.intro (bkeep (alb w5 (.cells #[.int .i64 x1, .string x2] 32)) M5.1) (And.intro (bkeep (alb w5 (.cells #[.int .i64 x1, .string x2] 32)) M5.2.1) (bkeep (alb w5 (.cells #[.int .i64 x1, .string x2] 32)) M5.2.2)); have s5 := hs5.below (alb w5 (.cells #[.int .i64 x1, .string x2] 32)); have x5 := UX.one w5 (x1, x2); have z5' : w.heap.size + 1 ≤ (w5.alloc (.cells #[.int .i64 x1, .string x2] 32)).heap.size := Nat.le_trans (Nat.le_trans hz1 hf5.size) (alb w5 _).size) | (refine step_app_ux rfl (.tmp 27) (.tmp 31) _ (w.heap.size + 1) (.slice (some ⟨w.heap.size + 1, 0, none⟩) 0 0) (.slice a l.length c) [] l rfl rfl rA (hvx.below hbA.out) hlen1 hzA ?_ rfl rfl; intro v5 w5 hs5 hf5 hst5; have hb5 := hown.out _ _ _ (by omega) hbA.out hf5; have z5' := Nat.le_trans hzA hf5.size; have M5 := S0.out _ hb5 (hf5.cell (p := ⟨w.heap.size, 0, none⟩) (by first | (simp [Value.ownBlock]; done) | (simp [Value.ownBlock]; omega)) MA.2.1) (hf5.cell (p := ⟨w.heap.size, 1, none⟩) (by first | (simp [Value.ownBlock]; done) | (simp [Value.ownBlock]; omega)) MA.2.2); have x5 : UX w5 (.slice (some ⟨w.heap.size + 1 + 1, 0, none⟩) 1 1) [(x1, x2)] := ux_frm xA hf5 (by first | (simp [Value.ownBlock]; done) | (simp [Value.ownBlock]; omega)); have s5 := hs5; have b5 := hb5) | (refine step_app_ux rfl (.tmp 27) (.tmp 31) _ (w.heap.size + 1) (.slice (some ⟨w.heap.size + 1 + 1, 0, none⟩) 0 0) (.slice a l.length c) [] l rfl rfl rB (hvx.below hbB.out) hlen1 hzB ?_ rfl rfl; intro v5 w5 hs5 hf5 hst5; have hb5 := hown.out _ _ _ (by omega) hbB.out hf5; have z5' := Nat.le_trans hzB hf5.size; have M5 := S0.out _ hb5 (hf5.cell (p := ⟨w.heap.size, 0, none⟩) (by first | (simp [Value.ownBlock]; done) | (simp [Value.ownBlock]; omega)) MB.2.1) (hf5.cell (p := ⟨w.heap.size, 1, none⟩) (by first | (simp [Value.ownBlock]; done) | (simp [Value.ownBlock]; omega)) MB.2.2); have x5 : UX w5 (.slice (some ⟨w.heap.size + 1, 0, none⟩) 1 1) [(x1, x2)] := ux_frm xB hf5 (by first | (simp [Value.ownBlock]; done) | (simp [Value.ownBlock]; omega)); have s5 := hs5; have b5 := hb5) | (refine step_app_ux rfl (.tmp 32) (.tmp 34) _ (w.heap.size + 1) v5 _ ([] ++ l) [(x1, x2)] rfl rfl s5 x5 hlen2 z5' ?_ rfl rfl; intro v6 w6 hs6 hf6 hst6; have hb6 := hown2.out _ _ _ _ s5 b5 hf6; obtain ⟨a6, k6, rfl⟩ := hs6.any; have c6 := bkeep hb6 hcw; have z6 := bfree hb6 hcw hfz; have M6 := S0.out _ hb6 (hf6.cell (p := ⟨w.heap.size, 0, none⟩) (fun e => Nat.not_succ_le_self _ (s5.lt _ e.symm).1) hHeld.2.1) (hf6.cell (p := ⟨w.heap.size, 1, none⟩) (fun e => Nat.not_succ_le_self _ (s5.lt _ e.symm).1) hHeld.2.2))); refine hK.out _ _ ?_ (fun hHeld => ?_)
            · first | exact M0 | exact M1 | exact M2 | exact MA | exact MB | exact M5 | exact M6 | exact M7
            clear hK K
            try simp only [Act.put, List.setIfInBounds_toArray, List.set_cons_zero, List.set_cons_succ]
            refine call_nexts (i := 9) (by kernel_rfl) (by rfl) ?_
            intro o ho K hK
            simp only [List.getElem?_toArray, List.getElem?_cons_succ, List.getElem?_cons_zero, Option.some.injEq] at ho
            subst ho
            (first | (refine step_app_ux rfl (.tmp 27) (.tmp 31) _ (w.heap.size + 1) (.slice (some ⟨w.heap.size + 1, 0, none⟩) 0 0) (.slice a l.length c) [] l rfl rfl r1 (hvx.below hb1.out) hlen1 hz1 ?_ rfl rfl; intro v5 w5 hs5 hf5 hst5; have hb5 := hown.out _ _ _ (by omega) hb1.out hf5; have M5 := S0.out _ hb5 (hf5.cell (p := ⟨w.heap.size, 0, none⟩) (by first | (simp [Value.ownBlock]; done) | (simp [Value.ownBlock]; omega)) M1.2.1) (hf5.cell (p := ⟨w.heap.size, 1, none⟩) (by first | (simp [Value.ownBlock]; done) | (simp [Value.ownBlock]; omega)) M1.2.2); have b5 := bt hb5 (alb w5 (.cells #[.int .i64 x1, .string x2] 32)); have M7 := And.intro (bkeep (alb w5 (.cells #[.int .i64 x1, .string x2] 32)) M5.1) (And.intro (bkeep (alb w5 (.cells #[.int .i64 x1, .string x2] 32)) M5.2.1) (bkeep (alb w5 (.cells #[.int .i64 x1, .string x2] 32)) M5.2.2)); have s5 := hs5.below (alb w5 (.cells #[.int .i64 x1, .string x2] 32)); have x5 := UX.one w5 (x1, x2); have z5' : w.heap.size + 1 ≤ (w5.alloc (.cells #[.int .i64 x1, .string x2] 32)).heap.size := Nat.le_trans (Nat.le_trans hz1 hf5.size) (alb w5 _).size) | (refine step_app_ux rfl (.tmp 27) (.tmp 31) _ (w.heap.size + 1) (.slice (some ⟨w.heap.size + 1, 0, none⟩) 0 0) (.slice a l.length c) [] l rfl rfl rA (hvx.below hbA.out) hlen1 hzA ?_ rfl rfl; intro v5 w5 hs5 hf5 hst5; have hb5 := hown.out _ _ _ (by omega) hbA.out hf5; have z5' := Nat.le_trans hzA hf5.size; have M5 := S0.out _ hb5 (hf5.cell (p := ⟨w.heap.size, 0, none⟩) (by first | (simp [Value.ownBlock]; done) | (simp [Value.ownBlock]; omega)) MA.2.1) (hf5.cell (p := ⟨w.heap.size, 1, none⟩) (by first | (simp [Value.ownBlock]; done) | (simp [Value.ownBlock]; omega)) MA.2.2); have x5 : UX w5 (.slice (some ⟨w.heap.size + 1 + 1, 0, none⟩) 1 1) [(x1, x2)] := ux_frm xA hf5 (by first | (simp [Value.ownBlock]; done) | (simp [Value.ownBlock]; omega)); have s5 := hs5; have b5 := hb5) | (refine step_app_ux rfl (.tmp 27) (.tmp 31) _ (w.heap.size + 1) (.slice (some ⟨w.heap.size + 1 + 1, 0, none⟩) 0 0) (.slice a l.length c) [] l rfl rfl rB (hvx.below hbB.out) hlen1 hzB ?_ rfl rfl; intro v5 w5 hs5 hf5 hst5; have hb5 := hown.out _ _ _ (by omega) hbB.out hf5; have z5' := Nat.le_trans hzB hf5.size; have M5 := S0.out _ hb5 (hf5.cell (p := ⟨w.heap.size, 0, none⟩) (by first | (simp [Value.ownBlock]; done) | (simp [Value.ownBlock]; omega)) MB.2.1) (hf5.cell (p := ⟨w.heap.size, 1, none⟩) (by first | (simp [Value.ownBlock]; done) | (simp [Value.ownBlock]; omega)) MB.2.2); have x5 : UX w5 (.slice (some ⟨w.heap.size + 1, 0, none⟩) 1 1) [(x1, x2)] := ux_frm xB hf5 (by first | (simp [Value.ownBlock]; done) | (simp [Value.ownBlock]; omega)); have s5 := hs5; have b5 := hb5) | (refine step_app_ux rfl (.tmp 32) (.tmp 34) _ (w.heap.size + 1) v5 _ ([] ++ l) [(x1, x2)] rfl rfl s5 x5 hlen2 z5' ?_ rfl rfl; intro v6 w6 hs6 hf6 hst6; have hb6 := hown2.out _ _ _ _ s5 b5 hf6; obtain ⟨a6, k6, rfl⟩ := hs6.any; have c6 := bkeep hb6 hcw; have z6 := bfree hb6 hcw hfz; have M6 := S0.out _ hb6 (hf6.cell (p := ⟨w.heap.size, 0, none⟩) (fun e => Nat.not_succ_le_self _ (s5.lt _ e.symm).1) hHeld.2.1) (hf6.cell (p := ⟨w.heap.size, 1, none⟩) (fun e => Nat.not_succ_le_self _ (s5.lt _ e.symm).1) hHeld.2.2))); refine hK.out _ _ ?_ (fun hHeld => ?_)
            · first | exact M0 | exact M1 | exact M2 | exact MA | exact MB | exact M5 | exact M6 | exact M7
            clear hK K
            try simp only [Act.put, List.setIfInBounds_toArray, List.set_cons_zero, List.set_cons_succ]
            first | (refine tws (i := 10) (v := ?_) hLst ?_ hHeld ?_; rotate_left; focus (intro w hSw; (try dsimp only at hSw); go_simp; (try with_reducible rfl); done)) | refine tns (i := 10) hLst hHeld ?_
            try simp only [Act.put, List.setIfInBounds_toArray, List.set_cons_zero, List.set_cons_succ]
            first | (refine tws (i := 11) (v := ?_) hLst ?_ hHeld ?_; rotate_left; focus (intro w hSw; (try dsimp only at hSw); go_simp; (try with_reducible rfl); done)) | refine tns (i := 11) hLst hHeld ?_
            try simp only [Act.put, List.setIfInBounds_toArray, List.set_cons_zero, List.set_cons_succ]
            refine call_last (by kernel_rfl) (by kernel_rfl) (by rfl) ?_
            intro o ho K hK
            simp only [List.getElem?_toArray, List.getElem?_cons_succ, List.getElem?_cons_zero, Option.some.injEq] at ho
            subst ho
            go_simp; with_reducible refine hK.out _ _ ?_
            clear hK K
            try simp only [Act.put, List.setIfInBounds_toArray, List.set_cons_zero, List.set_cons_succ]
            go_wp2
            go_ret
            rw [List.length_append, List.length_append] at hs6
            exact ⟨rfl, rput_new h hB hb6 (urow_mono (by simpa using hs6) (Nat.le_succ _))⟩
        · intro o ho K hK
          simp only [List.getElem?_toArray, List.getElem?_cons_succ, List.getElem?_cons_zero, Option.some.injEq] at ho
          subst ho
          first | (go_simp; first | (with_reducible refine hK.out _ _ ?_ (fun hHeld => ?_)) | (fail; refine hK.out _ _ ?_ (fun hHeld => ?_)))
          · first | exact M0 | exact M1 | exact M2 | exact MA | exact MB | exact M5 | exact M6 | exact M7
          clear hK K
          try simp only [Act.put, List.setIfInBounds_toArray, List.set_cons_zero, List.set_cons_succ]
          refine call_nexts (i := 1) (by kernel_rfl) (by rfl) ?_
          intro o ho K hK
          simp only [List.getElem?_toArray, List.getElem?_cons_succ, List.getElem?_cons_zero, Option.some.injEq] at ho
          subst ho
          first | (go_simp; first | (with_reducible refine hK.out _ _ ?_ (fun hHeld => ?_)) | (fail; refine hK.out _ _ ?_ (fun hHeld => ?_)))
          · first | exact M0 | exact M1 | exact M2 | exact MA | exact MB | exact M5 | exact M6 | exact M7
          clear hK K
          try simp only [Act.put, List.setIfInBounds_toArray, List.set_cons_zero, List.set_cons_succ]
          refine call_nexts (i := 6) (by kernel_rfl) (by rfl) ?_
          intro o ho K hK
          simp only [List.getElem?_toArray, List.getElem?_cons_succ, List.getElem?_cons_zero, Option.some.injEq] at ho
          subst ho
          (first | (refine step_app_ux rfl (.tmp 27) (.tmp 31) _ (w.heap.size + 1) (.slice (some ⟨w.heap.size + 1, 0, none⟩) 0 0) (.slice a l.length c) [] l rfl rfl r1 (hvx.below hb1.out) hlen1 hz1 ?_ rfl rfl; intro v5 w5 hs5 hf5 hst5; have hb5 := hown.out _ _ _ (by omega) hb1.out hf5; have M5 := S0.out _ hb5 (hf5.cell (p := ⟨w.heap.size, 0, none⟩) (by first | (simp [Value.ownBlock]; done) | (simp [Value.ownBlock]; omega)) M1.2.1) (hf5.cell (p := ⟨w.heap.size, 1, none⟩) (by first | (simp [Value.ownBlock]; done) | (simp [Value.ownBlock]; omega)) M1.2.2); have b5 := bt hb5 (alb w5 (.cells #[.int .i64 x1, .string x2] 32)); have M7 := And.intro (bkeep (alb w5 (.cells #[.int .i64 x1, .string x2] 32)) M5.1) (And.intro (bkeep (alb w5 (.cells #[.int .i64 x1, .string x2] 32)) M5.2.1) (bkeep (alb w5 (.cells #[.int .i64 x1, .string x2] 32)) M5.2.2)); have s5 := hs5.below (alb w5 (.cells #[.int .i64 x1, .string x2] 32)); have x5 := UX.one w5 (x1, x2); have z5' : w.heap.size + 1 ≤ (w5.alloc (.cells #[.int .i64 x1, .string x2] 32)).heap.size := Nat.le_trans (Nat.le_trans hz1 hf5.size) (alb w5 _).size) | (refine step_app_ux rfl (.tmp 27) (.tmp 31) _ (w.heap.size + 1) (.slice (some ⟨w.heap.size + 1, 0, none⟩) 0 0) (.slice a l.length c) [] l rfl rfl rA (hvx.below hbA.out) hlen1 hzA ?_ rfl rfl; intro v5 w5 hs5 hf5 hst5; have hb5 := hown.out _ _ _ (by omega) hbA.out hf5; have z5' := Nat.le_trans hzA hf5.size; have M5 := S0.out _ hb5 (hf5.cell (p := ⟨w.heap.size, 0, none⟩) (by first | (simp [Value.ownBlock]; done) | (simp [Value.ownBlock]; omega)) MA.2.1) (hf5.cell (p := ⟨w.heap.size, 1, none⟩) (by first | (simp [Value.ownBlock]; done) | (simp [Value.ownBlock]; omega)) MA.2.2); have x5 : UX w5 (.slice (some ⟨w.heap.size + 1 + 1, 0, none⟩) 1 1) [(x1, x2)] := ux_frm xA hf5 (by first | (simp [Value.ownBlock]; done) | (simp [Value.ownBlock]; omega)); have s5 := hs5; have b5 := hb5) | (refine step_app_ux rfl (.tmp 27) (.tmp 31) _ (w.heap.size + 1) (.slice (some ⟨w.heap.size + 1 + 1, 0, none⟩) 0 0) (.slice a l.length c) [] l rfl rfl rB (hvx.below hbB.out) hlen1 hzB ?_ rfl rfl; intro v5 w5 hs5 hf5 hst5; have hb5 := hown.out _ _ _ (by omega) hbB.out hf5; have z5' := Nat.le_trans hzB hf5.size; have M5 := S0.out _ hb5 (hf5.cell (p := ⟨w.heap.size, 0, none⟩) (by first | (simp [Value.ownBlock]; done) | (simp [Value.ownBlock]; omega)) MB.2.1) (hf5.cell (p := ⟨w.heap.size, 1, none⟩) (by first | (simp [Value.ownBlock]; done) | (simp [Value.ownBlock]; omega)) MB.2.2); have x5 : UX w5 (.slice (some ⟨w.heap.size + 1, 0, none⟩) 1 1) [(x1, x2)] := ux_frm xB hf5 (by first | (simp [Value.ownBlock]; done) | (simp [Value.ownBlock]; omega)); have s5 := hs5; have b5 := hb5) | (refine step_app_ux rfl (.tmp 32) (.tmp 34) _ (w.heap.size + 1) v5 _ ([] ++ l) [(x1, x2)] rfl rfl s5 x5 hlen2 z5' ?_ rfl rfl; intro v6 w6 hs6 hf6 hst6; have hb6 := hown2.out _ _ _ _ s5 b5 hf6; obtain ⟨a6, k6, rfl⟩ := hs6.any; have c6 := bkeep hb6 hcw; have z6 := bfree hb6 hcw hfz; have M6 := S0.out _ hb6 (hf6.cell (p := ⟨w.heap.size, 0, none⟩) (fun e => Nat.not_succ_le_self _ (s5.lt _ e.symm).1) hHeld.2.1) (hf6.cell (p := ⟨w.heap.size, 1, none⟩) (fun e => Nat.not_succ_le_self _ (s5.lt _ e.symm).1) hHeld.2.2))); refine hK.out _ _ ?_ (fun hHeld => ?_)
          · first | exact M0 | exact M1 | exact M2 | exact MA | exact MB | exact M5 | exact M6 | exact M7
          clear hK K
          try simp only [Act.put, List.setIfInBounds_toArray, List.set_cons_zero, List.set_cons_succ]
          refine call_nexts (i := 9) (by kernel_rfl) (by rfl) ?_
          intro o ho K hK
          simp only [List.getElem?_toArray, List.getElem?_cons_succ, List.getElem?_cons_zero, Option.some.injEq] at ho
          subst ho
          (first | (refine step_app_ux rfl (.tmp 27) (.tmp 31) _ (w.heap.size + 1) (.slice (some ⟨w.heap.size + 1, 0, none⟩) 0 0) (.slice a l.length c) [] l rfl rfl r1 (hvx.below hb1.out) hlen1 hz1 ?_ rfl rfl; intro v5 w5 hs5 hf5 hst5; have hb5 := hown.out _ _ _ (by omega) hb1.out hf5; have M5 := S0.out _ hb5 (hf5.cell (p := ⟨w.heap.size, 0, none⟩) (by first | (simp [Value.ownBlock]; done) | (simp [Value.ownBlock]; omega)) M1.2.1) (hf5.cell (p := ⟨w.heap.size, 1, none⟩) (by first | (simp [Value.ownBlock]; done) | (simp [Value.ownBlock]; omega)) M1.2.2); have b5 := bt hb5 (alb w5 (.cells #[.int .i64 x1, .string x2] 32)); have M7 := And.intro (bkeep (alb w5 (.cells #[.int .i64 x1, .string x2] 32)) M5.1) (And.intro (bkeep (alb w5 (.cells #[.int .i64 x1, .string x2] 32)) M5.2.1) (bkeep (alb w5 (.cells #[.int .i64 x1, .string x2] 32)) M5.2.2)); have s5 := hs5.below (alb w5 (.cells #[.int .i64 x1, .string x2] 32)); have x5 := UX.one w5 (x1, x2); have z5' : w.heap.size + 1 ≤ (w5.alloc (.cells #[.int .i64 x1, .string x2] 32)).heap.size := Nat.le_trans (Nat.le_trans hz1 hf5.size) (alb w5 _).size) | (refine step_app_ux rfl (.tmp 27) (.tmp 31) _ (w.heap.size + 1) (.slice (some ⟨w.heap.size + 1, 0, none⟩) 0 0) (.slice a l.length c) [] l rfl rfl rA (hvx.below hbA.out) hlen1 hzA ?_ rfl rfl; intro v5 w5 hs5 hf5 hst5; have hb5 := hown.out _ _ _ (by omega) hbA.out hf5; have z5' := Nat.le_trans hzA hf5.size; have M5 := S0.out _ hb5 (hf5.cell (p := ⟨w.heap.size, 0, none⟩) (by first | (simp [Value.ownBlock]; done) | (simp [Value.ownBlock]; omega)) MA.2.1) (hf5.cell (p := ⟨w.heap.size, 1, none⟩) (by first | (simp [Value.ownBlock]; done) | (simp [Value.ownBlock]; omega)) MA.2.2); have x5 : UX w5 (.slice (some ⟨w.heap.size + 1 + 1, 0, none⟩) 1 1) [(x1, x2)] := ux_frm xA hf5 (by first | (simp [Value.ownBlock]; done) | (simp [Value.ownBlock]; omega)); have s5 := hs5; have b5 := hb5) | (refine step_app_ux rfl (.tmp 27) (.tmp 31) _ (w.heap.size + 1) (.slice (some ⟨w.heap.size + 1 + 1, 0, none⟩) 0 0) (.slice a l.length c) [] l rfl rfl rB (hvx.below hbB.out) hlen1 hzB ?_ rfl rfl; intro v5 w5 hs5 hf5 hst5; have hb5 := hown.out _ _ _ (by omega) hbB.out hf5; have z5' := Nat.le_trans hzB hf5.size; have M5 := S0.out _ hb5 (hf5.cell (p := ⟨w.heap.size, 0, none⟩) (by first | (simp [Value.ownBlock]; done) | (simp [Value.ownBlock]; omega)) MB.2.1) (hf5.cell (p := ⟨w.heap.size, 1, none⟩) (by first | (simp [Value.ownBlock]; done) | (simp [Value.ownBlock]; omega)) MB.2.2); have x5 : UX w5 (.slice (some ⟨w.heap.size + 1, 0, none⟩) 1 1) [(x1, x2)] := ux_frm xB hf5 (by first | (simp [Value.ownBlock]; done) | (simp [Value.ownBlock]; omega)); have s5 := hs5; have b5 := hb5) | (refine step_app_ux rfl (.tmp 32) (.tmp 34) _ (w.heap.size + 1) v5 _ ([] ++ l) [(x1, x2)] rfl rfl s5 x5 hlen2 z5' ?_ rfl rfl; intro v6 w6 hs6 hf6 hst6; have hb6 := hown2.out _ _ _ _ s5 b5 hf6; obtain ⟨a6, k6, rfl⟩ := hs6.any; have c6 := bkeep hb6 hcw; have z6 := bfree hb6 hcw hfz; have M6 := S0.out _ hb6 (hf6.cell (p := ⟨w.heap.size, 0, none⟩) (fun e => Nat.not_succ_le_self _ (s5.lt _ e.symm).1) hHeld.2.1) (hf6.cell (p := ⟨w.heap.size, 1, none⟩) (fun e => Nat.not_succ_le_self _ (s5.lt _ e.symm).1) hHeld.2.2))); refine hK.out _ _ ?_ (fun hHeld => ?_)
          · first | exact M0 | exact M1 | exact M2 | exact MA | exact MB | exact M5 | exact M6 | exact M7
          clear hK K
          try simp only [Act.put, List.setIfInBounds_toArray, List.set_cons_zero, List.set_cons_succ]
          first | (refine tws (i := 10) (v := ?_) hLst ?_ hHeld ?_; rotate_left; focus (intro w hSw; (try dsimp only at hSw); go_simp; (try with_reducible rfl); done)) | refine tns (i := 10) hLst hHeld ?_
          try simp only [Act.put, List.setIfInBounds_toArray, List.set_cons_zero, List.set_cons_succ]
          first | (refine tws (i := 11) (v := ?_) hLst ?_ hHeld ?_; rotate_left; focus (intro w hSw; (try dsimp only at hSw); go_simp; (try with_reducible rfl); done)) | refine tns (i := 11) hLst hHeld ?_
          try simp only [Act.put, List.setIfInBounds_toArray, List.set_cons_zero, List.set_cons_succ]
          refine call_last (by kernel_rfl) (by kernel_rfl) (by rfl) ?_
          intro o ho K hK
          simp only [List.getElem?_toArray, List.getElem?_cons_succ, List.getElem?_cons_zero, Option.some.injEq] at ho
          subst ho
          go_simp; with_reducible refine hK.out _ _ ?_
          clear hK K
          try simp only [Act.put, List.setIfInBounds_toArray, List.set_cons_zero, List.set_cons_succ]
          go_wp2
          go_ret
          rw [List.length_append, List.length_append] at hs6
          exact ⟨rfl, rput_new h hB hb6 (urow_mono (by simpa using hs6) (Nat.le_succ _))⟩
theorem ux_cut {W : World} {B g n c i : Nat} {l : List U2} (h : URow W B (.slice (some ⟨g, 0, none⟩) n c) l) (hn : l.length = n) (hi : i < n) : ∃ A : Addr, (if c = i + 1 then some (⟨g, 0, none⟩ : Addr) else some ⟨g, (i + 1) * 2, none⟩) = some A ∧ ∀ W', Below W.heap.size W W' → ∀ c', UX W' (.slice (some A) (n - (i + 1)) c') (l.drop (i + 1)) := by
  subst hn
  have hcap : l.length ≤ c := by
    rcases h.2 with ⟨h', _⟩ | ⟨g', cap', cur, h', hb, hg, hnc, hcm, hcs, htake⟩
    · simp at h'
    · simp only [Value.slice.injEq, Option.some.injEq, Addr.mk.injEq, and_true, true_and] at h'
      obtain ⟨rfl, rfl⟩ := h'
      exact hnc
  by_cases hc : c = i + 1
  · refine ⟨⟨g, 0, none⟩, by simp [hc], fun W' _ c' => ?_⟩
    have h0 : l.length - (i + 1) = 0 := by omega
    rw [h0, List.drop_eq_nil_of_le (by omega)]
    exact UX.void W' (some ⟨g, 0, none⟩) c' (fun h => by cases h) (fun x hx => by injection hx with hx; subst hx; rfl)
  · refine ⟨⟨g, (i + 1) * 2, none⟩, by simp [hc], fun W' hb c' => ?_⟩
    have h1 := ((h.ux).below hb).tail (k := i + 1) (by omega) c'
    rwa [Nat.zero_add] at h1
set_option maxHeartbeats 3200000 in
theorem rtake_any (q B : Nat) (v : Value) (l : List U2) (n : Int) (x : U2) (w : World) (h : NT 30 w q B v l) (hB : B ≤ w.heap.size) (hm : l.length ≤ 1000) (hx : l[plc n l.length]? = some x) : Calls Try.prog 11 #[.pointer (some ⟨q, 0, none⟩), .int .i64 n] w
    (RChg w q B v (l.eraseIdx (plc n l.length)) (.tuple #[.agg #[.int .i64 x.1, .string x.2], .bool true])) := by
  have hl0 : 0 < l.length := by have := (List.getElem?_eq_some_iff.1 hx).1; omega
  obtain ⟨_, hplt⟩ := plc_eq n l.length hl0 (by omega)
  have hne : l ≠ [] := List.length_pos_iff.1 hl0
  obtain ⟨g, c, rfl, _, hcl, hgl⟩ := h.row.slice hne
  have hpl := rplace_any q B _ l n (w.alloc (.cells #[.int .i64 0, .string ⟨#[]⟩] 32)) (h.below (alb w _)) hm
  rw [if_neg hne] at hpl
  generalize plc n l.length = i at *
  have hb1 := alb w (.cells #[.int .i64 0, .string ⟨#[]⟩] 32)
  have hb2 := bt hb1 (alb _ (.cells #[.int .i64 x.1, .string x.2] 32))
  have hN1 := h.below hb1
  have c0 := hN1.c0
  obtain ⟨e1, e2⟩ := hN1.row.at i x hx
  have hb3 : Below w.heap.size w (((w.alloc (.cells #[.int .i64 0, .string ⟨#[]⟩] 32)).alloc (.cells #[.int .i64 x.1, .string x.2] 32)).alloc (.cells #[] 32)).drew := (bt hb2 (alb _ _)).drew
  have i1 : (0 : Int) ≤ (i : Int) := by omega
  have i2 : (i : Int) < (l.length : Int) := by omega
  have i3 : (i : Int) + 1 ≤ (l.length : Int) := by omega
  have i4 : (0 : Int) ≤ (i : Int) + 1 := by omega
  have i5 : (i : Int) ≤ (c : Int) := by omega
  have i6 : decide ((i : Int) < 0) = false := decide_eq_false (by omega)
  have hw1 : IntKind.i64.wrap ((i : Int) + 1) = (i : Int) + 1 := IntWalk.i64_in _ (by omega)
  obtain ⟨A, hA, hcut⟩ := ux_cut (i := i) (n := l.length) h.row rfl hplt
  have hhead := fun W (hb : Below w.heap.size w W) c' => UX.head (k := i) ((h.row.ux).below hb) (by omega) c'
  have r1 : URow (((w.alloc (.cells #[.int .i64 0, .string ⟨#[]⟩] 32)).alloc (.cells #[.int .i64 x.1, .string x.2] 32)).alloc (.cells #[] 32)).drew (w.heap.size + 1 + 1) (.slice (some ⟨w.heap.size + 1 + 1, 0, none⟩) 0 0) [] := by
    have := (URow.made ((w.alloc (.cells #[.int .i64 0, .string ⟨#[]⟩] 32)).alloc (.cells #[.int .i64 x.1, .string x.2] 32)) (w.heap.size + 1 + 1) (by simp)).below (Below.refl _ _).drew
    rwa [World.size_alloc, World.size_alloc] at this
  have z1 : w.heap.size + 1 + 1 ≤ (((w.alloc (.cells #[.int .i64 0, .string ⟨#[]⟩] 32)).alloc (.cells #[.int .i64 x.1, .string x.2] 32)).alloc (.cells #[] 32)).drew.heap.size := by first | (simp [World.drew]; done) | (simp [World.drew]; omega)
  have hl1 : ([] : List U2).length + (l.take i).length ≤ 1000000 := by simp; omega
  have hl2 : ([] ++ l.take i : List U2).length + (l.drop (i + 1)).length ≤ 1000000 := by simp; omega
  have hbx : ∀ W, Frm (fun k => w.heap.size + 1 + 1 ≤ k) ((w.alloc (.cells #[.int .i64 0, .string ⟨#[]⟩] 32)).alloc (.cells #[.int .i64 x.1, .string x.2] 32)) W → W.heap[w.heap.size]? = some (.cells #[.int .i64 0, .string ⟨#[]⟩] 32 (0, 0)) ∧ W.heap[w.heap.size + 1]? = some (.cells #[.int .i64 x.1, .string x.2] 32 (0, 0)) := fun W hf => by
    have a1 := heap_alloc_new w (.cells #[.int .i64 0, .string ⟨#[]⟩] 32)
    have a2 := heap_alloc_new (w.alloc (.cells #[.int .i64 0, .string ⟨#[]⟩] 32)) (.cells #[.int .i64 x.1, .string x.2] 32)
    rw [World.size_alloc] at a2
    refine ⟨(hf.block w.heap.size (by simp; omega) (by omega)).trans ?_, (hf.block (w.heap.size + 1) (by simp) (by omega)).trans a2⟩
    exact (heap_alloc_old _ _ (by simp)).trans a1
  replace hbx := Lib.hid hbx
  have hF3 : Frm (fun k => w.heap.size + 1 + 1 ≤ k) ((w.alloc (.cells #[.int .i64 0, .string ⟨#[]⟩] 32)).alloc (.cells #[.int .i64 x.1, .string x.2] 32)) (((w.alloc (.cells #[.int .i64 0, .string ⟨#[]⟩] 32)).alloc (.cells #[.int .i64 x.1, .string x.2] 32)).alloc (.cells #[] 32)).drew := (Frm.ofBelow (alb _ _)).drew
  have M0 := hb2.drew.cell (World.block_lt_of_cell? w _ h.c0) |>.trans h.c0
  have M1 := hb3.cell (World.block_lt_of_cell? w _ h.c0) |>.trans h.c0
  have hcw := h.c0
  have hfz := h.f0
  replace hb3 := Lib.hid hb3
  replace hcut := Lib.hid hcut
  replace hhead := Lib.hid hhead
  clear hx hne hl0
  go_enter Try.func11, Try.ntmps11
  go_wp2_with (go_at_call 18; (with_reducible refine hpl.mono ?_); rintro e w3 ⟨rfl, rfl⟩)
  refine wp_region_drewS (S := (fun w' : World => w'.cell? ⟨q, 0, none⟩ = some (.slice (some ⟨g, 0, none⟩) l.length c))) 19 (by kernel_rfl) (by kernel_rfl) ?_ (fun hLst hHeld => ?_)
  · first | exact M0 | exact M1 | exact M5 | exact M6
  first | (refine tws (i := 0) (v := ?_) hLst ?_ hHeld ?_; rotate_left; focus (intro w hSw; (try dsimp only at hSw); go_simp; (try with_reducible rfl); done)) | refine tns (i := 0) hLst hHeld ?_
  try simp only [Act.put, List.setIfInBounds_toArray, List.set_cons_zero, List.set_cons_succ]
  first | (refine tws (i := 2) (v := ?_) hLst ?_ hHeld ?_; rotate_left; focus (intro w hSw; (try dsimp only at hSw); go_simp; (try with_reducible rfl); done)) | refine tns (i := 2) hLst hHeld ?_
  try simp only [Act.put, List.setIfInBounds_toArray, List.set_cons_zero, List.set_cons_succ]
  first | (refine tws (i := 3) (v := ?_) hLst ?_ hHeld ?_; rotate_left; focus (intro w hSw; (try dsimp only at hSw); go_simp; (try with_reducible rfl); done)) | refine tns (i := 3) hLst hHeld ?_
  try simp only [Act.put, List.setIfInBounds_toArray, List.set_cons_zero, List.set_cons_succ]
  first | (refine tws (i := 4) (v := ?_) hLst ?_ hHeld ?_; rotate_left; focus (intro w hSw; (try dsimp only at hSw); go_simp; (try with_reducible rfl); done)) | refine tns (i := 4) hLst hHeld ?_
  try simp only [Act.put, List.setIfInBounds_toArray, List.set_cons_zero, List.set_cons_succ]
  first | (refine tws (i := 5) (v := ?_) hLst ?_ hHeld ?_; rotate_left; focus (intro w hSw; (try dsimp only at hSw); go_simp; (try with_reducible rfl); done)) | refine tns (i := 5) hLst hHeld ?_
  try simp only [Act.put, List.setIfInBounds_toArray, List.set_cons_zero, List.set_cons_succ]
  first | (refine tws (i := 6) (v := ?_) hLst ?_ hHeld ?_; rotate_left; focus (intro w hSw; (try dsimp only at hSw); go_simp; (try with_reducible rfl); done)) | refine tns (i := 6) hLst hHeld ?_
  try simp only [Act.put, List.setIfInBounds_toArray, List.set_cons_zero, List.set_cons_succ]
  first | (refine tws (i := 7) (v := ?_) hLst ?_ hHeld ?_; rotate_left; focus (intro w hSw; (try dsimp only at hSw); go_simp; (try with_reducible rfl); done)) | refine tns (i := 7) hLst hHeld ?_
  try simp only [Act.put, List.setIfInBounds_toArray, List.set_cons_zero, List.set_cons_succ]
  first | (refine tws (i := 9) (v := ?_) hLst ?_ hHeld ?_; rotate_left; focus (intro w hSw; (try dsimp only at hSw); go_simp; (try with_reducible rfl); done)) | refine tns (i := 9) hLst hHeld ?_
  try simp only [Act.put, List.setIfInBounds_toArray, List.set_cons_zero, List.set_cons_succ]
  first | (refine tws (i := 10) (v := ?_) hLst ?_ hHeld ?_; rotate_left; focus (intro w hSw; (try dsimp only at hSw); go_simp; (try with_reducible rfl); done)) | refine tns (i := 10) hLst hHeld ?_
  try simp only [Act.put, List.setIfInBounds_toArray, List.set_cons_zero, List.set_cons_succ]
  first | (refine tws (i := 11) (v := ?_) hLst ?_ hHeld ?_; rotate_left; focus (intro w hSw; (try dsimp only at hSw); go_simp; (try with_reducible rfl); done)) | refine tns (i := 11) hLst hHeld ?_
  try simp only [Act.put, List.setIfInBounds_toArray, List.set_cons_zero, List.set_cons_succ]
  first | (refine tws (i := 12) (v := ?_) hLst ?_ hHeld ?_; rotate_left; focus (intro w hSw; (try dsimp only at hSw); go_simp; (try with_reducible rfl); done)) | refine tns (i := 12) hLst hHeld ?_
  try simp only [Act.put, List.setIfInBounds_toArray, List.set_cons_zero, List.set_cons_succ]
  first | (refine tws (i := 13) (v := ?_) hLst ?_ hHeld ?_; rotate_left; focus (intro w hSw; (try dsimp only at hSw); go_simp; (try with_reducible rfl); done)) | refine tns (i := 13) hLst hHeld ?_
  try simp only [Act.put, List.setIfInBounds_toArray, List.set_cons_zero, List.set_cons_succ]
  first | (refine tws (i := 14) (v := ?_) hLst ?_ hHeld ?_; rotate_left; focus (intro w hSw; (try dsimp only at hSw); go_simp; (try with_reducible rfl); done)) | refine tns (i := 14) hLst hHeld ?_
  try simp only [Act.put, List.setIfInBounds_toArray, List.set_cons_zero, List.set_cons_succ]
  first | (refine tws (i := 15) (v := ?_) hLst ?_ hHeld ?_; rotate_left; focus (intro w hSw; (try dsimp only at hSw); go_simp; (try with_reducible rfl); done)) | refine tns (i := 15) hLst hHeld ?_
  try simp only [Act.put, List.setIfInBounds_toArray, List.set_cons_zero, List.set_cons_succ]
  refine call_nexts (i := 1) (by kernel_rfl) (by rfl) ?_
  intro o ho K hK
  simp only [List.getElem?_toArray, List.getElem?_cons_succ, List.getElem?_cons_zero, Option.some.injEq] at ho
  subst ho
  first | ((first | (refine step_app_ux rfl (.tmp 22) (.tmp 28) _ (w.heap.size + 1 + 1) (.slice (some ⟨w.heap.size + 1 + 1, 0, none⟩) 0 0) (.slice (some ⟨g, 0, none⟩) i c) [] (l.take i) rfl rfl r1 (hhead.out _ hb3.out c) hl1 z1 ?_ rfl rfl; intro v5 w5 hs5 hf5 hst5; have z5 := Nat.le_trans z1 hf5.size; have hF5 := hF3.trans (hf5.mono fun k _ e => (r1.lt k e.symm).1); have hb5 : Below w.heap.size w w5 := hb2.trans (hF5.toBelow (by simp; omega) (fun k hk e => by omega)); have M5 := bkeep hb5 hcw) | (refine step_app_ux rfl (.tmp 29) (.tmp 36) _ (w.heap.size + 1 + 1) v5 (.slice (some A) (l.length - (i + 1)) (c - (i + 1))) ([] ++ l.take i) (l.drop (i + 1)) rfl (by simp [Act.eval, Act.put]) hs5 (hcut.out _ hb5 _) hl2 z5 ?_ rfl rfl; intro v6 w6 hs6 hf6 hst6; have hF6 := hF5.trans (hf6.mono fun k _ e => (hs5.lt k e.symm).1); have hb6 : Below w.heap.size w w6 := hb2.trans (hF6.toBelow (by simp; omega) (fun k hk e => by omega)); obtain ⟨a6, k6, rfl⟩ := hs6.any; have M6 := bkeep hb6 hcw; have c6 := M6; have z6 := bfree hb6 hcw hfz)); refine hK.out _ _ ?_ (fun hHeld => ?_)) | (go_simp; first | (with_reducible refine hK.out _ _ ?_ (fun hHeld => ?_)) | (fail; refine hK.out _ _ ?_ (fun hHeld => ?_)))
  · first | exact M0 | exact M1 | exact M5 | exact M6
  clear hK K
  try simp only [Act.put, List.setIfInBounds_toArray, List.set_cons_zero, List.set_cons_succ]
  refine call_nexts (i := 8) (by kernel_rfl) (by rfl) ?_
  intro o ho K hK
  simp only [List.getElem?_toArray, List.getElem?_cons_succ, List.getElem?_cons_zero, Option.some.injEq] at ho
  subst ho
  (first | (refine step_app_ux rfl (.tmp 22) (.tmp 28) _ (w.heap.size + 1 + 1) (.slice (some ⟨w.heap.size + 1 + 1, 0, none⟩) 0 0) (.slice (some ⟨g, 0, none⟩) i c) [] (l.take i) rfl rfl r1 (hhead.out _ hb3.out c) hl1 z1 ?_ rfl rfl; intro v5 w5 hs5 hf5 hst5; have z5 := Nat.le_trans z1 hf5.size; have hF5 := hF3.trans (hf5.mono fun k _ e => (r1.lt k e.symm).1); have hb5 : Below w.heap.size w w5 := hb2.trans (hF5.toBelow (by simp; omega) (fun k hk e => by omega)); have M5 := bkeep hb5 hcw) | (refine step_app_ux rfl (.tmp 29) (.tmp 36) _ (w.heap.size + 1 + 1) v5 (.slice (some A) (l.length - (i + 1)) (c - (i + 1))) ([] ++ l.take i) (l.drop (i + 1)) rfl (by simp [Act.eval, Act.put]) hs5 (hcut.out _ hb5 _) hl2 z5 ?_ rfl rfl; intro v6 w6 hs6 hf6 hst6; have hF6 := hF5.trans (hf6.mono fun k _ e => (hs5.lt k e.symm).1); have hb6 : Below w.heap.size w w6 := hb2.trans (hF6.toBelow (by simp; omega) (fun k hk e => by omega)); obtain ⟨a6, k6, rfl⟩ := hs6.any; have M6 := bkeep hb6 hcw; have c6 := M6; have z6 := bfree hb6 hcw hfz)); refine hK.out _ _ ?_ (fun hHeld => ?_)
  · first | exact M0 | exact M1 | exact M5 | exact M6
  clear hK K
  try simp only [Act.put, List.setIfInBounds_toArray, List.set_cons_zero, List.set_cons_succ]
  refine call_nexts (i := 16) (by kernel_rfl) (by rfl) ?_
  intro o ho K hK
  simp only [List.getElem?_toArray, List.getElem?_cons_succ, List.getElem?_cons_zero, Option.some.injEq] at ho
  subst ho
  (first | (refine step_app_ux rfl (.tmp 22) (.tmp 28) _ (w.heap.size + 1 + 1) (.slice (some ⟨w.heap.size + 1 + 1, 0, none⟩) 0 0) (.slice (some ⟨g, 0, none⟩) i c) [] (l.take i) rfl rfl r1 (hhead.out _ hb3.out c) hl1 z1 ?_ rfl rfl; intro v5 w5 hs5 hf5 hst5; have z5 := Nat.le_trans z1 hf5.size; have hF5 := hF3.trans (hf5.mono fun k _ e => (r1.lt k e.symm).1); have hb5 : Below w.heap.size w w5 := hb2.trans (hF5.toBelow (by simp; omega) (fun k hk e => by omega)); have M5 := bkeep hb5 hcw) | (refine step_app_ux rfl (.tmp 29) (.tmp 36) _ (w.heap.size + 1 + 1) v5 (.slice (some A) (l.length - (i + 1)) (c - (i + 1))) ([] ++ l.take i) (l.drop (i + 1)) rfl (by simp [Act.eval, Act.put]) hs5 (hcut.out _ hb5 _) hl2 z5 ?_ rfl rfl; intro v6 w6 hs6 hf6 hst6; have hF6 := hF5.trans (hf6.mono fun k _ e => (hs5.lt k e.symm).1); have hb6 : Below w.heap.size w w6 := hb2.trans (hF6.toBelow (by simp; omega) (fun k hk e => by omega)); obtain ⟨a6, k6, rfl⟩ := hs6.any; have M6 := bkeep hb6 hcw; have c6 := M6; have z6 := bfree hb6 hcw hfz)); refine hK.out _ _ ?_ (fun hHeld => ?_)
  · first | exact M0 | exact M1 | exact M5 | exact M6
  clear hK K
  try simp only [Act.put, List.setIfInBounds_toArray, List.set_cons_zero, List.set_cons_succ]
  first | (refine tws (i := 17) (v := ?_) hLst ?_ hHeld ?_; rotate_left; focus (intro w hSw; (try dsimp only at hSw); go_simp; (try with_reducible rfl); done)) | refine tns (i := 17) hLst hHeld ?_
  try simp only [Act.put, List.setIfInBounds_toArray, List.set_cons_zero, List.set_cons_succ]
  first | (refine tws (i := 18) (v := ?_) hLst ?_ hHeld ?_; rotate_left; focus (intro w hSw; (try dsimp only at hSw); go_simp; (try with_reducible rfl); done)) | refine tns (i := 18) hLst hHeld ?_
  try simp only [Act.put, List.setIfInBounds_toArray, List.set_cons_zero, List.set_cons_succ]
  refine call_last (by kernel_rfl) (by kernel_rfl) (by rfl) ?_
  intro o ho K hK
  simp only [List.getElem?_toArray, List.getElem?_cons_succ, List.getElem?_cons_zero, Option.some.injEq] at ho
  subst ho
  first | ((first | (refine step_app_ux rfl (.tmp 22) (.tmp 28) _ (w.heap.size + 1 + 1) (.slice (some ⟨w.heap.size + 1 + 1, 0, none⟩) 0 0) (.slice (some ⟨g, 0, none⟩) i c) [] (l.take i) rfl rfl r1 (hhead.out _ hb3.out c) hl1 z1 ?_ rfl rfl; intro v5 w5 hs5 hf5 hst5; have z5 := Nat.le_trans z1 hf5.size; have hF5 := hF3.trans (hf5.mono fun k _ e => (r1.lt k e.symm).1); have hb5 : Below w.heap.size w w5 := hb2.trans (hF5.toBelow (by simp; omega) (fun k hk e => by omega)); have M5 := bkeep hb5 hcw) | (refine step_app_ux rfl (.tmp 29) (.tmp 36) _ (w.heap.size + 1 + 1) v5 (.slice (some A) (l.length - (i + 1)) (c - (i + 1))) ([] ++ l.take i) (l.drop (i + 1)) rfl (by simp [Act.eval, Act.put]) hs5 (hcut.out _ hb5 _) hl2 z5 ?_ rfl rfl; intro v6 w6 hs6 hf6 hst6; have hF6 := hF5.trans (hf6.mono fun k _ e => (hs5.lt k e.symm).1); have hb6 : Below w.heap.size w w6 := hb2.trans (hF6.toBelow (by simp; omega) (fun k hk e => by omega)); obtain ⟨a6, k6, rfl⟩ := hs6.any; have M6 := bkeep hb6 hcw; have c6 := M6; have z6 := bfree hb6 hcw hfz)); refine hK.out _ _ ?_) | (go_simp; first | (with_reducible refine hK.out _ _ ?_) | (fail; refine hK.out _ _ ?_))
  clear hK K
  try simp only [Act.put, List.setIfInBounds_toArray, List.set_cons_zero, List.set_cons_succ]
  have hlE : (l.eraseIdx i).length = min i l.length + (l.length - (i + 1)) := by rw [List.length_eraseIdx, if_pos hplt]; omega
  have hs7 : URow w6 (w.heap.size + 1 + 1) (.slice a6 (min i l.length + (l.length - (i + 1))) k6) (l.eraseIdx i) := by
    rw [← hlE]
    have := hs6
    rwa [List.nil_append, ← erase_eq] at this
  have hql := h.lt
  have hNT : NT 30 (w6.setCell ⟨q, 0, none⟩ (.slice a6 (min i l.length + (l.length - (i + 1))) k6)) q B (.slice a6 (min i l.length + (l.length - (i + 1))) k6) (l.eraseIdx i) := NT.put ((hb6.block q h.lt).trans h.box) (urow_mono hs7 (by omega)) (by decide)
  have hlt6 := Lib.hid (fun g hg => (hs7.lt g hg).1)
  have hF7 : Frm (fun k => k = q) w (w6.setCell ⟨q, 0, none⟩ (.slice a6 (min i l.length + (l.length - (i + 1))) k6)) := (Frm.ofBelow hb6).trans (Frm.one w6 q 0 _)
  obtain ⟨B0, B1⟩ := hbx.out _ hF6
  replace B0 := (Below.heap_setCell w6 ⟨q, 0, none⟩ (.slice a6 (min i l.length + (l.length - (i + 1))) k6) w.heap.size (by show w.heap.size ≠ q; omega)).trans B0
  replace B1 := (Below.heap_setCell w6 ⟨q, 0, none⟩ (.slice a6 (min i l.length + (l.length - (i + 1))) k6) (w.heap.size + 1) (by show w.heap.size + 1 ≠ q; omega)).trans B1
  generalize w6.setCell ⟨q, 0, none⟩ (.slice a6 (min i l.length + (l.length - (i + 1))) k6) = W7 at *
  have y0 : W7.cell? ⟨w.heap.size + 1, 0, none⟩ = some (.int .i64 x.1) := cell_of_row W7 (w.heap.size + 1) 0 _ _ _ B1
  have y1 : W7.cell? ⟨w.heap.size + 1, 1, none⟩ = some (.string x.2) := cell_of_row W7 (w.heap.size + 1) 1 _ _ _ B1
  have n0 : W7.cell? ⟨w.heap.size, 0, none⟩ = some (.int .i64 0) := cell_of_row W7 w.heap.size 0 _ _ _ B0
  have n1 : W7.cell? ⟨w.heap.size, 1, none⟩ = some (.string ⟨#[]⟩) := cell_of_row W7 w.heap.size 1 _ _ _ B0
  have g0 : W7.frozen? ⟨w.heap.size, 0, none⟩ = false := frozen_of_row W7 w.heap.size 0 _ _ B0
  have g1 : W7.frozen? ⟨w.heap.size, 1, none⟩ = false := frozen_of_row W7 w.heap.size 1 _ _ B0
  have s0 := cell_set_same (v := .int .i64 x.1) n0
  have s1 := cell_set_same (v := .string x.2) (cell_set_off (v := .int .i64 x.1) n1 (by decide : (0 : Nat) ≠ 1))
  go_wp2
  refine bodyPost_ret (v := .tuple #[.agg #[.int .i64 x.1, .string x.2], .bool true]) (by simp [results, Try.results11, go_sem, s0, s1, n0, n1]) rfl ?_
  have hF8 : Frm (· = w.heap.size) W7 ((W7.setCell ⟨w.heap.size, 0, none⟩ (.int .i64 x.1)).setCell ⟨w.heap.size, 1, none⟩ (.string x.2)) := (Frm.one W7 _ 0 _).trans (Frm.one _ _ 1 _)
  refine ⟨rfl, _, hNT.frm hF8 (by omega) (fun g hg e => by have := hlt6.out g hg; omega), fun g hg => .inr (by have := hlt6.out g hg; omega), (hF7.setCell (.inr (Nat.le_refl _)) _).setCell (.inr (Nat.le_refl _)) _⟩
theorem rtake_zero (q B : Nat) (v : Value) (n : Int) (w : World) (h : NT 30 w q B v []) : Calls Try.prog 11 #[.pointer (some ⟨q, 0, none⟩), .int .i64 n] w fun e w' => e = .returned (.tuple #[.agg #[.int .i64 0, .string ⟨#[]⟩], .bool false]) ∧ Below w.heap.size w w' := by
  have hpl := rplace_any q B _ [] n (w.alloc (.cells #[.int .i64 0, .string ⟨#[]⟩] 32)) (h.below (alb w _)) (by decide)
  rw [if_pos rfl] at hpl
  go_enter Try.func11, Try.ntmps11
  go_wp2_with (go_at_call 18; (with_reducible refine hpl.mono ?_); rintro e w3 ⟨rfl, rfl⟩)
  go_returns
  exact ⟨rfl, alb w _⟩
theorem rdouble_any (q B : Nat) (v : Value) (l : List U2) (n : Int) (x : U2) (w : World) (h : NT 30 w q B v l) (hB : B ≤ w.heap.size) (hm : l.length ≤ 1000) (hx : l[plc n l.length]? = some x) : Calls Try.prog 14 #[.pointer (some ⟨q, 0, none⟩), .int .i64 n] w
    (RChg w q B v (putL x l) (.bool (putE x l.length == 0))) := by
  have hl0 : 0 < l.length := by have := (List.getElem?_eq_some_iff.1 hx).1; omega
  obtain ⟨_, hplt⟩ := plc_eq n l.length hl0 (by omega)
  have hne : l ≠ [] := List.length_pos_iff.1 hl0
  obtain ⟨g, c, rfl, _, hcl, hgl⟩ := h.row.slice hne
  have hpl := rplace_any q B _ l n w h hm
  rw [if_neg hne] at hpl
  have hpt := rput_any q B _ l x.1 x.2 w h hB hm
  generalize plc n l.length = i at *
  obtain ⟨e1, e2⟩ := h.row.at i x hx
  have c0 := h.c0
  have i1 : (0 : Int) ≤ (i : Int) := by omega
  have i2 : (i : Int) < (l.length : Int) := by omega
  have i6 : decide ((0 : Int) ≤ (i : Int)) = true := decide_eq_true (by omega)
  go_enter Try.func14, Try.ntmps14
  go_wp2_with (first | (go_at_call 18; (with_reducible refine hpl.mono ?_); rintro e w3 ⟨rfl, rfl⟩) | (go_at_call 9; (with_reducible refine hpt.mono ?_); rintro e w4 ⟨rfl, hc⟩))
  go_ret
  exact ⟨rfl, hc⟩
theorem rdouble_zero (q B : Nat) (v : Value) (n : Int) (w : World) (h : NT 30 w q B v []) : Calls Try.prog 14 #[.pointer (some ⟨q, 0, none⟩), .int .i64 n] w fun e w' => e = .returned (.bool false) ∧ Below w.heap.size w w' := by
  have hpl := rplace_any q B _ [] n w h (by decide)
  rw [if_pos rfl] at hpl
  go_enter Try.func14, Try.ntmps14
  go_wp2_with (go_at_call 18; (with_reducible refine hpl.mono ?_); rintro e w3 ⟨rfl, rfl⟩)
  go_ret
  exact ⟨rfl, Below.refl _ _⟩
set_option maxHeartbeats 3200000 in
theorem rclear_any (q B : Nat) (v : Value) (l : List U2) (n : Int) (w : World) (h : NT 30 w q B v l) (hB : B ≤ w.heap.size) (hm : l.length ≤ 1000) : Calls Try.prog 16 #[.pointer (some ⟨q, 0, none⟩), .int .i64 n] w
    (RChg w q B v (keepN n l) (.int .i64 ((l.length : Int) - (keepN n l).length))) := by
  obtain ⟨a, c, hv⟩ := h.row.any
  subst hv
  have hH := Lib.hid h
  have hkl := keep_len n l
  have hr0 := URow.nil w w.heap.size
  go_enter Try.func16, Try.ntmps16
  go_wp2
  go_loopw [5, 6] (fun s i wr => ∃ k : Nat, k ≤ l.length ∧ i = .int .i64 k ∧ Hid (URow wr w.heap.size s (keepN n (l.take k))) ∧ Hid (Below w.heap.size w wr)) (fun _ i _ => l.length - (intOf i).toNat)
  case atStart => exact ⟨0, Nat.zero_le _, rfl, hr0, Below.refl _ _⟩
  case round =>
    obtain ⟨k, hk, rfl, hR, hBl⟩ := hrel
    clear hr0
    have hN := hH.out.below hBl.out
    have c0 := hN.c0
    obtain ⟨ar, cs, hs⟩ := hR.out.any
    subst hs
    by_cases hlt : k < l.length
    · have hd2 : decide ((k : Int) < (l.length : Int)) = true := decide_eq_true (by omega)
      obtain ⟨⟨x1, x2⟩, hx⟩ : ∃ y, l[k]? = some y := ⟨_, List.getElem?_eq_getElem hlt⟩
      have hne : l ≠ [] := by rintro rfl; simp at hlt
      obtain ⟨g, c', hgv, _, _, _⟩ := hN.row.slice hne
      injection hgv with hg1 hg2 hg3
      subst hg1 hg3
      obtain ⟨e1, e2⟩ := hN.row.at k _ hx
      have i1 : (0 : Int) ≤ (k : Int) := by omega
      have i2 : (k : Int) < (l.length : Int) := by omega
      have hkt := keepN_take (n := n) hx
      have hklk : (keepN n (l.take k)).length ≤ 1000 := Nat.le_trans (keep_len n _) (by rw [List.length_take]; omega)
      by_cases hxn : x1 = n
      · subst hxn
        rw [if_pos rfl] at hkt
        have hR2 : Hid (URow wr w.heap.size (.slice ar (keepN x1 (l.take k)).length cs) (keepN x1 (l.take (k + 1)))) := by rw [hkt]; exact hR.out
        clear hkt hx hne
        go_wp2
        exact ⟨⟨k + 1, by omega, by go_num, hR2, hBl⟩, by simp [intOf]; omega⟩
      · have z1 : (x1 == n) = false := beq_eq_false_iff_ne.2 hxn
        have z1' : (x1 != n) = true := by simp [bne, z1]
        rw [if_neg hxn] at hkt
        have hra := Lib.hid (hR.out.below (alb wr (.cells #[.int .i64 x1, .string x2] 32)))
        have hux := Lib.hid (UX.one wr (x1, x2))
        have hz : w.heap.size ≤ (wr.alloc (.cells #[.int .i64 x1, .string x2] 32)).heap.size := Nat.le_trans hBl.out.size (alb wr _).size
        have hlen : (keepN n (l.take k)).length + [(x1, x2)].length ≤ 1000000 := by simp; omega
        replace hkt := Lib.hid hkt
        clear hx hne
        go_wp2_with (at_builtin; refine wpl_app_ux rfl (.tmp 27) (.tmp 35) _ w.heap.size (.slice ar (keepN n (l.take k)).length cs) _ (keepN n (l.take k)) [(x1, x2)] rfl rfl hra.out hux.out hlen hz ?_ rfl rfl; intro v5 w5 hs5 hf5 hst5)
        have hb5 := hf5.after (bt hBl.out (alb wr _)) hz (fun j hj e => by have := (hra.out.lt j e.symm).1; omega)
        exact ⟨⟨k + 1, by omega, by go_num, by rw [hkt.out]; exact hs5, hb5⟩, by simp [intOf]; omega⟩
    · have hkk : k = l.length := by omega
      subst hkk
      have hd2 : decide ((l.length : Int) < (l.length : Int)) = false := decide_eq_false (by omega)
      have hR2 := hR.out
      rw [List.take_of_length_le (Nat.le_refl _)] at hR2
      have hf0 := hN.f0
      have hww : IntKind.i64.wrap ((l.length : Int) - ((keepN n l).length : Int)) = (l.length : Int) - ((keepN n l).length : Int) := IntWalk.i64_in _ (by omega)
      have hcR := Lib.hid (rput_new hH.out hB hBl.out hR2)
      rw [List.take_of_length_le (Nat.le_refl _)] at *
      go_wp2
      go_ret
      exact ⟨rfl, hcR.out⟩
end Go.Proofs.Ytfomeiikgdiefaa
