/-
  What words tell of a conflict (chapter 34): the reference's Read.
-/
import Derived.Test.YtaddbljdheafaaaDoorRep9
namespace Go.Proofs.YtaddbljdheafaaaDoor
open Go.RowKit
set_option linter.unusedVariables false
set_option linter.unusedSimpArgs false
set_option maxRecDepth 20000

theorem ne_of {P : ByteArray → Prop} {x : ByteArray} (h : P x) (hn : ¬ P ⟨#[]⟩) : x.data.toList ≠ [] := fun e => hn (by
  have : x = ⟨#[]⟩ := dl_eq (e.trans rfl)
  rw [← this]; exact h)
theorem good_word {s : ByteArray} (h : goodR (cuts s) = true) : ∀ x ∈ cuts s, isWord x := by
  have hno := cuts_no s
  unfold goodR at h
  simp only [Bool.and_eq_true, decide_eq_true_eq] at h
  obtain ⟨⟨⟨⟨⟨⟨⟨h8, h0⟩, h2⟩, h5⟩, h1⟩, _⟩, h3⟩, h6⟩ := h
  obtain ⟨x0, x1, x2, x3, x4, x5, x6, x7, hc⟩ := len8 h8
  rw [hc] at hno h0 h1 h2 h3 h5 h6 ⊢
  simp only [List.getD_cons_zero, List.getD_cons_succ] at h0 h1 h2 h3 h5 h6
  rw [ok_split] at h3 h6
  simp only [Bool.and_eq_true] at h3 h6
  have n0 : x0.data.toList ≠ [] := by rw [h0]; decide +kernel
  have n1 : x1.data.toList ≠ [] := ne_of (P := fun y => readE y = 0) h1 (by decide +kernel)
  have n2 : x2.data.toList ≠ [] := by rw [h2]; decide +kernel
  have n3 : x3.data.toList ≠ [] := ne_of (P := fun y => vOk y = true) h3.1 (by decide +kernel)
  have n4 : x4.data.toList ≠ [] := ne_of (P := fun y => sumOk y = true) h3.2 (by decide +kernel)
  have n5 : x5.data.toList ≠ [] := by rw [h5]; decide +kernel
  have n6 : x6.data.toList ≠ [] := ne_of (P := fun y => vOk y = true) h6.1 (by decide +kernel)
  have n7 : x7.data.toList ≠ [] := ne_of (P := fun y => sumOk y = true) h6.2 (by decide +kernel)
  intro x hx
  refine (word_iff x).2 ⟨?_, hno x hx⟩
  simp only [List.mem_cons, List.not_mem_nil, or_false] at hx
  rcases hx with rfl | rfl | rfl | rfl | rfl | rfl | rfl | rfl <;> assumption
theorem rv_form (x : ByteArray) : ∃ A B, rvV x = VV A B ∧ (vOk x = true → A = readV (cA x) ∧ B = readV (cB x)) := by
  unfold rvV
  cases hf : cF x with
  | true => exact ⟨_, _, rfl, fun _ => ⟨rfl, rfl⟩⟩
  | false =>
    refine ⟨0, 0, rfl, fun h => ?_⟩
    unfold vOk at h
    rw [hf] at h
    simp at h
theorem Strs.at0 {w : World} {B : Nat} {v : Value} {l : List ByteArray} (h : Strs w B v l) : ∃ a cap K, v = .slice a l.length cap ∧ (l ≠ [] → a = some ⟨K, 0, none⟩) ∧ ∀ j x, l[j]? = some x → w.cell? ⟨K, j, none⟩ = some (.string x) := by
  rcases h.2 with ⟨e, hn⟩ | ⟨g, cap, cur, e, _⟩
  · have := List.length_eq_zero_iff.1 hn
    subst this
    exact ⟨none, 0, 0, e, fun h => absurd rfl h, fun j x hx => by simp at hx⟩
  · refine ⟨_, cap, g, e, fun _ => rfl, fun j x hx => ?_⟩
    subst e
    obtain ⟨h1, h2⟩ := List.getElem?_eq_some_iff.1 hx
    refine (World.ownsRow.cellAt h j (by simpa using h1)).trans ?_
    rw [List.getElem?_map, hx]; rfl
set_option maxHeartbeats 3200000 in
theorem rread_conf (s : ByteArray) (w : World) (hs : s.size ≤ 4000) (hm : ML w) : Calls Tryd.prog 9 #[.string s] w (RE (cuts s) w) := by
  have hE : ∀ W v, v = rdV (cuts s) → Below w.heap.size w W → RE (cuts s) w (.returned v) W := by
    rintro W v rfl h
    exact ⟨rfl, h⟩
  have hwords := words_are s
  have hV : rdV (cuts s) = if goodR (cuts s) then goodV (cuts s) else badV := rfl
  have hgw := good_word (s := s)
  have hcw := cuts_words (s := s)
  have hwc := words_cuts (s := s)
  have hjc := jn_cuts s
  have hW := fun W => rwords_any s W (by omega)
  generalize RE (cuts s) w = Pst at *
  generalize rdV (cuts s) = res at *
  replace hE := Lib.hid hE
  have hZ0 : Hid (∀ o, o = Obj.cells #[.int .i64 0, .int .i64 0] 23 → ML (((w.alloc o).alloc o).alloc o) ∧ Below w.heap.size w (((w.alloc o).alloc o).alloc o) ∧ V2 (((w.alloc o).alloc o).alloc o) w.heap.size 0 0 ∧ V2 (((w.alloc o).alloc o).alloc o) (w.heap.size + 1) 0 0 ∧ V2 (((w.alloc o).alloc o).alloc o) (w.heap.size + 2) 0 0) := by
    rintro o rfl
    have b1 := alb w (.cells #[.int .i64 0, .int .i64 0] 23)
    have b2 := alb (w.alloc (.cells #[.int .i64 0, .int .i64 0] 23)) (.cells #[.int .i64 0, .int .i64 0] 23)
    have b3 := alb ((w.alloc (.cells #[.int .i64 0, .int .i64 0] 23)).alloc (.cells #[.int .i64 0, .int .i64 0] 23)) (.cells #[.int .i64 0, .int .i64 0] 23)
    refine ⟨((hm.below b1).below b2).below b3, bt (bt b1 b2) b3, ((V2.new w 0 0).below b2).below b3, ?_, ?_⟩
    · have := (V2.new (w.alloc (.cells #[.int .i64 0, .int .i64 0] 23)) 0 0).below b3
      rwa [show (w.alloc (.cells #[.int .i64 0, .int .i64 0] 23)).heap.size = w.heap.size + 1 by simp] at this
    · have := V2.new ((w.alloc (.cells #[.int .i64 0, .int .i64 0] 23)).alloc (.cells #[.int .i64 0, .int .i64 0] 23)) 0 0
      rwa [show ((w.alloc (.cells #[.int .i64 0, .int .i64 0] 23)).alloc (.cells #[.int .i64 0, .int .i64 0] 23)).heap.size = w.heap.size + 2 by simp] at this
  have hZ1 := hZ0.out _ rfl
  generalize hWW : ((w.alloc (.cells #[.int .i64 0, .int .i64 0] 23)).alloc (.cells #[.int .i64 0, .int .i64 0] 23)).alloc (.cells #[.int .i64 0, .int .i64 0] 23) = W0 at *
  have hq6 : V2 W0 (w.heap.size + 1 + 1) 0 0 := hZ1.2.2.2.2
  have u0 := hq6.c0
  have u1 := hq6.c1
  have u2 := hq6.free 0
  have u3 := hq6.free 1
  have hZ2 : ML ((W0.setCell ⟨w.heap.size + 1 + 1, 0, none⟩ (.int .i64 0)).setCell ⟨w.heap.size + 1 + 1, 1, none⟩ (.int .i64 0)) ∧ Below w.heap.size w ((W0.setCell ⟨w.heap.size + 1 + 1, 0, none⟩ (.int .i64 0)).setCell ⟨w.heap.size + 1 + 1, 1, none⟩ (.int .i64 0)) ∧ V2 ((W0.setCell ⟨w.heap.size + 1 + 1, 0, none⟩ (.int .i64 0)).setCell ⟨w.heap.size + 1 + 1, 1, none⟩ (.int .i64 0)) w.heap.size 0 0 ∧ V2 ((W0.setCell ⟨w.heap.size + 1 + 1, 0, none⟩ (.int .i64 0)).setCell ⟨w.heap.size + 1 + 1, 1, none⟩ (.int .i64 0)) (w.heap.size + 1) 0 0 ∧ V2 ((W0.setCell ⟨w.heap.size + 1 + 1, 0, none⟩ (.int .i64 0)).setCell ⟨w.heap.size + 1 + 1, 1, none⟩ (.int .i64 0)) (w.heap.size + 2) 0 0 := by
    refine ⟨?_, (hZ1.2.1.setCell (p := ⟨w.heap.size + 1 + 1, 0, none⟩) (by show _ ≤ w.heap.size + 1 + 1; omega) _).setCell (p := ⟨w.heap.size + 1 + 1, 1, none⟩) (by show _ ≤ w.heap.size + 1 + 1; omega) _, hZ1.2.2.1.other (by omega) 0 0, hZ1.2.2.2.1.other (by omega) 0 0, hZ1.2.2.2.2.put 0 0⟩
    obtain ⟨m, hm1⟩ := hZ1.1
    exact ⟨m, cell_set_ne (cell_set_ne hm1 (by show (0 : Nat) ≠ w.heap.size + 1 + 1; omega)) (by show (0 : Nat) ≠ w.heap.size + 1 + 1; omega)⟩
  generalize hW1 : (W0.setCell ⟨w.heap.size + 1 + 1, 0, none⟩ (.int .i64 0)).setCell ⟨w.heap.size + 1 + 1, 1, none⟩ (.int .i64 0) = W1 at *
  clear hZ1 hq6
  have hZ1 := hZ2
  clear hZ2
  have hWd0 : Calls Tryd.prog 26 #[.string s] W1 fun e w' => ∃ a Kb cap, e = .returned (.slice a (wordsL s).length cap) ∧ (wordsL s ≠ [] → a = some ⟨Kb, 0, none⟩) ∧ TX w' 0 (.slice a (wordsL s).length cap) (wordsL s) ∧ RZ w w' Kb (wordsL s) := by
    refine (hW W1).mono ?_
    rintro e w' ⟨⟨v, rfl, h1⟩, h3⟩
    obtain ⟨a, cap, K, rfl, h4, h5⟩ := h1.at0
    exact ⟨a, K, cap, rfl, h4, h1.tx.mono (Nat.zero_le _), hZ1.2.2.1.below h3, hZ1.2.2.2.1.below h3, hZ1.2.2.2.2.below h3, h5, bt hZ1.2.1 h3, hZ1.1.below h3⟩
  clear hW hZ0 hZ1 hm
  by_cases h8 : (wordsL s).length = 8
  · by_cases hj : jn (wordsL s) = s
    · have hc : cuts s = wordsL s := hcw (by rintro e; rw [e] at h8; cases h8) hj
      rw [hc] at hV
      have hG : goodR (wordsL s) = (decide ((wordsL s).length = 8) && decide ((wordsL s).getD 0 noB = clashS) && decide ((wordsL s).getD 2 noB = aS) && decide ((wordsL s).getD 5 noB = bS) && decide (readE ((wordsL s).getD 1 noB) = 0) && decide (0 ≤ readV ((wordsL s).getD 1 noB)) && okV ((wordsL s).getD 3 noB) ((wordsL s).getD 4 noB) && okV ((wordsL s).getD 6 noB) ((wordsL s).getD 7 noB)) := rfl
      have hW : goodV (wordsL s) = .tuple #[.int .i64 (readV ((wordsL s).getD 1 noB)), VV (readV (cA ((wordsL s).getD 3 noB))) (readV (cB ((wordsL s).getD 3 noB))), VV (readV (cA ((wordsL s).getD 6 noB))) (readV (cB ((wordsL s).getD 6 noB))), .int .i64 0] := rfl
      generalize goodR (wordsL s) = good at *
      generalize goodV (wordsL s) = gv at *
      clear hgw hcw hwc hjc hc
      generalize wordsL s = ws at *
      obtain ⟨x0, x1, x2, x3, x4, x5, x6, x7, rfl⟩ := len8 h8
      have hjs : (jn [x0, x1, x2, x3, x4, x5, x6, x7]).size ≤ 1099511627776 := by rw [hj]; omega
      have s1 := (hwords x1 (by simp)).2
      have s3 := (hwords x3 (by simp)).2
      have s4 := (hwords x4 (by simp)).2
      have s6 := (hwords x6 (by simp)).2
      have s7 := (hwords x7 (by simp)).2
      have hRe := fun W => rread_any x1 W (by omega)
      have hVe1 := fun W => rvec_any x3 W (by omega)
      have hVe2 := fun W => rvec_any x6 W (by omega)
      have hS4 := fun W => rsum1_any x4 W (by omega)
      have hS7 := fun W => rsum1_any x7 W (by omega)
      obtain ⟨A1, B1, hr1, hi1⟩ := rv_form x3
      obtain ⟨A2, B2, hr2, hi2⟩ := rv_form x6
      unfold VR at hVe1 hVe2
      rw [hr1] at hVe1
      rw [hr2] at hVe2
      have hjj : ((jn [x0, x1, x2, x3, x4, x5, x6, x7]).toList != s.toList) = false := by rw [hj]; simp [bne]
      have hjj2 : ((jn [x0, x1, x2, x3, x4, x5, x6, x7]).toList == s.toList) = true := by rw [hj]; simp
      simp only [List.getD_cons_zero, List.getD_cons_succ, List.length_cons, List.length_nil] at hG hW
      rw [ok_split, ok_split] at hG
      have hWd : Hid (Calls Tryd.prog 26 #[.string s] W1 fun e w' => ∃ Kb cap, e = .returned (.slice (some ⟨Kb, 0, none⟩) 8 cap) ∧ TX w' 0 (.slice (some ⟨Kb, 0, none⟩) 8 cap) [x0, x1, x2, x3, x4, x5, x6, x7] ∧ RZ w w' Kb [x0, x1, x2, x3, x4, x5, x6, x7]) := by
        refine hWd0.mono ?_
        rintro e w' ⟨a, Kb, cap, h1, h2, h3, h4⟩
        have := h2 (by simp)
        subst this
        exact ⟨Kb, cap, h1, h3, h4⟩
      clear hWd0 hr1 hr2 hj
      generalize readV x1 = v1 at *
      generalize readE x1 = e1 at *
      generalize readV (cA x3) = C1 at *
      generalize readV (cB x3) = D1 at *
      generalize readV (cA x6) = C2 at *
      generalize readV (cB x6) = D2 at *
      generalize vOk x3 = ok1 at *
      generalize vOk x6 = ok2 at *
      generalize sumOk x4 = t4 at *
      generalize sumOk x7 = t7 at *
      replace hRe := Lib.hid hRe
      replace hVe1 := Lib.hid hVe1
      replace hVe2 := Lib.hid hVe2
      replace hS4 := Lib.hid hS4
      replace hS7 := Lib.hid hS7
      clear hwords h8 s1 s3 s4 s6 s7 hs
      by_cases k0 : x0 = clashS
      · have m0 : (x0.toList == [99, 108, 97, 115, 104]) = true := by rw [k0, lC]; rfl
        have m0' : (x0.toList != [99, 108, 97, 115, 104]) = false := by rw [bne, m0]; rfl
        by_cases k2 : x2 = aS
        · have m2 : (x2.toList == [97]) = true := by rw [k2, lA]; rfl
          have m2' : (x2.toList != [97]) = false := by rw [bne, m2]; rfl
          by_cases k5 : x5 = bS
          · have m5 : (x5.toList == [98]) = true := by rw [k5, lB]; rfl
            have m5' : (x5.toList != [98]) = false := by rw [bne, m5]; rfl
            replace hG : good = (decide (e1 = 0) && decide (0 ≤ v1) && (ok1 && t4) && (ok2 && t7)) := hG.trans (by rw [k0, k2, k5]; simp)
            clear k0 k2 k5
            cases t4 with
            | false =>
              replace hG : good = false := hG.trans (by simp)
              subst hG
              replace hV : res = badV := hV
              replace hV := Lib.hid hV
              clear hW hVe1 hVe2 hRe
              go_enter Tryd.func9, Tryd.ntmps9
              go_wp2_with (first | (go_at_call 26; (with_reducible refine hWd.out.mono ?_); rintro e1 w9 ⟨Kb, cap, rfl, hTx, hR⟩; replace hR := Lib.hid hR; replace hTx := Lib.hid hTx; have c0 := hR.out.cw 0 x0 rfl; have c2 := hR.out.cw 2 x2 rfl; have c4 := hR.out.cw 4 x4 rfl; have c5 := hR.out.cw 5 x5 rfl; have c7 := hR.out.cw 7 x7 rfl) | (go_at_call 27; (with_reducible refine (words_ref _ [x0, x1, x2, x3, x4, x5, x6, x7] _ hTx.out hjs (by simp)).mono ?_); rintro e2 w9 ⟨rfl, hA⟩; replace hR := Lib.hid (hR.out.below hA); clear c0 c2 c4 c5 c7 hA; have c0 := hR.out.cw 0 x0 rfl; have c2 := hR.out.cw 2 x2 rfl; have c4 := hR.out.cw 4 x4 rfl; have c5 := hR.out.cw 5 x5 rfl; have c7 := hR.out.cw 7 x7 rfl) | (go_at_call 28; (with_reducible refine (hS4.out _).mono ?_); rintro e3 w9 ⟨rfl, hA⟩; replace hR := Lib.hid (hR.out.below hA); clear c0 c2 c4 c5 c7 hA; have c0 := hR.out.cw 0 x0 rfl; have c2 := hR.out.cw 2 x2 rfl; have c4 := hR.out.cw 4 x4 rfl; have c5 := hR.out.cw 5 x5 rfl; have c7 := hR.out.cw 7 x7 rfl) | (go_at_call 28; (with_reducible refine (hS7.out _).mono ?_); rintro e4 w9 ⟨rfl, hA⟩; replace hR := Lib.hid (hR.out.below hA); clear c0 c2 c4 c5 c7 hA; have c0 := hR.out.cw 0 x0 rfl; have c1 := hR.out.cw 1 x1 rfl; have c2 := hR.out.cw 2 x2 rfl; have c3 := hR.out.cw 3 x3 rfl; have c4 := hR.out.cw 4 x4 rfl; have c5 := hR.out.cw 5 x5 rfl; have c7 := hR.out.cw 7 x7 rfl))
              try clear c1
              try clear c3
              clear c0 c2 c4 c5 c7
              have q0 := hR.out.z6.c0
              have q1 := hR.out.z6.c1
              have r0 := hR.out.z3.c0
              have r1 := hR.out.z3.c1
              have s0 := hR.out.z4.c0
              have s1 := hR.out.z4.c1
              have f0 := hR.out.z3.free 0
              have f1 := hR.out.z3.free 1
              have g0 := hR.out.z4.free 0
              have g1' := hR.out.z4.free 1
              go_region
              have hO := hR.out.out 0 0 0 0
              have o0 := (hO.1.below (bdrw _)).c0
              have o1 := (hO.1.below (bdrw _)).c1
              have o2 := (hO.2.1.below (bdrw _)).c0
              have o3 := (hO.2.1.below (bdrw _)).c1
              have hbF := Lib.hid (bt hO.2.2 (bdrw _))
              clear q0 q1 r0 r1 s0 s1 f0 f1 g0 g1' hO
              unfold outW at o0 o1 o2 o3 hbF
              generalize ((((w9.setCell ⟨w.heap.size, 0, none⟩ (.int .i64 0)).setCell ⟨w.heap.size, 1, none⟩ (.int .i64 0)).setCell ⟨w.heap.size + 1, 0, none⟩ (.int .i64 0)).setCell ⟨w.heap.size + 1, 1, none⟩ (.int .i64 0)).drew = WF at *
              go_wp2
              refine bodyPost_ret (v := .tuple #[.int .i64 0, .agg #[.int .i64 0, .int .i64 0], .agg #[.int .i64 0, .int .i64 0], .int .i64 4]) (by simp [results, Tryd.results9, go_sem, o0, o1, o2, o3]) rfl ?_
              exact hE.out _ _ hV.out.symm hbF.out
            | true =>
              cases t7 with
              | false =>
                replace hG : good = false := hG.trans (by simp)
                subst hG
                replace hV : res = badV := hV
                replace hV := Lib.hid hV
                clear hW hVe1 hVe2 hRe
                go_enter Tryd.func9, Tryd.ntmps9
                go_wp2_with (first | (go_at_call 26; (with_reducible refine hWd.out.mono ?_); rintro e1 w9 ⟨Kb, cap, rfl, hTx, hR⟩; replace hR := Lib.hid hR; replace hTx := Lib.hid hTx; have c0 := hR.out.cw 0 x0 rfl; have c2 := hR.out.cw 2 x2 rfl; have c4 := hR.out.cw 4 x4 rfl; have c5 := hR.out.cw 5 x5 rfl; have c7 := hR.out.cw 7 x7 rfl) | (go_at_call 27; (with_reducible refine (words_ref _ [x0, x1, x2, x3, x4, x5, x6, x7] _ hTx.out hjs (by simp)).mono ?_); rintro e2 w9 ⟨rfl, hA⟩; replace hR := Lib.hid (hR.out.below hA); clear c0 c2 c4 c5 c7 hA; have c0 := hR.out.cw 0 x0 rfl; have c2 := hR.out.cw 2 x2 rfl; have c4 := hR.out.cw 4 x4 rfl; have c5 := hR.out.cw 5 x5 rfl; have c7 := hR.out.cw 7 x7 rfl) | (go_at_call 28; (with_reducible refine (hS4.out _).mono ?_); rintro e3 w9 ⟨rfl, hA⟩; replace hR := Lib.hid (hR.out.below hA); clear c0 c2 c4 c5 c7 hA; have c0 := hR.out.cw 0 x0 rfl; have c2 := hR.out.cw 2 x2 rfl; have c4 := hR.out.cw 4 x4 rfl; have c5 := hR.out.cw 5 x5 rfl; have c7 := hR.out.cw 7 x7 rfl) | (go_at_call 28; (with_reducible refine (hS7.out _).mono ?_); rintro e4 w9 ⟨rfl, hA⟩; replace hR := Lib.hid (hR.out.below hA); clear c0 c2 c4 c5 c7 hA; have c0 := hR.out.cw 0 x0 rfl; have c1 := hR.out.cw 1 x1 rfl; have c2 := hR.out.cw 2 x2 rfl; have c3 := hR.out.cw 3 x3 rfl; have c4 := hR.out.cw 4 x4 rfl; have c5 := hR.out.cw 5 x5 rfl; have c7 := hR.out.cw 7 x7 rfl))
                try clear c1
                try clear c3
                clear c0 c2 c4 c5 c7
                have q0 := hR.out.z6.c0
                have q1 := hR.out.z6.c1
                have r0 := hR.out.z3.c0
                have r1 := hR.out.z3.c1
                have s0 := hR.out.z4.c0
                have s1 := hR.out.z4.c1
                have f0 := hR.out.z3.free 0
                have f1 := hR.out.z3.free 1
                have g0 := hR.out.z4.free 0
                have g1' := hR.out.z4.free 1
                go_region
                have hO := hR.out.out 0 0 0 0
                have o0 := (hO.1.below (bdrw _)).c0
                have o1 := (hO.1.below (bdrw _)).c1
                have o2 := (hO.2.1.below (bdrw _)).c0
                have o3 := (hO.2.1.below (bdrw _)).c1
                have hbF := Lib.hid (bt hO.2.2 (bdrw _))
                clear q0 q1 r0 r1 s0 s1 f0 f1 g0 g1' hO
                unfold outW at o0 o1 o2 o3 hbF
                generalize ((((w9.setCell ⟨w.heap.size, 0, none⟩ (.int .i64 0)).setCell ⟨w.heap.size, 1, none⟩ (.int .i64 0)).setCell ⟨w.heap.size + 1, 0, none⟩ (.int .i64 0)).setCell ⟨w.heap.size + 1, 1, none⟩ (.int .i64 0)).drew = WF at *
                go_wp2
                refine bodyPost_ret (v := .tuple #[.int .i64 0, .agg #[.int .i64 0, .int .i64 0], .agg #[.int .i64 0, .int .i64 0], .int .i64 4]) (by simp [results, Tryd.results9, go_sem, o0, o1, o2, o3]) rfl ?_
                exact hE.out _ _ hV.out.symm hbF.out
              | true =>
                by_cases he : e1 = 0
                · subst he
                  by_cases hv : 0 ≤ v1
                  · have d1 : decide (v1 < 0) = false := decide_eq_false (by omega)
                    cases ok1 with
                    | false =>
                      replace hG : good = false := hG.trans (by simp)
                      subst hG
                      clear hi1 hi2
                      replace hV : res = badV := hV
                      replace hV := Lib.hid hV
                      clear hW
                      go_enter Tryd.func9, Tryd.ntmps9
                      go_wp2_with (first | (go_at_call 26; (with_reducible refine hWd.out.mono ?_); rintro e1 w9 ⟨Kb, cap, rfl, hTx, hR⟩; replace hR := Lib.hid hR; replace hTx := Lib.hid hTx; have c0 := hR.out.cw 0 x0 rfl; have c2 := hR.out.cw 2 x2 rfl; have c4 := hR.out.cw 4 x4 rfl; have c5 := hR.out.cw 5 x5 rfl; have c7 := hR.out.cw 7 x7 rfl) | (go_at_call 27; (with_reducible refine (words_ref _ [x0, x1, x2, x3, x4, x5, x6, x7] _ hTx.out hjs (by simp)).mono ?_); rintro e2 w9 ⟨rfl, hA⟩; replace hR := Lib.hid (hR.out.below hA); clear c0 c2 c4 c5 c7 hA; have c0 := hR.out.cw 0 x0 rfl; have c2 := hR.out.cw 2 x2 rfl; have c4 := hR.out.cw 4 x4 rfl; have c5 := hR.out.cw 5 x5 rfl; have c7 := hR.out.cw 7 x7 rfl) | (go_at_call 28; (with_reducible refine (hS4.out _).mono ?_); rintro e3 w9 ⟨rfl, hA⟩; replace hR := Lib.hid (hR.out.below hA); clear c0 c2 c4 c5 c7 hA; have c0 := hR.out.cw 0 x0 rfl; have c2 := hR.out.cw 2 x2 rfl; have c4 := hR.out.cw 4 x4 rfl; have c5 := hR.out.cw 5 x5 rfl; have c7 := hR.out.cw 7 x7 rfl) | (go_at_call 28; (with_reducible refine (hS7.out _).mono ?_); rintro e4 w9 ⟨rfl, hA⟩; replace hR := Lib.hid (hR.out.below hA); clear c0 c2 c4 c5 c7 hA; have c0 := hR.out.cw 0 x0 rfl; have c1 := hR.out.cw 1 x1 rfl; have c2 := hR.out.cw 2 x2 rfl; have c3 := hR.out.cw 3 x3 rfl; have c4 := hR.out.cw 4 x4 rfl; have c5 := hR.out.cw 5 x5 rfl; have c7 := hR.out.cw 7 x7 rfl) | (go_at_call 29; (with_reducible refine (hRe.out _).mono ?_); rintro e5 w8 ⟨rfl, rfl⟩) | (go_at_call 30; (with_reducible refine (hVe1.out _).mono ?_); rintro e6 w9 ⟨rfl, hA⟩; replace hR := Lib.hid ((hR.out.below hA).below (alb w9 (.cells #[.int .i64 A1, .int .i64 B1] 23))); have hg1 := Lib.hid (V2.new w9 A1 B1); clear c0 c1 c2 c3 c4 c5 c7 hA; have c6 := hR.out.cw 6 x6 rfl) | (go_at_call 30; (with_reducible refine (hVe2.out _).mono ?_); rintro e7 w10 ⟨rfl, hA⟩; have hgl := Lib.hid (hR.out.below hA).lt; replace hR := Lib.hid ((hR.out.below hA).below (alb w10 (.cells #[.int .i64 A2, .int .i64 B2] 23))); replace hg1 := Lib.hid ((hg1.out.below hA).below (alb w10 (.cells #[.int .i64 A2, .int .i64 B2] 23))); have hg2 := Lib.hid (V2.new w10 A2 B2); clear c6 hA))
                      generalize w10.alloc (.cells #[.int .i64 A2, .int .i64 B2] 23) = wz at *
                      have q0 := hR.out.z6.c0
                      have q1 := hR.out.z6.c1
                      have r0 := hR.out.z3.c0
                      have r1 := hR.out.z3.c1
                      have s0 := hR.out.z4.c0
                      have s1 := hR.out.z4.c1
                      have f0 := hR.out.z3.free 0
                      have f1 := hR.out.z3.free 1
                      have g0 := hR.out.z4.free 0
                      have g1' := hR.out.z4.free 1
                      go_region
                      have hO := hR.out.out 0 0 0 0
                      have o0 := (hO.1.below (bdrw _)).c0
                      have o1 := (hO.1.below (bdrw _)).c1
                      have o2 := (hO.2.1.below (bdrw _)).c0
                      have o3 := (hO.2.1.below (bdrw _)).c1
                      have hbF := Lib.hid (bt hO.2.2 (bdrw _))
                      clear q0 q1 r0 r1 s0 s1 f0 f1 g0 g1' hO
                      unfold outW at o0 o1 o2 o3 hbF
                      generalize ((((wz.setCell ⟨w.heap.size, 0, none⟩ (.int .i64 0)).setCell ⟨w.heap.size, 1, none⟩ (.int .i64 0)).setCell ⟨w.heap.size + 1, 0, none⟩ (.int .i64 0)).setCell ⟨w.heap.size + 1, 1, none⟩ (.int .i64 0)).drew = WF at *
                      go_wp2
                      refine bodyPost_ret (v := .tuple #[.int .i64 0, .agg #[.int .i64 0, .int .i64 0], .agg #[.int .i64 0, .int .i64 0], .int .i64 4]) (by simp [results, Tryd.results9, go_sem, o0, o1, o2, o3]) rfl ?_
                      exact hE.out _ _ hV.out.symm hbF.out
                    | true =>
                      cases ok2 with
                      | false =>
                        replace hG : good = false := hG.trans (by simp)
                        subst hG
                        clear hi1 hi2
                        replace hV : res = badV := hV
                        replace hV := Lib.hid hV
                        clear hW
                        go_enter Tryd.func9, Tryd.ntmps9
                        go_wp2_with (first | (go_at_call 26; (with_reducible refine hWd.out.mono ?_); rintro e1 w9 ⟨Kb, cap, rfl, hTx, hR⟩; replace hR := Lib.hid hR; replace hTx := Lib.hid hTx; have c0 := hR.out.cw 0 x0 rfl; have c2 := hR.out.cw 2 x2 rfl; have c4 := hR.out.cw 4 x4 rfl; have c5 := hR.out.cw 5 x5 rfl; have c7 := hR.out.cw 7 x7 rfl) | (go_at_call 27; (with_reducible refine (words_ref _ [x0, x1, x2, x3, x4, x5, x6, x7] _ hTx.out hjs (by simp)).mono ?_); rintro e2 w9 ⟨rfl, hA⟩; replace hR := Lib.hid (hR.out.below hA); clear c0 c2 c4 c5 c7 hA; have c0 := hR.out.cw 0 x0 rfl; have c2 := hR.out.cw 2 x2 rfl; have c4 := hR.out.cw 4 x4 rfl; have c5 := hR.out.cw 5 x5 rfl; have c7 := hR.out.cw 7 x7 rfl) | (go_at_call 28; (with_reducible refine (hS4.out _).mono ?_); rintro e3 w9 ⟨rfl, hA⟩; replace hR := Lib.hid (hR.out.below hA); clear c0 c2 c4 c5 c7 hA; have c0 := hR.out.cw 0 x0 rfl; have c2 := hR.out.cw 2 x2 rfl; have c4 := hR.out.cw 4 x4 rfl; have c5 := hR.out.cw 5 x5 rfl; have c7 := hR.out.cw 7 x7 rfl) | (go_at_call 28; (with_reducible refine (hS7.out _).mono ?_); rintro e4 w9 ⟨rfl, hA⟩; replace hR := Lib.hid (hR.out.below hA); clear c0 c2 c4 c5 c7 hA; have c0 := hR.out.cw 0 x0 rfl; have c1 := hR.out.cw 1 x1 rfl; have c2 := hR.out.cw 2 x2 rfl; have c3 := hR.out.cw 3 x3 rfl; have c4 := hR.out.cw 4 x4 rfl; have c5 := hR.out.cw 5 x5 rfl; have c7 := hR.out.cw 7 x7 rfl) | (go_at_call 29; (with_reducible refine (hRe.out _).mono ?_); rintro e5 w8 ⟨rfl, rfl⟩) | (go_at_call 30; (with_reducible refine (hVe1.out _).mono ?_); rintro e6 w9 ⟨rfl, hA⟩; replace hR := Lib.hid ((hR.out.below hA).below (alb w9 (.cells #[.int .i64 A1, .int .i64 B1] 23))); have hg1 := Lib.hid (V2.new w9 A1 B1); clear c0 c1 c2 c3 c4 c5 c7 hA; have c6 := hR.out.cw 6 x6 rfl) | (go_at_call 30; (with_reducible refine (hVe2.out _).mono ?_); rintro e7 w10 ⟨rfl, hA⟩; have hgl := Lib.hid (hR.out.below hA).lt; replace hR := Lib.hid ((hR.out.below hA).below (alb w10 (.cells #[.int .i64 A2, .int .i64 B2] 23))); replace hg1 := Lib.hid ((hg1.out.below hA).below (alb w10 (.cells #[.int .i64 A2, .int .i64 B2] 23))); have hg2 := Lib.hid (V2.new w10 A2 B2); clear c6 hA))
                        generalize w10.alloc (.cells #[.int .i64 A2, .int .i64 B2] 23) = wz at *
                        have q0 := hR.out.z6.c0
                        have q1 := hR.out.z6.c1
                        have r0 := hR.out.z3.c0
                        have r1 := hR.out.z3.c1
                        have s0 := hR.out.z4.c0
                        have s1 := hR.out.z4.c1
                        have f0 := hR.out.z3.free 0
                        have f1 := hR.out.z3.free 1
                        have g0 := hR.out.z4.free 0
                        have g1' := hR.out.z4.free 1
                        go_region
                        have hO := hR.out.out 0 0 0 0
                        have o0 := (hO.1.below (bdrw _)).c0
                        have o1 := (hO.1.below (bdrw _)).c1
                        have o2 := (hO.2.1.below (bdrw _)).c0
                        have o3 := (hO.2.1.below (bdrw _)).c1
                        have hbF := Lib.hid (bt hO.2.2 (bdrw _))
                        clear q0 q1 r0 r1 s0 s1 f0 f1 g0 g1' hO
                        unfold outW at o0 o1 o2 o3 hbF
                        generalize ((((wz.setCell ⟨w.heap.size, 0, none⟩ (.int .i64 0)).setCell ⟨w.heap.size, 1, none⟩ (.int .i64 0)).setCell ⟨w.heap.size + 1, 0, none⟩ (.int .i64 0)).setCell ⟨w.heap.size + 1, 1, none⟩ (.int .i64 0)).drew = WF at *
                        go_wp2
                        refine bodyPost_ret (v := .tuple #[.int .i64 0, .agg #[.int .i64 0, .int .i64 0], .agg #[.int .i64 0, .int .i64 0], .int .i64 4]) (by simp [results, Tryd.results9, go_sem, o0, o1, o2, o3]) rfl ?_
                        exact hE.out _ _ hV.out.symm hbF.out
                      | true =>
                        replace hG : good = true := hG.trans (by simp [hv])
                        subst hG
                        obtain ⟨rfl, rfl⟩ := hi1 rfl
                        obtain ⟨rfl, rfl⟩ := hi2 rfl
                        replace hV : res = gv := hV
                        replace hV := Lib.hid (hV.trans hW)
                        clear hW hi1 hi2
                        go_enter Tryd.func9, Tryd.ntmps9
                        go_wp2_with (first | (go_at_call 26; (with_reducible refine hWd.out.mono ?_); rintro e1 w9 ⟨Kb, cap, rfl, hTx, hR⟩; replace hR := Lib.hid hR; replace hTx := Lib.hid hTx; have c0 := hR.out.cw 0 x0 rfl; have c2 := hR.out.cw 2 x2 rfl; have c4 := hR.out.cw 4 x4 rfl; have c5 := hR.out.cw 5 x5 rfl; have c7 := hR.out.cw 7 x7 rfl) | (go_at_call 27; (with_reducible refine (words_ref _ [x0, x1, x2, x3, x4, x5, x6, x7] _ hTx.out hjs (by simp)).mono ?_); rintro e2 w9 ⟨rfl, hA⟩; replace hR := Lib.hid (hR.out.below hA); clear c0 c2 c4 c5 c7 hA; have c0 := hR.out.cw 0 x0 rfl; have c2 := hR.out.cw 2 x2 rfl; have c4 := hR.out.cw 4 x4 rfl; have c5 := hR.out.cw 5 x5 rfl; have c7 := hR.out.cw 7 x7 rfl) | (go_at_call 28; (with_reducible refine (hS4.out _).mono ?_); rintro e3 w9 ⟨rfl, hA⟩; replace hR := Lib.hid (hR.out.below hA); clear c0 c2 c4 c5 c7 hA; have c0 := hR.out.cw 0 x0 rfl; have c2 := hR.out.cw 2 x2 rfl; have c4 := hR.out.cw 4 x4 rfl; have c5 := hR.out.cw 5 x5 rfl; have c7 := hR.out.cw 7 x7 rfl) | (go_at_call 28; (with_reducible refine (hS7.out _).mono ?_); rintro e4 w9 ⟨rfl, hA⟩; replace hR := Lib.hid (hR.out.below hA); clear c0 c2 c4 c5 c7 hA; have c0 := hR.out.cw 0 x0 rfl; have c1 := hR.out.cw 1 x1 rfl; have c2 := hR.out.cw 2 x2 rfl; have c3 := hR.out.cw 3 x3 rfl; have c4 := hR.out.cw 4 x4 rfl; have c5 := hR.out.cw 5 x5 rfl; have c7 := hR.out.cw 7 x7 rfl) | (go_at_call 29; (with_reducible refine (hRe.out _).mono ?_); rintro e5 w8 ⟨rfl, rfl⟩) | (go_at_call 30; (with_reducible refine (hVe1.out _).mono ?_); rintro e6 w9 ⟨rfl, hA⟩; replace hR := Lib.hid ((hR.out.below hA).below (alb w9 (.cells #[.int .i64 A1, .int .i64 B1] 23))); have hg1 := Lib.hid (V2.new w9 A1 B1); clear c0 c1 c2 c3 c4 c5 c7 hA; have c6 := hR.out.cw 6 x6 rfl) | (go_at_call 30; (with_reducible refine (hVe2.out _).mono ?_); rintro e7 w10 ⟨rfl, hA⟩; have hgl := Lib.hid (hR.out.below hA).lt; replace hR := Lib.hid ((hR.out.below hA).below (alb w10 (.cells #[.int .i64 A2, .int .i64 B2] 23))); replace hg1 := Lib.hid ((hg1.out.below hA).below (alb w10 (.cells #[.int .i64 A2, .int .i64 B2] 23))); have hg2 := Lib.hid (V2.new w10 A2 B2); clear c6 hA))
                        generalize w10.alloc (.cells #[.int .i64 A2, .int .i64 B2] 23) = wz at *
                        have q0 := hR.out.z6.c0
                        have q1 := hR.out.z6.c1
                        have r0 := hR.out.z3.c0
                        have r1 := hR.out.z3.c1
                        have s0 := hR.out.z4.c0
                        have s1 := hR.out.z4.c1
                        have f0 := hR.out.z3.free 0
                        have f1 := hR.out.z3.free 1
                        have g0 := hR.out.z4.free 0
                        have g1' := hR.out.z4.free 1
                        have y0 := hg1.out.c0
                        have y1 := hg1.out.c1
                        have y2 := hg2.out.c0
                        have y3 := hg2.out.c1
                        have hgl2 := hgl.out (by simp)
                        have hyy := hg2.out.other (J := w.heap.size) (by omega) A1 B1
                        have y4 := hyy.c0
                        have y5 := hyy.c1
                        clear hyy
                        go_region
                        have hO := hR.out.out A1 B1 A2 B2
                        have o0 := (hO.1.below (bdrw _)).c0
                        have o1 := (hO.1.below (bdrw _)).c1
                        have o2 := (hO.2.1.below (bdrw _)).c0
                        have o3 := (hO.2.1.below (bdrw _)).c1
                        have hbF := Lib.hid (bt hO.2.2 (bdrw _))
                        clear q0 q1 r0 r1 s0 s1 f0 f1 g0 g1' hO y0 y1 y2 y3 y4 y5
                        unfold outW at o0 o1 o2 o3 hbF
                        generalize ((((wz.setCell ⟨w.heap.size, 0, none⟩ (.int .i64 A1)).setCell ⟨w.heap.size, 1, none⟩ (.int .i64 B1)).setCell ⟨w.heap.size + 1, 0, none⟩ (.int .i64 A2)).setCell ⟨w.heap.size + 1, 1, none⟩ (.int .i64 B2)).drew = WF at *
                        go_wp2
                        refine bodyPost_ret (v := .tuple #[.int .i64 v1, .agg #[.int .i64 A1, .int .i64 B1], .agg #[.int .i64 A2, .int .i64 B2], .int .i64 0]) (by simp [results, Tryd.results9, go_sem, o0, o1, o2, o3]) rfl ?_
                        exact hE.out _ _ hV.out.symm hbF.out
                  · have d1 : decide (v1 < 0) = true := decide_eq_true (by omega)
                    replace hG : good = false := hG.trans (by simp [hv])
                    subst hG
                    clear hi1 hi2
                    replace hV : res = badV := hV
                    replace hV := Lib.hid hV
                    clear hW
                    go_enter Tryd.func9, Tryd.ntmps9
                    go_wp2_with (first | (go_at_call 26; (with_reducible refine hWd.out.mono ?_); rintro e1 w9 ⟨Kb, cap, rfl, hTx, hR⟩; replace hR := Lib.hid hR; replace hTx := Lib.hid hTx; have c0 := hR.out.cw 0 x0 rfl; have c2 := hR.out.cw 2 x2 rfl; have c4 := hR.out.cw 4 x4 rfl; have c5 := hR.out.cw 5 x5 rfl; have c7 := hR.out.cw 7 x7 rfl) | (go_at_call 27; (with_reducible refine (words_ref _ [x0, x1, x2, x3, x4, x5, x6, x7] _ hTx.out hjs (by simp)).mono ?_); rintro e2 w9 ⟨rfl, hA⟩; replace hR := Lib.hid (hR.out.below hA); clear c0 c2 c4 c5 c7 hA; have c0 := hR.out.cw 0 x0 rfl; have c2 := hR.out.cw 2 x2 rfl; have c4 := hR.out.cw 4 x4 rfl; have c5 := hR.out.cw 5 x5 rfl; have c7 := hR.out.cw 7 x7 rfl) | (go_at_call 28; (with_reducible refine (hS4.out _).mono ?_); rintro e3 w9 ⟨rfl, hA⟩; replace hR := Lib.hid (hR.out.below hA); clear c0 c2 c4 c5 c7 hA; have c0 := hR.out.cw 0 x0 rfl; have c2 := hR.out.cw 2 x2 rfl; have c4 := hR.out.cw 4 x4 rfl; have c5 := hR.out.cw 5 x5 rfl; have c7 := hR.out.cw 7 x7 rfl) | (go_at_call 28; (with_reducible refine (hS7.out _).mono ?_); rintro e4 w9 ⟨rfl, hA⟩; replace hR := Lib.hid (hR.out.below hA); clear c0 c2 c4 c5 c7 hA; have c0 := hR.out.cw 0 x0 rfl; have c1 := hR.out.cw 1 x1 rfl; have c2 := hR.out.cw 2 x2 rfl; have c3 := hR.out.cw 3 x3 rfl; have c4 := hR.out.cw 4 x4 rfl; have c5 := hR.out.cw 5 x5 rfl; have c7 := hR.out.cw 7 x7 rfl) | (go_at_call 29; (with_reducible refine (hRe.out _).mono ?_); rintro e5 w8 ⟨rfl, rfl⟩) | (go_at_call 30; (with_reducible refine (hVe1.out _).mono ?_); rintro e6 w9 ⟨rfl, hA⟩; replace hR := Lib.hid ((hR.out.below hA).below (alb w9 (.cells #[.int .i64 A1, .int .i64 B1] 23))); have hg1 := Lib.hid (V2.new w9 A1 B1); clear c0 c1 c2 c3 c4 c5 c7 hA; have c6 := hR.out.cw 6 x6 rfl) | (go_at_call 30; (with_reducible refine (hVe2.out _).mono ?_); rintro e7 w10 ⟨rfl, hA⟩; have hgl := Lib.hid (hR.out.below hA).lt; replace hR := Lib.hid ((hR.out.below hA).below (alb w10 (.cells #[.int .i64 A2, .int .i64 B2] 23))); replace hg1 := Lib.hid ((hg1.out.below hA).below (alb w10 (.cells #[.int .i64 A2, .int .i64 B2] 23))); have hg2 := Lib.hid (V2.new w10 A2 B2); clear c6 hA))
                    generalize w10.alloc (.cells #[.int .i64 A2, .int .i64 B2] 23) = wz at *
                    have q0 := hR.out.z6.c0
                    have q1 := hR.out.z6.c1
                    have r0 := hR.out.z3.c0
                    have r1 := hR.out.z3.c1
                    have s0 := hR.out.z4.c0
                    have s1 := hR.out.z4.c1
                    have f0 := hR.out.z3.free 0
                    have f1 := hR.out.z3.free 1
                    have g0 := hR.out.z4.free 0
                    have g1' := hR.out.z4.free 1
                    go_region
                    have hO := hR.out.out 0 0 0 0
                    have o0 := (hO.1.below (bdrw _)).c0
                    have o1 := (hO.1.below (bdrw _)).c1
                    have o2 := (hO.2.1.below (bdrw _)).c0
                    have o3 := (hO.2.1.below (bdrw _)).c1
                    have hbF := Lib.hid (bt hO.2.2 (bdrw _))
                    clear q0 q1 r0 r1 s0 s1 f0 f1 g0 g1' hO
                    unfold outW at o0 o1 o2 o3 hbF
                    generalize ((((wz.setCell ⟨w.heap.size, 0, none⟩ (.int .i64 0)).setCell ⟨w.heap.size, 1, none⟩ (.int .i64 0)).setCell ⟨w.heap.size + 1, 0, none⟩ (.int .i64 0)).setCell ⟨w.heap.size + 1, 1, none⟩ (.int .i64 0)).drew = WF at *
                    go_wp2
                    refine bodyPost_ret (v := .tuple #[.int .i64 0, .agg #[.int .i64 0, .int .i64 0], .agg #[.int .i64 0, .int .i64 0], .int .i64 4]) (by simp [results, Tryd.results9, go_sem, o0, o1, o2, o3]) rfl ?_
                    exact hE.out _ _ hV.out.symm hbF.out
                · have n1 : (e1 != 0) = true := by simpa [bne] using he
                  have n2 : (e1 == 0) = false := by simpa using he
                  replace hG : good = false := hG.trans (by simp [he])
                  subst hG
                  clear he hi1 hi2
                  replace hV : res = badV := hV
                  replace hV := Lib.hid hV
                  clear hW
                  go_enter Tryd.func9, Tryd.ntmps9
                  go_wp2_with (first | (go_at_call 26; (with_reducible refine hWd.out.mono ?_); rintro e1 w9 ⟨Kb, cap, rfl, hTx, hR⟩; replace hR := Lib.hid hR; replace hTx := Lib.hid hTx; have c0 := hR.out.cw 0 x0 rfl; have c2 := hR.out.cw 2 x2 rfl; have c4 := hR.out.cw 4 x4 rfl; have c5 := hR.out.cw 5 x5 rfl; have c7 := hR.out.cw 7 x7 rfl) | (go_at_call 27; (with_reducible refine (words_ref _ [x0, x1, x2, x3, x4, x5, x6, x7] _ hTx.out hjs (by simp)).mono ?_); rintro e2 w9 ⟨rfl, hA⟩; replace hR := Lib.hid (hR.out.below hA); clear c0 c2 c4 c5 c7 hA; have c0 := hR.out.cw 0 x0 rfl; have c2 := hR.out.cw 2 x2 rfl; have c4 := hR.out.cw 4 x4 rfl; have c5 := hR.out.cw 5 x5 rfl; have c7 := hR.out.cw 7 x7 rfl) | (go_at_call 28; (with_reducible refine (hS4.out _).mono ?_); rintro e3 w9 ⟨rfl, hA⟩; replace hR := Lib.hid (hR.out.below hA); clear c0 c2 c4 c5 c7 hA; have c0 := hR.out.cw 0 x0 rfl; have c2 := hR.out.cw 2 x2 rfl; have c4 := hR.out.cw 4 x4 rfl; have c5 := hR.out.cw 5 x5 rfl; have c7 := hR.out.cw 7 x7 rfl) | (go_at_call 28; (with_reducible refine (hS7.out _).mono ?_); rintro e4 w9 ⟨rfl, hA⟩; replace hR := Lib.hid (hR.out.below hA); clear c0 c2 c4 c5 c7 hA; have c0 := hR.out.cw 0 x0 rfl; have c1 := hR.out.cw 1 x1 rfl; have c2 := hR.out.cw 2 x2 rfl; have c3 := hR.out.cw 3 x3 rfl; have c4 := hR.out.cw 4 x4 rfl; have c5 := hR.out.cw 5 x5 rfl; have c7 := hR.out.cw 7 x7 rfl) | (go_at_call 29; (with_reducible refine (hRe.out _).mono ?_); rintro e5 w8 ⟨rfl, rfl⟩) | (go_at_call 30; (with_reducible refine (hVe1.out _).mono ?_); rintro e6 w9 ⟨rfl, hA⟩; replace hR := Lib.hid ((hR.out.below hA).below (alb w9 (.cells #[.int .i64 A1, .int .i64 B1] 23))); have hg1 := Lib.hid (V2.new w9 A1 B1); clear c0 c1 c2 c3 c4 c5 c7 hA; have c6 := hR.out.cw 6 x6 rfl) | (go_at_call 30; (with_reducible refine (hVe2.out _).mono ?_); rintro e7 w10 ⟨rfl, hA⟩; have hgl := Lib.hid (hR.out.below hA).lt; replace hR := Lib.hid ((hR.out.below hA).below (alb w10 (.cells #[.int .i64 A2, .int .i64 B2] 23))); replace hg1 := Lib.hid ((hg1.out.below hA).below (alb w10 (.cells #[.int .i64 A2, .int .i64 B2] 23))); have hg2 := Lib.hid (V2.new w10 A2 B2); clear c6 hA))
                  generalize w10.alloc (.cells #[.int .i64 A2, .int .i64 B2] 23) = wz at *
                  have q0 := hR.out.z6.c0
                  have q1 := hR.out.z6.c1
                  have r0 := hR.out.z3.c0
                  have r1 := hR.out.z3.c1
                  have s0 := hR.out.z4.c0
                  have s1 := hR.out.z4.c1
                  have f0 := hR.out.z3.free 0
                  have f1 := hR.out.z3.free 1
                  have g0 := hR.out.z4.free 0
                  have g1' := hR.out.z4.free 1
                  go_region
                  have hO := hR.out.out 0 0 0 0
                  have o0 := (hO.1.below (bdrw _)).c0
                  have o1 := (hO.1.below (bdrw _)).c1
                  have o2 := (hO.2.1.below (bdrw _)).c0
                  have o3 := (hO.2.1.below (bdrw _)).c1
                  have hbF := Lib.hid (bt hO.2.2 (bdrw _))
                  clear q0 q1 r0 r1 s0 s1 f0 f1 g0 g1' hO
                  unfold outW at o0 o1 o2 o3 hbF
                  generalize ((((wz.setCell ⟨w.heap.size, 0, none⟩ (.int .i64 0)).setCell ⟨w.heap.size, 1, none⟩ (.int .i64 0)).setCell ⟨w.heap.size + 1, 0, none⟩ (.int .i64 0)).setCell ⟨w.heap.size + 1, 1, none⟩ (.int .i64 0)).drew = WF at *
                  go_wp2
                  refine bodyPost_ret (v := .tuple #[.int .i64 0, .agg #[.int .i64 0, .int .i64 0], .agg #[.int .i64 0, .int .i64 0], .int .i64 4]) (by simp [results, Tryd.results9, go_sem, o0, o1, o2, o3]) rfl ?_
                  exact hE.out _ _ hV.out.symm hbF.out
          · have n5 : (x5.toList == [98]) = false := beq_eq_false_iff_ne.2 (fun h => k5 (ba_ext (h.trans lB.symm)))
            have n5' : (x5.toList != [98]) = true := by rw [bne, n5]; rfl
            replace hG : good = false := hG.trans (by simp [k5])
            subst hG
            clear k0 k2 k5
            replace hV : res = badV := hV
            replace hV := Lib.hid hV
            clear hW hVe1 hVe2 hRe
            go_enter Tryd.func9, Tryd.ntmps9
            go_wp2_with (first | (go_at_call 26; (with_reducible refine hWd.out.mono ?_); rintro e1 w9 ⟨Kb, cap, rfl, hTx, hR⟩; replace hR := Lib.hid hR; replace hTx := Lib.hid hTx; have c0 := hR.out.cw 0 x0 rfl; have c2 := hR.out.cw 2 x2 rfl; have c4 := hR.out.cw 4 x4 rfl; have c5 := hR.out.cw 5 x5 rfl; have c7 := hR.out.cw 7 x7 rfl) | (go_at_call 27; (with_reducible refine (words_ref _ [x0, x1, x2, x3, x4, x5, x6, x7] _ hTx.out hjs (by simp)).mono ?_); rintro e2 w9 ⟨rfl, hA⟩; replace hR := Lib.hid (hR.out.below hA); clear c0 c2 c4 c5 c7 hA; have c0 := hR.out.cw 0 x0 rfl; have c2 := hR.out.cw 2 x2 rfl; have c4 := hR.out.cw 4 x4 rfl; have c5 := hR.out.cw 5 x5 rfl; have c7 := hR.out.cw 7 x7 rfl) | (go_at_call 28; (with_reducible refine (hS4.out _).mono ?_); rintro e3 w9 ⟨rfl, hA⟩; replace hR := Lib.hid (hR.out.below hA); clear c0 c2 c4 c5 c7 hA; have c0 := hR.out.cw 0 x0 rfl; have c2 := hR.out.cw 2 x2 rfl; have c4 := hR.out.cw 4 x4 rfl; have c5 := hR.out.cw 5 x5 rfl; have c7 := hR.out.cw 7 x7 rfl) | (go_at_call 28; (with_reducible refine (hS7.out _).mono ?_); rintro e4 w9 ⟨rfl, hA⟩; replace hR := Lib.hid (hR.out.below hA); clear c0 c2 c4 c5 c7 hA; have c0 := hR.out.cw 0 x0 rfl; have c1 := hR.out.cw 1 x1 rfl; have c2 := hR.out.cw 2 x2 rfl; have c3 := hR.out.cw 3 x3 rfl; have c4 := hR.out.cw 4 x4 rfl; have c5 := hR.out.cw 5 x5 rfl; have c7 := hR.out.cw 7 x7 rfl))
            try clear c1
            try clear c3
            clear c0 c2 c4 c5 c7
            have q0 := hR.out.z6.c0
            have q1 := hR.out.z6.c1
            have r0 := hR.out.z3.c0
            have r1 := hR.out.z3.c1
            have s0 := hR.out.z4.c0
            have s1 := hR.out.z4.c1
            have f0 := hR.out.z3.free 0
            have f1 := hR.out.z3.free 1
            have g0 := hR.out.z4.free 0
            have g1' := hR.out.z4.free 1
            go_region
            have hO := hR.out.out 0 0 0 0
            have o0 := (hO.1.below (bdrw _)).c0
            have o1 := (hO.1.below (bdrw _)).c1
            have o2 := (hO.2.1.below (bdrw _)).c0
            have o3 := (hO.2.1.below (bdrw _)).c1
            have hbF := Lib.hid (bt hO.2.2 (bdrw _))
            clear q0 q1 r0 r1 s0 s1 f0 f1 g0 g1' hO
            unfold outW at o0 o1 o2 o3 hbF
            generalize ((((w9.setCell ⟨w.heap.size, 0, none⟩ (.int .i64 0)).setCell ⟨w.heap.size, 1, none⟩ (.int .i64 0)).setCell ⟨w.heap.size + 1, 0, none⟩ (.int .i64 0)).setCell ⟨w.heap.size + 1, 1, none⟩ (.int .i64 0)).drew = WF at *
            go_wp2
            refine bodyPost_ret (v := .tuple #[.int .i64 0, .agg #[.int .i64 0, .int .i64 0], .agg #[.int .i64 0, .int .i64 0], .int .i64 4]) (by simp [results, Tryd.results9, go_sem, o0, o1, o2, o3]) rfl ?_
            exact hE.out _ _ hV.out.symm hbF.out
        · have n2 : (x2.toList == [97]) = false := beq_eq_false_iff_ne.2 (fun h => k2 (ba_ext (h.trans lA.symm)))
          have n2' : (x2.toList != [97]) = true := by rw [bne, n2]; rfl
          replace hG : good = false := hG.trans (by simp [k2])
          subst hG
          clear k0 k2
          replace hV : res = badV := hV
          replace hV := Lib.hid hV
          clear hW hVe1 hVe2 hRe
          go_enter Tryd.func9, Tryd.ntmps9
          go_wp2_with (first | (go_at_call 26; (with_reducible refine hWd.out.mono ?_); rintro e1 w9 ⟨Kb, cap, rfl, hTx, hR⟩; replace hR := Lib.hid hR; replace hTx := Lib.hid hTx; have c0 := hR.out.cw 0 x0 rfl; have c2 := hR.out.cw 2 x2 rfl; have c4 := hR.out.cw 4 x4 rfl; have c5 := hR.out.cw 5 x5 rfl; have c7 := hR.out.cw 7 x7 rfl) | (go_at_call 27; (with_reducible refine (words_ref _ [x0, x1, x2, x3, x4, x5, x6, x7] _ hTx.out hjs (by simp)).mono ?_); rintro e2 w9 ⟨rfl, hA⟩; replace hR := Lib.hid (hR.out.below hA); clear c0 c2 c4 c5 c7 hA; have c0 := hR.out.cw 0 x0 rfl; have c2 := hR.out.cw 2 x2 rfl; have c4 := hR.out.cw 4 x4 rfl; have c5 := hR.out.cw 5 x5 rfl; have c7 := hR.out.cw 7 x7 rfl) | (go_at_call 28; (with_reducible refine (hS4.out _).mono ?_); rintro e3 w9 ⟨rfl, hA⟩; replace hR := Lib.hid (hR.out.below hA); clear c0 c2 c4 c5 c7 hA; have c0 := hR.out.cw 0 x0 rfl; have c2 := hR.out.cw 2 x2 rfl; have c4 := hR.out.cw 4 x4 rfl; have c5 := hR.out.cw 5 x5 rfl; have c7 := hR.out.cw 7 x7 rfl) | (go_at_call 28; (with_reducible refine (hS7.out _).mono ?_); rintro e4 w9 ⟨rfl, hA⟩; replace hR := Lib.hid (hR.out.below hA); clear c0 c2 c4 c5 c7 hA; have c0 := hR.out.cw 0 x0 rfl; have c1 := hR.out.cw 1 x1 rfl; have c2 := hR.out.cw 2 x2 rfl; have c3 := hR.out.cw 3 x3 rfl; have c4 := hR.out.cw 4 x4 rfl; have c5 := hR.out.cw 5 x5 rfl; have c7 := hR.out.cw 7 x7 rfl))
          try clear c1
          try clear c3
          clear c0 c2 c4 c5 c7
          have q0 := hR.out.z6.c0
          have q1 := hR.out.z6.c1
          have r0 := hR.out.z3.c0
          have r1 := hR.out.z3.c1
          have s0 := hR.out.z4.c0
          have s1 := hR.out.z4.c1
          have f0 := hR.out.z3.free 0
          have f1 := hR.out.z3.free 1
          have g0 := hR.out.z4.free 0
          have g1' := hR.out.z4.free 1
          go_region
          have hO := hR.out.out 0 0 0 0
          have o0 := (hO.1.below (bdrw _)).c0
          have o1 := (hO.1.below (bdrw _)).c1
          have o2 := (hO.2.1.below (bdrw _)).c0
          have o3 := (hO.2.1.below (bdrw _)).c1
          have hbF := Lib.hid (bt hO.2.2 (bdrw _))
          clear q0 q1 r0 r1 s0 s1 f0 f1 g0 g1' hO
          unfold outW at o0 o1 o2 o3 hbF
          generalize ((((w9.setCell ⟨w.heap.size, 0, none⟩ (.int .i64 0)).setCell ⟨w.heap.size, 1, none⟩ (.int .i64 0)).setCell ⟨w.heap.size + 1, 0, none⟩ (.int .i64 0)).setCell ⟨w.heap.size + 1, 1, none⟩ (.int .i64 0)).drew = WF at *
          go_wp2
          refine bodyPost_ret (v := .tuple #[.int .i64 0, .agg #[.int .i64 0, .int .i64 0], .agg #[.int .i64 0, .int .i64 0], .int .i64 4]) (by simp [results, Tryd.results9, go_sem, o0, o1, o2, o3]) rfl ?_
          exact hE.out _ _ hV.out.symm hbF.out
      · have n0 : (x0.toList == [99, 108, 97, 115, 104]) = false := beq_eq_false_iff_ne.2 (fun h => k0 (ba_ext (h.trans lC.symm)))
        have n0' : (x0.toList != [99, 108, 97, 115, 104]) = true := by rw [bne, n0]; rfl
        replace hG : good = false := hG.trans (by simp [k0])
        subst hG
        clear k0
        replace hV : res = badV := hV
        replace hV := Lib.hid hV
        clear hW hVe1 hVe2 hRe
        go_enter Tryd.func9, Tryd.ntmps9
        go_wp2_with (first | (go_at_call 26; (with_reducible refine hWd.out.mono ?_); rintro e1 w9 ⟨Kb, cap, rfl, hTx, hR⟩; replace hR := Lib.hid hR; replace hTx := Lib.hid hTx; have c0 := hR.out.cw 0 x0 rfl; have c2 := hR.out.cw 2 x2 rfl; have c4 := hR.out.cw 4 x4 rfl; have c5 := hR.out.cw 5 x5 rfl; have c7 := hR.out.cw 7 x7 rfl) | (go_at_call 27; (with_reducible refine (words_ref _ [x0, x1, x2, x3, x4, x5, x6, x7] _ hTx.out hjs (by simp)).mono ?_); rintro e2 w9 ⟨rfl, hA⟩; replace hR := Lib.hid (hR.out.below hA); clear c0 c2 c4 c5 c7 hA; have c0 := hR.out.cw 0 x0 rfl; have c2 := hR.out.cw 2 x2 rfl; have c4 := hR.out.cw 4 x4 rfl; have c5 := hR.out.cw 5 x5 rfl; have c7 := hR.out.cw 7 x7 rfl) | (go_at_call 28; (with_reducible refine (hS4.out _).mono ?_); rintro e3 w9 ⟨rfl, hA⟩; replace hR := Lib.hid (hR.out.below hA); clear c0 c2 c4 c5 c7 hA; have c0 := hR.out.cw 0 x0 rfl; have c2 := hR.out.cw 2 x2 rfl; have c4 := hR.out.cw 4 x4 rfl; have c5 := hR.out.cw 5 x5 rfl; have c7 := hR.out.cw 7 x7 rfl) | (go_at_call 28; (with_reducible refine (hS7.out _).mono ?_); rintro e4 w9 ⟨rfl, hA⟩; replace hR := Lib.hid (hR.out.below hA); clear c0 c2 c4 c5 c7 hA; have c0 := hR.out.cw 0 x0 rfl; have c1 := hR.out.cw 1 x1 rfl; have c2 := hR.out.cw 2 x2 rfl; have c3 := hR.out.cw 3 x3 rfl; have c4 := hR.out.cw 4 x4 rfl; have c5 := hR.out.cw 5 x5 rfl; have c7 := hR.out.cw 7 x7 rfl))
        try clear c1
        try clear c3
        clear c0 c2 c4 c5 c7
        have q0 := hR.out.z6.c0
        have q1 := hR.out.z6.c1
        have r0 := hR.out.z3.c0
        have r1 := hR.out.z3.c1
        have s0 := hR.out.z4.c0
        have s1 := hR.out.z4.c1
        have f0 := hR.out.z3.free 0
        have f1 := hR.out.z3.free 1
        have g0 := hR.out.z4.free 0
        have g1' := hR.out.z4.free 1
        go_region
        have hO := hR.out.out 0 0 0 0
        have o0 := (hO.1.below (bdrw _)).c0
        have o1 := (hO.1.below (bdrw _)).c1
        have o2 := (hO.2.1.below (bdrw _)).c0
        have o3 := (hO.2.1.below (bdrw _)).c1
        have hbF := Lib.hid (bt hO.2.2 (bdrw _))
        clear q0 q1 r0 r1 s0 s1 f0 f1 g0 g1' hO
        unfold outW at o0 o1 o2 o3 hbF
        generalize ((((w9.setCell ⟨w.heap.size, 0, none⟩ (.int .i64 0)).setCell ⟨w.heap.size, 1, none⟩ (.int .i64 0)).setCell ⟨w.heap.size + 1, 0, none⟩ (.int .i64 0)).setCell ⟨w.heap.size + 1, 1, none⟩ (.int .i64 0)).drew = WF at *
        go_wp2
        refine bodyPost_ret (v := .tuple #[.int .i64 0, .agg #[.int .i64 0, .int .i64 0], .agg #[.int .i64 0, .int .i64 0], .int .i64 4]) (by simp [results, Tryd.results9, go_sem, o0, o1, o2, o3]) rfl ?_
        exact hE.out _ _ hV.out.symm hbF.out
    · have hg : goodR (cuts s) = false := by
        cases hq : goodR (cuts s) with
        | false => rfl
        | true => exact absurd (by rw [hwc (hgw hq)]; exact hjc) hj
      replace hV : res = badV := by rw [hV, hg]; rfl
      replace hV := Lib.hid hV
      clear hg hgw hcw hwc hjc
      have hjl : (jn (wordsL s)).size ≤ 1099511627776 := by
        have h1 := jn_size (wordsL s)
        have h2 : ∀ l : List ByteArray, (∀ x ∈ l, x.size ≤ 4000) → (l.map ByteArray.size).sum ≤ l.length * 4000 := by
          intro l
          induction l with
          | nil => intro _; simp
          | cons a l ih =>
            intro h
            have := ih fun x hx => h x (List.mem_cons_of_mem _ hx)
            have := h a (List.mem_cons_self ..)
            simp only [List.map_cons, List.sum_cons, List.length_cons]
            omega
        have h3 := h2 (wordsL s) fun x hx => Nat.le_trans (hwords x hx).2 hs
        omega
      have hjj : ((jn (wordsL s)).toList == s.toList) = false := beq_eq_false_iff_ne.2 (fun h => hj (ba_ext h))
      have hjj2 : ((jn (wordsL s)).toList != s.toList) = true := by rw [bne, hjj]; rfl
      have hWd : Hid (Calls Tryd.prog 26 #[.string s] W1 fun e w' => ∃ a Kb cap, e = .returned (.slice a 8 cap) ∧ TX w' 0 (.slice a 8 cap) (wordsL s) ∧ RZ w w' Kb (wordsL s)) := by
        refine hWd0.mono ?_
        rintro e w' ⟨a, Kb, cap, h1, h2, h3, h4⟩
        rw [h8] at h1 h3
        exact ⟨a, Kb, cap, h1, h3, h4⟩
      clear hWd0 hwords hj hs
      go_enter Tryd.func9, Tryd.ntmps9
      go_wp2_with (first | (go_at_call 26; (with_reducible refine hWd.out.mono ?_); rintro e1 w9 ⟨aa, Kb, cap, rfl, hTx, hR⟩; replace hR := Lib.hid hR; replace hTx := Lib.hid hTx) | (go_at_call 27; (with_reducible refine (words_ref _ (wordsL s) _ hTx.out hjl (by omega)).mono ?_); rintro e2 w9 ⟨rfl, hA⟩; replace hR := Lib.hid (hR.out.below hA)))
      have q0 := hR.out.z6.c0
      have q1 := hR.out.z6.c1
      have r0 := hR.out.z3.c0
      have r1 := hR.out.z3.c1
      have s0 := hR.out.z4.c0
      have s1 := hR.out.z4.c1
      have f0 := hR.out.z3.free 0
      have f1 := hR.out.z3.free 1
      have g0 := hR.out.z4.free 0
      have g1' := hR.out.z4.free 1
      go_region
      have hO := hR.out.out 0 0 0 0
      have o0 := (hO.1.below (bdrw _)).c0
      have o1 := (hO.1.below (bdrw _)).c1
      have o2 := (hO.2.1.below (bdrw _)).c0
      have o3 := (hO.2.1.below (bdrw _)).c1
      have hbF := Lib.hid (bt hO.2.2 (bdrw _))
      clear q0 q1 r0 r1 s0 s1 f0 f1 g0 g1' hO
      unfold outW at o0 o1 o2 o3 hbF
      generalize ((((w9.setCell ⟨w.heap.size, 0, none⟩ (.int .i64 0)).setCell ⟨w.heap.size, 1, none⟩ (.int .i64 0)).setCell ⟨w.heap.size + 1, 0, none⟩ (.int .i64 0)).setCell ⟨w.heap.size + 1, 1, none⟩ (.int .i64 0)).drew = WF at *
      go_wp2
      refine bodyPost_ret (v := .tuple #[.int .i64 0, .agg #[.int .i64 0, .int .i64 0], .agg #[.int .i64 0, .int .i64 0], .int .i64 4]) (by simp [results, Tryd.results9, go_sem, o0, o1, o2, o3]) rfl ?_
      exact hE.out _ _ hV.out.symm hbF.out
  · have hg : goodR (cuts s) = false := by
      cases hq : goodR (cuts s) with
      | false => rfl
      | true =>
        refine absurd ?_ h8
        rw [hwc (hgw hq)]
        unfold goodR at hq
        simp only [Bool.and_eq_true, decide_eq_true_eq] at hq
        exact hq.1.1.1.1.1.1.1
    replace hV : res = badV := by rw [hV, hg]; rfl
    replace hV := Lib.hid hV
    have hne : (((wordsL s).length : Int) != 8) = true := by simp [bne]; omega
    clear hg hgw hcw hwc hjc hwords
    have hWd : Hid (Calls Tryd.prog 26 #[.string s] W1 fun e w' => ∃ a Kb cap, e = .returned (.slice a (wordsL s).length cap) ∧ RZ w w' Kb (wordsL s)) := by
      refine hWd0.mono ?_
      rintro e w' ⟨a, Kb, cap, h1, h2, h3, h4⟩
      exact ⟨a, Kb, cap, h1, h4⟩
    clear hWd0 h8
    go_enter Tryd.func9, Tryd.ntmps9
    go_wp2_with (go_at_call 26; (with_reducible refine hWd.out.mono ?_); rintro e1 w9 ⟨aa, Kb, cap, rfl, hR⟩; replace hR := Lib.hid hR)
    have q0 := hR.out.z6.c0
    have q1 := hR.out.z6.c1
    have r0 := hR.out.z3.c0
    have r1 := hR.out.z3.c1
    have s0 := hR.out.z4.c0
    have s1 := hR.out.z4.c1
    have f0 := hR.out.z3.free 0
    have f1 := hR.out.z3.free 1
    have g0 := hR.out.z4.free 0
    have g1' := hR.out.z4.free 1
    go_region
    have hO := hR.out.out 0 0 0 0
    have o0 := (hO.1.below (bdrw _)).c0
    have o1 := (hO.1.below (bdrw _)).c1
    have o2 := (hO.2.1.below (bdrw _)).c0
    have o3 := (hO.2.1.below (bdrw _)).c1
    have hbF := Lib.hid (bt hO.2.2 (bdrw _))
    clear q0 q1 r0 r1 s0 s1 f0 f1 g0 g1' hO
    unfold outW at o0 o1 o2 o3 hbF
    generalize ((((w9.setCell ⟨w.heap.size, 0, none⟩ (.int .i64 0)).setCell ⟨w.heap.size, 1, none⟩ (.int .i64 0)).setCell ⟨w.heap.size + 1, 0, none⟩ (.int .i64 0)).setCell ⟨w.heap.size + 1, 1, none⟩ (.int .i64 0)).drew = WF at *
    go_wp2
    refine bodyPost_ret (v := .tuple #[.int .i64 0, .agg #[.int .i64 0, .int .i64 0], .agg #[.int .i64 0, .int .i64 0], .int .i64 4]) (by simp [results, Tryd.results9, go_sem, o0, o1, o2, o3]) rfl ?_
    exact hE.out _ _ hV.out.symm hbF.out
end Go.Proofs.YtaddbljdheafaaaDoor
