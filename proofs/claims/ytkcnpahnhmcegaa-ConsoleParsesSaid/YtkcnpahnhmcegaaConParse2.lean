/-
  Commands (chapter 33): parsed, the reference.
-/
import Derived.Test.YtkcnpahnhmcegaaConParse
import Derived.Test.YtkcnpahnhmcegaaDraw
namespace Go.Proofs.Ytkcnpahnhmcegaa
open Go.RowKit
set_option linter.unusedVariables false
set_option linter.unusedSimpArgs false

theorem cell_off {W : World} {g i j : Nat} {v u : Value} (h : W.cell? ⟨g, j, none⟩ = some u) (hne : i ≠ j) : (W.setCell ⟨g, i, none⟩ v).cell? ⟨g, j, none⟩ = some u := by
  simp [go_sem, h, hne]
theorem cell_same {W : World} {g j : Nat} {v u : Value} (h : W.cell? ⟨g, j, none⟩ = some u) : (W.setCell ⟨g, j, none⟩ v).cell? ⟨g, j, none⟩ = some v := by
  simp [go_sem, h]
theorem HCmd.set1 {W : World} {K : Nat} {k e sd : Int} {d : ByteArray} (h : HCmd W K k e sd d) (x : Int) : HCmd (W.setCell ⟨K, 1, none⟩ (.int .i64 x)) K k x sd d := ⟨cell_off h.c0 (by decide), cell_same h.c1, cell_off h.c2 (by decide), cell_off h.c3 (by decide)⟩
theorem HCmd.set2 {W : World} {K : Nat} {k e sd : Int} {d : ByteArray} (h : HCmd W K k e sd d) (x : Int) : HCmd (W.setCell ⟨K, 2, none⟩ (.int .i64 x)) K k e x d := ⟨cell_off h.c0 (by decide), cell_off h.c1 (by decide), cell_same h.c2, cell_off h.c3 (by decide)⟩
theorem HCmd.set3 {W : World} {K : Nat} {k e sd : Int} {d : ByteArray} (h : HCmd W K k e sd d) (x : ByteArray) : HCmd (W.setCell ⟨K, 3, none⟩ (.string x)) K k e sd x := ⟨cell_off h.c0 (by decide), cell_off h.c1 (by decide), cell_off h.c2 (by decide), cell_same h.c3⟩
theorem FCmd.set {W : World} {K : Nat} (h : FCmd W K) (j : Nat) (x : Value) : FCmd (W.setCell ⟨K, j, none⟩ x) K := ⟨(World.frozen?_setCell _ _ _ _).trans h.c0, (World.frozen?_setCell _ _ _ _).trans h.c1, (World.frozen?_setCell _ _ _ _).trans h.c2, (World.frozen?_setCell _ _ _ _).trans h.c3⟩
theorem FCmd.new (W : World) (T : TypeId) (k e sd : Int) (d : ByteArray) : FCmd (W.alloc (.cells #[.int .i64 k, .int .i64 e, .int .i64 sd, .string d] T)) W.heap.size := by constructor <;> simp [go_sem]
theorem HHas.off {W : World} {K : Nat} {a b d : Bool} (h : HHas W K a b d) {q : Nat} (hq : K ≠ q) (j : Nat) (v : Value) : HHas (W.setCell ⟨q, j, none⟩ v) K a b d :=
  ⟨(Frm.one W q j v).cell (p := ⟨K, 0, none⟩) hq h.c0, (Frm.one W q j v).cell (p := ⟨K, 1, none⟩) hq h.c1, (Frm.one W q j v).cell (p := ⟨K, 2, none⟩) hq h.c2⟩
set_option maxRecDepth 20000 in
set_option maxHeartbeats 12800000 in
theorem rparse_any33 (s : ByteArray) (w : World) (hs : s.size ≤ 3000) : Calls Try.prog 12 #[.string s] w fun e w' => e = .returned (.tuple #[cmdV (prs s).1, .int .i64 (prs s).2]) ∧ Below w.heap.size w w' := by
  have hfin : ∀ (c : Cmd) (n : Int) W, (c, n) = prs s → Below w.heap.size w W → (fun e w' => e = Ending.returned (.tuple #[cmdV (prs s).1, .int .i64 (prs s).2]) ∧ Below w.heap.size w w') (.returned (.tuple #[.agg #[.int .i64 c.k, .int .i64 c.e, .int .i64 c.sd, .string c.d], .int .i64 n])) W := by
    intro c n W h hb
    rw [← h]
    exact ⟨rfl, hb⟩
  generalize (fun e w' => e = Ending.returned (.tuple #[cmdV (prs s).1, .int .i64 (prs s).2]) ∧ Below w.heap.size w w') = Pst at *
  have hfin := Lib.hid hfin
  have hzz : ∀ w, (zeroValue 23).run Try.prog w = .ok (.agg #[.int .i64 0, .int .i64 0, .int .i64 0, .string ⟨#[]⟩]) w := fun _ => by kernel_rfl
  by_cases hbig : 600 < s.size
  · have hp : (noC, (11 : Int)) = prs s := by unfold prs; rw [if_pos hbig]
    have hp := Lib.hid hp
    go_enter Try.func12, Try.ntmps12
    go_wp2
    go_returns
    exact hfin.out noC 11 _ hp.out (alb _ _)
  · have hW := Lib.hid (fun w => rwords_any s w (by omega))
    go_enter Try.func12, Try.ntmps12
    go_wp2_with (go_at_call 26; (with_reducible refine (hW.out _).mono ?_); rintro e1 w1 ⟨⟨v, rfl, hS⟩, hb1⟩)
    have hb0 := bt (alb w _) hb1
    have hres : HCmd w1 w.heap.size 0 0 0 ⟨#[]⟩ ∧ FCmd w1 w.heap.size := by
      have h1 := HCmd.new w 23 0 0 0 ⟨#[]⟩
      have h2 : FCmd (w.alloc (.cells #[.int .i64 0, .int .i64 0, .int .i64 0, .string ⟨#[]⟩] 23)) w.heap.size := FCmd.new w 23 0 0 0 ⟨#[]⟩
      exact ⟨h1.below hb1, h2.below h1 hb1⟩
    have hlw := words_are s
    have hll := words_len s
    have hprs : prs s = if (wordsL s).length = 0 then (noC, 70) else prsF s (wordsL s) 1 10 := by unfold prs; rw [if_neg hbig]
    generalize wordsL s = l at *
    by_cases h0 : l = []
    · subst h0
      have hp : (noC, (70 : Int)) = prs s := by rw [hprs]; rfl
      have hp := Lib.hid hp
      have hend := fun a1 a2 a3 a4 => (((hb0.setCell (p := ⟨w.heap.size, 0, none⟩) (Nat.le_refl _) a1).setCell (p := ⟨w.heap.size, 1, none⟩) (Nat.le_refl _) a2).setCell (p := ⟨w.heap.size, 2, none⟩) (Nat.le_refl _) a3).setCell (p := ⟨w.heap.size, 3, none⟩) (Nat.le_refl _) a4
      have hend := Lib.hid hend
      obtain ⟨⟨r0, r1, r2, r3⟩, ⟨f0, f1, f2, f3⟩⟩ := hres
      have hv : ∃ a cap, v = .slice a 0 cap := by
        rcases hS.2 with ⟨h, _⟩ | ⟨g, cap, cur, h, _⟩
        · exact ⟨none, 0, h⟩
        · exact ⟨_, cap, h⟩
      obtain ⟨av, cv, rfl⟩ := hv
      clear hS hW hprs hlw hll
      refine wp_loop_rounds 1 ?_
      rw [rounds_succ]; go_wp2
      refine bodyPost_ret (v := .tuple #[.agg #[.int .i64 0, .int .i64 0, .int .i64 0, .string ⟨#[]⟩], .int .i64 70]) (by simp [results, Try.results12, go_sem, r0, r1, r2, r3]) rfl ?_
      exact hfin.out noC 70 _ hp.out (hend.out _ _ _ _)
    · obtain ⟨g, cap, rfl, hcap, hcell0⟩ := hS.get h0
      have hcell : ∀ j, j < l.length → w1.cell? ⟨g, j, none⟩ = some (.string (l.getD j emS)) := fun j hj => by rw [hcell0 j hj, List.getD_eq_getElem?_getD, List.getElem?_eq_getElem hj]; rfl
      clear hcell0
      have hn0 : 0 < l.length := List.length_pos_iff.2 h0
      rw [if_neg (by omega)] at hprs
      have hprs := Lib.hid hprs
      have hsz : ∀ j, (l.getD j emS).size ≤ 3000 := fun j => by
        rw [List.getD_eq_getElem?_getD]
        by_cases h : j < l.length
        · rw [List.getElem?_eq_getElem h]; have := (hlw _ (List.getElem_mem h)).2; show l[j].size ≤ 3000; omega
        · rw [List.getElem?_eq_none (by omega)]; decide
      have hR := Lib.hid (fun w => rread_any (l.getD 1 emS) w (by have := hsz 1; omega))
      have hU := Lib.hid (fun w => runbytes_any (l.getD 2 emS) w (by have := hsz 2; omega))
      have hstart : PRel s l w1 (.int .i64 1) w1 := ⟨1, by omega, by omega, rfl, rfl, Below.refl _ _⟩
      have hcellx := Lib.hid hcell
      have hresx := Lib.hid hres
      clear hS hW hlw hb1 hcell hres hsz
      go_loopw [5] (fun kv wr => PRel s l w1 kv wr) (fun kv _ => 12 - (intOf kv).toNat)
      case atStart => exact hstart
      case round =>
        obtain ⟨k, hk1, hk11, rfl, hpk, hbk⟩ := hrel
        clear hstart
        by_cases hk : k ≤ 10
        · have hO := rname_any (k : Int)
          have hH := rhas_any33 (k : Int)
          have hin : inK (k : Int) = true := decide_eq_true ⟨by omega, by omega⟩
          have hcombo := kind_combo hin
          unfold hasV at hH
          have hPr := rprint_any33 (fieldsC (k : Int) l)
          have hfc : fieldsC (k : Int) l = ⟨k, fldE (hE (k : Int)) l.length (l.getD 1 emS), fldS (Ytkcnpahnhmcegaa.hS (k : Int)) l.length (l.getD 2 emS), fldD (hB (k : Int)) l.length (l.getD 2 emS)⟩ := rfl
          have hgood : goodK s l (k : Int) = decide (nameK (k : Int) = l.getD 0 emS ∧ chkC (fieldsC (k : Int) l) = 0 ∧ linS (fieldsC (k : Int) l) = s) := rfl
          have hno := prsF_no s l k hk
          have hyes := prsF_yes s l k hk
          have hprn : prnS (fieldsC (k : Int) l) = if chkC (fieldsC (k : Int) l) = 0 then linS (fieldsC (k : Int) l) else emS := rfl
          have hcz : ∀ W, Below w1.heap.size w1 W → W.cell? ⟨g, 0, none⟩ = some (.string (l.getD 0 emS)) := fun W hb => bkeep hb (hcellx.out 0 hn0)
          have hcA : ∀ W, Below w1.heap.size w1 W → ∀ j, j < l.length → W.cell? ⟨g, j, none⟩ = some (.string (l.getD j emS)) := fun W hb j hj => bkeep hb (hcellx.out j hj)
          have hrA : ∀ W, Below w1.heap.size w1 W → HCmd W w.heap.size 0 0 0 ⟨#[]⟩ ∧ FCmd W w.heap.size := fun W hb => ⟨hresx.out.1.below hb, hresx.out.2.below hresx.out.1 hb⟩
          have hnext : prsF s l 1 10 = prsF s l (k + 1) (11 - (k + 1)) → ∀ W, Below w1.heap.size w1 W → PRel s l w1 (.int .i64 ((k : Int) + 1)) W := fun h W hb => ⟨k + 1, by omega, by omega, by go_num, h, hb⟩
          have hend : ∀ (c : Cmd), fieldsC (k : Int) l = c → goodK s l (k : Int) = true → ∀ W a1 a2 a3 a4, Below w1.heap.size w1 W → Pst (.returned (.tuple #[.agg #[.int .i64 c.k, .int .i64 c.e, .int .i64 c.sd, .string c.d], .int .i64 0])) ((((W.setCell ⟨w.heap.size, 0, none⟩ a1).setCell ⟨w.heap.size, 1, none⟩ a2).setCell ⟨w.heap.size, 2, none⟩ a3).setCell ⟨w.heap.size, 3, none⟩ a4) := by
            intro c hc hg W a1 a2 a3 a4 hb
            refine hfin.out c 0 _ ?_ ?_
            · rw [hprs.out, hpk, hyes hg, hc]
            · exact ((((bt hb0 hb).setCell (p := ⟨w.heap.size, 0, none⟩) (Nat.le_refl _) _).setCell (p := ⟨w.heap.size, 1, none⟩) (Nat.le_refl _) _).setCell (p := ⟨w.heap.size, 2, none⟩) (Nat.le_refl _) _).setCell (p := ⟨w.heap.size, 3, none⟩) (Nat.le_refl _) _
          have hendc := hend _ rfl
          have hnextc := fun hg => hnext (hpk.trans (hno hg))
          clear hend hnext hpk hno hyes
          have hs1 : ∃ s1, l.getD 1 emS = s1 := ⟨_, rfl⟩
          obtain ⟨s1, hs1⟩ := hs1
          obtain ⟨s2, hs2⟩ : ∃ s2, l.getD 2 emS = s2 := ⟨_, rfl⟩
          rw [hs1, hs2] at hfc
          rw [hs1] at hR
          rw [hs2] at hU
          have hc1 := fun W hb (h : 1 < l.length) => hs1 ▸ hcA W hb 1 h
          have hc2 := fun W hb (h : 2 < l.length) => hs2 ▸ hcA W hb 2 h
          clear hs1 hs2 hcA
          generalize l.getD 0 emS = s0 at *
          generalize nameK (k : Int) = nm at *
          generalize hE (k : Int) = a at *
          generalize Ytkcnpahnhmcegaa.hS (k : Int) = b at *
          generalize hB (k : Int) = d0 at *
          generalize fieldsC (k : Int) l = c at *
          generalize goodK s l (k : Int) = gd0 at *
          unfold cmdV at hPr
          have hend := Lib.hid hendc
          have hnext := Lib.hid hnextc
          have hcz := Lib.hid hcz
          have hc1 := Lib.hid hc1
          have hc2 := Lib.hid hc2
          have hrA := Lib.hid hrA
          have hO := Lib.hid hO
          have hkk : (k : Int) ≤ 10 := by omega
          have hn0' : (0 : Int) < (l.length : Int) := by omega
          have hgoodx := Lib.hid hgood
          have hprnx := Lib.hid hprn
          have hbd := hbk.drew
          have M1 := hcz.out _ hbd
          have hbk := Lib.hid hbk
          clear hgood hprn hendc hnextc
          by_cases hn : nm = s0
          · subst hn
            rcases hcombo with ⟨rfl, rfl, rfl⟩ | ⟨rfl, rfl, rfl⟩ | ⟨rfl, rfl, rfl⟩ | ⟨rfl, rfl, rfl⟩
            · clear hc1 hc2
              have hfe : c = ⟨k, 0, 0, (⟨#[]⟩ : ByteArray)⟩ := by
                rw [hfc]
                have e1 : fldE false l.length s1 = 0 := by unfold fldE; first | exact if_pos ⟨rfl, p1⟩ | exact if_neg (fun h => absurd h.1 (by decide)) | exact if_neg (fun h => by have := h.2; omega)
                have e2 : fldS false l.length s2 = 0 := by unfold fldS; first | exact if_pos ⟨rfl, p2, p3⟩ | exact if_neg (fun h => absurd h.1 (by decide)) | exact if_neg (fun h => by have := h.2.1; omega) | exact if_neg (fun h => p3 h.2.2)
                have e3 : fldD false l.length s2 = (⟨#[]⟩ : ByteArray) := by unfold fldD; first | exact if_pos ⟨rfl, p2⟩ | exact if_neg (fun h => absurd h.1 (by decide)) | exact if_neg (fun h => by have := h.2; omega)
                rw [e1, e2, e3]
              clear hfc
              subst hfe
              simp only at hPr hend
              generalize prnS ⟨(k : Int), 0, 0, (⟨#[]⟩ : ByteArray)⟩ = t1 at *
              generalize chkC ⟨(k : Int), 0, 0, (⟨#[]⟩ : ByteArray)⟩ = n1 at *
              generalize linS ⟨(k : Int), 0, 0, (⟨#[]⟩ : ByteArray)⟩ = ln at *
              have hPr := Lib.hid hPr
              have hH := Lib.hid hH
              have hG : n1 = 0 → (t1.toList == s.toList) = true → gd0 = true := fun e1 e4 => by
                have e2 : t1 = s := ba_ext (eq_of_beq e4)
                have e3 : t1 = ln := by rw [hprnx.out, if_pos e1]
                rw [hgoodx.out]; exact decide_eq_true ⟨rfl, e1, e3 ▸ e2⟩
              have hG1 : ¬ n1 = 0 → gd0 = false := fun e1 => by rw [hgoodx.out]; exact decide_eq_false (fun h => e1 h.2.1)
              have hG2 : (t1.toList == s.toList) = false → gd0 = false := fun e4 => by
                have e1 : ¬ t1 = s := fun h => beq_eq_false_iff_ne.1 e4 (by rw [h])
                rw [hgoodx.out]
                exact decide_eq_false (fun h => e1 (by rw [hprnx.out, if_pos h.2.1]; exact h.2.2))
              have hG := Lib.hid hG
              have hG1 := Lib.hid hG1
              have hG2 := Lib.hid hG2
              clear hgoodx hprnx
              go_wp2_with fail
              refine wp_region_held_drew (S := (fun w' : World => w'.cell? ⟨g, 0, none⟩ = some (.string nm))) (by kernel_rfl) ?_ (fun hHeld => ?_)
              · first | exact M1 | exact M3
              first | (refine tw (i := 0) (v := ?_) ?_ hHeld ?_; rotate_left; focus (intro w hSw; (try dsimp only at hSw); go_simp; (try with_reducible rfl); done)) | refine tn (i := 0) hHeld ?_
              try simp only [Act.put, List.setIfInBounds_toArray, List.set_cons_zero, List.set_cons_succ]
              first | (refine tw (i := 2) (v := ?_) ?_ hHeld ?_; rotate_left; focus (intro w hSw; (try dsimp only at hSw); go_simp; (try with_reducible rfl); done)) | refine tn (i := 2) hHeld ?_
              try simp only [Act.put, List.setIfInBounds_toArray, List.set_cons_zero, List.set_cons_succ]
              first | (refine tw (i := 3) (v := ?_) ?_ hHeld ?_; rotate_left; focus (intro w hSw; (try dsimp only at hSw); go_simp; (try with_reducible rfl); done)) | refine tn (i := 3) hHeld ?_
              try simp only [Act.put, List.setIfInBounds_toArray, List.set_cons_zero, List.set_cons_succ]
              first | (refine tw (i := 4) (v := ?_) ?_ hHeld ?_; rotate_left; focus (intro w hSw; (try dsimp only at hSw); go_simp; (try with_reducible rfl); done)) | refine tn (i := 4) hHeld ?_
              try simp only [Act.put, List.setIfInBounds_toArray, List.set_cons_zero, List.set_cons_succ]
              refine call_next (i := 1) (by kernel_rfl) (by rfl) ?_
              intro o ho K hK
              simp only [List.getElem?_toArray, List.getElem?_cons_succ, List.getElem?_cons_zero, Option.some.injEq] at ho
              subst ho
              first | (fail; refine hK.out _ _ ?_ (fun hHeld => ?_)) | (go_simp; first | (with_reducible refine hK.out _ _ ?_ (fun hHeld => ?_)) | ((go_at_call 21; (with_reducible refine (hO.out _).mono ?_); rintro e1 w3 ⟨rfl, hb2⟩; have hb3 := bt hbd hb2; have M3 := hcz.out _ hb3); refine hK.out _ _ ?_ (fun hHeld => ?_)))
              · first | exact M1 | exact M3
              clear hK K
              try simp only [Act.put, List.setIfInBounds_toArray, List.set_cons_zero, List.set_cons_succ]
              first | (refine tw (i := 5) (v := ?_) ?_ hHeld ?_; rotate_left; focus (intro w hSw; (try dsimp only at hSw); go_simp; (try with_reducible rfl); done)) | refine tn (i := 5) hHeld ?_
              try simp only [Act.put, List.setIfInBounds_toArray, List.set_cons_zero, List.set_cons_succ]
              refine wpAnyH_done (by kernel_rfl) ?_ _
              go_wp2_with (first | (go_at_call 20; (with_reducible refine (hH.out _).mono ?_); rintro e1 w5 ⟨rfl, hb4⟩; have hA := alb w5 (.cells #[.bool false, .bool false, .bool false] 45); have hb5 := Lib.hid (bt (bt (bt hb3 (alb w3 (.cells #[.int .i64 k, .int .i64 0, .int .i64 0, .string ⟨#[]⟩] 23))) hb4) hA); have hc5 := Lib.hid ((HCmd.new w3 23 k 0 0 ⟨#[]⟩).below (bt hb4 hA)); have hf5 := Lib.hid ((FCmd.new w3 23 k 0 0 ⟨#[]⟩).below (HCmd.new w3 23 k 0 0 ⟨#[]⟩) (bt hb4 hA)); obtain ⟨m0, m1, m2, m3⟩ := hc5.out; obtain ⟨f0, f1, f2, f3⟩ := hf5.out; obtain ⟨v0, v1, v2⟩ := HHas.new w5 45 false false false; (try have z1 := hc1.out _ hb5.out p1); (try have z2 := hc2.out _ hb5.out p2); have hv5 := Lib.hid (HHas.new w5 45 false false false); have hB6 := Lib.hid hb3.size; have hneq := Lib.hid (show w5.heap.size ≠ w3.heap.size by have := hb4.size; simp at this; omega)) | (go_at_call 27; (with_reducible refine (hR.out _).mono ?_); rintro e1 wx ⟨rfl, rfl⟩; obtain ⟨x0, x1, x2⟩ := hv5.out.off hneq.out 1 (.int .i64 (readV s1)); obtain ⟨x3, x4, x5⟩ := (hv5.out.off hneq.out 1 (.int .i64 (readV s1))).off hneq.out 2 (.int .i64 1); (try have y2 := hc2.out _ (hb5.out.setCell (p := ⟨w3.heap.size, 1, none⟩) hB6.out (.int .i64 (readV s1))) p2)) | (go_at_call 14; (with_reducible refine (hU.out _).mono ?_); rintro e1 w6 ⟨rfl, hb6⟩; have hc6 := Lib.hid ((hc5.out.set1 (readV s1)).below hb6); have hf6 := (hf5.out.set 1 _).below (hc5.out.set1 (readV s1)) hb6; obtain ⟨n0, n1', n2, n3⟩ := hc6.out; obtain ⟨g0, g1, g2, g3⟩ := hf6; have hb7 := Lib.hid (bt (hb5.out.setCell (p := ⟨w3.heap.size, 1, none⟩) hB6.out (.int .i64 (readV s1))) hb6)) | (go_at_call 8; (with_reducible refine (hPr.out _).mono ?_); rintro e1 w7 ⟨rfl, hb8⟩; have hb9 := bt hb5.out hb8; obtain ⟨o0, o1, o2, o3⟩ := hc5.out.below hb8; obtain ⟨⟨r0, r1, r2, r3⟩, ⟨h0, h1, h2, h3⟩⟩ := hrA.out _ hb9))
              all_goals first | exact ⟨hnext.out (hG2.out (by assumption)) _ hb9, by simp [intOf]; omega⟩ | exact ⟨hnext.out (hG1.out (by assumption)) _ hb9, by simp [intOf]; omega⟩ | (refine bodyPost_ret (v := .tuple #[.agg #[.int .i64 k, .int .i64 (0), .int .i64 (0), .string ((⟨#[]⟩ : ByteArray))], .int .i64 0]) (by simp [results, Try.results12, go_sem, r0, r1, r2, r3]; try rfl) rfl ?_; exact hend.out (hG.out (by assumption) (by assumption)) _ _ _ _ _ hb9)
            · by_cases p1 : 1 < l.length
              · have p1' : (1 : Int) < (l.length : Int) := by omega
                have hfe : c = ⟨k, readV s1, 0, (⟨#[]⟩ : ByteArray)⟩ := by
                  rw [hfc]
                  have e1 : fldE true l.length s1 = readV s1 := by unfold fldE; first | exact if_pos ⟨rfl, p1⟩ | exact if_neg (fun h => absurd h.1 (by decide)) | exact if_neg (fun h => by have := h.2; omega)
                  have e2 : fldS false l.length s2 = 0 := by unfold fldS; first | exact if_pos ⟨rfl, p2, p3⟩ | exact if_neg (fun h => absurd h.1 (by decide)) | exact if_neg (fun h => by have := h.2.1; omega) | exact if_neg (fun h => p3 h.2.2)
                  have e3 : fldD false l.length s2 = (⟨#[]⟩ : ByteArray) := by unfold fldD; first | exact if_pos ⟨rfl, p2⟩ | exact if_neg (fun h => absurd h.1 (by decide)) | exact if_neg (fun h => by have := h.2; omega)
                  rw [e1, e2, e3]
                clear hfc
                subst hfe
                simp only at hPr hend
                generalize prnS ⟨(k : Int), readV s1, 0, (⟨#[]⟩ : ByteArray)⟩ = t1 at *
                generalize chkC ⟨(k : Int), readV s1, 0, (⟨#[]⟩ : ByteArray)⟩ = n1 at *
                generalize linS ⟨(k : Int), readV s1, 0, (⟨#[]⟩ : ByteArray)⟩ = ln at *
                have hPr := Lib.hid hPr
                have hH := Lib.hid hH
                have hG : n1 = 0 → (t1.toList == s.toList) = true → gd0 = true := fun e1 e4 => by
                  have e2 : t1 = s := ba_ext (eq_of_beq e4)
                  have e3 : t1 = ln := by rw [hprnx.out, if_pos e1]
                  rw [hgoodx.out]; exact decide_eq_true ⟨rfl, e1, e3 ▸ e2⟩
                have hG1 : ¬ n1 = 0 → gd0 = false := fun e1 => by rw [hgoodx.out]; exact decide_eq_false (fun h => e1 h.2.1)
                have hG2 : (t1.toList == s.toList) = false → gd0 = false := fun e4 => by
                  have e1 : ¬ t1 = s := fun h => beq_eq_false_iff_ne.1 e4 (by rw [h])
                  rw [hgoodx.out]
                  exact decide_eq_false (fun h => e1 (by rw [hprnx.out, if_pos h.2.1]; exact h.2.2))
                have hG := Lib.hid hG
                have hG1 := Lib.hid hG1
                have hG2 := Lib.hid hG2
                clear hgoodx hprnx
                go_wp2_with fail
                refine wp_region_held_drew (S := (fun w' : World => w'.cell? ⟨g, 0, none⟩ = some (.string nm))) (by kernel_rfl) ?_ (fun hHeld => ?_)
                · first | exact M1 | exact M3
                first | (refine tw (i := 0) (v := ?_) ?_ hHeld ?_; rotate_left; focus (intro w hSw; (try dsimp only at hSw); go_simp; (try with_reducible rfl); done)) | refine tn (i := 0) hHeld ?_
                try simp only [Act.put, List.setIfInBounds_toArray, List.set_cons_zero, List.set_cons_succ]
                first | (refine tw (i := 2) (v := ?_) ?_ hHeld ?_; rotate_left; focus (intro w hSw; (try dsimp only at hSw); go_simp; (try with_reducible rfl); done)) | refine tn (i := 2) hHeld ?_
                try simp only [Act.put, List.setIfInBounds_toArray, List.set_cons_zero, List.set_cons_succ]
                first | (refine tw (i := 3) (v := ?_) ?_ hHeld ?_; rotate_left; focus (intro w hSw; (try dsimp only at hSw); go_simp; (try with_reducible rfl); done)) | refine tn (i := 3) hHeld ?_
                try simp only [Act.put, List.setIfInBounds_toArray, List.set_cons_zero, List.set_cons_succ]
                first | (refine tw (i := 4) (v := ?_) ?_ hHeld ?_; rotate_left; focus (intro w hSw; (try dsimp only at hSw); go_simp; (try with_reducible rfl); done)) | refine tn (i := 4) hHeld ?_
                try simp only [Act.put, List.setIfInBounds_toArray, List.set_cons_zero, List.set_cons_succ]
                refine call_next (i := 1) (by kernel_rfl) (by rfl) ?_
                intro o ho K hK
                simp only [List.getElem?_toArray, List.getElem?_cons_succ, List.getElem?_cons_zero, Option.some.injEq] at ho
                subst ho
                first | (fail; refine hK.out _ _ ?_ (fun hHeld => ?_)) | (go_simp; first | (with_reducible refine hK.out _ _ ?_ (fun hHeld => ?_)) | ((go_at_call 21; (with_reducible refine (hO.out _).mono ?_); rintro e1 w3 ⟨rfl, hb2⟩; have hb3 := bt hbd hb2; have M3 := hcz.out _ hb3); refine hK.out _ _ ?_ (fun hHeld => ?_)))
                · first | exact M1 | exact M3
                clear hK K
                try simp only [Act.put, List.setIfInBounds_toArray, List.set_cons_zero, List.set_cons_succ]
                first | (refine tw (i := 5) (v := ?_) ?_ hHeld ?_; rotate_left; focus (intro w hSw; (try dsimp only at hSw); go_simp; (try with_reducible rfl); done)) | refine tn (i := 5) hHeld ?_
                try simp only [Act.put, List.setIfInBounds_toArray, List.set_cons_zero, List.set_cons_succ]
                refine wpAnyH_done (by kernel_rfl) ?_ _
                go_wp2_with (first | (go_at_call 20; (with_reducible refine (hH.out _).mono ?_); rintro e1 w5 ⟨rfl, hb4⟩; have hA := alb w5 (.cells #[.bool true, .bool false, .bool false] 45); have hb5 := Lib.hid (bt (bt (bt hb3 (alb w3 (.cells #[.int .i64 k, .int .i64 0, .int .i64 0, .string ⟨#[]⟩] 23))) hb4) hA); have hc5 := Lib.hid ((HCmd.new w3 23 k 0 0 ⟨#[]⟩).below (bt hb4 hA)); have hf5 := Lib.hid ((FCmd.new w3 23 k 0 0 ⟨#[]⟩).below (HCmd.new w3 23 k 0 0 ⟨#[]⟩) (bt hb4 hA)); obtain ⟨m0, m1, m2, m3⟩ := hc5.out; obtain ⟨f0, f1, f2, f3⟩ := hf5.out; obtain ⟨v0, v1, v2⟩ := HHas.new w5 45 true false false; (try have z1 := hc1.out _ hb5.out p1); (try have z2 := hc2.out _ hb5.out p2); have hv5 := Lib.hid (HHas.new w5 45 true false false); have hB6 := Lib.hid hb3.size; have hneq := Lib.hid (show w5.heap.size ≠ w3.heap.size by have := hb4.size; simp at this; omega)) | (go_at_call 27; (with_reducible refine (hR.out _).mono ?_); rintro e1 wx ⟨rfl, rfl⟩; obtain ⟨x0, x1, x2⟩ := hv5.out.off hneq.out 1 (.int .i64 (readV s1)); obtain ⟨x3, x4, x5⟩ := (hv5.out.off hneq.out 1 (.int .i64 (readV s1))).off hneq.out 2 (.int .i64 1); (try have y2 := hc2.out _ (hb5.out.setCell (p := ⟨w3.heap.size, 1, none⟩) hB6.out (.int .i64 (readV s1))) p2)) | (go_at_call 14; (with_reducible refine (hU.out _).mono ?_); rintro e1 w6 ⟨rfl, hb6⟩; have hc6 := Lib.hid ((hc5.out.set1 (readV s1)).below hb6); have hf6 := (hf5.out.set 1 _).below (hc5.out.set1 (readV s1)) hb6; obtain ⟨n0, n1', n2, n3⟩ := hc6.out; obtain ⟨g0, g1, g2, g3⟩ := hf6; have hb7 := Lib.hid (bt (hb5.out.setCell (p := ⟨w3.heap.size, 1, none⟩) hB6.out (.int .i64 (readV s1))) hb6)) | (go_at_call 8; (with_reducible refine (hPr.out _).mono ?_); rintro e1 w7 ⟨rfl, hb8⟩; have hb9 := bt (hb5.out.setCell (p := ⟨w3.heap.size, 1, none⟩) hB6.out (.int .i64 (readV s1))) hb8; obtain ⟨o0, o1, o2, o3⟩ := (hc5.out.set1 (readV s1)).below hb8; obtain ⟨⟨r0, r1, r2, r3⟩, ⟨h0, h1, h2, h3⟩⟩ := hrA.out _ hb9))
                all_goals first | exact ⟨hnext.out (hG2.out (by assumption)) _ hb9, by simp [intOf]; omega⟩ | exact ⟨hnext.out (hG1.out (by assumption)) _ hb9, by simp [intOf]; omega⟩ | (refine bodyPost_ret (v := .tuple #[.agg #[.int .i64 k, .int .i64 (readV s1), .int .i64 (0), .string ((⟨#[]⟩ : ByteArray))], .int .i64 0]) (by simp [results, Try.results12, go_sem, r0, r1, r2, r3]; try rfl) rfl ?_; exact hend.out (hG.out (by assumption) (by assumption)) _ _ _ _ _ hb9)
              · have p1' : ¬ (1 : Int) < (l.length : Int) := by omega
                have hfe : c = ⟨k, 0, 0, (⟨#[]⟩ : ByteArray)⟩ := by
                  rw [hfc]
                  have e1 : fldE true l.length s1 = 0 := by unfold fldE; first | exact if_pos ⟨rfl, p1⟩ | exact if_neg (fun h => absurd h.1 (by decide)) | exact if_neg (fun h => by have := h.2; omega)
                  have e2 : fldS false l.length s2 = 0 := by unfold fldS; first | exact if_pos ⟨rfl, p2, p3⟩ | exact if_neg (fun h => absurd h.1 (by decide)) | exact if_neg (fun h => by have := h.2.1; omega) | exact if_neg (fun h => p3 h.2.2)
                  have e3 : fldD false l.length s2 = (⟨#[]⟩ : ByteArray) := by unfold fldD; first | exact if_pos ⟨rfl, p2⟩ | exact if_neg (fun h => absurd h.1 (by decide)) | exact if_neg (fun h => by have := h.2; omega)
                  rw [e1, e2, e3]
                clear hfc
                subst hfe
                simp only at hPr hend
                generalize prnS ⟨(k : Int), 0, 0, (⟨#[]⟩ : ByteArray)⟩ = t1 at *
                generalize chkC ⟨(k : Int), 0, 0, (⟨#[]⟩ : ByteArray)⟩ = n1 at *
                generalize linS ⟨(k : Int), 0, 0, (⟨#[]⟩ : ByteArray)⟩ = ln at *
                have hPr := Lib.hid hPr
                have hH := Lib.hid hH
                have hG : n1 = 0 → (t1.toList == s.toList) = true → gd0 = true := fun e1 e4 => by
                  have e2 : t1 = s := ba_ext (eq_of_beq e4)
                  have e3 : t1 = ln := by rw [hprnx.out, if_pos e1]
                  rw [hgoodx.out]; exact decide_eq_true ⟨rfl, e1, e3 ▸ e2⟩
                have hG1 : ¬ n1 = 0 → gd0 = false := fun e1 => by rw [hgoodx.out]; exact decide_eq_false (fun h => e1 h.2.1)
                have hG2 : (t1.toList == s.toList) = false → gd0 = false := fun e4 => by
                  have e1 : ¬ t1 = s := fun h => beq_eq_false_iff_ne.1 e4 (by rw [h])
                  rw [hgoodx.out]
                  exact decide_eq_false (fun h => e1 (by rw [hprnx.out, if_pos h.2.1]; exact h.2.2))
                have hG := Lib.hid hG
                have hG1 := Lib.hid hG1
                have hG2 := Lib.hid hG2
                clear hgoodx hprnx
                go_wp2_with fail
                refine wp_region_held_drew (S := (fun w' : World => w'.cell? ⟨g, 0, none⟩ = some (.string nm))) (by kernel_rfl) ?_ (fun hHeld => ?_)
                · first | exact M1 | exact M3
                first | (refine tw (i := 0) (v := ?_) ?_ hHeld ?_; rotate_left; focus (intro w hSw; (try dsimp only at hSw); go_simp; (try with_reducible rfl); done)) | refine tn (i := 0) hHeld ?_
                try simp only [Act.put, List.setIfInBounds_toArray, List.set_cons_zero, List.set_cons_succ]
                first | (refine tw (i := 2) (v := ?_) ?_ hHeld ?_; rotate_left; focus (intro w hSw; (try dsimp only at hSw); go_simp; (try with_reducible rfl); done)) | refine tn (i := 2) hHeld ?_
                try simp only [Act.put, List.setIfInBounds_toArray, List.set_cons_zero, List.set_cons_succ]
                first | (refine tw (i := 3) (v := ?_) ?_ hHeld ?_; rotate_left; focus (intro w hSw; (try dsimp only at hSw); go_simp; (try with_reducible rfl); done)) | refine tn (i := 3) hHeld ?_
                try simp only [Act.put, List.setIfInBounds_toArray, List.set_cons_zero, List.set_cons_succ]
                first | (refine tw (i := 4) (v := ?_) ?_ hHeld ?_; rotate_left; focus (intro w hSw; (try dsimp only at hSw); go_simp; (try with_reducible rfl); done)) | refine tn (i := 4) hHeld ?_
                try simp only [Act.put, List.setIfInBounds_toArray, List.set_cons_zero, List.set_cons_succ]
                refine call_next (i := 1) (by kernel_rfl) (by rfl) ?_
                intro o ho K hK
                simp only [List.getElem?_toArray, List.getElem?_cons_succ, List.getElem?_cons_zero, Option.some.injEq] at ho
                subst ho
                first | (fail; refine hK.out _ _ ?_ (fun hHeld => ?_)) | (go_simp; first | (with_reducible refine hK.out _ _ ?_ (fun hHeld => ?_)) | ((go_at_call 21; (with_reducible refine (hO.out _).mono ?_); rintro e1 w3 ⟨rfl, hb2⟩; have hb3 := bt hbd hb2; have M3 := hcz.out _ hb3); refine hK.out _ _ ?_ (fun hHeld => ?_)))
                · first | exact M1 | exact M3
                clear hK K
                try simp only [Act.put, List.setIfInBounds_toArray, List.set_cons_zero, List.set_cons_succ]
                first | (refine tw (i := 5) (v := ?_) ?_ hHeld ?_; rotate_left; focus (intro w hSw; (try dsimp only at hSw); go_simp; (try with_reducible rfl); done)) | refine tn (i := 5) hHeld ?_
                try simp only [Act.put, List.setIfInBounds_toArray, List.set_cons_zero, List.set_cons_succ]
                refine wpAnyH_done (by kernel_rfl) ?_ _
                go_wp2_with (first | (go_at_call 20; (with_reducible refine (hH.out _).mono ?_); rintro e1 w5 ⟨rfl, hb4⟩; have hA := alb w5 (.cells #[.bool true, .bool false, .bool false] 45); have hb5 := Lib.hid (bt (bt (bt hb3 (alb w3 (.cells #[.int .i64 k, .int .i64 0, .int .i64 0, .string ⟨#[]⟩] 23))) hb4) hA); have hc5 := Lib.hid ((HCmd.new w3 23 k 0 0 ⟨#[]⟩).below (bt hb4 hA)); have hf5 := Lib.hid ((FCmd.new w3 23 k 0 0 ⟨#[]⟩).below (HCmd.new w3 23 k 0 0 ⟨#[]⟩) (bt hb4 hA)); obtain ⟨m0, m1, m2, m3⟩ := hc5.out; obtain ⟨f0, f1, f2, f3⟩ := hf5.out; obtain ⟨v0, v1, v2⟩ := HHas.new w5 45 true false false; (try have z1 := hc1.out _ hb5.out p1); (try have z2 := hc2.out _ hb5.out p2); have hv5 := Lib.hid (HHas.new w5 45 true false false); have hB6 := Lib.hid hb3.size; have hneq := Lib.hid (show w5.heap.size ≠ w3.heap.size by have := hb4.size; simp at this; omega)) | (go_at_call 27; (with_reducible refine (hR.out _).mono ?_); rintro e1 wx ⟨rfl, rfl⟩; obtain ⟨x0, x1, x2⟩ := hv5.out.off hneq.out 1 (.int .i64 (readV s1)); obtain ⟨x3, x4, x5⟩ := (hv5.out.off hneq.out 1 (.int .i64 (readV s1))).off hneq.out 2 (.int .i64 1); (try have y2 := hc2.out _ (hb5.out.setCell (p := ⟨w3.heap.size, 1, none⟩) hB6.out (.int .i64 (readV s1))) p2)) | (go_at_call 14; (with_reducible refine (hU.out _).mono ?_); rintro e1 w6 ⟨rfl, hb6⟩; have hc6 := Lib.hid ((hc5.out.set1 (readV s1)).below hb6); have hf6 := (hf5.out.set 1 _).below (hc5.out.set1 (readV s1)) hb6; obtain ⟨n0, n1', n2, n3⟩ := hc6.out; obtain ⟨g0, g1, g2, g3⟩ := hf6; have hb7 := Lib.hid (bt (hb5.out.setCell (p := ⟨w3.heap.size, 1, none⟩) hB6.out (.int .i64 (readV s1))) hb6)) | (go_at_call 8; (with_reducible refine (hPr.out _).mono ?_); rintro e1 w7 ⟨rfl, hb8⟩; have hb9 := bt hb5.out hb8; obtain ⟨o0, o1, o2, o3⟩ := hc5.out.below hb8; obtain ⟨⟨r0, r1, r2, r3⟩, ⟨h0, h1, h2, h3⟩⟩ := hrA.out _ hb9))
                all_goals first | exact ⟨hnext.out (hG2.out (by assumption)) _ hb9, by simp [intOf]; omega⟩ | exact ⟨hnext.out (hG1.out (by assumption)) _ hb9, by simp [intOf]; omega⟩ | (refine bodyPost_ret (v := .tuple #[.agg #[.int .i64 k, .int .i64 (0), .int .i64 (0), .string ((⟨#[]⟩ : ByteArray))], .int .i64 0]) (by simp [results, Try.results12, go_sem, r0, r1, r2, r3]; try rfl) rfl ?_; exact hend.out (hG.out (by assumption) (by assumption)) _ _ _ _ _ hb9)
            · by_cases p1 : 1 < l.length
              · have p1' : (1 : Int) < (l.length : Int) := by omega
                by_cases p2 : 2 < l.length
                · have p2' : (2 : Int) < (l.length : Int) := by omega
                  by_cases p3 : s2.toList = [98]
                  · have hq : (s2.toList == [98]) = true := by rw [p3]; rfl
                    have hfe : c = ⟨k, readV s1, 1, (⟨#[]⟩ : ByteArray)⟩ := by
                      rw [hfc]
                      have e1 : fldE true l.length s1 = readV s1 := by unfold fldE; first | exact if_pos ⟨rfl, p1⟩ | exact if_neg (fun h => absurd h.1 (by decide)) | exact if_neg (fun h => by have := h.2; omega)
                      have e2 : fldS true l.length s2 = 1 := by unfold fldS; first | exact if_pos ⟨rfl, p2, p3⟩ | exact if_neg (fun h => absurd h.1 (by decide)) | exact if_neg (fun h => by have := h.2.1; omega) | exact if_neg (fun h => p3 h.2.2)
                      have e3 : fldD false l.length s2 = (⟨#[]⟩ : ByteArray) := by unfold fldD; first | exact if_pos ⟨rfl, p2⟩ | exact if_neg (fun h => absurd h.1 (by decide)) | exact if_neg (fun h => by have := h.2; omega)
                      rw [e1, e2, e3]
                    clear hfc
                    subst hfe
                    simp only at hPr hend
                    generalize prnS ⟨(k : Int), readV s1, 1, (⟨#[]⟩ : ByteArray)⟩ = t1 at *
                    generalize chkC ⟨(k : Int), readV s1, 1, (⟨#[]⟩ : ByteArray)⟩ = n1 at *
                    generalize linS ⟨(k : Int), readV s1, 1, (⟨#[]⟩ : ByteArray)⟩ = ln at *
                    have hPr := Lib.hid hPr
                    have hH := Lib.hid hH
                    have hG : n1 = 0 → (t1.toList == s.toList) = true → gd0 = true := fun e1 e4 => by
                      have e2 : t1 = s := ba_ext (eq_of_beq e4)
                      have e3 : t1 = ln := by rw [hprnx.out, if_pos e1]
                      rw [hgoodx.out]; exact decide_eq_true ⟨rfl, e1, e3 ▸ e2⟩
                    have hG1 : ¬ n1 = 0 → gd0 = false := fun e1 => by rw [hgoodx.out]; exact decide_eq_false (fun h => e1 h.2.1)
                    have hG2 : (t1.toList == s.toList) = false → gd0 = false := fun e4 => by
                      have e1 : ¬ t1 = s := fun h => beq_eq_false_iff_ne.1 e4 (by rw [h])
                      rw [hgoodx.out]
                      exact decide_eq_false (fun h => e1 (by rw [hprnx.out, if_pos h.2.1]; exact h.2.2))
                    have hG := Lib.hid hG
                    have hG1 := Lib.hid hG1
                    have hG2 := Lib.hid hG2
                    clear hgoodx hprnx
                    go_wp2_with fail
                    refine wp_region_held_drew (S := (fun w' : World => w'.cell? ⟨g, 0, none⟩ = some (.string nm))) (by kernel_rfl) ?_ (fun hHeld => ?_)
                    · first | exact M1 | exact M3
                    first | (refine tw (i := 0) (v := ?_) ?_ hHeld ?_; rotate_left; focus (intro w hSw; (try dsimp only at hSw); go_simp; (try with_reducible rfl); done)) | refine tn (i := 0) hHeld ?_
                    try simp only [Act.put, List.setIfInBounds_toArray, List.set_cons_zero, List.set_cons_succ]
                    first | (refine tw (i := 2) (v := ?_) ?_ hHeld ?_; rotate_left; focus (intro w hSw; (try dsimp only at hSw); go_simp; (try with_reducible rfl); done)) | refine tn (i := 2) hHeld ?_
                    try simp only [Act.put, List.setIfInBounds_toArray, List.set_cons_zero, List.set_cons_succ]
                    first | (refine tw (i := 3) (v := ?_) ?_ hHeld ?_; rotate_left; focus (intro w hSw; (try dsimp only at hSw); go_simp; (try with_reducible rfl); done)) | refine tn (i := 3) hHeld ?_
                    try simp only [Act.put, List.setIfInBounds_toArray, List.set_cons_zero, List.set_cons_succ]
                    first | (refine tw (i := 4) (v := ?_) ?_ hHeld ?_; rotate_left; focus (intro w hSw; (try dsimp only at hSw); go_simp; (try with_reducible rfl); done)) | refine tn (i := 4) hHeld ?_
                    try simp only [Act.put, List.setIfInBounds_toArray, List.set_cons_zero, List.set_cons_succ]
                    refine call_next (i := 1) (by kernel_rfl) (by rfl) ?_
                    intro o ho K hK
                    simp only [List.getElem?_toArray, List.getElem?_cons_succ, List.getElem?_cons_zero, Option.some.injEq] at ho
                    subst ho
                    first | (fail; refine hK.out _ _ ?_ (fun hHeld => ?_)) | (go_simp; first | (with_reducible refine hK.out _ _ ?_ (fun hHeld => ?_)) | ((go_at_call 21; (with_reducible refine (hO.out _).mono ?_); rintro e1 w3 ⟨rfl, hb2⟩; have hb3 := bt hbd hb2; have M3 := hcz.out _ hb3); refine hK.out _ _ ?_ (fun hHeld => ?_)))
                    · first | exact M1 | exact M3
                    clear hK K
                    try simp only [Act.put, List.setIfInBounds_toArray, List.set_cons_zero, List.set_cons_succ]
                    first | (refine tw (i := 5) (v := ?_) ?_ hHeld ?_; rotate_left; focus (intro w hSw; (try dsimp only at hSw); go_simp; (try with_reducible rfl); done)) | refine tn (i := 5) hHeld ?_
                    try simp only [Act.put, List.setIfInBounds_toArray, List.set_cons_zero, List.set_cons_succ]
                    refine wpAnyH_done (by kernel_rfl) ?_ _
                    go_wp2_with (first | (go_at_call 20; (with_reducible refine (hH.out _).mono ?_); rintro e1 w5 ⟨rfl, hb4⟩; have hA := alb w5 (.cells #[.bool true, .bool true, .bool false] 45); have hb5 := Lib.hid (bt (bt (bt hb3 (alb w3 (.cells #[.int .i64 k, .int .i64 0, .int .i64 0, .string ⟨#[]⟩] 23))) hb4) hA); have hc5 := Lib.hid ((HCmd.new w3 23 k 0 0 ⟨#[]⟩).below (bt hb4 hA)); have hf5 := Lib.hid ((FCmd.new w3 23 k 0 0 ⟨#[]⟩).below (HCmd.new w3 23 k 0 0 ⟨#[]⟩) (bt hb4 hA)); obtain ⟨m0, m1, m2, m3⟩ := hc5.out; obtain ⟨f0, f1, f2, f3⟩ := hf5.out; obtain ⟨v0, v1, v2⟩ := HHas.new w5 45 true true false; (try have z1 := hc1.out _ hb5.out p1); (try have z2 := hc2.out _ hb5.out p2); have hv5 := Lib.hid (HHas.new w5 45 true true false); have hB6 := Lib.hid hb3.size; have hneq := Lib.hid (show w5.heap.size ≠ w3.heap.size by have := hb4.size; simp at this; omega)) | (go_at_call 27; (with_reducible refine (hR.out _).mono ?_); rintro e1 wx ⟨rfl, rfl⟩; obtain ⟨x0, x1, x2⟩ := hv5.out.off hneq.out 1 (.int .i64 (readV s1)); obtain ⟨x3, x4, x5⟩ := (hv5.out.off hneq.out 1 (.int .i64 (readV s1))).off hneq.out 2 (.int .i64 1); (try have y2 := hc2.out _ (hb5.out.setCell (p := ⟨w3.heap.size, 1, none⟩) hB6.out (.int .i64 (readV s1))) p2)) | (go_at_call 14; (with_reducible refine (hU.out _).mono ?_); rintro e1 w6 ⟨rfl, hb6⟩; have hc6 := Lib.hid ((hc5.out.set1 (readV s1)).below hb6); have hf6 := (hf5.out.set 1 _).below (hc5.out.set1 (readV s1)) hb6; obtain ⟨n0, n1', n2, n3⟩ := hc6.out; obtain ⟨g0, g1, g2, g3⟩ := hf6; have hb7 := Lib.hid (bt (hb5.out.setCell (p := ⟨w3.heap.size, 1, none⟩) hB6.out (.int .i64 (readV s1))) hb6)) | (go_at_call 8; (with_reducible refine (hPr.out _).mono ?_); rintro e1 w7 ⟨rfl, hb8⟩; have hb9 := bt ((hb5.out.setCell (p := ⟨w3.heap.size, 1, none⟩) hB6.out (.int .i64 (readV s1))).setCell (p := ⟨w3.heap.size, 2, none⟩) hB6.out (.int .i64 1)) hb8; obtain ⟨o0, o1, o2, o3⟩ := ((hc5.out.set1 (readV s1)).set2 1).below hb8; obtain ⟨⟨r0, r1, r2, r3⟩, ⟨h0, h1, h2, h3⟩⟩ := hrA.out _ hb9))
                    all_goals first | exact ⟨hnext.out (hG2.out (by assumption)) _ hb9, by simp [intOf]; omega⟩ | exact ⟨hnext.out (hG1.out (by assumption)) _ hb9, by simp [intOf]; omega⟩ | (refine bodyPost_ret (v := .tuple #[.agg #[.int .i64 k, .int .i64 (readV s1), .int .i64 (1), .string ((⟨#[]⟩ : ByteArray))], .int .i64 0]) (by simp [results, Try.results12, go_sem, r0, r1, r2, r3]; try rfl) rfl ?_; exact hend.out (hG.out (by assumption) (by assumption)) _ _ _ _ _ hb9)
                  · have hq : (s2.toList == [98]) = false := beq_eq_false_iff_ne.2 p3
                    have hfe : c = ⟨k, readV s1, 0, (⟨#[]⟩ : ByteArray)⟩ := by
                      rw [hfc]
                      have e1 : fldE true l.length s1 = readV s1 := by unfold fldE; first | exact if_pos ⟨rfl, p1⟩ | exact if_neg (fun h => absurd h.1 (by decide)) | exact if_neg (fun h => by have := h.2; omega)
                      have e2 : fldS true l.length s2 = 0 := by unfold fldS; first | exact if_pos ⟨rfl, p2, p3⟩ | exact if_neg (fun h => absurd h.1 (by decide)) | exact if_neg (fun h => by have := h.2.1; omega) | exact if_neg (fun h => p3 h.2.2)
                      have e3 : fldD false l.length s2 = (⟨#[]⟩ : ByteArray) := by unfold fldD; first | exact if_pos ⟨rfl, p2⟩ | exact if_neg (fun h => absurd h.1 (by decide)) | exact if_neg (fun h => by have := h.2; omega)
                      rw [e1, e2, e3]
                    clear hfc
                    subst hfe
                    simp only at hPr hend
                    generalize prnS ⟨(k : Int), readV s1, 0, (⟨#[]⟩ : ByteArray)⟩ = t1 at *
                    generalize chkC ⟨(k : Int), readV s1, 0, (⟨#[]⟩ : ByteArray)⟩ = n1 at *
                    generalize linS ⟨(k : Int), readV s1, 0, (⟨#[]⟩ : ByteArray)⟩ = ln at *
                    have hPr := Lib.hid hPr
                    have hH := Lib.hid hH
                    have hG : n1 = 0 → (t1.toList == s.toList) = true → gd0 = true := fun e1 e4 => by
                      have e2 : t1 = s := ba_ext (eq_of_beq e4)
                      have e3 : t1 = ln := by rw [hprnx.out, if_pos e1]
                      rw [hgoodx.out]; exact decide_eq_true ⟨rfl, e1, e3 ▸ e2⟩
                    have hG1 : ¬ n1 = 0 → gd0 = false := fun e1 => by rw [hgoodx.out]; exact decide_eq_false (fun h => e1 h.2.1)
                    have hG2 : (t1.toList == s.toList) = false → gd0 = false := fun e4 => by
                      have e1 : ¬ t1 = s := fun h => beq_eq_false_iff_ne.1 e4 (by rw [h])
                      rw [hgoodx.out]
                      exact decide_eq_false (fun h => e1 (by rw [hprnx.out, if_pos h.2.1]; exact h.2.2))
                    have hG := Lib.hid hG
                    have hG1 := Lib.hid hG1
                    have hG2 := Lib.hid hG2
                    clear hgoodx hprnx
                    go_wp2_with fail
                    refine wp_region_held_drew (S := (fun w' : World => w'.cell? ⟨g, 0, none⟩ = some (.string nm))) (by kernel_rfl) ?_ (fun hHeld => ?_)
                    · first | exact M1 | exact M3
                    first | (refine tw (i := 0) (v := ?_) ?_ hHeld ?_; rotate_left; focus (intro w hSw; (try dsimp only at hSw); go_simp; (try with_reducible rfl); done)) | refine tn (i := 0) hHeld ?_
                    try simp only [Act.put, List.setIfInBounds_toArray, List.set_cons_zero, List.set_cons_succ]
                    first | (refine tw (i := 2) (v := ?_) ?_ hHeld ?_; rotate_left; focus (intro w hSw; (try dsimp only at hSw); go_simp; (try with_reducible rfl); done)) | refine tn (i := 2) hHeld ?_
                    try simp only [Act.put, List.setIfInBounds_toArray, List.set_cons_zero, List.set_cons_succ]
                    first | (refine tw (i := 3) (v := ?_) ?_ hHeld ?_; rotate_left; focus (intro w hSw; (try dsimp only at hSw); go_simp; (try with_reducible rfl); done)) | refine tn (i := 3) hHeld ?_
                    try simp only [Act.put, List.setIfInBounds_toArray, List.set_cons_zero, List.set_cons_succ]
                    first | (refine tw (i := 4) (v := ?_) ?_ hHeld ?_; rotate_left; focus (intro w hSw; (try dsimp only at hSw); go_simp; (try with_reducible rfl); done)) | refine tn (i := 4) hHeld ?_
                    try simp only [Act.put, List.setIfInBounds_toArray, List.set_cons_zero, List.set_cons_succ]
                    refine call_next (i := 1) (by kernel_rfl) (by rfl) ?_
                    intro o ho K hK
                    simp only [List.getElem?_toArray, List.getElem?_cons_succ, List.getElem?_cons_zero, Option.some.injEq] at ho
                    subst ho
                    first | (fail; refine hK.out _ _ ?_ (fun hHeld => ?_)) | (go_simp; first | (with_reducible refine hK.out _ _ ?_ (fun hHeld => ?_)) | ((go_at_call 21; (with_reducible refine (hO.out _).mono ?_); rintro e1 w3 ⟨rfl, hb2⟩; have hb3 := bt hbd hb2; have M3 := hcz.out _ hb3); refine hK.out _ _ ?_ (fun hHeld => ?_)))
                    · first | exact M1 | exact M3
                    clear hK K
                    try simp only [Act.put, List.setIfInBounds_toArray, List.set_cons_zero, List.set_cons_succ]
                    first | (refine tw (i := 5) (v := ?_) ?_ hHeld ?_; rotate_left; focus (intro w hSw; (try dsimp only at hSw); go_simp; (try with_reducible rfl); done)) | refine tn (i := 5) hHeld ?_
                    try simp only [Act.put, List.setIfInBounds_toArray, List.set_cons_zero, List.set_cons_succ]
                    refine wpAnyH_done (by kernel_rfl) ?_ _
                    go_wp2_with (first | (go_at_call 20; (with_reducible refine (hH.out _).mono ?_); rintro e1 w5 ⟨rfl, hb4⟩; have hA := alb w5 (.cells #[.bool true, .bool true, .bool false] 45); have hb5 := Lib.hid (bt (bt (bt hb3 (alb w3 (.cells #[.int .i64 k, .int .i64 0, .int .i64 0, .string ⟨#[]⟩] 23))) hb4) hA); have hc5 := Lib.hid ((HCmd.new w3 23 k 0 0 ⟨#[]⟩).below (bt hb4 hA)); have hf5 := Lib.hid ((FCmd.new w3 23 k 0 0 ⟨#[]⟩).below (HCmd.new w3 23 k 0 0 ⟨#[]⟩) (bt hb4 hA)); obtain ⟨m0, m1, m2, m3⟩ := hc5.out; obtain ⟨f0, f1, f2, f3⟩ := hf5.out; obtain ⟨v0, v1, v2⟩ := HHas.new w5 45 true true false; (try have z1 := hc1.out _ hb5.out p1); (try have z2 := hc2.out _ hb5.out p2); have hv5 := Lib.hid (HHas.new w5 45 true true false); have hB6 := Lib.hid hb3.size; have hneq := Lib.hid (show w5.heap.size ≠ w3.heap.size by have := hb4.size; simp at this; omega)) | (go_at_call 27; (with_reducible refine (hR.out _).mono ?_); rintro e1 wx ⟨rfl, rfl⟩; obtain ⟨x0, x1, x2⟩ := hv5.out.off hneq.out 1 (.int .i64 (readV s1)); obtain ⟨x3, x4, x5⟩ := (hv5.out.off hneq.out 1 (.int .i64 (readV s1))).off hneq.out 2 (.int .i64 1); (try have y2 := hc2.out _ (hb5.out.setCell (p := ⟨w3.heap.size, 1, none⟩) hB6.out (.int .i64 (readV s1))) p2)) | (go_at_call 14; (with_reducible refine (hU.out _).mono ?_); rintro e1 w6 ⟨rfl, hb6⟩; have hc6 := Lib.hid ((hc5.out.set1 (readV s1)).below hb6); have hf6 := (hf5.out.set 1 _).below (hc5.out.set1 (readV s1)) hb6; obtain ⟨n0, n1', n2, n3⟩ := hc6.out; obtain ⟨g0, g1, g2, g3⟩ := hf6; have hb7 := Lib.hid (bt (hb5.out.setCell (p := ⟨w3.heap.size, 1, none⟩) hB6.out (.int .i64 (readV s1))) hb6)) | (go_at_call 8; (with_reducible refine (hPr.out _).mono ?_); rintro e1 w7 ⟨rfl, hb8⟩; have hb9 := bt (hb5.out.setCell (p := ⟨w3.heap.size, 1, none⟩) hB6.out (.int .i64 (readV s1))) hb8; obtain ⟨o0, o1, o2, o3⟩ := (hc5.out.set1 (readV s1)).below hb8; obtain ⟨⟨r0, r1, r2, r3⟩, ⟨h0, h1, h2, h3⟩⟩ := hrA.out _ hb9))
                    all_goals first | exact ⟨hnext.out (hG2.out (by assumption)) _ hb9, by simp [intOf]; omega⟩ | exact ⟨hnext.out (hG1.out (by assumption)) _ hb9, by simp [intOf]; omega⟩ | (refine bodyPost_ret (v := .tuple #[.agg #[.int .i64 k, .int .i64 (readV s1), .int .i64 (0), .string ((⟨#[]⟩ : ByteArray))], .int .i64 0]) (by simp [results, Try.results12, go_sem, r0, r1, r2, r3]; try rfl) rfl ?_; exact hend.out (hG.out (by assumption) (by assumption)) _ _ _ _ _ hb9)
                · have p2' : ¬ (2 : Int) < (l.length : Int) := by omega
                  have hfe : c = ⟨k, readV s1, 0, (⟨#[]⟩ : ByteArray)⟩ := by
                    rw [hfc]
                    have e1 : fldE true l.length s1 = readV s1 := by unfold fldE; first | exact if_pos ⟨rfl, p1⟩ | exact if_neg (fun h => absurd h.1 (by decide)) | exact if_neg (fun h => by have := h.2; omega)
                    have e2 : fldS true l.length s2 = 0 := by unfold fldS; first | exact if_pos ⟨rfl, p2, p3⟩ | exact if_neg (fun h => absurd h.1 (by decide)) | exact if_neg (fun h => by have := h.2.1; omega) | exact if_neg (fun h => p3 h.2.2)
                    have e3 : fldD false l.length s2 = (⟨#[]⟩ : ByteArray) := by unfold fldD; first | exact if_pos ⟨rfl, p2⟩ | exact if_neg (fun h => absurd h.1 (by decide)) | exact if_neg (fun h => by have := h.2; omega)
                    rw [e1, e2, e3]
                  clear hfc
                  subst hfe
                  simp only at hPr hend
                  generalize prnS ⟨(k : Int), readV s1, 0, (⟨#[]⟩ : ByteArray)⟩ = t1 at *
                  generalize chkC ⟨(k : Int), readV s1, 0, (⟨#[]⟩ : ByteArray)⟩ = n1 at *
                  generalize linS ⟨(k : Int), readV s1, 0, (⟨#[]⟩ : ByteArray)⟩ = ln at *
                  have hPr := Lib.hid hPr
                  have hH := Lib.hid hH
                  have hG : n1 = 0 → (t1.toList == s.toList) = true → gd0 = true := fun e1 e4 => by
                    have e2 : t1 = s := ba_ext (eq_of_beq e4)
                    have e3 : t1 = ln := by rw [hprnx.out, if_pos e1]
                    rw [hgoodx.out]; exact decide_eq_true ⟨rfl, e1, e3 ▸ e2⟩
                  have hG1 : ¬ n1 = 0 → gd0 = false := fun e1 => by rw [hgoodx.out]; exact decide_eq_false (fun h => e1 h.2.1)
                  have hG2 : (t1.toList == s.toList) = false → gd0 = false := fun e4 => by
                    have e1 : ¬ t1 = s := fun h => beq_eq_false_iff_ne.1 e4 (by rw [h])
                    rw [hgoodx.out]
                    exact decide_eq_false (fun h => e1 (by rw [hprnx.out, if_pos h.2.1]; exact h.2.2))
                  have hG := Lib.hid hG
                  have hG1 := Lib.hid hG1
                  have hG2 := Lib.hid hG2
                  clear hgoodx hprnx
                  go_wp2_with fail
                  refine wp_region_held_drew (S := (fun w' : World => w'.cell? ⟨g, 0, none⟩ = some (.string nm))) (by kernel_rfl) ?_ (fun hHeld => ?_)
                  · first | exact M1 | exact M3
                  first | (refine tw (i := 0) (v := ?_) ?_ hHeld ?_; rotate_left; focus (intro w hSw; (try dsimp only at hSw); go_simp; (try with_reducible rfl); done)) | refine tn (i := 0) hHeld ?_
                  try simp only [Act.put, List.setIfInBounds_toArray, List.set_cons_zero, List.set_cons_succ]
                  first | (refine tw (i := 2) (v := ?_) ?_ hHeld ?_; rotate_left; focus (intro w hSw; (try dsimp only at hSw); go_simp; (try with_reducible rfl); done)) | refine tn (i := 2) hHeld ?_
                  try simp only [Act.put, List.setIfInBounds_toArray, List.set_cons_zero, List.set_cons_succ]
                  first | (refine tw (i := 3) (v := ?_) ?_ hHeld ?_; rotate_left; focus (intro w hSw; (try dsimp only at hSw); go_simp; (try with_reducible rfl); done)) | refine tn (i := 3) hHeld ?_
                  try simp only [Act.put, List.setIfInBounds_toArray, List.set_cons_zero, List.set_cons_succ]
                  first | (refine tw (i := 4) (v := ?_) ?_ hHeld ?_; rotate_left; focus (intro w hSw; (try dsimp only at hSw); go_simp; (try with_reducible rfl); done)) | refine tn (i := 4) hHeld ?_
                  try simp only [Act.put, List.setIfInBounds_toArray, List.set_cons_zero, List.set_cons_succ]
                  refine call_next (i := 1) (by kernel_rfl) (by rfl) ?_
                  intro o ho K hK
                  simp only [List.getElem?_toArray, List.getElem?_cons_succ, List.getElem?_cons_zero, Option.some.injEq] at ho
                  subst ho
                  first | (fail; refine hK.out _ _ ?_ (fun hHeld => ?_)) | (go_simp; first | (with_reducible refine hK.out _ _ ?_ (fun hHeld => ?_)) | ((go_at_call 21; (with_reducible refine (hO.out _).mono ?_); rintro e1 w3 ⟨rfl, hb2⟩; have hb3 := bt hbd hb2; have M3 := hcz.out _ hb3); refine hK.out _ _ ?_ (fun hHeld => ?_)))
                  · first | exact M1 | exact M3
                  clear hK K
                  try simp only [Act.put, List.setIfInBounds_toArray, List.set_cons_zero, List.set_cons_succ]
                  first | (refine tw (i := 5) (v := ?_) ?_ hHeld ?_; rotate_left; focus (intro w hSw; (try dsimp only at hSw); go_simp; (try with_reducible rfl); done)) | refine tn (i := 5) hHeld ?_
                  try simp only [Act.put, List.setIfInBounds_toArray, List.set_cons_zero, List.set_cons_succ]
                  refine wpAnyH_done (by kernel_rfl) ?_ _
                  go_wp2_with (first | (go_at_call 20; (with_reducible refine (hH.out _).mono ?_); rintro e1 w5 ⟨rfl, hb4⟩; have hA := alb w5 (.cells #[.bool true, .bool true, .bool false] 45); have hb5 := Lib.hid (bt (bt (bt hb3 (alb w3 (.cells #[.int .i64 k, .int .i64 0, .int .i64 0, .string ⟨#[]⟩] 23))) hb4) hA); have hc5 := Lib.hid ((HCmd.new w3 23 k 0 0 ⟨#[]⟩).below (bt hb4 hA)); have hf5 := Lib.hid ((FCmd.new w3 23 k 0 0 ⟨#[]⟩).below (HCmd.new w3 23 k 0 0 ⟨#[]⟩) (bt hb4 hA)); obtain ⟨m0, m1, m2, m3⟩ := hc5.out; obtain ⟨f0, f1, f2, f3⟩ := hf5.out; obtain ⟨v0, v1, v2⟩ := HHas.new w5 45 true true false; (try have z1 := hc1.out _ hb5.out p1); (try have z2 := hc2.out _ hb5.out p2); have hv5 := Lib.hid (HHas.new w5 45 true true false); have hB6 := Lib.hid hb3.size; have hneq := Lib.hid (show w5.heap.size ≠ w3.heap.size by have := hb4.size; simp at this; omega)) | (go_at_call 27; (with_reducible refine (hR.out _).mono ?_); rintro e1 wx ⟨rfl, rfl⟩; obtain ⟨x0, x1, x2⟩ := hv5.out.off hneq.out 1 (.int .i64 (readV s1)); obtain ⟨x3, x4, x5⟩ := (hv5.out.off hneq.out 1 (.int .i64 (readV s1))).off hneq.out 2 (.int .i64 1); (try have y2 := hc2.out _ (hb5.out.setCell (p := ⟨w3.heap.size, 1, none⟩) hB6.out (.int .i64 (readV s1))) p2)) | (go_at_call 14; (with_reducible refine (hU.out _).mono ?_); rintro e1 w6 ⟨rfl, hb6⟩; have hc6 := Lib.hid ((hc5.out.set1 (readV s1)).below hb6); have hf6 := (hf5.out.set 1 _).below (hc5.out.set1 (readV s1)) hb6; obtain ⟨n0, n1', n2, n3⟩ := hc6.out; obtain ⟨g0, g1, g2, g3⟩ := hf6; have hb7 := Lib.hid (bt (hb5.out.setCell (p := ⟨w3.heap.size, 1, none⟩) hB6.out (.int .i64 (readV s1))) hb6)) | (go_at_call 8; (with_reducible refine (hPr.out _).mono ?_); rintro e1 w7 ⟨rfl, hb8⟩; have hb9 := bt (hb5.out.setCell (p := ⟨w3.heap.size, 1, none⟩) hB6.out (.int .i64 (readV s1))) hb8; obtain ⟨o0, o1, o2, o3⟩ := (hc5.out.set1 (readV s1)).below hb8; obtain ⟨⟨r0, r1, r2, r3⟩, ⟨h0, h1, h2, h3⟩⟩ := hrA.out _ hb9))
                  all_goals first | exact ⟨hnext.out (hG2.out (by assumption)) _ hb9, by simp [intOf]; omega⟩ | exact ⟨hnext.out (hG1.out (by assumption)) _ hb9, by simp [intOf]; omega⟩ | (refine bodyPost_ret (v := .tuple #[.agg #[.int .i64 k, .int .i64 (readV s1), .int .i64 (0), .string ((⟨#[]⟩ : ByteArray))], .int .i64 0]) (by simp [results, Try.results12, go_sem, r0, r1, r2, r3]; try rfl) rfl ?_; exact hend.out (hG.out (by assumption) (by assumption)) _ _ _ _ _ hb9)
              · have p1' : ¬ (1 : Int) < (l.length : Int) := by omega
                have p2' : ¬ (2 : Int) < (l.length : Int) := by omega
                have hfe : c = ⟨k, 0, 0, (⟨#[]⟩ : ByteArray)⟩ := by
                  rw [hfc]
                  have e1 : fldE true l.length s1 = 0 := by unfold fldE; first | exact if_pos ⟨rfl, p1⟩ | exact if_neg (fun h => absurd h.1 (by decide)) | exact if_neg (fun h => by have := h.2; omega)
                  have e2 : fldS true l.length s2 = 0 := by unfold fldS; first | exact if_pos ⟨rfl, p2, p3⟩ | exact if_neg (fun h => absurd h.1 (by decide)) | exact if_neg (fun h => by have := h.2.1; omega) | exact if_neg (fun h => p3 h.2.2)
                  have e3 : fldD false l.length s2 = (⟨#[]⟩ : ByteArray) := by unfold fldD; first | exact if_pos ⟨rfl, p2⟩ | exact if_neg (fun h => absurd h.1 (by decide)) | exact if_neg (fun h => by have := h.2; omega)
                  rw [e1, e2, e3]
                clear hfc
                subst hfe
                simp only at hPr hend
                generalize prnS ⟨(k : Int), 0, 0, (⟨#[]⟩ : ByteArray)⟩ = t1 at *
                generalize chkC ⟨(k : Int), 0, 0, (⟨#[]⟩ : ByteArray)⟩ = n1 at *
                generalize linS ⟨(k : Int), 0, 0, (⟨#[]⟩ : ByteArray)⟩ = ln at *
                have hPr := Lib.hid hPr
                have hH := Lib.hid hH
                have hG : n1 = 0 → (t1.toList == s.toList) = true → gd0 = true := fun e1 e4 => by
                  have e2 : t1 = s := ba_ext (eq_of_beq e4)
                  have e3 : t1 = ln := by rw [hprnx.out, if_pos e1]
                  rw [hgoodx.out]; exact decide_eq_true ⟨rfl, e1, e3 ▸ e2⟩
                have hG1 : ¬ n1 = 0 → gd0 = false := fun e1 => by rw [hgoodx.out]; exact decide_eq_false (fun h => e1 h.2.1)
                have hG2 : (t1.toList == s.toList) = false → gd0 = false := fun e4 => by
                  have e1 : ¬ t1 = s := fun h => beq_eq_false_iff_ne.1 e4 (by rw [h])
                  rw [hgoodx.out]
                  exact decide_eq_false (fun h => e1 (by rw [hprnx.out, if_pos h.2.1]; exact h.2.2))
                have hG := Lib.hid hG
                have hG1 := Lib.hid hG1
                have hG2 := Lib.hid hG2
                clear hgoodx hprnx
                go_wp2_with fail
                refine wp_region_held_drew (S := (fun w' : World => w'.cell? ⟨g, 0, none⟩ = some (.string nm))) (by kernel_rfl) ?_ (fun hHeld => ?_)
                · first | exact M1 | exact M3
                first | (refine tw (i := 0) (v := ?_) ?_ hHeld ?_; rotate_left; focus (intro w hSw; (try dsimp only at hSw); go_simp; (try with_reducible rfl); done)) | refine tn (i := 0) hHeld ?_
                try simp only [Act.put, List.setIfInBounds_toArray, List.set_cons_zero, List.set_cons_succ]
                first | (refine tw (i := 2) (v := ?_) ?_ hHeld ?_; rotate_left; focus (intro w hSw; (try dsimp only at hSw); go_simp; (try with_reducible rfl); done)) | refine tn (i := 2) hHeld ?_
                try simp only [Act.put, List.setIfInBounds_toArray, List.set_cons_zero, List.set_cons_succ]
                first | (refine tw (i := 3) (v := ?_) ?_ hHeld ?_; rotate_left; focus (intro w hSw; (try dsimp only at hSw); go_simp; (try with_reducible rfl); done)) | refine tn (i := 3) hHeld ?_
                try simp only [Act.put, List.setIfInBounds_toArray, List.set_cons_zero, List.set_cons_succ]
                first | (refine tw (i := 4) (v := ?_) ?_ hHeld ?_; rotate_left; focus (intro w hSw; (try dsimp only at hSw); go_simp; (try with_reducible rfl); done)) | refine tn (i := 4) hHeld ?_
                try simp only [Act.put, List.setIfInBounds_toArray, List.set_cons_zero, List.set_cons_succ]
                refine call_next (i := 1) (by kernel_rfl) (by rfl) ?_
                intro o ho K hK
                simp only [List.getElem?_toArray, List.getElem?_cons_succ, List.getElem?_cons_zero, Option.some.injEq] at ho
                subst ho
                first | (fail; refine hK.out _ _ ?_ (fun hHeld => ?_)) | (go_simp; first | (with_reducible refine hK.out _ _ ?_ (fun hHeld => ?_)) | ((go_at_call 21; (with_reducible refine (hO.out _).mono ?_); rintro e1 w3 ⟨rfl, hb2⟩; have hb3 := bt hbd hb2; have M3 := hcz.out _ hb3); refine hK.out _ _ ?_ (fun hHeld => ?_)))
                · first | exact M1 | exact M3
                clear hK K
                try simp only [Act.put, List.setIfInBounds_toArray, List.set_cons_zero, List.set_cons_succ]
                first | (refine tw (i := 5) (v := ?_) ?_ hHeld ?_; rotate_left; focus (intro w hSw; (try dsimp only at hSw); go_simp; (try with_reducible rfl); done)) | refine tn (i := 5) hHeld ?_
                try simp only [Act.put, List.setIfInBounds_toArray, List.set_cons_zero, List.set_cons_succ]
                refine wpAnyH_done (by kernel_rfl) ?_ _
                go_wp2_with (first | (go_at_call 20; (with_reducible refine (hH.out _).mono ?_); rintro e1 w5 ⟨rfl, hb4⟩; have hA := alb w5 (.cells #[.bool true, .bool true, .bool false] 45); have hb5 := Lib.hid (bt (bt (bt hb3 (alb w3 (.cells #[.int .i64 k, .int .i64 0, .int .i64 0, .string ⟨#[]⟩] 23))) hb4) hA); have hc5 := Lib.hid ((HCmd.new w3 23 k 0 0 ⟨#[]⟩).below (bt hb4 hA)); have hf5 := Lib.hid ((FCmd.new w3 23 k 0 0 ⟨#[]⟩).below (HCmd.new w3 23 k 0 0 ⟨#[]⟩) (bt hb4 hA)); obtain ⟨m0, m1, m2, m3⟩ := hc5.out; obtain ⟨f0, f1, f2, f3⟩ := hf5.out; obtain ⟨v0, v1, v2⟩ := HHas.new w5 45 true true false; (try have z1 := hc1.out _ hb5.out p1); (try have z2 := hc2.out _ hb5.out p2); have hv5 := Lib.hid (HHas.new w5 45 true true false); have hB6 := Lib.hid hb3.size; have hneq := Lib.hid (show w5.heap.size ≠ w3.heap.size by have := hb4.size; simp at this; omega)) | (go_at_call 27; (with_reducible refine (hR.out _).mono ?_); rintro e1 wx ⟨rfl, rfl⟩; obtain ⟨x0, x1, x2⟩ := hv5.out.off hneq.out 1 (.int .i64 (readV s1)); obtain ⟨x3, x4, x5⟩ := (hv5.out.off hneq.out 1 (.int .i64 (readV s1))).off hneq.out 2 (.int .i64 1); (try have y2 := hc2.out _ (hb5.out.setCell (p := ⟨w3.heap.size, 1, none⟩) hB6.out (.int .i64 (readV s1))) p2)) | (go_at_call 14; (with_reducible refine (hU.out _).mono ?_); rintro e1 w6 ⟨rfl, hb6⟩; have hc6 := Lib.hid ((hc5.out.set1 (readV s1)).below hb6); have hf6 := (hf5.out.set 1 _).below (hc5.out.set1 (readV s1)) hb6; obtain ⟨n0, n1', n2, n3⟩ := hc6.out; obtain ⟨g0, g1, g2, g3⟩ := hf6; have hb7 := Lib.hid (bt (hb5.out.setCell (p := ⟨w3.heap.size, 1, none⟩) hB6.out (.int .i64 (readV s1))) hb6)) | (go_at_call 8; (with_reducible refine (hPr.out _).mono ?_); rintro e1 w7 ⟨rfl, hb8⟩; have hb9 := bt hb5.out hb8; obtain ⟨o0, o1, o2, o3⟩ := hc5.out.below hb8; obtain ⟨⟨r0, r1, r2, r3⟩, ⟨h0, h1, h2, h3⟩⟩ := hrA.out _ hb9))
                all_goals first | exact ⟨hnext.out (hG2.out (by assumption)) _ hb9, by simp [intOf]; omega⟩ | exact ⟨hnext.out (hG1.out (by assumption)) _ hb9, by simp [intOf]; omega⟩ | (refine bodyPost_ret (v := .tuple #[.agg #[.int .i64 k, .int .i64 (0), .int .i64 (0), .string ((⟨#[]⟩ : ByteArray))], .int .i64 0]) (by simp [results, Try.results12, go_sem, r0, r1, r2, r3]; try rfl) rfl ?_; exact hend.out (hG.out (by assumption) (by assumption)) _ _ _ _ _ hb9)
            · by_cases p1 : 1 < l.length
              · have p1' : (1 : Int) < (l.length : Int) := by omega
                by_cases p2 : 2 < l.length
                · have p2' : (2 : Int) < (l.length : Int) := by omega
                  have hfe : c = ⟨k, readV s1, 0, ubS s2⟩ := by
                    rw [hfc]
                    have e1 : fldE true l.length s1 = readV s1 := by unfold fldE; first | exact if_pos ⟨rfl, p1⟩ | exact if_neg (fun h => absurd h.1 (by decide)) | exact if_neg (fun h => by have := h.2; omega)
                    have e2 : fldS false l.length s2 = 0 := by unfold fldS; first | exact if_pos ⟨rfl, p2, p3⟩ | exact if_neg (fun h => absurd h.1 (by decide)) | exact if_neg (fun h => by have := h.2.1; omega) | exact if_neg (fun h => p3 h.2.2)
                    have e3 : fldD true l.length s2 = ubS s2 := by unfold fldD; first | exact if_pos ⟨rfl, p2⟩ | exact if_neg (fun h => absurd h.1 (by decide)) | exact if_neg (fun h => by have := h.2; omega)
                    rw [e1, e2, e3]
                  clear hfc
                  subst hfe
                  simp only at hPr hend
                  generalize prnS ⟨(k : Int), readV s1, 0, ubS s2⟩ = t1 at *
                  generalize chkC ⟨(k : Int), readV s1, 0, ubS s2⟩ = n1 at *
                  generalize linS ⟨(k : Int), readV s1, 0, ubS s2⟩ = ln at *
                  have hPr := Lib.hid hPr
                  have hH := Lib.hid hH
                  have hG : n1 = 0 → (t1.toList == s.toList) = true → gd0 = true := fun e1 e4 => by
                    have e2 : t1 = s := ba_ext (eq_of_beq e4)
                    have e3 : t1 = ln := by rw [hprnx.out, if_pos e1]
                    rw [hgoodx.out]; exact decide_eq_true ⟨rfl, e1, e3 ▸ e2⟩
                  have hG1 : ¬ n1 = 0 → gd0 = false := fun e1 => by rw [hgoodx.out]; exact decide_eq_false (fun h => e1 h.2.1)
                  have hG2 : (t1.toList == s.toList) = false → gd0 = false := fun e4 => by
                    have e1 : ¬ t1 = s := fun h => beq_eq_false_iff_ne.1 e4 (by rw [h])
                    rw [hgoodx.out]
                    exact decide_eq_false (fun h => e1 (by rw [hprnx.out, if_pos h.2.1]; exact h.2.2))
                  have hG := Lib.hid hG
                  have hG1 := Lib.hid hG1
                  have hG2 := Lib.hid hG2
                  clear hgoodx hprnx
                  go_wp2_with fail
                  refine wp_region_held_drew (S := (fun w' : World => w'.cell? ⟨g, 0, none⟩ = some (.string nm))) (by kernel_rfl) ?_ (fun hHeld => ?_)
                  · first | exact M1 | exact M3
                  first | (refine tw (i := 0) (v := ?_) ?_ hHeld ?_; rotate_left; focus (intro w hSw; (try dsimp only at hSw); go_simp; (try with_reducible rfl); done)) | refine tn (i := 0) hHeld ?_
                  try simp only [Act.put, List.setIfInBounds_toArray, List.set_cons_zero, List.set_cons_succ]
                  first | (refine tw (i := 2) (v := ?_) ?_ hHeld ?_; rotate_left; focus (intro w hSw; (try dsimp only at hSw); go_simp; (try with_reducible rfl); done)) | refine tn (i := 2) hHeld ?_
                  try simp only [Act.put, List.setIfInBounds_toArray, List.set_cons_zero, List.set_cons_succ]
                  first | (refine tw (i := 3) (v := ?_) ?_ hHeld ?_; rotate_left; focus (intro w hSw; (try dsimp only at hSw); go_simp; (try with_reducible rfl); done)) | refine tn (i := 3) hHeld ?_
                  try simp only [Act.put, List.setIfInBounds_toArray, List.set_cons_zero, List.set_cons_succ]
                  first | (refine tw (i := 4) (v := ?_) ?_ hHeld ?_; rotate_left; focus (intro w hSw; (try dsimp only at hSw); go_simp; (try with_reducible rfl); done)) | refine tn (i := 4) hHeld ?_
                  try simp only [Act.put, List.setIfInBounds_toArray, List.set_cons_zero, List.set_cons_succ]
                  refine call_next (i := 1) (by kernel_rfl) (by rfl) ?_
                  intro o ho K hK
                  simp only [List.getElem?_toArray, List.getElem?_cons_succ, List.getElem?_cons_zero, Option.some.injEq] at ho
                  subst ho
                  first | (fail; refine hK.out _ _ ?_ (fun hHeld => ?_)) | (go_simp; first | (with_reducible refine hK.out _ _ ?_ (fun hHeld => ?_)) | ((go_at_call 21; (with_reducible refine (hO.out _).mono ?_); rintro e1 w3 ⟨rfl, hb2⟩; have hb3 := bt hbd hb2; have M3 := hcz.out _ hb3); refine hK.out _ _ ?_ (fun hHeld => ?_)))
                  · first | exact M1 | exact M3
                  clear hK K
                  try simp only [Act.put, List.setIfInBounds_toArray, List.set_cons_zero, List.set_cons_succ]
                  first | (refine tw (i := 5) (v := ?_) ?_ hHeld ?_; rotate_left; focus (intro w hSw; (try dsimp only at hSw); go_simp; (try with_reducible rfl); done)) | refine tn (i := 5) hHeld ?_
                  try simp only [Act.put, List.setIfInBounds_toArray, List.set_cons_zero, List.set_cons_succ]
                  refine wpAnyH_done (by kernel_rfl) ?_ _
                  go_wp2_with (first | (go_at_call 20; (with_reducible refine (hH.out _).mono ?_); rintro e1 w5 ⟨rfl, hb4⟩; have hA := alb w5 (.cells #[.bool true, .bool false, .bool true] 45); have hb5 := Lib.hid (bt (bt (bt hb3 (alb w3 (.cells #[.int .i64 k, .int .i64 0, .int .i64 0, .string ⟨#[]⟩] 23))) hb4) hA); have hc5 := Lib.hid ((HCmd.new w3 23 k 0 0 ⟨#[]⟩).below (bt hb4 hA)); have hf5 := Lib.hid ((FCmd.new w3 23 k 0 0 ⟨#[]⟩).below (HCmd.new w3 23 k 0 0 ⟨#[]⟩) (bt hb4 hA)); obtain ⟨m0, m1, m2, m3⟩ := hc5.out; obtain ⟨f0, f1, f2, f3⟩ := hf5.out; obtain ⟨v0, v1, v2⟩ := HHas.new w5 45 true false true; (try have z1 := hc1.out _ hb5.out p1); (try have z2 := hc2.out _ hb5.out p2); have hv5 := Lib.hid (HHas.new w5 45 true false true); have hB6 := Lib.hid hb3.size; have hneq := Lib.hid (show w5.heap.size ≠ w3.heap.size by have := hb4.size; simp at this; omega)) | (go_at_call 27; (with_reducible refine (hR.out _).mono ?_); rintro e1 wx ⟨rfl, rfl⟩; obtain ⟨x0, x1, x2⟩ := hv5.out.off hneq.out 1 (.int .i64 (readV s1)); obtain ⟨x3, x4, x5⟩ := (hv5.out.off hneq.out 1 (.int .i64 (readV s1))).off hneq.out 2 (.int .i64 1); (try have y2 := hc2.out _ (hb5.out.setCell (p := ⟨w3.heap.size, 1, none⟩) hB6.out (.int .i64 (readV s1))) p2)) | (go_at_call 14; (with_reducible refine (hU.out _).mono ?_); rintro e1 w6 ⟨rfl, hb6⟩; have hc6 := Lib.hid ((hc5.out.set1 (readV s1)).below hb6); have hf6 := (hf5.out.set 1 _).below (hc5.out.set1 (readV s1)) hb6; obtain ⟨n0, n1', n2, n3⟩ := hc6.out; obtain ⟨g0, g1, g2, g3⟩ := hf6; have hb7 := Lib.hid (bt (hb5.out.setCell (p := ⟨w3.heap.size, 1, none⟩) hB6.out (.int .i64 (readV s1))) hb6)) | (go_at_call 8; (with_reducible refine (hPr.out _).mono ?_); rintro e1 w7 ⟨rfl, hb8⟩; have hb9 := bt (hb7.out.setCell (p := ⟨w3.heap.size, 3, none⟩) hB6.out (.string (ubS s2))) hb8; obtain ⟨o0, o1, o2, o3⟩ := (hc6.out.set3 (ubS s2)).below hb8; obtain ⟨⟨r0, r1, r2, r3⟩, ⟨h0, h1, h2, h3⟩⟩ := hrA.out _ hb9))
                  all_goals first | exact ⟨hnext.out (hG2.out (by assumption)) _ hb9, by simp [intOf]; omega⟩ | exact ⟨hnext.out (hG1.out (by assumption)) _ hb9, by simp [intOf]; omega⟩ | (refine bodyPost_ret (v := .tuple #[.agg #[.int .i64 k, .int .i64 (readV s1), .int .i64 (0), .string (ubS s2)], .int .i64 0]) (by simp [results, Try.results12, go_sem, r0, r1, r2, r3]; try rfl) rfl ?_; exact hend.out (hG.out (by assumption) (by assumption)) _ _ _ _ _ hb9)
                · have p2' : ¬ (2 : Int) < (l.length : Int) := by omega
                  have hfe : c = ⟨k, readV s1, 0, (⟨#[]⟩ : ByteArray)⟩ := by
                    rw [hfc]
                    have e1 : fldE true l.length s1 = readV s1 := by unfold fldE; first | exact if_pos ⟨rfl, p1⟩ | exact if_neg (fun h => absurd h.1 (by decide)) | exact if_neg (fun h => by have := h.2; omega)
                    have e2 : fldS false l.length s2 = 0 := by unfold fldS; first | exact if_pos ⟨rfl, p2, p3⟩ | exact if_neg (fun h => absurd h.1 (by decide)) | exact if_neg (fun h => by have := h.2.1; omega) | exact if_neg (fun h => p3 h.2.2)
                    have e3 : fldD true l.length s2 = (⟨#[]⟩ : ByteArray) := by unfold fldD; first | exact if_pos ⟨rfl, p2⟩ | exact if_neg (fun h => absurd h.1 (by decide)) | exact if_neg (fun h => by have := h.2; omega)
                    rw [e1, e2, e3]
                  clear hfc
                  subst hfe
                  simp only at hPr hend
                  generalize prnS ⟨(k : Int), readV s1, 0, (⟨#[]⟩ : ByteArray)⟩ = t1 at *
                  generalize chkC ⟨(k : Int), readV s1, 0, (⟨#[]⟩ : ByteArray)⟩ = n1 at *
                  generalize linS ⟨(k : Int), readV s1, 0, (⟨#[]⟩ : ByteArray)⟩ = ln at *
                  have hPr := Lib.hid hPr
                  have hH := Lib.hid hH
                  have hG : n1 = 0 → (t1.toList == s.toList) = true → gd0 = true := fun e1 e4 => by
                    have e2 : t1 = s := ba_ext (eq_of_beq e4)
                    have e3 : t1 = ln := by rw [hprnx.out, if_pos e1]
                    rw [hgoodx.out]; exact decide_eq_true ⟨rfl, e1, e3 ▸ e2⟩
                  have hG1 : ¬ n1 = 0 → gd0 = false := fun e1 => by rw [hgoodx.out]; exact decide_eq_false (fun h => e1 h.2.1)
                  have hG2 : (t1.toList == s.toList) = false → gd0 = false := fun e4 => by
                    have e1 : ¬ t1 = s := fun h => beq_eq_false_iff_ne.1 e4 (by rw [h])
                    rw [hgoodx.out]
                    exact decide_eq_false (fun h => e1 (by rw [hprnx.out, if_pos h.2.1]; exact h.2.2))
                  have hG := Lib.hid hG
                  have hG1 := Lib.hid hG1
                  have hG2 := Lib.hid hG2
                  clear hgoodx hprnx
                  go_wp2_with fail
                  refine wp_region_held_drew (S := (fun w' : World => w'.cell? ⟨g, 0, none⟩ = some (.string nm))) (by kernel_rfl) ?_ (fun hHeld => ?_)
                  · first | exact M1 | exact M3
                  first | (refine tw (i := 0) (v := ?_) ?_ hHeld ?_; rotate_left; focus (intro w hSw; (try dsimp only at hSw); go_simp; (try with_reducible rfl); done)) | refine tn (i := 0) hHeld ?_
                  try simp only [Act.put, List.setIfInBounds_toArray, List.set_cons_zero, List.set_cons_succ]
                  first | (refine tw (i := 2) (v := ?_) ?_ hHeld ?_; rotate_left; focus (intro w hSw; (try dsimp only at hSw); go_simp; (try with_reducible rfl); done)) | refine tn (i := 2) hHeld ?_
                  try simp only [Act.put, List.setIfInBounds_toArray, List.set_cons_zero, List.set_cons_succ]
                  first | (refine tw (i := 3) (v := ?_) ?_ hHeld ?_; rotate_left; focus (intro w hSw; (try dsimp only at hSw); go_simp; (try with_reducible rfl); done)) | refine tn (i := 3) hHeld ?_
                  try simp only [Act.put, List.setIfInBounds_toArray, List.set_cons_zero, List.set_cons_succ]
                  first | (refine tw (i := 4) (v := ?_) ?_ hHeld ?_; rotate_left; focus (intro w hSw; (try dsimp only at hSw); go_simp; (try with_reducible rfl); done)) | refine tn (i := 4) hHeld ?_
                  try simp only [Act.put, List.setIfInBounds_toArray, List.set_cons_zero, List.set_cons_succ]
                  refine call_next (i := 1) (by kernel_rfl) (by rfl) ?_
                  intro o ho K hK
                  simp only [List.getElem?_toArray, List.getElem?_cons_succ, List.getElem?_cons_zero, Option.some.injEq] at ho
                  subst ho
                  first | (fail; refine hK.out _ _ ?_ (fun hHeld => ?_)) | (go_simp; first | (with_reducible refine hK.out _ _ ?_ (fun hHeld => ?_)) | ((go_at_call 21; (with_reducible refine (hO.out _).mono ?_); rintro e1 w3 ⟨rfl, hb2⟩; have hb3 := bt hbd hb2; have M3 := hcz.out _ hb3); refine hK.out _ _ ?_ (fun hHeld => ?_)))
                  · first | exact M1 | exact M3
                  clear hK K
                  try simp only [Act.put, List.setIfInBounds_toArray, List.set_cons_zero, List.set_cons_succ]
                  first | (refine tw (i := 5) (v := ?_) ?_ hHeld ?_; rotate_left; focus (intro w hSw; (try dsimp only at hSw); go_simp; (try with_reducible rfl); done)) | refine tn (i := 5) hHeld ?_
                  try simp only [Act.put, List.setIfInBounds_toArray, List.set_cons_zero, List.set_cons_succ]
                  refine wpAnyH_done (by kernel_rfl) ?_ _
                  go_wp2_with (first | (go_at_call 20; (with_reducible refine (hH.out _).mono ?_); rintro e1 w5 ⟨rfl, hb4⟩; have hA := alb w5 (.cells #[.bool true, .bool false, .bool true] 45); have hb5 := Lib.hid (bt (bt (bt hb3 (alb w3 (.cells #[.int .i64 k, .int .i64 0, .int .i64 0, .string ⟨#[]⟩] 23))) hb4) hA); have hc5 := Lib.hid ((HCmd.new w3 23 k 0 0 ⟨#[]⟩).below (bt hb4 hA)); have hf5 := Lib.hid ((FCmd.new w3 23 k 0 0 ⟨#[]⟩).below (HCmd.new w3 23 k 0 0 ⟨#[]⟩) (bt hb4 hA)); obtain ⟨m0, m1, m2, m3⟩ := hc5.out; obtain ⟨f0, f1, f2, f3⟩ := hf5.out; obtain ⟨v0, v1, v2⟩ := HHas.new w5 45 true false true; (try have z1 := hc1.out _ hb5.out p1); (try have z2 := hc2.out _ hb5.out p2); have hv5 := Lib.hid (HHas.new w5 45 true false true); have hB6 := Lib.hid hb3.size; have hneq := Lib.hid (show w5.heap.size ≠ w3.heap.size by have := hb4.size; simp at this; omega)) | (go_at_call 27; (with_reducible refine (hR.out _).mono ?_); rintro e1 wx ⟨rfl, rfl⟩; obtain ⟨x0, x1, x2⟩ := hv5.out.off hneq.out 1 (.int .i64 (readV s1)); obtain ⟨x3, x4, x5⟩ := (hv5.out.off hneq.out 1 (.int .i64 (readV s1))).off hneq.out 2 (.int .i64 1); (try have y2 := hc2.out _ (hb5.out.setCell (p := ⟨w3.heap.size, 1, none⟩) hB6.out (.int .i64 (readV s1))) p2)) | (go_at_call 14; (with_reducible refine (hU.out _).mono ?_); rintro e1 w6 ⟨rfl, hb6⟩; have hc6 := Lib.hid ((hc5.out.set1 (readV s1)).below hb6); have hf6 := (hf5.out.set 1 _).below (hc5.out.set1 (readV s1)) hb6; obtain ⟨n0, n1', n2, n3⟩ := hc6.out; obtain ⟨g0, g1, g2, g3⟩ := hf6; have hb7 := Lib.hid (bt (hb5.out.setCell (p := ⟨w3.heap.size, 1, none⟩) hB6.out (.int .i64 (readV s1))) hb6)) | (go_at_call 8; (with_reducible refine (hPr.out _).mono ?_); rintro e1 w7 ⟨rfl, hb8⟩; have hb9 := bt (hb5.out.setCell (p := ⟨w3.heap.size, 1, none⟩) hB6.out (.int .i64 (readV s1))) hb8; obtain ⟨o0, o1, o2, o3⟩ := (hc5.out.set1 (readV s1)).below hb8; obtain ⟨⟨r0, r1, r2, r3⟩, ⟨h0, h1, h2, h3⟩⟩ := hrA.out _ hb9))
                  all_goals first | exact ⟨hnext.out (hG2.out (by assumption)) _ hb9, by simp [intOf]; omega⟩ | exact ⟨hnext.out (hG1.out (by assumption)) _ hb9, by simp [intOf]; omega⟩ | (refine bodyPost_ret (v := .tuple #[.agg #[.int .i64 k, .int .i64 (readV s1), .int .i64 (0), .string ((⟨#[]⟩ : ByteArray))], .int .i64 0]) (by simp [results, Try.results12, go_sem, r0, r1, r2, r3]; try rfl) rfl ?_; exact hend.out (hG.out (by assumption) (by assumption)) _ _ _ _ _ hb9)
              · have p1' : ¬ (1 : Int) < (l.length : Int) := by omega
                have p2' : ¬ (2 : Int) < (l.length : Int) := by omega
                have hfe : c = ⟨k, 0, 0, (⟨#[]⟩ : ByteArray)⟩ := by
                  rw [hfc]
                  have e1 : fldE true l.length s1 = 0 := by unfold fldE; first | exact if_pos ⟨rfl, p1⟩ | exact if_neg (fun h => absurd h.1 (by decide)) | exact if_neg (fun h => by have := h.2; omega)
                  have e2 : fldS false l.length s2 = 0 := by unfold fldS; first | exact if_pos ⟨rfl, p2, p3⟩ | exact if_neg (fun h => absurd h.1 (by decide)) | exact if_neg (fun h => by have := h.2.1; omega) | exact if_neg (fun h => p3 h.2.2)
                  have e3 : fldD true l.length s2 = (⟨#[]⟩ : ByteArray) := by unfold fldD; first | exact if_pos ⟨rfl, p2⟩ | exact if_neg (fun h => absurd h.1 (by decide)) | exact if_neg (fun h => by have := h.2; omega)
                  rw [e1, e2, e3]
                clear hfc
                subst hfe
                simp only at hPr hend
                generalize prnS ⟨(k : Int), 0, 0, (⟨#[]⟩ : ByteArray)⟩ = t1 at *
                generalize chkC ⟨(k : Int), 0, 0, (⟨#[]⟩ : ByteArray)⟩ = n1 at *
                generalize linS ⟨(k : Int), 0, 0, (⟨#[]⟩ : ByteArray)⟩ = ln at *
                have hPr := Lib.hid hPr
                have hH := Lib.hid hH
                have hG : n1 = 0 → (t1.toList == s.toList) = true → gd0 = true := fun e1 e4 => by
                  have e2 : t1 = s := ba_ext (eq_of_beq e4)
                  have e3 : t1 = ln := by rw [hprnx.out, if_pos e1]
                  rw [hgoodx.out]; exact decide_eq_true ⟨rfl, e1, e3 ▸ e2⟩
                have hG1 : ¬ n1 = 0 → gd0 = false := fun e1 => by rw [hgoodx.out]; exact decide_eq_false (fun h => e1 h.2.1)
                have hG2 : (t1.toList == s.toList) = false → gd0 = false := fun e4 => by
                  have e1 : ¬ t1 = s := fun h => beq_eq_false_iff_ne.1 e4 (by rw [h])
                  rw [hgoodx.out]
                  exact decide_eq_false (fun h => e1 (by rw [hprnx.out, if_pos h.2.1]; exact h.2.2))
                have hG := Lib.hid hG
                have hG1 := Lib.hid hG1
                have hG2 := Lib.hid hG2
                clear hgoodx hprnx
                go_wp2_with fail
                refine wp_region_held_drew (S := (fun w' : World => w'.cell? ⟨g, 0, none⟩ = some (.string nm))) (by kernel_rfl) ?_ (fun hHeld => ?_)
                · first | exact M1 | exact M3
                first | (refine tw (i := 0) (v := ?_) ?_ hHeld ?_; rotate_left; focus (intro w hSw; (try dsimp only at hSw); go_simp; (try with_reducible rfl); done)) | refine tn (i := 0) hHeld ?_
                try simp only [Act.put, List.setIfInBounds_toArray, List.set_cons_zero, List.set_cons_succ]
                first | (refine tw (i := 2) (v := ?_) ?_ hHeld ?_; rotate_left; focus (intro w hSw; (try dsimp only at hSw); go_simp; (try with_reducible rfl); done)) | refine tn (i := 2) hHeld ?_
                try simp only [Act.put, List.setIfInBounds_toArray, List.set_cons_zero, List.set_cons_succ]
                first | (refine tw (i := 3) (v := ?_) ?_ hHeld ?_; rotate_left; focus (intro w hSw; (try dsimp only at hSw); go_simp; (try with_reducible rfl); done)) | refine tn (i := 3) hHeld ?_
                try simp only [Act.put, List.setIfInBounds_toArray, List.set_cons_zero, List.set_cons_succ]
                first | (refine tw (i := 4) (v := ?_) ?_ hHeld ?_; rotate_left; focus (intro w hSw; (try dsimp only at hSw); go_simp; (try with_reducible rfl); done)) | refine tn (i := 4) hHeld ?_
                try simp only [Act.put, List.setIfInBounds_toArray, List.set_cons_zero, List.set_cons_succ]
                refine call_next (i := 1) (by kernel_rfl) (by rfl) ?_
                intro o ho K hK
                simp only [List.getElem?_toArray, List.getElem?_cons_succ, List.getElem?_cons_zero, Option.some.injEq] at ho
                subst ho
                first | (fail; refine hK.out _ _ ?_ (fun hHeld => ?_)) | (go_simp; first | (with_reducible refine hK.out _ _ ?_ (fun hHeld => ?_)) | ((go_at_call 21; (with_reducible refine (hO.out _).mono ?_); rintro e1 w3 ⟨rfl, hb2⟩; have hb3 := bt hbd hb2; have M3 := hcz.out _ hb3); refine hK.out _ _ ?_ (fun hHeld => ?_)))
                · first | exact M1 | exact M3
                clear hK K
                try simp only [Act.put, List.setIfInBounds_toArray, List.set_cons_zero, List.set_cons_succ]
                first | (refine tw (i := 5) (v := ?_) ?_ hHeld ?_; rotate_left; focus (intro w hSw; (try dsimp only at hSw); go_simp; (try with_reducible rfl); done)) | refine tn (i := 5) hHeld ?_
                try simp only [Act.put, List.setIfInBounds_toArray, List.set_cons_zero, List.set_cons_succ]
                refine wpAnyH_done (by kernel_rfl) ?_ _
                go_wp2_with (first | (go_at_call 20; (with_reducible refine (hH.out _).mono ?_); rintro e1 w5 ⟨rfl, hb4⟩; have hA := alb w5 (.cells #[.bool true, .bool false, .bool true] 45); have hb5 := Lib.hid (bt (bt (bt hb3 (alb w3 (.cells #[.int .i64 k, .int .i64 0, .int .i64 0, .string ⟨#[]⟩] 23))) hb4) hA); have hc5 := Lib.hid ((HCmd.new w3 23 k 0 0 ⟨#[]⟩).below (bt hb4 hA)); have hf5 := Lib.hid ((FCmd.new w3 23 k 0 0 ⟨#[]⟩).below (HCmd.new w3 23 k 0 0 ⟨#[]⟩) (bt hb4 hA)); obtain ⟨m0, m1, m2, m3⟩ := hc5.out; obtain ⟨f0, f1, f2, f3⟩ := hf5.out; obtain ⟨v0, v1, v2⟩ := HHas.new w5 45 true false true; (try have z1 := hc1.out _ hb5.out p1); (try have z2 := hc2.out _ hb5.out p2); have hv5 := Lib.hid (HHas.new w5 45 true false true); have hB6 := Lib.hid hb3.size; have hneq := Lib.hid (show w5.heap.size ≠ w3.heap.size by have := hb4.size; simp at this; omega)) | (go_at_call 27; (with_reducible refine (hR.out _).mono ?_); rintro e1 wx ⟨rfl, rfl⟩; obtain ⟨x0, x1, x2⟩ := hv5.out.off hneq.out 1 (.int .i64 (readV s1)); obtain ⟨x3, x4, x5⟩ := (hv5.out.off hneq.out 1 (.int .i64 (readV s1))).off hneq.out 2 (.int .i64 1); (try have y2 := hc2.out _ (hb5.out.setCell (p := ⟨w3.heap.size, 1, none⟩) hB6.out (.int .i64 (readV s1))) p2)) | (go_at_call 14; (with_reducible refine (hU.out _).mono ?_); rintro e1 w6 ⟨rfl, hb6⟩; have hc6 := Lib.hid ((hc5.out.set1 (readV s1)).below hb6); have hf6 := (hf5.out.set 1 _).below (hc5.out.set1 (readV s1)) hb6; obtain ⟨n0, n1', n2, n3⟩ := hc6.out; obtain ⟨g0, g1, g2, g3⟩ := hf6; have hb7 := Lib.hid (bt (hb5.out.setCell (p := ⟨w3.heap.size, 1, none⟩) hB6.out (.int .i64 (readV s1))) hb6)) | (go_at_call 8; (with_reducible refine (hPr.out _).mono ?_); rintro e1 w7 ⟨rfl, hb8⟩; have hb9 := bt hb5.out hb8; obtain ⟨o0, o1, o2, o3⟩ := hc5.out.below hb8; obtain ⟨⟨r0, r1, r2, r3⟩, ⟨h0, h1, h2, h3⟩⟩ := hrA.out _ hb9))
                all_goals first | exact ⟨hnext.out (hG2.out (by assumption)) _ hb9, by simp [intOf]; omega⟩ | exact ⟨hnext.out (hG1.out (by assumption)) _ hb9, by simp [intOf]; omega⟩ | (refine bodyPost_ret (v := .tuple #[.agg #[.int .i64 k, .int .i64 (0), .int .i64 (0), .string ((⟨#[]⟩ : ByteArray))], .int .i64 0]) (by simp [results, Try.results12, go_sem, r0, r1, r2, r3]; try rfl) rfl ?_; exact hend.out (hG.out (by assumption) (by assumption)) _ _ _ _ _ hb9)
          · have hg0 : gd0 = false := by rw [hgoodx.out]; exact decide_eq_false (fun h => hn h.1)
            have hq2 : (nm.toList == s0.toList) = false := beq_eq_false_iff_ne.2 (fun h => hn (ba_ext h))
            have hg0 := Lib.hid hg0
            clear hPr hH hfc
            go_wp2_with fail
            refine wp_region_held_drew (S := (fun w' : World => w'.cell? ⟨g, 0, none⟩ = some (.string s0))) (by kernel_rfl) ?_ (fun hHeld => ?_)
            · first | exact M1 | exact M3
            first | (refine tw (i := 0) (v := ?_) ?_ hHeld ?_; rotate_left; focus (intro w hSw; (try dsimp only at hSw); go_simp; (try with_reducible rfl); done)) | refine tn (i := 0) hHeld ?_
            try simp only [Act.put, List.setIfInBounds_toArray, List.set_cons_zero, List.set_cons_succ]
            first | (refine tw (i := 2) (v := ?_) ?_ hHeld ?_; rotate_left; focus (intro w hSw; (try dsimp only at hSw); go_simp; (try with_reducible rfl); done)) | refine tn (i := 2) hHeld ?_
            try simp only [Act.put, List.setIfInBounds_toArray, List.set_cons_zero, List.set_cons_succ]
            first | (refine tw (i := 3) (v := ?_) ?_ hHeld ?_; rotate_left; focus (intro w hSw; (try dsimp only at hSw); go_simp; (try with_reducible rfl); done)) | refine tn (i := 3) hHeld ?_
            try simp only [Act.put, List.setIfInBounds_toArray, List.set_cons_zero, List.set_cons_succ]
            first | (refine tw (i := 4) (v := ?_) ?_ hHeld ?_; rotate_left; focus (intro w hSw; (try dsimp only at hSw); go_simp; (try with_reducible rfl); done)) | refine tn (i := 4) hHeld ?_
            try simp only [Act.put, List.setIfInBounds_toArray, List.set_cons_zero, List.set_cons_succ]
            refine call_next (i := 1) (by kernel_rfl) (by rfl) ?_
            intro o ho K hK
            simp only [List.getElem?_toArray, List.getElem?_cons_succ, List.getElem?_cons_zero, Option.some.injEq] at ho
            subst ho
            first | (fail; refine hK.out _ _ ?_ (fun hHeld => ?_)) | (go_simp; first | (with_reducible refine hK.out _ _ ?_ (fun hHeld => ?_)) | ((go_at_call 21; (with_reducible refine (hO.out _).mono ?_); rintro e1 w3 ⟨rfl, hb2⟩; have hb3 := bt hbd hb2; have M3 := hcz.out _ hb3); refine hK.out _ _ ?_ (fun hHeld => ?_)))
            · first | exact M1 | exact M3
            clear hK K
            try simp only [Act.put, List.setIfInBounds_toArray, List.set_cons_zero, List.set_cons_succ]
            first | (refine tw (i := 5) (v := ?_) ?_ hHeld ?_; rotate_left; focus (intro w hSw; (try dsimp only at hSw); go_simp; (try with_reducible rfl); done)) | refine tn (i := 5) hHeld ?_
            try simp only [Act.put, List.setIfInBounds_toArray, List.set_cons_zero, List.set_cons_succ]
            refine wpAnyH_done (by kernel_rfl) ?_ _
            go_wp2
            exact ⟨hnext.out hg0.out _ hb3, by simp [intOf]; omega⟩
        · have hk11' : k = 11 := by omega
          have hp : (noC, (70 : Int)) = prs s := by rw [hprs.out, hpk, hk11']; rfl
          have hp := Lib.hid hp
          have hend := fun W a1 a2 a3 a4 (h : Below w1.heap.size w1 W) => ((((bt hb0 h).setCell (p := ⟨w.heap.size, 0, none⟩) (Nat.le_refl _) a1).setCell (p := ⟨w.heap.size, 1, none⟩) (Nat.le_refl _) a2).setCell (p := ⟨w.heap.size, 2, none⟩) (Nat.le_refl _) a3).setCell (p := ⟨w.heap.size, 3, none⟩) (Nat.le_refl _) a4
          have hend := Lib.hid hend
          have hkk : ¬ (k : Int) ≤ 10 := by omega
          obtain ⟨⟨r0, r1, r2, r3⟩, ⟨f0, f1, f2, f3⟩⟩ : HCmd wr w.heap.size 0 0 0 ⟨#[]⟩ ∧ FCmd wr w.heap.size := ⟨hresx.out.1.below hbk, hresx.out.2.below hresx.out.1 hbk⟩
          have hbk := Lib.hid hbk
          clear hpk
          go_wp2
          refine bodyPost_ret (v := .tuple #[.agg #[.int .i64 0, .int .i64 0, .int .i64 0, .string ⟨#[]⟩], .int .i64 70]) (by simp [results, Try.results12, go_sem, r0, r1, r2, r3]) rfl ?_
          exact hfin.out noC 70 _ hp.out (hend.out _ _ _ _ _ hbk.out)
end Go.Proofs.Ytkcnpahnhmcegaa
