/-
  Commands (chapter 33): parsed.
-/
import Derived.Test.YtkcnpahnhmcegaaConFields
import Derived.BigRegion
namespace Go.Proofs.Ytkcnpahnhmcegaa
open Go.RowKit
set_option linter.unusedVariables false
set_option linter.unusedSimpArgs false

theorem fields_of (k : Int) (hk : inK k = true) (g cap : Nat) (l : List ByteArray) (w : World) (h0 : l ≠ []) (hcap : l.length ≤ cap) (hn : l.length ≤ 1000000) (hc : ∀ j, j < l.length → w.cell? ⟨g, j, none⟩ = some (.string (l.getD j emS))) (hs : ∀ t ∈ l, t.size ≤ 1000000) :
    Calls Try.prog 25 #[.agg #[.string (nameK k), .bool (hE k), .bool (hS k), .bool (hB k)], .int .i64 k, .slice (some ⟨g, 0, none⟩) l.length cap] w fun e1 w' => e1 = .returned (cmdV (fieldsC k l)) ∧ Below w.heap.size w w' := by
  have hsz : ∀ j, (l.getD j emS).size ≤ 1000000 := fun j => by
    rw [List.getD_eq_getElem?_getD]
    by_cases h : j < l.length
    · rw [List.getElem?_eq_getElem h]; exact hs _ (List.getElem_mem h)
    · rw [List.getElem?_eq_none (by omega)]; decide
  exact fields33 (nameK k) _ _ _ k g l.length cap (l.getD 1 emS) (l.getD 2 emS) w (kind_combo hk) hcap hn (hc 1) (hc 2) (hsz 1) (hsz 2)
def PRel (s : ByteArray) (l : List ByteArray) (W1 : World) (kv : Value) (wr : World) : Prop := ∃ k : Nat, 1 ≤ k ∧ k ≤ 11 ∧ kv = .int .i64 k ∧ prsF s l 1 10 = prsF s l k (11 - k) ∧ Below W1.heap.size W1 wr
theorem prsF_no (s : ByteArray) (l : List ByteArray) (k : Nat) (hk : k ≤ 10) (h : goodK s l (k : Int) = false) : prsF s l k (11 - k) = prsF s l (k + 1) (11 - (k + 1)) := by
  rw [show 11 - k = (10 - k) + 1 by omega, show 11 - (k + 1) = 10 - k by omega]
  show (if goodK s l (k : Int) then _ else prsF s l (k + 1) (10 - k)) = _
  rw [h]; rfl
theorem prsF_yes (s : ByteArray) (l : List ByteArray) (k : Nat) (hk : k ≤ 10) (h : goodK s l (k : Int) = true) : prsF s l k (11 - k) = (fieldsC (k : Int) l, 0) := by
  rw [show 11 - k = (10 - k) + 1 by omega]
  show (if goodK s l (k : Int) then _ else prsF s l (k + 1) (10 - k)) = _
  rw [if_pos h]
set_option maxRecDepth 20000 in
set_option maxHeartbeats 6400000 in
theorem parse_any33 (s : ByteArray) (w : World) (hs : s.size ≤ 3000) : Calls Try.prog 11 #[.string s] w fun e w' => e = .returned (.tuple #[cmdV (prs s).1, .int .i64 (prs s).2]) ∧ Below w.heap.size w w' := by
  have hfin : ∀ (c : Cmd) (n : Int) W, (c, n) = prs s → Below w.heap.size w W → (fun e w' => e = Ending.returned (.tuple #[cmdV (prs s).1, .int .i64 (prs s).2]) ∧ Below w.heap.size w w') (.returned (.tuple #[.agg #[.int .i64 c.k, .int .i64 c.e, .int .i64 c.sd, .string c.d], .int .i64 n])) W := by
    intro c n W h hb
    rw [← h]
    exact ⟨rfl, hb⟩
  generalize (fun e w' => e = Ending.returned (.tuple #[cmdV (prs s).1, .int .i64 (prs s).2]) ∧ Below w.heap.size w w') = Pst at *
  have hfin := Lib.hid hfin
  have hzz : ∀ w, (zeroValue 23).run Try.prog w = .ok (.agg #[.int .i64 0, .int .i64 0, .int .i64 0, .string ⟨#[]⟩]) w := fun _ => by kernel_rfl
  by_cases hbig : 600 < s.size
  · have hp : (noC, (11 : Int)) = prs s := by unfold prs; rw [if_pos hbig]
    have hp := Lib.hid hp
    go_enter Try.func11, Try.ntmps11
    go_wp2
    go_returns
    exact hfin.out noC 11 _ hp.out (alb _ _)
  · have hW := Lib.hid (fun w => words_any s w (by omega))
    go_enter Try.func11, Try.ntmps11
    go_wp2_with (go_at_call 24; (with_reducible refine (hW.out _).mono ?_); rintro e1 w1 ⟨⟨v, rfl, hS⟩, hb1⟩)
    have hb0 := bt (alb w _) hb1
    have hres : HCmd w1 w.heap.size 0 0 0 ⟨#[]⟩ ∧ FCmd w1 w.heap.size := by
      have h1 := HCmd.new w 23 0 0 0 ⟨#[]⟩
      have h2 : FCmd (w.alloc (.cells #[.int .i64 0, .int .i64 0, .int .i64 0, .string ⟨#[]⟩] 23)) w.heap.size := by constructor <;> simp [go_sem]
      exact ⟨h1.below hb1, h2.below h1 hb1⟩
    have hlw := words_are s
    have hll := words_len s
    have hprs : prs s = if (wordsL s).length = 0 then (noC, 70) else prsF s (wordsL s) 1 10 := by unfold prs; rw [if_neg hbig]
    generalize wordsL s = l at *
    by_cases h0 : l = []
    · subst h0
      have hp : (noC, (70 : Int)) = prs s := by rw [hprs]; rfl
      have hp := Lib.hid hp
      have hend := fun a1 a2 a3 a4 => (((hb0.setCell (p := ⟨w.heap.size, 0, none⟩) (Nat.le_refl _) a1).setCell (p := ⟨w.heap.size, 1, none⟩) (Nat.le_refl _) a2).setCell (p := ⟨w.heap.size, 2, none⟩) (Nat.le_refl _) a3).setCell (p := ⟨w.heap.size, 3, none⟩) (Nat.le_refl _) a4
      have hend := Lib.hid hend
      obtain ⟨⟨r0, r1, r2, r3⟩, ⟨f0, f1, f2, f3⟩⟩ := hres
      have hv : ∃ a cap, v = .slice a 0 cap := by
        rcases hS.2 with ⟨h, _⟩ | ⟨g, cap, cur, h, _⟩
        · exact ⟨none, 0, h⟩
        · exact ⟨_, cap, h⟩
      obtain ⟨av, cv, rfl⟩ := hv
      clear hS hW hprs hlw hll
      refine wp_loop_rounds 1 ?_
      rw [rounds_succ]; go_wp2
      refine bodyPost_ret (v := .tuple #[.agg #[.int .i64 0, .int .i64 0, .int .i64 0, .string ⟨#[]⟩], .int .i64 70]) (by simp [results, Try.results11, go_sem, r0, r1, r2, r3]) rfl ?_
      exact hfin.out noC 70 _ hp.out (hend.out _ _ _ _)
    · obtain ⟨g, cap, rfl, hcap, hcell0⟩ := hS.get h0
      have hcell : ∀ j, j < l.length → w1.cell? ⟨g, j, none⟩ = some (.string (l.getD j emS)) := fun j hj => by rw [hcell0 j hj, List.getD_eq_getElem?_getD, List.getElem?_eq_getElem hj]; rfl
      clear hcell0
      have hn0 : 0 < l.length := List.length_pos_iff.2 h0
      rw [if_neg (by omega)] at hprs
      have hprs := Lib.hid hprs
      have hF := Lib.hid (fun k hk w hc => fields_of k hk g cap l w h0 hcap (by omega) hc (fun t ht => by have := (hlw t ht).2; omega))
      have hstart : PRel s l w1 (.int .i64 1) w1 := ⟨1, by omega, by omega, rfl, rfl, Below.refl _ _⟩
      have hcellx := Lib.hid hcell
      have hresx := Lib.hid hres
      clear hS hW hlw hb1 hcell hres
      go_loopw [5] (fun kv wr => PRel s l w1 kv wr) (fun kv _ => 12 - (intOf kv).toNat)
      case atStart => exact hstart
      case round =>
        obtain ⟨k, hk1, hk11, rfl, hpk, hbk⟩ := hrel
        clear hstart
        by_cases hk : k ≤ 10
        · have hO := of_any (k : Int)
          have hin : inK (k : Int) = true := decide_eq_true ⟨by omega, by omega⟩
          have hFk := hF.out (k : Int) hin
          rw [hin] at hO
          unfold shV at hO
          have hPr := print_any33 (fieldsC (k : Int) l)
          have hgood : goodK s l (k : Int) = decide (nameK (k : Int) = l.getD 0 emS ∧ chkC (fieldsC (k : Int) l) = 0 ∧ linS (fieldsC (k : Int) l) = s) := rfl
          have hno := prsF_no s l k hk
          have hyes := prsF_yes s l k hk
          have hprn : prnS (fieldsC (k : Int) l) = if chkC (fieldsC (k : Int) l) = 0 then linS (fieldsC (k : Int) l) else emS := rfl
          have hcz : ∀ W, Below w1.heap.size w1 W → W.cell? ⟨g, 0, none⟩ = some (.string (l.getD 0 emS)) := fun W hb => bkeep hb (hcellx.out 0 hn0)
          have hcA : ∀ W, Below w1.heap.size w1 W → ∀ j, j < l.length → W.cell? ⟨g, j, none⟩ = some (.string (l.getD j emS)) := fun W hb j hj => bkeep hb (hcellx.out j hj)
          have hrA : ∀ W, Below w1.heap.size w1 W → HCmd W w.heap.size 0 0 0 ⟨#[]⟩ ∧ FCmd W w.heap.size := fun W hb => ⟨hresx.out.1.below hb, hresx.out.2.below hresx.out.1 hb⟩
          have hnext : prsF s l 1 10 = prsF s l (k + 1) (11 - (k + 1)) → ∀ W, Below w1.heap.size w1 W → PRel s l w1 (.int .i64 ((k : Int) + 1)) W := fun h W hb => ⟨k + 1, by omega, by omega, by go_num, h, hb⟩
          have hend : ∀ (c : Cmd), fieldsC (k : Int) l = c → goodK s l (k : Int) = true → ∀ W a1 a2 a3 a4, Below w1.heap.size w1 W → Pst (.returned (.tuple #[.agg #[.int .i64 c.k, .int .i64 c.e, .int .i64 c.sd, .string c.d], .int .i64 0])) ((((W.setCell ⟨w.heap.size, 0, none⟩ a1).setCell ⟨w.heap.size, 1, none⟩ a2).setCell ⟨w.heap.size, 2, none⟩ a3).setCell ⟨w.heap.size, 3, none⟩ a4) := by
            intro c hc hg W a1 a2 a3 a4 hb
            refine hfin.out c 0 _ ?_ ?_
            · rw [hprs.out, hpk, hyes hg, hc]
            · exact ((((bt hb0 hb).setCell (p := ⟨w.heap.size, 0, none⟩) (Nat.le_refl _) _).setCell (p := ⟨w.heap.size, 1, none⟩) (Nat.le_refl _) _).setCell (p := ⟨w.heap.size, 2, none⟩) (Nat.le_refl _) _).setCell (p := ⟨w.heap.size, 3, none⟩) (Nat.le_refl _) _
          have hendc := hend _ rfl
          have hnextc := fun hg => hnext (hpk.trans (hno hg))
          clear hend hnext hpk hno hyes hF
          generalize l.getD 0 emS = s0 at *
          generalize nameK (k : Int) = nm at *
          generalize hE (k : Int) = a at *
          generalize Ytkcnpahnhmcegaa.hS (k : Int) = b at *
          generalize hB (k : Int) = d0 at *
          generalize fieldsC (k : Int) l = c at *
          generalize goodK s l (k : Int) = gd0 at *
          obtain ⟨ck, ce, csd, cd⟩ := c
          unfold cmdV at hFk hPr
          simp only at hFk hPr hendc
          have hend := Lib.hid hendc
          have hnext := Lib.hid hnextc
          have hcz := Lib.hid hcz
          have hcA := Lib.hid hcA
          have hrA := Lib.hid hrA
          have hO := Lib.hid hO
          have hFk := Lib.hid hFk
          have hPr := Lib.hid hPr
          have hbk := Lib.hid hbk
          have hkk : (k : Int) ≤ 10 := by omega
          have hn0' : (0 : Int) < (l.length : Int) := by omega
          have hgoodx := Lib.hid hgood
          have hprnx := Lib.hid hprn
          clear hgood hprn hendc hnextc
          by_cases hn : nm = s0
          · subst hn
            have hX : (∀ W, Below w1.heap.size w1 W → Below w1.heap.size w1 W.drew) := fun W h => h.drew
            have hX := Lib.hid hX
            generalize prnS ⟨ck, ce, csd, cd⟩ = t1 at *
            generalize chkC ⟨ck, ce, csd, cd⟩ = n1 at *
            generalize linS ⟨ck, ce, csd, cd⟩ = ln at *
            by_cases hn1 : n1 = 0
            · subst hn1
              have ht1 : t1 = ln := hprnx.out
              subst ht1
              by_cases hls : t1 = s
              · subst hls
                have hg0 : gd0 = true := by rw [hgoodx.out]; exact decide_eq_true ⟨rfl, rfl, rfl⟩
                have hg0 := Lib.hid hg0
                go_wp2_with (go_at_call 17; (with_reducible refine (hO.out _).mono ?_); rintro e1 w2 ⟨rfl, hb2⟩; have hb3 := Lib.hid (bt (bt hbk.out hb2) (alb w2 (.cells #[.string nm, .bool a, .bool b, .bool d0] 37))); have z0 := hcz.out _ hb3.out; obtain ⟨q0, q1, q2, q3⟩ := HShp.new w2 37 nm a b d0)
                go_region
                go_wp2_with (first | (go_at_call 25; (with_reducible refine (hFk.out _ (hcA.out _ (hX.out _ hb3.out))).mono ?_); rintro e1 w5 ⟨rfl, hb4⟩; have hb5 := Lib.hid (bt (hX.out _ hb3.out) hb4); have hb6 := alb w5 (.cells #[.int .i64 ck, .int .i64 ce, .int .i64 csd, .string cd] 23); obtain ⟨m0, m1, m2, m3⟩ := HCmd.new w5 23 ck ce csd cd) | (go_at_call 7; (with_reducible refine (hPr.out _).mono ?_); rintro e1 w7 ⟨rfl, hb7⟩; obtain ⟨o0, o1, o2, o3⟩ := (HCmd.new w5 23 ck ce csd cd).below hb7; obtain ⟨⟨r0, r1, r2, r3⟩, ⟨f0, f1, f2, f3⟩⟩ := hrA.out _ (bt (bt hb5.out hb6) hb7)))
                refine bodyPost_ret (v := .tuple #[.agg #[.int .i64 ck, .int .i64 ce, .int .i64 csd, .string cd], .int .i64 0]) (by simp [results, Try.results11, go_sem, r0, r1, r2, r3]) rfl ?_
                exact hend.out hg0.out _ _ _ _ _ (bt (bt hb5.out hb6) hb7)
              · have hg0 : gd0 = false := by rw [hgoodx.out]; exact decide_eq_false (fun h => hls h.2.2)
                have hg0 := Lib.hid hg0
                have hq2 : (t1.toList == s.toList) = false := beq_eq_false_iff_ne.2 (fun h => hls (ba_ext h))
                go_wp2_with (go_at_call 17; (with_reducible refine (hO.out _).mono ?_); rintro e1 w2 ⟨rfl, hb2⟩; have hb3 := Lib.hid (bt (bt hbk.out hb2) (alb w2 (.cells #[.string nm, .bool a, .bool b, .bool d0] 37))); have z0 := hcz.out _ hb3.out; obtain ⟨q0, q1, q2, q3⟩ := HShp.new w2 37 nm a b d0)
                go_region
                go_wp2_with (first | (go_at_call 25; (with_reducible refine (hFk.out _ (hcA.out _ (hX.out _ hb3.out))).mono ?_); rintro e1 w5 ⟨rfl, hb4⟩; have hb5 := Lib.hid (bt (hX.out _ hb3.out) hb4); have hb6 := alb w5 (.cells #[.int .i64 ck, .int .i64 ce, .int .i64 csd, .string cd] 23); obtain ⟨m0, m1, m2, m3⟩ := HCmd.new w5 23 ck ce csd cd) | (go_at_call 7; (with_reducible refine (hPr.out _).mono ?_); rintro e1 w7 ⟨rfl, hb7⟩; obtain ⟨o0, o1, o2, o3⟩ := (HCmd.new w5 23 ck ce csd cd).below hb7; obtain ⟨⟨r0, r1, r2, r3⟩, ⟨f0, f1, f2, f3⟩⟩ := hrA.out _ (bt (bt hb5.out hb6) hb7)))
                exact ⟨hnext.out hg0.out _ (bt (bt hb5.out hb6) hb7), by simp [intOf]; omega⟩
            · have hg0 : gd0 = false := by rw [hgoodx.out]; exact decide_eq_false (fun h => hn1 h.2.1)
              have hg0 := Lib.hid hg0
              have hq3 : (n1 == 0) = false := beq_eq_false_iff_ne.2 hn1
              go_wp2_with (go_at_call 17; (with_reducible refine (hO.out _).mono ?_); rintro e1 w2 ⟨rfl, hb2⟩; have hb3 := Lib.hid (bt (bt hbk.out hb2) (alb w2 (.cells #[.string nm, .bool a, .bool b, .bool d0] 37))); have z0 := hcz.out _ hb3.out; obtain ⟨q0, q1, q2, q3⟩ := HShp.new w2 37 nm a b d0)
              go_region
              go_wp2_with (first | (go_at_call 25; (with_reducible refine (hFk.out _ (hcA.out _ (hX.out _ hb3.out))).mono ?_); rintro e1 w5 ⟨rfl, hb4⟩; have hb5 := Lib.hid (bt (hX.out _ hb3.out) hb4); have hb6 := alb w5 (.cells #[.int .i64 ck, .int .i64 ce, .int .i64 csd, .string cd] 23); obtain ⟨m0, m1, m2, m3⟩ := HCmd.new w5 23 ck ce csd cd) | (go_at_call 7; (with_reducible refine (hPr.out _).mono ?_); rintro e1 w7 ⟨rfl, hb7⟩; obtain ⟨o0, o1, o2, o3⟩ := (HCmd.new w5 23 ck ce csd cd).below hb7; obtain ⟨⟨r0, r1, r2, r3⟩, ⟨f0, f1, f2, f3⟩⟩ := hrA.out _ (bt (bt hb5.out hb6) hb7)))
              exact ⟨hnext.out hg0.out _ (bt (bt hb5.out hb6) hb7), by simp [intOf]; omega⟩
          · have hg0 : gd0 = false := by rw [hgoodx.out]; exact decide_eq_false (fun h => hn h.1)
            have hq2 : (nm.toList == s0.toList) = false := beq_eq_false_iff_ne.2 (fun h => hn (ba_ext h))
            have hg0 := Lib.hid hg0
            go_wp2_with (go_at_call 17; (with_reducible refine (hO.out _).mono ?_); rintro e1 w2 ⟨rfl, hb2⟩; have hb3 := Lib.hid (bt (bt hbk.out hb2) (alb w2 (.cells #[.string nm, .bool a, .bool b, .bool d0] 37))); have z0 := hcz.out _ hb3.out; obtain ⟨q0, q1, q2, q3⟩ := HShp.new w2 37 nm a b d0)
            go_region
            go_wp2
            exact ⟨hnext.out hg0.out _ (hb3.out).drew, by simp [intOf]; omega⟩
        · have hk11' : k = 11 := by omega
          have hp : (noC, (70 : Int)) = prs s := by rw [hprs.out, hpk, hk11']; rfl
          have hp := Lib.hid hp
          have hend := fun W a1 a2 a3 a4 (h : Below w1.heap.size w1 W) => ((((bt hb0 h).setCell (p := ⟨w.heap.size, 0, none⟩) (Nat.le_refl _) a1).setCell (p := ⟨w.heap.size, 1, none⟩) (Nat.le_refl _) a2).setCell (p := ⟨w.heap.size, 2, none⟩) (Nat.le_refl _) a3).setCell (p := ⟨w.heap.size, 3, none⟩) (Nat.le_refl _) a4
          have hend := Lib.hid hend
          have hkk : ¬ (k : Int) ≤ 10 := by omega
          obtain ⟨⟨r0, r1, r2, r3⟩, ⟨f0, f1, f2, f3⟩⟩ : HCmd wr w.heap.size 0 0 0 ⟨#[]⟩ ∧ FCmd wr w.heap.size := ⟨hresx.out.1.below hbk, hresx.out.2.below hresx.out.1 hbk⟩
          have hbk := Lib.hid hbk
          clear hF hpk
          go_wp2
          refine bodyPost_ret (v := .tuple #[.agg #[.int .i64 0, .int .i64 0, .int .i64 0, .string ⟨#[]⟩], .int .i64 70]) (by simp [results, Try.results11, go_sem, r0, r1, r2, r3]) rfl ?_
          exact hfin.out noC 70 _ hp.out (hend.out _ _ _ _ _ hbk.out)
end Go.Proofs.Ytkcnpahnhmcegaa
