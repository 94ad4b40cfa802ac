/-
  The parts that a text says (chapter 41): the reference's Parse.
-/
import Derived.Test.YtlmmmibnnbceeaaDoorWr6
namespace Go.Proofs.YtlmmmibnnbceeaaDoor
open Go.RowKit
set_option linter.unusedVariables false
set_option linter.unusedSimpArgs false
set_option maxRecDepth 20000

theorem words_prn {s : ByteArray} {m : List I3} (h0 : m ≠ []) (h1 : ∀ x ∈ m, okP x) (e : s = prn m) : wordsL s = m.map wdS := by
  rw [e]
  exact (prn_cuts h0 fun x hx => okP_i64 (h1 x hx)).2
theorem rpa_last {s x : ByteArray} (hx : x ∈ wordsL s) (h : gd x (x.size - 1) = 45) : PA s [] 4 := by
  refine .inr ⟨rfl, rfl, fun m h0 h1 e => ?_⟩
  rw [words_prn h0 h1 e] at hx
  obtain ⟨y, hy, rfl⟩ := List.mem_map.1 hx
  rw [(wd_last y).1] at h
  split at h <;> cases h
theorem rpa_bad {s x : ByteArray} (hx : x ∈ wordsL s) (h : (rptR x).2 = false) : PA s [] 4 := by
  refine .inr ⟨rfl, rfl, fun m h0 h1 e => ?_⟩
  rw [words_prn h0 h1 e] at hx
  obtain ⟨y, hy, rfl⟩ := List.mem_map.1 hx
  rw [rpt_word (h1 y hy)] at h
  cases h
theorem rpt_map {m : List I3} (h1 : ∀ x ∈ m, okP x) : (m.map wdS).map (fun x => (rptR x).1) = m := by
  induction m with
  | nil => rfl
  | cons y m ih =>
    rw [List.map_cons, List.map_cons, rpt_word (h1 y (by simp)), ih fun x hx => h1 x (by simp [hx])]
theorem rpa_end {s : ByteArray} {l : List I3} (hl : l = (wordsL s).map (fun x => (rptR x).1)) (h : l = [] ∨ prn l ≠ s) : PA s [] 4 := by
  refine .inr ⟨rfl, rfl, fun m h0 h1 e => ?_⟩
  rw [words_prn h0 h1 e, rpt_map h1] at hl
  subst hl
  rcases h with h | h
  · exact h0 h
  · exact h e.symm
theorem rpa_good {s : ByteArray} {l : List I3} (h0 : l ≠ []) (h1 : ∀ x ∈ l, okP x) (h : prn l = s) : PA s l 0 := .inl ⟨h0, h1, h.symm, rfl⟩
def RPRel (w : World) (ws : List ByteArray) (vo vi : Value) (wr : World) : Prop := ∃ (k : Nat) (l : List I3), k ≤ ws.length ∧ vi = .int .i64 k ∧ Hid ((∀ x ∈ l, okP x) ∧ l = (ws.take k).map (fun x => (rptR x).1)) ∧ Hid (FPt.Row wr w.heap.size vo l) ∧ Hid (Below w.heap.size w wr)
set_option maxHeartbeats 6400000 in
theorem rparse_any (s : ByteArray) (w : World) (hs : s.size ≤ 1900) : Calls Tryd.prog 7 #[.string s] w (QE s w) := by
  have hE : ∀ W v l er, PA s l er → FPt.X W v l → Below w.heap.size w W → QE s w (.returned (.tuple #[v, .int .i64 er])) W := fun W v l er h1 h2 h3 => ⟨v, l, er, rfl, h1, h2, h3⟩
  have hlast := fun x (hx : x ∈ wordsL s) h => rpa_last hx h
  have hbad := fun x (hx : x ∈ wordsL s) h => rpa_bad hx h
  have hend := fun l hl h => rpa_end (s := s) (l := l) hl h
  have hare := words_are s
  have hln := words_len s
  have hWd := fun W => rwords_any s W (by omega)
  generalize QE s w = Pst at *
  replace hE := Lib.hid hE
  generalize wordsL s = ws at *
  replace hlast := Lib.hid hlast
  replace hbad := Lib.hid hbad
  replace hend := Lib.hid hend
  replace hare := Lib.hid hare
  replace hWd := Lib.hid hWd
  go_enter Tryd.func7, Tryd.ntmps7
  go_wp2_with (go_at_call 17; (with_reducible refine (hWd.out _).mono ?_); rintro e1 w1 ⟨⟨vs, rfl, hS⟩, hA⟩; replace hS := Lib.hid hS.tx; have hb1 := Lib.hid hA; clear hA)
  obtain ⟨sa, sc, rfl⟩ := hS.out.len
  go_loopw [5, 6] (fun vo vi wr => RPRel w1 ws vo vi wr) (fun _ vi _ => ws.length - (intOf vi).toNat)
  case atStart => exact ⟨0, [], Nat.zero_le _, rfl, ⟨fun x hx => by simp at hx, rfl⟩, Fl.Row.nil FPt _ _, Below.refl _ _⟩
  case round =>
    obtain ⟨k, l, hk, rfl, hl, hR, hB⟩ := hrel
    by_cases hlt : k < ws.length
    · have hd2 : decide ((k : Int) < (ws.length : Int)) = true := decide_eq_true (by omega)
      have hd3 : decide (k < ws.length) = true := decide_eq_true hlt
      obtain ⟨x, hx⟩ : ∃ x, ws[k]? = some x := ⟨_, List.getElem?_eq_getElem hlt⟩
      obtain ⟨g, o, rfl, p0⟩ : ∃ g o, sa = some ⟨g, o, none⟩ ∧ w1.cell? ⟨g, o + k, none⟩ = some (.string x) := by
        rcases hS.out with ⟨e, e2⟩ | ⟨g, o, c2, e, _, _, hc⟩
        · subst e2; simp at hlt
        · injection e with e1 e2 e3
          refine ⟨g, o, e1, ?_⟩
          have := hc k hlt
          rwa [show ws[k] = x from (List.getElem?_eq_some_iff.1 hx).2] at this
      have p0 := bkeep hB.out p0
      have hxm := List.mem_of_getElem? hx
      obtain ⟨hxw, hxz⟩ := hare.out x hxm
      obtain ⟨q, hq⟩ : ∃ q, x.size - 1 = q := ⟨_, rfl⟩
      have hx0 := hxw.1
      have hqs : q < x.size := by omega
      have hgq := gd_eq hqs
      have iw : IntKind.i64.wrap ((x.size : Int) - 1) = (q : Int) := by rw [IntWalk.i64_in _ (by omega)]; omega
      have i1 : (0 : Int) ≤ (k : Int) := by omega
      have i2 : (k : Int) < (ws.length : Int) := by omega
      have i3 : (0 : Int) ≤ (q : Int) := by omega
      have i4 : (q : Int) < (x.size : Int) := by omega
      have htk : ws.take (k + 1) = ws.take k ++ [x] := by rw [List.take_add_one, hx]; rfl
      have hll : l.length ≤ ws.length := by
        have := congrArg List.length hl.out.2
        rw [List.length_map, List.length_take] at this
        omega
      by_cases h45 : gd x q = 45
      · have e1 : ((gd x q : Int) == 45) = true := by rw [h45]; rfl
        have hpa := Lib.hid (hlast.out x hxm (by rw [hq]; exact h45))
        have hfin := Lib.hid (fun n => bdraws hB.out n)
        clear hx hxm hxw h45 htk
        go_wp2
        go_quiet (fail)
        go_wp2
        exact hE.out _ _ [] _ hpa.out ⟨none, 0, rfl, fun h => absurd rfl h⟩ (bt hb1.out (hfin.out _))
      · have e1 : ((gd x q : Int) == 45) = false := by rw [beq_eq_false_iff_ne]; omega
        have hpt := fun W => rpart_any x W (by omega) (by rw [hq]; exact h45)
        have hok := rpt_ok (s := x)
        have hbd := hbad.out x hxm
        unfold RPE ptV at hpt
        generalize hrr : rptR x = r at *
        obtain ⟨y, b⟩ := r
        simp only at hpt hok hbd
        replace hpt := Lib.hid hpt
        obtain ⟨va, vc, rfl⟩ := hR.out.any
        have hfin := Lib.hid (fun n => bdraws hB.out n)
        have hRn := Lib.hid (fun n => hR.out.below (bdraws0 wr n))
        have pn := Lib.hid (fun n => bkeep (bdraws0 wr n) p0)
        clear hx hxm hxw h45
        cases b with
        | true =>
          have hy := hok rfl
          have hl2 : Hid ((∀ z ∈ l ++ [y], okP z) ∧ l ++ [y] = (ws.take (k + 1)).map (fun x => (rptR x).1)) := by
            refine ⟨fun z hz => ?_, ?_⟩
            · rcases List.mem_append.1 hz with hz | hz
              · exact hl.out.1 z hz
              · simp at hz
                subst hz; exact hy
            · rw [htk, List.map_append, ← hl.out.2, List.map_cons, List.map_nil, hrr]
          clear hok hbd htk hy hrr
          go_wp2
          go_quiet (fail)
          have hB2 := hfin
          replace hB2 := Lib.hid (hfin.out nq)
          replace hR := Lib.hid (hRn.out nq)
          have p0 := pn.out nq
          clear hfin hRn pn
          generalize wr.drewN nq = wq at *
          go_upto_region 11 with (go_at_call 18; (with_reducible refine (hpt.out _).mono ?_); rintro e2 w2 ⟨rfl, hA⟩; have hz := bt hA (alb w2 (.cells #[.int .i64 y.1, .int .i64 y.2.1, .int .i64 y.2.2] 42)); replace hR := Lib.hid (hR.out.below hz); replace hB2 := Lib.hid (bt hB2.out hz); have hbx := HP.new w2 42 y; clear hA hz)
          generalize w2.alloc (.cells #[.int .i64 y.1, .int .i64 y.2.1, .int .i64 y.2.2] 42) = w3 at *
          obtain ⟨x0, x1, x2⟩ := hbx
          have hlt2 := (hR.out.below (alb w3 (.cells #[.int .i64 y.1, .int .i64 y.2.1, .int .i64 y.2.2] 42))).lt
          replace hlt2 := Lib.hid hlt2
          go_wp2_with (at_builtin; refine Fl.wpl_app FPt rfl (.tmp 39) (.tmp 41) _ w1.heap.size _ _ l [y] rfl rfl (hR.out.below (alb _ _)) (Fl.X.lit FPt _ [y] #[.int .i64 y.1, .int .i64 y.2.1, .int .i64 y.2.2] 1 1 rfl rfl) (by simp; omega) (bt hB2.out (alb _ _)).size ?_ rfl rfl; intro v6 w6 h6 h7 _; replace hR := Lib.hid h6; replace h7 := Lib.hid h7)
          have hB6 := h7.out.after (bt hB2.out (alb w3 (.cells #[.int .i64 y.1, .int .i64 y.2.1, .int .i64 y.2.2] 42))) (bt hB2.out (alb _ _)).size fun q hq e => Nat.lt_irrefl _ (Nat.lt_of_lt_of_le hq (hlt2.out q e.symm).1)
          exact ⟨⟨k + 1, l ++ [y], by omega, by go_num, hl2, hR, hB6⟩, by simp [intOf]; omega⟩
        | false =>
          have hpa := Lib.hid (hbd rfl)
          clear hok hbd htk hrr
          go_wp2
          go_quiet (fail)
          have hB2 := hfin
          replace hB2 := Lib.hid (hfin.out nq)
          have p0 := pn.out nq
          clear hfin hRn pn
          generalize wr.drewN nq = wq at *
          go_wp2_with (go_at_call 18; (with_reducible refine (hpt.out _).mono ?_); rintro e2 w2 ⟨rfl, hA⟩; have hz := bt hA (alb w2 (.cells #[.int .i64 y.1, .int .i64 y.2.1, .int .i64 y.2.2] 42)); replace hB2 := Lib.hid (bt hB2.out hz); clear hA hz)
          exact hE.out _ _ [] _ hpa.out ⟨none, 0, rfl, fun h => absurd rfl h⟩ (bt hb1.out hB2.out)
    · have hd2 : decide ((k : Int) < (ws.length : Int)) = false := decide_eq_false (by omega)
      have hd3 : decide (k < ws.length) = false := decide_eq_false hlt
      have hl2 := hl.out
      rw [List.take_of_length_le (by omega)] at hl2
      have hrw := hR.out.x
      obtain ⟨pa, pc, rfl, hAt⟩ := pt_at hrw
      have hll : l.length ≤ 2000 := by
        have := congrArg List.length hl2.2
        rw [List.length_map] at this
        omega
      have hPr := Lib.hid (rprint_any pa pc l wr hAt (fun x hx => okP_i64 (hl2.1 x hx)) hll)
      by_cases h0 : l = []
      · have z1 : ((l.length : Int) == 0) = true := by rw [h0]; rfl
        have hpa := Lib.hid (hend.out l hl2.2 (.inl h0))
        clear hl2 h0
        go_wp2
        exact hE.out _ _ [] _ hpa.out ⟨none, 0, rfl, fun h => absurd rfl h⟩ (bt hb1.out hB.out)
      · have z1 : ((l.length : Int) == 0) = false := by rw [beq_eq_false_iff_ne]; have := List.length_pos_iff.2 h0; omega
        by_cases hps : prn l = s
        · have hpa := Lib.hid (rpa_good h0 hl2.1 hps)
          have z2 : ((prn l).toList != s.toList) = false := by rw [hps]; simp [bne]
          have z3 : ((prn l).toList == s.toList) = true := by rw [hps]; simp
          clear hl2 h0 hps
          go_wp2_with (go_at_call 10; (with_reducible refine hPr.out.mono ?_); rintro e9 w9 ⟨rfl, hA⟩; have hX9 := Lib.hid (hrw.below hA); have hB9 := Lib.hid (bt hB.out hA); clear hA)
          exact hE.out _ _ l _ hpa.out hX9.out (bt hb1.out hB9.out)
        · have hpa := Lib.hid (hend.out l hl2.2 (.inr hps))
          have z3 : ((prn l).toList == s.toList) = false := beq_eq_false_iff_ne.2 (fun h => hps (ba_ext h))
          have z2 : ((prn l).toList != s.toList) = true := by rw [bne, z3]; rfl
          clear hl2 h0 hps
          go_wp2_with (go_at_call 10; (with_reducible refine hPr.out.mono ?_); rintro e9 w9 ⟨rfl, hA⟩; have hB9 := Lib.hid (bt hB.out hA); clear hA)
          exact hE.out _ _ [] _ hpa.out ⟨none, 0, rfl, fun h => absurd rfl h⟩ (bt hb1.out hB9.out)
end Go.Proofs.YtlmmmibnnbceeaaDoor
