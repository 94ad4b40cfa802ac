/-
  The parts that a text says (chapter 41): the program's Parse.
-/
import Derived.Test.YtlmmmibnnbceeaaDoorWr5
namespace Go.Proofs.YtlmmmibnnbceeaaDoor
open Go.RowKit
set_option linter.unusedVariables false
set_option linter.unusedSimpArgs false
set_option maxRecDepth 20000

def FPt : Fl I3 where
  T := 42
  Ts := 22
  k := 3
  bytes := 24
  zero := .agg #[.int .i64 0, .int .i64 0, .int .i64 0]
  fl := fun x => [.int .i64 x.1, .int .i64 x.2.1, .int .i64 x.2.2]
  len _ := rfl
  one x u hu := by
    simp at hu
    rcases hu with rfl | rfl | rfl <;> rfl
  pos := by decide
  small := by decide
  under := Tryd.underlying22
  info := by kernel_rfl
  zlen := rfl
theorem pt_at {w : World} {v : Value} {l : List I3} (h : FPt.X w v l) : ∃ a c, v = .slice a l.length c ∧ P3At w a l := by
  obtain ⟨a, c, e, hc⟩ := h
  subst e
  refine ⟨a, c, rfl, fun k x hk => ?_⟩
  have hx : FPt.X w (.slice a l.length c) l := ⟨a, c, rfl, hc⟩
  obtain ⟨g, o, e, h1⟩ := hx.get k x hk
  exact ⟨g, o, e, h1 0 _ rfl, h1 1 _ rfl, h1 2 _ rfl⟩
theorem split_any (s : ByteArray) (w : World) (hs : s.size ≤ 100000) (hm : MLn w) :
    Calls Tryd.prog 15 #[.string s, .string ⟨#[32]⟩] w fun e w' => e = .returned (.slice (some ⟨w.heap.size, 0, none⟩) (cuts s).length (cuts s).length) ∧ (∀ (j : Nat) x, (cuts s)[j]? = some x → w'.cell? ⟨w.heap.size, j, none⟩ = some (.string x)) ∧ Below w.heap.size w w' := by
  obtain ⟨m, hm⟩ := hm
  have hS := Tryd.strings_Split s spB m w (by omega) hm (by decide)
  rw [split_eq, countB_len] at hS
  refine hS.mono ?_
  rintro e w' ⟨h1, rfl⟩
  refine ⟨h1, fun j x hx => ?_, alb w _⟩
  obtain ⟨h2, h3⟩ := List.getElem?_eq_some_iff.1 hx
  subst h3
  simp [go_sem, h2]
theorem cuts_size (s : ByteArray) : ∀ x ∈ cuts s, x.size ≤ s.size := by
  have key : ∀ s : List UInt8, ∀ x ∈ cutsL s, x.length ≤ s.length := by
    refine cuts_ind ?_ ?_
    · intro x hx y hy
      rw [cutsL_no hx] at hy
      simp at hy
      subst hy; exact Nat.le_refl _
    · intro x t hx ih y hy
      rw [cutsL_yes t hx] at hy
      rw [List.length_append, List.length_cons]
      rcases List.mem_cons.1 hy with rfl | hy
      · omega
      · have := ih y hy; omega
  intro x hx
  obtain ⟨y, hy, rfl⟩ := List.mem_map.1 hx
  exact key _ y hy
theorem cuts_length (s : ByteArray) : (cuts s).length ≤ s.size + 1 := by
  rw [← countB_len, countB_eq]
  have := List.count_le_length (a := (32 : UInt8)) (l := s.data.toList)
  rw [data_len] at this
  omega
/-- what a parser hands back -/
def QE (s : ByteArray) (w : World) (e : Ending) (w' : World) : Prop := ∃ v l er, e = .returned (.tuple #[v, .int .i64 er]) ∧ PA s l er ∧ FPt.X w' v l ∧ Below w.heap.size w w'
/-- so far on -/
def PRel (w : World) (ws : List ByteArray) (vo vi : Value) (wr : World) : Prop := ∃ (k : Nat) (l : List I3), k ≤ ws.length ∧ vi = .int .i64 k ∧ Hid ((∀ x ∈ l, okP x) ∧ ws.take k = l.map wdS) ∧ Hid (FPt.Row wr w.heap.size vo l) ∧ Hid (MLn wr) ∧ Hid (Below w.heap.size w wr)
theorem pa_bad {s x : ByteArray} (hx : x ∈ cuts s) (h : (ptR x).2 = false) : PA s [] 4 := by
  refine .inr ⟨rfl, rfl, fun m h0 h1 e => ?_⟩
  subst e
  rw [(prn_cuts h0 fun x hx => okP_i64 (h1 x hx)).1] at hx
  obtain ⟨y, hy, rfl⟩ := List.mem_map.1 hx
  rw [pt_word (h1 y hy)] at h
  cases h
theorem pa_good {s : ByteArray} {l : List I3} (h1 : ∀ x ∈ l, okP x) (h2 : cuts s = l.map wdS) : PA s l 0 := by
  refine .inl ⟨?_, h1, ?_, rfl⟩
  · rintro rfl
    exact cuts_nil s h2
  · unfold prn
    rw [← h2, jn_cuts]
set_option maxHeartbeats 6400000 in
theorem parse_any (s : ByteArray) (w : World) (hs : s.size ≤ 90000) (hm : MLn w) : Calls Tryd.prog 6 #[.string s] w (QE s w) := by
  have hE : ∀ W v l er, PA s l er → FPt.X W v l → Below w.heap.size w W → QE s w (.returned (.tuple #[v, .int .i64 er])) W := fun W v l er h1 h2 h3 => ⟨v, l, er, rfl, h1, h2, h3⟩
  have hbad := fun x (hx : x ∈ cuts s) h => pa_bad hx h
  have hgood := fun l h1 h2 => pa_good (s := s) (l := l) h1 h2
  have hsz := cuts_size s
  have hln := cuts_length s
  have hSp := Lib.hid (split_any s w (by omega) hm)
  generalize QE s w = Pst at *
  replace hE := Lib.hid hE
  generalize cuts s = ws at *
  replace hbad := Lib.hid hbad
  replace hgood := Lib.hid hgood
  replace hsz := Lib.hid hsz
  go_enter Tryd.func6, Tryd.ntmps6
  go_wp2_with (go_at_call 15; (with_reducible refine hSp.out.mono ?_); rintro e1 w1 ⟨rfl, hcw, hA⟩; have hcw := Lib.hid hcw; have hm1 := Lib.hid (hm.below hA); have hb1 := Lib.hid hA; clear hA)
  generalize w.heap.size = K0 at hcw ⊢
  go_loopw [4, 12] (fun vo vi wr => PRel w1 ws vo vi wr) (fun _ vi _ => ws.length - (intOf vi).toNat)
  case atStart => exact ⟨0, [], Nat.zero_le _, rfl, ⟨fun x hx => by simp at hx, rfl⟩, Fl.Row.nil FPt _ _, hm1, Below.refl _ _⟩
  case round =>
    obtain ⟨k, l, hk, rfl, hl, hR, hmr, hB⟩ := hrel
    by_cases hlt : k < ws.length
    · have hd2 : decide ((k : Int) < (ws.length : Int)) = true := decide_eq_true (by omega)
      have hd3 : decide (k < ws.length) = true := decide_eq_true hlt
      obtain ⟨x, hx⟩ : ∃ x, ws[k]? = some x := ⟨_, List.getElem?_eq_getElem hlt⟩
      have p0 := bkeep hB.out (hcw.out k x hx)
      have hxm := List.mem_of_getElem? hx
      have hpt := fun W h => part_any x W (by have := hsz.out x hxm; omega) h
      have hok := pt_ok (s := x)
      have hbd := hbad.out x hxm
      have htk : ws.take (k + 1) = ws.take k ++ [x] := by rw [List.take_add_one, hx]; rfl
      have i1 : (0 : Int) ≤ (k : Int) := by omega
      have i2 : (k : Int) < (ws.length : Int) := by omega
      have hll : l.length ≤ ws.length := by
        have := congrArg List.length hl.out.2
        rw [List.length_take, List.length_map] at this
        omega
      unfold PE ptV at hpt
      generalize ptR x = r at *
      obtain ⟨y, b⟩ := r
      simp only at hpt hok hbd
      replace hpt := Lib.hid hpt
      obtain ⟨va, vc, rfl⟩ := hR.out.any
      clear hx hxm
      cases b with
      | true =>
        obtain ⟨hy, hxy⟩ := hok rfl
        have hl2 : Hid ((∀ z ∈ l ++ [y], okP z) ∧ ws.take (k + 1) = (l ++ [y]).map wdS) := by
          refine ⟨fun z hz => ?_, ?_⟩
          · rcases List.mem_append.1 hz with hz | hz
            · exact hl.out.1 z hz
            · simp at hz
              subst hz; exact hy
          · rw [htk, hl.out.2, hxy]; simp
        clear hok hbd htk hy hxy
        go_upto_region 8 with (go_at_call 16; (with_reducible refine (hpt.out _ hmr.out).mono ?_); rintro e2 w2 ⟨rfl, hA⟩; have hz := bt hA (alb w2 (.cells #[.int .i64 y.1, .int .i64 y.2.1, .int .i64 y.2.2] 42)); replace hR := Lib.hid (hR.out.below hz); replace hmr := Lib.hid (hmr.out.below hz); replace hB := Lib.hid (bt hB.out hz); have hbx := HP.new w2 42 y; clear hA hz)
        generalize w2.alloc (.cells #[.int .i64 y.1, .int .i64 y.2.1, .int .i64 y.2.2] 42) = w3 at *
        obtain ⟨x0, x1, x2⟩ := hbx
        have hlt2 := (hR.out.below (alb w3 (.cells #[.int .i64 y.1, .int .i64 y.2.1, .int .i64 y.2.2] 42))).lt
        replace hlt2 := Lib.hid hlt2
        replace hmr := Lib.hid (hmr.out.below (alb w3 (.cells #[.int .i64 y.1, .int .i64 y.2.1, .int .i64 y.2.2] 42)))
        go_wp2_with (at_builtin; refine Fl.wpl_app FPt rfl (.tmp 23) (.tmp 25) _ w1.heap.size _ _ l [y] rfl rfl (hR.out.below (alb _ _)) (Fl.X.lit FPt _ [y] #[.int .i64 y.1, .int .i64 y.2.1, .int .i64 y.2.2] 1 1 rfl rfl) (by simp; omega) (bt hB.out (alb _ _)).size ?_ rfl rfl; intro v6 w6 h6 h7 _; replace hR := Lib.hid h6; replace h7 := Lib.hid h7)
        have hB6 := h7.out.after (bt hB.out (alb w3 (.cells #[.int .i64 y.1, .int .i64 y.2.1, .int .i64 y.2.2] 42))) (bt hB.out (alb _ _)).size fun q hq e => Nat.lt_irrefl _ (Nat.lt_of_lt_of_le hq (hlt2.out q e.symm).1)
        exact ⟨⟨k + 1, l ++ [y], by omega, by go_num, hl2, hR, hm1.out.below hB6, hB6⟩, by simp [intOf]; omega⟩
      | false =>
        have hpa := Lib.hid (hbd rfl)
        clear hok hbd htk
        go_wp2_with (first | (go_at_call 16; (with_reducible refine (hpt.out _ hmr.out).mono ?_); rintro e2 w2 ⟨rfl, hA⟩; have hz := bt hA (alb w2 (.cells #[.int .i64 y.1, .int .i64 y.2.1, .int .i64 y.2.2] 42)); replace hB := Lib.hid (bt hB.out hz); clear hA hz))
        exact hE.out _ _ [] _ hpa.out ⟨none, 0, rfl, fun h => absurd rfl h⟩ (bt hb1.out hB.out)
    · have hd2 : decide ((k : Int) < (ws.length : Int)) = false := decide_eq_false (by omega)
      have hd3 : decide (k < ws.length) = false := decide_eq_false hlt
      have hl2 := hl.out
      rw [List.take_of_length_le (by omega)] at hl2
      have hpa := Lib.hid (hgood.out l hl2.1 hl2.2)
      clear hl2
      go_wp2
      exact hE.out _ _ l _ hpa.out hR.out.x (bt hb1.out hB.out)
end Go.Proofs.YtlmmmibnnbceeaaDoor
