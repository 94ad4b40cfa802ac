/-
  A box of lines that wait: its channels, each operation of the channels walked.
-/
import Derived.Test.YtmhmdcfdodiphaaRows
import Derived.Test.YtmhmdcfdodiphaaMine
import Derived.WalkKit
import Derived.Conc.LoneCalls
import Derived.Conc.LoneSelect
import Derived.Conc.LoneSelectN
import Derived.Laws.Rows
import Derived.BigQuiet
namespace Go.Proofs.Ytmhmdcfdodiphaa
open Go.Conc Go.RowKit
set_option linter.unusedVariables false
set_option linter.unusedSimpArgs false

/-- lines in a channel -/
def sv (l : List ByteArray) : Array Value := (l.map Value.string).toArray
theorem sv_size (l : List ByteArray) : (sv l).size = l.length := by simp [sv]
theorem sv_push (l : List ByteArray) (x : ByteArray) : (sv l).push (.string x) = sv (l ++ [x]) := by simp [sv]
theorem sv_cons (x : ByteArray) (l : List ByteArray) : (sv (x :: l)).getD 0 undef = .string x ∧ (sv (x :: l)).extract 1 (sv (x :: l)).size = sv l := by
  constructor
  · simp [sv]
  · apply Array.toList_inj.1; simp [sv]; exact List.take_of_length_le (by simp)
def CH (w : World) (c cap : Nat) (L : List ByteArray) (cl : Bool) : Prop := ∃ s r, w.heap[c]? = some (.chan cap (sv L) cl s r false)
theorem Frm.setChan {S : Nat → Prop} {a w : World} (h : Frm S a w) {c : Nat} (hc : S c ∨ a.heap.size ≤ c) (cap : Nat) (buf : Array Value) (cl : Bool) (s r : Nat) (tm : Bool) : Frm S a (w.setChan c cap buf cl s r tm) :=
  ⟨h.os, h.tape, h.output, Nat.le_trans h.size (by simp [World.setChan]), fun k hk hs => by
    have : c ≠ k := by rintro rfl; rcases hc with hc | hc; exact hs hc; omega
    simp only [World.setChan]; rw [Array.getElem?_setIfInBounds_ne this]; exact h.block k hk hs⟩
theorem Frm.chan1 (w : World) (c cap : Nat) (buf : Array Value) (cl : Bool) (s r : Nat) (tm : Bool) : Frm (· = c) w (w.setChan c cap buf cl s r tm) := Frm.setChan (S := fun x => x = c) (Frm.refl _ _) (.inl rfl) _ _ _ _ _ _
theorem CH.lt {w : World} {c cap : Nat} {L : List ByteArray} {cl : Bool} (h : CH w c cap L cl) : c < w.heap.size := by
  obtain ⟨s, r, h⟩ := h
  exact (Array.getElem?_eq_some_iff.1 h).1
theorem CH.frm {S : Nat → Prop} {w w' : World} {c cap : Nat} {L : List ByteArray} {cl : Bool} (h : CH w c cap L cl) (hf : Frm S w w') (hs : ¬ S c) : CH w' c cap L cl := by
  have hl := h.lt
  obtain ⟨s, r, h⟩ := h
  exact ⟨s, r, (hf.block c hl hs).trans h⟩
theorem CH.set {w : World} {c cap : Nat} {L L' : List ByteArray} {cl cl' : Bool} (h : CH w c cap L cl) (s r : Nat) : CH (w.setChan c cap (sv L') cl' s r false) c cap L' cl' := ⟨s, r, heap_setChan _ _ _ _ _ _ _ _ h.lt⟩

def firstV (L : List ByteArray) : ByteArray := L.headD ⟨#[]⟩
set_option maxRecDepth 100000 in
theorem first_any (c cap : Nat) (L : List ByteArray) (cl : Bool) (w : World) (h : CH w c cap L cl) : Calls Try.prog 17 #[.chan (some c)] w fun e w' =>
    e = .returned (.tuple #[.string (firstV L), .bool (!L.isEmpty)]) ∧ CH w' c cap L.tail cl ∧ Frm (· = c) w w' := by
  have h0 := h
  obtain ⟨s, r, hc⟩ := h
  refine calls_of_loneTo (fun cs => ?_) (by rintro _ ⟨h, _⟩; cases h)
  have e : Frame.enter Try.prog 17 #[.chan (some c)] .normal = (base 17).at ⟨#[.chan (some c), undef, undef, undef, undef, undef, undef, undef, undef, undef, undef, undef, undef, undef], []⟩ [.code (Try.f17.body.getD .skip)] := by simp [Frame.enter, Frame.at, Try.func17, base, Try.f17] <;> rfl
  rw [e]; clear e
  refine LoneTo.goes (n := 200) ?_
  simp only [Try.f17, Option.getD_some]
  repeat (first | s_c stepG_seq | s_c stepG_region_end | s_reg | s_op | s_c stepG_block | s_cond true | s_cond false | s_c stepG_ret' | s_c stepG_skip | s_c stepG_inBlock)
  s_stop
  match L, cl with
  | [], false =>
    refine LoneTo.step (step_lone_select_default (c := c) (z := .string ⟨#[]⟩) (stepG_comm (cases := #[rcase c (.string ⟨#[]⟩)]) (blocking := false) (shape := .select) (w' := w) rfl rfl (by decide) (by simp [go_sem, execOp, rcase, Act.eval])) hc) ?_
    rw [Frame.finish_at]
    walk_nrm
    refine LoneTo.goes (n := 60) ?_
    repeat (first | s_c stepG_seq | s_c stepG_region_end | s_reg | s_op | s_c stepG_block | s_cond true | s_cond false | s_c stepG_ret' | s_c stepG_skip | s_c stepG_inBlock)
    s_stop
    refine LoneTo.done ⟨.returned (.tuple #[.string ⟨#[]⟩, .bool false]), _, rfl, ⟨rfl, h0, Frm.refl _ _⟩, rfl, rfl, rfl, rfl, _, Try.func17, by simp [results, Try.f17, Frame.at]⟩
  | [], true =>
    refine LoneTo.step (step_lone_select_recv_shut (c := c) (z := .string ⟨#[]⟩) (stepG_comm (cases := #[rcase c (.string ⟨#[]⟩)]) (blocking := false) (shape := .select) (w' := w) rfl rfl (by decide) (by simp [go_sem, execOp, rcase, Act.eval])) hc) ?_
    rw [Frame.finish_at]
    walk_nrm
    refine LoneTo.goes (n := 60) ?_
    repeat (first | s_c stepG_seq | s_c stepG_region_end | s_reg | s_op | s_c stepG_block | s_cond true | s_cond false | s_c stepG_ret' | s_c stepG_skip | s_c stepG_inBlock)
    s_stop
    refine LoneTo.done ⟨.returned (.tuple #[.string ⟨#[]⟩, .bool false]), _, rfl, ⟨rfl, h0, Frm.refl _ _⟩, rfl, rfl, rfl, rfl, _, Try.func17, by simp [results, Try.f17, Frame.at]⟩
  | x :: L, cl =>
    refine LoneTo.step (step_lone_select_recv_buf (c := c) (z := .string ⟨#[]⟩) (stepG_comm (cases := #[rcase c (.string ⟨#[]⟩)]) (blocking := false) (shape := .select) (w' := w) rfl rfl (by decide) (by simp [go_sem, execOp, rcase, Act.eval])) hc (by rw [sv_size]; simp)) ?_
    rw [Frame.finish_at, (sv_cons x L).1, (sv_cons x L).2]
    walk_nrm
    refine LoneTo.goes (n := 60) ?_
    repeat (first | s_c stepG_seq | s_c stepG_region_end | s_reg | s_op | s_c stepG_block | s_cond true | s_cond false | s_c stepG_ret' | s_c stepG_skip | s_c stepG_inBlock)
    s_stop
    refine LoneTo.done ⟨.returned (.tuple #[.string x, .bool true]), _, rfl, ⟨rfl, h0.set _ _, Frm.chan1 _ _ _ _ _ _ _ _⟩, rfl, rfl, rfl, rfl, _, Try.func17, by simp [results, Try.f17, Frame.at]⟩
/-- the box's cells -/
structure BX (w : World) (p cu co cap : Nat) (U O : List ByteArray) (cl : Bool) : Prop where
  c0 : w.cell? ⟨p, 0, none⟩ = some (.chan (some cu))
  c1 : w.cell? ⟨p, 1, none⟩ = some (.chan (some co))
  c2 : w.cell? ⟨p, 2, none⟩ = some (.bool cl)
  f2 : w.frozen? ⟨p, 2, none⟩ = false
  u : CH w cu cap U cl
  o : CH w co cap O cl
  ne : cu ≠ co
  nu : p ≠ cu
  no : p ≠ co
theorem BX.lt {w : World} {p cu co cap : Nat} {U O : List ByteArray} {cl : Bool} (h : BX w p cu co cap U O cl) : p < w.heap.size ∧ cu < w.heap.size ∧ co < w.heap.size :=
  ⟨World.block_lt_of_cell? w _ h.c0, h.u.lt, h.o.lt⟩
theorem BX.frm {S : Nat → Prop} {w w' : World} {p cu co cap : Nat} {U O : List ByteArray} {cl : Bool} (h : BX w p cu co cap U O cl) (hf : Frm S w w') (h1 : ¬ S p) (h2 : ¬ S cu) (h3 : ¬ S co) : BX w' p cu co cap U O cl :=
  ⟨hf.cell h1 h.c0, hf.cell h1 h.c1, hf.cell h1 h.c2, (hf.frozen h1 h.lt.1).trans h.f2, h.u.frm hf h2, h.o.frm hf h3, h.ne, h.nu, h.no⟩
theorem BX.below {w w' : World} {p cu co cap : Nat} {U O : List ByteArray} {cl : Bool} (h : BX w p cu co cap U O cl) (hf : Below w.heap.size w w') : BX w' p cu co cap U O cl :=
  h.frm (S := fun _ => False) (.ofBelow hf) id id id
theorem BX.chancu {w : World} {p cu co cap : Nat} {U O : List ByteArray} {cl : Bool} (h : BX w p cu co cap U O cl) (L : List ByteArray) (s r : Nat) : BX (w.setChan cu cap (sv L) cl s r false) p cu co cap L O cl :=
  have hf := Frm.chan1 w cu cap (sv L) cl s r false
  ⟨hf.cell h.nu h.c0, hf.cell h.nu h.c1, hf.cell h.nu h.c2, (hf.frozen h.nu h.lt.1).trans h.f2, h.u.set _ _, h.o.frm hf h.ne.symm, h.ne, h.nu, h.no⟩
theorem BX.chanco {w : World} {p cu co cap : Nat} {U O : List ByteArray} {cl : Bool} (h : BX w p cu co cap U O cl) (L : List ByteArray) (s r : Nat) : BX (w.setChan co cap (sv L) cl s r false) p cu co cap U L cl :=
  have hf := Frm.chan1 w co cap (sv L) cl s r false
  ⟨hf.cell h.no h.c0, hf.cell h.no h.c1, hf.cell h.no h.c2, (hf.frozen h.no h.lt.1).trans h.f2, h.u.frm hf h.ne, h.o.set _ _, h.ne, h.nu, h.no⟩
/-- what Put answers -/
def putE (cl : Bool) (cap n : Nat) : Int := if cl then 10 else if n < cap then 0 else 6
def putL (cl : Bool) (cap : Nat) (l : List ByteArray) (x : ByteArray) : List ByteArray := if cl then l else if l.length < cap then l ++ [x] else l
set_option maxRecDepth 100000 in
theorem put_any (p cu co cap : Nat) (U O : List ByteArray) (cl : Bool) (x : ByteArray) (g : Bool) (w : World) (h : BX w p cu co cap U O cl) : Calls Try.prog 7 #[.pointer (some ⟨p, 0, none⟩), .string x, .bool g] w fun e w' =>
    e = .returned (.int .i64 (putE cl cap (if g then U.length else O.length))) ∧ BX w' p cu co cap (if g then putL cl cap U x else U) (if g then O else putL cl cap O x) cl ∧ Frm (fun k => k = cu ∨ k = co) w w' := by
  have hc0 := h.c0
  have hc1 := h.c1
  have hc2 := h.c2
  match cl, g with
  | true, g =>
    refine calls_of_loneTo (fun cs => ?_) (by rintro _ ⟨h, _⟩; cases h)
    have e : Frame.enter Try.prog 7 #[.pointer (some ⟨p, 0, none⟩), .string x, .bool g] .normal = (base 7).at ⟨#[.pointer (some ⟨p, 0, none⟩), .string x, .bool g, undef, undef, undef, undef, undef, undef, undef, undef, undef, undef, undef, undef, undef, undef, undef, undef, undef, undef, undef, undef, undef, undef, undef, undef, undef, undef, undef], []⟩ [.code (Try.f7.body.getD .skip)] := by simp [Frame.enter, Frame.at, Try.func7, base, Try.f7] <;> rfl
    rw [e]; clear e
    refine LoneTo.goes (n := 200) ?_
    simp only [Try.f7, Option.getD_some]
    repeat (first | s_c stepG_seq | s_c stepG_region_end | s_reg | s_op | s_c stepG_block | s_cond true | s_cond false | s_c stepG_ret' | s_c stepG_skip | s_c stepG_inBlock)
    s_stop
    refine LoneTo.done ⟨.returned (.int .i64 10), _, rfl, ⟨rfl, by cases g <;> exact h, Frm.refl _ _⟩, rfl, rfl, rfl, rfl, _, Try.func7, by simp [results, Try.f7, Frame.at]⟩
  | false, true =>
    refine calls_of_loneTo (fun cs => ?_) (by rintro _ ⟨h, _⟩; cases h)
    have e : Frame.enter Try.prog 7 #[.pointer (some ⟨p, 0, none⟩), .string x, .bool true] .normal = (base 7).at ⟨#[.pointer (some ⟨p, 0, none⟩), .string x, .bool true, undef, undef, undef, undef, undef, undef, undef, undef, undef, undef, undef, undef, undef, undef, undef, undef, undef, undef, undef, undef, undef, undef, undef, undef, undef, undef, undef], []⟩ [.code (Try.f7.body.getD .skip)] := by simp [Frame.enter, Frame.at, Try.func7, base, Try.f7] <;> rfl
    rw [e]; clear e
    refine LoneTo.goes (n := 200) ?_
    simp only [Try.f7, Option.getD_some]
    repeat (first | s_c stepG_seq | s_c stepG_region_end | s_reg | s_op | s_c stepG_block | s_cond true | s_cond false | s_c stepG_ret' | s_c stepG_skip | s_c stepG_inBlock)
    s_stop
    have hc := h.c0
    obtain ⟨s, r, hch⟩ := h.u
    by_cases hroom : (U).length < cap
    · refine LoneTo.step (step_lone_select_send_room (c := cu) (v := .string x) (z' := .string ⟨#[]⟩) (stepG_comm (cases := #[scase cu (.string x) (.string ⟨#[]⟩)]) (blocking := false) (shape := .select) (w' := w) rfl rfl (by decide) (by simp [go_sem, execOp, scase, Act.eval])) hch (by rw [sv_size]; exact hroom)) ?_
      rw [Frame.finish_at, sv_push]
      walk_nrm
      refine LoneTo.goes (n := 60) ?_
      repeat (first | s_c stepG_seq | s_c stepG_region_end | s_reg | s_op | s_c stepG_block | s_cond true | s_cond false | s_c stepG_ret' | s_c stepG_skip | s_c stepG_inBlock)
      s_stop
      refine LoneTo.done ⟨.returned (.int .i64 0), _, rfl, ⟨by simp [putE, hroom], by simp only [putL, hroom, if_true, if_false, Bool.false_eq_true, ↓reduceIte]; exact h.chancu _ _ _, Frm.setChan (Frm.refl _ _) (.inl (.inl rfl)) _ _ _ _ _ _⟩, rfl, rfl, rfl, rfl, _, Try.func7, by simp [results, Try.f7, Frame.at]⟩
    · refine LoneTo.step (step_lone_select_send_full (c := cu) (v := .string x) (z' := .string ⟨#[]⟩) (stepG_comm (cases := #[scase cu (.string x) (.string ⟨#[]⟩)]) (blocking := false) (shape := .select) (w' := w) rfl rfl (by decide) (by simp [go_sem, execOp, scase, Act.eval])) hch (by rw [sv_size]; omega)) ?_
      rw [Frame.finish_at]
      walk_nrm
      refine LoneTo.goes (n := 60) ?_
      repeat (first | s_c stepG_seq | s_c stepG_region_end | s_reg | s_op | s_c stepG_block | s_cond true | s_cond false | s_c stepG_ret' | s_c stepG_skip | s_c stepG_inBlock)
      s_stop
      refine LoneTo.done ⟨.returned (.int .i64 6), _, rfl, ⟨by simp [putE, hroom], by simp only [putL, hroom, if_true, if_false, Bool.false_eq_true, ↓reduceIte]; exact h, Frm.refl _ _⟩, rfl, rfl, rfl, rfl, _, Try.func7, by simp [results, Try.f7, Frame.at]⟩
  | false, false =>
    refine calls_of_loneTo (fun cs => ?_) (by rintro _ ⟨h, _⟩; cases h)
    have e : Frame.enter Try.prog 7 #[.pointer (some ⟨p, 0, none⟩), .string x, .bool false] .normal = (base 7).at ⟨#[.pointer (some ⟨p, 0, none⟩), .string x, .bool false, undef, undef, undef, undef, undef, undef, undef, undef, undef, undef, undef, undef, undef, undef, undef, undef, undef, undef, undef, undef, undef, undef, undef, undef, undef, undef, undef], []⟩ [.code (Try.f7.body.getD .skip)] := by simp [Frame.enter, Frame.at, Try.func7, base, Try.f7] <;> rfl
    rw [e]; clear e
    refine LoneTo.goes (n := 200) ?_
    simp only [Try.f7, Option.getD_some]
    repeat (first | s_c stepG_seq | s_c stepG_region_end | s_reg | s_op | s_c stepG_block | s_cond true | s_cond false | s_c stepG_ret' | s_c stepG_skip | s_c stepG_inBlock)
    s_stop
    have hc := h.c0
    obtain ⟨s, r, hch⟩ := h.o
    by_cases hroom : (O).length < cap
    · refine LoneTo.step (step_lone_select_send_room (c := co) (v := .string x) (z' := .string ⟨#[]⟩) (stepG_comm (cases := #[scase co (.string x) (.string ⟨#[]⟩)]) (blocking := false) (shape := .select) (w' := w) rfl rfl (by decide) (by simp [go_sem, execOp, scase, Act.eval])) hch (by rw [sv_size]; exact hroom)) ?_
      rw [Frame.finish_at, sv_push]
      walk_nrm
      refine LoneTo.goes (n := 60) ?_
      repeat (first | s_c stepG_seq | s_c stepG_region_end | s_reg | s_op | s_c stepG_block | s_cond true | s_cond false | s_c stepG_ret' | s_c stepG_skip | s_c stepG_inBlock)
      s_stop
      refine LoneTo.done ⟨.returned (.int .i64 0), _, rfl, ⟨by simp [putE, hroom], by simp only [putL, hroom, if_true, if_false, Bool.false_eq_true, ↓reduceIte]; exact h.chanco _ _ _, Frm.setChan (Frm.refl _ _) (.inl (.inr rfl)) _ _ _ _ _ _⟩, rfl, rfl, rfl, rfl, _, Try.func7, by simp [results, Try.f7, Frame.at]⟩
    · refine LoneTo.step (step_lone_select_send_full (c := co) (v := .string x) (z' := .string ⟨#[]⟩) (stepG_comm (cases := #[scase co (.string x) (.string ⟨#[]⟩)]) (blocking := false) (shape := .select) (w' := w) rfl rfl (by decide) (by simp [go_sem, execOp, scase, Act.eval])) hch (by rw [sv_size]; omega)) ?_
      rw [Frame.finish_at]
      walk_nrm
      refine LoneTo.goes (n := 60) ?_
      repeat (first | s_c stepG_seq | s_c stepG_region_end | s_reg | s_op | s_c stepG_block | s_cond true | s_cond false | s_c stepG_ret' | s_c stepG_skip | s_c stepG_inBlock)
      s_stop
      refine LoneTo.done ⟨.returned (.int .i64 6), _, rfl, ⟨by simp [putE, hroom], by simp only [putL, hroom, if_true, if_false, Bool.false_eq_true, ↓reduceIte]; exact h, Frm.refl _ _⟩, rfl, rfl, rfl, rfl, _, Try.func7, by simp [results, Try.f7, Frame.at]⟩
theorem cell_off {W : World} {g i j : Nat} {v u : Value} (h : W.cell? ⟨g, j, none⟩ = some u) (hne : i ≠ j) : (W.setCell ⟨g, i, none⟩ v).cell? ⟨g, j, none⟩ = some u := by
  simp [go_sem, h, hne]
theorem put_none (x : ByteArray) (g : Bool) (w : World) : Calls Try.prog 7 #[.pointer none, .string x, .bool g] w fun e w' => e = .returned (.int .i64 10) ∧ w = w' := by
  go_enter Try.func7, Try.ntmps7
  go_wp2
  go_ret
  exact ⟨rfl, rfl⟩
theorem len_none (w : World) : Calls Try.prog 16 #[.pointer none] w fun e w' => e = .returned (.int .i64 0) ∧ w = w' := by
  go_enter Try.func16, Try.ntmps16
  go_wp2
  go_ret
  exact ⟨rfl, rfl⟩
theorem next_none (w : World) : Calls Try.prog 8 #[.pointer none] w fun e w' => e = .returned (.tuple #[.string ⟨#[]⟩, .bool false]) ∧ w = w' := by
  go_enter Try.func8, Try.ntmps8
  go_wp2
  go_ret2
  exact ⟨rfl, rfl⟩
theorem close_none (w : World) : Calls Try.prog 13 #[.pointer none] w fun e w' => e = .returned (.tuple #[]) ∧ w = w' := by
  go_enter Try.func13, Try.ntmps13
  go_wp2
  exact bodyPost_ret (v := .tuple #[]) (by simp [results, Try.results13, go_sem]) rfl ⟨rfl, rfl⟩
theorem rest_none (w : World) : Calls Try.prog 14 #[.pointer none] w fun e w' => e = .returned (.tuple #[.slice none 0 0, .int .i64 10]) ∧ w = w' := by
  go_enter Try.func14, Try.ntmps14
  go_wp2
  go_ret2
  exact ⟨rfl, rfl⟩
theorem len_any (p cu co cap : Nat) (U O : List ByteArray) (cl : Bool) (w : World) (h : BX w p cu co cap U O cl) (h1 : U.length ≤ 1000) (h2 : O.length ≤ 1000) : Calls Try.prog 16 #[.pointer (some ⟨p, 0, none⟩)] w fun e w' =>
    e = .returned (.int .i64 (U.length + O.length : Nat)) ∧ ∃ n, w' = w.drewN n := by
  have hc0 := h.c0
  have hc1 := h.c1
  obtain ⟨su, ru, hu⟩ := h.u
  obtain ⟨so, ro, ho⟩ := h.o
  have hl1 := fun ty n => run_len_chan (P := Try.prog) (w := w.drewN n) 43 ty Try.underlying43 hu
  have hl2 := fun ty n => run_len_chan (P := Try.prog) (w := w.drewN n) 43 ty Try.underlying43 ho
  rw [sv_size] at hl1 hl2
  clear hu ho
  go_enter Try.func16, Try.ntmps16
  go_wp2
  go_quiet (fail)
  go_wp2
  go_ret
  exact ⟨by push_cast; rfl, _, rfl⟩
def nextV (U O : List ByteArray) : ByteArray := if U.isEmpty then firstV O else firstV U
theorem next_any (p cu co cap : Nat) (U O : List ByteArray) (cl : Bool) (w : World) (HX : BX w p cu co cap U O cl) : Calls Try.prog 8 #[.pointer (some ⟨p, 0, none⟩)] w fun e w' =>
    e = .returned (.tuple #[.string (nextV U O), .bool (!(U.isEmpty && O.isEmpty))]) ∧ BX w' p cu co cap U.tail (if U.isEmpty then O.tail else O) cl ∧ Frm (fun k => k = cu ∨ k = co) w w' := by
  have hc0 := HX.c0
  have hc1 := HX.c1
  cases U with
  | nil =>
    go_enter Try.func8, Try.ntmps8
    have h0 := HX.u
    have h00 := first_any cu cap [] cl w HX.u
    go_wp2_with (first | (go_at_call 17; (with_reducible refine (first_any cu cap [] cl w h0).mono ?_); rintro e w1 ⟨rfl, h1, h2⟩; replace hc1 := h2.cell HX.nu hc1) | (go_at_call 17; (with_reducible refine (first_any co cap O cl w1 (HX.o.frm h2 HX.ne.symm)).mono ?_); rintro e w2 ⟨rfl, h3, h4⟩))
    go_ret2
    have hf : Frm (fun k => k = cu ∨ k = co) w w2 := (h2.mono fun k _ => .inl).trans (h4.mono fun k _ => .inr)
    exact ⟨rfl, ⟨hf.cell (by rintro (h | h); exact HX.nu h; exact HX.no h) HX.c0, hf.cell (by rintro (h | h); exact HX.nu h; exact HX.no h) HX.c1, hf.cell (by rintro (h | h); exact HX.nu h; exact HX.no h) HX.c2, (hf.frozen (by rintro (h | h); exact HX.nu h; exact HX.no h) HX.lt.1).trans HX.f2, h1.frm h4 HX.ne, h3, HX.ne, HX.nu, HX.no⟩, hf⟩
  | cons x U =>
    go_enter Try.func8, Try.ntmps8
    go_wp2_with (go_at_call 17; (with_reducible refine (first_any cu cap (x :: U) cl w HX.u).mono ?_); rintro e w1 ⟨rfl, h1, h2⟩)
    go_ret2
    exact ⟨rfl, ⟨h2.cell HX.nu HX.c0, h2.cell HX.nu HX.c1, h2.cell HX.nu HX.c2, (h2.frozen HX.nu HX.lt.1).trans HX.f2, h1, HX.o.frm h2 HX.ne.symm, HX.ne, HX.nu, HX.no⟩, h2.mono fun k _ => .inl⟩
theorem close_one {w : World} {c cap : Nat} {L : List ByteArray} (h : CH w c cap L false) : ∃ w1, (∀ ats ty, (Builtin.close_ ats ty #[.chan (some c)]).run Try.prog w = .ok (.tuple #[]) w1) ∧ CH w1 c cap L true ∧ Frm (· = c) w w1 := by
  have h0 := h
  obtain ⟨s, r, h⟩ := h
  exact ⟨w.setChan c cap (sv L) true s r false, fun ats ty => run_close_open (P := Try.prog) ats ty h, h0.set _ _, Frm.chan1 _ _ _ _ _ _ _ _⟩
theorem close_any (p cu co cap : Nat) (U O : List ByteArray) (cl : Bool) (w : World) (HX : BX w p cu co cap U O cl) : Calls Try.prog 13 #[.pointer (some ⟨p, 0, none⟩)] w fun e w' =>
    e = .returned (.tuple #[]) ∧ BX w' p cu co cap U O true ∧ Frm (fun k => k = p ∨ k = cu ∨ k = co) w w' := by
  have hc0 := HX.c0
  have hc1 := HX.c1
  have hc2 := HX.c2
  have hf2 := HX.f2
  cases cl with
  | true =>
    go_enter Try.func13, Try.ntmps13
    go_wp2
    exact bodyPost_ret (v := .tuple #[]) (by simp [results, Try.results13, go_sem]) rfl ⟨rfl, HX, Frm.refl _ _⟩
  | false =>
    have hw0 : Frm (· = p) w (w.setCell ⟨p, 2, none⟩ (.bool true)) := Frm.one _ _ _ _
    obtain ⟨w0, e0⟩ : ∃ w0, w.setCell ⟨p, 2, none⟩ (.bool true) = w0 := ⟨_, rfl⟩
    rw [e0] at hw0
    have g0 : w0.cell? ⟨p, 0, none⟩ = some (.chan (some cu)) := by rw [← e0]; exact cell_off HX.c0 (by decide)
    have g1 : w0.cell? ⟨p, 1, none⟩ = some (.chan (some co)) := by rw [← e0]; exact cell_off HX.c1 (by decide)
    have g2 : w0.cell? ⟨p, 2, none⟩ = some (.bool true) := by rw [← e0]; exact World.cell?_setCell_same' _ _ _ (by rw [hc2]; rfl)
    have g3 : w0.frozen? ⟨p, 2, none⟩ = false := by rw [← e0, World.frozen?_setCell]; exact hf2
    have HU := HX.u.frm hw0 (fun h => HX.nu h.symm)
    have HO := HX.o.frm hw0 (fun h => HX.no h.symm)
    obtain ⟨w1, hcl1, HU1, hw1⟩ := close_one HU
    have HO1 := HO.frm hw1 HX.ne.symm
    have k0 := hw1.cell HX.nu g0
    have k1 := hw1.cell HX.nu g1
    have k2 := hw1.cell HX.nu g2
    have hlp := World.block_lt_of_cell? w0 _ g0
    have k3 := (hw1.frozen HX.nu (p := ⟨p, 2, none⟩) hlp).trans g3
    obtain ⟨w2, hcl2, HO2, hw2⟩ := close_one HO1
    have HU2 := HU1.frm hw2 HX.ne
    have l0 := hw2.cell HX.no k0
    have l1 := hw2.cell HX.no k1
    have l2 := hw2.cell HX.no k2
    have hlp1 := World.block_lt_of_cell? w1 _ k0
    have l3 := (hw2.frozen HX.no (p := ⟨p, 2, none⟩) hlp1).trans k3
    have HF : Frm (fun k => k = p ∨ k = cu ∨ k = co) w w2 := ((hw0.mono fun k _ => .inl).trans (hw1.mono fun k _ h => .inr (.inl h))).trans (hw2.mono fun k _ h => .inr (.inr h))
    have HB : BX w2 p cu co cap U O true := ⟨l0, l1, l2, l3, HU2, HO2, HX.ne, HX.nu, HX.no⟩
    clear hw0 hw1 hw2 HU HO HU1 HO1 HU2 HO2 hlp hlp1 g3 k3 l3
    go_enter Try.func13, Try.ntmps13
    go_wp2
    go_end0
    exact ⟨rfl, HB, HF⟩
def nB (most : Int) : Nat := (min (max most 0) 100).toNat
theorem chan_info : (Try.prog.info? 9).map (fun i => i.bytes) = some 16 := by kernel_rfl
theorem mk_chan (n : Nat) (hn : n ≤ 100) (k : Int) (hk : k = n) : ∀ w, (Instr.makeChan 43 (.int .i64 k)).run Try.prog w = .ok (.chan (some w.heap.size)) (w.alloc (.chan n #[] false 0 0 false)) := by
  intro w
  subst hk
  obtain ⟨i, hi, hb⟩ := Option.map_eq_some_iff.1 chan_info
  exact run_makeChan (P := Try.prog) (w := w) Try.underlying43 hi .i64 n (by omega) (by rw [hb]; omega)
def NewPost (n : Nat) (w : World) (e : Ending) (w' : World) : Prop := ∃ p cu co, e = .returned (.pointer (some ⟨p, 0, none⟩)) ∧ BX w' p cu co n [] [] false ∧ w.heap.size ≤ p ∧ w.heap.size ≤ cu ∧ w.heap.size ≤ co ∧ Below w.heap.size w w'
theorem new_post (n : Nat) (w : World) (a b : Nat) (hab : (a = w.heap.size ∧ b = w.heap.size + 1) ∨ (a = w.heap.size + 1 ∧ b = w.heap.size)) :
    NewPost n w (.returned (.pointer (some ⟨w.heap.size + 1 + 1, 0, none⟩))) (((w.alloc (.chan n #[] false 0 0 false)).alloc (.chan n #[] false 0 0 false)).alloc (.cells #[.chan (some a), .chan (some b), .bool false] 45)).drew := by
  have hb : Below w.heap.size w (((w.alloc (.chan n #[] false 0 0 false)).alloc (.chan n #[] false 0 0 false)).alloc (.cells #[.chan (some a), .chan (some b), .bool false] 45)).drew := ((((Below.refl _ w).alloc (Nat.le_refl _) _).alloc (by simp) _).alloc (by simp; omega) _).drew
  have h0 : CH (((w.alloc (.chan n #[] false 0 0 false)).alloc (.chan n #[] false 0 0 false)).alloc (.cells #[.chan (some a), .chan (some b), .bool false] 45)).drew w.heap.size n [] false := by
    refine ⟨0, 0, ?_⟩
    show (((w.alloc (.chan n #[] false 0 0 false)).alloc (.chan n #[] false 0 0 false)).alloc (.cells #[.chan (some a), .chan (some b), .bool false] 45)).heap[w.heap.size]? = _
    rw [Below.heap_alloc _ _ _ (by simp; omega), Below.heap_alloc _ _ _ (by simp)]
    exact heap_alloc_new w _
  have h1 : CH (((w.alloc (.chan n #[] false 0 0 false)).alloc (.chan n #[] false 0 0 false)).alloc (.cells #[.chan (some a), .chan (some b), .bool false] 45)).drew (w.heap.size + 1) n [] false := by
    refine ⟨0, 0, ?_⟩
    show (((w.alloc (.chan n #[] false 0 0 false)).alloc (.chan n #[] false 0 0 false)).alloc (.cells #[.chan (some a), .chan (some b), .bool false] 45)).heap[w.heap.size + 1]? = _
    rw [Below.heap_alloc _ _ _ (by simp)]
    have := heap_alloc_new (w.alloc (.chan n #[] false 0 0 false)) (.chan n #[] false 0 0 false)
    simp only [World.size_alloc] at this
    exact this
  refine ⟨w.heap.size + 1 + 1, a, b, rfl, ⟨by simp [go_sem], by simp [go_sem], by simp [go_sem], by simp [go_sem], ?_, ?_, ?_, ?_, ?_⟩, by omega, by omega, by omega, hb⟩
  · rcases hab with ⟨rfl, rfl⟩ | ⟨rfl, rfl⟩ <;> assumption
  · rcases hab with ⟨rfl, rfl⟩ | ⟨rfl, rfl⟩ <;> assumption
  all_goals omega
theorem new_any (most : Int) (w : World) (hm : -9223372036854775808 ≤ most ∧ most ≤ 9223372036854775807) : Calls Try.prog 6 #[.int .i64 most] w (NewPost (nB most) w) := by
  by_cases h1 : 100 < most
  · have hmk := mk_chan 100 (by omega) 100 rfl
    have hn : nB most = 100 := by unfold nB; omega
    rw [hn]; clear hn
    go_enter Try.func6, Try.ntmps6
    go_wp2
    go_region
    all_goals go_wp2
    · go_ret
      exact new_post 100 w _ _ (.inl ⟨rfl, rfl⟩)
    · go_ret
      exact new_post 100 w _ _ (.inr ⟨rfl, rfl⟩)
  · by_cases h2 : most < 0
    · have hmk := mk_chan 0 (by omega) 0 rfl
      have hn : nB most = 0 := by unfold nB; omega
      rw [hn]; clear hn
      go_enter Try.func6, Try.ntmps6
      go_wp2
      go_region
      all_goals go_wp2
      · go_ret
        exact new_post 0 w _ _ (.inl ⟨rfl, rfl⟩)
      · go_ret
        exact new_post 0 w _ _ (.inr ⟨rfl, rfl⟩)
    · obtain ⟨n, rfl⟩ : ∃ n : Nat, most = n := ⟨most.toNat, by omega⟩
      have hmk := mk_chan n (by omega) n rfl
      have hn : nB n = n := by unfold nB; omega
      rw [hn]; clear hn
      go_enter Try.func6, Try.ntmps6
      go_wp2
      go_region
      all_goals go_wp2
      · go_ret
        exact new_post n w _ _ (.inl ⟨rfl, rfl⟩)
      · go_ret
        exact new_post n w _ _ (.inr ⟨rfl, rfl⟩)
end Go.Proofs.Ytmhmdcfdodiphaa
