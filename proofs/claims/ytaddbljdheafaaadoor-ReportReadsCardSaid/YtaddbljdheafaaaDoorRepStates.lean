/-
  States and conflicts in words (chapter 34): the law's walk.
-/
import Derived.Test.YtaddbljdheafaaaDoorRepTells
namespace Go.Proofs.YtaddbljdheafaaaDoor
open Go.RowKit
set_option linter.unusedVariables false
set_option linter.unusedSimpArgs false
set_option maxRecDepth 20000

structure Pq where
  x : Int
  p : Int
  q : Int
  e : ByteArray
  r : Int
  s : Int
  f : ByteArray
instance : Inhabited Pq := ⟨⟨0, 0, 0, ByteArray.empty, 0, 0, ByteArray.empty⟩⟩
abbrev pqE (y : Pq) : List Value := [.int .i64 y.x, .int .i64 y.p, .int .i64 y.q, .string y.e, .int .i64 y.r, .int .i64 y.s, .string y.f]
def pqOk (y : Pq) : Prop := (I64 y.x ∧ I64 y.p ∧ I64 y.q ∧ I64 y.r ∧ I64 y.s) ∧ y.e.size ≤ maxLen ∧ y.f.size ≤ maxLen
theorem pq_of (vs : List Value) (h : OKs [LK.int .i64, LK.int .i64, LK.int .i64, LK.str, LK.int .i64, LK.int .i64, LK.str] vs) : ∃ x, vs = pqE x ∧ pqOk x := by
  obtain ⟨c0, r0, rfl, h0, h⟩ := OKs.cons h
  obtain ⟨c1, r1, rfl, h1, h⟩ := OKs.cons h
  obtain ⟨c2, r2, rfl, h2, h⟩ := OKs.cons h
  obtain ⟨c3, r3, rfl, h3, h⟩ := OKs.cons h
  obtain ⟨c4, r4, rfl, h4, h⟩ := OKs.cons h
  obtain ⟨c5, r5, rfl, h5, h⟩ := OKs.cons h
  obtain ⟨c6, r6, rfl, h6, h⟩ := OKs.cons h
  obtain rfl := OKs.nil h
  obtain ⟨a0, rfl, w0⟩ := h0
  obtain ⟨a1, rfl, w1⟩ := h1
  obtain ⟨a2, rfl, w2⟩ := h2
  obtain ⟨a3, rfl, w3⟩ := h3
  obtain ⟨a4, rfl, w4⟩ := h4
  obtain ⟨a5, rfl, w5⟩ := h5
  obtain ⟨a6, rfl, w6⟩ := h6
  exact ⟨⟨a0, a1, a2, a3, a4, a5, a6⟩, rfl, ⟨i64_wf w0, i64_wf w1, i64_wf w2, i64_wf w4, i64_wf w5⟩, w3, w6⟩
def PqAt (W : World) (a : Option Addr) (l : List Pq) : Prop := ∀ (k : Nat) y, l[k]? = some y → pqOk y ∧ ∃ g o, a = some ⟨g, o, none⟩ ∧ W.cell? ⟨g, o + k * 7, none⟩ = some (.int .i64 y.x) ∧ W.cell? ⟨g, o + k * 7 + 1, none⟩ = some (.int .i64 y.p) ∧ W.cell? ⟨g, o + k * 7 + 2, none⟩ = some (.int .i64 y.q) ∧ W.cell? ⟨g, o + k * 7 + 3, none⟩ = some (.string y.e) ∧ W.cell? ⟨g, o + k * 7 + 4, none⟩ = some (.int .i64 y.r) ∧ W.cell? ⟨g, o + k * 7 + 5, none⟩ = some (.int .i64 y.s) ∧ W.cell? ⟨g, o + k * 7 + 6, none⟩ = some (.string y.f)
theorem pq_at {W : World} {a : Option Addr} {l : List Pq} (h : IsList W a l.length 7 pqE pqOk l) : PqAt W a l := by
  intro k y hy
  obtain ⟨hk, rfl⟩ := List.getElem?_eq_some_iff.1 hy
  obtain ⟨g, o, e, hc⟩ := h.at_ (Nat.lt_of_le_of_lt (Nat.zero_le k) hk)
  obtain ⟨h1, h2⟩ := hc k hk
  refine ⟨h1, g, o, e, ?_⟩
  have key := fun j hj => (h2 j hj)
  exact ⟨by simpa using key 0 (by decide), by simpa using key 1 (by decide), by simpa using key 2 (by decide), by simpa using key 3 (by decide), by simpa using key 4 (by decide), by simpa using key 5 (by decide), by simpa using key 6 (by decide)⟩
def cfS (y : Pq) : ByteArray := stS y.x 1 0 0 ⟨#[]⟩ y.p y.q y.e y.r y.s y.f
def cfL (l : List Pq) : List ByteArray := l.map cfS
theorem cf_take {l : List Pq} {k : Nat} {y : Pq} (h : l[k]? = some y) : cfL (l.take (k + 1)) = cfL (l.take k) ++ [cfS y] := by
  unfold cfL
  rw [List.take_add_one, h]
  simp
def CRel (w : World) (l : List Pq) (vo vi : Value) (wr : World) : Prop := ∃ k : Nat, k ≤ l.length ∧ vi = .int .i64 k ∧ Hid (Strs wr w.heap.size vo (cfL (l.take k))) ∧ Hid (Below w.heap.size w wr)
def CE (l : List Pq) (w : World) (e : Ending) (w' : World) : Prop := ∃ v, e = .returned v ∧ Strs w' w.heap.size v (cfL l) ∧ Below w.heap.size w w'
theorem cf_state (y : Pq) (h : pqOk y) (W : World) : Calls Tryd.prog 10 #[.int .i64 y.x, SS 1 0 0 ⟨#[]⟩ y.p y.q y.e y.r y.s y.f] W fun e' w' => e' = .returned (.string (cfS y)) ∧ Below W.heap.size W w' :=
  state_any y.x 1 0 0 ⟨#[]⟩ y.p y.q y.e y.r y.s y.f W h.1.1 ⟨by decide, by decide⟩ ⟨by decide, by decide⟩ h.1.2.1 h.1.2.2.1 h.1.2.2.2.1 h.1.2.2.2.2 (by decide) h.2.1 h.2.2
theorem rcf_state (y : Pq) (h : pqOk y) (W : World) : Calls Tryd.prog 12 #[.int .i64 y.x, SS 1 0 0 ⟨#[]⟩ y.p y.q y.e y.r y.s y.f] W fun e' w' => e' = .returned (.string (cfS y)) ∧ Below W.heap.size W w' :=
  rstate_any y.x 1 0 0 ⟨#[]⟩ y.p y.q y.e y.r y.s y.f W h.1.1 ⟨by decide, by decide⟩ ⟨by decide, by decide⟩ h.1.2.1 h.1.2.2.1 h.1.2.2.2.1 h.1.2.2.2.2 (by decide) h.2.1 h.2.2
theorem PqAt.below {W W' : World} {a : Option Addr} {l : List Pq} (h : PqAt W a l) (hb : Below W.heap.size W W') : PqAt W' a l := by
  intro k y hy
  obtain ⟨h0, g, o, e, c0, c1, c2, c3, c4, c5, c6⟩ := h k y hy
  exact ⟨h0, g, o, e, bkeep hb c0, bkeep hb c1, bkeep hb c2, bkeep hb c3, bkeep hb c4, bkeep hb c5, bkeep hb c6⟩
set_option maxHeartbeats 3200000 in
theorem conf_any (a : Option Addr) (cap : Nat) (l : List Pq) (w : World) (hl : PqAt w a l) (hn : l.length ≤ 30) : Calls Tryd.prog 14 #[.slice a l.length cap] w (CE l w) := by
  have hE : ∀ v W, Strs W w.heap.size v (cfL l) → Below w.heap.size w W → CE l w (.returned v) W := fun v W h1 h2 => ⟨v, rfl, h1, h2⟩
  generalize CE l w = Pst at *
  replace hE := Lib.hid hE
  replace hl := Lib.hid hl
  go_enter Tryd.func14, Tryd.ntmps14
  go_wp2
  go_loopw [3, 8] (fun vo vi wr => CRel w l vo vi wr) (fun _ vi _ => l.length - (intOf vi).toNat)
  case atStart => exact ⟨0, Nat.zero_le _, rfl, Lib.hid (Strs.nil _ _), Below.refl _ _⟩
  case round =>
    obtain ⟨k, hk, rfl, hO, hB⟩ := hrel
    by_cases hlt : k < l.length
    · have hd2 : decide ((k : Int) < (l.length : Int)) = true := decide_eq_true (by omega)
      have hd3 : decide (k < l.length) = true := decide_eq_true hlt
      obtain ⟨y, hy⟩ : ∃ y, l[k]? = some y := ⟨_, List.getElem?_eq_getElem hlt⟩
      obtain ⟨hyo, g, o, rfl, p0, p1, p2, p3, p4, p5, p6⟩ := hl.out k y hy
      have hct := Lib.hid (cf_take hy)
      have hSt := Lib.hid (fun W => cf_state y hyo W)
      have p0 := bkeep hB.out p0
      have p1 := bkeep hB.out p1
      have p2 := bkeep hB.out p2
      have p3 := bkeep hB.out p3
      have p4 := bkeep hB.out p4
      have p5 := bkeep hB.out p5
      have p6 := bkeep hB.out p6
      have i1 : (0 : Int) ≤ (k : Int) := by omega
      have i2 : (k : Int) < (l.length : Int) := by omega
      have hcl : (cfL (l.take k)).length ≤ 30 := by unfold cfL; rw [List.length_map, List.length_take]; omega
      generalize cfL (l.take k) = SN at *
      generalize cfS y = cs at *
      clear hyo hy
      go_wp2_with (first | (go_at_call 10; (with_reducible refine (hSt.out _).mono ?_); rintro e3 w3 ⟨rfl, hA⟩; have hb3 := Lib.hid (bt (alb _ (.cells #[.int .i64 y.x, .int .i64 y.p, .int .i64 y.q, .string y.e, .int .i64 y.r, .int .i64 y.s, .string y.f] 39)) hA); replace hO := Lib.hid (hO.out.below hb3.out); replace hB := Lib.hid (bt hB.out hb3.out); clear hA) | (at_builtin; refine wpl_app_tx rfl (.tmp 12) (.tmp 21) _ w.heap.size _ _ SN [cs] rfl rfl (hO.out.below (alb _ _)) (tx_lit _ [cs] _ 1 rfl rfl) (by simp; omega) (bt hB.out (alb _ _)).size ?_ rfl rfl; intro v8 w8 h8 h9; replace hO := Lib.hid h8; replace hB := Lib.hid (frmB h9 (bt hB.out (alb _ _)) (bt hB.out (alb _ _)).size); clear h8 h9))
      exact ⟨⟨k + 1, by omega, by go_num, by rw [hct.out]; exact hO, hB⟩, by simp [intOf]; omega⟩
    · have hd2 : decide ((k : Int) < (l.length : Int)) = false := decide_eq_false (by omega)
      have hd3 : decide (k < l.length) = false := decide_eq_false hlt
      rw [List.take_of_length_le (by omega)] at hO
      go_wp2
      exact hE.out _ _ hO.out hB.out
end Go.Proofs.YtaddbljdheafaaaDoor
