/-
  Frames under way (chapter 26): all that a net does, whatever is under way; it works; what is too much.
-/
import Derived.Test.YtfomeiikgdiefaaNet3
namespace Go.Proofs.Ytfomeiikgdiefaa
open Go.RowKit
set_option linter.unusedVariables false
set_option linter.unusedSimpArgs false

theorem ba_beq (x y : ByteArray) : (x.toList == y.toList) = decide (x = y) := by
  by_cases h : x = y
  · subst h; simp
  · rw [decide_eq_false h]
    refine beq_eq_false_iff_ne.2 fun e => h ?_
    cases x; cases y
    rw [ByteArray.toList_eq, ByteArray.toList_eq] at e
    congr
    exact Array.toList_inj.1 e
theorem u2_dec (a c : Int) (b d : ByteArray) : decide ((a, b) = (c, d)) = (decide (a = c) && decide (b = d)) := by
  by_cases h1 : a = c
  · by_cases h2 : b = d
    · simp [h1, h2]
    · simp [h1, h2]
  · simp [h1]
theorem und_eql (a c : Int) (b d : ByteArray) (w : World) : (binOp .eql 32 (.agg #[.int .i64 a, .string b]) (.agg #[.int .i64 c, .string d])).run Try.prog w = .ok (.bool (decide ((a, b) = (c, d)))) w := by
  rw [u2_dec, ← ba_beq]
  by_cases h : a = c
  · subst h
    by_cases h3 : b.toList = d.toList <;> simp [go_sem, h3]
  · have h2 : (a == c) = false := beq_eq_false_iff_ne.2 h
    simp [go_sem, h, h2]
theorem und_neq (a c : Int) (b d : ByteArray) (w : World) : (binOp .neq 32 (.agg #[.int .i64 a, .string b]) (.agg #[.int .i64 c, .string d])).run Try.prog w = .ok (.bool (!decide ((a, b) = (c, d)))) w := by
  rw [u2_dec, ← ba_beq]
  by_cases h : a = c
  · subst h
    by_cases h3 : b.toList = d.toList <;> simp [go_sem, h3]
  · have h2 : (a == c) = false := beq_eq_false_iff_ne.2 h
    simp [go_sem, h, h2]
/-- the net, all of it behind B -/
structure NS (B p : Nat) (v : Value) (L : List U2) (w W : World) : Prop where
  nt : NT 44 W p B v L
  bel : Below B w W
  hp : B ≤ p
  hB : B ≤ W.heap.size
/-- what a step of the net leaves -/
def NP (B p : Nat) (v : Value) (L' : List U2) (w W W' : World) : Prop := ∃ v', NS B p v' L' w W' ∧ Frm (fun k => k = p ∨ some k = v.ownBlock) W W'
theorem NS.below {B p : Nat} {v : Value} {L : List U2} {w W W' : World} (h : NS B p v L w W) (hb : Below W.heap.size W W') : NS B p v L w W' :=
  ⟨h.nt.below hb, h.bel.trans (hb.mono h.hB), h.hp, Nat.le_trans h.hB hb.size⟩
theorem NS.same {B p : Nat} {v : Value} {L : List U2} {w W W' : World} (h : NS B p v L w W) (hb : Below W.heap.size W W') : NP B p v L w W W' := ⟨v, h.below hb, .ofBelow hb⟩
theorem NS.chg {B p : Nat} {L L' : List U2} {w W W' : World} {v : Value} (h : NS B p v L w W) (hc : ∃ v', NT 44 W' p B v' L' ∧ Stay W v v' ∧ Frm (fun k => k = p ∨ some k = v.ownBlock) W W') : NP B p v L' w W W' := by
  obtain ⟨v', h1, h2, h3⟩ := hc
  refine ⟨v', ⟨h1, h3.after h.bel h.hB ?_, h.hp, Nat.le_trans h.hB h3.size⟩, h3⟩
  rintro k hk (rfl | e)
  · have := h.hp; omega
  · have := (h.nt.row.lt k e.symm).1; omega
/-- a block laid behind the net stays as it is -/
theorem NS.kept {B p : Nat} {L : List U2} {w W W' : World} {v : Value} {o : Obj} (h : NS B p v L w W) (hf : Frm (fun k => k = p ∨ some k = v.ownBlock) (W.alloc o) W') : W'.heap[W.heap.size]? = some o := by
  rw [hf.block W.heap.size (by simp) ?_, heap_alloc_new]
  rintro (e | e)
  · have := h.nt.lt; omega
  · have := (h.nt.row.lt _ e.symm).2; omega
def lookV (L : List U2) (n : Int) : U2 := (L[plc n L.length]?).getD (0, ⟨#[]⟩)
def lookB (L : List U2) : Bool := decide (L ≠ [])
def takeL (L : List U2) (n : Int) : List U2 := L.eraseIdx (plc n L.length)
def dblL (L : List U2) (n : Int) : List U2 := if lookB L = true then putL (lookV L n) L else L
def dblB (L : List U2) (n : Int) : Bool := lookB L && (putE (lookV L n) L.length == 0)
theorem look_at {L : List U2} (h : L ≠ []) (hm : L.length ≤ 1000) (n : Int) : L[plc n L.length]? = some (lookV L n) ∧ lookB L = true := by
  have hl : 0 < L.length := List.length_pos_iff.2 h
  obtain ⟨_, h2⟩ := plc_eq n L.length hl (by omega)
  refine ⟨?_, decide_eq_true h⟩
  unfold lookV
  rw [List.getElem?_eq_getElem h2]; rfl
theorem put_s {B p : Nat} {v : Value} {L : List U2} {w W : World} (x : U2) (h : NS B p v L w W) (hm : L.length ≤ 1000) : Calls Try.prog 8 #[.pointer (some ⟨p, 0, none⟩), .agg #[.int .i64 x.1, .string x.2]] W fun e W' => e = .returned (.int .i64 (putE x L.length)) ∧ NP B p v (putL x L) w W W' := by
  have hn := h.nt
  exact (nput_any p B v L x.1 x.2 W hn h.hB hm).mono fun e w' hc => ⟨hc.1, h.chg hc.2⟩
theorem look_s {B p : Nat} {v : Value} {L : List U2} {w W : World} (n : Int) (h : NS B p v L w W) (hm : L.length ≤ 1000) : Calls Try.prog 17 #[.pointer (some ⟨p, 0, none⟩), .int .i64 n] W fun e W' => e = .returned (.tuple #[.agg #[.int .i64 (lookV L n).1, .string (lookV L n).2], .bool (lookB L)]) ∧ Below W.heap.size W W' := by
  have hn := h.nt
  by_cases h0 : L = []
  · subst h0
    exact (look_zero p B v n W hn).mono fun e w' hc => ⟨hc.1, hc.2⟩
  · obtain ⟨h1, h2⟩ := look_at h0 hm n
    rw [h2]
    exact (look_any p B v L n _ W hn hm h1).mono fun e w' hc => ⟨hc.1, hc.2⟩
theorem take_s {B p : Nat} {v : Value} {L : List U2} {w W : World} (n : Int) (h : NS B p v L w W) (hm : L.length ≤ 1000) : Calls Try.prog 10 #[.pointer (some ⟨p, 0, none⟩), .int .i64 n] W fun e W' => e = .returned (.tuple #[.agg #[.int .i64 (lookV L n).1, .string (lookV L n).2], .bool (lookB L)]) ∧ NP B p v (takeL L n) w W W' := by
  have hn := h.nt
  by_cases h0 : L = []
  · subst h0
    exact (take_zero p B v n W hn).mono fun e w' hc => ⟨hc.1, h.same hc.2⟩
  · obtain ⟨h1, h2⟩ := look_at h0 hm n
    rw [h2]
    exact (take_any p B v L n _ W hn hm h1).mono fun e w' hc => ⟨hc.1, h.chg hc.2⟩
theorem lose_s {B p : Nat} {v : Value} {L : List U2} {w W : World} (n : Int) (h : NS B p v L w W) (hm : L.length ≤ 1000) : Calls Try.prog 12 #[.pointer (some ⟨p, 0, none⟩), .int .i64 n] W fun e W' => e = .returned (.bool (lookB L)) ∧ NP B p v (takeL L n) w W W' := by
  have hn := h.nt
  by_cases h0 : L = []
  · subst h0
    exact (lose_zero p B v n W hn).mono fun e w' hc => ⟨hc.1, h.same hc.2⟩
  · obtain ⟨h1, h2⟩ := look_at h0 hm n
    rw [h2]
    exact (lose_any p B v L n _ W hn hm h1).mono fun e w' hc => ⟨hc.1, h.chg hc.2⟩
theorem double_s {B p : Nat} {v : Value} {L : List U2} {w W : World} (n : Int) (h : NS B p v L w W) (hm : L.length ≤ 1000) : Calls Try.prog 13 #[.pointer (some ⟨p, 0, none⟩), .int .i64 n] W fun e W' => e = .returned (.bool (dblB L n)) ∧ NP B p v (dblL L n) w W W' := by
  have hn := h.nt
  by_cases h0 : L = []
  · subst h0
    exact (double_zero p B v n W hn).mono fun e w' hc => ⟨hc.1, h.same hc.2⟩
  · obtain ⟨h1, h2⟩ := look_at h0 hm n
    unfold dblB dblL
    rw [h2, if_pos rfl, Bool.true_and]
    exact (double_any p B v L n _ W hn h.hB hm h1).mono fun e w' hc => ⟨hc.1, h.chg hc.2⟩
theorem len_s {B p : Nat} {v : Value} {L : List U2} {w W : World} (h : NS B p v L w W) (hm : L.length ≤ 1000) : Calls Try.prog 19 #[.pointer (some ⟨p, 0, none⟩)] W fun e W' => e = .returned (.int .i64 L.length) ∧ W' = W := by
  have hn := h.nt
  exact nlen_any p B v L W hn hm
theorem new_s (w : World) : Calls Try.prog 7 #[] w fun e w' => e = .returned (.pointer (some ⟨w.heap.size, 0, none⟩)) ∧ NS w.heap.size w.heap.size (.slice none 0 0) [] w w' := by
  refine (nnew_any w).mono ?_
  rintro e w' ⟨rfl, rfl⟩
  exact ⟨rfl, ⟨heap_alloc_new w _, URow.nil _ _⟩, alb w _, Nat.le_refl _, (alb w _).size⟩
/-- what a step asks -/
structure NOp where
  k : Int
  n : Int
  x : U2
def nopE (o : NOp) : List Value := [.int .i64 o.k, .int .i64 o.n, .int .i64 o.x.1, .string o.x.2]
def nopOk (o : NOp) : Prop := (Lit.int .i64 o.k).wf = true ∧ (Lit.int .i64 o.n).wf = true ∧ (Lit.int .i64 o.x.1).wf = true ∧ o.x.2.size ≤ maxLen
instance : Inhabited NOp := ⟨⟨0, 0, (0, ⟨#[]⟩)⟩⟩
theorem nop_of (vs : List Value) (h : OKs [LK.int .i64, LK.int .i64, LK.int .i64, LK.str] vs) : ∃ x, vs = nopE x ∧ nopOk x := by
  obtain ⟨c0, r0, rfl, h0, h⟩ := OKs.cons h
  obtain ⟨c1, r1, rfl, h1, h⟩ := OKs.cons h
  obtain ⟨c2, r2, rfl, h2, h⟩ := OKs.cons h
  obtain ⟨c3, r3, rfl, h3, h⟩ := OKs.cons h
  obtain rfl := OKs.nil h
  obtain ⟨a0, rfl, w0⟩ := h0
  obtain ⟨a1, rfl, w1⟩ := h1
  obtain ⟨a2, rfl, w2⟩ := h2
  obtain ⟨a3, rfl, w3⟩ := h3
  exact ⟨⟨a0, a1, (a2, a3)⟩, rfl, w0, w1, w2, w3⟩
/-- the steps lie behind a -/
def OpAt (W : World) (a : Option Addr) (l : List NOp) : Prop := ∀ (k : Nat) y, l[k]? = some y → ∃ g o, a = some ⟨g, o, none⟩ ∧ W.cell? ⟨g, o + k * 4, none⟩ = some (.int .i64 y.k) ∧ W.cell? ⟨g, o + k * 4 + 1, none⟩ = some (.int .i64 y.n) ∧ W.cell? ⟨g, o + k * 4 + 2, none⟩ = some (.int .i64 y.x.1) ∧ W.cell? ⟨g, o + k * 4 + 3, none⟩ = some (.string y.x.2)
theorem OpAt.keep {W W' : World} {a : Option Addr} {l : List NOp} (h : OpAt W a l) (hb : Below W.heap.size W W') : OpAt W' a l := by
  intro k x hk
  obtain ⟨g, o, e, h1, h2, h3, h4⟩ := h k x hk
  exact ⟨g, o, e, bkeep hb h1, bkeep hb h2, bkeep hb h3, bkeep hb h4⟩
theorem op_of {w : World} {a : Option Addr} {len : Nat} {l : List NOp} (h : IsList w a len 4 nopE nopOk l) : OpAt w a l := by
  intro k x hk
  have hkl := (List.getElem?_eq_some_iff.1 hk).1
  have hx := (List.getElem?_eq_some_iff.1 hk).2
  have hse := h.size_eq
  obtain ⟨b, o, e, hc⟩ := h.at_ (by omega)
  have h2 := (hc k hkl).2
  rw [hx] at h2
  exact ⟨b, o, e, h2 0 (by omega), h2 1 (by omega), h2 2 (by omega), h2 3 (by omega)⟩
def greatB (l : List NOp) : Bool := decide (400 < l.length) || l.any fun y => decide (1000 < y.x.2.size)
set_option maxHeartbeats 1600000 in
theorem great_any (a : Option Addr) (cap : Nat) (l : List NOp) (w : World) (hl : OpAt w a l) (hm : l.length ≤ 9223372036854775807) :
    Calls Try.prog 6 #[.slice a l.length cap] w fun e w' => e = .returned (.bool (greatB l)) ∧ Below w.heap.size w w' := by
  have hl := Lib.hid hl
  obtain ⟨G, hG⟩ : ∃ G, greatB l = G := ⟨_, rfl⟩
  have hG1 : ∀ y, y ∈ l → 1000 < y.x.2.size → true = G := fun y hy h => by rw [← hG]; unfold greatB; rw [List.any_eq_true.2 ⟨y, hy, decide_eq_true h⟩, Bool.or_true]
  have hG2 : 400 < l.length → true = G := fun h => by rw [← hG]; unfold greatB; rw [decide_eq_true h, Bool.true_or]
  have hG3 : ¬ 400 < l.length → (∀ y, y ∈ l → ¬ 1000 < y.x.2.size) → false = G := fun h h2 => by
    rw [← hG]; unfold greatB
    rw [decide_eq_false h, Bool.false_or]
    exact (List.any_eq_false.2 fun y hy => by simpa using h2 y hy).symm
  rw [hG]
  clear hG
  have hG1 := Lib.hid hG1
  have hG2 := Lib.hid hG2
  have hG3 := Lib.hid hG3
  go_enter Try.func6, Try.ntmps6
  go_wp2
  go_loopw [3] (fun i wr => ∃ k : Nat, k ≤ l.length ∧ k ≤ 400 ∧ i = .int .i64 k ∧ Hid (∀ j y, j < k → l[j]? = some y → ¬ 1000 < y.x.2.size) ∧ Hid (Below w.heap.size w wr)) (fun i _ => l.length - (intOf i).toNat)
  case atStart => exact ⟨0, Nat.zero_le _, Nat.zero_le _, rfl, fun j y h => absurd h (Nat.not_lt_zero _), Below.refl _ _⟩
  case round =>
    obtain ⟨k, hk, hk4, rfl, hN, hB⟩ := hrel
    by_cases hlt : k < l.length
    · have hd2 : decide ((k : Int) < (l.length : Int)) = true := decide_eq_true (by omega)
      obtain ⟨y, hy⟩ : ∃ y, l[k]? = some y := ⟨_, List.getElem?_eq_getElem hlt⟩
      obtain ⟨g, o, rfl, p1, p2, p3, p4⟩ := hl.out k _ hy
      have p4 := bkeep hB.out p4
      have i1 : (0 : Int) ≤ (k : Int) := by omega
      have i2 : (k : Int) < (l.length : Int) := by omega
      have hfin := Lib.hid (fun m => bdraws hB.out m)
      by_cases h4 : 400 ≤ k
      · have e4 : decide ((400 : Int) ≤ (k : Int)) = true := decide_eq_true (by omega)
        have e5 : decide (400 ≤ k) = true := decide_eq_true h4
        have hGG := hG2.out (by omega)
        subst hGG
        clear hy p1 p2 p3
        go_wp2
        go_ret
        exact ⟨rfl, hB.out⟩
      · have e4 : decide ((400 : Int) ≤ (k : Int)) = false := decide_eq_false (by omega)
        have e5 : decide (400 ≤ k) = false := decide_eq_false h4
        clear p1 p2 p3
        by_cases h6 : 1000 < y.x.2.size
        · have hGG := hG1.out y (List.mem_of_getElem? hy) h6
          subst hGG
          clear hy
          have e6 : decide ((1000 : Int) < (y.x.2.size : Int)) = true := decide_eq_true (by omega)
          have e7 : decide (1000 < y.x.2.size) = true := decide_eq_true h6
          go_wp2
          go_ret
          exact ⟨rfl, hB.out⟩
        · have e6 : decide ((1000 : Int) < (y.x.2.size : Int)) = false := decide_eq_false (by omega)
          have e7 : decide (1000 < y.x.2.size) = false := decide_eq_false h6
          have hN2 : Hid (∀ j y, j < k + 1 → l[j]? = some y → ¬ 1000 < y.x.2.size) := by
            intro j z hj hz
            by_cases e : j = k
            · subst e; rw [hy] at hz; injection hz with hz; subst hz; exact h6
            · exact hN.out j z (by omega) hz
          clear hy
          go_wp2
          exact ⟨⟨k + 1, by omega, by omega, by go_num, hN2, hB⟩, by simp [intOf]; omega⟩
    · have hd2 : decide ((k : Int) < (l.length : Int)) = false := decide_eq_false (by omega)
      have hGG := hG3.out (by omega) (fun y hy => by
        obtain ⟨j, hj⟩ := List.mem_iff_getElem?.1 hy
        exact hN.out j y (by have := (List.getElem?_eq_some_iff.1 hj).1; omega) hj)
      subst hGG
      go_wp2
      go_ret
      exact ⟨rfl, hB.out⟩
set_option maxHeartbeats 1600000 in
theorem works_any (w : World) : Calls Try.prog 5 #[] w fun e w' => e = .returned (.bool true) ∧ Below w.heap.size w w' := by
  have h1 := new_s w
  have ha : putE (0, ⟨#[97]⟩) 0 = 0 ∧ putL (0, ⟨#[97]⟩) [] = [(0, ⟨#[97]⟩)] := by decide
  have hb : putE (0, ⟨#[98]⟩) 1 = 0 ∧ putL (0, ⟨#[98]⟩) [(0, ⟨#[97]⟩)] = [(0, ⟨#[97]⟩), (0, ⟨#[98]⟩)] := by decide
  have hc : putE (0, ⟨#[99]⟩) 2 = 0 ∧ putL (0, ⟨#[99]⟩) [(0, ⟨#[97]⟩), (0, ⟨#[98]⟩)] = [(0, ⟨#[97]⟩), (0, ⟨#[98]⟩), (0, ⟨#[99]⟩)] := by decide
  have ht : lookV [(0, ⟨#[97]⟩), (0, ⟨#[98]⟩), (0, ⟨#[99]⟩)] 4 = (0, ⟨#[98]⟩) ∧ takeL [(0, ⟨#[97]⟩), (0, ⟨#[98]⟩), (0, ⟨#[99]⟩)] 4 = [(0, ⟨#[97]⟩), (0, ⟨#[99]⟩)] := by decide +kernel
  have hu : lookV [(0, ⟨#[97]⟩), (0, ⟨#[99]⟩)] 1 = (0, ⟨#[99]⟩) ∧ takeL [(0, ⟨#[97]⟩), (0, ⟨#[99]⟩)] 1 = [(0, ⟨#[97]⟩)] := by decide +kernel
  have c1 := fun v W h => put_s (v := v) (B := w.heap.size) (p := w.heap.size) (L := []) (w := w) (W := W) (0, ⟨#[97]⟩) h (by decide)
  have c2 := fun v W h => put_s (v := v) (B := w.heap.size) (p := w.heap.size) (L := [(0, ⟨#[97]⟩)]) (w := w) (W := W) (0, ⟨#[98]⟩) h (by decide)
  have c3 := fun v W h => put_s (v := v) (B := w.heap.size) (p := w.heap.size) (L := [(0, ⟨#[97]⟩), (0, ⟨#[98]⟩)]) (w := w) (W := W) (0, ⟨#[99]⟩) h (by decide)
  have c4 := fun v W h => take_s (v := v) (B := w.heap.size) (p := w.heap.size) (L := [(0, ⟨#[97]⟩), (0, ⟨#[98]⟩), (0, ⟨#[99]⟩)]) (w := w) (W := W) 4 h (by decide)
  have c5 := fun v W h => take_s (v := v) (B := w.heap.size) (p := w.heap.size) (L := [(0, ⟨#[97]⟩), (0, ⟨#[99]⟩)]) (w := w) (W := W) 1 h (by decide)
  have c6 := fun v W h => len_s (v := v) (B := w.heap.size) (p := w.heap.size) (L := [(0, ⟨#[97]⟩)]) (w := w) (W := W) h (by decide)
  simp only [List.length_nil, List.length_cons, Nat.zero_add, Nat.reduceAdd, ha.1, ha.2, hb.1, hb.2, hc.1, hc.2, ht.1, ht.2, hu.1, hu.2] at c1 c2 c3 c4 c5 c6
  have k4 : lookB [(0, ⟨#[97]⟩), (0, ⟨#[98]⟩), (0, ⟨#[99]⟩)] = true := by decide
  have k5 : lookB [(0, ⟨#[97]⟩), (0, ⟨#[99]⟩)] = true := by decide
  rw [k4] at c4
  rw [k5] at c5
  have c1 := Lib.hid c1
  have c2 := Lib.hid c2
  have c3 := Lib.hid c3
  have c4 := Lib.hid c4
  have c5 := Lib.hid c5
  have c6 := Lib.hid c6
  clear ha hb hc ht hu k4 k5
  go_enter Try.func5, Try.ntmps5
  go_wp2_with (first | (go_at_call 7; (with_reducible refine h1.mono ?_); rintro e w1 ⟨rfl, n1⟩) | (go_at_call 8; first | ((with_reducible refine (c1.out _ _ n1).mono ?_); rintro e w2 ⟨rfl, v2, n2, _⟩) | ((with_reducible refine (c2.out _ _ n2).mono ?_); rintro e w3 ⟨rfl, v3, n3, _⟩) | ((with_reducible refine (c3.out _ _ n3).mono ?_); rintro e w4 ⟨rfl, v4, n4, _⟩)) | (go_at_call 10; first | ((with_reducible refine (c4.out _ _ n4).mono ?_); rintro e w5 ⟨rfl, v5, n5, _⟩; have n5' := n5.below (alb w5 (.cells #[.int .i64 0, .string ⟨#[98]⟩] 32))) | ((with_reducible refine (c5.out _ _ n5').mono ?_); rintro e w6 ⟨rfl, v6, n6, f6⟩; have y5 := (cell_of_row w6 w5.heap.size 1 _ _ _ (n5.kept f6)); have y5' := bkeep (alb w6 (.cells #[.int .i64 0, .string ⟨#[99]⟩] 32)) y5)) | (go_at_call 19; (with_reducible refine (c6.out _ _ (n6.below (alb w6 (.cells #[.int .i64 0, .string ⟨#[99]⟩] 32)))).mono ?_); rintro e w7 ⟨rfl, rfl⟩))
  go_ret
  exact ⟨rfl, (n6.below (alb w6 _)).bel⟩
end Go.Proofs.Ytfomeiikgdiefaa
