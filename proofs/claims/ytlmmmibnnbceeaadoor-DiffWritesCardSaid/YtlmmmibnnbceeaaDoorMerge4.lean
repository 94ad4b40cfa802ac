/-
  Two versions of a base (chapter 41): merged, whatever they are; the statements' own questions.
-/
import Derived.Test.YtlmmmibnnbceeaaDoorMerge3
import Derived.BigQuiet
namespace Go.Proofs.YtlmmmibnnbceeaaDoor
open Go.RowKit
set_option linter.unusedVariables false
set_option linter.unusedSimpArgs false

def mrgS (o a b : ByteArray) : ByteArray := if a.size = o.size ∧ b.size = o.size then mS o a b else ⟨#[]⟩
def mrgL (o a b : ByteArray) : List (Nat × Nat) := if a.size = o.size ∧ b.size = o.size then rs (pC o a b) o.size else []
theorem merge_any (o a b : ByteArray) (w : World) (ho : o.size ≤ 1500) :
    Calls Tryd.prog 12 #[.string o, .string a, .string b] w fun e w' => (∃ v B, e = .returned (.tuple #[.string (mrgS o a b), v, .int .i64 (szE o a b)]) ∧ w.heap.size ≤ B ∧ SpRow w' B v (mrgL o a b)) ∧ Below w.heap.size w w' := by
  by_cases h : a.size = o.size ∧ b.size = o.size
  · unfold mrgS mrgL szE
    rw [if_pos h, if_pos h, if_pos h]
    exact merge_eq o a b o.size rfl h.1 h.2 ho w
  · have hz : szE o a b = 12 := by unfold szE; rw [if_neg h]
    have h1 : mrgS o a b = ⟨#[]⟩ := by unfold mrgS; rw [if_neg h]
    have h2 : mrgL o a b = [] := by unfold mrgL; rw [if_neg h]
    rw [hz, h1, h2]
    have hck := Lib.hid (fun w => checked_any o a b w)
    rw [hz] at hck
    obtain ⟨W0, hW0⟩ : ∃ W0, (w.alloc (.cells #[.string b] 9)).alloc (.cells #[.string o, .string a, .string b] 49) = W0 := ⟨_, rfl⟩
    have hb0 : Below w.heap.size w W0 := hW0 ▸ ((Below.refl _ w).alloc (Nat.le_refl _) _).alloc (by simp) _
    have c0 : W0.cell? ⟨w.heap.size + 1, 0, none⟩ = some (.string o) := by rw [← hW0]; simp [go_sem]
    have c1 : W0.cell? ⟨w.heap.size + 1, 1, none⟩ = some (.string a) := by rw [← hW0]; simp [go_sem]
    have c2 : W0.cell? ⟨w.heap.size + 1, 2, none⟩ = some (.string b) := by rw [← hW0]; simp [go_sem]
    go_enter Tryd.func12, Tryd.ntmps12
    go_wp2_with fail
    refine (hck.out _).mono ?_
    rintro e w1 ⟨rfl, hb1⟩
    have hbb := Lib.hid (bt hb0 hb1)
    clear hW0 hb0 c0 c1 c2 hb1
    go_wp2
    refine bodyPost_ret (v := .tuple #[.string ⟨#[]⟩, .slice none 0 0, .int .i64 12]) (by simp [results, Tryd.f12, go_sem]) rfl ?_
    exact ⟨⟨_, w1.heap.size, rfl, hbb.out.size, ⟨rfl, .inl ⟨rfl, rfl⟩⟩⟩, hbb.out⟩
/-- v reads as the runs l -/
def SpAt (W : World) (v : Value) (l : List (Nat × Nat)) : Prop := ∃ av c, v = .slice av l.length c ∧ ∀ k x, l[k]? = some x → ∃ g, av = some ⟨g, 0, none⟩ ∧ W.cell? ⟨g, k * 2, none⟩ = some (.int .i64 x.1) ∧ W.cell? ⟨g, k * 2 + 1, none⟩ = some (.int .i64 x.2)
theorem SpRow.at {W : World} {B : Nat} {v : Value} {l : List (Nat × Nat)} (h : SpRow W B v l) : SpAt W v l := by
  by_cases e : l = []
  · subst e
    obtain ⟨a, c, rfl⟩ := h.any
    exact ⟨a, c, rfl, fun k x hk => by simp at hk⟩
  · obtain ⟨g, c, rfl, _, _⟩ := h.slice e
    exact ⟨_, c, rfl, fun k x hk => ⟨g, rfl, h.cells k x hk⟩⟩
theorem SpAt.keep {W W' : World} {v : Value} {l : List (Nat × Nat)} (h : SpAt W v l) (hb : Below W.heap.size W W') : SpAt W' v l := by
  obtain ⟨av, c, rfl, h⟩ := h
  exact ⟨av, c, rfl, fun k x hk => by obtain ⟨g, e, h1, h2⟩ := h k x hk; exact ⟨g, e, bkeep hb h1, bkeep hb h2⟩⟩
set_option maxHeartbeats 1600000 in
theorem same_eq (u v : Value) (l : List (Nat × Nat)) (w : World) (hu : SpAt w u l) (hv : SpAt w v l) (hm : l.length ≤ 1000001) :
    Calls Tryd.prog 13 #[u, v] w fun e w' => e = .returned (.bool true) ∧ Below w.heap.size w w' := by
  obtain ⟨au, cu, rfl, hu⟩ := hu
  obtain ⟨av, cv, rfl, hv⟩ := hv
  have hu := Lib.hid hu
  have hv := Lib.hid hv
  go_enter Tryd.func13, Tryd.ntmps13
  go_wp2
  go_loopw [5] (fun i wr => ∃ k : Nat, k ≤ l.length ∧ i = .int .i64 k ∧ Hid (Below w.heap.size w wr)) (fun i _ => l.length - (intOf i).toNat)
  case atStart => exact ⟨0, Nat.zero_le _, rfl, Below.refl _ _⟩
  case round =>
    obtain ⟨k, hk, rfl, hB⟩ := hrel
    by_cases hlt : k < l.length
    · have hd : decide ((k : Int) < (l.length : Int)) = true := decide_eq_true (by omega)
      obtain ⟨⟨x1, x2⟩, hx⟩ : ∃ x, l[k]? = some x := ⟨l[k], List.getElem?_eq_getElem hlt⟩
      obtain ⟨g, rfl, p1, p2⟩ := hu.out k _ hx
      obtain ⟨g', rfl, q1, q2⟩ := hv.out k _ hx
      have p1 := bkeep hB.out p1
      have p2 := bkeep hB.out p2
      have q1 := bkeep hB.out q1
      have q2 := bkeep hB.out q2
      have i1 : (0 : Int) ≤ (k : Int) := by omega
      have i2 : (k : Int) < (l.length : Int) := by omega
      have heq : ∀ W, (binOp .neq 38 (.agg #[.int .i64 x1, .int .i64 x2]) (.agg #[.int .i64 x1, .int .i64 x2])).run Tryd.prog W = .ok (.bool false) W := fun W => by simp [go_sem]
      have hfin := Lib.hid (fun m => bdraws hB.out m)
      clear hx
      go_wp2_with fail
      go_quiet (fail)
      go_wp2
      exact ⟨⟨k + 1, by omega, by go_num, hfin.out _⟩, by simp [intOf]; omega⟩
    · have hd : decide ((k : Int) < (l.length : Int)) = false := decide_eq_false (by omega)
      go_wp2
      go_ret
      exact ⟨rfl, hB.out⟩
set_option maxHeartbeats 1600000 in
theorem long_any (w : World) (g c : Nat) (l : List ByteArray) (hl : l.length ≤ 1000) (hc : ∀ k t, l[k]? = some t → w.cell? ⟨g, k, none⟩ = some (.string t)) :
    Calls Tryd.prog 5 #[.slice (some ⟨g, 0, none⟩) l.length c] w fun e w' => e = .returned (.bool (l.any fun t => decide (1500 < t.size))) ∧ Below w.heap.size w w' := by
  have hc := Lib.hid hc
  have hE0 : ∀ (v : Bool) W, v = (l.any fun t => decide (1500 < t.size)) → Below w.heap.size w W → (fun (e1 : Ending) (w' : World) => e1 = .returned (.bool (l.any fun t => decide (1500 < t.size))) ∧ Below w.heap.size w w') (.returned (.bool v)) W := by
    rintro v W rfl hb
    exact ⟨rfl, hb⟩
  generalize (fun (e1 : Ending) (w' : World) => e1 = .returned (.bool (l.any fun t => decide (1500 < t.size))) ∧ Below w.heap.size w w') = Pst at *
  have hE := Lib.hid hE0
  clear hE0
  go_enter Tryd.func5, Tryd.ntmps5
  go_wp2
  go_loopw [3] (fun i wr => ∃ k : Nat, k ≤ l.length ∧ i = .int .i64 k ∧ Hid ((l.take k).any (fun t => decide (1500 < t.size)) = false) ∧ Hid (Below w.heap.size w wr)) (fun i _ => l.length - (intOf i).toNat)
  case atStart => exact ⟨0, Nat.zero_le _, rfl, rfl, Below.refl _ _⟩
  case round =>
    obtain ⟨k, hk, rfl, hT, hB⟩ := hrel
    by_cases hlt : k < l.length
    · have hd : decide ((k : Int) < (l.length : Int)) = true := decide_eq_true (by omega)
      obtain ⟨t, hx⟩ : ∃ x, l[k]? = some x := ⟨l[k], List.getElem?_eq_getElem hlt⟩
      have p1 := bkeep hB.out (hc.out k t hx)
      have i1 : (0 : Int) ≤ (k : Int) := by omega
      have i2 : (k : Int) < (l.length : Int) := by omega
      by_cases hbig : 1500 < t.size
      · have hd2 : decide (1500 < (t.size : Int)) = true := decide_eq_true (by omega)
        have hv : Hid (true = (l.any fun t => decide (1500 < t.size))) := by
          show true = _
          symm; rw [List.any_eq_true]; exact ⟨t, List.mem_of_getElem? hx, decide_eq_true hbig⟩
        clear hx
        go_wp2
        exact hE.out _ _ hv.out hB.out
      · have hd2 : decide (1500 < (t.size : Int)) = false := decide_eq_false (by omega)
        have hT2 : Hid ((l.take (k + 1)).any (fun t => decide (1500 < t.size)) = false) := by
          show _ = false
          rw [List.take_add_one, hx, Option.toList_some, List.any_append, hT.out, List.any_cons, List.any_nil, decide_eq_false hbig]; rfl
        clear hx
        go_wp2
        exact ⟨⟨k + 1, by omega, by go_num, hT2, hB.out⟩, by simp [intOf]; omega⟩
    · have hd : decide ((k : Int) < (l.length : Int)) = false := decide_eq_false (by omega)
      have hv : Hid (false = (l.any fun t => decide (1500 < t.size))) := by
        have h := hT.out
        rw [show k = l.length by omega, List.take_length] at h
        exact h.symm
      go_wp2
      exact hE.out _ _ hv.out hB.out
theorem row2 (w : World) (T : TypeId) (x y : ByteArray) (k : Nat) (t : ByteArray) (h : [x, y][k]? = some t) : (w.alloc (.cells #[.string x, .string y] T)).cell? ⟨w.heap.size, k, none⟩ = some (.string t) := by
  match k, h with
  | 0, h => simp at h; subst h; simp [go_sem]
  | 1, h => simp at h; subst h; simp [go_sem]
  | k + 2, h => simp at h
theorem row3 (w : World) (T : TypeId) (x y z : ByteArray) (k : Nat) (t : ByteArray) (h : [x, y, z][k]? = some t) : (w.alloc (.cells #[.string x, .string y, .string z] T)).cell? ⟨w.heap.size, k, none⟩ = some (.string t) := by
  match k, h with
  | 0, h => simp at h; subst h; simp [go_sem]
  | 1, h => simp at h; subst h; simp [go_sem]
  | 2, h => simp at h; subst h; simp [go_sem]
  | k + 3, h => simp at h
theorem litSp (w : World) (T : TypeId) (x y : Nat) : SpAt (w.alloc (.cells #[.int .i64 x, .int .i64 y] T)) (.slice (some ⟨w.heap.size, 0, none⟩) 1 1) [(x, y)] := by
  refine ⟨_, 1, rfl, fun k x' h => ?_⟩
  match k, h with
  | 0, h => simp at h; subst h; exact ⟨_, rfl, by simp [go_sem], by simp [go_sem]⟩
  | k + 1, h => simp at h
theorem lit13 (w : World) (T : TypeId) : SpAt (w.alloc (.cells #[.int .i64 1, .int .i64 3] T)) (.slice (some ⟨w.heap.size, 0, none⟩) 1 1) [(1, 3)] := litSp w T 1 3
theorem spans_of {a b : ByteArray} {l : List (Nat × Nat)} (hl : rs (pS a b) (max a.size b.size) = l) (w : World) (ha : a.size ≤ 1500) (hb : b.size ≤ 1500) :
    Calls Tryd.prog 14 #[.string a, .string b] w fun e w' => (∃ v, e = .returned v ∧ SpAt w' v l) ∧ Below w.heap.size w w' := by
  refine (spans_any a b w ha hb).mono ?_
  rintro e w' ⟨⟨v, B, rfl, hB, hr⟩, hb⟩
  exact ⟨⟨v, rfl, hl ▸ hr.at⟩, hb⟩
theorem merge_of {o a b s : ByteArray} {l : List (Nat × Nat)} {n : Int} (hs : mrgS o a b = s) (hl : mrgL o a b = l) (hn : szE o a b = n) (w : World) (ho : o.size ≤ 1500) :
    Calls Tryd.prog 12 #[.string o, .string a, .string b] w fun e w' => (∃ v, e = .returned (.tuple #[.string s, v, .int .i64 n]) ∧ SpAt w' v l) ∧ Below w.heap.size w w' := by
  refine (merge_any o a b w ho).mono ?_
  rintro e w' ⟨⟨v, B, rfl, hB, hr⟩, hb⟩
  exact ⟨⟨v, by rw [hs, hn], hl ▸ hr.at⟩, hb⟩
theorem lm1 : mrgS ⟨#[97, 98, 99, 100]⟩ ⟨#[65, 98, 99, 100]⟩ ⟨#[97, 98, 99, 68]⟩ = ⟨#[65, 98, 99, 68]⟩ ∧ mrgL ⟨#[97, 98, 99, 100]⟩ ⟨#[65, 98, 99, 100]⟩ ⟨#[97, 98, 99, 68]⟩ = [] ∧ szE ⟨#[97, 98, 99, 100]⟩ ⟨#[65, 98, 99, 100]⟩ ⟨#[97, 98, 99, 68]⟩ = 0 := by decide +kernel
theorem lm2 : rs (pS ⟨#[97, 98, 99, 100]⟩ ⟨#[97, 120, 121, 100]⟩) (max (ByteArray.mk #[97, 98, 99, 100]).size (ByteArray.mk #[97, 120, 121, 100]).size) = [(1, 3)] := by decide +kernel
theorem sp_len {W : World} {v : Value} {l : List (Nat × Nat)} (h : SpAt W v l) : ∃ a c, v = .slice a l.length c := by
  obtain ⟨a, c, e, _⟩ := h
  exact ⟨a, c, e⟩
set_option maxHeartbeats 3200000 in
theorem works_any (w : World) : Calls Tryd.prog 4 #[] w fun e w' => e = .returned (.bool true) ∧ Below w.heap.size w w' := by
  go_enter Tryd.func4, Tryd.ntmps4
  go_wp2_with (first | (go_at_call 12; (with_reducible refine (merge_of lm1.1 lm1.2.1 lm1.2.2 _ (by decide)).mono ?_); rintro e w1 ⟨⟨v1, rfl, hv1⟩, hb1⟩; obtain ⟨a1, c1, rfl⟩ := sp_len hv1) | (go_at_call 14; (with_reducible refine (spans_of lm2 _ (by decide) (by decide)).mono ?_); rintro e w2 ⟨⟨v2, rfl, hv2⟩, hb2⟩) | (go_at_call 13; (with_reducible refine (same_eq _ _ _ _ (hv2.keep (alb' _ (.cells #[.int .i64 1, .int .i64 3] 38))) (lit13 _ 38) (by decide)).mono ?_); rintro e w4 ⟨rfl, hb4⟩))
  go_ret
  exact ⟨rfl, bt (bt (bt hb1 hb2) (alb' _ _)) hb4⟩
end Go.Proofs.YtlmmmibnnbceeaaDoor
