/-
  The ring and its reference: what each answers, of the list alone.
-/
import Derived.Test.YtmjkahbjpkkdgaaRingRef
import Derived.Test.YtmjkahbjpkkdgaaRingNone
namespace Go.Proofs.Ytmjkahbjpkkdgaa
open Go.RowKit
set_option linter.unusedVariables false
set_option linter.unusedSimpArgs false

def pE (L : List Int) (c : Nat) : Int := if L.length < c then 0 else 6
def pL (L : List Int) (c : Nat) (x : Int) : List Int := if L.length < c then L ++ [x] else L
def dK (L : List Int) (i : Int) : Nat := (min (max i 0) (L.length : Int)).toNat
def RGx (w : World) (r g : Nat) (L : List Int) (c : Nat) : Prop := ∃ C fr, RGI w r g fr L.length C ∧ C.length = c ∧ LI C fr L.length = L
theorem RGx.frm {S : Nat → Prop} {w w' : World} {r g c : Nat} {L : List Int} (h : RGx w r g L c) (hf : Frm S w w') (h1 : ¬ S r) (h2 : ¬ S g) : RGx w' r g L c := by
  obtain ⟨C, fr, h, hc, hl⟩ := h
  exact ⟨C, fr, h.frm hf h1 h2, hc, hl⟩
theorem RGx.below {w w' : World} {r g c : Nat} {L : List Int} (h : RGx w r g L c) (hb : Below w.heap.size w w') : RGx w' r g L c := h.frm (S := fun _ => False) (.ofBelow hb) id id
theorem RGx.le {w : World} {r g c : Nat} {L : List Int} (h : RGx w r g L c) : L.length ≤ c ∧ c ≤ 1000 := by
  obtain ⟨C, fr, h, hc, hl⟩ := h
  exact hc ▸ ⟨h.hn, h.hm⟩
theorem atVI_tuple (L : List Int) (i : Int) : ∃ x ok, atVI L i = .tuple #[.int .i64 x, .bool ok] := by
  unfold atVI
  split
  · exact ⟨_, _, rfl⟩
  · exact ⟨_, _, rfl⟩
theorem gpush (r g c : Nat) (L : List Int) (x : Int) (w : World) (h : RGx w r g L c) : Calls Try.prog 9 #[.pointer (some ⟨r, 0, none⟩), .int .i64 x] w fun e w' =>
    e = .returned (.int .i64 (pE L c)) ∧ RGx w' r g (pL L c x) c ∧ Frm (fun k => k = r ∨ k = g) w w' := by
  have hx := h
  obtain ⟨C, fr, h, rfl, hl⟩ := h
  unfold pE pL
  by_cases hlt : L.length < C.length
  · rw [if_pos hlt, if_pos hlt]
    refine (pushI_ok r g fr L.length C x w h hlt).mono ?_
    rintro e w' ⟨rfl, h1, h2⟩
    have e1 : (L ++ [x]).length = L.length + 1 := by simp
    exact ⟨rfl, ⟨_, fr, by rw [e1]; exact h1, by rw [List.length_set], by rw [e1]; exact (rgL_push _ _ _ _ _ hlt).trans (congrArg (· ++ [x]) hl)⟩, h2⟩
  · rw [if_neg hlt, if_neg hlt]
    refine (pushI_full r g fr L.length C x w h (by have := h.hn; omega)).mono ?_
    rintro e w' ⟨rfl, m, rfl⟩
    exact ⟨rfl, hx.below (bdraws0 w m), (Frm.refl _ w).drewN m⟩
theorem gat (r g c : Nat) (L : List Int) (i : Int) (w : World) (h : RGx w r g L c) : Calls Try.prog 15 #[.pointer (some ⟨r, 0, none⟩), .int .i64 i] w fun e w' => e = .returned (atVI L i) ∧ ∃ m, w' = w.drewN m := by
  obtain ⟨C, fr, h, rfl, hl⟩ := h
  have := atI_any r g fr L.length C i w h
  rwa [hl] at this
theorem gdrop (r g c : Nat) (L : List Int) (i : Int) (w : World) (h : RGx w r g L c) (hi : -9223372036854775808 ≤ i ∧ i ≤ 9223372036854775807) : Calls Try.prog 14 #[.pointer (some ⟨r, 0, none⟩), .int .i64 i] w fun e w' =>
    e = .returned (.int .i64 (dK L i)) ∧ RGx w' r g (L.drop (dK L i)) c ∧ Frm (fun k => k = r ∨ k = g) w w' := by
  obtain ⟨C, fr, h, rfl, hl⟩ := h
  refine (dropI_any r g fr L.length C i w h hi).mono ?_
  rintro e w' ⟨rfl, ⟨D, fr', h1, h2, h3⟩, h4⟩
  have e1 : (L.drop (dK L i)).length = L.length - dK L i := List.length_drop
  refine ⟨rfl, ⟨D, fr', by rw [e1]; exact h1, h2, ?_⟩, h4⟩
  rw [e1]
  exact h3.trans (by rw [hl]; rfl)
theorem gpop (r g c : Nat) (L : List Int) (w : World) (h : RGx w r g L c) : Calls Try.prog 11 #[.pointer (some ⟨r, 0, none⟩)] w fun e w' =>
    e = .returned (atVI L 0) ∧ RGx w' r g (L.drop (dK L 1)) c ∧ Frm (fun k => k = r ∨ k = g) w w' := by
  obtain ⟨C, fr, h, rfl, hl⟩ := h
  have hp := popI_any r g fr L.length C w h
  rw [hl] at hp
  refine hp.mono ?_
  rintro e w' ⟨rfl, ⟨D, fr', h1, h2, h3⟩, h4⟩
  have e0 : L.drop (dK L 1) = L.tail := by
    cases L with
    | nil => simp
    | cons a L => have : dK (a :: L) 1 = 1 := by unfold dK; simp; omega
                  rw [this]; rfl
  have e1 : L.tail.length = L.length - 1 := List.length_tail
  refine ⟨rfl, ⟨D, fr', by rw [e0, e1]; exact h1, h2, ?_⟩, h4⟩
  rw [e0, e1]
  exact h3
theorem glen (r g c : Nat) (L : List Int) (w : World) (h : RGx w r g L c) : Calls Try.prog 16 #[.pointer (some ⟨r, 0, none⟩)] w fun e w' => e = .returned (.int .i64 L.length) ∧ w' = w := by
  obtain ⟨C, fr, h, rfl, hl⟩ := h
  exact (lenI_any r g fr L.length C w h).mono fun e w' h => ⟨h.1, h.2.symm⟩
theorem groom (r g c : Nat) (L : List Int) (w : World) (h : RGx w r g L c) : Calls Try.prog 17 #[.pointer (some ⟨r, 0, none⟩)] w fun e w' => e = .returned (.int .i64 ((c - L.length : Nat) : Int)) ∧ ∃ m, w' = w.drewN m := by
  obtain ⟨C, fr, h, rfl, hl⟩ := h
  exact roomI_any r g fr L.length C w h
theorem gpush2 (q B : Nat) (L : List Int) (n : Nat) (x : Int) (w : World) (h : RFx w q B L n) (hB : B ≤ w.heap.size) (hl : L.length ≤ n) (hn : n ≤ 1000) : Calls Try.prog 10 #[.pointer (some ⟨q, 0, none⟩), .int .i64 x] w fun e w' =>
    e = .returned (.int .i64 (pE L n)) ∧ RFx w' q B (pL L n x) n ∧ Frm (· = q) w w' := by
  unfold pE pL
  by_cases hlt : L.length < n
  · rw [if_pos hlt, if_pos hlt]
    exact rpush_ok q B L n x w h hB hlt hn
  · rw [if_neg hlt, if_neg hlt]
    refine (rpush_full q B L n x w h hlt (by omega)).mono ?_
    rintro e w' ⟨rfl, m, rfl⟩
    exact ⟨rfl, h.below (bdraws0 w m), (Frm.refl _ w).drewN m⟩
theorem does1_any (i x : Int) (c6 c16 c17 q cnt : Nat) (b : Bool) (L : List Int) (w : World) (h6 : w.cell? ⟨c6, 0, none⟩ = some (.pointer (some ⟨q, 0, none⟩))) (h16 : w.cell? ⟨c16, 0, none⟩ = some (.int .i64 cnt)) (h17 : w.cell? ⟨c17, 0, none⟩ = some (.bool b))
    (f16 : w.frozen? ⟨c16, 0, none⟩ = false) (f17 : w.frozen? ⟨c17, 0, none⟩ = false) (hne : c16 ≠ c17) (hR : RA w q L) (hL : L.length ≤ 1000) (hc : cnt ≤ 1000) :
    Calls Try.prog 19 #[.int .i64 i, .int .i64 x, .pointer (some ⟨c6, 0, none⟩), .pointer (some ⟨c16, 0, none⟩), .pointer (some ⟨c17, 0, none⟩)] w fun e w' => e = .returned (.bool true) ∧
      ∃ b', w' = (w.setCell ⟨c17, 0, none⟩ (.bool b')).setCell ⟨c16, 0, none⟩ (.int .i64 ((cnt + 1 : Nat) : Int)) ∧ (b = true → i = cnt → atVI L cnt = .tuple #[.int .i64 x, .bool true] → b' = true) := by
  have hA := ra_any q L cnt w hR hL
  obtain ⟨y, ok, hv⟩ := atVI_tuple L cnt
  rw [hv] at hA ⊢
  have hA := Lib.hid hA
  have e1 : IntKind.i64.wrap ((cnt : Int) + 1) = ((cnt + 1 : Nat) : Int) := by rw [IntWalk.i64_in _ (by omega)]; omega
  have hs : ∀ v, (w.setCell ⟨c17, 0, none⟩ v).cell? ⟨c16, 0, none⟩ = some (.int .i64 cnt) := fun v => cell_set_ne h16 hne
  have hE0 : ∀ b', (b = true → i = cnt → ok = true → x = y → b' = true) → (fun (e : Ending) w' => e = .returned (.bool true) ∧ ∃ b', w' = (w.setCell ⟨c17, 0, none⟩ (.bool b')).setCell ⟨c16, 0, none⟩ (.int .i64 ((cnt + 1 : Nat) : Int)) ∧ (b = true → i = cnt → (Value.tuple #[.int .i64 y, .bool ok]) = .tuple #[.int .i64 x, .bool true] → b' = true)) (.returned (.bool true)) ((w.setCell ⟨c17, 0, none⟩ (.bool b')).setCell ⟨c16, 0, none⟩ (.int .i64 ((cnt + 1 : Nat) : Int))) := by
    intro b' h
    refine ⟨rfl, b', rfl, fun h1 h2 h3 => ?_⟩
    simp at h3
    exact h h1 h2 h3.2 h3.1.symm
  generalize (fun (e : Ending) w' => e = .returned (.bool true) ∧ ∃ b', w' = (w.setCell ⟨c17, 0, none⟩ (.bool b')).setCell ⟨c16, 0, none⟩ (.int .i64 ((cnt + 1 : Nat) : Int)) ∧ (b = true → i = cnt → (Value.tuple #[.int .i64 y, .bool ok]) = .tuple #[.int .i64 x, .bool true] → b' = true)) = Pst at *
  have hE := Lib.hid hE0
  clear hE0
  have hz : c16 < w.heap.size ∧ c17 < w.heap.size := ⟨World.block_lt_of_cell? w _ h16, World.block_lt_of_cell? w _ h17⟩
  clear hv hR
  generalize ((cnt + 1 : Nat) : Int) = cz at *
  cases b <;> cases ok
  all_goals
    go_enter Try.func19, Try.ntmps19
    go_wp2_with (go_at_call 12; (with_reducible refine hA.out.mono ?_); rintro e w1 ⟨rfl, rfl⟩)
    all_goals first | exact hE.out true (fun _ _ _ _ => rfl) | exact hE.out false (by intro h1 h2 h3 h4; simp_all; done) | exact hE.out _ (by intro h1 h2 h3 h4; simp_all; done)
end Go.Proofs.Ytmjkahbjpkkdgaa
