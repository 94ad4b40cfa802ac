/-
  The statements of chapter 39: walks.
-/
import Derived.Test.YtmhmdcfdodiphaaInboxRef2
import Derived.Test.YtmhmdcfdodiphaaInboxRest
namespace Go.Proofs.Ytmhmdcfdodiphaa
open Go.RowKit
set_option linter.unusedVariables false
set_option linter.unusedSimpArgs false

theorem put_of {w : World} {p cu co cap : Nat} {U O : List ByteArray} {cl : Bool} (h : BX w p cu co cap U O cl) (x : ByteArray) (g : Bool) {U' O' : List ByteArray} {c : Int} (h1 : (if g then putL cl cap U x else U) = U') (h2 : (if g then O else putL cl cap O x) = O') (h3 : putE cl cap (if g then U.length else O.length) = c) :
    Calls Try.prog 7 #[.pointer (some ⟨p, 0, none⟩), .string x, .bool g] w fun e w' => e = .returned (.int .i64 c) ∧ BX w' p cu co cap U' O' cl ∧ Frm (fun k => k = cu ∨ k = co) w w' := by
  subst h1; subst h2; subst h3
  exact put_any p cu co cap U O cl x g w h
theorem next_of {w : World} {p cu co cap : Nat} {U O : List ByteArray} {cl : Bool} (h : BX w p cu co cap U O cl) {U' O' : List ByteArray} {x : ByteArray} {ok : Bool} (h1 : U.tail = U') (h2 : (if U.isEmpty then O.tail else O) = O') (h3 : nextV U O = x) (h4 : (!(U.isEmpty && O.isEmpty)) = ok) :
    Calls Try.prog 8 #[.pointer (some ⟨p, 0, none⟩)] w fun e w' => e = .returned (.tuple #[.string x, .bool ok]) ∧ BX w' p cu co cap U' O' cl ∧ Frm (fun k => k = cu ∨ k = co) w w' := by
  subst h1; subst h2; subst h3; subst h4
  exact next_any p cu co cap U O cl w h
theorem len_of {w : World} {p cu co cap : Nat} {U O : List ByteArray} {cl : Bool} (h : BX w p cu co cap U O cl) (h1 : U.length ≤ 1000) (h2 : O.length ≤ 1000) {c : Int} (h3 : ((U.length + O.length : Nat) : Int) = c) :
    Calls Try.prog 16 #[.pointer (some ⟨p, 0, none⟩)] w fun e w' => e = .returned (.int .i64 c) ∧ Below w.heap.size w w' := by
  subst h3
  refine (len_any p cu co cap U O cl w h h1 h2).mono ?_
  rintro e w' ⟨rfl, n, rfl⟩
  exact ⟨rfl, bdraws0 _ _⟩
theorem nB1 : nB 1 = 1 := by decide
theorem below_frm {a b c : World} {S : Nat → Prop} (h : Below a.heap.size a b) (hf : Frm S b c) (hs : ∀ k, S k → a.heap.size ≤ k) : Below a.heap.size a c :=
  ⟨hf.os.trans h.os, hf.tape.trans h.tape, hf.output.trans h.output, Nat.le_trans h.size hf.size, fun k hk => (hf.block k (Nat.lt_of_lt_of_le hk h.size) (fun hx => by have := hs k hx; omega)).trans (h.block k hk)⟩
set_option maxHeartbeats 1600000 in
theorem works_any (w : World) : Calls Try.prog 5 #[] w fun e w' => e = .returned (.bool true) ∧ Below w.heap.size w w' := by
  have e1 := bse ⟨#[97]⟩
  have e2 := bse ⟨#[98]⟩
  go_enter Try.func5, Try.ntmps5
  go_wp2_with (first | (go_at_call 6; (with_reducible refine (new_any 1 _ (by decide)).mono ?_); rintro e w1 ⟨p, cu, co, rfl, hx1, hp, hu, ho, hb1⟩; rw [nB1] at hx1) | (go_at_call 7; (with_reducible refine (put_of hx1 ⟨#[97]⟩ false (U' := []) (O' := [⟨#[97]⟩]) (c := 0) rfl rfl rfl).mono ?_); rintro e w2 ⟨rfl, hx2, hf2⟩; clear hx1) | (go_at_call 7; (with_reducible refine (put_of hx2 ⟨#[98]⟩ true (U' := [⟨#[98]⟩]) (O' := [⟨#[97]⟩]) (c := 0) rfl rfl rfl).mono ?_); rintro e w3 ⟨rfl, hx3, hf3⟩; clear hx2) | (go_at_call 7; (with_reducible refine (put_of hx3 ⟨#[99]⟩ true (U' := [⟨#[98]⟩]) (O' := [⟨#[97]⟩]) (c := 6) rfl rfl rfl).mono ?_); rintro e w4 ⟨rfl, hx4, hf4⟩; clear hx3) | (go_at_call 8; (with_reducible refine (next_of hx4 (U' := []) (O' := [⟨#[97]⟩]) (x := ⟨#[98]⟩) (ok := true) rfl rfl rfl rfl).mono ?_); rintro e w5 ⟨rfl, hx5, hf5⟩; clear hx4) | (go_at_call 8; (with_reducible refine (next_of hx5 (U' := []) (O' := []) (x := ⟨#[97]⟩) (ok := true) rfl rfl rfl rfl).mono ?_); rintro e w6 ⟨rfl, hx6, hf6⟩; clear hx5) | (go_at_call 16; (with_reducible refine (len_of hx6 (by simp) (by simp) (c := 0) rfl).mono ?_); rintro e w7 ⟨rfl, hb7⟩; clear hx6))
  go_ret
  have hs : ∀ k, k = cu ∨ k = co → w.heap.size ≤ k := by rintro k (rfl | rfl) <;> assumption
  exact ⟨rfl, bt (below_frm (below_frm (below_frm (below_frm (below_frm hb1 hf2 hs) hf3 hs) hf4 hs) hf5 hs) hf6 hs) hb7⟩
end Go.Proofs.Ytmhmdcfdodiphaa
