/-
  The statement StateMeets (chapter 23): its guards.
-/
import Derived.Test.YtingeahkndingaaStateMeet3
namespace Go.Proofs.Ytingeahkndingaa
open Go.RowKit
set_option linter.unusedVariables false
set_option linter.unusedSimpArgs false
set_option maxRecDepth 100000 in
set_option maxHeartbeats 12800000 in
theorem walk_StateMeets (k : Int) (a : Int) (b : Int) (d : ByteArray) (p : Int) (q : Int) (e : ByteArray) (r : Int) (s : Int) (f : ByteArray) (hk : (Lit.int .i64 k).wf = true) (ha : (Lit.int .i64 a).wf = true) (hb : (Lit.int .i64 b).wf = true) (hd : d.size ≤ maxLen) (hp : (Lit.int .i64 p).wf = true) (hq : (Lit.int .i64 q).wf = true) (he : e.size ≤ maxLen) (hr : (Lit.int .i64 r).wf = true) (hs : (Lit.int .i64 s).wf = true) (hf : f.size ≤ maxLen) (a1 : Option Addr) (len1 cap1 : Nat) (l1 : List Opr) {w : World} (hl1 : IsList w a1 len1 4 oprE oprOk l1) (a2 : Option Addr) (len2 cap2 : Nat) (l2 : List Opr) (hl2 : IsList w a2 len2 4 oprE oprOk l2) :
    Calls Try.prog 5 #[SS k a b d p q e r s f, .slice a1 len1 cap1, .slice a2 len2 cap2] w fun e' w' => e' = .returned (.bool true) ∧ Below w.heap.size w w' := by
  cases hbig : (decide (1000 < (d.size : Int)) || (decide (1000 < (e.size : Int)) || decide (1000 < (f.size : Int))))
  case true =>
    have HC : Cel (w.alloc (.cells #[.int .i64 k, .int .i64 a, .int .i64 b, .string d, .int .i64 p, .int .i64 q, .string e, .int .i64 r, .int .i64 s, .string f] 27)) w.heap.size ⟨k, a, b, d, ⟨p, q, e⟩, ⟨r, s, f⟩⟩ := Cel.new w ⟨k, a, b, d, ⟨p, q, e⟩, ⟨r, s, f⟩⟩ 27
    have HB : Below w.heap.size w (w.alloc (.cells #[.int .i64 k, .int .i64 a, .int .i64 b, .string d, .int .i64 p, .int .i64 q, .string e, .int .i64 r, .int .i64 s, .string f] 27)) := (Below.refl _ _).alloc (Nat.le_refl _) _
    go_enter Try.func5, Try.ntmps5
    go_wp2_with fail
    generalize w.alloc (.cells #[.int .i64 k, .int .i64 a, .int .i64 b, .string d, .int .i64 p, .int .i64 q, .string e, .int .i64 r, .int .i64 s, .string f] 27) = W2 at *
    refine (works_any _).mono ?_
    rintro e' W3 ⟨rfl, hA⟩
    replace HC := HC.below hA
    replace HB := bt HB hA
    clear hA
    obtain ⟨c0, c1, c2, c3, c4, c5, c6, c7, c8, c9⟩ := id HC
    go_wp2_with fail
    refine (big_any _ _ _ _ _ _ _ _ _ _ _).mono ?_
    rintro e' W4 ⟨rfl, hA⟩
    replace HC := HC.below hA
    replace HB := bt HB hA
    clear hA c0 c1 c2 c3 c4 c5 c6 c7 c8 c9
    rw [hbig]
    go_wp2
    go_ret
    exact ⟨rfl, HB⟩
  cases ht1 : (decide (20 < (len1 : Int)))
  case true =>
    have HC : Cel (w.alloc (.cells #[.int .i64 k, .int .i64 a, .int .i64 b, .string d, .int .i64 p, .int .i64 q, .string e, .int .i64 r, .int .i64 s, .string f] 27)) w.heap.size ⟨k, a, b, d, ⟨p, q, e⟩, ⟨r, s, f⟩⟩ := Cel.new w ⟨k, a, b, d, ⟨p, q, e⟩, ⟨r, s, f⟩⟩ 27
    have HB : Below w.heap.size w (w.alloc (.cells #[.int .i64 k, .int .i64 a, .int .i64 b, .string d, .int .i64 p, .int .i64 q, .string e, .int .i64 r, .int .i64 s, .string f] 27)) := (Below.refl _ _).alloc (Nat.le_refl _) _
    go_enter Try.func5, Try.ntmps5
    go_wp2_with fail
    generalize w.alloc (.cells #[.int .i64 k, .int .i64 a, .int .i64 b, .string d, .int .i64 p, .int .i64 q, .string e, .int .i64 r, .int .i64 s, .string f] 27) = W2 at *
    refine (works_any _).mono ?_
    rintro e' W3 ⟨rfl, hA⟩
    replace HC := HC.below hA
    replace HB := bt HB hA
    clear hA
    obtain ⟨c0, c1, c2, c3, c4, c5, c6, c7, c8, c9⟩ := id HC
    go_wp2_with fail
    refine (big_any _ _ _ _ _ _ _ _ _ _ _).mono ?_
    rintro e' W4 ⟨rfl, hA⟩
    replace HC := HC.below hA
    replace HB := bt HB hA
    clear hA c0 c1 c2 c3 c4 c5 c6 c7 c8 c9
    rw [hbig]
    go_wp2
    go_ret
    exact ⟨rfl, HB⟩
  cases ht2 : (decide (20 < (len2 : Int)))
  case true =>
    have HC : Cel (w.alloc (.cells #[.int .i64 k, .int .i64 a, .int .i64 b, .string d, .int .i64 p, .int .i64 q, .string e, .int .i64 r, .int .i64 s, .string f] 27)) w.heap.size ⟨k, a, b, d, ⟨p, q, e⟩, ⟨r, s, f⟩⟩ := Cel.new w ⟨k, a, b, d, ⟨p, q, e⟩, ⟨r, s, f⟩⟩ 27
    have HB : Below w.heap.size w (w.alloc (.cells #[.int .i64 k, .int .i64 a, .int .i64 b, .string d, .int .i64 p, .int .i64 q, .string e, .int .i64 r, .int .i64 s, .string f] 27)) := (Below.refl _ _).alloc (Nat.le_refl _) _
    go_enter Try.func5, Try.ntmps5
    go_wp2_with fail
    generalize w.alloc (.cells #[.int .i64 k, .int .i64 a, .int .i64 b, .string d, .int .i64 p, .int .i64 q, .string e, .int .i64 r, .int .i64 s, .string f] 27) = W2 at *
    refine (works_any _).mono ?_
    rintro e' W3 ⟨rfl, hA⟩
    replace HC := HC.below hA
    replace HB := bt HB hA
    clear hA
    obtain ⟨c0, c1, c2, c3, c4, c5, c6, c7, c8, c9⟩ := id HC
    go_wp2_with fail
    refine (big_any _ _ _ _ _ _ _ _ _ _ _).mono ?_
    rintro e' W4 ⟨rfl, hA⟩
    replace HC := HC.below hA
    replace HB := bt HB hA
    clear hA c0 c1 c2 c3 c4 c5 c6 c7 c8 c9
    rw [hbig]
    go_wp2
    go_ret
    exact ⟨rfl, HB⟩
  obtain ⟨X, hX⟩ : ∃ z, chkE ⟨k, a, b, d, ⟨p, q, e⟩, ⟨r, s, f⟩⟩ = z := ⟨_, rfl⟩
  by_cases hx0 : X = 0
  case neg =>
    have CX := Lib.hid (fun w => rchk_at hX w)
    have hne := bne_iff_ne.2 hx0
    clear hX hx0
    have HC : Cel (w.alloc (.cells #[.int .i64 k, .int .i64 a, .int .i64 b, .string d, .int .i64 p, .int .i64 q, .string e, .int .i64 r, .int .i64 s, .string f] 27)) w.heap.size ⟨k, a, b, d, ⟨p, q, e⟩, ⟨r, s, f⟩⟩ := Cel.new w ⟨k, a, b, d, ⟨p, q, e⟩, ⟨r, s, f⟩⟩ 27
    have HB : Below w.heap.size w (w.alloc (.cells #[.int .i64 k, .int .i64 a, .int .i64 b, .string d, .int .i64 p, .int .i64 q, .string e, .int .i64 r, .int .i64 s, .string f] 27)) := (Below.refl _ _).alloc (Nat.le_refl _) _
    go_enter Try.func5, Try.ntmps5
    go_wp2_with fail
    generalize w.alloc (.cells #[.int .i64 k, .int .i64 a, .int .i64 b, .string d, .int .i64 p, .int .i64 q, .string e, .int .i64 r, .int .i64 s, .string f] 27) = W2 at *
    refine (works_any _).mono ?_
    rintro e' W3 ⟨rfl, hA⟩
    replace HC := HC.below hA
    replace HB := bt HB hA
    clear hA
    obtain ⟨c0, c1, c2, c3, c4, c5, c6, c7, c8, c9⟩ := id HC
    go_wp2_with fail
    refine (big_any _ _ _ _ _ _ _ _ _ _ _).mono ?_
    rintro e' W4 ⟨rfl, hA⟩
    replace HC := HC.below hA
    replace HB := bt HB hA
    clear hA c0 c1 c2 c3 c4 c5 c6 c7 c8 c9
    rw [hbig]
    obtain ⟨c0, c1, c2, c3, c4, c5, c6, c7, c8, c9⟩ := id HC
    go_wp2_with fail
    refine (CX.out _).mono ?_
    rintro e' W6 ⟨rfl, hA⟩
    replace HC := HC.below hA
    replace HB := bt HB hA
    clear hA c0 c1 c2 c3 c4 c5 c6 c7 c8 c9
    go_wp2
    go_ret
    exact ⟨rfl, HB⟩
  subst hx0
  exact meets_ok k a b d p q e r s f hk ha hb hd hp hq he hr hs hf a1 len1 cap1 l1 hl1 a2 len2 cap2 l2 hl2 hbig ht1 ht2 hX
end Go.Proofs.Ytingeahkndingaa
