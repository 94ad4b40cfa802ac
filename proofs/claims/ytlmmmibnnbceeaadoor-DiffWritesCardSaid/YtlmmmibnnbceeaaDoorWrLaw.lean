/-
  Parts in writing (chapter 41): the law's walk.
-/
import Derived.Test.YtlmmmibnnbceeaaDoorWr7
namespace Go.Proofs.YtlmmmibnnbceeaaDoor
open Go.RowKit
set_option linter.unusedVariables false
set_option linter.unusedSimpArgs false
set_option maxRecDepth 20000

theorem i64_wf {n : Int} (h : (Lit.int .i64 n).wf = true) : I64 n := by
  have := bounds_i64 h
  unfold I64; omega
abbrev ptE (x : I3) : List Value := [.int .i64 x.1, .int .i64 x.2.1, .int .i64 x.2.2]
def ptOk (x : I3) : Prop := I64 x.1 ∧ I64 x.2.1
theorem pt_of (vs : List Value) (h : OKs [LK.int .i64, LK.int .i64, LK.int .i64] vs) : ∃ x, vs = ptE x ∧ ptOk x := by
  obtain ⟨c0, r0, rfl, h0, h⟩ := OKs.cons h
  obtain ⟨c1, r1, rfl, h1, h⟩ := OKs.cons h
  obtain ⟨c2, r2, rfl, h2, h⟩ := OKs.cons h
  obtain rfl := OKs.nil h
  obtain ⟨a0, rfl, w0⟩ := h0
  obtain ⟨a1, rfl, w1⟩ := h1
  obtain ⟨a2, rfl, w2⟩ := h2
  exact ⟨(a0, a1, a2), rfl, i64_wf w0, i64_wf w1⟩
theorem p3_list {W : World} {a : Option Addr} {l : List I3} (h : IsList W a l.length 3 ptE ptOk l) : P3At W a l ∧ ∀ x ∈ l, I64 x.1 ∧ I64 x.2.1 := by
  have hx : ∀ c, FPt.X W (.slice a l.length c) l := fun c => Fl.X.of (F := FPt) h
  refine ⟨?_, ?_⟩
  · obtain ⟨a', c', e, h1⟩ := pt_at (hx 0)
    injection e with e1
    subst e1
    exact h1
  · intro x hxm
    obtain ⟨k, hk, rfl⟩ := List.getElem_of_mem hxm
    obtain ⟨g, o, e, hc⟩ := h.at_ (Nat.lt_of_le_of_lt (Nat.zero_le k) hk)
    exact (hc k hk).1
theorem chk_ok {size : Int} (hs : size ≤ 9223372036854775807) : ∀ (l : List I3) (a : Int), 0 ≤ a → chk size a l = 0 → ∀ x ∈ l, okP x
  | [], _, _, _ => fun x h => by simp at h
  | y :: l, a, ha, h => by
    obtain ⟨h1, h2, h3, h4, h5⟩ := chk_step h
    intro x hx
    rcases List.mem_cons.1 hx with rfl | hx
    · exact ⟨⟨by omega, by omega⟩, ⟨by omega, by omega⟩, h4⟩
    · exact chk_ok hs l y.2.1 (by omega) h5 x hx
theorem chkE_ok {l : List I3} {size : Int} (hs : size ≤ 9223372036854775807) (h : chkE l size = 0) : l ≠ [] ∧ ∀ x ∈ l, okP x := by
  unfold chkE at h
  by_cases h0 : l = [] ∨ size < 1
  · rw [if_pos h0] at h
    exact absurd h (by decide)
  · rw [if_neg h0] at h
    exact ⟨fun e => h0 (.inl e), chk_ok hs l 0 (by omega) h⟩
theorem long1 (W : World) (s : ByteArray) : Calls Tryd.prog 5 #[.slice (some ⟨W.heap.size, 0, none⟩) 1 1] (W.alloc (.cells #[.string s] 9)) fun e w' => e = .returned (.bool (decide (1500 < s.size))) ∧ Below W.heap.size W w' := by
  have h := long_any (W.alloc (.cells #[.string s] 9)) W.heap.size 1 [s] (by simp) (by
    intro k t hk
    match k, hk with
    | 0, hk => simp at hk; subst hk; simp [go_sem]
    | k + 1, hk => simp at hk)
  refine h.mono ?_
  rintro e w' ⟨h1, h2⟩
  refine ⟨?_, bt (alb W _) h2⟩
  rw [h1]
  simp
theorem pa_len {s : ByteArray} {l : List I3} {e : Int} (h : PA s l e) : l.length ≤ s.size + 1 ∧ ∀ x ∈ l, I64 x.1 ∧ I64 x.2.1 := by
  rcases h with ⟨h0, h1, h2, _⟩ | ⟨h0, _, _⟩
  · refine ⟨?_, fun x hx => okP_i64 (h1 x hx)⟩
    have := (prn_cuts h0 fun x hx => okP_i64 (h1 x hx)).1
    rw [← h2] at this
    have h3 := cuts_length s
    rw [this, List.length_map] at h3
    exact h3
  · subst h0
    exact ⟨Nat.zero_le _, fun x hx => by simp at hx⟩
set_option maxHeartbeats 6400000 in
theorem walk_DiffWrites (al : Option Addr) (lenl capl : Nat) (l : List I3) {w : World} (hl : IsList w al lenl 3 ptE ptOk l) (s : ByteArray) (us : s.size ≤ 140737488351232) (size : Int) (uz : (Lit.int .i64 size).wf = true) (hm : MLn w) :
    Calls Tryd.prog 3 #[.slice al lenl capl, .string s, .int .i64 size] w fun e w' => e = .returned (.bool true) ∧ Below w.heap.size w w' := by
  have e1 := hl.size_eq
  have m1 := hl.most
  subst e1
  obtain ⟨hL, hli⟩ := p3_list hl
  clear hl
  have hzz := (i64_wf uz).2
  have hE : ∀ W, Below w.heap.size w W → (fun (e : Ending) (w' : World) => e = .returned (.bool true) ∧ Below w.heap.size w w') (.returned (.bool true)) W := fun W h => ⟨rfl, h⟩
  generalize (fun (e : Ending) (w' : World) => e = .returned (.bool true) ∧ Below w.heap.size w w') = Pst at *
  replace hE := Lib.hid hE
  replace hL := Lib.hid hL
  replace hli := Lib.hid hli
  replace hm := Lib.hid hm
  have hb := Lib.hid (Below.refl w.heap.size w)
  have hlg := fun W => long1 W s
  by_cases hbig : 1500 < s.size
  · rw [decide_eq_true hbig] at hlg
    replace hlg := Lib.hid hlg
    go_enter Tryd.func3, Tryd.ntmps3
    go_wp2_with (first | (go_at_call 4; (with_reducible refine (works_any _).mono ?_); rintro e1 w1 ⟨rfl, hA⟩; replace hb := Lib.hid (bt hb.out hA); clear hA) | (go_at_call 5; (with_reducible refine (hlg.out _).mono ?_); rintro e2 w2 ⟨rfl, hA⟩; replace hb := Lib.hid (bt hb.out hA); clear hA))
    exact hE.out _ hb.out
  rw [decide_eq_false hbig] at hlg
  replace hlg := Lib.hid hlg
  by_cases h200 : 200 < l.length
  · have d1 : decide ((200 : Int) < (l.length : Int)) = true := decide_eq_true (by omega)
    have d2 : decide (200 < l.length) = true := decide_eq_true h200
    go_enter Tryd.func3, Tryd.ntmps3
    go_wp2_with (first | (go_at_call 4; (with_reducible refine (works_any _).mono ?_); rintro e1 w1 ⟨rfl, hA⟩; replace hb := Lib.hid (bt hb.out hA); clear hA) | (go_at_call 5; (with_reducible refine (hlg.out _).mono ?_); rintro e2 w2 ⟨rfl, hA⟩; replace hb := Lib.hid (bt hb.out hA); clear hA))
    exact hE.out _ hb.out
  have d1 : decide ((200 : Int) < (l.length : Int)) = false := decide_eq_false (by omega)
  have d2 : decide (200 < l.length) = false := decide_eq_false h200
  have hz := prn_size l
  have hP1 := Lib.hid (fun W h => parse_any s W (by omega) h)
  have hP2 := Lib.hid (fun W => rparse_any s W (by omega))
  have hP3 := Lib.hid (fun W h => parse_any (prn l) W (by omega) h)
  have hck := fun W h => check_any al capl l size W h (by omega)
  go_enter Tryd.func3, Tryd.ntmps3
  go_upto_region 9 with (first | (go_at_call 4; (with_reducible refine (works_any _).mono ?_); rintro e1 w1 ⟨rfl, hA⟩; replace hb := Lib.hid (bt hb.out hA); clear hA) | (go_at_call 5; (with_reducible refine (hlg.out _).mono ?_); rintro e2 w2 ⟨rfl, hA⟩; replace hb := Lib.hid (bt hb.out hA); clear hA) | (go_at_call 6; (with_reducible refine (hP1.out _ (hm.out.below hb.out)).mono ?_); rintro e3 w3 ⟨v3, la, ea, rfl, hPA, hX3, hA⟩; replace hPA := Lib.hid hPA; replace hX3 := Lib.hid hX3; replace hb := Lib.hid (bt hb.out hA); clear hA) | (go_at_call 7; (with_reducible refine (hP2.out _).mono ?_); rintro e4 w4 ⟨v4, lb, eb, rfl, hPB, hX4, hA⟩; obtain ⟨rfl, rfl⟩ := PA_fun hPA.out hPB; clear hPB; replace hX3 := Lib.hid (hX3.out.below hA); replace hX4 := Lib.hid hX4; replace hb := Lib.hid (bt hb.out hA); clear hA) | (go_at_call 8; (with_reducible refine (print_any al capl l _ (hL.out.keep hb.out) hli.out (by omega)).mono ?_); rintro e5 w5 ⟨rfl, hA⟩; replace hX3 := Lib.hid (hX3.out.below hA); replace hX4 := Lib.hid (hX4.out.below hA); replace hb := Lib.hid (bt hb.out hA); clear hA) | (go_at_call 6; (with_reducible refine (hP3.out _ (hm.out.below hb.out)).mono ?_); rintro e6 w6 ⟨v6, lc, ec, rfl, hPC, hX6, hA⟩; replace hPC := Lib.hid hPC; replace hX6 := Lib.hid hX6; replace hX3 := Lib.hid (hX3.out.below hA); replace hX4 := Lib.hid (hX4.out.below hA); replace hb := Lib.hid (bt hb.out hA); clear hA))
  obtain ⟨aa, ca, rfl, hAa⟩ := pt_at hX3.out
  obtain ⟨ab, cb, rfl, hAb⟩ := pt_at hX4.out
  obtain ⟨ac, cc, rfl, hAc⟩ := pt_at hX6.out
  have hb6 := hb
  have hc := Lib.hid (Below.refl w6.heap.size w6)
  replace hAa := Lib.hid hAa
  replace hAb := Lib.hid hAb
  replace hAc := Lib.hid hAc
  obtain ⟨hal, hai⟩ := pa_len hPA.out
  replace hai := Lib.hid hai
  have hk1 : ((prn l).toList == (prn l).toList) = true := beq_self_eq_true _
  have hk2 : ((prn l).toList != (prn l).toList) = false := by simp [bne]
  have hsok : ea = 0 → ((prn la).toList != s.toList) = false ∧ ((prn la).toList == s.toList) = true := by
    intro he
    rcases hPA.out with ⟨_, _, h2, _⟩ | ⟨_, h1, _⟩
    · rw [← h2]; simp [bne]
    · rw [he] at h1; cases h1
  have hee : ea = 0 ∨ ((ea == 0) = false ∧ (ea != 0) = true) := by
    by_cases h : ea = 0
    · exact .inl h
    · exact .inr ⟨by simpa using h, by simpa [bne] using h⟩
  clear hP1 hP2 hP3 hX3 hX4 hX6 hlg hm
  by_cases hch : chkE l size = 0
  · obtain ⟨hl0, hlo⟩ := chkE_ok hzz hch
    obtain ⟨rfl, rfl⟩ := PA_fun (.inl ⟨hl0, hlo, rfl, rfl⟩ : PA (prn l) l 0) hPC.out
    rw [hch] at hck
    replace hck := Lib.hid hck
    clear hl0 hlo hch hPC hPA
    rcases hee with rfl | ⟨n1, n2⟩
    · obtain ⟨s1, s2⟩ := hsok rfl
      clear hsok
      go_wp2_with (first | (go_at_call 9; (with_reducible refine (parts_eq _ _ _ _ la _ (hAa.out.keep hc.out) (hAb.out.keep hc.out) (by omega)).mono ?_); rintro e7 w7 ⟨rfl, hA⟩; replace hc := Lib.hid (bt hc.out hA); clear hA) | (go_at_call 10; (with_reducible refine (rprint_any al capl l _ (hL.out.keep (bt hb6.out hc.out)) hli.out (by omega)).mono ?_); rintro e8 w8 ⟨rfl, hA⟩; replace hc := Lib.hid (bt hc.out hA); clear hA) | (go_at_call 8; (with_reducible refine (print_any _ _ la _ (hAa.out.keep hc.out) hai.out (by omega)).mono ?_); rintro e9 w9 ⟨rfl, hA⟩; replace hc := Lib.hid (bt hc.out hA); clear hA) | (go_at_call 11; (with_reducible refine (hck.out _ (hL.out.keep (bt hb6.out hc.out))).mono ?_); rintro e10 w10 ⟨rfl, hA⟩; replace hc := Lib.hid (bt hc.out hA); clear hA) | (go_at_call 9; (with_reducible refine (parts_eq _ _ _ _ l _ (hAc.out.keep hc.out) (hL.out.keep (bt hb6.out hc.out)) (by omega)).mono ?_); rintro e11 w11 ⟨rfl, hA⟩; replace hc := Lib.hid (bt hc.out hA); clear hA))
      exact hE.out _ (bt hb6.out hc.out)
    · clear hsok
      go_wp2_with (first | (go_at_call 9; (with_reducible refine (parts_eq _ _ _ _ la _ (hAa.out.keep hc.out) (hAb.out.keep hc.out) (by omega)).mono ?_); rintro e7 w7 ⟨rfl, hA⟩; replace hc := Lib.hid (bt hc.out hA); clear hA) | (go_at_call 10; (with_reducible refine (rprint_any al capl l _ (hL.out.keep (bt hb6.out hc.out)) hli.out (by omega)).mono ?_); rintro e8 w8 ⟨rfl, hA⟩; replace hc := Lib.hid (bt hc.out hA); clear hA) | (go_at_call 8; (with_reducible refine (print_any _ _ la _ (hAa.out.keep hc.out) hai.out (by omega)).mono ?_); rintro e9 w9 ⟨rfl, hA⟩; replace hc := Lib.hid (bt hc.out hA); clear hA) | (go_at_call 11; (with_reducible refine (hck.out _ (hL.out.keep (bt hb6.out hc.out))).mono ?_); rintro e10 w10 ⟨rfl, hA⟩; replace hc := Lib.hid (bt hc.out hA); clear hA) | (go_at_call 9; (with_reducible refine (parts_eq _ _ _ _ l _ (hAc.out.keep hc.out) (hL.out.keep (bt hb6.out hc.out)) (by omega)).mono ?_); rintro e11 w11 ⟨rfl, hA⟩; replace hc := Lib.hid (bt hc.out hA); clear hA))
      exact hE.out _ (bt hb6.out hc.out)
  · have n3 : (chkE l size != 0) = true := by simpa [bne] using hch
    have n4 : (chkE l size == 0) = false := by simpa using hch
    generalize chkE l size = cz at *
    replace hck := Lib.hid hck
    clear hch hPC hPA
    rcases hee with rfl | ⟨n1, n2⟩
    · obtain ⟨s1, s2⟩ := hsok rfl
      clear hsok
      go_wp2_with (first | (go_at_call 9; (with_reducible refine (parts_eq _ _ _ _ la _ (hAa.out.keep hc.out) (hAb.out.keep hc.out) (by omega)).mono ?_); rintro e7 w7 ⟨rfl, hA⟩; replace hc := Lib.hid (bt hc.out hA); clear hA) | (go_at_call 10; (with_reducible refine (rprint_any al capl l _ (hL.out.keep (bt hb6.out hc.out)) hli.out (by omega)).mono ?_); rintro e8 w8 ⟨rfl, hA⟩; replace hc := Lib.hid (bt hc.out hA); clear hA) | (go_at_call 8; (with_reducible refine (print_any _ _ la _ (hAa.out.keep hc.out) hai.out (by omega)).mono ?_); rintro e9 w9 ⟨rfl, hA⟩; replace hc := Lib.hid (bt hc.out hA); clear hA) | (go_at_call 11; (with_reducible refine (hck.out _ (hL.out.keep (bt hb6.out hc.out))).mono ?_); rintro e10 w10 ⟨rfl, hA⟩; replace hc := Lib.hid (bt hc.out hA); clear hA))
      exact hE.out _ (bt hb6.out hc.out)
    · clear hsok
      go_wp2_with (first | (go_at_call 9; (with_reducible refine (parts_eq _ _ _ _ la _ (hAa.out.keep hc.out) (hAb.out.keep hc.out) (by omega)).mono ?_); rintro e7 w7 ⟨rfl, hA⟩; replace hc := Lib.hid (bt hc.out hA); clear hA) | (go_at_call 10; (with_reducible refine (rprint_any al capl l _ (hL.out.keep (bt hb6.out hc.out)) hli.out (by omega)).mono ?_); rintro e8 w8 ⟨rfl, hA⟩; replace hc := Lib.hid (bt hc.out hA); clear hA) | (go_at_call 8; (with_reducible refine (print_any _ _ la _ (hAa.out.keep hc.out) hai.out (by omega)).mono ?_); rintro e9 w9 ⟨rfl, hA⟩; replace hc := Lib.hid (bt hc.out hA); clear hA) | (go_at_call 11; (with_reducible refine (hck.out _ (hL.out.keep (bt hb6.out hc.out))).mono ?_); rintro e10 w10 ⟨rfl, hA⟩; replace hc := Lib.hid (bt hc.out hA); clear hA))
      exact hE.out _ (bt hb6.out hc.out)
end Go.Proofs.YtlmmmibnnbceeaaDoor
