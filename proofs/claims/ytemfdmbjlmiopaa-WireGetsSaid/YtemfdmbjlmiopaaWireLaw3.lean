/-
  The statement WireGets (chapter 25).
-/
import Derived.Test.YtemfdmbjlmiopaaFrmWork
import Derived.Test.YtemfdmbjlmiopaaWire8F
namespace Go.Proofs.Ytemfdmbjlmiopaa
open Go.RowKit
set_option linter.unusedVariables false
set_option linter.unusedSimpArgs false
/-! ### how great what is read can be -/
theorem rdOut_le (x : ByteArray) (err n : Int) : (rdOut x err n).size ≤ n.toNat := by
  unfold rdOut
  split
  · rw [ByteArray.size_extract]; omega
  · exact Nat.zero_le _
theorem nO_le (z : Rr) (k : Nat) (hk : k ≤ 7) : nO z k ≤ 9223372036854775807 := by
  unfold nO nmOut
  split
  · have h1 := nat256_lt (rdOut z.1 z.2 k).data.toList
    have h2 : (rdOut z.1 z.2 k).data.toList.length ≤ 7 := by
      rw [data_len]
      have := rdOut_le z.1 z.2 k
      omega
    have h3 : 256 ^ (rdOut z.1 z.2 k).data.toList.length ≤ 256 ^ 7 := Nat.pow_le_pow_right (by decide) h2
    have h4 : (256 : Nat) ^ 7 = 72057594037927936 := by decide
    omega
  · decide
theorem nO_1 (z : Rr) : nO z 1 ≤ 9223372036854775807 := nO_le z 1 (by decide)
theorem nO_7 (z : Rr) : nO z 7 ≤ 9223372036854775807 := nO_le z 7 (by decide)
def VB (v : Ve) : Prop := v.p ≤ 9223372036854775807 ∧ v.q ≤ 9223372036854775807 ∧ v.d.size ≤ 1000
theorem rdVe_b (z : Rr) : VB (rdVe z) := ⟨nO_7 _, nO_7 _, Nat.le_trans (rdOut_le _ _ 128) (by decide)⟩
theorem get_b (t : ByteArray) : VB ⟨(getSt t).a, (getSt t).b, (getSt t).d⟩ ∧ VB (getSt t).x ∧ VB (getSt t).y := by
  have h0 : VB ⟨0, 0, ⟨#[]⟩⟩ := ⟨by decide, by decide, by decide⟩
  unfold getSt
  split
  · unfold getR
    split
    · exact ⟨rdVe_b _, h0, h0⟩
    · exact ⟨⟨(rdVe_b _).1, (rdVe_b _).2.1, Nat.zero_le 1000⟩, rdVe_b _, rdVe_b _⟩
  · exact ⟨h0, h0, h0⟩
def MBm (m : Mg) : Prop := MB m.k m.ex m.va m.vb m.s m.n
theorem mb_of {k ex va vb n : Int} {s : St} (hk : k ≤ 9223372036854775807) (hex : ex ≤ 9223372036854775807) (hva : va ≤ 9223372036854775807) (hvb : vb ≤ 9223372036854775807) (hn : n ≤ 9223372036854775807) (h : VB ⟨s.a, s.b, s.d⟩ ∧ VB s.x ∧ VB s.y) : MBm ⟨k, ex, va, vb, s, n⟩ :=
  ⟨hk, hex, hva, hvb, hn, h.1.1, h.1.2.1, h.1.2.2, h.2.1.1, h.2.1.2.1, h.2.1.2.2, h.2.2.1, h.2.2.2.1, h.2.2.2.2⟩
theorem nil_b : VB ⟨St.nil.a, St.nil.b, St.nil.d⟩ ∧ VB St.nil.x ∧ VB St.nil.y := ⟨⟨by decide, by decide, by decide⟩, ⟨by decide, by decide, by decide⟩, ⟨by decide, by decide, by decide⟩⟩
theorem mget_b (t : ByteArray) : MBm (mget t) := by
  have h0 : (0 : Int) ≤ 9223372036854775807 := by decide
  unfold mget
  split
  · unfold mgetR
    split
    · exact mb_of (nO_1 _) (nO_1 _) (nO_7 _) (nO_7 _) h0 nil_b
    · split
      · exact mb_of (nO_1 _) (nO_1 _) h0 h0 h0 (get_b _)
      · split
        · exact mb_of (nO_1 _) h0 h0 h0 (nO_1 _) nil_b
        · exact mb_of (nO_1 _) (nO_1 _) h0 h0 h0 nil_b
  · exact mb_of h0 h0 h0 h0 h0 nil_b
theorem mne_same (k ex va vb : Int) (s : St) (n : Int) (W : World) : (binOp .neq 29 (MV k ex va vb s n) (MV k ex va vb s n)).run Try.prog W = .ok (.bool false) W := by
  simp [go_sem]
set_option maxRecDepth 100000 in
set_option maxHeartbeats 12800000 in
theorem walk_WireGets (t : ByteArray) (ht : t.size ≤ 140737488351232) {w : World} :
    Calls Try.prog 4 #[.string t] w fun e' w' => e' = .returned (.bool true) ∧ Below w.heap.size w w' := by
  clear ht
  cases ht1 : decide (3000 < (t.size : Int))
  case true =>
    go_enter Try.func4, Try.ntmps4
    go_wp2_with fail
    refine (works_any _).mono ?_
    rintro e' W3 ⟨rfl, hA⟩
    have HB := hA
    clear hA
    go_wp2
    go_ret
    exact ⟨rfl, HB⟩
  have hts : ¬ 3000 < (t.size : Int) := of_decide_eq_false ht1
  have CG := fun w => wget_any t w (by omega)
  have CRG := fun w => rwget_any t w (by omega)
  have hb := mget_b t
  have hgp := mget_put t
  obtain ⟨M, hM⟩ : ∃ M, mget t = M := ⟨_, rfl⟩
  obtain ⟨E, hE⟩ : ∃ E, mgetE t = E := ⟨_, rfl⟩
  rw [hM] at hb
  rw [hM, hE] at hgp
  simp only [hM, hE] at CG CRG
  clear hM hE
  obtain ⟨k, ex, va, vb, s, n⟩ := M
  have CP := fun w => wput_any (k := k) (ex := ex) (va := va) (vb := vb) (s := s) (n := n) hb w
  obtain ⟨A, hA⟩ : ∃ A, mput ⟨k, ex, va, vb, s, n⟩ = A := ⟨_, rfl⟩
  obtain ⟨G, hG⟩ : ∃ G, mchk ⟨k, ex, va, vb, s, n⟩ = G := ⟨_, rfl⟩
  rw [hA, hG] at hgp
  simp only [hA, hG] at CP
  clear hA hG hb hts
  replace CG := Lib.hid CG
  replace CRG := Lib.hid CRG
  replace CP := Lib.hid CP
  replace hgp := Lib.hid hgp
  go_enter Try.func4, Try.ntmps4
  go_wp2_with fail
  refine (works_any _).mono ?_
  rintro e' W3 ⟨rfl, hA⟩
  have HB := hA
  clear hA
  go_wp2_with fail
  refine (CG.out _).mono ?_
  rintro e' W4 ⟨rfl, hA⟩
  replace HB := bt HB hA
  clear hA CG
  have HX := Lib.hid (MC.new W4 k ex va vb s n 29)
  have hA := (Below.refl W4.heap.size W4).alloc (Nat.le_refl _) (.cells #[.int .i64 k, .int .i64 ex, .int .i64 va, .int .i64 vb, .int .i64 s.k, .int .i64 s.a, .int .i64 s.b, .string s.d, .int .i64 s.x.p, .int .i64 s.x.q, .string s.x.d, .int .i64 s.y.p, .int .i64 s.y.q, .string s.y.d, .int .i64 n] 29)
  replace HB := bt HB hA
  clear hA
  go_wp2_with fail
  generalize W4.alloc (.cells #[.int .i64 k, .int .i64 ex, .int .i64 va, .int .i64 vb, .int .i64 s.k, .int .i64 s.a, .int .i64 s.b, .string s.d, .int .i64 s.x.p, .int .i64 s.x.q, .string s.x.d, .int .i64 s.y.p, .int .i64 s.y.q, .string s.y.d, .int .i64 n] 29) = W5 at *
  generalize W4.heap.size = KX at *
  refine (CRG.out _).mono ?_
  rintro e' W6 ⟨rfl, hA⟩
  replace HB := bt HB hA
  replace HX := Lib.hid (HX.out.below hA)
  clear hA CRG
  have HY := Lib.hid (MC.new W6 k ex va vb s n 29)
  have hA := (Below.refl W6.heap.size W6).alloc (Nat.le_refl _) (.cells #[.int .i64 k, .int .i64 ex, .int .i64 va, .int .i64 vb, .int .i64 s.k, .int .i64 s.a, .int .i64 s.b, .string s.d, .int .i64 s.x.p, .int .i64 s.x.q, .string s.x.d, .int .i64 s.y.p, .int .i64 s.y.q, .string s.y.d, .int .i64 n] 29)
  replace HB := bt HB hA
  replace HX := Lib.hid (HX.out.below hA)
  clear hA
  have nem := fun W => mne_same k ex va vb s n W
  have eE : (E != E) = false := by simp
  obtain ⟨c0, c1, c2, c3, c4, c5, c6, c7, c8, c9, c10, c11, c12, c13, c14⟩ := id HX.out
  go_wp2_with fail
  clear c0 c1 c2 c3 c4 c5 c6 c7 c8 c9 c10 c11 c12 c13 c14
  generalize W6.alloc (.cells #[.int .i64 k, .int .i64 ex, .int .i64 va, .int .i64 vb, .int .i64 s.k, .int .i64 s.a, .int .i64 s.b, .string s.d, .int .i64 s.x.p, .int .i64 s.x.q, .string s.x.d, .int .i64 s.y.p, .int .i64 s.y.q, .string s.y.d, .int .i64 n] 29) = W7 at *
  generalize W6.heap.size = KY at *
  refine (CP.out _).mono ?_
  rintro e' W8 ⟨rfl, hA⟩
  replace HB := bt HB hA
  clear hA CP
  have eqt := bse t
  by_cases hE : E = 0
  · obtain ⟨j1, j2⟩ := hgp.out hE
    subst j1
    subst j2
    subst hE
    clear hgp
    go_wp2
    go_ret
    exact ⟨rfl, HB⟩
  · have hE1 : (E != 0) = true := bne_iff_ne.2 hE
    clear hgp hE
    go_wp2
    go_ret
    exact ⟨rfl, HB⟩
end Go.Proofs.Ytemfdmbjlmiopaa
