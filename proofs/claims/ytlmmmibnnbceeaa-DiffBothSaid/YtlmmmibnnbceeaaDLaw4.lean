/-
  Each keeps its own (chapter 41): the law.
-/
import Derived.Test.YtlmmmibnnbceeaaCompose
import Derived.Laws.Cover1
namespace Go.Proofs.Ytlmmmibnnbceeaa
open Go.RowKit
set_option linter.unusedVariables false
set_option linter.unusedSimpArgs false

theorem PtAt.p3 {W : World} {av : Option Addr} {c : Nat} {l : List P3} (h : PtAt W (.slice av l.length c) l) : P3At W av (l.map toI) := by
  obtain ⟨av', c', e, h⟩ := h
  injection e with e1 e2 e3
  subst e1
  intro k x hk
  rw [List.getElem?_map] at hk
  obtain ⟨y, hy, rfl⟩ := Option.map_eq_some_iff.1 hk
  obtain ⟨g, e, h1, h2, h3⟩ := h k y hy
  refine ⟨g, 0, e, ?_, ?_, ?_⟩
  · rw [Nat.zero_add]; exact h1
  · rw [Nat.zero_add]; exact h2
  · rw [Nat.zero_add]; exact h3
theorem SpAt.any {W : World} {v : Value} {l : List (Nat × Nat)} (h : SpAt W v l) : ∃ av c, v = .slice av l.length c := by
  obtain ⟨av, c, e, _⟩ := h
  exact ⟨av, c, e⟩
theorem PtAt.any {W : World} {v : Value} {l : List P3} (h : PtAt W v l) : ∃ av c, v = .slice av l.length c := by
  obtain ⟨av, c, e, _⟩ := h
  exact ⟨av, c, e⟩
theorem mrg_same {o a b : ByteArray} (ha : a.size = o.size) (hb : b.size = o.size) : mrgS o a b = mS o a b ∧ mrgL o a b = rs (pC o a b) o.size ∧ szE o a b = 0 := by
  unfold mrgS mrgL szE
  rw [if_pos ⟨ha, hb⟩, if_pos ⟨ha, hb⟩, if_pos ⟨ha, hb⟩]
  exact ⟨rfl, rfl, rfl⟩
/-- what the law says of three texts of n bytes -/
structure Both (o a b : ByteArray) (S : ByteArray) (L : List (Nat × Nat)) : Prop where
  s1 : mrgS o a b = S
  l1 : mrgL o a b = L
  s2 : mrgS o b a = S
  l2 : mrgL o b a = L
  s3 : mrgS o a o = a
  e1 : szE o a b = 0
  e2 : szE o b a = 0
  e3 : szE o a o = 0
theorem both_all (o a b : ByteArray) (ha : a.size = o.size) (hb : b.size = o.size) : Both o a b (mS o a b) (rs (pC o a b) o.size) := by
  obtain ⟨h1, h2, h3⟩ := mrg_same (o := o) (a := a) (b := b) ha hb
  obtain ⟨g1, g2, g3⟩ := mrg_same (o := o) (a := b) (b := a) hb ha
  obtain ⟨f1, f2, f3⟩ := mrg_same (o := o) (a := a) (b := o) ha rfl
  exact ⟨h1, h2, g1.trans (mS_comm o a b).symm, g2.trans (by rw [pC_comm]), f1.trans (mS_base ha), h3, g3, f3⟩
set_option maxHeartbeats 6400000 in
/-- the law, behind the cut -/
theorem walk_DiffBoth (o0 : ByteArray) (uo : o0.size ≤ 140737488351232) (a0 : ByteArray) (ua : a0.size ≤ 140737488351232) (b0 : ByteArray) (ub : b0.size ≤ 140737488351232) {w : World} : Calls Try.prog 6 #[.string o0, .string a0, .string b0] w fun e w' => e = .returned (.bool true) ∧ Below w.heap.size w w' := by
  clear uo ua ub
  have hlg := Lib.hid (fun w => long3 w 9 o0 a0 b0)
  cases hd : [o0, a0, b0].any fun t => decide (1500 < t.size) with
  | true =>
    rw [hd] at hlg
    go_enter Try.func6, Try.ntmps6
    go_wp2_with (first | (go_at_call 7; (with_reducible refine (works_any _).mono ?_); rintro e w1 ⟨rfl, hb1⟩) | (go_at_call 8; (with_reducible refine (hlg.out _).mono ?_); rintro e w2 ⟨rfl, hb2⟩))
    go_ret
    exact ⟨rfl, bt hb1 hb2⟩
  | false =>
    rw [hd] at hlg
    have ho0 : o0.size ≤ 1500 := by simp at hd; omega
    obtain ⟨n, hn⟩ : ∃ n, min (min o0.size a0.size) b0.size = n := ⟨_, rfl⟩
    have m1 : n ≤ o0.size := by omega
    have m2 : n ≤ a0.size := by omega
    have m3 : n ≤ b0.size := by omega
    have hmin : ∀ w, (Builtin.min_ #[3, 3, 3] 3 #[.int .i64 o0.size, .int .i64 a0.size, .int .i64 b0.size]).run Try.prog w = .ok (.int .i64 n) w := by
      intro w
      rw [run_min_int3]
      congr 2
      repeat' split
      all_goals omega
    have q0 : (0 : Int) ≤ (n : Int) := by omega
    have q1 : (n : Int) ≤ (o0.size : Int) := by omega
    have q2 : (n : Int) ≤ (a0.size : Int) := by omega
    have q3 : (n : Int) ≤ (b0.size : Int) := by omega
    obtain ⟨o, ho⟩ : ∃ o, o0.extract 0 n = o := ⟨_, rfl⟩
    obtain ⟨a, ha⟩ : ∃ a, a0.extract 0 n = a := ⟨_, rfl⟩
    obtain ⟨b, hb⟩ : ∃ b, b0.extract 0 n = b := ⟨_, rfl⟩
    have so : o.size = n := by rw [← ho, ext_size _ _ _ m1]; rfl
    have sa : a.size = n := by rw [← ha, ext_size _ _ _ m2]; rfl
    have sb : b.size = n := by rw [← hb, ext_size _ _ _ m3]; rfl
    have hon : o.size ≤ 1500 := by omega
    have hB := both_all o a b (by omega) (by omega)
    have hln : (rs (pC o a b) o.size).length ≤ 1000001 := by have := rs_len (pC o a b) o.size; omega
    have hlp : (rs (pC o a b) o.size).length = 0 ↔ rs (pC o a b) o.size = [] := List.length_eq_zero_iff
    obtain ⟨S, hS⟩ : ∃ S, mS o a b = S := ⟨_, rfl⟩
    obtain ⟨P, hP⟩ : ∃ P, sidL o a b = P := ⟨_, rfl⟩
    obtain ⟨F, hF⟩ : ∃ F, sidE o a b = F := ⟨_, rfl⟩
    have hz : szE o a b = 0 := hB.e1
    -- what Sides and Compose say
    have key : (F = 0 ∧ rs (pC o a b) o.size = [] ∧ cmpS a b (P.map toI) = S ∧ cmpE a b (P.map toI) = 0 ∧ P.length ≤ 1000001) ∨ (P = [] ∧ F = 14 ∧ rs (pC o a b) o.size ≠ []) ∨ (P = [] ∧ F = 8 ∧ n = 0) := by
      subst hF hP
      by_cases h0 : o.size = 0
      · refine .inr (.inr ?_)
        have hE : sidE o a b = 8 := by unfold sidE; rw [if_neg (by rw [hz]; simp), if_pos h0]
        exact ⟨by unfold sidL; rw [if_neg (by rw [hE]; decide)], hE, by omega⟩
      · by_cases hc : rs (pC o a b) o.size = []
        · refine .inl ?_
          have hE : sidE o a b = 0 := by unfold sidE; rw [if_neg (by rw [hz]; simp), if_neg h0, if_neg (by simp [hc])]
          have hL : sidL o a b = pts (pT o a b) o.size := by unfold sidL; rw [if_pos hE]
          have hce : cmpE a b ((pts (pT o a b) o.size).map toI) = 0 := by
            unfold cmpE
            rw [if_neg (by simp; omega), sa]
            rw [so] at h0 ⊢
            exact chk_pts _ _ (by omega)
          refine ⟨hE, hc, ?_, by rw [hL]; exact hce, by rw [hL]; have := pts_len (pT o a b) o.size; omega⟩
          rw [hL, ← hS]
          unfold cmpS
          rw [if_pos hce, (pts_way _ _ _ _).2, mS_mix (by omega) (by omega) ((rs_nil _ _).1 hc)]
        · refine .inr (.inl ?_)
          have hE : sidE o a b = 14 := by unfold sidE; rw [if_neg (by rw [hz]; simp), if_neg h0, if_pos hc]
          exact ⟨by unfold sidL; rw [if_neg (by rw [hE]; decide)], hE, hc⟩
    have h4 := Lib.hid (fun w => sides_of hP hF w hon)
    rw [hS] at hB
    generalize rs (pC o a b) o.size = L at *
    have h1 := Lib.hid (fun w => merge_of hB.s1 hB.l1 hB.e1 w hon)
    have h2 := Lib.hid (fun w => merge_of hB.s2 hB.l2 hB.e2 w hon)
    have h3 := Lib.hid (fun w => merge_of hB.s3 rfl hB.e3 w hon)
    have e1 := bse S
    have e2 := bse a
    have sab : a.size ≤ 1500 := by omega
    have h5 := Lib.hid (fun ad cap l w h hm => compose_any a b ad cap l w h hm sab)
    clear hS hP hF hB hz so sa sb hon sab hd
    have hn' := Lib.hid hn
    clear hn
    rcases key with ⟨rfl, hL0, hcs, hce, hpl⟩ | ⟨rfl, rfl, hne⟩ | ⟨rfl, rfl, hn0⟩
    · have hpl2 : (P.map toI).length ≤ 1000001 := by rw [List.length_map]; exact hpl
      have h6 := fun ad cap w h => h5.out ad cap (P.map toI) w h hpl2
      rw [List.length_map, hcs, hce] at h6
      have h6 := Lib.hid h6
      have hz1 : ((L.length : Int) == 0) = true := by rw [hL0]; rfl
      clear h5 hcs hce hpl2 hlp hL0
      go_enter Try.func6, Try.ntmps6
      go_wp2_with (first | (go_at_call 7; (with_reducible refine (works_any _).mono ?_); rintro e w1 ⟨rfl, hb1⟩) | (go_at_call 8; (with_reducible refine (hlg.out _).mono ?_); rintro e w2 ⟨rfl, hb2⟩))
      have hbd := Lib.hid (fun m => bdraws (bt hb1 hb2) m)
      clear hb1 hb2
      go_quiet (fail)
      go_wp2_with (first | (go_at_call 12; first | ((with_reducible refine (h1.out _).mono ?_); rintro e w3 ⟨⟨v3, rfl, hv3⟩, hb3⟩; obtain ⟨av3, cv3, rfl⟩ := hv3.any) | ((with_reducible refine (h2.out _).mono ?_); rintro e w4 ⟨⟨v4, rfl, hv4⟩, hb4⟩; obtain ⟨av4, cv4, rfl⟩ := hv4.any) | ((with_reducible refine (h3.out _).mono ?_); rintro e w5 ⟨⟨v5, rfl, hv5⟩, hb5⟩)) | (go_at_call 10; (with_reducible refine (same_eq _ _ _ _ (hv3.keep (bt hb4 hb5)) (hv4.keep hb5) hln).mono ?_); rintro e w6 ⟨rfl, hb6⟩) | (go_at_call 14; (with_reducible refine (h4.out _).mono ?_); rintro e w7 ⟨⟨v7, rfl, hv7⟩, hb7⟩; obtain ⟨av7, cv7, rfl⟩ := hv7.any) | (go_at_call 17; (with_reducible refine (h6.out _ _ _ hv7.p3).mono ?_); rintro e w8 ⟨rfl, hb8⟩))
      go_ret
      exact ⟨rfl, bt (bt (bt (bt (bt (bt (hbd.out _) hb3) hb4) hb5) hb6) hb7) hb8⟩
    · have hlp2 : decide (0 < L.length) = true := decide_eq_true (by have := List.length_pos_iff.2 hne; omega)
      have hlp3 : decide ((0 : Int) < (L.length : Int)) = true := decide_eq_true (by have := List.length_pos_iff.2 hne; omega)
      clear h5 hlp hne
      go_enter Try.func6, Try.ntmps6
      go_wp2_with (first | (go_at_call 7; (with_reducible refine (works_any _).mono ?_); rintro e w1 ⟨rfl, hb1⟩) | (go_at_call 8; (with_reducible refine (hlg.out _).mono ?_); rintro e w2 ⟨rfl, hb2⟩))
      have hbd := Lib.hid (fun m => bdraws (bt hb1 hb2) m)
      clear hb1 hb2
      go_quiet (fail)
      go_wp2_with (first | (go_at_call 12; first | ((with_reducible refine (h1.out _).mono ?_); rintro e w3 ⟨⟨v3, rfl, hv3⟩, hb3⟩; obtain ⟨av3, cv3, rfl⟩ := hv3.any) | ((with_reducible refine (h2.out _).mono ?_); rintro e w4 ⟨⟨v4, rfl, hv4⟩, hb4⟩; obtain ⟨av4, cv4, rfl⟩ := hv4.any) | ((with_reducible refine (h3.out _).mono ?_); rintro e w5 ⟨⟨v5, rfl, hv5⟩, hb5⟩)) | (go_at_call 10; (with_reducible refine (same_eq _ _ _ _ (hv3.keep (bt hb4 hb5)) (hv4.keep hb5) hln).mono ?_); rintro e w6 ⟨rfl, hb6⟩) | (go_at_call 14; (with_reducible refine (h4.out _).mono ?_); rintro e w7 ⟨⟨v7, rfl, hv7⟩, hb7⟩; obtain ⟨av7, cv7, rfl⟩ := hv7.any))
      go_ret
      exact ⟨rfl, bt (bt (bt (bt (bt (hbd.out _) hb3) hb4) hb5) hb6) hb7⟩
    · have hz1 : ((n : Int) == 0) = true := by rw [hn0]; rfl
      clear h5 hlp hn0
      go_enter Try.func6, Try.ntmps6
      go_wp2_with (first | (go_at_call 7; (with_reducible refine (works_any _).mono ?_); rintro e w1 ⟨rfl, hb1⟩) | (go_at_call 8; (with_reducible refine (hlg.out _).mono ?_); rintro e w2 ⟨rfl, hb2⟩))
      have hbd := Lib.hid (fun m => bdraws (bt hb1 hb2) m)
      clear hb1 hb2
      go_quiet (fail)
      go_wp2_with (first | (go_at_call 12; first | ((with_reducible refine (h1.out _).mono ?_); rintro e w3 ⟨⟨v3, rfl, hv3⟩, hb3⟩; obtain ⟨av3, cv3, rfl⟩ := hv3.any) | ((with_reducible refine (h2.out _).mono ?_); rintro e w4 ⟨⟨v4, rfl, hv4⟩, hb4⟩; obtain ⟨av4, cv4, rfl⟩ := hv4.any) | ((with_reducible refine (h3.out _).mono ?_); rintro e w5 ⟨⟨v5, rfl, hv5⟩, hb5⟩)) | (go_at_call 10; (with_reducible refine (same_eq _ _ _ _ (hv3.keep (bt hb4 hb5)) (hv4.keep hb5) hln).mono ?_); rintro e w6 ⟨rfl, hb6⟩) | (go_at_call 14; (with_reducible refine (h4.out _).mono ?_); rintro e w7 ⟨⟨v7, rfl, hv7⟩, hb7⟩; obtain ⟨av7, cv7, rfl⟩ := hv7.any))
      go_ret
      exact ⟨rfl, bt (bt (bt (bt (bt (hbd.out _) hb3) hb4) hb5) hb6) hb7⟩
end Go.Proofs.Ytlmmmibnnbceeaa
