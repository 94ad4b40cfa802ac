/-
  Bytes of two texts, part by part (chapter 41): both sides' Compose.
-/
import Derived.Test.YtlmmmibnnbceeaaCmp
import Derived.Test.YtlmmmibnnbceeaaBuild
namespace Go.Proofs.Ytlmmmibnnbceeaa
open Go.RowKit
set_option linter.unusedVariables false
set_option linter.unusedSimpArgs false

theorem bat_below {T e : TypeId} {B b : Nat} {p : Value} {bs : List Value} {w w' : World} (h : Lib.BuilderAt T e B b p bs w) (hb : Below w.heap.size w w') : Lib.BuilderAt T e B b p bs w' := by
  obtain ⟨h1, v, h2, h3, h4⟩ := h
  refine ⟨h1, v, (hb.block b (Array.getElem?_eq_some_iff.1 h2).1).trans h2, ⟨h3.1, ?_⟩, h4⟩
  rcases h3.2 with h5 | ⟨g, cap, cur, ev, hg, hc, r⟩
  · exact .inl h5
  · exact .inr ⟨g, cap, cur, ev, hg, (hb.block g (Array.getElem?_eq_some_iff.1 hc).1).trans hc, r⟩
theorem bld_below {T e : TypeId} {B b : Nat} {bs : List Value} {w w' : World} (h : Lib.IsBuilder T e B b bs w) (hb : Below w.heap.size w w') : Lib.IsBuilder T e B b bs w' := by
  rcases h with h | h
  · exact .inl (bat_below h hb)
  · exact .inr (bat_below h hb)
theorem cells_app (s t : ByteArray) : Lib.strCells s ++ Lib.strCells t = Lib.strCells (s ++ t) := by
  unfold Lib.strCells; rw [app_list, List.map_append]
set_option maxHeartbeats 3200000 in
theorem compose_any (a b : ByteArray) (ad : Option Addr) (cap : Nat) (l : List I3) (w : World) (hl : P3At w ad l) (hm : l.length ≤ 1000001) (ha : a.size ≤ 1500) :
    Calls Try.prog 17 #[.string a, .string b, .slice ad l.length cap] w fun e w' => e = .returned (.tuple #[.string (cmpS a b l), .int .i64 (cmpE a b l)]) ∧ Below w.heap.size w w' := by
  have hch := Lib.hid (fun w h => check_any ad cap l (b.size : Int) w h hm)
  have hl := Lib.hid hl
  by_cases hs : a.size = b.size
  · have hE : cmpE a b l = chkE l b.size := by unfold cmpE; rw [if_neg (by simp [hs]), hs]
    have hS : cmpS a b l = if chkE l b.size = 0 then cmp a b ⟨#[]⟩ l else ⟨#[]⟩ := by unfold cmpS; rw [hE]
    by_cases h0 : chkE l b.size = 0
    · rw [if_pos h0] at hS
      rw [hS, hE, h0]
      rw [h0] at hch
      have hne : ¬ (l = [] ∨ (b.size : Int) < 1) := by
        intro h
        unfold chkE at h0
        rw [if_pos h] at h0
        exact absurd h0 (by decide)
      have hck : chk b.size 0 l = 0 := by
        unfold chkE at h0
        rw [if_neg hne] at h0
        exact h0
      have hpos : Hid (0 < b.size) := by show 0 < b.size; omega
      obtain ⟨R, hR⟩ : ∃ R, cmp a b ⟨#[]⟩ l = R := ⟨_, rfl⟩
      rw [hR]
      clear hS hE h0 hne
      go_enter Try.func17, Try.ntmps17
      go_wp2_with (first | (go_at_call 19; (with_reducible refine (hch.out _ hl.out).mono ?_); rintro e w1 ⟨rfl, hb1⟩))
      have hbl0 := Lib.fresh_isBuilder 58 5 w1
      have hB0 := bt hb1 (alb' w1 (.cells #[.pointer none, .slice none 0 0] 58))
      have hsz := Lib.hid hb1.size
      go_loopw [27] (fun i wr => ∃ (k c : Nat) (s : ByteArray), k ≤ l.length ∧ i = .int .i64 k ∧ Hid (chk b.size c (l.drop k) = 0) ∧ Hid (cmp a b s (l.drop k) = R) ∧ Hid (s.size = c) ∧ Hid (Lib.IsBuilder 58 5 w1.heap.size w1.heap.size (Lib.strCells s) wr) ∧ Hid (Below w.heap.size w wr) ∧ Hid (w1.heap.size ≤ wr.heap.size)) (fun i _ => l.length - (intOf i).toNat)
      case atStart => exact ⟨0, 0, ⟨#[]⟩, Nat.zero_le _, rfl, hck, hR, rfl, hbl0, hB0, (alb' w1 _).size⟩
      case round =>
        obtain ⟨k, c, s, hk, rfl, hc, hcm, hsz2, hbl, hB, hgt⟩ := hrel
        clear hbl0 hB0 hck hR
        by_cases hlt : k < l.length
        · have hd2 : decide ((k : Int) < (l.length : Int)) = true := decide_eq_true (by omega)
          obtain ⟨⟨x1, x2, x3⟩, hx, hdr⟩ := drop_at l k hlt
          obtain ⟨g, o, rfl, p1, p2, p3⟩ := hl.out k _ hx
          have p1 := bkeep hB.out p1
          have p2 := bkeep hB.out p2
          have p3 := bkeep hB.out p3
          have i1 : (0 : Int) ≤ (k : Int) := by omega
          have i2 : (k : Int) < (l.length : Int) := by omega
          have hst := hc.out
          have hcm1 := hcm.out
          rw [hdr] at hst hcm1
          obtain ⟨e1, e2, e3, e4, e5⟩ := chk_step hst
          simp only at e1 e2 e3 e4 e5
          obtain ⟨y, rfl⟩ : ∃ y : Nat, x2 = y := ⟨x2.toNat, by omega⟩
          subst e1
          have e2' : c ≤ y := by omega
          have e3' : y ≤ a.size := by omega
          have e3b : y ≤ b.size := by omega
          have hsE := hsz2.out
          have hst2 := Lib.hid e5
          have n0 : (0 : Int) ≤ (c : Int) := by omega
          have n1 : (c : Int) ≤ (y : Int) := by omega
          have n3 : (y : Int) ≤ (b.size : Int) := by omega
          have hW := Lib.hid (bld_below hbl.out (alb' wr (.cells #[.int .i64 c, .int .i64 y, .int .i64 x3] 54)))
          have hBW := Lib.hid (bt hB.out (alb' wr (.cells #[.int .i64 c, .int .i64 y, .int .i64 x3] 54)))
          have hgW : Hid (w1.heap.size ≤ (wr.alloc (.cells #[.int .i64 c, .int .i64 y, .int .i64 x3] 54)).heap.size) := Nat.le_trans hgt.out (alb' wr _).size
          have hcm2 : cmp a b (s ++ (sdB a b x3).extract c y) (l.drop (k + 1)) = R := hcm1
          have hxs : ((sdB a b x3).extract c y).size = y - c := by
            unfold sdB; split
            · exact ext_size _ _ _ e3b
            · exact ext_size _ _ _ e3'
          have hlen : (Lib.strCells s).length + ((sdB a b x3).extract c y).size ≤ 140737488355328 := by rw [Lib.strCells_length, hxs]; omega
          have hsN : Hid ((s ++ (sdB a b x3).extract c y).size = y) := by show _ = _; rw [ByteArray.size_append, hxs]; omega
          have hcall := fun T => bwrite_any w1.heap.size w1.heap.size (Lib.strCells s) T _ hW.out
          have hcm2 := Lib.hid hcm2
          rcases e4 with rfl | rfl
          · have hs0 : sdB a b 0 = a := rfl
            rw [hs0] at hlen hsN hcm2
            have hcall := Lib.hid (hcall _ hlen hgW.out)
            clear hx hdr hc hcm hcm1 hst hsz2 hxs hlen e5 hs0
            go_wp2_with (first | (go_at_call 29; (with_reducible refine hcall.out.mono ?_); rintro e w3 ⟨rfl, hb3, hbel3⟩))
            rw [cells_app] at hb3
            exact ⟨⟨k + 1, y, _, by omega, by go_num, hst2, hcm2, hsN, hb3, hBW.out.trans (hbel3.mono hsz.out), Nat.le_trans hgW.out hbel3.size⟩, by simp [intOf]; omega⟩
          · have hs0 : sdB a b 1 = b := rfl
            rw [hs0] at hlen hsN hcm2
            have hcall := Lib.hid (hcall _ hlen hgW.out)
            clear hx hdr hc hcm hcm1 hst hsz2 hxs hlen e5 hs0
            go_wp2_with (first | (go_at_call 29; (with_reducible refine hcall.out.mono ?_); rintro e w3 ⟨rfl, hb3, hbel3⟩))
            rw [cells_app] at hb3
            exact ⟨⟨k + 1, y, _, by omega, by go_num, hst2, hcm2, hsN, hb3, hBW.out.trans (hbel3.mono hsz.out), Nat.le_trans hgW.out hbel3.size⟩, by simp [intOf]; omega⟩
        · have hd2 : decide ((k : Int) < (l.length : Int)) = false := decide_eq_false (by omega)
          have hst := hc.out
          have hcm1 := hcm.out
          rw [List.drop_eq_nil_of_le (by omega)] at hst hcm1
          have hcm1 : s = R := hcm1
          subst hcm1
          have hs1 := hsz2.out
          have hge : ¬ ((c : Int) < (b.size : Int)) := by
            intro h
            unfold chk at hst
            rw [if_pos h] at hst
            exact absurd hst (by decide)
          have hp := hpos.out
          have h0 : 0 < s.size := by omega
          have hcall := Lib.hid (bstring_any w1.heap.size w1.heap.size s wr hbl.out h0)
          clear hst hcm hc hs1 hge hp h0 hsz2
          go_wp2_with (first | (go_at_call 30; (with_reducible refine hcall.out.mono ?_); rintro e w3 ⟨rfl, hbel3⟩))
          go_ret2
          exact ⟨rfl, hB.out.trans (hbel3.mono hsz.out)⟩
    · rw [if_neg h0] at hS
      have hz : (chkE l b.size == 0) = false := beq_eq_false_iff_ne.2 h0
      have hz' : (chkE l b.size != 0) = true := by simp [bne, hz]
      rw [hS, hE]
      generalize chkE l b.size = E at *
      go_enter Try.func17, Try.ntmps17
      go_wp2_with (first | (go_at_call 19; (with_reducible refine (hch.out _ hl.out).mono ?_); rintro e w1 ⟨rfl, hb1⟩))
      go_ret2
      exact ⟨rfl, hb1⟩
  · have hE : cmpE a b l = 12 := by unfold cmpE; rw [if_pos hs]
    have hS : cmpS a b l = ⟨#[]⟩ := by unfold cmpS; rw [hE]; rfl
    rw [hE, hS]
    have hz : ((a.size : Int) == (b.size : Int)) = false := beq_eq_false_iff_ne.2 (by omega)
    have hz' : ((a.size : Int) != (b.size : Int)) = true := by simp [bne, hz]
    go_enter Try.func17, Try.ntmps17
    go_wp2
    go_ret2
    exact ⟨rfl, Below.refl _ _⟩
set_option maxHeartbeats 3200000 in
theorem rcompose_any (a b : ByteArray) (ad : Option Addr) (cap : Nat) (l : List I3) (w : World) (hl : P3At w ad l) (hm : l.length ≤ 1000001) (ha : a.size ≤ 1500) :
    Calls Try.prog 18 #[.string a, .string b, .slice ad l.length cap] w fun e w' => e = .returned (.tuple #[.string (cmpS a b l), .int .i64 (cmpE a b l)]) ∧ Below w.heap.size w w' := by
  have hch := Lib.hid (fun w h => rcheck_any ad cap l (b.size : Int) w h hm)
  have hl := Lib.hid hl
  by_cases hs : a.size = b.size
  · have hE : cmpE a b l = chkE l b.size := by unfold cmpE; rw [if_neg (by simp [hs]), hs]
    have hS : cmpS a b l = if chkE l b.size = 0 then cmp a b ⟨#[]⟩ l else ⟨#[]⟩ := by unfold cmpS; rw [hE]
    by_cases h0 : chkE l b.size = 0
    · rw [if_pos h0] at hS
      rw [hS, hE, h0]
      rw [h0] at hch
      have hne : ¬ (l = [] ∨ (b.size : Int) < 1) := by
        intro h
        unfold chkE at h0
        rw [if_pos h] at h0
        exact absurd h0 (by decide)
      have hck : chk b.size 0 l = 0 := by
        unfold chkE at h0
        rw [if_neg hne] at h0
        exact h0
      obtain ⟨R, hR⟩ : ∃ R, cmp a b ⟨#[]⟩ l = R := ⟨_, rfl⟩
      rw [hR]
      clear hS hE h0 hne
      go_enter Try.func18, Try.ntmps18
      go_wp2_with (first | (go_at_call 20; (with_reducible refine (hch.out _ hl.out).mono ?_); rintro e w1 ⟨rfl, hb1⟩))
      have hB0 := Lib.hid hb1
      clear hb1
      go_loopw [9, 10] (fun S i wr => ∃ (k c : Nat) (s : ByteArray), k ≤ l.length ∧ i = .int .i64 k ∧ S = .string s ∧ Hid (chk b.size c (l.drop k) = 0) ∧ Hid (cmp a b s (l.drop k) = R) ∧ Hid (s.size = c) ∧ Hid (Below w.heap.size w wr)) (fun _ i _ => l.length - (intOf i).toNat)
      case atStart => exact ⟨0, 0, ⟨#[]⟩, Nat.zero_le _, rfl, rfl, hck, hR, rfl, hB0⟩
      case round =>
        obtain ⟨k, c, s, hk, rfl, rfl, hc, hcm, hsz2, hB⟩ := hrel
        clear hB0 hck hR
        by_cases hlt : k < l.length
        · have hd2 : decide ((k : Int) < (l.length : Int)) = true := decide_eq_true (by omega)
          obtain ⟨⟨x1, x2, x3⟩, hx, hdr⟩ := drop_at l k hlt
          obtain ⟨g, o, rfl, p1, p2, p3⟩ := hl.out k _ hx
          have p1 := bkeep hB.out p1
          have p2 := bkeep hB.out p2
          have p3 := bkeep hB.out p3
          have i1 : (0 : Int) ≤ (k : Int) := by omega
          have i2 : (k : Int) < (l.length : Int) := by omega
          have hst := hc.out
          have hcm1 := hcm.out
          rw [hdr] at hst hcm1
          obtain ⟨e1, e2, e3, e4, e5⟩ := chk_step hst
          simp only at e1 e2 e3 e4 e5
          obtain ⟨y, rfl⟩ : ∃ y : Nat, x2 = y := ⟨x2.toNat, by omega⟩
          subst e1
          have e2' : c ≤ y := by omega
          have e3' : y ≤ a.size := by omega
          have e3b : y ≤ b.size := by omega
          have hsE := hsz2.out
          have hst2 := Lib.hid e5
          have n0 : (0 : Int) ≤ (c : Int) := by omega
          have n1 : (c : Int) ≤ (y : Int) := by omega
          have n3 : (y : Int) ≤ (b.size : Int) := by omega
          have hcm2 : cmp a b (s ++ (sdB a b x3).extract c y) (l.drop (k + 1)) = R := hcm1
          have hxs : ((sdB a b x3).extract c y).size = y - c := by
            unfold sdB; split
            · exact ext_size _ _ _ e3b
            · exact ext_size _ _ _ e3'
          have hsN : Hid ((s ++ (sdB a b x3).extract c y).size = y) := by show _ = _; rw [ByteArray.size_append, hxs]; omega
          have hcm2 := Lib.hid hcm2
          have hBd := Lib.hid (fun m => bdraws hB.out m)
          rcases e4 with rfl | rfl
          · have hs0 : sdB a b 0 = a := rfl
            rw [hs0] at hsN hcm2
            clear hx hdr hc hcm hcm1 hst hsz2 hxs e5 hs0
            go_wp2_with fail
            go_quiet (fail)
            go_wp2
            exact ⟨⟨k + 1, y, _, by omega, by go_num, rfl, hst2, hcm2, hsN, hBd.out _⟩, by simp [intOf]; omega⟩
          · have hs0 : sdB a b 1 = b := rfl
            rw [hs0] at hsN hcm2
            clear hx hdr hc hcm hcm1 hst hsz2 hxs e5 hs0
            go_wp2_with fail
            go_quiet (fail)
            go_wp2
            exact ⟨⟨k + 1, y, _, by omega, by go_num, rfl, hst2, hcm2, hsN, hBd.out _⟩, by simp [intOf]; omega⟩
        · have hd2 : decide ((k : Int) < (l.length : Int)) = false := decide_eq_false (by omega)
          have hcm1 := hcm.out
          rw [List.drop_eq_nil_of_le (by omega)] at hcm1
          have hcm1 : s = R := hcm1
          subst hcm1
          clear hcm hc hsz2
          go_wp2
          go_ret2
          exact ⟨rfl, hB.out⟩
    · rw [if_neg h0] at hS
      have hz : (chkE l b.size == 0) = false := beq_eq_false_iff_ne.2 h0
      have hz' : (chkE l b.size != 0) = true := by simp [bne, hz]
      rw [hS, hE]
      generalize chkE l b.size = E at *
      go_enter Try.func18, Try.ntmps18
      go_wp2_with (first | (go_at_call 20; (with_reducible refine (hch.out _ hl.out).mono ?_); rintro e w1 ⟨rfl, hb1⟩))
      go_ret2
      exact ⟨rfl, hb1⟩
  · have hE : cmpE a b l = 12 := by unfold cmpE; rw [if_pos hs]
    have hS : cmpS a b l = ⟨#[]⟩ := by unfold cmpS; rw [hE]; rfl
    rw [hE, hS]
    have hz : ((a.size : Int) == (b.size : Int)) = false := beq_eq_false_iff_ne.2 (by omega)
    have hz' : ((a.size : Int) != (b.size : Int)) = true := by simp [bne, hz]
    go_enter Try.func18, Try.ntmps18
    go_wp2
    go_ret2
    exact ⟨rfl, Below.refl _ _⟩
end Go.Proofs.Ytlmmmibnnbceeaa
