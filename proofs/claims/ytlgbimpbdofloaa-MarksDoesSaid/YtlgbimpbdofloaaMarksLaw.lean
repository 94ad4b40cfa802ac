/-
  The statements of chapter 7 that need no reference: works, MarksBack.
-/
import Derived.Test.YtlgbimpbdofloaaMarksRead
import Derived.Test.YtlgbimpbdofloaaMarksAll
import Derived.Test.YtlgbimpbdofloaaBytes
namespace Go.Proofs.Ytlgbimpbdofloaa
open Go.RowKit
set_option linter.unusedVariables false
set_option linter.unusedSimpArgs false

def lenM (bs : List Nat) : Nat := (bs.map Lib.onesCount).sum
theorem lenM_snoc (bs : List Nat) (k : Nat) (h : k < bs.length) : lenM (bs.take (k + 1)) = lenM (bs.take k) + Lib.onesCount bs[k] := by
  unfold lenM
  rw [List.take_succ_eq_append_getElem h, List.map_append, List.sum_append]
  simp
theorem ones_le (c : Nat) (hc : c < 256) : Lib.onesCount c ≤ 8 := Lib.onesCount_le8 ⟨c, hc⟩
theorem lenM_le (bs : List Nat) (k : Nat) (hk : k ≤ bs.length) (hb : ∀ x ∈ bs, x < 256) : lenM (bs.take k) ≤ 8 * k := by
  induction k with
  | zero => simp [lenM]
  | succ k ih =>
    rw [lenM_snoc bs k (by omega)]
    have := ih (by omega)
    have := ones_le bs[k] (hb bs[k] (List.getElem_mem _))
    omega
set_option maxHeartbeats 1600000 in
theorem len_any (s g many : Nat) (bs : List Nat) (w : World) (h : MS w s g many bs) : Calls Try.prog 26 #[.pointer (some ⟨s, 0, none⟩)] w fun e w' => e = .returned (.int .i64 (lenM bs)) ∧ w = w' := by
  have hc1 := h.c1
  have hb := Lib.hid h.b
  have hlt := h.hb
  have hl : bs.length ≤ 1000 := by have := h.hn; have := h.hm; omega
  obtain ⟨n, hn⟩ : ∃ n, bs.length = n := ⟨_, rfl⟩
  rw [hn] at hc1 hl
  have hn := Lib.hid hn
  go_enter Try.func26, Try.ntmps26
  go_wp2
  go_loop [3, 13] (fun t i => ∃ k : Nat, k ≤ n ∧ i = .int .i64 k ∧ t = .int .i64 (lenM (bs.take k) : Nat)) (fun _ i => n - (intOf i).toNat)
  case atStart => exact ⟨0, Nat.zero_le _, rfl, rfl⟩
  case round =>
    obtain ⟨k, hk, rfl, rfl⟩ := hrel
    have hle := lenM_le bs k (by have := hn.out; omega) hlt
    by_cases hkn : k < n
    · have hk1 : k < bs.length := by have := hn.out; omega
      have hcell := hb.out k hk1
      have hbk : bs[k] < 256 := hlt _ (List.getElem_mem hk1)
      have hss := Lib.hid (lenM_snoc bs k hk1)
      generalize lenM (bs.take k) = a at *
      generalize bs[k] = c at *
      have hoc := ones_any c w hbk
      have hon := ones_le c hbk
      clear h hlt
      generalize Lib.onesCount c = q at *
      go_wp2_with (go_at_call 34; (with_reducible refine hoc.mono ?_); rintro e w1 ⟨rfl, rfl⟩)
      go_round
      case rel => exact ⟨k + 1, by omega, by go_num, by rw [hss.out]; go_num⟩
      case measure => simp [intOf]; omega
    · obtain rfl : k = n := by omega
      have ht : Hid (bs.take k = bs) := List.take_of_length_le (by have := hn.out; omega)
      go_wp2
      go_ret
      exact ⟨by rw [ht.out]; rfl, rfl⟩
theorem len_none (w : World) : Calls Try.prog 26 #[.pointer none] w fun e w' => e = .returned (.int .i64 0) ∧ w = w' := by
  go_enter Try.func26, Try.ntmps26
  go_wp2
  go_ret
  exact ⟨rfl, rfl⟩
set_option maxHeartbeats 1600000 in
theorem same_same (v1 v2 : Value) (B1 B2 : Nat) (l : List Int) (w : World) (h1 : Lx iv w B1 v1 l) (h2 : Lx iv w B2 v2 l) (hm : l.length ≤ 5000) : Calls Try.prog 12 #[v1, v2] w fun e w' => e = .returned (.bool true) ∧ Below w.heap.size w w' := by
  rcases h1 with ⟨rfl, rfl⟩ | ⟨g1, o1, c1, rfl, _, _, hc1⟩
  · obtain ⟨a, cap, rfl⟩ := h2.len
    clear h2
    go_enter Try.func12, Try.ntmps12
    go_wp2
    refine wp_loop_rounds 1 ?_
    rw [rounds_succ]
    go_wp2
    go_ret
    exact ⟨rfl, Below.refl _ _⟩
  · rcases h2 with ⟨rfl, rfl⟩ | ⟨g2, o2, c2, rfl, _, _, hc2⟩
    · go_enter Try.func12, Try.ntmps12
      go_wp2
      refine wp_loop_rounds 1 ?_
      rw [rounds_succ]
      go_wp2
      go_ret
      exact ⟨rfl, Below.refl _ _⟩
    · have HC1 := Lib.hid hc1
      have HC2 := Lib.hid hc2
      obtain ⟨n, hn⟩ : ∃ n, l.length = n := ⟨_, rfl⟩
      rw [hn] at hm ⊢
      have HN := Lib.hid hn
      clear hc1 hc2 hn
      go_enter Try.func12, Try.ntmps12
      go_wp2
      go_loopw [5] (fun i wr => ∃ k : Nat, k ≤ n ∧ i = .int .i64 k ∧ Hid (Below w.heap.size w wr)) (fun i _ => n - (intOf i).toNat)
      case atStart => exact ⟨0, Nat.zero_le _, rfl, Below.refl _ _⟩
      case round =>
        obtain ⟨k, hk, rfl, HB⟩ := hrel
        by_cases hlt : k < n
        · have hk1 : k < l.length := by have := HN.out; omega
          have d1 := (HB.out.cell (World.block_lt_of_cell? w _ (HC1.out k hk1))).trans (HC1.out k hk1)
          have d2 := (HB.out.cell (World.block_lt_of_cell? w _ (HC2.out k hk1))).trans (HC2.out k hk1)
          generalize l[k] = x at *
          unfold iv at d1 d2
          clear hk1
          go_wp2
          go_quiet (fail)
          go_wp2
          exact ⟨⟨k + 1, by omega, by go_num, bdraws HB.out _⟩, by simp [intOf]; omega⟩
        · obtain rfl : k = n := by omega
          go_wp2
          go_ret
          exact ⟨rfl, HB.out⟩
theorem add_of {w : World} {s g many : Nat} {bs : List Nat} {i : Int} (h : MS w s g many bs) {bs' : List Nat} {b : Bool} (h1 : turnL many bs i true = bs') (h2 : turnB many bs i true = b) : Calls Try.prog 9 #[.pointer (some ⟨s, 0, none⟩), .int .i64 i] w
    (TurnP w s g many bs bs' b) := h1 ▸ h2 ▸ add_any s g many bs i w h
set_option maxHeartbeats 1600000 in
theorem works_any (w : World) : Calls Try.prog 7 #[] w fun e w' => e = .returned (.bool true) ∧ Below w.heap.size w w' := by
  have e1 := bse ⟨#[1, 2]⟩
  have hms : msS [1, 2] = ⟨#[1, 2]⟩ := by decide
  go_enter Try.func7, Try.ntmps7
  go_wp2_with (first | (go_at_call 8; (with_reducible refine (new_any 10 _ (by decide)).mono ?_); rintro e w1 ⟨s, g, rfl, hM1, hs, hg, hb1⟩; rw [show nS 10 = 10 from rfl, show zeros 10 = [0, 0] from rfl] at hM1) | (go_at_call 9; (with_reducible refine (add_of hM1 (i := 0) (bs' := [1, 0]) (b := true) (by decide) (by decide)).mono ?_); rintro e w2 ⟨rfl, hM2, hf2⟩; clear hM1) | (go_at_call 9; (with_reducible refine (add_of hM2 (i := 9) (bs' := [1, 2]) (b := true) (by decide) (by decide)).mono ?_); rintro e w3 ⟨rfl, hM3, hf3⟩; clear hM2) | (go_at_call 9; (with_reducible refine (add_of hM3 (i := 9) (bs' := [1, 2]) (b := false) (by decide) (by decide)).mono ?_); rintro e w4 ⟨rfl, hM4, hf4⟩; clear hM3) | (go_at_call 9; (with_reducible refine (add_of hM4 (i := 10) (bs' := [1, 2]) (b := false) (by decide) (by decide)).mono ?_); rintro e w5 ⟨rfl, hM5, hf5⟩; clear hM4) | (go_at_call 11; (with_reducible refine (bytes_any s g 10 [1, 2] _ hM5).mono ?_); rintro e w6 ⟨rfl, rfl⟩; rw [hms]) | (go_at_call 26; (with_reducible refine (len_any s g 10 [1, 2] _ hM5).mono ?_); rintro e w6 ⟨rfl, rfl⟩; rw [show lenM [1, 2] = 2 from rfl]))
  go_ret
  have hsz : ∀ k, k = g → w.heap.size ≤ k := by rintro k rfl; assumption
  exact ⟨rfl, below_frm (below_frm (below_frm (below_frm hb1 hf2 hsz) hf3 hsz) hf4 hsz) hf5 hsz⟩
theorem sb_ms (bs : List Nat) (hb : ∀ x ∈ bs, x < 256) : sb (msS bs) = bs := by
  unfold sb msS
  rw [strOfNums_data, List.map_map, List.map_map]
  conv => rhs; rw [← List.map_id bs]
  apply List.map_congr_left
  intro x hx
  have := hb x hx
  simp
  omega
theorem ms_size (bs : List Nat) : (msS bs).size = bs.length := by unfold msS; rw [strOfNums_size]; simp
theorem rd_back {w : World} {s g : Nat} {many : Int} {bs : List Nat} (h : MS w s g (nS many) bs) : rdE many (msS bs) = 0 := by
  have hn := h.hn
  unfold rdE
  rw [ms_size, if_neg (by omega), if_neg (by omega), sb_ms bs h.hb, (bad_iff _ _ hn h.hb).2 h.hz]
  rfl
theorem rd_more {w : World} {s g : Nat} {many : Int} {bs : List Nat} (h : MS w s g (nS many) bs) (t : ByteArray) (ht : t.size = bs.length + 1) : rdE many t = 2 := by
  have hn := h.hn
  unfold rdE
  rw [if_neg (by omega), if_pos (by omega)]
theorem rd_ok (many : Int) (bs : List Nat) (hm : -9223372036854775808 ≤ many ∧ many ≤ 9223372036854775807) (hb : ∀ x ∈ bs, x < 256) (hn : nS many ≤ 1000) (he : rdE many (msS bs) = 0) (w : World) : Calls Try.prog 10 #[.int .i64 many, .string (msS bs)] w fun e w' =>
    ∃ s g, e = .returned (.tuple #[.pointer (some ⟨s, 0, none⟩), .int .i64 0]) ∧ MS w' s g (nS many) bs ∧ Below w.heap.size w w' := by
  refine (read_any many (msS bs) w hm ?_).mono ?_
  · by_cases h : bs.length ≤ 1000
    · rw [ms_size]; omega
    · exfalso
      unfold rdE at he
      rw [ms_size] at he
      split at he
      · cases he
      · rw [if_pos (by omega)] at he; cases he
  · rintro e w' (⟨h, _⟩ | ⟨_, s, g, rfl, hM, _, _, hb'⟩)
    · exact absurd he h
    · rw [sb_ms bs hb] at hM
      exact ⟨s, g, rfl, hM, hb'⟩
theorem rd_two (many : Int) (t : ByteArray) (w : World) (hm : -9223372036854775808 ≤ many ∧ many ≤ 9223372036854775807) (ht : t.size ≤ 140737488355328) (he : rdE many t = 2) : Calls Try.prog 10 #[.int .i64 many, .string t] w fun e w' =>
    e = .returned (.tuple #[.pointer none, .int .i64 2]) ∧ Below w.heap.size w w' := by
  refine (read_any many t w hm ht).mono ?_
  rintro e w' (⟨_, rfl, hb⟩ | ⟨h, _⟩)
  · rw [he]; exact ⟨rfl, hb⟩
  · rw [he] at h; cases h
def BackR (N : Nat) (w : World) (s g many len : Nat) (i : Value) (wr : World) : Prop := ∃ k : Nat, k ≤ len ∧ i = .int .i64 k ∧ (∃ bs, MS wr s g many bs) ∧ Below N w wr
set_option maxHeartbeats 3200000 in
theorem walk_MarksBack (many : Int) (um : (Lit.int .i64 many).wf = true) (a : Option Addr) (len cap : Nat) (l : List Int) {w : World} (hl : IsList w a len 1 (intE .i64) (intOk .i64) l) :
    Calls Try.prog 3 #[.int .i64 many, .slice a len cap] w fun e w' => e = .returned (.bool true) ∧ Below w.heap.size w w' := by
  have hm := hl.most
  have hbd := bounds_i64 um
  clear um
  by_cases hbig : 300 < len
  · go_enter Try.func3, Try.ntmps3
    go_wp2_with (go_at_call 7; (with_reducible refine (works_any _).mono ?_); rintro e w1 ⟨rfl, hb1⟩)
    go_ret
    exact ⟨rfl, hb1⟩
  have hN := Lib.hid (fun w => new_any many w hbd)
  have hbd' := Lib.hid hbd
  clear hbd
  go_enter Try.func3, Try.ntmps3
  go_wp2_with (first | (go_at_call 7; (with_reducible refine (works_any _).mono ?_); rintro e w1 ⟨rfl, hb1⟩) | (go_at_call 8; (with_reducible refine (hN.out _).mono ?_); rintro e w2 ⟨s, g, rfl, hM2, hs, hg, hb2⟩))
  have hb02 := bt hb1 hb2
  have hz1 := hb1.size
  have hgz : w.heap.size ≤ g := by omega
  obtain ⟨N, hNw⟩ : ∃ N, w.heap.size = N := ⟨_, rfl⟩
  have h0 : BackR N w s g (nS many) len (.int .i64 0) w2 := ⟨0, Nat.zero_le _, rfl, ⟨_, hM2⟩, hNw ▸ hb02⟩
  rw [hNw] at hgz
  have hNw := Lib.hid hNw
  have hlen := Lib.hid hl.size_eq
  clear hM2 hb02 hb2 hb1 hz1 hs hg
  go_loopw [6] (fun i wr => BackR N w s g (nS many) len i wr) (fun i _ => len - (intOf i).toNat)
  case atStart => exact h0
  case round =>
    obtain ⟨k, hk, rfl, ⟨bs, hM⟩, hbW⟩ := hrel
    by_cases hlt : k < len
    · obtain ⟨b, o, rfl, _⟩ := hl.at_ (by omega)
      have hk1 : k < l.length := by have := hlen.out; omega
      have g0 : wr.cell? ⟨b, o + k, none⟩ = some (.int .i64 l[k]) := by
        have := (hl.get (hNw.out ▸ hbW) (Nat.le_refl _) k hk1 0 (by decide) _ rfl).1
        rw [Nat.mul_one] at this
        exact this
      have hA := Lib.hid (add_any s g (nS many) bs l[k] wr hM)
      generalize l[k] = x at *
      go_wp2_with (go_at_call 9; (with_reducible refine hA.out.mono ?_); rintro e w4 ⟨rfl, hM4, hf4⟩)
      refine ⟨⟨k + 1, by omega, by go_num, ⟨_, hM4⟩, ?_⟩, by simp [intOf]; omega⟩
      have := hNw.out
      subst this
      exact below_frm hbW hf4 (by rintro k rfl; exact hgz)
    · obtain rfl : k = len := by omega
      have hn1 := hM.hn
      have hm1 := hM.hm
      have hR := Lib.hid (rd_ok many bs hbd'.out hM.hb hM.hm (rd_back hM))
      have hsz : (msS bs ++ ⟨#[0]⟩).size = bs.length + 1 := by rw [ByteArray.size_append, ms_size]; rfl
      have hR2 := Lib.hid (fun w => rd_two many (msS bs ++ ⟨#[0]⟩) w hbd'.out (by rw [hsz]; omega) (rd_more hM _ hsz))
      have hse := bse (msS bs)
      have hgl : gath 2000 (sel bs (nS many)) = sel bs (nS many) := gath_all (.inr (by have := sel_len bs (nS many); omega))
      have hsl : (sel bs (nS many)).length ≤ 5000 := by have := sel_len bs (nS many); omega
      have hal := fun s g w h => all_any s g (nS many) bs 2000 w h
      rw [hgl] at hal
      have hal := Lib.hid hal
      have hms1 : (msS bs).size ≤ 1000 := by rw [ms_size]; omega
      have hms2 : (msS bs).size + 1 ≤ maxLen := by rw [ms_size]; unfold maxLen; omega
      clear hsz hgl hn1
      generalize sel bs (nS many) = L at *
      generalize nS many = n at *
      go_wp2_with (first | (go_at_call 11; (with_reducible refine (bytes_any s g n bs wr hM).mono ?_); rintro e w5 ⟨rfl, rfl⟩) | (go_at_call 10; (with_reducible refine (hR.out wr).mono ?_); rintro e w5 ⟨s2, g2, rfl, hT5, hb5⟩; have hM5 := hM.below hb5) | (go_at_call 11; (with_reducible refine (bytes_any s g n bs w5 hM5).mono ?_); rintro e w6 ⟨rfl, rfl⟩) | (go_at_call 10; (with_reducible refine (hR2.out w5).mono ?_); rintro e w6 ⟨rfl, hb6⟩; have hM6 := hM5.below hb6; have hT6 := hT5.below hb6) | (go_at_call 13; (with_reducible refine (hal.out s2 g2 w6 hT6).mono ?_); rintro e w7 ⟨⟨v7, rfl, hl7⟩, hb7⟩; have hM7 := hM6.below hb7; have hT7 := hT6.below hb7) | (go_at_call 13; (with_reducible refine (hal.out s g w7 hM7).mono ?_); rintro e w8 ⟨⟨v8, rfl, hl8⟩, hb8⟩; have hM8 := hM7.below hb8; have hT8 := hT7.below hb8; have hl78 := (hl7.below hb8).lx) | (go_at_call 12; (with_reducible refine (same_same v7 v8 _ _ _ w8 hl78 hl8.lx hsl).mono ?_); rintro e w9 ⟨rfl, hb9⟩; have hM9 := hM8.below hb9; have hT9 := hT8.below hb9) | (go_at_call 11; (with_reducible refine (bytes_any s2 g2 n bs w9 hT9).mono ?_); rintro e w10 ⟨rfl, rfl⟩) | (go_at_call 11; (with_reducible refine (bytes_any s g n bs w9 hM9).mono ?_); rintro e w10 ⟨rfl, rfl⟩))
      go_ret
      exact ⟨rfl, hNw.out ▸ hbW.trans ((bt (bt (bt (bt hb5 hb6) hb7) hb8) hb9).mono (by have := hbW.size; have := hNw.out; omega))⟩
end Go.Proofs.Ytlgbimpbdofloaa
