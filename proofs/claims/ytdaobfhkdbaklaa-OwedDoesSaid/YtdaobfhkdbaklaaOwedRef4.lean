/-
  What is owed, the reference: paid.
-/
import Derived.Test.YtdaobfhkdbaklaaOwedRef3
namespace Go.Proofs.Ytdaobfhkdbaklaa
open Go.RowKit
set_option linter.unusedVariables false
set_option linter.unusedSimpArgs false

/-- what the loop downward has found by place j -/
def BR (cs : List Nat) (f : Int) (j : Nat) (b : Int) : Prop := (b = -1 ∧ ∀ x, j ≤ x → x < cs.length → cs.getD x 0 = 0) ∨ ∃ p : Nat, b = p ∧ j ≤ p ∧ p < cs.length ∧ cs.getD p 0 ≠ 0 ∧ ∀ x : Nat, j ≤ x → x < cs.length → cs.getD x 0 ≠ 0 → (f ≤ p ∧ ((x : Int) < f ∨ p ≤ x)) ∨ ((p : Int) < f ∧ (x : Int) < f ∧ p ≤ x)
theorem BR_put {cs : List Nat} {f : Int} {j : Nat} {b : Int} (h : BR cs f (j + 1) b) (hj : j < cs.length) (hc : cs.getD j 0 ≠ 0) (hb : f ≤ j ∨ b < 0 ∨ b < f) : BR cs f j j := by
  refine .inr ⟨j, rfl, Nat.le_refl _, hj, hc, fun x h1 h2 h3 => ?_⟩
  rcases h with ⟨rfl, h⟩ | ⟨p, rfl, hp1, hp2, hp3, h⟩
  · have : x = j := by
      by_cases e : x = j
      · exact e
      · exact absurd (h x (by omega) h2) h3
    omega
  · by_cases e : x = j
    · omega
    · have := h x (by omega) h2 h3
      omega
theorem BR_keep {cs : List Nat} {f : Int} {j : Nat} {b : Int} (h : BR cs f (j + 1) b) (hb : cs.getD j 0 = 0 ∨ ¬ (f ≤ j ∨ b < 0 ∨ b < f)) : BR cs f j b := by
  rcases h with ⟨rfl, h⟩ | ⟨p, rfl, hp1, hp2, hp3, h⟩
  · refine .inl ⟨rfl, fun x h1 h2 => ?_⟩
    by_cases e : x = j
    · subst e; rcases hb with hb | hb
      · exact hb
      · exact absurd (.inr (.inl (by omega))) hb
    · exact h x (by omega) h2
  · refine .inr ⟨p, rfl, by omega, hp2, hp3, fun x h1 h2 h3 => ?_⟩
    by_cases e : x = j
    · subst e
      rcases hb with hb | hb
      · exact absurd hb h3
      · omega
    · exact h x (by omega) h2 h3
theorem selC_head (cs : List Nat) (a p : Nat) (hp : p < cs.length) (ha : a ≤ p) (hc : cs.getD p 0 ≠ 0) (h : ∀ x, a ≤ x → x < p → cs.getD x 0 = 0) : ∃ t, selC cs a = (p : Int) :: t := by
  unfold selC
  obtain ⟨d, hd⟩ : ∃ d, cs.length = p + (d + 1) := ⟨cs.length - p - 1, by omega⟩
  rw [hd, List.range_add, List.filter_append, List.range_succ_eq_map]
  have h1 : (List.range p).filter (fun i => decide (a ≤ i) && decide (cs.getD i 0 ≠ 0)) = [] := by
    rw [List.filter_eq_nil_iff]
    intro x hx
    have := List.mem_range.1 hx
    by_cases e : a ≤ x
    · rw [h x e this]; simp
    · simp [e]
  rw [h1]
  simp only [List.map_cons, Nat.add_zero, List.nil_append]
  rw [List.filter_cons_of_pos (by simp only [ha, decide_true, Bool.true_and, decide_eq_true_eq]; exact hc)]
  exact ⟨_, rfl⟩
theorem selC_nil (cs : List Nat) (a : Nat) (h : ∀ x, a ≤ x → x < cs.length → cs.getD x 0 = 0) : selC cs a = [] := by
  unfold selC
  rw [List.map_eq_nil_iff, List.filter_eq_nil_iff]
  intro x hx
  have := List.mem_range.1 hx
  by_cases e : a ≤ x
  · rw [h x e this]; simp
  · simp [e]
theorem BR_next {cs : List Nat} {f : Int} {b : Int} (h : BR cs f 0 b) : (b = -1 ∧ nextC cs f = (0, false)) ∨ ∃ p : Nat, b = p ∧ p < cs.length ∧ cs.getD p 0 ≠ 0 ∧ nextC cs f = ((p : Int), true) := by
  unfold nextC
  rcases h with ⟨rfl, h⟩ | ⟨p, rfl, hp1, hp2, hp3, h⟩
  · left
    rw [selC_nil cs _ (fun x _ => h x (Nat.zero_le _)), selC_nil cs _ (fun x _ => h x (Nat.zero_le _))]
    exact ⟨rfl, rfl⟩
  · refine .inr ⟨p, rfl, hp2, hp3, ?_⟩
    by_cases hf : f ≤ p
    · obtain ⟨t, ht⟩ := selC_head cs (max f 0).toNat p hp2 (by omega) hp3 (fun x h1 h2 => by
        by_cases e : cs.getD x 0 = 0
        · exact e
        · have := h x (Nat.zero_le _) (by omega) e
          omega)
      rw [ht]
    · rw [selC_nil cs (max f 0).toNat (fun x h1 h2 => by
        by_cases e : cs.getD x 0 = 0
        · exact e
        · have := h x (Nat.zero_le _) (by omega) e
          omega)]
      obtain ⟨t, ht⟩ := selC_head cs 0 p hp2 (by omega) hp3 (fun x h1 h2 => by
        by_cases e : cs.getD x 0 = 0
        · exact e
        · have := h x (Nat.zero_le _) (by omega) e
          omega)
      rw [ht]
theorem tz_first (c k : Nat) (hc : c < 128 ∧ c % 2 = 0) (hk : 1 ≤ k ∧ k ≤ 6) (h : c.testBit k = true) (hn : ∀ x, 1 ≤ x → x < k → c.testBit x = false) : tzK c = k := by
  have h2 : ∀ c : Fin 128, ∀ k : Fin 7, c.val % 2 = 0 → 1 ≤ k.val → c.val.testBit k.val = true → (∀ x : Fin 7, 1 ≤ x.val → x.val < k.val → c.val.testBit x.val = false) → tzK c.val = k.val := by decide +kernel
  exact h2 ⟨c, hc.1⟩ ⟨k, by omega⟩ hc.2 hk.1 h (fun x h1 h2 => hn x h1 h2)
theorem bit_some (c : Nat) (hc : c < 128 ∧ c % 2 = 0) (h : c ≠ 0) : ∃ k, 1 ≤ k ∧ k ≤ 6 ∧ c.testBit k = true := by
  have h2 : ∀ c : Fin 128, c.val % 2 = 0 → c.val ≠ 0 → ∃ k : Fin 7, 1 ≤ k.val ∧ c.val.testBit k.val = true := by decide +kernel
  obtain ⟨k, h1, h3⟩ := h2 ⟨c, hc.1⟩ hc.2 h
  exact ⟨k.val, h1, by omega, h3⟩
theorem ones_pos (c : Nat) (hc : c < 128) : (0 < Lib.onesCount c) ↔ c ≠ 0 := by
  have h2 : ∀ c : Fin 128, (0 < Lib.onesCount c.val) ↔ c.val ≠ 0 := by decide +kernel
  exact h2 ⟨c, hc⟩
def RPayP (w : World) (q g m : Nat) (cs : List Nat) (f : Int) (e : Ending) (w' : World) : Prop :=
  (nextC cs f = (0, false) ∧ e = .returned (.tuple #[.int .i64 0, .int .i64 0, .bool false]) ∧ w' = w) ∨
  (∃ p : Nat, nextC cs f = ((p : Int), true) ∧ p < cs.length ∧ cs.getD p 0 ≠ 0 ∧ e = .returned (.tuple #[.int .i64 p, .int .i64 (tzK (cs.getD p 0)), .bool true]) ∧ OR w' q g m (cs.set p (offC (cs.getD p 0))) ∧ Frm (· = g) w w')
/-- what the first loop hands to the second -/
def PM (cs : List Nat) (f : Int) (b : Int) : Prop := BR cs f 0 b
theorem ropay_any (q g m : Nat) (cs : List Nat) (f : Int) (w : World) (h : OR w q g m cs) (hlt : ∀ x ∈ cs, x < 128 ∧ x % 2 = 0) : Calls Try.prog 12 #[.pointer (some ⟨q, 0, none⟩), .int .i64 f] w (RPayP w q g m cs f) := by
  have hlen := h.len
  have hc0 := h.c0
  have h24 := h.h24
  have hM : ∀ k : Nat, k < m → ∃ n : Nat, Calls Try.prog 27 #[.pointer (some ⟨q, 0, none⟩), .int .i64 (k : Nat)] w (fun e w' => e = .returned (.int .i64 n) ∧ w' = w) ∧ (0 < n ↔ cs.getD k 0 ≠ 0) := fun k hk => by
    have hk' : k < cs.length := by omega
    have e : manyC m cs k = Lib.onesCount (cs.getD k 0) := by
      rw [manyC_eq m cs k hlt hlen]
      unfold dropN
      rw [if_pos ⟨by omega, by omega⟩, Int.toNat_natCast]
    refine ⟨_, romany_any q g m cs k w h, ?_⟩
    rw [e]
    exact ones_pos _ (by rw [getD_at hk']; exact (hlt _ (List.getElem_mem hk')).1)
  have hH := fun i k => rohas_any q g m cs i k w h
  have hno : nextC cs f = (0, false) → RPayP w q g m cs f (.returned (.tuple #[.int .i64 0, .int .i64 0, .bool false])) w := fun e => .inl ⟨e, rfl, rfl⟩
  have hyes : ∀ p k : Nat, nextC cs f = ((p : Int), true) → p < m → cs.getD p 0 ≠ 0 → 1 ≤ k → k ≤ 6 → (cs.getD p 0).testBit k = true → (∀ x, 1 ≤ x → x < k → (cs.getD p 0).testBit x = false) → RPayP w q g m cs f (.returned (.tuple #[.int .i64 p, .int .i64 k, .bool true])) (w.setCell ⟨g, p * 6 + (k - 1), none⟩ (.bool false)) := fun p k hn hp hc h1 h2 h3 h4 => by
    have hpl : p < cs.length := by omega
    have h128 := hlt _ (List.getElem_mem hpl)
    rw [← getD_at hpl] at h128
    have ht := tz_first _ k h128 ⟨h1, h2⟩ h3 h4
    refine .inr ⟨p, hn, hpl, hc, by rw [ht], h.set p (k - 1) false hp (by omega) (by rw [List.length_set]; exact hlen) (fun x y hy => ?_), Frm.one w g _ _⟩
    by_cases e : x = p
    · subst e
      rw [List.getD_eq_getElem?_getD, List.getElem?_set_self hpl]
      show (offC (cs.getD x 0)).testBit (y + 1) = _
      rw [off_bit _ _ h128 hc (by omega), ht]
      by_cases e2 : y = k - 1
      · rw [if_pos ⟨rfl, e2⟩, decide_eq_false (by omega), Bool.and_false]
      · rw [if_neg (fun h => e2 h.2), decide_eq_true (by omega), Bool.and_true]
    · rw [if_neg (fun h => e h.1), List.getD_eq_getElem?_getD, List.getElem?_set_ne (fun e' => e e'.symm), ← List.getD_eq_getElem?_getD]
  have hcell : ∀ p k : Nat, p < m → 1 ≤ k → k ≤ 6 → (cs.getD p 0).testBit k = true → w.cell? ⟨g, p * 6 + (k - 1), none⟩ = some (.bool true) ∧ w.frozen? ⟨g, p * 6 + (k - 1), none⟩ = false := fun p k hp h1 h2 h3 => by
    have := h.b p (k - 1) hp (by omega)
    rw [show k - 1 + 1 = k by omega, h3] at this
    exact ⟨this, h.f p (k - 1) hp (by omega)⟩
  have hst0 : BR cs f m (-1) := .inl ⟨rfl, fun x h1 h2 => by omega⟩
  have hbs : ∀ p, p < m → cs.getD p 0 ≠ 0 → ∃ k, 1 ≤ k ∧ k ≤ 6 ∧ (cs.getD p 0).testBit k = true := fun p hp hc => by
    have hpl : p < cs.length := by omega
    refine bit_some _ ?_ hc
    rw [getD_at hpl]
    exact hlt _ (List.getElem_mem hpl)
  generalize RPayP w q g m cs f = Pst at *
  have hh : ∀ i k, hasO m cs i k = (inB m i k && (cs.getD i.toNat 0).testBit k.toNat) := fun i k => rfl
  have hno := Lib.hid hno
  have hyes := Lib.hid hyes
  have hcell := Lib.hid hcell
  have hst0 := Lib.hid hst0
  have hbs := Lib.hid hbs
  have hM := Lib.hid hM
  have hH := Lib.hid hH
  have hh := Lib.hid hh
  have hln := Lib.hid hlen
  clear h hlt hlen
  go_enter Try.func12, Try.ntmps12
  go_wp2
  go_loop [7, 8] (fun b i => ∃ (j : Nat) (y : Int), j ≤ m ∧ i = .int .i64 ((j : Int) - 1) ∧ b = .int .i64 y ∧ -1 ≤ y ∧ Hid (BR cs f j y)) (fun _ i => (intOf i + 1).toNat)
  case atStart => exact ⟨m, -1, Nat.le_refl _, by go_num, rfl, by omega, hst0⟩
  case round =>
    obtain ⟨j, y, hj, rfl, rfl, hy, hbr⟩ := hrel
    rcases j with _ | j
    · rcases BR_next hbr.out with ⟨rfl, hnx⟩ | ⟨p, rfl, hp, hpc, hnx⟩
      · have hnP := Lib.hid (hno.out hnx)
        have hc : ∀ k : Nat, Calls Try.prog 18 #[.pointer (some ⟨q, 0, none⟩), .int .i64 (-1), .int .i64 k] w fun e w' => e = .returned (.bool false) ∧ w' = w := fun k => by
          have := hH.out (-1) k
          rw [hh.out, show inB m (-1) k = false from decide_eq_false (by omega), Bool.false_and] at this
          exact this
        have hc := Lib.hid hc
        clear hnx hyes hcell hbs hno hM hH hbr hst0
        clear hno hyes hcell hbs hM hH hst0
        go_wp2
        go_loop [9] (fun k => ∃ r : Nat, r ≤ 6 ∧ k = .int .i64 ((r : Int) + 1)) (fun k => 7 - (intOf k).toNat)
        case atStart => exact ⟨0, by omega, rfl⟩
        case round =>
          obtain ⟨r, hr, rfl⟩ := hrel
          by_cases hr6 : r < 6
          · have hcr := hc.out (r + 1)
            rw [show (((r + 1 : Nat)) : Int) = (r : Int) + 1 by omega] at hcr
            have hcr := Lib.hid hcr
            go_wp2_with (go_at_call 18; (with_reducible refine hcr.out.mono ?_); rintro e w1 ⟨rfl, rfl⟩)
            go_round
            case rel => exact ⟨r + 1, by omega, by go_num⟩
            case measure => simp [intOf]; omega
          · obtain rfl : r = 6 := by omega
            go_wp2
            go_ret3
            exact hnP.out
      · have hpm : p < m := by have := hln.out; omega
        have hc : ∀ k : Nat, 1 ≤ k → k ≤ 6 → Calls Try.prog 18 #[.pointer (some ⟨q, 0, none⟩), .int .i64 p, .int .i64 k] w fun e w' => e = .returned (.bool ((cs.getD p 0).testBit k)) ∧ w' = w := fun k h1 h2 => by
          have := hH.out p k
          rw [hh.out, show inB m p k = true from decide_eq_true (by omega), Bool.true_and, Int.toNat_natCast, Int.toNat_natCast] at this
          exact this
        have hc := Lib.hid hc
        have hyP := Lib.hid (fun k => hyes.out p k hnx hpm hpc)
        have hcP := Lib.hid (fun k => hcell.out p k hpm)
        obtain ⟨kk, hk1, hk2, hk3⟩ := hbs.out p hpm hpc
        clear hnx hyes hcell hbs hno hM hH hbr hst0 hpc
        clear hno hyes hcell hbs hM hH hst0
        have hk3 := Lib.hid hk3
        generalize (cs.getD p 0) = c at *
        go_wp2
        go_loop [9] (fun k => ∃ r : Nat, r ≤ 6 ∧ k = .int .i64 ((r : Int) + 1) ∧ ∀ x, 1 ≤ x → x < r + 1 → c.testBit x = false) (fun k => 7 - (intOf k).toNat)
        case atStart => exact ⟨0, by omega, rfl, fun x h1 h2 => by omega⟩
        case round =>
          obtain ⟨r, hr, rfl, hbef⟩ := hrel
          have hbf := Lib.hid hbef
          clear hbef
          by_cases hr6 : r < 6
          · have hcr := hc.out (r + 1) (by omega) (by omega)
            have hyr := hyP.out (r + 1) (by omega) (by omega)
            have hcc := hcP.out (r + 1) (by omega) (by omega)
            rw [show (((r + 1 : Nat)) : Int) = (r : Int) + 1 by omega] at hcr hyr
            rw [show r + 1 - 1 = r by omega] at hcc hyr
            cases hv : c.testBit (r + 1) with
            | true =>
              obtain ⟨hcell, hfz⟩ := hcc hv
              rw [hv] at hcr
              have hyr := Lib.hid (hyr hv hbf.out)
              have hcr := Lib.hid hcr
              have hv := Lib.hid hv
              have e1 : IntKind.i64.wrap ((r : Int) + 1 - 1) = (r : Int) := by rw [IntWalk.i64_in _ (by omega)]; omega
              clear hyP hcP hc hcc
              go_wp2_with (go_at_call 18; (with_reducible refine hcr.out.mono ?_); rintro e w1 ⟨rfl, rfl⟩)
              go_ret3
              exact hyr.out
            | false =>
              have hn2 : Hid (∀ x, 1 ≤ x → x < r + 1 + 1 → c.testBit x = false) := fun x h1 h2 => by
                by_cases e : x = r + 1
                · rw [e]; exact hv
                · exact hbf.out x h1 (by omega)
              rw [hv] at hcr
              have hcr := Lib.hid hcr
              have hv := Lib.hid hv
              clear hyP hcP hc hyr hcc
              go_wp2_with (go_at_call 18; (with_reducible refine hcr.out.mono ?_); rintro e w1 ⟨rfl, rfl⟩)
              go_round
              case rel => exact ⟨r + 1, by omega, by go_num, hn2.out⟩
              case measure => simp [intOf]; omega
          · exfalso
            have := hbf.out kk hk1 (by omega)
            rw [hk3.out] at this
            exact absurd this (by simp)
    · obtain ⟨n, hm, hn⟩ := hM.out j (by omega)
      have hm := Lib.hid hm
      have hput : cs.getD j 0 ≠ 0 → (f ≤ j ∨ y < 0 ∨ y < f) → Hid (BR cs f j j) := fun h1 h2 => BR_put hbr.out (by have := hln.out; omega) h1 h2
      have hkeep : (cs.getD j 0 = 0 ∨ ¬ (f ≤ j ∨ y < 0 ∨ y < f)) → Hid (BR cs f j y) := fun h1 => BR_keep hbr.out h1
      have hput := Lib.hid hput
      have hkeep := Lib.hid hkeep
      have e1 : IntKind.i64.wrap (((j + 1 : Nat) : Int) - 1) = (j : Int) := by rw [IntWalk.i64_in _ (by omega)]; omega
      have e2 : (((j + 1 : Nat) : Int) - 1) = (j : Int) := by omega
      rw [e2]
      clear hyes hno hbs hcell hH
      generalize hc : cs.getD j 0 = c at *
      by_cases h0 : c = 0
      · subst h0
        obtain rfl : n = 0 := by
          rcases Nat.eq_zero_or_pos n with h | h
          · exact h
          · exact absurd rfl (hn.1 h)
        have hp := hkeep.out (.inl rfl)
        go_wp2_with (go_at_call 27; (with_reducible refine hm.out.mono ?_); rintro e w1 ⟨rfl, rfl⟩)
        all_goals exact ⟨⟨j, _, by omega, rfl, rfl, by omega, hp⟩, by simp [intOf]⟩
      · have hn0 := hn.2 h0
        by_cases h1 : f ≤ j ∨ y < 0 ∨ y < f
        · have hp := hput.out h0 h1
          go_wp2_with (go_at_call 27; (with_reducible refine hm.out.mono ?_); rintro e w1 ⟨rfl, rfl⟩)
          all_goals exact ⟨⟨j, _, by omega, rfl, rfl, by omega, hp⟩, by simp [intOf]⟩
        · have hp := hkeep.out (.inr h1)
          go_wp2_with (go_at_call 27; (with_reducible refine hm.out.mono ?_); rintro e w1 ⟨rfl, rfl⟩)
          all_goals exact ⟨⟨j, _, by omega, rfl, rfl, by omega, hp⟩, by simp [intOf]⟩
end Go.Proofs.Ytdaobfhkdbaklaa
