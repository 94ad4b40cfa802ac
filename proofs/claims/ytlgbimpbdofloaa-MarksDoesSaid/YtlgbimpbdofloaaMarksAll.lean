/-
  All numbers of a set, as they are told.
-/
import Derived.Test.YtlgbimpbdofloaaMarks2
import Derived.Test.YtlgbimpbdofloaaList
import Derived.OneCell
namespace Go.Proofs.Ytlgbimpbdofloaa
open Go.RowKit
set_option linter.unusedVariables false
set_option linter.unusedSimpArgs false

theorem below_frm {a b c : World} {S : Nat → Prop} (h : Below a.heap.size a b) (hf : Frm S b c) (hs : ∀ k, S k → a.heap.size ≤ k) : Below a.heap.size a c :=
  ⟨hf.os.trans h.os, hf.tape.trans h.tape, hf.output.trans h.output, Nat.le_trans h.size hf.size, fun k hk => (hf.block k (Nat.lt_of_lt_of_le hk h.size) (fun hx => by have := hs k hx; omega)).trans (h.block k hk)⟩
theorem int_info : (Try.prog.info? 3).map (fun i => (i.zero, i.size, i.bytes)) = some (some (.int .i64 0), 1, 8) := by kernel_rfl
abbrev Ints := Lst 3 iv
/-- what the teller's variables hold -/
structure AV (w : World) (B L M : Nat) (most : Int) (v : Value) (l : List Int) : Prop where
  cl : w.cell? ⟨L, 0, none⟩ = some v
  fl : w.frozen? ⟨L, 0, none⟩ = false
  cm : w.cell? ⟨M, 0, none⟩ = some (.int .i64 most)
  ls : Ints w B v l
  lB : L < B
  mB : M < B
  ne : L ≠ M
  hB : B ≤ w.heap.size
def AllP (w : World) (B L M : Nat) (most : Int) (l : List Int) (b : Bool) (e : Ending) (w' : World) : Prop := e = .returned (.bool b) ∧ (∃ v, AV w' B L M most v l) ∧ Frm (fun k => k = L ∨ B ≤ k) w w'
theorem all1_any (B L M : Nat) (most : Int) (v : Value) (l : List Int) (i : Int) (w : World) (h : AV w B L M most v l) (hl : l.length ≤ 2000) : Calls Try.prog 30 #[.int .i64 i, .pointer (some ⟨L, 0, none⟩), .pointer (some ⟨M, 0, none⟩)] w
    (AllP w B L M most (l ++ [i]) (decide ((l.length : Int) + 1 < most))) := by
  have hcl := h.cl
  have hcm := h.cm
  have hfl := h.fl
  have hlB := h.lB
  have hmB := h.mB
  have hBw := h.hB
  have hne := h.ne
  obtain ⟨a, c, rfl⟩ := h.ls.slice
  have hA : Below w.heap.size w (w.alloc (.cells #[.int .i64 i] 3)) := (Below.refl _ _).alloc (Nat.le_refl _) _
  have hls0 := h.ls
  obtain ⟨n, hn⟩ : ∃ n, l.length = n := ⟨_, rfl⟩
  have hn2 : Hid ((l ++ [i]).length = n + 1) := by show _ = _; simp [hn]
  rw [hn] at hl hcl hls0 ⊢
  have hls := Lib.hid hls0
  have hn' := Lib.hid hn
  have hLw : L < w.heap.size := by omega
  have hln : Hid (l.length + 1 ≤ 1099511627776) := by show _ ≤ _; omega
  clear hn hls0 h
  go_enter Try.func30, Try.ntmps30
  go_wp2_with (at_builtin; refine app1 (E := iv) rfl (.tmp 5) (.tmp 7) 22 rfl (.int .i64 0) 8 Try.underlying22 int_info rfl (by decide) w B _ l i rfl rfl rfl hls.out hln.out hBw ?_; intro v' w1 hl1 hf1 hst1; obtain ⟨a1, c1, hv1⟩ := hl1.slice; rw [hn2.out] at hv1; subst hv1; have hnL := hls.out.notin hlB; have hnM := hls.out.notin hmB; have hcl1 := hf1.cell (p := ⟨L, 0, none⟩) hnL hcl; have hfl1 := (hf1.frozen (p := ⟨L, 0, none⟩) hnL hLw).trans hfl; have hcm1 := hf1.cell (p := ⟨M, 0, none⟩) hnM hcm; clear hcl hfl hcm)
  go_ret
  have hF : Frm (fun k => k = L ∨ B ≤ k) w w1 := hf1.mono fun k hk he => .inr (World.ownsRow.lt hls.out k he.symm).1
  have hF2 := Frm.one w1 L 0 (.slice a1 (n + 1) c1)
  refine ⟨rfl, ⟨_, cell_same hcl1, (World.frozen?_setCell _ _ _ _).trans hfl1, hF2.cell (p := ⟨M, 0, none⟩) (fun e => hne e.symm) hcm1, hl1.far hF2 (fun k hk e => by omega), hlB, hmB, hne, Nat.le_trans hBw (Nat.le_trans hf1.size hF2.size)⟩, hF.trans (hF2.mono fun k _ e => .inl e)⟩
theorem AV.below {w w' : World} {B L M : Nat} {most : Int} {v : Value} {l : List Int} (h : AV w B L M most v l) (hb : Below w.heap.size w w') : AV w' B L M most v l :=
  ⟨bkeep hb h.cl, bfree hb h.cl h.fl, bkeep hb h.cm, h.ls.below hb, h.lB, h.mB, h.ne, Nat.le_trans h.hB hb.size⟩
/-- the numbers below k, as they are told -/
def sel (bs : List Nat) (k : Nat) : List Int := ((List.range k).filter (bit bs)).map fun (i : Nat) => (i : Int)
theorem sel_zero (bs : List Nat) : sel bs 0 = [] := rfl
theorem sel_succ (bs : List Nat) (k : Nat) : sel bs (k + 1) = if bit bs k then sel bs k ++ [(k : Int)] else sel bs k := by
  unfold sel
  rw [List.range_succ, List.filter_append, List.map_append]
  cases h : bit bs k <;> simp [List.filter_cons, h]
theorem sel_len (bs : List Nat) (k : Nat) : (sel bs k).length ≤ k := by
  unfold sel
  rw [List.length_map]
  exact Nat.le_trans (List.length_filter_le _ _) (by simp)
theorem sel_prefix (bs : List Nat) (k d : Nat) : ∃ r, sel bs (k + d) = sel bs k ++ r := by
  induction d with
  | zero => exact ⟨[], by simp⟩
  | succ d ih =>
    obtain ⟨r, hr⟩ := ih
    rw [← Nat.add_assoc, sel_succ]
    split
    · exact ⟨r ++ [((k + d : Nat) : Int)], by rw [hr, List.append_assoc]⟩
    · exact ⟨r, hr⟩
/-- what is told, of so many at most (of one, if there is one) -/
def gath (most : Int) (l : List Int) : List Int := l.take (max most 1).toNat
theorem gath_all {most : Int} {l : List Int} (h : l = [] ∨ (l.length : Int) < most) : gath most l = l := by
  unfold gath
  rcases h with rfl | h
  · simp
  · exact List.take_of_length_le (by omega)
theorem gath_part {most : Int} {bs : List Nat} {k m : Nat} (hk : k < m) (hb : bit bs k = true) (h : sel bs k = [] ∨ ((sel bs k).length : Int) < most) (hs : ¬ ((sel bs k).length : Int) + 1 < most) : gath most (sel bs m) = sel bs k ++ [(k : Int)] := by
  obtain ⟨r, hr⟩ := sel_prefix bs (k + 1) (m - (k + 1))
  rw [show k + 1 + (m - (k + 1)) = m by omega, sel_succ, if_pos hb] at hr
  unfold gath
  rw [hr]
  have hl : (max most 1).toNat = (sel bs k ++ [(k : Int)]).length := by
    rw [List.length_append]
    rcases h with h | h
    · rw [h] at hs ⊢; simp at hs ⊢; omega
    · simp; omega
  rw [hl, List.take_left]
structure FV (w : World) (B L F P s : Nat) (f0 : Int) : Prop where
  cf : w.cell? ⟨F, 0, none⟩ = some (.int .i64 f0)
  cp : w.cell? ⟨P, 0, none⟩ = some (.pointer (some ⟨s, 0, none⟩))
  fB : F < B
  pB : P < B
  fL : F ≠ L
  pL : P ≠ L
theorem FV.frm {w w' : World} {B L F P s : Nat} {f0 : Int} (h : FV w B L F P s f0) (hf : Frm (fun k => k = L ∨ B ≤ k) w w') : FV w' B L F P s f0 :=
  ⟨hf.cell (p := ⟨F, 0, none⟩) (by rintro (e | e); exact h.fL e; have := h.fB; simp at e; omega) h.cf, hf.cell (p := ⟨P, 0, none⟩) (by rintro (e | e); exact h.pL e; have := h.pB; simp at e; omega) h.cp, h.fB, h.pB, h.fL, h.pL⟩
def FromR (w : World) (s g many B L M F P : Nat) (bs : List Nat) (most : Int) (i : Value) (wr : World) : Prop := ∃ k : Nat, k ≤ many ∧ i = .int .i64 k ∧ (∃ v, AV wr B L M most v (sel bs k)) ∧ (sel bs k = [] ∨ ((sel bs k).length : Int) < most) ∧ Frm (fun j => j = L ∨ B ≤ j) w wr
def FromP (w : World) (many B L M : Nat) (bs : List Nat) (most : Int) (e : Ending) (w' : World) : Prop := e = .returned (.tuple #[]) ∧ (∃ v, AV w' B L M most v (gath most (sel bs many))) ∧ Frm (fun j => j = L ∨ B ≤ j) w w'
set_option maxHeartbeats 1600000 in
theorem from1_all (s g many B L M F P : Nat) (bs : List Nat) (most : Int) (v : Value) (w : World) (hM : MS w s g many bs) (hA : AV w B L M most v []) (hF : FV w B L F P s 0) (hs : s < B) (hg : g < B) (hsL : s ≠ L) (hgL : g ≠ L) :
    Calls Try.prog 35 #[.func (.func 30) #[] #[.pointer (some ⟨L, 0, none⟩), .pointer (some ⟨M, 0, none⟩)], .pointer (some ⟨F, 0, none⟩), .pointer (some ⟨P, 0, none⟩)] w (FromP w many B L M bs most) := by
  have hcf := hF.cf
  have hmm := hM.hm
  go_enter Try.func35, Try.ntmps35
  go_wp2
  go_loopw [4] (fun i wr => FromR w s g many B L M F P bs most i wr) (fun i _ => many - (intOf i).toNat)
  case atStart => exact ⟨0, Nat.zero_le _, rfl, ⟨v, hA⟩, .inl rfl, Frm.refl _ _⟩
  case round =>
    obtain ⟨k, hk, rfl, ⟨v1, hA1⟩, hco, hfr⟩ := hrel
    have hn : ∀ x, x < B → x ≠ L → ¬ (x = L ∨ B ≤ x) := fun x h1 h2 => by omega
    have hM1 := hM.frm hfr (hn _ hs hsL) (hn _ hg hgL)
    have hF1 := hF.frm hfr
    have hcp := hF1.cp
    by_cases hlt : k < many
    · have hmay := may_any s g many bs k wr hM1
      rw [decide_eq_true (show 0 ≤ (k : Int) by omega), decide_eq_true (show (k : Int) < many by omega)] at hmay
      have hhas := has_in s g many bs k wr hM1 hlt
      have hmay := Lib.hid hmay
      have hhas := Lib.hid hhas
      have hsl := sel_len bs k
      cases hb : bit bs k with
      | false =>
        have hss : Hid (sel bs (k + 1) = sel bs k) := by show _ = _; rw [sel_succ, hb]; rfl
        rw [hb] at hhas
        clear hb
        go_wp2_with (first | (go_at_call 32; (with_reducible refine hmay.out.mono ?_); rintro e w1 ⟨rfl, rfl⟩) | (go_at_call 24; (with_reducible refine hhas.out.mono ?_); rintro e w1 ⟨rfl, n1, rfl⟩))
        exact ⟨⟨k + 1, by omega, by go_num, ⟨v1, by rw [hss.out]; exact hA1.below (bdraws0 _ _)⟩, by rw [hss.out]; exact hco, hfr.drewN _⟩, by simp [intOf]; omega⟩
      | true =>
        have hss : Hid (sel bs (k + 1) = sel bs k ++ [(k : Int)]) := by show _ = _; rw [sel_succ, hb]; rfl
        have hgp := Lib.hid (gath_part hlt hb hco)
        have hlen2 : (sel bs k).length ≤ 2000 := by omega
        have hyd := fun m => all1_any B L M most v1 (sel bs k) k (wr.drewN m) (hA1.below (bdraws0 _ _)) hlen2
        rw [hb] at hhas
        clear hb
        by_cases hmo : ((sel bs k).length : Int) + 1 < most
        · rw [decide_eq_true hmo] at hyd
          have hyd := Lib.hid hyd
          go_wp2_with (first | (go_at_call 32; (with_reducible refine hmay.out.mono ?_); rintro e w1 ⟨rfl, rfl⟩) | (go_at_call 24; (with_reducible refine hhas.out.mono ?_); rintro e w1 ⟨rfl, n1, rfl⟩) | (go_at_call 30; (with_reducible refine (hyd.out _).mono ?_); rintro e w2 ⟨rfl, h2, hf2⟩))
          exact ⟨⟨k + 1, by omega, by go_num, by rw [hss.out]; exact h2, .inr (by rw [hss.out]; simp; omega), (hfr.drewN _).trans hf2⟩, by simp [intOf]; omega⟩
        · rw [decide_eq_false hmo] at hyd
          have hyd := Lib.hid hyd
          have hgq := Lib.hid (hgp.out hmo)
          clear hgp
          go_wp2_with (first | (go_at_call 32; (with_reducible refine hmay.out.mono ?_); rintro e w1 ⟨rfl, rfl⟩) | (go_at_call 24; (with_reducible refine hhas.out.mono ?_); rintro e w1 ⟨rfl, n1, rfl⟩) | (go_at_call 30; (with_reducible refine (hyd.out _).mono ?_); rintro e w2 ⟨rfl, h2, hf2⟩))
          exact bodyPost_ret (v := .tuple #[]) (by simp [results, Try.results35, go_sem]) rfl ⟨rfl, by rw [hgq.out]; exact h2, (hfr.drewN _).trans hf2⟩
    · obtain rfl : k = many := by omega
      have hmay := may_any s g k bs k wr hM1
      rw [decide_eq_false (show ¬ (k : Int) < k by omega), Bool.and_false] at hmay
      have hmay := Lib.hid hmay
      have hga := Lib.hid (gath_all hco)
      go_wp2_with (first | (go_at_call 32; (with_reducible refine hmay.out.mono ?_); rintro e w1 ⟨rfl, rfl⟩))
      go_end0
      exact ⟨rfl, by rw [hga.out]; exact ⟨_, hA1⟩, hfr⟩
/-- All is a teller over the set, from 0 on -/
theorem allm_any (p : Option Addr) (w : World) : Calls Try.prog 29 #[.pointer p] w fun e w' => e = .returned (.func (.func 35) #[] #[.pointer (some ⟨w.heap.size + 1, 0, none⟩), .pointer (some ⟨w.heap.size, 0, none⟩)]) ∧ w' = (w.alloc (.cells #[.pointer p] 24)).alloc (.cells #[.int .i64 0] 3) := by
  have hfr : Calls Try.prog 31 #[.pointer p, .int .i64 0] w fun e w' => e = .returned (.func (.func 35) #[] #[.pointer (some ⟨w.heap.size + 1, 0, none⟩), .pointer (some ⟨w.heap.size, 0, none⟩)]) ∧ w' = (w.alloc (.cells #[.pointer p] 24)).alloc (.cells #[.int .i64 0] 3) := by
    go_enter Try.func31, Try.ntmps31
    go_wp2
    go_ret
    exact ⟨rfl, rfl⟩
  have hfr := Lib.hid hfr
  go_enter Try.func29, Try.ntmps29
  go_wp2_with (go_at_call 31; (with_reducible refine hfr.out.mono ?_); rintro e w1 ⟨rfl, rfl⟩)
  go_ret
  exact ⟨rfl, rfl⟩
set_option maxHeartbeats 1600000 in
theorem all_any (s g many : Nat) (bs : List Nat) (most : Int) (w : World) (hM : MS w s g many bs) : Calls Try.prog 13 #[.pointer (some ⟨s, 0, none⟩), .int .i64 most] w fun e w' => (∃ v, e = .returned v ∧ Ints w' w.heap.size v (gath most (sel bs many))) ∧ Below w.heap.size w w' := by
  have hal := fun w => allm_any (some ⟨s, 0, none⟩) w
  have hal := Lib.hid hal
  have hs := hM.lt
  go_enter Try.func13, Try.ntmps13
  have hz : (((((w.alloc (.cells #[.int .i64 most] 3)).alloc (.cells #[.slice none 0 0] 22)).alloc (.cells #[.pointer (some ⟨s, 0, none⟩)] 24)).alloc (.cells #[.int .i64 0] 3))).heap.size = w.heap.size + 4 := by simp
  have hb : Below w.heap.size w ((((w.alloc (.cells #[.int .i64 most] 3)).alloc (.cells #[.slice none 0 0] 22)).alloc (.cells #[.pointer (some ⟨s, 0, none⟩)] 24)).alloc (.cells #[.int .i64 0] 3)) := ((((Below.refl _ _).alloc (Nat.le_refl _) _).alloc (by simp) _).alloc (by simp; omega) _).alloc (by simp; omega) _
  have hA : AV ((((w.alloc (.cells #[.int .i64 most] 3)).alloc (.cells #[.slice none 0 0] 22)).alloc (.cells #[.pointer (some ⟨s, 0, none⟩)] 24)).alloc (.cells #[.int .i64 0] 3)) (w.heap.size + 1 + 1 + 1 + 1) (w.heap.size + 1) w.heap.size most (.slice none 0 0) [] :=
    ⟨by simp [go_sem], by simp [go_sem], by simp [go_sem], Lst.nil _ _ _ _, by omega, by omega, by omega, by rw [hz]; omega⟩
  have hF : FV ((((w.alloc (.cells #[.int .i64 most] 3)).alloc (.cells #[.slice none 0 0] 22)).alloc (.cells #[.pointer (some ⟨s, 0, none⟩)] 24)).alloc (.cells #[.int .i64 0] 3)) (w.heap.size + 1 + 1 + 1 + 1) (w.heap.size + 1) (w.heap.size + 1 + 1 + 1) (w.heap.size + 1 + 1) s 0 :=
    ⟨by simp [go_sem], by simp [go_sem], by omega, by omega, by omega, by omega⟩
  have hg := hM.hg
  have HM4 := hM.below hb
  have hcall := Lib.hid (from1_all s g many _ (w.heap.size + 1) w.heap.size (w.heap.size + 1 + 1 + 1) (w.heap.size + 1 + 1) bs most _ _ HM4 hA hF (by omega) (by omega) (by omega) (by omega))
  clear hz hA hF HM4
  go_wp2_with (first | (go_at_call 29; (with_reducible refine (hal.out _).mono ?_); rintro e w1 ⟨rfl, rfl⟩) | (go_at_call 35; (with_reducible refine hcall.out.mono ?_); rintro e w5 ⟨rfl, ⟨v5, h5⟩, hf5⟩; have hcl := h5.cl))
  go_ret
  refine ⟨⟨_, rfl, h5.ls.mono (by omega)⟩, ?_⟩
  exact below_frm hb hf5 (by rintro k (rfl | hk); omega; omega)
end Go.Proofs.Ytlgbimpbdofloaa
