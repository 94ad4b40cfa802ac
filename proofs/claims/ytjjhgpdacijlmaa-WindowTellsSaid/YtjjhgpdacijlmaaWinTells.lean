/-
  The statement WindowTells (chapter 27).
-/
import Derived.Test.YtjjhgpdacijlmaaWinT2
namespace Go.Proofs.Ytjjhgpdacijlmaa
open Go.RowKit
set_option linter.unusedVariables false
set_option linter.unusedSimpArgs false
structure WOp where
  k : Int
  n : Int
  s : ByteArray
def wopE (x : WOp) : List Value := [.int .i64 x.k, .int .i64 x.n, .string x.s]
def wopOk (x : WOp) : Prop := (Lit.int .i64 x.k).wf = true ∧ (Lit.int .i64 x.n).wf = true
instance : Inhabited WOp := ⟨⟨0, 0, ⟨#[]⟩⟩⟩
theorem wop_of (vs : List Value) (h : OKs [LK.int .i64, LK.int .i64, LK.str] vs) : ∃ x, vs = wopE x ∧ wopOk x := by
  obtain ⟨c0, r0, rfl, h0, h⟩ := OKs.cons h
  obtain ⟨c1, r1, rfl, h1, h⟩ := OKs.cons h
  obtain ⟨c2, r2, rfl, h2, h⟩ := OKs.cons h
  obtain rfl := OKs.nil h
  obtain ⟨a0, rfl, w0⟩ := h0
  obtain ⟨a1, rfl, w1⟩ := h1
  obtain ⟨a2, rfl, w2⟩ := h2
  exact ⟨⟨a0, a1, a2⟩, rfl, w0, w1⟩
theorem apart_none (v : Value) : Apart (.slice none 0 0) v := fun g hg => by cases hg
def WR2 (r u g p y z B : Nat) (w : World) (vs vo vh : Value) (S : List ByteArray) (hd : Nat) (O : List U2) (H : List Int) (vt i : Value) (wr : World) : Prop :=
  ∃ n t : Nat, n ≤ 8 ∧ i = .int .i64 n ∧ hd ≤ t ∧ t ≤ S.length ∧ (1 ≤ n → t = S.length) ∧ WM r u g p y z B w vs vt vo vh S hd t (S.take t) O H wr
def WR3 (r u g p y z B D : Nat) (w : World) (vs vo vh vx : Value) (S : List ByteArray) (hd : Nat) (O G : List U2) (H : List Int) (vt i : Value) (wr : World) : Prop :=
  ∃ j t : Nat, j ≤ G.length ∧ i = .int .i64 j ∧ hd + j ≤ t ∧ t ≤ S.length ∧ WM r u g p y z B w vs vt vo vh S hd t (S.take t) O H wr ∧ URow wr D vx G ∧ Apart vt vx
def WR1 (r u g p y z B len : Nat) (w : World) (vs vt vo vh i : Value) (wr : World) : Prop := ∃ k : Nat, k ≤ len ∧ i = .int .i64 k ∧ ∃ S hd t O H, WT r u g p y z B w k vs vt vo vh S hd t O H wr
theorem WT.toldoo {r u g p y z B : Nat} {w : World} {k : Nat} {vs vt vo vh : Value} {S : List ByteArray} {hd t : Nat} {O : List U2} {H : List Int} {wr : World} (h : WT r u g p y z B w k vs vt vo vh S hd t O H wr) : ∀ x ∈ O ++ gotS ((hd : Int) + 1) (S.drop hd) 100, ∃ i : Nat, i < S.length ∧ x = ((i : Int) + 1, S.getD i ⟨#[]⟩) := by
  have hts := h.ts
  have hsk := h.sk
  have h8 := h.h8
  have hhs := h.hs
  have h66 := h.k6
  intro x' hx'
  rcases List.mem_append.1 hx' with hx | hx
  · exact h.oo x' hx
  · obtain ⟨i, hi, rfl⟩ := List.getElem_of_mem hx
    have hg := gotS_get ((hd : Int) + 1) (S.drop hd) 100 i ⟨by omega, by omega⟩ (by rw [List.length_drop]; omega) hi
    rw [List.getElem?_eq_getElem hi, Option.some.injEq] at hg
    have hl := gotS_len ((hd : Int) + 1) (S.drop hd) 100
    rw [List.length_drop] at hl
    refine ⟨hd + i, by omega, ?_⟩
    rw [hg, List.getD_eq_getElem?_getD, List.getElem?_drop, List.getD_eq_getElem?_getD]
    congr 1
    omega
theorem WT.toldlen {r u g p y z B : Nat} {w : World} {k : Nat} {vs vt vo vh : Value} {S : List ByteArray} {hd t : Nat} {O : List U2} {H : List Int} {wr : World} (h : WT r u g p y z B w k vs vt vo vh S hd t O H wr) : O.length + (gotS ((hd : Int) + 1) (S.drop hd) 100).length ≤ 100000 := by
  have h8 := h.h8
  have h66 := h.k6
  have hok := h.ok
  rw [gotS_len, List.length_drop]; omega
set_option maxRecDepth 100000 in
set_option maxHeartbeats 6400000 in
theorem walk_WindowTells (a : Option Addr) (len cap : Nat) (l : List WOp) {w : World} (hl : IsList w a len 3 wopE wopOk l) :
    Calls Try.prog 4 #[.slice a len cap] w fun e w' => e = .returned (.bool true) ∧ Below w.heap.size w w' := by
  have hm := hl.most
  by_cases hbig : 300 < len
  · go_enter Try.func4, Try.ntmps4
    go_wp2_with (go_at_call 5; (with_reducible refine (works_any _).mono ?_); rintro e w1 ⟨rfl, hb1⟩)
    go_ret
    exact ⟨rfl, hb1⟩
  have hlen := Lib.hid hl.size_eq
  go_enter Try.func4, Try.ntmps4
  go_wp2_with fail
  refine (works_any w).mono ?_
  rintro e w1 ⟨rfl, hb1⟩
  go_wp2_with fail
  refine (wnew_any w1).mono ?_
  rintro e w2 ⟨r, u, g, rfl, hX, ⟨hr, hu, hg⟩, hb2⟩
  go_wp2_with fail
  refine (wnew_any w2).mono ?_
  rintro e w3 ⟨p, y, z, rfl, hY, ⟨hp, hy, hz⟩, hb3⟩
  go_wp2_with fail
  have hA := (Below.refl w3.heap.size w3).alloc (Nat.le_refl _) (.cells #[.int .i64 0] 3)
  obtain ⟨hlr, hlu, hlg⟩ := hX.lt
  obtain ⟨hlp, hly, hlz⟩ := hY.lt
  have hz1 := hb1.size
  have hz2 := hb2.size
  have hz3 := hb3.size
  have hW : W2 r u g p y z w3.heap.size w := ⟨by omega, by omega, by omega, by omega, by omega, by omega, by omega, by omega, by omega, by omega, by omega, by omega, by omega, by omega, by omega, by omega, by omega, by omega, by omega, by omega, by omega⟩
  have hrow : RowI (w3.alloc (.cells #[.int .i64 0] 3)) w3.heap.size (.slice (some ⟨w3.heap.size, 0, none⟩) 1 1) [0] := World.ownsRow_lit w3 #[.int .i64 0] 1 (Nat.le_refl _) (by unfold maxLen; omega) rfl
  have h0 : WT r u g p y z w3.heap.size w 0 (.slice none 0 0) (.slice none 0 0) (.slice none 0 0) (.slice (some ⟨w3.heap.size, 0, none⟩) 1 1) [] 0 0 [] [0] (w3.alloc (.cells #[.int .i64 0] 3)) :=
    WT.of ⟨(hX.below hb3).below hA, hY.below hA, ⟨Strs.nil _ _, Strs.nil _ _, URow.nil _ _, hrow, apart_none _, apart_none _, apart_none _, apart_none _, apart_none _, apart_none _⟩, bt (bt (bt hb1 hb2) hb3) hA, by simp⟩ (Nat.le_refl _) (Nat.le_refl _) (Nat.le_refl _) (fun x hx => by cases hx) (Nat.le_refl _) (fun x hx => by simp at hx; subst hx; decide) (by decide) (by decide) (by decide)
  generalize w3.alloc (.cells #[.int .i64 0] 3) = w4 at *
  generalize w3.heap.size = B at *
  clear hA hX hY hb1 hb2 hb3 hr hu hg hp hy hz hlr hlu hlg hlp hly hlz hz1 hz2 hz3 hrow
  have hbig : len ≤ 300 := by omega
  go_loopw [5, 6, 7, 8, 9] (fun vs vt vo vh i wr => WR1 r u g p y z B len w vs vt vo vh i wr) (fun _ _ _ _ i _ => len - (intOf i).toNat)
  case atStart => exact ⟨0, Nat.zero_le _, rfl, [], 0, 0, [], [0], h0⟩
  case round =>
    obtain ⟨k, hk, rfl, S, hd, t, O, H, h1⟩ := hrel
    by_cases hlt : k < len
    · obtain ⟨b, o, rfl, _⟩ := hl.at_ (by omega)
      have hk1 : k < l.length := by have := hlen.out; omega
      have hk1' : k + 1 ≤ 1000 := by omega
      have hEl : ∀ W, Below w.heap.size w W → W.cell? ⟨b, o + k * 3, none⟩ = some (.int .i64 l[k].k) ∧ W.cell? ⟨b, o + k * 3 + 1, none⟩ = some (.int .i64 l[k].n) ∧ W.cell? ⟨b, o + k * 3 + 2, none⟩ = some (.string l[k].s) := fun W hW =>
        ⟨(hl.get hW (Nat.le_refl _) k hk1 0 (by decide) _ rfl).1, (hl.get hW (Nat.le_refl _) k hk1 1 (by decide) _ rfl).1, (hl.get hW (Nat.le_refl _) k hk1 2 (by decide) _ rfl).1⟩
      have hnext : ∀ vs vt vo vh S' hd' t' O' H' w', WT r u g p y z B w (k + 1) vs vt vo vh S' hd' t' O' H' w' → ∀ m, WR1 r u g p y z B len w vs vt vo vh (.int .i64 ((k : Int) + 1)) (w'.drewN m) := fun _ _ _ _ S' hd' t' O' H' w' h m => ⟨k + 1, by omega, by go_num, S', hd', t', O', H', h.below (bdraws0 _ _)⟩
      generalize l[k].k = kd at *
      generalize l[k].n = n at *
      generalize l[k].s = x at *
      obtain ⟨y0, y1, y2⟩ := hEl _ h1.be
      have hEl := Lib.hid hEl
      have hnext := Lib.hid hnext
      by_cases k0 : kd = 0
      · subst k0
        have hP := Lib.hid (h1.send hW x)
        go_wp2_with fail
        refine hP.out.mono ?_
        rintro e w4 ⟨rfl, a1, a2, a3, a4, a5⟩
        clear hP
        obtain ⟨z0, z1, z2⟩ := hEl.out _ a4
        by_cases h8 : S.length < hd + 8
        · rw [if_pos h8] at a1 ⊢
          have hA := (Below.refl w4.heap.size w4).alloc (Nat.le_refl _) (.cells #[.string x] 9)
          have hfin : ∀ v' W', Strs W' B v' (S ++ [x]) → Frm (fun k => some k = u5.ownBlock) (w4.alloc (.cells #[.string x] 9)) W' → Stay (w4.alloc (.cells #[.string x] 9)) u5 v' → WT r u g p y z B w (k + 1) v' u6 u7 u8 (S ++ [x]) hd t O H W' := fun v' W' b1 b2 b3 =>
            h1.sent hW hk1' x (a1.below hA) (a2.below hA) (a3.below hA) (bt a4 hA) (by simp; omega) b1 b2 b3
          have hfin := Lib.hid hfin
          have hrs := a3.s
          have hsl : S.length ≤ 100000 := by have := h1.sk; omega
          clear a1 a2 a3 a4 hA h1
          go_wp2_with (at_builtin; refine wpl_str1 rfl (.tmp 54) (.tmp 60) w4 B _ S x rfl rfl hrs hsl a5 ?_; intro v' W' b1 b2 b3; have h5 := hfin.out v' W' b1 b2 b3; clear b1 b2 b3)
          have hBG := Lib.hid (begins_yes (h5).rows.s.tx (h5).rows.t.tx (by have := (h5).sk; have := (h5).k6; omega))
          have hE9 := Lib.hid (hnext.out _ _ _ _ _ _ _ _ _ _ h5)
          go_wp2_with fail
          refine hBG.out.mono ?_
          rintro e w9 ⟨rfl, m, rfl⟩
          go_wp2
          exact ⟨hE9.out m, by simp [intOf]; omega⟩
        · rw [if_neg h8] at a1 ⊢
          have h5 : WT r u g p y z B w (k + 1) u5 u6 u7 u8 S hd t O H w4 := WT.of ⟨a1, a2, a3, a4, a5⟩ h1.hs h1.ts (by have := h1.sk; omega) h1.oo (by have := h1.ok; omega) h1.hh h1.h1 (by have := h1.hk; omega) hk1'
          clear a1 a2 a3 a4 h1
          have hBG := Lib.hid (begins_yes (h5).rows.s.tx (h5).rows.t.tx (by have := (h5).sk; have := (h5).k6; omega))
          have hE9 := Lib.hid (hnext.out _ _ _ _ _ _ _ _ _ _ h5)
          go_wp2_with fail
          refine hBG.out.mono ?_
          rintro e w9 ⟨rfl, m, rfl⟩
          go_wp2
          exact ⟨hE9.out m, by simp [intOf]; omega⟩
      · have d0 : (kd == 0) = false := by simpa using k0
        by_cases k1 : kd = 1
        · subst k1
          have hP := Lib.hid (h1.send hW x)
          go_wp2_with fail
          refine hP.out.mono ?_
          rintro e w4 ⟨rfl, a1, a2, a3, a4, a5⟩
          clear hP
          obtain ⟨z0, z1, z2⟩ := hEl.out _ a4
          by_cases h8 : S.length < hd + 8
          · rw [if_pos h8] at a1 ⊢
            have hA := (Below.refl w4.heap.size w4).alloc (Nat.le_refl _) (.cells #[.string x] 9)
            have hfin : ∀ v' W', Strs W' B v' (S ++ [x]) → Frm (fun k => some k = u5.ownBlock) (w4.alloc (.cells #[.string x] 9)) W' → Stay (w4.alloc (.cells #[.string x] 9)) u5 v' → WT r u g p y z B w (k + 1) v' u6 u7 u8 (S ++ [x]) hd t O H W' := fun v' W' b1 b2 b3 =>
              h1.sent hW hk1' x (a1.below hA) (a2.below hA) (a3.below hA) (bt a4 hA) (by simp; omega) b1 b2 b3
            have hfin := Lib.hid hfin
            have hrs := a3.s
            have hsl : S.length ≤ 100000 := by have := h1.sk; omega
            clear a1 a2 a3 a4 hA h1
            go_wp2_with (at_builtin; refine wpl_str1 rfl (.tmp 54) (.tmp 60) w4 B _ S x rfl rfl hrs hsl a5 ?_; intro v' W' b1 b2 b3; have h5 := hfin.out v' W' b1 b2 b3; clear b1 b2 b3)
            have hBG := Lib.hid (begins_yes (h5).rows.s.tx (h5).rows.t.tx (by have := (h5).sk; have := (h5).k6; omega))
            have hE9 := Lib.hid (hnext.out _ _ _ _ _ _ _ _ _ _ h5)
            go_wp2_with fail
            refine hBG.out.mono ?_
            rintro e w9 ⟨rfl, m, rfl⟩
            go_wp2
            exact ⟨hE9.out m, by simp [intOf]; omega⟩
          · rw [if_neg h8] at a1 ⊢
            have h5 : WT r u g p y z B w (k + 1) u5 u6 u7 u8 S hd t O H w4 := WT.of ⟨a1, a2, a3, a4, a5⟩ h1.hs h1.ts (by have := h1.sk; omega) h1.oo (by have := h1.ok; omega) h1.hh h1.h1 (by have := h1.hk; omega) hk1'
            clear a1 a2 a3 a4 h1
            have hBG := Lib.hid (begins_yes (h5).rows.s.tx (h5).rows.t.tx (by have := (h5).sk; have := (h5).k6; omega))
            have hE9 := Lib.hid (hnext.out _ _ _ _ _ _ _ _ _ _ h5)
            go_wp2_with fail
            refine hBG.out.mono ?_
            rintro e w9 ⟨rfl, m, rfl⟩
            go_wp2
            exact ⟨hE9.out m, by simp [intOf]; omega⟩
        · have d1 : (kd == 1) = false := by simpa using k1
          by_cases k2 : kd = 2
          · subst k2
            have hU := Lib.hid (under_any (most := 100) h1.a)
            have hoo := h1.toldoo
            have hln := h1.toldlen
            have hhk1 := h1.hk
            go_wp2_with fail
            refine hU.out.mono ?_
            rintro e w4 ⟨⟨v, D, rfl, hD, hrow⟩, hb4⟩
            have h4 := h1.below hb4
            have hfin : ∀ v' W', URow W' B v' (O ++ gotS ((hd : Int) + 1) (S.drop hd) 100) → Frm (fun k => some k = u7.ownBlock) w4 W' → Stay w4 u7 v' → WT r u g p y z B w (k + 1) u5 u6 v' u8 S hd t (O ++ gotS ((hd : Int) + 1) (S.drop hd) 100) H W' := fun v' W' b1 b2 b3 => h4.told hW hk1' b1 b2 b3
            generalize gotS ((hd : Int) + 1) (S.drop hd) 100 = G at *
            have hux := hrow.ux
            have hro := h4.rows.o
            have hsz4 := h4.sz
            have hln2 : O.length + G.length ≤ 1000000 := by omega
            obtain ⟨P, hP⟩ : ∃ P, O ++ G = P := ⟨_, rfl⟩
            have hPl : P.length = O.length + G.length := by rw [← hP]; simp
            rw [hP] at hfin hoo
            have hfin := Lib.hid hfin
            have hP := Lib.hid hP
            have hts := h1.ts
            have hhs := h1.hs
            have hsk := h1.sk
            have hE4 := hEl.out _ h4.be
            have hbe4 := h4.be
            clear hU h1 h4 hrow hD y0 y1 y2
            by_cases hP0 : P.length = 0
            · have d0 : ¬ ((0 : Int) < (P.length : Int)) := by omega
              clear hPl hP0
              go_wp2_with (at_builtin; refine wpl_app_ux rfl (.tmp 64) (.tmp 66) w4 B _ v O G rfl rfl hro hux hln2 hsz4 ?_; intro v' W' b1 b2 b3; rw [hP.out] at b1; have h5 := hfin.out v' W' b1 b2 b3; obtain ⟨ga, gc, rfl⟩ := b1.any; clear b1 b2 b3)
              have hBG := Lib.hid (begins_yes (h5).rows.s.tx (h5).rows.t.tx (by have := (h5).sk; have := (h5).k6; omega))
              have hE9 := Lib.hid (hnext.out _ _ _ _ _ _ _ _ _ _ h5)
              go_wp2_with fail
              refine hBG.out.mono ?_
              rintro e w9 ⟨rfl, m, rfl⟩
              go_wp2
              exact ⟨hE9.out m, by simp [intOf]; omega⟩
            · have d0 : (0 : Int) < (P.length : Int) := by omega
              have hPn : P ≠ [] := fun e => hP0 (by rw [e]; rfl)
              obtain ⟨j, hj, hjP⟩ := idx_in n P.length (by omega) (by omega)
              obtain ⟨i, hi, hPi⟩ := hoo P[j] (List.getElem_mem hjP)
              have hPj : P[j]? = some ((i : Int) + 1, S.getD i ⟨#[]⟩) := by rw [List.getElem?_eq_getElem hjP, hPi]
              have hjI : (j : Int) < (P.length : Int) := by omega
              obtain ⟨yy, hyy⟩ : ∃ yy, S.getD i ⟨#[]⟩ = yy := ⟨_, rfl⟩
              rw [hyy] at hPj
              have hyy := Lib.hid hyy
              have hEz : ∀ W', Below w.heap.size w W' → W'.cell? ⟨b, o + k * 3 + 1, none⟩ = some (.int .i64 n) := fun W' hb => (hEl.out W' hb).2.1
              have hEz := Lib.hid hEz
              have hL0 : ¬ P.length = 0 := hP0
              have hPm : P.length ≤ 1000000 := by omega
              have hPw : IntKind.u64.wrap (P.length : Int) = P.length := by rw [IntKind.wrap_u64]; omega
              have hL1 : ((P.length : Int) == 0) = false := beq_eq_false_iff_ne.2 (by omega)
              clear hPl hPi hP0 hoo
              go_wp2_with (at_builtin; refine wpl_app_ux rfl (.tmp 64) (.tmp 66) w4 B _ v O G rfl rfl hro hux hln2 hsz4 ?_; intro v' W' b1 b2 b3; rw [hP.out] at b1; have h5 := hfin.out v' W' b1 b2 b3; obtain ⟨gR, cR, rfl, -, -, -⟩ := b1.slice hPn; obtain ⟨x1, x2⟩ := URow.at b1 j _ hPj; have x3 := hEz.out W' h5.be; clear b1 b2 b3)
              have hA := (Below.refl W'.heap.size W').alloc (Nat.le_refl _) (.cells #[.int .i64 ((i : Int) + 1), .string yy] 41)
              have h6 := h5.below hA
              have hbx : (W'.alloc (.cells #[.int .i64 ((i : Int) + 1), .string yy] 41)).cell? ⟨W'.heap.size, 1, none⟩ = some (.string yy) := by simp [go_sem]
              have hpB : p < W'.heap.size := Nat.lt_of_lt_of_le hW.pB h5.sz
              have hTk := Lib.hid (h6.mem.take hW (by omega) i)
              have ho6 := Lib.hid h6.oo
              have hok6 := h6.ok
              have hh6 := Lib.hid h6.hh
              have hh1 := h6.h1
              have hhk := h6.hk
              clear x1 x2 x3 h5 h6 hA hfin hro hux
              generalize W'.alloc (.cells #[.int .i64 ((i : Int) + 1), .string yy] 41) = W5 at *
              generalize W'.heap.size = bx at *
              refine hTk.out.mono ?_
              rintro e w6 ⟨rfl, hM, hF⟩
              have hby := hF.cell (p := ⟨bx, 1, none⟩) (by show ¬ bx = p; omega) hbx
              clear hTk hbx hF
              by_cases hit : i = t
              · rw [if_pos hit] at hM
                rw [decide_eq_true hit]
                have hyt : S.take t ++ [yy] = S.take (t + 1) := by rw [← hyy.out, hit]; exact take_next (by omega)
                have htl : t + 1 ≤ S.length := by omega
                obtain ⟨tn, htn⟩ : ∃ tn : Nat, t + 1 = tn := ⟨_, rfl⟩
                rw [htn] at hM hyt
                have hA2 := (Below.refl w6.heap.size w6).alloc (Nat.le_refl _) (.cells #[.string yy] 9)
                have hfin2 : ∀ v2 W2', Strs W2' B v2 (S.take t ++ [yy]) → Frm (fun k => some k = u6.ownBlock) (w6.alloc (.cells #[.string yy] 9)) W2' → Stay (w6.alloc (.cells #[.string yy] 9)) u6 v2 → WM r u g p y z B w u5 v2 _ u8 S hd tn (S.take tn) P H W2' := fun v2 W2' b1 b2 b3 => (hM.below hA2).app_t hW (hyt ▸ b1) b2 b3
                have hfin2 := Lib.hid hfin2
                have hrt := hM.rows.t
                have hsz6 := hM.sz
                have htk : (S.take t).length ≤ 100000 := by rw [List.length_take]; omega
                clear hM hA2 hit hyt
                go_wp2_with (at_builtin; refine wpl_str1 rfl (.tmp 89) (.tmp 92) w6 B _ (S.take t) yy rfl rfl hrt htk hsz6 ?_; intro v2 W2' b1 b2 b3; have hM2 := hfin2.out v2 W2' b1 b2 b3; clear b1 b2 b3)
                have hLa := Lib.hid (last_any hM2.b)
                refine hLa.out.mono ?_
                rintro e w7 ⟨rfl, rfl⟩
                have hA3 := (Below.refl W2'.heap.size W2').alloc (Nat.le_refl _) (.cells #[.int .i64 (tn : Nat)] 3)
                have hfin3 : ∀ v3 W3', RowI W3' B v3 (H ++ [(tn : Int)]) → Frm (fun k => some k = u8.ownBlock) (W2'.alloc (.cells #[.int .i64 (tn : Nat)] 3)) W3' → Stay (W2'.alloc (.cells #[.int .i64 (tn : Nat)] 3)) u8 v3 → WM r u g p y z B w u5 v2 _ v3 S hd tn (S.take tn) P (H ++ [(tn : Int)]) W3' := fun v3 W3' b1 b2 b3 => (hM2.below hA3).app_h hW b1 b2 b3
                have hfin3 := Lib.hid hfin3
                have hrh := hM2.rows.h
                have hsz7 := hM2.sz
                have hHl : H.length ≤ 100000 := by omega
                clear hM2 hA3 hLa hrt
                go_wp2_with (at_builtin; refine wpl_int1 rfl (.tmp 94) (.tmp 97) W2' B _ H (tn : Nat) rfl rfl hrh hHl hsz7 ?_; intro v3 W3' b1 b2 b3; have hM3 := hfin3.out v3 W3' b1 b2 b3; clear b1 b2 b3)
                have h9 : WT r u g p y z B w (k + 1) u5 v2 _ v3 S hd tn P (H ++ [(tn : Int)]) W3' := WT.of hM3 (by omega) (by omega) (by omega) ho6.out hok6 (fun x hx => by
                  rcases List.mem_append.1 hx with hx | hx
                  · have := hh6.out x hx; omega
                  · simp at hx; omega) (by rw [List.length_append]; omega) (by rw [List.length_append]; simp; omega) hk1'
                clear hM3
                have hBG := Lib.hid (begins_yes (h9).rows.s.tx (h9).rows.t.tx (by have := (h9).sk; have := (h9).k6; omega))
                have hE9 := Lib.hid (hnext.out _ _ _ _ _ _ _ _ _ _ h9)
                go_wp2_with fail
                refine hBG.out.mono ?_
                rintro e w9 ⟨rfl, m, rfl⟩
                go_wp2
                exact ⟨hE9.out m, by simp [intOf]; omega⟩
              · rw [if_neg hit] at hM
                rw [decide_eq_false hit]
                have h9 : WT r u g p y z B w (k + 1) u5 u6 _ u8 S hd t P H w6 := WT.of hM hhs hts (by omega) ho6.out hok6 hh6.out hh1 hhk hk1'
                clear hM
                have hBG := Lib.hid (begins_yes (h9).rows.s.tx (h9).rows.t.tx (by have := (h9).sk; have := (h9).k6; omega))
                have hE9 := Lib.hid (hnext.out _ _ _ _ _ _ _ _ _ _ h9)
                go_wp2_with fail
                refine hBG.out.mono ?_
                rintro e w9 ⟨rfl, m, rfl⟩
                go_wp2
                exact ⟨hE9.out m, by simp [intOf]; omega⟩
          · have d2 : (kd == 2) = false := by simpa using k2
            by_cases k3 : kd = 3
            · subst k3
              have hHn : H ≠ [] := fun e => by have := h1.h1; rw [e] at this; simp at this
              obtain ⟨gH, cH, hvH, hcH⟩ := RowI.at h1.rows.h hHn
              subst hvH
              obtain ⟨j, hj, hjH⟩ := idx_in n H.length (by have := h1.h1; omega) (by have := h1.hk; have := h1.k6; omega)
              have hb := h1.hh H[j] (List.getElem_mem hjH)
              obtain ⟨nn, hnn⟩ : ∃ nn : Nat, H[j] = (nn : Int) := ⟨H[j].toNat, by omega⟩
              have hc := hcH j nn (by rw [List.getElem?_eq_getElem hjH, hnn])
              have hjI : (j : Int) < (H.length : Int) := by omega
              have hnt : nn ≤ t := by omega
              have hts := h1.ts
              have hhs := h1.hs
              have hsk := h1.sk
              have hHd := Lib.hid (h1.mem.heard hW (by have := h1.k6; omega) (by omega) nn (by omega))
              have ho6 := Lib.hid h1.oo
              have hok6 := h1.ok
              have hh6 := Lib.hid h1.hh
              have hh1 := h1.h1
              have hhk := h1.hk
              clear hb hcH hnn
              have hL0 : ¬ H.length = 0 := by omega
              have hHm : H.length ≤ 1000000 := by have := h1.k6; omega
              have hHw : IntKind.u64.wrap (H.length : Int) = H.length := by rw [IntKind.wrap_u64]; omega
              have hL1 : ((H.length : Int) == 0) = false := beq_eq_false_iff_ne.2 (by omega)
              go_wp2_with fail
              refine hHd.out.mono ?_
              rintro e w4 ⟨rfl, hM⟩
              have h9 : WT r u g p y z B w (k + 1) u5 u6 u7 _ S (max hd nn) t O H w4 := WT.of hM (by omega) hts (by omega) ho6.out (by omega) hh6.out hh1 (by omega) hk1'
              clear hM hHd h1
              have hBG := Lib.hid (begins_yes (h9).rows.s.tx (h9).rows.t.tx (by have := (h9).sk; have := (h9).k6; omega))
              have hE9 := Lib.hid (hnext.out _ _ _ _ _ _ _ _ _ _ h9)
              go_wp2_with fail
              refine hBG.out.mono ?_
              rintro e w9 ⟨rfl, m, rfl⟩
              go_wp2
              exact ⟨hE9.out m, by simp [intOf]; omega⟩
            · have d3 : (kd == 3) = false := by simpa using k3
              have h5 := h1.next hk1'
              clear h1
              have hBG := Lib.hid (begins_yes (h5).rows.s.tx (h5).rows.t.tx (by have := (h5).sk; have := (h5).k6; omega))
              have hE9 := Lib.hid (hnext.out _ _ _ _ _ _ _ _ _ _ h5)
              go_wp2_with fail
              refine hBG.out.mono ?_
              rintro e w9 ⟨rfl, m, rfl⟩
              go_wp2
              exact ⟨hE9.out m, by simp [intOf]; omega⟩
    · have hdk : ¬ ((k : Int) < (len : Int)) := by omega
      have hts := h1.ts
      have hhs := h1.hs
      have hsk := h1.sk
      have h8 := h1.h8
      have h66 := h1.k6
      have hM0 := h1.mem
      clear h1 h0 hl hm hlen
      go_wp2_with fail
      go_loopw [6, 15] (fun vt i wr => WR2 r u g p y z B w u5 u7 u8 S hd O H vt i wr) (fun _ i _ => 8 - (intOf i).toNat)
      case atStart => exact ⟨0, t, by decide, rfl, hhs, hts, fun h => by omega, hM0⟩
      case round =>
        clear hM0 hts hhs hdk
        obtain ⟨n2, t2, hn2, rfl, hht, htS, htn, hM⟩ := hrel
        by_cases hlt2 : n2 < 8
        · have hdl2 : (n2 : Int) < 8 := by omega
          have hU := Lib.hid (under_any (most := 100) hM.a)
          have hGl : (gotS ((hd : Int) + 1) (S.drop hd) 100).length = S.length - hd := by rw [gotS_len, List.length_drop]; omega
          have hGg : ∀ i : Nat, i < (gotS ((hd : Int) + 1) (S.drop hd) 100).length → (gotS ((hd : Int) + 1) (S.drop hd) 100)[i]? = some (((hd + i : Nat) : Int) + 1, S.getD (hd + i) ⟨#[]⟩) := fun i hi => by
            rw [gotS_get _ _ _ _ ⟨by omega, by omega⟩ (by rw [List.length_drop]; omega) hi]
            rw [List.getD_eq_getElem?_getD, List.getElem?_drop, ← List.getD_eq_getElem?_getD, show ((hd : Int) + 1 + (i : Int)) = ((hd + i : Nat) : Int) + 1 by omega]
          generalize gotS ((hd : Int) + 1) (S.drop hd) 100 = G at *
          go_wp2_with fail
          refine hU.out.mono ?_
          rintro e w4 ⟨⟨v, D, rfl, hD, hrow⟩, hb4⟩
          have hM4 := hM.below hb4
          have hap : Apart u6 v := fun g' hg' hv' => by have := (hM.rows.t.lt g' hg').2; have := (hrow.lt g' hv').1; omega
          have hDB : B ≤ D := Nat.le_trans hM.sz hD
          obtain ⟨vb, vc, rfl⟩ := hrow.any
          have hGg := Lib.hid hGg
          have hnext2 : ∀ vt' t' wr', WM r u g p y z B w u5 vt' u7 u8 S hd t' (S.take t') O H wr' → t' = S.length → WR2 r u g p y z B w u5 u7 u8 S hd O H vt' (.int .i64 ((n2 : Int) + 1)) wr' := fun vt' t' wr' h e => ⟨n2 + 1, t', by omega, by go_num, by omega, by omega, fun _ => e, h⟩
          have hnext2 := Lib.hid hnext2
          clear hU hM htn
          go_wp2_with fail
          go_loopw [6, 17] (fun vt i wr => WR3 r u g p y z B D w u5 u7 u8 (.slice vb G.length vc) S hd O G H vt i wr) (fun _ i _ => G.length - (intOf i).toNat)
          case atStart => exact ⟨0, t2, Nat.zero_le _, rfl, by omega, htS, hM4, hrow, hap⟩
          case round =>
            clear hM4 hrow hap hht htS
            obtain ⟨j, t3, hj, rfl, hjt, htS, hM, hrow, hap⟩ := hrel
            by_cases hjl : j < G.length
            · have hGj := hGg.out j hjl
              obtain ⟨gR, cR, hvR, hgD, -, hgl⟩ := hrow.slice (by intro e; rw [e] at hjl; simp at hjl)
              simp only [Value.slice.injEq, true_and] at hvR
              obtain ⟨rfl, rfl⟩ := hvR
              obtain ⟨i, hi⟩ : ∃ i : Nat, hd + j = i := ⟨_, rfl⟩
              rw [hi] at hGj
              obtain ⟨yy, hyy⟩ : ∃ yy, S.getD i ⟨#[]⟩ = yy := ⟨_, rfl⟩
              rw [hyy] at hGj
              obtain ⟨x1, x2⟩ := URow.at hrow j _ hGj
              have hjI : (j : Int) < (G.length : Int) := by omega
              have hTk := Lib.hid (hM.take hW (by omega) i)
              have hpB := hW.pB
              have hnext3 : ∀ vt' t' wr', hd + (j + 1) ≤ t' → t' ≤ S.length → WM r u g p y z B w u5 vt' u7 u8 S hd t' (S.take t') O H wr' → URow wr' D (.slice (some ⟨gR, 0, none⟩) G.length vc) G → Apart vt' (.slice (some ⟨gR, 0, none⟩) G.length vc) → WR3 r u g p y z B D w u5 u7 u8 (.slice (some ⟨gR, 0, none⟩) G.length vc) S hd O G H vt' (.int .i64 ((j : Int) + 1)) wr' := fun vt' t' wr' a1 a2 a3 a4 a5 => ⟨j + 1, t', by omega, by go_num, a1, a2, a3, a4, a5⟩
              have hnext3 := Lib.hid hnext3
              have hiS : i < S.length := by omega
              have hrow' := Lib.hid hrow
              clear hM hrow hGj
              go_wp2_with fail
              refine hTk.out.mono ?_
              rintro e w6 ⟨rfl, hM, hF⟩
              have hrow6 := hrow'.out.frm hF (fun g' hg' => by simp only [Value.ownBlock, Option.some.injEq] at hg'; omega)
              have hx2 := hF.cell (p := ⟨gR, j * 2 + 1, none⟩) (by show ¬ gR = p; omega) x2
              clear hTk x1 x2 hrow' hF
              by_cases hit : i = t3
              · rw [if_pos hit] at hM
                rw [decide_eq_true hit]
                have hyt : S.take t3 ++ [yy] = S.take (t3 + 1) := by rw [← hyy, hit]; exact take_next (by omega)
                have hA2 := (Below.refl w6.heap.size w6).alloc (Nat.le_refl _) (.cells #[.string yy] 9)
                have hfin2 : ∀ v2 W2', Strs W2' B v2 (S.take t3 ++ [yy]) → Frm (fun k => some k = u6.ownBlock) (w6.alloc (.cells #[.string yy] 9)) W2' → Stay (w6.alloc (.cells #[.string yy] 9)) u6 v2 → WR3 r u g p y z B D w u5 u7 u8 (.slice (some ⟨gR, 0, none⟩) G.length vc) S hd O G H v2 (.int .i64 ((j : Int) + 1)) W2' := fun v2 W2' b1 b2 b3 =>
                  hnext3.out v2 (t3 + 1) W2' (by omega) (by omega) ((hM.below hA2).app_t hW (hyt ▸ b1) b2 b3) ((hrow6.below hA2).frm b2 (fun g' hg' e => hap g' e.symm hg')) (hap.stay b3 (hrow6.below hA2))
                have hfin2 := Lib.hid hfin2
                have hrt := hM.rows.t
                have hsz6 := hM.sz
                have htk : (S.take t3).length ≤ 100000 := by rw [List.length_take]; omega
                clear hM hA2 hit hyt hrow6 hyy hi
                go_wp2_with (at_builtin; refine wpl_str1 rfl (.tmp 145) (.tmp 151) w6 B _ (S.take t3) yy rfl rfl hrt htk hsz6 ?_; intro v2 W2' b1 b2 b3; have hE2 := hfin2.out v2 W2' b1 b2 b3; clear b1 b2 b3)
                exact ⟨hE2, by simp [intOf]; omega⟩
              · rw [if_neg hit] at hM
                rw [decide_eq_false hit]
                have hE2 := hnext3.out _ t3 w6 (by omega) htS hM hrow6 hap
                clear hM hrow6 hyy hi hit
                go_wp2
                exact ⟨hE2, by simp [intOf]; omega⟩
            · have hjI : ¬ ((j : Int) < (G.length : Int)) := by omega
              have hE2 := hnext2.out _ t3 _ hM (by omega)
              clear hM hrow hap
              go_wp2
              exact ⟨hE2, by simp [intOf]; omega⟩
        · have hdl2 : ¬ ((n2 : Int) < 8) := by omega
          obtain rfl : t2 = S.length := htn (by omega)
          have hLa := Lib.hid (last_any hM.b)
          have hHd := Lib.hid (hM.heard hW (by omega) (by omega) S.length (Nat.le_refl _))
          clear htn hM
          go_wp2_with fail
          refine hLa.out.mono ?_
          rintro e w4 ⟨rfl, rfl⟩
          go_wp2_with fail
          refine hHd.out.mono ?_
          rintro e w5 ⟨rfl, hM⟩
          rw [show max hd S.length = S.length by omega] at hM
          have hBG := Lib.hid (begins_yes hM.rows.s.tx hM.rows.t.tx (by omega))
          have hRo := fun m => room_any (hM.a.drewN m)
          rw [show (8 : Int) - (S.drop S.length).length = 8 by simp] at hRo
          have hRo := Lib.hid hRo
          obtain ⟨s1, s2, hs3⟩ := hM.rows.s.tx.len
          obtain ⟨t1, t4, ht5⟩ := hM.rows.t.tx.len
          have hbe := hM.be
          rw [show (S.take S.length).length = S.length by simp] at ht5
          clear hLa hHd hM
          subst hs3
          subst ht5
          go_wp2_with fail
          refine hBG.out.mono ?_
          rintro e w6 ⟨rfl, m, rfl⟩
          go_wp2_with fail
          refine (hRo.out m).mono ?_
          rintro e w7 ⟨rfl, m2, rfl⟩
          go_wp2
          go_ret
          exact ⟨rfl, bt hbe (bdraws0 _ _)⟩
end Go.Proofs.Ytjjhgpdacijlmaa
