/-
  What is shadowed changes nothing (chapter 42): the law's walk.
-/
import Derived.Test.YtnflnaalpeeciaaDoorPolW2
namespace Go.Proofs.YtnflnaalpeeciaaDoor
open Go.RowKit
set_option linter.unusedVariables false
set_option linter.unusedSimpArgs false
set_option maxRecDepth 20000

theorem Fl.wpl_appw {α : Type} (F : Fl α) {ops : Array Oper} {rest : List Oper} {o : Oper} {a : Act} {Q : Exit → Act → World → Prop} (hw : Region.wanted o (yielded ops a.tmps) = true) (s x : Operand) (w : World) (B : Nat) (v vx : Value) (l m : List α) (hs : a.eval s = v) (hx : a.eval x = vx)
    (hown : F.Row w B v l) (htx : F.X w vx m) (hlen : l.length + m.length ≤ 1000000) (hB : B ≤ w.heap.size)
    (h : ∀ v' w', F.Row w' B v' (l ++ m) → Frm (fun k => some k = v.ownBlock) w w' → Stay w v v' → wpList Tryd.prog ops Q rest (a.put o.dst v') w')
    (ho : o.op = .call { callee := .builtin .append, args := #[s, x], argTypes := #[F.Ts, F.Ts] }) (ht : o.type = F.Ts) : wpList Tryd.prog ops Q (o :: rest) a w :=
  wpList_step fun K hK => by
    rw [if_pos hw]
    exact F.wp_app s x w B v vx l m hs hx hown htx hlen hB (fun v' w' h1 h2 h3 => hK _ _ (h v' w' h1 h2 h3)) ho ht
/-- what is left, so far on -/
def RestR (w : World) (l : List Rl) (vo vk vi : Value) (wr : World) : Prop := ∃ n : Nat, n ≤ l.length ∧ vi = .int .i64 n ∧ vk = .int .i64 (shadL l n).length ∧ Hid (FR.Row wr w.heap.size vo (restL l n)) ∧ Hid (Below w.heap.size w wr)
abbrev SAME (m : List Pr) (vm : Value) (w : World) (L : List Rl) (PL : List (Int × Int)) : Prop := ∀ v W, FR.X W v L → Below w.heap.size w W → Calls Tryd.prog 10 #[v, vm] W fun e w' => ∃ v', e = .returned v' ∧ FC.Row w' W.heap.size v' PL ∧ Below W.heap.size W w'
theorem same_mk {m : List Pr} {vm : Value} {w : World} {L : List Rl} {PL : List (Int × Int)} (hY : FP.X w vm m) (hL : L.length ≤ 1000000) (hm : m.length ≤ 100000) (h : plan L m = PL) : SAME m vm w L PL := by
  intro v W h1 h2
  subst h
  exact plan_any L v m vm W h1 (hY.below h2) hL hm
set_option maxHeartbeats 6400000 in
theorem walk_PolicyShadows (al : Option Addr) (lenl capl : Nat) (l : List Rl) {w : World} (hl : IsList w al lenl 3 rlE rlK l) (am : Option Addr) (lenm capm : Nat) (m : List Pr) (hmm : IsList w am lenm 7 prE prK m) (ar : Option Addr) (lenr capr : Nat) (more : List Rl) (hrr : IsList w ar lenr 3 rlE rlK more) (hm : ML w) :
    Calls Tryd.prog 3 #[.slice al lenl capl, .slice am lenm capm, .slice ar lenr capr] w fun e w' => e = .returned (.bool true) ∧ Below w.heap.size w w' := by
  have e1 := hl.size_eq
  have e2 := hmm.size_eq
  have e3 := hrr.size_eq
  have m1 := hl.most
  have m2 := hmm.most
  have m3 := hrr.most
  subst e1 e2 e3
  have hX : FR.X w (.slice al l.length capl) l := Fl.X.of (F := FR) hl
  have hY : FP.X w (.slice am m.length capm) m := Fl.X.of (F := FP) hmm
  have hZ : FR.X w (.slice ar more.length capr) more := Fl.X.of (F := FR) hrr
  clear hl hmm hrr
  have hE : ∀ W, Below w.heap.size w W → (fun (e : Ending) (w' : World) => e = .returned (.bool true) ∧ Below w.heap.size w w') (.returned (.bool true)) W := fun W h => ⟨rfl, h⟩
  generalize (fun (e : Ending) (w' : World) => e = .returned (.bool true) ∧ Below w.heap.size w w') = Pst at *
  replace hE := Lib.hid hE
  replace hm := Lib.hid hm
  have hwk := Lib.hid (fun W (h : ML W) => works_any W h)
  have hgr := fun W (hb : Below w.heap.size w W) => great_any _ m W (hY.below hb) m2
  have hbx := Lib.hid (Below.refl w.heap.size w)
  replace hX := Lib.hid hX
  replace hY := Lib.hid hY
  replace hZ := Lib.hid hZ
  by_cases hbig : 60 < l.length
  · have hd : decide ((60 : Int) < (l.length : Int)) = true := decide_eq_true (by omega)
    have hd' : decide (60 < l.length) = true := decide_eq_true hbig
    clear hgr
    go_enter Tryd.func3, Tryd.ntmps3
    go_wp2_with (go_at_call 6; (with_reducible refine (hwk.out _ (hm.out.below hbx.out)).mono ?_); rintro e1 w1 ⟨rfl, hA⟩; replace hbx := Lib.hid (bt hbx.out hA); clear hA)
    exact hE.out _ hbx.out
  have hd : decide ((60 : Int) < (l.length : Int)) = false := decide_eq_false (by omega)
  have hd' : decide (60 < l.length) = false := decide_eq_false hbig
  by_cases hbig2 : 60 < more.length
  · have hd3 : decide ((60 : Int) < (more.length : Int)) = true := decide_eq_true (by omega)
    have hd3' : decide (60 < more.length) = true := decide_eq_true hbig2
    clear hgr
    go_enter Tryd.func3, Tryd.ntmps3
    go_wp2_with (go_at_call 6; (with_reducible refine (hwk.out _ (hm.out.below hbx.out)).mono ?_); rintro e1 w1 ⟨rfl, hA⟩; replace hbx := Lib.hid (bt hbx.out hA); clear hA)
    exact hE.out _ hbx.out
  have hd3 : decide ((60 : Int) < (more.length : Int)) = false := decide_eq_false (by omega)
  have hd3' : decide (60 < more.length) = false := decide_eq_false hbig2
  cases hgm : greatP m with
  | true =>
    rw [hgm] at hgr
    replace hgr := Lib.hid hgr
    go_enter Tryd.func3, Tryd.ntmps3
    go_wp2_with (first | (go_at_call 6; (with_reducible refine (hwk.out _ (hm.out.below hbx.out)).mono ?_); rintro e1 w1 ⟨rfl, hA⟩; replace hbx := Lib.hid (bt hbx.out hA); clear hA) | (go_at_call 7; (with_reducible refine (hgr.out _ hbx.out).mono ?_); rintro e2 w2 ⟨rfl, hA⟩; replace hbx := Lib.hid (bt hbx.out hA); clear hA))
    exact hE.out _ hbx.out
  | false =>
    have hm60 := great_no hgm
    rw [hgm] at hgr
    replace hgr := Lib.hid hgr
    have hsh := Lib.hid (fun W (hb : Below w.heap.size w W) => shad_any l _ W (hX.out.below hb) (by omega))
    have hsl := shadL_len l l.length
    have hrl := restL_len l l.length
    have hp1 := Lib.hid (same_mk hY.out (by omega) (by omega) (plan_rest l m))
    have hp2 := Lib.hid (same_mk (L := l) hY.out (by omega) (by omega) rfl)
    have hp3 := Lib.hid (same_mk (L := l ++ [allR]) hY.out (by simp; omega) (by omega) rfl)
    have hp4 := Lib.hid (same_mk hY.out (by simp; omega) (by omega) (plan_all l more m))
    have hpn := plan_len l m
    have hpn2 := plan_len (l ++ [allR]) m
    have hsuc := Lib.hid (fun n => shadL_succ l n)
    have hrsc := Lib.hid (fun n => restL_succ l n)
    have hsat := Lib.hid (fun n (h : n < l.length) => shadL_at l n l.length h)
    have hsn := Lib.hid (fun n => shadL_len l n)
    have hrn := Lib.hid (fun n => restL_len l n)
    generalize plan l m = PL at *
    generalize plan (l ++ [allR]) m = PA at *
    clear hgm
    unfold SE at hsh
    obtain ⟨SL, hSL⟩ : ∃ SL, shadL l l.length = SL := ⟨_, rfl⟩
    obtain ⟨RL, hRL⟩ : ∃ RL, restL l l.length = RL := ⟨_, rfl⟩
    rw [hSL] at hsh hsl hsat
    rw [hRL] at hrl hp1
    replace hSL := Lib.hid hSL
    replace hRL := Lib.hid hRL
    go_enter Tryd.func3, Tryd.ntmps3
    go_wp2_with (first | (go_at_call 6; (with_reducible refine (hwk.out _ (hm.out.below hbx.out)).mono ?_); rintro e1 w1 ⟨rfl, hA⟩; replace hbx := Lib.hid (bt hbx.out hA); clear hA) | (go_at_call 7; (with_reducible refine (hgr.out _ hbx.out).mono ?_); rintro e2 w2 ⟨rfl, hA⟩; replace hbx := Lib.hid (bt hbx.out hA); clear hA) | (go_at_call 8; (with_reducible refine (hsh.out _ hbx.out).mono ?_); rintro e5 w5 ⟨v5, rfl, hgone, hA⟩; replace hgone := Lib.hid hgone.x; replace hbx := Lib.hid (bt hbx.out hA); clear hA; obtain ⟨sa, sc, rfl⟩ := hgone.out.any))
    go_loopw [8, 9, 10] (fun vo vk vi wr => RestR w5 l vo vk vi wr) (fun _ _ vi _ => l.length - (intOf vi).toNat)
    case atStart => exact ⟨0, Nat.zero_le _, rfl, rfl, Lib.hid (Fl.Row.nil FR _ _), Lib.hid (Below.refl _ _)⟩
    case round =>
      obtain ⟨n, hn, rfl, rfl, hR, hB⟩ := hrel
      by_cases hlt : n < l.length
      · have hd4 : decide ((n : Int) < (l.length : Int)) = true := decide_eq_true (by omega)
        have hd5 : decide (n < l.length) = true := decide_eq_true hlt
        obtain ⟨y, hy⟩ : ∃ y, l[n]? = some y := ⟨_, List.getElem?_eq_getElem hlt⟩
        have hrs := hrsc.out n
        have hss := hsuc.out n
        have hat := hsat.out n hlt
        have hkn := hsn.out n
        have hrk := hrn.out n
        rw [getD_of hy] at hrs
        have i1 : (0 : Int) ≤ (n : Int) := by omega
        have i2 : (n : Int) < (l.length : Int) := by omega
        generalize shadL l n = SN at *
        generalize restL l n = RN at *
        have j1 : (0 : Int) ≤ (SN.length : Int) := by omega
        cases hs : shd l n with
        | true =>
          have hat := hat.2 hs
          have hk5 : SN.length < SL.length := (List.getElem?_eq_some_iff.1 hat).1
          have hd6 : decide ((SN.length : Int) < (SL.length : Int)) = true := decide_eq_true (by omega)
          have hd7 : decide (SN.length < SL.length) = true := decide_eq_true hk5
          have j2 : (SN.length : Int) < (SL.length : Int) := by omega
          rw [hs, if_pos rfl] at hrs hss
          obtain ⟨g, o, rfl, q⟩ := FI.at hgone.out _ _ hat
          have q := bkeep hB.out q
          have hnn : ((n : Int) == (n : Int)) = true := by simp
          replace hrs := Lib.hid hrs
          replace hss := Lib.hid hss
          clear hat hs hy
          go_wp2
          exact ⟨⟨n + 1, by omega, by go_num, by rw [hss.out, List.length_append]; go_num, by rw [hrs.out]; exact hR, hB⟩, by simp [intOf]; omega⟩
        | false =>
          have hat : SL[SN.length]? ≠ some n := fun h => by rw [hat.1 h] at hs; cases hs
          rw [hs, if_neg (by simp)] at hrs hss
          obtain ⟨g, o, rfl, p0, p1, p2⟩ := FR.at hX.out n y hy
          have p0 := bkeep hB.out (bkeep hbx.out p0)
          have p1 := bkeep hB.out (bkeep hbx.out p1)
          have p2 := bkeep hB.out (bkeep hbx.out p2)
          replace hrs := Lib.hid hrs
          replace hss := Lib.hid hss
          have hend : ∀ v6 w6, FR.Row w6 w5.heap.size v6 (RN ++ [y]) → Frm (fun k => some k = u8.ownBlock) (wr.alloc (.cells #[.int .i64 y.k, .int .i64 y.a, .int .i64 y.b] 29)) w6 → RestR w5 l v6 (.int .i64 SN.length) (.int .i64 ((n : Int) + 1)) w6 := by
            intro v6 w6 h6 h7
            refine ⟨n + 1, by omega, by go_num, by rw [hss.out], by rw [hrs.out]; exact h6, ?_⟩
            have hlt2 := (hR.out.below (alb _ (.cells #[.int .i64 y.k, .int .i64 y.a, .int .i64 y.b] 29))).lt
            exact h7.after (bt hB.out (alb _ _)) (Nat.le_trans hB.out.size (alb _ _).size) fun q hq e => by
              have := (hlt2 q e.symm).1
              omega
          replace hend := Lib.hid hend
          by_cases hk5 : SN.length < SL.length
          · have hd6 : decide ((SN.length : Int) < (SL.length : Int)) = true := decide_eq_true (by omega)
            have hd7 : decide (SN.length < SL.length) = true := decide_eq_true hk5
            have j2 : (SN.length : Int) < (SL.length : Int) := by omega
            obtain ⟨x, hx⟩ : ∃ x, SL[SN.length]? = some x := ⟨_, List.getElem?_eq_getElem hk5⟩
            obtain ⟨g2, o2, rfl, q⟩ := FI.at hgone.out _ _ hx
            have q := bkeep hB.out q
            have hxn : ((x : Int) == (n : Int)) = false := by
              rw [beq_eq_false_iff_ne]
              intro e
              rw [hx] at hat
              exact hat (by congr 1; omega)
            clear hat hs hy hx
            go_wp2_with (at_builtin; refine Fl.wpl_app FR rfl (.tmp 48) (.tmp 53) _ w5.heap.size _ _ RN [y] rfl rfl (hR.out.below (alb _ _)) (Fl.X.lit FR _ [y] _ 1 1 rfl rfl) (by simp; omega) (Nat.le_trans hB.out.size (alb _ _).size) ?_ rfl rfl; intro v6 w6 h6 h7 _; replace h6 := Lib.hid h6; replace h7 := Lib.hid h7)
            exact ⟨hend.out _ _ h6.out h7.out, by simp [intOf]; omega⟩
          · have hd6 : decide ((SN.length : Int) < (SL.length : Int)) = false := decide_eq_false (by omega)
            have hd7 : decide (SN.length < SL.length) = false := decide_eq_false hk5
            clear hat hs hy
            go_wp2_with (at_builtin; refine Fl.wpl_app FR rfl (.tmp 48) (.tmp 53) _ w5.heap.size _ _ RN [y] rfl rfl (hR.out.below (alb _ _)) (Fl.X.lit FR _ [y] _ 1 1 rfl rfl) (by simp; omega) (Nat.le_trans hB.out.size (alb _ _).size) ?_ rfl rfl; intro v6 w6 h6 h7 _; replace h6 := Lib.hid h6; replace h7 := Lib.hid h7)
            exact ⟨hend.out _ _ h6.out h7.out, by simp [intOf]; omega⟩
      · have hd4 : decide ((n : Int) < (l.length : Int)) = false := decide_eq_false (by omega)
        have hd5 : decide (n < l.length) = false := decide_eq_false hlt
        have he : n = l.length := by omega
        subst he
        rw [hSL.out]
        rw [hRL.out] at hR
        replace hbx := Lib.hid (bt hbx.out hB.out)
        replace hR := Lib.hid (hR.out.x)
        have hss : ((SL.length : Int) == (SL.length : Int)) = true := by simp
        clear hB hlt hgone hsuc hrsc hsat hsn hrn
        have hbw := hbx
        have hrow0 := Lib.hid (Fl.Row.lit FR wr wr.heap.size [] #[] 0 (Nat.le_refl _) rfl (Nat.zero_le _) rfl)
        have hb0 := Lib.hid (alb wr (.cells #[] 29))
        have hX7 := Lib.hid (hX.out.below (bt hbx.out hb0.out))
        go_wp2_with (first
          | (at_builtin; refine Fl.wpl_app FR rfl (.tmp 55) (.tmp 56) _ wr.heap.size _ _ [] l rfl rfl hrow0.out hX7.out (by simp; omega) hb0.out.size ?_ rfl rfl; intro v6 w6 h6 h7 _; replace h7 := Lib.hid (h7.after hb0.out hb0.out.size fun q hq e => Nat.lt_irrefl _ (Nat.lt_of_lt_of_le hq (hrow0.out.lt q e.symm).1)); replace h6 := Lib.hid h6)
          | (at_builtin; refine Fl.wpl_app FR rfl (.tmp 57) (.tmp 59) _ wr.heap.size _ _ ([] ++ l) [allR] rfl rfl (h6.out.below (alb _ _)) (Fl.X.lit FR _ [allR] _ 1 1 rfl rfl) (by simp; omega) (Nat.le_trans h7.out.size (alb _ _).size) ?_ rfl rfl; intro v8 w8 h8 h9 _; replace h9 := Lib.hid (h9.after (bt h7.out (alb _ _)) (Nat.le_trans h7.out.size (alb _ _).size) fun q hq e => Nat.lt_irrefl _ (Nat.lt_of_lt_of_le hq ((h6.out.below (alb _ (.cells #[.int .i64 1, .int .i64 0, .int .i64 23] 29))).lt q e.symm).1)); replace h8 : Hid (FR.Row w8 wr.heap.size v8 (l ++ [allR])) := Lib.hid h8; replace hR := Lib.hid (hR.out.below h9.out); replace hbx := Lib.hid (bt hbx.out h9.out); have hbr := h9; clear h9)
          | (go_at_call 10; (with_reducible refine (hp1.out _ _ hR.out hbx.out).mono ?_); rintro e20 w20 ⟨va, rfl, hra, hA⟩; replace hra := Lib.hid hra; replace hbx := Lib.hid (bt hbx.out hA); replace hbr := Lib.hid (bt hbr.out hA); replace h8 := Lib.hid (h8.out.below hA); clear hA)
          | (go_at_call 10; (with_reducible refine (hp2.out _ _ (hX.out.below hbx.out) hbx.out).mono ?_); rintro e21 w21 ⟨vb, rfl, hrb, hA⟩; replace hrb := Lib.hid hrb; replace hra := Lib.hid (hra.out.below hA); replace hbx := Lib.hid (bt hbx.out hA); replace hbr := Lib.hid (bt hbr.out hA); replace h8 := Lib.hid (h8.out.below hA); clear hA)
          | (go_at_call 9; (with_reducible refine (same_eq _ _ PL _ hra.out.x hrb.out.x (by omega)).mono ?_); rintro e22 w22 ⟨rfl, hA⟩; replace hbx := Lib.hid (bt hbx.out hA); replace hbr := Lib.hid (bt hbr.out hA); replace h8 := Lib.hid (h8.out.below hA); clear hA hra hrb)
          | (go_at_call 10; (with_reducible refine (hp3.out _ _ h8.out.x hbx.out).mono ?_); rintro e23 w23 ⟨vc, rfl, hrc, hA⟩; have hne := Lib.hid (fun g (hg : vc.ownBlock = some g) (e : some g = v8.ownBlock) => Nat.lt_irrefl _ (Nat.lt_of_lt_of_le (h8.out.lt g e.symm).2 (hrc.lt g hg).1)); replace hrc := Lib.hid hrc; replace hbx := Lib.hid (bt hbx.out hA); replace hbr := Lib.hid (bt hbr.out hA); replace h8 := Lib.hid (h8.out.below hA); clear hA)
          | (at_builtin; refine Fl.wpl_appw FR rfl (.tmp 78) (.tmp 79) _ wr.heap.size _ _ (l ++ [allR]) more rfl rfl h8.out (hZ.out.below hbx.out) (by simp; omega) hbr.out.size ?_ rfl rfl; intro v24 w24 h24 h25 _; replace hrc := Lib.hid (hrc.out.frm h25 hne.out).x; replace h25 := Lib.hid (h25.after hbr.out hbr.out.size fun q hq e => Nat.lt_irrefl _ (Nat.lt_of_lt_of_le hq (h8.out.lt q e.symm).1)); replace h24 := Lib.hid h24.x; replace hbx := Lib.hid (bt hbw.out h25.out); clear h8 h25 hne)
          | (go_at_call 10; (with_reducible refine (hp4.out _ _ h24.out hbx.out).mono ?_); rintro e26 w26 ⟨vd, rfl, hrd, hA⟩; replace hrd := Lib.hid hrd.x; replace hrc := Lib.hid (hrc.out.below hA); replace hbx := Lib.hid (bt hbx.out hA); clear hA)
          | (go_at_call 9; (with_reducible refine (same_eq _ _ PA _ hrc.out hrd.out (by omega)).mono ?_); rintro e27 w27 ⟨rfl, hA⟩; replace hbx := Lib.hid (bt hbx.out hA); clear hA))
        exact hE.out _ hbx.out
end Go.Proofs.YtnflnaalpeeciaaDoor
