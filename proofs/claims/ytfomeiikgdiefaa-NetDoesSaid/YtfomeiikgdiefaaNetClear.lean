/-
  Frames under way (chapter 26): all to a node are lost.
-/
import Derived.Test.YtfomeiikgdiefaaNet4
namespace Go.Proofs.Ytfomeiikgdiefaa
open Go.RowKit
set_option linter.unusedVariables false
set_option linter.unusedSimpArgs false

/-- where the first one to n is -/
def idxN (n : Int) : List U2 → Nat
  | [] => 0
  | x :: l => if x.1 = n then 0 else idxN n l + 1
theorem idxN_le (n : Int) : ∀ l, idxN n l ≤ l.length
  | [] => Nat.le_refl _
  | x :: l => by
    have := idxN_le n l
    unfold idxN; split
    · omega
    · simp; omega
theorem idxN_lt (n : Int) : ∀ (l : List U2) (j : Nat) (y : U2), j < idxN n l → l[j]? = some y → y.1 ≠ n
  | [], j, y, h, _ => absurd h (Nat.not_lt_zero _)
  | x :: l, j, y, h, hy => by
    unfold idxN at h
    split at h
    · omega
    · rename_i hx
      cases j with
      | zero => simp at hy; subst hy; exact hx
      | succ j => exact idxN_lt n l j y (by omega) (by simpa using hy)
theorem idxN_at (n : Int) : ∀ (l : List U2) (y : U2), l[idxN n l]? = some y → y.1 = n
  | [], y, h => by simp at h
  | x :: l, y, h => by
    unfold idxN at h
    split at h
    · rename_i hx; simp at h; subst h; exact hx
    · exact idxN_at n l y (by simpa using h)
/-- what is kept -/
def keepN (n : Int) (l : List U2) : List U2 := l.filter fun x => decide (x.1 ≠ n)
theorem keepN_all {n : Int} {l : List U2} (h : ∀ (j : Nat) (y : U2), l[j]? = some y → y.1 ≠ n) : keepN n l = l := by
  unfold keepN
  rw [List.filter_eq_self]
  intro y hy
  obtain ⟨j, hj⟩ := List.mem_iff_getElem?.1 hy
  exact decide_eq_true (h j y hj)
theorem keepN_take {n : Int} {l : List U2} {j : Nat} {y : U2} (h : l[j]? = some y) : keepN n (l.take (j + 1)) = if y.1 = n then keepN n (l.take j) else keepN n (l.take j) ++ [y] := by
  unfold keepN
  rw [List.take_add_one, h, List.filter_append]
  by_cases e : y.1 = n <;> simp [e]
theorem clear1_any (x1 n : Int) (x2 : ByteArray) (nb : Nat) (w : World) (hn : w.cell? ⟨nb, 0, none⟩ = some (.int .i64 n)) : Calls Try.prog 24 #[.agg #[.int .i64 x1, .string x2], .pointer (some ⟨nb, 0, none⟩)] w fun e w' => e = .returned (.bool (decide (x1 = n))) ∧ Below w.heap.size w w' := by
  have h1 := bkeep (alb w (.cells #[.int .i64 x1, .string x2] 32)) hn
  have e : (x1 == n) = decide (x1 = n) := by
    by_cases h : x1 = n
    · subst h; simp
    · rw [decide_eq_false h]; exact beq_eq_false_iff_ne.2 h
  go_enter Try.func24, Try.ntmps24
  go_wp2
  go_ret
  exact ⟨by first | rfl | rw [e], alb w _⟩
set_option maxHeartbeats 1600000 in
theorem indexF_any (B nb g cap : Nat) (n : Int) (l : List U2) (w : World) (h : URow w B (.slice (some ⟨g, 0, none⟩) l.length cap) l) (hn : w.cell? ⟨nb, 0, none⟩ = some (.int .i64 n)) (hm : l.length ≤ 1000) :
    Calls Try.prog 26 #[.slice (some ⟨g, 0, none⟩) l.length cap, .func (.func 24) #[] #[.pointer (some ⟨nb, 0, none⟩)]] w fun e w' => e = .returned (.int .i64 (if idxN n l < l.length then (idxN n l : Int) else -1)) ∧ Below w.heap.size w w' := by
  have h := Lib.hid h
  have hle := idxN_le n l
  have hlt' := Lib.hid (idxN_lt n l)
  have hat := Lib.hid (idxN_at n l)
  obtain ⟨K, hK⟩ : ∃ K, idxN n l = K := ⟨_, rfl⟩
  rw [hK] at hle hlt' hat ⊢
  clear hK
  obtain ⟨R, hR⟩ : ∃ R : Int, (if K < l.length then (K : Int) else -1) = R := ⟨_, rfl⟩
  have hR1 := Lib.hid (fun h : K < l.length => hR.symm.trans (if_pos h))
  have hR2 := Lib.hid (fun h : ¬ K < l.length => hR.symm.trans (if_neg h))
  rw [hR]
  clear hR
  replace hn := Lib.hid hn
  go_enter Try.func26, Try.ntmps26
  go_wp2
  go_loopw [8] (fun i wr => ∃ k : Nat, k ≤ K ∧ i = .int .i64 k ∧ Hid (Below w.heap.size w wr)) (fun i _ => l.length - (intOf i).toNat)
  case atStart => exact ⟨0, Nat.zero_le _, rfl, Below.refl _ _⟩
  case round =>
    obtain ⟨k, hk, rfl, hB⟩ := hrel
    by_cases hlt : k < l.length
    · have hd2 : decide ((k : Int) < (l.length : Int)) = true := decide_eq_true (by omega)
      obtain ⟨⟨x1, x2⟩, hx⟩ : ∃ y, l[k]? = some y := ⟨_, List.getElem?_eq_getElem hlt⟩
      obtain ⟨c1, c2⟩ := h.out.at k _ hx
      have c1 := bkeep hB.out c1
      have c2 := bkeep hB.out c2
      have i1 : (0 : Int) ≤ (k : Int) := by omega
      have i2 : (k : Int) < (l.length : Int) := by omega
      have hcall := clear1_any x1 n x2 nb wr (bkeep hB.out hn.out)
      by_cases hkK : k < K
      · have hne := hlt'.out k _ hkK hx
        rw [decide_eq_false hne] at hcall
        replace hcall := Lib.hid hcall
        clear hx hne
        go_wp2_with (go_at_call 24; (with_reducible refine hcall.out.mono ?_); rintro e w3 ⟨rfl, hb3⟩)
        exact ⟨⟨k + 1, by omega, by go_num, bt hB.out hb3⟩, by simp [intOf]; omega⟩
      · have hkk : k = K := by omega
        subst hkk
        have he := hat.out _ hx
        rw [decide_eq_true he] at hcall
        replace hcall := Lib.hid hcall
        have hRR := hR1.out hlt
        subst hRR
        clear hx he hR2
        go_wp2_with (go_at_call 24; (with_reducible refine hcall.out.mono ?_); rintro e w3 ⟨rfl, hb3⟩)
        go_ret
        exact ⟨rfl, bt hB.out hb3⟩
    · have hd2 : decide ((k : Int) < (l.length : Int)) = false := decide_eq_false (by omega)
      have hRR := hR2.out (by omega)
      subst hRR
      go_wp2
      go_ret
      exact ⟨rfl, hB.out⟩
theorem flatU_set (x : U2) : ∀ (M : List U2) (i : Nat), i < M.length → ((flatU M).set (i * 2) (.int .i64 x.1)).set (i * 2 + 1) (.string x.2) = flatU (M.set i x)
  | [], i, h => absurd h (Nat.not_lt_zero _)
  | a :: M, 0, h => rfl
  | a :: M, i + 1, h => by
    have ih := flatU_set x M i (by simpa using h)
    rw [flatU_cons, show (i + 1) * 2 = i * 2 + 1 + 1 by omega, List.set_cons_succ, List.set_cons_succ, List.set_cons_succ, List.set_cons_succ, ih]; rfl
theorem row_set {w : World} {B g n cap i : Nat} {M : List U2} (x : U2) (h : w.ownsRow B 32 2 (.slice (some ⟨g, 0, none⟩) n cap) n (flatU M)) (hi : i < M.length) :
    ((w.setCell ⟨g, i * 2, none⟩ (.int .i64 x.1)).setCell ⟨g, i * 2 + 1, none⟩ (.string x.2)).ownsRow B 32 2 (.slice (some ⟨g, 0, none⟩) n cap) n (flatU (M.set i x)) ∧ Frm (· = g) w ((w.setCell ⟨g, i * 2, none⟩ (.int .i64 x.1)).setCell ⟨g, i * 2 + 1, none⟩ (.string x.2)) := by
  have h1 := World.ownsRow.stored h (i * 2) (.int .i64 x.1)
  have h2 := World.ownsRow.stored h1.1 (i * 2 + 1) (.string x.2)
  rw [flatU_set x M i hi] at h2
  exact ⟨h2.1, (Frm.one w g _ _).trans (Frm.one _ g _ _)⟩
theorem own_below {w w' : World} {B : Nat} {e : TypeId} {s : Nat} {v : Value} {n : Nat} {xs : List Value} (h : w.ownsRow B e s v n xs) (hb : Below w.heap.size w w') : w'.ownsRow B e s v n xs := ownsRow_frm h (S := fun _ => False) (.ofBelow hb) fun _ _ => id
/-- how the row stands when j have been looked at and i kept -/
structure DI (n : Int) (l M : List U2) (i j : Nat) : Prop where
  len : M.length = l.length
  le : i < j
  pre : M.take i = keepN n (l.take j)
  post : M.drop j = l.drop j
set_option maxHeartbeats 3200000 in
theorem deleteF_any (B nb g cap : Nat) (n : Int) (l : List U2) (w : World) (h : URow w B (.slice (some ⟨g, 0, none⟩) l.length cap) l) (hn : w.cell? ⟨nb, 0, none⟩ = some (.int .i64 n)) (hnb : nb ≠ g) (hm : l.length ≤ 1000) :
    Calls Try.prog 23 #[.slice (some ⟨g, 0, none⟩) l.length cap, .func (.func 24) #[] #[.pointer (some ⟨nb, 0, none⟩)]] w fun e w' => e = .returned (.slice (some ⟨g, 0, none⟩) (keepN n l).length cap) ∧ URow w' B (.slice (some ⟨g, 0, none⟩) (keepN n l).length cap) (keepN n l) ∧ Frm (· = g) w w' := by
  have hcap : l.length ≤ cap ∧ cap ≤ maxLen := by
    rcases h.2 with ⟨h', _⟩ | ⟨g', cap', cur, h', hb, hg, hnc, hcm, hcs, htake⟩
    · simp at h'
    · simp only [Value.slice.injEq, Option.some.injEq, Addr.mk.injEq, and_true, true_and] at h'
      obtain ⟨rfl, rfl⟩ := h'
      exact ⟨hnc, hcm⟩
  have hid := indexF_any B nb g cap n l w h hn hm
  have hle := idxN_le n l
  have hlt' := Lib.hid (idxN_lt n l)
  have hat := Lib.hid (idxN_at n l)
  obtain ⟨K, hK⟩ : ∃ K, idxN n l = K := ⟨_, rfl⟩
  rw [hK] at hle hlt' hat hid
  clear hK
  by_cases hlt : K < l.length
  · rw [if_pos hlt] at hid
    replace hid := Lib.hid hid
    obtain ⟨xK, hxK⟩ : ∃ y, l[K]? = some y := ⟨_, List.getElem?_eq_getElem hlt⟩
    have hD0 : DI n l l K (K + 1) := by
      refine ⟨rfl, Nat.lt_succ_self _, ?_, rfl⟩
      rw [keepN_take hxK, if_pos (hat.out _ hxK)]
      refine (keepN_all ?_).symm
      intro j y hy
      rw [List.getElem?_take] at hy
      split at hy
      · rename_i hj; exact hlt'.out j y hj hy
      · cases hy
    have hD0 := Lib.hid hD0
    have hwK : IntKind.i64.wrap ((K : Int) + 1) = (K : Int) + 1 := IntWalk.i64_in _ (by omega)
    have hKn : ((K : Int) == -1) = false := beq_eq_false_iff_ne.2 (by omega)
    clear hxK hlt' hat
    replace h := Lib.hid h
    replace hn := Lib.hid hn
    go_enter Try.func23, Try.ntmps23
    go_wp2_with (go_at_call 26; (with_reducible refine hid.out.mono ?_); rintro e w1 ⟨rfl, hb1⟩)
    have hR0 := own_below h.out hb1
    have hF0 := Frm.ofBelow (S := (· = g)) hb1
    clear hid
    replace hb1 := Lib.hid hb1
    go_loopw [5, 6] (fun I J wr => ∃ (i j : Nat) (M : List U2), j ≤ l.length ∧ i < j ∧ I = .int .i64 i ∧ J = .int .i64 j ∧ Hid (DI n l M i j) ∧ Hid (wr.ownsRow B 32 2 (.slice (some ⟨g, 0, none⟩) l.length cap) l.length (flatU M)) ∧ Hid (Frm (· = g) w wr)) (fun _ J _ => l.length - (intOf J).toNat)
    case atStart => exact ⟨K, K + 1, l, by omega, by omega, rfl, by go_num, hD0, hR0, hF0⟩
    case round =>
      obtain ⟨i, j, M, hj, hij, rfl, rfl, hD, hR, hF⟩ := hrel
      clear hR0 hF0 hD0
      by_cases hjl : j < l.length
      · have hd2 : decide ((j : Int) < (l.length : Int)) = true := decide_eq_true (by omega)
        obtain ⟨⟨x1, x2⟩, hx⟩ : ∃ y, l[j]? = some y := ⟨_, List.getElem?_eq_getElem hjl⟩
        have hxM : M[j]? = some (x1, x2) := by
          have := congrArg (fun z => z[0]?) hD.out.post
          simpa [hx] using this
        have hMl := hD.out.len
        have c1 := (World.ownsRow.cellAt hR.out (j * 2) (by omega)).trans (flatU_get M j _ hxM).1
        have c2 := (World.ownsRow.cellAt hR.out (j * 2 + 1) (by omega)).trans (flatU_get M j _ hxM).2
        have i1 : (0 : Int) ≤ (j : Int) := by omega
        have i2 : (j : Int) < (l.length : Int) := by omega
        have i3 : (0 : Int) ≤ (i : Int) := by omega
        have i4 : (i : Int) < (l.length : Int) := by omega
        have hnW : (wr.alloc (.cells #[.int .i64 x1, .string x2] 32)).cell? ⟨nb, 0, none⟩ = some (.int .i64 n) := bkeep (alb wr _) (hF.out.cell (p := ⟨nb, 0, none⟩) hnb hn.out)
        have hcall := clear1_any x1 n x2 nb _ hnW
        by_cases hxn : x1 = n
        · rw [decide_eq_true hxn] at hcall
          replace hcall := Lib.hid hcall
          have hD2 : Hid (DI n l M i (j + 1)) := by
            refine ⟨hMl, by omega, ?_, ?_⟩
            · rw [keepN_take hx, if_pos hxn]; exact hD.out.pre
            · have := congrArg List.tail hD.out.post
              rwa [List.tail_drop, List.tail_drop] at this
          have hRn := Lib.hid (fun W (hb : Below wr.heap.size wr W) => own_below hR.out hb)
          clear hx hxM hD hnW hR hxn
          go_wp2_with (go_at_call 24; (with_reducible refine hcall.out.mono ?_); rintro e w3 ⟨rfl, hb3⟩; have hb4 := Lib.hid (bt (alb wr (.cells #[.int .i64 x1, .string x2] 32)) hb3))
          exact ⟨⟨i, j + 1, M, by omega, by omega, rfl, by go_num, hD2, hRn.out _ hb4.out, hF.out.below hb4.out⟩, by simp [intOf]; omega⟩
        · rw [decide_eq_false hxn] at hcall
          replace hcall := Lib.hid hcall
          have hD2 : Hid (DI n l (M.set i (x1, x2)) (i + 1) (j + 1)) := by
            refine ⟨by rw [List.length_set]; exact hMl, by omega, ?_, ?_⟩
            · rw [keepN_take hx, if_neg hxn, ← hD.out.pre, List.take_add_one, List.take_set_of_le (Nat.le_refl _), List.getElem?_set_self (by omega)]; rfl
            · rw [List.drop_set_of_lt (by omega)]
              have := congrArg List.tail hD.out.post
              rwa [List.tail_drop, List.tail_drop] at this
          have hRn := Lib.hid (fun W (hb : Below wr.heap.size wr W) => row_set (i := i) (x1, x2) (own_below hR.out hb) (by omega))
          have hgi := fun W (hb : Below wr.heap.size wr W) => row_cells (own_below hR.out hb)
          have hgi := Lib.hid hgi
          clear hx hxM hD hnW hR hxn
          go_wp2_with (go_at_call 24; (with_reducible refine hcall.out.mono ?_); rintro e w3 ⟨rfl, hb3⟩; have hb4 := Lib.hid (bt (alb wr (.cells #[.int .i64 x1, .string x2] 32)) hb3); have y0 : w3.cell? ⟨wr.heap.size, 0, none⟩ = some (.int .i64 x1) := bkeep hb3 (by simp [go_sem]); have y1 : w3.cell? ⟨wr.heap.size, 1, none⟩ = some (.string x2) := bkeep hb3 (by simp [go_sem]); obtain ⟨s0, s1⟩ := hgi.out _ hb4.out (i * 2) (by omega); obtain ⟨s2, s3⟩ := hgi.out _ hb4.out (i * 2 + 1) (by omega); obtain ⟨o0, s0⟩ := Option.isSome_iff_exists.1 s0; obtain ⟨o1, s2⟩ := Option.isSome_iff_exists.1 s2)
          obtain ⟨hr5, hf5⟩ := hRn.out _ hb4.out
          exact ⟨⟨i + 1, j + 1, M.set i (x1, x2), by omega, by omega, by go_num, by go_num, hD2, hr5, (hF.out.below hb4.out).trans hf5⟩, by simp [intOf]; omega⟩
      · have hd2 : decide ((j : Int) < (l.length : Int)) = false := decide_eq_false (by omega)
        have hjj : j = l.length := by omega
        subst hjj
        have hMl := hD.out.len
        have hpre := hD.out.pre
        rw [List.take_of_length_le (Nat.le_refl _)] at hpre
        have hkl : (keepN n l).length = i := by rw [← hpre, List.length_take]; omega
        have i3 : (0 : Int) ≤ (i : Int) := by omega
        have i4 : (i : Int) ≤ (l.length : Int) := by omega
        have i5 : (i : Int) ≤ (cap : Int) := by omega
        have hne : ¬ cap = i := by omega
        have hcl : ∀ ty, (Builtin.clear_ #[28] ty #[.slice (some ⟨g, i * 2, none⟩) (l.length - i) (cap - i)]).run Try.prog wr = .ok (.tuple #[]) (wr.setCells g (i * 2) (zcs (l.length - i))) :=
          fun ty => run_clear_u wr ty g _ _ _ (by omega) (fun t ht => (row_cells hR.out _ (by omega)).1) (fun t ht => (row_cells hR.out _ (by omega)).2)
        have hm2 := stored_many (zcs (l.length - i)) (i * 2) wr _ hR.out
        have hfin : Hid (URow (wr.setCells g (i * 2) (zcs (l.length - i))) B (.slice (some ⟨g, 0, none⟩) (keepN n l).length cap) (keepN n l) ∧ Frm (· = g) w (wr.setCells g (i * 2) (zcs (l.length - i)))) := by
          refine ⟨?_, hF.out.trans hm2.2⟩
          have h1 := row_shrink hm2.1 (m := i) (by omega)
          have e : (setL (flatU M) (i * 2) (zcs (l.length - i))).take (i * 2) = flatU (keepN n l) := by
            rw [setL_eq _ _ _ (by rw [flatU_len, zcs_len]; omega), List.append_assoc, List.take_append_of_le_length (by rw [List.length_take, flatU_len]; omega), List.take_take, Nat.min_self, flatU_take, hpre]
          unfold URow
          rw [hkl, ← e]
          exact h1
        replace hkl := Lib.hid hkl
        clear hm2 hpre hD hR
        go_wp2
        go_ret
        exact ⟨by rw [hkl.out]; rfl, hfin.out⟩
  · rw [if_neg hlt] at hid
    replace hid := Lib.hid hid
    have hkeep : keepN n l = l := keepN_all fun j y hy => hlt'.out j y (by have := (List.getElem?_eq_some_iff.1 hy).1; omega) hy
    rw [hkeep]
    clear hlt' hat
    replace h := Lib.hid h
    go_enter Try.func23, Try.ntmps23
    go_wp2_with (go_at_call 26; (with_reducible refine hid.out.mono ?_); rintro e w1 ⟨rfl, hb1⟩)
    go_ret
    exact ⟨rfl, h.out.below hb1, .ofBelow hb1⟩
theorem keep_nil (n : Int) : keepN n [] = [] := rfl
theorem keep_len (n : Int) (l : List U2) : (keepN n l).length ≤ l.length := List.length_filter_le _ _
set_option maxHeartbeats 1600000 in
theorem clear_any (p B : Nat) (v : Value) (l : List U2) (n : Int) (w : World) (h : NT 44 w p B v l) (hm : l.length ≤ 1000) : Calls Try.prog 15 #[.pointer (some ⟨p, 0, none⟩), .int .i64 n] w
    (NChg 44 w p B v (keepN n l) (.int .i64 ((l.length : Int) - (keepN n l).length))) := by
  have hW := h.below (alb w (.cells #[.int .i64 n] 3))
  have hnb : (w.alloc (.cells #[.int .i64 n] 3)).cell? ⟨w.heap.size, 0, none⟩ = some (.int .i64 n) := by simp [go_sem]
  have hlen := Lib.hid (fun v' l' W (h : NT 44 W p B v' l') hm => nlen_any p B v' l' W h hm)
  have hkl := keep_len n l
  by_cases h0 : l = []
  · subst h0
    have hw0 := hlen.out _ _ _ hW hm
    rw [keep_nil]
    go_enter Try.func15, Try.ntmps15
    go_wp2_with (go_at_call 19; (with_reducible refine hw0.mono ?_); rintro e w3 ⟨rfl, rfl⟩)
    go_ret
    exact NChg.same h (alb w _)
  · have hlp : 0 < l.length := List.length_pos_iff.2 h0
    have hd : decide ((0 : Int) < (l.length : Int)) = true := decide_eq_true (by omega)
    have hd2 : decide (0 < l.length) = true := decide_eq_true hlp
    obtain ⟨g, c, rfl, _, _, _⟩ := h.row.slice h0
    have hgl := (h.row.lt g rfl).2
    have hgp : g ≠ p := fun e => h.ne (by decide) (by rw [e]; rfl)
    have hdf := deleteF_any B w.heap.size g c n l _ hW.row hnb (by omega) hm
    have hw0 := hlen.out _ _ _ hW hm
    have hc0 := hW.c0
    have hww : IntKind.i64.wrap ((l.length : Int) - ((keepN n l).length : Int)) = (l.length : Int) - ((keepN n l).length : Int) := IntWalk.i64_in _ (by omega)
    go_enter Try.func15, Try.ntmps15
    go_wp2_with (first | (go_at_call 19; first | ((with_reducible refine hw0.mono ?_); rintro e w3 ⟨rfl, rfl⟩) | ((with_reducible refine (hlen.out _ _ _ hN (Nat.le_trans hkl hm)).mono ?_); rintro e w5 ⟨rfl, rfl⟩)) | (go_at_call 23; (with_reducible refine hdf.mono ?_); rintro e w4 ⟨rfl, hr4, hf4⟩; have c4 := hf4.cell (p := ⟨p, 0, none⟩) (fun e => hgp e.symm) hW.c0; have z4 := (hf4.frozen (p := ⟨p, 0, none⟩) (fun e => hgp e.symm) hW.lt).trans hW.f0; have hN := NT.put ((hf4.block p hW.lt (fun e => hgp e.symm)).trans hW.box) hr4 (by decide : 44 ≠ 32)))
    go_ret
    exact ⟨rfl, _, hN, .inl rfl, ((Frm.ofBelow (alb w _)).trans (hf4.mono fun k _ e => .inr (by rw [e]; rfl))).trans ((Frm.one w4 p 0 _).mono fun k _ e => .inl e)⟩
theorem clear_s {B p : Nat} {v : Value} {L : List U2} {w W : World} (n : Int) (h : NS B p v L w W) (hm : L.length ≤ 1000) : Calls Try.prog 15 #[.pointer (some ⟨p, 0, none⟩), .int .i64 n] W fun e W' => e = .returned (.int .i64 ((L.length : Int) - (keepN n L).length)) ∧ NP B p v (keepN n L) w W W' :=
  (clear_any p B v L n W h.nt hm).mono fun e w' hc => ⟨hc.1, h.chg hc.2⟩
end Go.Proofs.Ytfomeiikgdiefaa
