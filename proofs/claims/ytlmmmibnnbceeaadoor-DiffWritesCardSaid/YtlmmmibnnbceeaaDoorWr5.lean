/-
  The part that a word says (chapter 41): the reference's walk.
-/
import Derived.Test.YtlmmmibnnbceeaaDoorWr4
import Derived.Test.YtlmmmibnnbceeaaDoorCountRead4
namespace Go.Proofs.YtlmmmibnnbceeaaDoor
open Go.RowKit
set_option linter.unusedVariables false
set_option linter.unusedSimpArgs false
set_option maxRecDepth 20000

def mid (s : ByteArray) : ByteArray := (cB s).extract 0 ((cB s).size - 1)
def rptR (s : ByteArray) : I3 × Bool := if spOk (cF s) (cA s) (mid s) then ((readV (cA s), readV (mid s), if gd s (s.size - 1) = 98 then 1 else 0), true) else ((0, 0, 0), false)
theorem okP_mk {a b d : Int} (h1 : 0 ≤ a) (h2 : a ≤ 9223372036854775807) (h3 : 0 ≤ b) (h4 : b ≤ 9223372036854775807) (h5 : d = 0 ∨ d = 1) : okP (a, b, d) := ⟨⟨h1, h2⟩, ⟨h3, h4⟩, h5⟩
theorem rpt_ok {s : ByteArray} (h : (rptR s).2 = true) : okP (rptR s).1 := by
  unfold rptR at h ⊢
  by_cases h1 : spOk (cF s) (cA s) (mid s) = true
  · rw [if_pos h1]
    obtain ⟨g1, g2, g3, g4, g5⟩ := sp_parts h1
    have l1 := readV_le g2
    have l2 := readV_le g3
    have hd : (if gd s (s.size - 1) = 98 then (1 : Int) else 0) = 0 ∨ (if gd s (s.size - 1) = 98 then (1 : Int) else 0) = 1 := by
      split
      · exact .inr rfl
      · exact .inl rfl
    exact okP_mk g4 l1 g5 l2 hd
  · rw [if_neg h1] at h
    cases h
theorem gd_last {s : ByteArray} {t : List UInt8} {c : UInt8} (h : s.data.toList = t ++ [c]) : gd s (s.size - 1) = c.toNat ∧ 0 < s.size := by
  have hl : s.size = t.length + 1 := by
    have := congrArg List.length h
    rw [data_len] at this
    simpa using this
  refine ⟨?_, by omega⟩
  unfold gd
  rw [Array.getD_eq_getD_getElem?, ← Array.getElem?_toList, h, hl, Nat.add_sub_cancel]
  simp
theorem wd_last (y : I3) : gd (wdS y) ((wdS y).size - 1) = (if y.2.2 = 0 then 97 else 98) ∧ 0 < (wdS y).size := by
  have h : (wdS y).data.toList = ((textS y.1).data.toList ++ 45 :: (textS y.2.1).data.toList) ++ [if y.2.2 = 0 then 97 else 98] := by
    rw [wd_data, let_data]; simp
  obtain ⟨h1, h2⟩ := gd_last h
  refine ⟨?_, h2⟩
  rw [h1]
  split <;> rfl
theorem rpt_word {y : I3} (hy : okP y) : rptR (wdS y) = (y, true) := by
  have hno : (45 : UInt8) ∉ (textS y.1).data.toList := by
    intro h
    have := (text_digs y.1 hy.1.1 hy.1.2).1 45 h
    have e : (45 : UInt8).toNat = 45 := rfl
    omega
  have hc : Lib.cut (wdS y).data.toList [45] = ((textS y.1).data.toList, (textS y.2.1).data.toList ++ (letS y.2.2).data.toList, true) := by
    rw [wd_data]
    exact cut45 _ _ hno
  have hA : cA (wdS y) = textS y.1 := by
    unfold cA
    rw [hc]
  have hB : (cB (wdS y)).data.toList = (textS y.2.1).data.toList ++ (letS y.2.2).data.toList := by
    unfold cB
    rw [hc, la]
  have hF : cF (wdS y) = true := by
    unfold cF
    rw [hc]
  have hM : mid (wdS y) = textS y.2.1 := by
    apply dl_eq
    unfold mid
    rw [ext_list, hB]
    have hz : (cB (wdS y)).size = (textS y.2.1).data.toList.length + 1 := by
      have := congrArg List.length hB
      rw [data_len, List.length_append, let_data] at this
      simpa using this
    rw [hz]
    simp
  obtain ⟨e1, e2⟩ := read_text y.1 (by have := hy.1; omega) hy.1.2
  obtain ⟨e3, e4⟩ := read_text y.2.1 (by have := hy.2.1; omega) hy.2.1.2
  have hsp : spOk (cF (wdS y)) (cA (wdS y)) (mid (wdS y)) = true := by
    unfold spOk
    rw [hF, hA, hM, e1, e2, e3, e4]
    have := hy.1.1
    have := hy.2.1.1
    simp [*]
  unfold rptR
  rw [if_pos hsp, (wd_last y).1, hA, hM, e2, e4]
  obtain ⟨y1, y2, y3⟩ := y
  rcases hy.2.2 with h | h
  · simp only at h
    subst h
    rfl
  · simp only at h
    subst h
    rfl
theorem gd_at45 (s : ByteArray) (i : Nat) : gd s i = 45 ↔ s.data.toList[i]? = some 45 := by
  unfold gd
  rw [Array.getD_eq_getD_getElem?, Array.getElem?_toList]
  cases h : s.data[i]? with
  | none => simp
  | some c =>
    simp only [Option.getD_some, Option.some.injEq]
    constructor
    · intro e; exact UInt8.toNat_inj.1 e
    · rintro rfl; rfl
theorem cut_point {s : ByteArray} {i : Nat} (hi : i < s.size) (h1 : ∀ j, j < i → gd s j ≠ 45) (h2 : gd s i = 45) : cF s = true ∧ cA s = s.extract 0 i ∧ mid s = s.extract (i + 1) (s.size - 1) := by
  have h3 := (gd_at45 s i).1 h2
  have hl : s.data.toList = s.data.toList.take i ++ 45 :: s.data.toList.drop (i + 1) := by
    have hlt : i < s.data.toList.length := hi
    conv => lhs; rw [← List.take_append_drop i s.data.toList]
    rw [List.drop_eq_getElem_cons hlt]
    have := (List.getElem?_eq_some_iff.1 h3).2
    rw [this]
  have hno : (45 : UInt8) ∉ s.data.toList.take i := by
    intro h
    obtain ⟨j, hj, e⟩ := List.getElem_of_mem h
    rw [List.length_take] at hj
    refine h1 j (by omega) ((gd_at45 s j).2 ?_)
    rw [List.getElem_take] at e
    rw [List.getElem?_eq_getElem (by omega), e]
  have hc : Lib.cut s.data.toList [45] = (s.data.toList.take i, s.data.toList.drop (i + 1), true) := by
    have := cut45 (s.data.toList.take i) (s.data.toList.drop (i + 1)) hno
    rwa [← hl] at this
  have hB : (cB s).data.toList = s.data.toList.drop (i + 1) := by
    unfold cB
    rw [hc, la]
  refine ⟨by unfold cF; rw [hc], ?_, ?_⟩
  · apply dl_eq
    unfold cA
    rw [hc, la, ext_list]; simp
  · apply dl_eq
    unfold mid
    rw [ext_list, ext_list, hB]
    have hz : (cB s).size = s.size - (i + 1) := by
      have := congrArg List.length hB
      rw [data_len, List.length_drop, data_len] at this
      exact this
    rw [hz, List.drop_zero]
    congr 1
    omega
theorem cut_none {s : ByteArray} (h : ∀ j, j < s.size → gd s j ≠ 45) : cF s = false := by
  rcases index_split (l := s.data.toList) with hx | ⟨A, B, e, hA⟩
  · unfold cF Lib.cut
    rw [hx, if_neg (by omega)]
  · exfalso
    refine h A.length ?_ ((gd_at45 s A.length).2 (by rw [e]; simp))
    have := congrArg List.length e
    rw [data_len] at this
    simp at this
    omega
def RPE (s : ByteArray) (w : World) (e : Ending) (w' : World) : Prop := e = .returned (.tuple #[ptV (rptR s).1, .bool (rptR s).2]) ∧ Below w.heap.size w w'
def RPR (w : World) (s : ByteArray) (i : Value) (wr : World) : Prop := ∃ k : Nat, k ≤ s.size ∧ i = .int .i64 k ∧ Hid (∀ j, j < k → gd s j ≠ 45) ∧ Hid (P3B wr w.heap.size 0 0 0) ∧ Hid (Below w.heap.size w wr)
set_option maxHeartbeats 6400000 in
theorem rpart_any (s : ByteArray) (w : World) (hs : s.size ≤ 100000) (h45 : gd s (s.size - 1) ≠ 45) : Calls Tryd.prog 18 #[.string s] w (RPE s w) := by
  have hE : ∀ W (x : I3) (b : Bool), rptR s = (x, b) → Below w.heap.size w W → RPE s w (.returned (.tuple #[.agg #[.int .i64 x.1, .int .i64 x.2.1, .int .i64 x.2.2], .bool b])) W := by
    intro W x b h h2
    unfold RPE
    rw [h]
    exact ⟨rfl, h2⟩
  have hres : rptR s = if spOk (cF s) (cA s) (mid s) then ((readV (cA s), readV (mid s), if gd s (s.size - 1) = 98 then 1 else 0), true) else ((0, 0, 0), false) := rfl
  unfold spOk at hres
  generalize RPE s w = Pst at *
  replace hE := Lib.hid hE
  have hN0 := Lib.hid (P3B.new w 0 0 0)
  have hb0 := Lib.hid (alb w (.cells #[.int .i64 0, .int .i64 0, .int .i64 0] 42))
  go_enter Tryd.func18, Tryd.ntmps18
  go_wp2
  go_loopw [4] (fun i wr => RPR w s i wr) (fun i _ => s.size - (intOf i).toNat)
  case atStart => exact ⟨0, Nat.zero_le _, rfl, (fun j h => absurd h (Nat.not_lt_zero _)), hN0, hb0⟩
  case round =>
    obtain ⟨k, hkk, rfl, hno, hZ, hB⟩ := hrel
    by_cases hlt : k < s.size
    · have hd2 : decide ((k : Int) < (s.size : Int)) = true := decide_eq_true (by omega)
      have hd3 : decide (k < s.size) = true := decide_eq_true hlt
      have i1 : (0 : Int) ≤ (k : Int) := by omega
      have i2 : (k : Int) < (s.size : Int) := by omega
      have hgk := gd_eq hlt
      by_cases hp : gd s k = 45
      · have e1 : ((gd s k : Int) != 45) = false := by rw [hp]; rfl
        have e2 : ((gd s k : Int) == 45) = true := by rw [hp]; rfl
        have hk2 : k ≠ s.size - 1 := fun e => h45 (e ▸ hp)
        obtain ⟨hf, hA, hM⟩ := cut_point hlt hno.out hp
        rw [hf] at hres
        obtain ⟨k1, hk1⟩ : ∃ k1, k + 1 = k1 := ⟨_, rfl⟩
        obtain ⟨qn, hq⟩ : ∃ qn, s.size - 1 = qn := ⟨_, rfl⟩
        rw [hk1, hq] at hM
        rw [hq] at hres
        have hqs : qn < s.size := by omega
        have hgq := gd_eq hqs
        have hRa0 := fun W => rread_any (cA s) W (by rw [hA, ByteArray.size_extract]; omega)
        have hRb0 := fun W => rread_any (mid s) W (by rw [hM, ByteArray.size_extract]; omega)
        have hRa : ∀ W, Calls Tryd.prog 33 #[.string (s.extract 0 k)] W fun e w' => e = .returned (.tuple #[.int .i64 (readV (cA s)), .int .i64 (readE (cA s))]) ∧ W = w' := by rw [← hA]; exact hRa0
        have hRb : ∀ W, Calls Tryd.prog 33 #[.string (s.extract k1 qn)] W fun e w' => e = .returned (.tuple #[.int .i64 (readV (mid s)), .int .i64 (readE (mid s))]) ∧ W = w' := by rw [← hM]; exact hRb0
        have iw : IntKind.i64.wrap ((k : Int) + 1) = (k1 : Int) := by rw [IntWalk.i64_in _ (by omega)]; omega
        have iw2 : IntKind.i64.wrap ((s.size : Int) - 1) = (qn : Int) := by rw [IntWalk.i64_in _ (by omega)]; omega
        have i3 : (0 : Int) ≤ (k1 : Int) := by omega
        have i4 : (k1 : Int) ≤ (qn : Int) := by omega
        have i5 : (qn : Int) ≤ (s.size : Int) := by omega
        have i6 : (k : Int) ≤ (s.size : Int) := by omega
        have i7 : (0 : Int) ≤ (qn : Int) := by omega
        have i8 : (qn : Int) < (s.size : Int) := by omega
        have d6 : decide ((s.size : Int) ≤ (k1 : Int)) = false := decide_eq_false (by omega)
        have d7 : decide (s.size ≤ k1) = false := decide_eq_false (by omega)
        generalize readV (cA s) = nA at *
        generalize readV (mid s) = nT at *
        generalize readE (cA s) = eA at *
        generalize readE (mid s) = eT at *
        clear hRa0 hRb0 hA hM hp hf h45 hk2
        replace hRa := Lib.hid hRa
        replace hRb := Lib.hid hRb
        by_cases k2 : eA = 0
        · subst k2
          by_cases k3 : eT = 0
          · subst k3
            by_cases k4 : 0 ≤ nA
            · have d4 : decide (nA < 0) = false := decide_eq_false (by omega)
              by_cases k5 : 0 ≤ nT
              · have d5 : decide (nT < 0) = false := decide_eq_false (by omega)
                replace hres : rptR s = ((nA, nT, if gd s qn = 98 then 1 else 0), true) := hres.trans (by simp [k4, k5])
                have hX6 := Lib.hid (P3B.new wr nA nT 0)
                have hbw := alb wr (.cells #[.int .i64 nA, .int .i64 nT, .int .i64 0] 42)
                have hZ6 := Lib.hid (hZ.out.below hbw)
                have hB6 := Lib.hid (bt hB.out hbw)
                have hne : w.heap.size ≠ wr.heap.size := by have := (Array.getElem?_eq_some_iff.1 hZ.out).1; omega
                have hle : w.heap.size ≤ wr.heap.size := hB.out.size
                clear hbw
                go_upto_region 10 with (first | (go_at_call 33; (with_reducible refine (hRa.out _).mono ?_); rintro e2 w2 ⟨rfl, rfl⟩) | (go_at_call 33; (with_reducible refine (hRb.out _).mono ?_); rintro e3 w3 ⟨rfl, rfl⟩))
                generalize wr.alloc (.cells #[.int .i64 nA, .int .i64 nT, .int .i64 0] 42) = W6 at *
                generalize wr.heap.size = K9 at *
                by_cases k6 : gd s qn = 98
                · have e3 : ((gd s qn : Int) == 98) = true := by rw [k6]; rfl
                  rw [if_pos k6] at hres
                  replace hres := Lib.hid hres
                  have hX7 := Lib.hid (hX6.out.put2 1)
                  have hZ7 := Lib.hid (hZ6.out.other hne 2 (.int .i64 1))
                  have hB7 := Lib.hid (hB6.out.setCell (p := ⟨K9, 2, none⟩) hle (.int .i64 1))
                  have x2 := hX6.out.c2
                  have x3 := hX6.out.free 2
                  clear k6
                  go_upto_region 12 with fail
                  clear x2 x3
                  generalize W6.setCell ⟨K9, 2, none⟩ (.int .i64 1) = W7 at *
                  have x0 := hX7.out.c0
                  have x1 := hX7.out.c1
                  have x2 := hX7.out.c2
                  have q0 := hZ7.out.c0
                  have q1 := hZ7.out.c1
                  have q2 := hZ7.out.c2
                  have f0 := hZ7.out.free 0
                  have f1 := hZ7.out.free 1
                  have f2 := hZ7.out.free 2
                  go_wp2
                  clear x0 x1 x2
                  have hF := ((P3B.put0 hZ7.out nA).put1 nT).put2 1
                  have hbF := Lib.hid (((hB7.out.setCell (p := ⟨w.heap.size, 0, none⟩) (Nat.le_refl _) (.int .i64 nA)).setCell (p := ⟨w.heap.size, 1, none⟩) (Nat.le_refl _) (.int .i64 nT)).setCell (p := ⟨w.heap.size, 2, none⟩) (Nat.le_refl _) (.int .i64 1))
                  clear q0 q1 q2 f0 f1 f2
                  generalize (((W7.setCell ⟨w.heap.size, 0, none⟩ (.int .i64 nA)).setCell ⟨w.heap.size, 1, none⟩ (.int .i64 nT)).setCell ⟨w.heap.size, 2, none⟩ (.int .i64 1)) = WF at *
                  have o0 := hF.c0
                  have o1 := hF.c1
                  have o2 := hF.c2
                  refine bodyPost_ret (v := .tuple #[.agg #[.int .i64 nA, .int .i64 nT, .int .i64 1], .bool true]) (by simp [results, Tryd.results18, go_sem, o0, o1, o2]) rfl ?_
                  exact hE.out _ (nA, nT, 1) true hres.out hbF.out
                · have e3 : ((gd s qn : Int) == 98) = false := by rw [beq_eq_false_iff_ne]; omega
                  rw [if_neg k6] at hres
                  replace hres := Lib.hid hres
                  have x0 := hX6.out.c0
                  have x1 := hX6.out.c1
                  have x2 := hX6.out.c2
                  clear k6
                  have q0 := hZ6.out.c0
                  have q1 := hZ6.out.c1
                  have q2 := hZ6.out.c2
                  have f0 := hZ6.out.free 0
                  have f1 := hZ6.out.free 1
                  have f2 := hZ6.out.free 2
                  go_wp2
                  clear x0 x1 x2
                  have hF := ((P3B.put0 hZ6.out nA).put1 nT).put2 0
                  have hbF := Lib.hid (((hB6.out.setCell (p := ⟨w.heap.size, 0, none⟩) (Nat.le_refl _) (.int .i64 nA)).setCell (p := ⟨w.heap.size, 1, none⟩) (Nat.le_refl _) (.int .i64 nT)).setCell (p := ⟨w.heap.size, 2, none⟩) (Nat.le_refl _) (.int .i64 0))
                  clear q0 q1 q2 f0 f1 f2
                  generalize (((W6.setCell ⟨w.heap.size, 0, none⟩ (.int .i64 nA)).setCell ⟨w.heap.size, 1, none⟩ (.int .i64 nT)).setCell ⟨w.heap.size, 2, none⟩ (.int .i64 0)) = WF at *
                  have o0 := hF.c0
                  have o1 := hF.c1
                  have o2 := hF.c2
                  refine bodyPost_ret (v := .tuple #[.agg #[.int .i64 nA, .int .i64 nT, .int .i64 0], .bool true]) (by simp [results, Tryd.results18, go_sem, o0, o1, o2]) rfl ?_
                  exact hE.out _ (nA, nT, 0) true hres.out hbF.out
              · have d5 : decide (nT < 0) = true := decide_eq_true (by omega)
                replace hres := Lib.hid (hres.trans (by simp [k5]) : rptR s = ((0, 0, 0), false))
                have q0 := hZ.out.c0
                have q1 := hZ.out.c1
                have q2 := hZ.out.c2
                have f0 := hZ.out.free 0
                have f1 := hZ.out.free 1
                have f2 := hZ.out.free 2
                go_wp2_with (first | (go_at_call 33; (with_reducible refine (hRa.out _).mono ?_); rintro e2 w2 ⟨rfl, rfl⟩) | (go_at_call 33; (with_reducible refine (hRb.out _).mono ?_); rintro e3 w3 ⟨rfl, rfl⟩))
                have hF := ((P3B.put0 hZ.out 0).put1 0).put2 0
                have hbF := Lib.hid (((hB.out.setCell (p := ⟨w.heap.size, 0, none⟩) (Nat.le_refl _) (.int .i64 0)).setCell (p := ⟨w.heap.size, 1, none⟩) (Nat.le_refl _) (.int .i64 0)).setCell (p := ⟨w.heap.size, 2, none⟩) (Nat.le_refl _) (.int .i64 0))
                clear q0 q1 q2 f0 f1 f2
                generalize (((wr.setCell ⟨w.heap.size, 0, none⟩ (.int .i64 0)).setCell ⟨w.heap.size, 1, none⟩ (.int .i64 0)).setCell ⟨w.heap.size, 2, none⟩ (.int .i64 0)) = WF at *
                have o0 := hF.c0
                have o1 := hF.c1
                have o2 := hF.c2
                refine bodyPost_ret (v := .tuple #[.agg #[.int .i64 0, .int .i64 0, .int .i64 0], .bool false]) (by simp [results, Tryd.results18, go_sem, o0, o1, o2]) rfl ?_
                exact hE.out _ (0, 0, 0) false hres.out hbF.out
            · have d4 : decide (nA < 0) = true := decide_eq_true (by omega)
              replace hres := Lib.hid (hres.trans (by simp [k4]) : rptR s = ((0, 0, 0), false))
              have q0 := hZ.out.c0
              have q1 := hZ.out.c1
              have q2 := hZ.out.c2
              have f0 := hZ.out.free 0
              have f1 := hZ.out.free 1
              have f2 := hZ.out.free 2
              go_wp2_with (first | (go_at_call 33; (with_reducible refine (hRa.out _).mono ?_); rintro e2 w2 ⟨rfl, rfl⟩) | (go_at_call 33; (with_reducible refine (hRb.out _).mono ?_); rintro e3 w3 ⟨rfl, rfl⟩))
              have hF := ((P3B.put0 hZ.out 0).put1 0).put2 0
              have hbF := Lib.hid (((hB.out.setCell (p := ⟨w.heap.size, 0, none⟩) (Nat.le_refl _) (.int .i64 0)).setCell (p := ⟨w.heap.size, 1, none⟩) (Nat.le_refl _) (.int .i64 0)).setCell (p := ⟨w.heap.size, 2, none⟩) (Nat.le_refl _) (.int .i64 0))
              clear q0 q1 q2 f0 f1 f2
              generalize (((wr.setCell ⟨w.heap.size, 0, none⟩ (.int .i64 0)).setCell ⟨w.heap.size, 1, none⟩ (.int .i64 0)).setCell ⟨w.heap.size, 2, none⟩ (.int .i64 0)) = WF at *
              have o0 := hF.c0
              have o1 := hF.c1
              have o2 := hF.c2
              refine bodyPost_ret (v := .tuple #[.agg #[.int .i64 0, .int .i64 0, .int .i64 0], .bool false]) (by simp [results, Tryd.results18, go_sem, o0, o1, o2]) rfl ?_
              exact hE.out _ (0, 0, 0) false hres.out hbF.out
          · have n3 : (eT != 0) = true := by simpa [bne] using k3
            replace hres := Lib.hid (hres.trans (by simp [k3]) : rptR s = ((0, 0, 0), false))
            clear k3
            have q0 := hZ.out.c0
            have q1 := hZ.out.c1
            have q2 := hZ.out.c2
            have f0 := hZ.out.free 0
            have f1 := hZ.out.free 1
            have f2 := hZ.out.free 2
            go_wp2_with (first | (go_at_call 33; (with_reducible refine (hRa.out _).mono ?_); rintro e2 w2 ⟨rfl, rfl⟩) | (go_at_call 33; (with_reducible refine (hRb.out _).mono ?_); rintro e3 w3 ⟨rfl, rfl⟩))
            have hF := ((P3B.put0 hZ.out 0).put1 0).put2 0
            have hbF := Lib.hid (((hB.out.setCell (p := ⟨w.heap.size, 0, none⟩) (Nat.le_refl _) (.int .i64 0)).setCell (p := ⟨w.heap.size, 1, none⟩) (Nat.le_refl _) (.int .i64 0)).setCell (p := ⟨w.heap.size, 2, none⟩) (Nat.le_refl _) (.int .i64 0))
            clear q0 q1 q2 f0 f1 f2
            generalize (((wr.setCell ⟨w.heap.size, 0, none⟩ (.int .i64 0)).setCell ⟨w.heap.size, 1, none⟩ (.int .i64 0)).setCell ⟨w.heap.size, 2, none⟩ (.int .i64 0)) = WF at *
            have o0 := hF.c0
            have o1 := hF.c1
            have o2 := hF.c2
            refine bodyPost_ret (v := .tuple #[.agg #[.int .i64 0, .int .i64 0, .int .i64 0], .bool false]) (by simp [results, Tryd.results18, go_sem, o0, o1, o2]) rfl ?_
            exact hE.out _ (0, 0, 0) false hres.out hbF.out
        · have n2 : (eA != 0) = true := by simpa [bne] using k2
          replace hres := Lib.hid (hres.trans (by simp [k2]) : rptR s = ((0, 0, 0), false))
          clear k2
          have q0 := hZ.out.c0
          have q1 := hZ.out.c1
          have q2 := hZ.out.c2
          have f0 := hZ.out.free 0
          have f1 := hZ.out.free 1
          have f2 := hZ.out.free 2
          go_wp2_with (first | (go_at_call 33; (with_reducible refine (hRa.out _).mono ?_); rintro e2 w2 ⟨rfl, rfl⟩) | (go_at_call 33; (with_reducible refine (hRb.out _).mono ?_); rintro e3 w3 ⟨rfl, rfl⟩))
          have hF := ((P3B.put0 hZ.out 0).put1 0).put2 0
          have hbF := Lib.hid (((hB.out.setCell (p := ⟨w.heap.size, 0, none⟩) (Nat.le_refl _) (.int .i64 0)).setCell (p := ⟨w.heap.size, 1, none⟩) (Nat.le_refl _) (.int .i64 0)).setCell (p := ⟨w.heap.size, 2, none⟩) (Nat.le_refl _) (.int .i64 0))
          clear q0 q1 q2 f0 f1 f2
          generalize (((wr.setCell ⟨w.heap.size, 0, none⟩ (.int .i64 0)).setCell ⟨w.heap.size, 1, none⟩ (.int .i64 0)).setCell ⟨w.heap.size, 2, none⟩ (.int .i64 0)) = WF at *
          have o0 := hF.c0
          have o1 := hF.c1
          have o2 := hF.c2
          refine bodyPost_ret (v := .tuple #[.agg #[.int .i64 0, .int .i64 0, .int .i64 0], .bool false]) (by simp [results, Tryd.results18, go_sem, o0, o1, o2]) rfl ?_
          exact hE.out _ (0, 0, 0) false hres.out hbF.out
      · have e1 : ((gd s k : Int) != 45) = true := by simp [bne]; omega
        have e2 : ((gd s k : Int) == 45) = false := by rw [beq_eq_false_iff_ne]; omega
        have hno2 : Hid (∀ j, j < k + 1 → gd s j ≠ 45) := by
          intro j hj
          by_cases hjk : j = k
          · subst hjk; exact hp
          · exact hno.out j (by omega)
        clear hp hres h45
        go_wp2
        exact ⟨⟨k + 1, by omega, by go_num, hno2, hZ, hB⟩, by simp [intOf]; omega⟩
    · have hd2 : decide ((k : Int) < (s.size : Int)) = false := decide_eq_false (by omega)
      have hd3 : decide (k < s.size) = false := decide_eq_false hlt
      have hf := cut_none fun j hj => hno.out j (by omega)
      rw [hf] at hres
      replace hres := Lib.hid (hres.trans (by simp) : rptR s = ((0, 0, 0), false))
      have q0 := hZ.out.c0
      have q1 := hZ.out.c1
      have q2 := hZ.out.c2
      have f0 := hZ.out.free 0
      have f1 := hZ.out.free 1
      have f2 := hZ.out.free 2
      go_wp2
      have hF := ((P3B.put0 hZ.out 0).put1 0).put2 0
      have hbF := Lib.hid (((hB.out.setCell (p := ⟨w.heap.size, 0, none⟩) (Nat.le_refl _) (.int .i64 0)).setCell (p := ⟨w.heap.size, 1, none⟩) (Nat.le_refl _) (.int .i64 0)).setCell (p := ⟨w.heap.size, 2, none⟩) (Nat.le_refl _) (.int .i64 0))
      clear q0 q1 q2 f0 f1 f2
      generalize (((wr.setCell ⟨w.heap.size, 0, none⟩ (.int .i64 0)).setCell ⟨w.heap.size, 1, none⟩ (.int .i64 0)).setCell ⟨w.heap.size, 2, none⟩ (.int .i64 0)) = WF at *
      have o0 := hF.c0
      have o1 := hF.c1
      have o2 := hF.c2
      refine bodyPost_ret (v := .tuple #[.agg #[.int .i64 0, .int .i64 0, .int .i64 0], .bool false]) (by simp [results, Tryd.results18, go_sem, o0, o1, o2]) rfl ?_
      exact hE.out _ (0, 0, 0) false hres.out hbF.out
end Go.Proofs.YtlmmmibnnbceeaaDoor
