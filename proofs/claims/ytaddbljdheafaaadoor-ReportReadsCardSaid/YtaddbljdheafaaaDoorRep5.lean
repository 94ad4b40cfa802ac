/-
  What a node knows of itself in words (chapter 34): the reference's Status.
-/
import Derived.Test.YtaddbljdheafaaaDoorRep4
import Derived.Deep.Cut
import Derived.Deep.CutRange
import Derived.Deep.DeepCutAuto
namespace Go.Proofs.YtaddbljdheafaaaDoor
open Go.RowKit
set_option linter.unusedVariables false
set_option linter.unusedSimpArgs false
set_option maxRecDepth 20000

def LA (tb x y z : ByteArray) : List ByteArray := [nodeS, x, y, bootS, tb, z]
structure ST (w wx : World) (K : Nat) (nd rl bo : Int) (l : List ByteArray) : Prop where
  row : Strs wx w.heap.size (.slice (some ⟨K, 0, none⟩) 6 6) l
  box : S3 wx w.heap.size nd rl bo
  bel : Below w.heap.size w wx
  lt : w.heap.size < K
theorem ST.free {w wx : World} {K : Nat} {nd rl bo : Int} {l : List ByteArray} (h : ST w wx K nd rl bo l) (x : Nat) : wx.frozen? ⟨K, x, none⟩ = false := by
  rcases h.row.2 with ⟨h', _⟩ | ⟨g', cap', cur, h', hb, hg, hnc, hcm, hcs, htake⟩
  · simp at h'
  · simp only [Value.slice.injEq, Option.some.injEq, Addr.mk.injEq, and_true, true_and] at h'
    obtain ⟨rfl, _⟩ := h'
    exact frozen_of_row wx K x _ _ hg
theorem ST.cell {w wx : World} {K : Nat} {nd rl bo : Int} {l : List ByteArray} (h : ST w wx K nd rl bo l) (x : Nat) (y : ByteArray) (hx : l[x]? = some y) : wx.cell? ⟨K, x, none⟩ = some (.string y) := by
  obtain ⟨h1, rfl⟩ := List.getElem?_eq_some_iff.1 hx
  rcases h.row.tx with ⟨e, _⟩ | ⟨g, o, cap, e, h2, _, h3⟩
  · cases e
  · injection e with e1 e2 e3
    injection e1 with e1
    injection e1 with e4 e5
    subst e4 e5
    have := h3 x h1
    rwa [Nat.zero_add] at this
theorem ST.put {w wx : World} {K : Nat} {nd rl bo : Int} {l : List ByteArray} (h : ST w wx K nd rl bo l) (h6 : l.length = 6) (j : Nat) (y : ByteArray) : ST w (wx.setCell ⟨K, j, none⟩ (.string y)) K nd rl bo (l.set j y) := by
  have hlt := h.lt
  refine ⟨?_, ⟨cell_set_ne h.box.1 (by show w.heap.size ≠ K; omega), cell_set_ne h.box.2.1 (by show w.heap.size ≠ K; omega), cell_set_ne h.box.2.2 (by show w.heap.size ≠ K; omega)⟩, h.bel.setCell (p := ⟨K, j, none⟩) (Nat.le_of_lt hlt) _, hlt⟩
  have hr := h.row
  unfold Strs at hr ⊢
  rw [h6] at hr
  rw [List.length_set, h6, List.map_set]
  exact (World.ownsRow.stored hr j (.string y)).1
set_option maxHeartbeats 6400000 in
theorem rstatus_any (nd rl bo c0 c1 c2 c3 : Int) (up cp hr th : Bool) (ch : Int) (w : World) (hbo : I64 bo) (hch : I64 ch) :
    Calls Tryd.prog 18 #[SupV nd rl bo c0 c1 c2 c3, .bool up, .bool cp, .bool hr, .bool th, .int .i64 ch] w fun e' w' => e' = .returned (.string (jn (statA nd rl bo up cp hr th ch))) ∧ Below w.heap.size w w' := by
  have hz := stat_size nd rl bo up cp hr th ch
  rw [stat_jn] at hz ⊢
  have hE : ∀ (t : ByteArray) W, t = jn (statB nd rl bo up cp hr th ch) → Below w.heap.size w W → (fun (e' : Ending) (w' : World) => e' = .returned (.string (jn (statB nd rl bo up cp hr th ch))) ∧ Below w.heap.size w w') (.returned (.string t)) W := by
    rintro t W rfl h
    exact ⟨rfl, h⟩
  have h0 : statB nd rl bo up cp hr th ch = LA (textS bo) (if nd == 0 then aS else bS) (if rl == 1 then primS else secS) (if up then upS else downS) ++ (if cp then [compS] else [chgS, textS ch]) ++ tailL hr th := rfl
  generalize (fun (e' : Ending) (w' : World) => e' = .returned (.string (jn (statB nd rl bo up cp hr th ch))) ∧ Below w.heap.size w w') = Pst at *
  generalize statB nd rl bo up cp hr th ch = LL at *
  replace hE := Lib.hid hE
  have hT1 := fun W => rtext_any bo W hbo.1 hbo.2
  have hT2 := fun W => rtext_any ch W hch.1 hch.2
  generalize textS bo = tb at *
  generalize textS ch = tc at *
  have hL := fun W (hB : w.heap.size ≤ W.heap.size) => Strs.lit W w.heap.size (LA tb bS secS downS) #[.string nodeS, .string bS, .string secS, .string bootS, .string tb, .string downS] 6 hB rfl (by unfold maxLen; omega) rfl
  unfold nodeS bootS bS secS downS at hL
  replace hT1 := Lib.hid hT1
  replace hT2 := Lib.hid hT2
  replace hL := Lib.hid hL
  clear hbo hch
  obtain ⟨W0, hW0⟩ : ∃ W0, w.alloc (.cells #[.int .i64 nd, .int .i64 rl, .int .i64 bo, .int .i64 c0, .int .i64 c1, .int .i64 c2, .int .i64 c3] 47) = W0 := ⟨_, rfl⟩
  have hr2 := hW0 ▸ S3.new w 47 nd rl bo c0 c1 c2 c3
  have hb2 : Below w.heap.size w W0 := hW0 ▸ alb w _
  have hsz : W0.heap.size = w.heap.size + 1 := by rw [← hW0]; simp
  replace hsz := Lib.hid hsz
  replace hr2 := Lib.hid hr2
  replace hb2 := Lib.hid hb2
  obtain ⟨d0, d1, d2⟩ := hr2.out
  replace h0 := Lib.hid h0
  go_enter Tryd.func18, Tryd.ntmps18
  go_upto_if 20 with (go_at_call 34; (with_reducible refine (hT1.out _).mono ?_); rintro e5 w5 ⟨rfl, hA⟩; have hS5 : Hid (∀ o, o = Obj.cells #[.string nodeS, .string bS, .string secS, .string bootS, .string tb, .string downS] 9 → ST w (w5.alloc o) w5.heap.size nd rl bo (LA tb bS secS downS)) := (fun o ho => ⟨ho ▸ hL.out w5 (bt hb2.out hA).size, (hr2.out.below hA).below (alb _ _), bt (bt hb2.out hA) (alb _ _), by have := hA.size; have := hsz.out; omega⟩); have d0 := bkeep (bt hA (alb w5 (.cells #[.string nodeS, .string bS, .string secS, .string bootS, .string tb, .string downS] 9))) d0; unfold nodeS bS secS bootS downS at d0; clear hA)
  have hS6 := hS5.out (.cells #[.string ⟨#[110, 111, 100, 101]⟩, .string ⟨#[98]⟩, .string ⟨#[115, 101, 99, 111, 110, 100, 97, 114, 121]⟩, .string ⟨#[98, 111, 111, 116]⟩, .string tb, .string ⟨#[100, 111, 119, 110]⟩] 9) rfl
  generalize w5.alloc (.cells #[.string ⟨#[110, 111, 100, 101]⟩, .string ⟨#[98]⟩, .string ⟨#[115, 101, 99, 111, 110, 100, 97, 114, 121]⟩, .string ⟨#[98, 111, 111, 116]⟩, .string tb, .string ⟨#[100, 111, 119, 110]⟩] 9) = WW at *
  go_cut [] from 14 (fun wx => Hid (ST w wx w5.heap.size nd rl bo (LA tb (if nd == 0 then aS else bS) secS downS)))
  case first =>
    have hS7 := hS6.put rfl 1 aS
    have f1 := hS6.free 1
    have f2 := hS6.cell 1 bS rfl
    cases hq : (nd == 0) with
    | true =>
      go_wp2
      go_meet
      case rel =>
        rw [hq, if_pos rfl]
        exact hS7
    | false =>
      go_wp2
      go_meet
      case rel =>
        rw [hq, if_neg (by simp)]
        exact hS6
  case rest =>
    generalize (if (nd == 0) = true then aS else bS) = n1 at *
    clear hS5 hS6 d0 d1 d2 hr2 hb2 hsz
    obtain ⟨_, d1, _⟩ := hcut.out.box
    have hS6 := hcut
    clear hcut
    go_upto_if 25 with fail
    go_cut [] from 14 (fun wx => Hid (ST w wx w5.heap.size nd rl bo (LA tb n1 (if rl == 1 then primS else secS) downS)))
    case first =>
      have hS7 := hS6.out.put rfl 2 primS
      have f1 := hS6.out.free 2
      have f2 := hS6.out.cell 2 secS rfl
      cases hq : (rl == 1) with
      | true =>
        go_wp2
        go_meet
        case rel =>
          rw [hq, if_pos rfl]
          exact hS7
      | false =>
        go_wp2
        go_meet
        case rel =>
          rw [hq, if_neg (by simp)]
          exact hS6
    case rest =>
      generalize (if (rl == 1) = true then primS else secS) = n2 at *
      clear hS6 d1
      have hS6 := hcut
      clear hcut
      go_upto_if 28 with fail
      go_cut [] from 14 (fun wx => Hid (ST w wx w5.heap.size nd rl bo (LA tb n1 n2 (if up then upS else downS))))
      case first =>
        have hS7 := hS6.out.put rfl 5 upS
        have f1 := hS6.out.free 5
        have f2 := hS6.out.cell 5 downS rfl
        cases up with
        | true =>
          go_wp2
          go_meet
          case rel =>
            rw [if_pos trivial]
            exact hS7
        | false =>
          go_wp2
          go_meet
          case rel =>
            rw [if_neg (by simp)]
            exact hS6
      case rest =>
        generalize (if up = true then upS else downS) = n3 at *
        clear hS6
        have hO := Lib.hid hcut.out.row
        have hb2 := Lib.hid hcut.out.bel
        have hlen : (LA tb n1 n2 n3).length = 6 := rfl
        clear hcut
        replace h0 := h0.out
        generalize LA tb n1 n2 n3 = L6 at *
        cases cp <;> cases hr <;> cases th
        ·
          replace h0 : LL = L6 ++ [⟨#[99, 104, 97, 110, 103, 101, 100]⟩, tc] := h0.trans (by simp [tailL, fullS, waitS, compS, chgS])
          rw [h0] at hz
          replace h0 := Lib.hid h0
          go_wp2_with (first | (go_at_call 34; (with_reducible refine (hT2.out _).mono ?_); rintro e7 w7 ⟨rfl, hA⟩; replace hO := Lib.hid (hO.out.below hA); replace hb2 := Lib.hid (bt hb2.out hA); clear hA) | (go_at_call 27; (with_reducible refine (words_ref _ _ _ (hO.out.tx.mono (Nat.zero_le _)) (by omega) (by simp; omega)).mono ?_); rintro e9 w9 ⟨rfl, hA⟩; replace hb2 := Lib.hid (bt hb2.out hA)) | (at_builtin; refine wpl_app_tx rfl (.tmp 35) (.tmp 38) _ w.heap.size _ _ L6 [⟨#[99, 104, 97, 110, 103, 101, 100]⟩, tc] rfl rfl (hO.out.below (alb _ _)) (tx_lit _ [⟨#[99, 104, 97, 110, 103, 101, 100]⟩, tc] _ 2 rfl rfl) (by simp only [List.length_append, List.length_cons, List.length_nil]; omega) (bt hb2.out (alb _ _)).size ?_ rfl rfl; intro v8 w8 h8 h9; replace hO := Lib.hid h8; replace hb2 := Lib.hid (frmB h9 (bt hb2.out (alb _ _)) (bt hb2.out (alb _ _)).size); clear h8 h9))
          exact hE.out _ _ (by rw [h0.out]; try simp) hb2.out
        ·
          replace h0 : LL = L6 ++ [⟨#[99, 104, 97, 110, 103, 101, 100]⟩, tc] ++ [⟨#[119, 97, 105, 116, 115]⟩] := h0.trans (by simp [tailL, fullS, waitS, compS, chgS])
          rw [h0] at hz
          replace h0 := Lib.hid h0
          go_wp2_with (first | (go_at_call 34; (with_reducible refine (hT2.out _).mono ?_); rintro e7 w7 ⟨rfl, hA⟩; replace hO := Lib.hid (hO.out.below hA); replace hb2 := Lib.hid (bt hb2.out hA); clear hA) | (go_at_call 27; (with_reducible refine (words_ref _ _ _ (hO.out.tx.mono (Nat.zero_le _)) (by omega) (by simp; omega)).mono ?_); rintro e9 w9 ⟨rfl, hA⟩; replace hb2 := Lib.hid (bt hb2.out hA)) | (first | (at_builtin; refine wpl_app_tx rfl (.tmp 35) (.tmp 38) _ w.heap.size _ _ L6 [⟨#[99, 104, 97, 110, 103, 101, 100]⟩, tc] rfl rfl (hO.out.below (alb _ _)) (tx_lit _ [⟨#[99, 104, 97, 110, 103, 101, 100]⟩, tc] _ 2 rfl rfl) (by simp only [List.length_append, List.length_cons, List.length_nil]; omega) (bt hb2.out (alb _ _)).size ?_ rfl rfl; intro v8 w8 h8 h9; replace hO := Lib.hid h8; replace hb2 := Lib.hid (frmB h9 (bt hb2.out (alb _ _)) (bt hb2.out (alb _ _)).size); clear h8 h9) | (at_builtin; refine wpl_app_tx rfl (.tmp 45) (.tmp 46) _ w.heap.size _ _ (L6 ++ [⟨#[99, 104, 97, 110, 103, 101, 100]⟩, tc]) [⟨#[119, 97, 105, 116, 115]⟩] rfl rfl (hO.out.below (alb _ _)) (tx_lit _ [⟨#[119, 97, 105, 116, 115]⟩] _ 1 rfl rfl) (by simp only [List.length_append, List.length_cons, List.length_nil]; omega) (bt hb2.out (alb _ _)).size ?_ rfl rfl; intro v8 w8 h8 h9; replace hO := Lib.hid h8; replace hb2 := Lib.hid (frmB h9 (bt hb2.out (alb _ _)) (bt hb2.out (alb _ _)).size); clear h8 h9)))
          exact hE.out _ _ (by rw [h0.out]; try simp) hb2.out
        ·
          replace h0 : LL = L6 ++ [⟨#[99, 104, 97, 110, 103, 101, 100]⟩, tc] ++ [⟨#[102, 117, 108, 108]⟩] := h0.trans (by simp [tailL, fullS, waitS, compS, chgS])
          rw [h0] at hz
          replace h0 := Lib.hid h0
          go_wp2_with (first | (go_at_call 34; (with_reducible refine (hT2.out _).mono ?_); rintro e7 w7 ⟨rfl, hA⟩; replace hO := Lib.hid (hO.out.below hA); replace hb2 := Lib.hid (bt hb2.out hA); clear hA) | (go_at_call 27; (with_reducible refine (words_ref _ _ _ (hO.out.tx.mono (Nat.zero_le _)) (by omega) (by simp; omega)).mono ?_); rintro e9 w9 ⟨rfl, hA⟩; replace hb2 := Lib.hid (bt hb2.out hA)) | (first | (at_builtin; refine wpl_app_tx rfl (.tmp 35) (.tmp 38) _ w.heap.size _ _ L6 [⟨#[99, 104, 97, 110, 103, 101, 100]⟩, tc] rfl rfl (hO.out.below (alb _ _)) (tx_lit _ [⟨#[99, 104, 97, 110, 103, 101, 100]⟩, tc] _ 2 rfl rfl) (by simp only [List.length_append, List.length_cons, List.length_nil]; omega) (bt hb2.out (alb _ _)).size ?_ rfl rfl; intro v8 w8 h8 h9; replace hO := Lib.hid h8; replace hb2 := Lib.hid (frmB h9 (bt hb2.out (alb _ _)) (bt hb2.out (alb _ _)).size); clear h8 h9) | (at_builtin; refine wpl_app_tx rfl (.tmp 41) (.tmp 42) _ w.heap.size _ _ (L6 ++ [⟨#[99, 104, 97, 110, 103, 101, 100]⟩, tc]) [⟨#[102, 117, 108, 108]⟩] rfl rfl (hO.out.below (alb _ _)) (tx_lit _ [⟨#[102, 117, 108, 108]⟩] _ 1 rfl rfl) (by simp only [List.length_append, List.length_cons, List.length_nil]; omega) (bt hb2.out (alb _ _)).size ?_ rfl rfl; intro v8 w8 h8 h9; replace hO := Lib.hid h8; replace hb2 := Lib.hid (frmB h9 (bt hb2.out (alb _ _)) (bt hb2.out (alb _ _)).size); clear h8 h9)))
          exact hE.out _ _ (by rw [h0.out]; try simp) hb2.out
        ·
          replace h0 : LL = L6 ++ [⟨#[99, 104, 97, 110, 103, 101, 100]⟩, tc] ++ [⟨#[102, 117, 108, 108]⟩] ++ [⟨#[119, 97, 105, 116, 115]⟩] := h0.trans (by simp [tailL, fullS, waitS, compS, chgS])
          rw [h0] at hz
          replace h0 := Lib.hid h0
          go_wp2_with (first | (go_at_call 34; (with_reducible refine (hT2.out _).mono ?_); rintro e7 w7 ⟨rfl, hA⟩; replace hO := Lib.hid (hO.out.below hA); replace hb2 := Lib.hid (bt hb2.out hA); clear hA) | (go_at_call 27; (with_reducible refine (words_ref _ _ _ (hO.out.tx.mono (Nat.zero_le _)) (by omega) (by simp; omega)).mono ?_); rintro e9 w9 ⟨rfl, hA⟩; replace hb2 := Lib.hid (bt hb2.out hA)) | (first | (at_builtin; refine wpl_app_tx rfl (.tmp 35) (.tmp 38) _ w.heap.size _ _ L6 [⟨#[99, 104, 97, 110, 103, 101, 100]⟩, tc] rfl rfl (hO.out.below (alb _ _)) (tx_lit _ [⟨#[99, 104, 97, 110, 103, 101, 100]⟩, tc] _ 2 rfl rfl) (by simp only [List.length_append, List.length_cons, List.length_nil]; omega) (bt hb2.out (alb _ _)).size ?_ rfl rfl; intro v8 w8 h8 h9; replace hO := Lib.hid h8; replace hb2 := Lib.hid (frmB h9 (bt hb2.out (alb _ _)) (bt hb2.out (alb _ _)).size); clear h8 h9) | (at_builtin; refine wpl_app_tx rfl (.tmp 41) (.tmp 42) _ w.heap.size _ _ (L6 ++ [⟨#[99, 104, 97, 110, 103, 101, 100]⟩, tc]) [⟨#[102, 117, 108, 108]⟩] rfl rfl (hO.out.below (alb _ _)) (tx_lit _ [⟨#[102, 117, 108, 108]⟩] _ 1 rfl rfl) (by simp only [List.length_append, List.length_cons, List.length_nil]; omega) (bt hb2.out (alb _ _)).size ?_ rfl rfl; intro v8 w8 h8 h9; replace hO := Lib.hid h8; replace hb2 := Lib.hid (frmB h9 (bt hb2.out (alb _ _)) (bt hb2.out (alb _ _)).size); clear h8 h9) | (at_builtin; refine wpl_app_tx rfl (.tmp 45) (.tmp 46) _ w.heap.size _ _ (L6 ++ [⟨#[99, 104, 97, 110, 103, 101, 100]⟩, tc] ++ [⟨#[102, 117, 108, 108]⟩]) [⟨#[119, 97, 105, 116, 115]⟩] rfl rfl (hO.out.below (alb _ _)) (tx_lit _ [⟨#[119, 97, 105, 116, 115]⟩] _ 1 rfl rfl) (by simp only [List.length_append, List.length_cons, List.length_nil]; omega) (bt hb2.out (alb _ _)).size ?_ rfl rfl; intro v8 w8 h8 h9; replace hO := Lib.hid h8; replace hb2 := Lib.hid (frmB h9 (bt hb2.out (alb _ _)) (bt hb2.out (alb _ _)).size); clear h8 h9)))
          exact hE.out _ _ (by rw [h0.out]; try simp) hb2.out
        ·
          replace h0 : LL = L6 ++ [⟨#[99, 111, 109, 112, 108, 101, 116, 101]⟩] := h0.trans (by simp [tailL, fullS, waitS, compS, chgS])
          rw [h0] at hz
          replace h0 := Lib.hid h0
          go_wp2_with (first | (go_at_call 34; (with_reducible refine (hT2.out _).mono ?_); rintro e7 w7 ⟨rfl, hA⟩; replace hO := Lib.hid (hO.out.below hA); replace hb2 := Lib.hid (bt hb2.out hA); clear hA) | (go_at_call 27; (with_reducible refine (words_ref _ _ _ (hO.out.tx.mono (Nat.zero_le _)) (by omega) (by simp; omega)).mono ?_); rintro e9 w9 ⟨rfl, hA⟩; replace hb2 := Lib.hid (bt hb2.out hA)) | (at_builtin; refine wpl_app_tx rfl (.tmp 32) (.tmp 33) _ w.heap.size _ _ L6 [⟨#[99, 111, 109, 112, 108, 101, 116, 101]⟩] rfl rfl (hO.out.below (alb _ _)) (tx_lit _ [⟨#[99, 111, 109, 112, 108, 101, 116, 101]⟩] _ 1 rfl rfl) (by simp only [List.length_append, List.length_cons, List.length_nil]; omega) (bt hb2.out (alb _ _)).size ?_ rfl rfl; intro v8 w8 h8 h9; replace hO := Lib.hid h8; replace hb2 := Lib.hid (frmB h9 (bt hb2.out (alb _ _)) (bt hb2.out (alb _ _)).size); clear h8 h9))
          exact hE.out _ _ (by rw [h0.out]; try simp) hb2.out
        ·
          replace h0 : LL = L6 ++ [⟨#[99, 111, 109, 112, 108, 101, 116, 101]⟩] ++ [⟨#[119, 97, 105, 116, 115]⟩] := h0.trans (by simp [tailL, fullS, waitS, compS, chgS])
          rw [h0] at hz
          replace h0 := Lib.hid h0
          go_wp2_with (first | (go_at_call 34; (with_reducible refine (hT2.out _).mono ?_); rintro e7 w7 ⟨rfl, hA⟩; replace hO := Lib.hid (hO.out.below hA); replace hb2 := Lib.hid (bt hb2.out hA); clear hA) | (go_at_call 27; (with_reducible refine (words_ref _ _ _ (hO.out.tx.mono (Nat.zero_le _)) (by omega) (by simp; omega)).mono ?_); rintro e9 w9 ⟨rfl, hA⟩; replace hb2 := Lib.hid (bt hb2.out hA)) | (first | (at_builtin; refine wpl_app_tx rfl (.tmp 32) (.tmp 33) _ w.heap.size _ _ L6 [⟨#[99, 111, 109, 112, 108, 101, 116, 101]⟩] rfl rfl (hO.out.below (alb _ _)) (tx_lit _ [⟨#[99, 111, 109, 112, 108, 101, 116, 101]⟩] _ 1 rfl rfl) (by simp only [List.length_append, List.length_cons, List.length_nil]; omega) (bt hb2.out (alb _ _)).size ?_ rfl rfl; intro v8 w8 h8 h9; replace hO := Lib.hid h8; replace hb2 := Lib.hid (frmB h9 (bt hb2.out (alb _ _)) (bt hb2.out (alb _ _)).size); clear h8 h9) | (at_builtin; refine wpl_app_tx rfl (.tmp 45) (.tmp 46) _ w.heap.size _ _ (L6 ++ [⟨#[99, 111, 109, 112, 108, 101, 116, 101]⟩]) [⟨#[119, 97, 105, 116, 115]⟩] rfl rfl (hO.out.below (alb _ _)) (tx_lit _ [⟨#[119, 97, 105, 116, 115]⟩] _ 1 rfl rfl) (by simp only [List.length_append, List.length_cons, List.length_nil]; omega) (bt hb2.out (alb _ _)).size ?_ rfl rfl; intro v8 w8 h8 h9; replace hO := Lib.hid h8; replace hb2 := Lib.hid (frmB h9 (bt hb2.out (alb _ _)) (bt hb2.out (alb _ _)).size); clear h8 h9)))
          exact hE.out _ _ (by rw [h0.out]; try simp) hb2.out
        ·
          replace h0 : LL = L6 ++ [⟨#[99, 111, 109, 112, 108, 101, 116, 101]⟩] ++ [⟨#[102, 117, 108, 108]⟩] := h0.trans (by simp [tailL, fullS, waitS, compS, chgS])
          rw [h0] at hz
          replace h0 := Lib.hid h0
          go_wp2_with (first | (go_at_call 34; (with_reducible refine (hT2.out _).mono ?_); rintro e7 w7 ⟨rfl, hA⟩; replace hO := Lib.hid (hO.out.below hA); replace hb2 := Lib.hid (bt hb2.out hA); clear hA) | (go_at_call 27; (with_reducible refine (words_ref _ _ _ (hO.out.tx.mono (Nat.zero_le _)) (by omega) (by simp; omega)).mono ?_); rintro e9 w9 ⟨rfl, hA⟩; replace hb2 := Lib.hid (bt hb2.out hA)) | (first | (at_builtin; refine wpl_app_tx rfl (.tmp 32) (.tmp 33) _ w.heap.size _ _ L6 [⟨#[99, 111, 109, 112, 108, 101, 116, 101]⟩] rfl rfl (hO.out.below (alb _ _)) (tx_lit _ [⟨#[99, 111, 109, 112, 108, 101, 116, 101]⟩] _ 1 rfl rfl) (by simp only [List.length_append, List.length_cons, List.length_nil]; omega) (bt hb2.out (alb _ _)).size ?_ rfl rfl; intro v8 w8 h8 h9; replace hO := Lib.hid h8; replace hb2 := Lib.hid (frmB h9 (bt hb2.out (alb _ _)) (bt hb2.out (alb _ _)).size); clear h8 h9) | (at_builtin; refine wpl_app_tx rfl (.tmp 41) (.tmp 42) _ w.heap.size _ _ (L6 ++ [⟨#[99, 111, 109, 112, 108, 101, 116, 101]⟩]) [⟨#[102, 117, 108, 108]⟩] rfl rfl (hO.out.below (alb _ _)) (tx_lit _ [⟨#[102, 117, 108, 108]⟩] _ 1 rfl rfl) (by simp only [List.length_append, List.length_cons, List.length_nil]; omega) (bt hb2.out (alb _ _)).size ?_ rfl rfl; intro v8 w8 h8 h9; replace hO := Lib.hid h8; replace hb2 := Lib.hid (frmB h9 (bt hb2.out (alb _ _)) (bt hb2.out (alb _ _)).size); clear h8 h9)))
          exact hE.out _ _ (by rw [h0.out]; try simp) hb2.out
        ·
          replace h0 : LL = L6 ++ [⟨#[99, 111, 109, 112, 108, 101, 116, 101]⟩] ++ [⟨#[102, 117, 108, 108]⟩] ++ [⟨#[119, 97, 105, 116, 115]⟩] := h0.trans (by simp [tailL, fullS, waitS, compS, chgS])
          rw [h0] at hz
          replace h0 := Lib.hid h0
          go_wp2_with (first | (go_at_call 34; (with_reducible refine (hT2.out _).mono ?_); rintro e7 w7 ⟨rfl, hA⟩; replace hO := Lib.hid (hO.out.below hA); replace hb2 := Lib.hid (bt hb2.out hA); clear hA) | (go_at_call 27; (with_reducible refine (words_ref _ _ _ (hO.out.tx.mono (Nat.zero_le _)) (by omega) (by simp; omega)).mono ?_); rintro e9 w9 ⟨rfl, hA⟩; replace hb2 := Lib.hid (bt hb2.out hA)) | (first | (at_builtin; refine wpl_app_tx rfl (.tmp 32) (.tmp 33) _ w.heap.size _ _ L6 [⟨#[99, 111, 109, 112, 108, 101, 116, 101]⟩] rfl rfl (hO.out.below (alb _ _)) (tx_lit _ [⟨#[99, 111, 109, 112, 108, 101, 116, 101]⟩] _ 1 rfl rfl) (by simp only [List.length_append, List.length_cons, List.length_nil]; omega) (bt hb2.out (alb _ _)).size ?_ rfl rfl; intro v8 w8 h8 h9; replace hO := Lib.hid h8; replace hb2 := Lib.hid (frmB h9 (bt hb2.out (alb _ _)) (bt hb2.out (alb _ _)).size); clear h8 h9) | (at_builtin; refine wpl_app_tx rfl (.tmp 41) (.tmp 42) _ w.heap.size _ _ (L6 ++ [⟨#[99, 111, 109, 112, 108, 101, 116, 101]⟩]) [⟨#[102, 117, 108, 108]⟩] rfl rfl (hO.out.below (alb _ _)) (tx_lit _ [⟨#[102, 117, 108, 108]⟩] _ 1 rfl rfl) (by simp only [List.length_append, List.length_cons, List.length_nil]; omega) (bt hb2.out (alb _ _)).size ?_ rfl rfl; intro v8 w8 h8 h9; replace hO := Lib.hid h8; replace hb2 := Lib.hid (frmB h9 (bt hb2.out (alb _ _)) (bt hb2.out (alb _ _)).size); clear h8 h9) | (at_builtin; refine wpl_app_tx rfl (.tmp 45) (.tmp 46) _ w.heap.size _ _ (L6 ++ [⟨#[99, 111, 109, 112, 108, 101, 116, 101]⟩] ++ [⟨#[102, 117, 108, 108]⟩]) [⟨#[119, 97, 105, 116, 115]⟩] rfl rfl (hO.out.below (alb _ _)) (tx_lit _ [⟨#[119, 97, 105, 116, 115]⟩] _ 1 rfl rfl) (by simp only [List.length_append, List.length_cons, List.length_nil]; omega) (bt hb2.out (alb _ _)).size ?_ rfl rfl; intro v8 w8 h8 h9; replace hO := Lib.hid h8; replace hb2 := Lib.hid (frmB h9 (bt hb2.out (alb _ _)) (bt hb2.out (alb _ _)).size); clear h8 h9)))
          exact hE.out _ _ (by rw [h0.out]; try simp) hb2.out
end Go.Proofs.YtaddbljdheafaaaDoor
