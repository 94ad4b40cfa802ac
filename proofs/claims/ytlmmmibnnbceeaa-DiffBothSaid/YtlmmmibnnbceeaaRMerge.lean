/-
  Two versions of a base (chapter 41): the reference's Merge.
-/
import Derived.Test.YtlmmmibnnbceeaaSides
import Derived.Handy
namespace Go.Proofs.Ytlmmmibnnbceeaa
open Go.RowKit
set_option linter.unusedVariables false
set_option linter.unusedSimpArgs false

theorem conv_row (W : World) (g n cap : Nat) (f : Nat → Nat) (h : BRow W g n f) (hf : ∀ j, j < n → f j < 256) :
    (convert 50 9 (.slice (some ⟨g, 0, none⟩) n cap)).run Try.prog W = .ok (.string ⟨((List.range n).map fun j => UInt8.ofNat (f j)).toArray⟩) W := by
  have hcv := run_convert_bytes_back (P := Try.prog) W 50 9 5 ⟨g, 0, none⟩ cap ((List.range n).map fun j => UInt8.ofNat (f j)) Try.underlying50 (by kernel_rfl) (by kernel_rfl) (fun j hj => by
    simp only [List.length_map, List.length_range] at hj
    have h2 : (UInt8.ofNat (f j)).toNat = f j := by
      rw [UInt8.toNat_ofNat']
      exact Nat.mod_eq_of_lt (hf j hj)
    simp only [List.getElem_map, List.getElem_range]
    rw [h2]
    have h4 : (⟨g, 0, none⟩ : Addr).add j = ⟨g, j, none⟩ := by cases j <;> simp [Addr.add]
    rw [h4]
    exact h.c j hj)
  rw [List.length_map, List.length_range] at hcv
  exact hcv
theorem mB_lt (o a b : ByteArray) (j : Nat) : mB o a b j < 256 := by
  unfold mB; split
  · exact gd_lt _ _
  · split
    · exact gd_lt _ _
    · exact gd_lt _ _
theorem BRow.put {W : World} {g n k : Nat} {f f' : Nat → Nat} (h : BRow W g n f) (hk : k < n) (he : ∀ j, j < n → f' j = if j = k then f' k else f j) : BRow (W.setCell ⟨g, k, none⟩ (.int .u8 (f' k))) g n f' := by
  refine ⟨fun j hj => ?_, fun j hj => (World.frozen?_setCell _ _ _ _).trans (h.z j hj)⟩
  by_cases e : j = k
  · subst e; exact cell_same (h.c j hj)
  · rw [he j hj, if_neg e]; exact cell_off (h.c j hj) (fun e' => e e'.symm)
theorem MK.skip {W : World} {g n k : Nat} {p : Nat → Bool} (h : MK W g n k p) (hp : p k = false) : MK W g n (k + 1) p := by
  refine ⟨fun j hj => ?_, h.f⟩
  rw [h.c j hj]
  by_cases e : j = k
  · subst e; rw [hp, Bool.and_false, Bool.and_false]
  · have : decide (j < k + 1) = decide (j < k) := by rw [decide_eq_decide]; omega
    rw [this]
theorem MK.frm {S : Nat → Prop} {W W' : World} {g n k : Nat} {p : Nat → Bool} (h : MK W g n k p) (hf : Frm S W W') (hg : ¬ S g) : MK W' g n k p :=
  ⟨fun j hj => hf.cell (p := ⟨g, j, none⟩) hg (h.c j hj), fun j hj => (hf.frozen (p := ⟨g, j, none⟩) hg (World.block_lt_of_cell? W _ (h.c j hj))).trans (h.f j hj)⟩
/-- what holds at the head of the loop -/
structure RML (o a b : ByteArray) (g1 g2 n : Nat) (w : World) (k : Nat) (wr : World) : Prop where
  row : BRow wr g1 n (fun j => if j < k then mB o a b j else gd o j)
  mar : MK wr g2 n k (pC o a b)
  bel : Below w.heap.size w wr
theorem RML.drewN {o a b : ByteArray} {g1 g2 n k : Nat} {w wr : World} (h : RML o a b g1 g2 n w k wr) (m : Nat) : RML o a b g1 g2 n w k (wr.drewN m) :=
  ⟨h.row.frm (S := fun _ => False) ((Frm.refl _ _).drewN m) (fun h => h), h.mar.frm (S := fun _ => False) ((Frm.refl _ _).drewN m) (fun h => h), bdraws h.bel m⟩
theorem RML.out {o a b : ByteArray} {g1 g2 n k : Nat} {w wr : World} (h : RML o a b g1 g2 n w k wr) (hk : k < n) (hg : g1 ≠ g2) (hg1 : w.heap.size ≤ g1) (hc : pC o a b k = false) (x : Nat) (hx : mB o a b k = x) : RML o a b g1 g2 n w (k + 1) (wr.setCell ⟨g1, k, none⟩ (.int .u8 x)) := by
  have h1 := h.row.put (f' := fun j => if j < k + 1 then mB o a b j else gd o j) hk (fun j hj => by
    by_cases e : j = k
    · rw [if_pos e, e]
    · rw [if_neg e]; by_cases e2 : j < k
      · rw [if_pos e2, if_pos (by omega)]
      · rw [if_neg e2, if_neg (by omega)])
  simp only [Nat.lt_succ_self, if_true] at h1
  rw [hx] at h1
  exact ⟨h1, (h.mar.frm (Frm.one wr g1 k _) (fun e => hg e.symm)).skip hc, h.bel.setCell (by exact hg1) _⟩
theorem RML.clash {o a b : ByteArray} {g1 g2 n k : Nat} {w wr : World} (h : RML o a b g1 g2 n w k wr) (hk : k < n) (hg : g1 ≠ g2) (hg2 : w.heap.size ≤ g2) (hc : pC o a b k = true) (hx : mB o a b k = gd o k) : RML o a b g1 g2 n w (k + 1) (wr.setCell ⟨g2, k, none⟩ (.bool true)) := by
  have h1 := h.mar.step hk
  rw [hc] at h1
  have hfe : (fun j => if j < k + 1 then mB o a b j else gd o j) = (fun j => if j < k then mB o a b j else gd o j) := by
    funext j
    by_cases e : j = k
    · subst e; rw [if_pos (by omega), if_neg (by omega), hx]
    · by_cases e2 : j < k
      · rw [if_pos e2, if_pos (by omega)]
      · rw [if_neg e2, if_neg (by omega)]
  refine ⟨?_, h1, h.bel.setCell (by exact hg2) _⟩
  rw [hfe]
  exact h.row.frm (Frm.one wr g2 k _) (fun e => hg e)
set_option maxHeartbeats 3200000 in
theorem rmerge_eq (o a b : ByteArray) (n : Nat) (ho : o.size = n) (ha : a.size = n) (hb : b.size = n) (hn : n ≤ 1500) (w : World) :
    Calls Try.prog 13 #[.string o, .string a, .string b] w fun e w' => (∃ v B, e = .returned (.tuple #[.string (mS o a b), v, .int .i64 0]) ∧ w.heap.size ≤ B ∧ SpRow w' B v (rs (pC o a b) n)) ∧ Below w.heap.size w w' := by
  obtain ⟨cap, w2, hcv, hcap, hrow, hb2, hz2⟩ := bytes_new o w
  rw [ho] at hcv hcap hrow
  have hmk := mk_full (P := Try.prog) 45 4 (.bool false) 1 Try.underlying45 (by kernel_rfl) rfl n (n : Nat) rfl (by omega) (by omega)
  obtain ⟨w3, hw3⟩ : ∃ w3, w2.alloc (.cells (madeCells #[.bool false] n) 4) = w3 := ⟨_, rfl⟩
  have hB3 : Below w2.heap.size w2 w3 := hw3 ▸ alb' w2 _
  have hM0 : MK w3 w2.heap.size n 0 (pC o a b) := by rw [← hw3]; exact ⟨fun j hj => by rw [decide_eq_false (by omega), Bool.false_and]; exact made_cell w2 4 _ _ j hj, fun j hj => made_free w2 4 _ _ j⟩
  have h0 : RML o a b w.heap.size w2.heap.size n w 0 w3 := ⟨by
    have : (fun j => if j < 0 then mB o a b j else gd o j) = gd o := by funext j; rw [if_neg (by omega)]
    rw [this]; exact hrow.frm (S := fun _ => False) (.ofBelow hB3) (fun h => h), hM0, bt hb2 hB3⟩
  rw [hz2] at h0
  have hgo := fun i (h : i < o.size) => gd_eq h
  have hga := fun i (h : i < a.size) => gd_eq h
  have hgb := fun i (h : i < b.size) => gd_eq h
  have hgo := Lib.hid hgo
  have hga := Lib.hid hga
  have hgb := Lib.hid hgb
  have hmke := hmk w2
  rw [hw3] at hmke
  clear hmk hrow hb2 hB3 hM0 hw3
  go_enter Try.func13, Try.ntmps13
  go_wp2_with fail
  go_loopw [11] (fun i wr => ∃ k : Nat, k ≤ n ∧ i = .int .i64 k ∧ Hid (RML o a b w.heap.size (w.heap.size + 1) n w k wr)) (fun i _ => n - (intOf i).toNat)
  case atStart => exact ⟨0, Nat.zero_le _, rfl, h0⟩
  case round =>
    obtain ⟨k, hk, rfl, hM⟩ := hrel
    clear h0 hcv hmke
    by_cases hlt : k < n
    · have hd : decide ((k : Int) < (n : Int)) = true := decide_eq_true (by omega)
      have io : (k : Int) < (o.size : Int) := by omega
      have ia : (k : Int) < (a.size : Int) := by omega
      have ib : (k : Int) < (b.size : Int) := by omega
      have go_ := hgo.out k (by omega)
      have ga := hga.out k (by omega)
      have gb := hgb.out k (by omega)
      have i1 : (0 : Int) ≤ (k : Int) := by omega
      have i2 : (k : Int) < (n : Int) := by omega
      have hMd := fun m => hM.out.drewN m
      have z1 := fun m => (hMd m).row.c k hlt
      have z2 := fun m => (hMd m).row.z k hlt
      have z3 := fun m => (hMd m).mar.c k hlt
      have z4 := fun m => (hMd m).mar.f k hlt
      have hne : w.heap.size ≠ w.heap.size + 1 := by omega
      have hMd := Lib.hid hMd
      by_cases h1 : gd a k = gd b k
      · have q1 : ((gd a k : Int) == (gd b k : Int)) = true := by rw [beq_n, decide_eq_true h1]
        have hnx := Lib.hid (fun m => (hMd.out m).out hlt hne (Nat.le_refl _) (by unfold pC; rw [decide_eq_true h1]; rfl) (gd a k) (by unfold mB pC pT; rw [decide_eq_true h1]; rfl))
        have n1 : decide (gd a k = gd b k) = true := decide_eq_true h1
        clear h1
        go_wp2_with fail
        go_quiet (fail)
        go_wp2
        exact ⟨⟨k + 1, by omega, by go_num, hnx.out _⟩, by simp [intOf]; omega⟩
      · have q1 : ((gd a k : Int) == (gd b k : Int)) = false := by rw [beq_n, decide_eq_false h1]
        have n1 : decide (gd a k = gd b k) = false := decide_eq_false h1
        by_cases h2 : gd b k = gd o k
        · have q2 : ((gd b k : Int) == (gd o k : Int)) = true := by rw [beq_n, decide_eq_true h2]
          have n2 : decide (gd b k = gd o k) = true := decide_eq_true h2
          have n3 : decide (gd a k = gd o k) = false := decide_eq_false (by omega)
          have hnx := Lib.hid (fun m => (hMd.out m).out hlt hne (Nat.le_refl _) (by unfold pC; rw [n2, Bool.not_true, Bool.and_false]) (gd a k) (by unfold mB pC pT; rw [n1, n2, n3]; rfl))
          clear h1 h2 n3
          go_wp2_with fail
          go_quiet (fail)
          go_wp2
          exact ⟨⟨k + 1, by omega, by go_num, hnx.out _⟩, by simp [intOf]; omega⟩
        · have q2 : ((gd b k : Int) == (gd o k : Int)) = false := by rw [beq_n, decide_eq_false h2]
          have n2 : decide (gd b k = gd o k) = false := decide_eq_false h2
          by_cases h3 : gd a k = gd o k
          · have q3 : ((gd a k : Int) == (gd o k : Int)) = true := by rw [beq_n, decide_eq_true h3]
            have n3 : decide (gd a k = gd o k) = true := decide_eq_true h3
            have hnx := Lib.hid (fun m => (hMd.out m).out hlt hne (Nat.le_refl _) (by unfold pC; rw [n3, Bool.not_true, Bool.and_false, Bool.false_and]) (gd b k) (by unfold mB pC pT; rw [n1, n2, n3]; rfl))
            clear h1 h2 h3
            go_wp2_with fail
            go_quiet (fail)
            go_wp2_with fail
            go_quiet (fail)
            go_wp2
            exact ⟨⟨k + 1, by omega, by go_num, hnx.out _⟩, by simp [intOf]; omega⟩
          · have q3 : ((gd a k : Int) == (gd o k : Int)) = false := by rw [beq_n, decide_eq_false h3]
            have n3 : decide (gd a k = gd o k) = false := decide_eq_false h3
            have hnx := Lib.hid (fun m => (hMd.out m).clash hlt hne (by omega) (by unfold pC; rw [n1, n2, n3]; rfl) (by unfold mB pC; rw [n1, n2, n3]; rfl))
            clear h1 h2 h3
            go_wp2_with fail
            go_quiet (fail)
            go_wp2_with fail
            go_quiet (fail)
            go_wp2
            exact ⟨⟨k + 1, by omega, by go_num, hnx.out _⟩, by simp [intOf]; omega⟩
    · have hd : decide ((k : Int) < (n : Int)) = false := decide_eq_false (by omega)
      have hkn : k = n := by omega
      subst hkn
      have hms : (⟨((List.range k).map fun j => UInt8.ofNat (mB o a b j)).toArray⟩ : ByteArray) = mS o a b := by unfold mS; rw [ho]
      have hrw : BRow wr w.heap.size k (mB o a b) := ⟨fun j hj => by rw [hM.out.row.c j hj, if_pos hj], hM.out.row.z⟩
      have hcv9 : ∀ w9, Below wr.heap.size wr w9 → (convert 50 9 (.slice (some ⟨w.heap.size, 0, none⟩) k cap)).run Try.prog w9 = .ok (.string (mS o a b)) w9 := fun w9 hb => by
        rw [← hms]
        exact conv_row w9 w.heap.size k cap (mB o a b) (hrw.frm (S := fun _ => False) (.ofBelow hb) (fun h => h)) (fun j _ => mB_lt o a b j)
      have hr := Lib.hid (rruns_any (some ⟨w.heap.size + 1, 0, none⟩) k k (pC o a b) wr.drew (by omega) (Nat.le_refl _) (fun i hi => ⟨w.heap.size + 1, 0, rfl, fun j hj => by rw [Nat.zero_add]; exact (hM.out.mar.c j hj).trans (by rw [decide_eq_true hj, Bool.true_and])⟩))
      have hbw := Lib.hid hM.out.bel
      have hcv9 := Lib.hid hcv9
      have M1 := hcv9.out wr.drew (Below.refl _ _).drew
      clear hrw hM
      go_wp2_with fail
      refine wp_region_held_drew (S := (fun w' : World => (convert 50 9 (.slice (some ⟨w.heap.size, 0, none⟩) k cap)).run Try.prog w' = .ok (.string (mS o a b)) w')) (by kernel_rfl) ?_ (fun hHeld => ?_)
      · first | exact M1 | exact M5
      first | (refine tw (i := 0) (v := ?_) ?_ hHeld ?_; rotate_left; focus (intro w hSw; (try dsimp only at hSw); go_simp; (try with_reducible rfl); done)) | refine tn (i := 0) hHeld ?_
      try simp only [Act.put, List.setIfInBounds_toArray, List.set_cons_zero, List.set_cons_succ]
      first | (refine tw (i := 1) (v := ?_) ?_ hHeld ?_; rotate_left; focus (intro w hSw; (try dsimp only at hSw); go_simp; (try with_reducible rfl); done)) | refine tn (i := 1) hHeld ?_
      try simp only [Act.put, List.setIfInBounds_toArray, List.set_cons_zero, List.set_cons_succ]
      first | (refine tw (i := 2) (v := ?_) ?_ hHeld ?_; rotate_left; focus (intro w hSw; (try dsimp only at hSw); go_simp; (try with_reducible rfl); done)) | refine tn (i := 2) hHeld ?_
      try simp only [Act.put, List.setIfInBounds_toArray, List.set_cons_zero, List.set_cons_succ]
      refine call_next (i := 3) (by kernel_rfl) (by rfl) ?_
      intro o ho K hK
      simp only [List.getElem?_toArray, List.getElem?_cons_succ, List.getElem?_cons_zero, Option.some.injEq] at ho
      subst ho
      first | (fail; refine hK.out _ _ ?_ (fun hHeld => ?_)) | (go_simp; first | (with_reducible refine hK.out _ _ ?_ (fun hHeld => ?_)) | ((go_at_call 23; (with_reducible refine hr.out.mono ?_); rintro e w5 ⟨⟨v, rfl, hv⟩, hb5⟩; have hb6 := bt ((Below.refl _ wr).drew) hb5; have M5 := hcv9.out w5 hb6); refine hK.out _ _ ?_ (fun hHeld => ?_)))
      · first | exact M1 | exact M5
      clear hK K
      try simp only [Act.put, List.setIfInBounds_toArray, List.set_cons_zero, List.set_cons_succ]
      first | (refine tw (i := 4) (v := ?_) ?_ hHeld ?_; rotate_left; focus (intro w hSw; (try dsimp only at hSw); go_simp; (try with_reducible rfl); done)) | refine tn (i := 4) hHeld ?_
      try simp only [Act.put, List.setIfInBounds_toArray, List.set_cons_zero, List.set_cons_succ]
      first | (refine tw (i := 5) (v := ?_) ?_ hHeld ?_; rotate_left; focus (intro w hSw; (try dsimp only at hSw); go_simp; (try with_reducible rfl); done)) | refine tn (i := 5) hHeld ?_
      try simp only [Act.put, List.setIfInBounds_toArray, List.set_cons_zero, List.set_cons_succ]
      first | (refine tw (i := 6) (v := ?_) ?_ hHeld ?_; rotate_left; focus (intro w hSw; (try dsimp only at hSw); go_simp; (try with_reducible rfl); done)) | refine tn (i := 6) hHeld ?_
      try simp only [Act.put, List.setIfInBounds_toArray, List.set_cons_zero, List.set_cons_succ]
      refine wpAnyH_done (by kernel_rfl) ?_ _
      go_wp2
      refine bodyPost_ret (v := .tuple #[.string (mS o a b), v, .int .i64 0]) (by simp [results, Try.f13, go_sem]) rfl ?_
      exact ⟨⟨v, wr.heap.size, rfl, hbw.out.size, hv⟩, bt hbw.out hb6⟩
theorem rmerge_any (o a b : ByteArray) (w : World) (ho : o.size ≤ 1500) :
    Calls Try.prog 13 #[.string o, .string a, .string b] w fun e w' => (∃ v B, e = .returned (.tuple #[.string (mrgS o a b), v, .int .i64 (szE o a b)]) ∧ w.heap.size ≤ B ∧ SpRow w' B v (mrgL o a b)) ∧ Below w.heap.size w w' := by
  by_cases h : a.size = o.size ∧ b.size = o.size
  · unfold mrgS mrgL szE
    rw [if_pos h, if_pos h, if_pos h]
    exact rmerge_eq o a b o.size rfl h.1 h.2 ho w
  · have hz : szE o a b = 12 := by unfold szE; rw [if_neg h]
    have h1 : mrgS o a b = ⟨#[]⟩ := by unfold mrgS; rw [if_neg h]
    have h2 : mrgL o a b = [] := by unfold mrgL; rw [if_neg h]
    rw [hz, h1, h2]
    have hE0 : ∀ W, Below w.heap.size w W → (fun (e : Ending) (w' : World) => (∃ v B, e = .returned (.tuple #[.string ⟨#[]⟩, v, .int .i64 12]) ∧ w.heap.size ≤ B ∧ SpRow w' B v []) ∧ Below w.heap.size w w') (.returned (.tuple #[.string ⟨#[]⟩, .slice none 0 0, .int .i64 12])) W := fun W hb =>
      ⟨⟨_, W.heap.size, rfl, hb.size, ⟨rfl, .inl ⟨rfl, rfl⟩⟩⟩, hb⟩
    generalize (fun (e : Ending) (w' : World) => (∃ v B, e = .returned (.tuple #[.string ⟨#[]⟩, v, .int .i64 12]) ∧ w.heap.size ≤ B ∧ SpRow w' B v []) ∧ Below w.heap.size w w') = Pst at *
    have hE := Lib.hid hE0
    clear hE0
    by_cases ha : a.size = o.size
    · have hb : ¬ b.size = o.size := fun e => h ⟨ha, e⟩
      have d1 : ((a.size : Int) != (o.size : Int)) = false := by rw [ha]; simp
      have d2 : ((b.size : Int) != (o.size : Int)) = true := bne_iff_ne.2 (by omega)
      go_enter Try.func13, Try.ntmps13
      go_wp2
      exact hE.out _ (Below.refl _ _)
    · have d1 : ((a.size : Int) != (o.size : Int)) = true := bne_iff_ne.2 (by omega)
      go_enter Try.func13, Try.ntmps13
      go_wp2
      exact hE.out _ (Below.refl _ _)
end Go.Proofs.Ytlmmmibnnbceeaa
