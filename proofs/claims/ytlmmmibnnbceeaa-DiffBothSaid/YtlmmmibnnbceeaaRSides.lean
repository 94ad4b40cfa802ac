/-
  Parts of two versions (chapter 41): the reference's Sides.
-/
import Derived.Test.YtlmmmibnnbceeaaRMerge
namespace Go.Proofs.Ytlmmmibnnbceeaa
open Go.RowKit
set_option linter.unusedVariables false
set_option linter.unusedSimpArgs false

theorem appP {ops : Array Oper} {rest : List Oper} {o : Oper} {a : Act} {Q : Exit → Act → World → Prop} (hgd : o.guard = none) (s x : Operand)
    (ho : o.op = .call { callee := .builtin .append, args := #[s, x], argTypes := #[33, 33] })
    (w w0 : World) (B : Nat) (v : Value) (l : List P3) (x1 x2 x3 : Nat) (hs : a.eval s = v) (hx : a.eval x = .slice (some ⟨w.heap.size, 0, none⟩) 1 1)
    (hrow : PtRow w B v l) (hlen : l.length ≤ 1000001) (hB : B ≤ w.heap.size) (hbel : Below B w0 w)
    (h : ∀ v' w', PtRow w' B v' (l ++ [(x1, x2, x3)]) → Below B w0 w' → wpList Try.prog ops Q rest (a.put o.dst v') w') :
    wpList Try.prog ops Q (o :: rest) a (w.alloc (.cells #[.int .i64 x1, .int .i64 x2, .int .i64 x3] 54)) := by
  obtain ⟨i, hi, hzz⟩ := Option.map_eq_some_iff.1 part_info
  simp only [Prod.mk.injEq] at hzz
  obtain ⟨hz, hsz, hby⟩ := hzz
  have hrow' : w.ownsRow B 54 3 v l.length (flatP l) := hrow
  refine wpList_append_own _ hgd s x 33 ho B 54 i (.agg #[.int .i64 0, .int .i64 0, .int .i64 0]) 3 24 Try.underlying33 hi hz hsz hby rfl (by decide) v l.length (flatP l) hs (hrow'.alloc _) ⟨w.heap.size, 0, none⟩ 1 1 [.int .i64 x1, .int .i64 x2, .int .i64 x3] hx rfl ?_ ?_ ?_ ?_ ?_ ?_
  · intro j u hj
    match j, hj with
    | 0, hj => simp at hj; subst hj; simp [go_sem, Addr.add]
    | 1, hj => simp at hj; subst hj; simp [go_sem, Addr.add]
    | 2, hj => simp at hj; subst hj; simp [go_sem, Addr.add]
    | j + 3, hj => simp at hj
  · intro u hu; simp at hu; rcases hu with rfl | rfl | rfl <;> rfl
  · unfold maxLen; omega
  · omega
  · simp; omega
  · intro v' w' h1 h2 _
    refine h v' w' ?_ ?_
    · have e1 : (l ++ [(x1, x2, x3)]).length = l.length + 1 := by simp
      unfold PtRow
      rw [e1, flatP_snoc]; exact h1
    · exact (hbel.alloc hB _).grown h2 (by simp; omega) (fun k hk => (World.ownsRow.lt hrow' k hk).1)
theorem PtRow.slice {W : World} {B : Nat} {v : Value} {l : List P3} (h : PtRow W B v l) (h0 : l ≠ []) : ∃ g c, v = .slice (some ⟨g, 0, none⟩) l.length c ∧ B ≤ g ∧ l.length ≤ c := by
  rcases h.2 with ⟨_, h2⟩ | ⟨g, cap, cur, hv, hg, _, hc, _⟩
  · exact absurd (List.length_eq_zero_iff.1 h2) h0
  · exact ⟨g, cap, hv, hg, hc⟩
theorem PtRow.any {W : World} {B : Nat} {v : Value} {l : List P3} (h : PtRow W B v l) : ∃ a c, v = .slice a l.length c := by
  rcases h.2 with ⟨hv, h2⟩ | ⟨g, cap, cur, hv, _⟩
  · exact ⟨none, 0, by rw [hv, h2]⟩
  · exact ⟨_, cap, hv⟩
theorem PtRow.below {W W' : World} {B : Nat} {v : Value} {l : List P3} (h : PtRow W B v l) (hb : Below W.heap.size W W') : PtRow W' B v l := by
  refine ⟨h.1, ?_⟩
  rcases h.2 with h2 | ⟨g, cap, cur, e, hg, hc, r⟩
  · exact .inl h2
  · exact .inr ⟨g, cap, cur, e, hg, (hb.block g (Array.getElem?_eq_some_iff.1 hc).1).trans hc, r⟩
theorem PtRow.cells {W : World} {B g c : Nat} {l : List P3} (h : PtRow W B (.slice (some ⟨g, 0, none⟩) l.length c) l) (k : Nat) (x : P3) (hk : l[k]? = some x) :
    W.cell? ⟨g, k * 3, none⟩ = some (.int .i64 x.1) ∧ W.cell? ⟨g, k * 3 + 1, none⟩ = some (.int .i64 x.2.1) ∧ W.cell? ⟨g, k * 3 + 2, none⟩ = some (.int .i64 x.2.2) := by
  have hkl := (List.getElem?_eq_some_iff.1 hk).1
  have key : ∀ (l : List P3) k x, l[k]? = some x → (flatP l)[k * 3]? = some (.int .i64 x.1) ∧ (flatP l)[k * 3 + 1]? = some (.int .i64 x.2.1) ∧ (flatP l)[k * 3 + 2]? = some (.int .i64 x.2.2) := by
    intro l
    induction l with
    | nil => intro k x h; simp at h
    | cons a l ih =>
      intro k x h
      have e : flatP (a :: l) = .int .i64 a.1 :: .int .i64 a.2.1 :: .int .i64 a.2.2 :: flatP l := rfl
      rw [e]
      match k, h with
      | 0, h => simp at h; subst h; exact ⟨rfl, rfl, rfl⟩
      | k + 1, h =>
        simp at h
        obtain ⟨h1, h2, h3⟩ := ih k x h
        rw [show (k + 1) * 3 = k * 3 + 1 + 1 + 1 by omega, show k * 3 + 1 + 1 + 1 + 1 = (k * 3 + 1) + 1 + 1 + 1 by omega, show k * 3 + 1 + 1 + 1 + 2 = (k * 3 + 2) + 1 + 1 + 1 by omega]
        exact ⟨by simpa using h1, by simpa using h2, by simpa using h3⟩
  obtain ⟨h1, h2, h3⟩ := key l k x hk
  have a1 := World.ownsRow.cellAt h (k * 3) (by omega)
  have a2 := World.ownsRow.cellAt h (k * 3 + 1) (by omega)
  have a3 := World.ownsRow.cellAt h (k * 3 + 2) (by omega)
  exact ⟨a1.trans h1, a2.trans h2, a3.trans h3⟩
theorem PtRow.last {W : World} {B g c : Nat} {X : List P3} {k i j s : Nat} (h : PtRow W B (.slice (some ⟨g, 0, none⟩) (X ++ [(k, i, s)]).length c) (X ++ [(k, i, s)])) :
    PtRow (W.setCell ⟨g, X.length * 3 + 1, none⟩ (.int .i64 j)) B (.slice (some ⟨g, 0, none⟩) (X ++ [(k, j, s)]).length c) (X ++ [(k, j, s)]) := by
  have e : (X ++ [(k, i, s)]).length = (X ++ [(k, j, s)]).length := by simp
  have h2 := World.ownsRow.stored h (X.length * 3 + 1) (.int .i64 j)
  have e2 : (flatP (X ++ [(k, i, s)])).set (X.length * 3 + 1) (.int .i64 j) = flatP (X ++ [(k, j, s)]) := by
    rw [flatP_snoc, flatP_snoc, List.set_append_right _ _ (by rw [flatP_len]; omega), flatP_len]
    rw [show X.length * 3 + 1 - X.length * 3 = 1 by omega]
    rfl
  rw [e2] at h2
  unfold PtRow
  rw [← e]
  exact h2.1
theorem pts_shape (p : Nat → Bool) (k : Nat) : pts p k = [] ∨ ∃ X k0 j s, pts p k = X ++ [(k0, j, s)] := by
  rcases List.eq_nil_or_concat (pts p k) with h | ⟨X, ⟨k0, j, s⟩, h⟩
  · exact .inl h
  · exact .inr ⟨X, k0, j, s, by simpa using h⟩
set_option maxHeartbeats 6400000 in
theorem rsides_eq (o a b : ByteArray) (n : Nat) (ho : o.size = n) (ha : a.size = n) (hb : b.size = n) (hn : n ≤ 1500) (h0 : 0 < n) (hcl : rs (pC o a b) n = []) (w : World) :
    Calls Try.prog 15 #[.string o, .string a, .string b] w fun e w' => (∃ v B, e = .returned (.tuple #[v, .int .i64 0]) ∧ w.heap.size ≤ B ∧ PtRow w' B v (pts (pT o a b) n)) ∧ Below w.heap.size w w' := by
  have hM := fun w => rmerge_any o a b w (by omega)
  have hz : szE o a b = 0 := by unfold szE; rw [if_pos ⟨by omega, by omega⟩]
  have hml : mrgL o a b = [] := by unfold mrgL; rw [if_pos ⟨by omega, by omega⟩, ho, hcl]
  rw [hz, hml] at hM
  have hM := Lib.hid hM
  have e1 : o.toList.isEmpty = false := by
    cases h : o.toList with
    | nil => rw [ba_eq h] at ho; have h1 : (0 : Nat) = n := ho; omega
    | cons x l => rfl
  have hgo := fun i (h : i < o.size) => gd_eq h
  have hga := fun i (h : i < a.size) => gd_eq h
  have hgb := fun i (h : i < b.size) => gd_eq h
  have hgo := Lib.hid hgo
  have hga := Lib.hid hga
  have hgb := Lib.hid hgb
  clear hz hml hcl
  go_enter Try.func15, Try.ntmps15
  go_wp2_with (go_at_call 13; (with_reducible refine (hM.out _).mono ?_); rintro e w2 ⟨⟨v2, B2, rfl, _, hv2⟩, hb2⟩; obtain ⟨av2, cv2, rfl⟩ := hv2.any)
  go_loopw [11, 12] (fun v i wr => ∃ (k : Nat) (y : Value), k ≤ n ∧ i = .int .i64 k ∧ y = v ∧ Hid (PtRow wr w.heap.size y (pts (pT o a b) k)) ∧ Hid (Below w.heap.size w wr)) (fun _ i _ => n - (intOf i).toNat)
  case atStart => exact ⟨0, _, Nat.zero_le _, rfl, rfl, ⟨rfl, .inl ⟨rfl, rfl⟩⟩, hb2⟩
  case round =>
    obtain ⟨k, y, hk, rfl, rfl, hS, hB⟩ := hrel
    clear hb2 hv2
    by_cases hlt : k < n
    · have hd : decide ((k : Int) < (n : Int)) = true := decide_eq_true (by omega)
      have io : (k : Int) < (o.size : Int) := by omega
      have ia : (k : Int) < (a.size : Int) := by omega
      have ib : (k : Int) < (b.size : Int) := by omega
      have go_ := hgo.out k (by omega)
      have ga := hga.out k (by omega)
      have gb := hgb.out k (by omega)
      have i1 : (0 : Int) ≤ (k : Int) := by omega
      have i2 : (k : Int) < (n : Int) := by omega
      by_cases h1 : gd a k = gd b k
      · have q1 : ((gd a k : Int) != (gd b k : Int)) = false := by rw [bne_n, decide_eq_true h1]; rfl
        have n1 : decide (gd a k = gd b k) = true := decide_eq_true h1
        have hpk : sdN (pT o a b k) = 0 := by unfold pT; rw [n1]; rfl
        clear h1
        rcases pts_shape (pT o a b) k with hE | ⟨X, k0, j, s, hX⟩
        · have hrs : Hid (pts (pT o a b) (k + 1) = [] ++ [(k, k + 1, 0)]) := by
            have := pts_new (p := pT o a b) (i := k) (.inl hE)
            rw [hE, hpk] at this; exact this
          have hS0 := hS.out
          rw [hE] at hS0
          obtain ⟨av, cv, rfl⟩ := hS0.any
          have hSd := Lib.hid (fun m => hS0.below (bdraws0 wr m))
          have hBd := Lib.hid (fun m => bdraws hB.out m)
          clear hE hS hS0 hpk
          go_wp2_with fail
          go_quiet (fail)
          go_wp2_with (at_builtin; refine appP rfl (.tmp 78) (.tmp 85) rfl _ w w.heap.size (.slice av 0 cv) [] k (k + 1) 0 rfl rfl (hSd.out _) (by simp) (hBd.out _).size (hBd.out _) ?_; intro v' w' hS2 hB2)
          exact ⟨⟨k + 1, v', by omega, by go_num, rfl, by rw [hrs.out]; exact hS2, hB2⟩, by simp [intOf]; omega⟩
        · have hS0 := hS.out
          have hlen := pts_len (pT o a b) k
          rw [hX] at hS0 hlen
          obtain ⟨G, cG, rfl, hGB, hGc⟩ := hS0.slice (by simp)
          have hl1 : (X ++ [(k0, j, s)]).length = X.length + 1 := by simp
          obtain ⟨_, _, hcs⟩ := hS0.cells X.length (k0, j, s) (by simp)
          have hct := (hS0.cells X.length (k0, j, s) (by simp)).2.1
          have hff := World.ownsRow.frozenAt hS0 (X.length * 3 + 1)
          have e1 : IntKind.i64.wrap (((X.length + 1 : Nat) : Int) - 1) = (X.length : Int) := by rw [hl1] at hlen; rw [IntWalk.i64_in _ (by omega)]; omega
          have e1' : IntKind.i64.wrap ((X.length : Int) + 1 - 1) = (X.length : Int) := by rw [hl1] at hlen; rw [IntWalk.i64_in _ (by omega)]; omega
          have e3 : IntKind.i64.wrap ((k : Int) + 1) = (k : Int) + 1 := IntWalk.i64_in _ (by omega)
          have j1 : (0 : Int) ≤ (X.length : Int) := by omega
          have j2 : (X.length : Int) < ((X.length + 1 : Nat) : Int) := by omega
          have j2' : (X.length : Int) < (X.length : Int) + 1 := by omega
          have j3 : decide ((0 : Int) < ((X.length + 1 : Nat) : Int)) = true := decide_eq_true (by omega)
          have j3' : decide ((0 : Int) < (X.length : Int) + 1) = true := decide_eq_true (by omega)
          by_cases hs : s = 0
          · subst hs
            have hrs : Hid (pts (pT o a b) (k + 1) = X ++ [(k0, k + 1, 0)]) := by
              rw [← hpk] at hX
              have := pts_ext hX
              rw [hpk] at this; exact this
            have hlast := fun m => (hS0.below (bdraws0 wr m)).last (j := k + 1)
            have hBs := fun m => (bdraws hB.out m).setCell (p := ⟨G, X.length * 3 + 1, none⟩) hGB (.int .i64 ((k + 1 : Nat) : Int))
            have hl2 : (X ++ [(k0, k + 1, 0)]).length = X.length + 1 := by simp
            rw [hl1] at hGc hlen
            simp only [hl2] at hlast
            rw [hl1] at hS0 ⊢
            simp only [show ((k + 1 : Nat) : Int) = (k : Int) + 1 by omega] at hlast hBs
            have hlast := Lib.hid hlast
            have hBs := Lib.hid hBs
            clear hpk hX hS hS0
            go_wp2_with fail
            go_quiet (fail)
            go_wp2
            exact ⟨⟨k + 1, _, by omega, by go_num, rfl, by rw [hrs.out]; exact hlast.out _, hBs.out _⟩, by simp [intOf]; omega⟩
          · have hrs : Hid (pts (pT o a b) (k + 1) = X ++ [(k0, j, s)] ++ [(k, k + 1, 0)]) := by
              have := pts_new (p := pT o a b) (i := k) (.inr ⟨X, k0, j, s, hX, by rw [hpk]; exact hs⟩)
              rw [hX, hpk] at this; exact this
            have hsb : ((s : Int) == ((0 : Nat) : Int)) = false := beq_eq_false_iff_ne.2 (by omega)
            have hsb' : ¬ (s : Int) = ((0 : Nat) : Int) := by omega
            have hlen2 : (X ++ [(k0, j, s)]).length ≤ 1000001 := by omega
            have hSd := fun m => hS0.below (bdraws0 wr m)
            simp only [hl1] at hSd
            have hSd := Lib.hid hSd
            have hBd := Lib.hid (fun m => bdraws hB.out m)
            rw [hl1] at hGc hlen ⊢
            clear hpk hX hS hS0
            go_wp2_with fail
            go_quiet (fail)
            go_wp2_with (at_builtin; refine appP rfl (.tmp 78) (.tmp 85) rfl _ w w.heap.size (.slice (some ⟨G, 0, none⟩) (X.length + 1) cG) (X ++ [(k0, j, s)]) k (k + 1) 0 rfl rfl (hSd.out _) hlen2 (hBd.out _).size (hBd.out _) ?_; intro v' w' hS2 hB2)
            exact ⟨⟨k + 1, v', by omega, by go_num, rfl, by rw [hrs.out]; exact hS2, hB2⟩, by simp [intOf]; omega⟩
      · have q1 : ((gd a k : Int) != (gd b k : Int)) = true := by rw [bne_n, decide_eq_false h1]; rfl
        have n1 : decide (gd a k = gd b k) = false := decide_eq_false h1
        by_cases h2 : gd a k = gd o k
        · have q2 : ((gd a k : Int) == (gd o k : Int)) = true := by rw [beq_n, decide_eq_true h2]
          have n2 : decide (gd a k = gd o k) = true := decide_eq_true h2
          have hpk : sdN (pT o a b k) = 1 := by unfold pT; rw [n1, n2]; rfl
          clear h1 h2
          rcases pts_shape (pT o a b) k with hE | ⟨X, k0, j, s, hX⟩
          · have hrs : Hid (pts (pT o a b) (k + 1) = [] ++ [(k, k + 1, 1)]) := by
              have := pts_new (p := pT o a b) (i := k) (.inl hE)
              rw [hE, hpk] at this; exact this
            have hS0 := hS.out
            rw [hE] at hS0
            obtain ⟨av, cv, rfl⟩ := hS0.any
            have hSd := Lib.hid (fun m => hS0.below (bdraws0 wr m))
            have hBd := Lib.hid (fun m => bdraws hB.out m)
            clear hE hS hS0 hpk
            go_wp2_with fail
            go_quiet (fail)
            go_wp2_with (at_builtin; refine appP rfl (.tmp 78) (.tmp 85) rfl _ w w.heap.size (.slice av 0 cv) [] k (k + 1) 1 rfl rfl (hSd.out _) (by simp) (hBd.out _).size (hBd.out _) ?_; intro v' w' hS2 hB2)
            exact ⟨⟨k + 1, v', by omega, by go_num, rfl, by rw [hrs.out]; exact hS2, hB2⟩, by simp [intOf]; omega⟩
          · have hS0 := hS.out
            have hlen := pts_len (pT o a b) k
            rw [hX] at hS0 hlen
            obtain ⟨G, cG, rfl, hGB, hGc⟩ := hS0.slice (by simp)
            have hl1 : (X ++ [(k0, j, s)]).length = X.length + 1 := by simp
            obtain ⟨_, _, hcs⟩ := hS0.cells X.length (k0, j, s) (by simp)
            have hct := (hS0.cells X.length (k0, j, s) (by simp)).2.1
            have hff := World.ownsRow.frozenAt hS0 (X.length * 3 + 1)
            have e1 : IntKind.i64.wrap (((X.length + 1 : Nat) : Int) - 1) = (X.length : Int) := by rw [hl1] at hlen; rw [IntWalk.i64_in _ (by omega)]; omega
            have e1' : IntKind.i64.wrap ((X.length : Int) + 1 - 1) = (X.length : Int) := by rw [hl1] at hlen; rw [IntWalk.i64_in _ (by omega)]; omega
            have e3 : IntKind.i64.wrap ((k : Int) + 1) = (k : Int) + 1 := IntWalk.i64_in _ (by omega)
            have j1 : (0 : Int) ≤ (X.length : Int) := by omega
            have j2 : (X.length : Int) < ((X.length + 1 : Nat) : Int) := by omega
            have j2' : (X.length : Int) < (X.length : Int) + 1 := by omega
            have j3 : decide ((0 : Int) < ((X.length + 1 : Nat) : Int)) = true := decide_eq_true (by omega)
            have j3' : decide ((0 : Int) < (X.length : Int) + 1) = true := decide_eq_true (by omega)
            by_cases hs : s = 1
            · subst hs
              have hrs : Hid (pts (pT o a b) (k + 1) = X ++ [(k0, k + 1, 1)]) := by
                rw [← hpk] at hX
                have := pts_ext hX
                rw [hpk] at this; exact this
              have hlast := fun m => (hS0.below (bdraws0 wr m)).last (j := k + 1)
              have hBs := fun m => (bdraws hB.out m).setCell (p := ⟨G, X.length * 3 + 1, none⟩) hGB (.int .i64 ((k + 1 : Nat) : Int))
              have hl2 : (X ++ [(k0, k + 1, 1)]).length = X.length + 1 := by simp
              rw [hl1] at hGc hlen
              simp only [hl2] at hlast
              rw [hl1] at hS0 ⊢
              simp only [show ((k + 1 : Nat) : Int) = (k : Int) + 1 by omega] at hlast hBs
              have hlast := Lib.hid hlast
              have hBs := Lib.hid hBs
              clear hpk hX hS hS0
              go_wp2_with fail
              go_quiet (fail)
              go_wp2
              exact ⟨⟨k + 1, _, by omega, by go_num, rfl, by rw [hrs.out]; exact hlast.out _, hBs.out _⟩, by simp [intOf]; omega⟩
            · have hrs : Hid (pts (pT o a b) (k + 1) = X ++ [(k0, j, s)] ++ [(k, k + 1, 1)]) := by
                have := pts_new (p := pT o a b) (i := k) (.inr ⟨X, k0, j, s, hX, by rw [hpk]; exact hs⟩)
                rw [hX, hpk] at this; exact this
              have hsb : ((s : Int) == ((1 : Nat) : Int)) = false := beq_eq_false_iff_ne.2 (by omega)
              have hsb' : ¬ (s : Int) = ((1 : Nat) : Int) := by omega
              have hlen2 : (X ++ [(k0, j, s)]).length ≤ 1000001 := by omega
              have hSd := fun m => hS0.below (bdraws0 wr m)
              simp only [hl1] at hSd
              have hSd := Lib.hid hSd
              have hBd := Lib.hid (fun m => bdraws hB.out m)
              rw [hl1] at hGc hlen ⊢
              clear hpk hX hS hS0
              go_wp2_with fail
              go_quiet (fail)
              go_wp2_with (at_builtin; refine appP rfl (.tmp 78) (.tmp 85) rfl _ w w.heap.size (.slice (some ⟨G, 0, none⟩) (X.length + 1) cG) (X ++ [(k0, j, s)]) k (k + 1) 1 rfl rfl (hSd.out _) hlen2 (hBd.out _).size (hBd.out _) ?_; intro v' w' hS2 hB2)
              exact ⟨⟨k + 1, v', by omega, by go_num, rfl, by rw [hrs.out]; exact hS2, hB2⟩, by simp [intOf]; omega⟩
        · have q2 : ((gd a k : Int) == (gd o k : Int)) = false := by rw [beq_n, decide_eq_false h2]
          have n2 : decide (gd a k = gd o k) = false := decide_eq_false h2
          have hpk : sdN (pT o a b k) = 0 := by unfold pT; rw [n1, n2]; rfl
          clear h1 h2
          rcases pts_shape (pT o a b) k with hE | ⟨X, k0, j, s, hX⟩
          · have hrs : Hid (pts (pT o a b) (k + 1) = [] ++ [(k, k + 1, 0)]) := by
              have := pts_new (p := pT o a b) (i := k) (.inl hE)
              rw [hE, hpk] at this; exact this
            have hS0 := hS.out
            rw [hE] at hS0
            obtain ⟨av, cv, rfl⟩ := hS0.any
            have hSd := Lib.hid (fun m => hS0.below (bdraws0 wr m))
            have hBd := Lib.hid (fun m => bdraws hB.out m)
            clear hE hS hS0 hpk
            go_wp2_with fail
            go_quiet (fail)
            go_wp2_with (at_builtin; refine appP rfl (.tmp 78) (.tmp 85) rfl _ w w.heap.size (.slice av 0 cv) [] k (k + 1) 0 rfl rfl (hSd.out _) (by simp) (hBd.out _).size (hBd.out _) ?_; intro v' w' hS2 hB2)
            exact ⟨⟨k + 1, v', by omega, by go_num, rfl, by rw [hrs.out]; exact hS2, hB2⟩, by simp [intOf]; omega⟩
          · have hS0 := hS.out
            have hlen := pts_len (pT o a b) k
            rw [hX] at hS0 hlen
            obtain ⟨G, cG, rfl, hGB, hGc⟩ := hS0.slice (by simp)
            have hl1 : (X ++ [(k0, j, s)]).length = X.length + 1 := by simp
            obtain ⟨_, _, hcs⟩ := hS0.cells X.length (k0, j, s) (by simp)
            have hct := (hS0.cells X.length (k0, j, s) (by simp)).2.1
            have hff := World.ownsRow.frozenAt hS0 (X.length * 3 + 1)
            have e1 : IntKind.i64.wrap (((X.length + 1 : Nat) : Int) - 1) = (X.length : Int) := by rw [hl1] at hlen; rw [IntWalk.i64_in _ (by omega)]; omega
            have e1' : IntKind.i64.wrap ((X.length : Int) + 1 - 1) = (X.length : Int) := by rw [hl1] at hlen; rw [IntWalk.i64_in _ (by omega)]; omega
            have e3 : IntKind.i64.wrap ((k : Int) + 1) = (k : Int) + 1 := IntWalk.i64_in _ (by omega)
            have j1 : (0 : Int) ≤ (X.length : Int) := by omega
            have j2 : (X.length : Int) < ((X.length + 1 : Nat) : Int) := by omega
            have j2' : (X.length : Int) < (X.length : Int) + 1 := by omega
            have j3 : decide ((0 : Int) < ((X.length + 1 : Nat) : Int)) = true := decide_eq_true (by omega)
            have j3' : decide ((0 : Int) < (X.length : Int) + 1) = true := decide_eq_true (by omega)
            by_cases hs : s = 0
            · subst hs
              have hrs : Hid (pts (pT o a b) (k + 1) = X ++ [(k0, k + 1, 0)]) := by
                rw [← hpk] at hX
                have := pts_ext hX
                rw [hpk] at this; exact this
              have hlast := fun m => (hS0.below (bdraws0 wr m)).last (j := k + 1)
              have hBs := fun m => (bdraws hB.out m).setCell (p := ⟨G, X.length * 3 + 1, none⟩) hGB (.int .i64 ((k + 1 : Nat) : Int))
              have hl2 : (X ++ [(k0, k + 1, 0)]).length = X.length + 1 := by simp
              rw [hl1] at hGc hlen
              simp only [hl2] at hlast
              rw [hl1] at hS0 ⊢
              simp only [show ((k + 1 : Nat) : Int) = (k : Int) + 1 by omega] at hlast hBs
              have hlast := Lib.hid hlast
              have hBs := Lib.hid hBs
              clear hpk hX hS hS0
              go_wp2_with fail
              go_quiet (fail)
              go_wp2
              exact ⟨⟨k + 1, _, by omega, by go_num, rfl, by rw [hrs.out]; exact hlast.out _, hBs.out _⟩, by simp [intOf]; omega⟩
            · have hrs : Hid (pts (pT o a b) (k + 1) = X ++ [(k0, j, s)] ++ [(k, k + 1, 0)]) := by
                have := pts_new (p := pT o a b) (i := k) (.inr ⟨X, k0, j, s, hX, by rw [hpk]; exact hs⟩)
                rw [hX, hpk] at this; exact this
              have hsb : ((s : Int) == ((0 : Nat) : Int)) = false := beq_eq_false_iff_ne.2 (by omega)
              have hsb' : ¬ (s : Int) = ((0 : Nat) : Int) := by omega
              have hlen2 : (X ++ [(k0, j, s)]).length ≤ 1000001 := by omega
              have hSd := fun m => hS0.below (bdraws0 wr m)
              simp only [hl1] at hSd
              have hSd := Lib.hid hSd
              have hBd := Lib.hid (fun m => bdraws hB.out m)
              rw [hl1] at hGc hlen ⊢
              clear hpk hX hS hS0
              go_wp2_with fail
              go_quiet (fail)
              go_wp2_with (at_builtin; refine appP rfl (.tmp 78) (.tmp 85) rfl _ w w.heap.size (.slice (some ⟨G, 0, none⟩) (X.length + 1) cG) (X ++ [(k0, j, s)]) k (k + 1) 0 rfl rfl (hSd.out _) hlen2 (hBd.out _).size (hBd.out _) ?_; intro v' w' hS2 hB2)
              exact ⟨⟨k + 1, v', by omega, by go_num, rfl, by rw [hrs.out]; exact hS2, hB2⟩, by simp [intOf]; omega⟩
    · have hkn : k = n := by omega
      have hd : decide ((k : Int) < (n : Int)) = false := decide_eq_false (by omega)
      go_wp2
      refine bodyPost_ret (v := .tuple #[y, .int .i64 0]) (by simp [results, Try.f15, go_sem]) rfl ?_
      exact ⟨⟨y, w.heap.size, rfl, Nat.le_refl _, hkn ▸ hS.out⟩, hB.out⟩
end Go.Proofs.Ytlmmmibnnbceeaa
