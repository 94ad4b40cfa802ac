/-
  Where two texts differ (chapter 41), the reference.
-/
import Derived.Test.YtlmmmibnnbceeaaDSpans
import Derived.Test.YtlmmmibnnbceeaaMake
import Derived.Laws.AppendOwn
namespace Go.Proofs.Ytlmmmibnnbceeaa
open Go.RowKit
set_option linter.unusedVariables false
set_option linter.unusedSimpArgs false

theorem appS {ops : Array Oper} {rest : List Oper} {o : Oper} {a : Act} {Q : Exit → Act → World → Prop} (hgd : o.guard = none) (s x : Operand)
    (ho : o.op = .call { callee := .builtin .append, args := #[s, x], argTypes := #[24, 24] })
    (w w0 : World) (B : Nat) (v : Value) (l : List (Nat × Nat)) (x1 x2 : Nat) (hs : a.eval s = v) (hx : a.eval x = .slice (some ⟨w.heap.size, 0, none⟩) 1 1)
    (hrow : SpRow w B v l) (hlen : l.length ≤ 1000001) (hB : B ≤ w.heap.size) (hbel : Below B w0 w)
    (h : ∀ v' w', SpRow w' B v' (l ++ [(x1, x2)]) → Below B w0 w' → wpList Try.prog ops Q rest (a.put o.dst v') w') :
    wpList Try.prog ops Q (o :: rest) a (w.alloc (.cells #[.int .i64 x1, .int .i64 x2] 27)) := by
  obtain ⟨i, hi, hzz⟩ := Option.map_eq_some_iff.1 span_info
  simp only [Prod.mk.injEq] at hzz
  obtain ⟨hz, hsz, hby⟩ := hzz
  have hrow' : w.ownsRow B 27 2 v l.length (flatS l) := hrow
  refine wpList_append_own _ hgd s x 24 ho B 27 i (.agg #[.int .i64 0, .int .i64 0]) 2 16 Try.underlying24 hi hz hsz hby rfl (by decide) v l.length (flatS l) hs (hrow'.alloc _) ⟨w.heap.size, 0, none⟩ 1 1 [.int .i64 x1, .int .i64 x2] hx rfl ?_ ?_ ?_ ?_ ?_ ?_
  · intro j u hj
    match j, hj with
    | 0, hj => simp at hj; subst hj; simp [go_sem, Addr.add]
    | 1, hj => simp at hj; subst hj; simp [go_sem, Addr.add]
    | j + 2, hj => simp at hj
  · intro u hu; simp at hu; rcases hu with rfl | rfl <;> rfl
  · unfold maxLen; omega
  · omega
  · simp; omega
  · intro v' w' h1 h2 _
    refine h v' w' ?_ ?_
    · have e1 : (l ++ [(x1, x2)]).length = l.length + 1 := by simp
      unfold SpRow
      rw [e1, flatS_snoc]; exact h1
    · exact (hbel.alloc hB _).grown h2 (by simp; omega) (fun k hk => (World.ownsRow.lt hrow' k hk).1)
theorem SpRow.slice {W : World} {B : Nat} {v : Value} {l : List (Nat × Nat)} (h : SpRow W B v l) (h0 : l ≠ []) : ∃ g c, v = .slice (some ⟨g, 0, none⟩) l.length c ∧ B ≤ g ∧ l.length ≤ c := by
  rcases h.2 with ⟨_, h2⟩ | ⟨g, cap, cur, hv, hg, _, hc, _⟩
  · exact absurd (List.length_eq_zero_iff.1 h2) h0
  · exact ⟨g, cap, hv, hg, hc⟩
theorem SpRow.any {W : World} {B : Nat} {v : Value} {l : List (Nat × Nat)} (h : SpRow W B v l) : ∃ a c, v = .slice a l.length c := by
  rcases h.2 with ⟨hv, h2⟩ | ⟨g, cap, cur, hv, _⟩
  · exact ⟨none, 0, by rw [hv, h2]⟩
  · exact ⟨_, cap, hv⟩
theorem SpRow.below {W W' : World} {B : Nat} {v : Value} {l : List (Nat × Nat)} (h : SpRow W B v l) (hb : Below W.heap.size W W') : SpRow W' B v l := by
  refine ⟨h.1, ?_⟩
  rcases h.2 with h2 | ⟨g, cap, cur, e, hg, hc, r⟩
  · exact .inl h2
  · exact .inr ⟨g, cap, cur, e, hg, (hb.block g (Array.getElem?_eq_some_iff.1 hc).1).trans hc, r⟩
theorem SpRow.cells {W : World} {B g c : Nat} {l : List (Nat × Nat)} (h : SpRow W B (.slice (some ⟨g, 0, none⟩) l.length c) l) (k : Nat) (x : Nat × Nat) (hk : l[k]? = some x) : W.cell? ⟨g, k * 2, none⟩ = some (.int .i64 x.1) ∧ W.cell? ⟨g, k * 2 + 1, none⟩ = some (.int .i64 x.2) := by
  have hkl := (List.getElem?_eq_some_iff.1 hk).1
  have key : ∀ (l : List (Nat × Nat)) k x, l[k]? = some x → (flatS l)[k * 2]? = some (.int .i64 x.1) ∧ (flatS l)[k * 2 + 1]? = some (.int .i64 x.2) := by
    intro l
    induction l with
    | nil => intro k x h; simp at h
    | cons a l ih =>
      intro k x h
      have e : flatS (a :: l) = .int .i64 a.1 :: .int .i64 a.2 :: flatS l := rfl
      rw [e]
      match k, h with
      | 0, h => simp at h; subst h; exact ⟨rfl, rfl⟩
      | k + 1, h =>
        simp at h
        obtain ⟨h1, h2⟩ := ih k x h
        rw [show (k + 1) * 2 = k * 2 + 1 + 1 by omega, show k * 2 + 1 + 1 + 1 = (k * 2 + 1) + 1 + 1 by omega]
        exact ⟨by simpa using h1, by simpa using h2⟩
  obtain ⟨h1, h2⟩ := key l k x hk
  have a1 := World.ownsRow.cellAt h (k * 2) (by omega)
  have a2 := World.ownsRow.cellAt h (k * 2 + 1) (by omega)
  exact ⟨a1.trans h1, a2.trans h2⟩
theorem SpRow.last {W : World} {B g c : Nat} {X : List (Nat × Nat)} {k i j : Nat} (h : SpRow W B (.slice (some ⟨g, 0, none⟩) (X ++ [(k, i)]).length c) (X ++ [(k, i)])) :
    SpRow (W.setCell ⟨g, X.length * 2 + 1, none⟩ (.int .i64 j)) B (.slice (some ⟨g, 0, none⟩) (X ++ [(k, j)]).length c) (X ++ [(k, j)]) := by
  have e : (X ++ [(k, i)]).length = (X ++ [(k, j)]).length := by simp
  have h2 := World.ownsRow.stored h (X.length * 2 + 1) (.int .i64 j)
  have e2 : (flatS (X ++ [(k, i)])).set (X.length * 2 + 1) (.int .i64 j) = flatS (X ++ [(k, j)]) := by
    rw [flatS_snoc, flatS_snoc, List.set_append_right _ _ (by rw [flatS_len]; omega), flatS_len]
    rw [show X.length * 2 + 1 - X.length * 2 = 1 by omega]
    rfl
  rw [e2] at h2
  unfold SpRow
  rw [← e]
  exact h2.1
set_option maxHeartbeats 3200000 in
theorem rruns_any (a0 : Option Addr) (n c : Nat) (p : Nat → Bool) (w : World) (hn : n ≤ 1000000) (hc : n ≤ c) (hcell : ∀ i, i < n → ∃ g o, a0 = some ⟨g, o, none⟩ ∧ ∀ j, j < n → w.cell? ⟨g, o + j, none⟩ = some (.bool (p j))) :
    Calls Try.prog 23 #[.slice a0 n c] w fun e w' => (∃ v, e = .returned v ∧ SpRow w' w.heap.size v (rs p n)) ∧ Below w.heap.size w w' := by
  have hcell := Lib.hid hcell
  go_enter Try.func23, Try.ntmps23
  go_wp2
  go_loopw [3, 4] (fun v i wr => ∃ (k : Nat) (y : Value), k ≤ n ∧ i = .int .i64 k ∧ y = v ∧ Hid (SpRow wr w.heap.size y (rs p k)) ∧ Hid (Below w.heap.size w wr)) (fun _ i _ => n - (intOf i).toNat)
  case atStart => exact ⟨0, _, Nat.zero_le _, rfl, rfl, ⟨rfl, .inl ⟨rfl, rfl⟩⟩, Below.refl _ _⟩
  case round =>
    obtain ⟨k, v, hk, rfl, rfl, hS, hB⟩ := hrel
    by_cases hlt : k < n
    · obtain ⟨g, o, rfl, hg⟩ := hcell.out k hlt
      have z1 := bkeep hB.out (hg k hlt)
      have hlen := rs_len p k
      have hd : decide ((k : Int) < (n : Int)) = true := decide_eq_true (by omega)
      cases hp : p k with
      | false =>
        rw [hp] at z1
        have hrs : Hid (rs p (k + 1) = rs p k) := rs_no hp
        clear hg hp
        go_wp2
        exact ⟨⟨k + 1, v, by omega, by go_num, rfl, by rw [hrs.out]; exact hS.out, hB.out⟩, by simp [intOf]; omega⟩
      | true =>
        rw [hp] at z1
        by_cases h0 : 0 < k
        · have z2 := bkeep hB.out (hg (k - 1) (by omega))
          cases hq : p (k - 1) with
          | true =>
            rw [hq] at z2
            obtain ⟨X, k0, hX⟩ := rs_last p k h0 hq
            have hrs : Hid (rs p (k + 1) = X ++ [(k0, k + 1)]) := by
              show (if p k = true then (if 0 < k ∧ p (k - 1) = true then (rs p k).dropLast ++ [(((rs p k).getLast?.getD (0, 0)).1, k + 1)] else _) else _) = _
              rw [if_pos hp, if_pos ⟨h0, hq⟩, hX]; simp
            have hSx := hS.out
            rw [hX] at hSx hlen
            obtain ⟨G, cG, rfl, hGB, hGc⟩ := hSx.slice (by simp)
            have hl1 : (X ++ [(k0, k)]).length = X.length + 1 := by simp
            have hlast := hSx.last (j := k + 1)
            have hcc := (hSx.cells X.length (k0, k) (by simp)).2
            have hff := World.ownsRow.frozenAt hSx (X.length * 2 + 1)
            have hBs := hB.out.setCell (p := ⟨G, X.length * 2 + 1, none⟩) hGB (.int .i64 ((k + 1 : Nat) : Int))
            have hl2 : (X ++ [(k0, k + 1)]).length = X.length + 1 := by simp
            rw [hl1] at hGc hlen
            rw [hl2] at hlast
            rw [hl1] at hSx ⊢
            rw [show ((k + 1 : Nat) : Int) = (k : Int) + 1 by omega] at hlast hBs
            have hlast := Lib.hid hlast
            have hBs := Lib.hid hBs
            have e1 : IntKind.i64.wrap (((X.length + 1 : Nat) : Int) - 1) = (X.length : Int) := by rw [IntWalk.i64_in _ (by omega)]; omega
            have e2 : IntKind.i64.wrap ((k : Int) - 1) = ((k - 1 : Nat) : Int) := by rw [IntWalk.i64_in _ (by omega)]; omega
            have e3 : IntKind.i64.wrap ((k : Int) + 1) = (k : Int) + 1 := IntWalk.i64_in _ (by omega)
            have h0' : decide ((0 : Int) < (k : Int)) = true := decide_eq_true (by omega)
            clear hg hp hq hX hS hSx
            go_wp2
            exact ⟨⟨k + 1, _, by omega, by go_num, rfl, by rw [hrs.out]; exact hlast.out, hBs.out⟩, by simp [intOf]; omega⟩
          | false =>
            rw [hq] at z2
            have hrs : Hid (rs p (k + 1) = rs p k ++ [(k, k + 1)]) := by
              show (if p k = true then (if 0 < k ∧ p (k - 1) = true then _ else _) else _) = _
              rw [if_pos hp, if_neg (by rw [hq]; rintro ⟨_, h⟩; cases h)]
            have e2 : IntKind.i64.wrap ((k : Int) - 1) = ((k - 1 : Nat) : Int) := by rw [IntWalk.i64_in _ (by omega)]; omega
            have h0' : decide ((0 : Int) < (k : Int)) = true := decide_eq_true (by omega)
            have hlen2 : (rs p k).length ≤ 1000001 := by omega
            clear hg hp hq
            go_wp2_with (at_builtin; refine appS rfl (.tmp 11) (.tmp 16) rfl _ w w.heap.size v _ k (k + 1) rfl rfl hS.out hlen2 hB.out.size hB.out ?_; intro v' w' hS2 hB2)
            exact ⟨⟨k + 1, v', by omega, by go_num, rfl, by rw [hrs.out]; exact hS2, hB2⟩, by simp [intOf]; omega⟩
        · have hrs : Hid (rs p (k + 1) = rs p k ++ [(k, k + 1)]) := by
            show (if p k = true then (if 0 < k ∧ p (k - 1) = true then _ else _) else _) = _
            rw [if_pos hp, if_neg (by rintro ⟨h, _⟩; exact h0 h)]
          have h0' : decide ((0 : Int) < (k : Int)) = false := decide_eq_false (by omega)
          have hlen2 : (rs p k).length ≤ 1000001 := by omega
          clear hg hp
          go_wp2_with (at_builtin; refine appS rfl (.tmp 11) (.tmp 16) rfl _ w w.heap.size v _ k (k + 1) rfl rfl hS.out hlen2 hB.out.size hB.out ?_; intro v' w' hS2 hB2)
          exact ⟨⟨k + 1, v', by omega, by go_num, rfl, by rw [hrs.out]; exact hS2, hB2⟩, by simp [intOf]; omega⟩
    · have hkn : k = n := by omega
      have hd : decide ((k : Int) < (n : Int)) = false := decide_eq_false (by omega)
      go_wp2
      go_ret
      exact ⟨⟨v, rfl, hkn ▸ hS.out⟩, hB.out⟩
end Go.Proofs.Ytlmmmibnnbceeaa
