/-
  Plain laws of chapter 23: two nodes that change one state, each on its own side.
-/
import Derived.Test.YtingeahkndingaaStateJoin
namespace Go.Proofs.Ytingeahkndingaa
open Go.RowKit
set_option linter.unusedVariables false
/-- how a state is changed -/
structure Opr where
  nd : Int
  bt : Int
  ch : Int
  tx : ByteArray
def oprE (x : Opr) : List Value := [.int .i64 x.nd, .int .i64 x.bt, .int .i64 x.ch, .string x.tx]
def oprOk (x : Opr) : Prop := (Lit.int .i64 x.nd).wf = true ∧ (Lit.int .i64 x.bt).wf = true ∧ (Lit.int .i64 x.ch).wf = true ∧ x.tx.size ≤ maxLen
theorem opr_of (vs : List Value) (h : OKs [LK.int .i64, LK.int .i64, LK.int .i64, LK.str] vs) : ∃ x, vs = oprE x ∧ oprOk x := by
  obtain ⟨_, _, rfl, ⟨a, rfl, wa⟩, h1⟩ := h.cons
  obtain ⟨_, _, rfl, ⟨b, rfl, wb⟩, h2⟩ := h1.cons
  obtain ⟨_, _, rfl, ⟨c, rfl, wc⟩, h3⟩ := h2.cons
  obtain ⟨_, _, rfl, ⟨d, rfl, wd⟩, h4⟩ := h3.cons
  obtain rfl := h4.nil
  exact ⟨⟨a, b, c, d⟩, rfl, wa, wb, wc, wd⟩
instance : Inhabited Opr := ⟨⟨0, 0, 0, ⟨#[]⟩⟩⟩
/-- what one change says: what is wrong, and the state behind it -/
def stE (s : St) (node : Int) (o : Opr) : Int := if o.ch = 3 then wrE s node o.bt o.tx else resE s node o.bt o.ch o.tx
def stS (s : St) (node : Int) (o : Opr) : St := if o.ch = 3 then wrS s node o.bt o.tx else resS s node o.bt o.ch o.tx
/-- behind a change: the state, and how many were done -/
def chg (node : Int) (z : St × Nat) (o : Opr) : St × Nat := if 1000 < o.tx.size then z else if stE z.1 node o = 0 then (stS z.1 node o, z.2 + 1) else z
def chgs (node : Int) (s : St) (l : List Opr) : St × Nat := l.foldl (chg node) (s, 0)
theorem bump_side (a b node boot : Int) (h : bumpE a b node boot = 0) : (node = 0 ∧ a < bumpA a b node boot ∧ bumpB a b node boot = b) ∨ (node = 1 ∧ bumpA a b node boot = a ∧ b < bumpB a b node boot) := by
  have hc := (bump_fact a b node boot h).1
  have hok : bumpOk a b node boot = true := by
    unfold bumpE at h
    by_cases hk : bumpOk a b node boot = true
    · exact hk
    · rw [if_neg hk] at h; cases h
  unfold bumpOk at hok
  rw [Bool.and_eq_true, Bool.and_eq_true, decide_eq_true_iff] at hok
  have hw := cmp_ways (bumpA a b node boot) (bumpB a b node boot) a b
  rw [hc] at hw
  have hw2 : a ≤ bumpA a b node boot ∧ b ≤ bumpB a b node boot ∧ ¬ (bumpA a b node boot = a ∧ bumpB a b node boot = b) := by
    rcases hw with g | g | g | g
    · exact absurd g.1 (by decide)
    · exact g.2
    · exact absurd g.1 (by decide)
    · exact absurd g.1 (by decide)
  rcases hok.1.1 with hn | hn
  · have e : bumpB a b node boot = b := by unfold bumpB; rw [if_pos h, if_pos hn]
    exact .inl ⟨hn, by omega, e⟩
  · have e : bumpA a b node boot = a := by unfold bumpA; rw [if_pos h, if_neg (by omega)]
    exact .inr ⟨hn, e, by omega⟩
theorem st_law (s : St) (node : Int) (o : Opr) (h : stE s node o = 0) : chkE (stS s node o) = 0 ∧ (stS s node o).k = 0 ∧ ((node = 0 ∧ s.a < (stS s node o).a ∧ (stS s node o).b = s.b) ∨ (node = 1 ∧ (stS s node o).a = s.a ∧ s.b < (stS s node o).b)) := by
  unfold stE at h
  unfold stS
  split at h
  · rename_i hc
    rw [if_pos hc]
    have hS : wrS s node o.bt o.tx = onS (bumpA s.a s.b node o.bt) (bumpB s.a s.b node o.bt) o.tx := by unfold wrS; rw [if_pos h]
    have hB : bumpE s.a s.b node o.bt = 0 := by
      unfold wrE at h
      split at h
      · split at h
        · cases h
        · split at h
          · cases h
          · exact h
      · rename_i g; exact absurd h g
    refine ⟨(wr_law s node o.bt o.tx h).2, ?_, ?_⟩
    · rw [hS]; rfl
    · rw [hS]; exact bump_side _ _ _ _ hB
  · rename_i hc
    rw [if_neg hc]
    have hS : resS s node o.bt o.ch o.tx = onS (bumpA s.a s.b node o.bt) (bumpB s.a s.b node o.bt) (resD s o.ch o.tx) := by unfold resS; rw [if_pos h]
    have hB : bumpE s.a s.b node o.bt = 0 := by
      unfold resE at h
      split at h
      · split at h
        · split at h
          · cases h
          · split at h
            · cases h
            · exact h
        · cases h
      · rename_i g; exact absurd h g
    refine ⟨(res_law s node o.bt o.ch o.tx h).2, ?_, ?_⟩
    · rw [hS]; rfl
    · rw [hS]; exact bump_side _ _ _ _ hB
/-- what is so behind changes of a side -/
def Inv (node : Int) (s : St) (z : St × Nat) : Prop := chkE z.1 = 0 ∧ ((z.2 = 0 ∧ z.1 = s) ∨ (0 < z.2 ∧ z.1.k = 0 ∧ ((node = 0 ∧ s.a < z.1.a ∧ z.1.b = s.b) ∨ (node = 1 ∧ z.1.a = s.a ∧ s.b < z.1.b))))
theorem Inv.step {node : Int} {s : St} {z : St × Nat} (h : Inv node s z) (o : Opr) : Inv node s (chg node z o) := by
  unfold chg
  split
  · exact h
  · split
    · rename_i he
      obtain ⟨a1, a2, a3⟩ := st_law z.1 node o he
      refine ⟨a1, .inr ⟨Nat.succ_pos _, a2, ?_⟩⟩
      rcases h.2 with ⟨_, h2⟩ | ⟨_, _, h2⟩
      · rw [h2] at a3 ⊢; exact a3
      · show (node = 0 ∧ s.a < (stS z.1 node o).a ∧ (stS z.1 node o).b = s.b) ∨ (node = 1 ∧ (stS z.1 node o).a = s.a ∧ s.b < (stS z.1 node o).b)
        omega
    · exact h
theorem Inv.all {node : Int} {s : St} : ∀ (l : List Opr) (z : St × Nat), Inv node s z → Inv node s (l.foldl (chg node) z)
  | [], z, h => h
  | o :: l, z, h => Inv.all l _ (h.step o)
theorem chgs_inv (node : Int) (s : St) (l : List Opr) (h : chkE s = 0) : Inv node s (chgs node s l) := Inv.all l _ ⟨h, .inl ⟨rfl, rfl⟩⟩
theorem chgs_le (node : Int) : ∀ (l : List Opr) (z : St × Nat), (l.foldl (chg node) z).2 ≤ z.2 + l.length
  | [], z => Nat.le_refl _
  | o :: l, z => by
    have h := chgs_le node l (chg node z o)
    have h1 : (chg node z o).2 ≤ z.2 + 1 := by unfold chg; split; omega; split <;> simp
    show (l.foldl (chg node) (chg node z o)).2 ≤ z.2 + (l.length + 1)
    omega
theorem chgs_take (node : Int) (s : St) (l : List Opr) (k : Nat) (h : k < l.length) : chgs node s (l.take (k + 1)) = chg node (chgs node s (l.take k)) l[k] := by
  unfold chgs
  rw [List.take_succ_eq_append_getElem h, List.foldl_append]; rfl
/-- two meet -/
theorem meets (s : St) (l m : List Opr) (hs : chkE s = 0) :
    let a := (chgs 0 s l).1; let n := (chgs 0 s l).2; let b := (chgs 1 s m).1; let k := (chgs 1 s m).2
    joinS b a = joinS a b ∧ (n = 0 → joinS a b = b) ∧ (k = 0 → joinS a b = a) ∧ (n ≠ 0 → k ≠ 0 → (joinS a b).k = 1 ∧ (joinS a b).x = ⟨a.a, a.b, a.d⟩ ∧ (joinS a b).y = ⟨b.a, b.b, b.d⟩) := by
  intro a n b k
  obtain ⟨ha, hA⟩ := chgs_inv 0 s l hs
  obtain ⟨hb, hB⟩ := chgs_inv 1 s m hs
  have hA : (n = 0 ∧ a = s) ∨ (0 < n ∧ a.k = 0 ∧ s.a < a.a ∧ a.b = s.b) := by
    rcases hA with g | ⟨g1, g2, g3 | g3⟩
    · exact .inl g
    · exact .inr ⟨g1, g2, g3.2.1, g3.2.2⟩
    · exact absurd g3.1 (by decide)
  have hB : (k = 0 ∧ b = s) ∨ (0 < k ∧ b.k = 0 ∧ b.a = s.a ∧ s.b < b.b) := by
    rcases hB with g | ⟨g1, g2, g3 | g3⟩
    · exact .inl g
    · exact absurd g3.1 (by decide)
    · exact .inr ⟨g1, g2, g3.2.1, g3.2.2⟩
  have hw := join_ways a b ha hb
  rcases hA with ⟨hn, ea⟩ | ⟨hn, a1, a2, a3⟩
  · rcases hB with ⟨hk, eb⟩ | ⟨hk, b1, b2, b3⟩
    · have e : a = b := ea.trans eb.symm
      have self : joinS b b = b := by rw [join_is, cmp_0 rfl rfl]; rfl
      rw [e]
      exact ⟨rfl, fun _ => self, fun _ => self, fun g => absurd hn g⟩
    · have hc : cmpZ a.a a.b b.a b.b = 2 := cmp_2 (by rw [ea]; omega) (by rw [ea]; omega) (by rw [ea]; omega)
      rcases hw with g | g | g | g
      · exact absurd (hc.symm.trans g.1) (by decide)
      · exact absurd (hc.symm.trans g.1) (by decide)
      · exact ⟨g.2.2.2.1.trans g.2.2.1.symm, fun _ => g.2.2.1, fun h => absurd h (by omega), fun h => absurd hn h⟩
      · exact absurd (hc.symm.trans g.1) (by decide)
  · rcases hB with ⟨hk, eb⟩ | ⟨hk, b1, b2, b3⟩
    · have hc : cmpZ a.a a.b b.a b.b = 1 := cmp_1 (by rw [eb]; omega) (by rw [eb]; omega) (by rw [eb]; omega)
      rcases hw with g | g | g | g
      · exact absurd (hc.symm.trans g.1) (by decide)
      · exact ⟨g.2.2.2.1.trans g.2.2.1.symm, fun h => absurd h (by omega), fun _ => g.2.2.1, fun _ h => absurd hk h⟩
      · exact absurd (hc.symm.trans g.1) (by decide)
      · exact absurd (hc.symm.trans g.1) (by decide)
    · have hc : cmpZ a.a a.b b.a b.b = 3 := cmp_3 (by omega)
      rcases hw with g | g | g | ⟨_, _, j, g1, g2, _, _, _, _, _, _, _, gs⟩
      · exact absurd (hc.symm.trans g.1) (by decide)
      · exact absurd (hc.symm.trans g.1) (by decide)
      · exact absurd (hc.symm.trans g.1) (by decide)
      · refine ⟨g2.trans g1.symm, fun h => absurd h (by omega), fun h => absurd h (by omega), fun _ _ => ?_⟩
        have hm := (meet_ok a b ha hb (by omega)).2
        have hj : joinS a b = meetS a b := by rw [join_is, hc, if_pos rfl, if_neg (by omega)]
        rw [hj, hm]
        refine ⟨rfl, ?_, ?_⟩
        · show sideS a 0 = _; unfold sideS; rw [if_pos a1]
        · show sideS b 1 = _; unfold sideS; rw [if_pos b1]
end Go.Proofs.Ytingeahkndingaa
