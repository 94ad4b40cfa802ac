/-
  Plain laws of chapter 23: states.
-/
import Derived.Test.YtingeahkndingaaState6
import Derived.Test.YtingeahkndingaaVecFact
namespace Go.Proofs.Ytingeahkndingaa
open Go.RowKit
set_option linter.unusedVariables false
theorem none0 : Ve.none ⟨0, 0, ⟨#[]⟩⟩ = true := by decide +kernel
theorem chk_on (a b : Int) (t : ByteArray) (hr : rightB a b = true) (ht : t.size = 128) : chkE (onS a b t) = 0 := by
  unfold chkE onS
  rw [if_pos rfl]
  unfold plainE
  rw [if_neg (by simp only [hr]; decide), if_neg (fun h => h ht), if_neg (by simp only [none0]; decide)]
/-- what a write makes -/
theorem wr_law (x : St) (node boot : Int) (t : ByteArray) (h : wrE x node boot t = 0) : cmpZ (wrS x node boot t).a (wrS x node boot t).b x.a x.b = 1 ∧ chkE (wrS x node boot t) = 0 := by
  have hS : wrS x node boot t = onS (bumpA x.a x.b node boot) (bumpB x.a x.b node boot) t := by unfold wrS; rw [if_pos h]
  unfold wrE at h
  split at h
  · split at h
    · cases h
    · split at h
      · cases h
      · rename_i hd
        rw [hS]
        exact ⟨(bump_fact x.a x.b node boot h).1, chk_on _ _ _ (bump_right _ _ _ _ h) (Classical.not_not.1 hd)⟩
  · rename_i h0; exact absurd h h0
/-- a state of two versions: both have their bytes -/
theorem clash_sizes (x : St) (h : chkE x = 0) (hk : x.k = 1) : x.x.d.size = 128 ∧ x.y.d.size = 128 := by
  unfold chkE at h
  rw [if_neg (by omega), if_pos hk] at h
  unfold clashE at h
  split at h
  · rename_i hp
    unfold pairE at hp
    split at hp
    · cases hp
    · split at hp
      · cases hp
      · rename_i hd
        exact ⟨Classical.not_not.1 fun h => hd (.inl h), Classical.not_not.1 fun h => hd (.inr h)⟩
  · rename_i h0; exact absurd h h0
theorem res_law (x : St) (node boot choice : Int) (t : ByteArray) (h : resE x node boot choice t = 0) : cmpZ (resS x node boot choice t).a (resS x node boot choice t).b x.a x.b = 1 ∧ chkE (resS x node boot choice t) = 0 := by
  have hS : resS x node boot choice t = onS (bumpA x.a x.b node boot) (bumpB x.a x.b node boot) (resD x choice t) := by unfold resS; rw [if_pos h]
  unfold resE at h
  split at h
  · rename_i hc
    split at h
    · rename_i hk
      split at h
      · cases h
      · rename_i hr
        split at h
        · cases h
        · rename_i hd
          rw [hS]
          refine ⟨(bump_fact x.a x.b node boot h).1, chk_on _ _ _ (bump_right _ _ _ _ h) ?_⟩
          have hz := clash_sizes x hc hk
          unfold resD
          split
          · exact hz.1
          · split
            · exact hz.2
            · exact Classical.not_not.1 fun hh => hd ⟨by omega, hh⟩
    · cases h
  · rename_i h0; exact absurd h h0
theorem sne_same (k a b : Int) (d : ByteArray) (p q : Int) (e : ByteArray) (r s : Int) (f : ByteArray) (W : World) : (binOp .neq 27 (SS k a b d p q e r s f) (SS k a b d p q e r s f)).run Try.prog W = .ok (.bool false) W := by
  simp [go_sem]
theorem big_any (k a b : Int) (d : ByteArray) (p q : Int) (e : ByteArray) (r s : Int) (f : ByteArray) (w : World) : Calls Try.prog 8 #[SS k a b d p q e r s f] w fun e' w' => e' = .returned (.bool (decide (1000 < (d.size : Int)) || (decide (1000 < (e.size : Int)) || decide (1000 < (f.size : Int))))) ∧ Below w.heap.size w w' := by
  cases h1 : decide (1000 < (d.size : Int))
  · cases h2 : decide (1000 < (e.size : Int))
    · go_enter Try.func8, Try.ntmps8
      go_wp2
      go_ret
      exact ⟨rfl, (Below.refl _ _).alloc (Nat.le_refl _) _⟩
    · go_enter Try.func8, Try.ntmps8
      go_wp2
      go_ret
      exact ⟨rfl, (Below.refl _ _).alloc (Nat.le_refl _) _⟩
  · go_enter Try.func8, Try.ntmps8
    go_wp2
    go_ret
    exact ⟨rfl, (Below.refl _ _).alloc (Nat.le_refl _) _⟩
end Go.Proofs.Ytingeahkndingaa
