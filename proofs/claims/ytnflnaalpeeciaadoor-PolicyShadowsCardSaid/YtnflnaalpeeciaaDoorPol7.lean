/-
  What is shadowed (chapter 42): the reference's walk.
-/
import Derived.Test.YtnflnaalpeeciaaDoorPol6
namespace Go.Proofs.YtnflnaalpeeciaaDoor
open Go.RowKit
set_option linter.unusedVariables false
set_option linter.unusedSimpArgs false
set_option maxRecDepth 20000

/-- the shadowed so far -/
def TR (w : World) (l : List Rl) (vo i : Value) (wr : World) : Prop := ∃ k : Nat, k ≤ l.length ∧ i = .int .i64 k ∧ Hid (FI.Row wr w.heap.size vo (shadL l k)) ∧ Hid (Below w.heap.size w wr)
def allB (l : List Rl) (i n : Nat) : Bool := (List.range n).all fun x => !covR (l.getD i default) x || doneB (l.take i) x
theorem allB_succ (l : List Rl) (i n : Nat) : allB l i (n + 1) = (allB l i n && (!covR (l.getD i default) n || doneB (l.take i) n)) := by
  unfold allB
  rw [List.range_succ, List.all_append]
  simp
def UR (w2 : World) (l : List Rl) (i : Nat) (va vx : Value) (wr : World) : Prop := ∃ q : Nat, q ≤ 24 ∧ vx = .int .i64 q ∧ va = .bool (allB l i q) ∧ Hid (Below w2.heap.size w2 wr)
def VR (w3 : World) (l : List Rl) (i x : Nat) (vd vk : Value) (wr : World) : Prop := ∃ j : Nat, j ≤ i ∧ vk = .int .i64 j ∧ vd = .bool (doneB (l.take j) (x : Int)) ∧ Hid (Below w3.heap.size w3 wr)
theorem fin_eq (k : Int) : finK k = (k == 1 || k == 2 || k == 5) := by
  unfold finK
  by_cases h1 : k = 1 <;> by_cases h2 : k = 2 <;> by_cases h5 : k = 5 <;> simp_all
theorem fin_cases (k : Int) : ((k == 1) = true ∧ finK k = true) ∨ ((k == 1) = false ∧ (k == 2) = true ∧ finK k = true) ∨ ((k == 1) = false ∧ (k == 2) = false ∧ (k == 5) = true ∧ finK k = true) ∨ ((k == 1) = false ∧ (k == 2) = false ∧ (k == 5) = false ∧ finK k = false) := by
  rw [fin_eq]
  cases k == 1 <;> cases k == 2 <;> cases k == 5 <;> simp
set_option maxHeartbeats 6400000 in
theorem rshad_any (l : List Rl) (v : Value) (w : World) (hl : FR.X w v l) (hn : l.length ≤ 100000) :
    Calls Tryd.prog 14 #[v] w (SE l w) := by
  obtain ⟨a, cap, rfl⟩ := hl.any
  have hE : ∀ v W, FI.Row W w.heap.size v (shadL l l.length) → Below w.heap.size w W → SE l w (.returned v) W := fun v W h1 h2 => ⟨v, rfl, h1, h2⟩
  generalize SE l w = Pst at *
  replace hE := Lib.hid hE
  replace hl := Lib.hid hl
  go_enter Tryd.func14, Tryd.ntmps14
  go_wp2
  go_loopw [3, 4] (fun vo i wr => TR w l vo i wr) (fun _ i _ => l.length - (intOf i).toNat)
  case atStart => exact ⟨0, Nat.zero_le _, rfl, Fl.Row.nil FI _ _, Below.refl _ _⟩
  case round =>
    obtain ⟨k, hk, rfl, hR, hB⟩ := hrel
    by_cases hlt : k < l.length
    · have hd2 : decide ((k : Int) < (l.length : Int)) = true := decide_eq_true (by omega)
      obtain ⟨x, hx⟩ : ∃ x, l[k]? = some x := ⟨_, List.getElem?_eq_getElem hlt⟩
      obtain ⟨g, o, rfl, p0, p1, p2⟩ := FR.at hl.out k x hx
      have i1 : (0 : Int) ≤ (k : Int) := by omega
      have i2 : (k : Int) < (l.length : Int) := by omega
      have hC := fun y W => rcovers_any x y W
      unfold rlV at hC
      replace hC := Lib.hid hC
      have hsucc := Lib.hid (shadL_succ l k)
      have hlen := shadL_len l k
      have hall := Lib.hid (fun n => getD_of hx ▸ allB_succ l k n)
      have hshd : Hid (allB l k 24 = shd l k) := rfl
      generalize shadL l k = SL at *
      obtain ⟨va, vc, rfl⟩ := hR.out.any
      clear hx
      go_wp2
      go_loopw [5, 6] (fun va vx wr1 => UR wr l k va vx wr1) (fun _ i _ => 24 - (intOf i).toNat)
      case atStart => exact ⟨0, Nat.zero_le _, rfl, rfl, Below.refl _ _⟩
      case round =>
        obtain ⟨q, hq, rfl, rfl, hB1⟩ := hrel
        by_cases hq24 : q < 24
        · have hd3 : decide ((q : Int) < 24) = true := decide_eq_true (by omega)
          have hd4 : decide (q < 24) = true := decide_eq_true (by omega)
          have s0 := bkeep hB1.out (bkeep hB.out p0)
          have s1 := bkeep hB1.out (bkeep hB.out p1)
          have s2 := bkeep hB1.out (bkeep hB.out p2)
          have hsq := hall.out q
          have hCq := Lib.hid (hC.out q)
          cases hcv : covR x q with
          | false =>
            have hsq : allB l k (q + 1) = allB l k q := by rw [hsq, hcv]; simp
            rw [hcv] at hCq
            replace hsq := Lib.hid hsq
            generalize allB l k q = b at *
            go_wp2_with (go_at_call 28; (with_reducible refine (hCq.out _).mono ?_); rintro e4 w2 ⟨rfl, hA⟩; replace hA := Lib.hid (bt hB1.out hA))
            exact ⟨⟨q + 1, by omega, by go_num, by rw [hsq.out], hA⟩, by simp [intOf]; omega⟩
          | true =>
            have hsq : allB l k (q + 1) = (allB l k q && doneB (l.take k) (q : Int)) := by rw [hsq, hcv]; simp
            rw [hcv] at hCq
            replace hsq := Lib.hid hsq
            generalize allB l k q = b at *
            go_wp2_with (go_at_call 28; (with_reducible refine (hCq.out _).mono ?_); rintro e4 w2 ⟨rfl, hA⟩; replace hA := Lib.hid (bt hB1.out hA))
            clear s0 s1 s2
            go_loopw [7, 8] (fun vd vk wr2 => VR w2 l k q vd vk wr2) (fun _ i _ => k - (intOf i).toNat)
            case atStart => exact ⟨0, Nat.zero_le _, rfl, rfl, Below.refl _ _⟩
            case round =>
              obtain ⟨j, hj, rfl, rfl, hB2⟩ := hrel
              by_cases hjk : j < k
              · have hd5 : decide ((j : Int) < (k : Int)) = true := decide_eq_true (by omega)
                have hd6 : decide (j < k) = true := decide_eq_true (by omega)
                obtain ⟨y, hy⟩ : ∃ y, l[j]? = some y := ⟨_, List.getElem?_eq_getElem (by omega)⟩
                obtain ⟨g2, o2, e2, r0, r1, r2⟩ := FR.at hl.out j y hy
                obtain ⟨rfl, rfl⟩ : g2 = g ∧ o2 = o := by
                  injection e2 with e2
                  injection e2 with e3 e4
                  exact ⟨e3.symm, e4.symm⟩
                have hBa := Lib.hid (bt (bt hB.out hA.out) hB2.out)
                have r0 := bkeep hBa.out r0
                have r1 := bkeep hBa.out r1
                have r2 := bkeep hBa.out r2
                have j1 : (0 : Int) ≤ (j : Int) := by omega
                have j2 : (j : Int) < (l.length : Int) := by omega
                have hst := done_take hy (q : Int)
                have hCy := fun W => rcovers_any y q W
                unfold rlV at hCy
                generalize doneB (l.take j) (q : Int) = d at *
                have hC2 := Lib.hid hC
                clear hy e2
                cases d with
                | true =>
                  have hst : Hid (.bool true = Value.bool (doneB (l.take (j + 1)) (q : Int))) := by show _ = _; rw [hst]; rfl
                  clear hCy
                  go_wp2
                  exact ⟨⟨j + 1, by omega, by go_num, hst.out, hB2⟩, by simp [intOf]; omega⟩
                | false =>
                  generalize covR y q = cy at *
                  obtain ⟨yk, ya, yb⟩ := y
                  simp only at r0 r1 r2 hCy hst
                  cases cy with
                  | false =>
                    have hst : Hid (.bool false = Value.bool (doneB (l.take (j + 1)) (q : Int))) := by show _ = _; rw [hst]; rfl
                    replace hCy := Lib.hid hCy
                    go_wp2_with (go_at_call 28; (with_reducible refine (hCy.out _).mono ?_); rintro e6 w6 ⟨rfl, hA6⟩; replace hA6 := Lib.hid (bt hB2.out hA6))
                    exact ⟨⟨j + 1, by omega, by go_num, hst.out, hA6⟩, by simp [intOf]; omega⟩
                  | true =>
                    replace hCy := Lib.hid hCy
                    rcases fin_cases yk with ⟨f1, ff⟩ | ⟨f1, f2, ff⟩ | ⟨f1, f2, f5, ff⟩ | ⟨f1, f2, f5, ff⟩
                    all_goals
                      have hst : Hid (.bool (finK yk) = Value.bool (doneB (l.take (j + 1)) (q : Int))) := by show _ = _; rw [hst]; simp
                      rw [ff] at hst
                      clear ff
                      go_wp2_with (go_at_call 28; (with_reducible refine (hCy.out _).mono ?_); rintro e6 w6 ⟨rfl, hA6⟩; replace r0 := bkeep hA6 r0; replace hA6 := Lib.hid (bt hB2.out hA6))
                      exact ⟨⟨j + 1, by omega, by go_num, hst.out, hA6⟩, by simp [intOf]; omega⟩
              · have hd5 : decide ((j : Int) < (k : Int)) = false := decide_eq_false (by omega)
                have hd6 : decide (j < k) = false := decide_eq_false (by omega)
                have he : j = k := by omega
                subst he
                have hb2 := Lib.hid (bt hA.out hB2.out)
                generalize doneB (l.take j) (q : Int) = d at *
                cases b with
                | false =>
                  go_wp2
                  exact ⟨⟨q + 1, by omega, by go_num, by rw [hsq.out]; simp, hb2⟩, by simp [intOf]; omega⟩
                | true =>
                  go_wp2
                  exact ⟨⟨q + 1, by omega, by go_num, by rw [hsq.out]; simp, hb2⟩, by simp [intOf]; omega⟩
        · have hd3 : decide ((q : Int) < 24) = false := decide_eq_false (by omega)
          have hd4 : decide (q < 24) = false := decide_eq_false (by omega)
          have he : q = 24 := by omega
          subst he
          rw [hshd.out]
          have hb2 := Lib.hid (bt hB.out hB1.out)
          have hR2 := Lib.hid (hR.out.below hB1.out)
          generalize shd l k = s at *
          cases s with
          | false =>
            go_wp2
            refine ⟨⟨k + 1, by omega, by go_num, ?_, hb2⟩, by simp [intOf]; omega⟩
            show FI.Row _ _ _ (shadL l (k + 1))
            rw [hsucc.out, if_neg (by simp)]
            exact hR2.out
          | true =>
            go_wp2_with (at_builtin; refine Fl.wpl_app FI rfl (.tmp 69) (.tmp 71) _ w.heap.size _ _ SL [k] rfl rfl (hR2.out.below (alb _ _)) (Fl.X.lit FI _ [k] _ 1 1 rfl rfl) (by simp; omega) (Nat.le_trans hb2.out.size (alb _ _).size) ?_ rfl rfl; intro v5 w5 h5 h6 _; replace h5 := Lib.hid h5; replace h6 := Lib.hid h6)
            refine ⟨⟨k + 1, by omega, by go_num, ?_, ?_⟩, by simp [intOf]; omega⟩
            · show FI.Row _ _ _ (shadL l (k + 1))
              rw [hsucc.out, if_pos rfl]
              exact h5.out
            · have hlt := (hR2.out.below (alb _ (.cells #[.int .i64 k] 3))).lt
              exact h6.out.after (bt hb2.out (alb _ _)) (Nat.le_trans hb2.out.size (alb _ _).size) fun q hq e => by
                have := (hlt q e.symm).1
                omega
    · have hd2 : decide ((k : Int) < (l.length : Int)) = false := decide_eq_false (by omega)
      have he : k = l.length := by omega
      subst he
      go_wp2
      exact hE.out _ _ hR.out hB.out
end Go.Proofs.YtnflnaalpeeciaaDoor
