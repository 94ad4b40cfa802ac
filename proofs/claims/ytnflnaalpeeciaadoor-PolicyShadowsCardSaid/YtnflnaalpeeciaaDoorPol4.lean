/-
  Plans (chapter 42): the commands by which rules resolve conflicts.
-/
import Derived.Test.YtnflnaalpeeciaaDoorPol3
namespace Go.Proofs.YtnflnaalpeeciaaDoor
open Go.RowKit
set_option linter.unusedVariables false
set_option linter.unusedSimpArgs false
set_option maxRecDepth 20000

theorem plan1_any (c : Int × Int) (K : Nat) (x : Int) (w : World) (h : w.cell? ⟨K, 0, none⟩ = some (.int .i64 x)) : Calls Tryd.prog 24 #[cmV c, .pointer (some ⟨K, 0, none⟩)] w fun e w' => e = .returned (.bool (decide (c.1 = x))) ∧ Below w.heap.size w w' := by
  unfold cmV
  obtain ⟨W0, hW0⟩ : ∃ W0, w.alloc (.cells #[.int .i64 3, .int .i64 c.1, .int .i64 c.2, .string ByteArray.empty] 45) = W0 := ⟨_, rfl⟩
  have hb : Below w.heap.size w W0 := hW0 ▸ alb w _
  obtain ⟨c0, c1, c2, c3⟩ := hW0 ▸ HCm.new w 45 c
  have h2 := bkeep hb h
  have hd : (c.1 == x) = decide (c.1 = x) := rfl
  rw [← hd]
  clear hd
  go_enter Tryd.func24, Tryd.ntmps24
  go_wp2
  go_ret
  exact ⟨rfl, hb⟩
def anyX (x : Int) (l : List (Int × Int)) : Bool := l.any fun c => decide (c.1 = x)
def IFR (w : World) (x : Int) (l : List (Int × Int)) (i : Value) (wr : World) : Prop := ∃ k : Nat, k ≤ l.length ∧ i = .int .i64 k ∧ Hid (∀ (j : Nat) c, j < k → l[j]? = some c → c.1 ≠ x) ∧ Hid (Below w.heap.size w wr)
def IFE (x : Int) (l : List (Int × Int)) (w : World) (e : Ending) (w' : World) : Prop := ∃ r : Int, e = .returned (.int .i64 r) ∧ decide (0 ≤ r) = anyX x l ∧ Below w.heap.size w w'
set_option maxHeartbeats 1600000 in
theorem indexf_any (l : List (Int × Int)) (v : Value) (K : Nat) (x : Int) (w : World) (hl : FC.X w v l) (hm : l.length ≤ 9223372036854775807) (h : w.cell? ⟨K, 0, none⟩ = some (.int .i64 x)) :
    Calls Tryd.prog 40 #[v, .func (.func 24) #[] #[.pointer (some ⟨K, 0, none⟩)]] w (IFE x l w) := by
  obtain ⟨a, cap, rfl⟩ := hl.any
  have hY : ∀ (r : Nat) c W, l[r]? = some c → c.1 = x → Below w.heap.size w W → IFE x l w (.returned (.int .i64 r)) W := by
    intro r c W h1 h2 hb
    refine ⟨r, rfl, ?_, hb⟩
    unfold anyX
    rw [List.any_eq_true.2 ⟨c, List.mem_of_getElem? h1, decide_eq_true h2⟩]
    exact decide_eq_true (by omega)
  have hN : ∀ W, (∀ (j : Nat) c, j < l.length → l[j]? = some c → c.1 ≠ x) → Below w.heap.size w W → IFE x l w (.returned (.int .i64 (-1))) W := by
    intro W h1 hb
    refine ⟨-1, rfl, ?_, hb⟩
    unfold anyX
    rw [List.any_eq_false.2 (fun c hc => by
      obtain ⟨j, hj⟩ := List.mem_iff_getElem?.1 hc
      have := h1 j c (List.getElem?_eq_some_iff.1 hj).1 hj
      simpa using this)]
    rfl
  generalize IFE x l w = Pst at *
  replace hY := Lib.hid hY
  replace hN := Lib.hid hN
  replace hl := Lib.hid hl
  go_enter Tryd.func40, Tryd.ntmps40
  go_wp2
  go_loopw [8] (fun i wr => IFR w x l i wr) (fun i _ => l.length - (intOf i).toNat)
  case atStart => exact ⟨0, Nat.zero_le _, rfl, fun j c h => absurd h (Nat.not_lt_zero _), Below.refl _ _⟩
  case round =>
    obtain ⟨k, hk, rfl, hK, hB⟩ := hrel
    by_cases hlt : k < l.length
    · have hd2 : decide ((k : Int) < (l.length : Int)) = true := decide_eq_true (by omega)
      obtain ⟨c, hc⟩ : ∃ c, l[k]? = some c := ⟨_, List.getElem?_eq_getElem hlt⟩
      obtain ⟨g, o, rfl, p0, p1, p2, p3⟩ := FC.at hl.out k c hc
      have p0 := bkeep hB.out p0
      have p1 := bkeep hB.out p1
      have p2 := bkeep hB.out p2
      have p3 := bkeep hB.out p3
      have hx := bkeep hB.out h
      have i1 : (0 : Int) ≤ (k : Int) := by omega
      have i2 : (k : Int) < (l.length : Int) := by omega
      have hC := plan1_any c K x wr hx
      unfold cmV at hC
      by_cases he : c.1 = x
      · have hfin := Lib.hid (fun W hb => hY.out k c W hc he hb)
        rw [decide_eq_true he] at hC
        replace hC := Lib.hid hC
        clear he hc
        go_wp2_with (go_at_call 24; (with_reducible refine hC.out.mono ?_); rintro e4 w2 ⟨rfl, hA⟩; have hb2 := Lib.hid (bt hB.out hA); clear hA)
        exact hfin.out _ hb2.out
      · rw [decide_eq_false he] at hC
        have hK2 : Hid (∀ (j : Nat) c, j < k + 1 → l[j]? = some c → c.1 ≠ x) := by
          intro j z hj hz
          by_cases e : j = k
          · subst e; rw [hc] at hz; injection hz with hz; subst hz; exact he
          · exact hK.out j z (by omega) hz
        replace hC := Lib.hid hC
        clear he hc
        go_wp2_with (go_at_call 24; (with_reducible refine hC.out.mono ?_); rintro e4 w2 ⟨rfl, hA⟩; have hb2 := Lib.hid (bt hB.out hA); clear hA)
        exact ⟨⟨k + 1, by omega, by go_num, hK2, hb2⟩, by simp [intOf]; omega⟩
    · have hd2 : decide ((k : Int) < (l.length : Int)) = false := decide_eq_false (by omega)
      have hfin := Lib.hid (hN.out wr (fun j c hj => hK.out j c (by omega)) hB.out)
      go_wp2
      exact hfin.out
theorem contf_any (l : List (Int × Int)) (v : Value) (K : Nat) (x : Int) (w : World) (hl : FC.X w v l) (hm : l.length ≤ 9223372036854775807) (h : w.cell? ⟨K, 0, none⟩ = some (.int .i64 x)) :
    Calls Tryd.prog 25 #[v, .func (.func 24) #[] #[.pointer (some ⟨K, 0, none⟩)]] w fun e w' => e = .returned (.bool (anyX x l)) ∧ Below w.heap.size w w' := by
  have hC := indexf_any l v K x w hl hm h
  unfold IFE at hC
  replace hC := Lib.hid hC
  go_enter Tryd.func25, Tryd.ntmps25
  go_wp2_with (go_at_call 40; (with_reducible refine hC.out.mono ?_); rintro e4 w2 ⟨r, rfl, hr, hA⟩; replace hr := Lib.hid hr)
  go_ret
  first
  | exact ⟨rfl, hA⟩
  | exact ⟨by show Ending.returned (.bool (decide (0 ≤ r))) = _; rw [hr.out], hA⟩
theorem plan_take (l : List Rl) {m : List Pr} {k : Nat} {x : Pr} (h : m[k]? = some x) : plan l (m.take (k + 1)) = planS l (plan l (m.take k)) x := by
  rw [List.take_add_one, h]
  exact plan_snoc l _ x
theorem anyX_all (x : Int) (l : List (Int × Int)) : (l.all fun c => decide (c.1 ≠ x)) = !anyX x l := by
  unfold anyX
  rw [List.not_any_eq_all_not]
  congr 1
  funext c
  by_cases h : c.1 = x <;> simp [h]
/-- a plan so far -/
def PR (w : World) (l : List Rl) (m : List Pr) (vo i : Value) (wr : World) : Prop := ∃ k : Nat, k ≤ m.length ∧ i = .int .i64 k ∧ Hid (FC.Row wr w.heap.size vo (plan l (m.take k))) ∧ Hid (Below w.heap.size w wr)
def PE (l : List Rl) (m : List Pr) (w : World) (e : Ending) (w' : World) : Prop := ∃ v, e = .returned v ∧ FC.Row w' w.heap.size v (plan l m) ∧ Below w.heap.size w w'
set_option maxHeartbeats 3200000 in
theorem plan_any (l : List Rl) (v : Value) (m : List Pr) (vm : Value) (w : World) (hl : FR.X w v l) (hm : FP.X w vm m) (hn : l.length ≤ 1000000) (hn2 : m.length ≤ 100000) :
    Calls Tryd.prog 10 #[v, vm] w (PE l m w) := by
  obtain ⟨a, cap, rfl⟩ := hl.any
  obtain ⟨a2, cap2, rfl⟩ := hm.any
  have hE : ∀ v W, FC.Row W w.heap.size v (plan l m) → Below w.heap.size w W → PE l m w (.returned v) W := fun v W h1 h2 => ⟨v, rfl, h1, h2⟩
  generalize PE l m w = Pst at *
  replace hE := Lib.hid hE
  replace hl := Lib.hid hl
  replace hm := Lib.hid hm
  go_enter Tryd.func10, Tryd.ntmps10
  go_wp2
  go_loopw [5, 13] (fun vo i wr => PR w l m vo i wr) (fun _ i _ => m.length - (intOf i).toNat)
  case atStart => exact ⟨0, Nat.zero_le _, rfl, Fl.Row.nil FC _ _, Below.refl _ _⟩
  case round =>
    obtain ⟨k, hk, rfl, hR, hB⟩ := hrel
    by_cases hlt : k < m.length
    · have hd2 : decide ((k : Int) < (m.length : Int)) = true := decide_eq_true (by omega)
      obtain ⟨x, hx⟩ : ∃ x, m[k]? = some x := ⟨_, List.getElem?_eq_getElem hlt⟩
      obtain ⟨g, o, rfl, p0, p1, p2, p3, p4, p5, p6⟩ := FP.at hm.out k x hx
      have p0 := bkeep hB.out p0
      have p1 := bkeep hB.out p1
      have p2 := bkeep hB.out p2
      have p3 := bkeep hB.out p3
      have p4 := bkeep hB.out p4
      have p5 := bkeep hB.out p5
      have p6 := bkeep hB.out p6
      have i1 : (0 : Int) ≤ (k : Int) := by omega
      have i2 : (k : Int) < (m.length : Int) := by omega
      have hpl := plan_take l hx
      have hlen := plan_len l (m.take k)
      rw [List.length_take] at hlen
      have hlen : (plan l (m.take k)).length ≤ 100000 := by omega
      generalize plan l (m.take k) = PL at *
      unfold planS at hpl
      rw [anyX_all] at hpl
      obtain ⟨va, vc, rfl⟩ := hR.out.any
      obtain ⟨W1, hW1⟩ : ∃ W1, wr.alloc (.cells #[.int .i64 x.x, .int .i64 x.a1, .int .i64 x.a2, .string x.ad, .int .i64 x.b1, .int .i64 x.b2, .string x.bd] 41) = W1 := ⟨_, rfl⟩
      have hb1 : Below wr.heap.size wr W1 := hW1 ▸ alb wr _
      have hP := Lib.hid (hW1 ▸ HPr.new wr 41 x)
      obtain ⟨c0, c1, c2, c3, c4, c5, c6⟩ := hP.out
      have hR1 := Lib.hid (hR.out.below hb1)
      replace hb1 := Lib.hid (bt hB.out hb1)
      have hC := choose_any l _ x W1 (hl.out.below hb1.out) (by omega)
      unfold chV prV at hC
      replace hC := Lib.hid hC
      generalize choose l x = cx at *
      obtain ⟨sd, ok⟩ := cx
      clear hx
      replace hpl := Lib.hid hpl
      have hB0 := Lib.hid hB.out.size
      cases ok with
      | false =>
        go_wp2_with (first | (go_at_call 11; (with_reducible refine hC.out.mono ?_); rintro e4 w2 ⟨rfl, hA⟩; have hR2 := Lib.hid (hR1.out.below hA); have hb2 := Lib.hid (bt hb1.out hA); clear hA))
        refine ⟨⟨k + 1, by omega, by go_num, ?_, hb2⟩, by simp [intOf]; omega⟩
        show FC.Row _ _ _ (plan l (m.take (k + 1)))
        rw [hpl.out, if_neg (by simp)]
        exact hR2.out
      | true =>
        cases hax : anyX x.x PL with
        | true =>
          go_wp2_with (first | (go_at_call 11; (with_reducible refine hC.out.mono ?_); rintro e4 w2 ⟨rfl, hA⟩; have hR2 := Lib.hid (hR1.out.below hA); have hb2 := Lib.hid (bt hb1.out hA); have h7 := bkeep hA c0; have hCF := contf_any PL _ wr.heap.size x.x w2 hR2.out.x (by omega) h7; rw [hax] at hCF; replace hCF := Lib.hid hCF; clear hA) | (go_at_call 25; (with_reducible refine hCF.out.mono ?_); rintro e5 w3 ⟨rfl, hA⟩; have hR3 := Lib.hid (hR2.out.below hA); have hb3 := Lib.hid (bt hb2.out hA); clear hA))
          refine ⟨⟨k + 1, by omega, by go_num, ?_, hb3⟩, by simp [intOf]; omega⟩
          show FC.Row _ _ _ (plan l (m.take (k + 1)))
          rw [hpl.out, hax, if_neg (by simp)]
          exact hR3.out
        | false =>
          go_wp2_with (first | (go_at_call 11; (with_reducible refine hC.out.mono ?_); rintro e4 w2 ⟨rfl, hA⟩; have hR2 := Lib.hid (hR1.out.below hA); have hb2 := Lib.hid (bt hb1.out hA); have h7 := bkeep hA c0; have hCF := contf_any PL _ wr.heap.size x.x w2 hR2.out.x (by omega) h7; rw [hax] at hCF; replace hCF := Lib.hid hCF; clear hA) | (go_at_call 25; (with_reducible refine hCF.out.mono ?_); rintro e5 w3 ⟨rfl, hA⟩; have hR3 := Lib.hid (hR2.out.below hA); have hb3 := Lib.hid (bt hb2.out hA); have h73 := bkeep hA h7; clear hA) | (at_builtin; refine Fl.wpl_app FC rfl (.tmp 31) (.tmp 36) _ w.heap.size _ _ PL [(x.x, sd)] rfl rfl (hR3.out.below (alb w3 _)) (Fl.X.lit FC w3 [(x.x, sd)] _ 1 1 rfl rfl) (by simp; omega) (Nat.le_trans hb3.out.size (alb w3 _).size) ?_ rfl rfl; intro v5 w5 h5 h6 _; replace h5 := Lib.hid h5; replace h6 := Lib.hid h6))
          refine ⟨⟨k + 1, by omega, by go_num, ?_, ?_⟩, by simp [intOf]; omega⟩
          · show FC.Row _ _ _ (plan l (m.take (k + 1)))
            rw [hpl.out, hax, if_pos (by simp)]
            exact h5.out
          · have hlt := (hR3.out.below (alb w3 (.cells #[.int .i64 3, .int .i64 x.x, .int .i64 sd, .string ByteArray.empty] 45))).lt
            exact h6.out.after (bt hb3.out (alb w3 _)) (Nat.le_trans hb3.out.size (alb w3 _).size) fun q hq e => by
              have := (hlt q e.symm).1
              omega
    · have hd2 : decide ((k : Int) < (m.length : Int)) = false := decide_eq_false (by omega)
      have he : m.take k = m := List.take_of_length_le (by omega)
      rw [he] at hR
      go_wp2
      exact hE.out _ _ hR.out hB.out
theorem anyX_take (x : Int) {l : List (Int × Int)} {j : Nat} {c : Int × Int} (h : l[j]? = some c) : anyX x (l.take (j + 1)) = (anyX x (l.take j) || decide (c.1 = x)) := by
  unfold anyX
  rw [List.take_add_one, h]
  simp
def PQ (w2 : World) (x : Int) (ok : Bool) (PL : List (Int × Int)) (vk i : Value) (wr : World) : Prop := ∃ j : Nat, j ≤ PL.length ∧ i = .int .i64 j ∧ vk = .bool (ok && !anyX x (PL.take j)) ∧ Hid (Below w2.heap.size w2 wr)
set_option maxHeartbeats 3200000 in
theorem rplan_any (l : List Rl) (v : Value) (m : List Pr) (vm : Value) (w : World) (hl : FR.X w v l) (hm : FP.X w vm m) (hn : l.length ≤ 1000000) (hn2 : m.length ≤ 100000) :
    Calls Tryd.prog 15 #[v, vm] w (PE l m w) := by
  obtain ⟨a, cap, rfl⟩ := hl.any
  obtain ⟨a2, cap2, rfl⟩ := hm.any
  have hE : ∀ v W, FC.Row W w.heap.size v (plan l m) → Below w.heap.size w W → PE l m w (.returned v) W := fun v W h1 h2 => ⟨v, rfl, h1, h2⟩
  generalize PE l m w = Pst at *
  replace hE := Lib.hid hE
  replace hl := Lib.hid hl
  replace hm := Lib.hid hm
  go_enter Tryd.func15, Tryd.ntmps15
  go_wp2
  go_loopw [5, 6] (fun vo i wr => PR w l m vo i wr) (fun _ i _ => m.length - (intOf i).toNat)
  case atStart => exact ⟨0, Nat.zero_le _, rfl, Fl.Row.nil FC _ _, Below.refl _ _⟩
  case round =>
    obtain ⟨k, hk, rfl, hR, hB⟩ := hrel
    by_cases hlt : k < m.length
    · have hd2 : decide ((k : Int) < (m.length : Int)) = true := decide_eq_true (by omega)
      obtain ⟨x, hx⟩ : ∃ x, m[k]? = some x := ⟨_, List.getElem?_eq_getElem hlt⟩
      obtain ⟨g, o, rfl, p0, p1, p2, p3, p4, p5, p6⟩ := FP.at hm.out k x hx
      have p0 := bkeep hB.out p0
      have p1 := bkeep hB.out p1
      have p2 := bkeep hB.out p2
      have p3 := bkeep hB.out p3
      have p4 := bkeep hB.out p4
      have p5 := bkeep hB.out p5
      have p6 := bkeep hB.out p6
      have i1 : (0 : Int) ≤ (k : Int) := by omega
      have i2 : (k : Int) < (m.length : Int) := by omega
      have hpl := plan_take l hx
      have hlen := plan_len l (m.take k)
      rw [List.length_take] at hlen
      have hlen : (plan l (m.take k)).length ≤ 100000 := by omega
      generalize plan l (m.take k) = PL at *
      unfold planS at hpl
      rw [anyX_all] at hpl
      obtain ⟨va, vc, rfl⟩ := hR.out.any
      have hC := rchoose_any l _ x wr (hl.out.below hB.out) (by omega)
      unfold chV prV at hC
      replace hC := Lib.hid hC
      generalize choose l x = cx at *
      obtain ⟨sd, ok⟩ := cx
      clear hx
      replace hpl := Lib.hid hpl
      go_wp2_with (first | (go_at_call 12; (with_reducible refine hC.out.mono ?_); rintro e4 w2 ⟨rfl, hA⟩; have hR2 := Lib.hid (hR.out.below hA); have hb2 := Lib.hid (bt hB.out hA); have q0 := bkeep hA p0; clear hA))
      clear p0 p1 p2 p3 p4 p5 p6
      go_loopw [8, 9] (fun vk i wr => PQ w2 x.x ok PL vk i wr) (fun _ i _ => PL.length - (intOf i).toNat)
      case atStart => exact ⟨0, Nat.zero_le _, rfl, by simp [anyX], Below.refl _ _⟩
      case round =>
        obtain ⟨j, hj, rfl, rfl, hB3⟩ := hrel
        by_cases hlt2 : j < PL.length
        · have hd3 : decide ((j : Int) < (PL.length : Int)) = true := decide_eq_true (by omega)
          obtain ⟨c, hc⟩ : ∃ c, PL[j]? = some c := ⟨_, List.getElem?_eq_getElem hlt2⟩
          obtain ⟨g2, o2, rfl, c0, c1, c2, c3⟩ := FC.at hR2.out.x j c hc
          have c1 := bkeep hB3.out c1
          have q1 := bkeep hB3.out q0
          have j1 : (0 : Int) ≤ (j : Int) := by omega
          have j2 : (j : Int) < (PL.length : Int) := by omega
          have hst : Hid ((ok && !anyX x.x (PL.take (j + 1))) = ((ok && !anyX x.x (PL.take j)) && !decide (c.1 = x.x))) := by
            show _ = _
            rw [anyX_take x.x hc]
            cases ok <;> cases anyX x.x (PL.take j) <;> simp
          have hfin := Lib.hid (fun n => bdraws hB3.out n)
          generalize (ok && !anyX x.x (PL.take j)) = b at *
          clear hc q0 c0 c2 c3
          cases b with
          | false =>
            go_wp2
            go_quiet (fail)
            go_wp2
            exact ⟨⟨j + 1, by omega, by go_num, by rw [hst.out]; simp, hfin.out _⟩, by simp [intOf]; omega⟩
          | true =>
            by_cases he : c.1 = x.x
            · have he1 : (c.1 == x.x) = true := by rw [he]; simp
              have he3 : (x.x == x.x) = true := by simp
              have hst2 : Hid (.bool false = Value.bool (ok && !anyX x.x (PL.take (j + 1)))) := by show _ = _; rw [hst.out, decide_eq_true he]; rfl
              rw [he] at c1
              clear he hst
              go_wp2
              go_quiet (fail)
              go_wp2
              exact ⟨⟨j + 1, by omega, by go_num, hst2.out, hfin.out _⟩, by simp [intOf]; omega⟩
            · have he1 : (c.1 == x.x) = false := by rw [beq_eq_false_iff_ne]; exact he
              have hst2 : Hid (.bool true = Value.bool (ok && !anyX x.x (PL.take (j + 1)))) := by show _ = _; rw [hst.out, decide_eq_false he]; rfl
              clear he hst
              go_wp2
              go_quiet (fail)
              go_wp2
              exact ⟨⟨j + 1, by omega, by go_num, by rw [← hst2.out]; simp [bne, he1], hfin.out _⟩, by simp [intOf]; omega⟩
        · have hd3 : decide ((j : Int) < (PL.length : Int)) = false := decide_eq_false (by omega)
          have he : PL.take j = PL := List.take_of_length_le (by omega)
          rw [he]
          have hpl2 : Hid (plan l (m.take (k + 1)) = if (ok && !anyX x.x PL) = true then PL ++ [(x.x, sd)] else PL) := by
            show _ = _
            rw [hpl.out]
            simp only [Bool.and_eq_true]
          have q1 := bkeep hB3.out q0
          have hR3 := Lib.hid (hR2.out.below hB3.out)
          have hb3 := Lib.hid (bt hb2.out hB3.out)
          generalize (ok && !anyX x.x PL) = b at *
          clear q0 he
          cases b with
          | false =>
            go_wp2
            refine ⟨⟨k + 1, by omega, by go_num, ?_, hb3⟩, by simp [intOf]; omega⟩
            show FC.Row _ _ _ (plan l (m.take (k + 1)))
            rw [hpl2.out, if_neg (by simp)]
            exact hR3.out
          | true =>
            go_wp2_with (at_builtin; refine Fl.wpl_app FC rfl (.tmp 46) (.tmp 54) _ w.heap.size _ _ PL [(x.x, sd)] rfl rfl (hR3.out.below (alb _ _)) (Fl.X.lit FC _ [(x.x, sd)] _ 1 1 rfl rfl) (by simp; omega) (Nat.le_trans hb3.out.size (alb _ _).size) ?_ rfl rfl; intro v5 w5 h5 h6 _; replace h5 := Lib.hid h5; replace h6 := Lib.hid h6)
            refine ⟨⟨k + 1, by omega, by go_num, ?_, ?_⟩, by simp [intOf]; omega⟩
            · show FC.Row _ _ _ (plan l (m.take (k + 1)))
              rw [hpl2.out, if_pos rfl]
              exact h5.out
            · have hlt := (hR3.out.below (alb _ (.cells #[.int .i64 3, .int .i64 x.x, .int .i64 sd, .string ByteArray.empty] 45))).lt
              exact h6.out.after (bt hb3.out (alb _ _)) (Nat.le_trans hb3.out.size (alb _ _).size) fun q hq e => by
                have := (hlt q e.symm).1
                omega
    · have hd2 : decide ((k : Int) < (m.length : Int)) = false := decide_eq_false (by omega)
      have he : m.take k = m := List.take_of_length_le (by omega)
      rw [he] at hR
      go_wp2
      exact hE.out _ _ hR.out hB.out
end Go.Proofs.YtnflnaalpeeciaaDoor
