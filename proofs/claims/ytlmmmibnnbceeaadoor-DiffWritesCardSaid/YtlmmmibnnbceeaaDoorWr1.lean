/-
  Parts in writing (chapter 41): both sides' Print.
-/
import Derived.Test.YtlmmmibnnbceeaaDoorWr0
import Derived.Test.YtlmmmibnnbceeaaDoorCount
import Derived.Test.YtlmmmibnnbceeaaDoorDraw
import Derived.Test.YtlmmmibnnbceeaaDoorTexts
import Derived.Test.YtlmmmibnnbceeaaDoorShelf
namespace Go.Proofs.YtlmmmibnnbceeaaDoor
open Go.RowKit
set_option linter.unusedVariables false
set_option linter.unusedSimpArgs false
set_option maxRecDepth 20000

theorem alb (W : World) (o : Obj) : Below W.heap.size W (W.alloc o) := (Below.refl _ _).alloc (Nat.le_refl _) _
theorem bdrw (w : World) : Below w.heap.size w w.drew := ⟨rfl, rfl, rfl, Nat.le_refl _, fun _ _ => rfl⟩
theorem jn_size : ∀ l : List ByteArray, (jn l).size ≤ (l.map ByteArray.size).sum + l.length := by
  have key : ∀ (n : Nat) (l : List ByteArray), l.length = n → (jn l).size ≤ (l.map ByteArray.size).sum + l.length := by
    intro n
    induction n with
    | zero =>
      intro l hl
      obtain rfl := List.length_eq_zero_iff.1 hl
      rw [jn_nil]; exact Nat.zero_le _
    | succ n ih =>
      intro l hl
      have hne : l ≠ [] := by rintro rfl; simp at hl
      obtain ⟨m, x, rfl⟩ : ∃ m x, l = m ++ [x] := ⟨l.dropLast, l.getLast hne, (List.dropLast_concat_getLast hne).symm⟩
      have h1 := ih m (by simpa using hl)
      by_cases hm : m = []
      · subst hm
        rw [List.nil_append, jn_one]; simp
      · rw [jn_snoc x hm, ByteArray.size_append, ByteArray.size_append]
        have : spB.size = 1 := rfl
        simp only [List.map_append, List.map_cons, List.map_nil, List.sum_append, List.sum_cons, List.sum_nil, List.length_append, List.length_cons, List.length_nil]
        omega
  exact fun l => key l.length l rfl
theorem tx_lit (W : World) (xs : List ByteArray) (cs : Array Value) (n : Nat) (hn : n = xs.length) (hc : cs = (xs.map Value.string).toArray) : TX (W.alloc (.cells cs 9)) 0 (.slice (some ⟨W.heap.size, 0, none⟩) n n) xs := by
  subst hn hc
  refine .inr ⟨W.heap.size, 0, xs.length, rfl, Nat.le_refl _, Nat.zero_le _, fun k hk => ?_⟩
  rw [Nat.zero_add]
  simp [go_sem, hk]
theorem join_strs (w : World) (B : Nat) (v : Value) (xs : List ByteArray) (h : Strs w B v xs) (h0 : xs ≠ []) (hs : (jn xs).size ≤ 1099511627776) (hm : xs.length ≤ 1099511627776) :
    Calls Tryd.prog 21 #[v, .string ⟨#[32]⟩] w fun e w' => e = .returned (.string (jn xs)) ∧ Below w.heap.size w w' := by
  rcases h.tx with ⟨rfl, h1⟩ | ⟨g, o, cap, rfl, h2, _, h3⟩
  · exact absurd h1 h0
  have hg : g < w.heap.size := World.block_lt_of_cell? _ _ (h3 0 (List.length_pos_iff.2 h0))
  have hJ := Tryd.strings_Join g o cap xs spB w
    (by
      intro j x hj
      obtain ⟨h4, h5⟩ := List.getElem?_eq_some_iff.1 hj
      subst h5
      exact h3 j h4)
    hg (by omega) h2
    (by
      have e : (jn xs).size = (Lib.join (xs.map (·.data.toList)) spB.data.toList).length := rfl
      rw [← e]; omega)
  exact hJ
theorem Strs.below {W W' : World} {B : Nat} {v : Value} {l : List ByteArray} (h : Strs W B v l) (hb : Below W.heap.size W W') : Strs W' B v l := h.frm (S := fun _ => False) (.ofBelow hb) fun _ _ => id
theorem frmB {w a w' : World} {B : Nat} (hf : Frm (fun k => B ≤ k) a w') (hb : Below B w a) (hB : B ≤ a.heap.size) : Below B w w' := hf.after hb hB fun k hk => Nat.not_le.2 hk
def FStr : Fl ByteArray where
  T := 9
  Ts := 39
  k := 1
  bytes := 16
  zero := .string ByteArray.empty
  fl := fun x => [.string x]
  len _ := rfl
  one x u hu := by
    simp at hu
    subst hu; rfl
  pos := by decide
  small := by decide
  under := Tryd.underlying39
  info := by kernel_rfl
  zlen := rfl
theorem str_flat (l : List ByteArray) : FStr.flat l = l.map Value.string := by
  unfold Fl.flat
  induction l with
  | nil => rfl
  | cons a l ih => rw [List.flatMap_cons, ih]; rfl
theorem Strs.row {w : World} {B : Nat} {v : Value} {l : List ByteArray} : Strs w B v l ↔ FStr.Row w B v l := by
  unfold Fl.Row
  rw [str_flat]
  exact Iff.rfl
theorem TX.x {w : World} {v : Value} {l : List ByteArray} (h : TX w 0 v l) : FStr.X w v l := by
  rcases h with ⟨rfl, rfl⟩ | ⟨g, o, cap, rfl, _, _, hc⟩
  · exact ⟨none, 0, rfl, fun h => absurd rfl h⟩
  · refine ⟨_, cap, rfl, fun _ => ⟨g, o, rfl, fun j u hj => ?_⟩⟩
    rw [str_flat] at hj
    obtain ⟨hk, rfl⟩ := List.getElem?_eq_some_iff.1 hj
    rw [List.length_map] at hk
    rw [List.getElem_map]
    exact hc j hk
theorem step_app_tx2 {ops : Array Oper} {o : Oper} {a : Act} {K : Act → World → Prop} {Q : Exit → Act → World → Prop} {E : Prop} (hg : o.guard = none) (s x : Operand) (w : World) (B : Nat) (v vx : Value) (l m : List ByteArray) (hs : a.eval s = v) (hx : a.eval x = vx)
    (hown : Strs w B v l) (htx : TX w 0 vx m) (hlen : l.length + m.length ≤ 1000000) (hB : B ≤ w.heap.size)
    (h : ∀ v' w', Strs w' B v' (l ++ m) → Frm (fun k => some k = v.ownBlock) w w' → K (a.put o.dst v') w')
    (ho : o.op = .call { callee := .builtin .append, args := #[s, x], argTypes := #[39, 39] } := by rfl) (ht : o.type = 39 := by rfl) : if Region.wanted o (yielded ops a.tmps) = true then Oper.wp Tryd.prog o a w K Q else E := by
  have hw : Region.wanted o (yielded ops a.tmps) = true := by simp [Region.wanted, hg]
  rw [if_pos hw]
  exact FStr.wp_app s x w B v vx l m hs hx (Strs.row.1 hown) htx.x hlen hB (fun v' w' h1 h2 _ => h v' w' (Strs.row.2 h1) h2) ho ht
theorem jn_take {l : List ByteArray} {k : Nat} {x : ByteArray} (h : l[k]? = some x) (h0 : 0 < k) : jn (l.take (k + 1)) = (jn (l.take k) ++ spB) ++ x := by
  have hk : k < l.length := (List.getElem?_eq_some_iff.1 h).1
  rw [List.take_add_one, h]
  exact jn_snoc x (by
    intro e
    have := congrArg List.length e
    rw [List.length_take, Nat.min_eq_left (by omega), List.length_nil] at this
    omega)
theorem jn_mono (l : List ByteArray) : ∀ d k, k + d = l.length → (jn (l.take k)).size ≤ (jn l).size
  | 0, k, h => by rw [List.take_of_length_le (by omega)]; exact Nat.le_refl _
  | d + 1, k, h => by
    refine Nat.le_trans ?_ (jn_mono l d (k + 1) (by omega))
    obtain ⟨x, hx⟩ : ∃ x, l[k]? = some x := ⟨_, List.getElem?_eq_getElem (by omega)⟩
    by_cases h0 : 0 < k
    · rw [jn_take hx h0, ByteArray.size_append, ByteArray.size_append]; omega
    · obtain rfl : k = 0 := by omega
      rw [List.take_zero, jn_nil]; exact Nat.zero_le _
theorem join_none (w : World) : Calls Tryd.prog 21 #[.slice none 0 0, .string ⟨#[32]⟩] w fun e w' => e = .returned (.string ⟨#[]⟩) ∧ w' = w := by
  go_enter Tryd.func21, Tryd.ntmps21
  go_wp2
  go_ret
  exact ⟨rfl, rfl⟩
theorem join_row (w : World) (B : Nat) (v : Value) (xs : List ByteArray) (h : Strs w B v xs) (hs : (jn xs).size ≤ 1099511627776) (hm : xs.length ≤ 1099511627776) :
    Calls Tryd.prog 21 #[v, .string ⟨#[32]⟩] w fun e w' => e = .returned (.string (jn xs)) ∧ Below w.heap.size w w' := by
  by_cases h0 : xs = []
  · subst h0
    rcases h.tx with ⟨rfl, _⟩ | ⟨g, o, cap, rfl, h2, _, h3⟩
    · refine (join_none w).mono ?_
      rintro e w' ⟨h1, rfl⟩
      exact ⟨h1, Below.refl _ _⟩
    · rcases h.2 with ⟨e, _⟩ | ⟨g', cap', cur, e, _, hg, _⟩
      · cases e
      · injection e with e1 e2 e3
        injection e1 with e1
        injection e1 with e4 e5
        subst e4 e5
        exact Tryd.strings_Join g 0 cap [] spB w (fun j x hj => by simp at hj) (Array.getElem?_eq_some_iff.1 hg).1 (by simp) (Nat.zero_le _) (by decide)
  · exact join_strs w B v xs h h0 hs hm
theorem letter_any (x : Int) (w : World) : Calls Tryd.prog 20 #[.int .i64 x] w fun e w' => e = .returned (.string (letS x)) ∧ w' = w := by
  unfold letS
  by_cases h : x = 0
  · subst h
    rw [if_pos rfl]
    go_enter Tryd.func20, Tryd.ntmps20
    go_wp2
    go_ret
    exact ⟨rfl, rfl⟩
  · rw [if_neg h]
    have n1 : (x == 0) = false := by simpa using h
    go_enter Tryd.func20, Tryd.ntmps20
    go_wp2
    go_ret
    exact ⟨rfl, rfl⟩
def HP (W : World) (K : Nat) (x : I3) : Prop := W.cell? ⟨K, 0, none⟩ = some (.int .i64 x.1) ∧ W.cell? ⟨K, 1, none⟩ = some (.int .i64 x.2.1) ∧ W.cell? ⟨K, 2, none⟩ = some (.int .i64 x.2.2)
theorem HP.below {W W' : World} {K : Nat} {x : I3} (h : HP W K x) (hb : Below W.heap.size W W') : HP W' K x := ⟨bkeep hb h.1, bkeep hb h.2.1, bkeep hb h.2.2⟩
theorem HP.new (W : World) (T : TypeId) (x : I3) : HP (W.alloc (.cells #[.int .i64 x.1, .int .i64 x.2.1, .int .i64 x.2.2] T)) W.heap.size x := ⟨by simp [go_sem], by simp [go_sem], by simp [go_sem]⟩
theorem HP.frm {S : Nat → Prop} {W W' : World} {K : Nat} {x : I3} (h : HP W K x) (hf : Frm S W W') (h1 : ¬ S K) : HP W' K x := ⟨hf.cell h1 h.1, hf.cell h1 h.2.1, hf.cell h1 h.2.2⟩
theorem prn_take {l : List I3} {k : Nat} {x : I3} (h : l[k]? = some x) : (l.take (k + 1)).map wdS = (l.take k).map wdS ++ [wdS x] := by
  rw [List.take_add_one, h]
  simp
theorem prn_size (l : List I3) : (prn l).size ≤ l.length * 45 := by
  have h1 := jn_size (l.map wdS)
  have h2 : ∀ l : List I3, ((l.map wdS).map ByteArray.size).sum ≤ l.length * 44 := by
    intro l
    induction l with
    | nil => simp
    | cons a l ih =>
      have := wd_size a
      simp only [List.map_cons, List.sum_cons, List.length_cons]
      omega
  have := h2 l
  rw [List.length_map] at h1
  unfold prn
  omega
def WRel (w : World) (l : List I3) (vo vi : Value) (wr : World) : Prop := ∃ k : Nat, k ≤ l.length ∧ vi = .int .i64 k ∧ Hid (Strs wr w.heap.size vo ((l.take k).map wdS)) ∧ Hid (Below w.heap.size w wr)
set_option maxHeartbeats 3200000 in
theorem print_any (a : Option Addr) (cap : Nat) (l : List I3) (w : World) (hl : P3At w a l) (hi : ∀ x ∈ l, I64 x.1 ∧ I64 x.2.1) (hn : l.length ≤ 2000) : Calls Tryd.prog 8 #[.slice a l.length cap] w fun e w' => e = .returned (.string (prn l)) ∧ Below w.heap.size w w' := by
  have hE : ∀ W, Below w.heap.size w W → (fun (e : Ending) (w' : World) => e = .returned (.string (prn l)) ∧ Below w.heap.size w w') (.returned (.string (jn (l.map wdS)))) W := fun W h => ⟨rfl, h⟩
  have hz := prn_size l
  generalize (fun (e : Ending) (w' : World) => e = .returned (.string (prn l)) ∧ Below w.heap.size w w') = Pst at *
  replace hE := Lib.hid hE
  replace hl := Lib.hid hl
  go_enter Tryd.func8, Tryd.ntmps8
  go_wp2
  go_loopw [3, 8] (fun vo vi wr => WRel w l vo vi wr) (fun _ vi _ => l.length - (intOf vi).toNat)
  case atStart => exact ⟨0, Nat.zero_le _, rfl, Lib.hid (Strs.nil _ _), Below.refl _ _⟩
  case round =>
    obtain ⟨k, hk, rfl, hO, hB⟩ := hrel
    by_cases hlt : k < l.length
    · have hd2 : decide ((k : Int) < (l.length : Int)) = true := decide_eq_true (by omega)
      have hd3 : decide (k < l.length) = true := decide_eq_true hlt
      obtain ⟨y, hy⟩ : ∃ y, l[k]? = some y := ⟨_, List.getElem?_eq_getElem hlt⟩
      obtain ⟨g, o, rfl, p0, p1, p2⟩ := hl.out k y hy
      have hyi := hi y (List.mem_of_getElem? hy)
      have hct := Lib.hid (prn_take hy)
      have hT1 := fun W => text_any y.1 W hyi.1.1 hyi.1.2
      have hT2 := fun W => text_any y.2.1 W hyi.2.1 hyi.2.2
      have hLt := fun W => letter_any y.2.2 W
      have z1 := text_size y.1
      have z2 := text_size y.2.1
      have z3 : (letS y.2.2).size ≤ 1 := by unfold letS; split <;> decide
      have hwd : wdS y = ((textS y.1 ++ ⟨#[45]⟩) ++ textS y.2.1) ++ letS y.2.2 := rfl
      have hcl : ((l.take k).map wdS).length ≤ 2000 := by rw [List.length_map, List.length_take]; omega
      generalize (l.take k).map wdS = SN at *
      generalize wdS y = cs at *
      generalize textS y.1 = t1 at *
      generalize textS y.2.1 = t2 at *
      generalize letS y.2.2 = t3 at *
      have p0 := bkeep hB.out p0
      have p1 := bkeep hB.out p1
      have p2 := bkeep hB.out p2
      have i1 : (0 : Int) ≤ (k : Int) := by omega
      have i2 : (k : Int) < (l.length : Int) := by omega
      have g1 : ¬ 9223372036854775807 < t1.size + 1 := by omega
      have g2 : ¬ 9223372036854775807 < t1.size + 1 + t2.size := by omega
      have g3 : ¬ 9223372036854775807 < t1.size + 1 + t2.size + t3.size := by omega
      have hol := Lib.hid (fun q (hq : u3.ownBlock = some q) => World.ownsRow.lt hO.out q hq)
      have hx := HP.new wr 42 y
      have hbW := bt (alb wr (.cells #[.int .i64 y.1, .int .i64 y.2.1, .int .i64 y.2.2] 42)) (bdrw _)
      replace hx := Lib.hid (hx.below (bdrw _))
      replace hO := Lib.hid (hO.out.below hbW)
      replace hB := Lib.hid (bt hB.out hbW)
      replace hT1 := Lib.hid hT1
      replace hT2 := Lib.hid hT2
      replace hLt := Lib.hid hLt
      replace hwd := Lib.hid hwd
      clear hy hyi hbW z1 z2 z3
      go_wp2_with fail
      have hM0 := hx
      clear p0 p1 p2 hx
      refine wp_region_held_drew (S := (fun w' => HP w' wr.heap.size y)) (by kernel_rfl) ?_ (fun hHeld => ?_)
      · first | with_reducible exact hM0.out | exact HP.below hM0.out (alb _ _) | with_reducible exact hM1.out
      first | (refine tw (i := 0) (v := ?_) ?_ hHeld ?_; rotate_left; focus (intro w hSw; (try dsimp only at hSw); (try simp only [HP] at hSw); go_simp; (try with_reducible rfl); done)) | refine tn (i := 0) hHeld ?_
      try simp only [Act.put, List.setIfInBounds_toArray, List.set_cons_zero, List.set_cons_succ]
      first | (refine tw (i := 1) (v := ?_) ?_ hHeld ?_; rotate_left; focus (intro w hSw; (try dsimp only at hSw); (try simp only [HP] at hSw); go_simp; (try with_reducible rfl); done)) | refine tn (i := 1) hHeld ?_
      try simp only [Act.put, List.setIfInBounds_toArray, List.set_cons_zero, List.set_cons_succ]
      first | (refine tw (i := 2) (v := ?_) ?_ hHeld ?_; rotate_left; focus (intro w hSw; (try dsimp only at hSw); (try simp only [HP] at hSw); go_simp; (try with_reducible rfl); done)) | refine tn (i := 2) hHeld ?_
      try simp only [Act.put, List.setIfInBounds_toArray, List.set_cons_zero, List.set_cons_succ]
      first | (refine tw (i := 3) (v := ?_) ?_ hHeld ?_; rotate_left; focus (intro w hSw; (try dsimp only at hSw); (try simp only [HP] at hSw); go_simp; (try with_reducible rfl); done)) | refine tn (i := 3) hHeld ?_
      try simp only [Act.put, List.setIfInBounds_toArray, List.set_cons_zero, List.set_cons_succ]
      first | (refine tw (i := 6) (v := ?_) ?_ hHeld ?_; rotate_left; focus (intro w hSw; (try dsimp only at hSw); (try simp only [HP] at hSw); go_simp; (try with_reducible rfl); done)) | refine tn (i := 6) hHeld ?_
      try simp only [Act.put, List.setIfInBounds_toArray, List.set_cons_zero, List.set_cons_succ]
      first | (refine tw (i := 7) (v := ?_) ?_ hHeld ?_; rotate_left; focus (intro w hSw; (try dsimp only at hSw); (try simp only [HP] at hSw); go_simp; (try with_reducible rfl); done)) | refine tn (i := 7) hHeld ?_
      try simp only [Act.put, List.setIfInBounds_toArray, List.set_cons_zero, List.set_cons_succ]
      first | (refine tw (i := 8) (v := ?_) ?_ hHeld ?_; rotate_left; focus (intro w hSw; (try dsimp only at hSw); (try simp only [HP] at hSw); go_simp; (try with_reducible rfl); done)) | refine tn (i := 8) hHeld ?_
      try simp only [Act.put, List.setIfInBounds_toArray, List.set_cons_zero, List.set_cons_succ]
      first | (refine tw (i := 11) (v := ?_) ?_ hHeld ?_; rotate_left; focus (intro w hSw; (try dsimp only at hSw); (try simp only [HP] at hSw); go_simp; (try with_reducible rfl); done)) | refine tn (i := 11) hHeld ?_
      try simp only [Act.put, List.setIfInBounds_toArray, List.set_cons_zero, List.set_cons_succ]
      first | (refine tw (i := 12) (v := ?_) ?_ hHeld ?_; rotate_left; focus (intro w hSw; (try dsimp only at hSw); (try simp only [HP] at hSw); go_simp; (try with_reducible rfl); done)) | refine tn (i := 12) hHeld ?_
      try simp only [Act.put, List.setIfInBounds_toArray, List.set_cons_zero, List.set_cons_succ]
      refine call_next (i := 4) (by kernel_rfl) (by rfl) ?_
      intro o ho K hK
      simp only [List.getElem?_toArray, List.getElem?_cons_succ, List.getElem?_cons_zero, Option.some.injEq] at ho
      subst ho
      first | ((refine step_app_tx2 rfl (.tmp 12) (.tmp 27) _ w.heap.size _ _ SN [cs] rfl rfl (hO.out.below (alb _ _)) (tx_lit _ [cs] _ 1 rfl (by rw [hwd.out]; rfl)) (by simp; omega) (bt hB.out (alb _ _)).size ?_ rfl rfl; intro v8 w8 h8 h9; replace hO := Lib.hid h8; have hM1 := Lib.hid (HP.frm (HP.below hM0.out (alb _ _)) h9 (fun e => Nat.lt_irrefl _ (hol.out _ e.symm).2)); replace hB := Lib.hid (h9.after (bt hB.out (alb _ _)) (bt hB.out (alb _ _)).size fun q hq e => Nat.lt_irrefl _ (Nat.lt_of_lt_of_le hq (hol.out _ e.symm).1)); clear h8 h9); refine hK.out _ _ ?_ (fun hHeld => ?_)) | (go_simp; first | (with_reducible refine hK.out _ _ ?_ (fun hHeld => ?_)) | ((first | (go_at_call 19; (with_reducible refine (hT1.out _).mono ?_); rintro e6 w6 ⟨rfl, hA⟩; replace hB := Lib.hid (bt hB.out hA); replace hO := Lib.hid (hO.out.below hA); replace hM0 := Lib.hid (HP.below hM0.out hA); clear hA) | (go_at_call 19; (with_reducible refine (hT2.out _).mono ?_); rintro e6 w6 ⟨rfl, hA⟩; replace hB := Lib.hid (bt hB.out hA); replace hO := Lib.hid (hO.out.below hA); replace hM0 := Lib.hid (HP.below hM0.out hA); clear hA) | (go_at_call 20; (with_reducible refine (hLt.out _).mono ?_); rintro e6 w7 ⟨rfl, rfl⟩)); refine hK.out _ _ ?_ (fun hHeld => ?_)))
      · first | with_reducible exact hM0.out | exact HP.below hM0.out (alb _ _) | with_reducible exact hM1.out
      clear hK K
      try simp only [Act.put, List.setIfInBounds_toArray, List.set_cons_zero, List.set_cons_succ]
      first | (refine tw (i := 5) (v := ?_) ?_ hHeld ?_; rotate_left; focus (intro w hSw; (try dsimp only at hSw); (try simp only [HP] at hSw); go_simp; (try with_reducible rfl); done)) | refine tn (i := 5) hHeld ?_
      try simp only [Act.put, List.setIfInBounds_toArray, List.set_cons_zero, List.set_cons_succ]
      refine call_next (i := 9) (by kernel_rfl) (by rfl) ?_
      intro o ho K hK
      simp only [List.getElem?_toArray, List.getElem?_cons_succ, List.getElem?_cons_zero, Option.some.injEq] at ho
      subst ho
      first | ((refine step_app_tx2 rfl (.tmp 12) (.tmp 27) _ w.heap.size _ _ SN [cs] rfl rfl (hO.out.below (alb _ _)) (tx_lit _ [cs] _ 1 rfl (by rw [hwd.out]; rfl)) (by simp; omega) (bt hB.out (alb _ _)).size ?_ rfl rfl; intro v8 w8 h8 h9; replace hO := Lib.hid h8; have hM1 := Lib.hid (HP.frm (HP.below hM0.out (alb _ _)) h9 (fun e => Nat.lt_irrefl _ (hol.out _ e.symm).2)); replace hB := Lib.hid (h9.after (bt hB.out (alb _ _)) (bt hB.out (alb _ _)).size fun q hq e => Nat.lt_irrefl _ (Nat.lt_of_lt_of_le hq (hol.out _ e.symm).1)); clear h8 h9); refine hK.out _ _ ?_ (fun hHeld => ?_)) | (go_simp; first | (with_reducible refine hK.out _ _ ?_ (fun hHeld => ?_)) | ((first | (go_at_call 19; (with_reducible refine (hT1.out _).mono ?_); rintro e6 w6 ⟨rfl, hA⟩; replace hB := Lib.hid (bt hB.out hA); replace hO := Lib.hid (hO.out.below hA); replace hM0 := Lib.hid (HP.below hM0.out hA); clear hA) | (go_at_call 19; (with_reducible refine (hT2.out _).mono ?_); rintro e6 w6 ⟨rfl, hA⟩; replace hB := Lib.hid (bt hB.out hA); replace hO := Lib.hid (hO.out.below hA); replace hM0 := Lib.hid (HP.below hM0.out hA); clear hA) | (go_at_call 20; (with_reducible refine (hLt.out _).mono ?_); rintro e6 w7 ⟨rfl, rfl⟩)); refine hK.out _ _ ?_ (fun hHeld => ?_)))
      · first | with_reducible exact hM0.out | exact HP.below hM0.out (alb _ _) | with_reducible exact hM1.out
      clear hK K
      try simp only [Act.put, List.setIfInBounds_toArray, List.set_cons_zero, List.set_cons_succ]
      first | (refine tw (i := 10) (v := ?_) ?_ hHeld ?_; rotate_left; focus (intro w hSw; (try dsimp only at hSw); (try simp only [HP] at hSw); go_simp; (try with_reducible rfl); done)) | refine tn (i := 10) hHeld ?_
      try simp only [Act.put, List.setIfInBounds_toArray, List.set_cons_zero, List.set_cons_succ]
      refine call_next (i := 13) (by kernel_rfl) (by rfl) ?_
      intro o ho K hK
      simp only [List.getElem?_toArray, List.getElem?_cons_succ, List.getElem?_cons_zero, Option.some.injEq] at ho
      subst ho
      first | ((refine step_app_tx2 rfl (.tmp 12) (.tmp 27) _ w.heap.size _ _ SN [cs] rfl rfl (hO.out.below (alb _ _)) (tx_lit _ [cs] _ 1 rfl (by rw [hwd.out]; rfl)) (by simp; omega) (bt hB.out (alb _ _)).size ?_ rfl rfl; intro v8 w8 h8 h9; replace hO := Lib.hid h8; have hM1 := Lib.hid (HP.frm (HP.below hM0.out (alb _ _)) h9 (fun e => Nat.lt_irrefl _ (hol.out _ e.symm).2)); replace hB := Lib.hid (h9.after (bt hB.out (alb _ _)) (bt hB.out (alb _ _)).size fun q hq e => Nat.lt_irrefl _ (Nat.lt_of_lt_of_le hq (hol.out _ e.symm).1)); clear h8 h9); refine hK.out _ _ ?_ (fun hHeld => ?_)) | (go_simp; first | (with_reducible refine hK.out _ _ ?_ (fun hHeld => ?_)) | ((first | (go_at_call 19; (with_reducible refine (hT1.out _).mono ?_); rintro e6 w6 ⟨rfl, hA⟩; replace hB := Lib.hid (bt hB.out hA); replace hO := Lib.hid (hO.out.below hA); replace hM0 := Lib.hid (HP.below hM0.out hA); clear hA) | (go_at_call 19; (with_reducible refine (hT2.out _).mono ?_); rintro e6 w6 ⟨rfl, hA⟩; replace hB := Lib.hid (bt hB.out hA); replace hO := Lib.hid (hO.out.below hA); replace hM0 := Lib.hid (HP.below hM0.out hA); clear hA) | (go_at_call 20; (with_reducible refine (hLt.out _).mono ?_); rintro e6 w7 ⟨rfl, rfl⟩)); refine hK.out _ _ ?_ (fun hHeld => ?_)))
      · first | with_reducible exact hM0.out | exact HP.below hM0.out (alb _ _) | with_reducible exact hM1.out
      clear hK K
      try simp only [Act.put, List.setIfInBounds_toArray, List.set_cons_zero, List.set_cons_succ]
      first | (refine tw (i := 14) (v := ?_) ?_ hHeld ?_; rotate_left; focus (intro w hSw; (try dsimp only at hSw); (try simp only [HP] at hSw); go_simp; (try with_reducible rfl); done)) | refine tn (i := 14) hHeld ?_
      try simp only [Act.put, List.setIfInBounds_toArray, List.set_cons_zero, List.set_cons_succ]
      refine call_next (i := 15) (by kernel_rfl) (by rfl) ?_
      intro o ho K hK
      simp only [List.getElem?_toArray, List.getElem?_cons_succ, List.getElem?_cons_zero, Option.some.injEq] at ho
      subst ho
      first | ((refine step_app_tx2 rfl (.tmp 12) (.tmp 27) _ w.heap.size _ _ SN [cs] rfl rfl (hO.out.below (alb _ _)) (tx_lit _ [cs] _ 1 rfl (by rw [hwd.out]; rfl)) (by simp; omega) (bt hB.out (alb _ _)).size ?_ rfl rfl; intro v8 w8 h8 h9; replace hO := Lib.hid h8; have hM1 := Lib.hid (HP.frm (HP.below hM0.out (alb _ _)) h9 (fun e => Nat.lt_irrefl _ (hol.out _ e.symm).2)); replace hB := Lib.hid (h9.after (bt hB.out (alb _ _)) (bt hB.out (alb _ _)).size fun q hq e => Nat.lt_irrefl _ (Nat.lt_of_lt_of_le hq (hol.out _ e.symm).1)); clear h8 h9); refine hK.out _ _ ?_ (fun hHeld => ?_)) | (go_simp; first | (with_reducible refine hK.out _ _ ?_ (fun hHeld => ?_)) | ((first | (go_at_call 19; (with_reducible refine (hT1.out _).mono ?_); rintro e6 w6 ⟨rfl, hA⟩; replace hB := Lib.hid (bt hB.out hA); replace hO := Lib.hid (hO.out.below hA); replace hM0 := Lib.hid (HP.below hM0.out hA); clear hA) | (go_at_call 19; (with_reducible refine (hT2.out _).mono ?_); rintro e6 w6 ⟨rfl, hA⟩; replace hB := Lib.hid (bt hB.out hA); replace hO := Lib.hid (hO.out.below hA); replace hM0 := Lib.hid (HP.below hM0.out hA); clear hA) | (go_at_call 20; (with_reducible refine (hLt.out _).mono ?_); rintro e6 w7 ⟨rfl, rfl⟩)); refine hK.out _ _ ?_ (fun hHeld => ?_)))
      · first | with_reducible exact hM0.out | exact HP.below hM0.out (alb _ _) | with_reducible exact hM1.out
      clear hK K
      try simp only [Act.put, List.setIfInBounds_toArray, List.set_cons_zero, List.set_cons_succ]
      refine call_next (i := 16) (by kernel_rfl) (by rfl) ?_
      intro o ho K hK
      simp only [List.getElem?_toArray, List.getElem?_cons_succ, List.getElem?_cons_zero, Option.some.injEq] at ho
      subst ho
      (refine step_app_tx2 rfl (.tmp 12) (.tmp 27) _ w.heap.size _ _ SN [cs] rfl rfl (hO.out.below (alb _ _)) (tx_lit _ [cs] _ 1 rfl (by rw [hwd.out]; rfl)) (by simp; omega) (bt hB.out (alb _ _)).size ?_ rfl rfl; intro v8 w8 h8 h9; replace hO := Lib.hid h8; have hM1 := Lib.hid (HP.frm (HP.below hM0.out (alb _ _)) h9 (fun e => Nat.lt_irrefl _ (hol.out _ e.symm).2)); replace hB := Lib.hid (h9.after (bt hB.out (alb _ _)) (bt hB.out (alb _ _)).size fun q hq e => Nat.lt_irrefl _ (Nat.lt_of_lt_of_le hq (hol.out _ e.symm).1)); clear h8 h9); refine hK.out _ _ ?_ (fun hHeld => ?_)
      · first | with_reducible exact hM0.out | exact HP.below hM0.out (alb _ _) | with_reducible exact hM1.out
      clear hK K
      try simp only [Act.put, List.setIfInBounds_toArray, List.set_cons_zero, List.set_cons_succ]
      first | (refine tw (i := 17) (v := ?_) ?_ hHeld ?_; rotate_left; focus (intro w hSw; (try dsimp only at hSw); (try simp only [HP] at hSw); go_simp; (try with_reducible rfl); done)) | refine tn (i := 17) hHeld ?_
      try simp only [Act.put, List.setIfInBounds_toArray, List.set_cons_zero, List.set_cons_succ]
      refine wpAnyH_done (by kernel_rfl) ?_ _
      go_wp2
      exact ⟨⟨k + 1, by omega, by go_num, by rw [hct.out]; exact hO, hB⟩, by simp [intOf]; omega⟩
    · have hd2 : decide ((k : Int) < (l.length : Int)) = false := decide_eq_false (by omega)
      have hd3 : decide (k < l.length) = false := decide_eq_false hlt
      rw [List.take_of_length_le (by omega)] at hO
      have hJ := Lib.hid (join_row wr w.heap.size _ _ hO.out (by unfold prn at hz; omega) (by rw [List.length_map]; omega))
      go_wp2_with (go_at_call 21; (with_reducible refine hJ.out.mono ?_); rintro e9 w9 ⟨rfl, hA⟩; replace hB := Lib.hid (bt hB.out hA))
      exact hE.out _ hB.out
end Go.Proofs.YtlmmmibnnbceeaaDoor
