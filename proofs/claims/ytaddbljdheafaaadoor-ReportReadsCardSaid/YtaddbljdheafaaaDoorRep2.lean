/-
  States in words (chapter 34): both sides' State; errors and operations.
-/
import Derived.Test.YtaddbljdheafaaaDoorRep1
import Derived.Test.YtaddbljdheafaaaDoorShelf
namespace Go.Proofs.YtaddbljdheafaaaDoor
open Go.RowKit
set_option linter.unusedVariables false
set_option linter.unusedSimpArgs false
set_option maxRecDepth 20000

theorem jn_size : ∀ l : List ByteArray, (jn l).size ≤ (l.map ByteArray.size).sum + l.length := by
  have key : ∀ (n : Nat) (l : List ByteArray), l.length = n → (jn l).size ≤ (l.map ByteArray.size).sum + l.length := by
    intro n
    induction n with
    | zero =>
      intro l hl
      obtain rfl := List.length_eq_zero_iff.1 hl
      rw [jn_nil]; exact Nat.zero_le _
    | succ n ih =>
      intro l hl
      have hne : l ≠ [] := by rintro rfl; simp at hl
      obtain ⟨m, x, rfl⟩ : ∃ m x, l = m ++ [x] := ⟨l.dropLast, l.getLast hne, (List.dropLast_concat_getLast hne).symm⟩
      have h1 := ih m (by simpa using hl)
      by_cases hm : m = []
      · subst hm
        rw [List.nil_append, jn_one]; simp
      · rw [jn_snoc x hm, ByteArray.size_append, ByteArray.size_append]
        have : spB.size = 1 := rfl
        simp only [List.map_append, List.map_cons, List.map_nil, List.sum_append, List.sum_cons, List.sum_nil, List.length_append, List.length_cons, List.length_nil]
        omega
  exact fun l => key l.length l rfl
theorem tx_lit (W : World) (xs : List ByteArray) (cs : Array Value) (n : Nat) (hn : n = xs.length) (hc : cs = (xs.map Value.string).toArray) : TX (W.alloc (.cells cs 9)) 0 (.slice (some ⟨W.heap.size, 0, none⟩) n n) xs := by
  subst hn hc
  refine .inr ⟨W.heap.size, 0, xs.length, rfl, Nat.le_refl _, Nat.zero_le _, fun k hk => ?_⟩
  rw [Nat.zero_add]
  simp [go_sem, hk]
theorem join_lit (W : World) (xs : List ByteArray) (cs : Array Value) (n : Nat) (hn : n = xs.length) (hc : cs = (xs.map Value.string).toArray) (hs : (jn xs).size ≤ 1099511627776) (hm : xs.length ≤ 1099511627776) :
    Calls Tryd.prog 32 #[.slice (some ⟨W.heap.size, 0, none⟩) n n, .string ⟨#[32]⟩] (W.alloc (.cells cs 9)) fun e w' => e = .returned (.string (jn xs)) ∧ Below W.heap.size W w' := by
  subst hn hc
  have hJ := Tryd.strings_Join W.heap.size 0 xs.length xs spB (W.alloc (.cells (xs.map Value.string).toArray 9))
    (by
      intro j x hj
      obtain ⟨h1, h2⟩ := List.getElem?_eq_some_iff.1 hj
      subst h2
      rw [Nat.zero_add]
      simp [go_sem, h1])
    (by simp) (by omega) (Nat.le_refl _)
    (by
      have e : (jn xs).size = (Lib.join (xs.map (·.data.toList)) spB.data.toList).length := rfl
      rw [← e]; omega)
  refine hJ.mono ?_
  rintro e w' ⟨h1, h2⟩
  exact ⟨h1, bt (alb W _) h2⟩
theorem join_strs (w : World) (B : Nat) (v : Value) (xs : List ByteArray) (h : Strs w B v xs) (h0 : xs ≠ []) (hs : (jn xs).size ≤ 1099511627776) (hm : xs.length ≤ 1099511627776) :
    Calls Tryd.prog 32 #[v, .string ⟨#[32]⟩] w fun e w' => e = .returned (.string (jn xs)) ∧ Below w.heap.size w w' := by
  rcases h.tx with ⟨rfl, h1⟩ | ⟨g, o, cap, rfl, h2, _, h3⟩
  · exact absurd h1 h0
  have hg : g < w.heap.size := World.block_lt_of_cell? _ _ (h3 0 (List.length_pos_iff.2 h0))
  have hJ := Tryd.strings_Join g o cap xs spB w
    (by
      intro j x hj
      obtain ⟨h4, h5⟩ := List.getElem?_eq_some_iff.1 hj
      subst h5
      exact h3 j h4)
    hg (by omega) h2
    (by
      have e : (jn xs).size = (Lib.join (xs.map (·.data.toList)) spB.data.toList).length := rfl
      rw [← e]; omega)
  exact hJ
def clashS : ByteArray := ⟨#[99, 108, 97, 115, 104]⟩
def plainS : ByteArray := ⟨#[112, 108, 97, 105, 110]⟩
def aS : ByteArray := ⟨#[97]⟩
def bS : ByteArray := ⟨#[98]⟩
def clashL (ex p q : Int) (e : ByteArray) (r s : Int) (f : ByteArray) : List ByteArray := [clashS, textS ex, aS, vtextS p q, sumS e, bS, vtextS r s, sumS f]
def plainL (ex a b : Int) (d : ByteArray) : List ByteArray := [plainS, textS ex, vtextS a b, sumS d]
def stS (ex k a b : Int) (d : ByteArray) (p q : Int) (e : ByteArray) (r s : Int) (f : ByteArray) : ByteArray := if k = 1 then jn (clashL ex p q e r s f) else jn (plainL ex a b d)
theorem ver_data (a b : Int) (d : ByteArray) : (verS a b d).data.toList = (vtextS a b).data.toList ++ 32 :: (sumS d).data.toList := by
  unfold verS
  rw [ByteArray.data_append, ByteArray.data_append]
  simp [spB]
theorem clash_jn (ex p q : Int) (e : ByteArray) (r s : Int) (f : ByteArray) : jn [clashS, textS ex, aS, verS p q e, bS, verS r s f] = jn (clashL ex p q e r s f) := by
  apply dl_eq
  unfold jn clashL
  rw [la, la]
  simp only [List.map_cons, List.map_nil, Lib.join_cons, Lib.joinTail, ver_data, List.flatten_cons, List.flatten_nil, List.append_assoc, List.cons_append, List.nil_append, List.append_nil]
theorem plain_jn (ex a b : Int) (d : ByteArray) : jn [plainS, textS ex, verS a b d] = jn (plainL ex a b d) := by
  apply dl_eq
  unfold jn plainL
  rw [la, la]
  simp only [List.map_cons, List.map_nil, Lib.join_cons, Lib.joinTail, ver_data, List.flatten_cons, List.flatten_nil, List.append_assoc, List.cons_append, List.nil_append, List.append_nil]
theorem clash_size (ex p q : Int) (e : ByteArray) (r s : Int) (f : ByteArray) : (jn (clashL ex p q e r s f)).size ≤ 1000 := by
  refine Nat.le_trans (jn_size _) ?_
  have := textS_size ex
  have := vtextS_size p q
  have := vtextS_size r s
  simp only [clashL, List.map_cons, List.map_nil, List.sum_cons, List.sum_nil, List.length_cons, List.length_nil, sumS_size]
  have : clashS.size = 5 := rfl
  have : aS.size = 1 := rfl
  have : bS.size = 1 := rfl
  omega
theorem plain_size (ex a b : Int) (d : ByteArray) : (jn (plainL ex a b d)).size ≤ 1000 := by
  refine Nat.le_trans (jn_size _) ?_
  have := textS_size ex
  have := vtextS_size a b
  simp only [plainL, List.map_cons, List.map_nil, List.sum_cons, List.sum_nil, List.length_cons, List.length_nil, sumS_size]
  have : plainS.size = 5 := rfl
  omega
def H10 (W : World) (K : Nat) (k a b : Int) (d : ByteArray) (p q : Int) (e : ByteArray) (r s : Int) (f : ByteArray) : Prop :=
  W.cell? ⟨K, 0, none⟩ = some (.int .i64 k) ∧ W.cell? ⟨K, 1, none⟩ = some (.int .i64 a) ∧ W.cell? ⟨K, 2, none⟩ = some (.int .i64 b) ∧ W.cell? ⟨K, 3, none⟩ = some (.string d) ∧ W.cell? ⟨K, 4, none⟩ = some (.int .i64 p) ∧ W.cell? ⟨K, 5, none⟩ = some (.int .i64 q) ∧ W.cell? ⟨K, 6, none⟩ = some (.string e) ∧ W.cell? ⟨K, 7, none⟩ = some (.int .i64 r) ∧ W.cell? ⟨K, 8, none⟩ = some (.int .i64 s) ∧ W.cell? ⟨K, 9, none⟩ = some (.string f)
theorem H10.below {W W' : World} {K : Nat} {k a b : Int} {d : ByteArray} {p q : Int} {e : ByteArray} {r s : Int} {f : ByteArray} (h : H10 W K k a b d p q e r s f) (hb : Below W.heap.size W W') : H10 W' K k a b d p q e r s f :=
  ⟨bkeep hb h.1, bkeep hb h.2.1, bkeep hb h.2.2.1, bkeep hb h.2.2.2.1, bkeep hb h.2.2.2.2.1, bkeep hb h.2.2.2.2.2.1, bkeep hb h.2.2.2.2.2.2.1, bkeep hb h.2.2.2.2.2.2.2.1, bkeep hb h.2.2.2.2.2.2.2.2.1, bkeep hb h.2.2.2.2.2.2.2.2.2⟩
theorem H10.new (W : World) (T : TypeId) (k a b : Int) (d : ByteArray) (p q : Int) (e : ByteArray) (r s : Int) (f : ByteArray) : H10 (W.alloc (.cells #[.int .i64 k, .int .i64 a, .int .i64 b, .string d, .int .i64 p, .int .i64 q, .string e, .int .i64 r, .int .i64 s, .string f] T)) W.heap.size k a b d p q e r s f := by
  refine ⟨?_, ?_, ?_, ?_, ?_, ?_, ?_, ?_, ?_, ?_⟩ <;> simp [go_sem]
abbrev SS (k a b : Int) (d : ByteArray) (p q : Int) (e : ByteArray) (r s : Int) (f : ByteArray) : Value := .agg #[.int .i64 k, .int .i64 a, .int .i64 b, .string d, .int .i64 p, .int .i64 q, .string e, .int .i64 r, .int .i64 s, .string f]
set_option maxHeartbeats 3200000 in
theorem state_any (ex k a b : Int) (d : ByteArray) (p q : Int) (e : ByteArray) (r s : Int) (f : ByteArray) (w : World) (hx : I64 ex) (ha : I64 a) (hb : I64 b) (hp : I64 p) (hq : I64 q) (hr : I64 r) (hs : I64 s) (hd : d.size ≤ maxLen) (he : e.size ≤ maxLen) (hf : f.size ≤ maxLen) :
    Calls Tryd.prog 10 #[.int .i64 ex, SS k a b d p q e r s f] w fun e' w' => e' = .returned (.string (stS ex k a b d p q e r s f)) ∧ Below w.heap.size w w' := by
  have hE : ∀ (t : ByteArray) W, t = stS ex k a b d p q e r s f → Below w.heap.size w W → (fun (e' : Ending) (w' : World) => e' = .returned (.string (stS ex k a b d p q e r s f)) ∧ Below w.heap.size w w') (.returned (.string t)) W := by
    rintro t W rfl h
    exact ⟨rfl, h⟩
  have h0 : stS ex k a b d p q e r s f = if k = 1 then jn (clashL ex p q e r s f) else jn (plainL ex a b d) := rfl
  generalize (fun (e' : Ending) (w' : World) => e' = .returned (.string (stS ex k a b d p q e r s f)) ∧ Below w.heap.size w w') = Pst at *
  generalize stS ex k a b d p q e r s f = tt at *
  replace hE := Lib.hid hE
  have hT := fun W => text_any ex W hx.1 hx.2
  have hV1 := fun W => version_any p q e W hp hq he
  have hV2 := fun W => version_any r s f W hr hs hf
  have hV0 := fun W => version_any a b d W ha hb hd
  have hJ1 := fun W => join_lit W [clashS, textS ex, aS, verS p q e, bS, verS r s f] #[.string clashS, .string (textS ex), .string aS, .string (verS p q e), .string bS, .string (verS r s f)] 6 rfl rfl (by rw [clash_jn]; have := clash_size ex p q e r s f; omega) (by simp [clashL, plainL])
  have hJ0 := fun W => join_lit W [plainS, textS ex, verS a b d] #[.string plainS, .string (textS ex), .string (verS a b d)] 3 rfl rfl (by rw [plain_jn]; have := plain_size ex a b d; omega) (by simp [clashL, plainL])
  simp only [clash_jn] at hJ1
  simp only [plain_jn] at hJ0
  unfold clashS aS bS at hJ1
  unfold plainS at hJ0
  generalize jn (clashL ex p q e r s f) = t1 at *
  generalize jn (plainL ex a b d) = t0 at *
  generalize textS ex = tx at *
  generalize verS a b d = v0 at *
  generalize verS p q e = v1 at *
  generalize verS r s f = v2 at *
  replace hT := Lib.hid hT
  replace hV0 := Lib.hid hV0
  replace hV1 := Lib.hid hV1
  replace hV2 := Lib.hid hV2
  replace hJ0 := Lib.hid hJ0
  replace hJ1 := Lib.hid hJ1
  clear hx ha hb hp hq hr hs hd he hf
  obtain ⟨W0, hW0⟩ : ∃ W0, w.alloc (.cells #[.int .i64 k, .int .i64 a, .int .i64 b, .string d, .int .i64 p, .int .i64 q, .string e, .int .i64 r, .int .i64 s, .string f] 28) = W0 := ⟨_, rfl⟩
  have hr2 := Lib.hid (hW0 ▸ H10.new w 28 k a b d p q e r s f)
  have hb2 : Below w.heap.size w W0 := hW0 ▸ alb w _
  replace hb2 := Lib.hid hb2
  by_cases hk : k = 1
  · subst hk
    rw [if_pos rfl] at h0
    replace h0 := Lib.hid h0
    go_enter Tryd.func10, Tryd.ntmps10
    go_wp2_with (go_at_call 31; (with_reducible refine (hT.out _).mono ?_); rintro e5 w5 ⟨rfl, hA⟩; replace hr2 := Lib.hid (hr2.out.below hA); replace hb2 := Lib.hid (bt hb2.out hA); clear hA; obtain ⟨c0, c1, c2, c3, c4, c5, c6, c7, c8, c9⟩ := hr2.out; have hr3 := Lib.hid (hr2.out.below (bdrw w5)); have hb3 := Lib.hid (bt hb2.out (bdrw w5)))
    clear c0 c1 c2 c3 c4 c5 c6 c7 c8 c9 hr2 hb2
    have hr2 := hr3
    have hb2 := hb3
    clear hr3 hb3
    refine wp_region_held_drew (S := (fun w' => H10 w' w.heap.size 1 a b d p q e r s f)) (by kernel_rfl) ?_ (fun hHeld => ?_)
    · first | with_reducible exact hr2.out | exact hr2.out.below (alb _ _)
    first | (refine tw (i := 0) (v := ?_) ?_ hHeld ?_; rotate_left; focus (intro w hSw; (try dsimp only at hSw); (try simp only [H10] at hSw); go_simp; (try with_reducible rfl); done)) | refine tn (i := 0) hHeld ?_
    try simp only [Act.put, List.setIfInBounds_toArray, List.set_cons_zero, List.set_cons_succ]
    first | (refine tw (i := 1) (v := ?_) ?_ hHeld ?_; rotate_left; focus (intro w hSw; (try dsimp only at hSw); (try simp only [H10] at hSw); go_simp; (try with_reducible rfl); done)) | refine tn (i := 1) hHeld ?_
    try simp only [Act.put, List.setIfInBounds_toArray, List.set_cons_zero, List.set_cons_succ]
    first | (refine tw (i := 2) (v := ?_) ?_ hHeld ?_; rotate_left; focus (intro w hSw; (try dsimp only at hSw); (try simp only [H10] at hSw); go_simp; (try with_reducible rfl); done)) | refine tn (i := 2) hHeld ?_
    try simp only [Act.put, List.setIfInBounds_toArray, List.set_cons_zero, List.set_cons_succ]
    first | (refine tw (i := 4) (v := ?_) ?_ hHeld ?_; rotate_left; focus (intro w hSw; (try dsimp only at hSw); (try simp only [H10] at hSw); go_simp; (try with_reducible rfl); done)) | refine tn (i := 4) hHeld ?_
    try simp only [Act.put, List.setIfInBounds_toArray, List.set_cons_zero, List.set_cons_succ]
    first | (refine tw (i := 5) (v := ?_) ?_ hHeld ?_; rotate_left; focus (intro w hSw; (try dsimp only at hSw); (try simp only [H10] at hSw); go_simp; (try with_reducible rfl); done)) | refine tn (i := 5) hHeld ?_
    try simp only [Act.put, List.setIfInBounds_toArray, List.set_cons_zero, List.set_cons_succ]
    refine call_next (i := 3) (by kernel_rfl) (by rfl) ?_
    intro o ho K hK
    simp only [List.getElem?_toArray, List.getElem?_cons_succ, List.getElem?_cons_zero, Option.some.injEq] at ho
    subst ho
    first | (fail; refine hK.out _ _ ?_ (fun hHeld => ?_)) | (go_simp; first | (with_reducible refine hK.out _ _ ?_ (fun hHeld => ?_)) | ((first | (go_at_call 33; (with_reducible refine (hV1.out _).mono ?_); rintro e5 w5 ⟨rfl, hA⟩; replace hr2 := Lib.hid (hr2.out.below hA); replace hb2 := Lib.hid (bt hb2.out hA); clear hA) | (go_at_call 33; (with_reducible refine (hV2.out _).mono ?_); rintro e5 w5 ⟨rfl, hA⟩; replace hr2 := Lib.hid (hr2.out.below hA); replace hb2 := Lib.hid (bt hb2.out hA); clear hA) | (go_at_call 32; (with_reducible refine (hJ1.out _).mono ?_); rintro e5 w6 ⟨rfl, hA⟩; replace hr2 := Lib.hid (hr2.out.below hA); replace hb2 := Lib.hid (bt hb2.out hA); clear hA)); refine hK.out _ _ ?_ (fun hHeld => ?_)))
    · first | with_reducible exact hr2.out | exact hr2.out.below (alb _ _)
    clear hK K
    try simp only [Act.put, List.setIfInBounds_toArray, List.set_cons_zero, List.set_cons_succ]
    refine call_next (i := 6) (by kernel_rfl) (by rfl) ?_
    intro o ho K hK
    simp only [List.getElem?_toArray, List.getElem?_cons_succ, List.getElem?_cons_zero, Option.some.injEq] at ho
    subst ho
    first | (fail; refine hK.out _ _ ?_ (fun hHeld => ?_)) | (go_simp; first | (with_reducible refine hK.out _ _ ?_ (fun hHeld => ?_)) | ((first | (go_at_call 33; (with_reducible refine (hV1.out _).mono ?_); rintro e5 w5 ⟨rfl, hA⟩; replace hr2 := Lib.hid (hr2.out.below hA); replace hb2 := Lib.hid (bt hb2.out hA); clear hA) | (go_at_call 33; (with_reducible refine (hV2.out _).mono ?_); rintro e5 w5 ⟨rfl, hA⟩; replace hr2 := Lib.hid (hr2.out.below hA); replace hb2 := Lib.hid (bt hb2.out hA); clear hA) | (go_at_call 32; (with_reducible refine (hJ1.out _).mono ?_); rintro e5 w6 ⟨rfl, hA⟩; replace hr2 := Lib.hid (hr2.out.below hA); replace hb2 := Lib.hid (bt hb2.out hA); clear hA)); refine hK.out _ _ ?_ (fun hHeld => ?_)))
    · first | with_reducible exact hr2.out | exact hr2.out.below (alb _ _)
    clear hK K
    try simp only [Act.put, List.setIfInBounds_toArray, List.set_cons_zero, List.set_cons_succ]
    refine call_next (i := 7) (by kernel_rfl) (by rfl) ?_
    intro o ho K hK
    simp only [List.getElem?_toArray, List.getElem?_cons_succ, List.getElem?_cons_zero, Option.some.injEq] at ho
    subst ho
    first | (fail; refine hK.out _ _ ?_ (fun hHeld => ?_)) | (go_simp; first | (with_reducible refine hK.out _ _ ?_ (fun hHeld => ?_)) | ((first | (go_at_call 33; (with_reducible refine (hV1.out _).mono ?_); rintro e5 w5 ⟨rfl, hA⟩; replace hr2 := Lib.hid (hr2.out.below hA); replace hb2 := Lib.hid (bt hb2.out hA); clear hA) | (go_at_call 33; (with_reducible refine (hV2.out _).mono ?_); rintro e5 w5 ⟨rfl, hA⟩; replace hr2 := Lib.hid (hr2.out.below hA); replace hb2 := Lib.hid (bt hb2.out hA); clear hA) | (go_at_call 32; (with_reducible refine (hJ1.out _).mono ?_); rintro e5 w6 ⟨rfl, hA⟩; replace hr2 := Lib.hid (hr2.out.below hA); replace hb2 := Lib.hid (bt hb2.out hA); clear hA)); refine hK.out _ _ ?_ (fun hHeld => ?_)))
    · first | with_reducible exact hr2.out | exact hr2.out.below (alb _ _)
    clear hK K
    try simp only [Act.put, List.setIfInBounds_toArray, List.set_cons_zero, List.set_cons_succ]
    refine call_next (i := 8) (by kernel_rfl) (by rfl) ?_
    intro o ho K hK
    simp only [List.getElem?_toArray, List.getElem?_cons_succ, List.getElem?_cons_zero, Option.some.injEq] at ho
    subst ho
    first | (fail; refine hK.out _ _ ?_ (fun hHeld => ?_)) | (go_simp; first | (with_reducible refine hK.out _ _ ?_ (fun hHeld => ?_)) | ((first | (go_at_call 33; (with_reducible refine (hV1.out _).mono ?_); rintro e5 w5 ⟨rfl, hA⟩; replace hr2 := Lib.hid (hr2.out.below hA); replace hb2 := Lib.hid (bt hb2.out hA); clear hA) | (go_at_call 33; (with_reducible refine (hV2.out _).mono ?_); rintro e5 w5 ⟨rfl, hA⟩; replace hr2 := Lib.hid (hr2.out.below hA); replace hb2 := Lib.hid (bt hb2.out hA); clear hA) | (go_at_call 32; (with_reducible refine (hJ1.out _).mono ?_); rintro e5 w6 ⟨rfl, hA⟩; replace hr2 := Lib.hid (hr2.out.below hA); replace hb2 := Lib.hid (bt hb2.out hA); clear hA)); refine hK.out _ _ ?_ (fun hHeld => ?_)))
    · first | with_reducible exact hr2.out | exact hr2.out.below (alb _ _)
    clear hK K
    try simp only [Act.put, List.setIfInBounds_toArray, List.set_cons_zero, List.set_cons_succ]
    first | (refine tw (i := 9) (v := ?_) ?_ hHeld ?_; rotate_left; focus (intro w hSw; (try dsimp only at hSw); (try simp only [H10] at hSw); go_simp; (try with_reducible rfl); done)) | refine tn (i := 9) hHeld ?_
    try simp only [Act.put, List.setIfInBounds_toArray, List.set_cons_zero, List.set_cons_succ]
    refine wpAnyH_done (by kernel_rfl) ?_ _
    go_wp2
    exact hE.out _ _ h0.out.symm hb2.out
  · have n1 : (k == 1) = false := by simpa using hk
    rw [if_neg hk] at h0
    replace h0 := Lib.hid h0
    clear hk
    go_enter Tryd.func10, Tryd.ntmps10
    go_wp2_with (first | (go_at_call 31; (with_reducible refine (hT.out _).mono ?_); rintro e5 w5 ⟨rfl, hA⟩; replace hr2 := Lib.hid (hr2.out.below hA); replace hb2 := Lib.hid (bt hb2.out hA); clear hA; obtain ⟨c0, c1, c2, c3, c4, c5, c6, c7, c8, c9⟩ := hr2.out) | (go_at_call 33; (with_reducible refine (hV0.out _).mono ?_); rintro e5 w5 ⟨rfl, hA⟩; replace hr2 := Lib.hid (hr2.out.below hA); replace hb2 := Lib.hid (bt hb2.out hA); clear hA) | (go_at_call 32; (with_reducible refine (hJ0.out _).mono ?_); rintro e5 w6 ⟨rfl, hA⟩; replace hb2 := Lib.hid (bt hb2.out hA); clear hA))
    exact hE.out _ _ h0.out.symm hb2.out
set_option maxHeartbeats 3200000 in
theorem rstate_any (ex k a b : Int) (d : ByteArray) (p q : Int) (e : ByteArray) (r s : Int) (f : ByteArray) (w : World) (hx : I64 ex) (ha : I64 a) (hb : I64 b) (hp : I64 p) (hq : I64 q) (hr : I64 r) (hs : I64 s) (hd : d.size ≤ maxLen) (he : e.size ≤ maxLen) (hf : f.size ≤ maxLen) :
    Calls Tryd.prog 12 #[.int .i64 ex, SS k a b d p q e r s f] w fun e' w' => e' = .returned (.string (stS ex k a b d p q e r s f)) ∧ Below w.heap.size w w' := by
  have hE : ∀ (t : ByteArray) W, t = stS ex k a b d p q e r s f → Below w.heap.size w W → (fun (e' : Ending) (w' : World) => e' = .returned (.string (stS ex k a b d p q e r s f)) ∧ Below w.heap.size w w') (.returned (.string t)) W := by
    rintro t W rfl h
    exact ⟨rfl, h⟩
  have h0 : stS ex k a b d p q e r s f = if k = 1 then jn (clashL ex p q e r s f) else jn (plainL ex a b d) := rfl
  generalize (fun (e' : Ending) (w' : World) => e' = .returned (.string (stS ex k a b d p q e r s f)) ∧ Below w.heap.size w w') = Pst at *
  generalize stS ex k a b d p q e r s f = tt at *
  replace hE := Lib.hid hE
  have hT := fun W => rtext_any ex W hx.1 hx.2
  have hV0 := fun W => rvtext_any a b W ha.1 ha.2 hb.1 hb.2
  have hV1 := fun W => rvtext_any p q W hp.1 hp.2 hq.1 hq.2
  have hV2 := fun W => rvtext_any r s W hr.1 hr.2 hs.1 hs.2
  have hS0 := fun W => rsum_any d W hd
  have hS1 := fun W => rsum_any e W he
  have hS2 := fun W => rsum_any f W hf
  have hJ1 := fun W => words_ref _ _ _ (tx_lit W (clashL ex p q e r s f) #[.string clashS, .string (textS ex), .string aS, .string (vtextS p q), .string (sumS e), .string bS, .string (vtextS r s), .string (sumS f)] 8 rfl rfl) (by have := clash_size ex p q e r s f; omega) (by simp [clashL, plainL])
  have hJ0 := fun W => words_ref _ _ _ (tx_lit W (plainL ex a b d) #[.string plainS, .string (textS ex), .string (vtextS a b), .string (sumS d)] 4 rfl rfl) (by have := plain_size ex a b d; omega) (by simp [clashL, plainL])
  unfold clashS aS bS at hJ1
  unfold plainS at hJ0
  generalize jn (clashL ex p q e r s f) = t1 at *
  generalize jn (plainL ex a b d) = t0 at *
  generalize textS ex = tx at *
  generalize vtextS a b = v0 at *
  generalize vtextS p q = v1 at *
  generalize vtextS r s = v2 at *
  generalize sumS d = s0 at *
  generalize sumS e = s1 at *
  generalize sumS f = s2 at *
  replace hT := Lib.hid hT
  replace hV0 := Lib.hid hV0
  replace hV1 := Lib.hid hV1
  replace hV2 := Lib.hid hV2
  replace hS0 := Lib.hid hS0
  replace hS1 := Lib.hid hS1
  replace hS2 := Lib.hid hS2
  replace hJ0 := Lib.hid hJ0
  replace hJ1 := Lib.hid hJ1
  clear hx ha hb hp hq hr hs hd he hf
  obtain ⟨W0, hW0⟩ : ∃ W0, w.alloc (.cells #[.int .i64 k, .int .i64 a, .int .i64 b, .string d, .int .i64 p, .int .i64 q, .string e, .int .i64 r, .int .i64 s, .string f] 28) = W0 := ⟨_, rfl⟩
  have hr2 := Lib.hid (hW0 ▸ H10.new w 28 k a b d p q e r s f)
  have hb2 : Below w.heap.size w W0 := hW0 ▸ alb w _
  replace hb2 := Lib.hid hb2
  obtain ⟨c0, c1, c2, c3, c4, c5, c6, c7, c8, c9⟩ := hr2.out
  have hr3 := Lib.hid (hr2.out.below (bdrw W0))
  have hb3 := Lib.hid (bt hb2.out (bdrw W0))
  by_cases hk : k = 1
  · subst hk
    rw [if_pos rfl] at h0
    replace h0 := Lib.hid h0
    go_enter Tryd.func12, Tryd.ntmps12
    go_wp2_with fail
    clear c0 c1 c2 c3 c4 c5 c6 c7 c8 c9 hr2 hb2
    have hr2 := hr3
    have hb2 := hb3
    clear hr3 hb3
    refine wp_region_held_drew (S := (fun w' => H10 w' w.heap.size 1 a b d p q e r s f)) (by kernel_rfl) ?_ (fun hHeld => ?_)
    · first | with_reducible exact hr2.out | exact hr2.out.below (alb _ _)
    first | (refine tw (i := 0) (v := ?_) ?_ hHeld ?_; rotate_left; focus (intro w hSw; (try dsimp only at hSw); (try simp only [H10] at hSw); go_simp; (try with_reducible rfl); done)) | refine tn (i := 0) hHeld ?_
    try simp only [Act.put, List.setIfInBounds_toArray, List.set_cons_zero, List.set_cons_succ]
    first | (refine tw (i := 2) (v := ?_) ?_ hHeld ?_; rotate_left; focus (intro w hSw; (try dsimp only at hSw); (try simp only [H10] at hSw); go_simp; (try with_reducible rfl); done)) | refine tn (i := 2) hHeld ?_
    try simp only [Act.put, List.setIfInBounds_toArray, List.set_cons_zero, List.set_cons_succ]
    first | (refine tw (i := 3) (v := ?_) ?_ hHeld ?_; rotate_left; focus (intro w hSw; (try dsimp only at hSw); (try simp only [H10] at hSw); go_simp; (try with_reducible rfl); done)) | refine tn (i := 3) hHeld ?_
    try simp only [Act.put, List.setIfInBounds_toArray, List.set_cons_zero, List.set_cons_succ]
    first | (refine tw (i := 4) (v := ?_) ?_ hHeld ?_; rotate_left; focus (intro w hSw; (try dsimp only at hSw); (try simp only [H10] at hSw); go_simp; (try with_reducible rfl); done)) | refine tn (i := 4) hHeld ?_
    try simp only [Act.put, List.setIfInBounds_toArray, List.set_cons_zero, List.set_cons_succ]
    first | (refine tw (i := 6) (v := ?_) ?_ hHeld ?_; rotate_left; focus (intro w hSw; (try dsimp only at hSw); (try simp only [H10] at hSw); go_simp; (try with_reducible rfl); done)) | refine tn (i := 6) hHeld ?_
    try simp only [Act.put, List.setIfInBounds_toArray, List.set_cons_zero, List.set_cons_succ]
    first | (refine tw (i := 7) (v := ?_) ?_ hHeld ?_; rotate_left; focus (intro w hSw; (try dsimp only at hSw); (try simp only [H10] at hSw); go_simp; (try with_reducible rfl); done)) | refine tn (i := 7) hHeld ?_
    try simp only [Act.put, List.setIfInBounds_toArray, List.set_cons_zero, List.set_cons_succ]
    first | (refine tw (i := 8) (v := ?_) ?_ hHeld ?_; rotate_left; focus (intro w hSw; (try dsimp only at hSw); (try simp only [H10] at hSw); go_simp; (try with_reducible rfl); done)) | refine tn (i := 8) hHeld ?_
    try simp only [Act.put, List.setIfInBounds_toArray, List.set_cons_zero, List.set_cons_succ]
    first | (refine tw (i := 10) (v := ?_) ?_ hHeld ?_; rotate_left; focus (intro w hSw; (try dsimp only at hSw); (try simp only [H10] at hSw); go_simp; (try with_reducible rfl); done)) | refine tn (i := 10) hHeld ?_
    try simp only [Act.put, List.setIfInBounds_toArray, List.set_cons_zero, List.set_cons_succ]
    first | (refine tw (i := 11) (v := ?_) ?_ hHeld ?_; rotate_left; focus (intro w hSw; (try dsimp only at hSw); (try simp only [H10] at hSw); go_simp; (try with_reducible rfl); done)) | refine tn (i := 11) hHeld ?_
    try simp only [Act.put, List.setIfInBounds_toArray, List.set_cons_zero, List.set_cons_succ]
    first | (refine tw (i := 12) (v := ?_) ?_ hHeld ?_; rotate_left; focus (intro w hSw; (try dsimp only at hSw); (try simp only [H10] at hSw); go_simp; (try with_reducible rfl); done)) | refine tn (i := 12) hHeld ?_
    try simp only [Act.put, List.setIfInBounds_toArray, List.set_cons_zero, List.set_cons_succ]
    first | (refine tw (i := 14) (v := ?_) ?_ hHeld ?_; rotate_left; focus (intro w hSw; (try dsimp only at hSw); (try simp only [H10] at hSw); go_simp; (try with_reducible rfl); done)) | refine tn (i := 14) hHeld ?_
    try simp only [Act.put, List.setIfInBounds_toArray, List.set_cons_zero, List.set_cons_succ]
    first | (refine tw (i := 15) (v := ?_) ?_ hHeld ?_; rotate_left; focus (intro w hSw; (try dsimp only at hSw); (try simp only [H10] at hSw); go_simp; (try with_reducible rfl); done)) | refine tn (i := 15) hHeld ?_
    try simp only [Act.put, List.setIfInBounds_toArray, List.set_cons_zero, List.set_cons_succ]
    first | (refine tw (i := 16) (v := ?_) ?_ hHeld ?_; rotate_left; focus (intro w hSw; (try dsimp only at hSw); (try simp only [H10] at hSw); go_simp; (try with_reducible rfl); done)) | refine tn (i := 16) hHeld ?_
    try simp only [Act.put, List.setIfInBounds_toArray, List.set_cons_zero, List.set_cons_succ]
    refine call_next (i := 1) (by kernel_rfl) (by rfl) ?_
    intro o ho K hK
    simp only [List.getElem?_toArray, List.getElem?_cons_succ, List.getElem?_cons_zero, Option.some.injEq] at ho
    subst ho
    first | (fail; refine hK.out _ _ ?_ (fun hHeld => ?_)) | (go_simp; first | (with_reducible refine hK.out _ _ ?_ (fun hHeld => ?_)) | ((first | (go_at_call 34; (with_reducible refine (hT.out _).mono ?_); rintro e5 w5 ⟨rfl, hA⟩; replace hr2 := Lib.hid (hr2.out.below hA); replace hb2 := Lib.hid (bt hb2.out hA); clear hA) | (go_at_call 35; (with_reducible refine (hV1.out _).mono ?_); rintro e5 w5 ⟨rfl, hA⟩; replace hr2 := Lib.hid (hr2.out.below hA); replace hb2 := Lib.hid (bt hb2.out hA); clear hA) | (go_at_call 35; (with_reducible refine (hV2.out _).mono ?_); rintro e5 w5 ⟨rfl, hA⟩; replace hr2 := Lib.hid (hr2.out.below hA); replace hb2 := Lib.hid (bt hb2.out hA); clear hA) | (go_at_call 16; (with_reducible refine (hS1.out _).mono ?_); rintro e5 w5 ⟨rfl, hA⟩; replace hr2 := Lib.hid (hr2.out.below hA); replace hb2 := Lib.hid (bt hb2.out hA); clear hA) | (go_at_call 16; (with_reducible refine (hS2.out _).mono ?_); rintro e5 w5 ⟨rfl, hA⟩; replace hr2 := Lib.hid (hr2.out.below hA); replace hb2 := Lib.hid (bt hb2.out hA); clear hA) | (go_at_call 27; (with_reducible refine (hJ1.out _).mono ?_); rintro e5 w6 ⟨rfl, hA⟩; replace hA := bt (alb _ _) hA; replace hr2 := Lib.hid (hr2.out.below hA); replace hb2 := Lib.hid (bt hb2.out hA); clear hA)); refine hK.out _ _ ?_ (fun hHeld => ?_)))
    · first | with_reducible exact hr2.out | exact hr2.out.below (alb _ _)
    clear hK K
    try simp only [Act.put, List.setIfInBounds_toArray, List.set_cons_zero, List.set_cons_succ]
    refine call_next (i := 5) (by kernel_rfl) (by rfl) ?_
    intro o ho K hK
    simp only [List.getElem?_toArray, List.getElem?_cons_succ, List.getElem?_cons_zero, Option.some.injEq] at ho
    subst ho
    first | (fail; refine hK.out _ _ ?_ (fun hHeld => ?_)) | (go_simp; first | (with_reducible refine hK.out _ _ ?_ (fun hHeld => ?_)) | ((first | (go_at_call 34; (with_reducible refine (hT.out _).mono ?_); rintro e5 w5 ⟨rfl, hA⟩; replace hr2 := Lib.hid (hr2.out.below hA); replace hb2 := Lib.hid (bt hb2.out hA); clear hA) | (go_at_call 35; (with_reducible refine (hV1.out _).mono ?_); rintro e5 w5 ⟨rfl, hA⟩; replace hr2 := Lib.hid (hr2.out.below hA); replace hb2 := Lib.hid (bt hb2.out hA); clear hA) | (go_at_call 35; (with_reducible refine (hV2.out _).mono ?_); rintro e5 w5 ⟨rfl, hA⟩; replace hr2 := Lib.hid (hr2.out.below hA); replace hb2 := Lib.hid (bt hb2.out hA); clear hA) | (go_at_call 16; (with_reducible refine (hS1.out _).mono ?_); rintro e5 w5 ⟨rfl, hA⟩; replace hr2 := Lib.hid (hr2.out.below hA); replace hb2 := Lib.hid (bt hb2.out hA); clear hA) | (go_at_call 16; (with_reducible refine (hS2.out _).mono ?_); rintro e5 w5 ⟨rfl, hA⟩; replace hr2 := Lib.hid (hr2.out.below hA); replace hb2 := Lib.hid (bt hb2.out hA); clear hA) | (go_at_call 27; (with_reducible refine (hJ1.out _).mono ?_); rintro e5 w6 ⟨rfl, hA⟩; replace hA := bt (alb _ _) hA; replace hr2 := Lib.hid (hr2.out.below hA); replace hb2 := Lib.hid (bt hb2.out hA); clear hA)); refine hK.out _ _ ?_ (fun hHeld => ?_)))
    · first | with_reducible exact hr2.out | exact hr2.out.below (alb _ _)
    clear hK K
    try simp only [Act.put, List.setIfInBounds_toArray, List.set_cons_zero, List.set_cons_succ]
    refine call_next (i := 9) (by kernel_rfl) (by rfl) ?_
    intro o ho K hK
    simp only [List.getElem?_toArray, List.getElem?_cons_succ, List.getElem?_cons_zero, Option.some.injEq] at ho
    subst ho
    first | (fail; refine hK.out _ _ ?_ (fun hHeld => ?_)) | (go_simp; first | (with_reducible refine hK.out _ _ ?_ (fun hHeld => ?_)) | ((first | (go_at_call 34; (with_reducible refine (hT.out _).mono ?_); rintro e5 w5 ⟨rfl, hA⟩; replace hr2 := Lib.hid (hr2.out.below hA); replace hb2 := Lib.hid (bt hb2.out hA); clear hA) | (go_at_call 35; (with_reducible refine (hV1.out _).mono ?_); rintro e5 w5 ⟨rfl, hA⟩; replace hr2 := Lib.hid (hr2.out.below hA); replace hb2 := Lib.hid (bt hb2.out hA); clear hA) | (go_at_call 35; (with_reducible refine (hV2.out _).mono ?_); rintro e5 w5 ⟨rfl, hA⟩; replace hr2 := Lib.hid (hr2.out.below hA); replace hb2 := Lib.hid (bt hb2.out hA); clear hA) | (go_at_call 16; (with_reducible refine (hS1.out _).mono ?_); rintro e5 w5 ⟨rfl, hA⟩; replace hr2 := Lib.hid (hr2.out.below hA); replace hb2 := Lib.hid (bt hb2.out hA); clear hA) | (go_at_call 16; (with_reducible refine (hS2.out _).mono ?_); rintro e5 w5 ⟨rfl, hA⟩; replace hr2 := Lib.hid (hr2.out.below hA); replace hb2 := Lib.hid (bt hb2.out hA); clear hA) | (go_at_call 27; (with_reducible refine (hJ1.out _).mono ?_); rintro e5 w6 ⟨rfl, hA⟩; replace hA := bt (alb _ _) hA; replace hr2 := Lib.hid (hr2.out.below hA); replace hb2 := Lib.hid (bt hb2.out hA); clear hA)); refine hK.out _ _ ?_ (fun hHeld => ?_)))
    · first | with_reducible exact hr2.out | exact hr2.out.below (alb _ _)
    clear hK K
    try simp only [Act.put, List.setIfInBounds_toArray, List.set_cons_zero, List.set_cons_succ]
    refine call_next (i := 13) (by kernel_rfl) (by rfl) ?_
    intro o ho K hK
    simp only [List.getElem?_toArray, List.getElem?_cons_succ, List.getElem?_cons_zero, Option.some.injEq] at ho
    subst ho
    first | (fail; refine hK.out _ _ ?_ (fun hHeld => ?_)) | (go_simp; first | (with_reducible refine hK.out _ _ ?_ (fun hHeld => ?_)) | ((first | (go_at_call 34; (with_reducible refine (hT.out _).mono ?_); rintro e5 w5 ⟨rfl, hA⟩; replace hr2 := Lib.hid (hr2.out.below hA); replace hb2 := Lib.hid (bt hb2.out hA); clear hA) | (go_at_call 35; (with_reducible refine (hV1.out _).mono ?_); rintro e5 w5 ⟨rfl, hA⟩; replace hr2 := Lib.hid (hr2.out.below hA); replace hb2 := Lib.hid (bt hb2.out hA); clear hA) | (go_at_call 35; (with_reducible refine (hV2.out _).mono ?_); rintro e5 w5 ⟨rfl, hA⟩; replace hr2 := Lib.hid (hr2.out.below hA); replace hb2 := Lib.hid (bt hb2.out hA); clear hA) | (go_at_call 16; (with_reducible refine (hS1.out _).mono ?_); rintro e5 w5 ⟨rfl, hA⟩; replace hr2 := Lib.hid (hr2.out.below hA); replace hb2 := Lib.hid (bt hb2.out hA); clear hA) | (go_at_call 16; (with_reducible refine (hS2.out _).mono ?_); rintro e5 w5 ⟨rfl, hA⟩; replace hr2 := Lib.hid (hr2.out.below hA); replace hb2 := Lib.hid (bt hb2.out hA); clear hA) | (go_at_call 27; (with_reducible refine (hJ1.out _).mono ?_); rintro e5 w6 ⟨rfl, hA⟩; replace hA := bt (alb _ _) hA; replace hr2 := Lib.hid (hr2.out.below hA); replace hb2 := Lib.hid (bt hb2.out hA); clear hA)); refine hK.out _ _ ?_ (fun hHeld => ?_)))
    · first | with_reducible exact hr2.out | exact hr2.out.below (alb _ _)
    clear hK K
    try simp only [Act.put, List.setIfInBounds_toArray, List.set_cons_zero, List.set_cons_succ]
    refine call_next (i := 17) (by kernel_rfl) (by rfl) ?_
    intro o ho K hK
    simp only [List.getElem?_toArray, List.getElem?_cons_succ, List.getElem?_cons_zero, Option.some.injEq] at ho
    subst ho
    first | (fail; refine hK.out _ _ ?_ (fun hHeld => ?_)) | (go_simp; first | (with_reducible refine hK.out _ _ ?_ (fun hHeld => ?_)) | ((first | (go_at_call 34; (with_reducible refine (hT.out _).mono ?_); rintro e5 w5 ⟨rfl, hA⟩; replace hr2 := Lib.hid (hr2.out.below hA); replace hb2 := Lib.hid (bt hb2.out hA); clear hA) | (go_at_call 35; (with_reducible refine (hV1.out _).mono ?_); rintro e5 w5 ⟨rfl, hA⟩; replace hr2 := Lib.hid (hr2.out.below hA); replace hb2 := Lib.hid (bt hb2.out hA); clear hA) | (go_at_call 35; (with_reducible refine (hV2.out _).mono ?_); rintro e5 w5 ⟨rfl, hA⟩; replace hr2 := Lib.hid (hr2.out.below hA); replace hb2 := Lib.hid (bt hb2.out hA); clear hA) | (go_at_call 16; (with_reducible refine (hS1.out _).mono ?_); rintro e5 w5 ⟨rfl, hA⟩; replace hr2 := Lib.hid (hr2.out.below hA); replace hb2 := Lib.hid (bt hb2.out hA); clear hA) | (go_at_call 16; (with_reducible refine (hS2.out _).mono ?_); rintro e5 w5 ⟨rfl, hA⟩; replace hr2 := Lib.hid (hr2.out.below hA); replace hb2 := Lib.hid (bt hb2.out hA); clear hA) | (go_at_call 27; (with_reducible refine (hJ1.out _).mono ?_); rintro e5 w6 ⟨rfl, hA⟩; replace hA := bt (alb _ _) hA; replace hr2 := Lib.hid (hr2.out.below hA); replace hb2 := Lib.hid (bt hb2.out hA); clear hA)); refine hK.out _ _ ?_ (fun hHeld => ?_)))
    · first | with_reducible exact hr2.out | exact hr2.out.below (alb _ _)
    clear hK K
    try simp only [Act.put, List.setIfInBounds_toArray, List.set_cons_zero, List.set_cons_succ]
    refine call_next (i := 18) (by kernel_rfl) (by rfl) ?_
    intro o ho K hK
    simp only [List.getElem?_toArray, List.getElem?_cons_succ, List.getElem?_cons_zero, Option.some.injEq] at ho
    subst ho
    first | (fail; refine hK.out _ _ ?_ (fun hHeld => ?_)) | (go_simp; first | (with_reducible refine hK.out _ _ ?_ (fun hHeld => ?_)) | ((first | (go_at_call 34; (with_reducible refine (hT.out _).mono ?_); rintro e5 w5 ⟨rfl, hA⟩; replace hr2 := Lib.hid (hr2.out.below hA); replace hb2 := Lib.hid (bt hb2.out hA); clear hA) | (go_at_call 35; (with_reducible refine (hV1.out _).mono ?_); rintro e5 w5 ⟨rfl, hA⟩; replace hr2 := Lib.hid (hr2.out.below hA); replace hb2 := Lib.hid (bt hb2.out hA); clear hA) | (go_at_call 35; (with_reducible refine (hV2.out _).mono ?_); rintro e5 w5 ⟨rfl, hA⟩; replace hr2 := Lib.hid (hr2.out.below hA); replace hb2 := Lib.hid (bt hb2.out hA); clear hA) | (go_at_call 16; (with_reducible refine (hS1.out _).mono ?_); rintro e5 w5 ⟨rfl, hA⟩; replace hr2 := Lib.hid (hr2.out.below hA); replace hb2 := Lib.hid (bt hb2.out hA); clear hA) | (go_at_call 16; (with_reducible refine (hS2.out _).mono ?_); rintro e5 w5 ⟨rfl, hA⟩; replace hr2 := Lib.hid (hr2.out.below hA); replace hb2 := Lib.hid (bt hb2.out hA); clear hA) | (go_at_call 27; (with_reducible refine (hJ1.out _).mono ?_); rintro e5 w6 ⟨rfl, hA⟩; replace hA := bt (alb _ _) hA; replace hr2 := Lib.hid (hr2.out.below hA); replace hb2 := Lib.hid (bt hb2.out hA); clear hA)); refine hK.out _ _ ?_ (fun hHeld => ?_)))
    · first | with_reducible exact hr2.out | exact hr2.out.below (alb _ _)
    clear hK K
    try simp only [Act.put, List.setIfInBounds_toArray, List.set_cons_zero, List.set_cons_succ]
    refine call_next (i := 19) (by kernel_rfl) (by rfl) ?_
    intro o ho K hK
    simp only [List.getElem?_toArray, List.getElem?_cons_succ, List.getElem?_cons_zero, Option.some.injEq] at ho
    subst ho
    first | (fail; refine hK.out _ _ ?_ (fun hHeld => ?_)) | (go_simp; first | (with_reducible refine hK.out _ _ ?_ (fun hHeld => ?_)) | ((first | (go_at_call 34; (with_reducible refine (hT.out _).mono ?_); rintro e5 w5 ⟨rfl, hA⟩; replace hr2 := Lib.hid (hr2.out.below hA); replace hb2 := Lib.hid (bt hb2.out hA); clear hA) | (go_at_call 35; (with_reducible refine (hV1.out _).mono ?_); rintro e5 w5 ⟨rfl, hA⟩; replace hr2 := Lib.hid (hr2.out.below hA); replace hb2 := Lib.hid (bt hb2.out hA); clear hA) | (go_at_call 35; (with_reducible refine (hV2.out _).mono ?_); rintro e5 w5 ⟨rfl, hA⟩; replace hr2 := Lib.hid (hr2.out.below hA); replace hb2 := Lib.hid (bt hb2.out hA); clear hA) | (go_at_call 16; (with_reducible refine (hS1.out _).mono ?_); rintro e5 w5 ⟨rfl, hA⟩; replace hr2 := Lib.hid (hr2.out.below hA); replace hb2 := Lib.hid (bt hb2.out hA); clear hA) | (go_at_call 16; (with_reducible refine (hS2.out _).mono ?_); rintro e5 w5 ⟨rfl, hA⟩; replace hr2 := Lib.hid (hr2.out.below hA); replace hb2 := Lib.hid (bt hb2.out hA); clear hA) | (go_at_call 27; (with_reducible refine (hJ1.out _).mono ?_); rintro e5 w6 ⟨rfl, hA⟩; replace hA := bt (alb _ _) hA; replace hr2 := Lib.hid (hr2.out.below hA); replace hb2 := Lib.hid (bt hb2.out hA); clear hA)); refine hK.out _ _ ?_ (fun hHeld => ?_)))
    · first | with_reducible exact hr2.out | exact hr2.out.below (alb _ _)
    clear hK K
    try simp only [Act.put, List.setIfInBounds_toArray, List.set_cons_zero, List.set_cons_succ]
    first | (refine tw (i := 20) (v := ?_) ?_ hHeld ?_; rotate_left; focus (intro w hSw; (try dsimp only at hSw); (try simp only [H10] at hSw); go_simp; (try with_reducible rfl); done)) | refine tn (i := 20) hHeld ?_
    try simp only [Act.put, List.setIfInBounds_toArray, List.set_cons_zero, List.set_cons_succ]
    refine wpAnyH_done (by kernel_rfl) ?_ _
    go_wp2
    exact hE.out _ _ h0.out.symm hb2.out
  · have n1 : (k != 1) = true := by simpa [bne] using hk
    have n2 : (k == 1) = false := by simpa using hk
    rw [if_neg hk] at h0
    replace h0 := Lib.hid h0
    clear hk
    go_enter Tryd.func12, Tryd.ntmps12
    go_wp2_with fail
    clear c0 c1 c2 c3 c4 c5 c6 c7 c8 c9 hr2 hb2
    have hr2 := hr3
    have hb2 := hb3
    clear hr3 hb3
    refine wp_region_held_drew (S := (fun w' => H10 w' w.heap.size k a b d p q e r s f)) (by kernel_rfl) ?_ (fun hHeld => ?_)
    · first | with_reducible exact hr2.out | exact hr2.out.below (alb _ _)
    first | (refine tw (i := 0) (v := ?_) ?_ hHeld ?_; rotate_left; focus (intro w hSw; (try dsimp only at hSw); (try simp only [H10] at hSw); go_simp; (try with_reducible rfl); done)) | refine tn (i := 0) hHeld ?_
    try simp only [Act.put, List.setIfInBounds_toArray, List.set_cons_zero, List.set_cons_succ]
    first | (refine tw (i := 2) (v := ?_) ?_ hHeld ?_; rotate_left; focus (intro w hSw; (try dsimp only at hSw); (try simp only [H10] at hSw); go_simp; (try with_reducible rfl); done)) | refine tn (i := 2) hHeld ?_
    try simp only [Act.put, List.setIfInBounds_toArray, List.set_cons_zero, List.set_cons_succ]
    first | (refine tw (i := 3) (v := ?_) ?_ hHeld ?_; rotate_left; focus (intro w hSw; (try dsimp only at hSw); (try simp only [H10] at hSw); go_simp; (try with_reducible rfl); done)) | refine tn (i := 3) hHeld ?_
    try simp only [Act.put, List.setIfInBounds_toArray, List.set_cons_zero, List.set_cons_succ]
    first | (refine tw (i := 5) (v := ?_) ?_ hHeld ?_; rotate_left; focus (intro w hSw; (try dsimp only at hSw); (try simp only [H10] at hSw); go_simp; (try with_reducible rfl); done)) | refine tn (i := 5) hHeld ?_
    try simp only [Act.put, List.setIfInBounds_toArray, List.set_cons_zero, List.set_cons_succ]
    first | (refine tw (i := 6) (v := ?_) ?_ hHeld ?_; rotate_left; focus (intro w hSw; (try dsimp only at hSw); (try simp only [H10] at hSw); go_simp; (try with_reducible rfl); done)) | refine tn (i := 6) hHeld ?_
    try simp only [Act.put, List.setIfInBounds_toArray, List.set_cons_zero, List.set_cons_succ]
    refine call_next (i := 1) (by kernel_rfl) (by rfl) ?_
    intro o ho K hK
    simp only [List.getElem?_toArray, List.getElem?_cons_succ, List.getElem?_cons_zero, Option.some.injEq] at ho
    subst ho
    first | (fail; refine hK.out _ _ ?_ (fun hHeld => ?_)) | (go_simp; first | (with_reducible refine hK.out _ _ ?_ (fun hHeld => ?_)) | ((first | (go_at_call 34; (with_reducible refine (hT.out _).mono ?_); rintro e5 w5 ⟨rfl, hA⟩; replace hr2 := Lib.hid (hr2.out.below hA); replace hb2 := Lib.hid (bt hb2.out hA); clear hA) | (go_at_call 35; (with_reducible refine (hV0.out _).mono ?_); rintro e5 w5 ⟨rfl, hA⟩; replace hr2 := Lib.hid (hr2.out.below hA); replace hb2 := Lib.hid (bt hb2.out hA); clear hA) | (go_at_call 16; (with_reducible refine (hS0.out _).mono ?_); rintro e5 w5 ⟨rfl, hA⟩; replace hr2 := Lib.hid (hr2.out.below hA); replace hb2 := Lib.hid (bt hb2.out hA); clear hA) | (go_at_call 27; (with_reducible refine (hJ0.out _).mono ?_); rintro e5 w6 ⟨rfl, hA⟩; replace hA := bt (alb _ _) hA; replace hr2 := Lib.hid (hr2.out.below hA); replace hb2 := Lib.hid (bt hb2.out hA); clear hA)); refine hK.out _ _ ?_ (fun hHeld => ?_)))
    · first | with_reducible exact hr2.out | exact hr2.out.below (alb _ _)
    clear hK K
    try simp only [Act.put, List.setIfInBounds_toArray, List.set_cons_zero, List.set_cons_succ]
    refine call_next (i := 4) (by kernel_rfl) (by rfl) ?_
    intro o ho K hK
    simp only [List.getElem?_toArray, List.getElem?_cons_succ, List.getElem?_cons_zero, Option.some.injEq] at ho
    subst ho
    first | (fail; refine hK.out _ _ ?_ (fun hHeld => ?_)) | (go_simp; first | (with_reducible refine hK.out _ _ ?_ (fun hHeld => ?_)) | ((first | (go_at_call 34; (with_reducible refine (hT.out _).mono ?_); rintro e5 w5 ⟨rfl, hA⟩; replace hr2 := Lib.hid (hr2.out.below hA); replace hb2 := Lib.hid (bt hb2.out hA); clear hA) | (go_at_call 35; (with_reducible refine (hV0.out _).mono ?_); rintro e5 w5 ⟨rfl, hA⟩; replace hr2 := Lib.hid (hr2.out.below hA); replace hb2 := Lib.hid (bt hb2.out hA); clear hA) | (go_at_call 16; (with_reducible refine (hS0.out _).mono ?_); rintro e5 w5 ⟨rfl, hA⟩; replace hr2 := Lib.hid (hr2.out.below hA); replace hb2 := Lib.hid (bt hb2.out hA); clear hA) | (go_at_call 27; (with_reducible refine (hJ0.out _).mono ?_); rintro e5 w6 ⟨rfl, hA⟩; replace hA := bt (alb _ _) hA; replace hr2 := Lib.hid (hr2.out.below hA); replace hb2 := Lib.hid (bt hb2.out hA); clear hA)); refine hK.out _ _ ?_ (fun hHeld => ?_)))
    · first | with_reducible exact hr2.out | exact hr2.out.below (alb _ _)
    clear hK K
    try simp only [Act.put, List.setIfInBounds_toArray, List.set_cons_zero, List.set_cons_succ]
    refine call_next (i := 7) (by kernel_rfl) (by rfl) ?_
    intro o ho K hK
    simp only [List.getElem?_toArray, List.getElem?_cons_succ, List.getElem?_cons_zero, Option.some.injEq] at ho
    subst ho
    first | (fail; refine hK.out _ _ ?_ (fun hHeld => ?_)) | (go_simp; first | (with_reducible refine hK.out _ _ ?_ (fun hHeld => ?_)) | ((first | (go_at_call 34; (with_reducible refine (hT.out _).mono ?_); rintro e5 w5 ⟨rfl, hA⟩; replace hr2 := Lib.hid (hr2.out.below hA); replace hb2 := Lib.hid (bt hb2.out hA); clear hA) | (go_at_call 35; (with_reducible refine (hV0.out _).mono ?_); rintro e5 w5 ⟨rfl, hA⟩; replace hr2 := Lib.hid (hr2.out.below hA); replace hb2 := Lib.hid (bt hb2.out hA); clear hA) | (go_at_call 16; (with_reducible refine (hS0.out _).mono ?_); rintro e5 w5 ⟨rfl, hA⟩; replace hr2 := Lib.hid (hr2.out.below hA); replace hb2 := Lib.hid (bt hb2.out hA); clear hA) | (go_at_call 27; (with_reducible refine (hJ0.out _).mono ?_); rintro e5 w6 ⟨rfl, hA⟩; replace hA := bt (alb _ _) hA; replace hr2 := Lib.hid (hr2.out.below hA); replace hb2 := Lib.hid (bt hb2.out hA); clear hA)); refine hK.out _ _ ?_ (fun hHeld => ?_)))
    · first | with_reducible exact hr2.out | exact hr2.out.below (alb _ _)
    clear hK K
    try simp only [Act.put, List.setIfInBounds_toArray, List.set_cons_zero, List.set_cons_succ]
    refine call_next (i := 8) (by kernel_rfl) (by rfl) ?_
    intro o ho K hK
    simp only [List.getElem?_toArray, List.getElem?_cons_succ, List.getElem?_cons_zero, Option.some.injEq] at ho
    subst ho
    first | (fail; refine hK.out _ _ ?_ (fun hHeld => ?_)) | (go_simp; first | (with_reducible refine hK.out _ _ ?_ (fun hHeld => ?_)) | ((first | (go_at_call 34; (with_reducible refine (hT.out _).mono ?_); rintro e5 w5 ⟨rfl, hA⟩; replace hr2 := Lib.hid (hr2.out.below hA); replace hb2 := Lib.hid (bt hb2.out hA); clear hA) | (go_at_call 35; (with_reducible refine (hV0.out _).mono ?_); rintro e5 w5 ⟨rfl, hA⟩; replace hr2 := Lib.hid (hr2.out.below hA); replace hb2 := Lib.hid (bt hb2.out hA); clear hA) | (go_at_call 16; (with_reducible refine (hS0.out _).mono ?_); rintro e5 w5 ⟨rfl, hA⟩; replace hr2 := Lib.hid (hr2.out.below hA); replace hb2 := Lib.hid (bt hb2.out hA); clear hA) | (go_at_call 27; (with_reducible refine (hJ0.out _).mono ?_); rintro e5 w6 ⟨rfl, hA⟩; replace hA := bt (alb _ _) hA; replace hr2 := Lib.hid (hr2.out.below hA); replace hb2 := Lib.hid (bt hb2.out hA); clear hA)); refine hK.out _ _ ?_ (fun hHeld => ?_)))
    · first | with_reducible exact hr2.out | exact hr2.out.below (alb _ _)
    clear hK K
    try simp only [Act.put, List.setIfInBounds_toArray, List.set_cons_zero, List.set_cons_succ]
    refine call_next (i := 9) (by kernel_rfl) (by rfl) ?_
    intro o ho K hK
    simp only [List.getElem?_toArray, List.getElem?_cons_succ, List.getElem?_cons_zero, Option.some.injEq] at ho
    subst ho
    first | (fail; refine hK.out _ _ ?_ (fun hHeld => ?_)) | (go_simp; first | (with_reducible refine hK.out _ _ ?_ (fun hHeld => ?_)) | ((first | (go_at_call 34; (with_reducible refine (hT.out _).mono ?_); rintro e5 w5 ⟨rfl, hA⟩; replace hr2 := Lib.hid (hr2.out.below hA); replace hb2 := Lib.hid (bt hb2.out hA); clear hA) | (go_at_call 35; (with_reducible refine (hV0.out _).mono ?_); rintro e5 w5 ⟨rfl, hA⟩; replace hr2 := Lib.hid (hr2.out.below hA); replace hb2 := Lib.hid (bt hb2.out hA); clear hA) | (go_at_call 16; (with_reducible refine (hS0.out _).mono ?_); rintro e5 w5 ⟨rfl, hA⟩; replace hr2 := Lib.hid (hr2.out.below hA); replace hb2 := Lib.hid (bt hb2.out hA); clear hA) | (go_at_call 27; (with_reducible refine (hJ0.out _).mono ?_); rintro e5 w6 ⟨rfl, hA⟩; replace hA := bt (alb _ _) hA; replace hr2 := Lib.hid (hr2.out.below hA); replace hb2 := Lib.hid (bt hb2.out hA); clear hA)); refine hK.out _ _ ?_ (fun hHeld => ?_)))
    · first | with_reducible exact hr2.out | exact hr2.out.below (alb _ _)
    clear hK K
    try simp only [Act.put, List.setIfInBounds_toArray, List.set_cons_zero, List.set_cons_succ]
    first | (refine tw (i := 10) (v := ?_) ?_ hHeld ?_; rotate_left; focus (intro w hSw; (try dsimp only at hSw); (try simp only [H10] at hSw); go_simp; (try with_reducible rfl); done)) | refine tn (i := 10) hHeld ?_
    try simp only [Act.put, List.setIfInBounds_toArray, List.set_cons_zero, List.set_cons_succ]
    refine wpAnyH_done (by kernel_rfl) ?_ _
    go_wp2
    exact hE.out _ _ h0.out.symm hb2.out
end Go.Proofs.YtaddbljdheafaaaDoor
