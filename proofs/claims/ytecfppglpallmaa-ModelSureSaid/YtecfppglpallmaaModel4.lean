/-
  What an extent may have (chapter 36): a new history, one step of it.
-/
import Derived.Test.YtecfppglpallmaaModel3
namespace Go.Proofs.Ytecfppglpallmaa
open Go.RowKit
set_option linter.unusedVariables false
set_option linter.unusedSimpArgs false

/-- a history under way of being made -/
structure HV (W : World) (B h : Nat) (v : Value) (qs : List Pc) : Prop where
  box : W.heap[h]? = some (.cells #[v] 38 (0, 0))
  row : W.ownsRow B 40 4 v qs.length (flatH qs)
  txt : ∀ (i : Nat) q, qs[i]? = some q → TS W B q
  ap : ∀ (i j : Nat) a b, i ≠ j → qs[i]? = some a → qs[j]? = some b → a.g ≠ b.g
theorem HV.hx {W : World} {B h : Nat} {v : Value} {qs : List Pc} (H : HV W B h v qs) (h0 : qs ≠ []) : ∃ R cap, HX W B h R cap qs ∧ B ≤ R := by
  rcases H.row.2 with ⟨_, e⟩ | ⟨g, cap, cur, e, hb, _⟩
  · exact absurd (List.length_eq_zero_iff.1 e) h0
  · exact ⟨g, cap, ⟨e ▸ H.box, e ▸ H.row, H.txt, H.ap⟩, hb⟩
theorem HV.he {W : World} {B h : Nat} {v : Value} (H : HV W B h v []) (hv : v = .slice none 0 0) : HE W h := by subst hv; exact H.box
theorem past_info : (Try.prog.info? 40).map (fun i => (i.zero, i.size, i.bytes)) = some (some (.agg #[.slice none 0 0, .bool false, .bool false, .bool false]), 4, 32) := by kernel_rfl
theorem flatH_snoc (qs : List Pc) (q : Pc) : flatH (qs ++ [q]) = flatH qs ++ [q.lv, .bool q.seen, .bool q.wr, .bool q.sure] := by unfold flatH; simp [pcV]
theorem row_ne {W : World} {B p n : Nat} {v : Value} {xs : List Value} {cs : Array Value} {T : TypeId} {fr : Nat × Nat} (h : W.ownsRow B 40 4 v n xs) (hb : W.heap[p]? = some (.cells cs T fr)) (hT : T ≠ 40) : v.ownBlock ≠ some p := by
  rcases h.2 with ⟨hv, _⟩ | ⟨g, cap, cur, hv, _, hg, _⟩
  · rw [hv]; simp [Value.ownBlock]
  · rw [hv]
    intro h2
    simp only [Value.ownBlock, Option.some.injEq] at h2
    subst h2
    rw [hg] at hb
    simp only [Option.some.injEq, Obj.cells.injEq] at hb
    exact hT hb.2.1.symm
/-- the texts l lie behind a -/
def StrAt (W : World) (a : Option Addr) (l : List ByteArray) : Prop := ∀ (k : Nat) x, l[k]? = some x → ∃ g o, a = some ⟨g, o, none⟩ ∧ W.cell? ⟨g, o + k, none⟩ = some (.string x)
theorem StrAt.keep {W W' : World} {a : Option Addr} {l : List ByteArray} (h : StrAt W a l) (hb : Below W.heap.size W W') : StrAt W' a l := by
  intro k x hk
  obtain ⟨g, o, e, h1⟩ := h k x hk
  exact ⟨g, o, e, bkeep hb h1⟩
/-- one more past -/
theorem HV.snoc {W w5 : World} {B h : Nat} {v v5 : Value} {qs : List Pc} {x : ByteArray} (H : HV W B h v qs) (hB : B ≤ W.heap.size)
    (hr : w5.ownsRow B 40 4 v5 (qs.length + 1) (flatH qs ++ [.slice (some ⟨W.heap.size, 0, none⟩) 1 1, .bool true, .bool false, .bool false]))
    (hf : Frm (fun k => some k = v.ownBlock) ((W.alloc (.cells #[.string x] 9)).alloc (.cells #[.slice (some ⟨W.heap.size, 0, none⟩) 1 1, .bool true, .bool false, .bool false] 40)) w5) :
    HV (w5.setCell ⟨h, 0, none⟩ v5) B h v5 (qs ++ [⟨[x], true, false, false, .slice (some ⟨W.heap.size, 0, none⟩) 1 1, W.heap.size⟩]) ∧ Frm (fun k => k = h ∨ some k = v.ownBlock) W (w5.setCell ⟨h, 0, none⟩ v5) ∧ w5.heap[h]? = some (.cells #[v] 38 (0, 0)) := by
  have hb2 : Below W.heap.size W ((W.alloc (.cells #[.string x] 9)).alloc (.cells #[.slice (some ⟨W.heap.size, 0, none⟩) 1 1, .bool true, .bool false, .bool false] 40)) := bt (alb W _) (alb _ _)
  have hF : Frm (fun k => k = h ∨ some k = v.ownBlock) W (w5.setCell ⟨h, 0, none⟩ v5) := ((Frm.ofBelow hb2).trans (hf.mono fun k _ => .inr)).trans ((Frm.one w5 h 0 v5).mono fun k _ => .inl)
  have hvh := row_ne H.row H.box (by decide)
  have hlt := (Array.getElem?_eq_some_iff.1 H.box).1
  have hbox2 := (hb2.block h hlt).trans H.box
  have hbox5 := (hf.block h (Array.getElem?_eq_some_iff.1 hbox2).1 (fun e => hvh e.symm)).trans hbox2
  have hold : ∀ (i : Nat) (q : Pc), qs[i]? = some q → TS (w5.setCell ⟨h, 0, none⟩ v5) B q := by
    intro i q hq
    have ht := H.txt i q hq
    obtain ⟨o, c, cur, _, h2, _⟩ := ht.at_
    refine ht.frm hF ?_
    rintro (e | e)
    · rw [e, H.box] at h2
      simp only [Option.some.injEq, Obj.cells.injEq] at h2
      exact absurd h2.2.1 (by decide)
    · exact row_ne H.row h2 (by decide) e.symm
  have hnew : TS (w5.setCell ⟨h, 0, none⟩ v5) B ⟨[x], true, false, false, .slice (some ⟨W.heap.size, 0, none⟩) 1 1, W.heap.size⟩ := by
    have e1 := heap_alloc_new W (.cells #[.string x] 9)
    have e2 : ((W.alloc (.cells #[.string x] 9)).alloc (.cells #[.slice (some ⟨W.heap.size, 0, none⟩) 1 1, .bool true, .bool false, .bool false] 40)).heap[W.heap.size]? = some (.cells #[.string x] 9 (0, 0)) := (heap_alloc_old _ _ (by simp)).trans e1
    have hvt : v.ownBlock ≠ some W.heap.size := fun e => by have := (World.ownsRow.lt H.row _ e).2; omega
    have e3 := (hf.block W.heap.size (by simp; omega) (fun e => hvt e.symm)).trans e2
    have e4 := (Below.heap_setCell w5 ⟨h, 0, none⟩ v5 W.heap.size (by show W.heap.size ≠ h; omega)).trans e3
    refine ⟨by simp, hB, 0, 1, #[.string x], rfl, e4, Nat.le_refl _, by unfold maxLen; omega, Nat.le_refl _, ?_⟩
    intro k y hk
    match k, hk with
    | 0, hk => simp at hk; subst hk; rfl
    | k + 1, hk => simp at hk
  refine ⟨⟨heap_setCell_same w5 h 0 _ _ _ hbox5, ?_, ?_, ?_⟩, hF, hbox5⟩
  · rw [List.length_append, flatH_snoc]
    exact ownsRow_frm hr (Frm.one w5 h 0 v5) (fun g hg e => row_ne hr hbox5 (by decide) (by rw [hg, e]))
  · intro i q hq
    rcases Nat.lt_or_ge i qs.length with hi | hi
    · rw [List.getElem?_append_left hi] at hq
      exact hold i q hq
    · rw [List.getElem?_append_right hi] at hq
      obtain ⟨hz, hq⟩ := List.getElem?_eq_some_iff.1 hq
      simp at hz
      have : i - qs.length = 0 := by omega
      simp only [this, List.getElem_cons_zero] at hq
      subst hq; exact hnew
  · intro i j a b hij ha hb
    rcases Nat.lt_or_ge i qs.length with hi | hi
    · rw [List.getElem?_append_left hi] at ha
      rcases Nat.lt_or_ge j qs.length with hj | hj
      · rw [List.getElem?_append_left hj] at hb
        exact H.ap i j a b hij ha hb
      · rw [List.getElem?_append_right hj] at hb
        obtain ⟨hz, hb⟩ := List.getElem?_eq_some_iff.1 hb
        simp at hz
        have e : j - qs.length = 0 := by omega
        simp only [e, List.getElem_cons_zero] at hb
        subst hb
        have := (H.txt i a ha).lt
        show a.g ≠ W.heap.size
        omega
    · rw [List.getElem?_append_right hi] at ha
      obtain ⟨hz, ha⟩ := List.getElem?_eq_some_iff.1 ha
      simp at hz
      have e : i - qs.length = 0 := by omega
      simp only [e, List.getElem_cons_zero] at ha
      subst ha
      rcases Nat.lt_or_ge j qs.length with hj | hj
      · rw [List.getElem?_append_left hj] at hb
        have := (H.txt j b hb).lt
        show W.heap.size ≠ b.g
        omega
      · have := (List.getElem?_eq_some_iff.1 hb).1
        simp at this
        omega
/-- what a new past is -/
def NewOf (x : ByteArray) (q : Pc) : Prop := q.l = [x] ∧ q.seen = true ∧ q.wr = false ∧ q.sure = false
def NewL (k : Nat) (base : List ByteArray) (qs : List Pc) : Prop := qs.length = k ∧ ∀ (i : Nat) q, qs[i]? = some q → ∃ x, base[i]? = some x ∧ NewOf x q
set_option maxHeartbeats 3200000 in
theorem new_any (a : Option Addr) (cap : Nat) (base : List ByteArray) (W : World) (hl : StrAt W a base) (hm : base.length ≤ 1000) :
    Calls Try.prog 5 #[.slice a base.length cap] W fun e w' => e = .returned (.pointer (some ⟨W.heap.size, 0, none⟩)) ∧ (∃ v qs, HV w' W.heap.size W.heap.size v qs ∧ NewL base.length base qs ∧ (qs = [] → v = .slice none 0 0)) ∧ Below W.heap.size W w' := by
  have hl := Lib.hid hl
  have hb0 := alb W (.cells #[.slice none 0 0] 38)
  have hV0 : HV (W.alloc (.cells #[.slice none 0 0] 38)) W.heap.size W.heap.size (.slice none 0 0) [] := ⟨heap_alloc_new W _, ⟨rfl, .inl ⟨rfl, rfl⟩⟩, fun i q h => by simp at h, fun i j a b _ h => by simp at h⟩
  replace hV0 := Lib.hid hV0
  replace hb0 := Lib.hid hb0
  go_enter Try.func5, Try.ntmps5
  go_wp2
  go_loopw [10] (fun i wr => ∃ (k : Nat) (v : Value) (qs : List Pc), k ≤ base.length ∧ i = .int .i64 k ∧ Hid (HV wr W.heap.size W.heap.size v qs) ∧ Hid (NewL k base qs) ∧ Hid (qs = [] → v = .slice none 0 0) ∧ Hid (Below W.heap.size W wr)) (fun i _ => base.length - (intOf i).toNat)
  case atStart => exact ⟨0, _, [], Nat.zero_le _, rfl, hV0, ⟨rfl, fun i q h => by simp at h⟩, fun _ => rfl, hb0⟩
  case round =>
    obtain ⟨k, v, qs, hk, rfl, hV, hN, hE, hB⟩ := hrel
    clear hV0 hb0
    by_cases hlt : k < base.length
    · have hd : decide ((k : Int) < (base.length : Int)) = true := decide_eq_true (by omega)
      obtain ⟨x, hx⟩ : ∃ y, base[k]? = some y := ⟨_, List.getElem?_eq_getElem hlt⟩
      obtain ⟨g, o, rfl, p1⟩ := hl.out k x hx
      have p1 := bkeep hB.out p1
      have i1 : (0 : Int) ≤ (k : Int) := by omega
      have i2 : (k : Int) < (base.length : Int) := by omega
      have hql := hN.out.1
      have c0 : wr.cell? ⟨W.heap.size, 0, none⟩ = some v := by rw [cell_of_row wr W.heap.size 0 _ _ _ hV.out.box]; rfl
      have f0 : wr.frozen? ⟨W.heap.size, 0, none⟩ = false := frozen_of_row wr W.heap.size 0 _ _ hV.out.box
      obtain ⟨av, cv, hv⟩ : ∃ av cv, v = .slice av qs.length cv := by
        rcases hV.out.row.2 with ⟨e, e2⟩ | ⟨g, cap, cur, e, _⟩
        · exact ⟨none, 0, by rw [e, e2]⟩
        · exact ⟨_, cap, e⟩
      have hb2 := bt (alb wr (.cells #[.string x] 9)) (alb _ (.cells #[.slice (some ⟨wr.heap.size, 0, none⟩) 1 1, .bool true, .bool false, .bool false] 40))
      have hrow := ownsRow_frm hV.out.row (S := fun _ => False) (.ofBelow hb2) fun _ _ => id
      have hz : W.heap.size ≤ ((wr.alloc (.cells #[.string x] 9)).alloc (.cells #[.slice (some ⟨wr.heap.size, 0, none⟩) 1 1, .bool true, .bool false, .bool false] 40)).heap.size := Nat.le_trans hB.out.size hb2.size
      have hnw : ∀ (j : Nat) u, ([.slice (some ⟨wr.heap.size, 0, none⟩) 1 1, .bool true, .bool false, .bool false] : List Value)[j]? = some u → ((wr.alloc (.cells #[.string x] 9)).alloc (.cells #[.slice (some ⟨wr.heap.size, 0, none⟩) 1 1, .bool true, .bool false, .bool false] 40)).cell? ((⟨wr.heap.size + 1, 0, none⟩ : Addr).add j) = some u := by
        intro j u hj
        match j, hj with
        | 0, hj => simp at hj; subst hj; simp [go_sem, Addr.add]
        | 1, hj => simp at hj; subst hj; simp [go_sem, Addr.add]
        | 2, hj => simp at hj; subst hj; simp [go_sem, Addr.add]
        | 3, hj => simp at hj; subst hj; simp [go_sem, Addr.add]
        | j + 4, hj => simp at hj
      have hsn := Lib.hid (fun w5 v5 hr hf => hV.out.snoc (w5 := w5) (v5 := v5) (x := x) hB.out.size hr hf)
      have hN2 : Hid (NewL (k + 1) base (qs ++ [⟨[x], true, false, false, .slice (some ⟨wr.heap.size, 0, none⟩) 1 1, wr.heap.size⟩])) := by
        refine ⟨by simp [hql], fun i q hq => ?_⟩
        rcases Nat.lt_or_ge i qs.length with hi | hi
        · rw [List.getElem?_append_left hi] at hq
          exact hN.out.2 i q hq
        · rw [List.getElem?_append_right hi] at hq
          obtain ⟨hz, hq⟩ := List.getElem?_eq_some_iff.1 hq
          simp at hz
          have e : i - qs.length = 0 := by omega
          simp only [e, List.getElem_cons_zero] at hq
          subst hq
          have : i = k := by omega
          subst this
          exact ⟨x, hx, rfl, rfl, rfl, rfl⟩
      have hvb := Lib.hid (fun k e => (World.ownsRow.lt hV.out.row k e).1)
      have hvh := hV.out.box
      have hvne := row_ne hV.out.row hvh (by decide)
      subst hv
      have hqm : qs.length ≤ 1000 := by omega
      have hfin := Lib.hid hql
      clear hx hN hE hql hV
      go_wp2_with (at_builtin; refine wpl_own2 rfl (.tmp 18) (.tmp 22) 36 rfl W.heap.size 40 (.agg #[.slice none 0 0, .bool false, .bool false, .bool false]) 4 32 Try.underlying36 past_info rfl (by decide) (.slice av qs.length cv) qs.length (flatH qs) rfl hrow ⟨wr.heap.size + 1, 0, none⟩ 1 1 [.slice (some ⟨wr.heap.size, 0, none⟩) 1 1, .bool true, .bool false, .bool false] rfl rfl hnw (by intro u hu; simp at hu; rcases hu with rfl | rfl | rfl | rfl <;> rfl) (by unfold maxLen; omega) (by omega) hz ?_; intro v5 w5 hr5 hf5 hs5; obtain ⟨hV5, hF5, hbx5⟩ := hsn.out w5 v5 hr5 hf5; have c5 : w5.cell? ⟨W.heap.size, 0, none⟩ = some (.slice av qs.length cv) := (cell_of_row w5 W.heap.size 0 _ _ _ hbx5); have f5 : w5.frozen? ⟨W.heap.size, 0, none⟩ = false := frozen_of_row w5 W.heap.size 0 _ _ hbx5; have hv5 : ∃ a5 k5, v5 = .slice a5 (qs.length + 1) k5 := (by rcases hr5.2 with ⟨e, e2⟩ | ⟨g, cap, cur, e, _⟩; exact absurd e2 (by omega); exact ⟨_, cap, e⟩); obtain ⟨a5, k5, rfl⟩ := hv5)
      have hbl : Below W.heap.size W (w5.setCell ⟨W.heap.size, 0, none⟩ (.slice a5 (qs.length + 1) k5)) := hF5.after hB.out hB.out.size (by
        rintro j hj (e | e)
        · omega
        · have := hvb.out j e.symm; omega)
      exact ⟨⟨k + 1, _, _, by omega, by go_num, hV5, hN2, fun h => by simp at h, hbl⟩, by simp [intOf]; omega⟩
    · have hkk : k = base.length := by omega
      subst hkk
      have hd : decide ((base.length : Int) < (base.length : Int)) = false := decide_eq_false (by omega)
      go_wp2
      go_ret
      exact ⟨rfl, ⟨v, qs, hV.out, hN.out, hE.out⟩, hB.out⟩
/-- a history, all of it behind B, no past longer than N -/
structure HS (B h R cap : Nat) (qs : List Pc) (N : Nat) (w W : World) : Prop where
  hx : HX W B h R cap qs
  bel : Below B w W
  hB : B ≤ W.heap.size
  hR : B ≤ R
  len : ∀ (i : Nat) q, qs[i]? = some q → q.l.length ≤ N
section
variable {B h R cap N : Nat} {qs : List Pc} {w W W' : World}
theorem HS.below (H : HS B h R cap qs N w W) (hb : Below W.heap.size W W') : HS B h R cap qs N w W' :=
  ⟨H.hx.below hb, H.bel.trans (hb.mono H.hB), Nat.le_trans H.hB hb.size, H.hR, H.len⟩
theorem HS.up (H : HS B h R cap qs N w W) {M : Nat} (hM : N ≤ M) : HS B h R cap qs M w W := ⟨H.hx, H.bel, H.hB, H.hR, fun i q hq => Nat.le_trans (H.len i q hq) hM⟩
theorem flushed_s (H : HS B h R cap qs N w W) (hm : qs.length ≤ 1000) (hN : N ≤ 1000) : Calls Try.prog 8 #[.pointer (some ⟨h, 0, none⟩)] W fun e w' => e = .returned (.tuple #[]) ∧ ∃ qs', RelK CutOf qs.length qs qs' ∧ HS B h R cap qs' (N + 1) w w' := by
  refine (flushed_any B h R cap qs W H.hx (by omega) (fun i q hq => Nat.le_trans (H.len i q hq) (by omega))).mono ?_
  rintro e w' ⟨rfl, qs', hr, hx, hf⟩
  refine ⟨rfl, qs', hr, hx, hf.after H.bel H.hB (by rintro k hk rfl; have := H.hR; omega), Nat.le_trans H.hB hf.size, H.hR, ?_⟩
  intro i q' hq'
  have hi := (List.getElem?_eq_some_iff.1 hq').1
  rw [hr.1] at hi
  obtain ⟨b, h1, h2⟩ := hr.2 i _ (List.getElem?_eq_getElem hi)
  rw [hq'] at h1
  injection h1 with h1
  subst h1
  rw [if_pos hi] at h2
  have hlen := H.len i _ (List.getElem?_eq_getElem hi)
  cases hs : (qs[i]'hi).seen with
  | false => rw [h2.1 hs]; omega
  | true => rw [(h2.2 hs).1, List.length_drop]; omega
theorem lost_s (H : HS B h R cap qs N w W) (hm : qs.length ≤ 1000) (hN : N ≤ 1000) : Calls Try.prog 9 #[.pointer (some ⟨h, 0, none⟩)] W fun e w' => e = .returned (.tuple #[]) ∧ ∃ qs', RelK LostOf qs.length qs qs' ∧ HS B h R cap qs' (N + 1) w w' := by
  refine (lost_any B h R cap qs W H.hx (by omega) (fun i q hq => Nat.le_trans (H.len i q hq) (by omega))).mono ?_
  rintro e w' ⟨rfl, qs', hr, hx, hf⟩
  refine ⟨rfl, qs', hr, hx, hf.after H.bel H.hB (by rintro k hk rfl; have := H.hR; omega), Nat.le_trans H.hB hf.size, H.hR, ?_⟩
  intro i q' hq'
  have hi := (List.getElem?_eq_some_iff.1 hq').1
  rw [hr.1] at hi
  obtain ⟨b, h1, h2⟩ := hr.2 i _ (List.getElem?_eq_getElem hi)
  rw [hq'] at h1
  injection h1 with h1
  subst h1
  rw [if_pos hi] at h2
  have hlen := H.len i _ (List.getElem?_eq_getElem hi)
  rw [h2.1]; omega
theorem wrote_s (i : Nat) (q : Pc) (d : ByteArray) (H : HS B h R cap qs N w W) (hq : qs[i]? = some q) (hm : qs.length ≤ 1000) (hN : N ≤ 1000) : Calls Try.prog 7 #[.pointer (some ⟨h, 0, none⟩), .int .i64 i, .string d] W fun e w' => e = .returned (.bool true) ∧ ∃ v g, HS B h R cap (qs.set i (wrQ q d v g)) (N + 1) w w' := by
  have hl := H.len i q hq
  refine (wrote_in B h R cap qs i q d W H.hx hq (by omega) H.hB (by omega)).mono ?_
  rintro e w' ⟨rfl, v, g, hx, hf⟩
  refine ⟨rfl, v, g, hx, hf.after H.bel H.hB ?_, Nat.le_trans H.hB hf.size, H.hR, ?_⟩
  · rintro k hk (rfl | rfl)
    · have := H.hR; omega
    · have := (H.hx.txt i q hq).hB; omega
  · intro j a ha
    rw [List.getElem?_set] at ha
    split at ha
    · split at ha
      · injection ha with ha
        subst ha
        show (q.l ++ [d]).length ≤ N + 1
        simp; omega
      · cases ha
    · exact Nat.le_trans (H.len j a ha) (by omega)
end
/-- what a step leaves -/
def StepP (B h R cap N : Nat) (qs : List Pc) (k e : Int) (w : World) (r : Ending) (w' : World) : Prop := r = .returned (.tuple #[]) ∧ ∃ qs', HS B h R cap qs' (N + 1) w w' ∧ qs'.length = qs.length ∧ (k < 2 → ∀ x : Nat, (x : Int) ≠ e → qs'[x]? = qs[x]?)
theorem step_any {B h R cap N : Nat} {qs : List Pc} {w W : World} (k e : Int) (d : ByteArray) (H : HS B h R cap qs N w W) (hm : qs.length ≤ 1000) (hN : N ≤ 1000) : Calls Try.prog 6 #[.pointer (some ⟨h, 0, none⟩), .agg #[.int .i64 k, .int .i64 e, .string d]] W (StepP B h R cap N qs k e w) := by
  have hb := alb W (.cells #[.int .i64 k, .int .i64 e, .string d] 29)
  have H2 := H.below hb
  have c2 := flushed_s H2 hm hN
  have c3 := lost_s H2 hm hN
  have hsame : StepP B h R cap N qs k e w (.returned (.tuple #[])) (W.alloc (.cells #[.int .i64 k, .int .i64 e, .string d] 29)) := ⟨rfl, qs, H2.up (Nat.le_succ _), rfl, fun _ _ _ => rfl⟩
  have hw : Calls Try.prog 7 #[.pointer (some ⟨h, 0, none⟩), .int .i64 e, .string d] (W.alloc (.cells #[.int .i64 k, .int .i64 e, .string d] 29)) fun r w' => (∃ b, r = .returned (.bool b)) ∧ StepP B h R cap N qs k e w (.returned (.tuple #[])) w' := by
    by_cases hin : 0 ≤ e ∧ e < qs.length
    · obtain ⟨i, rfl⟩ : ∃ i : Nat, e = i := ⟨e.toNat, by omega⟩
      have hi : i < qs.length := by omega
      refine (wrote_s i _ d H2 (List.getElem?_eq_getElem hi) hm hN).mono ?_
      rintro r w' ⟨rfl, v, g, hs⟩
      exact ⟨⟨true, rfl⟩, rfl, _, hs, List.length_set, fun _ x hx => List.getElem?_set_ne (by omega)⟩
    · refine (wrote_out B h R cap qs e d _ H2.hx (by omega)).mono ?_
      rintro r w' ⟨rfl, rfl⟩
      exact ⟨⟨false, rfl⟩, hsame⟩
  replace hsame := Lib.hid hsame
  by_cases h0 : k = 0
  · subst h0
    go_enter Try.func6, Try.ntmps6
    go_wp2_with (go_at_call 7; (with_reducible refine hw.mono ?_); rintro e w1 ⟨⟨b, rfl⟩, hx⟩)
    go_end0
    exact hx
  · have z0 : (k == 0) = false := beq_eq_false_iff_ne.2 h0
    by_cases h1 : k = 1
    · subst h1
      go_enter Try.func6, Try.ntmps6
      go_wp2_with (go_at_call 7; (with_reducible refine hw.mono ?_); rintro e w1 ⟨⟨b, rfl⟩, hx⟩)
      go_end0
      exact hx
    · have z1 : (k == 1) = false := beq_eq_false_iff_ne.2 h1
      by_cases h2 : k = 2
      · subst h2
        go_enter Try.func6, Try.ntmps6
        go_wp2_with (go_at_call 8; (with_reducible refine c2.mono ?_); rintro e w1 ⟨rfl, qs', hr, hx⟩)
        go_end0
        exact ⟨rfl, qs', hx, hr.1, fun h => absurd h (by decide)⟩
      · have z2 : (k == 2) = false := beq_eq_false_iff_ne.2 h2
        by_cases h3 : k = 3
        · subst h3
          go_enter Try.func6, Try.ntmps6
          go_wp2_with (go_at_call 9; (with_reducible refine c3.mono ?_); rintro e w1 ⟨rfl, qs', hr, hx⟩)
          go_end0
          exact ⟨rfl, qs', hx, hr.1, fun h => absurd h (by decide)⟩
        · have z3 : (k == 3) = false := beq_eq_false_iff_ne.2 h3
          go_enter Try.func6, Try.ntmps6
          go_wp2
          go_end0
          exact hsame.out
end Go.Proofs.Ytecfppglpallmaa
