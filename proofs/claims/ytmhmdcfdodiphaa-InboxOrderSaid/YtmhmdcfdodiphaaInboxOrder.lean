/-
  Urgent ones first: the walk of InboxOrder.
-/
import Derived.Test.YtmhmdcfdodiphaaInboxDoes
namespace Go.Proofs.Ytmhmdcfdodiphaa
open Go.RowKit
set_option linter.unusedVariables false
set_option linter.unusedSimpArgs false

def urg (l : List IOp) : List ByteArray := (l.filter fun x => x.k == 2).map IOp.s
def oth (l : List IOp) : List ByteArray := (l.filter fun x => !(x.k == 2)).map IOp.s
theorem urg_len (l : List IOp) : (urg l).length + (oth l).length = l.length := by
  unfold urg oth
  induction l with
  | nil => rfl
  | cons x l ih =>
    cases hx : x.k == 2 <;> simp [List.filter_cons, hx] at ih ⊢ <;> omega
theorem urg_snoc (l : List IOp) (x : IOp) : urg (l ++ [x]) = if x.k == 2 then urg l ++ [x.s] else urg l := by
  unfold urg
  rw [List.filter_append, List.map_append]
  cases hx : x.k == 2 <;> simp [List.filter_cons, hx]
theorem oth_snoc (l : List IOp) (x : IOp) : oth (l ++ [x]) = if x.k == 2 then oth l else oth l ++ [x.s] := by
  unfold oth
  rw [List.filter_append, List.map_append]
  cases hx : x.k == 2 <;> simp [List.filter_cons, hx]
theorem take_next (l : List IOp) (k : Nat) (h : k < l.length) : l.take (k + 1) = l.take k ++ [l[k]] := List.take_succ_eq_append_getElem h
structure OR1 (N M p cu co : Nat) (w0 : World) (U O : List ByteArray) (u v : Value) (wr : World) : Prop where
  su : Strs wr M u U
  so : Strs wr M v O
  ap : Apart u v
  bx : BX wr p cu co 100 U O false
  be : Below N w0 wr
  hM : M ≤ wr.heap.size
structure Lay2 (N M p cu co : Nat) : Prop where
  np : N ≤ p
  ncu : N ≤ cu
  nco : N ≤ co
  pM : p < M
  cuM : cu < M
  coM : co < M
theorem Strs.fr {S : Nat → Prop} {w w' : World} {B : Nat} {v : Value} {l : List ByteArray} (h : Strs w B v l) (hf : Frm S w w') (hs : ∀ g, v.ownBlock = some g → ¬ S g) : Strs w' B v l := ownsRow_frm h hf hs
theorem OR1.drew {N M p cu co : Nat} {w0 : World} {U O : List ByteArray} {u v : Value} {wr : World} (h : OR1 N M p cu co w0 U O u v wr) : OR1 N M p cu co w0 U O u v wr.drew :=
  ⟨h.su.frm (S := fun _ => False) (Frm.drew (Frm.refl _ _)) (fun _ _ => id), h.so.frm (S := fun _ => False) (Frm.drew (Frm.refl _ _)) (fun _ _ => id), h.ap, h.bx.drew, h.be.drew, h.hM⟩
/-- behind Put: the box has one more line -/
structure OR2 (N M p cu co : Nat) (w0 : World) (U O U' O' : List ByteArray) (u v : Value) (wr : World) : Prop where
  su : Strs wr M u U
  so : Strs wr M v O
  ap : Apart u v
  bx : BX wr p cu co 100 U' O' false
  be : Below N w0 wr
  hM : M ≤ wr.heap.size
theorem OR1.put {N M p cu co : Nat} {w0 : World} {U O U' O' : List ByteArray} {u v : Value} {wr w4 : World} (L : Lay2 N M p cu co) (hN : N = w0.heap.size) (h : OR1 N M p cu co w0 U O u v wr) (hb : BX w4 p cu co 100 U' O' false) (hf : Frm (fun k => k = cu ∨ k = co) wr w4) : OR2 N M p cu co w0 U O U' O' u v w4 :=
  have hs : ∀ k, M ≤ k → ¬ (k = cu ∨ k = co) := by intro k hk; have := L.cuM; have := L.coM; omega
  ⟨h.su.frm hf hs, h.so.frm hf hs, h.ap, hb, by subst hN; exact below_frm h.be hf (by rintro k (rfl | rfl); exact L.ncu; exact L.nco), Nat.le_trans h.hM hf.size⟩
theorem OR2.appU {N M p cu co : Nat} {w0 : World} {U O U' : List ByteArray} {u v u' : Value} {w4 w5 : World} (L : Lay2 N M p cu co) (hN : N = w0.heap.size) (h : OR2 N M p cu co w0 U O U' O u v w4) (hs : Strs w5 M u' U') (hf : Frm (fun k => some k = u.ownBlock) w4 w5) (hst : Stay w4 u u') : OR1 N M p cu co w0 U' O u' v w5 := by
  have hlo : ∀ k, k < M → ¬ (some k = u.ownBlock) := fun k hk he => by have := (World.ownsRow.lt h.su k he.symm).1; omega
  refine ⟨hs, h.so.fr hf h.ap.frm, h.ap.stay hst h.so, h.bx.frm hf (hlo _ L.pM) (hlo _ L.cuM) (hlo _ L.coM), ?_, Nat.le_trans h.hM hf.size⟩
  subst hN
  refine below_frm h.be hf fun k hk => ?_
  have := (World.ownsRow.lt h.su k hk.symm).1
  have := L.pM
  have := L.np
  omega
theorem OR2.appO {N M p cu co : Nat} {w0 : World} {U O O' : List ByteArray} {u v v' : Value} {w4 w5 : World} (L : Lay2 N M p cu co) (hN : N = w0.heap.size) (h : OR2 N M p cu co w0 U O U O' u v w4) (hs : Strs w5 M v' O') (hf : Frm (fun k => some k = v.ownBlock) w4 w5) (hst : Stay w4 v v') : OR1 N M p cu co w0 U O' u v' w5 := by
  have hlo : ∀ k, k < M → ¬ (some k = v.ownBlock) := fun k hk he => by have := (World.ownsRow.lt h.so k he.symm).1; omega
  refine ⟨h.su.fr hf h.ap.symm.frm, hs, (h.ap.symm.stay hst h.su).symm, h.bx.frm hf (hlo _ L.pM) (hlo _ L.cuM) (hlo _ L.coM), ?_, Nat.le_trans h.hM hf.size⟩
  subst hN
  refine below_frm h.be hf fun k hk => ?_
  have := (World.ownsRow.lt h.so k hk.symm).1
  have := L.pM
  have := L.np
  omega
/-- while lines are taken -/
structure OR3 (N M p cu co : Nat) (w0 : World) (U O G U' O' : List ByteArray) (u v g : Value) (wr : World) : Prop where
  su : Strs wr M u U
  so : Strs wr M v O
  sg : Strs wr M g G
  a1 : Apart g u
  a2 : Apart g v
  bx : BX wr p cu co 100 U' O' false
  be : Below N w0 wr
  hM : M ≤ wr.heap.size
theorem OR3.next {N M p cu co : Nat} {w0 : World} {U O G U' O' U2 O2 : List ByteArray} {u v g : Value} {wr w4 : World} (L : Lay2 N M p cu co) (hN : N = w0.heap.size) (h : OR3 N M p cu co w0 U O G U' O' u v g wr) (hb : BX w4 p cu co 100 U2 O2 false) (hf : Frm (fun k => k = cu ∨ k = co) wr w4) : OR3 N M p cu co w0 U O G U2 O2 u v g w4 :=
  have hs : ∀ k, M ≤ k → ¬ (k = cu ∨ k = co) := by intro k hk; have := L.cuM; have := L.coM; omega
  ⟨h.su.frm hf hs, h.so.frm hf hs, h.sg.frm hf hs, h.a1, h.a2, hb, by subst hN; exact below_frm h.be hf (by rintro k (rfl | rfl); exact L.ncu; exact L.nco), Nat.le_trans h.hM hf.size⟩
theorem OR3.app {N M p cu co : Nat} {w0 : World} {U O G G' U' O' : List ByteArray} {u v g g' : Value} {w4 w5 : World} (L : Lay2 N M p cu co) (hN : N = w0.heap.size) (h : OR3 N M p cu co w0 U O G U' O' u v g w4) (hs : Strs w5 M g' G') (hf : Frm (fun k => some k = g.ownBlock) w4 w5) (hst : Stay w4 g g') : OR3 N M p cu co w0 U O G' U' O' u v g' w5 := by
  have hlo : ∀ k, k < M → ¬ (some k = g.ownBlock) := fun k hk he => by have := (World.ownsRow.lt h.sg k he.symm).1; omega
  refine ⟨h.su.fr hf h.a1.frm, h.so.fr hf h.a2.frm, hs, h.a1.stay hst h.su, h.a2.stay hst h.so, h.bx.frm hf (hlo _ L.pM) (hlo _ L.cuM) (hlo _ L.coM), ?_, Nat.le_trans h.hM hf.size⟩
  subst hN
  refine below_frm h.be hf fun k hk => ?_
  have := (World.ownsRow.lt h.sg k hk.symm).1
  have := L.pM
  have := L.np
  omega
/-- which lines are left behind k -/
theorem next_drop (U O : List ByteArray) (k : Nat) (hk : k < U.length + O.length) :
    (U.drop k).tail = U.drop (k + 1) ∧ (if (U.drop k).isEmpty then (O.drop (k - U.length)).tail else O.drop (k - U.length)) = O.drop (k + 1 - U.length) ∧
    nextV (U.drop k) (O.drop (k - U.length)) = (U ++ O)[k]'(by simp; exact hk) ∧ (!((U.drop k).isEmpty && (O.drop (k - U.length)).isEmpty)) = true := by
  refine ⟨by rw [List.tail_drop], ?_⟩
  by_cases h : k < U.length
  · have he : (U.drop k).isEmpty = false := by
      rw [List.isEmpty_eq_false_iff, Ne, List.drop_eq_nil_iff]; omega
    refine ⟨?_, ?_, by simp [he]⟩
    · rw [he]; simp; congr 1; omega
    · unfold nextV firstV
      rw [he, List.drop_eq_getElem_cons h, List.getElem_append_left h]
      rfl
  · have he : (U.drop k).isEmpty = true := by
      rw [List.isEmpty_iff, List.drop_eq_nil_iff]; omega
    have h2 : k - U.length < O.length := by omega
    have he2 : (O.drop (k - U.length)).isEmpty = false := by
      rw [List.isEmpty_eq_false_iff, Ne, List.drop_eq_nil_iff]; omega
    refine ⟨?_, ?_, by simp [he2]⟩
    · rw [he]; simp only [if_true, List.tail_drop]; congr 1; omega
    · unfold nextV firstV
      rw [he, List.drop_eq_getElem_cons h2, List.getElem_append_right (Nat.le_of_not_lt h)]
      rfl
theorem wpl_app_txw {ops : Array Oper} {rest : List Oper} {o : Oper} {a : Act} {Q : Exit → Act → World → Prop} (hw : Region.wanted o (yielded ops a.tmps) = true) (s x : Operand) (w : World) (B : Nat) (v vx : Value) (l m : List ByteArray) (hs : a.eval s = v) (hx : a.eval x = vx)
    (hown : Strs w B v l) (htx : TX w 0 vx m) (hlen : l.length + m.length ≤ 1099511627776) (hB : B ≤ w.heap.size)
    (h : ∀ v' w', Strs w' B v' (l ++ m) → Frm (fun k => B ≤ k) w w' → wpList Try.prog ops Q rest (a.put o.dst v') w')
    (ho : o.op = .call { callee := .builtin .append, args := #[s, x], argTypes := #[26, 26] }) (ht : o.type = 26) : wpList Try.prog ops Q (o :: rest) a w :=
  wpList_step fun K hK => by
    rw [if_pos hw]
    exact wp_app_tx s x w B v vx l m hs hx hown htx hlen hB (fun v' w' h1 h2 => hK _ _ (h v' w' h1 h2)) ho ht
def OR1_next (N M p cu co : Nat) (l : List IOp) (w : World) (k : Nat) (U O : List ByteArray) : Prop := ∀ u v wr, OR1 N M p cu co w U O u v wr → OR1 N M p cu co w (urg (l.take (k + 1))) (oth (l.take (k + 1))) u v wr
def put_of_t (w : World) (p cu co : Nat) (U O : List ByteArray) (x : ByteArray) (g : Bool) (U' O' : List ByteArray) : Prop :=
  Calls Try.prog 7 #[.pointer (some ⟨p, 0, none⟩), .string x, .bool g] w fun e w' => e = .returned (.int .i64 0) ∧ BX w' p cu co 100 U' O' false ∧ Frm (fun k => k = cu ∨ k = co) w w'
theorem put_of_t.get {w : World} {p cu co : Nat} {U O : List ByteArray} {x : ByteArray} {g : Bool} {U' O' : List ByteArray} (h : put_of_t w p cu co U O x g U' O') :
  Calls Try.prog 7 #[.pointer (some ⟨p, 0, none⟩), .string x, .bool g] w fun e w' => e = .returned (.int .i64 0) ∧ BX w' p cu co 100 U' O' false ∧ Frm (fun k => k = cu ∨ k = co) w w' := h
theorem cells_fr {N M p cu co b i j : Nat} {v u : Value} {wr w4 : World} (hb : b < N) (L : Lay2 N M p cu co) (hf : Frm (fun k => k = cu ∨ k = co) wr w4) (h : wr.cell? ⟨b, i, none⟩ = some v ∧ wr.cell? ⟨b, j, none⟩ = some u) : w4.cell? ⟨b, i, none⟩ = some v ∧ w4.cell? ⟨b, j, none⟩ = some u :=
  have hn : ¬ (b = cu ∨ b = co) := by have := L.ncu; have := L.nco; omega
  ⟨hf.cell (p := ⟨b, i, none⟩) hn h.1, hf.cell (p := ⟨b, j, none⟩) hn h.2⟩
def R1 (N M p cu co len : Nat) (l : List IOp) (w : World) (u v i : Value) (wr : World) : Prop := ∃ k : Nat, k ≤ len ∧ i = .int .i64 k ∧ OR1 N M p cu co w (urg (l.take k)) (oth (l.take k)) u v wr
def R3 (N M p cu co len : Nat) (U O : List ByteArray) (w : World) (u v g i : Value) (wr : World) : Prop := ∃ k : Nat, k ≤ len ∧ i = .int .i64 k ∧ OR3 N M p cu co w U O ((U ++ O).take k) (U.drop k) (O.drop (k - U.length)) u v g wr
set_option maxRecDepth 100000 in
set_option maxHeartbeats 3200000 in
theorem walk_InboxOrder (a : Option Addr) (len cap : Nat) (l : List IOp) {w : World} (hl : IsList w a len 2 iopE iopOk l) :
    Calls Try.prog 3 #[.slice a len cap] w fun e w' => e = .returned (.bool true) ∧ Below w.heap.size w w' := by
  have hm := hl.most
  by_cases hbig : 90 < len
  · go_enter Try.func3, Try.ntmps3
    go_wp2_with (go_at_call 5; (with_reducible refine (works_any _).mono ?_); rintro e w1 ⟨rfl, hb1⟩)
    go_ret
    exact ⟨rfl, hb1⟩
  have hlen := Lib.hid hl.size_eq
  obtain ⟨n, hn⟩ : ∃ n, nB 100 = n := ⟨_, rfl⟩
  go_enter Try.func3, Try.ntmps3
  go_wp2_with (first | (go_at_call 5; (with_reducible refine (works_any _).mono ?_); rintro e w1 ⟨rfl, hb1⟩) | (go_at_call 6; (with_reducible refine (new_any 100 _ (by decide)).mono ?_); rintro e w2 ⟨p, cu, co, rfl, hx2, hp, hu, ho, hb2⟩))
  rw [show nB 100 = 100 from rfl] at hx2
  have hz1 := hb1.size
  have hb02 := bt hb1 hb2
  have hlt2 := hx2.lt
  have hL : Lay2 w.heap.size w2.heap.size p cu co := ⟨by omega, by omega, by omega, by omega, by omega, by omega⟩
  have h0 : OR1 w.heap.size w2.heap.size p cu co w (urg (l.take 0)) (oth (l.take 0)) (.slice none 0 0) (.slice none 0 0) w2 := ⟨Strs.nil _ _, Strs.nil _ _, fun g hg => by simp [Value.ownBlock] at hg, hx2, hb02, Nat.le_refl _⟩
  clear hz1 hb02 hlt2 hx2 hb2 hb1 hp hu ho hn
  generalize w2.heap.size = M at *
  obtain ⟨N, hNw⟩ : ∃ N, w.heap.size = N := ⟨_, rfl⟩
  rw [hNw] at h0 hL
  have hNw := Lib.hid hNw
  have hbig : len ≤ 90 := by omega
  go_loopw [4, 5, 6] (fun u v i wr => R1 N M p cu co len l w u v i wr) (fun _ _ i _ => len - (intOf i).toNat)
  case atStart => exact ⟨0, Nat.zero_le _, rfl, h0⟩
  case round =>
    obtain ⟨k, hk, rfl, hR⟩ := hrel
    by_cases hlt : k < len
    · obtain ⟨b, o, rfl, _⟩ := hl.at_ (by omega)
      have hk1 : k < l.length := by have := hlen.out; omega
      have g0 : wr.cell? ⟨b, o + k * 2, none⟩ = some (.int .i64 l[k].k) := (hl.get (hNw.out ▸ hR.be) (Nat.le_refl _) k hk1 0 (by decide) _ rfl).1
      have g1 : wr.cell? ⟨b, o + k * 2 + 1, none⟩ = some (.string l[k].s) := (hl.get (hNw.out ▸ hR.be) (Nat.le_refl _) k hk1 1 (by decide) _ rfl).1
      have hbN := (hl.get (hNw.out ▸ hR.be) (Nat.le_refl _) k hk1 0 (by decide) _ rfl).2
      rw [hNw.out] at hbN
      have hul := urg_len (l.take k)
      have htl : (l.take k).length = k := by rw [List.length_take]; omega
      rw [htl] at hul
      have HKT : (l[k].k = 2 → OR1_next N M p cu co l w k (urg (l.take k) ++ [l[k].s]) (oth (l.take k))) ∧ (¬ l[k].k = 2 → OR1_next N M p cu co l w k (urg (l.take k)) (oth (l.take k) ++ [l[k].s])) := by
        refine ⟨fun h2 u v wr h => ?_, fun h2 u v wr h => ?_⟩
        · rw [take_next l k hk1, urg_snoc, oth_snoc, if_pos (by simpa using h2), if_pos (by simpa using h2)]; exact h
        · rw [take_next l k hk1, urg_snoc, oth_snoc, if_neg (by simpa using h2), if_neg (by simpa using h2)]; exact h
      generalize urg (l.take k) = U at *
      generalize oth (l.take k) = O at *
      generalize l[k].k = kd at *
      generalize l[k].s = x at *
      have hlU : U.length < 100 := by omega
      have hlO : O.length < 100 := by omega
      have hul : U.length + O.length ≤ 1000 := by omega
      clear htl
      by_cases hk2 : kd = 2
      · have HKN := HKT.1
        clear HKT
        have hd : (kd == 2) = true := by simpa using hk2
        have hpk : put_of_t (World.drew wr) p cu co U O x (kd == 2) (U ++ [x]) (O) := put_of hR.bx.drew x (kd == 2) (by rw [hd]; simp [putL, hlU]) (by rw [hd]; simp [putL, hlO]) (by rw [hd]; simp [putE, hlU, hlO])
        rw [hd] at hpk
        have hR0 := hR.drew
        have M1 : wr.drew.cell? ⟨b, o + k * 2, none⟩ = some (.int .i64 kd) ∧ wr.drew.cell? ⟨b, o + k * 2 + 1, none⟩ = some (.string x) := ⟨g0, g1⟩
        have hpk := Lib.hid hpk
        have hK1 : Hid (OR1_next N M p cu co l w k (U ++ [x]) (O)) := HKN hk2
        clear hk2 HKN
        go_wp2_with fail
        refine wp_region_held_drew (S := (fun w' : World => w'.cell? ⟨b, o + k * 2, none⟩ = some (.int .i64 kd) ∧ w'.cell? ⟨b, o + k * 2 + 1, none⟩ = some (.string x))) (by kernel_rfl) ?_ (fun hHeld => ?_)
        · first | exact M1 | exact M4
        first | (refine tw (i := 0) (v := ?_) ?_ hHeld ?_; rotate_left; focus (intro w hSw; (try dsimp only at hSw); go_simp; (try with_reducible rfl); done)) | refine tn (i := 0) hHeld ?_
        try simp only [Act.put, List.setIfInBounds_toArray, List.set_cons_zero, List.set_cons_succ]
        first | (refine tw (i := 1) (v := ?_) ?_ hHeld ?_; rotate_left; focus (intro w hSw; (try dsimp only at hSw); go_simp; (try with_reducible rfl); done)) | refine tn (i := 1) hHeld ?_
        try simp only [Act.put, List.setIfInBounds_toArray, List.set_cons_zero, List.set_cons_succ]
        first | (refine tw (i := 2) (v := ?_) ?_ hHeld ?_; rotate_left; focus (intro w hSw; (try dsimp only at hSw); go_simp; (try with_reducible rfl); done)) | refine tn (i := 2) hHeld ?_
        try simp only [Act.put, List.setIfInBounds_toArray, List.set_cons_zero, List.set_cons_succ]
        first | (refine tw (i := 3) (v := ?_) ?_ hHeld ?_; rotate_left; focus (intro w hSw; (try dsimp only at hSw); go_simp; (try with_reducible rfl); done)) | refine tn (i := 3) hHeld ?_
        try simp only [Act.put, List.setIfInBounds_toArray, List.set_cons_zero, List.set_cons_succ]
        first | (refine tw (i := 4) (v := ?_) ?_ hHeld ?_; rotate_left; focus (intro w hSw; (try dsimp only at hSw); go_simp; (try with_reducible rfl); done)) | refine tn (i := 4) hHeld ?_
        try simp only [Act.put, List.setIfInBounds_toArray, List.set_cons_zero, List.set_cons_succ]
        first | (refine tw (i := 5) (v := ?_) ?_ hHeld ?_; rotate_left; focus (intro w hSw; (try dsimp only at hSw); go_simp; (try with_reducible rfl); done)) | refine tn (i := 5) hHeld ?_
        try simp only [Act.put, List.setIfInBounds_toArray, List.set_cons_zero, List.set_cons_succ]
        first | (refine tw (i := 6) (v := ?_) ?_ hHeld ?_; rotate_left; focus (intro w hSw; (try dsimp only at hSw); go_simp; (try with_reducible rfl); done)) | refine tn (i := 6) hHeld ?_
        try simp only [Act.put, List.setIfInBounds_toArray, List.set_cons_zero, List.set_cons_succ]
        first | (refine tw (i := 7) (v := ?_) ?_ hHeld ?_; rotate_left; focus (intro w hSw; (try dsimp only at hSw); go_simp; (try with_reducible rfl); done)) | refine tn (i := 7) hHeld ?_
        try simp only [Act.put, List.setIfInBounds_toArray, List.set_cons_zero, List.set_cons_succ]
        first | (refine tw (i := 8) (v := ?_) ?_ hHeld ?_; rotate_left; focus (intro w hSw; (try dsimp only at hSw); go_simp; (try with_reducible rfl); done)) | refine tn (i := 8) hHeld ?_
        try simp only [Act.put, List.setIfInBounds_toArray, List.set_cons_zero, List.set_cons_succ]
        first | (refine tw (i := 9) (v := ?_) ?_ hHeld ?_; rotate_left; focus (intro w hSw; (try dsimp only at hSw); go_simp; (try with_reducible rfl); done)) | refine tn (i := 9) hHeld ?_
        try simp only [Act.put, List.setIfInBounds_toArray, List.set_cons_zero, List.set_cons_succ]
        first | (refine tw (i := 10) (v := ?_) ?_ hHeld ?_; rotate_left; focus (intro w hSw; (try dsimp only at hSw); go_simp; (try with_reducible rfl); done)) | refine tn (i := 10) hHeld ?_
        try simp only [Act.put, List.setIfInBounds_toArray, List.set_cons_zero, List.set_cons_succ]
        first | (refine tw (i := 11) (v := ?_) ?_ hHeld ?_; rotate_left; focus (intro w hSw; (try dsimp only at hSw); go_simp; (try with_reducible rfl); done)) | refine tn (i := 11) hHeld ?_
        try simp only [Act.put, List.setIfInBounds_toArray, List.set_cons_zero, List.set_cons_succ]
        refine call_next (i := 12) (by kernel_rfl) (by rfl) ?_
        intro o ho K hK
        simp only [List.getElem?_toArray, List.getElem?_cons_succ, List.getElem?_cons_zero, Option.some.injEq] at ho
        subst ho
        first | (fail; refine hK.out _ _ ?_ (fun hHeld => ?_)) | (go_simp; first | (with_reducible refine hK.out _ _ ?_ (fun hHeld => ?_)) | ((go_at_call 7; (with_reducible refine hpk.out.get.mono ?_); rintro e w4 ⟨rfl, hx4, hf4⟩; have h4 := hR0.put hL hNw.out.symm hx4 hf4; have M4 := cells_fr hbN hL hf4 M1); refine hK.out _ _ ?_ (fun hHeld => ?_)))
        · first | exact M1 | exact M4
        clear hK K
        try simp only [Act.put, List.setIfInBounds_toArray, List.set_cons_zero, List.set_cons_succ]
        first | (refine tw (i := 13) (v := ?_) ?_ hHeld ?_; rotate_left; focus (intro w hSw; (try dsimp only at hSw); go_simp; (try with_reducible rfl); done)) | refine tn (i := 13) hHeld ?_
        try simp only [Act.put, List.setIfInBounds_toArray, List.set_cons_zero, List.set_cons_succ]
        refine wpAnyH_done (by kernel_rfl) ?_ _
        obtain ⟨g0, g1⟩ := M4
        clear M1
        go_wp2_with (at_builtin; refine app_own2 rfl (.tmp 45) (.tmp 51) rfl _ M _ _ x rfl rfl h4.su (by omega) h4.hM ?_; intro v' w5 hs5 hf5 hst5; have h5 := h4.appU hL hNw.out.symm hs5 hf5 hst5)
        exact ⟨⟨k + 1, by omega, by go_num, hK1.out _ _ _ h5⟩, by simp [intOf]; omega⟩
      · have HKN := HKT.2
        clear HKT
        have hd : (kd == 2) = false := by simpa using hk2
        have hpk : put_of_t (World.drew wr) p cu co U O x (kd == 2) (U) (O ++ [x]) := put_of hR.bx.drew x (kd == 2) (by rw [hd]; simp [putL, hlU]) (by rw [hd]; simp [putL, hlO]) (by rw [hd]; simp [putE, hlU, hlO])
        rw [hd] at hpk
        have hR0 := hR.drew
        have M1 : wr.drew.cell? ⟨b, o + k * 2, none⟩ = some (.int .i64 kd) ∧ wr.drew.cell? ⟨b, o + k * 2 + 1, none⟩ = some (.string x) := ⟨g0, g1⟩
        have hpk := Lib.hid hpk
        have hK1 : Hid (OR1_next N M p cu co l w k (U) (O ++ [x])) := HKN hk2
        clear hk2 HKN
        go_wp2_with fail
        refine wp_region_held_drew (S := (fun w' : World => w'.cell? ⟨b, o + k * 2, none⟩ = some (.int .i64 kd) ∧ w'.cell? ⟨b, o + k * 2 + 1, none⟩ = some (.string x))) (by kernel_rfl) ?_ (fun hHeld => ?_)
        · first | exact M1 | exact M4
        first | (refine tw (i := 0) (v := ?_) ?_ hHeld ?_; rotate_left; focus (intro w hSw; (try dsimp only at hSw); go_simp; (try with_reducible rfl); done)) | refine tn (i := 0) hHeld ?_
        try simp only [Act.put, List.setIfInBounds_toArray, List.set_cons_zero, List.set_cons_succ]
        first | (refine tw (i := 1) (v := ?_) ?_ hHeld ?_; rotate_left; focus (intro w hSw; (try dsimp only at hSw); go_simp; (try with_reducible rfl); done)) | refine tn (i := 1) hHeld ?_
        try simp only [Act.put, List.setIfInBounds_toArray, List.set_cons_zero, List.set_cons_succ]
        first | (refine tw (i := 2) (v := ?_) ?_ hHeld ?_; rotate_left; focus (intro w hSw; (try dsimp only at hSw); go_simp; (try with_reducible rfl); done)) | refine tn (i := 2) hHeld ?_
        try simp only [Act.put, List.setIfInBounds_toArray, List.set_cons_zero, List.set_cons_succ]
        first | (refine tw (i := 3) (v := ?_) ?_ hHeld ?_; rotate_left; focus (intro w hSw; (try dsimp only at hSw); go_simp; (try with_reducible rfl); done)) | refine tn (i := 3) hHeld ?_
        try simp only [Act.put, List.setIfInBounds_toArray, List.set_cons_zero, List.set_cons_succ]
        first | (refine tw (i := 4) (v := ?_) ?_ hHeld ?_; rotate_left; focus (intro w hSw; (try dsimp only at hSw); go_simp; (try with_reducible rfl); done)) | refine tn (i := 4) hHeld ?_
        try simp only [Act.put, List.setIfInBounds_toArray, List.set_cons_zero, List.set_cons_succ]
        first | (refine tw (i := 5) (v := ?_) ?_ hHeld ?_; rotate_left; focus (intro w hSw; (try dsimp only at hSw); go_simp; (try with_reducible rfl); done)) | refine tn (i := 5) hHeld ?_
        try simp only [Act.put, List.setIfInBounds_toArray, List.set_cons_zero, List.set_cons_succ]
        first | (refine tw (i := 6) (v := ?_) ?_ hHeld ?_; rotate_left; focus (intro w hSw; (try dsimp only at hSw); go_simp; (try with_reducible rfl); done)) | refine tn (i := 6) hHeld ?_
        try simp only [Act.put, List.setIfInBounds_toArray, List.set_cons_zero, List.set_cons_succ]
        first | (refine tw (i := 7) (v := ?_) ?_ hHeld ?_; rotate_left; focus (intro w hSw; (try dsimp only at hSw); go_simp; (try with_reducible rfl); done)) | refine tn (i := 7) hHeld ?_
        try simp only [Act.put, List.setIfInBounds_toArray, List.set_cons_zero, List.set_cons_succ]
        first | (refine tw (i := 8) (v := ?_) ?_ hHeld ?_; rotate_left; focus (intro w hSw; (try dsimp only at hSw); go_simp; (try with_reducible rfl); done)) | refine tn (i := 8) hHeld ?_
        try simp only [Act.put, List.setIfInBounds_toArray, List.set_cons_zero, List.set_cons_succ]
        first | (refine tw (i := 9) (v := ?_) ?_ hHeld ?_; rotate_left; focus (intro w hSw; (try dsimp only at hSw); go_simp; (try with_reducible rfl); done)) | refine tn (i := 9) hHeld ?_
        try simp only [Act.put, List.setIfInBounds_toArray, List.set_cons_zero, List.set_cons_succ]
        first | (refine tw (i := 10) (v := ?_) ?_ hHeld ?_; rotate_left; focus (intro w hSw; (try dsimp only at hSw); go_simp; (try with_reducible rfl); done)) | refine tn (i := 10) hHeld ?_
        try simp only [Act.put, List.setIfInBounds_toArray, List.set_cons_zero, List.set_cons_succ]
        first | (refine tw (i := 11) (v := ?_) ?_ hHeld ?_; rotate_left; focus (intro w hSw; (try dsimp only at hSw); go_simp; (try with_reducible rfl); done)) | refine tn (i := 11) hHeld ?_
        try simp only [Act.put, List.setIfInBounds_toArray, List.set_cons_zero, List.set_cons_succ]
        refine call_next (i := 12) (by kernel_rfl) (by rfl) ?_
        intro o ho K hK
        simp only [List.getElem?_toArray, List.getElem?_cons_succ, List.getElem?_cons_zero, Option.some.injEq] at ho
        subst ho
        first | (fail; refine hK.out _ _ ?_ (fun hHeld => ?_)) | (go_simp; first | (with_reducible refine hK.out _ _ ?_ (fun hHeld => ?_)) | ((go_at_call 7; (with_reducible refine hpk.out.get.mono ?_); rintro e w4 ⟨rfl, hx4, hf4⟩; have h4 := hR0.put hL hNw.out.symm hx4 hf4; have M4 := cells_fr hbN hL hf4 M1); refine hK.out _ _ ?_ (fun hHeld => ?_)))
        · first | exact M1 | exact M4
        clear hK K
        try simp only [Act.put, List.setIfInBounds_toArray, List.set_cons_zero, List.set_cons_succ]
        first | (refine tw (i := 13) (v := ?_) ?_ hHeld ?_; rotate_left; focus (intro w hSw; (try dsimp only at hSw); go_simp; (try with_reducible rfl); done)) | refine tn (i := 13) hHeld ?_
        try simp only [Act.put, List.setIfInBounds_toArray, List.set_cons_zero, List.set_cons_succ]
        refine wpAnyH_done (by kernel_rfl) ?_ _
        obtain ⟨g0, g1⟩ := M4
        clear M1
        go_wp2_with (at_builtin; refine app_own2 rfl (.tmp 53) (.tmp 59) rfl _ M _ _ x rfl rfl h4.so (by omega) h4.hM ?_; intro v' w5 hs5 hf5 hst5; have h5 := h4.appO hL hNw.out.symm hs5 hf5 hst5)
        exact ⟨⟨k + 1, by omega, by go_num, hK1.out _ _ _ h5⟩, by simp [intOf]; omega⟩
    · obtain rfl : k = len := by omega
      have hul := urg_len l
      rw [List.take_of_length_le (by rw [hlen.out]; exact Nat.le_refl _)] at hR
      rw [hlen.out] at hul
      have h3 : OR3 N M p cu co w (urg l) (oth l) ((urg l ++ oth l).take 0) ((urg l).drop 0) ((oth l).drop (0 - (urg l).length)) u4 u5 (.slice none 0 0) wr :=
        ⟨hR.su, hR.so, Strs.nil _ _, fun g hg => by simp [Value.ownBlock] at hg, fun g hg => by simp [Value.ownBlock] at hg, by simpa using hR.bx, hR.be, hR.hM⟩
      generalize urg l = U at *
      generalize oth l = O at *
      have hul := Lib.hid hul
      clear hR
      go_wp2_with fail
      go_loopw [7, 8] (fun g i wr => R3 N M p cu co k U O w u4 u5 g i wr) (fun _ i _ => k - (intOf i).toNat)
      case atStart => exact ⟨0, Nat.zero_le _, rfl, h3⟩
      case round =>
        obtain ⟨j, hj, rfl, hS⟩ := hrel
        clear h3 h0
        by_cases hjt : j < k
        · obtain ⟨n1, n2, n3, n4⟩ := next_drop U O j (by rw [hul.out]; exact hjt)
          have hnx := Lib.hid (next_of hS.bx n1 n2 n3 n4)
          have hjl : j < (U ++ O).length := by rw [List.length_append, hul.out]; exact hjt
          have htk : Hid ((U ++ O).take (j + 1) = (U ++ O).take j ++ [(U ++ O)[j]]) := List.take_succ_eq_append_getElem hjl
          have htl : ((U ++ O).take j).length = j := by rw [List.length_take]; omega
          have htl : ((U ++ O).take j).length ≤ 1000 := by omega
          clear n1 n2 n3 n4
          generalize (U ++ O)[j] = x at *
          go_wp2_with (first | (go_at_call 8; (with_reducible refine hnx.out.mono ?_); rintro e w4 ⟨rfl, hx4, hf4⟩; have h4 := hS.next hL hNw.out.symm hx4 hf4) | (at_builtin; refine app_own2 rfl (.tmp 74) (.tmp 76) rfl _ M _ _ x rfl rfl h4.sg (by omega) h4.hM ?_; intro v' w5 hs5 hf5 hst5; have h5 := h4.app hL hNw.out.symm hs5 hf5 hst5))
          exact ⟨⟨j + 1, by omega, by go_num, by rw [htk.out]; exact h5⟩, by simp [intOf]; omega⟩
        · obtain rfl : j = k := by omega
          have hlen2 : (U ++ O).length = j := by rw [List.length_append, hul.out]
          have hS2 : OR3 N M p cu co w U O (U ++ O) [] [] u4 u5 u7 wr := by
            have h1 : U.drop j = [] := List.drop_eq_nil_iff.2 (by have := hul.out; omega)
            have h2 : O.drop (j - U.length) = [] := List.drop_eq_nil_iff.2 (by have := hul.out; omega)
            have h3 : (U ++ O).take j = U ++ O := List.take_of_length_le (by omega)
            rw [h1, h2, h3] at hS
            exact hS
          have hnx := Lib.hid (next_of hS2.bx (U' := []) (O' := []) (x := ⟨#[]⟩) (ok := false) rfl rfl rfl rfl)
          have hul2 : U.length + O.length ≤ 1000 := by have := hul.out; omega
          have hlen3 : (U ++ O).length ≤ 1000 := by omega
          clear hlen2 hS
          go_wp2_with (first | (go_at_call 8; (with_reducible refine hnx.out.mono ?_); rintro e w4 ⟨rfl, hx4, hf4⟩; have h4 := hS2.next hL hNw.out.symm hx4 hf4; have hm0 := Strs.made w4 w4.heap.size (Nat.le_refl _); have hA4 : Below w4.heap.size w4 (w4.alloc (.cells #[] 9)) := (Below.refl _ _).alloc (Nat.le_refl _) _; have hU4 := (h4.su.tx.mono (Nat.zero_le _)).below hA4) | (at_builtin; refine wpl_app_txw rfl (.tmp 87) (.tmp 88) _ w4.heap.size _ _ [] U rfl rfl hm0 hU4 (by simp; omega) (by simp) ?_ rfl rfl; intro v5 w5 hs5 hf5; have hb5 : Below w4.heap.size w4 w5 := below_of (((Frm.refl _ w4).alloc _).trans hf5); have hO5 := (h4.so.tx.mono (Nat.zero_le _)).below hb5; have hG5 := h4.sg.tx.below hb5) | (at_builtin; refine wpl_app_txw rfl (.tmp 89) (.tmp 90) _ w4.heap.size _ _ ([] ++ U) O rfl rfl hs5 hO5 (by simp; omega) hb5.size ?_ rfl rfl; intro v6 w6 hs6 hf6; have hb6 : Below w4.heap.size w4 w6 := below_of ((((Frm.refl _ w4).alloc _).trans hf5).trans hf6); have hG6 := h4.sg.tx.below hb6) | (go_at_call 9; (with_reducible refine (same_same hG6 hs6.tx hlen3).mono ?_); rintro e w7 ⟨rfl, hb7⟩))
          go_ret
          exact ⟨rfl, hNw.out ▸ (h4.be.trans ((bt hb6 hb7).mono (by have := h4.be.size; have := hNw.out; omega)))⟩
end Go.Proofs.Ytmhmdcfdodiphaa
