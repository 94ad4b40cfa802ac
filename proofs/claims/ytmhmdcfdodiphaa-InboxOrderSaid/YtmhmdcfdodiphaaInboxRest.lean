/-
  All lines that wait in a closed box.
-/
import Derived.Test.YtmhmdcfdodiphaaInbox
import Derived.Test.YtmhmdcfdodiphaaStrFrm
namespace Go.Proofs.Ytmhmdcfdodiphaa
open Go.Conc Go.RowKit
set_option linter.unusedVariables false
set_option linter.unusedSimpArgs false
theorem app_k {o : Oper} {a : Act} {K : Act → World → Prop} {w w' : World} {v v' : Value} {ad : Option Addr} {m c : Nat} (s x : Operand) (hs : a.eval s = v) (hx : a.eval x = .slice ad m c)
    (hr : (Builtin.append_ #[26, 26] 26 #[v, .slice ad m c]).run Try.prog w = .ok v' w') (h : K (a.put o.dst v') w')
    (ho : o.op = .call { callee := .builtin .append, args := #[s, x], argTypes := #[26, 26] } := by rfl) (ht : o.type = 26 := by rfl) : uponK o a K ((execOp a.eval o).run Try.prog w) := by
  unfold execOp
  simp only [ho, resolve, invoke, builtin, Sem.run_bind, Sem.run_pure, Result.andThen_ok, List.map_toArray, List.map_cons, List.map_nil, hs, hx, ht, hr]
  exact h
noncomputable def restC1 : Code := match Try.f14.body.getD .skip with
  | .seq _ (.seq _ (.seq _ (.seq (.seq _ (.block _ (.loop c))) _))) => c
  | _ => .skip
noncomputable def restC2 : Code := match Try.f14.body.getD .skip with
  | .seq _ (.seq _ (.seq _ (.seq _ (.seq (.seq _ (.block _ (.loop c))) _)))) => c
  | _ => .skip
set_option maxRecDepth 100000 in
set_option maxHeartbeats 1000000 in
theorem rest_loop1 {Q : Goroutine → World → Prop} (cs : List Frame) (k : List Item) (c cap B : Nat) (hcB : c < B) (x0 x1 x2 x3 x6 x7 x8 x9 x10 x11 x12 x13 x14 x15 x16 x17 x18 x27 x28 x29 x30 x31 x32 x33 x34 x35 x36 x37 x38 : Value) (L : List ByteArray) : ∀ (wr : World) (v : Value) (l : List ByteArray) (x5 x20 x21 x22 x23 x24 x25 x26 : Value),
    CH wr c cap L true → Strs wr B v l → B ≤ wr.heap.size → l.length + L.length ≤ 1000 →
    (∀ (w2 : World) (v2 : Value) (y5 y20 y21 y22 y23 y24 y25 y26 : Value), CH w2 c cap [] true → Strs w2 B v2 (l ++ L) → Frm (fun k => k = c ∨ B ≤ k) wr w2 → LoneTo Try.prog Q (G ((base 14).at ⟨(x0 :: x1 :: x2 :: x3 :: v2 :: y5 :: x6 :: x7 :: x8 :: x9 :: x10 :: x11 :: x12 :: x13 :: x14 :: x15 :: x16 :: x17 :: x18 :: .chan (some c) :: y20 :: y21 :: y22 :: y23 :: y24 :: y25 :: y26 :: x27 :: x28 :: x29 :: x30 :: x31 :: x32 :: x33 :: x34 :: x35 :: x36 :: x37 :: x38 :: ([] : List Value)).toArray, []⟩ k) cs) w2) →
    LoneTo Try.prog Q (G ((base 14).at ⟨(x0 :: x1 :: x2 :: x3 :: v :: x5 :: x6 :: x7 :: x8 :: x9 :: x10 :: x11 :: x12 :: x13 :: x14 :: x15 :: x16 :: x17 :: x18 :: .chan (some c) :: x20 :: x21 :: x22 :: x23 :: x24 :: x25 :: x26 :: x27 :: x28 :: x29 :: x30 :: x31 :: x32 :: x33 :: x34 :: x35 :: x36 :: x37 :: x38 :: ([] : List Value)).toArray, []⟩ (.code restC1 :: .inLoop restC1 :: .inBlock 0 :: k)) cs) wr := by
  induction L with
  | nil =>
    intro wr v l x5 x20 x21 x22 x23 x24 x25 x26 hC hS hB hl hd
    obtain ⟨s, r, hc⟩ := hC
    simp only [restC1, Try.f14, Option.getD_some]
    refine LoneTo.goes (n := 100) ?_
    s_c stepG_seq
    s_reg
    s_stop
    refine LoneTo.step (step_lone_recv_shut true (c := c) (z := .string ⟨#[]⟩) (cap := cap) (s := s) (r := r) (tm := false) (stepG_comm (cases := #[rcase c (.string ⟨#[]⟩)]) (blocking := true) (shape := .recv true) (w' := wr) rfl rfl (by decide) (by simp [go_sem, execOp, rcase, Act.eval])) hc) ?_
    rw [Frame.finish_at]
    simp only [got]
    walk_nrm
    refine LoneTo.goes (n := 100) ?_
    repeat (first | s_c stepG_seq | s_c stepG_region_end | s_reg | s_op | s_cond false)
    s_exit
    s_stop
    exact hd wr v _ _ _ _ _ _ _ _ ⟨s, r, hc⟩ (by simpa using hS) (Frm.refl _ _)
  | cons x L ih =>
    intro wr v l x5 x20 x21 x22 x23 x24 x25 x26 hC hS hB hl hd
    have hC0 := hC
    obtain ⟨s, r, hc⟩ := hC
    simp only [List.length_cons] at hl
    have hC1 := hC0.set (L' := L) (cl' := true) s (r + 1)
    have hf1 := Frm.chan1 wr c cap (sv L) true s (r + 1) false
    have hS1 := hS.frm hf1 (by intro k hk h; omega)
    have hz1 : wr.heap.size ≤ (wr.setChan c cap (sv L) true s (r + 1) false).heap.size := hf1.size
    refine LoneTo.goes (n := 100) ?_
    generalize hloop : Item.inLoop restC1 = IL
    simp only [restC1, Try.f14, Option.getD_some]
    s_c stepG_seq
    s_reg
    s_stop
    refine LoneTo.step (step_lone_recv_buf true (c := c) (z := .string ⟨#[]⟩) (stepG_comm (cases := #[rcase c (.string ⟨#[]⟩)]) (blocking := true) (shape := .recv true) (w' := wr) rfl rfl (by decide) (by simp [go_sem, execOp, rcase, Act.eval])) hc (by rw [sv_size]; simp)) ?_
    rw [Frame.finish_at, (sv_cons x L).1, (sv_cons x L).2]
    generalize wr.setChan c cap (sv L) true s (r + 1) false = w1 at hC1 hf1 hS1 hz1 ⊢
    simp only [got]
    walk_nrm
    obtain ⟨v2, w2, hr, hS2, _, hz2, hf2⟩ := run_app_str w1 B v l x hS1 (by omega) (by omega)
    refine LoneTo.goes (n := 100) ?_
    repeat (first | s_c stepG_seq | s_c stepG_region_end | s_reg | s_op | s_c stepG_block | s_cond true | s_c stepG_skip | s_c stepG_inBlock)
    s_in
    refine goes_oper_k rfl rfl (by decide) (fun K hK => ?_)
    refine app_k (.tmp 23) (.tmp 25) rfl rfl hr ?_
    refine hK _ _ ⟨trivial, ?_⟩
    clear hK K hr
    walk_nrm
    repeat (first | s_c stepG_region_end | s_op | s_c stepG_inBlock)
    rw [← hloop]
    s_c stepG_inLoop
    s_stop
    refine ih w2 v2 (l ++ [x]) _ _ _ _ _ _ _ _ (hC1.frm hf2 (by omega)) hS2 (by omega) (by simp; omega) ?_
    intro w3 v3 y5 y20 y21 y22 y23 y24 y25 y26 h1 h2 h3
    refine hd w3 v3 y5 y20 y21 y22 y23 y24 y25 y26 h1 (by simpa using h2) ?_
    exact ((hf1.mono fun k _ => .inl).trans (hf2.mono fun k _ => .inr)).trans h3
set_option maxRecDepth 100000 in
set_option maxHeartbeats 1000000 in
theorem rest_loop2 {Q : Goroutine → World → Prop} (cs : List Frame) (k : List Item) (c cap B : Nat) (hcB : c < B) (x0 x1 x2 x3 x5 x7 x8 x9 x10 x11 x12 x13 x14 x15 x16 x17 x18 x19 x20 x21 x22 x23 x24 x25 x26 x27 x28 x29 x38 : Value) (L : List ByteArray) : ∀ (wr : World) (v : Value) (l : List ByteArray) (x6 x31 x32 x33 x34 x35 x36 x37 : Value),
    CH wr c cap L true → Strs wr B v l → B ≤ wr.heap.size → l.length + L.length ≤ 1000 →
    (∀ (w2 : World) (v2 : Value) (y6 y31 y32 y33 y34 y35 y36 y37 : Value), CH w2 c cap [] true → Strs w2 B v2 (l ++ L) → Frm (fun k => k = c ∨ B ≤ k) wr w2 → LoneTo Try.prog Q (G ((base 14).at ⟨(x0 :: x1 :: x2 :: x3 :: v2 :: x5 :: y6 :: x7 :: x8 :: x9 :: x10 :: x11 :: x12 :: x13 :: x14 :: x15 :: x16 :: x17 :: x18 :: x19 :: x20 :: x21 :: x22 :: x23 :: x24 :: x25 :: x26 :: x27 :: x28 :: x29 :: .chan (some c) :: y31 :: y32 :: y33 :: y34 :: y35 :: y36 :: y37 :: x38 :: ([] : List Value)).toArray, []⟩ k) cs) w2) →
    LoneTo Try.prog Q (G ((base 14).at ⟨(x0 :: x1 :: x2 :: x3 :: v :: x5 :: x6 :: x7 :: x8 :: x9 :: x10 :: x11 :: x12 :: x13 :: x14 :: x15 :: x16 :: x17 :: x18 :: x19 :: x20 :: x21 :: x22 :: x23 :: x24 :: x25 :: x26 :: x27 :: x28 :: x29 :: .chan (some c) :: x31 :: x32 :: x33 :: x34 :: x35 :: x36 :: x37 :: x38 :: ([] : List Value)).toArray, []⟩ (.code restC2 :: .inLoop restC2 :: .inBlock 2 :: k)) cs) wr := by
  induction L with
  | nil =>
    intro wr v l x6 x31 x32 x33 x34 x35 x36 x37 hC hS hB hl hd
    obtain ⟨s, r, hc⟩ := hC
    simp only [restC2, Try.f14, Option.getD_some]
    refine LoneTo.goes (n := 100) ?_
    s_c stepG_seq
    s_reg
    s_stop
    refine LoneTo.step (step_lone_recv_shut true (c := c) (z := .string ⟨#[]⟩) (cap := cap) (s := s) (r := r) (tm := false) (stepG_comm (cases := #[rcase c (.string ⟨#[]⟩)]) (blocking := true) (shape := .recv true) (w' := wr) rfl rfl (by decide) (by simp [go_sem, execOp, rcase, Act.eval])) hc) ?_
    rw [Frame.finish_at]
    simp only [got]
    walk_nrm
    refine LoneTo.goes (n := 100) ?_
    repeat (first | s_c stepG_seq | s_c stepG_region_end | s_reg | s_op | s_cond false)
    s_exit
    s_stop
    exact hd wr v _ _ _ _ _ _ _ _ ⟨s, r, hc⟩ (by simpa using hS) (Frm.refl _ _)
  | cons x L ih =>
    intro wr v l x6 x31 x32 x33 x34 x35 x36 x37 hC hS hB hl hd
    have hC0 := hC
    obtain ⟨s, r, hc⟩ := hC
    simp only [List.length_cons] at hl
    have hC1 := hC0.set (L' := L) (cl' := true) s (r + 1)
    have hf1 := Frm.chan1 wr c cap (sv L) true s (r + 1) false
    have hS1 := hS.frm hf1 (by intro k hk h; omega)
    have hz1 : wr.heap.size ≤ (wr.setChan c cap (sv L) true s (r + 1) false).heap.size := hf1.size
    refine LoneTo.goes (n := 100) ?_
    generalize hloop : Item.inLoop restC2 = IL
    simp only [restC2, Try.f14, Option.getD_some]
    s_c stepG_seq
    s_reg
    s_stop
    refine LoneTo.step (step_lone_recv_buf true (c := c) (z := .string ⟨#[]⟩) (stepG_comm (cases := #[rcase c (.string ⟨#[]⟩)]) (blocking := true) (shape := .recv true) (w' := wr) rfl rfl (by decide) (by simp [go_sem, execOp, rcase, Act.eval])) hc (by rw [sv_size]; simp)) ?_
    rw [Frame.finish_at, (sv_cons x L).1, (sv_cons x L).2]
    generalize wr.setChan c cap (sv L) true s (r + 1) false = w1 at hC1 hf1 hS1 hz1 ⊢
    simp only [got]
    walk_nrm
    obtain ⟨v2, w2, hr, hS2, _, hz2, hf2⟩ := run_app_str w1 B v l x hS1 (by omega) (by omega)
    refine LoneTo.goes (n := 100) ?_
    repeat (first | s_c stepG_seq | s_c stepG_region_end | s_reg | s_op | s_c stepG_block | s_cond true | s_c stepG_skip | s_c stepG_inBlock)
    s_in
    refine goes_oper_k rfl rfl (by decide) (fun K hK => ?_)
    refine app_k (.tmp 34) (.tmp 36) rfl rfl hr ?_
    refine hK _ _ ⟨trivial, ?_⟩
    clear hK K hr
    walk_nrm
    repeat (first | s_c stepG_region_end | s_op | s_c stepG_inBlock)
    rw [← hloop]
    s_c stepG_inLoop
    s_stop
    refine ih w2 v2 (l ++ [x]) _ _ _ _ _ _ _ _ (hC1.frm hf2 (by omega)) hS2 (by omega) (by simp; omega) ?_
    intro w3 v3 y6 y31 y32 y33 y34 y35 y36 y37 h1 h2 h3
    refine hd w3 v3 y6 y31 y32 y33 y34 y35 y36 y37 h1 (by simpa using h2) ?_
    exact ((hf1.mono fun k _ => .inl).trans (hf2.mono fun k _ => .inr)).trans h3
theorem rest_open (p cu co cap : Nat) (U O : List ByteArray) (w : World) (HX : BX w p cu co cap U O false) : Calls Try.prog 14 #[.pointer (some ⟨p, 0, none⟩)] w fun e w' =>
    e = .returned (.tuple #[.slice none 0 0, .int .i64 10]) ∧ w = w' := by
  have hc2 := HX.c2
  go_enter Try.func14, Try.ntmps14
  go_wp2
  go_ret2
  exact ⟨rfl, rfl⟩
set_option maxRecDepth 100000 in
set_option maxHeartbeats 1000000 in
theorem rest_any (p cu co cap : Nat) (U O : List ByteArray) (w : World) (HX : BX w p cu co cap U O true) (hl : U.length + O.length ≤ 1000) : Calls Try.prog 14 #[.pointer (some ⟨p, 0, none⟩)] w fun e w' =>
    (∃ v, e = .returned (.tuple #[v, .int .i64 0]) ∧ Strs w' w.heap.size v (U ++ O)) ∧ BX w' p cu co cap [] [] true ∧ Frm (fun k => k = cu ∨ k = co) w w' := by
  have hc0 := HX.c0
  have hc1 := HX.c1
  have hc2 := HX.c2
  refine calls_of_loneTo (fun cs => ?_) (by rintro _ ⟨⟨_, h, _⟩, _⟩; cases h)
  have e : Frame.enter Try.prog 14 #[.pointer (some ⟨p, 0, none⟩)] .normal = (base 14).at ⟨#[.pointer (some ⟨p, 0, none⟩), undef, undef, undef, undef, undef, undef, undef, undef, undef, undef, undef, undef, undef, undef, undef, undef, undef, undef, undef, undef, undef, undef, undef, undef, undef, undef, undef, undef, undef, undef, undef, undef, undef, undef, undef, undef, undef, undef], []⟩ [.code (Try.f14.body.getD .skip)] := by simp [Frame.enter, Frame.at, Try.func14, base, Try.f14] <;> rfl
  rw [e]; clear e
  refine LoneTo.goes (n := 200) ?_
  simp only [Try.f14, Option.getD_some]
  repeat (first | s_c stepG_seq | s_c stepG_region_end | s_reg | s_op | s_cond false | s_c stepG_skip)
  s_c stepG_block
  s_c stepG_loop
  s_stop
  have hlt := HX.lt
  refine rest_loop1 cs _ cu cap w.heap.size hlt.2.1 _ _ _ _ _ _ _ _ _ _ _ _ _ _ _ _ _ _ _ _ _ _ _ _ _ _ _ _ _ U w (.slice none 0 0) [] _ _ _ _ _ _ _ _ HX.u (Strs.nil _ _) (Nat.le_refl _) (by simp; omega) ?_
  intro w2 v2 y5 y20 y21 y22 y23 y24 y25 y26 h1 h2 h3
  have hc1 := h3.cell (p := ⟨p, 1, none⟩) (by rintro (h | h); exact HX.nu h; simp at h; omega) hc1
  have hO := HX.o.frm h3 (by rintro (h | h); exact HX.ne h.symm; omega)
  have hz := h3.size
  refine LoneTo.goes (n := 200) ?_
  repeat (first | s_c stepG_seq | s_c stepG_region_end | s_reg | s_op)
  s_c stepG_block
  s_c stepG_loop
  s_stop
  refine rest_loop2 cs _ co cap w.heap.size hlt.2.2 _ _ _ _ _ _ _ _ _ _ _ _ _ _ _ _ _ _ _ _ _ _ _ _ _ _ _ _ _ O w2 v2 U _ _ _ _ _ _ _ _ hO (by simpa using h2) hz (by omega) ?_
  intro w3 v3 y6 y31 y32 y33 y34 y35 y36 y37 h4 h5 h6
  have hF0 := (h3.mono (S' := fun k => (k = cu ∨ k = co) ∨ w.heap.size ≤ k) fun k _ h => h.elim (fun h => .inl (.inl h)) .inr).trans (h6.mono fun k _ h => h.elim (fun h => .inl (.inr h)) .inr)
  have hF : Frm (fun k => k = cu ∨ k = co) w w3 := hF0.mono fun k hk h => h.elim id (fun h => by omega)
  have hn : ¬ (p = cu ∨ p = co) := by rintro (h | h); exact HX.nu h; exact HX.no h
  have hX : BX w3 p cu co cap [] [] true := ⟨hF.cell hn HX.c0, hF.cell hn HX.c1, hF.cell hn HX.c2, (hF.frozen hn hlt.1).trans HX.f2, h1.frm h6 (by rintro (h | h); exact HX.ne h; omega), h4, HX.ne, HX.nu, HX.no⟩
  refine LoneTo.goes (n := 200) ?_
  repeat (first | s_c stepG_seq | s_c stepG_region_end | s_reg | s_op | s_c stepG_ret' | s_c stepG_end)
  s_stop
  refine LoneTo.done ⟨.returned (.tuple #[v3, .int .i64 0]), _, rfl, ⟨⟨v3, rfl, h5⟩, hX, hF⟩, rfl, rfl, rfl, rfl, _, Try.func14, by simp [results, Try.f14, Frame.at]⟩
end Go.Proofs.Ytmhmdcfdodiphaa
