/-
  Commands (chapter 33): a command's fields as words.
-/
import Derived.Test.YtkcnpahnhmcegaaCon3
import Derived.Laws.OwnMore
namespace Go.Proofs.Ytkcnpahnhmcegaa
open Go.RowKit
set_option linter.unusedVariables false
set_option linter.unusedSimpArgs false

def Anys (w : World) (B : Nat) (v : Value) (l : List Value) : Prop := w.ownsRow B 20 1 v l.length l
theorem any_info : (Try.prog.info? 20).map (fun i => (i.zero, i.size, i.bytes)) = some (some .nilIface, 1, 16) := by kernel_rfl
theorem Anys.one (w : World) (B : Nat) (hB : B ≤ w.heap.size) (t : Value) : Anys (w.alloc (.cells #[t] 20)) B (.slice (some ⟨w.heap.size, 0, none⟩) 1 1) [t] :=
  World.ownsRow_lit w #[t] 1 hB (by unfold maxLen; omega) rfl
theorem app_any {ops : Array Oper} {rest : List Oper} {o : Oper} {a : Act} {Q : Exit → Act → World → Prop} (hgd : o.guard = none) (s x : Operand)
    (ho : o.op = .call { callee := .builtin .append, args := #[s, x], argTypes := #[40, 40] })
    (w w0 : World) (B : Nat) (v : Value) (l : List Value) (t : Value) (ht : t.oneCell' = true) (hs : a.eval s = v) (hx : a.eval x = .slice (some ⟨w.heap.size, 0, none⟩) 1 1)
    (hown : Anys w B v l) (hlen : l.length + 1 ≤ 1099511627776) (hB : B ≤ w.heap.size) (hbel : Below B w0 w)
    (h : ∀ v' w', Anys w' B v' (l ++ [t]) → Below B w0 w' → wpList Try.prog ops Q rest (a.put o.dst v') w') :
    wpList Try.prog ops Q (o :: rest) a (w.alloc (.cells #[t] 20)) := by
  obtain ⟨i, hi, hzz⟩ := Option.map_eq_some_iff.1 any_info
  simp only [Prod.mk.injEq] at hzz
  obtain ⟨hz, hsz, hby⟩ := hzz
  refine wpList_append_own _ hgd s x 40 ho B 20 i .nilIface 1 16 Try.underlying40 hi hz hsz hby rfl (by decide) v l.length l hs (hown.alloc _) ⟨w.heap.size, 0, none⟩ 1 1 [t] hx rfl ?_ ?_ ?_ ?_ ?_ ?_
  · intro j u hj
    match j, hj with
    | 0, hj => simp at hj; subst hj; simp [go_sem, Addr.add]
    | j + 1, hj => simp at hj
  · intro u hu; simp at hu; subst hu; exact ht
  · unfold maxLen; omega
  · omega
  · simp; omega
  · intro v' w' h1 h2 _
    refine h v' w' ?_ ?_
    · have e1 : (l ++ [t]).length = l.length + 1 := by simp
      unfold Anys
      rw [e1]; exact h1
    · refine (hbel.alloc hB _).grown h2 (by simp; omega) ?_
      intro k hk
      rcases hown.2 with ⟨e, _⟩ | ⟨g, cap, cur, e, hg, _⟩
      · subst e; cases hk
      · subst e; simp [Value.ownBlock] at hk; omega
def sV (s : ByteArray) : Value := .iface 9 (.string s)
def iV (e : Int) : Value := .iface 3 (.int .i64 e)
/-- the words of a command as they stand in memory -/
def vals (c : Cmd) : List Value := [sV (nameK c.k)] ++ (if hE c.k then [iV c.e] else []) ++ (if hS c.k then [sV (sideS c.sd)] else []) ++ (if hB c.k then [sV (bytS c.d)] else [])
theorem conv_one33 (W : World) (a0 : Int) : (convert 53 9 (.slice (some ⟨W.heap.size, 0, none⟩) 1 1)).run Try.prog (W.alloc (.cells #[.int .u8 a0] 5)) = .ok (.string (strOfNums [a0])) (W.alloc (.cells #[.int .u8 a0] 5)) := conv_one W a0
theorem side_conv (sd : Int) (h : 0 ≤ sd ∧ sd ≤ 1) : strOfNums [97 + sd] = sideS sd := by
  have : sd = 0 ∨ sd = 1 := by omega
  rcases this with rfl | rfl <;> rfl
def WordsP (w : World) (l : List Value) (e : Ending) (w' : World) : Prop := (∃ v B, e = .returned v ∧ w.heap.size ≤ B ∧ Anys w' B v l) ∧ Below w.heap.size w w'
theorem Anys.below {W W' : World} {B : Nat} {v : Value} {l : List Value} (h : Anys W B v l) (hb : Below W.heap.size W W') : Anys W' B v l := by
  refine ⟨h.1, ?_⟩
  rcases h.2 with h2 | ⟨g, cap, cur, e, hg, hc, r⟩
  · exact .inl h2
  · exact .inr ⟨g, cap, cur, e, hg, (hb.block g (Array.getElem?_eq_some_iff.1 hc).1).trans hc, r⟩
set_option maxHeartbeats 3200000 in
theorem words33 (nm : ByteArray) (a b d0 : Bool) (k e sd : Int) (d : ByteArray) (w : World) (hd : d.size ≤ 70368744177664) (hsd : b = true → 0 ≤ sd ∧ sd ≤ 1) :
    Calls Try.prog 18 #[.agg #[.string nm, .bool a, .bool b, .bool d0], .agg #[.int .i64 k, .int .i64 e, .int .i64 sd, .string d]] w (WordsP w ([sV nm] ++ (if a then [iV e] else []) ++ (if b then [sV (sideS sd)] else []) ++ (if d0 then [sV (bytS d)] else []))) := by
  have hby := Lib.hid (fun w => bytes_any33 d w hd)
  obtain ⟨W0, hW0⟩ : ∃ W0, (w.alloc (.cells #[.string nm, .bool a, .bool b, .bool d0] 37)).alloc (.cells #[.int .i64 k, .int .i64 e, .int .i64 sd, .string d] 23) = W0 := ⟨_, rfl⟩
  have hz0 : W0.heap.size = w.heap.size + 2 := by rw [← hW0]; simp
  have hb0 : Below w.heap.size w W0 := by rw [← hW0]; exact bt (alb w _) (alb _ _)
  have hsh : HShp W0 w.heap.size nm a b d0 := by rw [← hW0]; exact (HShp.new w 37 nm a b d0).below (alb _ _)
  have hcm : HCmd W0 (w.heap.size + 1) k e sd d := by
    rw [← hW0]
    have := HCmd.new (w.alloc (.cells #[.string nm, .bool a, .bool b, .bool d0] 37)) 23 k e sd d
    simpa using this
  obtain ⟨s0, s1, s2, s3⟩ := hsh
  obtain ⟨W1, hW1⟩ : ∃ W1, W0.alloc (.cells #[sV nm] 20) = W1 := ⟨_, rfl⟩
  have hS1 : Anys W1 W0.heap.size (.slice (some ⟨W0.heap.size, 0, none⟩) 1 1) [sV nm] := by rw [← hW1]; exact Anys.one W0 _ (Nat.le_refl _) _
  have hB1 : Below W0.heap.size W0 W1 := by rw [← hW1]; exact alb _ _
  have hkeep : ∀ W, Below W0.heap.size W0 W → HShp W w.heap.size nm a b d0 ∧ HCmd W (w.heap.size + 1) k e sd d := fun W hb => ⟨HShp.below ⟨s0, s1, s2, s3⟩ hb, hcm.below hb⟩
  obtain ⟨L, hL⟩ : ∃ L, [sV nm] ++ (if a then [iV e] else []) ++ (if b then [sV (sideS sd)] else []) ++ (if d0 then [sV (bytS d)] else []) = L := ⟨_, rfl⟩
  rw [hL]
  have hfin : ∀ v W l, L = l → Anys W W0.heap.size v l → Below W0.heap.size W0 W → WordsP w L (.returned v) W := by
    rintro v W l rfl h1 h2
    exact ⟨⟨v, W0.heap.size, rfl, by omega, h1⟩, bt hb0 h2⟩
  generalize WordsP w L = Pst at *
  obtain ⟨f1, f2⟩ := hkeep W1 hB1
  obtain ⟨f10, f11, f12, f13⟩ := f1
  obtain ⟨f20, f21, f22, f23⟩ := f2
  have hS1 := Lib.hid hS1
  have hB1 := Lib.hid hB1
  have hfin := Lib.hid hfin
  have hkeep := Lib.hid hkeep
  have hsd := Lib.hid hsd
  clear hcm hb0
  clear hz0
  have hcv := conv_one33
  unfold sV at hW1 hS1
  cases b with
  | false =>
    cases a <;> cases d0
    all_goals
      subst hL
      obtain ⟨sd0, hsd0⟩ : ∃ x, x = sd := ⟨_, rfl⟩
      go_enter Try.func18, Try.ntmps18
      go_wp2_with (first | (at_builtin; refine app_any rfl (.tmp 12) (.tmp 16) rfl _ W0 W0.heap.size _ _ (iV e) rfl rfl rfl hS1.out (by simp) hB1.out.size hB1.out ?_; intro v2 W2 hS2x hB2x; have hS2 := Lib.hid hS2x; have hB2 := Lib.hid hB2x; clear hS2x hB2x; obtain ⟨⟨f10, f11, f12, f13⟩, ⟨f20, f21, f22, f23⟩⟩ := hkeep.out W2 hB2.out) | (go_at_call 15; (with_reducible refine (hby.out _).mono ?_); rintro e9 w9 ⟨rfl, hb9x⟩; have hb9 := Lib.hid hb9x; clear hb9x) | (at_builtin; first | (refine app_any rfl (.tmp 20) (.tmp 28) rfl _ W0 W0.heap.size _ _ _ rfl rfl (by first | rfl | simp [go_sem]) (hS2.out.alloc _) (by simp) (Nat.le_trans hB2.out.size (by simp)) (hB2.out.alloc hB2.out.size _) ?_; intro v3 W3 hS3x hB3x; have hS3 := Lib.hid hS3x; have hB3 := Lib.hid hB3x; clear hS3x hB3x; obtain ⟨⟨f10, f11, f12, f13⟩, ⟨f20, f21, f22, f23⟩⟩ := hkeep.out W3 hB3.out) | (refine app_any rfl (.tmp 20) (.tmp 28) rfl _ W0 W0.heap.size _ _ _ rfl rfl (by first | rfl | simp [go_sem]) (hS1.out.alloc _) (by simp) (Nat.le_trans hB1.out.size (by simp)) (hB1.out.alloc hB1.out.size _) ?_; intro v3 W3 hS3x hB3x; have hS3 := Lib.hid hS3x; have hB3 := Lib.hid hB3x; clear hS3x hB3x; obtain ⟨⟨f10, f11, f12, f13⟩, ⟨f20, f21, f22, f23⟩⟩ := hkeep.out W3 hB3.out)) | (at_builtin; first | (refine app_any rfl (.tmp 32) (.tmp 37) rfl _ W0 W0.heap.size _ _ (sV (bytS d)) rfl rfl rfl (hS3.out.below hb9.out) (by simp) (Nat.le_trans hB3.out.size hb9.out.size) (hB3.out.trans (hb9.out.mono hB3.out.size)) ?_; intro v4 W4 hS4x hB4x; have hS4 := Lib.hid hS4x; have hB4 := Lib.hid hB4x; clear hS4x hB4x) | (refine app_any rfl (.tmp 32) (.tmp 37) rfl _ W0 W0.heap.size _ _ (sV (bytS d)) rfl rfl rfl (hS2.out.below hb9.out) (by simp) (Nat.le_trans hB2.out.size hb9.out.size) (hB2.out.trans (hb9.out.mono hB2.out.size)) ?_; intro v4 W4 hS4x hB4x; have hS4 := Lib.hid hS4x; have hB4 := Lib.hid hB4x; clear hS4x hB4x) | (refine app_any rfl (.tmp 32) (.tmp 37) rfl _ W0 W0.heap.size _ _ (sV (bytS d)) rfl rfl rfl (hS1.out.below hb9.out) (by simp) (Nat.le_trans hB1.out.size hb9.out.size) (hB1.out.trans (hb9.out.mono hB1.out.size)) ?_; intro v4 W4 hS4x hB4x; have hS4 := Lib.hid hS4x; have hB4 := Lib.hid hB4x; clear hS4x hB4x)))
      all_goals first | exact hfin.out _ _ _ rfl hS4.out hB4.out | exact hfin.out _ _ _ rfl hS3.out hB3.out | exact hfin.out _ _ _ rfl hS2.out hB2.out | exact hfin.out _ _ _ rfl hS1.out hB1.out
  | true =>
    obtain ⟨sd0, hsd0⟩ : ∃ x, x = sd := ⟨_, rfl⟩
    have hs2 : sd0 = 0 ∨ sd0 = 1 := by have := hsd.out rfl; omega
    subst hsd0
    rcases hs2 with rfl | rfl
    · cases a <;> cases d0
      all_goals
        subst hL
        obtain ⟨sd0, hsd0⟩ : ∃ x : Int, x = 0 := ⟨_, rfl⟩
        subst hsd0
        have hsd9 : strOfNums [97] = sideS 0 := rfl
        go_enter Try.func18, Try.ntmps18
        go_wp2_with (first | (at_builtin; refine app_any rfl (.tmp 12) (.tmp 16) rfl _ W0 W0.heap.size _ _ (iV e) rfl rfl rfl hS1.out (by simp) hB1.out.size hB1.out ?_; intro v2 W2 hS2x hB2x; have hS2 := Lib.hid hS2x; have hB2 := Lib.hid hB2x; clear hS2x hB2x; obtain ⟨⟨f10, f11, f12, f13⟩, ⟨f20, f21, f22, f23⟩⟩ := hkeep.out W2 hB2.out) | (go_at_call 15; (with_reducible refine (hby.out _).mono ?_); rintro e9 w9 ⟨rfl, hb9x⟩; have hb9 := Lib.hid hb9x; clear hb9x) | (at_builtin; first | (refine app_any rfl (.tmp 20) (.tmp 28) rfl _ W0 W0.heap.size _ _ _ rfl rfl (by first | rfl | simp [go_sem]) (hS2.out.alloc _) (by simp) (Nat.le_trans hB2.out.size (by simp)) (hB2.out.alloc hB2.out.size _) ?_; intro v3 W3 hS3x hB3x; have hS3 := Lib.hid hS3x; have hB3 := Lib.hid hB3x; clear hS3x hB3x; obtain ⟨⟨f10, f11, f12, f13⟩, ⟨f20, f21, f22, f23⟩⟩ := hkeep.out W3 hB3.out) | (refine app_any rfl (.tmp 20) (.tmp 28) rfl _ W0 W0.heap.size _ _ _ rfl rfl (by first | rfl | simp [go_sem]) (hS1.out.alloc _) (by simp) (Nat.le_trans hB1.out.size (by simp)) (hB1.out.alloc hB1.out.size _) ?_; intro v3 W3 hS3x hB3x; have hS3 := Lib.hid hS3x; have hB3 := Lib.hid hB3x; clear hS3x hB3x; obtain ⟨⟨f10, f11, f12, f13⟩, ⟨f20, f21, f22, f23⟩⟩ := hkeep.out W3 hB3.out)) | (at_builtin; first | (refine app_any rfl (.tmp 32) (.tmp 37) rfl _ W0 W0.heap.size _ _ (sV (bytS d)) rfl rfl rfl (hS3.out.below hb9.out) (by simp) (Nat.le_trans hB3.out.size hb9.out.size) (hB3.out.trans (hb9.out.mono hB3.out.size)) ?_; intro v4 W4 hS4x hB4x; have hS4 := Lib.hid hS4x; have hB4 := Lib.hid hB4x; clear hS4x hB4x) | (refine app_any rfl (.tmp 32) (.tmp 37) rfl _ W0 W0.heap.size _ _ (sV (bytS d)) rfl rfl rfl (hS2.out.below hb9.out) (by simp) (Nat.le_trans hB2.out.size hb9.out.size) (hB2.out.trans (hb9.out.mono hB2.out.size)) ?_; intro v4 W4 hS4x hB4x; have hS4 := Lib.hid hS4x; have hB4 := Lib.hid hB4x; clear hS4x hB4x) | (refine app_any rfl (.tmp 32) (.tmp 37) rfl _ W0 W0.heap.size _ _ (sV (bytS d)) rfl rfl rfl (hS1.out.below hb9.out) (by simp) (Nat.le_trans hB1.out.size hb9.out.size) (hB1.out.trans (hb9.out.mono hB1.out.size)) ?_; intro v4 W4 hS4x hB4x; have hS4 := Lib.hid hS4x; have hB4 := Lib.hid hB4x; clear hS4x hB4x)))
        all_goals first | exact hfin.out _ _ _ rfl hS4.out hB4.out | exact hfin.out _ _ _ rfl hS3.out hB3.out | exact hfin.out _ _ _ rfl hS2.out hB2.out | exact hfin.out _ _ _ rfl hS1.out hB1.out
    · cases a <;> cases d0
      all_goals
        subst hL
        have hsd9 : strOfNums [98] = sideS 1 := rfl
        go_enter Try.func18, Try.ntmps18
        go_wp2_with (first | (at_builtin; refine app_any rfl (.tmp 12) (.tmp 16) rfl _ W0 W0.heap.size _ _ (iV e) rfl rfl rfl hS1.out (by simp) hB1.out.size hB1.out ?_; intro v2 W2 hS2x hB2x; have hS2 := Lib.hid hS2x; have hB2 := Lib.hid hB2x; clear hS2x hB2x; obtain ⟨⟨f10, f11, f12, f13⟩, ⟨f20, f21, f22, f23⟩⟩ := hkeep.out W2 hB2.out) | (go_at_call 15; (with_reducible refine (hby.out _).mono ?_); rintro e9 w9 ⟨rfl, hb9x⟩; have hb9 := Lib.hid hb9x; clear hb9x) | (at_builtin; first | (refine app_any rfl (.tmp 20) (.tmp 28) rfl _ W0 W0.heap.size _ _ _ rfl rfl (by first | rfl | simp [go_sem]) (hS2.out.alloc _) (by simp) (Nat.le_trans hB2.out.size (by simp)) (hB2.out.alloc hB2.out.size _) ?_; intro v3 W3 hS3x hB3x; have hS3 := Lib.hid hS3x; have hB3 := Lib.hid hB3x; clear hS3x hB3x; obtain ⟨⟨f10, f11, f12, f13⟩, ⟨f20, f21, f22, f23⟩⟩ := hkeep.out W3 hB3.out) | (refine app_any rfl (.tmp 20) (.tmp 28) rfl _ W0 W0.heap.size _ _ _ rfl rfl (by first | rfl | simp [go_sem]) (hS1.out.alloc _) (by simp) (Nat.le_trans hB1.out.size (by simp)) (hB1.out.alloc hB1.out.size _) ?_; intro v3 W3 hS3x hB3x; have hS3 := Lib.hid hS3x; have hB3 := Lib.hid hB3x; clear hS3x hB3x; obtain ⟨⟨f10, f11, f12, f13⟩, ⟨f20, f21, f22, f23⟩⟩ := hkeep.out W3 hB3.out)) | (at_builtin; first | (refine app_any rfl (.tmp 32) (.tmp 37) rfl _ W0 W0.heap.size _ _ (sV (bytS d)) rfl rfl rfl (hS3.out.below hb9.out) (by simp) (Nat.le_trans hB3.out.size hb9.out.size) (hB3.out.trans (hb9.out.mono hB3.out.size)) ?_; intro v4 W4 hS4x hB4x; have hS4 := Lib.hid hS4x; have hB4 := Lib.hid hB4x; clear hS4x hB4x) | (refine app_any rfl (.tmp 32) (.tmp 37) rfl _ W0 W0.heap.size _ _ (sV (bytS d)) rfl rfl rfl (hS2.out.below hb9.out) (by simp) (Nat.le_trans hB2.out.size hb9.out.size) (hB2.out.trans (hb9.out.mono hB2.out.size)) ?_; intro v4 W4 hS4x hB4x; have hS4 := Lib.hid hS4x; have hB4 := Lib.hid hB4x; clear hS4x hB4x) | (refine app_any rfl (.tmp 32) (.tmp 37) rfl _ W0 W0.heap.size _ _ (sV (bytS d)) rfl rfl rfl (hS1.out.below hb9.out) (by simp) (Nat.le_trans hB1.out.size hb9.out.size) (hB1.out.trans (hb9.out.mono hB1.out.size)) ?_; intro v4 W4 hS4x hB4x; have hS4 := Lib.hid hS4x; have hB4 := Lib.hid hB4x; clear hS4x hB4x)))
        all_goals first | exact hfin.out _ _ _ rfl hS4.out hB4.out | exact hfin.out _ _ _ rfl hS3.out hB3.out | exact hfin.out _ _ _ rfl hS2.out hB2.out | exact hfin.out _ _ _ rfl hS1.out hB1.out
end Go.Proofs.Ytkcnpahnhmcegaa
