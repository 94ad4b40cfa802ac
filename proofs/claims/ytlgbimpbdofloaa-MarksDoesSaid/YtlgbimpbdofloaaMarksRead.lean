/-
  The set that bytes say.
-/
import Derived.Test.YtlgbimpbdofloaaMarks3
import Derived.Lib.LazyBuf
namespace Go.Proofs.Ytlgbimpbdofloaa
open Go.RowKit
set_option linter.unusedVariables false
set_option linter.unusedSimpArgs false

theorem setCells_before {b k : Nat} {u : Option Value} : ∀ (vs : List Value) (o : Nat) (w : World), k < o → w.cell? ⟨b, k, none⟩ = u → (w.setCells b o vs).cell? ⟨b, k, none⟩ = u
  | [], _, _, _, h => h
  | v :: r, o, w, hk, h => setCells_before r (o + 1) _ (by omega) (by
      cases u with
      | some x => exact cell_off h (by omega)
      | none => simp [go_sem, h])
theorem setCells_at {b : Nat} : ∀ (vs : List Value) (o : Nat) (w : World), (∀ j, j < vs.length → (w.cell? ⟨b, o + j, none⟩).isSome = true) → ∀ j (hj : j < vs.length), (w.setCells b o vs).cell? ⟨b, o + j, none⟩ = some vs[j]
  | v :: r, o, w, h, 0, _ => by
    obtain ⟨x, hx⟩ := Option.isSome_iff_exists.1 (h 0 (by simp))
    exact setCells_before r (o + 1) _ (by omega) (cell_same (v := v) hx)
  | v :: r, o, w, h, j + 1, hj => by
    have := setCells_at (b := b) r (o + 1) (w.setCell ⟨b, o, none⟩ v) (fun i hi => by
      obtain ⟨x, hx⟩ := Option.isSome_iff_exists.1 (h (i + 1) (by simp; omega))
      rw [show o + 1 + i = o + (i + 1) by omega, cell_off hx (by omega)]; rfl) j (by simpa using hj)
    rw [show o + 1 + j = o + (j + 1) by omega] at this
    exact this
theorem Frm.setCells {b : Nat} : ∀ (vs : List Value) (o : Nat) (w : World), Frm (· = b) w (w.setCells b o vs)
  | [], _, w => Frm.refl _ w
  | v :: r, o, w => (Frm.one w b o v).trans (Frm.setCells r (o + 1) _)
theorem setCells_frozen {b : Nat} {p : Addr} : ∀ (vs : List Value) (o : Nat) (w : World), (w.setCells b o vs).frozen? p = w.frozen? p
  | [], _, _ => rfl
  | v :: r, o, w => (setCells_frozen r (o + 1) _).trans (World.frozen?_setCell _ _ _ _)
/-- the bytes of a text, as numbers -/
def sb (s : ByteArray) : List Nat := s.data.toList.map UInt8.toNat
theorem sb_len (s : ByteArray) : (sb s).length = s.size := by simp [sb]
theorem sb_lt (s : ByteArray) : ∀ x ∈ sb s, x < 256 := by
  intro x hx
  simp only [sb, List.mem_map] at hx
  obtain ⟨c, _, rfl⟩ := hx
  exact c.toNat_lt
theorem wpl_copy_str {ops : Array Oper} {rest : List Oper} {o : Oper} {a : Act} {Q : Exit → Act → World → Prop} (hgd : o.guard = none) (d x : Operand) (w : World) (g dLen dCap : Nat) (t : ByteArray) (hd : a.eval d = .slice (some ⟨g, 0, none⟩) dLen dCap) (hx : a.eval x = .string t) (hle : t.size ≤ dLen)
    (hc : ∀ j, j < t.size → (w.cell? ⟨g, 0 + j, none⟩).isSome = true) (hf : ∀ j, j < t.size → w.frozen? ⟨g, 0 + j, none⟩ = false)
    (h : wpList Try.prog ops Q rest (a.put o.dst (goInt t.size)) (w.setCells g 0 (t.data.toList.map fun x => Value.int .u8 (x.toNat : Int))))
    (ho : o.op = .call { callee := .builtin .copy, args := #[d, x], argTypes := #[52, 9] }) : wpList Try.prog ops Q (o :: rest) a w :=
  wpList_plain hgd fun K hK => by
    have hr := run_copy_string (P := Try.prog) w 52 9 o.type 5 g 0 dLen dCap t Try.underlying52 (fun _ => by kernel_rfl) hle hc hf
    unfold Oper.wp execOp
    simp only [ho, resolve, invoke, builtin, Sem.run_bind, Sem.run_pure, Result.andThen_ok, List.map_toArray, List.map_cons, List.map_nil, hd, hx, hr]
    exact hK _ _ h
/-- the cells behind copy -/
structure CP (w : World) (s g many : Nat) (bs : List Nat) : Prop where
  c0 : w.cell? ⟨s, 0, none⟩ = some (.int .i64 many)
  c1 : w.cell? ⟨s, 1, none⟩ = some (.slice (some ⟨g, 0, none⟩) bs.length bs.length)
  b : ∀ j (h : j < bs.length), w.cell? ⟨g, j, none⟩ = some (.int .u8 (bs[j] : Nat))
  f : ∀ j, j < bs.length → w.frozen? ⟨g, j, none⟩ = false
  ne : s ≠ g
  hn : bs.length = (many + 7) / 8
  hm : many ≤ 1000
  hb : ∀ x ∈ bs, x < 256
  hg : g < w.heap.size
theorem CP.ms {w : World} {s g many : Nat} {bs : List Nat} (h : CP w s g many bs) (hz : ∀ i, many ≤ i → bit bs i = false) : MS w s g many bs :=
  ⟨h.c0, h.c1, h.b, h.f, h.ne, h.hn, h.hm, h.hb, hz, h.hg⟩
theorem MS.copy {w : World} {s g many : Nat} {bs : List Nat} (h : MS w s g many bs) (t : ByteArray) (hl : t.size = bs.length) : CP (w.setCells g 0 (t.data.toList.map fun x => Value.int .u8 (x.toNat : Int))) s g many (sb t) := by
  have hf := Frm.setCells (b := g) (t.data.toList.map fun x => Value.int .u8 (x.toNat : Int)) 0 w
  have hlt : (t.data.toList.map fun x => Value.int .u8 (x.toNat : Int)).length = bs.length := by rw [List.length_map]; exact hl
  have hls : (sb t).length = bs.length := by rw [sb_len, hl]
  refine ⟨hf.cell (p := ⟨s, 0, none⟩) h.ne h.c0, ?_, ?_, ?_, h.ne, by rw [hls]; exact h.hn, h.hm, sb_lt t, Nat.lt_of_lt_of_le h.hg hf.size⟩
  · rw [hls]; exact hf.cell (p := ⟨s, 1, none⟩) h.ne h.c1
  · intro j hj
    have := setCells_at (b := g) (t.data.toList.map fun x => Value.int .u8 (x.toNat : Int)) 0 w (fun i hi => by rw [Nat.zero_add, h.b i (by omega)]; rfl) j (by omega)
    rw [Nat.zero_add] at this
    rw [this]
    simp [sb]
  · intro j hj
    rw [setCells_frozen]
    exact h.f j (by omega)
/-- which bits too many there are -/
def badB (many : Nat) (bs : List Nat) : Bool := decide (0 < many % 8) && (bs.getD (bs.length - 1) 0 >>> (many % 8) != 0)
theorem bad_iff (many : Nat) (bs : List Nat) (hl : bs.length = (many + 7) / 8) (hb : ∀ x ∈ bs, x < 256) : badB many bs = false ↔ ∀ i, many ≤ i → bit bs i = false := by
  have hout : ∀ i, bs.length ≤ i / 8 → bit bs i = false := by
    intro i hi
    unfold bit
    rw [List.getD_eq_getElem?_getD, List.getElem?_eq_none hi]; simp
  by_cases hr : 0 < many % 8
  · have hlast : bs.length - 1 = many / 8 := by omega
    have hlt : many / 8 < bs.length := by omega
    have hx := hb _ (List.getElem_mem hlt)
    unfold badB
    rw [decide_eq_true hr, hlast, getD_at hlt, Bool.true_and]
    generalize hxe : bs[many / 8] = x at *
    constructor
    · intro h i hi
      by_cases h8 : bs.length ≤ i / 8
      · exact hout i h8
      · have e : i / 8 = many / 8 := by omega
        unfold bit
        rw [e, getD_at hlt, hxe]
        have h0 : x >>> (many % 8) = 0 := by simpa using h
        have : (x >>> (many % 8)).testBit (i % 8 - many % 8) = false := by rw [h0]; simp
        rw [Nat.testBit_shiftRight] at this
        rwa [show many % 8 + (i % 8 - many % 8) = i % 8 by omega] at this
    · intro h
      have h0 : x >>> (many % 8) = 0 := by
        apply Nat.eq_of_testBit_eq
        intro j
        rw [Nat.testBit_shiftRight, Nat.zero_testBit]
        by_cases hj : many % 8 + j < 8
        · have := h (many / 8 * 8 + (many % 8 + j)) (by omega)
          unfold bit at this
          rw [show (many / 8 * 8 + (many % 8 + j)) / 8 = many / 8 by omega, show (many / 8 * 8 + (many % 8 + j)) % 8 = many % 8 + j by omega, getD_at hlt, hxe] at this
          exact this
        · exact Nat.testBit_lt_two_pow (Nat.lt_of_lt_of_le hx (by
            calc 256 = 2 ^ 8 := rfl
              _ ≤ 2 ^ (many % 8 + j) := Nat.pow_le_pow_right (by decide) (by omega)))
      simp [h0]
  · unfold badB
    rw [decide_eq_false hr]
    constructor
    · intro _ i hi
      exact hout i (by omega)
    · intro _; rfl
theorem MS.src {w : World} {s g many : Nat} {bs : List Nat} (h : MS w s g many bs) (t : ByteArray) (hl : t.size = bs.length) : (∀ j, j < t.size → (w.cell? ⟨g, 0 + j, none⟩).isSome = true) ∧ ∀ j, j < t.size → w.frozen? ⟨g, 0 + j, none⟩ = false :=
  ⟨fun j hj => by rw [Nat.zero_add, h.b j (by omega)]; rfl, fun j hj => by rw [Nat.zero_add]; exact h.f j (by omega)⟩
theorem CP.below {w w0 : World} {g : Nat} {t : ByteArray} (hb : Below w0.heap.size w0 w) (hg : w0.heap.size ≤ g) : Below w0.heap.size w0 (w.setCells g 0 (t.data.toList.map fun x => Value.int .u8 (x.toNat : Int))) :=
  ⟨(Frm.setCells _ _ _).os.trans hb.os, (Frm.setCells _ _ _).tape.trans hb.tape, (Frm.setCells _ _ _).output.trans hb.output, Nat.le_trans hb.size (Frm.setCells _ _ _).size, fun k hk => ((Frm.setCells (b := g) _ 0 w).block k (Nat.lt_of_lt_of_le hk hb.size) (by omega)).trans (hb.block k hk)⟩
def rdE (many : Int) (t : ByteArray) : Int := if t.size < (nS many + 7) / 8 then 1 else if (nS many + 7) / 8 < t.size then 2 else if badB (nS many) (sb t) then 4 else 0
def RdP (w : World) (many : Int) (t : ByteArray) (e : Ending) (w' : World) : Prop :=
  (rdE many t ≠ 0 ∧ e = .returned (.tuple #[.pointer none, .int .i64 (rdE many t)]) ∧ Below w.heap.size w w') ∨
  (rdE many t = 0 ∧ ∃ s g, e = .returned (.tuple #[.pointer (some ⟨s, 0, none⟩), .int .i64 0]) ∧ MS w' s g (nS many) (sb t) ∧ w.heap.size ≤ s ∧ w.heap.size ≤ g ∧ Below w.heap.size w w')
theorem zeros_len (many : Int) : (zeros many).length = (nS many + 7) / 8 := by simp [zeros]
set_option maxHeartbeats 1600000 in
theorem read_any (many : Int) (t : ByteArray) (w : World) (hm : -9223372036854775808 ≤ many ∧ many ≤ 9223372036854775807) (ht : t.size ≤ 140737488355328) : Calls Try.prog 10 #[.int .i64 many, .string t] w (RdP w many t) := by
  have hN := Lib.hid (new_any many w hm)
  have hnS : nS many ≤ 1000 := by unfold nS; omega
  have hzl := zeros_len many
  clear hm
  by_cases h1 : t.size < (nS many + 7) / 8
  · have he : Hid (rdE many t = 1) := by show _ = _; unfold rdE; rw [if_pos h1]
    obtain ⟨nb, hnb⟩ : ∃ nb, (zeros many).length = nb := ⟨_, rfl⟩
    rw [hnb] at hzl
    rw [← hzl] at h1
    have hd : decide (t.size < nb) = true := decide_eq_true h1
    have hnb := Lib.hid hnb
    clear hzl
    go_enter Try.func10, Try.ntmps10
    go_wp2_with (go_at_call 8; (with_reducible refine hN.out.mono ?_); rintro e w1 ⟨s, g, rfl, hM, hs, hg, hb⟩; have hc1 := hM.c1; rw [hnb.out] at hc1)
    go_ret2
    exact .inl ⟨by rw [he.out]; decide, by rw [he.out]; rfl, hb⟩
  by_cases h2 : (nS many + 7) / 8 < t.size
  · have he : Hid (rdE many t = 2) := by show _ = _; unfold rdE; rw [if_neg h1, if_pos h2]
    obtain ⟨nb, hnb⟩ : ∃ nb, (zeros many).length = nb := ⟨_, rfl⟩
    rw [hnb] at hzl
    rw [← hzl] at h1 h2
    have hd : decide (t.size < nb) = false := decide_eq_false h1
    have hd2 : decide (nb < t.size) = true := decide_eq_true h2
    have hnb := Lib.hid hnb
    clear hzl
    go_enter Try.func10, Try.ntmps10
    go_wp2_with (go_at_call 8; (with_reducible refine hN.out.mono ?_); rintro e w1 ⟨s, g, rfl, hM, hs, hg, hb⟩; have hc1 := hM.c1; rw [hnb.out] at hc1)
    go_ret2
    exact .inl ⟨by rw [he.out]; decide, by rw [he.out]; rfl, hb⟩
  have hsz : t.size = (zeros many).length := by omega
  obtain ⟨nb, hnb⟩ : ∃ nb, (zeros many).length = nb := ⟨_, rfl⟩
  rw [hnb] at hzl hsz
  have hd : decide (t.size < nb) = false := decide_eq_false (by omega)
  have hd2 : decide (nb < t.size) = false := decide_eq_false (by omega)
  have he : Hid (rdE many t = if badB (nS many) (sb t) then 4 else 0) := by show _ = _; unfold rdE; rw [if_neg h1, if_neg h2]
  have hnb' := Lib.hid hnb
  have hsz' := Lib.hid hsz
  have hzl' := Lib.hid hzl
  have hle : t.size ≤ nb := by omega
  clear hnb hsz hzl h1 h2
  by_cases hr : 0 < nS many % 8
  · have hd3 : decide ((0 : Int) < (nS many : Int) % 8) = true := decide_eq_true (by omega)
    go_enter Try.func10, Try.ntmps10
    have hnb0 : 0 < nb := by have := hzl'.out; omega
    have hnb1 : nb ≤ 1000 := by have := hzl'.out; omega
    obtain ⟨c, hc⟩ : ∃ c, (sb t).getD (nb - 1) 0 = c := ⟨_, rfl⟩
    have hc' := Lib.hid hc
    have hr8 : nS many % 8 < 8 := Nat.mod_lt _ (by decide)
    go_wp2_with (first | (go_at_call 8; (with_reducible refine hN.out.mono ?_); rintro e w1 ⟨s, g, rfl, hM, hs, hg, hb⟩; have hc0 := hM.c0; have hc1 := hM.c1; rw [hnb'.out] at hc1; have hsr := hM.src t (hsz'.out.trans hnb'.out.symm); have hsr := Lib.hid hsr; have hCP := hM.copy t (hsz'.out.trans hnb'.out.symm); have hb2 := CP.below (t := t) hb hg) | (refine wpl_copy_str rfl (.tmp 31) (.tmp 32) w1 g nb nb t rfl rfl hle hsr.out.1 hsr.out.2 ?_ rfl; clear hsr; generalize w1.setCells g 0 (t.data.toList.map fun x => Value.int .u8 (x.toNat : Int)) = w2 at hCP hb2 ⊢; clear hc0 hc1; have hc0 := hCP.c0; have hc1 := hCP.c1; rw [sb_len, hsz'.out] at hc1; have hcl := hCP.b (nb - 1) (by rw [sb_len, hsz'.out]; omega); rw [← getD_at, hc] at hcl))
    clear hc
    have e1 : IntKind.i64.wrap ((nb : Int) - 1) = (nb : Int) - 1 := IntWalk.i64_in _ (by omega)
    have e2 : (0 : Int) ≤ (nb : Int) - 1 := by omega
    have e3 : ((nb : Int) - 1).toNat = nb - 1 := by omega
    have e4 : nb - 1 < nb := by omega
    go_quiet (fail)
    clear e1 e3
    have hbd : badB (nS many) (sb t) = (((c : Int) / 2 ^ (nS many % 8)) != 0) := by
      unfold badB
      rw [decide_eq_true hr, sb_len, hsz'.out, hc'.out, Bool.true_and, Nat.shiftRight_eq_div_pow]
      have : ((c : Int) / 2 ^ (nS many % 8)) = ((c / 2 ^ (nS many % 8) : Nat) : Int) := by push_cast; rfl
      rw [this, Bool.eq_iff_iff]
      simp only [bne_iff_ne, ne_eq]
      omega
    cases hbb : badB (nS many) (sb t) with
    | true =>
      have ht4 : Hid (rdE many t = 4) := by show _ = _; rw [he.out, hbb]; rfl
      rw [hbb] at hbd
      have hbd := hbd.symm
      clear hbb
      go_wp2
      go_ret2
      exact .inl ⟨by rw [ht4.out]; decide, by rw [ht4.out]; rfl, bdraws hb2 _⟩
    | false =>
      have ht0 : Hid (rdE many t = 0) := by show _ = _; rw [he.out, hbb]; rfl
      have hz := (bad_iff (nS many) (sb t) hCP.hn (sb_lt t)).1 hbb
      rw [hbb] at hbd
      have hbd := hbd.symm
      have hMS := hCP.ms hz
      clear hbb hz
      go_wp2
      go_ret2
      exact .inr ⟨ht0.out, s, g, rfl, hMS.drewN _, hs, hg, bdraws hb2 _⟩
  · have hd3 : decide ((0 : Int) < (nS many : Int) % 8) = false := decide_eq_false (by omega)
    have hbb : badB (nS many) (sb t) = false := by
      unfold badB
      rw [decide_eq_false hr]; rfl
    have ht0 : Hid (rdE many t = 0) := by show _ = _; rw [he.out, hbb]; rfl
    have hbb := Lib.hid hbb
    go_enter Try.func10, Try.ntmps10
    go_wp2_with (first | (go_at_call 8; (with_reducible refine hN.out.mono ?_); rintro e w1 ⟨s, g, rfl, hM, hs, hg, hb⟩; have hc0 := hM.c0; have hc1 := hM.c1; rw [hnb'.out] at hc1; have hsr := hM.src t (hsz'.out.trans hnb'.out.symm); have hsr := Lib.hid hsr; have hCP := hM.copy t (hsz'.out.trans hnb'.out.symm); have hb2 := CP.below (t := t) hb hg) | (refine wpl_copy_str rfl (.tmp 31) (.tmp 32) w1 g nb nb t rfl rfl hle hsr.out.1 hsr.out.2 ?_ rfl; clear hsr; generalize w1.setCells g 0 (t.data.toList.map fun x => Value.int .u8 (x.toNat : Int)) = w2 at hCP hb2 ⊢; clear hc0 hc1; have hc0 := hCP.c0; have hc1 := hCP.c1; rw [sb_len, hsz'.out] at hc1))
    go_quiet (fail)
    have hMS := hCP.ms ((bad_iff (nS many) (sb t) hCP.hn (sb_lt t)).1 hbb.out)
    go_wp2
    go_ret2
    exact .inr ⟨ht0.out, s, g, rfl, hMS.drewN _, hs, hg, bdraws hb2 _⟩
end Go.Proofs.Ytlgbimpbdofloaa
