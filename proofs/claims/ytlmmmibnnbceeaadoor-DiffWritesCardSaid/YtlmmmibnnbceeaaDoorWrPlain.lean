/-
  Parts in writing (chapter 41): the plain laws.
-/
import Derived.Test.YtlmmmibnnbceeaaDoorCutsPlain
namespace Go.Proofs.YtlmmmibnnbceeaaDoor
open Go.RowKit
set_option linter.unusedVariables false
set_option linter.unusedSimpArgs false
set_option maxRecDepth 20000

abbrev I3 := Int × Int × Int
/-- what is wrong with parts from a place on -/
def chk (size : Int) : Int → List I3 → Int
  | a, [] => if a < size then 1 else 0
  | a, x :: l => if x.1 ≠ a ∨ x.2.1 ≤ a ∨ size < x.2.1 then 3 else if x.2.2 ≠ 0 ∧ x.2.2 ≠ 1 then 7 else chk size x.2.1 l
def chkE (l : List I3) (size : Int) : Int := if l = [] ∨ size < 1 then 8 else chk size 0 l
theorem chk_step {size a : Int} {x : I3} {l : List I3} (h : chk size a (x :: l) = 0) : x.1 = a ∧ a < x.2.1 ∧ x.2.1 ≤ size ∧ (x.2.2 = 0 ∨ x.2.2 = 1) ∧ chk size x.2.1 l = 0 := by
  unfold chk at h
  by_cases h1 : x.1 ≠ a ∨ x.2.1 ≤ a ∨ size < x.2.1
  · rw [if_pos h1] at h; exact absurd h (by decide)
  · rw [if_neg h1] at h
    by_cases h2 : x.2.2 ≠ 0 ∧ x.2.2 ≠ 1
    · rw [if_pos h2] at h; exact absurd h (by decide)
    · rw [if_neg h2] at h
      exact ⟨by omega, by omega, by omega, by omega, h⟩
def I64 (a : Int) : Prop := -9223372036854775808 ≤ a ∧ a ≤ 9223372036854775807
def letS (x : Int) : ByteArray := if x = 0 then ⟨#[97]⟩ else ⟨#[98]⟩
/-- a part as a word -/
def wdS (x : I3) : ByteArray := ((textS x.1 ++ ⟨#[45]⟩) ++ textS x.2.1) ++ letS x.2.2
/-- parts in writing -/
def prn (l : List I3) : ByteArray := jn (l.map wdS)
/-- a part that a word may say -/
def okP (x : I3) : Prop := (0 ≤ x.1 ∧ x.1 ≤ 9223372036854775807) ∧ (0 ≤ x.2.1 ∧ x.2.1 ≤ 9223372036854775807) ∧ (x.2.2 = 0 ∨ x.2.2 = 1)
/-- what a text says -/
def PA (s : ByteArray) (l : List I3) (e : Int) : Prop := (l ≠ [] ∧ (∀ x ∈ l, okP x) ∧ s = prn l ∧ e = 0) ∨ (l = [] ∧ e = 4 ∧ ∀ m : List I3, m ≠ [] → (∀ x ∈ m, okP x) → s ≠ prn m)
theorem okP_i64 {x : I3} (h : okP x) : I64 x.1 ∧ I64 x.2.1 := by unfold okP at h; unfold I64; omega
theorem text_chars (n : Int) (hn : I64 n) : ∀ c ∈ (textS n).data.toList, c.toNat = 45 ∨ (48 ≤ c.toNat ∧ c.toNat ≤ 57) := by
  have h0 := hn.1
  have h1 := hn.2
  have hd : ∀ m, m < 10 ^ 20 → ∀ c ∈ digs m, 48 ≤ c.toNat ∧ c.toNat ≤ 57 := fun m hm => (digs_can m hm).1.1
  intro c hc
  have h : c ∈ textZ n := by simpa [textS] using hc
  unfold textZ at h
  split at h
  · rcases List.mem_cons.1 h with h | h
    · exact .inl (by rw [h]; rfl)
    · exact .inr (hd _ (by omega) _ h)
  · exact .inr (hd _ (by omega) _ h)
theorem text_digs (n : Int) (h0 : 0 ≤ n) (h1 : n ≤ 9223372036854775807) : (∀ c ∈ (textS n).data.toList, 48 ≤ c.toNat ∧ c.toNat ≤ 57) ∧ (textS n).data.toList ≠ [] := by
  have hc := (digs_can n.toNat (by omega)).1
  have e : (textS n).data.toList = digs n.toNat := by
    simp only [textS, textZ]
    rw [if_neg (by omega)]
  rw [e]
  exact ⟨hc.1, hc.2.1⟩
theorem wd_data (x : I3) : (wdS x).data.toList = (textS x.1).data.toList ++ 45 :: ((textS x.2.1).data.toList ++ (letS x.2.2).data.toList) := by
  unfold wdS
  rw [ByteArray.data_append, ByteArray.data_append, ByteArray.data_append]
  simp
theorem let_data (x : Int) : (letS x).data.toList = [if x = 0 then 97 else 98] := by
  unfold letS
  split <;> rfl
theorem wd_no (x : I3) (h1 : I64 x.1) (h2 : I64 x.2.1) : (32 : UInt8) ∉ (wdS x).data.toList := by
  rw [wd_data, let_data]
  have e : (32 : UInt8).toNat = 32 := rfl
  intro h
  simp only [List.mem_append, List.mem_cons, List.not_mem_nil, or_false] at h
  rcases h with h | h | h | h
  · have := text_chars _ h1 _ h; omega
  · cases h
  · have := text_chars _ h2 _ h; omega
  · split at h <;> cases h
theorem wd_word (x : I3) (h1 : I64 x.1) (h2 : I64 x.2.1) : isWord (wdS x) := (word_iff _).2 ⟨by rw [wd_data]; simp, wd_no x h1 h2⟩
theorem wd_size (x : I3) : (wdS x).size ≤ 44 := by
  unfold wdS
  rw [ByteArray.size_append, ByteArray.size_append, ByteArray.size_append]
  have := text_size x.1
  have := text_size x.2.1
  have : (⟨#[45]⟩ : ByteArray).size = 1 := rfl
  have : (letS x.2.2).size = 1 := by unfold letS; split <;> rfl
  omega
theorem prn_cuts {l : List I3} (h0 : l ≠ []) (h : ∀ x ∈ l, I64 x.1 ∧ I64 x.2.1) : cuts (prn l) = l.map wdS ∧ wordsL (prn l) = l.map wdS := by
  have hw : ∀ y ∈ l.map wdS, isWord y := by
    intro y hy
    obtain ⟨x, hx, rfl⟩ := List.mem_map.1 hy
    exact wd_word x (h x hx).1 (h x hx).2
  exact ⟨cuts_jn (by simpa using h0) fun y hy => ((word_iff y).1 (hw y hy)).2, words_jn _ hw⟩
theorem split45 {a b c d : List UInt8} (ha : ∀ x ∈ a, 48 ≤ x.toNat ∧ x.toNat ≤ 57) (hc : ∀ x ∈ c, 48 ≤ x.toNat ∧ x.toNat ≤ 57) (h : a ++ 45 :: b = c ++ 45 :: d) : a = c ∧ b = d := by
  induction a generalizing c with
  | nil =>
    cases c with
    | nil => simp at h; exact ⟨rfl, h⟩
    | cons y c =>
      simp at h
      have := hc y (by simp)
      rw [← h.1] at this
      have e : (45 : UInt8).toNat = 45 := rfl
      omega
  | cons x a ih =>
    cases c with
    | nil =>
      simp at h
      have := ha x (by simp)
      rw [h.1] at this
      have e : (45 : UInt8).toNat = 45 := rfl
      omega
    | cons y c =>
      simp at h
      obtain ⟨h1, h2⟩ := ih (c := c) (fun z hz => ha z (by simp [hz])) (fun z hz => hc z (by simp [hz])) h.2
      exact ⟨by rw [h.1, h1], h2⟩
theorem text_inj {a b : Int} (ha : 0 ≤ a ∧ a ≤ 9223372036854775807) (hb : 0 ≤ b ∧ b ≤ 9223372036854775807) (h : textS a = textS b) : a = b := by
  rw [← (read_text a (by omega) ha.2).2, ← (read_text b (by omega) hb.2).2, h]
theorem wd_inj {x y : I3} (hx : okP x) (hy : okP y) (h : wdS x = wdS y) : x = y := by
  have h1 := congrArg (·.data.toList) h
  simp only [wd_data, let_data] at h1
  obtain ⟨e1, e2⟩ := split45 (text_digs _ hx.1.1 hx.1.2).1 (text_digs _ hy.1.1 hy.1.2).1 h1
  obtain ⟨e3, e4⟩ := List.append_inj' e2 rfl
  obtain ⟨a, b, c⟩ := x
  obtain ⟨a', b', c'⟩ := y
  obtain ⟨hx1, hx2, hx3⟩ := hx
  obtain ⟨hy1, hy2, hy3⟩ := hy
  simp only at *
  obtain rfl := text_inj hx1 hy1 (dl_eq e1)
  obtain rfl := text_inj hx2 hy2 (dl_eq e3)
  have : c = c' := by
    rcases hx3 with rfl | rfl <;> rcases hy3 with rfl | rfl <;> first | rfl | (simp at e4)
  rw [this]
theorem map_inj {l m : List I3} (hl : ∀ x ∈ l, okP x) (hm : ∀ x ∈ m, okP x) (h : l.map wdS = m.map wdS) : l = m := by
  induction l generalizing m with
  | nil => cases m with
    | nil => rfl
    | cons y m => simp at h
  | cons x l ih =>
    cases m with
    | nil => simp at h
    | cons y m =>
      simp only [List.map_cons, List.cons.injEq] at h
      rw [wd_inj (hl x (by simp)) (hm y (by simp)) h.1, ih (fun z hz => hl z (by simp [hz])) (fun z hz => hm z (by simp [hz])) h.2]
theorem PA_fun {s : ByteArray} {l m : List I3} {e f : Int} (h : PA s l e) (h' : PA s m f) : l = m ∧ e = f := by
  rcases h with ⟨h0, h1, h2, h3⟩ | ⟨h0, h1, h2⟩ <;> rcases h' with ⟨g0, g1, g2, g3⟩ | ⟨g0, g1, g2'⟩
  · refine ⟨?_, by rw [h3, g3]⟩
    have e1 := (prn_cuts h0 fun x hx => okP_i64 (h1 x hx)).1
    have e2 := (prn_cuts g0 fun x hx => okP_i64 (g1 x hx)).1
    rw [← h2] at e1
    rw [← g2] at e2
    exact map_inj h1 g1 (e1.symm.trans e2)
  · exact absurd h2 (g2' l h0 h1)
  · exact absurd g2 (h2 m g0 g1)
  · exact ⟨by rw [h0, g0], by rw [h1, g1]⟩
end Go.Proofs.YtlmmmibnnbceeaaDoor
