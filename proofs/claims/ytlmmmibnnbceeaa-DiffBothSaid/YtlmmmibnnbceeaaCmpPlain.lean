/-
  Bytes of two texts, part by part (chapter 41): the plain law.
-/
import Derived.Test.YtlmmmibnnbceeaaDLaw2
import Derived.Test.YtlmmmibnnbceeaaDLaw
namespace Go.Proofs.Ytlmmmibnnbceeaa
open Go.RowKit
set_option linter.unusedVariables false
set_option linter.unusedSimpArgs false

abbrev I3 := Int × Int × Int
/-- what is wrong with parts from a place on -/
def chk (size : Int) : Int → List I3 → Int
  | a, [] => if a < size then 1 else 0
  | a, x :: l => if x.1 ≠ a ∨ x.2.1 ≤ a ∨ size < x.2.1 then 3 else if x.2.2 ≠ 0 ∧ x.2.2 ≠ 1 then 7 else chk size x.2.1 l
def chkE (l : List I3) (size : Int) : Int := if l = [] ∨ size < 1 then 8 else chk size 0 l
/-- which text a part is of -/
def sdB (a b : ByteArray) (s : Int) : ByteArray := if s = 1 then b else a
/-- the bytes, part by part -/
def cmp (a b : ByteArray) : ByteArray → List I3 → ByteArray
  | s, [] => s
  | s, x :: l => cmp a b (s ++ (sdB a b x.2.2).extract x.1.toNat x.2.1.toNat) l
def cmpE (a b : ByteArray) (l : List I3) : Int := if a.size ≠ b.size then 12 else chkE l a.size
def cmpS (a b : ByteArray) (l : List I3) : ByteArray := if cmpE a b l = 0 then cmp a b ⟨#[]⟩ l else ⟨#[]⟩
theorem chk_step {size a : Int} {x : I3} {l : List I3} (h : chk size a (x :: l) = 0) : x.1 = a ∧ a < x.2.1 ∧ x.2.1 ≤ size ∧ (x.2.2 = 0 ∨ x.2.2 = 1) ∧ chk size x.2.1 l = 0 := by
  unfold chk at h
  by_cases h1 : x.1 ≠ a ∨ x.2.1 ≤ a ∨ size < x.2.1
  · rw [if_pos h1] at h; exact absurd h (by decide)
  · rw [if_neg h1] at h
    by_cases h2 : x.2.2 ≠ 0 ∧ x.2.2 ≠ 1
    · rw [if_pos h2] at h; exact absurd h (by decide)
    · rw [if_neg h2] at h
      exact ⟨by omega, by omega, by omega, by omega, h⟩
/-- parts that follow each other -/
inductive Way : Int → List I3 → Int → Prop
  | nil (a : Int) : Way a [] a
  | cons {a : Int} {x : I3} {l : List I3} {e : Int} : x.1 = a → a < x.2.1 → x.2.2 = 0 ∨ x.2.2 = 1 → Way x.2.1 l e → Way a (x :: l) e
theorem Way.nil_eq {a e : Int} (h : Way a [] e) : e = a := by cases h; rfl
theorem Way.le {a e : Int} {l : List I3} (h : Way a l e) : a ≤ e := by
  induction h with
  | nil a => exact Int.le_refl _
  | cons h1 h2 h3 _ ih => omega
theorem Way.chk {size a e : Int} {l : List I3} (h : Way a l e) (he : e ≤ size) : Go.Proofs.Ytlmmmibnnbceeaa.chk size a l = if e < size then 1 else 0 := by
  induction h with
  | nil a => rfl
  | @cons a x l e h1 h2 h3 h4 ih =>
    have hle := h4.le
    unfold Go.Proofs.Ytlmmmibnnbceeaa.chk
    rw [if_neg (by omega), if_neg (by omega), ih he]
theorem Way.snoc {a e : Int} {l : List I3} (h : Way a l e) (x : I3) (h1 : x.1 = e) (h2 : e < x.2.1) (h3 : x.2.2 = 0 ∨ x.2.2 = 1) : Way a (l ++ [x]) x.2.1 := by
  induction h with
  | nil a => exact .cons h1 h2 h3 (.nil _)
  | cons g1 g2 g3 _ ih => exact .cons g1 g2 g3 (ih h1 h2)
theorem Way.split {a e : Int} {l : List I3} {x : I3} (h : Way a (l ++ [x]) e) : Way a l x.1 ∧ x.1 < x.2.1 ∧ (x.2.2 = 0 ∨ x.2.2 = 1) ∧ e = x.2.1 := by
  induction l generalizing a with
  | nil =>
    cases h with
    | cons h1 h2 h3 h4 =>
      cases h4
      exact ⟨by rw [h1]; exact .nil _, by omega, h3, rfl⟩
  | cons y l ih =>
    cases h with
    | cons h1 h2 h3 h4 =>
      obtain ⟨i1, i2⟩ := ih h4
      exact ⟨.cons h1 h2 h3 i1, i2⟩
theorem cmp_snoc (a b : ByteArray) (x : I3) : ∀ (l : List I3) (s : ByteArray), cmp a b s (l ++ [x]) = cmp a b s l ++ (sdB a b x.2.2).extract x.1.toNat x.2.1.toNat
  | [], s => rfl
  | y :: l, s => cmp_snoc a b x l _
/-- a part of places as a part of numbers -/
def toI (x : P3) : I3 := (x.1, x.2.1, x.2.2)
/-- each byte from the side that is asked for -/
def mixS (p : Nat → Bool) (a b : ByteArray) : Nat → ByteArray
  | 0 => ⟨#[]⟩
  | n + 1 => mixS p a b n ++ (if p n = true then b else a).extract n (n + 1)
theorem sdB_sdN (a b : ByteArray) (q : Bool) : sdB a b (sdN q : Nat) = if q = true then b else a := by cases q <;> rfl
theorem ext_join (s : ByteArray) (i j k : Nat) (h1 : i ≤ j) (h2 : j ≤ k) : s.extract i j ++ s.extract j k = s.extract i k := by
  apply ba_data
  rw [app_list, ext_list, ext_list, ext_list]
  have e : k - i = (j - i) + (k - j) := by omega
  rw [e, List.take_add, List.drop_drop]
  congr 3
  omega
theorem pts_way (p : Nat → Bool) (a b : ByteArray) : ∀ n, Way 0 ((pts p n).map toI) n ∧ cmp a b ⟨#[]⟩ ((pts p n).map toI) = mixS p a b n
  | 0 => ⟨.nil _, rfl⟩
  | n + 1 => by
    obtain ⟨h1, h2⟩ := pts_way p a b n
    by_cases h : (pts p n).getLast?.map (fun x => x.2.2) = some (sdN (p n))
    · obtain ⟨X, y, hX⟩ : ∃ X y, pts p n = X ++ [y] := by
        rcases List.eq_nil_or_concat (pts p n) with h0 | ⟨X, y, h0⟩
        · rw [h0] at h; simp at h
        · exact ⟨X, y, by rw [h0]; simp⟩
      have e : pts p (n + 1) = (pts p n).dropLast ++ [(((pts p n).getLast?.getD (0, 0, 0)).1, n + 1, sdN (p n))] := if_pos h
      have hy : y.2.2 = sdN (p n) := by rw [hX] at h; simpa using h
      rw [hX] at e h1 h2
      simp only [List.dropLast_concat, List.getLast?_concat, Option.getD_some] at e
      rw [e]
      rw [List.map_append] at h1 h2 ⊢
      obtain ⟨w1, w2, w3, w4⟩ := Way.split (x := toI y) h1
      have w2 : (y.1 : Int) < (y.2.1 : Int) := w2
      have w4 : (n : Int) = (y.2.1 : Int) := w4
      refine ⟨?_, ?_⟩
      · refine Way.snoc w1 (toI (y.1, n + 1, sdN (p n))) rfl ?_ ?_
        · show (y.1 : Int) < ((n + 1 : Nat) : Int); omega
        · show ((sdN (p n) : Nat) : Int) = 0 ∨ ((sdN (p n) : Nat) : Int) = 1
          unfold sdN; split <;> simp
      · have h3 := cmp_snoc a b (toI y) (X.map toI) ⟨#[]⟩
        have h4 := cmp_snoc a b (toI (y.1, n + 1, sdN (p n))) (X.map toI) ⟨#[]⟩
        refine h4.trans ?_
        have h2' := h3.symm.trans h2
        show _ ++ (sdB a b ((sdN (p n) : Nat) : Int)).extract y.1 (n + 1) = mixS p a b n ++ _
        have h2' : cmp a b ⟨#[]⟩ (X.map toI) ++ (sdB a b ((y.2.2 : Nat) : Int)).extract y.1 y.2.1 = mixS p a b n := h2'
        rw [← h2', hy, sdB_sdN]
        have : y.2.1 = n := by omega
        rw [this, ByteArray.append_assoc, ext_join _ _ _ _ (by omega) (by omega)]
    · have e : pts p (n + 1) = pts p n ++ [(n, n + 1, sdN (p n))] := if_neg h
      rw [e, List.map_append]
      refine ⟨?_, ?_⟩
      · refine Way.snoc h1 (toI (n, n + 1, sdN (p n))) rfl ?_ ?_
        · show (n : Int) < ((n + 1 : Nat) : Int); omega
        · show ((sdN (p n) : Nat) : Int) = 0 ∨ ((sdN (p n) : Nat) : Int) = 1
          unfold sdN; split <;> simp
      · refine (cmp_snoc a b (toI (n, n + 1, sdN (p n))) ((pts p n).map toI) ⟨#[]⟩).trans ?_
        rw [h2]
        show mixS p a b n ++ (sdB a b ((sdN (p n) : Nat) : Int)).extract n (n + 1) = _
        rw [sdB_sdN]; rfl
theorem mixS_size (p : Nat → Bool) (a b : ByteArray) : ∀ n, n ≤ a.size → n ≤ b.size → (mixS p a b n).size = n
  | 0, _, _ => rfl
  | n + 1, ha, hb => by
    show (mixS p a b n ++ _).size = _
    have hx : ((if p n = true then b else a).extract n (n + 1)).size = 1 := by
      split
      · rw [ext_size _ _ _ hb]; omega
      · rw [ext_size _ _ _ ha]; omega
    rw [ByteArray.size_append, mixS_size p a b n (by omega) (by omega), hx]
theorem gd_app1 (s t : ByteArray) (j : Nat) (h : j < s.size) : gd (s ++ t) j = gd s j := by
  unfold gd
  rw [ByteArray.data_append, Array.getD_eq_getD_getElem?, Array.getD_eq_getD_getElem?, Array.getElem?_append_left h]
theorem gd_app2 (s t : ByteArray) (j : Nat) (h : s.size ≤ j) : gd (s ++ t) j = gd t (j - s.size) := by
  unfold gd
  rw [ByteArray.data_append, Array.getD_eq_getD_getElem?, Array.getD_eq_getD_getElem?, Array.getElem?_append_right h]; rfl
theorem gd_mixS (p : Nat → Bool) (a b : ByteArray) : ∀ n, n ≤ a.size → n ≤ b.size → ∀ j, j < n → gd (mixS p a b n) j = gd (if p j = true then b else a) j
  | 0, _, _, j, h => absurd h (by omega)
  | n + 1, ha, hb, j, h => by
    have hz := mixS_size p a b n (by omega) (by omega)
    show gd (mixS p a b n ++ _) j = _
    by_cases hj : j < n
    · rw [gd_app1 _ _ _ (by rw [hz]; exact hj)]
      exact gd_mixS p a b n (by omega) (by omega) j hj
    · have : j = n := by omega
      subst this
      rw [gd_app2 _ _ _ (by rw [hz]; exact Nat.le_refl _), hz, gd_extract _ _ _ _ (by split <;> assumption) (by omega)]
      congr 1; omega
theorem mS_size (o a b : ByteArray) : (mS o a b).size = o.size := by
  unfold mS
  show ((List.range o.size).map fun j => UInt8.ofNat (mB o a b j)).toArray.size = _
  simp
theorem gd_mS (o a b : ByteArray) (j : Nat) (h : j < o.size) : gd (mS o a b) j = mB o a b j := by
  unfold mS
  rw [gd_list, List.getD_eq_getElem?_getD, List.getElem?_map, List.getElem?_range h]
  have := mB_lt o a b j
  simp only [Option.map_some, Option.getD_some]
  rw [UInt8.toNat_ofNat']
  exact Nat.mod_eq_of_lt this
theorem mS_mix {o a b : ByteArray} (ha : a.size = o.size) (hb : b.size = o.size) (hc : ∀ j, j < o.size → pC o a b j = false) : mS o a b = mixS (pT o a b) a b o.size := by
  apply gd_all
  · rw [mS_size, mixS_size _ _ _ _ (by omega) (by omega)]
  · intro j hj
    rw [mS_size] at hj
    rw [gd_mS _ _ _ _ hj, gd_mixS _ _ _ _ (by omega) (by omega) j hj]
    unfold mB
    rw [if_neg (by rw [hc j hj]; decide)]
    split <;> rfl
theorem pC_comm (o a b : ByteArray) : pC o a b = pC o b a := by
  funext j
  unfold pC
  have : decide (gd a j = gd b j) = decide (gd b j = gd a j) := by rw [decide_eq_decide]; exact ⟨Eq.symm, Eq.symm⟩
  rw [this]
  cases decide (gd b j = gd a j) <;> cases decide (gd a j = gd o j) <;> cases decide (gd b j = gd o j) <;> rfl
theorem mS_comm (o a b : ByteArray) : mS o a b = mS o b a := by
  apply gd_all
  · rw [mS_size, mS_size]
  · intro j hj
    rw [mS_size] at hj
    rw [gd_mS _ _ _ _ hj, gd_mS _ _ _ _ hj]
    unfold mB
    rw [pC_comm o b a]
    by_cases hc : pC o a b j = true
    · rw [if_pos hc, if_pos hc]
    · rw [if_neg hc, if_neg hc]
      unfold pC at hc
      unfold pT
      by_cases h1 : gd a j = gd b j
      · simp [h1]
      · by_cases h2 : gd a j = gd o j
        · by_cases h3 : gd b j = gd o j
          · exact absurd (h2.trans h3.symm) h1
          · have h1' : ¬ gd b j = gd a j := fun e => h1 e.symm
            rw [← h2] at h3 ⊢
            simp [h1, h3]
        · by_cases h3 : gd b j = gd o j
          · have h2' : ¬ gd o j = gd a j := fun e => h2 e.symm
            simp [h2, h2', h3]
          · exact absurd (by simp [h1, h2, h3]) hc
theorem mS_base {o a : ByteArray} (ha : a.size = o.size) : mS o a o = a := by
  apply gd_all
  · rw [mS_size, ha]
  · intro j hj
    rw [mS_size] at hj
    rw [gd_mS _ _ _ _ hj]
    unfold mB pC pT
    by_cases h1 : gd a j = gd o j <;> simp [h1]
theorem chk_pts (p : Nat → Bool) (n : Nat) (h : 0 < n) : chkE ((pts p n).map toI) n = 0 := by
  have hw := (pts_way p ⟨#[]⟩ ⟨#[]⟩ n).1
  unfold chkE
  rw [if_neg, hw.chk (Int.le_refl _), if_neg (by omega)]
  rintro (h0 | h0)
  · rw [h0] at hw
    have := hw.nil_eq
    omega
  · omega
end Go.Proofs.Ytlmmmibnnbceeaa
