/-
  Texts cut at blanks, and put together again: plain laws.
-/
import Derived.Test.YtlmmmibnnbceeaaDoorWordsBack
import Derived.Test.YtlmmmibnnbceeaaDoorCountBackN
import Derived.Lib.SplitLaws
import Derived.Lib.Join
namespace Go.Proofs.YtlmmmibnnbceeaaDoor
open Go.RowKit
set_option linter.unusedVariables false
set_option linter.unusedSimpArgs false

theorem index_no {s : List UInt8} (h : (32 : UInt8) ∉ s) : Lib.index s [32] = -1 := by
  induction s with
  | nil => rfl
  | cons b l ih =>
    simp only [List.mem_cons, not_or] at h
    have hb : ¬ ([32].isPrefixOf (b :: l) = true) := by simp [List.isPrefixOf, h.1]
    rw [Lib.index, if_neg hb, ih h.2]; rfl
theorem index_yes {x : List UInt8} (t : List UInt8) (h : (32 : UInt8) ∉ x) : Lib.index (x ++ 32 :: t) [32] = x.length := by
  induction x with
  | nil => simp [Lib.index, List.isPrefixOf]
  | cons b l ih =>
    simp only [List.mem_cons, not_or] at h
    have hb : ¬ ([32].isPrefixOf (b :: (l ++ 32 :: t)) = true) := by simp [List.isPrefixOf, h.1]
    rw [List.cons_append, Lib.index, if_neg hb, ih h.2]
    rw [if_neg (by simp)]
    simp
theorem splitK_no (k : Nat) {s : List UInt8} (h : (32 : UInt8) ∉ s) : Lib.splitK [32] 0 k s = [s] := by
  cases k with
  | zero => rfl
  | succ k => rw [Lib.splitK, index_no h]; rfl
theorem splitK_yes (k : Nat) {x : List UInt8} (t : List UInt8) (h : (32 : UInt8) ∉ x) : Lib.splitK [32] 0 (k + 1) (x ++ 32 :: t) = x :: Lib.splitK [32] 0 k t := by
  rw [Lib.splitK, index_yes t h, if_neg (by simp)]
  congr 1
  · simp
  · congr 1
    simp
theorem count_blank (s : List UInt8) : Lib.count s [32] = s.count 32 := Lib.count_one 32 s
theorem cut_at {s : List UInt8} {n : Nat} (h : s.count (32 : UInt8) = n + 1) : ∃ x t, s = x ++ 32 :: t ∧ (32 : UInt8) ∉ x ∧ t.count (32 : UInt8) = n := by
  induction s with
  | nil => simp at h
  | cons b l ih =>
    by_cases hb : b = 32
    · subst hb
      rw [List.count_cons_self] at h
      exact ⟨[], l, rfl, by simp, by omega⟩
    · rw [List.count_cons_of_ne hb] at h
      obtain ⟨x, t, e, h1, h2⟩ := ih h
      refine ⟨b :: x, t, by rw [e]; rfl, ?_, h2⟩
      simp only [List.mem_cons, not_or]
      exact ⟨fun e => hb e.symm, h1⟩
theorem dl_eq {a b : ByteArray} (h : a.data.toList = b.data.toList) : a = b := by
  cases a; cases b
  simp at h
  rw [h]
def spB : ByteArray := ⟨#[32]⟩
theorem countB_eq (s : ByteArray) : Lib.countB s spB = s.data.toList.count 32 := count_blank _
theorem gd_app1 (a b : ByteArray) (i : Nat) (h : i < a.size) : gd (a ++ b) i = gd a i := by
  have h' : i < a.data.size := h
  unfold gd
  rw [ByteArray.data_append, Array.getD_eq_getD_getElem?, Array.getD_eq_getD_getElem?, Array.getElem?_append_left h']
theorem gd_app2 (a b : ByteArray) (i : Nat) : gd (a ++ b) (a.size + i) = gd b i := by
  unfold gd
  rw [ByteArray.data_append, Array.getD_eq_getD_getElem?, Array.getD_eq_getD_getElem?, Array.getElem?_append_right (by show a.data.size ≤ a.data.size + i; omega)]
  show (b.data[a.data.size + i - a.data.size]?.getD 0).toNat = _
  rw [Nat.add_sub_cancel_left]
theorem ext_app1 (a b : ByteArray) (x i : Nat) (h : i ≤ a.size) : (a ++ b).extract x i = a.extract x i := by
  apply ba_data
  rw [ext_list, ext_list, app_list]
  have hl : a.data.toList.length = a.size := data_len a
  by_cases hx : x ≤ a.size
  · rw [List.drop_append_of_le_length (by omega), List.take_append_of_le_length (by rw [List.length_drop]; omega)]
  · rw [show i - x = 0 by omega, List.take_zero, List.take_zero]
theorem ext_app2 (a b : ByteArray) : (a ++ b).extract a.size (a ++ b).size = b := by
  apply ba_data
  have hl : a.data.toList.length = a.size := data_len a
  have h2 : (a ++ b).size = a.size + b.size := ByteArray.size_append
  rw [ext_list, app_list, ← hl, List.drop_left, List.take_of_length_le (by rw [hl, h2, data_len]; omega)]
theorem wst_pre (a b : ByteArray) : ∀ i, i ≤ a.size → wst (a ++ b) i = wst a i
  | 0, _ => rfl
  | i + 1, h => by
    have ih := wst_pre a b i (by omega)
    unfold wst
    rw [gd_app1 a b i (by omega), ih, ext_app1 a b _ i (by omega)]
theorem words_snoc (s t : ByteArray) (ht : isWord t) : wordsL ((s ++ spB) ++ t) = wordsL s ++ [t] := by
  have hz : (s ++ spB).size = s.size + 1 := ByteArray.size_append
  have hz2 : ((s ++ spB) ++ t).size = s.size + 1 + t.size := by rw [ByteArray.size_append, hz]
  have h1 : wst ((s ++ spB) ++ t) (s.size + 1) = (s.size + 1, wordsL s) := by
    rw [wst_pre (s ++ spB) t _ (by omega)]
    unfold wst
    have hg : gd (s ++ spB) s.size = 32 := (gd_app2 s spB 0).trans (by decide)
    rw [if_pos hg, wst_pre s spB _ (Nat.le_refl _), ext_app1 s spB _ _ (Nat.le_refl _)]
    rfl
  have h2 : ∀ i, i ≤ t.size → wst ((s ++ spB) ++ t) (s.size + 1 + i) = (s.size + 1, wordsL s) := by
    intro i
    induction i with
    | zero => intro _; exact h1
    | succ i ih =>
      intro hi
      rw [show s.size + 1 + (i + 1) = (s.size + 1 + i) + 1 by omega]
      unfold wst
      have hg : gd ((s ++ spB) ++ t) (s.size + 1 + i) ≠ 32 := by
        rw [← hz, gd_app2]
        exact ht.2 i (by omega)
      rw [if_neg hg]
      exact ih (by omega)
  unfold wordsL
  rw [hz2, h2 t.size (Nat.le_refl _)]
  have := ht.1
  rw [if_pos (by show s.size + 1 < _; omega)]
  show _ ++ [((s ++ spB) ++ t).extract (s.size + 1) (s.size + 1 + t.size)] = _
  rw [← hz2, ← hz, ext_app2]
  rfl
theorem words_self (t : ByteArray) (ht : isWord t) : wordsL t = [t] := by
  unfold wordsL
  rw [wst_word ht t.size (Nat.le_refl _), if_pos ht.1]
  show [] ++ [t.extract 0 t.size] = _
  rw [ext_all]; rfl
theorem word_of_list (l : List UInt8) (h0 : l ≠ []) (h : ∀ c ∈ l, c.toNat ≠ 32) : isWord ⟨l.toArray⟩ := by
  refine ⟨by rw [ba_size]; exact List.length_pos_iff.2 h0, fun j hj => ?_⟩
  rw [ba_size] at hj
  rw [gd_list, List.getD_eq_getElem?_getD, List.getElem?_eq_getElem hj]
  exact h _ (List.getElem_mem hj)
theorem la (l : List UInt8) : (⟨l.toArray⟩ : ByteArray).data.toList = l := by simp
def cutsL (s : List UInt8) : List (List UInt8) := Lib.splitK [32] 0 (s.count 32) s
theorem cutsL_no {s : List UInt8} (h : (32 : UInt8) ∉ s) : cutsL s = [s] := splitK_no _ h
theorem cutsL_yes {x : List UInt8} (t : List UInt8) (h : (32 : UInt8) ∉ x) : cutsL (x ++ 32 :: t) = x :: cutsL t := by
  unfold cutsL
  rw [List.count_append, List.count_eq_zero.2 h, Nat.zero_add, List.count_cons_self]
  exact splitK_yes _ t h
theorem cuts_ind {P : List UInt8 → Prop} (h0 : ∀ x, (32 : UInt8) ∉ x → P x) (h1 : ∀ x t, (32 : UInt8) ∉ x → P t → P (x ++ 32 :: t)) : ∀ s, P s := by
  intro s
  obtain ⟨n, hn⟩ : ∃ n, s.count 32 = n := ⟨_, rfl⟩
  induction n generalizing s with
  | zero => exact h0 s (List.count_eq_zero.1 hn)
  | succ n ih =>
    obtain ⟨x, t, rfl, hx, ht⟩ := cut_at hn
    exact h1 x t hx (ih t ht)
theorem cuts_free : ∀ s, ∀ x ∈ cutsL s, (32 : UInt8) ∉ x := by
  refine cuts_ind ?_ ?_
  · intro x hx y hy
    rw [cutsL_no hx] at hy
    simp at hy
    subst hy; exact hx
  · intro x t hx ih y hy
    rw [cutsL_yes t hx] at hy
    rcases List.mem_cons.1 hy with rfl | hy
    · exact hx
    · exact ih y hy
theorem cuts_ne : ∀ s, cutsL s ≠ [] := by
  refine cuts_ind ?_ ?_
  · intro x hx; rw [cutsL_no hx]; simp
  · intro x t hx _; rw [cutsL_yes t hx]; simp
theorem join_tail (x : List UInt8) {l : List (List UInt8)} (h : l ≠ []) : Lib.join (x :: l) [32] = x ++ 32 :: Lib.join l [32] := by
  cases l with
  | nil => exact absurd rfl h
  | cons y r => rw [Lib.join_cons, Lib.join_cons]; simp [Lib.joinTail]
theorem join_cuts : ∀ s, Lib.join (cutsL s) [32] = s := by
  refine cuts_ind ?_ ?_
  · intro x hx; rw [cutsL_no hx, Lib.join_one]
  · intro x t hx ih; rw [cutsL_yes t hx, join_tail x (cuts_ne t), ih]
theorem cuts_join : ∀ l : List (List UInt8), l ≠ [] → (∀ x ∈ l, (32 : UInt8) ∉ x) → cutsL (Lib.join l [32]) = l
  | [], h, _ => absurd rfl h
  | [x], _, hf => by rw [Lib.join_one, cutsL_no (hf x (by simp))]
  | x :: y :: r, _, hf => by
    rw [join_tail x (by simp), cutsL_yes _ (hf x (by simp)), cuts_join (y :: r) (by simp) fun z hz => hf z (List.mem_cons_of_mem _ hz)]
/-- texts, with blanks between -/
def jn (l : List ByteArray) : ByteArray := ⟨(Lib.join (l.map (·.data.toList)) [32]).toArray⟩
theorem jn_nil : jn [] = ⟨#[]⟩ := rfl
theorem jn_one (x : ByteArray) : jn [x] = x := by
  unfold jn
  rw [List.map_cons, List.map_nil, Lib.join_one]
theorem join_snoc (x : List UInt8) : ∀ l : List (List UInt8), l ≠ [] → Lib.join (l ++ [x]) [32] = Lib.join l [32] ++ 32 :: x
  | [], h => absurd rfl h
  | [y], _ => by rw [List.singleton_append, join_tail y (by simp), Lib.join_one, Lib.join_one]
  | y :: z :: r, _ => by
    rw [List.cons_append, join_tail y (by simp), join_snoc x (z :: r) (by simp), join_tail y (by simp)]
    simp
theorem jn_snoc (x : ByteArray) {l : List ByteArray} (h : l ≠ []) : jn (l ++ [x]) = (jn l ++ spB) ++ x := by
  apply dl_eq
  unfold jn
  rw [la, List.map_append, List.map_cons, List.map_nil, join_snoc _ _ (by simpa using h)]
  rw [ByteArray.data_append, ByteArray.data_append]
  simp [spB]
def cuts (s : ByteArray) : List ByteArray := (cutsL s.data.toList).map fun x => ⟨x.toArray⟩
theorem cuts_data (s : ByteArray) : (cuts s).map (·.data.toList) = cutsL s.data.toList := by
  unfold cuts
  rw [List.map_map]
  exact (List.map_congr_left fun x _ => la x).trans (List.map_id _)
theorem jn_cuts (s : ByteArray) : jn (cuts s) = s := by
  apply dl_eq
  unfold jn
  rw [la, cuts_data, join_cuts]
theorem cuts_jn {l : List ByteArray} (h : l ≠ []) (hf : ∀ x ∈ l, (32 : UInt8) ∉ x.data.toList) : cuts (jn l) = l := by
  unfold cuts jn
  rw [la, cuts_join _ (by simpa using h) (by
    intro x hx
    obtain ⟨y, hy, rfl⟩ := List.mem_map.1 hx
    exact hf y hy), List.map_map]
  exact (List.map_congr_left fun x _ => rfl).trans (List.map_id _)
theorem cuts_no (s : ByteArray) : ∀ x ∈ cuts s, (32 : UInt8) ∉ x.data.toList := by
  intro x hx
  obtain ⟨y, hy, rfl⟩ := List.mem_map.1 hx
  rw [la]; exact cuts_free _ y hy
theorem cuts_nil (s : ByteArray) : cuts s ≠ [] := by
  unfold cuts
  simpa using cuts_ne s.data.toList
theorem word_iff (t : ByteArray) : isWord t ↔ t.data.toList ≠ [] ∧ (32 : UInt8) ∉ t.data.toList := by
  constructor
  · rintro ⟨h1, h2⟩
    refine ⟨fun h => ?_, fun h => ?_⟩
    · have : t.data.toList.length = t.size := data_len t
      rw [h] at this; simp at this; omega
    · obtain ⟨j, hj, e⟩ := List.getElem_of_mem h
      have hj2 : j < t.size := by have : t.data.toList.length = t.size := data_len t; omega
      refine h2 j hj2 ?_
      unfold gd
      have hj3 : j < t.data.size := hj2
      rw [Array.getD_eq_getD_getElem?, Array.getElem?_eq_getElem hj3]
      simp at e
      simp [e]
  · rintro ⟨h1, h2⟩
    have := word_of_list t.data.toList h1 fun c hc e => h2 (by
      have : c = 32 := UInt8.toNat_inj.1 e
      rwa [this] at hc)
    rwa [show (⟨t.data.toList.toArray⟩ : ByteArray) = t from dl_eq (la _)] at this
theorem words_jn : ∀ l : List ByteArray, (∀ x ∈ l, isWord x) → wordsL (jn l) = l := by
  have key : ∀ (n : Nat) (l : List ByteArray), l.length = n → (∀ x ∈ l, isWord x) → wordsL (jn l) = l := by
    intro n
    induction n with
    | zero =>
      intro l hl _
      obtain rfl := List.length_eq_zero_iff.1 hl
      rfl
    | succ n ih =>
      intro l hl hw
      have hne : l ≠ [] := by rintro rfl; simp at hl
      obtain ⟨m, x, rfl⟩ : ∃ m x, l = m ++ [x] := ⟨l.dropLast, l.getLast hne, (List.dropLast_concat_getLast hne).symm⟩
      by_cases hm : m = []
      · subst hm
        rw [List.nil_append, jn_one]
        exact words_self x (hw x (by simp))
      · rw [jn_snoc x hm, words_snoc _ _ (hw x (by simp)), ih m (by simpa using hl) fun y hy => hw y (by simp [hy])]
  exact fun l => key l.length l rfl
theorem words_cuts {s : ByteArray} (h : ∀ x ∈ cuts s, isWord x) : wordsL s = cuts s := by
  have := words_jn (cuts s) h
  rwa [jn_cuts] at this
theorem cuts_words {s : ByteArray} (h0 : wordsL s ≠ []) (h : jn (wordsL s) = s) : cuts s = wordsL s := by
  have := cuts_jn h0 fun x hx => ((word_iff x).1 (words_are s x hx).1).2
  rwa [h] at this
theorem map_data : ∀ {l m : List ByteArray}, l.map (·.data.toList) = m.map (·.data.toList) → l = m
  | [], [], _ => rfl
  | [], _ :: _, h => by simp at h
  | _ :: _, [], h => by simp at h
  | a :: l, b :: m, h => by
    simp only [List.map_cons, List.cons.injEq] at h
    rw [dl_eq h.1, map_data h.2]
theorem split_eq (s : ByteArray) : Lib.splitB spB 0 (Lib.countB s spB) s = cuts s := by
  have h := Lib.splitB_data spB 0 (Lib.countB s spB) s
  rw [countB_eq] at h ⊢
  have h2 : (Lib.splitB spB 0 (s.data.toList.count 32) s).map (·.data.toList) = (cuts s).map (·.data.toList) := h.trans (cuts_data s).symm
  exact map_data h2
theorem countB_len (s : ByteArray) : Lib.countB s spB + 1 = (cuts s).length := by
  rw [countB_eq]
  unfold cuts
  rw [List.length_map]
  generalize s.data.toList = l
  revert l
  refine cuts_ind ?_ ?_
  · intro x hx; rw [cutsL_no hx, List.count_eq_zero.2 hx]; rfl
  · intro x t hx ih
    rw [cutsL_yes t hx, List.count_append, List.count_eq_zero.2 hx, List.count_cons_self, List.length_cons, ← ih]; omega
end Go.Proofs.YtlmmmibnnbceeaaDoor
