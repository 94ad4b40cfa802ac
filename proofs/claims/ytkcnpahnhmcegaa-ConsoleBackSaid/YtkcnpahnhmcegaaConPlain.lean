/-
  Commands and their lines (chapter 33): plain laws.
-/
import Derived.Test.YtkcnpahnhmcegaaWordsBack
namespace Go.Proofs.Ytkcnpahnhmcegaa
open Go.RowKit
set_option linter.unusedVariables false
set_option linter.unusedSimpArgs false

structure Cmd where
  k : Int
  e : Int
  sd : Int
  d : ByteArray
deriving DecidableEq
def spS : ByteArray := ⟨#[32]⟩
def emS : ByteArray := ⟨#[]⟩
def nameK (k : Int) : ByteArray :=
  if k = 1 then ⟨#[108, 105, 115, 116]⟩ else if k = 2 then ⟨#[115, 104, 111, 119]⟩ else if k = 3 then ⟨#[107, 101, 101, 112]⟩ else if k = 4 then ⟨#[115, 117, 112, 112, 108, 121]⟩
  else if k = 5 then ⟨#[112, 114, 111, 109, 111, 116, 101]⟩ else if k = 6 then ⟨#[100, 101, 109, 111, 116, 101]⟩ else if k = 7 then ⟨#[114, 101, 97, 100]⟩ else if k = 8 then ⟨#[119, 114, 105, 116, 101]⟩
  else if k = 9 then ⟨#[102, 108, 117, 115, 104]⟩ else if k = 10 then ⟨#[115, 116, 97, 116, 117, 115]⟩ else ⟨#[]⟩
def hE (k : Int) : Bool := decide (k = 2 ∨ k = 3 ∨ k = 4 ∨ k = 7 ∨ k = 8)
def hS (k : Int) : Bool := decide (k = 3)
def hB (k : Int) : Bool := decide (k = 4 ∨ k = 8)
def inK (k : Int) : Bool := decide (1 ≤ k ∧ k ≤ 10)
def chkC (c : Cmd) : Int :=
  if inK c.k = false then 70 else
  if (hE c.k = true ∧ ¬ (0 ≤ c.e ∧ c.e ≤ 23)) ∨ (hS c.k = true ∧ ¬ (0 ≤ c.sd ∧ c.sd ≤ 1)) then 3 else
  if 200 < c.d.size then 11 else
  if (hE c.k = false ∧ c.e ≠ 0) ∨ (hS c.k = false ∧ c.sd ≠ 0) ∨ (hB c.k = false ∧ c.d.size ≠ 0) then 4 else 0
def bytS (s : ByteArray) : ByteArray := if s.size = 0 then ⟨#[45]⟩ else hexS s
def ubS (s : ByteArray) : ByteArray := if s.toList = [45] then ⟨#[]⟩ else if s.size = 0 then ⟨#[]⟩ else unS s
def ubE (s : ByteArray) : Int := if s.toList = [45] then 0 else if s.size = 0 then 4 else unE s
def sideS (d : Int) : ByteArray := if d = 1 then ⟨#[98]⟩ else ⟨#[97]⟩
def linA (c : Cmd) : ByteArray := if hE c.k then (nameK c.k ++ spS) ++ textS c.e else nameK c.k
def linB (c : Cmd) : ByteArray := if hS c.k then (linA c ++ spS) ++ sideS c.sd else linA c
def linS (c : Cmd) : ByteArray := if hB c.k then (linB c ++ spS) ++ bytS c.d else linB c
def prnS (c : Cmd) : ByteArray := if chkC c = 0 then linS c else emS
def fieldsC (k : Int) (w : List ByteArray) : Cmd :=
  ⟨k, if hE k = true ∧ 1 < w.length then readV (w.getD 1 emS) else 0, if hS k = true ∧ 2 < w.length ∧ (w.getD 2 emS).toList = [98] then 1 else 0, if hB k = true ∧ 2 < w.length then ubS (w.getD 2 emS) else emS⟩
def goodK (s : ByteArray) (w : List ByteArray) (k : Int) : Bool := decide (nameK k = w.getD 0 emS ∧ chkC (fieldsC k w) = 0 ∧ linS (fieldsC k w) = s)
def noC : Cmd := ⟨0, 0, 0, emS⟩
def prsF (s : ByteArray) (w : List ByteArray) : Nat → Nat → Cmd × Int
  | _, 0 => (noC, 70)
  | k, n + 1 => if goodK s w (k : Int) then (fieldsC (k : Int) w, 0) else prsF s w (k + 1) n
def prs (s : ByteArray) : Cmd × Int := if 600 < s.size then (noC, 11) else if (wordsL s).length = 0 then (noC, 70) else prsF s (wordsL s) 1 10

theorem gd_app1 (a b : ByteArray) (i : Nat) (h : i < a.size) : gd (a ++ b) i = gd a i := by
  have h' : i < a.data.size := h
  unfold gd
  rw [ByteArray.data_append, Array.getD_eq_getD_getElem?, Array.getD_eq_getD_getElem?, Array.getElem?_append_left h']
theorem gd_app2 (a b : ByteArray) (i : Nat) : gd (a ++ b) (a.size + i) = gd b i := by
  unfold gd
  rw [ByteArray.data_append, Array.getD_eq_getD_getElem?, Array.getD_eq_getD_getElem?, Array.getElem?_append_right (by show a.data.size ≤ a.data.size + i; omega)]
  show (b.data[a.data.size + i - a.data.size]?.getD 0).toNat = _
  rw [Nat.add_sub_cancel_left]
theorem ext_app1 (a b : ByteArray) (x i : Nat) (h : i ≤ a.size) : (a ++ b).extract x i = a.extract x i := by
  apply ba_data
  rw [ext_list, ext_list, app_list]
  have hl : a.data.toList.length = a.size := data_len a
  by_cases hx : x ≤ a.size
  · rw [List.drop_append_of_le_length (by omega), List.take_append_of_le_length (by rw [List.length_drop]; omega)]
  · rw [show i - x = 0 by omega, List.take_zero, List.take_zero]
theorem ext_app2 (a b : ByteArray) : (a ++ b).extract a.size (a ++ b).size = b := by
  apply ba_data
  have hl : a.data.toList.length = a.size := data_len a
  have h2 : (a ++ b).size = a.size + b.size := ByteArray.size_append
  rw [ext_list, app_list, ← hl, List.drop_left, List.take_of_length_le (by rw [hl, h2, data_len]; omega)]
theorem wst_pre (a b : ByteArray) : ∀ i, i ≤ a.size → wst (a ++ b) i = wst a i
  | 0, _ => rfl
  | i + 1, h => by
    have ih := wst_pre a b i (by omega)
    unfold wst
    rw [gd_app1 a b i (by omega), ih, ext_app1 a b _ i (by omega)]
theorem words_snoc (s t : ByteArray) (ht : isWord t) : wordsL ((s ++ spS) ++ t) = wordsL s ++ [t] := by
  have hz : (s ++ spS).size = s.size + 1 := ByteArray.size_append
  have hz2 : ((s ++ spS) ++ t).size = s.size + 1 + t.size := by rw [ByteArray.size_append, hz]
  have h1 : wst ((s ++ spS) ++ t) (s.size + 1) = (s.size + 1, wordsL s) := by
    rw [wst_pre (s ++ spS) t _ (by omega)]
    unfold wst
    have hg : gd (s ++ spS) s.size = 32 := (gd_app2 s spS 0).trans (by decide)
    rw [if_pos hg, wst_pre s spS _ (Nat.le_refl _), ext_app1 s spS _ _ (Nat.le_refl _)]
    rfl
  have h2 : ∀ i, i ≤ t.size → wst ((s ++ spS) ++ t) (s.size + 1 + i) = (s.size + 1, wordsL s) := by
    intro i
    induction i with
    | zero => intro _; exact h1
    | succ i ih =>
      intro hi
      rw [show s.size + 1 + (i + 1) = (s.size + 1 + i) + 1 by omega]
      unfold wst
      have hg : gd ((s ++ spS) ++ t) (s.size + 1 + i) ≠ 32 := by
        rw [← hz, gd_app2]
        exact ht.2 i (by omega)
      rw [if_neg hg]
      exact ih (by omega)
  unfold wordsL
  rw [hz2, h2 t.size (Nat.le_refl _)]
  have := ht.1
  rw [if_pos (by show s.size + 1 < _; omega)]
  show _ ++ [((s ++ spS) ++ t).extract (s.size + 1) (s.size + 1 + t.size)] = _
  rw [← hz2, ← hz, ext_app2]
  rfl
theorem words_self (t : ByteArray) (ht : isWord t) : wordsL t = [t] := by
  unfold wordsL
  rw [wst_word ht t.size (Nat.le_refl _), if_pos ht.1]
  show [] ++ [t.extract 0 t.size] = _
  rw [ext_all]; rfl
theorem word_of_list (l : List UInt8) (h0 : l ≠ []) (h : ∀ c ∈ l, c.toNat ≠ 32) : isWord ⟨l.toArray⟩ := by
  refine ⟨by rw [ba_size]; exact List.length_pos_iff.2 h0, fun j hj => ?_⟩
  rw [ba_size] at hj
  rw [gd_list, List.getD_eq_getElem?_getD, List.getElem?_eq_getElem hj]
  exact h _ (List.getElem_mem hj)
theorem text_word (n : Int) (h0 : -9223372036854775808 ≤ n) (h1 : n ≤ 9223372036854775807) : isWord (textS n) := by
  unfold textS textZ
  have hd : ∀ m, m < 10 ^ 20 → digs m ≠ [] ∧ ∀ c ∈ digs m, c.toNat ≠ 32 := fun m hm => by
    obtain ⟨⟨h1, h2, _⟩, _⟩ := digs_can m hm
    exact ⟨h2, fun c hc => by have := h1 c hc; omega⟩
  split
  · obtain ⟨h2, h3⟩ := hd (-n).toNat (by omega)
    refine word_of_list _ (by simp) fun c hc => ?_
    rcases List.mem_cons.1 hc with rfl | hc
    · decide
    · exact h3 c hc
  · obtain ⟨h2, h3⟩ := hd n.toNat (by omega)
    exact word_of_list _ h2 h3
theorem dgU_word (n : Nat) (h : n < 16) : (dgU n).toNat ≠ 32 := by
  have h2 : ∀ n : Fin 16, (dgU n.val).toNat ≠ 32 := by decide
  exact h2 ⟨n, h⟩
theorem hex_word (s : ByteArray) (h : 0 < s.size) : isWord (hexS s) := by
  refine ⟨by rw [hexS_size]; omega, fun j hj => ?_⟩
  rw [hexS_size] at hj
  unfold hexS
  rw [gd_list]
  obtain ⟨e1, e2⟩ := hexL_get s s.size (j / 2) (by omega)
  have hg := gd_lt s (j / 2)
  by_cases hm : j % 2 = 0
  · rw [show j = 2 * (j / 2) by omega, e1]
    exact dgU_word _ (by omega)
  · rw [show j = 2 * (j / 2) + 1 by omega, e2]
    exact dgU_word _ (by omega)
theorem byt_word (s : ByteArray) : isWord (bytS s) := by
  unfold bytS
  split
  · exact word_of_list [45] (by simp) (by simp)
  · exact hex_word s (by omega)
theorem side_word (d : Int) : isWord (sideS d) := by
  unfold sideS
  split
  · exact word_of_list [98] (by simp) (by simp)
  · exact word_of_list [97] (by simp) (by simp)
theorem inK_cases {k : Int} (h : inK k = true) : k = 1 ∨ k = 2 ∨ k = 3 ∨ k = 4 ∨ k = 5 ∨ k = 6 ∨ k = 7 ∨ k = 8 ∨ k = 9 ∨ k = 10 := by
  have := of_decide_eq_true h
  omega
theorem name_word {k : Int} (h : inK k = true) : isWord (nameK k) := by
  rcases inK_cases h with rfl | rfl | rfl | rfl | rfl | rfl | rfl | rfl | rfl | rfl <;> exact word_of_list _ (by decide) (by decide)
theorem name_inj {j k : Int} (hj : inK j = true) (hk : inK k = true) (h : nameK j = nameK k) : j = k := by
  have h2 : ∀ a b : Fin 11, 1 ≤ a.val → 1 ≤ b.val → nameK (a.val : Int) = nameK (b.val : Int) → a = b := by decide +kernel
  have a1 := of_decide_eq_true hj
  have a2 := of_decide_eq_true hk
  have := h2 ⟨j.toNat, by omega⟩ ⟨k.toNat, by omega⟩ (by show 1 ≤ j.toNat; omega) (by show 1 ≤ k.toNat; omega) (by show nameK (j.toNat : Int) = nameK (k.toNat : Int); rw [show ((j.toNat : Nat) : Int) = j by omega, show ((k.toNat : Nat) : Int) = k by omega]; exact h)
  have := congrArg Fin.val this
  simp only at this
  omega
/-- the words of a command's line -/
def wrdC (c : Cmd) : List ByteArray := [nameK c.k] ++ (if hE c.k then [textS c.e] else []) ++ (if hS c.k then [sideS c.sd] else []) ++ (if hB c.k then [bytS c.d] else [])
theorem chk_ok {c : Cmd} (h : chkC c = 0) : inK c.k = true ∧ (hE c.k = true → 0 ≤ c.e ∧ c.e ≤ 23) ∧ (hS c.k = true → 0 ≤ c.sd ∧ c.sd ≤ 1) ∧ c.d.size ≤ 200 ∧ (hE c.k = false → c.e = 0) ∧ (hS c.k = false → c.sd = 0) ∧ (hB c.k = false → c.d.size = 0) := by
  unfold chkC at h
  by_cases h1 : inK c.k = false
  · rw [if_pos h1] at h; omega
  · rw [if_neg h1] at h
    by_cases h2 : (hE c.k = true ∧ ¬ (0 ≤ c.e ∧ c.e ≤ 23)) ∨ (hS c.k = true ∧ ¬ (0 ≤ c.sd ∧ c.sd ≤ 1))
    · rw [if_pos h2] at h; omega
    · rw [if_neg h2] at h
      by_cases h3 : 200 < c.d.size
      · rw [if_pos h3] at h; omega
      · rw [if_neg h3] at h
        by_cases h4 : (hE c.k = false ∧ c.e ≠ 0) ∨ (hS c.k = false ∧ c.sd ≠ 0) ∨ (hB c.k = false ∧ c.d.size ≠ 0)
        · rw [if_pos h4] at h; omega
        · refine ⟨by simpa using h1, fun e => ?_, fun e => ?_, by omega, fun e => ?_, fun e => ?_, fun e => ?_⟩
          · by_cases x : 0 ≤ c.e ∧ c.e ≤ 23
            · exact x
            · exact absurd (.inl ⟨e, x⟩) h2
          · by_cases x : 0 ≤ c.sd ∧ c.sd ≤ 1
            · exact x
            · exact absurd (.inr ⟨e, x⟩) h2
          · by_cases x : c.e = 0
            · exact x
            · exact absurd (.inl ⟨e, x⟩) h4
          · by_cases x : c.sd = 0
            · exact x
            · exact absurd (.inr (.inl ⟨e, x⟩)) h4
          · by_cases x : c.d.size = 0
            · exact x
            · exact absurd (.inr (.inr ⟨e, x⟩)) h4
theorem words_lin {c : Cmd} (h : chkC c = 0) : wordsL (linS c) = wrdC c := by
  obtain ⟨h1, h2, _⟩ := chk_ok h
  have ha : wordsL (linA c) = [nameK c.k] ++ (if hE c.k then [textS c.e] else []) := by
    unfold linA
    cases he : hE c.k with
    | true =>
      have := h2 he
      rw [if_pos rfl, if_pos rfl, words_snoc _ _ (text_word _ (by omega) (by omega)), words_self _ (name_word h1)]
    | false => rw [if_neg (by simp), if_neg (by simp), words_self _ (name_word h1)]; rfl
  have hb : wordsL (linB c) = [nameK c.k] ++ (if hE c.k then [textS c.e] else []) ++ (if hS c.k then [sideS c.sd] else []) := by
    unfold linB
    cases he : hS c.k with
    | true => rw [if_pos rfl, if_pos rfl, words_snoc _ _ (side_word _), ha]
    | false => rw [if_neg Bool.false_ne_true, if_neg Bool.false_ne_true, ha, List.append_nil]
  unfold linS wrdC
  cases he : hB c.k with
  | true => rw [if_pos rfl, if_pos rfl, words_snoc _ _ (byt_word _), hb]
  | false => rw [if_neg Bool.false_ne_true, if_neg Bool.false_ne_true, hb, List.append_nil]
theorem ub_byt (s : ByteArray) : ubS (bytS s) = s ∧ ubE (bytS s) = 0 := by
  unfold bytS
  by_cases h : s.size = 0
  · rw [if_pos h]
    have e : (⟨#[45]⟩ : ByteArray).toList = [45] := ba_list [45]
    unfold ubS ubE
    rw [if_pos e, if_pos e]
    exact ⟨(emp_eq h).symm, rfl⟩
  · rw [if_neg h]
    have hz := hexS_size s
    have e : ¬ (hexS s).toList = [45] := fun e => by
      have := congrArg List.length e
      rw [ByteArray.toList_eq, data_len, hz] at this
      simp at this
      omega
    unfold ubS ubE
    rw [if_neg e, if_neg e, if_neg (by omega), if_neg (by omega)]
    exact unhex_hex s
theorem side_b (d : Int) (h : 0 ≤ d ∧ d ≤ 1) : (if (sideS d).toList = [98] then (1 : Int) else 0) = d := by
  have : d = 0 ∨ d = 1 := by omega
  rcases this with rfl | rfl
  · rw [if_neg]
    show ¬ (⟨[97].toArray⟩ : ByteArray).toList = [98]
    rw [ba_list]; decide
  · rw [if_pos]
    show (⟨[98].toArray⟩ : ByteArray).toList = [98]
    rw [ba_list]
theorem fields_wrd {c : Cmd} (h : chkC c = 0) : fieldsC c.k (wrdC c) = c := by
  obtain ⟨h1, h2, h3, h4, h5, h6, h7⟩ := chk_ok h
  obtain ⟨k, e, sd, d⟩ := c
  simp only at h1 h2 h3 h4 h5 h6 h7
  have hr : 0 ≤ e → e ≤ 23 → readV (textS e) = e := fun a b => (read_text e (by omega) (by omega)).2
  have hu := (ub_byt d).1
  have hs := fun x => side_b sd x
  have hd : d.size = 0 → d = emS := fun x => emp_eq x
  unfold fieldsC wrdC
  rcases inK_cases h1 with rfl | rfl | rfl | rfl | rfl | rfl | rfl | rfl | rfl | rfl
  all_goals
    simp only [hE, hS, hB] at *
    simp at *
  all_goals simp_all
theorem prsF_find (s : ByteArray) (w : List ByteArray) (k : Nat) (hg : goodK s w (k : Int) = true) : ∀ (n k0 : Nat), k0 ≤ k → k < k0 + n → (∀ j, k0 ≤ j → j < k → goodK s w (j : Int) = false) → prsF s w k0 n = (fieldsC (k : Int) w, 0)
  | 0, k0, h1, h2, _ => by omega
  | n + 1, k0, h1, h2, h3 => by
    unfold prsF
    by_cases e : k0 = k
    · subst e; rw [if_pos hg]
    · rw [h3 k0 (Nat.le_refl _) (by omega), if_neg (by simp)]
      exact prsF_find s w k hg n (k0 + 1) (by omega) (by omega) (fun j a b => h3 j (by omega) b)
theorem prsF_ok (s : ByteArray) (w : List ByteArray) : ∀ (n k0 : Nat), (prsF s w k0 n).2 = 0 → ∃ k : Nat, k0 ≤ k ∧ k < k0 + n ∧ goodK s w (k : Int) = true ∧ prsF s w k0 n = (fieldsC (k : Int) w, 0)
  | 0, k0, h => by unfold prsF at h; simp at h
  | n + 1, k0, h => by
    unfold prsF at h ⊢
    by_cases e : goodK s w (k0 : Int) = true
    · rw [if_pos e]; exact ⟨k0, Nat.le_refl _, by omega, e, rfl⟩
    · rw [if_neg e] at h ⊢
      obtain ⟨k, a, b, g, f⟩ := prsF_ok s w n (k0 + 1) h
      exact ⟨k, by omega, by omega, g, f⟩
theorem lin_size {c : Cmd} (h : chkC c = 0) : (linS c).size ≤ 600 := by
  obtain ⟨h1, h2, h3, h4, h5, h6, h7⟩ := chk_ok h
  have n1 : (nameK c.k).size ≤ 7 := by
    rcases inK_cases h1 with h | h | h | h | h | h | h | h | h | h <;> rw [h] <;> decide
  have n2 := text_size c.e
  have n3 : (sideS c.sd).size = 1 := by unfold sideS; split <;> rfl
  have n4 : (bytS c.d).size ≤ 400 := by
    unfold bytS; split
    · show 1 ≤ 400; omega
    · rw [hexS_size]; omega
  have ns : spS.size = 1 := rfl
  have a : (linA c).size ≤ 29 := by unfold linA; split <;> first | (simp only [ByteArray.size_append]; omega) | omega
  have b : (linB c).size ≤ 31 := by unfold linB; split <;> first | (simp only [ByteArray.size_append]; omega) | omega
  unfold linS; split <;> first | (simp only [ByteArray.size_append]; omega) | omega
theorem prs_prn {c : Cmd} (h : chkC c = 0) : prs (linS c) = (c, 0) := by
  have hz := lin_size h
  have hw := words_lin h
  obtain ⟨h1, _⟩ := chk_ok h
  have hk := inK_cases h1
  unfold prs
  rw [if_neg (by omega), hw, if_neg (by unfold wrdC; simp)]
  have hf := fields_wrd h
  obtain ⟨k, hkk⟩ : ∃ k : Nat, c.k = k := ⟨c.k.toNat, by omega⟩
  have hg : goodK (linS c) (wrdC c) (k : Int) = true := by
    unfold goodK
    rw [← hkk, hf]
    exact decide_eq_true ⟨rfl, h, rfl⟩
  rw [prsF_find _ _ k hg 10 1 (by omega) (by omega) (fun j a b => by
    unfold goodK
    apply decide_eq_false
    rintro ⟨e, _⟩
    have e : nameK (j : Int) = nameK c.k := e
    have := name_inj (decide_eq_true (by omega)) h1 e
    omega)]
  rw [← hkk, hf]
theorem prn_prs {s : ByteArray} (h : (prs s).2 = 0) : chkC (prs s).1 = 0 ∧ linS (prs s).1 = s := by
  unfold prs at h ⊢
  by_cases h1 : 600 < s.size
  · rw [if_pos h1] at h; exact absurd h (by simp)
  · rw [if_neg h1] at h ⊢
    by_cases h2 : (wordsL s).length = 0
    · rw [if_pos h2] at h; exact absurd h (by simp)
    · rw [if_neg h2] at h ⊢
      obtain ⟨k, _, _, hg, hf⟩ := prsF_ok s _ 10 1 h
      rw [hf]
      exact (of_decide_eq_true hg).2
end Go.Proofs.Ytkcnpahnhmcegaa
