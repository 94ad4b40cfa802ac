/-
  Chapter 42 in plain words: rules, what they say of conflicts, plans, what is shadowed.
-/
import Derived.Test.YtnflnaalpeeciaaDoorCountPlain
namespace Go.Proofs.YtnflnaalpeeciaaDoor
open Go.RowKit
set_option linter.unusedVariables false

structure Rl where
  k : Int
  a : Int
  b : Int
deriving DecidableEq
structure Pr where
  x : Int
  a1 : Int
  a2 : Int
  ad : ByteArray
  b1 : Int
  b2 : Int
  bd : ByteArray
instance : Inhabited Rl := ⟨⟨0, 0, 0⟩⟩
instance : Inhabited Pr := ⟨⟨0, 0, 0, ByteArray.empty, 0, 0, ByteArray.empty⟩⟩
def inR (k : Int) : Bool := decide (1 ≤ k ∧ k ≤ 5)
def nameR (k : Int) : ByteArray := if k = 1 then ⟨#[97]⟩ else if k = 2 then ⟨#[98]⟩ else if k = 3 then ⟨#[102, 117, 114, 116, 104, 101, 114]⟩ else if k = 4 then ⟨#[101, 113, 117, 97, 108]⟩ else if k = 5 then ⟨#[104, 111, 108, 100]⟩ else ⟨#[]⟩
def chkR (r : Rl) : Int := if inR r.k then if r.a < 0 ∨ r.b < r.a ∨ 24 ≤ r.b then 3 else 0 else 7
theorem chkR_ok {r : Rl} : chkR r = 0 ↔ (1 ≤ r.k ∧ r.k ≤ 5) ∧ 0 ≤ r.a ∧ r.a ≤ r.b ∧ r.b ≤ 23 := by
  unfold chkR inR
  constructor
  · intro h
    split at h
    · rename_i h1
      simp at h1
      split at h
      · cases h
      · omega
    · cases h
  · rintro ⟨h1, h2⟩
    rw [if_pos (by simp; omega), if_neg (by omega)]
/-- what a rule says: 0 nothing, 1 a, 2 b, 3 it holds -/
def saysR (k : Int) (p : Pr) : Int :=
  if k = 1 then 1 else if k = 2 then 2 else if k = 3 then (if p.b2 < p.a1 then 1 else if p.a1 < p.b2 then 2 else 0)
  else if k = 4 then (if p.ad = p.bd then 1 else 0) else if k = 5 then 3 else 0
def covR (r : Rl) (x : Int) : Bool := decide (chkR r = 0 ∧ r.a ≤ x ∧ x ≤ r.b)
def finK (k : Int) : Bool := decide (k = 1 ∨ k = 2 ∨ k = 5)
def choose : List Rl → Pr → Int × Bool
  | [], _ => (0, false)
  | r :: l, p => if covR r p.x ∧ saysR r.k p ≠ 0 then (if saysR r.k p = 3 then (0, false) else (saysR r.k p - 1, true)) else choose l p
def planS (l : List Rl) (out : List (Int × Int)) (p : Pr) : List (Int × Int) :=
  if (choose l p).2 ∧ (out.all fun c => decide (c.1 ≠ p.x)) then out ++ [(p.x, (choose l p).1)] else out
def plan (l : List Rl) (m : List Pr) : List (Int × Int) := m.foldl (planS l) []
def doneB (l : List Rl) (x : Int) : Bool := l.any fun q => covR q x && finK q.k
def shd (l : List Rl) (i : Nat) : Bool := (List.range 24).all fun x => !covR (l.getD i default) x || doneB (l.take i) x
def shadL (l : List Rl) (n : Nat) : List Nat := (List.range n).filter (shd l)
def restL (l : List Rl) (n : Nat) : List Rl := ((List.range n).filter fun i => !shd l i).map fun i => l.getD i default

theorem shadL_succ (l : List Rl) (n : Nat) : shadL l (n + 1) = if shd l n then shadL l n ++ [n] else shadL l n := by
  unfold shadL
  rw [List.range_succ, List.filter_append]
  by_cases h : shd l n = true
  · rw [if_pos h]; simp [h]
  · rw [if_neg h]; simp [h]
theorem restL_succ (l : List Rl) (n : Nat) : restL l (n + 1) = if shd l n then restL l n else restL l n ++ [l.getD n default] := by
  unfold restL
  rw [List.range_succ, List.filter_append]
  by_cases h : shd l n = true
  · rw [if_pos h]; simp [h]
  · rw [if_neg h]
    simp only [Bool.not_eq_true] at h
    simp [h]
theorem shadL_len (l : List Rl) (n : Nat) : (shadL l n).length ≤ n := by
  unfold shadL
  exact Nat.le_trans (List.length_filter_le _ _) (by simp)
theorem restL_len (l : List Rl) (n : Nat) : (restL l n).length ≤ n := by
  unfold restL
  rw [List.length_map]
  exact Nat.le_trans (List.length_filter_le _ _) (by simp)
theorem shadL_lt (l : List Rl) (n i : Nat) (h : i ∈ shadL l n) : i < n := by
  unfold shadL at h
  simpa using (List.mem_filter.1 h).1
/-- the list of the shadowed, cut at n -/
theorem shadL_cut (l : List Rl) (n m : Nat) (h : n ≤ m) : ∃ r, shadL l m = shadL l n ++ r ∧ ∀ i ∈ r, n ≤ i := by
  obtain ⟨d, rfl⟩ : ∃ d, m = n + d := ⟨m - n, by omega⟩
  clear h
  induction d with
  | zero => exact ⟨[], by simp, by simp⟩
  | succ d ih =>
    obtain ⟨r, e, hr⟩ := ih
    rw [← Nat.add_assoc, shadL_succ, e]
    split
    · refine ⟨r ++ [n + d], by rw [List.append_assoc], fun i hi => ?_⟩
      rcases List.mem_append.1 hi with hi | hi
      · exact hr i hi
      · simp at hi; omega
    · exact ⟨r, rfl, hr⟩
/-- where the next of the list stands at n -/
theorem shadL_at (l : List Rl) (n m : Nat) (h : n < m) : (shadL l m)[(shadL l n).length]? = some n ↔ shd l n = true := by
  obtain ⟨r, e, hr⟩ := shadL_cut l (n + 1) m (by omega)
  rw [e, shadL_succ]
  split
  · rename_i h1
    rw [List.append_assoc, List.getElem?_append_right (Nat.le_refl _), Nat.sub_self]
    simp [h1]
  · rename_i h1
    rw [List.getElem?_append_right (Nat.le_refl _), Nat.sub_self]
    constructor
    · intro h2
      have := hr n (List.mem_of_getElem? h2)
      omega
    · exact fun h2 => absurd h2 h1

/-! ### what is shadowed changes nothing -/
theorem cov_in {r : Rl} {x : Int} (h : covR r x = true) : 0 ≤ x ∧ x ≤ 23 := by
  unfold covR at h
  simp at h
  have := chkR_ok.1 h.1
  omega
theorem says_fin {k : Int} (p : Pr) (h : finK k = true) : saysR k p ≠ 0 := by
  unfold finK at h
  simp at h
  unfold saysR
  rcases h with rfl | rfl | rfl <;> simp
theorem choose_skip (r : Rl) (p : Pr) (h : covR r p.x = false) : ∀ T X, choose (T ++ r :: X) p = choose (T ++ X) p
  | [], X => by simp [choose, h]
  | t :: T, X => by
    simp only [List.cons_append, choose]
    rw [choose_skip r p h T X]
theorem choose_done (p : Pr) : ∀ T X Y, doneB T p.x = true → choose (T ++ X) p = choose (T ++ Y) p
  | [], X, Y, h => by simp [doneB] at h
  | t :: T, X, Y, h => by
    simp only [List.cons_append, choose]
    by_cases hc : covR t p.x = true ∧ saysR t.k p ≠ 0
    · rw [if_pos hc, if_pos hc]
    · rw [if_neg hc, if_neg hc]
      refine choose_done p T X Y ?_
      unfold doneB at h ⊢
      rw [List.any_cons, Bool.or_eq_true] at h
      rcases h with h | h
      · rw [Bool.and_eq_true] at h
        exact absurd ⟨h.1, says_fin p h.2⟩ hc
      · exact h
theorem take_snoc (l : List Rl) (i : Nat) (h : i < l.length) : l.take (i + 1) = l.take i ++ [l.getD i default] := by
  rw [List.take_add_one, List.getElem?_eq_getElem h]
  simp [List.getD, List.getElem?_eq_getElem h]
theorem rest_choose (l : List Rl) (p : Pr) : ∀ i, i ≤ l.length → ∀ X, choose (restL l i ++ X) p = choose (l.take i ++ X) p
  | 0, _, X => by simp [restL]
  | i + 1, h, X => by
    have ih := rest_choose l p i (by omega)
    rw [restL_succ, take_snoc l i (by omega)]
    by_cases hs : shd l i = true
    · rw [if_pos hs, ih X, List.append_assoc, List.singleton_append]
      by_cases hc : covR (l.getD i default) p.x = true
      · have hx := cov_in hc
        refine choose_done p _ _ _ ?_
        unfold shd at hs
        rw [List.all_eq_true] at hs
        have h1 := hs p.x.toNat (by simp; omega)
        rw [show ((p.x.toNat : Nat) : Int) = p.x by omega] at h1
        rw [hc] at h1
        simpa using h1
      · rw [choose_skip _ p (by simpa using hc)]
    · rw [if_neg hs, List.append_assoc, ih, List.append_assoc]
theorem rest_all (l : List Rl) (p : Pr) : choose (restL l l.length) p = choose l p := by
  have := rest_choose l p l.length (Nat.le_refl _) []
  simpa using this
theorem plan_congr (l l' : List Rl) (m : List Pr) (h : ∀ p, choose l p = choose l' p) : plan l m = plan l' m := by
  have e : planS l = planS l' := by
    funext out p
    unfold planS
    rw [h p]
  unfold plan
  rw [e]
theorem plan_rest (l : List Rl) (m : List Pr) : plan (restL l l.length) m = plan l m := plan_congr _ _ m fun p => rest_all l p
theorem choose_none (p : Pr) (h : ¬ (0 ≤ p.x ∧ p.x ≤ 23)) : ∀ l, choose l p = (0, false)
  | [] => rfl
  | r :: l => by
    unfold choose
    rw [if_neg fun h2 => h (cov_in h2.1)]
    exact choose_none p h l
def allR : Rl := ⟨1, 0, 23⟩
theorem plan_all (l more : List Rl) (m : List Pr) : plan (l ++ [allR] ++ more) m = plan (l ++ [allR]) m := by
  refine plan_congr _ _ m fun p => ?_
  by_cases hx : 0 ≤ p.x ∧ p.x ≤ 23
  · have hd : doneB (l ++ [allR]) p.x = true := by
      unfold doneB
      rw [List.any_append]
      have : covR allR p.x = true := by
        unfold covR
        simp [allR, chkR, inR]; omega
      rw [Bool.or_eq_true]
      exact .inr (by simp [this]; simp [allR, finK])
    have := choose_done p (l ++ [allR]) more [] hd
    simpa using this
  · rw [choose_none p hx, choose_none p hx]

/-! ### plans -/
theorem planS_len (l : List Rl) (out : List (Int × Int)) (p : Pr) : (planS l out p).length ≤ out.length + 1 := by
  unfold planS
  split <;> simp
theorem plan_snoc (l : List Rl) (m : List Pr) (p : Pr) : plan l (m ++ [p]) = planS l (plan l m) p := by simp [plan]
theorem plan_len (l : List Rl) (m : List Pr) : (plan l m).length ≤ m.length := by
  have : ∀ (m : List Pr) out, (m.foldl (planS l) out).length ≤ out.length + m.length := by
    intro m
    induction m with
    | nil => intro out; simp
    | cons p m ih =>
      intro out
      have h1 := ih (planS l out p)
      have h2 := planS_len l out p
      simp only [List.foldl_cons, List.length_cons]; omega
  have h := this m []
  rw [List.length_nil, Nat.zero_add] at h
  exact h
theorem choose_side (l : List Rl) (p : Pr) : (choose l p).2 = true → ((choose l p).1 = 0 ∨ (choose l p).1 = 1) ∧ 0 ≤ p.x ∧ p.x ≤ 23 := by
  induction l with
  | nil => intro h; simp [choose] at h
  | cons r l ih =>
    unfold choose
    by_cases hc : covR r p.x = true ∧ saysR r.k p ≠ 0
    · rw [if_pos hc]
      by_cases h3 : saysR r.k p = 3
      · rw [if_pos h3]; intro h; cases h
      · rw [if_neg h3]
        intro _
        refine ⟨?_, cov_in hc.1⟩
        have : saysR r.k p = 0 ∨ saysR r.k p = 1 ∨ saysR r.k p = 2 ∨ saysR r.k p = 3 := by
          unfold saysR
          repeat' split
          all_goals simp
        have h0 := hc.2
        show saysR r.k p - 1 = 0 ∨ saysR r.k p - 1 = 1
        omega
    · rw [if_neg hc]; exact ih
theorem plan_ok (l : List Rl) (m : List Pr) : ∀ c ∈ plan l m, (0 ≤ c.1 ∧ c.1 ≤ 23) ∧ (c.2 = 0 ∨ c.2 = 1) := by
  have : ∀ (m : List Pr) out, (∀ c ∈ out, (0 ≤ c.1 ∧ c.1 ≤ 23) ∧ (c.2 = (0 : Int) ∨ c.2 = 1)) → ∀ c ∈ m.foldl (planS l) out, (0 ≤ c.1 ∧ c.1 ≤ 23) ∧ (c.2 = 0 ∨ c.2 = 1) := by
    intro m
    induction m with
    | nil => exact fun out h => h
    | cons p m ih =>
      intro out h
      refine ih _ ?_
      unfold planS
      split
      · rename_i hc
        intro c hm
        rcases List.mem_append.1 hm with hm | hm
        · exact h c hm
        · simp at hm; subst hm
          have := choose_side l p hc.1
          exact ⟨this.2, this.1⟩
      · exact h
  exact this m [] (by simp)
end Go.Proofs.YtnflnaalpeeciaaDoor
