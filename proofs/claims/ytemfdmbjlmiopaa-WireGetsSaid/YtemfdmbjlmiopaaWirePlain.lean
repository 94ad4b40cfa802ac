/-
  Messages as bytes (chapter 25): what may be told, what is written, what is read, and that these are each other's.
-/
import Derived.Test.YtemfdmbjlmiopaaCodePlain
namespace Go.Proofs.Ytemfdmbjlmiopaa
open Go.RowKit
set_option linter.unusedVariables false
set_option linter.unusedSimpArgs false
/-- a message: kind, extent, vector, state, number -/
structure Mg where
  k : Int
  ex : Int
  va : Int
  vb : Int
  s : St
  n : Int
abbrev MV (k ex va vb : Int) (s : St) (n : Int) : Value := .agg #[.int .i64 k, .int .i64 ex, .int .i64 va, .int .i64 vb, .int .i64 s.k, .int .i64 s.a, .int .i64 s.b, .string s.d, .int .i64 s.x.p, .int .i64 s.x.q, .string s.x.d, .int .i64 s.y.p, .int .i64 s.y.q, .string s.y.d, .int .i64 n]
def T0 (k : Int) : Bool := decide (1 ≤ k ∧ k ≤ 6)
def T1 (k : Int) : Bool := decide (k = 1 ∨ k = 4 ∨ k = 5)
def T2 (k : Int) : Bool := decide (k = 3)
def T3 (k : Int) : Bool := decide (k = 7 ∨ k = 8)
def mostN (k : Int) : Int := if k = 8 then 1 else 24
def szB (s : St) : Bool := s.k == 0 && (s.a == 0 && (s.b == 0 && (s.d.toList.isEmpty && (s.x.p == 0 && (s.x.q == 0 && (s.x.d.toList.isEmpty && (s.y.p == 0 && (s.y.q == 0 && s.y.d.toList.isEmpty))))))))
def St.nil : St := ⟨0, 0, 0, ⟨#[]⟩, ⟨0, 0, ⟨#[]⟩⟩, ⟨0, 0, ⟨#[]⟩⟩⟩
def Mg.nil : Mg := ⟨0, 0, 0, 0, St.nil, 0⟩
def mchk (m : Mg) : Int :=
  if m.k < 1 ∨ 8 < m.k then 7
  else if (T0 m.k = true ∧ (m.ex < 0 ∨ 23 < m.ex)) ∨ (T1 m.k = true ∧ rightB m.va m.vb = false) ∨ (T3 m.k = true ∧ (m.n < 0 ∨ mostN m.k < m.n)) then 3
  else if T2 m.k = true ∧ chkE m.s ≠ 0 then chkE m.s
  else if (T0 m.k = true ∨ m.ex = 0) ∧ (T1 m.k = true ∨ (m.va = 0 ∧ m.vb = 0)) ∧ (T2 m.k = true ∨ szB m.s = true) ∧ (T3 m.k = true ∨ m.n = 0) then 0 else 4
def mput (m : Mg) : ByteArray :=
  if mchk m ≠ 0 then ⟨#[]⟩
  else if T1 m.k = true then vputS (putS (putS ⟨#[]⟩ m.k 1) m.ex 1) m.va m.vb
  else if T2 m.k = true then putS (putS ⟨#[]⟩ m.k 1) m.ex 1 ++ putSt m.s
  else if T3 m.k = true then putS (putS ⟨#[]⟩ m.k 1) m.n 1
  else putS (putS ⟨#[]⟩ m.k 1) m.ex 1
def gK (t : ByteArray) : Int := nO (t, 0) 1
def gz (t : ByteArray) : Rr := n1 (t, 0) 1
/-- the message that is read, ahead of its check -/
def mgetR (t : ByteArray) : Mg :=
  if T1 (gK t) = true then ⟨gK t, nO (gz t) 1, nO (n1 (gz t) 1) 7, nO (n1 (n1 (gz t) 1) 7) 7, St.nil, 0⟩
  else if T2 (gK t) = true then ⟨gK t, nO (gz t) 1, 0, 0, getSt (n1 (gz t) 1).1, 0⟩
  else if T3 (gK t) = true then ⟨gK t, 0, 0, 0, St.nil, nO (gz t) 1⟩
  else ⟨gK t, nO (gz t) 1, 0, 0, St.nil, 0⟩
def mgetF (t : ByteArray) : Int :=
  if T1 (gK t) = true then rdEnd (n1 (n1 (n1 (gz t) 1) 7) 7).1 (n1 (n1 (n1 (gz t) 1) 7) 7).2
  else if T2 (gK t) = true then (if rdEnd (n1 (gz t) 1).1 (n1 (gz t) 1).2 = 1 then 1 else getE (n1 (gz t) 1).1)
  else rdEnd (n1 (gz t) 1).1 (n1 (gz t) 1).2
def mgetE (t : ByteArray) : Int := if t.size = 0 then 1 else if gK t < 1 ∨ 8 < gK t then 7 else if mgetF t = 0 then mchk (mgetR t) else mgetF t
def mget (t : ByteArray) : Mg := if mgetE t = 0 then mgetR t else Mg.nil
/-! ### the kinds -/
theorem kinds (k : Int) : (k < 1 ∨ 8 < k) ∨ (k = 1 ∨ k = 4 ∨ k = 5) ∨ (k = 2 ∨ k = 6) ∨ k = 3 ∨ (k = 7 ∨ k = 8) := by omega
theorem tA {k : Int} (h : k = 1 ∨ k = 4 ∨ k = 5) : T0 k = true ∧ T1 k = true ∧ T2 k = false ∧ T3 k = false := by
  rcases h with rfl | rfl | rfl <;> decide
theorem tB {k : Int} (h : k = 2 ∨ k = 6) : T0 k = true ∧ T1 k = false ∧ T2 k = false ∧ T3 k = false := by
  rcases h with rfl | rfl <;> decide
theorem tC {k : Int} (h : k = 3) : T0 k = true ∧ T1 k = false ∧ T2 k = true ∧ T3 k = false := by
  subst h; decide
theorem tD {k : Int} (h : k = 7 ∨ k = 8) : T0 k = false ∧ T1 k = false ∧ T2 k = false ∧ T3 k = true := by
  rcases h with rfl | rfl <;> decide
theorem mchk_x {m : Mg} (h : m.k < 1 ∨ 8 < m.k) : mchk m = 7 := if_pos h
theorem mchk_A {m : Mg} (h : m.k = 1 ∨ m.k = 4 ∨ m.k = 5) : mchk m = if m.ex < 0 ∨ 23 < m.ex ∨ rightB m.va m.vb = false then 3 else if szB m.s = true ∧ m.n = 0 then 0 else 4 := by
  obtain ⟨h0, h1, h2, h3⟩ := tA h
  unfold mchk
  rw [if_neg (by omega), h0, h1, h2, h3]
  simp [or_assoc]
theorem mchk_B {m : Mg} (h : m.k = 2 ∨ m.k = 6) : mchk m = if m.ex < 0 ∨ 23 < m.ex then 3 else if m.va = 0 ∧ m.vb = 0 ∧ szB m.s = true ∧ m.n = 0 then 0 else 4 := by
  obtain ⟨h0, h1, h2, h3⟩ := tB h
  unfold mchk
  rw [if_neg (by omega), h0, h1, h2, h3]
  simp [and_assoc]
theorem mchk_C {m : Mg} (h : m.k = 3) : mchk m = if m.ex < 0 ∨ 23 < m.ex then 3 else if chkE m.s ≠ 0 then chkE m.s else if m.va = 0 ∧ m.vb = 0 ∧ m.n = 0 then 0 else 4 := by
  obtain ⟨h0, h1, h2, h3⟩ := tC h
  unfold mchk
  rw [if_neg (by omega), h0, h1, h2, h3]
  simp [and_assoc]
theorem mchk_D {m : Mg} (h : m.k = 7 ∨ m.k = 8) : mchk m = if m.n < 0 ∨ mostN m.k < m.n then 3 else if m.ex = 0 ∧ m.va = 0 ∧ m.vb = 0 ∧ szB m.s = true then 0 else 4 := by
  obtain ⟨h0, h1, h2, h3⟩ := tD h
  unfold mchk
  rw [if_neg (by omega), h0, h1, h2, h3]
  simp [and_assoc]
theorem empty_of {d : ByteArray} (h : d.toList.isEmpty = true) : d = ⟨#[]⟩ := by
  apply ba_data
  have h3 : d.toList = [] := List.isEmpty_iff.1 h
  have hs : d.data.toList = d.toList := (ByteArray.toList_eq d).symm
  rw [hs, h3]
theorem sz_nil {s : St} (h : szB s = true) : s = St.nil := by
  obtain ⟨k, a, b, d, ⟨p, q, e⟩, ⟨r, u, f⟩⟩ := s
  unfold szB at h
  simp only [Bool.and_eq_true, beq_iff_eq] at h
  obtain ⟨rfl, rfl, rfl, h4, rfl, rfl, h7, rfl, rfl, h10⟩ := h
  rw [empty_of h4, empty_of h7, empty_of h10]
  rfl
theorem nil_sz : szB St.nil = true := by decide +kernel
/-! ### written, then read -/
theorem put1 (s : ByteArray) (m : Nat) (h : m < 256) : putS s (m : Int) 1 = s ++ ⟨(be 1 m).toArray⟩ := putn_eq s m 1 (by decide) (by decide) (by omega)
theorem put7 (s : ByteArray) (m : Nat) (h : m < 256 ^ 7) : putS s (m : Int) 7 = s ++ ⟨(be 7 m).toArray⟩ := putn_eq s m 7 (by decide) (by decide) h
theorem nil_app (x : ByteArray) : (⟨#[]⟩ : ByteArray) ++ x = x := by apply ba_data; rw [app_list]; rfl
theorem app_nil (x : ByteArray) : x ++ ⟨#[]⟩ = x := by apply ba_data; rw [app_list]; exact List.append_nil _
theorem nm1 (m : Nat) (y : ByteArray) (h : m < 256) : nO ((⟨(be 1 m).toArray⟩ : ByteArray) ++ y, 0) 1 = m ∧ n1 ((⟨(be 1 m).toArray⟩ : ByteArray) ++ y, 0) 1 = (y, 0) := nm_app 1 m y (by decide) (by decide) (by omega)
theorem nm7 (m : Nat) (y : ByteArray) (h : m < 256 ^ 7) : nO ((⟨(be 7 m).toArray⟩ : ByteArray) ++ y, 0) 7 = m ∧ n1 ((⟨(be 7 m).toArray⟩ : ByteArray) ++ y, 0) 7 = (y, 0) := nm_app 7 m y (by decide) (by decide) h
theorem end0 : rdEnd ⟨#[]⟩ 0 = 0 := by decide
theorem nat_of {x : Int} (h : 0 ≤ x) : ∃ n : Nat, x = n := ⟨x.toNat, by omega⟩
/-- the bytes of a message that may be told -/
theorem mput_A {m : Mg} (h : m.k = 1 ∨ m.k = 4 ∨ m.k = 5) (hc : mchk m = 0) : ∃ K X A B : Nat, m = ⟨K, X, A, B, St.nil, 0⟩ ∧ K < 256 ∧ X < 256 ∧ A < 256 ^ 7 ∧ B < 256 ^ 7 ∧ mput m = ⟨(be 1 K).toArray⟩ ++ (⟨(be 1 X).toArray⟩ ++ (⟨(be 7 A).toArray⟩ ++ ⟨(be 7 B).toArray⟩)) := by
  have hc0 := hc
  rw [mchk_A h] at hc
  split at hc
  · cases hc
  · rename_i h1
    split at hc
    · rename_i h2
      have hr : rightB m.va m.vb = true := by cases g : rightB m.va m.vb <;> simp_all
      obtain ⟨r1, r2, r3, r4⟩ := right_lt hr
      obtain ⟨K, hK⟩ := nat_of (x := m.k) (by omega)
      obtain ⟨X, hX⟩ := nat_of (x := m.ex) (by omega)
      obtain ⟨A, hA⟩ := nat_of r1
      obtain ⟨B, hB⟩ := nat_of r3
      refine ⟨K, X, A, B, ?_, by omega, by omega, by omega, by omega, ?_⟩
      · obtain ⟨mk, mex, mva, mvb, ms, mn⟩ := m
        simp only at hK hX hA hB h2
        rw [hK, hX, hA, hB, h2.2, sz_nil h2.1]
      · unfold mput
        rw [if_neg (by simpa using hc0), if_pos (tA h).2.1, hK, hX, hA, hB]
        unfold vputS
        rw [put1 _ K (by omega), put1 _ X (by omega), put7 _ A (by omega), put7 _ B (by omega), nil_app, ByteArray.append_assoc, ByteArray.append_assoc]
    · cases hc
theorem mput_B {m : Mg} (h : m.k = 2 ∨ m.k = 6) (hc : mchk m = 0) : ∃ K X : Nat, m = ⟨K, X, 0, 0, St.nil, 0⟩ ∧ K < 256 ∧ X < 256 ∧ mput m = ⟨(be 1 K).toArray⟩ ++ ⟨(be 1 X).toArray⟩ := by
  have hc0 := hc
  rw [mchk_B h] at hc
  split at hc
  · cases hc
  · rename_i h1
    split at hc
    · rename_i h2
      obtain ⟨K, hK⟩ := nat_of (x := m.k) (by omega)
      obtain ⟨X, hX⟩ := nat_of (x := m.ex) (by omega)
      refine ⟨K, X, ?_, by omega, by omega, ?_⟩
      · obtain ⟨mk, mex, mva, mvb, ms, mn⟩ := m
        simp only at hK hX h2
        rw [hK, hX, h2.1, h2.2.1, h2.2.2.2, sz_nil h2.2.2.1]
      · unfold mput
        rw [if_neg (by simpa using hc0), (tB h).2.1, (tB h).2.2.1, (tB h).2.2.2, hK, hX]
        rw [put1 _ K (by omega), put1 _ X (by omega), nil_app]
        rfl
    · cases hc
theorem mput_C {m : Mg} (h : m.k = 3) (hc : mchk m = 0) : ∃ X : Nat, m = ⟨3, X, 0, 0, m.s, 0⟩ ∧ X < 256 ∧ chkE m.s = 0 ∧ mput m = ⟨(be 1 3).toArray⟩ ++ (⟨(be 1 X).toArray⟩ ++ putSt m.s) := by
  have hc0 := hc
  rw [mchk_C h] at hc
  split at hc
  · cases hc
  · rename_i h1
    split at hc
    · rename_i h2; exact absurd hc h2
    · rename_i h3
      split at hc
      · rename_i h2
        obtain ⟨X, hX⟩ := nat_of (x := m.ex) (by omega)
        refine ⟨X, ?_, by omega, Classical.not_not.1 h3, ?_⟩
        · obtain ⟨mk, mex, mva, mvb, ms, mn⟩ := m
          simp only at hX h2 h
          rw [hX, h2.1, h2.2.1, h2.2.2, h]
        · unfold mput
          rw [if_neg (by simpa using hc0), (tC h).2.1, (tC h).2.2.1, h, hX]
          rw [show (3 : Int) = ((3 : Nat) : Int) from rfl, put1 _ 3 (by omega), put1 _ X (by omega), nil_app]
          simp only [Bool.false_eq_true, if_false, if_true, ByteArray.append_assoc]
      · cases hc
theorem mput_D {m : Mg} (h : m.k = 7 ∨ m.k = 8) (hc : mchk m = 0) : ∃ K N : Nat, m = ⟨K, 0, 0, 0, St.nil, N⟩ ∧ K < 256 ∧ N < 256 ∧ mput m = ⟨(be 1 K).toArray⟩ ++ ⟨(be 1 N).toArray⟩ := by
  have hc0 := hc
  rw [mchk_D h] at hc
  split at hc
  · cases hc
  · rename_i h1
    have hmo : mostN m.k ≤ 24 := by unfold mostN; split <;> omega
    split at hc
    · rename_i h2
      obtain ⟨K, hK⟩ := nat_of (x := m.k) (by omega)
      obtain ⟨X, hX⟩ := nat_of (x := m.n) (by omega)
      refine ⟨K, X, ?_, by omega, by omega, ?_⟩
      · obtain ⟨mk, mex, mva, mvb, ms, mn⟩ := m
        simp only at hK hX h2
        rw [hK, hX, h2.1, h2.2.1, h2.2.2.1, sz_nil h2.2.2.2]
      · unfold mput
        rw [if_neg (by simpa using hc0), (tD h).2.1, (tD h).2.2.1, (tD h).2.2.2, hK, hX]
        rw [put1 _ K (by omega), put1 _ X (by omega), nil_app]
        rfl
    · cases hc
theorem get_of {t : ByteArray} {m : Mg} (h0 : ¬ t.size = 0) (hk : ¬ (gK t < 1 ∨ 8 < gK t)) (hF : mgetF t = 0) (hR : mgetR t = m) (hc : mchk m = 0) : mgetE t = 0 ∧ mget t = m := by
  have hE : mgetE t = 0 := by unfold mgetE; rw [if_neg h0, if_neg hk, if_pos hF, hR, hc]
  exact ⟨hE, (if_pos hE).trans hR⟩
theorem size1 (m : Nat) (y : ByteArray) : ((⟨(be 1 m).toArray⟩ : ByteArray) ++ y).size = 1 + y.size := by rw [ByteArray.size_append, be_size]
theorem size7 (m : Nat) (y : ByteArray) : ((⟨(be 7 m).toArray⟩ : ByteArray) ++ y).size = 7 + y.size := by rw [ByteArray.size_append, be_size]
/-- what is put is got -/
theorem mput_get (m : Mg) (hc : mchk m = 0) : mgetE (mput m) = 0 ∧ mget (mput m) = m := by
  rcases kinds m.k with h | h | h | h | h
  · rw [mchk_x h] at hc; cases hc
  · obtain ⟨K, X, A, B, hm, hK, hX, hA, hB, e⟩ := mput_A h hc
    have e : mput m = ⟨(be 1 K).toArray⟩ ++ (⟨(be 1 X).toArray⟩ ++ (⟨(be 7 A).toArray⟩ ++ (⟨(be 7 B).toArray⟩ ++ ⟨#[]⟩))) := by rw [e, app_nil]
    obtain ⟨a1, a2⟩ := nm1 K (⟨(be 1 X).toArray⟩ ++ (⟨(be 7 A).toArray⟩ ++ (⟨(be 7 B).toArray⟩ ++ ⟨#[]⟩))) hK
    obtain ⟨b1', b2⟩ := nm1 X (⟨(be 7 A).toArray⟩ ++ (⟨(be 7 B).toArray⟩ ++ ⟨#[]⟩)) hX
    obtain ⟨c1, c2⟩ := nm7 A (⟨(be 7 B).toArray⟩ ++ ⟨#[]⟩) hA
    obtain ⟨d1, d2⟩ := nm7 B ⟨#[]⟩ hB
    have hk : gK (mput m) = K := by unfold gK; rw [e, a1]
    have hz : gz (mput m) = (⟨(be 1 X).toArray⟩ ++ (⟨(be 7 A).toArray⟩ ++ (⟨(be 7 B).toArray⟩ ++ ⟨#[]⟩)), 0) := by unfold gz; rw [e, a2]
    have hkm : m.k = K := by rw [hm]
    rw [hkm] at h
    refine get_of ?_ ?_ ?_ ?_ hc
    · rw [e, size1]; omega
    · rw [hk]; omega
    · unfold mgetF; rw [hk, if_pos (tA h).2.1, hz, b2, c2, d2]; exact end0
    · unfold mgetR; rw [hk, if_pos (tA h).2.1, hz, b1', b2, c1, c2, d1]; exact hm.symm
  · obtain ⟨K, X, hm, hK, hX, e⟩ := mput_B h hc
    have e : mput m = ⟨(be 1 K).toArray⟩ ++ (⟨(be 1 X).toArray⟩ ++ ⟨#[]⟩) := by rw [e, app_nil]
    obtain ⟨a1, a2⟩ := nm1 K (⟨(be 1 X).toArray⟩ ++ ⟨#[]⟩) hK
    obtain ⟨b1', b2⟩ := nm1 X ⟨#[]⟩ hX
    have hk : gK (mput m) = K := by unfold gK; rw [e, a1]
    have hz : gz (mput m) = (⟨(be 1 X).toArray⟩ ++ ⟨#[]⟩, 0) := by unfold gz; rw [e, a2]
    have hkm : m.k = K := by rw [hm]
    rw [hkm] at h
    obtain ⟨t0, t1, t2, t3⟩ := tB h
    refine get_of ?_ ?_ ?_ ?_ hc
    · rw [e, size1]; omega
    · rw [hk]; omega
    · unfold mgetF; rw [hk, t1, t2, hz, b2]; exact end0
    · unfold mgetR; rw [hk, t1, t2, t3, hz, b1']; exact hm.symm
  · obtain ⟨X, hm, hX, hcs, e⟩ := mput_C h hc
    obtain ⟨a1, a2⟩ := nm1 3 (⟨(be 1 X).toArray⟩ ++ putSt m.s) (by decide)
    obtain ⟨b1', b2⟩ := nm1 X (putSt m.s) hX
    obtain ⟨g1, g2⟩ := put_get m.s hcs
    have hk : gK (mput m) = 3 := by unfold gK; rw [e, a1]; rfl
    have hz : gz (mput m) = (⟨(be 1 X).toArray⟩ ++ putSt m.s, 0) := by unfold gz; rw [e, a2]
    obtain ⟨t0, t1, t2, t3⟩ := tC (k := 3) rfl
    have hne : ¬ rdEnd (putSt m.s) 0 = 1 := by unfold rdEnd; split <;> decide
    refine get_of ?_ ?_ ?_ ?_ hc
    · rw [e, size1]; omega
    · rw [hk]; omega
    · unfold mgetF; rw [hk, t1, t2, hz, b2]; simp only [Bool.false_eq_true, if_false, if_true]; rw [if_neg hne, g1]
    · unfold mgetR; rw [hk, t1, t2, hz, b1', b2]; simp only [Bool.false_eq_true, if_false, if_true]; rw [g2]; exact hm.symm
  · obtain ⟨K, X, hm, hK, hX, e⟩ := mput_D h hc
    have e : mput m = ⟨(be 1 K).toArray⟩ ++ (⟨(be 1 X).toArray⟩ ++ ⟨#[]⟩) := by rw [e, app_nil]
    obtain ⟨a1, a2⟩ := nm1 K (⟨(be 1 X).toArray⟩ ++ ⟨#[]⟩) hK
    obtain ⟨b1', b2⟩ := nm1 X ⟨#[]⟩ hX
    have hk : gK (mput m) = K := by unfold gK; rw [e, a1]
    have hz : gz (mput m) = (⟨(be 1 X).toArray⟩ ++ ⟨#[]⟩, 0) := by unfold gz; rw [e, a2]
    have hkm : m.k = K := by rw [hm]
    rw [hkm] at h
    obtain ⟨t0, t1, t2, t3⟩ := tD h
    refine get_of ?_ ?_ ?_ ?_ hc
    · rw [e, size1]; omega
    · rw [hk]; omega
    · unfold mgetF; rw [hk, t1, t2, hz, b2]; exact end0
    · unfold mgetR; rw [hk, t1, t2, t3, hz, b1']; exact hm.symm
end Go.Proofs.Ytemfdmbjlmiopaa
