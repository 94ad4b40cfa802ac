/-
  States as bytes (chapter 23): what is written, what is read, and that these are each other's.
-/
import Derived.Test.YtemfdmbjlmiopaaState
import Derived.Test.YtemfdmbjlmiopaaBytes
import Derived.Test.YtemfdmbjlmiopaaVector2
import Derived.Test.YtemfdmbjlmiopaaFieldRR
namespace Go.Proofs.Ytemfdmbjlmiopaa
open Go.RowKit
set_option linter.unusedVariables false
set_option linter.unusedSimpArgs false

/-- bytes, and a version's bytes behind -/
def vtS (t : ByteArray) (v : Ve) : ByteArray := vputS t v.p v.q ++ v.d
def putSt (s : St) : ByteArray := if chkE s ≠ 0 then ⟨#[]⟩ else if s.k = 0 then vtS (putS ⟨#[]⟩ s.k 1) ⟨s.a, s.b, s.d⟩ else vtS (vtS (putS ⟨#[]⟩ s.k 1) s.x) s.y
/-- a reader: what is left, what it failed with -/
abbrev Rr := ByteArray × Int
def n1 (s : Rr) (n : Int) : Rr := (nmRest s.1 s.2 n, nmErr s.1 s.2 n)
def b1 (s : Rr) (n : Int) : Rr := (rdRest s.1 s.2 n, rdErr s.1 s.2 n)
def nO (s : Rr) (n : Int) : Int := (nmOut s.1 s.2 n : Nat)
def rdVe (s : Rr) : Ve := ⟨nO s 7, nO (n1 s 7) 7, rdOut (n1 (n1 s 7) 7).1 (n1 (n1 s 7) 7).2 128⟩
def rdVs (s : Rr) : Rr := b1 (n1 (n1 s 7) 7) 128
def St.zero : St := ⟨0, 0, 0, ⟨#[]⟩, ⟨0, 0, ⟨#[]⟩⟩, ⟨0, 0, ⟨#[]⟩⟩⟩
/-- the state that is read, ahead of its check -/
def getR (t : ByteArray) : St := if nO (t, 0) 1 = 0 then ⟨0, (rdVe (n1 (t, 0) 1)).p, (rdVe (n1 (t, 0) 1)).q, (rdVe (n1 (t, 0) 1)).d, ⟨0, 0, ⟨#[]⟩⟩, ⟨0, 0, ⟨#[]⟩⟩⟩
  else ⟨nO (t, 0) 1, (rdVe (n1 (t, 0) 1)).p, (rdVe (rdVs (n1 (t, 0) 1))).q, ⟨#[]⟩, rdVe (n1 (t, 0) 1), rdVe (rdVs (n1 (t, 0) 1))⟩
def getZ (t : ByteArray) : Rr := if nO (t, 0) 1 = 0 then rdVs (n1 (t, 0) 1) else rdVs (rdVs (n1 (t, 0) 1))
def getE (t : ByteArray) : Int := if nO (t, 0) 1 = 0 ∨ nO (t, 0) 1 = 1 then (if rdEnd (getZ t).1 (getZ t).2 = 0 then chkE (getR t) else rdEnd (getZ t).1 (getZ t).2) else 7
def getSt (t : ByteArray) : St := if getE t = 0 then getR t else St.zero
/-! ### reading what stands ahead -/
theorem rd_app (x y : ByteArray) (n : Int) (h : (x.size : Int) = n) : rdErr (x ++ y) 0 n = 0 ∧ rdOut (x ++ y) 0 n = x ∧ rdRest (x ++ y) 0 n = y := by
  have h1 : rdErr (x ++ y) 0 n = 0 := by
    unfold rdErr
    rw [if_pos rfl, if_neg (by omega), if_neg (by rw [ByteArray.size_append]; omega)]
  have e : n.toNat = x.size := by omega
  unfold rdOut rdRest
  rw [if_pos h1, if_pos h1, e]
  exact ⟨h1, ext_left x y, ext_right x y⟩
theorem nm_app (k m : Nat) (y : ByteArray) (h1 : 1 ≤ k) (h7 : k ≤ 7) (hm : m < 256 ^ k) : nO ((⟨(be k m).toArray⟩ : ByteArray) ++ y, 0) k = m ∧ n1 ((⟨(be k m).toArray⟩ : ByteArray) ++ y, 0) k = (y, 0) := by
  have hw : widthB (k : Int) = true := decide_eq_true ⟨by omega, by omega⟩
  have hs : (((⟨(be k m).toArray⟩ : ByteArray).size : Nat) : Int) = (k : Int) := by rw [ba_size, be_len]
  obtain ⟨a1, a2, a3⟩ := rd_app ⟨(be k m).toArray⟩ y k hs
  unfold nO n1 nmOut nmRest nmErr
  simp only
  rw [if_pos hw, if_pos hw, if_pos hw, a1, a2, a3]
  refine ⟨?_, rfl⟩
  show ((nat256 (be k m) : Nat) : Int) = m
  rw [nat256_be k m hm]
theorem putn_eq (s : ByteArray) (m k : Nat) (h1 : 1 ≤ k) (h7 : k ≤ 7) (hm : m < 256 ^ k) : putS s (m : Int) (k : Int) = s ++ ⟨(be k m).toArray⟩ := by
  unfold putS
  rw [if_pos (fits_iff.2 ⟨by omega, by omega, by omega, by rw [Int.toNat_natCast]; have := Int.ofNat_lt.2 hm; rw [Int.natCast_pow] at this; exact this⟩)]
  rfl
/-- a version that may be written -/
def VOk (v : Ve) : Prop := 0 ≤ v.p ∧ v.p < 256 ^ 7 ∧ 0 ≤ v.q ∧ v.q < 256 ^ 7 ∧ v.d.size = 128
theorem vt_eq (t : ByteArray) (v : Ve) (h : VOk v) : ∃ m n : Nat, v.p = m ∧ v.q = n ∧ m < 256 ^ 7 ∧ n < 256 ^ 7 ∧ vtS t v = t ++ (⟨(be 7 m).toArray⟩ ++ (⟨(be 7 n).toArray⟩ ++ v.d)) := by
  obtain ⟨h1, h2, h3, h4, h5⟩ := h
  obtain ⟨m, hm⟩ : ∃ m : Nat, v.p = m := ⟨v.p.toNat, by omega⟩
  obtain ⟨n, hn⟩ : ∃ n : Nat, v.q = n := ⟨v.q.toNat, by omega⟩
  refine ⟨m, n, hm, hn, by omega, by omega, ?_⟩
  unfold vtS vputS
  rw [hm, hn]
  have e1 := putn_eq t m 7 (by decide) (by decide) (by omega)
  have e2 := putn_eq (putS t (m : Int) 7) n 7 (by decide) (by decide) (by omega)
  rw [show ((7 : Nat) : Int) = 7 from rfl] at e1 e2
  rw [e2, e1, ByteArray.append_assoc, ByteArray.append_assoc]
theorem rd_ver (v : Ve) (y : ByteArray) (h : VOk v) : rdVe (vtS ⟨#[]⟩ v ++ y, 0) = v ∧ rdVs (vtS ⟨#[]⟩ v ++ y, 0) = (y, 0) := by
  obtain ⟨m, n, hm, hn, hm7, hn7, e⟩ := vt_eq ⟨#[]⟩ v h
  have ee : vtS ⟨#[]⟩ v ++ y = ⟨(be 7 m).toArray⟩ ++ (⟨(be 7 n).toArray⟩ ++ (v.d ++ y)) := by
    rw [e, ByteArray.append_assoc, ByteArray.append_assoc, ByteArray.append_assoc]
    have : (⟨#[]⟩ : ByteArray) ++ (⟨(be 7 m).toArray⟩ ++ (⟨(be 7 n).toArray⟩ ++ (v.d ++ y))) = ⟨(be 7 m).toArray⟩ ++ (⟨(be 7 n).toArray⟩ ++ (v.d ++ y)) := by
      apply ba_data; rw [app_list]; rfl
    exact this
  obtain ⟨a1, a2⟩ := nm_app 7 m (⟨(be 7 n).toArray⟩ ++ (v.d ++ y)) (by decide) (by decide) hm7
  obtain ⟨b1', b2⟩ := nm_app 7 n (v.d ++ y) (by decide) (by decide) hn7
  rw [show ((7 : Nat) : Int) = 7 from rfl] at a1 a2 b1' b2
  obtain ⟨c1, c2, c3⟩ := rd_app v.d y 128 (by rw [h.2.2.2.2]; rfl)
  unfold rdVe rdVs b1
  rw [ee, a2, b2, a1, b1']
  simp only
  rw [c1, c2, c3, ← hm, ← hn]
  exact ⟨rfl, rfl⟩
theorem vt_app (t : ByteArray) (v : Ve) (h : VOk v) : vtS t v = t ++ vtS ⟨#[]⟩ v := by
  obtain ⟨m, n, hm, hn, hm7, hn7, e⟩ := vt_eq t v h
  obtain ⟨m', n', hm', hn', _, _, e'⟩ := vt_eq ⟨#[]⟩ v h
  have : m' = m := by omega
  subst this
  have : n' = n := by omega
  subst this
  rw [e, e']
  congr 1
/-! ### what was read is what stood there -/
theorem be_nat256 : ∀ l : List UInt8, be l.length (nat256 l) = l := by
  intro l
  induction l using snocInd with
  | h0 => rfl
  | hs l c ih =>
    have hc := c.toNat_lt
    rw [List.length_append, nat256_snoc]
    show be l.length ((nat256 l * 256 + c.toNat) / 256) ++ [UInt8.ofNat ((nat256 l * 256 + c.toNat) % 256)] = _
    rw [show (nat256 l * 256 + c.toNat) / 256 = nat256 l by omega, show (nat256 l * 256 + c.toNat) % 256 = c.toNat by omega, ih]
    congr 2
    simp
theorem rd_back (x : ByteArray) (err n : Int) (h : rdErr x err n = 0) : err = 0 ∧ ((rdOut x err n).size : Int) = n ∧ x = rdOut x err n ++ rdRest x err n := by
  have e1 : rdOut x err n = x.extract 0 n.toNat := if_pos h
  have e2 : rdRest x err n = x.extract n.toNat x.size := if_pos h
  have he : err = 0 := by unfold rdErr at h; split at h <;> assumption
  subst he
  have hn : 0 ≤ n ∧ n ≤ (x.size : Int) := by
    unfold rdErr at h
    rw [if_pos rfl] at h
    split at h
    · cases h
    · split at h
      · cases h
      · omega
  rw [e1, e2]
  refine ⟨rfl, by rw [ByteArray.size_extract]; omega, ?_⟩
  apply ba_data
  rw [app_list, ext_list, ext_list, List.drop_zero, Nat.sub_zero]
  rw [List.take_of_length_le (l := List.drop _ _) (by rw [List.length_drop, data_len]; omega)]
  exact (List.take_append_drop _ _).symm
theorem n1_back (z : Rr) (k : Nat) (h1 : 1 ≤ k) (h7 : k ≤ 7) (h : (n1 z k).2 = 0) : z.2 = 0 ∧ ∃ m : Nat, nO z k = m ∧ m < 256 ^ k ∧ z.1 = (⟨(be k m).toArray⟩ : ByteArray) ++ (n1 z k).1 := by
  obtain ⟨x, err⟩ := z
  have hw : widthB (k : Int) = true := decide_eq_true ⟨by omega, by omega⟩
  have e1 : rdErr x err k = 0 := by have := h; unfold n1 nmErr at this; simp only at this; rw [if_pos hw] at this; exact this
  obtain ⟨a1, a2, a3⟩ := rd_back x err k e1
  have hl : (rdOut x err k).data.toList.length = k := by rw [data_len]; omega
  refine ⟨a1, nat256 (rdOut x err k).data.toList, ?_, ?_, ?_⟩
  · unfold nO nmOut; simp only; rw [if_pos hw]
  · have := nat256_lt (rdOut x err k).data.toList; rw [hl] at this; exact this
  · have e3 : be k (nat256 (rdOut x err k).data.toList) = (rdOut x err k).data.toList := by
      have := be_nat256 (rdOut x err k).data.toList; rw [hl] at this; exact this
    rw [e3]
    have e4 : (n1 (x, err) k).1 = rdRest x err k := by unfold n1 nmRest; simp only; rw [if_pos hw]
    rw [e4]
    have e5 : (⟨(rdOut x err k).data.toList.toArray⟩ : ByteArray) = rdOut x err k := rfl
    rw [e5]
    exact a3
theorem ver_back (z : Rr) (h : (rdVs z).2 = 0) : z.2 = 0 ∧ VOk (rdVe z) ∧ z.1 = vtS ⟨#[]⟩ (rdVe z) ++ (rdVs z).1 := by
  unfold rdVs b1 at h
  simp only at h
  obtain ⟨a1, a2, a3⟩ := rd_back _ _ _ h
  obtain ⟨b1', n, b2, b3, b4⟩ := n1_back (n1 z 7) 7 (by decide) (by decide) a1
  obtain ⟨c1, m, c2, c3, c4⟩ := n1_back z 7 (by decide) (by decide) b1'
  rw [show ((7 : Nat) : Int) = 7 from rfl] at b2 b4 c2 c4
  have hp : (rdVe z).p = m := c2
  have hq : (rdVe z).q = n := b2
  have hd : (rdVe z).d = rdOut (n1 (n1 z 7) 7).1 (n1 (n1 z 7) 7).2 128 := rfl
  have hv : VOk (rdVe z) := ⟨by omega, by omega, by omega, by omega, by rw [hd]; omega⟩
  refine ⟨c1, hv, ?_⟩
  obtain ⟨m', n', hm', hn', _, _, e⟩ := vt_eq ⟨#[]⟩ (rdVe z) hv
  have : m' = m := by omega
  subst this
  have : n' = n := by omega
  subst this
  rw [e, c4, b4, a3, hd]
  have e0 : ∀ x : ByteArray, (⟨#[]⟩ : ByteArray) ++ x = x := fun x => by apply ba_data; rw [app_list]; rfl
  rw [e0, ByteArray.append_assoc, ByteArray.append_assoc]
  rfl
theorem right_lt {a b : Int} (h : rightB a b = true) : 0 ≤ a ∧ a < 256 ^ 7 ∧ 0 ≤ b ∧ b < 256 ^ 7 := by
  have := of_decide_eq_true h
  refine ⟨by omega, ?_, by omega, ?_⟩
  · have : (256 : Int) ^ 7 = 72057594037927936 := by decide
    omega
  · have : (256 : Int) ^ 7 = 72057594037927936 := by decide
    omega
theorem none_eq {v : Ve} (h : v.none = true) : v = ⟨0, 0, ⟨#[]⟩⟩ := by
  obtain ⟨p, q, d⟩ := v
  unfold Ve.none at h
  simp only [Bool.and_eq_true, beq_iff_eq] at h
  obtain ⟨rfl, rfl, h3⟩ := h
  congr 1
  apply ba_data
  have : d.toList = [] := List.isEmpty_iff.1 h3
  have hs : d.data.toList = d.toList := (ByteArray.toList_eq d).symm
  rw [hs, this]
theorem size0 {d : ByteArray} (h : d.size = 0) : d = ⟨#[]⟩ := by
  apply ba_data
  exact List.eq_nil_of_length_eq_zero (by rw [data_len]; exact h)
theorem kind_eq (k : Nat) (h : k < 256) : putS ⟨#[]⟩ (k : Int) 1 = ⟨(be 1 k).toArray⟩ := by
  have := putn_eq ⟨#[]⟩ k 1 (by decide) (by decide) (by omega)
  rw [show ((1 : Nat) : Int) = 1 from rfl] at this
  rw [this]
  apply ba_data; rw [app_list]; rfl
/-- what is put is got -/
theorem put_get (s : St) (h : chkE s = 0) : getE (putSt s) = 0 ∧ getSt (putSt s) = s := by
  obtain ⟨k, a, b, d, x, y⟩ := s
  have hchk := h
  unfold chkE at h
  simp only at h
  have hend : rdEnd ⟨#[]⟩ 0 = 0 := by decide
  have happ : ∀ x : ByteArray, x ++ ⟨#[]⟩ = x := fun x => by apply ba_data; rw [app_list]; exact List.append_nil _
  by_cases hk : k = 0
  · subst hk
    rw [if_pos rfl] at h
    unfold plainE at h
    simp only at h
    split at h
    · cases h
    · rename_i hr
      split at h
      · cases h
      · rename_i hd
        split at h
        · cases h
        · rename_i hn
          have hr : rightB a b = true := by simpa using hr
          have hd : d.size = 128 := Classical.not_not.1 hd
          have hx := none_eq (v := x) (by cases g : x.none <;> simp_all)
          have hy := none_eq (v := y) (by cases g : y.none <;> simp_all)
          subst hx
          subst hy
          obtain ⟨r1, r2, r3, r4⟩ := right_lt hr
          have hv : VOk ⟨a, b, d⟩ := ⟨r1, r2, r3, r4, hd⟩
          have e1 : putSt ⟨0, a, b, d, ⟨0, 0, ⟨#[]⟩⟩, ⟨0, 0, ⟨#[]⟩⟩⟩ = ⟨(be 1 0).toArray⟩ ++ vtS ⟨#[]⟩ ⟨a, b, d⟩ := by
            unfold putSt
            rw [if_neg (by simpa using hchk), if_pos rfl, vt_app _ _ hv]
            have := kind_eq 0 (by decide)
            rw [show ((0 : Nat) : Int) = 0 from rfl] at this
            simp only
            rw [this]
          obtain ⟨f1, f2⟩ := nm_app 1 0 (vtS ⟨#[]⟩ ⟨a, b, d⟩) (by decide) (by decide) (by decide)
          rw [show ((1 : Nat) : Int) = 1 from rfl, ← e1] at f1 f2
          obtain ⟨g1, g2⟩ := rd_ver ⟨a, b, d⟩ ⟨#[]⟩ hv
          rw [happ] at g1 g2
          have hR : getR (putSt ⟨0, a, b, d, ⟨0, 0, ⟨#[]⟩⟩, ⟨0, 0, ⟨#[]⟩⟩⟩) = ⟨0, a, b, d, ⟨0, 0, ⟨#[]⟩⟩, ⟨0, 0, ⟨#[]⟩⟩⟩ := by
            unfold getR
            rw [f1, if_pos (show ((0 : Nat) : Int) = 0 from rfl), f2, g1]
          have hZ : getZ (putSt ⟨0, a, b, d, ⟨0, 0, ⟨#[]⟩⟩, ⟨0, 0, ⟨#[]⟩⟩⟩) = (⟨#[]⟩, 0) := by
            unfold getZ
            rw [f1, if_pos (show ((0 : Nat) : Int) = 0 from rfl), f2, g2]
          have hE : getE (putSt ⟨0, a, b, d, ⟨0, 0, ⟨#[]⟩⟩, ⟨0, 0, ⟨#[]⟩⟩⟩) = 0 := by
            unfold getE
            rw [f1, if_pos (.inl rfl), hZ, if_pos hend, hR, hchk]
          refine ⟨hE, ?_⟩
          unfold getSt
          rw [if_pos hE, hR]
  · rw [if_neg hk] at h
    split at h
    · rename_i hk1
      subst hk1
      unfold clashE at h
      simp only at h
      split at h
      · rename_i hp
        split at h
        · rename_i hc
          obtain ⟨hc1, hc2, hc3⟩ := hc
          have hd := size0 hc3
          subst hc1
          subst hc2
          subst hd
          unfold pairE at hp
          split at hp
          · cases hp
          · rename_i hr
            split at hp
            · cases hp
            · rename_i hds
              have hr1 : rightB x.p x.q = true := by cases g : rightB x.p x.q <;> simp_all
              have hr2 : rightB y.p y.q = true := by cases g : rightB y.p y.q <;> simp_all
              have hd1 : x.d.size = 128 := Classical.not_not.1 fun g => hds (.inl g)
              have hd2 : y.d.size = 128 := Classical.not_not.1 fun g => hds (.inr g)
              obtain ⟨r1, r2, r3, r4⟩ := right_lt hr1
              obtain ⟨t1, t2, t3, t4⟩ := right_lt hr2
              have hv : VOk x := ⟨r1, r2, r3, r4, hd1⟩
              have hw : VOk y := ⟨t1, t2, t3, t4, hd2⟩
              have e1 : putSt ⟨1, x.p, y.q, ⟨#[]⟩, x, y⟩ = ⟨(be 1 1).toArray⟩ ++ (vtS ⟨#[]⟩ x ++ vtS ⟨#[]⟩ y) := by
                unfold putSt
                rw [if_neg (by simpa using hchk), if_neg (show ¬ (1 : Int) = 0 by decide), vt_app _ _ hw, vt_app _ _ hv]
                have := kind_eq 1 (by decide)
                rw [show ((1 : Nat) : Int) = 1 from rfl] at this
                simp only
                rw [this, ByteArray.append_assoc]
              obtain ⟨f1, f2⟩ := nm_app 1 1 (vtS ⟨#[]⟩ x ++ vtS ⟨#[]⟩ y) (by decide) (by decide) (by decide)
              rw [show ((1 : Nat) : Int) = 1 from rfl, ← e1] at f1 f2
              obtain ⟨g1, g2⟩ := rd_ver x (vtS ⟨#[]⟩ y) hv
              obtain ⟨g3, g4⟩ := rd_ver y ⟨#[]⟩ hw
              rw [happ] at g3 g4
              have hR : getR (putSt ⟨1, x.p, y.q, ⟨#[]⟩, x, y⟩) = ⟨1, x.p, y.q, ⟨#[]⟩, x, y⟩ := by
                unfold getR
                rw [f1, if_neg (show ¬ (1 : Int) = 0 by decide), f2, g1, g2, g3]
              have hZ : getZ (putSt ⟨1, x.p, y.q, ⟨#[]⟩, x, y⟩) = (⟨#[]⟩, 0) := by
                unfold getZ
                rw [f1, if_neg (show ¬ (1 : Int) = 0 by decide), f2, g2, g4]
              have hE : getE (putSt ⟨1, x.p, y.q, ⟨#[]⟩, x, y⟩) = 0 := by
                unfold getE
                rw [f1, if_pos (.inr rfl), hZ, if_pos hend, hR, hchk]
              refine ⟨hE, ?_⟩
              unfold getSt
              rw [if_pos hE, hR]
        · cases h
      · rename_i hp; exact absurd h hp
    · cases h
theorem end_back (x : ByteArray) (err : Int) (h : rdEnd x err = 0) : err = 0 ∧ x = ⟨#[]⟩ := by
  unfold rdEnd at h
  split at h
  · cases h
  · rename_i g
    subst h
    exact ⟨rfl, size0 (Classical.not_not.1 fun e => g ⟨rfl, e⟩)⟩
/-- what is got is put -/
theorem get_put (t : ByteArray) (h : getE t = 0) : chkE (getSt t) = 0 ∧ putSt (getSt t) = t := by
  have hS : getSt t = getR t := if_pos h
  rw [hS]
  unfold getE at h
  split at h
  · rename_i hk
    split at h
    · rename_i he
      obtain ⟨z1, z2⟩ := end_back _ _ he
      refine ⟨h, ?_⟩
      have happ : ∀ x : ByteArray, x ++ ⟨#[]⟩ = x := fun x => by apply ba_data; rw [app_list]; exact List.append_nil _
      by_cases h0 : nO (t, 0) 1 = 0
      · have eZ : getZ t = rdVs (n1 (t, 0) 1) := if_pos h0
        rw [eZ] at z1 z2
        obtain ⟨a1, a2, a3⟩ := ver_back _ z1
        obtain ⟨b1', m, b2, b3, b4⟩ := n1_back (t, 0) 1 (by decide) (by decide) a1
        rw [show ((1 : Nat) : Int) = 1 from rfl] at b2 b4
        have hm : m = 0 := by omega
        subst hm
        have eR : getR t = ⟨0, (rdVe (n1 (t, 0) 1)).p, (rdVe (n1 (t, 0) 1)).q, (rdVe (n1 (t, 0) 1)).d, ⟨0, 0, ⟨#[]⟩⟩, ⟨0, 0, ⟨#[]⟩⟩⟩ := if_pos h0
        rw [eR] at h ⊢
        unfold putSt
        rw [if_neg (by simpa using h), if_pos rfl]
        have e5 : vtS (putS ⟨#[]⟩ 0 1) (rdVe (n1 (t, 0) 1)) = t := by
          rw [vt_app _ _ a2]
          have := kind_eq 0 (by decide)
          rw [show ((0 : Nat) : Int) = 0 from rfl] at this
          rw [this]
          rw [z2, happ] at a3
          rw [← a3]
          exact b4.symm
        exact e5
      · have h1 : nO (t, 0) 1 = 1 := by rcases hk with g | g; · exact absurd g h0
                                        · exact g
        have eZ : getZ t = rdVs (rdVs (n1 (t, 0) 1)) := if_neg h0
        rw [eZ] at z1 z2
        obtain ⟨c1, c2, c3⟩ := ver_back _ z1
        obtain ⟨a1, a2, a3⟩ := ver_back _ c1
        obtain ⟨b1', m, b2, b3, b4⟩ := n1_back (t, 0) 1 (by decide) (by decide) a1
        rw [show ((1 : Nat) : Int) = 1 from rfl] at b2 b4
        have hm : m = 1 := by omega
        subst hm
        have eR : getR t = ⟨nO (t, 0) 1, (rdVe (n1 (t, 0) 1)).p, (rdVe (rdVs (n1 (t, 0) 1))).q, ⟨#[]⟩, rdVe (n1 (t, 0) 1), rdVe (rdVs (n1 (t, 0) 1))⟩ := if_neg h0
        rw [h1] at eR
        rw [eR] at h ⊢
        unfold putSt
        rw [if_neg (by simpa using h), if_neg (show ¬ (1 : Int) = 0 by decide)]
        have e5 : vtS (vtS (putS ⟨#[]⟩ 1 1) (rdVe (n1 (t, 0) 1))) (rdVe (rdVs (n1 (t, 0) 1))) = t := by
          rw [vt_app _ _ c2, vt_app _ _ a2]
          have := kind_eq 1 (by decide)
          rw [show ((1 : Nat) : Int) = 1 from rfl] at this
          rw [this]
          rw [z2, happ] at c3
          rw [c3] at a3
          rw [ByteArray.append_assoc, ← a3]
          exact b4.symm
        exact e5
    · rename_i g; exact absurd h g
  · cases h
end Go.Proofs.Ytemfdmbjlmiopaa
