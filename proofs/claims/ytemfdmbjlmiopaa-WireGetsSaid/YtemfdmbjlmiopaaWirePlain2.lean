/-
  Messages as bytes (chapter 25): what is read is what stood there; no message is another one's beginning.
-/
import Derived.Test.YtemfdmbjlmiopaaWirePlain
namespace Go.Proofs.Ytemfdmbjlmiopaa
open Go.RowKit
set_option linter.unusedVariables false
set_option linter.unusedSimpArgs false
theorem n1_b1 (z : Rr) (h : (n1 z 1).2 = 0) : z.2 = 0 ∧ ∃ m : Nat, nO z 1 = m ∧ m < 256 ∧ z.1 = (⟨(be 1 m).toArray⟩ : ByteArray) ++ (n1 z 1).1 := by
  obtain ⟨a, m, b, c, d⟩ := n1_back z 1 (by decide) (by decide) h
  exact ⟨a, m, b, by omega, d⟩
theorem n1_b7 (z : Rr) (h : (n1 z 7).2 = 0) : z.2 = 0 ∧ ∃ m : Nat, nO z 7 = m ∧ m < 256 ^ 7 ∧ z.1 = (⟨(be 7 m).toArray⟩ : ByteArray) ++ (n1 z 7).1 := by
  obtain ⟨a, m, b, c, d⟩ := n1_back z 7 (by decide) (by decide) h
  exact ⟨a, m, b, c, d⟩
/-- what is got is put; and how long it is -/
def msz (k c : Nat) : Nat := if k = 1 ∨ k = 4 ∨ k = 5 then 16 else if k = 3 then (if c = 0 then 145 else 287) else 2
theorem be1_get (m : Nat) (y : ByteArray) (h : m < 256) : gd ((⟨(be 1 m).toArray⟩ : ByteArray) ++ y) 0 = m := by
  unfold gd
  rw [show ((⟨(be 1 m).toArray⟩ : ByteArray) ++ y).data = (be 1 m).toArray ++ y.data from by simp]
  rw [Array.getD_eq_getD_getElem?, Array.getElem?_append_left (by simp [be])]
  simp [be]
  omega
theorem gd_app (x y : ByteArray) (i : Nat) : gd (x ++ y) (x.size + i) = gd y i := by
  unfold gd
  have : (x ++ y).data = x.data ++ y.data := by simp
  rw [this]
  have hs : x.data.size = x.size := rfl
  by_cases h : i < y.data.size
  · have h2 : x.size + i < (x.data ++ y.data).size := by rw [Array.size_append]; omega
    rw [Array.getD_eq_getD_getElem?, Array.getD_eq_getD_getElem?, Array.getElem?_append_right (by omega)]
    congr 4
    omega
  · rw [Array.getD_eq_getD_getElem?, Array.getD_eq_getD_getElem?, Array.getElem?_append_right (by omega)]
    congr 4
    omega
/-- a state's bytes: how many, and the first of them -/
theorem putSt_len (s : St) (h : chkE s = 0) : (putSt s).size = (if s.k = 0 then 143 else 285) ∧ (gd (putSt s) 0 : Int) = s.k := by
  obtain ⟨h1, h2⟩ := put_get s h
  have hS : getSt (putSt s) = getR (putSt s) := if_pos h1
  rw [hS] at h2
  generalize putSt s = t at *
  have h0 := h1
  unfold getE at h1
  split at h1
  · rename_i hk
    split at h1
    · rename_i he
      obtain ⟨z1, z2⟩ := end_back _ _ he
      by_cases h0 : nO (t, 0) 1 = 0
      · have eZ : getZ t = rdVs (n1 (t, 0) 1) := if_pos h0
        rw [eZ] at z1 z2
        obtain ⟨a1, a2, a3⟩ := ver_back _ z1
        obtain ⟨b1', m, b2, b3, b4⟩ := n1_b1 (t, 0) a1
        have eR : getR t = ⟨0, (rdVe (n1 (t, 0) 1)).p, (rdVe (n1 (t, 0) 1)).q, (rdVe (n1 (t, 0) 1)).d, ⟨0, 0, ⟨#[]⟩⟩, ⟨0, 0, ⟨#[]⟩⟩⟩ := if_pos h0
        rw [eR] at h2
        have hk0 : s.k = 0 := by rw [← h2]
        obtain ⟨m', n', _, _, _, _, ev⟩ := vt_eq ⟨#[]⟩ (rdVe (n1 (t, 0) 1)) a2
        simp only at b4
        have hd := a2.2.2.2.2
        have hsz : t.size = 143 := by
          rw [b4, size1, a3, z2, ev, app_nil, nil_app, size7, size7, hd]
        refine ⟨by rw [hk0, if_pos rfl]; exact hsz, ?_⟩
        rw [b4, be1_get m _ (by omega), hk0]
        omega
      · have h1 : nO (t, 0) 1 = 1 := by rcases hk with g | g; · exact absurd g h0
                                        · exact g
        have eZ : getZ t = rdVs (rdVs (n1 (t, 0) 1)) := if_neg h0
        rw [eZ] at z1 z2
        obtain ⟨c1, c2, c3⟩ := ver_back _ z1
        obtain ⟨a1, a2, a3⟩ := ver_back _ c1
        obtain ⟨b1', m, b2, b3, b4⟩ := n1_b1 (t, 0) a1
        have eR : getR t = ⟨nO (t, 0) 1, (rdVe (n1 (t, 0) 1)).p, (rdVe (rdVs (n1 (t, 0) 1))).q, ⟨#[]⟩, rdVe (n1 (t, 0) 1), rdVe (rdVs (n1 (t, 0) 1))⟩ := if_neg h0
        rw [eR] at h2
        have hk0 : s.k = 1 := by rw [← h2]; exact h1
        obtain ⟨m', n', _, _, _, _, ev⟩ := vt_eq ⟨#[]⟩ (rdVe (n1 (t, 0) 1)) a2
        obtain ⟨m2, n2, _, _, _, _, ew⟩ := vt_eq ⟨#[]⟩ (rdVe (rdVs (n1 (t, 0) 1))) c2
        simp only at b4
        have hd := a2.2.2.2.2
        have he := c2.2.2.2.2
        have hsz : t.size = 285 := by
          rw [b4, size1, a3, c3, z2, ev, ew, app_nil, nil_app, nil_app, ByteArray.size_append, size7, size7, size7, size7, hd, he]
        refine ⟨by rw [hk0, if_neg (by decide)]; exact hsz, ?_⟩
        rw [b4, be1_get m _ (by omega), hk0]
        omega
    · rename_i g; exact absurd h1 g
  · cases h1
theorem mget_put (t : ByteArray) (h : mgetE t = 0) : mchk (mget t) = 0 ∧ mput (mget t) = t := by
  have hS : mget t = mgetR t := if_pos h
  rw [hS]
  have hE := h
  unfold mgetE at h
  split at h
  · cases h
  · split at h
    · cases h
    · rename_i h0 hk
      split at h
      · rename_i hF
        refine ⟨h, ?_⟩
        rcases kinds (gK t) with g | g | g | g | g
        · exact absurd g hk
        · obtain ⟨t0, t1, t2, t3⟩ := tA g
          have eF : mgetF t = rdEnd (n1 (n1 (n1 (gz t) 1) 7) 7).1 (n1 (n1 (n1 (gz t) 1) 7) 7).2 := if_pos t1
          have eR : mgetR t = ⟨gK t, nO (gz t) 1, nO (n1 (gz t) 1) 7, nO (n1 (n1 (gz t) 1) 7) 7, St.nil, 0⟩ := if_pos t1
          rw [eF] at hF
          obtain ⟨z1, z2⟩ := end_back _ _ hF
          obtain ⟨d1, B, d2, d3, d4⟩ := n1_b7 _ z1
          obtain ⟨c1, A, c2, c3, c4⟩ := n1_b7 _ d1
          obtain ⟨b1', X, b2, b3, b4⟩ := n1_b1 _ c1
          obtain ⟨a1, K, a2, a3, a4⟩ := n1_b1 (t, 0) b1'
          have hmk : (mgetR t).k = gK t := by rw [eR]
          obtain ⟨K', X', A', B', hm, _, _, _, _, e⟩ := mput_A (m := mgetR t) (by rw [hmk]; exact g) h
          rw [e]
          rw [eR] at hm
          injection hm with e1 e2 e3 e4 e5 e6
          have : K' = K := by have : gK t = K := a2; omega
          subst this
          have : X' = X := by omega
          subst this
          have : A' = A := by omega
          subst this
          have : B' = B := by omega
          subst this
          have a4 : t = ⟨(be 1 K').toArray⟩ ++ (gz t).1 := a4
          rw [a4, b4, c4, d4, z2, app_nil]
        · obtain ⟨t0, t1, t2, t3⟩ := tB g
          have eF : mgetF t = rdEnd (n1 (gz t) 1).1 (n1 (gz t) 1).2 := by unfold mgetF; rw [t1, t2]; rfl
          have eR : mgetR t = ⟨gK t, nO (gz t) 1, 0, 0, St.nil, 0⟩ := by unfold mgetR; rw [t1, t2, t3]; rfl
          rw [eF] at hF
          obtain ⟨z1, z2⟩ := end_back _ _ hF
          obtain ⟨b1', X, b2, b3, b4⟩ := n1_b1 _ z1
          obtain ⟨a1, K, a2, a3, a4⟩ := n1_b1 (t, 0) b1'
          have hmk : (mgetR t).k = gK t := by rw [eR]
          obtain ⟨K', X', hm, _, _, e⟩ := mput_B (m := mgetR t) (by rw [hmk]; exact g) h
          rw [e]
          rw [eR] at hm
          injection hm with e1 e2 e3 e4 e5 e6
          have : K' = K := by have : gK t = K := a2; omega
          subst this
          have : X' = X := by omega
          subst this
          have a4 : t = ⟨(be 1 K').toArray⟩ ++ (gz t).1 := a4
          rw [a4, b4, z2, app_nil]
        · obtain ⟨t0, t1, t2, t3⟩ := tC g
          have eF : mgetF t = (if rdEnd (n1 (gz t) 1).1 (n1 (gz t) 1).2 = 1 then 1 else getE (n1 (gz t) 1).1) := by unfold mgetF; rw [t1, t2]; rfl
          have eR : mgetR t = ⟨gK t, nO (gz t) 1, 0, 0, getSt (n1 (gz t) 1).1, 0⟩ := by unfold mgetR; rw [t1, t2]; rfl
          rw [eF] at hF
          split at hF
          · cases hF
          · rename_i hne
            obtain ⟨q1, q2⟩ := get_put _ hF
            have hz : (n1 (gz t) 1).2 = 0 := by
              have hmk : (mgetR t).k = gK t := by rw [eR]
              -- a reader that failed leaves an error that is no zero; what it failed with is 1 here
              by_cases hz : (n1 (gz t) 1).2 = 0
              · exact hz
              · exfalso
                have hfail : ∀ (z : Rr), z.2 = 0 ∨ z.2 = 1 → (n1 z 1).2 = 0 ∨ (n1 z 1).2 = 1 := fun z hz => by
                  unfold n1 nmErr
                  simp only
                  rw [if_pos (by decide)]
                  unfold rdErr
                  split
                  · split
                    · omega
                    · split
                      · exact .inr rfl
                      · exact .inl rfl
                  · exact hz
                have h1 := hfail (gz t) (hfail (t, 0) (.inl rfl))
                rcases h1 with h1 | h1
                · exact hz h1
                · apply hne
                  unfold rdEnd
                  rw [if_neg (by omega)]
                  exact h1
            obtain ⟨b1', X, b2, b3, b4⟩ := n1_b1 _ hz
            obtain ⟨a1, K, a2, a3, a4⟩ := n1_b1 (t, 0) b1'
            have hmk : (mgetR t).k = gK t := by rw [eR]
            obtain ⟨X', hm, _, _, e⟩ := mput_C (m := mgetR t) (by rw [hmk]; exact g) h
            have hms : (mgetR t).s = getSt (n1 (gz t) 1).1 := by rw [eR]
            rw [e, hms, q2]
            rw [eR] at hm
            injection hm with e1 e2 e3 e4 e5 e6
            have : X' = X := by omega
            subst this
            have : K = 3 := by have : gK t = K := a2; omega
            subst this
            have a4 : t = ⟨(be 1 3).toArray⟩ ++ (gz t).1 := a4
            rw [← b4]
            exact a4.symm
        · obtain ⟨t0, t1, t2, t3⟩ := tD g
          have eF : mgetF t = rdEnd (n1 (gz t) 1).1 (n1 (gz t) 1).2 := by unfold mgetF; rw [t1, t2]; rfl
          have eR : mgetR t = ⟨gK t, 0, 0, 0, St.nil, nO (gz t) 1⟩ := by unfold mgetR; rw [t1, t2, t3]; rfl
          rw [eF] at hF
          obtain ⟨z1, z2⟩ := end_back _ _ hF
          obtain ⟨b1', X, b2, b3, b4⟩ := n1_b1 _ z1
          obtain ⟨a1, K, a2, a3, a4⟩ := n1_b1 (t, 0) b1'
          have hmk : (mgetR t).k = gK t := by rw [eR]
          obtain ⟨K', X', hm, _, _, e⟩ := mput_D (m := mgetR t) (by rw [hmk]; exact g) h
          rw [e]
          rw [eR] at hm
          injection hm with e1 e2 e3 e4 e5 e6
          have : K' = K := by have : gK t = K := a2; omega
          subst this
          have : X' = X := by omega
          subst this
          have a4 : t = ⟨(be 1 K').toArray⟩ ++ (gz t).1 := a4
          rw [a4, b4, z2, app_nil]
      · rename_i g; exact absurd h g
/-- how long a message's bytes are is said by two of them -/
theorem mput_len (m : Mg) (h : mchk m = 0) : (mput m).size = msz (gd (mput m) 0) (gd (mput m) 2) ∧ 2 ≤ (mput m).size := by
  rcases kinds m.k with g | g | g | g | g
  · rw [mchk_x g] at h; cases h
  · obtain ⟨K, X, A, B, hm, hK, hX, hA, hB, e⟩ := mput_A g h
    have hkm : m.k = K := by rw [hm]
    have hs : (mput m).size = 16 := by rw [e, size1, size1, size7, be_size]
    rw [hs]
    have h0 : gd (mput m) 0 = K := by rw [e, be1_get K _ hK]
    rw [h0]
    refine ⟨?_, by omega⟩
    unfold msz
    rw [if_pos (by omega)]
  · obtain ⟨K, X, hm, hK, hX, e⟩ := mput_B g h
    have hkm : m.k = K := by rw [hm]
    have hs : (mput m).size = 2 := by rw [e, size1, be_size]
    rw [hs]
    have h0 : gd (mput m) 0 = K := by rw [e, be1_get K _ hK]
    rw [h0]
    refine ⟨?_, by omega⟩
    unfold msz
    rw [if_neg (by omega), if_neg (by omega)]
  · obtain ⟨X, hm, hX, hcs, e⟩ := mput_C g h
    obtain ⟨p1, p2⟩ := putSt_len m.s hcs
    have hs : (mput m).size = 2 + (putSt m.s).size := by rw [e, size1, size1]; omega
    have h0 : gd (mput m) 0 = 3 := by rw [e, be1_get 3 _ (by decide)]
    have h2 : gd (mput m) 2 = gd (putSt m.s) 0 := by
      rw [e]
      have q1 := gd_app (⟨(be 1 3).toArray⟩ : ByteArray) ((⟨(be 1 X).toArray⟩ : ByteArray) ++ putSt m.s) 1
      have q2 := gd_app (⟨(be 1 X).toArray⟩ : ByteArray) (putSt m.s) 0
      rw [be_size] at q1 q2
      exact q1.trans q2
    rw [h0, h2, hs]
    unfold msz
    by_cases hk : m.s.k = 0
    · rw [if_pos hk] at p1
      rw [p1, if_neg (by omega), if_pos rfl, if_pos (by omega)]
      exact ⟨rfl, by omega⟩
    · rw [if_neg hk] at p1
      rw [p1, if_neg (by omega), if_pos rfl, if_neg (by omega)]
      exact ⟨rfl, by omega⟩
  · obtain ⟨K, X, hm, hK, hX, e⟩ := mput_D g h
    have hkm : m.k = K := by rw [hm]
    have hs : (mput m).size = 2 := by rw [e, size1, be_size]
    rw [hs]
    have h0 : gd (mput m) 0 = K := by rw [e, be1_get K _ hK]
    rw [h0]
    refine ⟨?_, by omega⟩
    unfold msz
    rw [if_neg (by omega), if_neg (by omega)]
theorem mget_len (t : ByteArray) (h : mgetE t = 0) : t.size = msz (gd t 0) (gd t 2) ∧ 2 ≤ t.size := by
  obtain ⟨h1, h2⟩ := mget_put t h
  have := mput_len (mget t) h1
  rw [h2] at this
  exact this
theorem gd_left (x y : ByteArray) (i : Nat) (h : i < x.size) : gd (x ++ y) i = gd x i := by
  unfold gd
  have : (x ++ y).data = x.data ++ y.data := by simp
  rw [this, Array.getD_eq_getD_getElem?, Array.getD_eq_getD_getElem?, Array.getElem?_append_left h]
theorem msz_3 {k c d : Nat} (h : msz k c = 2 ∨ msz k c = 16) : msz k d = msz k c := by
  unfold msz at *
  split
  · rfl
  · rename_i g1
    rw [if_neg g1] at h
    split
    · rename_i g2
      rw [if_pos g2] at h
      split at h <;> omega
    · rfl
theorem msz_v (k c : Nat) : msz k c = 2 ∨ msz k c = 16 ∨ msz k c = 145 ∨ msz k c = 287 := by
  unfold msz
  split
  · omega
  · split
    · split <;> omega
    · omega
/-- a message with more behind is none -/
theorem more_none (x y : ByteArray) (hx : mgetE x = 0) (h : mgetE (x ++ y) = 0) : y.size = 0 := by
  obtain ⟨a1, a2⟩ := mget_len x hx
  obtain ⟨b1', b2⟩ := mget_len (x ++ y) h
  rw [gd_left x y 0 (by omega), ByteArray.size_append] at b1'
  rcases msz_v (gd x 0) (gd x 2) with g | g | g | g
  · rw [msz_3 (.inl g)] at b1'; omega
  · rw [msz_3 (.inr g)] at b1'; omega
  · rw [gd_left x y 2 (by omega)] at b1'; omega
  · rw [gd_left x y 2 (by omega)] at b1'; omega
/-- what is cut short is none -/
theorem less_none (x : ByteArray) (j : Nat) (hx : mgetE x = 0) (hj : j < x.size) : mgetE (x.extract 0 j) ≠ 0 := by
  intro h
  have e : x = x.extract 0 j ++ x.extract j x.size := by
    apply ba_data
    rw [app_list, ext_list, ext_list, List.drop_zero, Nat.sub_zero, List.take_of_length_le (l := List.drop _ _) (by rw [List.length_drop, data_len]; omega)]
    exact (List.take_append_drop _ _).symm
  rw [e] at hx
  have := more_none _ _ h hx
  rw [ByteArray.size_extract] at this
  omega
end Go.Proofs.Ytemfdmbjlmiopaa
