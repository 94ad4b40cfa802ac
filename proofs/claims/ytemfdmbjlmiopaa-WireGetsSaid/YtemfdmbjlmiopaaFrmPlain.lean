/-
  Frames as bytes (chapter 25): what is written, what is read, and that these are each other's.
-/
import Derived.Test.YtemfdmbjlmiopaaWirePlain2
import Derived.Test.YtemfdmbjlmiopaaSealBack
namespace Go.Proofs.Ytemfdmbjlmiopaa
open Go.RowKit
set_option linter.unusedVariables false
set_option linter.unusedSimpArgs false
structure Fr where
  n : Int
  fb : Int
  ft : Int
  tb : Int
  tt : Int
  s : Int
  a : Int
  b : ByteArray
abbrev FV (n fb ft tb tt s a : Int) (b : ByteArray) : Value := .agg #[.int .i64 n, .int .i64 fb, .int .i64 ft, .int .i64 tb, .int .i64 tt, .int .i64 s, .int .i64 a, .string b]
def Fr.nil : Fr := ⟨0, 0, 0, 0, 0, 0, 0, ⟨#[]⟩⟩
/-- whether numbers of one who speaks may be -/
def idB (b t least : Int) : Bool := decide (least ≤ b ∧ b < 4294967296 ∧ least ≤ t ∧ t < 4294967296)
def cntB (n : Int) : Bool := decide (0 ≤ n ∧ n ≤ 281474976710655)
def fchk (f : Fr) : Int :=
  if decide (0 ≤ f.n ∧ f.n ≤ 1) = false ∨ idB f.fb f.ft 1 = false ∨ idB f.tb f.tt 0 = false ∨ cntB f.s = false ∨ cntB f.a = false then 3
  else if f.s = 0 ∧ f.b.size ≠ 0 then 4 else 0
def fhead (f : Fr) : ByteArray := putS (putS (putS (putS (putS (putS (putS ⟨#[]⟩ f.n 1) f.fb 4) f.ft 4) f.tb 4) f.tt 4) f.s 6) f.a 6
def fputE (f : Fr) : Int := if fchk f = 0 then putE 9 (fhead f ++ f.b) else fchk f
def fputS (f : Fr) : ByteArray := if fchk f = 0 then sealS 9 (fhead f ++ f.b) else ⟨#[]⟩
def fz1 (t : ByteArray) : Rr := n1 (t, 0) 1
def fz2 (t : ByteArray) : Rr := n1 (fz1 t) 4
def fz3 (t : ByteArray) : Rr := n1 (fz2 t) 4
def fz4 (t : ByteArray) : Rr := n1 (fz3 t) 4
def fz5 (t : ByteArray) : Rr := n1 (fz4 t) 4
def fz6 (t : ByteArray) : Rr := n1 (fz5 t) 6
def fz7 (t : ByteArray) : Rr := n1 (fz6 t) 6
/-- the frame that is read -/
def fR (t : ByteArray) : Fr := ⟨nO (t, 0) 1, nO (fz1 t) 4, nO (fz2 t) 4, nO (fz3 t) 4, nO (fz4 t) 4, nO (fz5 t) 6, nO (fz6 t) 6, t.extract 29 t.size⟩
def fgetE (s : ByteArray) : Int := if sealE s ≠ 0 then sealE s else if getK s ≠ 9 then 7 else if (getB s).size < 29 then 1 else fputE (fR (getB s))
def fget (s : ByteArray) : Fr := if fgetE s = 0 then fR (getB s) else Fr.nil
theorem put4 (s : ByteArray) (m : Nat) (h : m < 256 ^ 4) : putS s (m : Int) 4 = s ++ ⟨(be 4 m).toArray⟩ := putn_eq s m 4 (by decide) (by decide) h
theorem put6 (s : ByteArray) (m : Nat) (h : m < 256 ^ 6) : putS s (m : Int) 6 = s ++ ⟨(be 6 m).toArray⟩ := putn_eq s m 6 (by decide) (by decide) h
theorem nm4 (m : Nat) (y : ByteArray) (h : m < 256 ^ 4) : nO ((⟨(be 4 m).toArray⟩ : ByteArray) ++ y, 0) 4 = m ∧ n1 ((⟨(be 4 m).toArray⟩ : ByteArray) ++ y, 0) 4 = (y, 0) := nm_app 4 m y (by decide) (by decide) h
theorem nm6 (m : Nat) (y : ByteArray) (h : m < 256 ^ 6) : nO ((⟨(be 6 m).toArray⟩ : ByteArray) ++ y, 0) 6 = m ∧ n1 ((⟨(be 6 m).toArray⟩ : ByteArray) ++ y, 0) 6 = (y, 0) := nm_app 6 m y (by decide) (by decide) h
theorem size4 (m : Nat) (y : ByteArray) : ((⟨(be 4 m).toArray⟩ : ByteArray) ++ y).size = 4 + y.size := by rw [ByteArray.size_append, be_size]
theorem size6 (m : Nat) (y : ByteArray) : ((⟨(be 6 m).toArray⟩ : ByteArray) ++ y).size = 6 + y.size := by rw [ByteArray.size_append, be_size]
theorem n1_b4 (z : Rr) (h : (n1 z 4).2 = 0) : z.2 = 0 ∧ ∃ m : Nat, nO z 4 = m ∧ m < 256 ^ 4 ∧ z.1 = (⟨(be 4 m).toArray⟩ : ByteArray) ++ (n1 z 4).1 := by
  obtain ⟨a, m, b, c, d⟩ := n1_back z 4 (by decide) (by decide) h
  exact ⟨a, m, b, c, d⟩
theorem n1_b6 (z : Rr) (h : (n1 z 6).2 = 0) : z.2 = 0 ∧ ∃ m : Nat, nO z 6 = m ∧ m < 256 ^ 6 ∧ z.1 = (⟨(be 6 m).toArray⟩ : ByteArray) ++ (n1 z 6).1 := by
  obtain ⟨a, m, b, c, d⟩ := n1_back z 6 (by decide) (by decide) h
  exact ⟨a, m, b, c, d⟩
/-- a number that is there is read -/
theorem n1_ok (z : Rr) (k : Nat) (h1 : 1 ≤ k) (h7 : k ≤ 7) (hz : z.2 = 0) (hk : k ≤ z.1.size) : (n1 z k).2 = 0 ∧ (n1 z k).1.size = z.1.size - k := by
  obtain ⟨x, e⟩ := z
  simp only at hz hk
  subst hz
  have hw : widthB (k : Int) = true := decide_eq_true ⟨by omega, by omega⟩
  have he : rdErr x 0 k = 0 := by unfold rdErr; rw [if_pos rfl, if_neg (by omega), if_neg (by omega)]
  unfold n1 nmErr nmRest
  simp only
  rw [if_pos hw, if_pos hw]
  refine ⟨he, ?_⟩
  unfold rdRest
  rw [if_pos he, ByteArray.size_extract]
  omega
theorem fz_all (t : ByteArray) (h : 29 ≤ t.size) : ∃ N A B C D S K : Nat, nO (t, 0) 1 = N ∧ nO (fz1 t) 4 = A ∧ nO (fz2 t) 4 = B ∧ nO (fz3 t) 4 = C ∧ nO (fz4 t) 4 = D ∧ nO (fz5 t) 6 = S ∧ nO (fz6 t) 6 = K ∧ N < 256 ∧ A < 256 ^ 4 ∧ B < 256 ^ 4 ∧ C < 256 ^ 4 ∧ D < 256 ^ 4 ∧ S < 256 ^ 6 ∧ K < 256 ^ 6 ∧
    t = ⟨(be 1 N).toArray⟩ ++ (⟨(be 4 A).toArray⟩ ++ (⟨(be 4 B).toArray⟩ ++ (⟨(be 4 C).toArray⟩ ++ (⟨(be 4 D).toArray⟩ ++ (⟨(be 6 S).toArray⟩ ++ (⟨(be 6 K).toArray⟩ ++ t.extract 29 t.size)))))) ∧ fz7 t = (t.extract 29 t.size, 0) := by
  obtain ⟨a1, a2⟩ := n1_ok (t, 0) 1 (by decide) (by decide) rfl (by show 1 ≤ t.size; omega)
  have a2 : (fz1 t).1.size = t.size - 1 := a2
  obtain ⟨b1', b2⟩ := n1_ok (fz1 t) 4 (by decide) (by decide) a1 (by omega)
  have b2 : (fz2 t).1.size = (fz1 t).1.size - 4 := b2
  obtain ⟨c1, c2⟩ := n1_ok (fz2 t) 4 (by decide) (by decide) b1' (by omega)
  have c2 : (fz3 t).1.size = (fz2 t).1.size - 4 := c2
  obtain ⟨d1, d2⟩ := n1_ok (fz3 t) 4 (by decide) (by decide) c1 (by omega)
  have d2 : (fz4 t).1.size = (fz3 t).1.size - 4 := d2
  obtain ⟨e1, e2⟩ := n1_ok (fz4 t) 4 (by decide) (by decide) d1 (by omega)
  have e2 : (fz5 t).1.size = (fz4 t).1.size - 4 := e2
  obtain ⟨f1, f2⟩ := n1_ok (fz5 t) 6 (by decide) (by decide) e1 (by omega)
  have f2 : (fz6 t).1.size = (fz5 t).1.size - 6 := f2
  obtain ⟨g1, g2⟩ := n1_ok (fz6 t) 6 (by decide) (by decide) f1 (by omega)
  have g1 : (fz7 t).2 = 0 := g1
  obtain ⟨-, N, n1', n2, n3⟩ := n1_b1 (t, 0) a1
  obtain ⟨-, A, A1, A2, A3⟩ := n1_b4 (fz1 t) b1'
  obtain ⟨-, B, B1, B2, B3⟩ := n1_b4 (fz2 t) c1
  obtain ⟨-, C, C1, C2, C3⟩ := n1_b4 (fz3 t) d1
  obtain ⟨-, D, D1, D2, D3⟩ := n1_b4 (fz4 t) e1
  obtain ⟨-, S, S1, S2, S3⟩ := n1_b6 (fz5 t) f1
  obtain ⟨-, K, K1, K2, K3⟩ := n1_b6 (fz6 t) g1
  have n3 : t = ⟨(be 1 N).toArray⟩ ++ (fz1 t).1 := n3
  have A3 : (fz1 t).1 = ⟨(be 4 A).toArray⟩ ++ (fz2 t).1 := A3
  have B3 : (fz2 t).1 = ⟨(be 4 B).toArray⟩ ++ (fz3 t).1 := B3
  have C3 : (fz3 t).1 = ⟨(be 4 C).toArray⟩ ++ (fz4 t).1 := C3
  have D3 : (fz4 t).1 = ⟨(be 4 D).toArray⟩ ++ (fz5 t).1 := D3
  have S3 : (fz5 t).1 = ⟨(be 6 S).toArray⟩ ++ (fz6 t).1 := S3
  have K3 : (fz6 t).1 = ⟨(be 6 K).toArray⟩ ++ (fz7 t).1 := K3
  have hx : t = ⟨(be 1 N).toArray⟩ ++ (⟨(be 4 A).toArray⟩ ++ (⟨(be 4 B).toArray⟩ ++ (⟨(be 4 C).toArray⟩ ++ (⟨(be 4 D).toArray⟩ ++ (⟨(be 6 S).toArray⟩ ++ (⟨(be 6 K).toArray⟩ ++ (fz7 t).1)))))) := by
    rw [← K3, ← S3, ← D3, ← C3, ← B3, ← A3, ← n3]
  have h7 : t.extract 29 t.size = (fz7 t).1 := by
    have h2 := ext_right ((⟨(be 1 N).toArray⟩ : ByteArray) ++ (⟨(be 4 A).toArray⟩ ++ (⟨(be 4 B).toArray⟩ ++ (⟨(be 4 C).toArray⟩ ++ (⟨(be 4 D).toArray⟩ ++ (⟨(be 6 S).toArray⟩ ++ ⟨(be 6 K).toArray⟩)))))) (fz7 t).1
    have hs : ((⟨(be 1 N).toArray⟩ : ByteArray) ++ (⟨(be 4 A).toArray⟩ ++ (⟨(be 4 B).toArray⟩ ++ (⟨(be 4 C).toArray⟩ ++ (⟨(be 4 D).toArray⟩ ++ (⟨(be 6 S).toArray⟩ ++ ⟨(be 6 K).toArray⟩)))))).size = 29 := by
      rw [size1, size4, size4, size4, size4, size6, be_size]
    have hj : ((⟨(be 1 N).toArray⟩ : ByteArray) ++ (⟨(be 4 A).toArray⟩ ++ (⟨(be 4 B).toArray⟩ ++ (⟨(be 4 C).toArray⟩ ++ (⟨(be 4 D).toArray⟩ ++ (⟨(be 6 S).toArray⟩ ++ ⟨(be 6 K).toArray⟩)))))) ++ (fz7 t).1 = t := by
      rw [ByteArray.append_assoc, ByteArray.append_assoc, ByteArray.append_assoc, ByteArray.append_assoc, ByteArray.append_assoc, ByteArray.append_assoc]
      exact hx.symm
    rw [hs, hj] at h2
    exact h2
  refine ⟨N, A, B, C, D, S, K, n1', A1, B1, C1, D1, S1, K1, n2, A2, B2, C2, D2, S2, K2, ?_, ?_⟩
  · rw [h7]; exact hx
  · rw [h7]; exact Prod.ext rfl g1
theorem fhead_eq (N A B C D S K : Nat) (b : ByteArray) (n2 : N < 256) (A2 : A < 256 ^ 4) (B2 : B < 256 ^ 4) (C2 : C < 256 ^ 4) (D2 : D < 256 ^ 4) (S2 : S < 256 ^ 6) (K2 : K < 256 ^ 6) :
    fhead ⟨N, A, B, C, D, S, K, b⟩ ++ b = ⟨(be 1 N).toArray⟩ ++ (⟨(be 4 A).toArray⟩ ++ (⟨(be 4 B).toArray⟩ ++ (⟨(be 4 C).toArray⟩ ++ (⟨(be 4 D).toArray⟩ ++ (⟨(be 6 S).toArray⟩ ++ (⟨(be 6 K).toArray⟩ ++ b)))))) := by
  unfold fhead
  simp only
  rw [put1 _ N n2, put4 _ A A2, put4 _ B B2, put4 _ C C2, put4 _ D D2, put6 _ S S2, put6 _ K K2, nil_app]
  simp only [ByteArray.append_assoc]
/-- what is read, written again -/
theorem fR_put (t : ByteArray) (h : 29 ≤ t.size) : fhead (fR t) ++ (fR t).b = t := by
  obtain ⟨N, A, B, C, D, S, K, n1', A1, B1, C1, D1, S1, K1, n2, A2, B2, C2, D2, S2, K2, ht, -⟩ := fz_all t h
  unfold fR
  rw [n1', A1, B1, C1, D1, S1, K1]
  simp only
  rw [fhead_eq N A B C D S K (t.extract 29 t.size) n2 A2 B2 C2 D2 S2 K2]
  exact ht.symm
/-- the frame that is written may be read -/
theorem fput_R (f : Fr) (h : fchk f = 0) : 29 ≤ (fhead f ++ f.b).size ∧ fR (fhead f ++ f.b) = f := by
  obtain ⟨n, fb, ft, tb, tt, s, a, b⟩ := f
  unfold fchk at h
  split at h
  · cases h
  · rename_i h0
    simp only [not_or, Bool.not_eq_false] at h0
    obtain ⟨h1, h2, h3, h4, h5⟩ := h0
    have h1 := of_decide_eq_true h1
    have h2 := of_decide_eq_true h2
    have h3 := of_decide_eq_true h3
    have h4 := of_decide_eq_true h4
    have h5 := of_decide_eq_true h5
    obtain ⟨N, rfl⟩ := nat_of (x := n) (by omega)
    obtain ⟨A, rfl⟩ := nat_of (x := fb) (by omega)
    obtain ⟨B, rfl⟩ := nat_of (x := ft) (by omega)
    obtain ⟨C, rfl⟩ := nat_of (x := tb) (by omega)
    obtain ⟨D, rfl⟩ := nat_of (x := tt) (by omega)
    obtain ⟨S, rfl⟩ := nat_of (x := s) (by omega)
    obtain ⟨K, rfl⟩ := nat_of (x := a) (by omega)
    have p4 : (256 : Nat) ^ 4 = 4294967296 := by decide
    have p6 : (256 : Nat) ^ 6 = 281474976710656 := by decide
    have n2 : N < 256 := by omega
    have A2 : A < 256 ^ 4 := by omega
    have B2 : B < 256 ^ 4 := by omega
    have C2 : C < 256 ^ 4 := by omega
    have D2 : D < 256 ^ 4 := by omega
    have S2 : S < 256 ^ 6 := by omega
    have K2 : K < 256 ^ 6 := by omega
    have e := fhead_eq N A B C D S K b n2 A2 B2 C2 D2 S2 K2
    simp only at e ⊢
    have hz : (fhead ⟨N, A, B, C, D, S, K, b⟩ ++ b).size = 29 + b.size := by
      rw [e, size1, size4, size4, size4, size4, size6, size6]; omega
    refine ⟨by omega, ?_⟩
    have hx : (fhead ⟨N, A, B, C, D, S, K, b⟩ ++ b).extract 29 (fhead ⟨N, A, B, C, D, S, K, b⟩ ++ b).size = b := ext_back _ _ _ (by rw [ByteArray.size_append] at hz; omega)
    unfold fR
    rw [hx, e]
    unfold fz6 fz5 fz4 fz3 fz2 fz1
    obtain ⟨q1, q2⟩ := nm1 N (⟨(be 4 A).toArray⟩ ++ (⟨(be 4 B).toArray⟩ ++ (⟨(be 4 C).toArray⟩ ++ (⟨(be 4 D).toArray⟩ ++ (⟨(be 6 S).toArray⟩ ++ (⟨(be 6 K).toArray⟩ ++ b)))))) n2
    obtain ⟨q3, q4⟩ := nm4 A (⟨(be 4 B).toArray⟩ ++ (⟨(be 4 C).toArray⟩ ++ (⟨(be 4 D).toArray⟩ ++ (⟨(be 6 S).toArray⟩ ++ (⟨(be 6 K).toArray⟩ ++ b))))) A2
    obtain ⟨q5, q6⟩ := nm4 B (⟨(be 4 C).toArray⟩ ++ (⟨(be 4 D).toArray⟩ ++ (⟨(be 6 S).toArray⟩ ++ (⟨(be 6 K).toArray⟩ ++ b)))) B2
    obtain ⟨q7, q8⟩ := nm4 C (⟨(be 4 D).toArray⟩ ++ (⟨(be 6 S).toArray⟩ ++ (⟨(be 6 K).toArray⟩ ++ b))) C2
    obtain ⟨q9, q10⟩ := nm4 D (⟨(be 6 S).toArray⟩ ++ (⟨(be 6 K).toArray⟩ ++ b)) D2
    obtain ⟨q11, q12⟩ := nm6 S (⟨(be 6 K).toArray⟩ ++ b) S2
    obtain ⟨q13, q14⟩ := nm6 K b K2
    rw [q2, q4, q6, q8, q10, q12, q1, q3, q5, q7, q9, q11, q13]
/-- what is put is got -/
theorem fput_get (f : Fr) (h : fputE f = 0) : fgetE (fputS f) = 0 ∧ fget (fputS f) = f := by
  have hc : fchk f = 0 := by
    unfold fputE at h
    split at h
    · rename_i hq; exact hq
    · exact h
  have hE : fputE f = putE 9 (fhead f ++ f.b) := if_pos hc
  have hS : fputS f = sealS 9 (fhead f ++ f.b) := if_pos hc
  have hp : putE 9 (fhead f ++ f.b) = 0 := hE ▸ h
  obtain ⟨h29, hR⟩ := fput_R f hc
  obtain ⟨k, hk9, hk, hb⟩ := putE_ok hp
  have hkk : k = 9 := by omega
  subst hkk
  obtain ⟨g1, g2, g3, g4, _⟩ := fir_seal 9 (fhead f ++ f.b) ⟨#[]⟩ hk hb
  rw [app_nil] at g1 g2 g3 g4
  have hS2 : fputS f = headS 9 (fhead f ++ f.b) ++ tailS (headS 9 (fhead f ++ f.b)) := hS.trans (put_good hp).1
  rw [hS2]
  have g4 : firR (headS 9 (fhead f ++ f.b) ++ tailS (headS 9 (fhead f ++ f.b))) = ⟨#[]⟩ := g4
  have hg : sealE (headS 9 (fhead f ++ f.b) ++ tailS (headS 9 (fhead f ++ f.b))) = 0 := fir_get g1 (by rw [g4]; rfl)
  obtain ⟨u1, u2, _⟩ := get_good hg
  have g2 : firK (headS 9 (fhead f ++ f.b) ++ tailS (headS 9 (fhead f ++ f.b))) = 9 := g2
  have g3 : firB (headS 9 (fhead f ++ f.b) ++ tailS (headS 9 (fhead f ++ f.b))) = fhead f ++ f.b := g3
  rw [g2] at u1
  rw [g3] at u2
  generalize headS 9 (fhead f ++ f.b) ++ tailS (headS 9 (fhead f ++ f.b)) = s at *
  have hGE : fgetE s = 0 := by
    unfold fgetE
    rw [if_neg (by simpa using hg), if_neg (by simpa using u1), if_neg (by rw [u2]; omega), u2, hR]
    exact h
  refine ⟨hGE, ?_⟩
  unfold fget
  rw [if_pos hGE, u2, hR]
/-- what is got is put -/
theorem fget_put (s : ByteArray) (h : fgetE s = 0) : fputE (fget s) = 0 ∧ fputS (fget s) = s := by
  have hG : fget s = fR (getB s) := if_pos h
  rw [hG]
  unfold fgetE at h
  split at h
  · rename_i h1; exact absurd h h1
  · rename_i h1
    have h1 := Classical.not_not.1 h1
    split at h
    · cases h
    · rename_i h2
      have h2 := Classical.not_not.1 h2
      split at h
      · cases h
      · rename_i h3
        refine ⟨h, ?_⟩
        have hc : fchk (fR (getB s)) = 0 := by
          unfold fputE at h
          split at h
          · rename_i hq; exact hq
          · exact h
        have hS : fputS (fR (getB s)) = sealS 9 (fhead (fR (getB s)) ++ (fR (getB s)).b) := if_pos hc
        rw [hS, fR_put (getB s) (by omega)]
        have := (seal_put_get s h1).2
        rw [h2] at this
        exact this
end Go.Proofs.Ytemfdmbjlmiopaa
