/-
  Rows of rules, conflicts, commands and numbers (chapter 42).
-/
import Derived.Test.YtnflnaalpeeciaaDoorGRow
import Derived.Test.YtnflnaalpeeciaaDoorPol1
namespace Go.Proofs.YtnflnaalpeeciaaDoor
open Go.RowKit
set_option linter.unusedVariables false
set_option linter.unusedSimpArgs false

abbrev rlE (r : Rl) : List Value := [.int .i64 r.k, .int .i64 r.a, .int .i64 r.b]
abbrev prE (p : Pr) : List Value := [.int .i64 p.x, .int .i64 p.a1, .int .i64 p.a2, .string p.ad, .int .i64 p.b1, .int .i64 p.b2, .string p.bd]
abbrev cmE (c : Int × Int) : List Value := [.int .i64 3, .int .i64 c.1, .int .i64 c.2, .string ByteArray.empty]
abbrev nE (n : Nat) : List Value := [.int .i64 n]
def FR : Fl Rl where
  T := 29
  Ts := 22
  k := 3
  bytes := 24
  zero := .agg #[.int .i64 0, .int .i64 0, .int .i64 0]
  fl := rlE
  len _ := rfl
  one x u hu := by
    simp at hu
    rcases hu with rfl | rfl | rfl <;> rfl
  pos := by decide
  small := by decide
  under := Tryd.underlying22
  info := by kernel_rfl
  zlen := rfl
def FP : Fl Pr where
  T := 41
  Ts := 23
  k := 7
  bytes := 72
  zero := .agg #[.int .i64 0, .int .i64 0, .int .i64 0, .string ByteArray.empty, .int .i64 0, .int .i64 0, .string ByteArray.empty]
  fl := prE
  len _ := rfl
  one x u hu := by
    simp at hu
    rcases hu with rfl | rfl | rfl | rfl | rfl | rfl | rfl <;> rfl
  pos := by decide
  small := by decide
  under := Tryd.underlying23
  info := by kernel_rfl
  zlen := rfl
def FC : Fl (Int × Int) where
  T := 45
  Ts := 31
  k := 4
  bytes := 40
  zero := .agg #[.int .i64 0, .int .i64 0, .int .i64 0, .string ByteArray.empty]
  fl := cmE
  len _ := rfl
  one x u hu := by
    simp at hu
    rcases hu with rfl | rfl | rfl | rfl <;> rfl
  pos := by decide
  small := by decide
  under := Tryd.underlying31
  info := by kernel_rfl
  zlen := rfl
def FI : Fl Nat where
  T := 3
  Ts := 26
  k := 1
  bytes := 8
  zero := .int .i64 0
  fl := nE
  len _ := rfl
  one x u hu := by
    simp at hu
    rcases hu with rfl; rfl
  pos := by decide
  small := by decide
  under := Tryd.underlying26
  info := by kernel_rfl
  zlen := rfl
theorem FR.at {w : World} {a : Option Addr} {n c : Nat} {l : List Rl} (h : FR.X w (.slice a n c) l) (i : Nat) (x : Rl) (hi : l[i]? = some x) :
    ∃ g o, a = some ⟨g, o, none⟩ ∧ w.cell? ⟨g, o + i * 3, none⟩ = some (.int .i64 x.k) ∧ w.cell? ⟨g, o + i * 3 + 1, none⟩ = some (.int .i64 x.a) ∧ w.cell? ⟨g, o + i * 3 + 2, none⟩ = some (.int .i64 x.b) := by
  obtain ⟨g, o, e, hc⟩ := h.get i x hi
  exact ⟨g, o, e, hc 0 _ rfl, hc 1 _ rfl, hc 2 _ rfl⟩
theorem FP.at {w : World} {a : Option Addr} {n c : Nat} {l : List Pr} (h : FP.X w (.slice a n c) l) (i : Nat) (x : Pr) (hi : l[i]? = some x) :
    ∃ g o, a = some ⟨g, o, none⟩ ∧ w.cell? ⟨g, o + i * 7, none⟩ = some (.int .i64 x.x) ∧ w.cell? ⟨g, o + i * 7 + 1, none⟩ = some (.int .i64 x.a1) ∧ w.cell? ⟨g, o + i * 7 + 2, none⟩ = some (.int .i64 x.a2) ∧ w.cell? ⟨g, o + i * 7 + 3, none⟩ = some (.string x.ad) ∧ w.cell? ⟨g, o + i * 7 + 4, none⟩ = some (.int .i64 x.b1) ∧ w.cell? ⟨g, o + i * 7 + 5, none⟩ = some (.int .i64 x.b2) ∧ w.cell? ⟨g, o + i * 7 + 6, none⟩ = some (.string x.bd) := by
  obtain ⟨g, o, e, hc⟩ := h.get i x hi
  exact ⟨g, o, e, hc 0 _ rfl, hc 1 _ rfl, hc 2 _ rfl, hc 3 _ rfl, hc 4 _ rfl, hc 5 _ rfl, hc 6 _ rfl⟩
theorem FC.at {w : World} {a : Option Addr} {n c : Nat} {l : List (Int × Int)} (h : FC.X w (.slice a n c) l) (i : Nat) (x : Int × Int) (hi : l[i]? = some x) :
    ∃ g o, a = some ⟨g, o, none⟩ ∧ w.cell? ⟨g, o + i * 4, none⟩ = some (.int .i64 3) ∧ w.cell? ⟨g, o + i * 4 + 1, none⟩ = some (.int .i64 x.1) ∧ w.cell? ⟨g, o + i * 4 + 2, none⟩ = some (.int .i64 x.2) ∧ w.cell? ⟨g, o + i * 4 + 3, none⟩ = some (.string ByteArray.empty) := by
  obtain ⟨g, o, e, hc⟩ := h.get i x hi
  exact ⟨g, o, e, hc 0 _ rfl, hc 1 _ rfl, hc 2 _ rfl, hc 3 _ rfl⟩
theorem FI.at {w : World} {a : Option Addr} {n c : Nat} {l : List Nat} (h : FI.X w (.slice a n c) l) (i : Nat) (x : Nat) (hi : l[i]? = some x) :
    ∃ g o, a = some ⟨g, o, none⟩ ∧ w.cell? ⟨g, o + i, none⟩ = some (.int .i64 x) := by
  obtain ⟨g, o, e, hc⟩ := h.get i x hi
  have := hc 0 _ rfl
  rw [show FI.k = 1 from rfl, Nat.mul_one] at this
  exact ⟨g, o, e, this⟩
def prV (p : Pr) : Value := .agg #[.int .i64 p.x, .int .i64 p.a1, .int .i64 p.a2, .string p.ad, .int .i64 p.b1, .int .i64 p.b2, .string p.bd]
def cmV (c : Int × Int) : Value := .agg #[.int .i64 3, .int .i64 c.1, .int .i64 c.2, .string ByteArray.empty]
structure HPr (W : World) (K : Nat) (p : Pr) : Prop where
  c0 : W.cell? ⟨K, 0, none⟩ = some (.int .i64 p.x)
  c1 : W.cell? ⟨K, 1, none⟩ = some (.int .i64 p.a1)
  c2 : W.cell? ⟨K, 2, none⟩ = some (.int .i64 p.a2)
  c3 : W.cell? ⟨K, 3, none⟩ = some (.string p.ad)
  c4 : W.cell? ⟨K, 4, none⟩ = some (.int .i64 p.b1)
  c5 : W.cell? ⟨K, 5, none⟩ = some (.int .i64 p.b2)
  c6 : W.cell? ⟨K, 6, none⟩ = some (.string p.bd)
theorem HPr.below {W W' : World} {K : Nat} {p : Pr} (h : HPr W K p) (hb : Below W.heap.size W W') : HPr W' K p := ⟨bkeep hb h.c0, bkeep hb h.c1, bkeep hb h.c2, bkeep hb h.c3, bkeep hb h.c4, bkeep hb h.c5, bkeep hb h.c6⟩
theorem HPr.new (W : World) (T : TypeId) (p : Pr) : HPr (W.alloc (.cells #[.int .i64 p.x, .int .i64 p.a1, .int .i64 p.a2, .string p.ad, .int .i64 p.b1, .int .i64 p.b2, .string p.bd] T)) W.heap.size p := ⟨by simp [go_sem], by simp [go_sem], by simp [go_sem], by simp [go_sem], by simp [go_sem], by simp [go_sem], by simp [go_sem]⟩
structure HCm (W : World) (K : Nat) (c : Int × Int) : Prop where
  c0 : W.cell? ⟨K, 0, none⟩ = some (.int .i64 3)
  c1 : W.cell? ⟨K, 1, none⟩ = some (.int .i64 c.1)
  c2 : W.cell? ⟨K, 2, none⟩ = some (.int .i64 c.2)
  c3 : W.cell? ⟨K, 3, none⟩ = some (.string ByteArray.empty)
theorem HCm.below {W W' : World} {K : Nat} {c : Int × Int} (h : HCm W K c) (hb : Below W.heap.size W W') : HCm W' K c := ⟨bkeep hb h.c0, bkeep hb h.c1, bkeep hb h.c2, bkeep hb h.c3⟩
theorem HCm.new (W : World) (T : TypeId) (c : Int × Int) : HCm (W.alloc (.cells #[.int .i64 3, .int .i64 c.1, .int .i64 c.2, .string ByteArray.empty] T)) W.heap.size c := ⟨by simp [go_sem], by simp [go_sem], by simp [go_sem], by simp [go_sem]⟩
end Go.Proofs.YtnflnaalpeeciaaDoor
