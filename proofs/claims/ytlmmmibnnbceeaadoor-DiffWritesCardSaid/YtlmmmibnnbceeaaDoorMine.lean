/-
  Small words of our own: readings of arguments whose types are flat (numbers, bools, strings, structs and arrays of these), slices of them, worlds behind calls.
-/
import Derived.Deep.Slices
import Derived.OpenShut
import Derived.Below
import Derived.WalkKit
import Derived.Deep.Draws
import Derived.Lib.Hide
import Derived.Lib.ConvBytes
namespace Go.Proofs.YtlmmmibnnbceeaaDoor
open Go.ChangeShapes Go.WideShapes Go.Deep Go.RowKit

/-- the kinds of cells -/
inductive LK where
  | int (k : IntKind)
  | bool
  | str
def LK.ok : LK → Value → Prop
  | .int k, v => ∃ n, v = .int k n ∧ (Lit.int k n).wf = true
  | .bool, v => ∃ b, v = .bool b
  | .str, v => ∃ s : ByteArray, v = .string s ∧ s.size ≤ maxLen
def OKs : List LK → List Value → Prop
  | [], [] => True
  | k :: ks, v :: vs => k.ok v ∧ OKs ks vs
  | _, _ => False
theorem OKs.len : ∀ {ks : List LK} {vs : List Value}, OKs ks vs → vs.length = ks.length
  | [], [], _ => rfl
  | _ :: _, _ :: _, h => by simp [OKs.len h.2]
  | [], _ :: _, h => h.elim
  | _ :: _, [], h => h.elim
theorem OKs.append : ∀ {ks : List LK} {vs : List Value} {ks' : List LK} {vs' : List Value}, OKs ks vs → OKs ks' vs' → OKs (ks ++ ks') (vs ++ vs')
  | [], [], _, _, _, h' => h'
  | _ :: _, _ :: _, _, _, h, h' => ⟨h.1, OKs.append h.2 h'⟩
  | [], _ :: _, _, _, h, _ => h.elim
  | _ :: _, [], _, _, h, _ => h.elim

def flatFields (P : Program) (g : TypeId → Option (List LK)) : List Field → List LK → Option (List LK)
  | [], acc => some acc
  | f :: fs, acc =>
    match g f.type with
    | some ks => if f.offset = acc.length ∧ P.cellsOf f.type = ks.length then flatFields P g fs (acc ++ ks) else none
    | none => none
def reps (ks : List LK) : Nat → List LK
  | 0 => []
  | n + 1 => reps ks n ++ ks
def flatOf (P : Program) : Nat → TypeId → Option (List LK)
  | 0, _ => none
  | n + 1, t =>
    match P.underlying t with
    | some .bool => some [.bool]
    | some (.int k) => some [.int k]
    | some .string => some [.str]
    | some (.struct fs) =>
      match flatFields P (flatOf P n) fs.toList [] with
      | some ks => if P.cellsOf t = ks.length then some ks else none
      | none => none
    | some (.array m e) =>
      match flatOf P n e with
      | some ks => if P.cellsOf e = ks.length ∧ P.cellsOf t = (reps ks m).length then some (reps ks m) else none
      | none => none
    | _ => none

section
variable {H : Type} {enc : TypeId × Value → H} {P : Program} {w : World} {base : Nat} {spare : Nat → Bool} {held : Bool}

theorem take_more (cs : List Value) (a b : Nat) : cs.take (a + b) = cs.take a ++ (cs.drop a).take b := by
  rw [List.take_add]

theorem flatFields_ok (g : TypeId → Option (List LK)) (cs : List Value)
    (hg : ∀ (t : TypeId) (ks : List LK) (m : Nat) (vs : List Value) (y : DataW H × List MemPlace), g t = some ks → DataW.trod enc P w base spare held m t vs = some y → OKs ks vs) :
    ∀ (fs : List Field) (acc ks : List LK) (m : Nat), flatFields P g fs acc = some ks → OKs acc (cs.take acc.length) →
      (∀ f ∈ fs, ∃ y, DataW.trod enc P w base spare held m f.type ((cs.drop f.offset).take (P.cellsOf f.type)) = some y) → OKs ks (cs.take ks.length)
  | [], acc, ks, _, h, ho, _ => by simp only [flatFields, Option.some.injEq] at h; subst h; exact ho
  | f :: fs, acc, ks, m, h, ho, hf => by
    simp only [flatFields] at h
    split at h
    · rename_i k2 hk
      split at h
      · rename_i hc
        obtain ⟨y, hy⟩ := hf f (by simp)
        rw [hc.1, hc.2] at hy
        refine flatFields_ok g cs hg fs (acc ++ k2) ks m h ?_ (fun f' hf' => hf f' (by simp [hf']))
        rw [List.length_append, take_more]
        exact ho.append (hg _ _ _ _ _ hk hy)
      · cases h
    · cases h

theorem reps_len (ks : List LK) : ∀ m, (reps ks m).length = m * ks.length
  | 0 => by simp [reps]
  | m + 1 => by simp [reps, reps_len ks m, Nat.add_mul]

theorem reps_ok (ks : List LK) (cs : List Value) : ∀ m, (∀ i, i < m → OKs ks ((cs.drop (i * ks.length)).take ks.length)) → OKs (reps ks m) (cs.take (m * ks.length))
  | 0, _ => by simp [reps, OKs]
  | m + 1, h => by
    rw [Nat.add_mul, Nat.one_mul, take_more]
    exact (reps_ok ks cs m fun i hi => h i (by omega)).append (h m (by omega))

theorem flat_ok : ∀ (n : Nat) (t : TypeId) (ks : List LK) (m : Nat) (cs : List Value) (x : DataW H × List MemPlace), flatOf P n t = some ks → DataW.trod enc P w base spare held m t cs = some x → OKs ks cs
  | 0, _, _, _, _, _, h, _ => by simp [flatOf] at h
  | n + 1, t, ks, m, cs, x, h, ht => by
    simp only [flatOf] at h
    split at h
    · rename_i hu
      injection h with h; subst h
      obtain ⟨b, rfl, _⟩ := DataW.trod_bool hu ht
      exact ⟨⟨b, rfl⟩, trivial⟩
    · rename_i k hu
      injection h with h; subst h
      obtain ⟨b, rfl, _, hw⟩ := DataW.trod_int hu ht
      exact ⟨⟨b, rfl, hw⟩, trivial⟩
    · rename_i hu
      injection h with h; subst h
      obtain ⟨b, rfl, _, hw⟩ := DataW.trod_string hu ht
      exact ⟨⟨b, rfl, hw⟩, trivial⟩
    · rename_i fs hu
      split at h
      · rename_i k2 hk
        split at h
        · rename_i hc
          injection h with h; subst h
          obtain ⟨xs, q, _, _, hl, hxl, hf⟩ := DataW.trod_struct hu ht
          have := flatFields_ok (enc := enc) (P := P) (w := w) (base := base) (spare := spare) (held := held) (flatOf P n) cs (fun t ks m vs y a b => flat_ok n t ks m vs y a b) fs.toList [] k2 q hk (by simp [OKs]) (fun f hfm => by
            obtain ⟨i, hi, rfl⟩ := List.mem_iff_getElem.1 hfm
            have hi' : i < fs.size := by simpa using hi
            have := hf i fs[i] (by simp [hi'])
            exact ⟨xs[i]'(by omega), by rw [show (fs.toList[i]) = fs[i] by simp]; rw [this]; exact List.getElem?_eq_getElem (by omega)⟩)
          rwa [← hc, ← hl, List.take_length] at this
        · cases h
      · cases h
    · rename_i q e hu
      split at h
      · rename_i k2 hk
        split at h
        · rename_i hc
          injection h with h; subst h
          obtain ⟨xs, z, _, _, hl, hxl, hf⟩ := DataW.trod_array hu ht
          have := reps_ok k2 cs q (fun i hi => by
            have h1 := hf i hi
            rw [hc.1] at h1
            exact flat_ok n e k2 z _ (xs[i]'(by omega)) hk (by rw [h1]; exact List.getElem?_eq_getElem (by omega)))
          rwa [← reps_len, ← hc.2, ← hl, List.take_length] at this
        · cases h
      · cases h
    · cases h

/-- an argument of a flat type, by value -/
theorem open_flat {t : TypeId} {v : Value} {d : DataW H} {p : List MemPlace} {ks : List LK} (n : Nat) (hk : flatOf P n t = some ks) (h : DataW.Trod enc P w base spare held t v d p) : OKs ks v.cells.toList := by
  obtain ⟨fuel, hf⟩ := h
  exact flat_ok n t ks fuel _ _ hk hf

/-- A slice of flat elements, told as a list: element i is 'l[i]', its cells are 'E l[i]'. -/
structure IsList {α : Type} (w : World) (a : Option Addr) (len : Nat) (size : Nat) (E : α → List Value) (ok : α → Prop) (l : List α) : Prop where
  size_eq : l.length = len
  most : len ≤ 9223372036854775807
  at_ : 0 < len → ∃ b o, a = some ⟨b, o, none⟩ ∧ ∀ i (h : i < l.length), ok l[i] ∧ ∀ j, j < size → w.cell? ⟨b, o + i * size + j, none⟩ = (E l[i])[j]?

theorem open_list {α : Type} [Inhabited α] {t e : TypeId} {a : Option Addr} {len cap : Nat} {d : DataW H} {p : List MemPlace} {ks : List LK} (n : Nat) (ht : P.underlying t = some (.slice e)) (hk : flatOf P n e = some ks) (hc : P.cellsOf e = ks.length) (hp : 0 < ks.length)
    (E : α → List Value) (ok : α → Prop) (hE : ∀ vs, OKs ks vs → ∃ x, vs = E x ∧ ok x) (hEl : ∀ x, (E x).length = ks.length) (h : DataW.Trod enc P w base spare held t (.slice a len cap) d p) :
    ∃ l : List α, IsList w a len ks.length E ok l := by
  obtain ⟨fuel, hf⟩ := h
  rcases open_slice ht hf with ⟨hcs, _⟩ | ⟨a', len', cap', m, q, D, Pl, hcs, _, hl, hm, hmm, _, hi⟩
  · simp [Value.cells] at hcs
    obtain ⟨rfl, rfl, rfl⟩ := hcs
    exact ⟨[], rfl, by omega, fun h => absurd h (by omega)⟩
  · simp [Value.cells] at hcs
    obtain ⟨rfl, rfl, rfl⟩ := hcs
    have hlm : len ≤ m := by rw [hmm]; split <;> omega
    obtain ⟨f, hf'⟩ := choose_lt (α := α) (n := len) (p := fun i x => ok x ∧ ∀ j, j < ks.length → w.cell? (a'.add (i * ks.length + j)) = (E x)[j]?) (fun i hi' => by
      obtain ⟨cs', h1, h2⟩ := hi i (by omega)
      obtain ⟨x, rfl, hx⟩ := hE cs' (flat_ok n e ks q cs' _ hk h2)
      rw [hc] at h1
      obtain ⟨_, hcl, hat⟩ := World.cells?_some h1
      exact ⟨x, hx, fun j hj => by rw [← add_add]; exact hat j hj⟩)
    refine ⟨(List.range len).map f, by simp, by unfold maxLen at hm; omega, fun hpos => ?_⟩
    obtain ⟨b, o, spot⟩ := a'
    have hspot : spot = none := by
      have h0 := (hf' 0 hpos).2 0 hp
      rw [List.getElem?_eq_getElem (by rw [hEl]; exact hp)] at h0
      simpa [Addr.add] using World.cell?_spot h0
    subst hspot
    refine ⟨b, o, rfl, fun i hi' => ?_⟩
    simp only [List.length_map, List.length_range] at hi'
    have h1 := hf' i hi'
    simp only [List.getElem_map, List.getElem_range]
    refine ⟨h1.1, fun j hj => ?_⟩
    have h2 := h1.2 j hj
    rw [Go.WideShapes.add_plain, ← Nat.add_assoc] at h2
    exact h2
end

theorem IsList.below {α : Type} {w w1 : World} {a : Option Addr} {len size : Nat} {E : α → List Value} {ok : α → Prop} {l : List α} (h : IsList w a len size E ok l) (hs : ∀ x, (E x).length = size) (hb : Below w.heap.size w w1) : IsList w1 a len size E ok l :=
  ⟨h.size_eq, h.most, fun hl => by
    obtain ⟨b, o, e, hc⟩ := h.at_ hl
    refine ⟨b, o, e, fun i hi => ⟨(hc i hi).1, fun j hj => ?_⟩⟩
    have h1 := (hc i hi).2 j hj
    rw [List.getElem?_eq_getElem (by rw [hs]; exact hj)] at h1 ⊢
    exact (hb.cell (World.block_lt_of_cell? w _ h1)).trans h1⟩

def strE (s : ByteArray) : List Value := [.string s]
def strOk (s : ByteArray) : Prop := s.size ≤ maxLen
theorem str_of (vs : List Value) (h : OKs [LK.str] vs) : ∃ x, vs = strE x ∧ strOk x := by
  match vs, h with
  | [c], h =>
    obtain ⟨⟨a, rfl, w⟩, _⟩ := h
    exact ⟨a, rfl, w⟩
def intE (k : IntKind) (n : Int) : List Value := [.int k n]
def intOk (k : IntKind) (n : Int) : Prop := (Lit.int k n).wf = true
theorem int_of (k : IntKind) (vs : List Value) (h : OKs [LK.int k] vs) : ∃ x, vs = intE k x ∧ intOk k x := by
  match vs, h with
  | [c], h =>
    obtain ⟨⟨a, rfl, w⟩, _⟩ := h
    exact ⟨a, rfl, w⟩
theorem OKs.cons {k : LK} {ks : List LK} {vs : List Value} (h : OKs (k :: ks) vs) : ∃ v r, vs = v :: r ∧ k.ok v ∧ OKs ks r := by
  cases vs with
  | nil => exact h.elim
  | cons v r => exact ⟨v, r, rfl, h.1, h.2⟩
theorem OKs.nil {vs : List Value} (h : OKs [] vs) : vs = [] := by
  cases vs with
  | nil => rfl
  | cons v r => exact h.elim
theorem bt {a b c : World} (h : Below a.heap.size a b) (k : Below b.heap.size b c) : Below a.heap.size a c := h.trans (k.mono h.size)
theorem bkeep {X Y : World} (hb : Below X.heap.size X Y) {p : Addr} {v : Value} (h : X.cell? p = some v) : Y.cell? p = some v := (hb.cell (World.block_lt_of_cell? _ _ h)).trans h
theorem bfree {X Y : World} (hb : Below X.heap.size X Y) {p : Addr} {v : Value} (h : X.cell? p = some v) (hf : X.frozen? p = false) : Y.frozen? p = false := (hb.frozen (World.block_lt_of_cell? _ _ h)).trans hf
theorem bdraws {B : Nat} {w W : World} (h : Below B w W) (n : Nat) : Below B w (W.drewN n) := ⟨h.os, h.tape, h.output, h.size, h.block⟩
theorem bdraws0 (w : World) (n : Nat) : Below w.heap.size w (w.drewN n) := bdraws (Below.refl _ _) n

/-! ### bytes of a text, as a row of their own -/
theorem bytesWorld_free (w : World) (e : TypeId) (s : ByteArray) (j : Nat) (hj : j < s.size) : (Lib.bytesWorld w e s).frozen? ⟨w.heap.size, j, none⟩ = false := by
  have h : s.size ≤ (Lib.bytesCells w e s).size := by simp [Lib.bytesCells]
  simp [World.frozen?, Lib.bytesWorld_at_new]
  omega
theorem bytesWorld_below (w : World) (e : TypeId) (s : ByteArray) : Below w.heap.size w (Lib.bytesWorld w e s) :=
  ⟨rfl, rfl, rfl, by rw [Lib.bytesWorld_size]; omega, fun k hk => Lib.bytesWorld_at_old w e s k hk⟩
theorem toList_len (s : ByteArray) : s.toList.length = s.size := by rw [ByteArray.toList_eq]; simp
theorem empty_size (s : ByteArray) : s.toList.isEmpty = decide (s.size = 0) := by
  rw [← toList_len]
  cases s.toList <;> simp
/-- the cells of a row of bytes -/
def Bytes (w : World) (g n : Nat) (l : List UInt8) : Prop := ∀ j, j < n → w.cell? ⟨g, j, none⟩ = some (.int .u8 (l.getD j 0).toNat)
theorem Bytes.below {w w' : World} {g n : Nat} {l : List UInt8} (h : Bytes w g n l) (hb : Below w.heap.size w w') : Bytes w' g n l :=
  fun j hj => (hb.cell (World.block_lt_of_cell? w _ (h j hj))).trans (h j hj)

/-! ### what a call may have changed: blocks of a set, and new ones -/
structure Frm (S : Nat → Prop) (w w' : World) : Prop where
  os : w'.os = w.os
  tape : w'.tape = w.tape
  output : w'.output = w.output
  size : w.heap.size ≤ w'.heap.size
  block : ∀ k, k < w.heap.size → ¬ S k → w'.heap[k]? = w.heap[k]?
theorem Frm.refl (S : Nat → Prop) (w : World) : Frm S w w := ⟨rfl, rfl, rfl, Nat.le_refl _, fun _ _ _ => rfl⟩
theorem Frm.trans {S : Nat → Prop} {a b c : World} (h : Frm S a b) (k : Frm S b c) : Frm S a c :=
  ⟨k.os.trans h.os, k.tape.trans h.tape, k.output.trans h.output, Nat.le_trans h.size k.size, fun i hi hs => (k.block i (Nat.lt_of_lt_of_le hi h.size) hs).trans (h.block i hi hs)⟩
theorem Frm.mono {S S' : Nat → Prop} {a b : World} (h : Frm S a b) (hs : ∀ k, k < a.heap.size → S k → S' k) : Frm S' a b :=
  ⟨h.os, h.tape, h.output, h.size, fun i hi hn => h.block i hi fun x => hn (hs i hi x)⟩
theorem Frm.drew {S : Nat → Prop} {a w : World} (h : Frm S a w) : Frm S a w.drew := ⟨h.os, h.tape, h.output, h.size, h.block⟩
theorem Frm.drewN {S : Nat → Prop} {a w : World} (h : Frm S a w) (n : Nat) : Frm S a (w.drewN n) := ⟨h.os, h.tape, h.output, h.size, h.block⟩
theorem Frm.ofBelow {S : Nat → Prop} {a w : World} (h : Below a.heap.size a w) : Frm S a w := ⟨h.os, h.tape, h.output, h.size, fun i hi _ => h.block i hi⟩
theorem Frm.below {S : Nat → Prop} {a b c : World} (h : Frm S a b) (k : Below b.heap.size b c) : Frm S a c := h.trans (.ofBelow k)
theorem Frm.alloc {S : Nat → Prop} {a w : World} (h : Frm S a w) (o : Obj) : Frm S a (w.alloc o) := h.below ((Below.refl _ _).alloc (Nat.le_refl _) _)
theorem Frm.setCell {S : Nat → Prop} {a w : World} (h : Frm S a w) {p : Addr} (hp : S p.block ∨ a.heap.size ≤ p.block) (u : Value) : Frm S a (w.setCell p u) :=
  ⟨h.os, h.tape, h.output, Nat.le_trans h.size (by simp [World.setCell]), fun k hk hs => (Below.heap_setCell _ _ _ _ (by rintro rfl; rcases hp with hp | hp; exact hs hp; omega)).trans (h.block k hk hs)⟩
theorem Frm.one (w : World) (g o : Nat) (u : Value) : Frm (· = g) w (w.setCell ⟨g, o, none⟩ u) := Frm.setCell (S := fun x => x = g) (Frm.refl _ _) (.inl rfl) u
theorem Frm.cell {S : Nat → Prop} {w w' : World} (h : Frm S w w') {p : Addr} (hp : ¬ S p.block) {v : Value} (hc : w.cell? p = some v) : w'.cell? p = some v :=
  (World.cell?_of_block (w := w) (h.block p.block (World.block_lt_of_cell? w p hc) hp)).trans hc
theorem Frm.frozen {S : Nat → Prop} {w w' : World} (h : Frm S w w') {p : Addr} (hp : ¬ S p.block) (hlt : p.block < w.heap.size) : w'.frozen? p = w.frozen? p :=
  World.frozen?_of_block (w := w) (h.block p.block hlt hp)
theorem Frm.toBelow {S : Nat → Prop} {B : Nat} {w w' : World} (h : Frm S w w') (hB : B ≤ w.heap.size) (hS : ∀ k, k < B → ¬ S k) : Below B w w' :=
  ⟨h.os, h.tape, h.output, h.size, fun k hk => h.block k (Nat.lt_of_lt_of_le hk hB) (hS k hk)⟩
theorem Frm.after {S : Nat → Prop} {B : Nat} {a w w' : World} (h : Frm S w w') (k : Below B a w) (hB : B ≤ w.heap.size) (hS : ∀ k, k < B → ¬ S k) : Below B a w' := k.trans (h.toBelow hB hS)
/-- an element of a list that came in, as it lies behind a call that has turned nothing of what was there -/
theorem IsList.get {α : Type} {w wr : World} {B b o len size : Nat} {E : α → List Value} {ok : α → Prop} {l : List α} (h : IsList w (some ⟨b, o, none⟩) len size E ok l) (hb : Below B w wr) (hB : w.heap.size ≤ B) (k : Nat) (hk : k < l.length) (j : Nat) (hj : j < size) (v : Value) (hv : (E l[k])[j]? = some v) :
    wr.cell? ⟨b, o + k * size + j, none⟩ = some v ∧ b < w.heap.size := by
  obtain ⟨b', o', e, hc⟩ := h.at_ (by have := h.size_eq; omega)
  injection e with e; injection e with e1 e2; subst e1 e2
  have h1 := (hc k hk).2 j hj
  rw [hv] at h1
  have hlt := World.block_lt_of_cell? w _ h1
  exact ⟨(hb.cell (p := ⟨b, o + k * size + j, none⟩) (Nat.lt_of_lt_of_le hlt hB)).trans h1, hlt⟩
theorem IsList.ok_at {α : Type} {w : World} {a : Option Addr} {len size : Nat} {E : α → List Value} {ok : α → Prop} {l : List α} (h : IsList w a len size E ok l) (k : Nat) (hk : k < l.length) : ok l[k] := by
  obtain ⟨b', o', e, hc⟩ := h.at_ (by have := h.size_eq; omega)
  exact (hc k hk).1
end Go.Proofs.YtlmmmibnnbceeaaDoor
