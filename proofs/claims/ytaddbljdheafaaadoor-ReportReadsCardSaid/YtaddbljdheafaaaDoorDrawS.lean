/-
  A region that draws its order and stores, at its end, where it has read: what is known of the world is asked no more behind its last operation.
-/
import Derived.Test.YtaddbljdheafaaaDoorDraw
namespace Go.Proofs.YtaddbljdheafaaaDoor
open Go.RowKit
set_option linter.unusedVariables false
set_option linter.unusedSimpArgs false
section
variable {P : Program} {ops : Array Oper} {Q : Exit → Act → World → Prop} {md : Region.Mode} {S : World → Prop}

/-- number m waits for number k -/
def depB (md : Region.Mode) (ops : Array Oper) (m k : Nat) : Bool := match ops[m]? with
  | some o => o.after.any fun e => Region.binds md e && e.on == k
  | none => false
/-- what number f waits for, through others too -/
def preL (md : Region.Mode) (ops : Array Oper) : Nat → List Nat → List Nat
  | 0, acc => acc
  | n + 1, acc => preL md ops n (acc ++ (List.range ops.size).filter fun k => !acc.contains k && acc.any fun m => depB md ops m k)
/-- f comes last -/
def lastB (md : Region.Mode) (ops : Array Oper) (f : Nat) : Bool := (List.range ops.size).all fun i => (preL md ops ops.size [f]).contains i
def Cl (md : Region.Mode) (ops : Array Oper) (L : Array Bool) : Prop := ∀ k, L.getD k false = true → ∀ o, ops[k]? = some o → ∀ e ∈ o.after, Region.binds md e = true → L.getD e.on false = true
theorem Cl.none (n : Nat) : Cl md ops (Array.replicate n false) := by
  intro k hk
  exfalso
  by_cases h : k < n <;> simp [h] at hk
theorem Cl.set {L : Array Bool} {i : Nat} (h : Cl md ops L) (hi : i ∈ Region.ready md ops L) : Cl md ops (L.setIfInBounds i true) := by
  intro k hk o ho e he hb
  by_cases hki : k = i
  · subst hki
    obtain ⟨_, o', ho', hall⟩ := mem_ready.1 hi
    rw [ho] at ho'
    cases ho'
    exact getD_set_true (hall e he hb)
  · rw [getD_set_ne false (Ne.symm hki)] at hk
    exact getD_set_true (h k hk o ho e he hb)
theorem dep_listed {L : Array Bool} {f m k : Nat} (hC : Cl md ops L) (hf : f ∈ Region.ready md ops L) (hm : m = f ∨ L.getD m false = true) (hd : depB md ops m k = true) : L.getD k false = true := by
  unfold depB at hd
  split at hd
  · rename_i o ho
    rw [Array.any_eq_true] at hd
    obtain ⟨j, hj, hd⟩ := hd
    simp only [Bool.and_eq_true, beq_iff_eq] at hd
    have hmem : o.after[j] ∈ o.after := Array.getElem_mem hj
    rcases hm with rfl | hm
    · obtain ⟨_, o', ho', hall⟩ := mem_ready.1 hf
      rw [ho] at ho'
      cases ho'
      have := hall _ hmem hd.1
      rw [hd.2] at this; exact this
    · have := hC m hm o ho _ hmem hd.1
      rw [hd.2] at this; exact this
  · cases hd
theorem pre_listed {L : Array Bool} {f : Nat} (hC : Cl md ops L) (hf : f ∈ Region.ready md ops L) : ∀ (n : Nat) (acc : List Nat), (∀ m ∈ acc, m = f ∨ L.getD m false = true) → ∀ m ∈ preL md ops n acc, m = f ∨ L.getD m false = true
  | 0, acc, h, m, hm => h m hm
  | n + 1, acc, h, m, hm => by
    refine pre_listed hC hf n _ ?_ m hm
    intro k hk
    rcases List.mem_append.1 hk with hk | hk
    · exact h k hk
    · obtain ⟨_, hk⟩ := List.mem_filter.1 hk
      simp only [Bool.and_eq_true, List.any_eq_true] at hk
      obtain ⟨_, m', hm', hd⟩ := hk
      exact .inr (dep_listed hC hf (h m' hm') hd)
theorem last_listed {L : Array Bool} {f i : Nat} (hA : lastB md ops f = true) (hC : Cl md ops L) (hf : f ∈ Region.ready md ops L) (hi : i < ops.size) (hne : i ≠ f) : L.getD i false = true := by
  have h := List.all_eq_true.1 hA i (List.mem_range.2 hi)
  rcases pre_listed hC hf ops.size [f] (by intro m hm; simp at hm; exact .inl hm) i (by simpa using h) with h | h
  · exact absurd h hne
  · exact h
/-- whatever order is picked from here on, S holding till the last operation -/
def wpAnyS (P : Program) (md : Region.Mode) (ops : Array Oper) (f : Nat) (Q : Exit → Act → World → Prop) (S : World → Prop) : Nat → Array Bool → Act → World → Prop
  | 0, listed, a, w => Region.ready md ops listed = [] ∧ Q .normal a w
  | fuel + 1, listed, a, w =>
    (Region.ready md ops listed = [] → Q .normal a w) ∧
    ∀ i ∈ Region.ready md ops listed, wpOp P ops Q i (fun a' w' => (S w' ∨ i = f) ∧ wpAnyS P md ops f Q S fuel (listed.setIfInBounds i true) a' w') a w
variable {f : Nat}
theorem wpAny_of_S : ∀ (fuel : Nat) (listed : Array Bool) (a : Act) (w : World), wpAnyS P md ops f Q S fuel listed a w → wpAny P md ops Q fuel listed a w
  | 0, _, _, _, h => h
  | fuel + 1, _, _, _, h => ⟨h.1, fun i hi => wpOp_mono (fun a' w' h' => wpAny_of_S fuel _ a' w' h'.2) (h.2 i hi)⟩
theorem wpAnyS_first {i : Nat} {oi : Oper} {v : Value} (hA : lastB md ops f = true) (hne : i ≠ f) (hi : ops[i]? = some oi) (hsel : ∀ (j : Nat) (o : Oper) cs b, ops[j]? = some o → o.op ≠ .select cs b)
    (hQ : ∀ c a w, Q (.panic c) (a.put oi.dst v) w → Q (.panic c) a w) :
    ∀ (fuel : Nat) (listed : Array Bool) (a : Act) (w : World),
      (∀ j oj, ops[j]? = some oj → j ≠ i → listed.getD j true = false → (∀ e ∈ oj.after, Region.binds md e = true → e.on ≠ i) → oi.apart ops oj = true) →
      i ∈ Region.ready md ops listed → Cl md ops listed → YieldsIf P ops S oi v a → S w →
      wpAnyS P md ops f Q S fuel (listed.setIfInBounds i true) (a.put oi.dst v) w → wpAnyS P md ops f Q S (fuel + 1) listed a w := by
  intro fuel
  induction fuel with
  | zero =>
    intro listed a w _ hr _ hy hS H
    refine ⟨fun h => (by rw [h] at hr; cases hr), fun j hj => ?_⟩
    by_cases hji : j = i
    · subst hji; exact hy.wpOp hi hS ⟨.inl hS, H⟩
    · have := ready_mono hj hji
      rw [H.1] at this
      cases this
  | succ fuel ih =>
    intro listed a w hfree hr hC hy hS H
    refine ⟨fun h => (by rw [h] at hr; cases hr), fun j hj => ?_⟩
    by_cases hji : j = i
    · subst hji; exact hy.wpOp hi hS ⟨.inl hS, H⟩
    · have h1 := H.2 j (ready_mono hj hji)
      have hjf : j ≠ f := by
        rintro rfl
        have h2 := last_listed hA hC hj (Array.getElem?_eq_some_iff.1 hi).1 hne
        have h3 := (mem_ready.1 hr).1
        rcases Nat.lt_or_ge i listed.size with h' | h'
        · simp [h'] at h2 h3; rw [h2] at h3; cases h3
        · simp [Array.getElem?_eq_none h'] at h2
      obtain ⟨hjun, oj, hoj, hall⟩ := mem_ready.1 hj
      have hnot : ∀ e ∈ oj.after, Region.binds md e = true → e.on ≠ i := fun e he hb heq => by
        have h1 := hall e he hb
        have h0 := (mem_ready.1 hr).1
        rw [heq] at h1
        rcases Nat.lt_or_ge i listed.size with h' | h'
        · simp [h'] at h0 h1; rw [h0] at h1; cases h1
        · simp [Array.getElem?_eq_none h'] at h1
      have h2 := wpOp_putIf hoj (hfree j oj hoj hji hjun hnot) (fun cs b => hsel i oi cs b hi) (fun cs b => hsel j oj cs b hoj) hQ hy h1
      have hfree' : ∀ k ok, ops[k]? = some ok → k ≠ i → (listed.setIfInBounds j true).getD k true = false →
          (∀ e ∈ ok.after, Region.binds md e = true → e.on ≠ i) → oi.apart ops ok = true := fun k ok hk hki hun hno => by
        refine hfree k ok hk hki ?_ hno
        by_cases hjk : j = k
        · subst hjk; exact hjun
        · rw [getD_set_ne true hjk] at hun; exact hun
      refine wpOp_mono (fun a' w' h3 => ?_) h2
      have h4 : S w' := h3.2.1.resolve_right hjf
      refine ⟨.inl h4, ih (listed.setIfInBounds j true) a' w' hfree' (ready_mono hr (Ne.symm hji)) (hC.set hj) h3.1 h4 ?_⟩
      rw [Array.setIfInBounds_comm _ _ hji]
      exact h3.2.2
/-- the goal of the walk in such a region -/
def wpS (P : Program) (md : Region.Mode) (ops : Array Oper) (f : Nat) (Q : Exit → Act → World → Prop) (S : World → Prop) (fuel : Nat) (listed : Array Bool) (a : Act) (w : World) : Prop := Cl md ops listed → wpAnyS P md ops f Q S fuel listed a w
theorem tws {i : Nat} {o : Oper} {v : Value} {fuel : Nat} {listed : Array Bool} {a : Act} {w : World} (hA : lastB md ops f = true) (hy : ∀ w, S w → (execOp a.eval o).run P w = .ok (.value v) w) (hS : S w)
    (h : wpS P md ops f Q S fuel (listed.setIfInBounds i true) (a.put o.dst v) w)
    (ho : ops[i]? = some o := by (simp only [List.getElem?_toArray, List.getElem?_cons_succ, List.getElem?_cons_zero]; rfl)) (hne : i ≠ f := by decide) (hs : Region.noSelect ops = true := by kernel_rfl) (hf : Region.free md ops listed i = true := by kernel_rfl) (hr : (Region.ready md ops listed).contains i = true := by kernel_rfl)
    (hQ : ∀ c a w, Q (.panic c) (a.put o.dst v) w → Q (.panic c) a w := by exact fun _ _ _ h => h) (hw : Region.wanted o (yielded ops a.tmps) = true := by rfl) : wpS P md ops f Q S (fuel + 1) listed a w := fun hC =>
  wpAnyS_first hA hne ho (Region.noSelect_spec hs) hQ fuel listed a w (Region.free_spec ho hf) (by simpa using hr) hC (.inl ⟨hw, hy⟩) hS (h (hC.set (by simpa using hr)))
theorem tns {i : Nat} {o : Oper} {fuel : Nat} {listed : Array Bool} {a : Act} {w : World} (hA : lastB md ops f = true) (hS : S w)
    (h : wpS P md ops f Q S fuel (listed.setIfInBounds i true) (a.put o.dst undef) w)
    (ho : ops[i]? = some o := by (simp only [List.getElem?_toArray, List.getElem?_cons_succ, List.getElem?_cons_zero]; rfl)) (hne : i ≠ f := by decide) (hs : Region.noSelect ops = true := by kernel_rfl) (hf : Region.free md ops listed i = true := by kernel_rfl) (hr : (Region.ready md ops listed).contains i = true := by kernel_rfl)
    (hQ : ∀ c a w, Q (.panic c) (a.put o.dst undef) w → Q (.panic c) a w := by exact fun _ _ _ h => h) (hw : Region.wanted o (yielded ops a.tmps) = false := by rfl) : wpS P md ops f Q S (fuel + 1) listed a w := fun hC =>
  wpAnyS_first hA hne ho (Region.noSelect_spec hs) hQ fuel listed a w (Region.free_spec ho hf) (by simpa using hr) hC (.inr ⟨hw, rfl⟩) hS (h (hC.set (by simpa using hr)))
theorem call_nexts {i : Nat} {fuel : Nat} {listed : Array Bool} {a : Act} {w : World} (hr : Region.ready md ops listed = [i]) (hi : (ops[i]?).isSome = true)
    (h : ∀ o, ops[i]? = some o → ∀ K' : Act → World → Prop, Shut (∀ a w, S w → (S w → wpS P md ops f Q S fuel (listed.setIfInBounds i true) a w) → K' a w) → if Region.wanted o (yielded ops a.tmps) = true then Oper.wp P o a w K' Q else K' (a.put o.dst undef) w) :
    wpS P md ops f Q S (fuel + 1) listed a w := fun hC => by
  obtain ⟨o, ho⟩ := Option.isSome_iff_exists.1 hi
  refine ⟨fun h0 => absurd (hr ▸ h0) (by simp), fun j hj => ?_⟩
  rw [hr] at hj
  obtain rfl := List.mem_singleton.1 hj
  exact wpOp_step ho (fun K' hK => h o ho K' (fun a w hS hW => hK a w ⟨.inl hS, hW hS (hC.set (by rw [hr]; simp))⟩))
theorem call_nexts2 {i j : Nat} {fuel : Nat} {listed : Array Bool} {a : Act} {w : World} (hr : Region.ready md ops listed = [i, j]) (hi : (ops[i]?).isSome = true) (hj : (ops[j]?).isSome = true)
    (h : ∀ o, ops[i]? = some o → ∀ K' : Act → World → Prop, Shut (∀ a w, S w → (S w → wpS P md ops f Q S fuel (listed.setIfInBounds i true) a w) → K' a w) → if Region.wanted o (yielded ops a.tmps) = true then Oper.wp P o a w K' Q else K' (a.put o.dst undef) w)
    (h2 : ∀ o, ops[j]? = some o → ∀ K' : Act → World → Prop, Shut (∀ a w, S w → (S w → wpS P md ops f Q S fuel (listed.setIfInBounds j true) a w) → K' a w) → if Region.wanted o (yielded ops a.tmps) = true then Oper.wp P o a w K' Q else K' (a.put o.dst undef) w) :
    wpS P md ops f Q S (fuel + 1) listed a w := fun hC => by
  obtain ⟨o, ho⟩ := Option.isSome_iff_exists.1 hi
  obtain ⟨o2, ho2⟩ := Option.isSome_iff_exists.1 hj
  refine ⟨fun h0 => absurd (hr ▸ h0) (by simp), fun k hk => ?_⟩
  rw [hr] at hk
  rcases List.mem_cons.1 hk with rfl | hk
  · exact wpOp_step ho (fun K' hK => h o ho K' (fun a w hS hW => hK a w ⟨.inl hS, hW hS (hC.set (by rw [hr]; simp))⟩))
  · obtain rfl := List.mem_singleton.1 hk
    exact wpOp_step ho2 (fun K' hK => h2 o2 ho2 K' (fun a w hS hW => hK a w ⟨.inl hS, hW hS (hC.set (by rw [hr]; simp))⟩))
/-- the last one: nothing is asked of the world any more -/
theorem call_last {fuel : Nat} {listed : Array Bool} {a : Act} {w : World} (hr : Region.ready md ops listed = [f]) (he : Region.ready md ops (listed.setIfInBounds f true) = []) (hi : (ops[f]?).isSome = true)
    (h : ∀ o, ops[f]? = some o → ∀ K' : Act → World → Prop, Shut (∀ a w, Q .normal a w → K' a w) → if Region.wanted o (yielded ops a.tmps) = true then Oper.wp P o a w K' Q else K' (a.put o.dst undef) w) :
    wpS P md ops f Q S (fuel + 1) listed a w := fun hC => by
  obtain ⟨o, ho⟩ := Option.isSome_iff_exists.1 hi
  refine ⟨fun h0 => absurd (hr ▸ h0) (by simp), fun j hj => ?_⟩
  rw [hr] at hj
  obtain rfl := List.mem_singleton.1 hj
  refine wpOp_step ho (fun K' hK => h o ho K' (fun a w hW => hK a w ⟨.inr rfl, ?_⟩))
  cases fuel with
  | zero => exact ⟨he, hW⟩
  | succ n => exact ⟨fun _ => hW, by rw [he]; simp⟩
theorem wp_region_drewS {id : Nat} {a : Act} {w : World} (f : Nat) (hm : P.follows .mixedOrders = true) (hA : lastB .any ops f = true) (hS : S w.drew)
    (h : lastB .any ops f = true → S w.drew → wpS P .any ops f Q S ops.size (Array.replicate ops.size false) a w.drew) : (Code.region id ops true).wp P Q a w :=
  wp_region_any hm (wpAny_of_S _ _ _ _ (h hA hS (Cl.none _)))
/-- a piece of code that comes to one end -/
def AtOne (a1 : Act) (w1 : World) : Exit → Act → World → Prop
  | .normal, a, w => a = a1 ∧ w = w1
  | _, _, _ => False
theorem wp_one {c : Code} {a a1 : Act} {w w1 : World} (h : c.wp P (AtOne a1 w1) a w) (hq : Q .normal a1 w1) : c.wp P Q a w :=
  Code.wp_mono (fun e a' w' h => by
    cases e <;> first | exact (h : False).elim | skip
    obtain ⟨rfl, rfl⟩ := (h : a' = a1 ∧ w' = w1)
    exact hq) h
end
end Go.Proofs.YtaddbljdheafaaaDoor
