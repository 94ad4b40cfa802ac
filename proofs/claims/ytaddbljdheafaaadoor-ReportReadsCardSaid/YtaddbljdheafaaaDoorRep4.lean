/-
  What a node knows of itself in words (chapter 34): the program's Status.
-/
import Derived.Test.YtaddbljdheafaaaDoorRep3
namespace Go.Proofs.YtaddbljdheafaaaDoor
open Go.RowKit
set_option linter.unusedVariables false
set_option linter.unusedSimpArgs false
set_option maxRecDepth 20000

def nodeS : ByteArray := ⟨#[110, 111, 100, 101]⟩
def bootS : ByteArray := ⟨#[98, 111, 111, 116]⟩
def primS : ByteArray := ⟨#[112, 114, 105, 109, 97, 114, 121]⟩
def secS : ByteArray := ⟨#[115, 101, 99, 111, 110, 100, 97, 114, 121]⟩
def upS : ByteArray := ⟨#[117, 112]⟩
def downS : ByteArray := ⟨#[100, 111, 119, 110]⟩
def compS : ByteArray := ⟨#[99, 111, 109, 112, 108, 101, 116, 101]⟩
def chgS : ByteArray := ⟨#[99, 104, 97, 110, 103, 101, 100]⟩
def chg_S : ByteArray := ⟨#[99, 104, 97, 110, 103, 101, 100, 32]⟩
def fullS : ByteArray := ⟨#[102, 117, 108, 108]⟩
def waitS : ByteArray := ⟨#[119, 97, 105, 116, 115]⟩
def stat6 (nd rl bo : Int) (up : Bool) : List ByteArray := [nodeS, if nd == 0 then aS else bS, if rl == 1 then primS else secS, bootS, textS bo, if up then upS else downS]
def tailL (hr th : Bool) : List ByteArray := (if hr then [fullS] else []) ++ (if th then [waitS] else [])
def midS (cp : Bool) (ch : Int) : ByteArray := if cp then compS else chg_S ++ textS ch
def statA (nd rl bo : Int) (up cp hr th : Bool) (ch : Int) : List ByteArray := stat6 nd rl bo up ++ [midS cp ch] ++ tailL hr th
def statB (nd rl bo : Int) (up cp hr th : Bool) (ch : Int) : List ByteArray := stat6 nd rl bo up ++ (if cp then [compS] else [chgS, textS ch]) ++ tailL hr th
theorem join_two (x y : List UInt8) (m : List (List UInt8)) : ∀ l : List (List UInt8), Lib.join (l ++ (x ++ 32 :: y) :: m) [32] = Lib.join (l ++ x :: y :: m) [32]
  | [] => by
    rw [List.nil_append, List.nil_append, join_tail x (by simp)]
    by_cases hm : m = []
    · subst hm; rw [Lib.join_one, Lib.join_one]
    · rw [join_tail _ hm, join_tail _ hm]; simp
  | a :: l => by
    rw [List.cons_append, List.cons_append, join_tail a (by simp), join_tail a (by simp), join_two x y m l]
theorem stat_jn (nd rl bo : Int) (up cp hr th : Bool) (ch : Int) : jn (statA nd rl bo up cp hr th ch) = jn (statB nd rl bo up cp hr th ch) := by
  unfold statA statB midS
  cases cp
  · apply dl_eq
    unfold jn
    rw [la, la]
    simp only [Bool.false_eq_true, if_false, List.map_append, List.map_cons, List.map_nil, List.append_assoc, List.cons_append, List.nil_append]
    have e : (chg_S ++ textS ch).data.toList = chgS.data.toList ++ 32 :: (textS ch).data.toList := by
      rw [ByteArray.data_append]
      simp [chg_S, chgS]
    rw [e]
    exact join_two _ _ _ _
  · rfl
theorem stat6_size (nd rl bo : Int) (up : Bool) : ((stat6 nd rl bo up).map ByteArray.size).sum ≤ 60 ∧ (stat6 nd rl bo up).length = 6 := by
  have := textS_size bo
  have h1 : (if (nd == 0) = true then aS else bS).size ≤ 1 := by split <;> decide
  have h2 : (if (rl == 1) = true then primS else secS).size ≤ 9 := by split <;> decide
  have h3 : (if up = true then upS else downS).size ≤ 4 := by split <;> decide
  have h4 : nodeS.size = 4 := rfl
  have h5 : bootS.size = 4 := rfl
  refine ⟨?_, rfl⟩
  simp only [stat6, List.map_cons, List.map_nil, List.sum_cons, List.sum_nil]
  omega
theorem midS_size (cp : Bool) (ch : Int) : (midS cp ch).size ≤ 29 := by
  unfold midS
  cases cp
  · simp only [Bool.false_eq_true, if_false]
    rw [ByteArray.size_append]
    have := textS_size ch
    have : chg_S.size = 8 := rfl
    omega
  · simp only [if_true]; decide
theorem stat_size (nd rl bo : Int) (up cp hr th : Bool) (ch : Int) : (jn (statA nd rl bo up cp hr th ch)).size ≤ 1000 := by
  refine Nat.le_trans (jn_size _) ?_
  have h := stat6_size nd rl bo up
  have h2 := midS_size cp ch
  have h3 : ((tailL hr th).map ByteArray.size).sum ≤ 9 := by cases hr <;> cases th <;> decide
  have h4 : (tailL hr th).length ≤ 2 := by cases hr <;> cases th <;> decide
  simp only [statA, List.map_append, List.sum_append, List.length_append, List.map_cons, List.map_nil, List.sum_cons, List.sum_nil, List.length_cons, List.length_nil]
  omega
theorem Strs.lit (W : World) (B : Nat) (xs : List ByteArray) (cs : Array Value) (n : Nat) (hB : B ≤ W.heap.size) (hn : n = xs.length) (hm : n ≤ maxLen) (hc : cs = (xs.map Value.string).toArray) : Strs (W.alloc (.cells cs 9)) B (.slice (some ⟨W.heap.size, 0, none⟩) n n) xs := by
  subst hn hc
  have := World.ownsRow_lit (base := B) (e := 9) (size := 1) W (xs.map Value.string).toArray xs.length hB hm (by simp)
  rwa [List.toList_toArray] at this
theorem Strs.below {W W' : World} {B : Nat} {v : Value} {l : List ByteArray} (h : Strs W B v l) (hb : Below W.heap.size W W') : Strs W' B v l := h.frm (S := fun _ => False) (.ofBelow hb) fun _ _ => id
abbrev SupV (nd rl bo c0 c1 c2 c3 : Int) : Value := .agg #[.int .i64 nd, .int .i64 rl, .int .i64 bo, .int .i64 c0, .int .i64 c1, .int .i64 c2, .int .i64 c3]
def S3 (W : World) (K : Nat) (nd rl bo : Int) : Prop := W.cell? ⟨K, 0, none⟩ = some (.int .i64 nd) ∧ W.cell? ⟨K, 1, none⟩ = some (.int .i64 rl) ∧ W.cell? ⟨K, 2, none⟩ = some (.int .i64 bo)
theorem S3.below {W W' : World} {K : Nat} {nd rl bo : Int} (h : S3 W K nd rl bo) (hb : Below W.heap.size W W') : S3 W' K nd rl bo := ⟨bkeep hb h.1, bkeep hb h.2.1, bkeep hb h.2.2⟩
theorem S3.new (W : World) (T : TypeId) (nd rl bo c0 c1 c2 c3 : Int) : S3 (W.alloc (.cells #[.int .i64 nd, .int .i64 rl, .int .i64 bo, .int .i64 c0, .int .i64 c1, .int .i64 c2, .int .i64 c3] T)) W.heap.size nd rl bo := ⟨by simp [go_sem], by simp [go_sem], by simp [go_sem]⟩
theorem frmB {w a w' : World} {B : Nat} (hf : Frm (fun k => B ≤ k) a w') (hb : Below B w a) (hB : B ≤ a.heap.size) : Below B w w' := hf.after hb hB fun k hk => Nat.not_le.2 hk
set_option maxHeartbeats 6400000 in
theorem status_any (nd rl bo c0 c1 c2 c3 : Int) (up cp hr th : Bool) (ch : Int) (w : World) (hbo : I64 bo) (hch : I64 ch) :
    Calls Tryd.prog 17 #[SupV nd rl bo c0 c1 c2 c3, .bool up, .bool cp, .bool hr, .bool th, .int .i64 ch] w fun e' w' => e' = .returned (.string (jn (statA nd rl bo up cp hr th ch))) ∧ Below w.heap.size w w' := by
  have hE : ∀ (t : ByteArray) W, t = jn (statA nd rl bo up cp hr th ch) → Below w.heap.size w W → (fun (e' : Ending) (w' : World) => e' = .returned (.string (jn (statA nd rl bo up cp hr th ch))) ∧ Below w.heap.size w w') (.returned (.string t)) W := by
    rintro t W rfl h
    exact ⟨rfl, h⟩
  have h0 : statA nd rl bo up cp hr th ch = stat6 nd rl bo up ++ [midS cp ch] ++ tailL hr th := rfl
  have hz := stat_size nd rl bo up cp hr th ch
  generalize (fun (e' : Ending) (w' : World) => e' = .returned (.string (jn (statA nd rl bo up cp hr th ch))) ∧ Below w.heap.size w w') = Pst at *
  generalize statA nd rl bo up cp hr th ch = LL at *
  replace hE := Lib.hid hE
  have hE1 := Lib.hid (fun W => either_any (nd == 0) aS bS W)
  have hE2 := Lib.hid (fun W => either_any (rl == 1) primS secS W)
  have hE3 := Lib.hid (fun W => either_any up upS downS W)
  have hE4 := fun W => either_any cp compS (chg_S ++ textS ch) W
  have hT1 := fun W => text_any bo W hbo.1 hbo.2
  have hT2 := fun W => text_any ch W hch.1 hch.2
  have hz4 := textS_size ch
  have hL := fun W (hB : w.heap.size ≤ W.heap.size) => Strs.lit W w.heap.size (stat6 nd rl bo up) #[.string nodeS, .string (if nd == 0 then aS else bS), .string (if rl == 1 then primS else secS), .string bootS, .string (textS bo), .string (if up then upS else downS)] 6 hB rfl (by unfold maxLen; omega) rfl
  have e4 : (if cp = true then compS else chg_S ++ textS ch) = midS cp ch := rfl
  rw [e4] at hE4
  have hg : ¬ 9223372036854775807 < 8 + (textS ch).size := by omega
  have hlen : (stat6 nd rl bo up).length = 6 := rfl
  clear e4
  unfold aS bS at hE1 hL
  unfold primS secS at hE2 hL
  unfold upS downS at hE3 hL
  unfold compS chg_S at hE4
  unfold nodeS bootS at hL
  generalize stat6 nd rl bo up = L6 at *
  generalize midS cp ch = m at *
  generalize textS bo = tb at *
  generalize textS ch = tc at *
  generalize (if (nd == 0) = true then (⟨#[97]⟩ : ByteArray) else ⟨#[98]⟩) = n1 at *
  generalize (if (rl == 1) = true then (⟨#[112, 114, 105, 109, 97, 114, 121]⟩ : ByteArray) else ⟨#[115, 101, 99, 111, 110, 100, 97, 114, 121]⟩) = n2 at *
  generalize (if up = true then (⟨#[117, 112]⟩ : ByteArray) else ⟨#[100, 111, 119, 110]⟩) = n3 at *
  replace hE4 := Lib.hid hE4
  replace hT1 := Lib.hid hT1
  replace hT2 := Lib.hid hT2
  replace hL := Lib.hid hL
  clear hbo hch
  obtain ⟨W0, hW0⟩ : ∃ W0, w.alloc (.cells #[.int .i64 nd, .int .i64 rl, .int .i64 bo, .int .i64 c0, .int .i64 c1, .int .i64 c2, .int .i64 c3] 47) = W0 := ⟨_, rfl⟩
  have hr2 := hW0 ▸ S3.new w 47 nd rl bo c0 c1 c2 c3
  have hb2 : Below w.heap.size w W0 := hW0 ▸ alb w _
  replace hr2 := Lib.hid (hr2.below (bdrw W0))
  replace hb2 := Lib.hid (bt hb2 (bdrw W0))
  go_enter Tryd.func17, Tryd.ntmps17
  go_wp2_with fail
  refine wp_region_held_drew (S := (fun w' => S3 w' w.heap.size nd rl bo)) (by kernel_rfl) ?_ (fun hHeld => ?_)
  · first | with_reducible exact hr2.out | exact hr2.out.below (alb _ _)
  first | (refine tw (i := 0) (v := ?_) ?_ hHeld ?_; rotate_left; focus (intro w hSw; (try dsimp only at hSw); (try simp only [S3] at hSw); go_simp; (try with_reducible rfl); done)) | refine tn (i := 0) hHeld ?_
  try simp only [Act.put, List.setIfInBounds_toArray, List.set_cons_zero, List.set_cons_succ]
  first | (refine tw (i := 1) (v := ?_) ?_ hHeld ?_; rotate_left; focus (intro w hSw; (try dsimp only at hSw); (try simp only [S3] at hSw); go_simp; (try with_reducible rfl); done)) | refine tn (i := 1) hHeld ?_
  try simp only [Act.put, List.setIfInBounds_toArray, List.set_cons_zero, List.set_cons_succ]
  first | (refine tw (i := 2) (v := ?_) ?_ hHeld ?_; rotate_left; focus (intro w hSw; (try dsimp only at hSw); (try simp only [S3] at hSw); go_simp; (try with_reducible rfl); done)) | refine tn (i := 2) hHeld ?_
  try simp only [Act.put, List.setIfInBounds_toArray, List.set_cons_zero, List.set_cons_succ]
  first | (refine tw (i := 4) (v := ?_) ?_ hHeld ?_; rotate_left; focus (intro w hSw; (try dsimp only at hSw); (try simp only [S3] at hSw); go_simp; (try with_reducible rfl); done)) | refine tn (i := 4) hHeld ?_
  try simp only [Act.put, List.setIfInBounds_toArray, List.set_cons_zero, List.set_cons_succ]
  first | (refine tw (i := 5) (v := ?_) ?_ hHeld ?_; rotate_left; focus (intro w hSw; (try dsimp only at hSw); (try simp only [S3] at hSw); go_simp; (try with_reducible rfl); done)) | refine tn (i := 5) hHeld ?_
  try simp only [Act.put, List.setIfInBounds_toArray, List.set_cons_zero, List.set_cons_succ]
  first | (refine tw (i := 6) (v := ?_) ?_ hHeld ?_; rotate_left; focus (intro w hSw; (try dsimp only at hSw); (try simp only [S3] at hSw); go_simp; (try with_reducible rfl); done)) | refine tn (i := 6) hHeld ?_
  try simp only [Act.put, List.setIfInBounds_toArray, List.set_cons_zero, List.set_cons_succ]
  first | (refine tw (i := 8) (v := ?_) ?_ hHeld ?_; rotate_left; focus (intro w hSw; (try dsimp only at hSw); (try simp only [S3] at hSw); go_simp; (try with_reducible rfl); done)) | refine tn (i := 8) hHeld ?_
  try simp only [Act.put, List.setIfInBounds_toArray, List.set_cons_zero, List.set_cons_succ]
  first | (refine tw (i := 9) (v := ?_) ?_ hHeld ?_; rotate_left; focus (intro w hSw; (try dsimp only at hSw); (try simp only [S3] at hSw); go_simp; (try with_reducible rfl); done)) | refine tn (i := 9) hHeld ?_
  try simp only [Act.put, List.setIfInBounds_toArray, List.set_cons_zero, List.set_cons_succ]
  first | (refine tw (i := 11) (v := ?_) ?_ hHeld ?_; rotate_left; focus (intro w hSw; (try dsimp only at hSw); (try simp only [S3] at hSw); go_simp; (try with_reducible rfl); done)) | refine tn (i := 11) hHeld ?_
  try simp only [Act.put, List.setIfInBounds_toArray, List.set_cons_zero, List.set_cons_succ]
  refine call_next (i := 3) (by kernel_rfl) (by rfl) ?_
  intro o ho K hK
  simp only [List.getElem?_toArray, List.getElem?_cons_succ, List.getElem?_cons_zero, Option.some.injEq] at ho
  subst ho
  first | (fail; refine hK.out _ _ ?_ (fun hHeld => ?_)) | (go_simp; first | (with_reducible refine hK.out _ _ ?_ (fun hHeld => ?_)) | ((first | (go_at_call 40; (with_reducible refine (hE1.out _).mono ?_); rintro e5 w5 ⟨rfl, rfl⟩) | (go_at_call 40; (with_reducible refine (hE2.out _).mono ?_); rintro e5 w5 ⟨rfl, rfl⟩) | (go_at_call 40; (with_reducible refine (hE3.out _).mono ?_); rintro e5 w5 ⟨rfl, rfl⟩) | (go_at_call 31; (with_reducible refine (hT1.out _).mono ?_); rintro e5 w5 ⟨rfl, hA⟩; replace hr2 := Lib.hid (hr2.out.below hA); replace hb2 := Lib.hid (bt hb2.out hA); clear hA)); refine hK.out _ _ ?_ (fun hHeld => ?_)))
  · first | with_reducible exact hr2.out | exact hr2.out.below (alb _ _)
  clear hK K
  try simp only [Act.put, List.setIfInBounds_toArray, List.set_cons_zero, List.set_cons_succ]
  refine call_next (i := 7) (by kernel_rfl) (by rfl) ?_
  intro o ho K hK
  simp only [List.getElem?_toArray, List.getElem?_cons_succ, List.getElem?_cons_zero, Option.some.injEq] at ho
  subst ho
  first | (fail; refine hK.out _ _ ?_ (fun hHeld => ?_)) | (go_simp; first | (with_reducible refine hK.out _ _ ?_ (fun hHeld => ?_)) | ((first | (go_at_call 40; (with_reducible refine (hE1.out _).mono ?_); rintro e5 w5 ⟨rfl, rfl⟩) | (go_at_call 40; (with_reducible refine (hE2.out _).mono ?_); rintro e5 w5 ⟨rfl, rfl⟩) | (go_at_call 40; (with_reducible refine (hE3.out _).mono ?_); rintro e5 w5 ⟨rfl, rfl⟩) | (go_at_call 31; (with_reducible refine (hT1.out _).mono ?_); rintro e5 w5 ⟨rfl, hA⟩; replace hr2 := Lib.hid (hr2.out.below hA); replace hb2 := Lib.hid (bt hb2.out hA); clear hA)); refine hK.out _ _ ?_ (fun hHeld => ?_)))
  · first | with_reducible exact hr2.out | exact hr2.out.below (alb _ _)
  clear hK K
  try simp only [Act.put, List.setIfInBounds_toArray, List.set_cons_zero, List.set_cons_succ]
  refine call_next (i := 10) (by kernel_rfl) (by rfl) ?_
  intro o ho K hK
  simp only [List.getElem?_toArray, List.getElem?_cons_succ, List.getElem?_cons_zero, Option.some.injEq] at ho
  subst ho
  first | (fail; refine hK.out _ _ ?_ (fun hHeld => ?_)) | (go_simp; first | (with_reducible refine hK.out _ _ ?_ (fun hHeld => ?_)) | ((first | (go_at_call 40; (with_reducible refine (hE1.out _).mono ?_); rintro e5 w5 ⟨rfl, rfl⟩) | (go_at_call 40; (with_reducible refine (hE2.out _).mono ?_); rintro e5 w5 ⟨rfl, rfl⟩) | (go_at_call 40; (with_reducible refine (hE3.out _).mono ?_); rintro e5 w5 ⟨rfl, rfl⟩) | (go_at_call 31; (with_reducible refine (hT1.out _).mono ?_); rintro e5 w5 ⟨rfl, hA⟩; replace hr2 := Lib.hid (hr2.out.below hA); replace hb2 := Lib.hid (bt hb2.out hA); clear hA)); refine hK.out _ _ ?_ (fun hHeld => ?_)))
  · first | with_reducible exact hr2.out | exact hr2.out.below (alb _ _)
  clear hK K
  try simp only [Act.put, List.setIfInBounds_toArray, List.set_cons_zero, List.set_cons_succ]
  refine call_next (i := 12) (by kernel_rfl) (by rfl) ?_
  intro o ho K hK
  simp only [List.getElem?_toArray, List.getElem?_cons_succ, List.getElem?_cons_zero, Option.some.injEq] at ho
  subst ho
  first | (fail; refine hK.out _ _ ?_ (fun hHeld => ?_)) | (go_simp; first | (with_reducible refine hK.out _ _ ?_ (fun hHeld => ?_)) | ((first | (go_at_call 40; (with_reducible refine (hE1.out _).mono ?_); rintro e5 w5 ⟨rfl, rfl⟩) | (go_at_call 40; (with_reducible refine (hE2.out _).mono ?_); rintro e5 w5 ⟨rfl, rfl⟩) | (go_at_call 40; (with_reducible refine (hE3.out _).mono ?_); rintro e5 w5 ⟨rfl, rfl⟩) | (go_at_call 31; (with_reducible refine (hT1.out _).mono ?_); rintro e5 w5 ⟨rfl, hA⟩; replace hr2 := Lib.hid (hr2.out.below hA); replace hb2 := Lib.hid (bt hb2.out hA); clear hA)); refine hK.out _ _ ?_ (fun hHeld => ?_)))
  · first | with_reducible exact hr2.out | exact hr2.out.below (alb _ _)
  clear hK K
  try simp only [Act.put, List.setIfInBounds_toArray, List.set_cons_zero, List.set_cons_succ]
  refine call_next (i := 13) (by kernel_rfl) (by rfl) ?_
  intro o ho K hK
  simp only [List.getElem?_toArray, List.getElem?_cons_succ, List.getElem?_cons_zero, Option.some.injEq] at ho
  subst ho
  first | (fail; refine hK.out _ _ ?_ (fun hHeld => ?_)) | (go_simp; first | (with_reducible refine hK.out _ _ ?_ (fun hHeld => ?_)) | ((first | (go_at_call 40; (with_reducible refine (hE1.out _).mono ?_); rintro e5 w5 ⟨rfl, rfl⟩) | (go_at_call 40; (with_reducible refine (hE2.out _).mono ?_); rintro e5 w5 ⟨rfl, rfl⟩) | (go_at_call 40; (with_reducible refine (hE3.out _).mono ?_); rintro e5 w5 ⟨rfl, rfl⟩) | (go_at_call 31; (with_reducible refine (hT1.out _).mono ?_); rintro e5 w5 ⟨rfl, hA⟩; replace hr2 := Lib.hid (hr2.out.below hA); replace hb2 := Lib.hid (bt hb2.out hA); clear hA)); refine hK.out _ _ ?_ (fun hHeld => ?_)))
  · first | with_reducible exact hr2.out | exact hr2.out.below (alb _ _)
  clear hK K
  try simp only [Act.put, List.setIfInBounds_toArray, List.set_cons_zero, List.set_cons_succ]
  first | (refine tw (i := 14) (v := ?_) ?_ hHeld ?_; rotate_left; focus (intro w hSw; (try dsimp only at hSw); (try simp only [S3] at hSw); go_simp; (try with_reducible rfl); done)) | refine tn (i := 14) hHeld ?_
  try simp only [Act.put, List.setIfInBounds_toArray, List.set_cons_zero, List.set_cons_succ]
  refine wpAnyH_done (by kernel_rfl) ?_ _
  have hO := Lib.hid (hL.out _ hb2.out.size)
  replace hb2 := Lib.hid (bt hb2.out (alb w5 (.cells #[.string ⟨#[110, 111, 100, 101]⟩, .string n1, .string n2, .string ⟨#[98, 111, 111, 116]⟩, .string tb, .string n3] 9)))
  have hT2b := hT2
  cases hr <;> cases th
  · replace h0 : LL = L6 ++ [m] := h0.trans (List.append_nil _)
    rw [h0] at hz
    replace h0 := Lib.hid h0
    go_wp2_with (first | (go_at_call 31; (with_reducible refine (hT2.out _).mono ?_); rintro e7 w7 ⟨rfl, hA⟩; replace hO := Lib.hid (hO.out.below hA); replace hb2 := Lib.hid (bt hb2.out hA); clear hA) | (go_at_call 40; (with_reducible refine (hE4.out _).mono ?_); rintro e5 w5 ⟨rfl, rfl⟩) | (at_builtin; refine wpl_app_tx rfl (.tmp 28) (.tmp 34) _ w.heap.size _ _ (L6) [m] rfl rfl (hO.out.below (alb _ _)) ((TX.one _ m).mono (Nat.zero_le _)) (by simp only [List.length_append, List.length_cons, List.length_nil]; omega) (bt hb2.out (alb _ _)).size ?_ rfl rfl; intro v8 w8 h8 h9; replace hO := Lib.hid h8; replace hb2 := Lib.hid (frmB h9 (bt hb2.out (alb _ _)) (bt hb2.out (alb _ _)).size); clear h8 h9) | (go_at_call 32; (with_reducible refine (join_strs _ _ _ _ hO.out (by simp) (by omega) (by simp; omega)).mono ?_); rintro e9 w9 ⟨rfl, hA⟩; replace hb2 := Lib.hid (bt hb2.out hA)))
    exact hE.out _ _ (by rw [h0.out]) hb2.out
  · replace h0 : LL = L6 ++ [m] ++ [⟨#[119, 97, 105, 116, 115]⟩] := h0
    rw [h0] at hz
    replace h0 := Lib.hid h0
    go_wp2_with (first | (go_at_call 31; (with_reducible refine (hT2.out _).mono ?_); rintro e7 w7 ⟨rfl, hA⟩; replace hO := Lib.hid (hO.out.below hA); replace hb2 := Lib.hid (bt hb2.out hA); clear hA) | (go_at_call 40; (with_reducible refine (hE4.out _).mono ?_); rintro e5 w5 ⟨rfl, rfl⟩) | (at_builtin; refine wpl_app_tx rfl (.tmp 28) (.tmp 34) _ w.heap.size _ _ (L6) [m] rfl rfl (hO.out.below (alb _ _)) ((TX.one _ m).mono (Nat.zero_le _)) (by simp only [List.length_append, List.length_cons, List.length_nil]; omega) (bt hb2.out (alb _ _)).size ?_ rfl rfl; intro v8 w8 h8 h9; replace hO := Lib.hid h8; replace hb2 := Lib.hid (frmB h9 (bt hb2.out (alb _ _)) (bt hb2.out (alb _ _)).size); clear h8 h9) | (at_builtin; refine wpl_app_tx rfl (.tmp 41) (.tmp 42) _ w.heap.size _ _ (L6 ++ [m]) [⟨#[119, 97, 105, 116, 115]⟩] rfl rfl (hO.out.below (alb _ _)) ((TX.one _ ⟨#[119, 97, 105, 116, 115]⟩).mono (Nat.zero_le _)) (by simp only [List.length_append, List.length_cons, List.length_nil]; omega) (bt hb2.out (alb _ _)).size ?_ rfl rfl; intro v8 w8 h8 h9; replace hO := Lib.hid h8; replace hb2 := Lib.hid (frmB h9 (bt hb2.out (alb _ _)) (bt hb2.out (alb _ _)).size); clear h8 h9) | (go_at_call 32; (with_reducible refine (join_strs _ _ _ _ hO.out (by simp) (by omega) (by simp; omega)).mono ?_); rintro e9 w9 ⟨rfl, hA⟩; replace hb2 := Lib.hid (bt hb2.out hA)))
    exact hE.out _ _ (by rw [h0.out]; simp) hb2.out
  · replace h0 : LL = L6 ++ [m] ++ [⟨#[102, 117, 108, 108]⟩] := h0
    rw [h0] at hz
    replace h0 := Lib.hid h0
    go_wp2_with (first | (go_at_call 31; (with_reducible refine (hT2.out _).mono ?_); rintro e7 w7 ⟨rfl, hA⟩; replace hO := Lib.hid (hO.out.below hA); replace hb2 := Lib.hid (bt hb2.out hA); clear hA) | (go_at_call 40; (with_reducible refine (hE4.out _).mono ?_); rintro e5 w5 ⟨rfl, rfl⟩) | (at_builtin; refine wpl_app_tx rfl (.tmp 28) (.tmp 34) _ w.heap.size _ _ (L6) [m] rfl rfl (hO.out.below (alb _ _)) ((TX.one _ m).mono (Nat.zero_le _)) (by simp only [List.length_append, List.length_cons, List.length_nil]; omega) (bt hb2.out (alb _ _)).size ?_ rfl rfl; intro v8 w8 h8 h9; replace hO := Lib.hid h8; replace hb2 := Lib.hid (frmB h9 (bt hb2.out (alb _ _)) (bt hb2.out (alb _ _)).size); clear h8 h9) | (at_builtin; refine wpl_app_tx rfl (.tmp 37) (.tmp 38) _ w.heap.size _ _ (L6 ++ [m]) [⟨#[102, 117, 108, 108]⟩] rfl rfl (hO.out.below (alb _ _)) ((TX.one _ ⟨#[102, 117, 108, 108]⟩).mono (Nat.zero_le _)) (by simp only [List.length_append, List.length_cons, List.length_nil]; omega) (bt hb2.out (alb _ _)).size ?_ rfl rfl; intro v8 w8 h8 h9; replace hO := Lib.hid h8; replace hb2 := Lib.hid (frmB h9 (bt hb2.out (alb _ _)) (bt hb2.out (alb _ _)).size); clear h8 h9) | (go_at_call 32; (with_reducible refine (join_strs _ _ _ _ hO.out (by simp) (by omega) (by simp; omega)).mono ?_); rintro e9 w9 ⟨rfl, hA⟩; replace hb2 := Lib.hid (bt hb2.out hA)))
    exact hE.out _ _ (by rw [h0.out]; simp) hb2.out
  · replace h0 : LL = L6 ++ [m] ++ [⟨#[102, 117, 108, 108]⟩] ++ [⟨#[119, 97, 105, 116, 115]⟩] := h0.trans (by rw [List.append_assoc (L6 ++ [m])]; rfl)
    rw [h0] at hz
    replace h0 := Lib.hid h0
    go_wp2_with (first | (go_at_call 31; (with_reducible refine (hT2.out _).mono ?_); rintro e7 w7 ⟨rfl, hA⟩; replace hO := Lib.hid (hO.out.below hA); replace hb2 := Lib.hid (bt hb2.out hA); clear hA) | (go_at_call 40; (with_reducible refine (hE4.out _).mono ?_); rintro e5 w5 ⟨rfl, rfl⟩) | (at_builtin; refine wpl_app_tx rfl (.tmp 28) (.tmp 34) _ w.heap.size _ _ (L6) [m] rfl rfl (hO.out.below (alb _ _)) ((TX.one _ m).mono (Nat.zero_le _)) (by simp only [List.length_append, List.length_cons, List.length_nil]; omega) (bt hb2.out (alb _ _)).size ?_ rfl rfl; intro v8 w8 h8 h9; replace hO := Lib.hid h8; replace hb2 := Lib.hid (frmB h9 (bt hb2.out (alb _ _)) (bt hb2.out (alb _ _)).size); clear h8 h9) | (at_builtin; refine wpl_app_tx rfl (.tmp 37) (.tmp 38) _ w.heap.size _ _ (L6 ++ [m]) [⟨#[102, 117, 108, 108]⟩] rfl rfl (hO.out.below (alb _ _)) ((TX.one _ ⟨#[102, 117, 108, 108]⟩).mono (Nat.zero_le _)) (by simp only [List.length_append, List.length_cons, List.length_nil]; omega) (bt hb2.out (alb _ _)).size ?_ rfl rfl; intro v8 w8 h8 h9; replace hO := Lib.hid h8; replace hb2 := Lib.hid (frmB h9 (bt hb2.out (alb _ _)) (bt hb2.out (alb _ _)).size); clear h8 h9) | (at_builtin; refine wpl_app_tx rfl (.tmp 41) (.tmp 42) _ w.heap.size _ _ (L6 ++ [m] ++ [⟨#[102, 117, 108, 108]⟩]) [⟨#[119, 97, 105, 116, 115]⟩] rfl rfl (hO.out.below (alb _ _)) ((TX.one _ ⟨#[119, 97, 105, 116, 115]⟩).mono (Nat.zero_le _)) (by simp only [List.length_append, List.length_cons, List.length_nil]; omega) (bt hb2.out (alb _ _)).size ?_ rfl rfl; intro v8 w8 h8 h9; replace hO := Lib.hid h8; replace hb2 := Lib.hid (frmB h9 (bt hb2.out (alb _ _)) (bt hb2.out (alb _ _)).size); clear h8 h9) | (go_at_call 32; (with_reducible refine (join_strs _ _ _ _ hO.out (by simp) (by omega) (by simp; omega)).mono ?_); rintro e9 w9 ⟨rfl, hA⟩; replace hb2 := Lib.hid (bt hb2.out hA)))
    exact hE.out _ _ (by rw [h0.out]; simp) hb2.out
end Go.Proofs.YtaddbljdheafaaaDoor
