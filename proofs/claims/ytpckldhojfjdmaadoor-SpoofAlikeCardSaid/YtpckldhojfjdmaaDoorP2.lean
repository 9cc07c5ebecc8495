/- What the class tables say: the plain law. -/
import Derived.Test.YtpckldhojfjdmaaDoorL2
namespace Go.Proofs.YtpckldhojfjdmaaDoor.Ab
open Go.Proofs
set_option maxRecDepth 100000
set_option maxHeartbeats 1000000

/-! What hangs on comparisons with some numbers alone -/
def Same (C : List Int) (v u : Int) : Prop := ∀ c ∈ C, (c ≤ v ↔ c ≤ u)
theorem repOf (C : List Int) (h0 : ∀ c ∈ C, 0 ≤ c) (v : Int) : ∃ u ∈ (-1) :: C, Same C v u := by
  have : ∀ (D : List Int), (∀ c ∈ D, c ∈ C) → ∃ u ∈ (-1) :: C, (u = -1 ∨ u ≤ v) ∧ ∀ c ∈ D, c ≤ v → c ≤ u := by
    intro D
    induction D with
    | nil => intro _; exact ⟨-1, by simp, .inl rfl, fun c hc => by cases hc⟩
    | cons d D ih =>
      intro hD
      obtain ⟨u, h1, h2, h3⟩ := ih fun c hc => hD c (List.mem_cons_of_mem _ hc)
      by_cases hd : d ≤ v ∧ u < d
      · refine ⟨d, List.mem_cons_of_mem _ (hD d List.mem_cons_self), .inr hd.1, fun c hc hcv => ?_⟩
        rcases List.mem_cons.1 hc with rfl | hc
        · exact Int.le_refl _
        · have := h3 c hc hcv; omega
      · refine ⟨u, h1, h2, fun c hc hcv => ?_⟩
        rcases List.mem_cons.1 hc with rfl | hc
        · omega
        · exact h3 c hc hcv
  obtain ⟨u, h1, h2, h3⟩ := this C fun _ h => h
  refine ⟨u, h1, fun c hc => ⟨h3 c hc, fun h => ?_⟩⟩
  have := h0 c hc
  omega
theorem same_le {C : List Int} {v u c : Int} (h : Same C v u) (hc : C.contains c = true) : (c ≤ v) = (c ≤ u) := propext (h c (List.contains_iff_mem.1 hc))
theorem same_ge {C : List Int} {v u c : Int} (h : Same C v u) (hc : C.contains (c + 1) = true) : (v ≤ c) = (u ≤ c) := by
  have := h (c + 1) (List.contains_iff_mem.1 hc)
  apply propext
  omega
theorem same_eq {C : List Int} {v u c : Int} (h : Same C v u) (h1 : C.contains c = true) (h2 : C.contains (c + 1) = true) : (c = v) = (c = u) := by
  have h3 := h c (List.contains_iff_mem.1 h1)
  have h4 := h (c + 1) (List.contains_iff_mem.1 h2)
  apply propext
  omega
def both (C : List Int) (c : Int) : Bool := C.contains c && C.contains (c + 1)
theorem withinL_same {C : List Int} {v u : Int} (h : Same C v u) : ∀ (l : List Int), l.all (both C) = true → withinL v l = withinL u l
  | [], _ => rfl
  | [_], _ => rfl
  | a :: b :: l, hl => by
    simp only [List.all_cons, both, Bool.and_eq_true] at hl
    simp only [withinL]
    simp only [same_le h hl.1.1, same_ge h hl.2.1.2]
    rw [withinL_same h l (List.all_eq_true.2 (by simpa [both] using hl.2.2))]
theorem firstR_same {C : List Int} {v u : Int} (h : Same C v u) (q : Int → Bool) : ∀ (l : List (Int × Int × Int)), (l.all fun p => both C p.1 && both C p.2.1) = true → firstR q v l = firstR q u l
  | [], _ => rfl
  | (a, b, c) :: l, hl => by
    simp only [List.all_cons, both, Bool.and_eq_true] at hl
    simp only [firstR]
    simp only [same_le h hl.1.1.1, same_ge h hl.1.2.2]
    rw [firstR_same h q l (List.all_eq_true.2 (by simpa [both] using hl.2))]
theorem firstL_same {C : List Int} {v u : Int} (h : Same C v u) : ∀ (l : List (Int × Int)), (l.all fun p => both C p.1) = true → firstL v l = firstL u l
  | [], _ => rfl
  | (a, b) :: l, hl => by
    simp only [List.all_cons, both, Bool.and_eq_true] at hl
    simp only [firstL]
    simp only [same_eq h hl.1.1 hl.1.2]
    rw [firstL_same h l (List.all_eq_true.2 (by simpa [both] using hl.2))]
def skelO (v : Int) : List Int → List UInt8 → Option Int
  | a :: l, b :: t => if a = v then some (b.toNat : Int) else skelO v l t
  | _, _ => none
theorem skelL_eq (v : Int) : ∀ (l : List Int) (t : List UInt8), skelL v l t = (skelO v l t).getD v
  | [], _ => by simp [skelL, skelO]
  | _ :: _, [] => by simp [skelL, skelO]
  | a :: l, b :: t => by
    simp only [skelL, skelO]
    split
    · rfl
    · exact skelL_eq v l t
theorem skelO_same {C : List Int} {v u : Int} (h : Same C v u) : ∀ (l : List Int) (t : List UInt8), l.all (both C) = true → skelO v l t = skelO u l t
  | [], _, _ => by simp [skelO]
  | _ :: _, [], _ => by simp [skelO]
  | a :: l, b :: t, hl => by
    simp only [List.all_cons, both, Bool.and_eq_true] at hl
    simp only [skelO]
    simp only [same_eq h hl.1.1 hl.1.2]
    rw [skelO_same h l t (List.all_eq_true.2 (by simpa [both] using hl.2))]

noncomputable def consts : List Int := RT.flatMap (fun p => [p.1, p.2.1]) ++ LT.map (·.1) ++ O1 ++ O2 ++ O3 ++ O4 ++ O5 ++ WL ++ SL ++ [0, 31, 127, 128, 159, 1114111, 55295, 57343, 1114239, 1114240, 1114367]
noncomputable def CC : List Int := consts.flatMap fun a => [a, a + 1]
theorem cc_pos : (CC.all fun c => decide (0 ≤ c)) = true := by kernel_rfl
theorem rt_in : (RT.all fun p => both CC p.1 && both CC p.2.1) = true := by kernel_rfl
theorem lt_in : (LT.all fun p => both CC p.1) = true := by kernel_rfl
theorem ol_in : ([O1, O2, O3, O4, O5, WL, SL].all fun l => l.all (both CC)) = true := by kernel_rfl
theorem firstL_mem {v b : Int} : ∀ {l : List (Int × Int)}, firstL v l = some b → (v, b) ∈ l
  | [], h => by cases h
  | (a, c) :: l, h => by
    simp only [firstL] at h
    split at h
    · rename_i e; subst e; cases h; exact List.mem_cons_self
    · exact List.mem_cons_of_mem _ (firstL_mem h)
theorem skelO_mem {v b : Int} : ∀ {l : List Int} {t : List UInt8}, skelO v l t = some b → v ∈ l ∧ b ≤ 255
  | [], _, h => by simp [skelO] at h
  | _ :: _, [], h => by simp [skelO] at h
  | a :: l, c :: t, h => by
    simp only [skelO] at h
    split at h
    · rename_i e; subst e; cases h
      have := c.toNat_lt
      exact ⟨List.mem_cons_self, by omega⟩
    · have := skelO_mem h
      exact ⟨List.mem_cons_of_mem _ this.1, this.2⟩
noncomputable def refO (v : Int) : Option Int := skelO v SL SS.data.toList
theorem sl_big : (SL.all fun a => decide (256 ≤ a)) = true := by kernel_rfl
theorem refSkel_ne (v : Int) : (refSkel v ≠ v) = ((refO v).isSome = true) := by
  unfold refSkel refO
  rw [skelL_eq]
  cases h : skelO v SL SS.data.toList with
  | none => simp
  | some b =>
    obtain ⟨h1, h2⟩ := skelO_mem h
    have := of_decide_eq_true (List.all_eq_true.1 sl_big v h1)
    simp
    omega
noncomputable def refOf' (v : Int) : Int :=
  if right v = true then
    if 1114111 < v then 12 else if 0 < oddOf v then oddOf v else if (refO v).isSome = true then 3 else if withinL v WL = true then 2 else 1
  else 0
theorem refOf_eq (v : Int) : refOf v = refOf' v := by
  unfold refOf refOf'
  simp only [refSkel_ne]
noncomputable def chk (u : Int) : Bool := (classOf u == refOf' u) && decide (0 ≤ classOf u) && (firstL u LT == refO u)
theorem chk_all : (((-1) :: CC).all chk) = true := by kernel_rfl
theorem lt_done : (LT.all fun p => (firstL p.2 LT).isNone && (classOf p.2 == 1)) = true := by kernel_rfl
theorem same_all {v u : Int} (h : Same CC v u) : classOf v = classOf u ∧ refOf' v = refOf' u ∧ firstL v LT = firstL u LT ∧ refO v = refO u := by
  have m : ∀ c : Int, c ∈ consts → (c ≤ v ↔ c ≤ u) ∧ (c + 1 ≤ v ↔ c + 1 ≤ u) := fun c hc => ⟨h c (List.mem_flatMap.2 ⟨c, hc, by simp⟩), h (c + 1) (List.mem_flatMap.2 ⟨c, hc, by simp⟩)⟩
  have w : ∀ c : Int, c ∈ [0, 31, 127, 128, 159, 1114111, 55295, 57343, 1114239, 1114240, 1114367] → (c ≤ v ↔ c ≤ u) ∧ (c + 1 ≤ v ↔ c + 1 ≤ u) := fun c hc => m c (List.mem_append_right _ hc)
  have k0 := w 0 (by decide)
  have k1 := w 31 (by decide)
  have k2 := w 127 (by decide)
  have k3 := w 128 (by decide)
  have k4 := w 159 (by decide)
  have k5 := w 1114111 (by decide)
  have k6 := w 55295 (by decide)
  have k7 := w 57343 (by decide)
  have k8 := w 1114239 (by decide)
  have k9 := w 1114240 (by decide)
  have k10 := w 1114367 (by decide)
  have hr : right v = right u := by
    unfold right
    have e1 : (0 ≤ v) = (0 ≤ u) := propext (by omega)
    have e2 : (v ≤ 1114111) = (u ≤ 1114111) := propext (by omega)
    have e3 : (v < 55296) = (u < 55296) := propext (by omega)
    have e4 : (57343 < v) = (57343 < u) := propext (by omega)
    have e5 : (1114240 ≤ v) = (1114240 ≤ u) := propext (by omega)
    have e6 : (v ≤ 1114367) = (u ≤ 1114367) := propext (by omega)
    simp only [e1, e2, e3, e4, e5, e6]
  have hbig : (1114111 < v) = (1114111 < u) := propext (by omega)
  have f1 := fun q => firstR_same h q RT rt_in
  have f2 := firstL_same h LT lt_in
  have ol := List.all_eq_true.1 ol_in
  have o1 := withinL_same h O1 (ol O1 (by simp))
  have o2 := withinL_same h O2 (ol O2 (by simp))
  have o3 := withinL_same h O3 (ol O3 (by simp))
  have o4 := withinL_same h O4 (ol O4 (by simp))
  have o5 := withinL_same h O5 (ol O5 (by simp))
  have o6 := withinL_same h WL (ol WL (by simp))
  have o7 := skelO_same h SL SS.data.toList (ol SL (by simp))
  have ho : oddOf v = oddOf u := by
    unfold oddOf
    have e1 : (v ≤ 31) = (u ≤ 31) := propext (by omega)
    have e2 : (v = 127) = (u = 127) := propext (by omega)
    have e3 : (128 ≤ v ∧ v ≤ 159) = (128 ≤ u ∧ u ≤ 159) := propext (by omega)
    simp only [e1, e2, e3, o1, o2, o3, o4, o5]
  refine ⟨?_, ?_, f2, o7⟩
  · unfold classOf; simp only [hr, hbig, f1, f2]
  · have ifs : ∀ x y : Int, (if 1114111 < v then x else y) = if 1114111 < u then x else y := fun x y => by
      by_cases hb : 1114111 < u
      · rw [if_pos hb, if_pos (by omega)]
      · rw [if_neg hb, if_neg (by omega)]
    unfold refOf' refO
    rw [ifs, hr, ho, o7, o6]
theorem class_pure (v : Int) : classOf v = refOf v ∧ 0 ≤ classOf v ∧ skelOf v = refSkel v ∧ skelOf (skelOf v) = skelOf v ∧ (skelOf v = v ∨ classOf (skelOf v) = 1) := by
  obtain ⟨u, hu, h⟩ := repOf CC (fun c hc => of_decide_eq_true (List.all_eq_true.1 cc_pos c hc)) v
  have hk := List.all_eq_true.1 chk_all u hu
  unfold chk at hk
  simp only [Bool.and_eq_true, beq_iff_eq, decide_eq_true_eq] at hk
  obtain ⟨s1, s2, s3, s4⟩ := same_all h
  have e : firstL v LT = refO v := by rw [s3, s4, hk.2]
  refine ⟨by rw [refOf_eq, s1, s2, hk.1.1], by rw [s1]; exact hk.1.2, ?_, ?_⟩
  · unfold skelOf refSkel
    rw [skelL_eq, e]; rfl
  · cases hf : firstL v LT with
    | none => simp [skelOf, hf]
    | some b =>
      have := List.all_eq_true.1 lt_done _ (firstL_mem hf)
      simp only [Bool.and_eq_true, Option.isNone_iff_eq_none, beq_iff_eq] at this
      simp [skelOf, hf, this.1, this.2]
end Go.Proofs.YtpckldhojfjdmaaDoor.Ab
