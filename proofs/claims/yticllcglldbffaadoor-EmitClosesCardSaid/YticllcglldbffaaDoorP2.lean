import Derived.Test.YticllcglldbffaaDoorL2
namespace Go.Proofs.YticllcglldbffaaDoor.Ab
open Go.Proofs
set_option maxRecDepth 100000
set_option maxHeartbeats 1000000
def Hw (C : List Int) (v u : Int) : Prop := ∀ c ∈ C, (c ≤ v ↔ c ≤ u)
theorem ao4 (C : List Int) (h0 : ∀ c ∈ C, 0 ≤ c) (v : Int) : ∃ u ∈ (-1) :: C, Hw C v u := by
  have : ∀ (D : List Int), (∀ c ∈ D, c ∈ C) → ∃ u ∈ (-1) :: C, (u = -1 ∨ u ≤ v) ∧ ∀ c ∈ D, c ≤ v → c ≤ u := by
    intro D
    induction D with
    | nil => intro _; exact ⟨-1, by simp, .inl rfl, fun c hc => by cases hc⟩
    | cons d D ih =>
      intro hD
      obtain ⟨u, h1, h2, h3⟩ := ih fun c hc => hD c (List.mem_cons_of_mem _ hc)
      by_cases hd : d ≤ v ∧ u < d
      · refine ⟨d, List.mem_cons_of_mem _ (hD d List.mem_cons_self), .inr hd.1, fun c hc hcv => ?_⟩
        rcases List.mem_cons.1 hc with rfl | hc
        · exact Int.le_refl _
        · have := h3 c hc hcv; omega
      · refine ⟨u, h1, h2, fun c hc hcv => ?_⟩
        rcases List.mem_cons.1 hc with rfl | hc
        · omega
        · exact h3 c hc hcv
  obtain ⟨u, h1, h2, h3⟩ := this C fun _ h => h
  refine ⟨u, h1, fun c hc => ⟨h3 c hc, fun h => ?_⟩⟩
  have := h0 c hc
  omega
theorem NF {C : List Int} {v u c : Int} (h : Hw C v u) (hc : C.contains c = true) : (c ≤ v) = (c ≤ u) := propext (h c (List.contains_iff_mem.1 hc))
theorem Pz {C : List Int} {v u c : Int} (h : Hw C v u) (hc : C.contains (c + 1) = true) : (v ≤ c) = (u ≤ c) := by
  have := h (c + 1) (List.contains_iff_mem.1 hc)
  apply propext
  omega
theorem Rc {C : List Int} {v u c : Int} (h : Hw C v u) (h1 : C.contains c = true) (h2 : C.contains (c + 1) = true) : (c = v) = (c = u) := by
  have h3 := h c (List.contains_iff_mem.1 h1)
  have h4 := h (c + 1) (List.contains_iff_mem.1 h2)
  apply propext
  omega
def fE (C : List Int) (c : Int) : Bool := C.contains c && C.contains (c + 1)
theorem dr {C : List Int} {v u : Int} (h : Hw C v u) : ∀ (l : List Int), l.all (fE C) = true → dt v l = dt u l
  | [], _ => rfl
  | [_], _ => rfl
  | a :: b :: l, hl => by
    simp only [List.all_cons, fE, Bool.and_eq_true] at hl
    simp only [dt]
    simp only [NF h hl.1.1, Pz h hl.2.1.2]
    rw [dr h l (List.all_eq_true.2 (by simpa [fE] using hl.2.2))]
theorem qq {C : List Int} {v u : Int} (h : Hw C v u) (q : Int → Bool) : ∀ (l : List (Int × Int × Int)), (l.all fun p => fE C p.1 && fE C p.2.1) = true → fg q v l = fg q u l
  | [], _ => rfl
  | (a, b, c) :: l, hl => by
    simp only [List.all_cons, fE, Bool.and_eq_true] at hl
    simp only [fg]
    simp only [NF h hl.1.1.1, Pz h hl.1.2.2]
    rw [qq h q l (List.all_eq_true.2 (by simpa [fE] using hl.2))]
theorem qc {C : List Int} {v u : Int} (h : Hw C v u) : ∀ (l : List (Int × Int)), (l.all fun p => fE C p.1) = true → cx v l = cx u l
  | [], _ => rfl
  | (a, b) :: l, hl => by
    simp only [List.all_cons, fE, Bool.and_eq_true] at hl
    simp only [cx]
    simp only [Rc h hl.1.1 hl.1.2]
    rw [qc h l (List.all_eq_true.2 (by simpa [fE] using hl.2))]
def gi (v : Int) : List Int → List UInt8 → Option Int
  | a :: l, b :: t => if a = v then some (b.toNat : Int) else gi v l t
  | _, _ => none
theorem va (v : Int) : ∀ (l : List Int) (t : List UInt8), qi v l t = (gi v l t).getD v
  | [], _ => by simp [qi, gi]
  | _ :: _, [] => by simp [qi, gi]
  | a :: l, b :: t => by
    simp only [qi, gi]
    split
    · rfl
    · exact va v l t
theorem uW {C : List Int} {v u : Int} (h : Hw C v u) : ∀ (l : List Int) (t : List UInt8), l.all (fE C) = true → gi v l t = gi u l t
  | [], _, _ => by simp [gi]
  | _ :: _, [], _ => by simp [gi]
  | a :: l, b :: t, hl => by
    simp only [List.all_cons, fE, Bool.and_eq_true] at hl
    simp only [gi]
    simp only [Rc h hl.1.1 hl.1.2]
    rw [uW h l t (List.all_eq_true.2 (by simpa [fE] using hl.2))]
noncomputable def KO : List Int := RT.flatMap (fun p => [p.1, p.2.1]) ++ LT.map (·.1) ++ O1 ++ O2 ++ O3 ++ O4 ++ O5 ++ WL ++ SL ++ [0, 31, 127, 128, 159, 1114111, 55295, 57343, 1114239, 1114240, 1114367]
noncomputable def CC : List Int := KO.flatMap fun a => [a, a + 1]
theorem adS : (CC.all fun c => decide (0 ≤ c)) = true := by kernel_rfl
theorem av6 : (RT.all fun p => fE CC p.1 && fE CC p.2.1) = true := by kernel_rfl
theorem awC : (LT.all fun p => fE CC p.1) = true := by kernel_rfl
theorem av5 : ([O1, O2, O3, O4, O5, WL, SL].all fun l => l.all (fE CC)) = true := by kernel_rfl
theorem uG {v b : Int} : ∀ {l : List (Int × Int)}, cx v l = some b → (v, b) ∈ l
  | [], h => by cases h
  | (a, c) :: l, h => by
    simp only [cx] at h
    split at h
    · rename_i e; subst e; cases h; exact List.mem_cons_self
    · exact List.mem_cons_of_mem _ (uG h)
theorem xx {v b : Int} : ∀ {l : List Int} {t : List UInt8}, gi v l t = some b → v ∈ l ∧ b ≤ 255
  | [], _, h => by simp [gi] at h
  | _ :: _, [], h => by simp [gi] at h
  | a :: l, c :: t, h => by
    simp only [gi] at h
    split at h
    · rename_i e; subst e; cases h
      have := c.toNat_lt
      exact ⟨List.mem_cons_self, by omega⟩
    · have := xx h
      exact ⟨List.mem_cons_of_mem _ this.1, this.2⟩
noncomputable def Ie (v : Int) : Option Int := gi v SL SS.data.toList
theorem asI : (SL.all fun a => decide (256 ≤ a)) = true := by kernel_rfl
theorem Ja (v : Int) : (jD v ≠ v) = ((Ie v).isSome = true) := by
  unfold jD Ie
  rw [va]
  cases h : gi v SL SS.data.toList with
  | none => simp
  | some b =>
    obtain ⟨h1, h2⟩ := xx h
    have := of_decide_eq_true (List.all_eq_true.1 asI v h1)
    simp
    omega
noncomputable def pP (v : Int) : Int :=
  if right v = true then
    if 1114111 < v then 12 else if 0 < iW v then iW v else if (Ie v).isSome = true then 3 else if dt v WL = true then 2 else 1
  else 0
theorem ZO (v : Int) : mC v = pP v := by
  unfold mC pP
  simp only [Ja]
noncomputable def chk (u : Int) : Bool := (aB u == pP u) && decide (0 ≤ aB u) && (cx u LT == Ie u)
theorem akK : (((-1) :: CC).all chk) = true := by kernel_rfl
theorem aj5 : (LT.all fun p => (cx p.2 LT).isNone && (aB p.2 == 1)) = true := by kernel_rfl
theorem Ix {v u : Int} (h : Hw CC v u) : aB v = aB u ∧ pP v = pP u ∧ cx v LT = cx u LT ∧ Ie v = Ie u := by
  have m : ∀ c : Int, c ∈ KO → (c ≤ v ↔ c ≤ u) ∧ (c + 1 ≤ v ↔ c + 1 ≤ u) := fun c hc => ⟨h c (List.mem_flatMap.2 ⟨c, hc, by simp⟩), h (c + 1) (List.mem_flatMap.2 ⟨c, hc, by simp⟩)⟩
  have w : ∀ c : Int, c ∈ [0, 31, 127, 128, 159, 1114111, 55295, 57343, 1114239, 1114240, 1114367] → (c ≤ v ↔ c ≤ u) ∧ (c + 1 ≤ v ↔ c + 1 ≤ u) := fun c hc => m c (List.mem_append_right _ hc)
  have k0 := w 0 (by decide)
  have k1 := w 31 (by decide)
  have k2 := w 127 (by decide)
  have k3 := w 128 (by decide)
  have k4 := w 159 (by decide)
  have k5 := w 1114111 (by decide)
  have k6 := w 55295 (by decide)
  have k7 := w 57343 (by decide)
  have k8 := w 1114239 (by decide)
  have k9 := w 1114240 (by decide)
  have k10 := w 1114367 (by decide)
  have hr : right v = right u := by
    unfold right
    have e1 : (0 ≤ v) = (0 ≤ u) := propext (by omega)
    have e2 : (v ≤ 1114111) = (u ≤ 1114111) := propext (by omega)
    have e3 : (v < 55296) = (u < 55296) := propext (by omega)
    have e4 : (57343 < v) = (57343 < u) := propext (by omega)
    have e5 : (1114240 ≤ v) = (1114240 ≤ u) := propext (by omega)
    have e6 : (v ≤ 1114367) = (u ≤ 1114367) := propext (by omega)
    simp only [e1, e2, e3, e4, e5, e6]
  have hbig : (1114111 < v) = (1114111 < u) := propext (by omega)
  have f1 := fun q => qq h q RT av6
  have f2 := qc h LT awC
  have ol := List.all_eq_true.1 av5
  have o1 := dr h O1 (ol O1 (by simp))
  have o2 := dr h O2 (ol O2 (by simp))
  have o3 := dr h O3 (ol O3 (by simp))
  have o4 := dr h O4 (ol O4 (by simp))
  have o5 := dr h O5 (ol O5 (by simp))
  have o6 := dr h WL (ol WL (by simp))
  have o7 := uW h SL SS.data.toList (ol SL (by simp))
  have ho : iW v = iW u := by
    unfold iW
    have e1 : (v ≤ 31) = (u ≤ 31) := propext (by omega)
    have e2 : (v = 127) = (u = 127) := propext (by omega)
    have e3 : (128 ≤ v ∧ v ≤ 159) = (128 ≤ u ∧ u ≤ 159) := propext (by omega)
    simp only [e1, e2, e3, o1, o2, o3, o4, o5]
  refine ⟨?_, ?_, f2, o7⟩
  · unfold aB; simp only [hr, hbig, f1, f2]
  · have ifs : ∀ x y : Int, (if 1114111 < v then x else y) = if 1114111 < u then x else y := fun x y => by
      by_cases hb : 1114111 < u
      · rw [if_pos hb, if_pos (by omega)]
      · rw [if_neg hb, if_neg (by omega)]
    unfold pP Ie
    rw [ifs, hr, ho, o7, o6]
theorem KJ (v : Int) : aB v = mC v ∧ 0 ≤ aB v ∧ jg v = jD v ∧ jg (jg v) = jg v ∧ (jg v = v ∨ aB (jg v) = 1) := by
  obtain ⟨u, hu, h⟩ := ao4 CC (fun c hc => of_decide_eq_true (List.all_eq_true.1 adS c hc)) v
  have hk := List.all_eq_true.1 akK u hu
  unfold chk at hk
  simp only [Bool.and_eq_true, beq_iff_eq, decide_eq_true_eq] at hk
  obtain ⟨s1, s2, s3, s4⟩ := Ix h
  have e : cx v LT = Ie v := by rw [s3, s4, hk.2]
  refine ⟨by rw [ZO, s1, s2, hk.1.1], by rw [s1]; exact hk.1.2, ?_, ?_⟩
  · unfold jg jD
    rw [va, e]; rfl
  · cases hf : cx v LT with
    | none => simp [jg, hf]
    | some b =>
      have := List.all_eq_true.1 aj5 _ (uG hf)
      simp only [Bool.and_eq_true, Option.isNone_iff_eq_none, beq_iff_eq] at this
      simp [jg, hf, this.1, this.2]
end Go.Proofs.YticllcglldbffaaDoor.Ab
