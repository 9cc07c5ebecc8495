import Derived.Test.YticllcglldbffaaDoorN2
import Derived.Test.YticllcglldbffaaDoorP2
namespace Go.Proofs.YticllcglldbffaaDoor.Ab
open Go.Proofs
set_option maxRecDepth 100000
set_option maxHeartbeats 4000000
set_option linter.unusedSimpArgs false
set_option linter.unusedVariables false
set_option linter.unnecessarySimpa false
set_option linter.unusedSectionVars false
def imp (a b : Bool) : Bool := !a || b
def ak8 (v : Int) : Bool :=
  imp (aB v == 4) (decide (0 ≤ v) && decide (v ≤ 31)) && imp (aB v == 5) (decide (127 ≤ v) && decide (v ≤ 127)) && imp (aB v == 12) (decide (1114240 ≤ v) && decide (v ≤ 1114367)) &&
  imp (decide (aB v ≤ 3) && decide (1 ≤ aB v)) (decide (32 ≤ v) && decide (v ≤ 1114111) && !(decide (127 ≤ v) && decide (v ≤ 127))) && imp (decide (6 ≤ aB v) && decide (aB v ≤ 11)) (decide (128 ≤ v) && decide (v ≤ 1114111)) &&
  decide (0 ≤ aB v) && decide (aB v ≤ 12) && (decide (1 ≤ aB v) == right v)
theorem aeJ : (((-1) :: CC).all ak8) = true := by kernel_rfl
theorem auZ (v : Int) : ak8 v = true := by
  obtain ⟨u, hu, h⟩ := ao4 CC (fun c hc => of_decide_eq_true (List.all_eq_true.1 adS c hc)) v
  rw [← List.all_eq_true.1 aeJ u hu]
  obtain ⟨s1, _, _, _⟩ := Ix h
  have m : ∀ c : Int, c ∈ KO → (c ≤ v ↔ c ≤ u) ∧ (c + 1 ≤ v ↔ c + 1 ≤ u) := fun c hc => ⟨h c (List.mem_flatMap.2 ⟨c, hc, by simp⟩), h (c + 1) (List.mem_flatMap.2 ⟨c, hc, by simp⟩)⟩
  have w : ∀ c : Int, c ∈ [0, 31, 127, 128, 159, 1114111, 55295, 57343, 1114239, 1114240, 1114367] → (c ≤ v ↔ c ≤ u) ∧ (c + 1 ≤ v ↔ c + 1 ≤ u) := fun c hc => m c (List.mem_append_right _ hc)
  have k0 := w 0 (by decide)
  have k1 := w 31 (by decide)
  have k2 := w 127 (by decide)
  have k3 := w 128 (by decide)
  have k5 := w 1114111 (by decide)
  have k6 := w 55295 (by decide)
  have k7 := w 57343 (by decide)
  have k8 := w 1114239 (by decide)
  have k9 := w 1114240 (by decide)
  have k10 := w 1114367 (by decide)
  unfold ak8 right
  have e1 : (0 ≤ v) = (0 ≤ u) := propext (by omega)
  have e2 : (v ≤ 1114111) = (u ≤ 1114111) := propext (by omega)
  have e3 : (v < 55296) = (u < 55296) := propext (by omega)
  have e4 : (57343 < v) = (57343 < u) := propext (by omega)
  have e5 : (1114240 ≤ v) = (1114240 ≤ u) := propext (by omega)
  have e6 : (v ≤ 1114367) = (u ≤ 1114367) := propext (by omega)
  have e7 : (v ≤ 31) = (u ≤ 31) := propext (by omega)
  have e8 : (32 ≤ v) = (32 ≤ u) := propext (by omega)
  have e9 : (127 ≤ v) = (127 ≤ u) := propext (by omega)
  have e10 : (v ≤ 127) = (u ≤ 127) := propext (by omega)
  have e11 : (128 ≤ v) = (128 ≤ u) := propext (by omega)
  rw [s1]
  simp only [e1, e2, e3, e4, e5, e6, e7, e8, e9, e10, e11]
theorem cls (v : Int) : (aB v = 4 → 0 ≤ v ∧ v ≤ 31) ∧ (aB v = 5 → v = 127) ∧ (aB v = 12 → 1114240 ≤ v ∧ v ≤ 1114367) ∧ (1 ≤ aB v → aB v ≤ 3 → 32 ≤ v ∧ v ≤ 1114111 ∧ v ≠ 127) ∧
    (6 ≤ aB v → aB v ≤ 11 → 128 ≤ v ∧ v ≤ 1114111) ∧ 0 ≤ aB v ∧ aB v ≤ 12 ∧ (1 ≤ aB v ↔ right v = true) := by
  have h := auZ v
  unfold ak8 imp at h
  simp only [Bool.and_eq_true, Bool.or_eq_true, Bool.not_eq_true', beq_eq_false_iff_ne, decide_eq_true_eq, Bool.and_eq_false_iff, decide_eq_false_iff_not, beq_iff_eq] at h
  obtain ⟨⟨⟨⟨⟨⟨⟨h1, h2⟩, h3⟩, h4⟩, h5⟩, h6⟩, h7⟩, h8⟩ := h
  refine ⟨by omega, by omega, by omega, by omega, by omega, h6, h7, ?_⟩
  constructor
  · intro q; rw [← h8]; simpa using q
  · intro q; rw [q] at h8; simpa using h8
def EN (v : Int) : Bool := decide (3 < aB v)
def js (v : Int) : Int := if aB v = 2 then 2 else if aB v = 1 ∨ aB v = 3 then 1 else 0
section
variable {k : Nat → List Value → Option Value} (hk : ∀ f, f ≠ 105 → f ≠ 149 → ax k f)
include hk
theorem Kw (v : Int) : PC (XK k) 36 [.c (.int .i64 v)] (.c (.int .i64 (aB v))) := by
  rw [(KJ v).1]
  exact WK hk v
theorem XJ (v : Int) : PC (XK k) 94 [.c (.int .i64 v)] (.c (.int .i64 (js v))) := by
  refine aI fun s => ?_
  refine asR (hk _ (by decide) (by decide)) ?_
  repeat' (first | ((first | apply ao | apply aj | apply am | apply al | apply an | apply ak | apply ai | apply ag | apply ah) <;> intro hc <;> (try (simp -implicitDefEqProofs (maxSteps := 2000000) (disch := first | omega | (simp only [ac, ae, ab]; first | done | omega)) only [push_cast, seval, arY, apU, ao6, hc])) <;> (try (exfalso; omega))) | refine ap (m9 hk v) ?_ | (simp -implicitDefEqProofs (maxSteps := 2000000) (disch := first | omega | (simp only [ac, ae, ab]; first | done | omega)) only [push_cast, seval, arY, apU, ao6]))
  all_goals exact aD (by (repeat first | assumption | exact af.refl _ | apply af.push | refine af.set ?_ (by first | omega | (simp only [ac, ae, ab]; omega) | (have h9 := af.size_le (by assumption); (try simp only [ac, ae, ab] at *); omega)) _ | refine af.drop ?_ (by first | omega | (simp only [ac, ae, ab]; omega) | (have h9 := af.size_le (by assumption); (try simp only [ac, ae, ab] at *); omega)) | refine af.trans ?_ (by assumption))) (by unfold js; (repeat' split) <;> omega)
theorem xf (v : Int) : PC (XK k) 61 [.c (.int .i64 v)] (.c (.int .i64 (js v))) := by
  refine aI fun s => ?_
  refine at8 (hk _ (by decide) (by decide)) ?_
  repeat' (first | ((first | apply ao | apply aj | apply am | apply al | apply an | apply ak | apply ai | apply ag | apply ah) <;> intro hc <;> (try (simp -implicitDefEqProofs (maxSteps := 2000000) (disch := first | omega | (simp only [ac, ae, ab]; first | done | omega)) only [push_cast, seval, amU, anK, hc])) <;> (try (exfalso; omega))) | refine ap (Kw hk v) ?_ | (simp -implicitDefEqProofs (maxSteps := 2000000) (disch := first | omega | (simp only [ac, ae, ab]; first | done | omega)) only [push_cast, seval, amU, anK]))
  all_goals exact aD (by (repeat first | assumption | exact af.refl _ | apply af.push | refine af.set ?_ (by first | omega | (simp only [ac, ae, ab]; omega) | (have h9 := af.size_le (by assumption); (try simp only [ac, ae, ab] at *); omega)) _ | refine af.drop ?_ (by first | omega | (simp only [ac, ae, ab]; omega) | (have h9 := af.size_le (by assumption); (try simp only [ac, ae, ab] at *); omega)) | refine af.trans ?_ (by assumption))) (by unfold js; (repeat' split) <;> omega)
end
end Go.Proofs.YticllcglldbffaaDoor.Ab
