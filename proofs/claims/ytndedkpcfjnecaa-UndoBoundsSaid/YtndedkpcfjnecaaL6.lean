/- Lines: what may be, which are the same. -/
import Derived.Test.YtndedkpcfjnecaaL1
namespace Go.Proofs.Ytndedkpcfjnecaa.Ab
open Go.Proofs
set_option maxRecDepth 100000
set_option maxHeartbeats 4000000
set_option linter.unusedSimpArgs false
set_option linter.unusedVariables false
set_option linter.unnecessarySimpa false
set_option linter.unusedSectionVars false
abbrev Ln := List (Int × Int) × Int
def eL (x : Ln) : List AV := [LS x.1, .c (.int .i64 x.2)]
theorem firm_eL (x : Ln) : FirmR (eL x) := FirmR.cons (Firm.LS _) (FirmR.cons (Firm.c _) FirmR.nil)
def mayL (x : Ln) : Bool := decide (0 ≤ x.2) && decide (x.2 ≤ x.1.length) && x.1.all rightS
section
variable {k : Nat → List Value → Option Value} (hk : ∀ f, f ≠ 69 → Open k f)
include hk
theorem may_ok (x : Ln) (hn : x.1.length < 1000000) : PC (XK k) 72 [.agg (eL x)] (.c (.bool (mayL x))) := by
  refine PC_of fun s => ?_
  refine f72_in (hk _ (by decide)) ?_
  (try (simp -implicitDefEqProofs (maxSteps := 2000000) (disch := first | omega | (simp only [vz_push, vz_set, drop_size]; first | done | omega)) only [push_cast, seval, f72N0, eL])) <;> (repeat' ((first | apply ga_dec | apply ga_ndec | apply cd_dec | apply cd_ndec | apply gd_dec | apply gd_ndec | apply ga_split | apply cd_split | apply gd_split) <;> intro hc <;> try (simp -implicitDefEqProofs (maxSteps := 2000000) (disch := first | omega | (simp only [vz_push, vz_set, drop_size]; first | done | omega)) only [push_cast, seval, f72N0, hc, eL])))
  rotate_right
  · exact out_bool (by (repeat first | assumption | exact KeepA.refl _ | apply KeepA.push | refine KeepA.set ?_ (by first | omega | (simp only [vz_push, vz_set, drop_size]; omega) | (have h9 := KeepA.size_le (by assumption); (try simp only [vz_push, vz_set, drop_size] at *); omega)) _ | refine KeepA.drop ?_ (by first | omega | (simp only [vz_push, vz_set, drop_size]; omega) | (have h9 := KeepA.size_le (by assumption); (try simp only [vz_push, vz_set, drop_size] at *); omega)) | refine KeepA.trans ?_ (by assumption))) (by simp [mayL, *])
  · refine VC_pure (all_ok hk _ (by omega)) ?_
    (try (simp -implicitDefEqProofs (maxSteps := 2000000) (disch := first | omega | (simp only [vz_push, vz_set, drop_size]; first | done | omega)) only [push_cast, seval, f72N0])) <;> (repeat' ((first | apply ga_dec | apply ga_ndec | apply cd_dec | apply cd_ndec | apply gd_dec | apply gd_ndec | apply ga_split | apply cd_split | apply gd_split) <;> intro hc <;> try (simp -implicitDefEqProofs (maxSteps := 2000000) (disch := first | omega | (simp only [vz_push, vz_set, drop_size]; first | done | omega)) only [push_cast, seval, f72N0, hc])))
    exact out_bool (by (repeat first | assumption | exact KeepA.refl _ | apply KeepA.push | refine KeepA.set ?_ (by first | omega | (simp only [vz_push, vz_set, drop_size]; omega) | (have h9 := KeepA.size_le (by assumption); (try simp only [vz_push, vz_set, drop_size] at *); omega)) _ | refine KeepA.drop ?_ (by first | omega | (simp only [vz_push, vz_set, drop_size]; omega) | (have h9 := KeepA.size_le (by assumption); (try simp only [vz_push, vz_set, drop_size] at *); omega)) | refine KeepA.trans ?_ (by assumption))) (by simp [mayL, *])
  · exact out_bool (by (repeat first | assumption | exact KeepA.refl _ | apply KeepA.push | refine KeepA.set ?_ (by first | omega | (simp only [vz_push, vz_set, drop_size]; omega) | (have h9 := KeepA.size_le (by assumption); (try simp only [vz_push, vz_set, drop_size] at *); omega)) _ | refine KeepA.drop ?_ (by first | omega | (simp only [vz_push, vz_set, drop_size]; omega) | (have h9 := KeepA.size_le (by assumption); (try simp only [vz_push, vz_set, drop_size] at *); omega)) | refine KeepA.trans ?_ (by assumption))) (by simp [mayL, *])
theorem lsame_ok (x y : Ln) (hn : x.1.length < 1000000) : PC (XK k) 40 [.agg (eL x), .agg (eL y)] (.c (.bool (decide (x = y)))) := by
  refine PC_of fun s => ?_
  refine f40_in (hk _ (by decide)) ?_
  (try (simp -implicitDefEqProofs (maxSteps := 2000000) (disch := first | omega | (simp only [vz_push, vz_set, drop_size]; first | done | omega)) only [push_cast, seval, f40N0, eL])) <;> (repeat' ((first | apply ga_dec | apply ga_ndec | apply cd_dec | apply cd_ndec | apply gd_dec | apply gd_ndec | apply ga_split | apply cd_split | apply gd_split) <;> intro hc <;> try (simp -implicitDefEqProofs (maxSteps := 2000000) (disch := first | omega | (simp only [vz_push, vz_set, drop_size]; first | done | omega)) only [push_cast, seval, f40N0, hc, eL])))
  · refine VC_pure (rsame_ok hk _ _ (by omega)) ?_
    (try (simp -implicitDefEqProofs (maxSteps := 2000000) (disch := first | omega | (simp only [vz_push, vz_set, drop_size]; first | done | omega)) only [push_cast, seval, f40N0])) <;> (repeat' ((first | apply ga_dec | apply ga_ndec | apply cd_dec | apply cd_ndec | apply gd_dec | apply gd_ndec | apply ga_split | apply cd_split | apply gd_split) <;> intro hc <;> try (simp -implicitDefEqProofs (maxSteps := 2000000) (disch := first | omega | (simp only [vz_push, vz_set, drop_size]; first | done | omega)) only [push_cast, seval, f40N0, hc])))
    exact out_bool (by (repeat first | assumption | exact KeepA.refl _ | apply KeepA.push | refine KeepA.set ?_ (by first | omega | (simp only [vz_push, vz_set, drop_size]; omega) | (have h9 := KeepA.size_le (by assumption); (try simp only [vz_push, vz_set, drop_size] at *); omega)) _ | refine KeepA.drop ?_ (by first | omega | (simp only [vz_push, vz_set, drop_size]; omega) | (have h9 := KeepA.size_le (by assumption); (try simp only [vz_push, vz_set, drop_size] at *); omega)) | refine KeepA.trans ?_ (by assumption))) (by rw [decide_eq_decide, Prod.ext_iff]; simp [hc])
  · exact out_bool (by (repeat first | assumption | exact KeepA.refl _ | apply KeepA.push | refine KeepA.set ?_ (by first | omega | (simp only [vz_push, vz_set, drop_size]; omega) | (have h9 := KeepA.size_le (by assumption); (try simp only [vz_push, vz_set, drop_size] at *); omega)) _ | refine KeepA.drop ?_ (by first | omega | (simp only [vz_push, vz_set, drop_size]; omega) | (have h9 := KeepA.size_le (by assumption); (try simp only [vz_push, vz_set, drop_size] at *); omega)) | refine KeepA.trans ?_ (by assumption))) (by symm; rw [decide_eq_false_iff_not]; rintro rfl; exact hc rfl)
end
end Go.Proofs.Ytndedkpcfjnecaa.Ab
