/- Trails: the law UndoDoes. -/
import Derived.Test.YtndedkpcfjnecaaO10
namespace Go.Proofs.Ytndedkpcfjnecaa.Ab
open Go.Proofs
set_option maxRecDepth 100000
set_option maxHeartbeats 4000000
set_option linter.unusedSimpArgs false
set_option linter.unusedVariables false
set_option linter.unnecessarySimpa false
set_option linter.unusedSectionVars false
/-- A call: kind, line, join. -/
def eCl (c : Int × Ln × Bool) : List AV := [.c (.int .i64 c.1), LS c.2.1.1, .c (.int .i64 c.2.1.2), .c (.bool c.2.2)]
section
variable {k : Nat → List Value → Option Value} (hk : ∀ f, f ≠ 69 → Open k f)
include hk
theorem undoDoes_bad {s : VS} {most : Int} (h : most < 1 ∨ 1000 < most) (cs : List (Int × Ln × Bool)) (ha : k 36 [] = some (.bool true)) {K : AV → VS → Prop} (hK : K (.c (.bool true)) s) : VC (XK k) 8 [.c (.int .i64 most), .lst 4 (cs.map eCl)] s K := by
  refine f8_in (hk _ (by decide)) ?_
  have haw : ∀ {vs : VS} {Q : AV → VS → Prop}, Q (.c (.bool true)) vs → VC (XK k) 36 [] vs Q := fun h => VC_known (ws := []) (v := .bool true) ha rfl rfl h
  (try (simp -implicitDefEqProofs (maxSteps := 2000000) (disch := first | omega | (simp only [vz_push, vz_set, drop_size]; first | done | omega)) only [push_cast, seval, f8N0, f8N1, f8N2, f8N3, f8N4, f8N5, rigA])) <;> (repeat' ((first | apply ga_dec | apply ga_ndec | apply cd_dec | apply cd_ndec | apply gd_dec | apply gd_ndec | apply ga_split | apply cd_split | apply gd_split) <;> intro hc <;> try (simp -implicitDefEqProofs (maxSteps := 2000000) (disch := first | omega | (simp only [vz_push, vz_set, drop_size]; first | done | omega)) only [push_cast, seval, f8N0, f8N1, f8N2, f8N3, f8N4, f8N5, hc, rigA])))
  refine haw ?_
  (try (simp -implicitDefEqProofs (maxSteps := 2000000) (disch := first | omega | (simp only [vz_push, vz_set, drop_size]; first | done | omega)) only [push_cast, seval, f8N0, f8N1, f8N2, f8N3, f8N4, f8N5, rigA])) <;> (repeat' ((first | apply ga_dec | apply ga_ndec | apply cd_dec | apply cd_ndec | apply gd_dec | apply gd_ndec | apply ga_split | apply cd_split | apply gd_split) <;> intro hc <;> try (simp -implicitDefEqProofs (maxSteps := 2000000) (disch := first | omega | (simp only [vz_push, vz_set, drop_size]; first | done | omega)) only [push_cast, seval, f8N0, f8N1, f8N2, f8N3, f8N4, f8N5, hc, rigA])))
  refine new_bad hk h ?_
  by_cases h1 : most < 1
  · (try (simp -implicitDefEqProofs (maxSteps := 2000000) (disch := first | omega | (simp only [vz_push, vz_set, drop_size]; first | done | omega)) only [push_cast, seval, f8N0, f8N1, f8N2, f8N3, f8N4, f8N5, h1, rigA])) <;> (repeat' ((first | apply ga_dec | apply ga_ndec | apply cd_dec | apply cd_ndec | apply gd_dec | apply gd_ndec | apply ga_split | apply cd_split | apply gd_split) <;> intro hc <;> try (simp -implicitDefEqProofs (maxSteps := 2000000) (disch := first | omega | (simp only [vz_push, vz_set, drop_size]; first | done | omega)) only [push_cast, seval, f8N0, f8N1, f8N2, f8N3, f8N4, f8N5, hc, h1, rigA])))
    all_goals first | exact hK | (exfalso; omega)
  · have h2 : 1000 < most := by omega
    (try (simp -implicitDefEqProofs (maxSteps := 2000000) (disch := first | omega | (simp only [vz_push, vz_set, drop_size]; first | done | omega)) only [push_cast, seval, f8N0, f8N1, f8N2, f8N3, f8N4, f8N5, h1, h2, rigA])) <;> (repeat' ((first | apply ga_dec | apply ga_ndec | apply cd_dec | apply cd_ndec | apply gd_dec | apply gd_ndec | apply ga_split | apply cd_split | apply gd_split) <;> intro hc <;> try (simp -implicitDefEqProofs (maxSteps := 2000000) (disch := first | omega | (simp only [vz_push, vz_set, drop_size]; first | done | omega)) only [push_cast, seval, f8N0, f8N1, f8N2, f8N3, f8N4, f8N5, hc, h1, h2, rigA])))
    all_goals first | exact hK | (exfalso; omega)
end
end Go.Proofs.Ytndedkpcfjnecaa.Ab
