/- EscTexts' argument: a slice's length. -/
import Derived.Test.YticllcglldbffaaKP
import Derived.Test.YticllcglldbffaaQ9
namespace Go.Proofs.Yticllcglldbffaa.Ab
open Go.Proofs Go.ChangeShapes Go.WideShapes Go.ChangeAt Go.RowKit Go.Deep
set_option maxRecDepth 100000
set_option linter.unusedVariables false
theorem slice_len {P : Program} {w : World} {r : Reach} {b0 : Nat} {φ : Phi} {s' : St} {v' v : Value} {e : TD} {y : List e.T} {t u : TypeId} (hu : P.underlying t = some (.slice u)) (hv : Value.okWide P w r b0 t v) (h : VRel φ v' v) (hE : (TD.slice e).Enc s' y [v']) : (y.length : Int) ≤ 9223372036854775807 := by
  rcases hE with ⟨_, rfl⟩ | ⟨a, cap, cells, h1, _⟩
  · simp
  · have h2 : v' = .slice (some a) y.length cap := (List.cons.inj h1).1
    subst h2
    cases h with | slice _ l _ _ aa cap' k1 k2 k3 k4 k5 k6 =>
    simp only [Value.okWide, hu, Cell.okWide, Cell.ok] at hv
    have e2 : IntKind.i64.max = 9223372036854775807 := by decide
    rw [e2] at hv
    omega
theorem escTexts_all (y : List (List (Int × Int))) (hy : (y.length : Int) ≤ 9223372036854775807) (st : VS) : VC (XK (knP awq)) 3 [LH y] st (fun r _ => r = .c (.bool true)) :=
  escTexts_ok (open_knP awq) (hix_knP awq) (hrep_knP awq) rfl y (by omega) st
end Go.Proofs.Yticllcglldbffaa.Ab
