import Derived.Test.YticllcglldbffaaDoorKE
import Derived.Test.YticllcglldbffaaDoorE14
namespace Go.Proofs.YticllcglldbffaaDoor.Ab
open Go.Proofs Go.ChangeShapes Go.WideShapes Go.ChangeAt Go.RowKit Go.Deep
set_option maxRecDepth 100000
set_option linter.unusedVariables false
@[reducible] def H6 : TD := .more (.int .i64) (.more (.int .i64) (.more (.int .i64) (.one .str)))
def avI (x : Int × Int × Int × ByteArray) : Ot := (x.1, x.2.1, x.2.2.1, x.2.2.2.data.toList)
theorem awA (x : Int × Int × Int × ByteArray) : eO (avI x) = TD.av H6 x := by
  show [AV.c (.int .i64 x.1), .c (.int .i64 x.2.1), .c (.int .i64 x.2.2.1), .c (.string ⟨x.2.2.2.data.toList.toArray⟩)] = _
  rfl
theorem aoD (y : List (Int × Int × Int × ByteArray)) : LO (y.map avI) = AV.lst 4 (y.map (TD.av H6)) := by
  show AV.lst 4 ((y.map avI).map eO) = _
  rw [List.map_map]
  exact congrArg (AV.lst 4) (List.map_congr_left fun x _ => awA x)
theorem xB {P : Program} {w : World} {r : Reach} {b0 : Nat} {φ : Phi} {s' : St} {v' v : Value} {e : TD} {y : List e.T} {t u : TypeId} (hu : P.underlying t = some (.slice u)) (hv : Value.okWide P w r b0 t v) (h : VRel φ v' v) (hE : (TD.slice e).Enc s' y [v']) : (y.length : Int) ≤ 9223372036854775807 := by
  rcases hE with ⟨_, rfl⟩ | ⟨a, cap, cells, h1, _⟩
  · simp
  · have h2 : v' = .slice (some a) y.length cap := (List.cons.inj h1).1
    subst h2
    cases h with | slice _ l _ _ aa cap' k1 k2 k3 k4 k5 k6 =>
    simp only [Value.okWide, hu, Cell.okWide, Cell.ok] at hv
    have e2 : IntKind.i64.max = 9223372036854775807 := by decide
    rw [e2] at hv
    omega
theorem wh (y z : List (Int × Int × Int × ByteArray)) (hy : (y.length : Int) ≤ 9223372036854775807) (hz : (z.length : Int) ≤ 9223372036854775807) (st : VS) : VC (XK (knX awE)) 5 [AV.lst 4 (y.map (TD.av H6)), AV.lst 4 (z.map (TD.av H6))] st (fun r _ => r = .c (.bool true)) := by
  rw [← aoD, ← aoD]
  exact ym (n6 awE) (rm awE) rfl _ _ (by rw [List.length_map]; exact hy) (by rw [List.length_map]; exact hz) st
end Go.Proofs.YticllcglldbffaaDoor.Ab
