/- The places of this seat's code, by names. Written by mkcv.py. -/
import Derived.Test.YtndedkpcfjnecaaW
namespace Go.Proofs.Ytndedkpcfjnecaa.Ab
open Go.Proofs
set_option maxRecDepth 100000
set_option linter.unusedVariables false
set_option linter.defProp false
noncomputable section
variable {k : Nat → List Value → Option Value}
def f51c0 : Code := bodyOf Try.f51
def f51c1 : Code := cL f51c0
def f51c2 : Code := cR f51c0
def f51c3 : Code := cL f51c2
def f51c4 : Code := cR f51c2
def f51c5 : Code := cL f51c4
def f51c6 : Code := cR f51c4
def f51c7 : Code := cL f51c6
def f51c8 : Code := cL f51c7
def f51c9 : Code := cR f51c7
def f51c10 : Code := cL f51c9
def f51c11 : Code := cL f51c10
def f51c12 : Code := cL f51c11
def f51c13 : Code := cR f51c11
def f51c14 : Code := cL f51c13
def f51c15 : Code := cL f51c14
def f51c16 : Code := cR f51c14
def f51c17 : Code := cR f51c13
def f51c18 : Code := cL f51c17
def f51c19 : Code := cL f51c18
def f51c20 : Code := cL f51c19
def f51c21 : Code := cR f51c19
def f51c22 : Code := cR f51c17
def f51c23 : Code := cR f51c6
def f51c24 : Code := cL f51c23
def f51c25 : Code := cR f51c23
theorem f51_in {x0 x1 : AV} (hk : Open k 51) {s Q} (h : vwp (XK k) f51c0 (AEnv.of [x0, x1]) s (rtA (XK k) [.tmp 4] Q)) : VC (XK k) 51 [x0, x1] s Q := VC_in (Open.at hk) (by kernel_rfl : (XK k).fn 51 = some Try.f51) (by kernel_rfl) (by kernel_rfl) (by kernel_rfl : Try.f51.ntmps = 29) rfl h
def f51N0 := And.intro (@vS (XK k) f51c1 f51c2 f51c0 rfl) (And.intro (@vO (XK k) f51c1 _ _ _ rfl (by kernel_rfl)) (And.intro (@vS (XK k) f51c3 f51c4 f51c2 rfl) (And.intro (@vO (XK k) f51c3 _ _ _ rfl (by kernel_rfl)) (And.intro (@vS (XK k) f51c5 f51c6 f51c4 rfl) (And.intro (@vO (XK k) f51c5 _ _ _ rfl (by kernel_rfl)) (And.intro (@vS (XK k) f51c7 f51c23 f51c6 rfl) (And.intro (@vS (XK k) f51c8 f51c9 f51c7 rfl) (And.intro (@vO (XK k) f51c8 _ _ _ rfl (by kernel_rfl)) (And.intro (@vB (XK k) f51c10 f51c9 0 rfl) (And.intro (@vL (XK k) f51c11 f51c10 rfl) (@vS (XK k) f51c12 f51c13 f51c11 rfl)))))))))))
def f51N1 := And.intro (@vO (XK k) f51c12 _ _ _ rfl (by kernel_rfl)) (And.intro (@vS (XK k) f51c14 f51c17 f51c13 rfl) (And.intro (@vC (XK k) f51c15 f51c16 f51c14 (.tmp 17) rfl) (And.intro (@vK (XK k) f51c15 rfl) (And.intro (@vE (XK k) f51c16 0 rfl) (And.intro (@vS (XK k) f51c18 f51c22 f51c17 rfl) (And.intro (@vB (XK k) f51c19 f51c18 1 rfl) (And.intro (@vS (XK k) f51c20 f51c21 f51c19 rfl) (And.intro (@vO (XK k) f51c20 _ _ _ rfl (by kernel_rfl)) (And.intro (@vO (XK k) f51c21 _ _ _ rfl (by kernel_rfl)) (And.intro (@vO (XK k) f51c22 _ _ _ rfl (by kernel_rfl)) (@vS (XK k) f51c24 f51c25 f51c23 rfl)))))))))))
def f51N2 := And.intro (@vO (XK k) f51c24 _ _ _ rfl (by kernel_rfl)) (@vR (XK k) f51c25 rfl)
end
end Go.Proofs.Ytndedkpcfjnecaa.Ab
