/- The places of this seat's code, by names. Written by mkcv.py. -/
import Derived.Test.YtpckldhojfjdmaaDoorW
namespace Go.Proofs.YtpckldhojfjdmaaDoor.Ab
open Go.Proofs
set_option maxRecDepth 100000
set_option linter.unusedVariables false
set_option linter.defProp false
noncomputable section
variable {k : Nat → List Value → Option Value}
def f40c0 : Code := bodyOf Tryd.f40
def f40c1 : Code := cL f40c0
def f40c2 : Code := cR f40c0
def f40c3 : Code := cL f40c2
def f40c4 : Code := cL f40c3
def f40c5 : Code := cR f40c3
def f40c6 : Code := cL f40c5
def f40c7 : Code := cL f40c6
def f40c8 : Code := cR f40c6
def f40c9 : Code := cR f40c5
def f40c10 : Code := cR f40c2
def f40c11 : Code := cL f40c10
def f40c12 : Code := cL f40c11
def f40c13 : Code := cR f40c11
def f40c14 : Code := cL f40c13
def f40c15 : Code := cL f40c14
def f40c16 : Code := cL f40c15
def f40c17 : Code := cL f40c16
def f40c18 : Code := cR f40c16
def f40c19 : Code := cL f40c18
def f40c20 : Code := cR f40c18
def f40c21 : Code := cR f40c15
def f40c22 : Code := cL f40c21
def f40c23 : Code := cL f40c22
def f40c24 : Code := cL f40c23
def f40c25 : Code := cR f40c23
def f40c26 : Code := cL f40c25
def f40c27 : Code := cL f40c26
def f40c28 : Code := cR f40c26
def f40c29 : Code := cR f40c25
def f40c30 : Code := cR f40c21
def f40c31 : Code := cR f40c10
def f40c32 : Code := cL f40c31
def f40c33 : Code := cR f40c31
theorem f40_in {x0 x1 : AV} (hk : Open k 40) {s Q} (h : vwp (XK k) f40c0 (AEnv.of [x0, x1]) s (rtA (XK k) [.tmp 4] Q)) : VC (XK k) 40 [x0, x1] s Q := VC_in (Open.at hk) (by kernel_rfl : (XK k).fn 40 = some Tryd.f40) (by kernel_rfl) (by kernel_rfl) (by kernel_rfl : Tryd.f40.ntmps = 26) rfl h
def f40N0 := And.intro (@vS (XK k) f40c1 f40c2 f40c0 rfl) (And.intro (@vO (XK k) f40c1 _ _ _ rfl (by kernel_rfl)) (And.intro (@vS (XK k) f40c3 f40c10 f40c2 rfl) (And.intro (@vS (XK k) f40c4 f40c5 f40c3 rfl) (And.intro (@vO (XK k) f40c4 _ _ _ rfl (by kernel_rfl)) (And.intro (@vC (XK k) f40c6 f40c9 f40c5 (.tmp 10) rfl) (And.intro (@vS (XK k) f40c7 f40c8 f40c6 rfl) (And.intro (@vO (XK k) f40c7 _ _ _ rfl (by kernel_rfl)) (And.intro (@vR (XK k) f40c8 rfl) (And.intro (@vK (XK k) f40c9 rfl) (And.intro (@vS (XK k) f40c11 f40c31 f40c10 rfl) (@vS (XK k) f40c12 f40c13 f40c11 rfl)))))))))))
def f40N1 := And.intro (@vO (XK k) f40c12 _ _ _ rfl (by kernel_rfl)) (And.intro (@vB (XK k) f40c14 f40c13 0 rfl) (And.intro (@vL (XK k) f40c15 f40c14 rfl) (And.intro (@vS (XK k) f40c16 f40c21 f40c15 rfl) (And.intro (@vS (XK k) f40c17 f40c18 f40c16 rfl) (And.intro (@vO (XK k) f40c17 _ _ _ rfl (by kernel_rfl)) (And.intro (@vC (XK k) f40c19 f40c20 f40c18 (.tmp 14) rfl) (And.intro (@vK (XK k) f40c19 rfl) (And.intro (@vE (XK k) f40c20 0 rfl) (And.intro (@vS (XK k) f40c22 f40c30 f40c21 rfl) (And.intro (@vB (XK k) f40c23 f40c22 1 rfl) (@vS (XK k) f40c24 f40c25 f40c23 rfl)))))))))))
def f40N2 := And.intro (@vO (XK k) f40c24 _ _ _ rfl (by kernel_rfl)) (And.intro (@vC (XK k) f40c26 f40c29 f40c25 (.tmp 25) rfl) (And.intro (@vS (XK k) f40c27 f40c28 f40c26 rfl) (And.intro (@vO (XK k) f40c27 _ _ _ rfl (by kernel_rfl)) (And.intro (@vR (XK k) f40c28 rfl) (And.intro (@vK (XK k) f40c29 rfl) (And.intro (@vO (XK k) f40c30 _ _ _ rfl (by kernel_rfl)) (And.intro (@vS (XK k) f40c32 f40c33 f40c31 rfl) (And.intro (@vO (XK k) f40c32 _ _ _ rfl (by kernel_rfl)) (@vR (XK k) f40c33 rfl)))))))))
end
end Go.Proofs.YtpckldhojfjdmaaDoor.Ab
