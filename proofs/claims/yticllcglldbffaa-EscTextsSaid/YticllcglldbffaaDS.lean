/- The places of this seat's code, by names. Written by mkcv.py. -/
import Derived.Test.YticllcglldbffaaW
namespace Go.Proofs.Yticllcglldbffaa.Ab
open Go.Proofs
set_option maxRecDepth 100000
set_option linter.unusedVariables false
set_option linter.defProp false
noncomputable section
variable {k : Nat → List Value → Option Value}
def f19c0 : Code := bodyOf Try.f19
def f19c1 : Code := cL f19c0
def f19c2 : Code := cR f19c0
def f19c3 : Code := cL f19c2
def f19c4 : Code := cR f19c2
def f19c5 : Code := cL f19c4
def f19c6 : Code := cR f19c4
def f19c7 : Code := cL f19c6
def f19c8 : Code := cR f19c6
theorem f19_in {x0 x1 : AV} (hk : Open k 19) {s Q} (h : vwp (XK k) f19c0 (AEnv.of [x0, x1]) s (rtA (XK k) [.tmp 4, .tmp 5] Q)) : VC (XK k) 19 [x0, x1] s Q := VC_in (Open.at hk) (by kernel_rfl : (XK k).fn 19 = some Try.f19) (by kernel_rfl) (by kernel_rfl) (by kernel_rfl : Try.f19.ntmps = 19) rfl h
def f19N0 := And.intro (@vS (XK k) f19c1 f19c2 f19c0 rfl) (And.intro (@vO (XK k) f19c1 _ _ _ rfl (by kernel_rfl)) (And.intro (@vS (XK k) f19c3 f19c4 f19c2 rfl) (And.intro (@vO (XK k) f19c3 _ _ _ rfl (by kernel_rfl)) (And.intro (@vS (XK k) f19c5 f19c6 f19c4 rfl) (And.intro (@vO (XK k) f19c5 _ _ _ rfl (by kernel_rfl)) (And.intro (@vS (XK k) f19c7 f19c8 f19c6 rfl) (And.intro (@vO (XK k) f19c7 _ _ _ rfl (by kernel_rfl)) (@vR (XK k) f19c8 rfl))))))))
def f20c0 : Code := bodyOf Try.f20
def f20c1 : Code := cL f20c0
def f20c2 : Code := cR f20c0
def f20c3 : Code := cL f20c2
def f20c4 : Code := cR f20c2
def f20c5 : Code := cL f20c4
def f20c6 : Code := cR f20c4
def f20c7 : Code := cL f20c6
def f20c8 : Code := cR f20c6
theorem f20_in {x0 x1 : AV} (hk : Open k 20) {s Q} (h : vwp (XK k) f20c0 (AEnv.of [x0, x1]) s (rtA (XK k) [.tmp 4] Q)) : VC (XK k) 20 [x0, x1] s Q := VC_in (Open.at hk) (by kernel_rfl : (XK k).fn 20 = some Try.f20) (by kernel_rfl) (by kernel_rfl) (by kernel_rfl : Try.f20.ntmps = 17) rfl h
def f20N0 := And.intro (@vS (XK k) f20c1 f20c2 f20c0 rfl) (And.intro (@vO (XK k) f20c1 _ _ _ rfl (by kernel_rfl)) (And.intro (@vS (XK k) f20c3 f20c4 f20c2 rfl) (And.intro (@vO (XK k) f20c3 _ _ _ rfl (by kernel_rfl)) (And.intro (@vS (XK k) f20c5 f20c6 f20c4 rfl) (And.intro (@vO (XK k) f20c5 _ _ _ rfl (by kernel_rfl)) (And.intro (@vS (XK k) f20c7 f20c8 f20c6 rfl) (And.intro (@vO (XK k) f20c7 _ _ _ rfl (by kernel_rfl)) (@vR (XK k) f20c8 rfl))))))))
def f21c0 : Code := bodyOf Try.f21
def f21c1 : Code := cL f21c0
def f21c2 : Code := cR f21c0
def f21c3 : Code := cL f21c2
def f21c4 : Code := cR f21c2
theorem f21_in {x0 : AV} (hk : Open k 21) {s Q} (h : vwp (XK k) f21c0 (AEnv.of [x0]) s (rtA (XK k) [.tmp 2] Q)) : VC (XK k) 21 [x0] s Q := VC_in (Open.at hk) (by kernel_rfl : (XK k).fn 21 = some Try.f21) (by kernel_rfl) (by kernel_rfl) (by kernel_rfl : Try.f21.ntmps = 14) rfl h
def f21N0 := And.intro (@vS (XK k) f21c1 f21c2 f21c0 rfl) (And.intro (@vO (XK k) f21c1 _ _ _ rfl (by kernel_rfl)) (And.intro (@vS (XK k) f21c3 f21c4 f21c2 rfl) (And.intro (@vO (XK k) f21c3 _ _ _ rfl (by kernel_rfl)) (@vR (XK k) f21c4 rfl))))
def f29c0 : Code := bodyOf Try.f29
def f29c1 : Code := cL f29c0
def f29c2 : Code := cR f29c0
def f29c3 : Code := cL f29c2
def f29c4 : Code := cR f29c2
def f29c5 : Code := cL f29c4
def f29c6 : Code := cR f29c4
def f29c7 : Code := cL f29c6
def f29c8 : Code := cR f29c6
theorem f29_in {x0 : AV} (hk : Open k 29) {s Q} (h : vwp (XK k) f29c0 (AEnv.of [x0]) s (rtA (XK k) [] Q)) : VC (XK k) 29 [x0] s Q := VC_in (Open.at hk) (by kernel_rfl : (XK k).fn 29 = some Try.f29) (by kernel_rfl) (by kernel_rfl) (by kernel_rfl : Try.f29.ntmps = 20) rfl h
def f29N0 := And.intro (@vS (XK k) f29c1 f29c2 f29c0 rfl) (And.intro (@vO (XK k) f29c1 _ _ _ rfl (by kernel_rfl)) (And.intro (@vC (XK k) f29c3 f29c4 f29c2 (.tmp 6) rfl) (And.intro (@vO (XK k) f29c3 _ _ _ rfl (by kernel_rfl)) (And.intro (@vS (XK k) f29c5 f29c6 f29c4 rfl) (And.intro (@vO (XK k) f29c5 _ _ _ rfl (by kernel_rfl)) (And.intro (@vC (XK k) f29c7 f29c8 f29c6 (.tmp 19) rfl) (@vK (XK k) f29c8 rfl)))))))
def f44c0 : Code := bodyOf Try.f44
def f44c1 : Code := cL f44c0
def f44c2 : Code := cR f44c0
def f44c3 : Code := cL f44c2
def f44c4 : Code := cL f44c3
def f44c5 : Code := cR f44c3
def f44c6 : Code := cL f44c5
def f44c7 : Code := cR f44c5
def f44c8 : Code := cR f44c2
def f44c9 : Code := cL f44c8
def f44c10 : Code := cR f44c8
def f44c11 : Code := cL f44c10
def f44c12 : Code := cR f44c10
theorem f44_in {x0 x1 : AV} (hk : Open k 44) {s Q} (h : vwp (XK k) f44c0 (AEnv.of [x0, x1]) s (rtA (XK k) [] Q)) : VC (XK k) 44 [x0, x1] s Q := VC_in (Open.at hk) (by kernel_rfl : (XK k).fn 44 = some Try.f44) (by kernel_rfl) (by kernel_rfl) (by kernel_rfl : Try.f44.ntmps = 25) rfl h
def f44N0 := And.intro (@vS (XK k) f44c1 f44c2 f44c0 rfl) (And.intro (@vO (XK k) f44c1 _ _ _ rfl (by kernel_rfl)) (And.intro (@vS (XK k) f44c3 f44c8 f44c2 rfl) (And.intro (@vS (XK k) f44c4 f44c5 f44c3 rfl) (And.intro (@vO (XK k) f44c4 _ _ _ rfl (by kernel_rfl)) (And.intro (@vC (XK k) f44c6 f44c7 f44c5 (.tmp 7) rfl) (And.intro (@vO (XK k) f44c6 _ _ _ rfl (by kernel_rfl)) (And.intro (@vK (XK k) f44c7 rfl) (And.intro (@vS (XK k) f44c9 f44c10 f44c8 rfl) (And.intro (@vO (XK k) f44c9 _ _ _ rfl (by kernel_rfl)) (And.intro (@vC (XK k) f44c11 f44c12 f44c10 (.tmp 21) rfl) (@vO (XK k) f44c11 _ _ _ rfl (by kernel_rfl))))))))))))
def f44N1 := @vK (XK k) f44c12 rfl
def f45c0 : Code := bodyOf Try.f45
def f45c1 : Code := cL f45c0
def f45c2 : Code := cR f45c0
def f45c3 : Code := cL f45c2
def f45c4 : Code := cR f45c2
theorem f45_in {x0 : AV} (hk : Open k 45) {s Q} (h : vwp (XK k) f45c0 (AEnv.of [x0]) s (rtA (XK k) [.tmp 2] Q)) : VC (XK k) 45 [x0] s Q := VC_in (Open.at hk) (by kernel_rfl : (XK k).fn 45 = some Try.f45) (by kernel_rfl) (by kernel_rfl) (by kernel_rfl : Try.f45.ntmps = 8) rfl h
def f45N0 := And.intro (@vS (XK k) f45c1 f45c2 f45c0 rfl) (And.intro (@vO (XK k) f45c1 _ _ _ rfl (by kernel_rfl)) (And.intro (@vS (XK k) f45c3 f45c4 f45c2 rfl) (And.intro (@vO (XK k) f45c3 _ _ _ rfl (by kernel_rfl)) (@vR (XK k) f45c4 rfl))))
def f54c0 : Code := bodyOf Try.f54
def f54c1 : Code := cL f54c0
def f54c2 : Code := cR f54c0
def f54c3 : Code := cL f54c2
def f54c4 : Code := cR f54c2
theorem f54_in {x0 x1 : AV} (hk : Open k 54) {s Q} (h : vwp (XK k) f54c0 (AEnv.of [x0, x1]) s (rtA (XK k) [] Q)) : VC (XK k) 54 [x0, x1] s Q := VC_in (Open.at hk) (by kernel_rfl : (XK k).fn 54 = some Try.f54) (by kernel_rfl) (by kernel_rfl) (by kernel_rfl : Try.f54.ntmps = 30) rfl h
def f54N0 := And.intro (@vS (XK k) f54c1 f54c2 f54c0 rfl) (And.intro (@vD (XK k) f54c1 _ _ _ [(2, []), (2, []), (2, []), (2, []), (2, []), (2, []), (2, []), (2, []), (1, []), (2, [8]), (2, [8]), (2, [8]), (2, [8]), (2, [8]), (2, []), (2, [])] rfl (by kernel_rfl) (by kernel_rfl) (by kernel_rfl)) (And.intro (@vS (XK k) f54c3 f54c4 f54c2 rfl) (And.intro (@vO (XK k) f54c3 _ _ _ rfl (by kernel_rfl)) (@vO (XK k) f54c4 _ _ _ rfl (by kernel_rfl)))))
end
end Go.Proofs.Yticllcglldbffaa.Ab
