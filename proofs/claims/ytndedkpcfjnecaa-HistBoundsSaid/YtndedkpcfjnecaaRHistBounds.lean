/- The row of HistBounds: a history keeps its bounds. -/
import Derived.Test.YtndedkpcfjnecaaRows
import Derived.Test.YtndedkpcfjnecaaKU
import Derived.Test.YtndedkpcfjnecaaC4
import Derived.Test.YtndedkpcfjnecaaH5
import Derived.WalkKit
import Derived.ProofKit
import Derived.OpenShut
import Derived.ChangeOld
import Derived.Below
import Derived.Carry
import Derived.SizedLaws
import Derived.Deep.Slices
import Derived.Deep.Fields
import Derived.ChangeSame
namespace Go.Proofs.Ytndedkpcfjnecaa.histBounds
open Go.ChangeShapes Go.WideShapes Go.ChangeAt Go.RowKit Go.Deep
open Go.Proofs.Ytndedkpcfjnecaa.Ab
set_option linter.unusedVariables false
set_option linter.unusedSimpArgs false
set_option maxRecDepth 100000
theorem own : ownKnob Try.prog.godebug = none := by kernel_rfl
theorem laidOut : laidOutB Try.prog = true := by kernel_rfl
theorem lifted (os : Os) (started : os.Started) (H : Type) (enc : TypeId × Value → H) :
    ReturnsInHanded {} Try.checked os 10 .any (Rows.histBoundsSpec.pre6 enc Try.prog Try.f10 Rows.histBoundsRow.domain false) (Rows.histBoundsSpec.post enc Try.prog Try.f10 false true false false) := by
  refine returnsInHanded_of_change_sized (C := Try.checked) own started (by kernel_rfl) Try.func10
    (ChangeSpec.witness6 (enc := enc) (C := Try.checked) false ⟨#[], #[.slice none 0 0, .int .u8 0, .int .u8 0], []⟩ 8 (by kernel_rfl) (by kernel_rfl) (by kernel_rfl) (by kernel_rfl)) ?_
  intro W base args ds gs before hval0 hW hcnd hsz0 _
  have hval : ∀ (j : Nat) t v, Try.f10.params[j]? = some t → args[j]? = some v → Value.okWide Try.prog W .any base t v := hval0
  have hW' := hW
  obtain ⟨p, q, hA0, hV, rfl, hfz, hnd⟩ := hW
  have hA : DataW.TrodAll enc Try.prog W 0 (fun _ => true) true Try.f10.params.toList args.toList ds p := hA0
  rw [Try.params10] at hA hval
  obtain ⟨v0, vs0, d0, ds0, p0, q0, hargs0, rfl, rfl, h0, r0⟩ := trodAll_cons hA
  obtain ⟨v1, vs1, d1, ds1, p1, q1, hargs1, rfl, rfl, h1, r1⟩ := trodAll_cons r0
  obtain ⟨v2, vs2, d2, ds2, p2, q2, hargs2, rfl, rfl, h2, r2⟩ := trodAll_cons r1
  obtain ⟨rfl, rfl, rfl⟩ := trodAll_nil r2
  obtain rfl : args = #[v0, v1, v2] := by cases args; simp_all
  obtain ⟨rfl, rfl⟩ := trodVars_none hV
  have k0 := h0
  have lt0 : ∀ x ∈ p0, x.block < W.heap.size := by obtain ⟨m, hm⟩ := k0; exact DataW.trod_lt m _ _ _ hm
  have k1 := h1
  have lt1 : ∀ x ∈ p1, x.block < W.heap.size := by obtain ⟨m, hm⟩ := k1; exact DataW.trod_lt m _ _ _ hm
  have k2 := h2
  have lt2 : ∀ x ∈ p2, x.block < W.heap.size := by obtain ⟨m, hm⟩ := k2; exact DataW.trod_lt m _ _ _ hm
  have walk : Calls Try.prog 10 #[v0, v1, v2] W fun e W' => e = .returned (.bool true) ∧ Below W.heap.size W W' := by
    obtain ⟨φ0, s0, y0, c0, a0, b0, e0, f0, g0⟩ := openSlice (X := XK (knRl awu)) (e := (.slice signD)) (fun _ => rfl) (by kernel_rfl) (hval 0 36 v0 rfl rfl) h0 (Ready.start (X := XK (knRl awu)) (laidWell_lt laidW) (laidWell_plain laidW) (show LaidIn [] W from laidIn_nil))
    obtain ⟨y1, rfl, _, _, z1⟩ := open_int Try.underlying5 (hval 1 5 v1 rfl rfl) h1
    obtain ⟨y2, rfl, _, _, z2⟩ := open_int Try.underlying5 (hval 2 5 v2 rfl rfl) h2
    have hl := ((LaidS.start (X := XK (knRl awu)) (G := gsize) laidW laidO).ext e0)
    exact law_calls soundU a0 (.cons _ _ _ _ f0 (.cons _ _ _ _ (VRel.int _ _) (.cons _ _ _ _ (VRel.int _ _) .nil))) (WC_of_VC hl laidPl ((TD.Enc.vr (.slice (.slice signD)) _ _ g0).append (.cons _ _ _ _ (.c _ rfl) (.cons _ _ _ _ (.c _ rfl) .nil))) (histBounds_ok (open_knRl awu) (rng8 z1) (rng8 z2) y0 rfl))
  clear hA0 hval0 hsz0
  refine walk.mono fun e W' ⟨he, bel⟩ => ?_
  subst he
  exact ⟨_, rfl, _, _, _, [], _, [], hW', trodAll_mk1 (shut_bool Try.underlying4 _), (trodAll_cons_mk (Below.trod laidOut (by kernel_rfl) (of_decide_eq_true (by kernel_rfl)) k0 bel lt0) (trodAll_cons_mk (Below.trod laidOut (by kernel_rfl) (of_decide_eq_true (by kernel_rfl)) k1 bel lt1) (trodAll_cons_mk (Below.trod laidOut (by kernel_rfl) (of_decide_eq_true (by kernel_rfl)) k2 bel lt2) trodAll_mk0))), rfl, bel.frame _, fun h => by cases h⟩
theorem over : Rows.histBoundsRow.holds Try.pinned (OpenSpec.ofChange Rows.histBoundsSpec) :=
  OpenClaim.holds_of_wide 10 Try.f10 rfl rfl rfl rfl rfl rfl rfl ⟨rfl, rfl, rfl, rfl, rfl⟩ rfl rfl rfl rfl rfl (by kernel_rfl) Try.func10 (by kernel_rfl)
    (of_decide_eq_true (by kernel_rfl)) (by unfold Func.isWrapper; first | (rw [if_pos (by decide +kernel)]; kernel_rfl) | (rw [if_neg (by decide +kernel)]; exact ⟨rfl, rfl⟩))
    (fun os started H enc _ => lifted os started H enc)
theorem proved : Rows.HistBoundsSaid := over
end Go.Proofs.Ytndedkpcfjnecaa.histBounds
namespace Go.Proofs.Ytndedkpcfjnecaa
/-- The row, under a short name, for the claim. -/
theorem histBounds_holds : Rows.HistBoundsSaid := histBounds.proved
end Go.Proofs.Ytndedkpcfjnecaa
#print axioms Go.Proofs.Ytndedkpcfjnecaa.histBounds_holds
