/- The row of EscPlain: an entry's line has plain bytes, and tells the entry. -/
import Derived.Test.YticllcglldbffaaRows
import Derived.Test.YticllcglldbffaaKP
import Derived.Test.YticllcglldbffaaC4
import Derived.Test.YticllcglldbffaaQ3
import Derived.WalkKit
import Derived.ProofKit
import Derived.OpenShut
import Derived.ChangeOld
import Derived.Below
import Derived.Carry
import Derived.SizedLaws
import Derived.Deep.Slices
import Derived.Deep.Fields
import Derived.ChangeSame
namespace Go.Proofs.Yticllcglldbffaa.escPlain
open Go.ChangeShapes Go.WideShapes Go.ChangeAt Go.RowKit Go.Deep
open Go.Proofs.Yticllcglldbffaa.Ab
set_option linter.unusedVariables false
set_option linter.unusedSimpArgs false
set_option maxRecDepth 100000
theorem own : ownKnob Try.prog.godebug = none := by kernel_rfl
theorem laidOut : laidOutB Try.prog = true := by kernel_rfl
theorem lifted (os : Os) (started : os.Started) (H : Type) (enc : TypeId × Value → H) :
    ReturnsInHanded {} Try.checked os 4 .any (Rows.escPlainSpec.pre6 enc Try.prog Try.f4 Rows.escPlainRow.domain false) (Rows.escPlainSpec.post enc Try.prog Try.f4 false true false false) := by
  refine returnsInHanded_of_change_sized (C := Try.checked) own started (by kernel_rfl) Try.func4
    (ChangeSpec.witness6 (enc := enc) (C := Try.checked) false ⟨#[], #[.slice none 0 0, .slice none 0 0], []⟩ 8 (by kernel_rfl) (by kernel_rfl) (by kernel_rfl) (by kernel_rfl)) ?_
  intro W base args ds gs before hval0 hW hcnd hsz0 _
  have hval : ∀ (j : Nat) t v, Try.f4.params[j]? = some t → args[j]? = some v → Value.okWide Try.prog W .any base t v := hval0
  have hW' := hW
  obtain ⟨p, q, hA0, hV, rfl, hfz, hnd⟩ := hW
  have hA : DataW.TrodAll enc Try.prog W 0 (fun _ => true) true Try.f4.params.toList args.toList ds p := hA0
  rw [Try.params4] at hA hval
  obtain ⟨v0, vs0, d0, ds0, p0, q0, hargs0, rfl, rfl, h0, r0⟩ := trodAll_cons hA
  obtain ⟨v1, vs1, d1, ds1, p1, q1, hargs1, rfl, rfl, h1, r1⟩ := trodAll_cons r0
  obtain ⟨rfl, rfl, rfl⟩ := trodAll_nil r1
  obtain rfl : args = #[v0, v1] := by cases args; simp_all
  obtain ⟨rfl, rfl⟩ := trodVars_none hV
  have k0 := h0
  have lt0 : ∀ x ∈ p0, x.block < W.heap.size := by obtain ⟨m, hm⟩ := k0; exact DataW.trod_lt m _ _ _ hm
  have k1 := h1
  have lt1 : ∀ x ∈ p1, x.block < W.heap.size := by obtain ⟨m, hm⟩ := k1; exact DataW.trod_lt m _ _ _ hm
  have walk : Calls Try.prog 4 #[v0, v1] W fun e W' => e = .returned (.bool true) ∧ Below W.heap.size W W' := by
    obtain ⟨φ0, s0, y0, c0, a0, b0, e0, f0, g0⟩ := openSlice (X := XK (knP awq)) (e := signD) (fun _ => rfl) (by kernel_rfl) (hval 0 30 v0 rfl rfl) h0 (Ready.start (X := XK (knP awq)) (laidWell_lt laidW) (laidWell_plain laidW) (show LaidIn [] W from laidIn_nil))
    obtain ⟨φ1, s1, y1, c1, a1, b1, e1, f1, g1⟩ := openSlice (X := XK (knP awq)) (e := signD) (fun _ => rfl) (by kernel_rfl) (hval 1 30 v1 rfl rfl) h1 a0
    have hl := (((LaidS.start (X := XK (knP awq)) (G := gsize) laidW laidO).ext e0).ext e1)
    exact law_calls soundQ a1 (.cons _ _ _ _ (f0.mono b1) (.cons _ _ _ _ f1 .nil)) (WC_of_VC hl laidPl ((TD.Enc.vr (.slice signD) _ _ (g0.keep_ e1)).append ((TD.Enc.vr (.slice signD) _ _ g1).append .nil)) (escPlain_ok (open_knP awq) (hrep_knP awq) rfl y0 y1 emptyVS))
  clear hA0 hval0 hsz0
  refine walk.mono fun e W' ⟨he, bel⟩ => ?_
  subst he
  exact ⟨_, rfl, _, _, _, [], _, [], hW', trodAll_mk1 (shut_bool Try.underlying4 _), (trodAll_cons_mk (Below.trod laidOut (by kernel_rfl) (of_decide_eq_true (by kernel_rfl)) k0 bel lt0) (trodAll_cons_mk (Below.trod laidOut (by kernel_rfl) (of_decide_eq_true (by kernel_rfl)) k1 bel lt1) trodAll_mk0)), rfl, bel.frame _, fun h => by cases h⟩
theorem over : Rows.escPlainRow.holds Try.pinned (OpenSpec.ofChange Rows.escPlainSpec) :=
  OpenClaim.holds_of_wide 4 Try.f4 rfl rfl rfl rfl rfl rfl rfl ⟨rfl, rfl, rfl, rfl, rfl⟩ rfl rfl rfl rfl rfl (by kernel_rfl) Try.func4 (by kernel_rfl)
    (of_decide_eq_true (by kernel_rfl)) (by unfold Func.isWrapper; first | (rw [if_pos (by decide +kernel)]; kernel_rfl) | (rw [if_neg (by decide +kernel)]; exact ⟨rfl, rfl⟩))
    (fun os started H enc _ => lifted os started H enc)
theorem proved : Rows.EscPlainSaid := over
end Go.Proofs.Yticllcglldbffaa.escPlain
namespace Go.Proofs.Yticllcglldbffaa
/-- The row, under a short name, for the claim. -/
theorem escPlain_holds : Rows.EscPlainSaid := escPlain.proved
end Go.Proofs.Yticllcglldbffaa
#print axioms Go.Proofs.Yticllcglldbffaa.escPlain_holds
