import Derived.Test.YticllcglldbffaaDoorCards
import Derived.Test.YticllcglldbffaaDoorTie
import Derived.Test.YticllcglldbffaaDoorKE
import Derived.Test.YticllcglldbffaaDoorKE2
import Derived.Test.YticllcglldbffaaDoorC4
import Derived.Test.YticllcglldbffaaDoorE14
import Derived.SevenTiedAt
namespace Go.Proofs.YticllcglldbffaaDoor.emitTexts
open Go.ChangeShapes Go.WideShapes Go.ChangeAt Go.RowKit Go.Deep
open Go.Proofs.YticllcglldbffaaDoor.Ab
set_option linter.unusedVariables false
set_option linter.unusedSimpArgs false
set_option maxRecDepth 100000
theorem lifted (os : Os) (started : os.Started) (H : Type) (enc : TypeId × Value → H) :
    ReturnsInHanded {} Tryd.checked os 5 .any (fun w args => (Rows.emitTextsSpec.pre enc Tryd.prog Tryd.f5 [] false w args ∧ laidMetH Tryd.prog bQ w) ∧ sizedMet enc Tryd.prog Tryd.f5 (OpenSpec.ofChange Rows.emitTextsSpec) false w args)
      (Rows.emitTextsSpec.post enc Tryd.prog Tryd.f5 false true false false) := by
  refine returnsInHanded_of_change_and (C := Tryd.checked) (X := fun w _ => laidMetH Tryd.prog bQ w) (fun _ _ _ hh h => h.of_heap hh) own started (by kernel_rfl) Tryd.func5
    (ChangeSpec.witness_shaped (enc := enc) (C := Tryd.checked) (os := os) (X := fun w _ => laidMetH Tryd.prog bQ w) false (World.doorLaid Tryd.prog 3000 os) #[.slice none 0 0, .slice none 0 0] 8 rfl (World.shaped_of_RefB (by kernel_rfl) (by kernel_rfl)) (by kernel_rfl) (by kernel_rfl) (by kernel_rfl) (n0 os _)) ?_
  intro W base args ds gs before hval0 hW _ _ hL _
  have hval : ∀ (j : Nat) t v, Tryd.f5.params[j]? = some t → args[j]? = some v → Value.okWide Tryd.prog W .any base t v := hval0
  have hW' := hW
  obtain ⟨p, q, hA0, hV, rfl, hfz, hnd⟩ := hW
  have hA : DataW.TrodAll enc Tryd.prog W 0 (fun _ => true) true Tryd.f5.params.toList args.toList ds p := hA0
  rw [Tryd.params5] at hA hval
  obtain ⟨v0, vs0, d0, ds0, p0, q0, hargs0, rfl, rfl, h0, r0⟩ := trodAll_cons hA
  obtain ⟨v1, vs1, d1, ds1, p1, q1, hargs1, rfl, rfl, h1, r1⟩ := trodAll_cons r0
  obtain ⟨rfl, rfl, rfl⟩ := trodAll_nil r1
  obtain rfl : args = #[v0, v1] := by cases args; simp_all
  obtain ⟨rfl, rfl⟩ := trodVars_none hV
  have k0 := h0
  have lt0 : ∀ x ∈ p0, x.block < W.heap.size := by obtain ⟨m, hm⟩ := k0; exact DataW.trod_lt m _ _ _ hm
  have k1 := h1
  have lt1 : ∀ x ∈ p1, x.block < W.heap.size := by obtain ⟨m, hm⟩ := k1; exact DataW.trod_lt m _ _ _ hm
  have walk : Calls Tryd.prog 5 #[v0, v1] W fun e W' => e = .returned (.bool true) ∧ Below W.heap.size W W' := by
    obtain ⟨φ0, s0, y0, c0, a0, b0, e0, f0, g0⟩ := wU (X := XK (knX awE)) (e := H6) (fun _ => rfl) (by kernel_rfl) (hval 0 38 v0 rfl rfl) h0 (dw.start (X := XK (knX awE)) (dI gw) (bG gw) (ub hL).1)
    obtain ⟨φ1, s1, y1, c1, a1, b1, e1, f1, g1⟩ := wU (X := XK (knX awE)) (e := H6) (fun _ => rfl) (by kernel_rfl) (hval 1 38 v1 rfl rfl) h1 a0
    have hl := (((ea.start (X := XK (knX awE)) (G := oj) gw HU).ext e0).ext e1)
    exact lX CO a1 (.cons _ _ _ _ (f0.mono b1) (.cons _ _ _ _ f1 .nil)) (oh hl ut ((TD.Enc.vr (.slice H6) _ _ (g0.keep_ e1)).append ((TD.Enc.vr (.slice H6) _ _ g1).append .nil)) (wh y0 y1 (xB Tryd.underlying38 (hval 0 38 v0 rfl rfl) f0 g0) (xB Tryd.underlying38 (hval 1 38 v1 rfl rfl) f1 g1) eE))
  clear hA0 hval0
  refine walk.mono fun e W' ⟨he, bel⟩ => ?_
  subst he
  exact ⟨_, rfl, _, _, _, [], _, [], hW', trodAll_mk1 (shut_bool Tryd.underlying4 _), (trodAll_cons_mk (Below.trod lN (by kernel_rfl) (of_decide_eq_true (by kernel_rfl)) k0 bel lt0) (trodAll_cons_mk (Below.trod lN (by kernel_rfl) (of_decide_eq_true (by kernel_rfl)) k1 bel lt1) trodAll_mk0)), rfl, bel.frame _, fun h => by cases h⟩
theorem over : Rows.EmitTextsSaid :=
  OpenClaim.holds_of_wide 5 Tryd.f5 rfl rfl rfl rfl rfl rfl rfl ⟨rfl, rfl, rfl, rfl, rfl⟩ rfl rfl rfl rfl rfl (by kernel_rfl) Tryd.func5 (by kernel_rfl)
    (of_decide_eq_true (by kernel_rfl)) (by unfold Func.isWrapper; first | (rw [if_pos (by decide +kernel)]; kernel_rfl) | (rw [if_neg (by decide +kernel)]; exact ⟨rfl, rfl⟩))
    (fun os started H enc _ => lifted os started H enc)
theorem card : Rows.EmitTextsCardSaid :=
  Claim7.holds_tied_plain_at .later [] [.data, .data] true (true, "4402c21b827b59a73a52487a9469d21868c2e453fffc880bd776917c43f4a807") false
    over (fun _ h => by cases h) (by kernel_rfl) (fun _ h => by cases h) emitTexts_row_tie rfl ⟨rfl, rfl⟩ (by kernel_rfl) rfl
    (fun f fn hf hfn => by
      obtain rfl : f = 5 := Option.some.inj ((show Tryd.prog.funcNamed "dactyl/dactyllaw10.EmitTexts" = some 5 by kernel_rfl).symm.trans hf) |>.symm
      obtain rfl : fn = Tryd.f5 := (Option.some.inj (Tryd.func5.symm.trans hfn)).symm
      exact ⟨by kernel_rfl, fun j t ht => by
        rw [Tryd.params5] at ht
        have hm : t ∈ [38, 38] := by simpa using Array.mem_of_getElem? ht
        have hall : ([38, 38].all fun u => !Tryd.prog.wantsStandIn u) = true := by kernel_rfl
        exact (show Tryd.prog.wantsStandIn t = false by simpa using List.all_eq_true.1 hall t hm)⟩)
    (by kernel_rfl)
end Go.Proofs.YticllcglldbffaaDoor.emitTexts
namespace Go.Proofs.YticllcglldbffaaDoor
theorem emitTexts_holds : Rows.EmitTextsCardSaid := emitTexts.card
end Go.Proofs.YticllcglldbffaaDoor
#print axioms Go.Proofs.YticllcglldbffaaDoor.emitTexts_holds
