/- The row of LineBack, and its card: what was cut comes back, and letters that were changed are the same letters. -/
import Derived.Test.YtkmjgpoenljnaaaDoorCards
import Derived.Test.YtkmjgpoenljnaaaDoorTie
import Derived.Test.YtkmjgpoenljnaaaDoorKA
import Derived.Test.YtkmjgpoenljnaaaDoorC4
import Derived.Test.YtkmjgpoenljnaaaDoorL12
import Derived.SevenTiedAt
namespace Go.Proofs.YtkmjgpoenljnaaaDoor.lineBack
open Go.ChangeShapes Go.WideShapes Go.ChangeAt Go.RowKit Go.Deep
open Go.Proofs.YtkmjgpoenljnaaaDoor.Ab
set_option linter.unusedVariables false
set_option linter.unusedSimpArgs false
set_option maxRecDepth 100000
theorem lifted (os : Os) (started : os.Started) (H : Type) (enc : TypeId × Value → H) :
    ReturnsInHanded {} Tryd.checked os 4 .any (fun w args => (Rows.lineBackSpec.pre enc Tryd.prog Tryd.f4 [] false w args ∧ laidMetH Tryd.prog laidRows w) ∧ sizedMet enc Tryd.prog Tryd.f4 (OpenSpec.ofChange Rows.lineBackSpec) false w args)
      (Rows.lineBackSpec.post enc Tryd.prog Tryd.f4 false true false false) := by
  refine returnsInHanded_of_change_and (C := Tryd.checked) (X := fun w _ => laidMetH Tryd.prog laidRows w) (fun _ _ _ hh h => h.of_heap hh) own started (by kernel_rfl) Tryd.func4
    (ChangeSpec.witness_shaped (enc := enc) (C := Tryd.checked) (os := os) (X := fun w _ => laidMetH Tryd.prog laidRows w) false (World.doorLaid Tryd.prog 3000 os) #[.agg #[.slice none 0 0, .int .i64 0], .agg #[.int .i64 0, .int .i64 0, .int .i64 0]] 8 rfl (World.shaped_of_RefB (by kernel_rfl) (by kernel_rfl)) (by kernel_rfl) (by kernel_rfl) (by kernel_rfl) (door_met os _)) ?_
  intro W base args ds gs before hval0 hW _ _ hL _
  have hval : ∀ (j : Nat) t v, Tryd.f4.params[j]? = some t → args[j]? = some v → Value.okWide Tryd.prog W .any base t v := hval0
  have hW' := hW
  obtain ⟨p, q, hA0, hV, rfl, hfz, hnd⟩ := hW
  have hA : DataW.TrodAll enc Tryd.prog W 0 (fun _ => true) true Tryd.f4.params.toList args.toList ds p := hA0
  rw [Tryd.params4] at hA hval
  obtain ⟨v0, vs0, d0, ds0, p0, q0, hargs0, rfl, rfl, h0, r0⟩ := trodAll_cons hA
  obtain ⟨v1, vs1, d1, ds1, p1, q1, hargs1, rfl, rfl, h1, r1⟩ := trodAll_cons r0
  obtain ⟨rfl, rfl, rfl⟩ := trodAll_nil r1
  obtain rfl : args = #[v0, v1] := by cases args; simp_all
  obtain ⟨rfl, rfl⟩ := trodVars_none hV
  have k0 := h0
  have lt0 : ∀ x ∈ p0, x.block < W.heap.size := by obtain ⟨m, hm⟩ := k0; exact DataW.trod_lt m _ _ _ hm
  have k1 := h1
  have lt1 : ∀ x ∈ p1, x.block < W.heap.size := by obtain ⟨m, hm⟩ := k1; exact DataW.trod_lt m _ _ _ hm
  have walk : Calls Tryd.prog 4 #[v0, v1] W fun e W' => e = .returned (.bool true) ∧ Below W.heap.size W W' := by
    obtain ⟨φ0, s0, y0, c0, a0, b0, e0, f0, g0⟩ := openStruct (X := XK (knL awl)) (d := lineD) (fun _ => rfl) (of_laid hL).2 (by kernel_rfl) Tryd.underlying24 (hval 0 24 v0 rfl rfl) h0 (Ready.start (X := XK (knL awl)) (laidWell_lt laidW) (laidWell_plain laidW) (of_laid hL).1)
    obtain ⟨φ1, s1, y1, c1, a1, b1, e1, f1, g1⟩ := openStruct (X := XK (knL awl)) (d := twoD) (fun _ => rfl) (of_laid hL).2 (by kernel_rfl) Tryd.underlying31 (hval 1 31 v1 rfl rfl) h1 a0
    have hl := (((LaidS.start (X := XK (knL awl)) (G := gsize) laidW laidO).ext e0).ext e1)
    exact law_calls sound a1 (.cons _ _ _ _ (f0.mono b1) (.cons _ _ _ _ f1 .nil)) (WC_of_VC hl laidPl (.cons _ _ _ _ (.agg _ _ (TD.Enc.vr lineD _ _ (g0.keep_ e1))) (.cons _ _ _ _ (.agg _ _ (TD.Enc.vr twoD _ _ g1)) .nil)) (lineBack_ok (open_knL awl) rfl y0 y1.1 y1.2.1 y1.2.2 emptyVS))
  clear hA0 hval0
  refine walk.mono fun e W' ⟨he, bel⟩ => ?_
  subst he
  exact ⟨_, rfl, _, _, _, [], _, [], hW', trodAll_mk1 (shut_bool Tryd.underlying4 _), (trodAll_cons_mk (Below.trod laidOut (by kernel_rfl) (of_decide_eq_true (by kernel_rfl)) k0 bel lt0) (trodAll_cons_mk (Below.trod laidOut (by kernel_rfl) (of_decide_eq_true (by kernel_rfl)) k1 bel lt1) trodAll_mk0)), rfl, bel.frame _, fun h => by cases h⟩
theorem over : Rows.LineBackSaid :=
  OpenClaim.holds_of_wide 4 Tryd.f4 rfl rfl rfl rfl rfl rfl rfl ⟨rfl, rfl, rfl, rfl, rfl⟩ rfl rfl rfl rfl rfl (by kernel_rfl) Tryd.func4 (by kernel_rfl)
    (of_decide_eq_true (by kernel_rfl)) (by unfold Func.isWrapper; first | (rw [if_pos (by decide +kernel)]; kernel_rfl) | (rw [if_neg (by decide +kernel)]; exact ⟨rfl, rfl⟩))
    (fun os started H enc _ => lifted os started H enc)
theorem card : Rows.LineBackCardSaid :=
  Claim7.holds_tied_plain_at .later [] [.data, .data] true (true, "558e41cac3446ff1ee2ce25381e0cb91b8876fa34c5421df7007689ef935e6b8") false
    over (fun _ h => by cases h) (by kernel_rfl) (fun _ h => by cases h) lineBack_row_tie rfl ⟨rfl, rfl⟩ (by kernel_rfl) rfl
    (fun f fn hf hfn => by
      obtain rfl : f = 4 := Option.some.inj ((show Tryd.prog.funcNamed "dactyl/dactyllaw17.LineBack" = some 4 by kernel_rfl).symm.trans hf) |>.symm
      obtain rfl : fn = Tryd.f4 := (Option.some.inj (Tryd.func4.symm.trans hfn)).symm
      exact ⟨by kernel_rfl, fun j t ht => by
        rw [Tryd.params4] at ht
        have hm : t ∈ [24, 31] := by simpa using Array.mem_of_getElem? ht
        have hall : ([24, 31].all fun u => !Tryd.prog.wantsStandIn u) = true := by kernel_rfl
        exact (show Tryd.prog.wantsStandIn t = false by simpa using List.all_eq_true.1 hall t hm)⟩)
    (by kernel_rfl)
end Go.Proofs.YtkmjgpoenljnaaaDoor.lineBack
namespace Go.Proofs.YtkmjgpoenljnaaaDoor
/-- The card, under a short name, for the claim. -/
theorem lineBack_holds : Rows.LineBackCardSaid := lineBack.card
end Go.Proofs.YtkmjgpoenljnaaaDoor
#print axioms Go.Proofs.YtkmjgpoenljnaaaDoor.lineBack_holds
