/- What looks like something else: the laws SpoofStrips, SpoofAlike. -/
import Derived.Test.YtpckldhojfjdmaaDoorM5
import Derived.Test.YtpckldhojfjdmaaDoorG4
namespace Go.Proofs.YtpckldhojfjdmaaDoor.Ab
open Go.Proofs
set_option maxRecDepth 100000
set_option maxHeartbeats 4000000
set_option linter.unusedSimpArgs false
set_option linter.unusedVariables false
set_option linter.unnecessarySimpa false
set_option linter.unusedSectionVars false
section
variable {k : Nat → List Value → Option Value} (hk : ∀ f, f ≠ 95 → Open k f)
include hk
theorem skeleton_ok (v : Int) : PC (XK k) 73 [.c (.int .i64 v)] (.c (.int .i64 (skF v))) := by
  refine PC_of fun s => ?_
  refine f73_in (hk _ (by decide)) ?_
  have ha := alike_ok hk v
  unfold skF skelOf
  cases hf : firstL v LT with
  | none =>
    rw [hf] at ha
    unfold alikeR at ha
    repeat' (first | ((first | apply ga_dec | apply ga_ndec | apply cd_dec | apply cd_ndec | apply gd_dec | apply gd_ndec | apply ga_split | apply cd_split | apply gd_split) <;> intro hc <;> (try (simp -implicitDefEqProofs (maxSteps := 2000000) (disch := first | omega | (simp only [vz_push, vz_set, drop_size]; first | done | omega)) only [push_cast, seval, f73N0, f73N1, hc])) <;> (try (exfalso; omega))) | refine VC_pure (ha) ?_ | (simp -implicitDefEqProofs (maxSteps := 2000000) (disch := first | omega | (simp only [vz_push, vz_set, drop_size]; first | done | omega)) only [push_cast, seval, f73N0, f73N1]))
    exact out_int (by (repeat first | assumption | exact KeepA.refl _ | apply KeepA.push | refine KeepA.set ?_ (by first | omega | (simp only [vz_push, vz_set, drop_size]; omega) | (have h9 := KeepA.size_le (by assumption); (try simp only [vz_push, vz_set, drop_size] at *); omega)) _ | refine KeepA.drop ?_ (by first | omega | (simp only [vz_push, vz_set, drop_size]; omega) | (have h9 := KeepA.size_le (by assumption); (try simp only [vz_push, vz_set, drop_size] at *); omega)) | refine KeepA.trans ?_ (by assumption))) rfl
  | some b =>
    rw [hf] at ha
    unfold alikeR at ha
    repeat' (first | ((first | apply ga_dec | apply ga_ndec | apply cd_dec | apply cd_ndec | apply gd_dec | apply gd_ndec | apply ga_split | apply cd_split | apply gd_split) <;> intro hc <;> (try (simp -implicitDefEqProofs (maxSteps := 2000000) (disch := first | omega | (simp only [vz_push, vz_set, drop_size]; first | done | omega)) only [push_cast, seval, f73N0, f73N1, hc])) <;> (try (exfalso; omega))) | refine VC_pure (ha) ?_ | (simp -implicitDefEqProofs (maxSteps := 2000000) (disch := first | omega | (simp only [vz_push, vz_set, drop_size]; first | done | omega)) only [push_cast, seval, f73N0, f73N1]))
    exact out_int (by (repeat first | assumption | exact KeepA.refl _ | apply KeepA.push | refine KeepA.set ?_ (by first | omega | (simp only [vz_push, vz_set, drop_size]; omega) | (have h9 := KeepA.size_le (by assumption); (try simp only [vz_push, vz_set, drop_size] at *); omega)) _ | refine KeepA.drop ?_ (by first | omega | (simp only [vz_push, vz_set, drop_size]; omega) | (have h9 := KeepA.size_le (by assumption); (try simp only [vz_push, vz_set, drop_size] at *); omega)) | refine KeepA.trans ?_ (by assumption))) rfl
theorem rskeleton_ok (v : Int) : PC (XK k) 68 [.c (.int .i64 v)] (.c (.int .i64 (skF v))) := by
  have := refSkel_ok hk v
  rw [← (class_pure v).2.2.1] at this
  exact this
theorem strip1_ok (v : Int) : PC (XK k) 71 [.c (.int .i64 v)] (tx (gStrip v)) := by
  refine PC_of fun s => ?_
  refine f71_in (hk _ (by decide)) ?_
  unfold gStrip
  cases hd : dangerV v
  all_goals repeat' (first | ((first | apply ga_dec | apply ga_ndec | apply cd_dec | apply cd_ndec | apply gd_dec | apply gd_ndec | apply ga_split | apply cd_split | apply gd_split) <;> intro hc <;> (try (simp -implicitDefEqProofs (maxSteps := 2000000) (disch := first | omega | (simp only [vz_push, vz_set, drop_size]; first | done | omega)) only [push_cast, seval, f71N0, f71N1, hc, hd])) <;> (try (exfalso; omega))) | refine VC_pure (danger_ok hk v) ?_ | refine VC_one (gp_eq (by simp only [vz_push])) (encode1_ok hk _) (Rigid.c _) ?_ | (simp -implicitDefEqProofs (maxSteps := 2000000) (disch := first | omega | (simp only [vz_push, vz_set, drop_size]; first | done | omega)) only [push_cast, seval, f71N0, f71N1, hd]))
  all_goals exact out_tx (by (repeat first | assumption | exact KeepA.refl _ | apply KeepA.push | refine KeepA.set ?_ (by first | omega | (simp only [vz_push, vz_set, drop_size]; omega) | (have h9 := KeepA.size_le (by assumption); (try simp only [vz_push, vz_set, drop_size] at *); omega)) _ | refine KeepA.drop ?_ (by first | omega | (simp only [vz_push, vz_set, drop_size]; omega) | (have h9 := KeepA.size_le (by assumption); (try simp only [vz_push, vz_set, drop_size] at *); omega)) | refine KeepA.trans ?_ (by assumption))) (by simp)
theorem fold1_ok (v : Int) : PC (XK k) 72 [.c (.int .i64 v)] (tx (encR (skF v))) := by
  refine PC_of fun s => ?_
  refine f72_in (hk _ (by decide)) ?_
  repeat' (first | ((first | apply ga_dec | apply ga_ndec | apply cd_dec | apply cd_ndec | apply gd_dec | apply gd_ndec | apply ga_split | apply cd_split | apply gd_split) <;> intro hc <;> (try (simp -implicitDefEqProofs (maxSteps := 2000000) (disch := first | omega | (simp only [vz_push, vz_set, drop_size]; first | done | omega)) only [push_cast, seval, f72N0, hc])) <;> (try (exfalso; omega))) | refine VC_pure (skeleton_ok hk v) ?_ | refine VC_one (gp_eq (by simp only [vz_push])) (encode1_ok hk _) (Rigid.c _) ?_ | (simp -implicitDefEqProofs (maxSteps := 2000000) (disch := first | omega | (simp only [vz_push, vz_set, drop_size]; first | done | omega)) only [push_cast, seval, f72N0]))
  exact out_tx (by (repeat first | assumption | exact KeepA.refl _ | apply KeepA.push | refine KeepA.set ?_ (by first | omega | (simp only [vz_push, vz_set, drop_size]; omega) | (have h9 := KeepA.size_le (by assumption); (try simp only [vz_push, vz_set, drop_size] at *); omega)) _ | refine KeepA.drop ?_ (by first | omega | (simp only [vz_push, vz_set, drop_size]; omega) | (have h9 := KeepA.size_le (by assumption); (try simp only [vz_push, vz_set, drop_size] at *); omega)) | refine KeepA.trans ?_ (by assumption))) rfl
theorem sstrip_ok (s : List UInt8) (hl : s.length < 1000000) : PC (XK k) 31 [tx s] (tx (stripL s)) := by
  refine PC_of fun st => ?_
  refine f31_in (hk _ (by decide)) ?_
  repeat' (first | ((first | apply ga_dec | apply ga_ndec | apply cd_dec | apply cd_ndec | apply gd_dec | apply gd_ndec | apply ga_split | apply cd_split | apply gd_split) <;> intro hc <;> (try (simp -implicitDefEqProofs (maxSteps := 2000000) (disch := first | omega | (simp only [vz_push, vz_set, drop_size]; first | done | omega)) only [push_cast, seval, f31N0, hc])) <;> (try (exfalso; omega))) | refine VC_pure (left_ok hk s) ?_ | refine VC_pure (left1_ok hk s hl 71 gStrip (fun v _ => ⟨strip1_ok hk v, by have := gStrip_len v; omega⟩)) ?_ | (simp -implicitDefEqProofs (maxSteps := 2000000) (disch := first | omega | (simp only [vz_push, vz_set, drop_size]; first | done | omega)) only [push_cast, seval, f31N0]))
  exact out_tx (by (repeat first | assumption | exact KeepA.refl _ | apply KeepA.push | refine KeepA.set ?_ (by first | omega | (simp only [vz_push, vz_set, drop_size]; omega) | (have h9 := KeepA.size_le (by assumption); (try simp only [vz_push, vz_set, drop_size] at *); omega)) _ | refine KeepA.drop ?_ (by first | omega | (simp only [vz_push, vz_set, drop_size]; omega) | (have h9 := KeepA.size_le (by assumption); (try simp only [vz_push, vz_set, drop_size] at *); omega)) | refine KeepA.trans ?_ (by assumption))) rfl
theorem stell_ok (hrep : ∀ d : Nat, d ≤ 16 → PC (XK k) 95 [tx [48], .c (.int .i64 d)] (tx (List.replicate d 48))) (s : List UInt8) (hl : s.length < 1000000) : PC (XK k) 32 [tx s] (tx (tellL s)) := by
  refine PC_of fun st => ?_
  refine f32_in (hk _ (by decide)) ?_
  repeat' (first | ((first | apply ga_dec | apply ga_ndec | apply cd_dec | apply cd_ndec | apply gd_dec | apply gd_ndec | apply ga_split | apply cd_split | apply gd_split) <;> intro hc <;> (try (simp -implicitDefEqProofs (maxSteps := 2000000) (disch := first | omega | (simp only [vz_push, vz_set, drop_size]; first | done | omega)) only [push_cast, seval, f32N0, hc])) <;> (try (exfalso; omega))) | refine VC_pure (left_ok hk s) ?_ | refine VC_pure (left1_ok hk s hl 26 textV (fun v _ => ⟨text_ok hk hrep v, textV_len v⟩)) ?_ | (simp -implicitDefEqProofs (maxSteps := 2000000) (disch := first | omega | (simp only [vz_push, vz_set, drop_size]; first | done | omega)) only [push_cast, seval, f32N0]))
  exact out_tx (by (repeat first | assumption | exact KeepA.refl _ | apply KeepA.push | refine KeepA.set ?_ (by first | omega | (simp only [vz_push, vz_set, drop_size]; omega) | (have h9 := KeepA.size_le (by assumption); (try simp only [vz_push, vz_set, drop_size] at *); omega)) _ | refine KeepA.drop ?_ (by first | omega | (simp only [vz_push, vz_set, drop_size]; omega) | (have h9 := KeepA.size_le (by assumption); (try simp only [vz_push, vz_set, drop_size] at *); omega)) | refine KeepA.trans ?_ (by assumption))) rfl
theorem sfold_ok (s : List UInt8) (hl : s.length < 1000000) : PC (XK k) 33 [tx s] (tx (foldL s)) := by
  refine PC_of fun st => ?_
  refine f33_in (hk _ (by decide)) ?_
  repeat' (first | ((first | apply ga_dec | apply ga_ndec | apply cd_dec | apply cd_ndec | apply gd_dec | apply gd_ndec | apply ga_split | apply cd_split | apply gd_split) <;> intro hc <;> (try (simp -implicitDefEqProofs (maxSteps := 2000000) (disch := first | omega | (simp only [vz_push, vz_set, drop_size]; first | done | omega)) only [push_cast, seval, f33N0, hc])) <;> (try (exfalso; omega))) | refine VC_pure (left_ok hk s) ?_ | refine VC_pure (left1_ok hk s hl 72 (fun v => encR (skF v)) (fun v _ => ⟨fold1_ok hk v, by have := encR_len4 (skF v); omega⟩)) ?_ | (simp -implicitDefEqProofs (maxSteps := 2000000) (disch := first | omega | (simp only [vz_push, vz_set, drop_size]; first | done | omega)) only [push_cast, seval, f33N0]))
  exact out_tx (by (repeat first | assumption | exact KeepA.refl _ | apply KeepA.push | refine KeepA.set ?_ (by first | omega | (simp only [vz_push, vz_set, drop_size]; omega) | (have h9 := KeepA.size_le (by assumption); (try simp only [vz_push, vz_set, drop_size] at *); omega)) _ | refine KeepA.drop ?_ (by first | omega | (simp only [vz_push, vz_set, drop_size]; omega) | (have h9 := KeepA.size_le (by assumption); (try simp only [vz_push, vz_set, drop_size] at *); omega)) | refine KeepA.trans ?_ (by assumption))) rfl
theorem rstrip_ok (s : List UInt8) (hl : s.length < 1000000) : PC (XK k) 35 [tx s] (tx (stripL s)) := by
  refine PC_of fun st => ?_
  refine f35_in (hk _ (by decide)) ?_
  have hdl := decL_len s
  have hdr := decL_right s
  unfold stripL
  repeat' (first | ((first | apply ga_dec | apply ga_ndec | apply cd_dec | apply cd_ndec | apply gd_dec | apply gd_ndec | apply ga_split | apply cd_split | apply gd_split) <;> intro hc <;> (try (simp -implicitDefEqProofs (maxSteps := 2000000) (disch := first | omega | (simp only [vz_push, vz_set, drop_size]; first | done | omega)) only [push_cast, seval, f35N0, f35N1, f35N2, hc])) <;> (try (exfalso; omega))) | refine VC_pure (rdecode_ok hk s hl) ?_ | (simp -implicitDefEqProofs (maxSteps := 2000000) (disch := first | omega | (simp only [vz_push, vz_set, drop_size]; first | done | omega)) only [push_cast, seval, f35N0, f35N1, f35N2]))
  generalize decL s = d at *
  refine VW_iter (fun m ρ s' => ∃ j : Nat, m = d.length - j ∧ j ≤ d.length ∧ ρ.get 3 = LI d ∧ ρ.get 4 = tx ((d.take j).flatMap gStrip) ∧ ρ.get 5 = .c (.int .i64 j) ∧ (KeepA st s')) (d.length) ⟨0, rfl, Nat.zero_le _, by (((try simp -implicitDefEqProofs only [eA_tmp, eA_const, AEnv.get_set, ofA_get, List.getD_cons_zero, List.getD_cons_succ, ↓reduceIte, reduceCtorEq, Nat.reduceEqDiff]); try (first | (with_reducible assumption) | (with_reducible rfl) | (congr 2 <;> omega) | rfl))), by (((try simp -implicitDefEqProofs only [eA_tmp, eA_const, AEnv.get_set, ofA_get, List.getD_cons_zero, List.getD_cons_succ, ↓reduceIte, reduceCtorEq, Nat.reduceEqDiff]); try (first | (with_reducible assumption) | (with_reducible rfl) | (congr 2 <;> omega) | rfl))), by (((try simp -implicitDefEqProofs only [eA_tmp, eA_const, AEnv.get_set, ofA_get, List.getD_cons_zero, List.getD_cons_succ, ↓reduceIte, reduceCtorEq, Nat.reduceEqDiff]); try (first | (with_reducible assumption) | (with_reducible rfl) | (congr 2 <;> omega) | rfl))), by (repeat first | assumption | exact KeepA.refl _ | apply KeepA.push | refine KeepA.set ?_ (by first | omega | (simp only [vz_push, vz_set, drop_size]; omega) | (have h9 := KeepA.size_le (by assumption); (try simp only [vz_push, vz_set, drop_size] at *); omega)) _ | refine KeepA.drop ?_ (by first | omega | (simp only [vz_push, vz_set, drop_size]; omega) | (have h9 := KeepA.size_le (by assumption); (try simp only [vz_push, vz_set, drop_size] at *); omega)) | refine KeepA.trans ?_ (by assumption))⟩ ?_
  rintro m ρ s' ⟨j, rfl, hj, g3, g4, g5, j1⟩
  by_cases hc : j < d.length
  · obtain ⟨v, hv⟩ : ∃ v, d[j]? = some v := ⟨_, List.getElem?_eq_getElem hc⟩
    have hst : (d.take (j + 1)).flatMap gStrip = (d.take j).flatMap gStrip ++ gStrip v := by rw [take_snoc hv, List.flatMap_append]; simp
    have hle := flatMap_le (g := gStrip) (c := 4) (d.take j) (fun v _ => gStrip_len v)
    rw [List.length_take] at hle
    have hr := hdr v (List.mem_of_getElem? hv)
    have hrr := right_rng hr
    have h4 := encV_len4 v
    generalize (d.take j).flatMap gStrip = t at *
    repeat' (first | ((first | apply ga_dec | apply ga_ndec | apply cd_dec | apply cd_ndec | apply gd_dec | apply gd_ndec | apply ga_split | apply cd_split | apply gd_split) <;> intro hc <;> (try (simp -implicitDefEqProofs (maxSteps := 2000000) (disch := first | omega | (simp only [vz_push, vz_set, drop_size]; first | done | omega)) only [push_cast, seval, f35N0, f35N1, f35N2, hc, g3, g4, g5, hv, eI])) <;> (try (exfalso; omega))) | refine VC_pure (rof_ok hk v) ?_ | refine VC_pure (rbytes_ok hk v (by omega) (by omega)) ?_ | (simp -implicitDefEqProofs (maxSteps := 2000000) (disch := first | omega | (simp only [vz_push, vz_set, drop_size]; first | done | omega)) only [push_cast, seval, f35N0, f35N1, f35N2, g3, g4, g5, hv, eI]))
    · refine ⟨_ - (j + 1), by omega, j + 1, rfl, by omega, ?_⟩ <;> (try simp only [Int.natCast_add, Int.natCast_one, cast_lit, and_true, true_and, eq_self])
      refine ⟨?_, j1⟩
      rw [hst]
      unfold gStrip dangerV encR
      rw [if_neg (by simp; omega), if_pos hr]
    · refine ⟨_ - (j + 1), by omega, j + 1, rfl, by omega, ?_⟩ <;> (try simp only [Int.natCast_add, Int.natCast_one, cast_lit, and_true, true_and, eq_self])
      refine ⟨?_, j1⟩
      rw [hst]
      unfold gStrip dangerV
      rw [if_pos (by simp; omega), List.append_nil]
  · obtain rfl : j = d.length := by omega
    rw [List.take_length] at g4
    repeat' (first | ((first | apply ga_dec | apply ga_ndec | apply cd_dec | apply cd_ndec | apply gd_dec | apply gd_ndec | apply ga_split | apply cd_split | apply gd_split) <;> intro hc <;> (try (simp -implicitDefEqProofs (maxSteps := 2000000) (disch := first | omega | (simp only [vz_push, vz_set, drop_size]; first | done | omega)) only [push_cast, seval, f35N0, f35N1, f35N2, hc, g3, g4, g5])) <;> (try (exfalso; omega))) | (simp -implicitDefEqProofs (maxSteps := 2000000) (disch := first | omega | (simp only [vz_push, vz_set, drop_size]; first | done | omega)) only [push_cast, seval, f35N0, f35N1, f35N2, g3, g4, g5]))
    exact out_tx (by (repeat first | assumption | exact KeepA.refl _ | apply KeepA.push | refine KeepA.set ?_ (by first | omega | (simp only [vz_push, vz_set, drop_size]; omega) | (have h9 := KeepA.size_le (by assumption); (try simp only [vz_push, vz_set, drop_size] at *); omega)) _ | refine KeepA.drop ?_ (by first | omega | (simp only [vz_push, vz_set, drop_size]; omega) | (have h9 := KeepA.size_le (by assumption); (try simp only [vz_push, vz_set, drop_size] at *); omega)) | refine KeepA.trans ?_ (by assumption))) rfl
theorem rtell_ok (s : List UInt8) (hl : s.length < 1000000) : PC (XK k) 36 [tx s] (tx (tellL s)) := by
  refine PC_of fun st => ?_
  refine f36_in (hk _ (by decide)) ?_
  have hdl := decL_len s
  unfold tellL
  repeat' (first | ((first | apply ga_dec | apply ga_ndec | apply cd_dec | apply cd_ndec | apply gd_dec | apply gd_ndec | apply ga_split | apply cd_split | apply gd_split) <;> intro hc <;> (try (simp -implicitDefEqProofs (maxSteps := 2000000) (disch := first | omega | (simp only [vz_push, vz_set, drop_size]; first | done | omega)) only [push_cast, seval, f36N0, f36N1, hc])) <;> (try (exfalso; omega))) | refine VC_pure (rdecode_ok hk s hl) ?_ | (simp -implicitDefEqProofs (maxSteps := 2000000) (disch := first | omega | (simp only [vz_push, vz_set, drop_size]; first | done | omega)) only [push_cast, seval, f36N0, f36N1]))
  generalize decL s = d at *
  refine VW_iter (fun m ρ s' => ∃ j : Nat, m = d.length - j ∧ j ≤ d.length ∧ ρ.get 3 = LI d ∧ ρ.get 4 = tx ((d.take j).flatMap textV) ∧ ρ.get 5 = .c (.int .i64 j) ∧ (KeepA st s')) (d.length) ⟨0, rfl, Nat.zero_le _, by (((try simp -implicitDefEqProofs only [eA_tmp, eA_const, AEnv.get_set, ofA_get, List.getD_cons_zero, List.getD_cons_succ, ↓reduceIte, reduceCtorEq, Nat.reduceEqDiff]); try (first | (with_reducible assumption) | (with_reducible rfl) | (congr 2 <;> omega) | rfl))), by (((try simp -implicitDefEqProofs only [eA_tmp, eA_const, AEnv.get_set, ofA_get, List.getD_cons_zero, List.getD_cons_succ, ↓reduceIte, reduceCtorEq, Nat.reduceEqDiff]); try (first | (with_reducible assumption) | (with_reducible rfl) | (congr 2 <;> omega) | rfl))), by (((try simp -implicitDefEqProofs only [eA_tmp, eA_const, AEnv.get_set, ofA_get, List.getD_cons_zero, List.getD_cons_succ, ↓reduceIte, reduceCtorEq, Nat.reduceEqDiff]); try (first | (with_reducible assumption) | (with_reducible rfl) | (congr 2 <;> omega) | rfl))), by (repeat first | assumption | exact KeepA.refl _ | apply KeepA.push | refine KeepA.set ?_ (by first | omega | (simp only [vz_push, vz_set, drop_size]; omega) | (have h9 := KeepA.size_le (by assumption); (try simp only [vz_push, vz_set, drop_size] at *); omega)) _ | refine KeepA.drop ?_ (by first | omega | (simp only [vz_push, vz_set, drop_size]; omega) | (have h9 := KeepA.size_le (by assumption); (try simp only [vz_push, vz_set, drop_size] at *); omega)) | refine KeepA.trans ?_ (by assumption))⟩ ?_
  rintro m ρ s' ⟨j, rfl, hj, g3, g4, g5, j1⟩
  by_cases hc : j < d.length
  · obtain ⟨v, hv⟩ : ∃ v, d[j]? = some v := ⟨_, List.getElem?_eq_getElem hc⟩
    have hst : (d.take (j + 1)).flatMap textV = (d.take j).flatMap textV ++ textV v := by rw [take_snoc hv, List.flatMap_append]; simp
    have hle := flatMap_le (g := textV) (c := 80) (d.take j) (fun v _ => textV_len v)
    rw [List.length_take] at hle
    have h4 := textV_len v
    generalize (d.take j).flatMap textV = t at *
    repeat' (first | ((first | apply ga_dec | apply ga_ndec | apply cd_dec | apply cd_ndec | apply gd_dec | apply gd_ndec | apply ga_split | apply cd_split | apply gd_split) <;> intro hc <;> (try (simp -implicitDefEqProofs (maxSteps := 2000000) (disch := first | omega | (simp only [vz_push, vz_set, drop_size]; first | done | omega)) only [push_cast, seval, f36N0, f36N1, hc, g3, g4, g5, hv, eI])) <;> (try (exfalso; omega))) | refine VC_pure (rtext_ok hk v) ?_ | (simp -implicitDefEqProofs (maxSteps := 2000000) (disch := first | omega | (simp only [vz_push, vz_set, drop_size]; first | done | omega)) only [push_cast, seval, f36N0, f36N1, g3, g4, g5, hv, eI]))
    refine ⟨_ - (j + 1), by omega, j + 1, rfl, by omega, ?_⟩ <;> (try simp only [Int.natCast_add, Int.natCast_one, cast_lit, and_true, true_and, eq_self])
    exact ⟨by rw [hst], j1⟩
  · obtain rfl : j = d.length := by omega
    rw [List.take_length] at g4
    repeat' (first | ((first | apply ga_dec | apply ga_ndec | apply cd_dec | apply cd_ndec | apply gd_dec | apply gd_ndec | apply ga_split | apply cd_split | apply gd_split) <;> intro hc <;> (try (simp -implicitDefEqProofs (maxSteps := 2000000) (disch := first | omega | (simp only [vz_push, vz_set, drop_size]; first | done | omega)) only [push_cast, seval, f36N0, f36N1, hc, g3, g4, g5])) <;> (try (exfalso; omega))) | (simp -implicitDefEqProofs (maxSteps := 2000000) (disch := first | omega | (simp only [vz_push, vz_set, drop_size]; first | done | omega)) only [push_cast, seval, f36N0, f36N1, g3, g4, g5]))
    exact out_tx (by (repeat first | assumption | exact KeepA.refl _ | apply KeepA.push | refine KeepA.set ?_ (by first | omega | (simp only [vz_push, vz_set, drop_size]; omega) | (have h9 := KeepA.size_le (by assumption); (try simp only [vz_push, vz_set, drop_size] at *); omega)) _ | refine KeepA.drop ?_ (by first | omega | (simp only [vz_push, vz_set, drop_size]; omega) | (have h9 := KeepA.size_le (by assumption); (try simp only [vz_push, vz_set, drop_size] at *); omega)) | refine KeepA.trans ?_ (by assumption))) rfl
omit hk in
theorem skF_right {v : Int} (h : right v = true) : right (skF v) = true := by
  rcases (class_pure v).2.2.2.2 with e | e
  · unfold skF; rw [e]; exact h
  · exact (cls (skelOf v)).2.2.2.2.2.2.2.1 (by omega)
theorem rfold_ok (s : List UInt8) (hl : s.length < 1000000) : PC (XK k) 37 [tx s] (tx (foldL s)) := by
  refine PC_of fun st => ?_
  refine f37_in (hk _ (by decide)) ?_
  have hdl := decL_len s
  have hdr := decL_right s
  unfold foldL imgL
  repeat' (first | ((first | apply ga_dec | apply ga_ndec | apply cd_dec | apply cd_ndec | apply gd_dec | apply gd_ndec | apply ga_split | apply cd_split | apply gd_split) <;> intro hc <;> (try (simp -implicitDefEqProofs (maxSteps := 2000000) (disch := first | omega | (simp only [vz_push, vz_set, drop_size]; first | done | omega)) only [push_cast, seval, f37N0, f37N1, hc])) <;> (try (exfalso; omega))) | refine VC_pure (rdecode_ok hk s hl) ?_ | (simp -implicitDefEqProofs (maxSteps := 2000000) (disch := first | omega | (simp only [vz_push, vz_set, drop_size]; first | done | omega)) only [push_cast, seval, f37N0, f37N1]))
  generalize decL s = d at *
  refine VW_iter (fun m ρ s' => ∃ j : Nat, m = d.length - j ∧ j ≤ d.length ∧ ρ.get 3 = LI d ∧ ρ.get 4 = tx ((d.take j).flatMap fun v => encR (skF v)) ∧ ρ.get 5 = .c (.int .i64 j) ∧ (KeepA st s')) (d.length) ⟨0, rfl, Nat.zero_le _, by (((try simp -implicitDefEqProofs only [eA_tmp, eA_const, AEnv.get_set, ofA_get, List.getD_cons_zero, List.getD_cons_succ, ↓reduceIte, reduceCtorEq, Nat.reduceEqDiff]); try (first | (with_reducible assumption) | (with_reducible rfl) | (congr 2 <;> omega) | rfl))), by (((try simp -implicitDefEqProofs only [eA_tmp, eA_const, AEnv.get_set, ofA_get, List.getD_cons_zero, List.getD_cons_succ, ↓reduceIte, reduceCtorEq, Nat.reduceEqDiff]); try (first | (with_reducible assumption) | (with_reducible rfl) | (congr 2 <;> omega) | rfl))), by (((try simp -implicitDefEqProofs only [eA_tmp, eA_const, AEnv.get_set, ofA_get, List.getD_cons_zero, List.getD_cons_succ, ↓reduceIte, reduceCtorEq, Nat.reduceEqDiff]); try (first | (with_reducible assumption) | (with_reducible rfl) | (congr 2 <;> omega) | rfl))), by (repeat first | assumption | exact KeepA.refl _ | apply KeepA.push | refine KeepA.set ?_ (by first | omega | (simp only [vz_push, vz_set, drop_size]; omega) | (have h9 := KeepA.size_le (by assumption); (try simp only [vz_push, vz_set, drop_size] at *); omega)) _ | refine KeepA.drop ?_ (by first | omega | (simp only [vz_push, vz_set, drop_size]; omega) | (have h9 := KeepA.size_le (by assumption); (try simp only [vz_push, vz_set, drop_size] at *); omega)) | refine KeepA.trans ?_ (by assumption))⟩ ?_
  rintro m ρ s' ⟨j, rfl, hj, g3, g4, g5, j1⟩
  by_cases hc : j < d.length
  · obtain ⟨v, hv⟩ : ∃ v, d[j]? = some v := ⟨_, List.getElem?_eq_getElem hc⟩
    have hr := skF_right (hdr v (List.mem_of_getElem? hv))
    have hrr := right_rng hr
    have hst : ((d.take (j + 1)).flatMap fun v => encR (skF v)) = ((d.take j).flatMap fun v => encR (skF v)) ++ encV (skF v) := by rw [take_snoc hv, List.flatMap_append]; simp [encR, hr]
    have hle := flatMap_le (g := fun v => encR (skF v)) (c := 4) (d.take j) (fun v _ => encR_len4 (skF v))
    rw [List.length_take] at hle
    have h4 := encV_len4 (skF v)
    generalize ((d.take j).flatMap fun v => encR (skF v)) = t at *
    repeat' (first | ((first | apply ga_dec | apply ga_ndec | apply cd_dec | apply cd_ndec | apply gd_dec | apply gd_ndec | apply ga_split | apply cd_split | apply gd_split) <;> intro hc <;> (try (simp -implicitDefEqProofs (maxSteps := 2000000) (disch := first | omega | (simp only [vz_push, vz_set, drop_size]; first | done | omega)) only [push_cast, seval, f37N0, f37N1, hc, g3, g4, g5, hv, eI])) <;> (try (exfalso; omega))) | refine VC_pure (rskeleton_ok hk v) ?_ | refine VC_pure (rbytes_ok hk (skF v) (by omega) (by omega)) ?_ | (simp -implicitDefEqProofs (maxSteps := 2000000) (disch := first | omega | (simp only [vz_push, vz_set, drop_size]; first | done | omega)) only [push_cast, seval, f37N0, f37N1, g3, g4, g5, hv, eI]))
    refine ⟨_ - (j + 1), by omega, j + 1, rfl, by omega, ?_⟩ <;> (try simp only [Int.natCast_add, Int.natCast_one, cast_lit, and_true, true_and, eq_self])
    exact ⟨by rw [hst], j1⟩
  · obtain rfl : j = d.length := by omega
    rw [List.take_length] at g4
    repeat' (first | ((first | apply ga_dec | apply ga_ndec | apply cd_dec | apply cd_ndec | apply gd_dec | apply gd_ndec | apply ga_split | apply cd_split | apply gd_split) <;> intro hc <;> (try (simp -implicitDefEqProofs (maxSteps := 2000000) (disch := first | omega | (simp only [vz_push, vz_set, drop_size]; first | done | omega)) only [push_cast, seval, f37N0, f37N1, hc, g3, g4, g5])) <;> (try (exfalso; omega))) | (simp -implicitDefEqProofs (maxSteps := 2000000) (disch := first | omega | (simp only [vz_push, vz_set, drop_size]; first | done | omega)) only [push_cast, seval, f37N0, f37N1, g3, g4, g5]))
    exact out_tx (by (repeat first | assumption | exact KeepA.refl _ | apply KeepA.push | refine KeepA.set ?_ (by first | omega | (simp only [vz_push, vz_set, drop_size]; omega) | (have h9 := KeepA.size_le (by assumption); (try simp only [vz_push, vz_set, drop_size] at *); omega)) _ | refine KeepA.drop ?_ (by first | omega | (simp only [vz_push, vz_set, drop_size]; omega) | (have h9 := KeepA.size_le (by assumption); (try simp only [vz_push, vz_set, drop_size] at *); omega)) | refine KeepA.trans ?_ (by assumption))) rfl
theorem spoofStrips_ok (hrep : ∀ d : Nat, d ≤ 16 → PC (XK k) 95 [tx [48], .c (.int .i64 d)] (tx (List.replicate d 48))) (haw : k 30 [] = some (.bool true)) (b : ByteArray) (s : VS) :
    VC (XK k) 7 [.c (.string b)] s fun r _ => r = .c (.bool true) := by
  have haw' : ∀ {vs : VS} {Q : AV → VS → Prop}, Q (.c (.bool true)) vs → VC (XK k) 30 [] vs Q := fun h => VC_known (ws := []) (v := .bool true) haw rfl rfl h
  obtain ⟨l, rfl⟩ : ∃ l : List UInt8, b = ⟨l.toArray⟩ := ⟨b.data.toList, (bytes_mk b).symm⟩
  refine f7_in (hk _ (by decide)) ?_
  by_cases hl : l.length ≤ 300
  · have s1 := stripL_len l
    have s2 := tellL_len l
    have s3 := foldL_len l
    have hall : (stripL l ++ tellL l).length = (stripL l).length + (tellL l).length := List.length_append
    have hpl := both_plain l
    have hdl := decL_len (stripL l ++ tellL l)
    repeat' (first | ((first | apply ga_dec | apply ga_ndec | apply cd_dec | apply cd_ndec | apply gd_dec | apply gd_ndec | apply ga_split | apply cd_split | apply gd_split) <;> intro hc <;> (try (simp -implicitDefEqProofs (maxSteps := 2000000) (disch := first | omega | (simp only [vz_push, vz_set, drop_size]; first | done | omega)) only [push_cast, seval, f7N0, f7N1, f7N2, f7N3, hc])) <;> (try (exfalso; omega))) | refine haw' ?_ | refine VC_pure (sstrip_ok hk l (by omega)) ?_ | refine VC_pure (stell_ok hk hrep l (by omega)) ?_ | refine VC_pure (sfold_ok hk l (by omega)) ?_ | refine VC_pure (rdecode_ok hk (stripL l ++ tellL l) (by omega)) ?_ | (simp -implicitDefEqProofs (maxSteps := 2000000) (disch := first | omega | (simp only [vz_push, vz_set, drop_size]; first | done | omega)) only [push_cast, seval, f7N0, f7N1, f7N2, f7N3]))
    have hk1 := strip_strip l
    have hk2 := strip_tell l
    have hk3 := fold_fold l
    have hk4 := fold_fold (stripL l)
    have s4 := foldL_len (stripL l)
    have w1 := sstrip_ok hk (stripL l) (by omega)
    have w2 := sstrip_ok hk (tellL l) (by omega)
    have w3 := sfold_ok hk (stripL l) (by omega)
    have w4 := sfold_ok hk (foldL (stripL l)) (by omega)
    have w5 := sfold_ok hk (foldL l) (by omega)
    rw [hk1] at w1
    rw [hk2] at w2
    rw [hk4] at w4
    rw [hk3] at w5
    have w6 := rstrip_ok hk l (by omega)
    have w7 := rtell_ok hk l (by omega)
    have w8 := rfold_ok hk l (by omega)
    generalize decL (stripL l ++ tellL l) = d at *
    generalize foldL (stripL l) = fa at *
    generalize stripL l = a at *
    generalize tellL l = t at *
    generalize foldL l = c at *
    refine VW_iter (fun m ρ s' => ∃ j : Nat, m = d.length - j ∧ j ≤ d.length ∧ ρ.get 0 = tx l ∧ ρ.get 3 = tx a ∧ ρ.get 4 = tx t ∧ ρ.get 5 = tx c ∧ ρ.get 6 = LI d ∧ ρ.get 7 = .c (.int .i64 j)) (d.length) ⟨0, rfl, Nat.zero_le _, by (((try simp -implicitDefEqProofs only [eA_tmp, eA_const, AEnv.get_set, ofA_get, List.getD_cons_zero, List.getD_cons_succ, ↓reduceIte, reduceCtorEq, Nat.reduceEqDiff]); try (first | (with_reducible assumption) | (with_reducible rfl) | (congr 2 <;> omega) | rfl))), by (((try simp -implicitDefEqProofs only [eA_tmp, eA_const, AEnv.get_set, ofA_get, List.getD_cons_zero, List.getD_cons_succ, ↓reduceIte, reduceCtorEq, Nat.reduceEqDiff]); try (first | (with_reducible assumption) | (with_reducible rfl) | (congr 2 <;> omega) | rfl))), by (((try simp -implicitDefEqProofs only [eA_tmp, eA_const, AEnv.get_set, ofA_get, List.getD_cons_zero, List.getD_cons_succ, ↓reduceIte, reduceCtorEq, Nat.reduceEqDiff]); try (first | (with_reducible assumption) | (with_reducible rfl) | (congr 2 <;> omega) | rfl))), by (((try simp -implicitDefEqProofs only [eA_tmp, eA_const, AEnv.get_set, ofA_get, List.getD_cons_zero, List.getD_cons_succ, ↓reduceIte, reduceCtorEq, Nat.reduceEqDiff]); try (first | (with_reducible assumption) | (with_reducible rfl) | (congr 2 <;> omega) | rfl))), by (((try simp -implicitDefEqProofs only [eA_tmp, eA_const, AEnv.get_set, ofA_get, List.getD_cons_zero, List.getD_cons_succ, ↓reduceIte, reduceCtorEq, Nat.reduceEqDiff]); try (first | (with_reducible assumption) | (with_reducible rfl) | (congr 2 <;> omega) | rfl))), by (((try simp -implicitDefEqProofs only [eA_tmp, eA_const, AEnv.get_set, ofA_get, List.getD_cons_zero, List.getD_cons_succ, ↓reduceIte, reduceCtorEq, Nat.reduceEqDiff]); try (first | (with_reducible assumption) | (with_reducible rfl) | (congr 2 <;> omega) | rfl)))⟩ ?_
    rintro m ρ s' ⟨j, rfl, hj, g0, g3, g4, g5, g6, g7⟩
    by_cases hc : j < d.length
    · obtain ⟨v, hv⟩ : ∃ v, d[j]? = some v := ⟨_, List.getElem?_eq_getElem hc⟩
      have hp := hpl v (List.mem_of_getElem? hv)
      simp only [dangerV, decide_eq_false_iff_not] at hp
      repeat' (first | ((first | apply ga_dec | apply ga_ndec | apply cd_dec | apply cd_ndec | apply gd_dec | apply gd_ndec | apply ga_split | apply cd_split | apply gd_split) <;> intro hc <;> (try (simp -implicitDefEqProofs (maxSteps := 2000000) (disch := first | omega | (simp only [vz_push, vz_set, drop_size]; first | done | omega)) only [push_cast, seval, f7N0, f7N1, f7N2, f7N3, hc, g0, g3, g4, g5, g6, g7, hv, eI])) <;> (try (exfalso; omega))) | refine VC_pure (rof_ok hk v) ?_ | (simp -implicitDefEqProofs (maxSteps := 2000000) (disch := first | omega | (simp only [vz_push, vz_set, drop_size]; first | done | omega)) only [push_cast, seval, f7N0, f7N1, f7N2, f7N3, g0, g3, g4, g5, g6, g7, hv, eI]))
      refine ⟨_ - (j + 1), by omega, j + 1, rfl, by omega, ?_⟩ <;> (try simp only [Int.natCast_add, Int.natCast_one, cast_lit, and_true, true_and, eq_self])
    · obtain rfl : j = d.length := by omega
      repeat' (first | ((first | apply ga_dec | apply ga_ndec | apply cd_dec | apply cd_ndec | apply gd_dec | apply gd_ndec | apply ga_split | apply cd_split | apply gd_split) <;> intro hc <;> (try (simp -implicitDefEqProofs (maxSteps := 2000000) (disch := first | omega | (simp only [vz_push, vz_set, drop_size]; first | done | omega)) only [push_cast, seval, f7N0, f7N1, f7N2, f7N3, hc, g0, g3, g4, g5, g6, g7])) <;> (try (exfalso; omega))) | refine haw' ?_ | refine VC_pure (w1) ?_ | refine VC_pure (w2) ?_ | refine VC_pure (w3) ?_ | refine VC_pure (w4) ?_ | refine VC_pure (w5) ?_ | refine VC_pure (w6) ?_ | refine VC_pure (w7) ?_ | refine VC_pure (w8) ?_ | (simp -implicitDefEqProofs (maxSteps := 2000000) (disch := first | omega | (simp only [vz_push, vz_set, drop_size]; first | done | omega)) only [push_cast, seval, f7N0, f7N1, f7N2, f7N3, g0, g3, g4, g5, g6, g7]))
  · repeat' (first | ((first | apply ga_dec | apply ga_ndec | apply cd_dec | apply cd_ndec | apply gd_dec | apply gd_ndec | apply ga_split | apply cd_split | apply gd_split) <;> intro hc <;> (try (simp -implicitDefEqProofs (maxSteps := 2000000) (disch := first | omega | (simp only [vz_push, vz_set, drop_size]; first | done | omega)) only [push_cast, seval, f7N0, f7N1, f7N2, f7N3, hc])) <;> (try (exfalso; omega))) | refine haw' ?_ | (simp -implicitDefEqProofs (maxSteps := 2000000) (disch := first | omega | (simp only [vz_push, vz_set, drop_size]; first | done | omega)) only [push_cast, seval, f7N0, f7N1, f7N2, f7N3]))
end
end Go.Proofs.YtpckldhojfjdmaaDoor.Ab
