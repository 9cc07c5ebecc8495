/- The document's history lines; whole texts. -/
import Derived.Test.YticllcglldbffaaQ4
namespace Go.Proofs.Yticllcglldbffaa.Ab
open Go.Proofs
set_option maxRecDepth 100000
set_option maxHeartbeats 4000000
set_option linter.unusedSimpArgs false
set_option linter.unusedVariables false
set_option linter.unnecessarySimpa false
set_option linter.unusedSectionVars false
section
variable {k : Nat → List Value → Option Value} (hk : ∀ f, f ≠ 32 → f ≠ 51 → Open k f)
include hk
theorem rletters_ok {v : Int} (hv : right v = true) : PC (XK k) 24 [.c (.int .i64 v)] (tx (escV v)) := by
  refine PC_of fun st => ?_
  refine f24_in (hk _ (by decide) (by decide)) ?_
  have hrg := right_rg hv
  have h6 := hex6_len (n := v.toNat) (by omega)
  have w : PC (XK k) 33 [.c (.int .i64 v), .c (.int .i64 6)] (tx (hexP v.toNat 6)) := by
    obtain ⟨m, rfl⟩ := Int.eq_ofNat_of_zero_le hrg.1
    have := rhex_ok hk _ m 6 (Nat.le_refl _) (by omega) (by omega) (by omega)
    rwa [hexR_same] at this
  have e1 : ((hexP v.toNat 6).length + 2 ≤ 140737488355328) = True := eq_true (by omega)
  have e2 : (2 + (hexP v.toNat 6).length ≤ 140737488355328) = True := eq_true (by omega)
  have ev : escV v = if v = 92 then [92, 92] else if 32 ≤ v ∧ v ≤ 126 then [UInt8.ofNat v.toNat] else [92, 117] ++ hexP v.toNat 6 := rfl
  repeat' (first | ((first | apply ga_dec | apply ga_ndec | apply cd_dec | apply cd_ndec | apply gd_dec | apply gd_ndec | apply ga_split | apply cd_split | apply gd_split) <;> intro hc <;> (try (simp -implicitDefEqProofs (maxSteps := 2000000) (disch := first | omega | (simp only [vz_push, vz_set, drop_size]; first | done | omega)) only [push_cast, seval, f24N0, f24N1, hc, e1, e2])) <;> (try (exfalso; omega))) | refine VC_pure (w) ?_ | (simp -implicitDefEqProofs (maxSteps := 2000000) (disch := first | omega | (simp only [vz_push, vz_set, drop_size]; first | done | omega)) only [push_cast, seval, f24N0, f24N1, e1, e2]))
  · exact out_tx (by (repeat first | assumption | exact KeepA.refl _ | apply KeepA.push | refine KeepA.set ?_ (by first | omega | (simp only [vz_push, vz_set, drop_size]; omega) | (have h9 := KeepA.size_le (by assumption); (try simp only [vz_push, vz_set, drop_size] at *); omega)) _ | refine KeepA.drop ?_ (by first | omega | (simp only [vz_push, vz_set, drop_size]; omega) | (have h9 := KeepA.size_le (by assumption); (try simp only [vz_push, vz_set, drop_size] at *); omega)) | refine KeepA.trans ?_ (by assumption))) rfl
  · exact out_tx (by (repeat first | assumption | exact KeepA.refl _ | apply KeepA.push | refine KeepA.set ?_ (by first | omega | (simp only [vz_push, vz_set, drop_size]; omega) | (have h9 := KeepA.size_le (by assumption); (try simp only [vz_push, vz_set, drop_size] at *); omega)) _ | refine KeepA.drop ?_ (by first | omega | (simp only [vz_push, vz_set, drop_size]; omega) | (have h9 := KeepA.size_le (by assumption); (try simp only [vz_push, vz_set, drop_size] at *); omega)) | refine KeepA.trans ?_ (by assumption))) (by rw [ev, if_neg (by omega), if_pos (by omega)])
  · exact out_tx (by (repeat first | assumption | exact KeepA.refl _ | apply KeepA.push | refine KeepA.set ?_ (by first | omega | (simp only [vz_push, vz_set, drop_size]; omega) | (have h9 := KeepA.size_le (by assumption); (try simp only [vz_push, vz_set, drop_size] at *); omega)) _ | refine KeepA.drop ?_ (by first | omega | (simp only [vz_push, vz_set, drop_size]; omega) | (have h9 := KeepA.size_le (by assumption); (try simp only [vz_push, vz_set, drop_size] at *); omega)) | refine KeepA.trans ?_ (by assumption))) (by rw [ev, if_neg (by omega), if_neg (by omega)]; rfl)
  · exact out_tx (by (repeat first | assumption | exact KeepA.refl _ | apply KeepA.push | refine KeepA.set ?_ (by first | omega | (simp only [vz_push, vz_set, drop_size]; omega) | (have h9 := KeepA.size_le (by assumption); (try simp only [vz_push, vz_set, drop_size] at *); omega)) _ | refine KeepA.drop ?_ (by first | omega | (simp only [vz_push, vz_set, drop_size]; omega) | (have h9 := KeepA.size_le (by assumption); (try simp only [vz_push, vz_set, drop_size] at *); omega)) | refine KeepA.trans ?_ (by assumption))) (by rw [ev, if_neg (by omega), if_neg (by omega)]; rfl)
theorem rline_ok (l : List (Int × Int)) (hal : (l.map (·.1)).all right = true) (hn : l.length ≤ 1000) : PC (XK k) 11 [LS l] (tx (escL (l.map (·.1)))) := by
  refine PC_of fun st => ?_
  refine f11_in (hk _ (by decide) (by decide)) ?_
  (try (simp -implicitDefEqProofs (maxSteps := 2000000) (disch := first | omega | (simp only [vz_push, vz_set, drop_size]; first | done | omega)) only [push_cast, seval, f11N0, f11N1])) <;> (repeat' ((first | apply ga_dec | apply ga_ndec | apply cd_dec | apply cd_ndec | apply gd_dec | apply gd_ndec | apply ga_split | apply cd_split | apply gd_split) <;> intro hc <;> try (simp -implicitDefEqProofs (maxSteps := 2000000) (disch := first | omega | (simp only [vz_push, vz_set, drop_size]; first | done | omega)) only [push_cast, seval, f11N0, f11N1, hc])))
  refine VW_iter (fun m ρ s' => ∃ (i : Nat) (v : AV), m = l.length - i ∧ i ≤ l.length ∧ ρ.get 0 = LS l ∧ ρ.get 3 = v ∧ ρ.get 4 = .c (.int .i64 i) ∧ Gw st s' 5 1 v (escL ((l.take i).map (·.1))).length ((escL ((l.take i).map (·.1))).map cB) ∧ KeepA st s') l.length
    ⟨0, _, rfl, Nat.zero_le _, by (((try simp -implicitDefEqProofs only [eA_tmp, eA_const, AEnv.get_set, ofA_get, List.getD_cons_zero, List.getD_cons_succ, ↓reduceIte, reduceCtorEq, Nat.reduceEqDiff]); try (first | (with_reducible assumption) | (with_reducible rfl) | (congr 2 <;> omega) | rfl))), by (((try simp -implicitDefEqProofs only [eA_tmp, eA_const, AEnv.get_set, ofA_get, List.getD_cons_zero, List.getD_cons_succ, ↓reduceIte, reduceCtorEq, Nat.reduceEqDiff]); try (first | (with_reducible assumption) | (with_reducible rfl) | (congr 2 <;> omega) | rfl))), by (((try simp -implicitDefEqProofs only [eA_tmp, eA_const, AEnv.get_set, ofA_get, List.getD_cons_zero, List.getD_cons_succ, ↓reduceIte, reduceCtorEq, Nat.reduceEqDiff]); try (first | (with_reducible assumption) | (with_reducible rfl) | (congr 2 <;> omega) | rfl))), .nil, by (repeat first | assumption | exact KeepA.refl _ | apply KeepA.push | refine KeepA.set ?_ (by first | omega | (simp only [vz_push, vz_set, drop_size]; omega) | (have h9 := KeepA.size_le (by assumption); (try simp only [vz_push, vz_set, drop_size] at *); omega)) _ | refine KeepA.drop ?_ (by first | omega | (simp only [vz_push, vz_set, drop_size]; omega) | (have h9 := KeepA.size_le (by assumption); (try simp only [vz_push, vz_set, drop_size] at *); omega)) | refine KeepA.trans ?_ (by assumption))⟩ ?_
  rintro m ρ s' ⟨i, v, rfl, hi, g0, g3, g4, j1, j2⟩
  by_cases c1 : i < l.length
  · have he := List.getElem?_eq_getElem c1
    have hr : right l[i].1 = true := List.all_eq_true.1 hal _ (List.mem_map.2 ⟨_, List.getElem_mem c1, rfl⟩)
    generalize l[i] = p at he hr
    have hvl := escV_len hr
    have w := rletters_ok hk hr
    have hsn : escL ((l.take (i + 1)).map (·.1)) = escL ((l.take i).map (·.1)) ++ escV p.1 := by rw [take_snoc he, List.map_append, List.map_singleton, escL_snoc]
    have hll := (escL_len (l := (l.take i).map (·.1)) (by
      rw [List.all_eq_true] at hal ⊢
      intro v hv
      obtain ⟨p, hp, rfl⟩ := List.mem_map.1 hv
      exact hal _ (List.mem_map.2 ⟨p, List.mem_of_mem_take hp, rfl⟩))).2
    rw [List.length_map, List.length_take] at hll
    generalize escV p.1 = t at *
    have hb1 : (bytesOut t).length = t.length := by simp [bytesOut]
    have hb2 : List.map AV.c (List.take t.length (bytesOut t)) = t.map cB := by
      rw [List.take_of_length_le (by omega)]
      simp [bytesOut, cB]
    have hb3 : (t.length ≤ t.length) = True := eq_true (Nat.le_refl _)
    repeat' (first | ((first | apply ga_dec | apply ga_ndec | apply cd_dec | apply cd_ndec | apply gd_dec | apply gd_ndec | apply ga_split | apply cd_split | apply gd_split) <;> intro hc <;> (try (simp -implicitDefEqProofs (maxSteps := 2000000) (disch := first | omega | (simp only [vz_push, vz_set, drop_size]; first | done | omega)) only [push_cast, seval, f11N0, f11N1, hc, g0, g3, g4, he, eS, hb1, hb2, hb3])) <;> (try (exfalso; omega))) | refine VC_pure (w) ?_ | (simp -implicitDefEqProofs (maxSteps := 2000000) (disch := first | omega | (simp only [vz_push, vz_set, drop_size]; first | done | omega)) only [push_cast, seval, f11N0, f11N1, g0, g3, g4, he, eS, hb1, hb2, hb3]))
    all_goals (try (exfalso; omega))
    refine Gw.step (sz := 1) (j1.push _) (by (repeat first | assumption | exact KeepA.refl _ | apply KeepA.push | refine KeepA.set ?_ (by first | omega | (simp only [vz_push, vz_set, drop_size]; omega) | (have h9 := KeepA.size_le (by assumption); (try simp only [vz_push, vz_set, drop_size] at *); omega)) _ | refine KeepA.drop ?_ (by first | omega | (simp only [vz_push, vz_set, drop_size]; omega) | (have h9 := KeepA.size_le (by assumption); (try simp only [vz_push, vz_set, drop_size] at *); omega)) | refine KeepA.trans ?_ (by assumption))) rfl (by simp) (by simp [cB, oneA, Value.oneCell']) (room_ok (by constructor <;> (try dsimp only) <;> omega)) ?_
    intro v2 s2 hg2 _ _ hkp
    (try (simp -implicitDefEqProofs (maxSteps := 2000000) (disch := first | omega | (simp only [vz_push, vz_set, drop_size]; first | done | omega)) only [push_cast, seval, f11N0, f11N1, g0, g3, g4])) <;> (repeat' ((first | apply ga_dec | apply ga_ndec | apply cd_dec | apply cd_ndec | apply gd_dec | apply gd_ndec | apply ga_split | apply cd_split | apply gd_split) <;> intro hc <;> try (simp -implicitDefEqProofs (maxSteps := 2000000) (disch := first | omega | (simp only [vz_push, vz_set, drop_size]; first | done | omega)) only [push_cast, seval, f11N0, f11N1, hc, g0, g3, g4])))
    refine ⟨_ - (i + 1), by omega, i + 1, v2, rfl, by omega, rfl, congrArg (fun z => AV.c (.int .i64 z)) (by omega), ?_, hkp⟩
    rw [hsn, List.map_append, List.length_append]
    exact hg2
  · have hi2 : i = l.length := by omega
    subst hi2
    rw [List.take_length] at j1
    have ht := j1.text (X := XK k) ty43 ty9 rfl rfl und5
    simp -implicitDefEqProofs (maxSteps := 2000000) (disch := first | omega | (simp only [vz_push, vz_set, drop_size]; first | done | omega)) only [push_cast, seval, f11N0, f11N1, g4] at ht
    repeat' (first | ((first | apply ga_dec | apply ga_ndec | apply cd_dec | apply cd_ndec | apply gd_dec | apply gd_ndec | apply ga_split | apply cd_split | apply gd_split) <;> intro hc <;> (try (simp -implicitDefEqProofs (maxSteps := 2000000) (disch := first | omega | (simp only [vz_push, vz_set, drop_size]; first | done | omega)) only [push_cast, seval, f11N0, f11N1, hc, g0, g3, g4, ht])) <;> (try (exfalso; omega))) | (simp -implicitDefEqProofs (maxSteps := 2000000) (disch := first | omega | (simp only [vz_push, vz_set, drop_size]; first | done | omega)) only [push_cast, seval, f11N0, f11N1, g0, g3, g4, ht]))
    all_goals (try (exfalso; omega))
    exact out_tx (by (repeat first | assumption | exact KeepA.refl _ | apply KeepA.push | refine KeepA.set ?_ (by first | omega | (simp only [vz_push, vz_set, drop_size]; omega) | (have h9 := KeepA.size_le (by assumption); (try simp only [vz_push, vz_set, drop_size] at *); omega)) _ | refine KeepA.drop ?_ (by first | omega | (simp only [vz_push, vz_set, drop_size]; omega) | (have h9 := KeepA.size_le (by assumption); (try simp only [vz_push, vz_set, drop_size] at *); omega)) | refine KeepA.trans ?_ (by assumption))) rfl
end
end Go.Proofs.Yticllcglldbffaa.Ab
