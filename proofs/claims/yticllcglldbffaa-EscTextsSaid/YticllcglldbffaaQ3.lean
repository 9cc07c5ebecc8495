/- EscPlain: an entry's line has plain bytes, and tells the entry. -/
import Derived.Test.YticllcglldbffaaQ2
namespace Go.Proofs.Yticllcglldbffaa.Ab
open Go.Proofs
set_option maxRecDepth 100000
set_option maxHeartbeats 4000000
set_option linter.unusedSimpArgs false
set_option linter.unusedVariables false
set_option linter.unnecessarySimpa false
set_option linter.unusedSectionVars false
theorem rightS_all {l : List (Int × Int)} (h : l.all rightS = true) : (l.map (·.1)).all right = true := by
  rw [List.all_eq_true] at h ⊢
  intro v hv
  obtain ⟨p, hp, rfl⟩ := List.mem_map.1 hv
  have := h p hp
  simp only [rightS, Bool.and_eq_true] at this
  exact this.1.1
section
variable {k : Nat → List Value → Option Value} (hk : ∀ f, f ≠ 32 → f ≠ 51 → Open k f)
include hk
theorem escPlain_ok (hrep : ∀ d : Nat, d ≤ 16 → PC (XK k) 32 [tx [48], .c (.int .i64 d)] (tx (List.replicate d 48))) (ha : k 6 [] = some (.bool true)) (a b : List (Int × Int)) (st : VS) :
    VC (XK k) 4 [LS a, LS b] st (fun r _ => r = .c (.bool true)) := by
  refine f4_in (hk _ (by decide) (by decide)) ?_
  have haw : ∀ {vs : VS} {Q : AV → VS → Prop}, Q (.c (.bool true)) vs → VC (XK k) 6 [] vs Q := fun h => VC_known (ws := []) (v := .bool true) ha rfl rfl h
  by_cases c1 : a.length ≤ 60 ∧ b.length ≤ 60 ∧ a.all rightS = true ∧ b.all rightS = true
  · obtain ⟨l1, l2, r1, r2⟩ := c1
    have w1 := all_ok hk a (by omega)
    rw [r1] at w1
    have w2 := all_ok hk b (by omega)
    rw [r2] at w2
    have w3 := escLine_ok hk hrep a (by omega)
    rw [if_pos r1] at w3
    have w4 := escLine_ok hk hrep b (by omega)
    rw [if_pos r2] at w4
    have w5 := rvalues_ok hk a (by omega)
    have w6 := rvalues_ok hk b (by omega)
    have q1 := rightS_all r1
    have q2 := rightS_all r2
    have by1 := escL_bytes q1
    have n1 := (escL_len q1).2
    have hinj : escL (a.map (·.1)) = escL (b.map (·.1)) ↔ a.map (·.1) = b.map (·.1) := ⟨fun h => escL_inj q1 q2 h, fun h => by rw [h]⟩
    rw [List.length_map] at n1
    have w7 := rintsV_ok hk (a.map (·.1)) (b.map (·.1)) (by rw [List.length_map]; omega)
    generalize escL (a.map (·.1)) = S at *
    generalize escL (b.map (·.1)) = T at *
    generalize a.map (·.1) = va at *
    generalize b.map (·.1) = vb at *
    repeat' (first | ((first | apply ga_dec | apply ga_ndec | apply cd_dec | apply cd_ndec | apply gd_dec | apply gd_ndec | apply ga_split | apply cd_split | apply gd_split) <;> intro hc <;> (try (simp -implicitDefEqProofs (maxSteps := 2000000) (disch := first | omega | (simp only [vz_push, vz_set, drop_size]; first | done | omega)) only [push_cast, seval, f4N0, f4N1, f4N2, f4N3, hc])) <;> (try (exfalso; omega))) | refine VC_pure (w1) ?_ | refine VC_pure (w2) ?_ | refine VC_pure (w3) ?_ | refine VC_pure (w4) ?_ | (simp -implicitDefEqProofs (maxSteps := 2000000) (disch := first | omega | (simp only [vz_push, vz_set, drop_size]; first | done | omega)) only [push_cast, seval, f4N0, f4N1, f4N2, f4N3]))
    all_goals (try (exfalso; omega))
    refine VW_iter (fun m ρ s' => ∃ i : Nat, m = S.length - i ∧ i ≤ S.length ∧ ρ.get 0 = LS a ∧ ρ.get 1 = LS b ∧ ρ.get 5 = tx S ∧ ρ.get 6 = .c (.int .i64 0) ∧ ρ.get 7 = tx T ∧ ρ.get 8 = .c (.int .i64 0) ∧ ρ.get 9 = .c (.int .i64 i) ∧ (s' = st)) (S.length) ⟨0, rfl, Nat.zero_le _, by (((try simp -implicitDefEqProofs only [eA_tmp, eA_const, AEnv.get_set, ofA_get, List.getD_cons_zero, List.getD_cons_succ, ↓reduceIte, reduceCtorEq, Nat.reduceEqDiff]); try (first | (with_reducible assumption) | (with_reducible rfl) | (congr 2 <;> omega) | rfl))), by (((try simp -implicitDefEqProofs only [eA_tmp, eA_const, AEnv.get_set, ofA_get, List.getD_cons_zero, List.getD_cons_succ, ↓reduceIte, reduceCtorEq, Nat.reduceEqDiff]); try (first | (with_reducible assumption) | (with_reducible rfl) | (congr 2 <;> omega) | rfl))), by (((try simp -implicitDefEqProofs only [eA_tmp, eA_const, AEnv.get_set, ofA_get, List.getD_cons_zero, List.getD_cons_succ, ↓reduceIte, reduceCtorEq, Nat.reduceEqDiff]); try (first | (with_reducible assumption) | (with_reducible rfl) | (congr 2 <;> omega) | rfl))), by (((try simp -implicitDefEqProofs only [eA_tmp, eA_const, AEnv.get_set, ofA_get, List.getD_cons_zero, List.getD_cons_succ, ↓reduceIte, reduceCtorEq, Nat.reduceEqDiff]); try (first | (with_reducible assumption) | (with_reducible rfl) | (congr 2 <;> omega) | rfl))), by (((try simp -implicitDefEqProofs only [eA_tmp, eA_const, AEnv.get_set, ofA_get, List.getD_cons_zero, List.getD_cons_succ, ↓reduceIte, reduceCtorEq, Nat.reduceEqDiff]); try (first | (with_reducible assumption) | (with_reducible rfl) | (congr 2 <;> omega) | rfl))), by (((try simp -implicitDefEqProofs only [eA_tmp, eA_const, AEnv.get_set, ofA_get, List.getD_cons_zero, List.getD_cons_succ, ↓reduceIte, reduceCtorEq, Nat.reduceEqDiff]); try (first | (with_reducible assumption) | (with_reducible rfl) | (congr 2 <;> omega) | rfl))), by (((try simp -implicitDefEqProofs only [eA_tmp, eA_const, AEnv.get_set, ofA_get, List.getD_cons_zero, List.getD_cons_succ, ↓reduceIte, reduceCtorEq, Nat.reduceEqDiff]); try (first | (with_reducible assumption) | (with_reducible rfl) | (congr 2 <;> omega) | rfl))), rfl⟩ ?_
    rintro m ρ s' ⟨i, rfl, hi, g0, g1, g5, g6, g7, g8, g9, j1⟩
    by_cases c2 : i < S.length
    · have he := List.getElem?_eq_getElem c2
      have hb := by1 _ (List.getElem_mem c2)
      generalize S[i] = c at he hb
      repeat' (first | ((first | apply ga_dec | apply ga_ndec | apply cd_dec | apply cd_ndec | apply gd_dec | apply gd_ndec | apply ga_split | apply cd_split | apply gd_split) <;> intro hc <;> (try (simp -implicitDefEqProofs (maxSteps := 2000000) (disch := first | omega | (simp only [vz_push, vz_set, drop_size]; first | done | omega)) only [push_cast, seval, f4N0, f4N1, f4N2, f4N3, hc, g0, g1, g5, g6, g7, g8, g9, he])) <;> (try (exfalso; omega))) | (simp -implicitDefEqProofs (maxSteps := 2000000) (disch := first | omega | (simp only [vz_push, vz_set, drop_size]; first | done | omega)) only [push_cast, seval, f4N0, f4N1, f4N2, f4N3, g0, g1, g5, g6, g7, g8, g9, he]))
      all_goals (try (exfalso; omega))
      refine ⟨_ - (i + 1), by omega, i + 1, rfl, by omega, ?_⟩ <;> (try simp only [Int.natCast_add, Int.natCast_one, cast_lit, and_true, true_and, eq_self])
      exact j1
    · have hi2 : i = S.length := by omega
      subst hi2
      by_cases e : va = vb
      · have e2 := hinj.2 e
        subst e
        subst e2
        repeat' (first | ((first | apply ga_dec | apply ga_ndec | apply cd_dec | apply cd_ndec | apply gd_dec | apply gd_ndec | apply ga_split | apply cd_split | apply gd_split) <;> intro hc <;> (try (simp -implicitDefEqProofs (maxSteps := 2000000) (disch := first | omega | (simp only [vz_push, vz_set, drop_size]; first | done | omega)) only [push_cast, seval, f4N0, f4N1, f4N2, f4N3, hc, g0, g1, g5, g6, g7, g8, g9])) <;> (try (exfalso; omega))) | refine haw ?_ | refine VC_pure (w5) ?_ | refine VC_pure (w6) ?_ | refine VC_pure (w7) ?_ | (simp -implicitDefEqProofs (maxSteps := 2000000) (disch := first | omega | (simp only [vz_push, vz_set, drop_size]; first | done | omega)) only [push_cast, seval, f4N0, f4N1, f4N2, f4N3, g0, g1, g5, g6, g7, g8, g9]))
        all_goals (try (exfalso; omega))
      · have e2 : (S == T) = false := beq_false_of_ne fun h => e (hinj.1 h)
        repeat' (first | ((first | apply ga_dec | apply ga_ndec | apply cd_dec | apply cd_ndec | apply gd_dec | apply gd_ndec | apply ga_split | apply cd_split | apply gd_split) <;> intro hc <;> (try (simp -implicitDefEqProofs (maxSteps := 2000000) (disch := first | omega | (simp only [vz_push, vz_set, drop_size]; first | done | omega)) only [push_cast, seval, f4N0, f4N1, f4N2, f4N3, hc, g0, g1, g5, g6, g7, g8, g9, e2, e])) <;> (try (exfalso; omega))) | refine haw ?_ | refine VC_pure (w5) ?_ | refine VC_pure (w6) ?_ | refine VC_pure (w7) ?_ | (simp -implicitDefEqProofs (maxSteps := 2000000) (disch := first | omega | (simp only [vz_push, vz_set, drop_size]; first | done | omega)) only [push_cast, seval, f4N0, f4N1, f4N2, f4N3, g0, g1, g5, g6, g7, g8, g9, e2, e]))
        all_goals (try (exfalso; omega))
  · by_cases k1 : 60 < a.length
    · repeat' (first | ((first | apply ga_dec | apply ga_ndec | apply cd_dec | apply cd_ndec | apply gd_dec | apply gd_ndec | apply ga_split | apply cd_split | apply gd_split) <;> intro hc <;> (try (simp -implicitDefEqProofs (maxSteps := 2000000) (disch := first | omega | (simp only [vz_push, vz_set, drop_size]; first | done | omega)) only [push_cast, seval, f4N0, f4N1, f4N2, f4N3, hc])) <;> (try (exfalso; omega))) | refine haw ?_ | (simp -implicitDefEqProofs (maxSteps := 2000000) (disch := first | omega | (simp only [vz_push, vz_set, drop_size]; first | done | omega)) only [push_cast, seval, f4N0, f4N1, f4N2, f4N3]))
      all_goals (try (exfalso; omega))
    · by_cases k2 : 60 < b.length
      · repeat' (first | ((first | apply ga_dec | apply ga_ndec | apply cd_dec | apply cd_ndec | apply gd_dec | apply gd_ndec | apply ga_split | apply cd_split | apply gd_split) <;> intro hc <;> (try (simp -implicitDefEqProofs (maxSteps := 2000000) (disch := first | omega | (simp only [vz_push, vz_set, drop_size]; first | done | omega)) only [push_cast, seval, f4N0, f4N1, f4N2, f4N3, hc])) <;> (try (exfalso; omega))) | refine haw ?_ | (simp -implicitDefEqProofs (maxSteps := 2000000) (disch := first | omega | (simp only [vz_push, vz_set, drop_size]; first | done | omega)) only [push_cast, seval, f4N0, f4N1, f4N2, f4N3]))
        all_goals (try (exfalso; omega))
      · have w1 := all_ok hk a (by omega)
        have w2 := all_ok hk b (by omega)
        cases r1 : a.all rightS with
        | false =>
          rw [r1] at w1
          repeat' (first | ((first | apply ga_dec | apply ga_ndec | apply cd_dec | apply cd_ndec | apply gd_dec | apply gd_ndec | apply ga_split | apply cd_split | apply gd_split) <;> intro hc <;> (try (simp -implicitDefEqProofs (maxSteps := 2000000) (disch := first | omega | (simp only [vz_push, vz_set, drop_size]; first | done | omega)) only [push_cast, seval, f4N0, f4N1, f4N2, f4N3, hc])) <;> (try (exfalso; omega))) | refine haw ?_ | refine VC_pure (w1) ?_ | refine VC_pure (w2) ?_ | (simp -implicitDefEqProofs (maxSteps := 2000000) (disch := first | omega | (simp only [vz_push, vz_set, drop_size]; first | done | omega)) only [push_cast, seval, f4N0, f4N1, f4N2, f4N3]))
          all_goals (try (exfalso; omega))
        | true =>
          cases r2 : b.all rightS with
          | true => exact absurd ⟨by omega, by omega, r1, r2⟩ c1
          | false =>
            rw [r1] at w1
            rw [r2] at w2
            repeat' (first | ((first | apply ga_dec | apply ga_ndec | apply cd_dec | apply cd_ndec | apply gd_dec | apply gd_ndec | apply ga_split | apply cd_split | apply gd_split) <;> intro hc <;> (try (simp -implicitDefEqProofs (maxSteps := 2000000) (disch := first | omega | (simp only [vz_push, vz_set, drop_size]; first | done | omega)) only [push_cast, seval, f4N0, f4N1, f4N2, f4N3, hc])) <;> (try (exfalso; omega))) | refine haw ?_ | refine VC_pure (w1) ?_ | refine VC_pure (w2) ?_ | (simp -implicitDefEqProofs (maxSteps := 2000000) (disch := first | omega | (simp only [vz_push, vz_set, drop_size]; first | done | omega)) only [push_cast, seval, f4N0, f4N1, f4N2, f4N3]))
            all_goals (try (exfalso; omega))
end
end Go.Proofs.Yticllcglldbffaa.Ab
