/- Trails: the law UndoDoes. -/
import Derived.Test.YtndedkpcfjnecaaO11
namespace Go.Proofs.Ytndedkpcfjnecaa.Ab
open Go.Proofs
set_option maxRecDepth 100000
set_option maxHeartbeats 4000000
set_option linter.unusedSimpArgs false
set_option linter.unusedVariables false
set_option linter.unnecessarySimpa false
set_option linter.unusedSectionVars false
section
variable {k : Nat → List Value → Option Value} (hk : ∀ f, f ≠ 69 → Open k f)
include hk
omit hk in
theorem Inv.push {s0 s : VS} {b : Nat} {now : Ln} {L M : List Ln} {most : Int} {n : Nat} (h : Inv s0 s b now L M most n) (o : VO) : Inv s0 (s.push o) b now L M most n := by
  obtain ⟨W, T, h1, h2, h3, h4, h5, h6, h7⟩ := h
  exact ⟨W, T, h1.keep ((KeepA.refl s).push o), h2, h3, h4, h5, by rw [vz_push]; omega, h7⟩
omit hk in
theorem Inv.setx {s0 s : VS} {b x e ep fr : Nat} {cs : List AV} {str : Bool} {now : Ln} {L M : List Ln} {most : Int} {n : Nat} (h : Inv s0 s b now L M most n) (hx : s.get x = some (.own ⟨cs, e, ep, fr, str⟩)) (he : e ≠ 118) (hb : x ≠ b) (o : VO) : Inv s0 (s.set x o) b now L M most n := by
  obtain ⟨W, T, h1, h2, h3, h4, h5, h6, h7⟩ := h
  exact ⟨W, T, h1.setx hx he hb o, h2, h3, h4, h5, by rw [vz_set]; omega, h7⟩
theorem undoDoes_ok {s : VS} {most : Int} (h1 : 1 ≤ most) (h2 : most ≤ 1000) (cs : List (Int × Ln × Bool)) (ha : k 36 [] = some (.bool true)) : VC (XK k) 8 [.c (.int .i64 most), .lst 4 (cs.map eCl)] s (fun r _ => r = .c (.bool true)) := by
  refine f8_in (hk _ (by decide)) ?_
  have haw : ∀ {vs : VS} {Q : AV → VS → Prop}, Q (.c (.bool true)) vs → VC (XK k) 36 [] vs Q := fun h => VC_known (ws := []) (v := .bool true) ha rfl rfl h
  (try (simp -implicitDefEqProofs (maxSteps := 2000000) (disch := first | omega | (simp only [vz_push, vz_set, drop_size]; first | done | omega)) only [push_cast, seval, f8N0, f8N1, f8N2, f8N3, f8N4, f8N5, rigA])) <;> (repeat' ((first | apply ga_dec | apply ga_ndec | apply cd_dec | apply cd_ndec | apply gd_dec | apply gd_ndec | apply ga_split | apply cd_split | apply gd_split) <;> intro hc <;> try (simp -implicitDefEqProofs (maxSteps := 2000000) (disch := first | omega | (simp only [vz_push, vz_set, drop_size]; first | done | omega)) only [push_cast, seval, f8N0, f8N1, f8N2, f8N3, f8N4, f8N5, hc, rigA])))
  refine haw ?_
  (try (simp -implicitDefEqProofs (maxSteps := 2000000) (disch := first | omega | (simp only [vz_push, vz_set, drop_size]; first | done | omega)) only [push_cast, seval, f8N0, f8N1, f8N2, f8N3, f8N4, f8N5, rigA])) <;> (repeat' ((first | apply ga_dec | apply ga_ndec | apply cd_dec | apply cd_ndec | apply gd_dec | apply gd_ndec | apply ga_split | apply cd_split | apply gd_split) <;> intro hc <;> try (simp -implicitDefEqProofs (maxSteps := 2000000) (disch := first | omega | (simp only [vz_push, vz_set, drop_size]; first | done | omega)) only [push_cast, seval, f8N0, f8N1, f8N2, f8N3, f8N4, f8N5, hc, rigA])))
  refine new_ok hk h1 h2 fun s1 r1 r2 r3 => ?_
  have k1 : ¬ most < 1 := by omega
  have k2 : ¬ 1000 < most := by omega
  have z0 : s.size < s1.size := by omega
  have i1 := Inv.start hk r1 r2.1 (by omega)
  (try (simp -implicitDefEqProofs (maxSteps := 2000000) (disch := first | omega | (simp only [vz_push, vz_set, drop_size]; first | done | omega)) only [push_cast, seval, f8N0, f8N1, f8N2, f8N3, f8N4, f8N5, k1, k2, z0, rigA])) <;> (repeat' ((first | apply ga_dec | apply ga_ndec | apply cd_dec | apply cd_ndec | apply gd_dec | apply gd_ndec | apply ga_split | apply cd_split | apply gd_split) <;> intro hc <;> try (simp -implicitDefEqProofs (maxSteps := 2000000) (disch := first | omega | (simp only [vz_push, vz_set, drop_size]; first | done | omega)) only [push_cast, seval, f8N0, f8N1, f8N2, f8N3, f8N4, f8N5, hc, k1, k2, z0, rigA])))
  refine VW_iter (fun m ρ s' => ∃ i : Nat, m = cs.length - i ∧ i ≤ cs.length ∧ ρ.get 0 = .c (.int .i64 most) ∧ ρ.get 1 = .lst 4 (cs.map eCl) ∧ ρ.get 5 = .ptr ⟨s.size, 0, none⟩ ∧ ρ.get 7 = .ptr ⟨s1.size, 0, none⟩ ∧ ρ.get 8 = .c (.int .i64 i) ∧ (i ≤ 60 ∧ ∃ C now L M, Rw C now L M ∧ Inv s s' s.size now L M most i ∧ s'.get s1.size = some (.own ⟨C, 68, 0, 0, false⟩))) (cs.length) ⟨0, rfl, Nat.zero_le _, by (((try simp -implicitDefEqProofs only [eA_tmp, eA_const, AEnv.get_set, ofA_get, List.getD_cons_zero, List.getD_cons_succ, ↓reduceIte, reduceCtorEq, Nat.reduceEqDiff]); try (first | (with_reducible assumption) | (with_reducible rfl) | (congr 2 <;> omega) | rfl))), by (((try simp -implicitDefEqProofs only [eA_tmp, eA_const, AEnv.get_set, ofA_get, List.getD_cons_zero, List.getD_cons_succ, ↓reduceIte, reduceCtorEq, Nat.reduceEqDiff]); try (first | (with_reducible assumption) | (with_reducible rfl) | (congr 2 <;> omega) | rfl))), by (((try simp -implicitDefEqProofs only [eA_tmp, eA_const, AEnv.get_set, ofA_get, List.getD_cons_zero, List.getD_cons_succ, ↓reduceIte, reduceCtorEq, Nat.reduceEqDiff]); try (first | (with_reducible assumption) | (with_reducible rfl) | (congr 2 <;> omega) | rfl))), by (((try simp -implicitDefEqProofs only [eA_tmp, eA_const, AEnv.get_set, ofA_get, List.getD_cons_zero, List.getD_cons_succ, ↓reduceIte, reduceCtorEq, Nat.reduceEqDiff]); try (first | (with_reducible assumption) | (with_reducible rfl) | (congr 2 <;> omega) | rfl))), by (((try simp -implicitDefEqProofs only [eA_tmp, eA_const, AEnv.get_set, ofA_get, List.getD_cons_zero, List.getD_cons_succ, ↓reduceIte, reduceCtorEq, Nat.reduceEqDiff]); try (first | (with_reducible assumption) | (with_reducible rfl) | (congr 2 <;> omega) | rfl))), ⟨by omega, _, _, _, _, .inr ⟨rfl, rfl, rfl, rfl⟩, i1.push _, gp_eq rfl⟩⟩ ?_
  rintro m ρ s' ⟨i, rfl, hi, g0, g1, g5, g7, g8, j1⟩
  obtain ⟨j2, C, now, L, M, q1, q2, q3⟩ := j1
  have z3 := VS.lt_of_get q3
  by_cases c1 : i < cs.length
  · have e1 := List.getElem?_eq_getElem c1
    obtain ⟨x, hx⟩ : ∃ x, x = cs[i] := ⟨_, rfl⟩
    rw [← hx] at e1
    obtain ⟨w1, w2, w3, w4, rfl⟩ : ∃ w1 w2 w3 w4, C = [w1, w2, w3, w4] := by
      rcases q1 with rfl | ⟨rfl, _⟩
      · exact ⟨_, _, _, _, rfl⟩
      · exact ⟨_, _, _, _, rfl⟩
    (try (simp -implicitDefEqProofs (maxSteps := 2000000) (disch := first | omega | (simp only [vz_push, vz_set, drop_size]; first | done | omega)) only [push_cast, seval, f8N0, f8N1, f8N2, f8N3, f8N4, f8N5, e1, q3, z3, g0, g1, g5, g7, g8, eCl, rigA])) <;> (repeat' ((first | apply ga_dec | apply ga_ndec | apply cd_dec | apply cd_ndec | apply gd_dec | apply gd_ndec | apply ga_split | apply cd_split | apply gd_split) <;> intro hc <;> try (simp -implicitDefEqProofs (maxSteps := 2000000) (disch := first | omega | (simp only [vz_push, vz_set, drop_size]; first | done | omega)) only [push_cast, seval, f8N0, f8N1, f8N2, f8N3, f8N4, f8N5, hc, e1, q3, z3, g0, g1, g5, g7, g8, eCl, rigA])))
    all_goals (try (exfalso; omega))
    refine ⟨by rcases q1 with e | ⟨e, _⟩ <;> cases e <;> rfl, does_okR hk q1 q2 (by omega) x.1 x.2.1 x.2.2 (by omega) ?_⟩
    intro s2 now' L' M' q4 f2
    have f3 := f2.at q3 (by omega) (by decide)
    have z4 := VS.lt_of_get f3.1
    (try (simp -implicitDefEqProofs (maxSteps := 2000000) (disch := first | omega | (simp only [vz_push, vz_set, drop_size]; first | done | omega)) only [push_cast, seval, f8N0, f8N1, f8N2, f8N3, f8N4, f8N5, f3.1, f3.2, z3, z4, eTT, rigA, g0, g1, g5, g7, g8])) <;> (repeat' ((first | apply ga_dec | apply ga_ndec | apply cd_dec | apply cd_ndec | apply gd_dec | apply gd_ndec | apply ga_split | apply cd_split | apply gd_split) <;> intro hc <;> try (simp -implicitDefEqProofs (maxSteps := 2000000) (disch := first | omega | (simp only [vz_push, vz_set, drop_size]; first | done | omega)) only [push_cast, seval, f8N0, f8N1, f8N2, f8N3, f8N4, f8N5, hc, f3.1, f3.2, z3, z4, eTT, rigA, g0, g1, g5, g7, g8])))
    refine ⟨rfl, ?_⟩
    (try (simp -implicitDefEqProofs (maxSteps := 2000000) (disch := first | omega | (simp only [vz_push, vz_set, drop_size]; first | done | omega)) only [push_cast, seval, f8N0, f8N1, f8N2, f8N3, f8N4, f8N5, f3.1, f3.2, z3, z4, eTT, rigA, g0, g1, g5, g7, g8])) <;> (repeat' ((first | apply ga_dec | apply ga_ndec | apply cd_dec | apply cd_ndec | apply gd_dec | apply gd_ndec | apply ga_split | apply cd_split | apply gd_split) <;> intro hc <;> try (simp -implicitDefEqProofs (maxSteps := 2000000) (disch := first | omega | (simp only [vz_push, vz_set, drop_size]; first | done | omega)) only [push_cast, seval, f8N0, f8N1, f8N2, f8N3, f8N4, f8N5, hc, f3.1, f3.2, z3, z4, eTT, rigA, g0, g1, g5, g7, g8])))
    have q5 := ((q4.push (.own ⟨[.c (.slice none 0 0), .c (.int .i64 0), .c (.slice none 0 0), .c (.slice none 0 0)], 68, 0, 0, false⟩)).setx (gp_eq rfl) (by decide) (by omega) (.own ⟨[LS now'.1, .c (.int .i64 now'.2), LNs L', LNs M'], 68, 0, 0, false⟩)).setx (x := s1.size) (by (simp -implicitDefEqProofs (disch := first | omega | (simp only [vz_push, vz_set, drop_size]; first | done | omega)) only [drop_ne, gp_ne, gp_eq, gs_ne, gs_eq]); exact f3.1) (by decide) (by omega) (.own ⟨[LS now'.1, .c (.int .i64 now'.2), LNs L', LNs M'], 68, 0, 0, false⟩)
    have q6 : VS.get _ s1.size = _ := gs_eq (s := (s2.push (.own ⟨[.c (.slice none 0 0), .c (.int .i64 0), .c (.slice none 0 0), .c (.slice none 0 0)], 68, 0, 0, false⟩)).set s2.size (.own ⟨[LS now'.1, .c (.int .i64 now'.2), LNs L', LNs M'], 68, 0, 0, false⟩)) (b := s1.size) (o := .own ⟨[LS now'.1, .c (.int .i64 now'.2), LNs L', LNs M'], 68, 0, 0, false⟩) rfl (by simp only [vz_set, vz_push]; omega)
    refine inv_steps hk q5 ?_
    obtain ⟨s3, hs3⟩ : ∃ s3, s3 = ((s2.push (.own ⟨[.c (.slice none 0 0), .c (.int .i64 0), .c (.slice none 0 0), .c (.slice none 0 0)], 68, 0, 0, false⟩)).set s2.size (.own ⟨[LS now'.1, .c (.int .i64 now'.2), LNs L', LNs M'], 68, 0, 0, false⟩)).set s1.size (.own ⟨[LS now'.1, .c (.int .i64 now'.2), LNs L', LNs M'], 68, 0, 0, false⟩) := ⟨_, rfl⟩
    rw [← hs3] at q5 q6 ⊢
    have z5 := VS.lt_of_get q6
    (try (simp -implicitDefEqProofs (maxSteps := 2000000) (disch := first | omega | (simp only [vz_push, vz_set, drop_size]; first | done | omega)) only [push_cast, seval, f8N0, f8N1, f8N2, f8N3, f8N4, f8N5, q6, z5, eTT, rigA, g0, g1, g5, g7, g8])) <;> (repeat' ((first | apply ga_dec | apply ga_ndec | apply cd_dec | apply cd_ndec | apply gd_dec | apply gd_ndec | apply ga_split | apply cd_split | apply gd_split) <;> intro hc <;> try (simp -implicitDefEqProofs (maxSteps := 2000000) (disch := first | omega | (simp only [vz_push, vz_set, drop_size]; first | done | omega)) only [push_cast, seval, f8N0, f8N1, f8N2, f8N3, f8N4, f8N5, hc, q6, z5, eTT, rigA, g0, g1, g5, g7, g8])))
    refine inv_now hk q5 fun s4 q7 k4 => ?_
    have q8 := k4.get q6
    have hg := k4.gets
    have hw := k4.vers
    have z6 := VS.lt_of_get q8
    (try (simp -implicitDefEqProofs (maxSteps := 2000000) (disch := first | omega | (simp only [vz_push, vz_set, drop_size]; first | done | omega)) only [push_cast, seval, f8N0, f8N1, f8N2, f8N3, f8N4, f8N5, q8, z5, z6, hg, hw, eTT, rigA, g0, g1, g5, g7, g8])) <;> (repeat' ((first | apply ga_dec | apply ga_ndec | apply cd_dec | apply cd_ndec | apply gd_dec | apply gd_ndec | apply ga_split | apply cd_split | apply gd_split) <;> intro hc <;> try (simp -implicitDefEqProofs (maxSteps := 2000000) (disch := first | omega | (simp only [vz_push, vz_set, drop_size]; first | done | omega)) only [push_cast, seval, f8N0, f8N1, f8N2, f8N3, f8N4, f8N5, hc, q8, z5, z6, hg, hw, eTT, rigA, g0, g1, g5, g7, g8])))
    have hN : now'.1.length ≤ 60 := by obtain ⟨_, _, _, _, _, h, _⟩ := q7; exact h
    have hsm : VC (XK k) 40 [.agg (eL now'), .agg [LS now'.1, .c (.int .i64 now'.2)]] s4 = VC (XK k) 40 [.agg (eL now'), .agg (eL now')] s4 := rfl
    rw [hsm]
    refine VC_pure (lsame_ok hk now' now' (by omega)) ?_
    rw [decide_eq_true (rfl : now' = now')]
    (try (simp -implicitDefEqProofs (maxSteps := 2000000) (disch := first | omega | (simp only [vz_push, vz_set, drop_size]; first | done | omega)) only [push_cast, seval, f8N0, f8N1, f8N2, f8N3, f8N4, f8N5, q8, z5, z6, hg, hw, eTT, rigA, g0, g1, g5, g7, g8])) <;> (repeat' ((first | apply ga_dec | apply ga_ndec | apply cd_dec | apply cd_ndec | apply gd_dec | apply gd_ndec | apply ga_split | apply cd_split | apply gd_split) <;> intro hc <;> try (simp -implicitDefEqProofs (maxSteps := 2000000) (disch := first | omega | (simp only [vz_push, vz_set, drop_size]; first | done | omega)) only [push_cast, seval, f8N0, f8N1, f8N2, f8N3, f8N4, f8N5, hc, q8, z5, z6, hg, hw, eTT, rigA, g0, g1, g5, g7, g8])))
    exact ⟨_ - (i + 1), by omega, i + 1, rfl, by omega, congrArg (fun z => AV.c (.int .i64 z)) (by omega), by omega, _, now', L', M', .inl rfl, q7, rfl⟩
  · (try (simp -implicitDefEqProofs (maxSteps := 2000000) (disch := first | omega | (simp only [vz_push, vz_set, drop_size]; first | done | omega)) only [push_cast, seval, f8N0, f8N1, f8N2, f8N3, f8N4, f8N5, g0, g1, g5, g7, g8, rigA])) <;> (repeat' ((first | apply ga_dec | apply ga_ndec | apply cd_dec | apply cd_ndec | apply gd_dec | apply gd_ndec | apply ga_split | apply cd_split | apply gd_split) <;> intro hc <;> try (simp -implicitDefEqProofs (maxSteps := 2000000) (disch := first | omega | (simp only [vz_push, vz_set, drop_size]; first | done | omega)) only [push_cast, seval, f8N0, f8N1, f8N2, f8N3, f8N4, f8N5, hc, g0, g1, g5, g7, g8, rigA])))
    all_goals (try (exfalso; omega))
theorem undoDoes_all (ha : k 36 [] = some (.bool true)) (most : Int) (cs : List (Int × Ln × Bool)) (s : VS) : VC (XK k) 8 [.c (.int .i64 most), .lst 4 (cs.map eCl)] s (fun r _ => r = .c (.bool true)) := by
  by_cases h : 1 ≤ most ∧ most ≤ 1000
  · exact undoDoes_ok hk h.1 h.2 cs ha
  · exact undoDoes_bad hk (by omega) cs ha rfl
end
end Go.Proofs.Ytndedkpcfjnecaa.Ab
