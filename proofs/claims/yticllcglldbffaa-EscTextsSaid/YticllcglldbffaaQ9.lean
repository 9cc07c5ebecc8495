/- EscTexts: the text of any history, and back. -/
import Derived.Test.YticllcglldbffaaQ8
import Derived.Test.YticllcglldbffaaM2
namespace Go.Proofs.Yticllcglldbffaa.Ab
open Go.Proofs
set_option maxRecDepth 100000
set_option maxHeartbeats 4000000
set_option linter.unusedSimpArgs false
set_option linter.unusedVariables false
set_option linter.unnecessarySimpa false
set_option linter.unusedSectionVars false
theorem full_at {h : Hs} {i : Nat} {l : List (Int × Int)} (he : h[i]? = some l) (hl : l ≠ []) : (fullH h)[(fullH (h.take i)).length]? = some l ∧ (fullH (h.take i)).length < (fullH h).length := by
  have e : h = h.take i ++ (l :: h.drop (i + 1)) := by
    conv => lhs; rw [← List.take_append_drop i h]
    rw [List.drop_eq_getElem_cons (List.getElem?_eq_some_iff.1 he).1, (List.getElem?_eq_some_iff.1 he).2]
  have e2 : fullH h = fullH (h.take i) ++ (l :: fullH (h.drop (i + 1))) := by
    conv => lhs; rw [e]
    unfold fullH
    rw [List.filter_append]
    simp [hl]
  rw [e2]
  simp
section
variable {k : Nat → List Value → Option Value} (hk : ∀ f, f ≠ 32 → f ≠ 51 → Open k f)
include hk
theorem escUnhex (n : Nat) (hn : n < 16777216) : PC (XK k) 36 [tx (hexP n 6)] (.tup [.c (.int .i64 n), .c (.int .i64 0)]) := by
  have h6 := hex6_len hn
  have := unhex_ok hk (hexP n 6) (by omega)
  rw [unhex_hexP (by omega) (by omega)] at this
  exact this
theorem escTexts_ok (hix : ∀ (l : List UInt8) (c : UInt8), PC (XK k) 51 [tx l, tx [c]] (.c (.int .i64 (Lib.indexByte l c))))
    (hrep : ∀ d : Nat, d ≤ 16 → PC (XK k) 32 [tx [48], .c (.int .i64 d)] (tx (List.replicate d 48))) (ha : k 6 [] = some (.bool true)) (h : Hs) (hlen : h.length < 9223372036854775808) (st : VS) :
    VC (XK k) 3 [LH h] st (fun r _ => r = .c (.bool true)) := by
  refine f3_in (hk _ (by decide) (by decide)) ?_
  have haw : ∀ {vs : VS} {Q : AV → VS → Prop}, Q (.c (.bool true)) vs → VC (XK k) 6 [] vs Q := fun h => VC_known (ws := []) (v := .bool true) ha rfl rfl h
  have hun := escUnhex hk
  have wl := light_ok hk h hlen
  by_cases hL : Lt h
  · have el : (h.all (fun l => decide (l.length ≤ 60)) && decide (h.length ≤ 30)) = true := by
      rw [Bool.and_eq_true, List.all_eq_true]
      exact ⟨fun l hl => decide_eq_true (hL.2 l hl), decide_eq_true hL.1⟩
    rw [el] at wl
    have h1 := hL.1
    have wt := escText_ok hk hrep h hL
    have wa := rallH_ok hk h hL
    by_cases hr : (h.all fun l => l.all rightS) = true
    · rw [if_pos hr] at wt
      rw [hr] at wa
      have wx := rtextH_ok hk h hL hr
      have wr := escRead_ok hk hix hun h hL hr
      repeat' (first | ((first | apply ga_dec | apply ga_ndec | apply cd_dec | apply cd_ndec | apply gd_dec | apply gd_ndec | apply ga_split | apply cd_split | apply gd_split) <;> intro hc <;> (try (simp -implicitDefEqProofs (maxSteps := 2000000) (disch := first | omega | (simp only [vz_push, vz_set, drop_size]; first | done | omega)) only [push_cast, seval, f3N0, f3N1, f3N2, f3N3, f3N4, f3N5, f3N6, f3N7, hc])) <;> (try (exfalso; omega))) | refine VC_pure (wl) ?_ | refine VC_pure (wt) ?_ | refine VC_pure (wa) ?_ | refine VC_pure (wx) ?_ | (simp -implicitDefEqProofs (maxSteps := 2000000) (disch := first | omega | (simp only [vz_push, vz_set, drop_size]; first | done | omega)) only [push_cast, seval, f3N0, f3N1, f3N2, f3N3, f3N4, f3N5, f3N6, f3N7]))
      all_goals (try (exfalso; omega))
      refine VW_iter (fun m ρ s' => ∃ i : Nat, m = h.length - i ∧ i ≤ h.length ∧ ρ.get 0 = LH h ∧ ρ.get 3 = tx (textH h) ∧ ρ.get 4 = .c (.int .i64 0) ∧ ρ.get 5 = .c (.int .i64 i) ∧ (s' = st)) (h.length) ⟨0, rfl, Nat.zero_le _, by (((try simp -implicitDefEqProofs only [eA_tmp, eA_const, AEnv.get_set, ofA_get, List.getD_cons_zero, List.getD_cons_succ, ↓reduceIte, reduceCtorEq, Nat.reduceEqDiff]); try (first | (with_reducible assumption) | (with_reducible rfl) | (congr 2 <;> omega) | rfl))), by (((try simp -implicitDefEqProofs only [eA_tmp, eA_const, AEnv.get_set, ofA_get, List.getD_cons_zero, List.getD_cons_succ, ↓reduceIte, reduceCtorEq, Nat.reduceEqDiff]); try (first | (with_reducible assumption) | (with_reducible rfl) | (congr 2 <;> omega) | rfl))), by (((try simp -implicitDefEqProofs only [eA_tmp, eA_const, AEnv.get_set, ofA_get, List.getD_cons_zero, List.getD_cons_succ, ↓reduceIte, reduceCtorEq, Nat.reduceEqDiff]); try (first | (with_reducible assumption) | (with_reducible rfl) | (congr 2 <;> omega) | rfl))), by (((try simp -implicitDefEqProofs only [eA_tmp, eA_const, AEnv.get_set, ofA_get, List.getD_cons_zero, List.getD_cons_succ, ↓reduceIte, reduceCtorEq, Nat.reduceEqDiff]); try (first | (with_reducible assumption) | (with_reducible rfl) | (congr 2 <;> omega) | rfl))), rfl⟩ ?_
      rintro m ρ s' ⟨i, rfl, hi, g0, g3, g4, g5, j1⟩
      subst j1
      by_cases c1 : i < h.length
      · have he := List.getElem?_eq_getElem c1
        have hm := hL.2 _ (List.getElem_mem c1)
        have hl : h[i].all rightS = true := List.all_eq_true.1 hr _ (List.getElem_mem c1)
        generalize h[i] = l at he hm hl
        have w1 := escLine_ok hk hrep l (by omega)
        rw [if_pos hl] at w1
        have w2 := rline_ok hk l (rightS_all hl) (by omega)
        have w3 := escUnline_ok hk hun (l.map (·.1)) (rightS_all hl) (by rw [List.length_map]; omega) 60 (by rw [List.length_map]; omega)
        have e3 : (l.map (·.1)).map (fun v => (v, (3 : Int))) = l.map (withL 3) := by rw [List.map_map]; rfl
        rw [e3] at w3
        have w4 := rwith_ok hk l 3 (by omega)
        have w5 := rsame_ok hk (l.map (withL 3)) (l.map (withL 3)) (by rw [List.length_map]; omega)
        repeat' (first | ((first | apply ga_dec | apply ga_ndec | apply cd_dec | apply cd_ndec | apply gd_dec | apply gd_ndec | apply ga_split | apply cd_split | apply gd_split) <;> intro hc <;> (try (simp -implicitDefEqProofs (maxSteps := 2000000) (disch := first | omega | (simp only [vz_push, vz_set, drop_size]; first | done | omega)) only [push_cast, seval, f3N0, f3N1, f3N2, f3N3, f3N4, f3N5, f3N6, f3N7, hc, g0, g3, g4, g5, he, eH])) <;> (try (exfalso; omega))) | refine VC_pure (w1) ?_ | refine VC_pure (w2) ?_ | refine VC_pure (w3) ?_ | refine VC_pure (w4) ?_ | refine VC_pure (w5) ?_ | (simp -implicitDefEqProofs (maxSteps := 2000000) (disch := first | omega | (simp only [vz_push, vz_set, drop_size]; first | done | omega)) only [push_cast, seval, f3N0, f3N1, f3N2, f3N3, f3N4, f3N5, f3N6, f3N7, g0, g3, g4, g5, he, eH]))
        all_goals (try (exfalso; omega))
        refine ⟨_ - (i + 1), by omega, i + 1, rfl, by omega, ?_⟩ <;> (try simp only [Int.natCast_add, Int.natCast_one, cast_lit, and_true, true_and, eq_self])
      · repeat' (first | ((first | apply ga_dec | apply ga_ndec | apply cd_dec | apply cd_ndec | apply gd_dec | apply gd_ndec | apply ga_split | apply cd_split | apply gd_split) <;> intro hc <;> (try (simp -implicitDefEqProofs (maxSteps := 2000000) (disch := first | omega | (simp only [vz_push, vz_set, drop_size]; first | done | omega)) only [push_cast, seval, f3N0, f3N1, f3N2, f3N3, f3N4, f3N5, f3N6, f3N7, hc, g0, g3, g4, g5])) <;> (try (exfalso; omega))) | refine VC_pure (wr) ?_ | (simp -implicitDefEqProofs (maxSteps := 2000000) (disch := first | omega | (simp only [vz_push, vz_set, drop_size]; first | done | omega)) only [push_cast, seval, f3N0, f3N1, f3N2, f3N3, f3N4, f3N5, f3N6, f3N7, g0, g3, g4, g5]))
        all_goals (try (exfalso; omega))
        obtain ⟨i0, hi0⟩ : ∃ x, x = i := ⟨_, rfl⟩
        have gg0 := g0
        clear g0 g3 g4 g5 hi c1
        refine VW_iter (fun m ρ s2 => ∃ i : Nat, m = h.length - i ∧ i ≤ h.length ∧ ρ.get 0 = LH h ∧ ρ.get 8 = LH ((fullH h).map fun l => l.map fun p => (p.1, 3)) ∧ ρ.get 9 = .c (.int .i64 (fullH (h.take i)).length) ∧ ρ.get 10 = .c (.int .i64 i) ∧ s2 = s') h.length
          ⟨0, rfl, Nat.zero_le _, by (((try simp -implicitDefEqProofs only [eA_tmp, eA_const, AEnv.get_set, ofA_get, List.getD_cons_zero, List.getD_cons_succ, ↓reduceIte, reduceCtorEq, Nat.reduceEqDiff]); try (first | (with_reducible assumption) | (with_reducible rfl) | (congr 2 <;> omega) | rfl))), by (((try simp -implicitDefEqProofs only [eA_tmp, eA_const, AEnv.get_set, ofA_get, List.getD_cons_zero, List.getD_cons_succ, ↓reduceIte, reduceCtorEq, Nat.reduceEqDiff]); try (first | (with_reducible assumption) | (with_reducible rfl) | (congr 2 <;> omega) | rfl))), by (((try simp -implicitDefEqProofs only [eA_tmp, eA_const, AEnv.get_set, ofA_get, List.getD_cons_zero, List.getD_cons_succ, ↓reduceIte, reduceCtorEq, Nat.reduceEqDiff]); try (first | (with_reducible assumption) | (with_reducible rfl) | (congr 2 <;> omega) | rfl))), by (((try simp -implicitDefEqProofs only [eA_tmp, eA_const, AEnv.get_set, ofA_get, List.getD_cons_zero, List.getD_cons_succ, ↓reduceIte, reduceCtorEq, Nat.reduceEqDiff]); try (first | (with_reducible assumption) | (with_reducible rfl) | (congr 2 <;> omega) | rfl))), rfl⟩ ?_
        rintro m ρ2 s2 ⟨i, rfl, hi, g0, g8, g9, g10, rfl⟩
        by_cases c2 : i < h.length
        · have he := List.getElem?_eq_getElem c2
          have hm := hL.2 _ (List.getElem_mem c2)
          generalize h[i] = l at he hm
          have hsn : fullH (h.take (i + 1)) = fullH (h.take i) ++ (if l = [] then [] else [l]) := by rw [take_snoc he, fullH_snoc]
          by_cases e : l = []
          · subst e
            rw [if_pos rfl, List.append_nil] at hsn
            repeat' (first | ((first | apply ga_dec | apply ga_ndec | apply cd_dec | apply cd_ndec | apply gd_dec | apply gd_ndec | apply ga_split | apply cd_split | apply gd_split) <;> intro hc <;> (try (simp -implicitDefEqProofs (maxSteps := 2000000) (disch := first | omega | (simp only [vz_push, vz_set, drop_size]; first | done | omega)) only [push_cast, seval, f3N0, f3N1, f3N2, f3N3, f3N4, f3N5, f3N6, f3N7, hc, g0, g8, g9, g10, he, eH])) <;> (try (exfalso; omega))) | (simp -implicitDefEqProofs (maxSteps := 2000000) (disch := first | omega | (simp only [vz_push, vz_set, drop_size]; first | done | omega)) only [push_cast, seval, f3N0, f3N1, f3N2, f3N3, f3N4, f3N5, f3N6, f3N7, g0, g8, g9, g10, he, eH]))
            all_goals (try (exfalso; omega))
            exact ⟨_ - (i + 1), by omega, i + 1, rfl, by omega, by rw [hsn], congrArg (fun z => AV.c (.int .i64 z)) (by omega)⟩
          · rw [if_neg e] at hsn
            have hl0 : 0 < l.length := List.length_pos_iff.2 e
            obtain ⟨f1, f2⟩ := full_at he e
            have f3 : ((fullH h).map fun l => l.map fun p => (p.1, (3 : Int)))[(fullH (h.take i)).length]? = some (l.map (withL 3)) := by rw [List.getElem?_map, f1]; rfl
            have f4 : ((fullH h).map fun l => l.map fun p => (p.1, (3 : Int))).length = (fullH h).length := List.length_map _
            have f5 : (fullH h).length ≤ h.length := List.length_filter_le _ _
            have w4 := rwith_ok hk l 3 (by omega)
            have w5 := rsame_ok hk (l.map (withL 3)) (l.map (withL 3)) (by rw [List.length_map]; omega)
            have hsl : (fullH (h.take (i + 1))).length = (fullH (h.take i)).length + 1 := by rw [hsn, List.length_append]; rfl
            generalize ((fullH h).map fun l => l.map fun p => (p.1, (3 : Int))) = L at *
            generalize (fullH (h.take i)).length = q at *
            repeat' (first | ((first | apply ga_dec | apply ga_ndec | apply cd_dec | apply cd_ndec | apply gd_dec | apply gd_ndec | apply ga_split | apply cd_split | apply gd_split) <;> intro hc <;> (try (simp -implicitDefEqProofs (maxSteps := 2000000) (disch := first | omega | (simp only [vz_push, vz_set, drop_size]; first | done | omega)) only [push_cast, seval, f3N0, f3N1, f3N2, f3N3, f3N4, f3N5, f3N6, f3N7, hc, g0, g8, g9, g10, he, eH, f3, f4])) <;> (try (exfalso; omega))) | refine VC_pure (w4) ?_ | refine VC_pure (w5) ?_ | (simp -implicitDefEqProofs (maxSteps := 2000000) (disch := first | omega | (simp only [vz_push, vz_set, drop_size]; first | done | omega)) only [push_cast, seval, f3N0, f3N1, f3N2, f3N3, f3N4, f3N5, f3N6, f3N7, g0, g8, g9, g10, he, eH, f3, f4]))
            all_goals (try (exfalso; omega))
            exact ⟨_ - (i + 1), by omega, i + 1, rfl, by omega, by rw [hsl]; exact congrArg (fun z => AV.c (.int .i64 z)) (by omega), congrArg (fun z => AV.c (.int .i64 z)) (by omega)⟩
        · have hi2 : i = h.length := by omega
          subst hi2
          rw [List.take_length] at g9
          repeat' (first | ((first | apply ga_dec | apply ga_ndec | apply cd_dec | apply cd_ndec | apply gd_dec | apply gd_ndec | apply ga_split | apply cd_split | apply gd_split) <;> intro hc <;> (try (simp -implicitDefEqProofs (maxSteps := 2000000) (disch := first | omega | (simp only [vz_push, vz_set, drop_size]; first | done | omega)) only [push_cast, seval, f3N0, f3N1, f3N2, f3N3, f3N4, f3N5, f3N6, f3N7, hc, g0, g8, g9, g10])) <;> (try (exfalso; omega))) | refine haw ?_ | (simp -implicitDefEqProofs (maxSteps := 2000000) (disch := first | omega | (simp only [vz_push, vz_set, drop_size]; first | done | omega)) only [push_cast, seval, f3N0, f3N1, f3N2, f3N3, f3N4, f3N5, f3N6, f3N7, g0, g8, g9, g10]))
          all_goals (try (exfalso; omega))
    · rw [if_neg hr] at wt
      have hr0 : (h.all fun l => l.all rightS) = false := by simpa using hr
      rw [hr0] at wa
      repeat' (first | ((first | apply ga_dec | apply ga_ndec | apply cd_dec | apply cd_ndec | apply gd_dec | apply gd_ndec | apply ga_split | apply cd_split | apply gd_split) <;> intro hc <;> (try (simp -implicitDefEqProofs (maxSteps := 2000000) (disch := first | omega | (simp only [vz_push, vz_set, drop_size]; first | done | omega)) only [push_cast, seval, f3N0, f3N1, f3N2, f3N3, f3N4, f3N5, f3N6, f3N7, hc])) <;> (try (exfalso; omega))) | refine VC_pure (wl) ?_ | refine VC_pure (wt) ?_ | refine VC_pure (wa) ?_ | refine haw ?_ | (simp -implicitDefEqProofs (maxSteps := 2000000) (disch := first | omega | (simp only [vz_push, vz_set, drop_size]; first | done | omega)) only [push_cast, seval, f3N0, f3N1, f3N2, f3N3, f3N4, f3N5, f3N6, f3N7]))
      all_goals (try (exfalso; omega))
  · have el : (h.all (fun l => decide (l.length ≤ 60)) && decide (h.length ≤ 30)) = false := by
      cases hq : (h.all (fun l => decide (l.length ≤ 60)) && decide (h.length ≤ 30)) with
      | false => rfl
      | true =>
        rw [Bool.and_eq_true, List.all_eq_true] at hq
        exact absurd ⟨of_decide_eq_true hq.2, fun l hl => of_decide_eq_true (hq.1 l hl)⟩ hL
    rw [el] at wl
    repeat' (first | ((first | apply ga_dec | apply ga_ndec | apply cd_dec | apply cd_ndec | apply gd_dec | apply gd_ndec | apply ga_split | apply cd_split | apply gd_split) <;> intro hc <;> (try (simp -implicitDefEqProofs (maxSteps := 2000000) (disch := first | omega | (simp only [vz_push, vz_set, drop_size]; first | done | omega)) only [push_cast, seval, f3N0, f3N1, f3N2, f3N3, f3N4, f3N5, f3N6, f3N7, hc])) <;> (try (exfalso; omega))) | refine VC_pure (wl) ?_ | refine haw ?_ | (simp -implicitDefEqProofs (maxSteps := 2000000) (disch := first | omega | (simp only [vz_push, vz_set, drop_size]; first | done | omega)) only [push_cast, seval, f3N0, f3N1, f3N2, f3N3, f3N4, f3N5, f3N6, f3N7]))
    all_goals (try (exfalso; omega))
end
end Go.Proofs.Yticllcglldbffaa.Ab
