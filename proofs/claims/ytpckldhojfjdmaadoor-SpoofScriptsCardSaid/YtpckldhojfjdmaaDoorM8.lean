/- What looks like something else: the law SpoofScripts. -/
import Derived.Test.YtpckldhojfjdmaaDoorM7
namespace Go.Proofs.YtpckldhojfjdmaaDoor.Ab
open Go.Proofs
set_option maxRecDepth 100000
set_option maxHeartbeats 4000000
set_option linter.unusedSimpArgs false
set_option linter.unusedVariables false
set_option linter.unnecessarySimpa false
set_option linter.unusedSectionVars false
section
variable {k : Nat → List Value → Option Value} (hk : ∀ f, f ≠ 95 → Open k f)
include hk
theorem spoofScripts_ok' (haw : k 30 [] = some (.bool true)) (s : List UInt8) (ls : List (List UInt8)) (st : VS) :
    VC (XK k) 9 [tx s, LX ls] st fun r _ => r = .c (.bool true) := by
  have haw' : ∀ {vs : VS} {Q : AV → VS → Prop}, Q (.c (.bool true)) vs → VC (XK k) 30 [] vs Q := fun h => VC_known (ws := []) (v := .bool true) haw rfl rfl h
  refine f9_in (hk _ (by decide)) ?_
  by_cases hab : s.length ≤ 200 ∧ ls.length ≤ 12
  · have s1 := stripL_len s
    repeat' (first | ((first | apply ga_dec | apply ga_ndec | apply cd_dec | apply cd_ndec | apply gd_dec | apply gd_ndec | apply ga_split | apply cd_split | apply gd_split) <;> intro hc <;> (try (simp -implicitDefEqProofs (maxSteps := 2000000) (disch := first | omega | (simp only [vz_push, vz_set, drop_size]; first | done | omega)) only [push_cast, seval, f9N0, f9N1, f9N2, f9N3, f9N4, f9N5, hc])) <;> (try (exfalso; omega))) | refine haw' ?_ | (simp -implicitDefEqProofs (maxSteps := 2000000) (disch := first | omega | (simp only [vz_push, vz_set, drop_size]; first | done | omega)) only [push_cast, seval, f9N0, f9N1, f9N2, f9N3, f9N4, f9N5]))
    refine VW_iter (fun m ρ s' => ∃ j : Nat, m = 4 - j ∧ j ≤ 4 ∧ ρ.get 0 = tx s ∧ ρ.get 1 = LX ls ∧ ρ.get 6 = .c (.int .i64 ((j : Int) + 1)) ∧ (Gw st s' 3 1 (ρ.get 5) (scL (decL s) (j + 1)).length ((scL (decL s) (j + 1)).map (eI .i64)).flatten) ∧ (KeepA st s')) (4) ⟨0, rfl, Nat.zero_le _, by (((try simp -implicitDefEqProofs only [eA_tmp, eA_const, AEnv.get_set, ofA_get, List.getD_cons_zero, List.getD_cons_succ, ↓reduceIte, reduceCtorEq, Nat.reduceEqDiff]); try (first | (with_reducible assumption) | (with_reducible rfl) | (congr 2 <;> omega) | rfl))), by (((try simp -implicitDefEqProofs only [eA_tmp, eA_const, AEnv.get_set, ofA_get, List.getD_cons_zero, List.getD_cons_succ, ↓reduceIte, reduceCtorEq, Nat.reduceEqDiff]); try (first | (with_reducible assumption) | (with_reducible rfl) | (congr 2 <;> omega) | rfl))), by (((try simp -implicitDefEqProofs only [eA_tmp, eA_const, AEnv.get_set, ofA_get, List.getD_cons_zero, List.getD_cons_succ, ↓reduceIte, reduceCtorEq, Nat.reduceEqDiff]); try (first | (with_reducible assumption) | (with_reducible rfl) | (congr 2 <;> omega) | rfl))), (by (((try simp -implicitDefEqProofs only [eA_tmp, eA_const, AEnv.get_set, ofA_get, List.getD_cons_zero, List.getD_cons_succ, ↓reduceIte, reduceCtorEq, Nat.reduceEqDiff]); try (first | (with_reducible assumption) | (with_reducible rfl) | (congr 2 <;> omega) | rfl))); exact Gw.nil), by (repeat first | assumption | exact KeepA.refl _ | apply KeepA.push | refine KeepA.set ?_ (by first | omega | (simp only [vz_push, vz_set, drop_size]; omega) | (have h9 := KeepA.size_le (by assumption); (try simp only [vz_push, vz_set, drop_size] at *); omega)) _ | refine KeepA.drop ?_ (by first | omega | (simp only [vz_push, vz_set, drop_size]; omega) | (have h9 := KeepA.size_le (by assumption); (try simp only [vz_push, vz_set, drop_size] at *); omega)) | refine KeepA.trans ?_ (by assumption))⟩ ?_
    rintro m ρ s' ⟨j, rfl, hj, g0, g1, g6, j1, j2⟩
    obtain ⟨v, g5⟩ : ∃ v, ρ.get 5 = v := ⟨_, rfl⟩
    rw [g5] at j1
    by_cases hc : j < 4
    · have w : PC (XK k) 39 [tx s, .c (.int .i64 ((j : Int) + 1))] (.c (.bool (hasR (decL s) (j + 1)))) := rhas_ok hk s (j + 1) (by omega) (by omega) (by omega)
      have hst := scL_succ (decL s) (j + 1)
      have hle := scL_le (decL s) (j + 1)
      rw [decide_eq_true (by omega : 0 < j + 1), Bool.true_and] at hst
      cases hb : hasR (decL s) (j + 1)
      · rw [hb] at hst w
        repeat' (first | ((first | apply ga_dec | apply ga_ndec | apply cd_dec | apply cd_ndec | apply gd_dec | apply gd_ndec | apply ga_split | apply cd_split | apply gd_split) <;> intro hc <;> (try (simp -implicitDefEqProofs (maxSteps := 2000000) (disch := first | omega | (simp only [vz_push, vz_set, drop_size]; first | done | omega)) only [push_cast, seval, f9N0, f9N1, f9N2, f9N3, f9N4, f9N5, hc, g0, g1, g5, g6])) <;> (try (exfalso; omega))) | refine VC_pure (w) ?_ | (simp -implicitDefEqProofs (maxSteps := 2000000) (disch := first | omega | (simp only [vz_push, vz_set, drop_size]; first | done | omega)) only [push_cast, seval, f9N0, f9N1, f9N2, f9N3, f9N4, f9N5, g0, g1, g5, g6]))
        refine ⟨_ - (j + 1), by omega, j + 1, rfl, by omega, ?_⟩ <;> (try simp only [Int.natCast_add, Int.natCast_one, cast_lit, and_true, true_and, eq_self])
        rw [hst]
        exact ⟨j1.cast (by simp) (by simp), j2⟩
      · rw [hb, if_pos rfl] at hst
        rw [hb] at w
        repeat' (first | ((first | apply ga_dec | apply ga_ndec | apply cd_dec | apply cd_ndec | apply gd_dec | apply gd_ndec | apply ga_split | apply cd_split | apply gd_split) <;> intro hc <;> (try (simp -implicitDefEqProofs (maxSteps := 2000000) (disch := first | omega | (simp only [vz_push, vz_set, drop_size]; first | done | omega)) only [push_cast, seval, f9N0, f9N1, f9N2, f9N3, f9N4, f9N5, hc, g0, g1, g5, g6])) <;> (try (exfalso; omega))) | refine VC_pure (w) ?_ | (simp -implicitDefEqProofs (maxSteps := 2000000) (disch := first | omega | (simp only [vz_push, vz_set, drop_size]; first | done | omega)) only [push_cast, seval, f9N0, f9N1, f9N2, f9N3, f9N4, f9N5, g0, g1, g5, g6]))
        refine Gw.step (m := 1) (j1.push _) (j2.push _) rfl rfl rfl (room_ok (by constructor <;> (try dsimp only) <;> omega)) ?_
        intro v' s2 hg hbt hn hk'
        (try (simp -implicitDefEqProofs (maxSteps := 2000000) (disch := first | omega | (simp only [vz_push, vz_set, drop_size]; first | done | omega)) only [push_cast, seval, f9N0, f9N1, f9N2, f9N3, f9N4, f9N5, g0, g1, g6])) <;> (repeat' ((first | apply ga_dec | apply ga_ndec | apply cd_dec | apply cd_ndec | apply gd_dec | apply gd_ndec | apply ga_split | apply cd_split | apply gd_split) <;> intro hc <;> try (simp -implicitDefEqProofs (maxSteps := 2000000) (disch := first | omega | (simp only [vz_push, vz_set, drop_size]; first | done | omega)) only [push_cast, seval, f9N0, f9N1, f9N2, f9N3, f9N4, f9N5, hc, g0, g1, g6])))
        refine ⟨_ - (j + 1), by omega, j + 1, rfl, by omega, ?_⟩ <;> (try simp only [Int.natCast_add, Int.natCast_one, cast_lit, and_true, true_and, eq_self])
        rw [hst]
        exact ⟨hg.cast (by simp) (by simp [eI]), hk'⟩
    · obtain rfl : j = 4 := by omega
      repeat' (first | ((first | apply ga_dec | apply ga_ndec | apply cd_dec | apply cd_ndec | apply gd_dec | apply gd_ndec | apply ga_split | apply cd_split | apply gd_split) <;> intro hc <;> (try (simp -implicitDefEqProofs (maxSteps := 2000000) (disch := first | omega | (simp only [vz_push, vz_set, drop_size]; first | done | omega)) only [push_cast, seval, f9N0, f9N1, f9N2, f9N3, f9N4, f9N5, hc, g0, g1, g5, g6])) <;> (try (exfalso; omega))) | (simp -implicitDefEqProofs (maxSteps := 2000000) (disch := first | omega | (simp only [vz_push, vz_set, drop_size]; first | done | omega)) only [push_cast, seval, f9N0, f9N1, f9N2, f9N3, f9N4, f9N5, g0, g1, g5, g6]))
      have o1 := j1
      have o2 := j2
      clear j1 j2
      obtain ⟨S, hS⟩ : ∃ S, S = s' := ⟨_, rfl⟩
      rw [← hS] at o1 o2 ⊢
      clear hS
      have e0 : fndL (isQ s) (ls.length - 0) (ls.drop (ls.length - 0)) = -1 := by rw [Nat.sub_zero, List.drop_eq_nil_of_le (Nat.le_refl _), fndL]
      refine VW_iter (fun m ρ s' => ∃ j : Nat, m = ls.length - j ∧ j ≤ ls.length ∧ ρ.get 0 = tx s ∧ ρ.get 1 = LX ls ∧ ρ.get 5 = v ∧ ρ.get 7 = .c (.int .i64 (fndL (isQ s) (ls.length - j) (ls.drop (ls.length - j)))) ∧ ρ.get 8 = .c (.int .i64 (((ls.length - j : Nat) : Int) - 1)) ∧ (s' = S) ∧ (∀ x ∈ ls.drop (ls.length - j), x.length ≤ 200)) (ls.length) ⟨0, rfl, Nat.zero_le _, by (((try simp -implicitDefEqProofs only [eA_tmp, eA_const, AEnv.get_set, ofA_get, List.getD_cons_zero, List.getD_cons_succ, ↓reduceIte, reduceCtorEq, Nat.reduceEqDiff]); try (first | (with_reducible assumption) | (with_reducible rfl) | (congr 2 <;> omega) | rfl))), by (((try simp -implicitDefEqProofs only [eA_tmp, eA_const, AEnv.get_set, ofA_get, List.getD_cons_zero, List.getD_cons_succ, ↓reduceIte, reduceCtorEq, Nat.reduceEqDiff]); try (first | (with_reducible assumption) | (with_reducible rfl) | (congr 2 <;> omega) | rfl))), by (((try simp -implicitDefEqProofs only [eA_tmp, eA_const, AEnv.get_set, ofA_get, List.getD_cons_zero, List.getD_cons_succ, ↓reduceIte, reduceCtorEq, Nat.reduceEqDiff]); try (first | (with_reducible assumption) | (with_reducible rfl) | (congr 2 <;> omega) | rfl))), by (((try simp -implicitDefEqProofs only [eA_tmp, eA_const, AEnv.get_set, ofA_get, List.getD_cons_zero, List.getD_cons_succ, ↓reduceIte, reduceCtorEq, Nat.reduceEqDiff]); try (first | (with_reducible assumption) | (with_reducible rfl) | (congr 2 <;> omega) | rfl))), by (((try simp -implicitDefEqProofs only [eA_tmp, eA_const, AEnv.get_set, ofA_get, List.getD_cons_zero, List.getD_cons_succ, ↓reduceIte, reduceCtorEq, Nat.reduceEqDiff]); try (first | (with_reducible assumption) | (with_reducible rfl) | (congr 2 <;> omega) | rfl))), rfl, (by simp)⟩ ?_
      rintro m ρ s' ⟨j, rfl, hj, g0, g1, g5, g7, g8, j1, j2⟩
      subst j1
      by_cases hc : j < ls.length
      · obtain ⟨i, hi⟩ : ∃ i, ls.length - j = i + 1 := ⟨ls.length - j - 1, by omega⟩
        have hi2 : ls.length - (j + 1) = i := by omega
        obtain ⟨x, hx⟩ : ∃ x, ls[i]? = some x := ⟨_, List.getElem?_eq_getElem (by omega)⟩
        have hd : ls.drop i = x :: ls.drop (i + 1) := by rw [List.drop_eq_getElem_cons (by omega), (List.getElem?_eq_some_iff.1 hx).2]
        rw [hi] at g7 g8 j2
        have g8 : ρ.get 8 = .c (.int .i64 i) := by rw [g8]; congr 2; omega
        by_cases hxl : x.length ≤ 200
        · have s2 := stripL_len x
          have w1 := rstrip_ok hk x (by omega)
          have w2 := rfold_ok hk (stripL x) (by omega)
          have w3 := rstrip_ok hk s (by omega)
          have w4 := rfold_ok hk (stripL s) (by omega)
          rw [← show eyeL x = foldL (stripL x) from rfl] at w2
          rw [← show eyeL s = foldL (stripL s) from rfl] at w4
          have hf : fndL (isQ s) i (ls.drop i) = if (!(x == s) && eyeL x == eyeL s) = true then (i : Int) else fndL (isQ s) (i + 1) (ls.drop (i + 1)) := by rw [hd, fndL]; rfl
          have hal : ∀ y ∈ ls.drop i, y.length ≤ 200 := by
            rw [hd]
            intro y hy
            rcases List.mem_cons.1 hy with rfl | hy
            · exact hxl
            · exact j2 y hy
          cases h1 : x == s
          · cases h2 : eyeL x == eyeL s
            · rw [h1, h2] at hf
              repeat' (first | ((first | apply ga_dec | apply ga_ndec | apply cd_dec | apply cd_ndec | apply gd_dec | apply gd_ndec | apply ga_split | apply cd_split | apply gd_split) <;> intro hc <;> (try (simp -implicitDefEqProofs (maxSteps := 2000000) (disch := first | omega | (simp only [vz_push, vz_set, drop_size]; first | done | omega)) only [push_cast, seval, f9N0, f9N1, f9N2, f9N3, f9N4, f9N5, hc, g0, g1, g5, g7, g8, hx, h1, h2])) <;> (try (exfalso; omega))) | refine VC_pure (w1) ?_ | refine VC_pure (w2) ?_ | refine VC_pure (w3) ?_ | refine VC_pure (w4) ?_ | (simp -implicitDefEqProofs (maxSteps := 2000000) (disch := first | omega | (simp only [vz_push, vz_set, drop_size]; first | done | omega)) only [push_cast, seval, f9N0, f9N1, f9N2, f9N3, f9N4, f9N5, g0, g1, g5, g7, g8, hx, h1, h2]))
              refine ⟨_ - (j + 1), by omega, j + 1, rfl, by omega, ?_⟩
              rw [hi2, hf]
              exact ⟨rfl, rfl, hal⟩
            · rw [h1, h2] at hf
              repeat' (first | ((first | apply ga_dec | apply ga_ndec | apply cd_dec | apply cd_ndec | apply gd_dec | apply gd_ndec | apply ga_split | apply cd_split | apply gd_split) <;> intro hc <;> (try (simp -implicitDefEqProofs (maxSteps := 2000000) (disch := first | omega | (simp only [vz_push, vz_set, drop_size]; first | done | omega)) only [push_cast, seval, f9N0, f9N1, f9N2, f9N3, f9N4, f9N5, hc, g0, g1, g5, g7, g8, hx, h1, h2])) <;> (try (exfalso; omega))) | refine VC_pure (w1) ?_ | refine VC_pure (w2) ?_ | refine VC_pure (w3) ?_ | refine VC_pure (w4) ?_ | (simp -implicitDefEqProofs (maxSteps := 2000000) (disch := first | omega | (simp only [vz_push, vz_set, drop_size]; first | done | omega)) only [push_cast, seval, f9N0, f9N1, f9N2, f9N3, f9N4, f9N5, g0, g1, g5, g7, g8, hx, h1, h2]))
              refine ⟨_ - (j + 1), by omega, j + 1, rfl, by omega, ?_⟩
              rw [hi2, hf]
              exact ⟨rfl, rfl, hal⟩
          · rw [h1] at hf
            repeat' (first | ((first | apply ga_dec | apply ga_ndec | apply cd_dec | apply cd_ndec | apply gd_dec | apply gd_ndec | apply ga_split | apply cd_split | apply gd_split) <;> intro hc <;> (try (simp -implicitDefEqProofs (maxSteps := 2000000) (disch := first | omega | (simp only [vz_push, vz_set, drop_size]; first | done | omega)) only [push_cast, seval, f9N0, f9N1, f9N2, f9N3, f9N4, f9N5, hc, g0, g1, g5, g7, g8, hx, h1])) <;> (try (exfalso; omega))) | refine VC_pure (w1) ?_ | refine VC_pure (w2) ?_ | refine VC_pure (w3) ?_ | refine VC_pure (w4) ?_ | (simp -implicitDefEqProofs (maxSteps := 2000000) (disch := first | omega | (simp only [vz_push, vz_set, drop_size]; first | done | omega)) only [push_cast, seval, f9N0, f9N1, f9N2, f9N3, f9N4, f9N5, g0, g1, g5, g7, g8, hx, h1]))
            refine ⟨_ - (j + 1), by omega, j + 1, rfl, by omega, ?_⟩
            rw [hi2, hf]
            exact ⟨rfl, rfl, hal⟩
        · repeat' (first | ((first | apply ga_dec | apply ga_ndec | apply cd_dec | apply cd_ndec | apply gd_dec | apply gd_ndec | apply ga_split | apply cd_split | apply gd_split) <;> intro hc <;> (try (simp -implicitDefEqProofs (maxSteps := 2000000) (disch := first | omega | (simp only [vz_push, vz_set, drop_size]; first | done | omega)) only [push_cast, seval, f9N0, f9N1, f9N2, f9N3, f9N4, f9N5, hc, g0, g1, g5, g7, g8, hx])) <;> (try (exfalso; omega))) | refine haw' ?_ | (simp -implicitDefEqProofs (maxSteps := 2000000) (disch := first | omega | (simp only [vz_push, vz_set, drop_size]; first | done | omega)) only [push_cast, seval, f9N0, f9N1, f9N2, f9N3, f9N4, f9N5, g0, g1, g5, g7, g8, hx]))
      · obtain rfl : j = ls.length := by omega
        rw [Nat.sub_self] at g7 g8 j2
        rw [List.drop_zero] at g7 j2
        have w1 : PC (XK k) 39 [tx s, .c (.int .i64 1)] _ := rhas_ok hk s 1 (by omega) (by omega) (by omega)
        have w2 : PC (XK k) 39 [tx s, .c (.int .i64 2)] _ := rhas_ok hk s 2 (by omega) (by omega) (by omega)
        have w3 : PC (XK k) 39 [tx s, .c (.int .i64 3)] _ := rhas_ok hk s 3 (by omega) (by omega) (by omega)
        have w4 := sscripts_ok hk s (by omega)
        have w5 := smixed_ok hk s (by omega)
        have w6 := sfind_ok hk s ls (by omega) (fun x hx => by have := j2 x hx; omega) (by omega)
        have hle := scL_le (decL s) 5
        generalize fndL (isQ s) 0 ls = at0 at *
        have hm : mixR (decL s) = (hasR (decL s) 1 && hasR (decL s) 2 || hasR (decL s) 1 && hasR (decL s) 3 || hasR (decL s) 2 && hasR (decL s) 3) := rfl
        rw [hm] at w5
        generalize hasR (decL s) 1 = b1 at *
        generalize hasR (decL s) 2 = b2 at *
        generalize hasR (decL s) 3 = b3 at *
        cases b1 <;> cases b2 <;> cases b3
        all_goals
          repeat' (first | ((first | apply ga_dec | apply ga_ndec | apply cd_dec | apply cd_ndec | apply gd_dec | apply gd_ndec | apply ga_split | apply cd_split | apply gd_split) <;> intro hc <;> (try (simp -implicitDefEqProofs (maxSteps := 2000000) (disch := first | omega | (simp only [vz_push, vz_set, drop_size]; first | done | omega)) only [push_cast, seval, f9N0, f9N1, f9N2, f9N3, f9N4, f9N5, hc, g0, g1, g5, g7, g8])) <;> (try (exfalso; omega))) | refine haw' ?_ | refine VC_pure (w1) ?_ | refine VC_pure (w2) ?_ | refine VC_pure (w3) ?_ | refine VC_pure (w4) ?_ | refine VC_lent (rintsV_ok hk _ _ (by omega)) (Ses.cons (Se.firm (Firm.LI _)) (Ses.cons (o1.se (P := All) (fun _ _ => trivial) rfl (len_eI .i64 _) (by rw [List.length_map]) (FirmR.flat (all_map (firm_eI .i64)))) Ses.nil)) (Rigid.c _) ?_ | refine VC_pure (w5) ?_ | refine VC_pure (w6) ?_ | (simp -implicitDefEqProofs (maxSteps := 2000000) (disch := first | omega | (simp only [vz_push, vz_set, drop_size]; first | done | omega)) only [push_cast, seval, f9N0, f9N1, f9N2, f9N3, f9N4, f9N5, g0, g1, g5, g7, g8]))
  · repeat' (first | ((first | apply ga_dec | apply ga_ndec | apply cd_dec | apply cd_ndec | apply gd_dec | apply gd_ndec | apply ga_split | apply cd_split | apply gd_split) <;> intro hc <;> (try (simp -implicitDefEqProofs (maxSteps := 2000000) (disch := first | omega | (simp only [vz_push, vz_set, drop_size]; first | done | omega)) only [push_cast, seval, f9N0, f9N1, f9N2, f9N3, f9N4, f9N5, hc])) <;> (try (exfalso; omega))) | refine haw' ?_ | (simp -implicitDefEqProofs (maxSteps := 2000000) (disch := first | omega | (simp only [vz_push, vz_set, drop_size]; first | done | omega)) only [push_cast, seval, f9N0, f9N1, f9N2, f9N3, f9N4, f9N5]))
theorem spoofScripts_ok (haw : k 30 [] = some (.bool true)) (b : ByteArray) (bs : List ByteArray) (st : VS) :
    VC (XK k) 9 [.c (.string b), .lst 1 (bs.map fun x => [.c (.string x)])] st fun r _ => r = .c (.bool true) := by
  have := spoofScripts_ok' hk haw b.data.toList (bs.map fun x => x.data.toList) st
  simp only [LX, List.map_map, Function.comp_def, tx, bytes_mk] at this
  exact this
end
end Go.Proofs.YtpckldhojfjdmaaDoor.Ab
