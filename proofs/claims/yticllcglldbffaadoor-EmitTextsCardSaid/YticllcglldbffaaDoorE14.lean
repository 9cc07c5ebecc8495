import Derived.Test.YticllcglldbffaaDoorE13
import Derived.Test.YticllcglldbffaaDoorE12
namespace Go.Proofs.YticllcglldbffaaDoor.Ab
open Go.Proofs
set_option maxRecDepth 100000
set_option maxHeartbeats 4000000
set_option linter.unusedSimpArgs false
set_option linter.unusedVariables false
set_option linter.unnecessarySimpa false
set_option linter.unusedSectionVars false
def pm (l : List Ot) : Bool := l.all (fun o => decide (o.2.2.2.length ≤ 200)) && decide (l.length ≤ 60)
section
variable {k : Nat → List Value → Option Value} (hk : ∀ f, f ≠ 105 → f ≠ 149 → ax k f)
include hk
theorem wA (l : List Ot) (hl : (l.length : Int) ≤ 9223372036854775807) : PC (XK k) 21 [LO l] (.c (.bool (pm l))) := by
  refine aI fun st => ?_
  refine asW (hk _ (by decide) (by decide)) ?_
  repeat' (first | ((first | apply ao | apply aj | apply am | apply al | apply an | apply ak | apply ai | apply ag | apply ah) <;> intro hc <;> (try (simp -implicitDefEqProofs (maxSteps := 2000000) (disch := first | omega | (simp only [ac, ae, ab]; first | done | omega)) only [push_cast, seval, qH, qj, qB, hc])) <;> (try (exfalso; omega))) | (simp -implicitDefEqProofs (maxSteps := 2000000) (disch := first | omega | (simp only [ac, ae, ab]; first | done | omega)) only [push_cast, seval, qH, qj, qB]))
  refine aM (fun m ρ s' => ∃ i : Nat, m = l.length - i ∧ i ≤ l.length ∧ ρ.get 0 = LO l ∧ ρ.get 3 = .c (.int .i64 i) ∧ ((l.take i).all (fun o => decide (o.2.2.2.length ≤ 200)) = true) ∧ (s' = st)) (l.length) ⟨0, rfl, Nat.zero_le _, by (((try simp -implicitDefEqProofs only [aw, aq, au.get_set, ar, List.getD_cons_zero, List.getD_cons_succ, ↓reduceIte, reduceCtorEq, Nat.reduceEqDiff]); try (first | (with_reducible assumption) | (with_reducible rfl) | (congr 2 <;> omega) | rfl))), by (((try simp -implicitDefEqProofs only [aw, aq, au.get_set, ar, List.getD_cons_zero, List.getD_cons_succ, ↓reduceIte, reduceCtorEq, Nat.reduceEqDiff]); try (first | (with_reducible assumption) | (with_reducible rfl) | (congr 2 <;> omega) | rfl))), rfl, rfl⟩ ?_
  rintro m ρ s' ⟨i, rfl, hi, g0, g3, j1, j2⟩
  subst j2
  by_cases c1 : i < l.length
  · have he := List.getElem?_eq_getElem c1
    have hmem := List.getElem_mem c1
    generalize l[i] = o at he hmem
    by_cases c2 : o.2.2.2.length ≤ 200
    · repeat' (first | ((first | apply ao | apply aj | apply am | apply al | apply an | apply ak | apply ai | apply ag | apply ah) <;> intro hc <;> (try (simp -implicitDefEqProofs (maxSteps := 2000000) (disch := first | omega | (simp only [ac, ae, ab]; first | done | omega)) only [push_cast, seval, qH, qj, qB, hc, g0, g3, he, eO])) <;> (try (exfalso; omega))) | (simp -implicitDefEqProofs (maxSteps := 2000000) (disch := first | omega | (simp only [ac, ae, ab]; first | done | omega)) only [push_cast, seval, qH, qj, qB, g0, g3, he, eO]))
      all_goals (try (exfalso; omega))
      refine ⟨_ - (i + 1), by omega, i + 1, rfl, by omega, congrArg (fun z => AV.c (.int .i64 z)) (by omega), ?_⟩
      rw [aV he, List.all_append, j1]
      simp [c2]
    · repeat' (first | ((first | apply ao | apply aj | apply am | apply al | apply an | apply ak | apply ai | apply ag | apply ah) <;> intro hc <;> (try (simp -implicitDefEqProofs (maxSteps := 2000000) (disch := first | omega | (simp only [ac, ae, ab]; first | done | omega)) only [push_cast, seval, qH, qj, qB, hc, g0, g3, he, eO])) <;> (try (exfalso; omega))) | (simp -implicitDefEqProofs (maxSteps := 2000000) (disch := first | omega | (simp only [ac, ae, ab]; first | done | omega)) only [push_cast, seval, qH, qj, qB, g0, g3, he, eO]))
      all_goals (try (exfalso; omega))
      refine aK (by (repeat first | assumption | exact af.refl _ | apply af.push | refine af.set ?_ (by first | omega | (simp only [ac, ae, ab]; omega) | (have h9 := af.size_le (by assumption); (try simp only [ac, ae, ab] at *); omega)) _ | refine af.drop ?_ (by first | omega | (simp only [ac, ae, ab]; omega) | (have h9 := af.size_le (by assumption); (try simp only [ac, ae, ab] at *); omega)) | refine af.trans ?_ (by assumption))) ?_
      unfold pm
      have : l.all (fun o => decide (o.2.2.2.length ≤ 200)) = false := by
        rw [List.all_eq_false]
        exact ⟨o, hmem, by simpa using c2⟩
      rw [this]; rfl
  · have hi2 : i = l.length := by omega
    subst hi2
    rw [List.take_length] at j1
    repeat' (first | ((first | apply ao | apply aj | apply am | apply al | apply an | apply ak | apply ai | apply ag | apply ah) <;> intro hc <;> (try (simp -implicitDefEqProofs (maxSteps := 2000000) (disch := first | omega | (simp only [ac, ae, ab]; first | done | omega)) only [push_cast, seval, qH, qj, qB, hc, g0, g3])) <;> (try (exfalso; omega))) | (simp -implicitDefEqProofs (maxSteps := 2000000) (disch := first | omega | (simp only [ac, ae, ab]; first | done | omega)) only [push_cast, seval, qH, qj, qB, g0, g3]))
    all_goals (try (exfalso; omega))
    refine aK (by (repeat first | assumption | exact af.refl _ | apply af.push | refine af.set ?_ (by first | omega | (simp only [ac, ae, ab]; omega) | (have h9 := af.size_le (by assumption); (try simp only [ac, ae, ab] at *); omega)) _ | refine af.drop ?_ (by first | omega | (simp only [ac, ae, ab]; omega) | (have h9 := af.size_le (by assumption); (try simp only [ac, ae, ab] at *); omega)) | refine af.trans ?_ (by assumption))) ?_
    unfold pm
    rw [j1, Bool.true_and]
    rw [Bool.eq_iff_iff]
    simp
    all_goals omega
theorem akG (hix : ∀ (l : List UInt8) (c : UInt8), PC (XK k) 149 [tx l, tx [c]] (.c (.int .i64 (Lib.indexByte l c)))) (ha : k 22 [] = some (.bool true)) {l : List Ot} (hl : l.length ≤ 60) (ht : ∀ o ∈ l, o.2.2.2.length ≤ 200) {st : VS} {ρ : au} {s5 : List UInt8} {e6 : Int} (g0 : ρ.get 0 = LO l) (g5 : ρ.get 5 = tx s5) (g6 : ρ.get 6 = .c (.int .i64 e6))
    (hc : (l.all aW = false ∧ s5 = [] ∧ e6 = 2) ∨ (l.all aW = true ∧ s5 = bd l ∧ e6 = 0)) : vwp (XK k) ob ρ st (rtA (XK k) [ResultVar.tmp 4] (fun r _ => r = .c (.bool true))) := by
  have haw : ∀ {vs : VS} {Q : AV → VS → Prop}, Q (.c (.bool true)) vs → VC (XK k) 22 [] vs Q := fun h => gX (ws := []) (v := .bool true) ha rfl rfl h
  repeat' (first | ((first | apply ao | apply aj | apply am | apply al | apply an | apply ak | apply ai | apply ag | apply ah) <;> intro hc <;> (try (simp -implicitDefEqProofs (maxSteps := 2000000) (disch := first | omega | (simp only [ac, ae, ab]; first | done | omega)) only [push_cast, seval, n5, nQ, ov, oz, nK, hc, g0, g5, g6])) <;> (try (exfalso; omega))) | (simp -implicitDefEqProofs (maxSteps := 2000000) (disch := first | omega | (simp only [ac, ae, ab]; first | done | omega)) only [push_cast, seval, n5, nQ, ov, oz, nK, g0, g5, g6]))
  refine aM (fun m ρ s' => ∃ i : Nat, m = l.length - i ∧ i ≤ l.length ∧ ρ.get 0 = LO l ∧ ρ.get 5 = tx s5 ∧ ρ.get 6 = .c (.int .i64 e6) ∧ ρ.get 7 = .c (.int .i64 i) ∧ (s' = st)) (l.length) ⟨0, rfl, Nat.zero_le _, by (((try simp -implicitDefEqProofs only [aw, aq, au.get_set, ar, List.getD_cons_zero, List.getD_cons_succ, ↓reduceIte, reduceCtorEq, Nat.reduceEqDiff]); try (first | (with_reducible assumption) | (with_reducible rfl) | (congr 2 <;> omega) | rfl))), by (((try simp -implicitDefEqProofs only [aw, aq, au.get_set, ar, List.getD_cons_zero, List.getD_cons_succ, ↓reduceIte, reduceCtorEq, Nat.reduceEqDiff]); try (first | (with_reducible assumption) | (with_reducible rfl) | (congr 2 <;> omega) | rfl))), by (((try simp -implicitDefEqProofs only [aw, aq, au.get_set, ar, List.getD_cons_zero, List.getD_cons_succ, ↓reduceIte, reduceCtorEq, Nat.reduceEqDiff]); try (first | (with_reducible assumption) | (with_reducible rfl) | (congr 2 <;> omega) | rfl))), by (((try simp -implicitDefEqProofs only [aw, aq, au.get_set, ar, List.getD_cons_zero, List.getD_cons_succ, ↓reduceIte, reduceCtorEq, Nat.reduceEqDiff]); try (first | (with_reducible assumption) | (with_reducible rfl) | (congr 2 <;> omega) | rfl))), rfl⟩ ?_
  rintro m ρ s' ⟨i, rfl, hi, g0, g5, g6, g7, j1⟩
  subst j1
  by_cases c1 : i < l.length
  · have he := List.getElem?_eq_getElem c1
    have hto := ht _ (List.getElem_mem c1)
    generalize l[i] = o at he hto
    have w1 := S5 hk o (by omega)
    have w2 := HH hk o (by omega)
    cases hmo : aW o with
    | true =>
      rw [hmo] at w1 w2
      repeat' (first | ((first | apply ao | apply aj | apply am | apply al | apply an | apply ak | apply ai | apply ag | apply ah) <;> intro hc <;> (try (simp -implicitDefEqProofs (maxSteps := 2000000) (disch := first | omega | (simp only [ac, ae, ab]; first | done | omega)) only [push_cast, seval, n5, nQ, ov, oz, nK, hc, g0, g5, g6, g7, he, eO])) <;> (try (exfalso; omega))) | refine ap (w1) ?_ | refine ap (w2) ?_ | (simp -implicitDefEqProofs (maxSteps := 2000000) (disch := first | omega | (simp only [ac, ae, ab]; first | done | omega)) only [push_cast, seval, n5, nQ, ov, oz, nK, g0, g5, g6, g7, he, eO]))
      all_goals (try (exfalso; omega))
      exact ⟨_ - (i + 1), by omega, i + 1, rfl, by omega, congrArg (fun z => AV.c (.int .i64 z)) (by omega)⟩
    | false =>
      rw [hmo] at w1 w2
      repeat' (first | ((first | apply ao | apply aj | apply am | apply al | apply an | apply ak | apply ai | apply ag | apply ah) <;> intro hc <;> (try (simp -implicitDefEqProofs (maxSteps := 2000000) (disch := first | omega | (simp only [ac, ae, ab]; first | done | omega)) only [push_cast, seval, n5, nQ, ov, oz, nK, hc, g0, g5, g6, g7, he, eO])) <;> (try (exfalso; omega))) | refine ap (w1) ?_ | refine ap (w2) ?_ | (simp -implicitDefEqProofs (maxSteps := 2000000) (disch := first | omega | (simp only [ac, ae, ab]; first | done | omega)) only [push_cast, seval, n5, nQ, ov, oz, nK, g0, g5, g6, g7, he, eO]))
      all_goals (try (exfalso; omega))
      exact ⟨_ - (i + 1), by omega, i + 1, rfl, by omega, congrArg (fun z => AV.c (.int .i64 z)) (by omega)⟩
  · have w6 := H1 hk l (by omega) (fun o ho => by have := ht o ho; omega)
    rcases hc with ⟨hall, rfl, rfl⟩ | ⟨hall, rfl, rfl⟩
    · rw [hall] at w6
      repeat' (first | ((first | apply ao | apply aj | apply am | apply al | apply an | apply ak | apply ai | apply ag | apply ah) <;> intro hc <;> (try (simp -implicitDefEqProofs (maxSteps := 2000000) (disch := first | omega | (simp only [ac, ae, ab]; first | done | omega)) only [push_cast, seval, n5, nQ, ov, oz, nK, hc, g0, g5, g6, g7, BEq.rfl])) <;> (try (exfalso; omega))) | refine ap (w6) ?_ | refine haw ?_ | (simp -implicitDefEqProofs (maxSteps := 2000000) (disch := first | omega | (simp only [ac, ae, ab]; first | done | omega)) only [push_cast, seval, n5, nQ, ov, oz, nK, g0, g5, g6, g7, BEq.rfl]))
      all_goals (try (exfalso; omega))
    · rw [hall] at w6
      have hm := List.all_eq_true.1 hall
      have htl := oY (c := 200) hall ht
      have hle : l.length * (200 + 20) ≤ 60 * 220 := Nat.mul_le_mul (by omega) (by omega)
      have w7 := gK hk hix (bd l) (by omega)
      rw [uD hm] at w7
      have w8 := wB hk l hall (by omega) (fun o ho => by have := ht o ho; omega)
      have w9 := lO hk l (by omega) (fun o ho => by have := ht o ho; omega)
      have hjl := oW l
      have w10 := ja hk (a7 l) (a7 l) (by omega)
      rw [decide_eq_true rfl] at w10
      have w11 := Uk hk l hall (by omega) (fun o ho => by have := ht o ho; omega)
      have w12 := Yp hk l (by omega) (fun o ho => by have := ht o ho; omega)
      have hsl := uq (a7 l)
      have w13 := ja hk (eR l) (eR l) (by unfold eR; omega)
      rw [decide_eq_true rfl] at w13
      repeat' (first | ((first | apply ao | apply aj | apply am | apply al | apply an | apply ak | apply ai | apply ag | apply ah) <;> intro hc <;> (try (simp -implicitDefEqProofs (maxSteps := 2000000) (disch := first | omega | (simp only [ac, ae, ab]; first | done | omega)) only [push_cast, seval, n5, nQ, ov, oz, nK, hc, g0, g5, g6, g7, dZ])) <;> (try (exfalso; omega))) | refine ap (w6) ?_ | refine ap (w7) ?_ | refine ap (w8) ?_ | refine ap (w9) ?_ | refine ap (w10) ?_ | refine ap (w11) ?_ | refine ap (w12) ?_ | refine ap (w13) ?_ | refine haw ?_ | (simp -implicitDefEqProofs (maxSteps := 2000000) (disch := first | omega | (simp only [ac, ae, ab]; first | done | omega)) only [push_cast, seval, n5, nQ, ov, oz, nK, g0, g5, g6, g7, dZ]))
      all_goals (try (exfalso; omega))
theorem ym (hix : ∀ (l : List UInt8) (c : UInt8), PC (XK k) 149 [tx l, tx [c]] (.c (.int .i64 (Lib.indexByte l c)))) (ha : k 22 [] = some (.bool true)) (l m : List Ot) (hl : (l.length : Int) ≤ 9223372036854775807) (hm : (m.length : Int) ≤ 9223372036854775807) (st : VS) : VC (XK k) 5 [LO l, LO m] st (fun r _ => r = .c (.bool true)) := by
  refine avU (hk _ (by decide) (by decide)) ?_
  have haw : ∀ {vs : VS} {Q : AV → VS → Prop}, Q (.c (.bool true)) vs → VC (XK k) 22 [] vs Q := fun h => gX (ws := []) (v := .bool true) ha rfl rfl h
  have w1 := wA hk l hl
  have w2 := wA hk m hm
  cases h1 : pm l with
  | false =>
    rw [h1] at w1
    repeat' (first | ((first | apply ao | apply aj | apply am | apply al | apply an | apply ak | apply ai | apply ag | apply ah) <;> intro hc <;> (try (simp -implicitDefEqProofs (maxSteps := 2000000) (disch := first | omega | (simp only [ac, ae, ab]; first | done | omega)) only [push_cast, seval, n5, nQ, ov, oz, nK, hc])) <;> (try (exfalso; omega))) | refine ap (w1) ?_ | refine haw ?_ | (simp -implicitDefEqProofs (maxSteps := 2000000) (disch := first | omega | (simp only [ac, ae, ab]; first | done | omega)) only [push_cast, seval, n5, nQ, ov, oz, nK]))
  | true =>
    rw [h1] at w1
    cases h2 : pm m with
    | false =>
      rw [h2] at w2
      repeat' (first | ((first | apply ao | apply aj | apply am | apply al | apply an | apply ak | apply ai | apply ag | apply ah) <;> intro hc <;> (try (simp -implicitDefEqProofs (maxSteps := 2000000) (disch := first | omega | (simp only [ac, ae, ab]; first | done | omega)) only [push_cast, seval, n5, nQ, ov, oz, nK, hc])) <;> (try (exfalso; omega))) | refine ap (w1) ?_ | refine ap (w2) ?_ | refine haw ?_ | (simp -implicitDefEqProofs (maxSteps := 2000000) (disch := first | omega | (simp only [ac, ae, ab]; first | done | omega)) only [push_cast, seval, n5, nQ, ov, oz, nK]))
    | true =>
      rw [h2] at w2
      have h1' := h1
      have h2' := h2
      simp only [pm, Bool.and_eq_true, decide_eq_true_eq, List.all_eq_true] at h1' h2'
      have w3 := Zz hk l (by omega) (fun o ho => by have := h1'.1 o ho; omega)
      have w4 := aeE hk l m (by omega)
      have w5 := ja hk l m (by omega)
      generalize decide (l = m) = dd at *
      have fin := fun ρ s5 e6 (g0 : au.get ρ 0 = LO l) (g5 : au.get ρ 5 = tx s5) (g6 : au.get ρ 6 = .c (.int .i64 e6)) hc => akG hk hix ha h1'.2 h1'.1 (st := st) (ρ := ρ) (s5 := s5) (e6 := e6) g0 g5 g6 hc
      cases hall : l.all aW with
      | false =>
        rw [hall] at w3
        cases dd
        all_goals repeat' (first | ((first | apply ao | apply aj | apply am | apply al | apply an | apply ak | apply ai | apply ag | apply ah) <;> intro hc <;> (try (simp -implicitDefEqProofs (maxSteps := 2000000) (disch := first | omega | (simp only [ac, ae, ab]; first | done | omega)) only [push_cast, seval, (@vS (XK k) vQ qS Ia rfl), (@vO (XK k) vQ _ _ _ rfl (by kernel_rfl)), (@vS (XK k) qX jV qS rfl), (@vS (XK k) wi qM qX rfl), (@vO (XK k) wi _ _ _ rfl (by kernel_rfl)), (@vC (XK k) qT wc qM (.tmp 17) rfl), (@vS (XK k) we vM qT rfl), (@vO (XK k) we _ _ _ rfl (by kernel_rfl)), (@vR (XK k) vM rfl), (@vK (XK k) wc rfl), (@vS (XK k) mz ke jV rfl), (@vO (XK k) mz _ _ _ rfl (by kernel_rfl)), (@vS (XK k) ka ob ke rfl), (@vS (XK k) mF jO ka rfl), (@vO (XK k) mF _ _ _ rfl (by kernel_rfl)), (@vC (XK k) jN mq jO (.tmp 30) rfl), (@vS (XK k) mI mR jN rfl), (@vO (XK k) mI _ _ _ rfl (by kernel_rfl)), (@vR (XK k) mR rfl), (@vK (XK k) mq rfl), (@vS (XK k) mu kq qu rfl), (@vO (XK k) mu _ _ _ rfl (by kernel_rfl)), (@vB (XK k) kI kq 0 rfl), (@vL (XK k) jS kI rfl), (@vS (XK k) jJ jQ jS rfl), (@vS (XK k) me jK jJ rfl), (@vO (XK k) me _ _ _ rfl (by kernel_rfl)), (@vC (XK k) mU mO jK (.tmp 34) rfl), (@vK (XK k) mU rfl), (@vE (XK k) mO 0 rfl), (@vS (XK k) lw mt jQ rfl), (@vB (XK k) jZ lw 1 rfl), (@vS (XK k) mN jW jZ rfl), (@vD (XK k) mN _ _ _ [(2, []), (2, []), (2, []), (2, []), (1, []), (2, []), (2, [4]), (2, [4]), (2, [4]), (2, [4]), (1, [5]), (2, [])] rfl (by kernel_rfl) (by kernel_rfl) (by kernel_rfl)), (@vC (XK k) jI mB jW (.tmp 48) rfl), (@vS (XK k) mg m5 jI rfl), (@vO (XK k) mg _ _ _ rfl (by kernel_rfl)), (@vR (XK k) m5 rfl), (@vK (XK k) mB rfl), (@vO (XK k) mt _ _ _ rfl (by kernel_rfl)), (@vS (XK k) jU kg qA rfl), (@vS (XK k) mD jR jU rfl), (@vO (XK k) mD _ _ _ rfl (by kernel_rfl)), (@vC (XK k) jX my jR (.tmp 51) rfl), (@vS (XK k) mn m8 jX rfl), (@vO (XK k) mn _ _ _ rfl (by kernel_rfl)), (@vR (XK k) m8 rfl), (@vK (XK k) my rfl), (@vS (XK k) mT kb kg rfl), (@vO (XK k) mT _ _ _ rfl (by kernel_rfl)), (@vS (XK k) mv mE kb rfl), (@vO (XK k) mv _ _ _ rfl (by kernel_rfl)), (@vR (XK k) mE rfl), hc])) <;> (try (exfalso; omega))) | refine ap (w1) ?_ | refine ap (w2) ?_ | refine ap (w3) ?_ | refine ap (w4) ?_ | refine ap (w5) ?_ | (simp -implicitDefEqProofs (maxSteps := 2000000) (disch := first | omega | (simp only [ac, ae, ab]; first | done | omega)) only [push_cast, seval, (@vS (XK k) vQ qS Ia rfl), (@vO (XK k) vQ _ _ _ rfl (by kernel_rfl)), (@vS (XK k) qX jV qS rfl), (@vS (XK k) wi qM qX rfl), (@vO (XK k) wi _ _ _ rfl (by kernel_rfl)), (@vC (XK k) qT wc qM (.tmp 17) rfl), (@vS (XK k) we vM qT rfl), (@vO (XK k) we _ _ _ rfl (by kernel_rfl)), (@vR (XK k) vM rfl), (@vK (XK k) wc rfl), (@vS (XK k) mz ke jV rfl), (@vO (XK k) mz _ _ _ rfl (by kernel_rfl)), (@vS (XK k) ka ob ke rfl), (@vS (XK k) mF jO ka rfl), (@vO (XK k) mF _ _ _ rfl (by kernel_rfl)), (@vC (XK k) jN mq jO (.tmp 30) rfl), (@vS (XK k) mI mR jN rfl), (@vO (XK k) mI _ _ _ rfl (by kernel_rfl)), (@vR (XK k) mR rfl), (@vK (XK k) mq rfl), (@vS (XK k) mu kq qu rfl), (@vO (XK k) mu _ _ _ rfl (by kernel_rfl)), (@vB (XK k) kI kq 0 rfl), (@vL (XK k) jS kI rfl), (@vS (XK k) jJ jQ jS rfl), (@vS (XK k) me jK jJ rfl), (@vO (XK k) me _ _ _ rfl (by kernel_rfl)), (@vC (XK k) mU mO jK (.tmp 34) rfl), (@vK (XK k) mU rfl), (@vE (XK k) mO 0 rfl), (@vS (XK k) lw mt jQ rfl), (@vB (XK k) jZ lw 1 rfl), (@vS (XK k) mN jW jZ rfl), (@vD (XK k) mN _ _ _ [(2, []), (2, []), (2, []), (2, []), (1, []), (2, []), (2, [4]), (2, [4]), (2, [4]), (2, [4]), (1, [5]), (2, [])] rfl (by kernel_rfl) (by kernel_rfl) (by kernel_rfl)), (@vC (XK k) jI mB jW (.tmp 48) rfl), (@vS (XK k) mg m5 jI rfl), (@vO (XK k) mg _ _ _ rfl (by kernel_rfl)), (@vR (XK k) m5 rfl), (@vK (XK k) mB rfl), (@vO (XK k) mt _ _ _ rfl (by kernel_rfl)), (@vS (XK k) jU kg qA rfl), (@vS (XK k) mD jR jU rfl), (@vO (XK k) mD _ _ _ rfl (by kernel_rfl)), (@vC (XK k) jX my jR (.tmp 51) rfl), (@vS (XK k) mn m8 jX rfl), (@vO (XK k) mn _ _ _ rfl (by kernel_rfl)), (@vR (XK k) m8 rfl), (@vK (XK k) my rfl), (@vS (XK k) mT kb kg rfl), (@vO (XK k) mT _ _ _ rfl (by kernel_rfl)), (@vS (XK k) mv mE kb rfl), (@vO (XK k) mv _ _ _ rfl (by kernel_rfl)), (@vR (XK k) mE rfl)]))
        all_goals exact fin _ [] 2 (by (((try simp -implicitDefEqProofs only [aw, aq, au.get_set, ar, List.getD_cons_zero, List.getD_cons_succ, ↓reduceIte, reduceCtorEq, Nat.reduceEqDiff]); try (first | (with_reducible assumption) | (with_reducible rfl) | (congr 2 <;> omega) | rfl)))) (by (((try simp -implicitDefEqProofs only [aw, aq, au.get_set, ar, List.getD_cons_zero, List.getD_cons_succ, ↓reduceIte, reduceCtorEq, Nat.reduceEqDiff]); try (first | (with_reducible assumption) | (with_reducible rfl) | (congr 2 <;> omega) | rfl)))) (by (((try simp -implicitDefEqProofs only [aw, aq, au.get_set, ar, List.getD_cons_zero, List.getD_cons_succ, ↓reduceIte, reduceCtorEq, Nat.reduceEqDiff]); try (first | (with_reducible assumption) | (with_reducible rfl) | (congr 2 <;> omega) | rfl)))) (.inl ⟨hall, rfl, rfl⟩)
      | true =>
        rw [hall] at w3
        cases dd
        all_goals repeat' (first | ((first | apply ao | apply aj | apply am | apply al | apply an | apply ak | apply ai | apply ag | apply ah) <;> intro hc <;> (try (simp -implicitDefEqProofs (maxSteps := 2000000) (disch := first | omega | (simp only [ac, ae, ab]; first | done | omega)) only [push_cast, seval, (@vS (XK k) vQ qS Ia rfl), (@vO (XK k) vQ _ _ _ rfl (by kernel_rfl)), (@vS (XK k) qX jV qS rfl), (@vS (XK k) wi qM qX rfl), (@vO (XK k) wi _ _ _ rfl (by kernel_rfl)), (@vC (XK k) qT wc qM (.tmp 17) rfl), (@vS (XK k) we vM qT rfl), (@vO (XK k) we _ _ _ rfl (by kernel_rfl)), (@vR (XK k) vM rfl), (@vK (XK k) wc rfl), (@vS (XK k) mz ke jV rfl), (@vO (XK k) mz _ _ _ rfl (by kernel_rfl)), (@vS (XK k) ka ob ke rfl), (@vS (XK k) mF jO ka rfl), (@vO (XK k) mF _ _ _ rfl (by kernel_rfl)), (@vC (XK k) jN mq jO (.tmp 30) rfl), (@vS (XK k) mI mR jN rfl), (@vO (XK k) mI _ _ _ rfl (by kernel_rfl)), (@vR (XK k) mR rfl), (@vK (XK k) mq rfl), (@vS (XK k) mu kq qu rfl), (@vO (XK k) mu _ _ _ rfl (by kernel_rfl)), (@vB (XK k) kI kq 0 rfl), (@vL (XK k) jS kI rfl), (@vS (XK k) jJ jQ jS rfl), (@vS (XK k) me jK jJ rfl), (@vO (XK k) me _ _ _ rfl (by kernel_rfl)), (@vC (XK k) mU mO jK (.tmp 34) rfl), (@vK (XK k) mU rfl), (@vE (XK k) mO 0 rfl), (@vS (XK k) lw mt jQ rfl), (@vB (XK k) jZ lw 1 rfl), (@vS (XK k) mN jW jZ rfl), (@vD (XK k) mN _ _ _ [(2, []), (2, []), (2, []), (2, []), (1, []), (2, []), (2, [4]), (2, [4]), (2, [4]), (2, [4]), (1, [5]), (2, [])] rfl (by kernel_rfl) (by kernel_rfl) (by kernel_rfl)), (@vC (XK k) jI mB jW (.tmp 48) rfl), (@vS (XK k) mg m5 jI rfl), (@vO (XK k) mg _ _ _ rfl (by kernel_rfl)), (@vR (XK k) m5 rfl), (@vK (XK k) mB rfl), (@vO (XK k) mt _ _ _ rfl (by kernel_rfl)), (@vS (XK k) jU kg qA rfl), (@vS (XK k) mD jR jU rfl), (@vO (XK k) mD _ _ _ rfl (by kernel_rfl)), (@vC (XK k) jX my jR (.tmp 51) rfl), (@vS (XK k) mn m8 jX rfl), (@vO (XK k) mn _ _ _ rfl (by kernel_rfl)), (@vR (XK k) m8 rfl), (@vK (XK k) my rfl), (@vS (XK k) mT kb kg rfl), (@vO (XK k) mT _ _ _ rfl (by kernel_rfl)), (@vS (XK k) mv mE kb rfl), (@vO (XK k) mv _ _ _ rfl (by kernel_rfl)), (@vR (XK k) mE rfl), hc])) <;> (try (exfalso; omega))) | refine ap (w1) ?_ | refine ap (w2) ?_ | refine ap (w3) ?_ | refine ap (w4) ?_ | refine ap (w5) ?_ | (simp -implicitDefEqProofs (maxSteps := 2000000) (disch := first | omega | (simp only [ac, ae, ab]; first | done | omega)) only [push_cast, seval, (@vS (XK k) vQ qS Ia rfl), (@vO (XK k) vQ _ _ _ rfl (by kernel_rfl)), (@vS (XK k) qX jV qS rfl), (@vS (XK k) wi qM qX rfl), (@vO (XK k) wi _ _ _ rfl (by kernel_rfl)), (@vC (XK k) qT wc qM (.tmp 17) rfl), (@vS (XK k) we vM qT rfl), (@vO (XK k) we _ _ _ rfl (by kernel_rfl)), (@vR (XK k) vM rfl), (@vK (XK k) wc rfl), (@vS (XK k) mz ke jV rfl), (@vO (XK k) mz _ _ _ rfl (by kernel_rfl)), (@vS (XK k) ka ob ke rfl), (@vS (XK k) mF jO ka rfl), (@vO (XK k) mF _ _ _ rfl (by kernel_rfl)), (@vC (XK k) jN mq jO (.tmp 30) rfl), (@vS (XK k) mI mR jN rfl), (@vO (XK k) mI _ _ _ rfl (by kernel_rfl)), (@vR (XK k) mR rfl), (@vK (XK k) mq rfl), (@vS (XK k) mu kq qu rfl), (@vO (XK k) mu _ _ _ rfl (by kernel_rfl)), (@vB (XK k) kI kq 0 rfl), (@vL (XK k) jS kI rfl), (@vS (XK k) jJ jQ jS rfl), (@vS (XK k) me jK jJ rfl), (@vO (XK k) me _ _ _ rfl (by kernel_rfl)), (@vC (XK k) mU mO jK (.tmp 34) rfl), (@vK (XK k) mU rfl), (@vE (XK k) mO 0 rfl), (@vS (XK k) lw mt jQ rfl), (@vB (XK k) jZ lw 1 rfl), (@vS (XK k) mN jW jZ rfl), (@vD (XK k) mN _ _ _ [(2, []), (2, []), (2, []), (2, []), (1, []), (2, []), (2, [4]), (2, [4]), (2, [4]), (2, [4]), (1, [5]), (2, [])] rfl (by kernel_rfl) (by kernel_rfl) (by kernel_rfl)), (@vC (XK k) jI mB jW (.tmp 48) rfl), (@vS (XK k) mg m5 jI rfl), (@vO (XK k) mg _ _ _ rfl (by kernel_rfl)), (@vR (XK k) m5 rfl), (@vK (XK k) mB rfl), (@vO (XK k) mt _ _ _ rfl (by kernel_rfl)), (@vS (XK k) jU kg qA rfl), (@vS (XK k) mD jR jU rfl), (@vO (XK k) mD _ _ _ rfl (by kernel_rfl)), (@vC (XK k) jX my jR (.tmp 51) rfl), (@vS (XK k) mn m8 jX rfl), (@vO (XK k) mn _ _ _ rfl (by kernel_rfl)), (@vR (XK k) m8 rfl), (@vK (XK k) my rfl), (@vS (XK k) mT kb kg rfl), (@vO (XK k) mT _ _ _ rfl (by kernel_rfl)), (@vS (XK k) mv mE kb rfl), (@vO (XK k) mv _ _ _ rfl (by kernel_rfl)), (@vR (XK k) mE rfl)]))
        all_goals exact fin _ (bd l) 0 (by (((try simp -implicitDefEqProofs only [aw, aq, au.get_set, ar, List.getD_cons_zero, List.getD_cons_succ, ↓reduceIte, reduceCtorEq, Nat.reduceEqDiff]); try (first | (with_reducible assumption) | (with_reducible rfl) | (congr 2 <;> omega) | rfl)))) (by (((try simp -implicitDefEqProofs only [aw, aq, au.get_set, ar, List.getD_cons_zero, List.getD_cons_succ, ↓reduceIte, reduceCtorEq, Nat.reduceEqDiff]); try (first | (with_reducible assumption) | (with_reducible rfl) | (congr 2 <;> omega) | rfl)))) (by (((try simp -implicitDefEqProofs only [aw, aq, au.get_set, ar, List.getD_cons_zero, List.getD_cons_succ, ↓reduceIte, reduceCtorEq, Nat.reduceEqDiff]); try (first | (with_reducible assumption) | (with_reducible rfl) | (congr 2 <;> omega) | rfl)))) (.inr ⟨hall, rfl, rfl⟩)
end
end Go.Proofs.YticllcglldbffaaDoor.Ab
